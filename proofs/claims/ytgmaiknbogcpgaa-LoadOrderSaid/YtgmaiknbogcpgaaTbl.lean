/- The table as the others read it. -/
import Derived.Test.YtgmaiknbogcpgaaFogx0
import Derived.Test.YtgmaiknbogcpgaaTab
namespace Go.Proofs.Ytgmaiknbogcpgaa.Pure
open Go.RowKit Go.Proofs.Ytgmaiknbogcpgaa.Fog Go.Proofs.YtgmaiknbogcpgaaW.PrintWords Go.Proofs.YtgmaiknbogcpgaaW.PrintLast Go.Proofs.YtgmaiknbogcpgaaW.PrintMore Go.Proofs.Ytgmaiknbogcpgaa.Kit
set_option linter.unusedVariables false
set_option linter.unusedSimpArgs false
/-- The table as the others read it. -/
def TblAt (W : World) (gT : Nat) (A0 : Option Addr) (n c0 : Nat) (sq : Bool) (l0 : List Int) : Prop := ∃ (gk kc gN : Nat) (f : Nat → Int), W.heap[gT]? = some (.cells #[.slice A0 n c0, .slice (some ⟨gk, 0, none⟩) (Ld.tk sq).length kc, .slice (some ⟨gN, 0, none⟩) (n + 1) (n + 1)] 68 (0, 0)) ∧ gk < W.heap.size ∧
  (∀ (t b : Nat), (Ld.tk sq)[t]? = some b → W.cell? ⟨gk, t, none⟩ = some (.int .i64 (b : Int))) ∧ NdAt W gN ((n + 1) * 2049) f ∧ (∀ i, i ≤ n → ∀ m, m ≤ 2048 → f (i * 2049 + m) = Ld.need sq (l0.drop i) m)
theorem TblAt.below {W W' : World} {gT : Nat} {A0 : Option Addr} {n c0 : Nat} {sq : Bool} {l0 : List Int} (h : TblAt W gT A0 n c0 sq l0) (hb : Below W.heap.size W W') : TblAt W' gT A0 n c0 sq l0 := by
  obtain ⟨gk, kc, gN, f, h1, h2, h3, h4, h5⟩ := h
  exact ⟨gk, kc, gN, f, blk_below h1 hb, Nat.lt_of_lt_of_le h2 hb.size, fun t b hh => (World.cell?_of_block (a := ⟨gk, t, none⟩) (hb.block gk h2)).trans (h3 t b hh), h4.below hb, h5⟩
end Go.Proofs.Ytgmaiknbogcpgaa.Pure
