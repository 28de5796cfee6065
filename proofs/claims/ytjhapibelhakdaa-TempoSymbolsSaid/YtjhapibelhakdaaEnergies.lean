/- Energies. -/
import Derived.Test.YtjhapibelhakdaaFogx0
import Derived.Test.YtjhapibelhakdaaCloneF
namespace Go.Proofs.Ytjhapibelhakdaa.Pure
open Go.RowKit Go.Proofs.Ytjhapibelhakdaa.Fog Go.Proofs.YtjhapibelhakdaaW.PrintWords Go.Proofs.YtjhapibelhakdaaW.PrintLast Go.Proofs.YtjhapibelhakdaaW.PrintMore Go.Proofs.Ytjhapibelhakdaa.Kit
set_option linter.unusedVariables false
set_option linter.unusedSimpArgs false
set_option maxHeartbeats 4000000
set_option maxRecDepth 100000
@[go_sem] theorem run_store_cx {P : Program} {w : World} {ad : Addr} {m : Mode} (k : FloatKind) (a b : Nat) : (store ad (.complex k a b) m).run P w = stored P w ad (.complex k a b) m := run_store P w ad _ m rfl
@[go_sem] theorem run_store_fl {P : Program} {w : World} {ad : Addr} {m : Mode} (k : FloatKind) (a : Nat) : (store ad (.float k a) m).run P w = stored P w ad (.float k a) m := run_store P w ad _ m rfl
theorem norm_calls (a b p q r : Nat) (w : World) (ha : floatBits .mul .f64 a a = some p) (hb : floatBits .mul .f64 b b = some q) (hs : floatBits .add .f64 p q = some r) : Calls Try.prog 39 #[.complex .f64 a b] w fun e w' => e = .returned (.float .f64 r) ∧ w' = w := by
  have m1 : ∀ w, (binOp .mul 41 (.float .f64 a) (.float .f64 a)).run Try.prog w = .ok (.float .f64 p) w := fun w => run_float_arith w .mul _ _ _ _ _ ha
  have m2 : ∀ w, (binOp .mul 41 (.float .f64 b) (.float .f64 b)).run Try.prog w = .ok (.float .f64 q) w := fun w => run_float_arith w .mul _ _ _ _ _ hb
  have m3 : ∀ w, (binOp .add 41 (.float .f64 p) (.float .f64 q)).run Try.prog w = .ok (.float .f64 r) w := fun w => run_float_arith w .add _ _ _ _ _ hs
  go_enter Try.func39, Try.ntmps39
  go_wp2
  go_ret
  exact ⟨rfl, rfl⟩
theorem norm_0 (w : World) : Calls Try.prog 39 #[.complex .f64 0 0] w fun e w' => e = .returned (.float .f64 0) ∧ w' = w := norm_calls 0 0 0 0 0 w (by decide +kernel) (by decide +kernel) (by decide +kernel)
theorem cell_self {W : World} {b : Nat} {t : TypeId} {cs : Array Value} (h : W.heap[b]? = some (.cells cs t (0, 0))) (j : Nat) (v : Value) (hv : cs[j]? = some v) : W.setCell ⟨b, j, none⟩ v = W := by
  have e0 : W.setCell ⟨b, j, none⟩ v = { W with heap := (W.setCell ⟨b, j, none⟩ v).heap } := rfl
  have ec : cs.setIfInBounds j v = cs := by
    apply Array.ext_getElem?
    intro i
    rw [Array.getElem?_setIfInBounds]
    by_cases hi : j = i
    · subst hi
      have hlt : j < cs.size := (Array.getElem?_eq_some_iff.1 hv).1
      rw [if_pos rfl, if_pos hlt, hv]
    · rw [if_neg hi]
  have e : (W.setCell ⟨b, j, none⟩ v).heap = W.heap := by
    apply Array.ext_getElem?
    intro i
    by_cases hi : i = b
    · subst hi; rw [blk_set h j v, ec, h]
    · exact Below.heap_setCell _ _ _ i hi
  rw [e0, e]
def zf : Value := .float .f64 0
def z8 : Obj := .cells #[zf, zf, zf, zf, zf, zf, zf, zf] 82
theorem z8_at : ∀ j, j < 8 → (#[zf, zf, zf, zf, zf, zf, zf, zf] : Array Value)[j]? = some zf
  | 0, _ => rfl
  | 1, _ => rfl
  | 2, _ => rfl
  | 3, _ => rfl
  | 4, _ => rfl
  | 5, _ => rfl
  | 6, _ => rfl
  | 7, _ => rfl
  | n + 8, h => by omega
theorem energies_calls (A : Option Addr) (c : Nat) (w : World) (h : Kd.C KS w A 512 (List.replicate 512 s0)) (hc : 512 ≤ c) : Calls Try.prog 24 #[.slice A 512 c, .int .i64 8, .int .i64 0, .int .i64 64] w fun e w' => ∃ v, e = .returned (.tuple #[v, .int .i64 0]) ∧ Below w.heap.size w w' := by
  have q1 : (512 : Int) ≤ (c : Int) := by omega
  have HC := Aside0.mk h
  clear h
  go_enter Try.func24, Try.ntmps24
  go_wp2
  obtain ⟨X0, hX0⟩ : ∃ X0, w.alloc (.cells #[.float .f64 0, .float .f64 0, .float .f64 0, .float .f64 0, .float .f64 0, .float .f64 0, .float .f64 0, .float .f64 0] 82) = X0 := ⟨_, rfl⟩
  have HB0 := Aside0.mk (show Below w.heap.size w X0 from hX0 ▸ ((Below.refl w.heap.size w).alloc (Nat.le_refl _) _))
  have HX0 := Aside0.mk (show X0.heap[w.heap.size]? = some z8 from hX0 ▸ blk_new w _)
  have HCX := Aside0.mk (Kd.C_below HC.out HB0.out)
  rw [hX0]
  clear hX0
  obtain ⟨g, hg⟩ : ∃ g, w.heap.size = g := ⟨_, rfl⟩
  rw [hg] at HX0 ⊢
  go_loopw [44] (fun i wr => ∃ k : Nat, k ≤ 512 ∧ i = .int .i64 (k : Int) ∧ Aside0 (wr.heap[g]? = some z8) ∧ Aside0 (Kd.C KS wr A 512 (List.replicate 512 s0)) ∧ Aside0 (Below w.heap.size w wr)) (fun i _ => 512 - (intOf i).toNat)
  case atStart => exact ⟨0, Nat.zero_le _, rfl, HX0, HCX, HB0⟩
  case round =>
    obtain ⟨k, hk, rfl, HX, HCK, HB⟩ := hrel
    by_cases hlt : k < 512
    · have q2 : (k : Int) < 512 := by omega
      obtain ⟨ad, rfl, x1, x2⟩ := smp_at HCK.out k hlt
      have hz : (List.replicate 512 s0).getD k s0 = s0 := by
        rw [List.getD_eq_getElem?_getD, List.getElem?_replicate, if_pos hlt]; rfl
      rw [hz] at x1 x2
      simp only [s0] at x1 x2
      obtain ⟨J, hJ⟩ : ∃ J, k % 8 = J := ⟨_, rfl⟩
      have hJ8 : J < 8 := by omega
      have j1 : (k : Int) % 8 = (J : Int) := by omega
      have j2 : Int.tmod (k : Int) 8 = (J : Int) := by rw [← hJ]; exact tmod_nat k 8
      have j3 : (J : Int) < 8 := by omega
      have HZ := Aside0.mk ((blk_cell HX.out J).trans (z8_at J hJ8))
      clear hz hJ
      have hgl := blk_lt HX.out
      have hn1 := blk_new wr (.cells #[.complex .f64 0 0, .bool false] 43)
      have hba : Below wr.heap.size wr (wr.alloc (.cells #[.complex .f64 0 0, .bool false] 43)) := (Below.refl _ _).alloc (Nat.le_refl _) _
      have hng := blk_below HX.out hba
      have HN1 := Aside0.mk hn1
      have HNG := Aside0.mk hng
      have HCN := Aside0.mk (Kd.C_below HCK.out hba)
      have HBN := Aside0.mk (below_then HB.out HB.out.size hba)
      have s1 : ∀ w, (binOp .add 41 (.float .f64 0) (.float .f64 0)).run Try.prog w = .ok (.float .f64 0) w := fun w => run_float_arith w .add _ _ _ _ _ (by decide +kernel)
      have HJ8 := Aside0.mk hJ8
      have hgne : g ≠ wr.heap.size := by omega
      obtain ⟨b, hb⟩ : ∃ b, wr.heap.size = b := ⟨_, rfl⟩
      rw [hb] at HN1 hgne
      clear hn1 hba hng HX HCK
      go_wp2_with (first
        | ((with_reducible refine gate_ (.store 43 (.tmp 12) (.tmp 48)) rfl ?_); ((obtain ⟨X1, hX1⟩ : ∃ X1, wr.alloc (.cells #[.complex .f64 0 0, .bool false] 43) = X1 := ⟨_, rfl⟩); (rw [hX1] at HN1 HNG HCN HBN ⊢); clear hX1; (have e0 := cell_self HN1.out 0 (.complex .f64 0 0) rfl); (have e1 := cell_self HN1.out 1 (.bool false) rfl); (have e2 : ∀ n, (X1.drewN n).setCell ⟨g, J, none⟩ (.float .f64 0) = X1.drewN n := fun n => cell_self (W := X1.drewN n) HNG.out J (.float .f64 0) (z8_at J HJ8.out)); (have e2' := cell_self HNG.out J (.float .f64 0) (z8_at J HJ8.out)); (have d0 := (blk_cell HN1.out 0).trans rfl); (have d1 := (blk_cell HN1.out 1).trans rfl); (have d2 : X1.cell? ⟨g, J, none⟩ = some (.float .f64 0) := (blk_cell HNG.out J).trans (z8_at J HJ8.out)); (have f0 := blk_frozen HN1.out 0); (have f1 := blk_frozen HN1.out 1); (have f2 := blk_frozen HNG.out J)))
        | fail)
      go_quiet (first | (go_at_call 39; exact Calls.quiet_of_same (norm_0 _)))
      go_wp2
      exact ⟨⟨k + 1, hlt, by go_num, HNG, ⟨Kd.C_below HCN.out (pw_below_drewN (Below.refl _ _) nq)⟩, ⟨pw_below_drewN HBN.out nq⟩⟩, by show 512 - ((k : Int) + 1).toNat < 512 - (k : Int).toNat; omega⟩
    · have q2 : ¬ (k : Int) < 512 := by omega
      have hz8 : Kd.C KF wr (some ⟨g, 0, none⟩) 8 (List.replicate 8 0) := by
        refine ⟨rfl, by decide, fun _ => ⟨_, rfl, fun j p hj => ?_⟩⟩
        have hj8 : j < 8 := by
          have := (List.getElem?_eq_some_iff.1 hj).1
          simpa using this
        have hp : p = 0 := by
          rw [List.getElem?_replicate, if_pos hj8] at hj
          exact (Option.some.inj hj).symm
        subst hp
        refine ⟨[zf], rfl, rfl, fun i u hu => ?_⟩
        match i, hu with
        | 0, hu =>
          obtain rfl : zf = u := by simpa using hu
          have h0 := (blk_cell HX.out j).trans (z8_at j hj8)
          have e : (⟨g, 0, none⟩ : Addr).add (j * 1 + 0) = ⟨g, j, none⟩ := by simp [Addr.add]; omega
          exact e ▸ h0
      have HZ8 := Aside0.mk hz8
      clear hz8 HX HCK
      go_wp2_with (go_at_call 40; (with_reducible refine (cloneF ⟨g, 0, none⟩ 8 8 (List.replicate 8 0) _ rfl HZ8.out (by decide) (by decide)).mono ?_); rintro e w2 ⟨v, rfl, ho, hb⟩; (have HB9 := Aside0.mk (below_then HB.out HB.out.size hb)); clear ho hb)
      go_ret2
      exact ⟨_, rfl, HB9.out⟩
end Go.Proofs.Ytjhapibelhakdaa.Pure
