/- The closure that first asks of each number of bits. -/
import Derived.Test.YtgmaiknbogcpgaaFogx0
import Derived.Test.YtgmaiknbogcpgaaTbl
namespace Go.Proofs.Ytgmaiknbogcpgaa.Pure
open Go.RowKit Go.Proofs.Ytgmaiknbogcpgaa.Fog Go.Proofs.YtgmaiknbogcpgaaW.PrintWords Go.Proofs.YtgmaiknbogcpgaaW.PrintLast Go.Proofs.YtgmaiknbogcpgaaW.PrintMore Go.Proofs.Ytgmaiknbogcpgaa.Kit
set_option linter.unusedVariables false
set_option linter.unusedSimpArgs false
/-- What the closure answers. -/
def fitB (sq : Bool) (w0 : Int) (ws : List Int) (N : Nat) (b : Nat) : Bool := decide (b ≤ N) && (decide (Ld.need sq ws (N - b) < Ld.never) && decide (Ld.need sq ws (N - b) + w0 * Ld.E b = Ld.need sq (w0 :: ws) N))
set_option maxHeartbeats 8000000 in
set_option maxRecDepth 100000 in
theorem fst1_calls (W : World) (p1 p2 p3 p4 p5 gT : Nat) (A0 : Option Addr) (n c0 : Nat) (sq : Bool) (l0 : List Int) (hl0 : l0.length = n) (hok : Ld.ok l0) (hT : TblAt W gT A0 n c0 sq l0) (i N : Nat) (hi : i < n) (hn : n ≤ 256) (hN : N ≤ 2048) (b : Nat) (hb : b ∈ Ld.tk sq)
    (k1 : W.cell? ⟨p1, 0, none⟩ = some (.int .i64 (N : Int))) (k2 : W.cell? ⟨p2, 0, none⟩ = some (.pointer (some ⟨gT, 0, none⟩))) (k3 : W.cell? ⟨p3, 0, none⟩ = some (.int .i64 (i : Int))) (k4 : W.cell? ⟨p4, 0, none⟩ = some (.int .i64 (l0.getD i 0))) (k5 : ∀ b, b < 9 → W.cell? ⟨p5, b, none⟩ = some (.int .i64 (Ld.E b))) :
    Calls Try.prog 54 #[.int .i64 (b : Int), .pointer (some ⟨p1, 0, none⟩), .pointer (some ⟨p2, 0, none⟩), .pointer (some ⟨p3, 0, none⟩), .pointer (some ⟨p4, 0, none⟩), .pointer (some ⟨p5, 0, none⟩)] W fun r w' => r = .returned (.bool (fitB sq (l0.getD i 0) (l0.drop (i + 1)) N b)) ∧ ∃ d, w' = W.drewN d := by
  obtain ⟨gk, kc, gN, f, h1, h2, h3, h4, h5⟩ := hT
  obtain ⟨e0, e1, e2⟩ := Ld.tk_E sq b hb
  have kT2 : W.cell? ⟨gT, 2, none⟩ = some (.slice (some ⟨gN, 0, none⟩) (n + 1) (n + 1)) := (blk_cell h1 2).trans rfl
  have hd : l0.drop i = l0.getD i 0 :: l0.drop (i + 1) := by
    rw [List.drop_eq_getElem_cons (by omega), List.getD_eq_getElem?_getD, List.getElem?_eq_getElem (by omega)]; rfl
  have hW : 1 ≤ l0.getD i 0 ∧ l0.getD i 0 ≤ 1048576 := by
    rw [List.getD_eq_getElem?_getD, List.getElem?_eq_getElem (by omega)]
    exact hok.2 _ (List.getElem_mem (by omega))
  have hokd : Ld.ok (l0.drop (i + 1)) := ⟨by rw [List.length_drop]; have := hok.1; omega, fun z hz => hok.2 z (List.mem_of_mem_drop hz)⟩
  unfold fitB
  by_cases hle : b ≤ N
  · have c1 := h4.cell ((i + 1) * 2049 + (N - b)) (by omega)
    rw [h5 (i + 1) (by omega) (N - b) (by omega)] at c1
    have c2 := h4.cell (i * 2049 + N) (by omega)
    rw [h5 i (by omega) N (by omega), hd] at c2
    have hGb := Ld.need_bd sq _ hokd (N - b)
    have hGl := Ld.need_lt sq _ hokd (N - b)
    have hGn := Ld.need_le sq (l0.drop (i + 1)) (N - b)
    have kE := k5 b (by omega)
    obtain ⟨G, hG⟩ : ∃ G, Ld.need sq (l0.drop (i + 1)) (N - b) = G := ⟨_, rfl⟩
    obtain ⟨H, hH⟩ : ∃ H, Ld.need sq (l0.getD i 0 :: l0.drop (i + 1)) N = H := ⟨_, rfl⟩
    obtain ⟨w0, hw0⟩ : ∃ w0, l0.getD i 0 = w0 := ⟨_, rfl⟩
    obtain ⟨V, hV⟩ : ∃ V, Ld.E b = V := ⟨_, rfl⟩
    rw [hG] at c1 hGb hGl hGn ⊢
    rw [hH] at c2 ⊢
    rw [hw0] at k4 hW ⊢
    rw [hV] at kE e0 e1 ⊢
    have d1 : decide (b ≤ N) = true := decide_eq_true hle
    have d1' : decide ((b : Int) ≤ (N : Int)) = true := decide_eq_true (by omega)
    have hM := Ld.wE w0 hW V e0 e1
    obtain ⟨M, hM2⟩ : ∃ M, w0 * V = M := ⟨_, rfl⟩
    rw [hM2] at hM
    have s1 : IntKind.i64.wrap ((N : Int) - (b : Int)) = ((N - b : Nat) : Int) := by rw [IntKind.wrap_i64]; omega
    have s2 : IntKind.i64.wrap ((i : Int) + 1) = (i : Int) + 1 := by rw [IntKind.wrap_i64]; omega
    have s3 : IntKind.i64.wrap (w0 * V) = M := by rw [hM2, IntKind.wrap_i64]; omega
    obtain ⟨q, hq⟩ : ∃ q, N - b = q := ⟨_, rfl⟩
    rw [hq] at s1 c1
    have t1 : (q : Int) < 2049 := by omega
    have t2 : (i : Int) < (n : Int) := by omega
    have t3 : (N : Int) < 2049 := by omega
    have t4 : (b : Int) < 9 := by omega
    have t5 : (i : Int) < (n : Int) + 1 := by omega
    have hmin : min b 9 = b := by omega
    rw [hM2]
    by_cases hlt : G < Ld.never
    · have hGr := hGl hlt
      have s4 : IntKind.i64.wrap (G + M) = G + M := by rw [IntKind.wrap_i64]; have := hGb.1; omega
      have d2 : decide (G < Ld.never) = true := decide_eq_true hlt
      have d2' : decide (G < 1152921504606846976) = true := d2
      obtain ⟨y, hy⟩ : ∃ y, decide (G + M = H) = y := ⟨_, rfl⟩
      have hy2 : (G + M == H) = y := by rw [← hy]; exact Bool.beq_eq_decide_eq _ _
      rw [d1, d2, hy]
      clear hGb hGl hGn hGr hM hG hH hw0 hV hM2 hq hd hW hokd h1 h2 h3 h4 h5 e0 e1 e2 hy hlt hle hok k5 hb
      go_enter Try.func54, Try.ntmps54
      go_wp2
      go_quiet (fail)
      go_wp2
      go_ret
      exact ⟨rfl, _, rfl⟩
    · have d2 : decide (G < Ld.never) = false := decide_eq_false hlt
      have d2' : decide (G < 1152921504606846976) = false := d2
      rw [d1, d2]
      clear hGb hGl hGn hM hG hH hw0 hV hM2 hq hd hW hokd h1 h2 h3 h4 h5 e0 e1 e2 hlt hle hok k5 hb
      go_enter Try.func54, Try.ntmps54
      go_wp2
      go_quiet (fail)
      go_wp2
      go_ret
      exact ⟨rfl, _, rfl⟩
  · have d1 : decide (b ≤ N) = false := decide_eq_false hle
    have d1' : decide ((b : Int) ≤ (N : Int)) = false := decide_eq_false (by omega)
    rw [d1]
    clear hd hW hokd h1 h2 h3 h4 h5 e0 e1 e2 hle hok k5 hb
    go_enter Try.func54, Try.ntmps54
    go_wp2
    go_quiet (fail)
    go_wp2
    go_ret
    exact ⟨rfl, _, rfl⟩
end Go.Proofs.Ytgmaiknbogcpgaa.Pure
