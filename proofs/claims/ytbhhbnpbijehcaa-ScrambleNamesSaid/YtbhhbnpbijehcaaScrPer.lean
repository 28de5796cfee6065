/- Registers in memory: Period, For. -/
import Derived.Test.YtbhhbnpbijehcaaFogx0
import Derived.Test.YtbhhbnpbijehcaaScrRow
namespace Go.Proofs.Ytbhhbnpbijehcaa.Pure
open Go.RowKit Go.Proofs.Ytbhhbnpbijehcaa.Fog Go.Proofs.YtbhhbnpbijehcaaW.PrintWords Go.Proofs.YtbhhbnpbijehcaaW.PrintLast Go.Proofs.YtbhhbnpbijehcaaW.PrintMore
set_option linter.unusedVariables false
set_option linter.unusedSimpArgs false
/-- What Period answers. -/
def perV (W t s n : Nat) : Int × Int := match Go.Scr.firstBack W t s n with
  | some k => ((k : Int), 0)
  | none => (0, 6)
theorem perV_found {W t s k : Nat} (h0 : Go.Scr.firstBack W t s k = none) (h1 : Go.Scr.iter (Go.Scr.step W t) (k + 1) s = s) : ∀ n, k < n → perV W t s n = (((k + 1 : Nat) : Int), 0) := by
  have h2 : Go.Scr.firstBack W t s (k + 1) = some (k + 1) := by
    unfold Go.Scr.firstBack
    rw [h0]
    simp only
    rw [if_pos h1]
  have h3 : ∀ d, Go.Scr.firstBack W t s (k + 1 + d) = some (k + 1) := by
    intro d
    induction d with
    | zero => exact h2
    | succ d ih =>
      rw [← Nat.add_assoc]
      unfold Go.Scr.firstBack
      rw [ih]
  intro n hn
  have := h3 (n - (k + 1))
  rw [show k + 1 + (n - (k + 1)) = n by omega] at this
  unfold perV
  rw [this]
set_option maxHeartbeats 4000000 in
set_option maxRecDepth 100000 in
theorem period_calls (b W t s n : Nat) (w : World) (h : Reg w b W t s) (hW : 2 ≤ W ∧ W ≤ 32) (hs : s < 2 ^ W) (ht : t < 4294967296) (h1 : 1 ≤ n) (hn : n ≤ 1048576) :
    Calls Try.prog 20 #[.pointer (some ⟨b, 0, none⟩), .int .i64 (n : Int)] w fun e w' => e = .returned (.tuple #[.int .i64 (perV W t s n).1, .int .i64 (perV W t s n).2]) ∧ Below w.heap.size w w' := by
  have HREG := Aside0.mk h
  have HW := Aside0.mk hW
  have HSS := Aside0.mk hs
  have HT := Aside0.mk ht
  have hn1 : ¬ (n : Int) < 1 := by omega
  have hn' : (n : Int) ≤ 1048576 := by omega
  obtain ⟨P1, P2, hP⟩ : ∃ P1 P2, perV W t s n = (P1, P2) := ⟨_, _, rfl⟩
  rw [hP]
  have HP := Aside0.mk hP
  have HLB := Aside0.mk h.lt
  clear h hW hs ht hP
  go_enter Try.func20, Try.ntmps20
  go_wp2_with (go_at_call 19; (with_reducible refine (copy_calls b W t s _ HREG.out).mono ?_); rintro e w1 ⟨g, rfl, hgb, hgl, hg, hb⟩; have HB1 := Aside0.mk hb; have HG1 := Aside0.mk hg; have HGB := Aside0.mk hgb; have HR1 := Aside0.mk (HREG.out.at_below hb); clear hb hg hgb hgl)
  go_loopw [19] (fun i wr => ∃ k : Nat, k ≤ n ∧ i = .int .i64 (k : Int) ∧ Aside0 (Go.Scr.firstBack W t s k = none) ∧ Aside0 (Reg wr g W t (Go.Scr.iter (Go.Scr.step W t) k s)) ∧ Aside0 (Below w.heap.size w wr)) (fun i _ => n - (intOf i).toNat)
  case atStart => exact ⟨0, Nat.zero_le _, rfl, ⟨rfl⟩, HG1, HB1⟩
  case round =>
    obtain ⟨k, hk, rfl, HF, HRK, HBK⟩ := hrel
    by_cases hlt : k < n
    · have q1 : (k : Int) < (n : Int) := by omega
      have HLT := Aside0.mk (step_lt32 HW.out HSS.out (t := t) k)
      obtain ⟨S, hS⟩ : ∃ S, Go.Scr.iter (Go.Scr.step W t) k s = S := ⟨_, rfl⟩
      rw [hS] at HRK HLT
      have HSU := Aside0.mk (show Go.Scr.iter (Go.Scr.step W t) (k + 1) s = Go.Scr.step W t S by rw [Go.Scr.iter_succ, hS])
      clear hS
      obtain ⟨S', hS'⟩ : ∃ S', Go.Scr.step W t S = S' := ⟨_, rfl⟩
      rw [hS'] at HSU
      have HSS' := Aside0.mk hS'
      clear hS'
      by_cases he : S' = s
      · have HE := Aside0.mk he
        have hk2 : IntKind.i64.wrap ((k : Int) + 1) = ((k + 1 : Nat) : Int) := by rw [IntKind.wrap_i64]; omega
        clear he
        go_wp2_with (go_at_call 13; (with_reducible refine (next_low g W t S _ HRK.out HW.out HLT.out HT.out).mono ?_); rintro e w3 ⟨rfl, hr3, hm3⟩; rw [HSS'.out, HE.out] at hr3; have HB3 := Aside0.mk (HBK.out.trans (hm3.below HGB.out HBK.out.size)); have a2 := hr3.c2; have b2 := (HREG.out.at_below HB3.out).c2; clear hr3 hm3)
        go_quiet (fail)
        go_wp2
        have hp := perV_found HF.out (by rw [HSU.out, HE.out]) n (by omega)
        rw [HP.out] at hp
        simp only [Prod.mk.injEq] at hp
        obtain ⟨rfl, rfl⟩ := hp
        go_ret2
        exact ⟨rfl, pw_below_drewN HB3.out _⟩
      · have hne : ((S' : Int) == (s : Int)) = false := by simp; omega
        have hne2 : ¬ (S' : Int) = (s : Int) := by omega
        have HNE := Aside0.mk he
        go_wp2_with (go_at_call 13; (with_reducible refine (next_low g W t S _ HRK.out HW.out HLT.out HT.out).mono ?_); rintro e w3 ⟨rfl, hr3, hm3⟩; rw [HSS'.out] at hr3; have HB3 := Aside0.mk (HBK.out.trans (hm3.below HGB.out HBK.out.size)); have a2 := hr3.c2; have b2 := (HREG.out.at_below HB3.out).c2; have HR3 := Aside0.mk hr3; clear hr3 hm3)
        go_quiet (fail)
        go_wp2
        go_roundw
        case rel =>
          refine ⟨k + 1, by omega, by go_num, ⟨?_⟩, ⟨?_⟩, ⟨pw_below_drewN HB3.out _⟩⟩
          · unfold Go.Scr.firstBack
            rw [HF.out]
            simp only
            rw [if_neg (by rw [HSU.out]; exact HNE.out)]
          · rw [HSU.out]
            exact HR3.out
        case measure => simp [intOf]; omega
    · obtain rfl : k = n := by omega
      have hp := HP.out
      unfold perV at hp
      rw [HF.out] at hp
      simp only [Prod.mk.injEq] at hp
      obtain ⟨rfl, rfl⟩ := hp
      go_wp2
      go_ret2
      exact ⟨rfl, HBK.out⟩
theorem period_bad (b W t s : Nat) (n : Int) (w : World) (hn : n < 1 ∨ 1048576 < n) :
    Calls Try.prog 20 #[.pointer (some ⟨b, 0, none⟩), .int .i64 n] w fun e w' => e = .returned (.tuple #[.int .i64 0, .int .i64 1]) ∧ w' = w := by
  rcases hn with hn | hn
  · go_enter Try.func20, Try.ntmps20
    go_wp2
    go_ret2
    exact ⟨rfl, rfl⟩
  · have hn0 : ¬ n < 1 := by omega
    go_enter Try.func20, Try.ntmps20
    go_wp2
    go_ret2
    exact ⟨rfl, rfl⟩
theorem for_calls (n : Nat) (w : World) (hn : n < 9223372036854775808) :
    Calls Try.prog 23 #[.int .i64 (n : Int)] w fun e w' => ∃ b, e = .returned (.tuple #[.pointer (some ⟨b, 0, none⟩), .int .i64 0]) ∧ w.heap.size ≤ b ∧ b < w'.heap.size ∧ Reg w' b 15 3 (1 + n % 32767) ∧ Below w.heap.size w w' := by
  obtain ⟨s, hs⟩ : ∃ s, 1 + n % 32767 = s := ⟨_, rfl⟩
  have h1 : 1 + (n : Int) % 32767 = (s : Int) := by omega
  have h3 : IntKind.u32.wrap (s : Int) = (s : Int) := by simp [IntKind.wrap, IntKind.signed, IntKind.bits]; omega
  have h4 : ¬ (n : Int) < 0 := by omega
  have HT0 : TakesN 15 3 s := ⟨by decide, by decide, by decide, by decide, by omega, by show s < 2 ^ 15; omega⟩
  have HT := Aside0.mk (show ∀ w, Calls Try.prog 17 #[.int .i64 15, .int .u32 3, .int .u32 (s : Int)] w fun e w' => ∃ b, e = .returned (.tuple #[.pointer (some ⟨b, 0, none⟩), .int .i64 0]) ∧ w.heap.size ≤ b ∧ b < w'.heap.size ∧ Reg w' b 15 3 s ∧ Below w.heap.size w w' from fun w => new_calls 15 3 s w HT0)
  clear HT0
  rw [hs]
  clear hs
  go_enter Try.func23, Try.ntmps23
  go_wp2_with (go_at_call 17; (with_reducible refine (HT.out _).mono ?_); rintro e w1 ⟨g, rfl, hgb, hgl, hg, hb⟩)
  go_ret2
  exact ⟨_, rfl, hgb, hgl, hg, hb⟩
theorem for_bad (n : Int) (w : World) (hn : n < 0) :
    Calls Try.prog 23 #[.int .i64 n] w fun e w' => e = .returned (.tuple #[.pointer none, .int .i64 1]) ∧ w' = w := by
  go_enter Try.func23, Try.ntmps23
  go_wp2
  go_ret2
  exact ⟨rfl, rfl⟩
end Go.Proofs.Ytbhhbnpbijehcaa.Pure
