/- Limits: Slide, Slip, Pick, At, Long, Energies, Phase beyond them; Slip of nothing. -/
import Derived.Test.YtjhapibelhakdaaFogx0
import Derived.Test.YtjhapibelhakdaaFogx1
import Derived.Test.YtjhapibelhakdaaPick
namespace Go.Proofs.Ytjhapibelhakdaa.Pure
open Go.RowKit Go.Proofs.Ytjhapibelhakdaa.Fog Go.Proofs.YtjhapibelhakdaaW.PrintWords Go.Proofs.YtjhapibelhakdaaW.PrintLast Go.Proofs.YtjhapibelhakdaaW.PrintMore Go.Proofs.Ytjhapibelhakdaa.Kit
set_option linter.unusedVariables false
set_option linter.unusedSimpArgs false
set_option maxHeartbeats 1000000
set_option maxRecDepth 100000
theorem slide_bad1 (A : Option Addr) (c : Nat) (w : World) : Calls Try.prog 19 #[.slice A 65536 c, .int .i64 0, .int .i64 1] w fun e w' => e = .returned (.tuple #[.slice none 0 0, .int .i64 1]) ∧ Below w.heap.size w w' := by
  have w1 : IntKind.i64.wrap (-1) = -1 := by decide
  go_enter Try.func19, Try.ntmps19
  go_wp2
  go_ret2
  exact ⟨rfl, Below.refl _ _⟩
theorem slide_bad2 (w : World) : Calls Try.prog 19 #[.slice none 0 0, .int .i64 0, .int .i64 (-1)] w fun e w' => e = .returned (.tuple #[.slice none 0 0, .int .i64 1]) ∧ Below w.heap.size w w' := by
  go_enter Try.func19, Try.ntmps19
  go_wp2
  go_ret2
  exact ⟨rfl, Below.refl _ _⟩
theorem slide_bad3 (w : World) : Calls Try.prog 19 #[.slice none 0 0, .int .i64 1, .int .i64 0] w fun e w' => e = .returned (.tuple #[.slice none 0 0, .int .i64 1]) ∧ Below w.heap.size w w' := by
  go_enter Try.func19, Try.ntmps19
  go_wp2
  go_ret2
  exact ⟨rfl, Below.refl _ _⟩
theorem slip_bad1 (A : Option Addr) (c : Nat) (w : World) : Calls Try.prog 20 #[.slice A 4097 c, .slice none 0 0, .int .i64 0] w fun e w' => e = .returned (.tuple #[.int .i64 0, .int .i64 0, .int .i64 1]) ∧ Below w.heap.size w w' := by
  have hb := (((((Below.refl w.heap.size w).alloc (Nat.le_refl _) (.cells #[.slice A 4097 c] 35)).alloc (by simp) (.cells #[.slice none 0 0] 35)).alloc (by simp; omega) (.cells #[.int .i64 0] 3)).alloc (by simp; omega) (.cells #[.int .i64 0] 3))
  have n1 := blk_new ((w.alloc (.cells #[.slice A 4097 c] 35)).alloc (.cells #[.slice none 0 0] 35)) (.cells #[.int .i64 0] 3)
  have n2 := blk_new (((w.alloc (.cells #[.slice A 4097 c] 35)).alloc (.cells #[.slice none 0 0] 35)).alloc (.cells #[.int .i64 0] 3)) (.cells #[.int .i64 0] 3)
  have n1' := blk_below n1 ((Below.refl _ _).alloc (Nat.le_refl _) (.cells #[.int .i64 0] 3))
  simp only [World.size_alloc] at n1' n2
  have HB := Aside0.mk hb
  have S1 := Aside0.mk ((blk_cell n1' 0).trans rfl)
  have M1 := Aside0.mk ((blk_cell n2 0).trans rfl)
  clear hb n1 n2 n1'
  go_enter Try.func20, Try.ntmps20
  go_wp2
  refine bodyPost_ret (results_iit rfl Try.underlying3 _ _ (w.heap.size + 1 + 1) (w.heap.size + 1 + 1 + 1) 0 0 rfl rfl S1.out M1.out) rfl ?_
  exact ⟨rfl, HB.out⟩
theorem slip_bad2 (w : World) : Calls Try.prog 20 #[.slice none 0 0, .slice none 0 0, .int .i64 1025] w fun e w' => e = .returned (.tuple #[.int .i64 0, .int .i64 0, .int .i64 1]) ∧ Below w.heap.size w w' := by
  have hb := (((((Below.refl w.heap.size w).alloc (Nat.le_refl _) (.cells #[.slice none 0 0] 35)).alloc (by simp) (.cells #[.slice none 0 0] 35)).alloc (by simp; omega) (.cells #[.int .i64 0] 3)).alloc (by simp; omega) (.cells #[.int .i64 0] 3))
  have n1 := blk_new ((w.alloc (.cells #[.slice none 0 0] 35)).alloc (.cells #[.slice none 0 0] 35)) (.cells #[.int .i64 0] 3)
  have n2 := blk_new (((w.alloc (.cells #[.slice none 0 0] 35)).alloc (.cells #[.slice none 0 0] 35)).alloc (.cells #[.int .i64 0] 3)) (.cells #[.int .i64 0] 3)
  have n1' := blk_below n1 ((Below.refl _ _).alloc (Nat.le_refl _) (.cells #[.int .i64 0] 3))
  simp only [World.size_alloc] at n1' n2
  have HB := Aside0.mk hb
  have S1 := Aside0.mk ((blk_cell n1' 0).trans rfl)
  have M1 := Aside0.mk ((blk_cell n2 0).trans rfl)
  clear hb n1 n2 n1'
  go_enter Try.func20, Try.ntmps20
  go_wp2
  refine bodyPost_ret (results_iit rfl Try.underlying3 _ _ (w.heap.size + 1 + 1) (w.heap.size + 1 + 1 + 1) 0 0 rfl rfl S1.out M1.out) rfl ?_
  exact ⟨rfl, HB.out⟩
theorem tryV_nil (s : Int) : tryV [] [] s (0, 0) = (0, 0) := rfl
theorem slipTo_nil : ∀ n, slipTo [] [] n = (0, 0)
  | 0 => rfl
  | n + 1 => by rw [slipTo, slipTo_nil n, tryV_nil, tryV_nil]
theorem C_nilS (w : World) : Kd.C KS w none 0 [] := by
  have h : Kd.R KS 43 w w.heap.size (fun _ => True) (.slice none 0 0) [] := Kd.R_nil _ _ _ _ _
  exact (Kd.R_reads' h).2.2
theorem slip_nil (w : World) : Calls Try.prog 20 #[.slice none 0 0, .slice none 0 0, .int .i64 1024] w fun e w' => e = .returned (.tuple #[.int .i64 0, .int .i64 0, .int .i64 0]) ∧ Below w.heap.size w w' := by
  have g := slip_calls [] [] none none 0 0 0 0 1024 w rfl rfl (C_nilS w) (C_nilS w) (by decide) (by decide) (by decide)
  rw [slipTo_nil] at g
  exact g
theorem slide_nil (w : World) : Calls Try.prog 19 #[.slice none 0 0, .int .i64 0, .int .i64 1024] w fun e w' => ∃ A c, e = .returned (.tuple #[.slice A 1024 c, .int .i64 0]) ∧ Below w.heap.size w w' := by
  refine (slide_in none 0 0 0 1024 [] w rfl (C_nilS w) (by decide) (by decide) (by decide) (by decide)).mono ?_
  rintro e w' ⟨v, rfl, hR, hb⟩
  obtain ⟨A, c, rfl⟩ := Kd.R_slice hR
  have e : (List.take 0 ([] : List Smp) ++ List.replicate 1024 lostS ++ List.drop 0 []).length = 1024 := by simp
  rw [e]
  exact ⟨A, c, rfl, hb⟩
theorem at_bad (F Q D k : Int) (w : World) (h : tempo_At.f F Q D k = some (0, 1)) : Calls Try.prog 10 #[.agg #[.int .i64 F, .int .i64 Q, .int .i64 D], .int .i64 k] w fun e w' => e = .returned (.tuple #[.int .i64 0, .int .i64 1]) ∧ Below w.heap.size w w' := tempo_At.calls F Q D k 0 1 w h
theorem pick_2 (w : World) : Calls Try.prog 30 #[.agg #[.int .i64 0, .int .i64 1, .int .i64 1], .slice none 0 0, .int .i64 2] w fun e w' => ∃ A c, e = .returned (.tuple #[.slice A 2 c, .int .i64 0]) ∧ Kd.C KS w' A 2 [lostS, lostS] ∧ Below w.heap.size w w' := by
  refine (pick_calls none 0 0 0 1 1 2 [] w rfl (C_nilS w) (by decide) (by decide) (by decide) (by decide) (by decide) (by decide) (by decide)).mono ?_
  rintro e w' ⟨v, rfl, hR, hb⟩
  have e2 : pickV 0 1 1 [] 2 = [lostS, lostS] := rfl
  rw [e2] at hR
  obtain ⟨A, c, rfl⟩ := Kd.R_slice hR
  exact ⟨A, c, rfl, (Kd.R_reads' hR).2.2, hb⟩
theorem pick_bad (w : World) : Calls Try.prog 30 #[.agg #[.int .i64 0, .int .i64 1, .int .i64 1], .slice none 0 0, .int .i64 65537] w fun e w' => e = .returned (.tuple #[.slice none 0 0, .int .i64 1]) ∧ Below w.heap.size w w' := by
  go_enter Try.func30, Try.ntmps30
  go_wp2_with (go_at_call 31; (with_reducible refine (tempo_Clock_may.calls 0 1 1 65537 false _ rfl).mono ?_); rintro e w1 ⟨rfl, hb⟩; (have HB1 := Aside0.mk (below_then ((Below.refl w.heap.size w).alloc (Nat.le_refl _) _) (by simp) hb)); clear hb)
  go_ret2
  exact ⟨rfl, HB1.out⟩
theorem phase_nil (w : World) : Calls Try.prog 27 #[.slice none 0 0] w fun e w' => e = .returned (.tuple #[.int .i64 0, .int .i64 1]) ∧ Below w.heap.size w w' := by
  go_enter Try.func27, Try.ntmps27
  go_wp2
  go_ret2
  exact ⟨rfl, Below.refl _ _⟩
theorem energies_bad1 (A : Option Addr) (c : Nat) (w : World) : Calls Try.prog 24 #[.slice A 512 c, .int .i64 8, .int .i64 1, .int .i64 64] w fun e w' => e = .returned (.tuple #[.slice none 0 0, .int .i64 1]) ∧ Below w.heap.size w w' := by
  go_enter Try.func24, Try.ntmps24
  go_wp2
  go_ret2
  exact ⟨rfl, Below.refl _ _⟩
theorem energies_bad2 (A : Option Addr) (c : Nat) (w : World) : Calls Try.prog 24 #[.slice A 9 c, .int .i64 9, .int .i64 0, .int .i64 1] w fun e w' => e = .returned (.tuple #[.slice none 0 0, .int .i64 1]) ∧ Below w.heap.size w w' := by
  go_enter Try.func24, Try.ntmps24
  go_wp2
  go_ret2
  exact ⟨rfl, Below.refl _ _⟩
theorem energies_bad3 (A : Option Addr) (c : Nat) (w : World) : Calls Try.prog 24 #[.slice A 99 c, .int .i64 1, .int .i64 0, .int .i64 65] w fun e w' => e = .returned (.tuple #[.slice none 0 0, .int .i64 1]) ∧ Below w.heap.size w w' := by
  go_enter Try.func24, Try.ntmps24
  go_wp2
  go_ret2
  exact ⟨rfl, Below.refl _ _⟩
end Go.Proofs.Ytjhapibelhakdaa.Pure
