/- What is asked of a set: all points, bits. -/
import Derived.Test.YtgmaiknbogcpgaaFogx0
import Derived.Test.YtgmaiknbogcpgaaAll
namespace Go.Proofs.Ytgmaiknbogcpgaa.Pure
open Go.RowKit Go.Proofs.Ytgmaiknbogcpgaa.Fog Go.Proofs.YtgmaiknbogcpgaaW.PrintWords Go.Proofs.YtgmaiknbogcpgaaW.PrintLast Go.Proofs.YtgmaiknbogcpgaaW.PrintMore Go.Proofs.Ytgmaiknbogcpgaa.Kit
set_option linter.unusedVariables false
set_option linter.unusedSimpArgs false
/-- One of the six sizes. -/
def isSz (n : Nat) : Prop := n = 4 ∨ n = 16 ∨ n = 32 ∨ n = 64 ∨ n = 128 ∨ n = 256
def noSz (n : Int) : Prop := n ≠ 4 ∧ n ≠ 16 ∧ n ≠ 32 ∧ n ≠ 64 ∧ n ≠ 128 ∧ n ≠ 256
theorem sz_or (n : Int) : noSz n ∨ ∃ k : Nat, n = (k : Int) ∧ isSz k := by
  unfold noSz isSz
  by_cases h : n ≠ 4 ∧ n ≠ 16 ∧ n ≠ 32 ∧ n ≠ 64 ∧ n ≠ 128 ∧ n ≠ 256
  · exact .inl h
  · exact .inr ⟨n.toNat, by omega, by omega⟩
def szB (n : Nat) : Int := if n = 4 then 2 else if n = 16 then 4 else if n = 32 then 5 else if n = 64 then 6 else if n = 128 then 7 else 8
def szE (n : Nat) : Int := if n = 4 then 1 else if n = 16 then 3 else if n = 32 then 5 else if n = 64 then 7 else if n = 128 then 11 else 15
theorem of_any (n : Nat) (h : isSz n) : OfSq n (szB n) (szE n) ∨ OfCr n (szB n) (szE n) := by
  rcases h with rfl | rfl | rfl | rfl | rfl | rfl
  · exact .inl of_4
  · exact .inl of_16
  · exact .inr of_32
  · exact .inl of_64
  · exact .inr of_128
  · exact .inl of_256
theorem sz_le {n : Nat} (h : isSz n) : 4 ≤ n ∧ n ≤ 256 := by unfold isSz at h; omega
theorem all_any (n : Nat) (h : isSz n) (w : World) : Calls Try.prog 67 #[.int .i64 (n : Int)] w fun r w' => ∃ (A : Option Addr) (c : Nat), r = .returned (.tuple #[.slice A n c, .int .i64 0]) ∧ n ≤ c ∧ Kd.R KC 103 w' w.heap.size (fun _ => True) (.slice A n c) (zt n n) ∧ Below w.heap.size w w' := by
  have hc : Calls Try.prog 67 #[.int .i64 (n : Int)] w fun r w' => ∃ v, r = .returned (.tuple #[v, .int .i64 0]) ∧ Kd.R KC 103 w' w.heap.size (fun _ => True) v (zt n n) ∧ Below w.heap.size w w' := by
    rcases of_any n h with ho | ho
    · exact all_Sq n _ _ ho (sz_le h).2 w
    · exact all_Cr n _ _ ho (sz_le h).2 w
  refine hc.mono ?_
  rintro r w' ⟨v, rfl, hR, hB⟩
  obtain ⟨A, c, rfl⟩ := Kd.R_slice hR
  have g := (Kd.R_reads' hR).2.1
  rw [zt_length] at hR g ⊢
  exact ⟨A, c, rfl, g, hR, hB⟩
set_option maxHeartbeats 1000000 in
set_option maxRecDepth 100000 in
theorem all_no (n : Int) (h : noSz n) (w : World) : Calls Try.prog 67 #[.int .i64 n] w fun r w' => r = .returned (.tuple #[.slice none 0 0, .int .i64 1]) ∧ Below w.heap.size w w' := by
  have HO := Aside0.mk (fun w => of_no n w h)
  go_enter Try.func67, Try.ntmps67
  go_wp2_with (go_at_call 66; (with_reducible refine (HO.out _).mono ?_); rintro r1 w1 ⟨rfl, hb⟩; (have HB1 := Aside0.mk hb); clear hb)
  go_ret2
  exact ⟨rfl, (HB1.out).alloc HB1.out.size _⟩
set_option maxHeartbeats 1000000 in
set_option maxRecDepth 100000 in
theorem Bits_Sq (n : Nat) (b e : Int) (hof : OfSq n b e) (w : World) : Calls Try.prog 61 #[.int .i64 (n : Int)] w fun r w' => r = .returned (.tuple #[.int .i64 b, .int .i64 0]) ∧ Below w.heap.size w w' := by
  unfold OfSq at hof
  have HO := Aside0.mk hof
  clear hof
  go_enter Try.func61, Try.ntmps61
  go_wp2_with (go_at_call 66; (with_reducible refine (HO.out _).mono ?_); rintro r1 w1 ⟨bn, bf, rfl, hp, hb⟩; (have HB1 := Aside0.mk hb); clear hp hb)
  go_ret2
  exact ⟨rfl, (HB1.out).alloc HB1.out.size _⟩
set_option maxHeartbeats 1000000 in
set_option maxRecDepth 100000 in
theorem Bits_Cr (n : Nat) (b e : Int) (hof : OfCr n b e) (w : World) : Calls Try.prog 61 #[.int .i64 (n : Int)] w fun r w' => r = .returned (.tuple #[.int .i64 b, .int .i64 0]) ∧ Below w.heap.size w w' := by
  unfold OfCr at hof
  have HO := Aside0.mk hof
  clear hof
  go_enter Try.func61, Try.ntmps61
  go_wp2_with (go_at_call 66; (with_reducible refine (HO.out _).mono ?_); rintro r1 w1 ⟨bn, bf, rfl, hp, hb⟩; (have HB1 := Aside0.mk hb); clear hp hb)
  go_ret2
  exact ⟨rfl, (HB1.out).alloc HB1.out.size _⟩
theorem Bits_any (n : Nat) (h : isSz n) (w : World) : Calls Try.prog 61 #[.int .i64 (n : Int)] w fun r w' => r = .returned (.tuple #[.int .i64 (szB n), .int .i64 0]) ∧ Below w.heap.size w w' := by
  rcases of_any n h with ho | ho
  · exact Bits_Sq n _ _ ho w
  · exact Bits_Cr n _ _ ho w
set_option maxHeartbeats 1000000 in
set_option maxRecDepth 100000 in
theorem Bits_no (n : Int) (h : noSz n) (w : World) : Calls Try.prog 61 #[.int .i64 n] w fun r w' => r = .returned (.tuple #[.int .i64 0, .int .i64 1]) ∧ Below w.heap.size w w' := by
  have HO := Aside0.mk (fun w => of_no n w h)
  go_enter Try.func61, Try.ntmps61
  go_wp2_with (go_at_call 66; (with_reducible refine (HO.out _).mono ?_); rintro r1 w1 ⟨rfl, hb⟩; (have HB1 := Aside0.mk hb); clear hb)
  go_ret2
  exact ⟨rfl, (HB1.out).alloc HB1.out.size _⟩
end Go.Proofs.Ytgmaiknbogcpgaa.Pure
