/- What is asked of a set: bits, edge, a label's point, a point's label. -/
import Derived.Test.YtopmlhihfchdhaaFogx0
import Derived.Test.YtopmlhihfchdhaaAll
namespace Go.Proofs.Ytopmlhihfchdhaa.Pure
open Go.RowKit Go.Proofs.Ytopmlhihfchdhaa.Fog Go.Proofs.YtopmlhihfchdhaaW.PrintWords Go.Proofs.YtopmlhihfchdhaaW.PrintLast Go.Proofs.YtopmlhihfchdhaaW.PrintMore Go.Proofs.Ytopmlhihfchdhaa.Kit
set_option linter.unusedVariables false
set_option linter.unusedSimpArgs false
/-- One of the six sizes. -/
def isSz (n : Nat) : Prop := n = 4 ∨ n = 16 ∨ n = 32 ∨ n = 64 ∨ n = 128 ∨ n = 256
def noSz (n : Int) : Prop := n ≠ 4 ∧ n ≠ 16 ∧ n ≠ 32 ∧ n ≠ 64 ∧ n ≠ 128 ∧ n ≠ 256
theorem sz_or (n : Int) : noSz n ∨ ∃ k : Nat, n = (k : Int) ∧ isSz k := by
  unfold noSz isSz
  by_cases h : n ≠ 4 ∧ n ≠ 16 ∧ n ≠ 32 ∧ n ≠ 64 ∧ n ≠ 128 ∧ n ≠ 256
  · exact .inl h
  · exact .inr ⟨n.toNat, by omega, by omega⟩
def szB (n : Nat) : Int := if n = 4 then 2 else if n = 16 then 4 else if n = 32 then 5 else if n = 64 then 6 else if n = 128 then 7 else 8
def szE (n : Nat) : Int := if n = 4 then 1 else if n = 16 then 3 else if n = 32 then 5 else if n = 64 then 7 else if n = 128 then 11 else 15
theorem of_any (n : Nat) (h : isSz n) : OfSq n (szB n) (szE n) ∨ OfCr n (szB n) (szE n) := by
  rcases h with rfl | rfl | rfl | rfl | rfl | rfl
  · exact .inl of_4
  · exact .inl of_16
  · exact .inr of_32
  · exact .inl of_64
  · exact .inr of_128
  · exact .inl of_256
theorem sz_le {n : Nat} (h : isSz n) : 4 ≤ n ∧ n ≤ 256 := by unfold isSz at h; omega
theorem all_any (n : Nat) (h : isSz n) (w : World) : Calls Try.prog 13 #[.int .i64 (n : Int)] w fun r w' => ∃ (A : Option Addr) (c : Nat), r = .returned (.tuple #[.slice A n c, .int .i64 0]) ∧ n ≤ c ∧ Kd.R KC 31 w' w.heap.size (fun _ => True) (.slice A n c) (zt n n) ∧ Below w.heap.size w w' := by
  have hc : Calls Try.prog 13 #[.int .i64 (n : Int)] w fun r w' => ∃ v, r = .returned (.tuple #[v, .int .i64 0]) ∧ Kd.R KC 31 w' w.heap.size (fun _ => True) v (zt n n) ∧ Below w.heap.size w w' := by
    rcases of_any n h with ho | ho
    · exact all_Sq n _ _ ho (sz_le h).2 w
    · exact all_Cr n _ _ ho (sz_le h).2 w
  refine hc.mono ?_
  rintro r w' ⟨v, rfl, hR, hB⟩
  obtain ⟨A, c, rfl⟩ := Kd.R_slice hR
  have g := (Kd.R_reads' hR).2.1
  rw [zt_length] at hR g ⊢
  exact ⟨A, c, rfl, g, hR, hB⟩
set_option maxHeartbeats 1000000 in
set_option maxRecDepth 100000 in
theorem all_no (n : Int) (h : noSz n) (w : World) : Calls Try.prog 13 #[.int .i64 n] w fun r w' => r = .returned (.tuple #[.slice none 0 0, .int .i64 1]) ∧ Below w.heap.size w w' := by
  have HO := Aside0.mk (fun w => of_no n w h)
  go_enter Try.func13, Try.ntmps13
  go_wp2_with (go_at_call 41; (with_reducible refine (HO.out _).mono ?_); rintro r1 w1 ⟨rfl, hb⟩; (have HB1 := Aside0.mk hb); clear hb)
  go_ret2
  exact ⟨rfl, (HB1.out).alloc HB1.out.size _⟩
set_option maxHeartbeats 1000000 in
set_option maxRecDepth 100000 in
theorem Bits_Sq (n : Nat) (b e : Int) (hof : OfSq n b e) (w : World) : Calls Try.prog 15 #[.int .i64 (n : Int)] w fun r w' => r = .returned (.tuple #[.int .i64 b, .int .i64 0]) ∧ Below w.heap.size w w' := by
  unfold OfSq at hof
  have HO := Aside0.mk hof
  clear hof
  go_enter Try.func15, Try.ntmps15
  go_wp2_with (go_at_call 41; (with_reducible refine (HO.out _).mono ?_); rintro r1 w1 ⟨bn, bf, rfl, hp, hb⟩; (have HB1 := Aside0.mk hb); clear hp hb)
  go_ret2
  exact ⟨rfl, (HB1.out).alloc HB1.out.size _⟩
set_option maxHeartbeats 1000000 in
set_option maxRecDepth 100000 in
theorem Bits_Cr (n : Nat) (b e : Int) (hof : OfCr n b e) (w : World) : Calls Try.prog 15 #[.int .i64 (n : Int)] w fun r w' => r = .returned (.tuple #[.int .i64 b, .int .i64 0]) ∧ Below w.heap.size w w' := by
  unfold OfCr at hof
  have HO := Aside0.mk hof
  clear hof
  go_enter Try.func15, Try.ntmps15
  go_wp2_with (go_at_call 41; (with_reducible refine (HO.out _).mono ?_); rintro r1 w1 ⟨bn, bf, rfl, hp, hb⟩; (have HB1 := Aside0.mk hb); clear hp hb)
  go_ret2
  exact ⟨rfl, (HB1.out).alloc HB1.out.size _⟩
theorem Bits_any (n : Nat) (h : isSz n) (w : World) : Calls Try.prog 15 #[.int .i64 (n : Int)] w fun r w' => r = .returned (.tuple #[.int .i64 (szB n), .int .i64 0]) ∧ Below w.heap.size w w' := by
  rcases of_any n h with ho | ho
  · exact Bits_Sq n _ _ ho w
  · exact Bits_Cr n _ _ ho w
set_option maxHeartbeats 1000000 in
set_option maxRecDepth 100000 in
theorem Bits_no (n : Int) (h : noSz n) (w : World) : Calls Try.prog 15 #[.int .i64 n] w fun r w' => r = .returned (.tuple #[.int .i64 0, .int .i64 1]) ∧ Below w.heap.size w w' := by
  have HO := Aside0.mk (fun w => of_no n w h)
  go_enter Try.func15, Try.ntmps15
  go_wp2_with (go_at_call 41; (with_reducible refine (HO.out _).mono ?_); rintro r1 w1 ⟨rfl, hb⟩; (have HB1 := Aside0.mk hb); clear hb)
  go_ret2
  exact ⟨rfl, (HB1.out).alloc HB1.out.size _⟩
set_option maxHeartbeats 1000000 in
set_option maxRecDepth 100000 in
theorem Edge_Sq (n : Nat) (b e : Int) (hof : OfSq n b e) (w : World) : Calls Try.prog 17 #[.int .i64 (n : Int)] w fun r w' => r = .returned (.tuple #[.int .i64 e, .int .i64 0]) ∧ Below w.heap.size w w' := by
  unfold OfSq at hof
  have HO := Aside0.mk hof
  clear hof
  go_enter Try.func17, Try.ntmps17
  go_wp2_with (go_at_call 41; (with_reducible refine (HO.out _).mono ?_); rintro r1 w1 ⟨bn, bf, rfl, hp, hb⟩; (have HB1 := Aside0.mk hb); clear hp hb)
  go_ret2
  exact ⟨rfl, (HB1.out).alloc HB1.out.size _⟩
set_option maxHeartbeats 1000000 in
set_option maxRecDepth 100000 in
theorem Edge_Cr (n : Nat) (b e : Int) (hof : OfCr n b e) (w : World) : Calls Try.prog 17 #[.int .i64 (n : Int)] w fun r w' => r = .returned (.tuple #[.int .i64 e, .int .i64 0]) ∧ Below w.heap.size w w' := by
  unfold OfCr at hof
  have HO := Aside0.mk hof
  clear hof
  go_enter Try.func17, Try.ntmps17
  go_wp2_with (go_at_call 41; (with_reducible refine (HO.out _).mono ?_); rintro r1 w1 ⟨bn, bf, rfl, hp, hb⟩; (have HB1 := Aside0.mk hb); clear hp hb)
  go_ret2
  exact ⟨rfl, (HB1.out).alloc HB1.out.size _⟩
theorem Edge_any (n : Nat) (h : isSz n) (w : World) : Calls Try.prog 17 #[.int .i64 (n : Int)] w fun r w' => r = .returned (.tuple #[.int .i64 (szE n), .int .i64 0]) ∧ Below w.heap.size w w' := by
  rcases of_any n h with ho | ho
  · exact Edge_Sq n _ _ ho w
  · exact Edge_Cr n _ _ ho w
set_option maxHeartbeats 1000000 in
set_option maxRecDepth 100000 in
theorem Edge_no (n : Int) (h : noSz n) (w : World) : Calls Try.prog 17 #[.int .i64 n] w fun r w' => r = .returned (.tuple #[.int .i64 0, .int .i64 1]) ∧ Below w.heap.size w w' := by
  have HO := Aside0.mk (fun w => of_no n w h)
  go_enter Try.func17, Try.ntmps17
  go_wp2_with (go_at_call 41; (with_reducible refine (HO.out _).mono ?_); rintro r1 w1 ⟨rfl, hb⟩; (have HB1 := Aside0.mk hb); clear hb)
  go_ret2
  exact ⟨rfl, (HB1.out).alloc HB1.out.size _⟩
set_option maxHeartbeats 1000000 in
set_option maxRecDepth 100000 in
theorem at_Sq (n lb : Nat) (b e : Int) (hof : OfSq n b e) (hl : lb < n) (w : World) : Calls Try.prog 23 #[.int .i64 (n : Int), .int .i64 (lb : Int)] w fun r w' => r = .returned (.tuple #[.complex .f64 (zAt n lb).1 (zAt n lb).2, .int .i64 0]) ∧ Below w.heap.size w w' := by
  unfold OfSq at hof
  have HO := Aside0.mk hof
  have q1 : ¬ (lb : Int) < 0 := by omega
  have q2 : ¬ (n : Int) ≤ (lb : Int) := by omega
  have HL := Aside0.mk hl
  clear hof
  go_enter Try.func23, Try.ntmps23
  go_wp2_with (first
    | (go_at_call 41; (with_reducible refine (HO.out _).mono ?_); rintro r1 w1 ⟨bn, bf, rfl, hp, hb⟩; (have HB1 := Aside0.mk hb); (have hb2 : Below w1.heap.size w1 (w1.alloc (.cells #[.int .i64 b, .int .i64 e, .func (.func 56) #[] #[.pointer (some ⟨bn, 0, none⟩), .pointer (some ⟨bf, 0, none⟩)]] 57)) := (Below.refl _ _).alloc (Nat.le_refl _) _); (have HB2 := Aside0.mk (below_step hb hb2)); (have HPT := Aside0.mk (show Calls Try.prog 56 #[.int .i64 (lb : Int), .pointer (some ⟨bn, 0, none⟩), .pointer (some ⟨bf, 0, none⟩)] (w1.alloc (.cells #[.int .i64 b, .int .i64 e, .func (.func 56) #[] #[.pointer (some ⟨bn, 0, none⟩), .pointer (some ⟨bf, 0, none⟩)]] 57)) (fun r w' => r = .returned (.complex .f64 (zAt n lb).1 (zAt n lb).2) ∧ ∃ d, w' = (w1.alloc (.cells #[.int .i64 b, .int .i64 e, .func (.func 56) #[] #[.pointer (some ⟨bn, 0, none⟩), .pointer (some ⟨bf, 0, none⟩)]] 57)).drewN d) from hp _ hb2 lb HL.out)); clear hp hb hb2)
    | (go_at_call 56; (with_reducible refine HPT.out.mono ?_); rintro r1 w3 ⟨rfl, d, rfl⟩))
  go_ret2
  exact ⟨rfl, pw_below_drewN HB2.out d⟩
set_option maxHeartbeats 1000000 in
set_option maxRecDepth 100000 in
theorem atbad_Sq (n : Nat) (lb : Int) (b e : Int) (hof : OfSq n b e) (hl : lb < 0 ∨ (n : Int) ≤ lb) (w : World) : Calls Try.prog 23 #[.int .i64 (n : Int), .int .i64 lb] w fun r w' => r = .returned (.tuple #[.complex .f64 0 0, .int .i64 1]) ∧ Below w.heap.size w w' := by
  unfold OfSq at hof
  have HO := Aside0.mk hof
  clear hof
  by_cases h1 : lb < 0
  · clear hl
    go_enter Try.func23, Try.ntmps23
    go_wp2_with (go_at_call 41; (with_reducible refine (HO.out _).mono ?_); rintro r1 w1 ⟨bn, bf, rfl, hp, hb⟩; (have HB1 := Aside0.mk hb); clear hp hb)
    go_ret2
    exact ⟨rfl, (HB1.out).alloc HB1.out.size _⟩
  · have h2 : (n : Int) ≤ lb := by omega
    clear hl
    go_enter Try.func23, Try.ntmps23
    go_wp2_with (go_at_call 41; (with_reducible refine (HO.out _).mono ?_); rintro r1 w1 ⟨bn, bf, rfl, hp, hb⟩; (have HB1 := Aside0.mk hb); clear hp hb)
    go_ret2
    exact ⟨rfl, (HB1.out).alloc HB1.out.size _⟩
set_option maxHeartbeats 1000000 in
set_option maxRecDepth 100000 in
theorem at_Cr (n lb : Nat) (b e : Int) (hof : OfCr n b e) (hl : lb < n) (w : World) : Calls Try.prog 23 #[.int .i64 (n : Int), .int .i64 (lb : Int)] w fun r w' => r = .returned (.tuple #[.complex .f64 (zAt n lb).1 (zAt n lb).2, .int .i64 0]) ∧ Below w.heap.size w w' := by
  unfold OfCr at hof
  have HO := Aside0.mk hof
  have q1 : ¬ (lb : Int) < 0 := by omega
  have q2 : ¬ (n : Int) ≤ (lb : Int) := by omega
  have HL := Aside0.mk hl
  clear hof
  go_enter Try.func23, Try.ntmps23
  go_wp2_with (first
    | (go_at_call 41; (with_reducible refine (HO.out _).mono ?_); rintro r1 w1 ⟨bn, bf, rfl, hp, hb⟩; (have HB1 := Aside0.mk hb); (have hb2 : Below w1.heap.size w1 (w1.alloc (.cells #[.int .i64 b, .int .i64 e, .func (.func 57) #[] #[.pointer (some ⟨bn, 0, none⟩), .pointer (some ⟨bf, 0, none⟩)]] 57)) := (Below.refl _ _).alloc (Nat.le_refl _) _); (have HB2 := Aside0.mk (below_step hb hb2)); (have HPT := Aside0.mk (show Calls Try.prog 57 #[.int .i64 (lb : Int), .pointer (some ⟨bn, 0, none⟩), .pointer (some ⟨bf, 0, none⟩)] (w1.alloc (.cells #[.int .i64 b, .int .i64 e, .func (.func 57) #[] #[.pointer (some ⟨bn, 0, none⟩), .pointer (some ⟨bf, 0, none⟩)]] 57)) (fun r w' => r = .returned (.complex .f64 (zAt n lb).1 (zAt n lb).2) ∧ ∃ d, w' = (w1.alloc (.cells #[.int .i64 b, .int .i64 e, .func (.func 57) #[] #[.pointer (some ⟨bn, 0, none⟩), .pointer (some ⟨bf, 0, none⟩)]] 57)).drewN d) from hp _ hb2 lb HL.out)); clear hp hb hb2)
    | (go_at_call 57; (with_reducible refine HPT.out.mono ?_); rintro r1 w3 ⟨rfl, d, rfl⟩))
  go_ret2
  exact ⟨rfl, pw_below_drewN HB2.out d⟩
set_option maxHeartbeats 1000000 in
set_option maxRecDepth 100000 in
theorem atbad_Cr (n : Nat) (lb : Int) (b e : Int) (hof : OfCr n b e) (hl : lb < 0 ∨ (n : Int) ≤ lb) (w : World) : Calls Try.prog 23 #[.int .i64 (n : Int), .int .i64 lb] w fun r w' => r = .returned (.tuple #[.complex .f64 0 0, .int .i64 1]) ∧ Below w.heap.size w w' := by
  unfold OfCr at hof
  have HO := Aside0.mk hof
  clear hof
  by_cases h1 : lb < 0
  · clear hl
    go_enter Try.func23, Try.ntmps23
    go_wp2_with (go_at_call 41; (with_reducible refine (HO.out _).mono ?_); rintro r1 w1 ⟨bn, bf, rfl, hp, hb⟩; (have HB1 := Aside0.mk hb); clear hp hb)
    go_ret2
    exact ⟨rfl, (HB1.out).alloc HB1.out.size _⟩
  · have h2 : (n : Int) ≤ lb := by omega
    clear hl
    go_enter Try.func23, Try.ntmps23
    go_wp2_with (go_at_call 41; (with_reducible refine (HO.out _).mono ?_); rintro r1 w1 ⟨bn, bf, rfl, hp, hb⟩; (have HB1 := Aside0.mk hb); clear hp hb)
    go_ret2
    exact ⟨rfl, (HB1.out).alloc HB1.out.size _⟩
theorem at_any (n lb : Nat) (h : isSz n) (hl : lb < n) (w : World) : Calls Try.prog 23 #[.int .i64 (n : Int), .int .i64 (lb : Int)] w fun r w' => r = .returned (.tuple #[.complex .f64 (zAt n lb).1 (zAt n lb).2, .int .i64 0]) ∧ Below w.heap.size w w' := by
  rcases of_any n h with ho | ho
  · exact at_Sq n lb _ _ ho hl w
  · exact at_Cr n lb _ _ ho hl w
set_option maxHeartbeats 1000000 in
set_option maxRecDepth 100000 in
theorem at_no (n lb : Int) (h : noSz n) (w : World) : Calls Try.prog 23 #[.int .i64 n, .int .i64 lb] w fun r w' => r = .returned (.tuple #[.complex .f64 0 0, .int .i64 1]) ∧ Below w.heap.size w w' := by
  have HO := Aside0.mk (fun w => of_no n w h)
  go_enter Try.func23, Try.ntmps23
  go_wp2_with (go_at_call 41; (with_reducible refine (HO.out _).mono ?_); rintro r1 w1 ⟨rfl, hb⟩; (have HB1 := Aside0.mk hb); clear hb)
  go_ret2
  exact ⟨rfl, (HB1.out).alloc HB1.out.size _⟩
/-- Is it that label's point? -/
def hit (n : Nat) (z : Nat × Nat) (i : Nat) : Bool := (FloatKind.f64.format.order (zAt n i).1 z.1 == some .eq) && (FloatKind.f64.format.order (zAt n i).2 z.2 == some .eq)
set_option maxHeartbeats 2000000 in
set_option maxRecDepth 100000 in
theorem label_any (n : Nat) (z1 z2 : Nat) (h : isSz n) (w : World) : Calls Try.prog 25 #[.int .i64 (n : Int), .complex .f64 z1 z2] w fun r w' => ((∃ i, i < n ∧ hit n (z1, z2) i = true ∧ (∀ j, j < i → hit n (z1, z2) j = false) ∧ r = .returned (.tuple #[.int .i64 (i : Int), .int .i64 0])) ∨ ((∀ j, j < n → hit n (z1, z2) j = false) ∧ r = .returned (.tuple #[.int .i64 0, .int .i64 6]))) ∧ Below w.heap.size w w' := by
  have HA := Aside0.mk (fun w => all_any n h w)
  have hn := (sz_le h).2
  clear h
  go_enter Try.func25, Try.ntmps25
  go_wp2_with (go_at_call 13; (with_reducible refine (HA.out _).mono ?_); rintro r1 w1 ⟨A, c, rfl, hc, hR, hb⟩; (have HB1 := Aside0.mk hb); (have HC := Aside0.mk (Kd.R_reads' hR).2.2); clear hR hb)
  go_loopw [20] (fun i wr => ∃ k : Nat, k ≤ n ∧ i = .int .i64 (k : Int) ∧ Aside0 (∀ j, j < k → hit n (z1, z2) j = false) ∧ wr = w1) (fun i _ => n - (intOf i).toNat)
  case atStart => exact ⟨0, Nat.zero_le _, rfl, ⟨fun j hj => absurd hj (Nat.not_lt_zero _)⟩, by first | rfl | trivial⟩
  case round =>
    obtain ⟨k, hk, rfl, HJ, rfl⟩ := hrel
    by_cases hlt : k < n
    · have q1 : (k : Int) < (n : Int) := by omega
      have hks : IntKind.i64.wrap ((k : Int) + 1) = (k : Int) + 1 := by rw [IntKind.wrap_i64]; omega
      have hcc := HC.out
      rw [zt_length] at hcc
      obtain ⟨ad, hA, k1⟩ := cx_at hcc k hlt
      subst hA
      rw [zt_getD n n k hlt] at k1
      obtain ⟨hv, hhv⟩ : ∃ hv, hit n (z1, z2) k = hv := ⟨_, rfl⟩
      have he : ((FloatKind.f64.format.order (zAt n k).1 z1 == some .eq) && (FloatKind.f64.format.order (zAt n k).2 z2 == some .eq)) = hv := hhv
      have HV := Aside0.mk hhv
      have HK := Aside0.mk hlt
      obtain ⟨⟨y1, y2⟩, hy⟩ : ∃ y, zAt n k = y := ⟨_, rfl⟩
      rw [hy] at k1 he
      simp only at k1 he
      clear hhv hcc hy
      cases hv
      · go_wp2
        exact ⟨⟨k + 1, hlt, by go_num, ⟨fun j hj => (by
          by_cases hjk : j < k
          · exact HJ.out j hjk
          · obtain rfl : j = k := by omega
            exact HV.out)⟩, by first | rfl | trivial⟩, by show n - ((k : Int) + 1).toNat < n - (k : Int).toNat; omega⟩
      · go_wp2
        go_ret2
        exact ⟨.inl ⟨k, HK.out, HV.out, HJ.out, rfl⟩, HB1.out⟩
    · have hkN : k = n := by omega
      subst hkN
      go_wp2
      go_ret2
      exact ⟨.inr ⟨HJ.out, rfl⟩, HB1.out⟩
set_option maxHeartbeats 1000000 in
set_option maxRecDepth 100000 in
theorem label_no (n : Int) (z1 z2 : Nat) (h : noSz n) (w : World) : Calls Try.prog 25 #[.int .i64 n, .complex .f64 z1 z2] w fun r w' => r = .returned (.tuple #[.int .i64 0, .int .i64 1]) ∧ Below w.heap.size w w' := by
  have HA := Aside0.mk (fun w => all_no n h w)
  clear h
  go_enter Try.func25, Try.ntmps25
  go_wp2_with (go_at_call 13; (with_reducible refine (HA.out _).mono ?_); rintro r1 w1 ⟨rfl, hb⟩; (have HB1 := Aside0.mk hb); clear hb)
  go_ret2
  exact ⟨rfl, HB1.out⟩
end Go.Proofs.Ytopmlhihfchdhaa.Pure
