/- Cosets. -/
import Derived.Test.YtopmlhihfchdhaaFogx0
import Derived.Test.YtopmlhihfchdhaaCosS
namespace Go.Proofs.Ytopmlhihfchdhaa.Pure
open Go.RowKit Go.Proofs.Ytopmlhihfchdhaa.Fog Go.Proofs.YtopmlhihfchdhaaW.PrintWords Go.Proofs.YtopmlhihfchdhaaW.PrintLast Go.Proofs.YtopmlhihfchdhaaW.PrintMore Go.Proofs.Ytopmlhihfchdhaa.Kit
set_option linter.unusedVariables false
set_option linter.unusedSimpArgs false
set_option maxHeartbeats 4000000 in
set_option maxRecDepth 100000 in
theorem coset_Sq (n : Nat) (b e : Int) (hof : OfSq n b e) (x y : Int) (z1 z2 : Nat) (c1 : floatToIntVal .f64 z1 .i64 = some x) (c2 : floatToIntVal .f64 z2 .i64 = some y) (lv : Nat) (h : isSz n) (hx : -15 ≤ x ∧ x ≤ 15) (hy : -15 ≤ y ∧ y ≤ 15) (hlv : lv ≤ 8) (hhit : ∃ i, i < n ∧ hit n (z1, z2) i = true) (w : World) :
    Calls Try.prog 29 #[.int .i64 (n : Int), .complex .f64 z1 z2, .int .i64 (lv : Int)] w fun r w' => r = .returned (.tuple #[.int .i64 (cosS x y lv).2.2, .int .i64 0]) ∧ Below w.heap.size w w' := by
  unfold OfSq at hof
  have HO := Aside0.mk hof
  have HL := Aside0.mk (fun w => label_r n z1 z2 h w)
  have HH := Aside0.mk hhit
  have HXY := Aside0.mk (And.intro hx hy)
  have q1 : ¬ (lv : Int) < 0 := by omega
  have q2 : ¬ (8 : Int) < (lv : Int) := by omega
  have v1 := fun w => run_convert_float_int (P := Try.prog) w 33 3 .f64 .i64 z1 x (by kernel_rfl) Try.underlying3 c1
  have v2 := fun w => run_convert_float_int (P := Try.prog) w 33 3 .f64 .i64 z2 y (by kernel_rfl) Try.underlying3 c2
  have i1 : IntKind.i64.wrap (x + 1) = x + 1 := i64_small _ (by omega)
  have i2 : IntKind.i64.wrap (y + 1) = y + 1 := i64_small _ (by omega)
  have i3 : IntKind.i64.wrap (Int.tdiv (x + 1) 2) = Int.tdiv (x + 1) 2 := tdiv2_small _ (by omega)
  have i4 : IntKind.i64.wrap (Int.tdiv (y + 1) 2) = Int.tdiv (y + 1) 2 := tdiv2_small _ (by omega)
  have HS0 := Aside0.mk (CosAt.zero x y)
  obtain ⟨a0, ha0⟩ : ∃ a0, Int.tdiv (x + 1) 2 = a0 := ⟨_, rfl⟩
  obtain ⟨b0, hb0⟩ : ∃ b0, Int.tdiv (y + 1) 2 = b0 := ⟨_, rfl⟩
  rw [ha0] at i3 HS0
  rw [hb0] at i4 HS0
  clear hof hhit h hx hy c1 c2
  go_enter Try.func29, Try.ntmps29
  go_wp2_with (first
    | (go_at_call 41; (with_reducible refine (HO.out _).mono ?_); rintro r1 w1 ⟨bn, bf, rfl, hp, hb⟩; (have HB1 := Aside0.mk (below_step hb ((Below.refl w1.heap.size w1).alloc (Nat.le_refl _) (.cells #[.int .i64 b, .int .i64 e, .func (.func 56) #[] #[.pointer (some ⟨bn, 0, none⟩), .pointer (some ⟨bf, 0, none⟩)]] 57)))); clear hp hb)
    | (go_at_call 25; (with_reducible refine (HL.out _).mono ?_); rintro r2 w2 ⟨r1, r2, rfl, hr, hb⟩; (have HB2 := Aside0.mk (below_step HB1.out hb)); (obtain rfl : r2 = 0 := (by rcases hr with ⟨_, _, _, _, _, h0⟩ | ⟨h0, _, _⟩; exact h0; (obtain ⟨i, hi, ht⟩ := HH.out; have h9 := h0 i hi; rw [ht] at h9; exact Bool.noConfusion h9))); clear hr hb))
  go_loopw [12, 13, 14, 52] (fun a b o i wr => ∃ (k : Nat) (a1 b1 o1 : Int), k ≤ lv ∧ i = .int .i64 (k : Int) ∧ a = .int .i64 a1 ∧ b = .int .i64 b1 ∧ o = .int .i64 o1 ∧ Aside0 (CosAt x y k a1 b1 o1) ∧ wr = w2) (fun _ _ _ i _ => lv - (intOf i).toNat)
  case atStart => exact ⟨0, _, _, _, Nat.zero_le _, rfl, rfl, rfl, rfl, HS0, by first | rfl | trivial⟩
  case round =>
    obtain ⟨k, a1, b1, o1, hk, rfl, rfl, rfl, rfl, HC, rfl⟩ := hrel
    by_cases hlt : k < lv
    · have t1 : (k : Int) < (lv : Int) := by omega
      have hks : IntKind.i64.wrap ((k : Int) + 1) = (k : Int) + 1 := by rw [IntKind.wrap_i64]; omega
      have hs0 : (0 : Int) ≤ (k : Int) := by omega
      obtain ⟨m1, m2, m3, m4⟩ := HC.out.small HXY.out.1 HXY.out.2 (by omega)
      have j1 : IntKind.i64.wrap (a1 + b1) = a1 + b1 := i64_small _ (by omega)
      obtain ⟨d, hd, d0, d1⟩ := HC.out.bit HXY.out.1 HXY.out.2 (by omega)
      have hsh : shl .i64 d (k : Int) = wrap64 (d * 2 ^ k) := by unfold shl; rw [Nat.min_eq_left (show (k : Int).toNat ≤ _ by show (k : Int).toNat ≤ 64; omega), Int.toNat_natCast]; first | rfl | simp only [go_sem] | exact Go.IntWalk.i64_left _
      have HN := Aside0.mk (HC.out.next d hd)
      rw [hsh] at HN
      have j2 : IntKind.i64.wrap (a1 - d) = a1 - d := i64_small _ (by omega)
      have j3 : IntKind.i64.wrap (a1 - d + b1) = a1 - d + b1 := i64_small _ (by omega)
      have j4 : IntKind.i64.wrap (b1 - (a1 - d)) = b1 - (a1 - d) := i64_small _ (by omega)
      have j5 := tdiv2_small (a1 - d + b1) (by omega)
      have j6 := tdiv2_small (b1 - (a1 - d)) (by omega)
      have hle : k ≤ lv := hk
      clear m1 m2 m3 m4 d0 d1 hsh
      go_wp2
      exact ⟨⟨k + 1, _, _, _, hlt, by go_num, rfl, rfl, rfl, HN, by first | rfl | trivial⟩, by show lv - ((k : Int) + 1).toNat < lv - (k : Int).toNat; omega⟩
    · obtain rfl : k = lv := by omega
      have t1 : ¬ (k : Int) < (k : Int) := by omega
      have HB2' := HB2.out
      go_wp2
      go_ret2
      have ho : o1 = (cosS x y k).2.2 := by rw [show cosS x y k = (a1, b1, o1) from HC.out]
      subst ho
      exact ⟨rfl, HB2'⟩
set_option maxHeartbeats 4000000 in
set_option maxRecDepth 100000 in
theorem cosetlv_Sq (n : Nat) (b e : Int) (hof : OfSq n b e) (z1 z2 : Nat) (lv : Int) (hlv : lv < 0 ∨ 8 < lv) (w : World) :
    Calls Try.prog 29 #[.int .i64 (n : Int), .complex .f64 z1 z2, .int .i64 lv] w fun r w' => r = .returned (.tuple #[.int .i64 0, .int .i64 1]) ∧ Below w.heap.size w w' := by
  unfold OfSq at hof
  have HO := Aside0.mk hof
  clear hof
  by_cases h1 : lv < 0
  · clear hlv
    go_enter Try.func29, Try.ntmps29
    go_wp2_with (go_at_call 41; (with_reducible refine (HO.out _).mono ?_); rintro r1 w1 ⟨bn, bf, rfl, hp, hb⟩; (have HB1 := Aside0.mk hb); clear hp hb)
    go_ret2
    exact ⟨rfl, (HB1.out).alloc HB1.out.size _⟩
  · have h2 : 8 < lv := by omega
    clear hlv
    go_enter Try.func29, Try.ntmps29
    go_wp2_with (go_at_call 41; (with_reducible refine (HO.out _).mono ?_); rintro r1 w1 ⟨bn, bf, rfl, hp, hb⟩; (have HB1 := Aside0.mk hb); clear hp hb)
    go_ret2
    exact ⟨rfl, (HB1.out).alloc HB1.out.size _⟩
set_option maxHeartbeats 4000000 in
set_option maxRecDepth 100000 in
theorem cosetno_Sq (n : Nat) (b e : Int) (hof : OfSq n b e) (z1 z2 : Nat) (lv : Nat) (h : isSz n) (hlv : lv ≤ 8) (hno : ∀ j, j < n → hit n (z1, z2) j = false) (w : World) :
    Calls Try.prog 29 #[.int .i64 (n : Int), .complex .f64 z1 z2, .int .i64 (lv : Int)] w fun r w' => r = .returned (.tuple #[.int .i64 0, .int .i64 6]) ∧ Below w.heap.size w w' := by
  unfold OfSq at hof
  have HO := Aside0.mk hof
  have HL := Aside0.mk (fun w => label_any n z1 z2 h w)
  have HH := Aside0.mk hno
  have q1 : ¬ (lv : Int) < 0 := by omega
  have q2 : ¬ (8 : Int) < (lv : Int) := by omega
  clear hof hno h
  go_enter Try.func29, Try.ntmps29
  go_wp2_with (first
    | (go_at_call 41; (with_reducible refine (HO.out _).mono ?_); rintro r1 w1 ⟨bn, bf, rfl, hp, hb⟩; (have HB1 := Aside0.mk (below_step hb ((Below.refl w1.heap.size w1).alloc (Nat.le_refl _) (.cells #[.int .i64 b, .int .i64 e, .func (.func 56) #[] #[.pointer (some ⟨bn, 0, none⟩), .pointer (some ⟨bf, 0, none⟩)]] 57)))); clear hp hb)
    | (go_at_call 25; (with_reducible refine (HL.out _).mono ?_); rintro r2 w2 hb0; (have hb := hb0.2); (obtain rfl : r2 = .returned (.tuple #[.int .i64 0, .int .i64 6]) := (by rcases hb0.1 with ⟨i, hi, ht, _, _⟩ | ⟨_, h0⟩; (have h9 := HH.out i hi; rw [ht] at h9; exact Bool.noConfusion h9); exact h0)); (have HB2 := Aside0.mk (below_step HB1.out hb)); clear hb hb0))
  go_ret2
  exact ⟨rfl, HB2.out⟩
set_option maxHeartbeats 4000000 in
set_option maxRecDepth 100000 in
theorem coset_Cr (n : Nat) (b e : Int) (hof : OfCr n b e) (x y : Int) (z1 z2 : Nat) (c1 : floatToIntVal .f64 z1 .i64 = some x) (c2 : floatToIntVal .f64 z2 .i64 = some y) (lv : Nat) (h : isSz n) (hx : -15 ≤ x ∧ x ≤ 15) (hy : -15 ≤ y ∧ y ≤ 15) (hlv : lv ≤ 8) (hhit : ∃ i, i < n ∧ hit n (z1, z2) i = true) (w : World) :
    Calls Try.prog 29 #[.int .i64 (n : Int), .complex .f64 z1 z2, .int .i64 (lv : Int)] w fun r w' => r = .returned (.tuple #[.int .i64 (cosS x y lv).2.2, .int .i64 0]) ∧ Below w.heap.size w w' := by
  unfold OfCr at hof
  have HO := Aside0.mk hof
  have HL := Aside0.mk (fun w => label_r n z1 z2 h w)
  have HH := Aside0.mk hhit
  have HXY := Aside0.mk (And.intro hx hy)
  have q1 : ¬ (lv : Int) < 0 := by omega
  have q2 : ¬ (8 : Int) < (lv : Int) := by omega
  have v1 := fun w => run_convert_float_int (P := Try.prog) w 33 3 .f64 .i64 z1 x (by kernel_rfl) Try.underlying3 c1
  have v2 := fun w => run_convert_float_int (P := Try.prog) w 33 3 .f64 .i64 z2 y (by kernel_rfl) Try.underlying3 c2
  have i1 : IntKind.i64.wrap (x + 1) = x + 1 := i64_small _ (by omega)
  have i2 : IntKind.i64.wrap (y + 1) = y + 1 := i64_small _ (by omega)
  have i3 : IntKind.i64.wrap (Int.tdiv (x + 1) 2) = Int.tdiv (x + 1) 2 := tdiv2_small _ (by omega)
  have i4 : IntKind.i64.wrap (Int.tdiv (y + 1) 2) = Int.tdiv (y + 1) 2 := tdiv2_small _ (by omega)
  have HS0 := Aside0.mk (CosAt.zero x y)
  obtain ⟨a0, ha0⟩ : ∃ a0, Int.tdiv (x + 1) 2 = a0 := ⟨_, rfl⟩
  obtain ⟨b0, hb0⟩ : ∃ b0, Int.tdiv (y + 1) 2 = b0 := ⟨_, rfl⟩
  rw [ha0] at i3 HS0
  rw [hb0] at i4 HS0
  clear hof hhit h hx hy c1 c2
  go_enter Try.func29, Try.ntmps29
  go_wp2_with (first
    | (go_at_call 41; (with_reducible refine (HO.out _).mono ?_); rintro r1 w1 ⟨bn, bf, rfl, hp, hb⟩; (have HB1 := Aside0.mk (below_step hb ((Below.refl w1.heap.size w1).alloc (Nat.le_refl _) (.cells #[.int .i64 b, .int .i64 e, .func (.func 57) #[] #[.pointer (some ⟨bn, 0, none⟩), .pointer (some ⟨bf, 0, none⟩)]] 57)))); clear hp hb)
    | (go_at_call 25; (with_reducible refine (HL.out _).mono ?_); rintro r2 w2 ⟨r1, r2, rfl, hr, hb⟩; (have HB2 := Aside0.mk (below_step HB1.out hb)); (obtain rfl : r2 = 0 := (by rcases hr with ⟨_, _, _, _, _, h0⟩ | ⟨h0, _, _⟩; exact h0; (obtain ⟨i, hi, ht⟩ := HH.out; have h9 := h0 i hi; rw [ht] at h9; exact Bool.noConfusion h9))); clear hr hb))
  go_loopw [12, 13, 14, 52] (fun a b o i wr => ∃ (k : Nat) (a1 b1 o1 : Int), k ≤ lv ∧ i = .int .i64 (k : Int) ∧ a = .int .i64 a1 ∧ b = .int .i64 b1 ∧ o = .int .i64 o1 ∧ Aside0 (CosAt x y k a1 b1 o1) ∧ wr = w2) (fun _ _ _ i _ => lv - (intOf i).toNat)
  case atStart => exact ⟨0, _, _, _, Nat.zero_le _, rfl, rfl, rfl, rfl, HS0, by first | rfl | trivial⟩
  case round =>
    obtain ⟨k, a1, b1, o1, hk, rfl, rfl, rfl, rfl, HC, rfl⟩ := hrel
    by_cases hlt : k < lv
    · have t1 : (k : Int) < (lv : Int) := by omega
      have hks : IntKind.i64.wrap ((k : Int) + 1) = (k : Int) + 1 := by rw [IntKind.wrap_i64]; omega
      have hs0 : (0 : Int) ≤ (k : Int) := by omega
      obtain ⟨m1, m2, m3, m4⟩ := HC.out.small HXY.out.1 HXY.out.2 (by omega)
      have j1 : IntKind.i64.wrap (a1 + b1) = a1 + b1 := i64_small _ (by omega)
      obtain ⟨d, hd, d0, d1⟩ := HC.out.bit HXY.out.1 HXY.out.2 (by omega)
      have hsh : shl .i64 d (k : Int) = wrap64 (d * 2 ^ k) := by unfold shl; rw [Nat.min_eq_left (show (k : Int).toNat ≤ _ by show (k : Int).toNat ≤ 64; omega), Int.toNat_natCast]; first | rfl | simp only [go_sem] | exact Go.IntWalk.i64_left _
      have HN := Aside0.mk (HC.out.next d hd)
      rw [hsh] at HN
      have j2 : IntKind.i64.wrap (a1 - d) = a1 - d := i64_small _ (by omega)
      have j3 : IntKind.i64.wrap (a1 - d + b1) = a1 - d + b1 := i64_small _ (by omega)
      have j4 : IntKind.i64.wrap (b1 - (a1 - d)) = b1 - (a1 - d) := i64_small _ (by omega)
      have j5 := tdiv2_small (a1 - d + b1) (by omega)
      have j6 := tdiv2_small (b1 - (a1 - d)) (by omega)
      have hle : k ≤ lv := hk
      clear m1 m2 m3 m4 d0 d1 hsh
      go_wp2
      exact ⟨⟨k + 1, _, _, _, hlt, by go_num, rfl, rfl, rfl, HN, by first | rfl | trivial⟩, by show lv - ((k : Int) + 1).toNat < lv - (k : Int).toNat; omega⟩
    · obtain rfl : k = lv := by omega
      have t1 : ¬ (k : Int) < (k : Int) := by omega
      have HB2' := HB2.out
      go_wp2
      go_ret2
      have ho : o1 = (cosS x y k).2.2 := by rw [show cosS x y k = (a1, b1, o1) from HC.out]
      subst ho
      exact ⟨rfl, HB2'⟩
set_option maxHeartbeats 4000000 in
set_option maxRecDepth 100000 in
theorem cosetlv_Cr (n : Nat) (b e : Int) (hof : OfCr n b e) (z1 z2 : Nat) (lv : Int) (hlv : lv < 0 ∨ 8 < lv) (w : World) :
    Calls Try.prog 29 #[.int .i64 (n : Int), .complex .f64 z1 z2, .int .i64 lv] w fun r w' => r = .returned (.tuple #[.int .i64 0, .int .i64 1]) ∧ Below w.heap.size w w' := by
  unfold OfCr at hof
  have HO := Aside0.mk hof
  clear hof
  by_cases h1 : lv < 0
  · clear hlv
    go_enter Try.func29, Try.ntmps29
    go_wp2_with (go_at_call 41; (with_reducible refine (HO.out _).mono ?_); rintro r1 w1 ⟨bn, bf, rfl, hp, hb⟩; (have HB1 := Aside0.mk hb); clear hp hb)
    go_ret2
    exact ⟨rfl, (HB1.out).alloc HB1.out.size _⟩
  · have h2 : 8 < lv := by omega
    clear hlv
    go_enter Try.func29, Try.ntmps29
    go_wp2_with (go_at_call 41; (with_reducible refine (HO.out _).mono ?_); rintro r1 w1 ⟨bn, bf, rfl, hp, hb⟩; (have HB1 := Aside0.mk hb); clear hp hb)
    go_ret2
    exact ⟨rfl, (HB1.out).alloc HB1.out.size _⟩
set_option maxHeartbeats 4000000 in
set_option maxRecDepth 100000 in
theorem cosetno_Cr (n : Nat) (b e : Int) (hof : OfCr n b e) (z1 z2 : Nat) (lv : Nat) (h : isSz n) (hlv : lv ≤ 8) (hno : ∀ j, j < n → hit n (z1, z2) j = false) (w : World) :
    Calls Try.prog 29 #[.int .i64 (n : Int), .complex .f64 z1 z2, .int .i64 (lv : Int)] w fun r w' => r = .returned (.tuple #[.int .i64 0, .int .i64 6]) ∧ Below w.heap.size w w' := by
  unfold OfCr at hof
  have HO := Aside0.mk hof
  have HL := Aside0.mk (fun w => label_any n z1 z2 h w)
  have HH := Aside0.mk hno
  have q1 : ¬ (lv : Int) < 0 := by omega
  have q2 : ¬ (8 : Int) < (lv : Int) := by omega
  clear hof hno h
  go_enter Try.func29, Try.ntmps29
  go_wp2_with (first
    | (go_at_call 41; (with_reducible refine (HO.out _).mono ?_); rintro r1 w1 ⟨bn, bf, rfl, hp, hb⟩; (have HB1 := Aside0.mk (below_step hb ((Below.refl w1.heap.size w1).alloc (Nat.le_refl _) (.cells #[.int .i64 b, .int .i64 e, .func (.func 57) #[] #[.pointer (some ⟨bn, 0, none⟩), .pointer (some ⟨bf, 0, none⟩)]] 57)))); clear hp hb)
    | (go_at_call 25; (with_reducible refine (HL.out _).mono ?_); rintro r2 w2 hb0; (have hb := hb0.2); (obtain rfl : r2 = .returned (.tuple #[.int .i64 0, .int .i64 6]) := (by rcases hb0.1 with ⟨i, hi, ht, _, _⟩ | ⟨_, h0⟩; (have h9 := HH.out i hi; rw [ht] at h9; exact Bool.noConfusion h9); exact h0)); (have HB2 := Aside0.mk (below_step HB1.out hb)); clear hb hb0))
  go_ret2
  exact ⟨rfl, HB2.out⟩
theorem coset_zz (n : Nat) (x y : Int) (z1 z2 : Nat) (c1 : floatToIntVal .f64 z1 .i64 = some x) (c2 : floatToIntVal .f64 z2 .i64 = some y) (lv : Nat) (h : isSz n) (hx : -15 ≤ x ∧ x ≤ 15) (hy : -15 ≤ y ∧ y ≤ 15) (hlv : lv ≤ 8) (hhit : ∃ i, i < n ∧ hit n (z1, z2) i = true) (w : World) :
    Calls Try.prog 29 #[.int .i64 (n : Int), .complex .f64 z1 z2, .int .i64 (lv : Int)] w fun r w' => r = .returned (.tuple #[.int .i64 (cosS x y lv).2.2, .int .i64 0]) ∧ Below w.heap.size w w' := by
  rcases of_any n h with ho | ho
  · exact coset_Sq n _ _ ho x y z1 z2 c1 c2 lv h hx hy hlv hhit w
  · exact coset_Cr n _ _ ho x y z1 z2 c1 c2 lv h hx hy hlv hhit w
theorem coset_hit (n : Nat) (x y : Int) (lv : Nat) (h : isSz n) (hx : -15 ≤ x ∧ x ≤ 15) (hy : -15 ≤ y ∧ y ≤ 15) (hlv : lv ≤ 8) (hhit : ∃ i, i < n ∧ hit n (fI x, fI y) i = true) (w : World) :
    Calls Try.prog 29 #[.int .i64 (n : Int), .complex .f64 (fI x) (fI y), .int .i64 (lv : Int)] w fun r w' => r = .returned (.tuple #[.int .i64 (cosS x y lv).2.2, .int .i64 0]) ∧ Below w.heap.size w w' :=
  coset_zz n x y _ _ (co_f x hx.1 hx.2).2.2.1 (co_f y hy.1 hy.2).2.2.1 lv h hx hy hlv hhit w
theorem coset_lv (n : Nat) (z1 z2 : Nat) (lv : Int) (h : isSz n) (hlv : lv < 0 ∨ 8 < lv) (w : World) :
    Calls Try.prog 29 #[.int .i64 (n : Int), .complex .f64 z1 z2, .int .i64 lv] w fun r w' => r = .returned (.tuple #[.int .i64 0, .int .i64 1]) ∧ Below w.heap.size w w' := by
  rcases of_any n h with ho | ho
  · exact cosetlv_Sq n _ _ ho z1 z2 lv hlv w
  · exact cosetlv_Cr n _ _ ho z1 z2 lv hlv w
theorem coset_none (n : Nat) (z1 z2 : Nat) (lv : Nat) (h : isSz n) (hlv : lv ≤ 8) (hno : ∀ j, j < n → hit n (z1, z2) j = false) (w : World) :
    Calls Try.prog 29 #[.int .i64 (n : Int), .complex .f64 z1 z2, .int .i64 (lv : Int)] w fun r w' => r = .returned (.tuple #[.int .i64 0, .int .i64 6]) ∧ Below w.heap.size w w' := by
  rcases of_any n h with ho | ho
  · exact cosetno_Sq n _ _ ho z1 z2 lv h hlv hno w
  · exact cosetno_Cr n _ _ ho z1 z2 lv h hlv hno w
set_option maxHeartbeats 1000000 in
set_option maxRecDepth 100000 in
theorem coset_no (n lv : Int) (z1 z2 : Nat) (h : noSz n) (w : World) : Calls Try.prog 29 #[.int .i64 n, .complex .f64 z1 z2, .int .i64 lv] w fun r w' => r = .returned (.tuple #[.int .i64 0, .int .i64 1]) ∧ Below w.heap.size w w' := by
  have HO := Aside0.mk (fun w => of_no n w h)
  go_enter Try.func29, Try.ntmps29
  go_wp2_with (go_at_call 41; (with_reducible refine (HO.out _).mono ?_); rintro r1 w1 ⟨rfl, hb⟩; (have HB1 := Aside0.mk hb); clear hb)
  go_ret2
  exact ⟨rfl, (HB1.out).alloc HB1.out.size _⟩
end Go.Proofs.Ytopmlhihfchdhaa.Pure
