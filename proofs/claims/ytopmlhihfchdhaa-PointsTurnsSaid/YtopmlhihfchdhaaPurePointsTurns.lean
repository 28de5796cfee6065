/- PointsTurns: any set, label, quarters. -/
import Derived.Test.YtopmlhihfchdhaaFogx0
import Derived.Test.YtopmlhihfchdhaaWorks
namespace Go.Proofs.Ytopmlhihfchdhaa.Pure
open Go.RowKit Go.Proofs.Ytopmlhihfchdhaa.Fog Go.Proofs.YtopmlhihfchdhaaW.PrintWords Go.Proofs.YtopmlhihfchdhaaW.PrintLast Go.Proofs.YtopmlhihfchdhaaW.PrintMore Go.Proofs.Ytopmlhihfchdhaa.Kit
set_option linter.unusedVariables false
set_option linter.unusedSimpArgs false
/-- The label a quarter on. -/
def rot1 (n lb : Nat) : Nat := labF n (tp (ptP n lb) 1)
def rotOk (n : Nat) : Bool := (List.range n).all fun i => decide (rot1 n i < n ∧ ptP n (rot1 n i) = tp (ptP n i) 1)
set_option maxRecDepth 100000 in
theorem rot_all : ∀ n ∈ [4, 16, 32, 64, 128, 256], rotOk n = true := by decide +kernel
theorem rot1_ok (n i : Nat) (h : isSz n) (hi : i < n) : rot1 n i < n ∧ ptP n (rot1 n i) = tp (ptP n i) 1 := by
  have h1 := rot_all n (by rcases h with rfl | rfl | rfl | rfl | rfl | rfl <;> decide)
  unfold rotOk at h1
  rw [List.all_eq_true] at h1
  exact of_decide_eq_true (h1 i (List.mem_range.2 hi))
def rot (n lb : Nat) : Nat → Nat
  | 0 => lb
  | q + 1 => rot1 n (rot n lb q)
theorem rot_ok (n lb : Nat) (h : isSz n) (hl : lb < n) : ∀ q, rot n lb q < n ∧ ptP n (rot n lb q) = tp (ptP n lb) q
  | 0 => ⟨hl, rfl⟩
  | q + 1 => by
    obtain ⟨h1, h2⟩ := rot_ok n lb h hl q
    obtain ⟨h3, h4⟩ := rot1_ok n _ h h1
    refine ⟨h3, ?_⟩
    show ptP n (rot1 n (rot n lb q)) = _
    rw [h4, h2]; rfl
theorem tp_four (p : Int × Int) (q : Nat) : tp p (q + 4) = tp p q := by
  obtain ⟨⟨x, y⟩, hx⟩ : ∃ z, tp p q = z := ⟨_, rfl⟩
  simp only [tp, hx, Int.neg_neg]
theorem rot_four (n lb : Nat) (h : isSz n) (hl : lb < n) (q : Nat) : rot n lb (q + 4) = rot n lb q := by
  obtain ⟨a1, a2⟩ := rot_ok n lb h hl (q + 4)
  obtain ⟨b1, b2⟩ := rot_ok n lb h hl q
  exact pt_inj n _ _ h a1 b1 (by rw [a2, b2, tp_four])
theorem rot_mod (n lb : Nat) (h : isSz n) (hl : lb < n) : ∀ (c q : Nat), rot n lb (q + 4 * c) = rot n lb q
  | 0, q => rfl
  | c + 1, q => by
    rw [show q + 4 * (c + 1) = (q + 4 * c) + 4 by omega, rot_four n lb h hl, rot_mod n lb h hl c q]
theorem rot_same (n lb : Nat) (h : isSz n) (hl : lb < n) (a b : Nat) (hab : a % 4 = b % 4) : rot n lb a = rot n lb b := by
  have e1 := rot_mod n lb h hl (a / 4) (a % 4)
  have e2 := rot_mod n lb h hl (b / 4) (b % 4)
  rw [show a % 4 + 4 * (a / 4) = a by omega] at e1
  rw [show b % 4 + 4 * (b / 4) = b by omega] at e2
  rw [e1, e2, hab]
theorem rot_add (n lb : Nat) (a : Nat) : ∀ b, rot n (rot n lb a) b = rot n lb (a + b)
  | 0 => rfl
  | b + 1 => by
    show rot1 n (rot n (rot n lb a) b) = rot1 n (rot n lb (a + b))
    rw [rot_add n lb a b]
theorem labA_pt (n i : Nat) (h : isSz n) (hi : i < n) : labA n (zAt n i) = ((i : Int), 0) := by
  have h1 : LabIs n (zAt n i) (i : Int) 0 := .inl ⟨i, hi, by rw [hit_pt n i i h hi hi]; exact decide_eq_true rfl, fun j hj => by rw [hit_pt n i j h hi (by omega)]; exact decide_eq_false (by omega), rfl, rfl⟩
  obtain ⟨e1, e2⟩ := (labA_is n (zAt n i)).one h1
  exact Prod.ext e1 e2
theorem tz_rot (n lb : Nat) (h : isSz n) (hl : lb < n) (q : Nat) : tz (zAt n lb) q = zAt n (rot n lb q) := by
  show tz (fI (ptP n lb).1, fI (ptP n lb).2) q = (fI (ptP n (rot n lb q)).1, fI (ptP n (rot n lb q)).2)
  rw [tz_tp _ (pt_box n lb h hl), (rot_ok n lb h hl q).2]
theorem turned_rot (n lb : Nat) (m : Int) (h : isSz n) (hl : lb < n) (w : World) : Calls Try.prog 27 #[.int .i64 (n : Int), .int .i64 (lb : Int), .int .i64 m] w fun r w' => r = .returned (.tuple #[.int .i64 (rot n lb (m % 4).toNat : Int), .int .i64 0]) ∧ Below w.heap.size w w' := by
  have h1 := turned_at n lb m h hl w
  rw [tz_rot n lb h hl, labA_pt n _ h (rot_ok n lb h hl _).1] at h1
  exact h1
theorem add_all : ∀ i j : Fin 16, floatBits .add .f64 (fI ((i.val : Int) * i.val)) (fI ((j.val : Int) * j.val)) = some (fI ((i.val : Int) * i.val + (j.val : Int) * j.val)) := by decide +kernel
theorem add_sq (x y : Int) (hx : -15 ≤ x ∧ x ≤ 15) (hy : -15 ≤ y ∧ y ≤ 15) : floatBits .add .f64 (fI (x * x)) (fI (y * y)) = some (fI (x * x + y * y)) := by
  have h := add_all ⟨x.natAbs, by omega⟩ ⟨y.natAbs, by omega⟩
  have e1 : ((x.natAbs : Int)) * x.natAbs = x * x := Int.natAbs_mul_self' x
  have e2 : ((y.natAbs : Int)) * y.natAbs = y * y := Int.natAbs_mul_self' y
  rw [e1, e2] at h
  exact h
/-- A point's norm. -/
theorem norm_pt (n i : Nat) (h : isSz n) (hi : i < n) (w : World) : Calls Try.prog 40 #[.complex .f64 (zAt n i).1 (zAt n i).2] w fun r w' => r = .returned (.float .f64 (fI ((ptP n i).1 * (ptP n i).1 + (ptP n i).2 * (ptP n i).2))) ∧ Below w.heap.size w w' := by
  obtain ⟨p1, p2, p3, p4⟩ := pt_le n i h hi
  exact norm_calls _ _ _ _ _ (co_f _ p1 p2).1 (co_f _ p3 p4).1 (add_sq _ _ ⟨p1, p2⟩ ⟨p3, p4⟩) w
theorem norm_rot (n lb : Nat) (h : isSz n) (hl : lb < n) : ∀ q, (ptP n (rot n lb q)).1 * (ptP n (rot n lb q)).1 + (ptP n (rot n lb q)).2 * (ptP n (rot n lb q)).2 = (ptP n lb).1 * (ptP n lb).1 + (ptP n lb).2 * (ptP n lb).2
  | 0 => rfl
  | q + 1 => by
    have ih := norm_rot n lb h hl q
    rw [(rot_ok n lb h hl q).2] at ih
    rw [(rot_ok n lb h hl (q + 1)).2]
    show -(tp (ptP n lb) q).2 * -(tp (ptP n lb) q).2 + (tp (ptP n lb) q).1 * (tp (ptP n lb) q).1 = _
    rw [Int.neg_mul_neg, Int.add_comm]
    exact ih
theorem and16 (n : Int) : Go.bits .and .i64 n 65535 = n % 65536 := by
  have h3 : (BitVec.ofInt 64 65535).toNat = 2 ^ 16 - 1 := by decide
  have key : (BitVec.ofInt 64 n &&& BitVec.ofInt 64 65535).toNat = (n % ((2 ^ 64 : Nat) : Int)).toNat % 2 ^ 16 := by
    rw [BitVec.toNat_and, BitVec.toNat_ofInt, h3, Nat.and_two_pow_sub_one_eq_mod]
  show IntKind.i64.wrap ((BitVec.ofInt 64 n &&& BitVec.ofInt 64 65535).toNat : Nat) = n % 65536
  rw [key, IntKind.wrap_i64]
  omega
set_option maxHeartbeats 4000000 in
set_option maxRecDepth 100000 in
theorem turns_walk (st : Int) (k : Nat) (h : isSz k) (hsz : ∀ w, Calls Try.prog 39 #[.int .i64 st] w fun r w' => r = .returned (.int .i64 (k : Int)) ∧ Below w.heap.size w w') (l0 u n m : Int) (lb N M q : Nat) (hl : lb < k)
    (hu : IntKind.u64.wrap l0 = u) (hut : Int.tmod u (k : Int) = (lb : Int)) (hn : Go.bits .and .i64 n 65535 = (N : Int)) (hm : Go.bits .and .i64 m 65535 = (M : Int)) (hN : N ≤ 65535) (hM : M ≤ 65535) (hq : N % 4 = q) (w : World) :
    Calls Try.prog 7 #[.int .i64 st, .int .i64 l0, .int .i64 n, .int .i64 m] w fun r w' => r = .returned (.bool true) ∧ Below w.heap.size w w' := by
  have hk := sz_le h
  have hku : IntKind.u64.wrap (k : Int) = (k : Int) := by simp [IntKind.wrap, IntKind.bits, IntKind.signed]; omega
  have hlu : IntKind.u64.wrap (lb : Int) = (lb : Int) := by simp [IntKind.wrap, IntKind.bits, IntKind.signed]; omega
  have hlw : IntKind.i64.wrap (lb : Int) = (lb : Int) := by rw [IntKind.wrap_i64]; omega
  have hMn : IntKind.i64.wrap (-(M : Int)) = -(M : Int) := by rw [IntKind.wrap_i64]; omega
  have hNM : IntKind.i64.wrap ((N : Int) + -(M : Int)) = (N : Int) + -(M : Int) := by rw [IntKind.wrap_i64]; omega
  have hN4 : IntKind.i64.wrap (4 * (N : Int)) = 4 * (N : Int) := by rw [IntKind.wrap_i64]; omega
  have hNq : Int.tmod (N : Int) 4 = (q : Int) := by rw [Int.tmod_eq_emod_of_nonneg (by omega)]; omega
  have hk0 : (k : Int) ≠ 0 := by omega
  obtain ⟨r1, r2⟩ := rot_ok k lb h hl q
  obtain ⟨a, ha⟩ : ∃ a, rot k lb q = a := ⟨_, rfl⟩
  rw [ha] at r1
  have ea : rot k lb ((N : Int) % 4).toNat = a := by rw [← ha, show ((N : Int) % 4).toNat = q by omega]
  have eb : rot k a ((-(M : Int)) % 4).toNat = rot k lb (((N : Int) + -(M : Int)) % 4).toNat := by
    rw [← ha, rot_add]
    exact rot_same k lb h hl _ _ (by omega)
  have ed : rot k lb ((4 * (N : Int)) % 4).toNat = lb := by
    rw [show (4 * (N : Int)) % 4 = 0 by omega]; rfl
  obtain ⟨b, hb⟩ : ∃ b, rot k lb (((N : Int) + -(M : Int)) % 4).toNat = b := ⟨_, rfl⟩
  rw [hb] at eb
  have C1 := Aside0.mk (fun w => turned_rot k lb (N : Int) h hl w)
  have C2 := Aside0.mk (fun w => turned_rot k a (-(M : Int)) h r1 w)
  have C3 := Aside0.mk (fun w => turned_rot k lb ((N : Int) + -(M : Int)) h hl w)
  have C4 := Aside0.mk (fun w => turned_rot k lb (4 * (N : Int)) h hl w)
  rw [ea] at C1
  rw [eb] at C2
  rw [hb] at C3
  rw [ed] at C4
  have C5 := Aside0.mk (fun w => at_any k lb h hl w)
  have C6 := Aside0.mk (fun w => at_any k a h r1 w)
  have C7 := Aside0.mk (fun w => norm_pt k lb h hl w)
  have C8 := Aside0.mk (fun w => norm_pt k a h r1 w)
  have en := norm_rot k lb h hl q
  rw [ha] at en
  rw [en] at C8
  have hT := tz_rot k lb h hl q
  rw [ha] at hT
  have C9 := Aside0.mk (fun w => label_at k h (zAt k a).1 (zAt k a).2 w)
  have eA : labA k ((zAt k a).1, (zAt k a).2) = ((a : Int), 0) := labA_pt k a h r1
  rw [eA] at C9
  simp only at C9
  have CS := Aside0.mk hsz
  obtain ⟨oa1, oa2⟩ := zAt_fine k a h r1
  obtain ⟨F, hF⟩ : ∃ F, fI ((ptP k lb).1 * (ptP k lb).1 + (ptP k lb).2 * (ptP k lb).2) = F := ⟨_, rfl⟩
  have hFo : FloatKind.f64.format.order F F = some .eq := hF ▸ notNan_order _ (ofInt_notNan _)
  rw [hF] at C7 C8
  have hng : ∀ (b : Nat) (W : World), Sem.run Try.prog (Op.unary UnOp.neg (Value.float .f64 b)) W = .ok (.float .f64 (ngF b)) W := fun b W => rfl
  obtain ⟨z, hz⟩ : ∃ z, zAt k lb = z := ⟨_, rfl⟩
  rw [hz] at hT C5 C7
  obtain ⟨⟨y1, y2⟩, hy⟩ : ∃ y, zAt k a = y := ⟨_, rfl⟩
  rw [hy] at hT C6 C8 C9 oa1 oa2
  simp only at C6 C8 C9 oa1 oa2
  have HT := Aside0.mk hT
  have HQ := Aside0.mk (show q ≤ 3 by omega)
  have HB0 := Aside0.mk (Below.refl w.heap.size w)
  clear hT h hsz hl hM hq r1 r2 ha ea eb ed hb en eA hF hz hy hk hN
  go_enter Try.func7, Try.ntmps7
  go_wp2_with (first
    | (go_at_call 38; (with_reducible refine (works_calls _).mono ?_); rintro e w1 ⟨rfl, hb⟩; (have HB1 := Aside0.mk (below_step HB0.out hb)); clear hb)
    | (go_at_call 39; (with_reducible refine (CS.out _).mono ?_); rintro e w2 ⟨rfl, hb⟩; (have HB2 := Aside0.mk (below_step HB1.out hb)); clear hb)
    | (go_at_call 27; (with_reducible refine (C1.out _).mono ?_); rintro e w3 ⟨rfl, hb⟩; (have HB3 := Aside0.mk (below_step HB2.out hb)); clear hb)
    | (go_at_call 27; (with_reducible refine (C2.out _).mono ?_); rintro e w4 ⟨rfl, hb⟩; (have HB4 := Aside0.mk (below_step HB3.out hb)); clear hb)
    | (go_at_call 27; (with_reducible refine (C3.out _).mono ?_); rintro e w5 ⟨rfl, hb⟩; (have HB5 := Aside0.mk (below_step HB4.out hb)); clear hb)
    | (go_at_call 27; (with_reducible refine (C4.out _).mono ?_); rintro e w6 ⟨rfl, hb⟩; (have HB6 := Aside0.mk (below_step HB5.out hb)); clear hb)
    | (go_at_call 23; (with_reducible refine (C5.out _).mono ?_); rintro e w7 ⟨rfl, hb⟩; (have HB7 := Aside0.mk (below_step HB6.out hb)); clear hb)
    | (go_at_call 23; (with_reducible refine (C6.out _).mono ?_); rintro e w8 ⟨rfl, hb⟩; (have HB8 := Aside0.mk (below_step HB7.out hb)); clear hb)
    | (go_at_call 40; (with_reducible refine (C7.out _).mono ?_); rintro e w9 ⟨rfl, hb⟩; (have HB9 := Aside0.mk (below_step HB8.out hb)); clear hb)
    | (go_at_call 40; (with_reducible refine (C8.out _).mono ?_); rintro e w10 ⟨rfl, hb⟩; (have HB10 := Aside0.mk (below_step HB9.out hb)); clear hb))
  go_loopw [18, 22] (fun v i wr => ∃ t : Nat, t ≤ q ∧ i = .int .i64 (t : Int) ∧ v = .complex .f64 (tz z t).1 (tz z t).2 ∧ wr = w10) (fun _ i _ => q - (intOf i).toNat)
  case atStart => exact ⟨0, Nat.zero_le _, rfl, rfl, by first | rfl | trivial⟩
  case round =>
    obtain ⟨t, ht, rfl, rfl, rfl⟩ := hrel
    have hq3 := HQ.out
    by_cases hlt : t < q
    · have q1 : (t : Int) < (q : Int) := by omega
      have hks : IntKind.i64.wrap ((t : Int) + 1) = (t : Int) + 1 := by rw [IntKind.wrap_i64]; omega
      go_wp2
      exact ⟨⟨t + 1, hlt, by go_num, rfl, by first | rfl | trivial⟩, by show q - ((t : Int) + 1).toNat < q - (t : Int).toNat; omega⟩
    · obtain rfl : t = q := by omega
      have q1 : ¬ (t : Int) < (t : Int) := by omega
      rw [HT.out]
      go_wp2_with (go_at_call 25; (with_reducible refine (C9.out _).mono ?_); rintro e w11 ⟨rfl, hb⟩; (have HB11 := Aside0.mk (below_step HB10.out hb)); clear hb)
      go_ret
      exact ⟨rfl, HB11.out⟩
theorem PointsTurns_walk (st l0 n m : Int) (w : World) (f0 : (Lit.int .i64 st).wf = true) (f1 : (Lit.int .i64 l0).wf = true) (f2 : (Lit.int .i64 n).wf = true) (f3 : (Lit.int .i64 m).wf = true) :
    Calls Try.prog 7 #[.int .i64 st, .int .i64 l0, .int .i64 n, .int .i64 m] w fun e w' => e = .returned (.bool true) ∧ Below w.heap.size w w' := by
  obtain ⟨j, hj, hs⟩ := size_any st
  have h := szN_sz j hj
  have hk := sz_le h
  have h0 : 0 ≤ IntKind.u64.wrap l0 := by simp [IntKind.wrap, IntKind.bits, IntKind.signed]; omega
  have h1 := Int.emod_nonneg (IntKind.u64.wrap l0) (show (szN j : Int) ≠ 0 by omega)
  have h2 := Int.emod_lt_of_pos (IntKind.u64.wrap l0) (show (0 : Int) < (szN j : Int) by omega)
  exact turns_walk st (szN j) h hs l0 _ n m (IntKind.u64.wrap l0 % (szN j : Int)).toNat (n % 65536).toNat (m % 65536).toNat _ (by omega) rfl (by rw [Int.tmod_eq_emod_of_nonneg h0]; omega) (by rw [and16]; omega) (by rw [and16]; omega) (by omega) (by omega) rfl w
end Go.Proofs.Ytopmlhihfchdhaa.Pure
