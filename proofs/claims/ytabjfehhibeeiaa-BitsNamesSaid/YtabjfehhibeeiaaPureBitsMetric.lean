/- BitsMetric: a distance. -/
import Derived.Test.YtabjfehhibeeiaaFogx0
import Derived.Test.YtabjfehhibeeiaaFogx7
import Derived.Test.YtabjfehhibeeiaaHandWorks
import Derived.Test.YtabjfehhibeeiaaKit
import Derived.Test.YtabjfehhibeeiaaRefPairs
import Derived.Test.YtabjfehhibeeiaaRefTurn
import Derived.Test.YtabjfehhibeeiaaHandWorks
namespace Go.Proofs.Ytabjfehhibeeiaa.Pure
open Go.RowKit Go.Proofs.Ytabjfehhibeeiaa.Fog Go.Proofs.YtabjfehhibeeiaaW.PrintWords Go.Proofs.YtabjfehhibeeiaaW.PrintLast Go.Proofs.YtabjfehhibeeiaaW.PrintMore Go.Proofs.Ytabjfehhibeeiaa.Kit
set_option linter.unusedVariables false
set_option linter.unusedSimpArgs false
theorem wgt_cons (p : Bool) (l : List Bool) : wgt (p :: l) = wgt l + (if p = true then 1 else 0) := by
  unfold wgt; cases p <;> simp
theorem tri : ∀ a b c : List Bool, a.length = b.length → b.length = c.length → wgt (xorB a c) ≤ wgt (xorB a b) + wgt (xorB b c) ∧ (wgt (xorB a b) + wgt (xorB b c) + wgt (xorB a c)) % 2 = 0
  | [], [], [], _, _ => by decide
  | x :: a, y :: b, z :: c, h1, h2 => by
    have ih := tri a b c (by simpa using h1) (by simpa using h2)
    have e1 : xorB (x :: a) (z :: c) = (x != z) :: xorB a c := rfl
    have e2 : xorB (x :: a) (y :: b) = (x != y) :: xorB a b := rfl
    have e3 : xorB (y :: b) (z :: c) = (y != z) :: xorB b c := rfl
    rw [e1, e2, e3, wgt_cons, wgt_cons, wgt_cons]
    cases x <;> cases y <;> cases z <;> simp <;> omega
theorem xorB_comm : ∀ a b : List Bool, xorB a b = xorB b a
  | [], [] => rfl
  | [], _ :: _ => rfl
  | _ :: _, [] => rfl
  | x :: a, y :: b => by
    show (x != y) :: xorB a b = (y != x) :: xorB b a
    rw [xorB_comm a b]
    cases x <;> cases y <;> rfl
theorem xorB_zero : ∀ a b : List Bool, a.length = b.length → (wgt (xorB a b) = 0 ↔ a = b)
  | [], [], _ => by simp [wgt, xorB]
  | x :: a, y :: b, h => by
    have ih := xorB_zero a b (by simpa using h)
    have e : xorB (x :: a) (y :: b) = (x != y) :: xorB a b := rfl
    rw [e, wgt_cons]
    cases x <;> cases y <;> simp [ih]
theorem samed_l0 (a b : List Bool) (hab : a.length = b.length) (hl : a.length ≤ 9223372036854775806) : ∀ (d i : Nat), i + d = a.length → a.take i = b.take i → Ev (fun k => foghornlaw01_sameBits.l0 k a b (i : Int)) (decide (a = b))
  | 0, i, h, ht => by
    refine Ev.step (fun k => by simp only [foghornlaw01_sameBits.l0]; rfl) ?_
    refine Ev.ifn (by omega) (Ev.val ?_)
    rw [List.take_of_length_le (by omega), List.take_of_length_le (by omega)] at ht
    simp [ht]
  | d + 1, i, h, ht => by
    have hi : i < a.length := by omega
    have hib : i < b.length := by omega
    refine Ev.step (fun k => by simp only [foghornlaw01_sameBits.l0]; rfl) ?_
    refine Ev.ifp (by omega) (Ev.ifp (by omega) (Ev.ifp (by omega) ?_))
    rw [rd_nat, rd_nat, show ((i : Int) + 1) = ((i + 1 : Nat) : Int) by omega, w64n (by omega)]
    have ea : a.getD i false = a[i] := by simp [List.getD_eq_getElem?_getD, hi]
    have eb : b.getD i false = b[i] := by simp [List.getD_eq_getElem?_getD, hib]
    rw [ea, eb]
    by_cases hx : a[i] = b[i]
    · refine Ev.ifn (by simp [hx]) ?_
      exact samed_l0 a b hab hl d (i + 1) (by omega) (by rw [List.take_succ_eq_append_getElem hi, List.take_succ_eq_append_getElem hib, ht, hx])
    · refine Ev.ifp (by simpa using hx) (Ev.val ?_)
      rw [decide_eq_false]
      rintro rfl
      exact hx rfl
theorem samed_ev (a b : List Bool) (hab : a.length = b.length) (hl : a.length ≤ 9223372036854775806) : Ev (fun k => foghornlaw01_sameBits.f k a b) (decide (a = b)) := by
  unfold foghornlaw01_sameBits.f
  refine Ev.ifp (by omega) ?_
  exact samed_l0 a b hab hl a.length 0 (by omega) rfl
theorem dist_at (A : Option Addr) (c : Nat) (a : List Bool) (B : Option Addr) (d : Nat) (b : List Bool) (X : Nat) (w : World) (h1 : Kd.C Kd.bool w A a.length a) (hc : a.length ≤ c) (h2 : Kd.C Kd.bool w B b.length b) (hd : b.length ≤ d) (h : (a.length = b.length ∧ a.length ≤ 32768) ∧ wgt (xorB a b) = X) :
    Calls Try.prog 25 #[.slice A a.length c, .slice B b.length d] w fun e w' => e = .returned (.tuple #[.int .i64 (X : Int), .int .i64 0]) ∧ Below w.heap.size w w' := by
  have h' := dist_in A c a B d b w h1 hc h2 hd
  have e : distV a b = ((X : Int), 0) := by unfold distV xorV; rw [if_pos h.1, ← h.2]
  rw [e] at h'
  exact h'
theorem xor_at (A : Option Addr) (c : Nat) (a : List Bool) (B : Option Addr) (d : Nat) (b : List Bool) (w : World) (h1 : Kd.C Kd.bool w A a.length a) (hc : a.length ≤ c) (h2 : Kd.C Kd.bool w B b.length b) (hd : b.length ≤ d) (h : a.length = b.length ∧ a.length ≤ 32768) :
    Calls Try.prog 23 #[.slice A a.length c, .slice B b.length d] w fun e w' => ∃ v0_ : Value, e = .returned (.tuple #[v0_, .int .i64 0]) ∧ Kd.R Kd.bool 4 w' w.heap.size (fun _ => True) v0_ (xorB a b) ∧ Below w.heap.size w w' := by
  have h' := xor_in A c a B d b w h1 hc h2 hd
  have e : xorV a b = (xorB a b, 0) := by unfold xorV; rw [if_pos h]
  rw [e] at h'
  exact h'
theorem weight_at' (A : Option Addr) (c : Nat) (a : List Bool) (X : Nat) (w : World) (h1 : Kd.C Kd.bool w A a.length a) (hc : a.length ≤ c) (hl : a.length ≤ 32768) (h : wgt a = X) :
    Calls Try.prog 29 #[.slice A a.length c] w fun e w' => e = .returned (.int .i64 (X : Int)) ∧ Below w.heap.size w w' := by
  rw [← h]
  exact weight_in A c a w h1 hc (by omega)
theorem same_at' (A : Option Addr) (c : Nat) (a : List Bool) (B : Option Addr) (d : Nat) (b : List Bool) (r : Bool) (w : World) (h1 : Kd.C Kd.bool w A a.length a) (hc : a.length ≤ c) (h2 : Kd.C Kd.bool w B b.length b) (hd : b.length ≤ d) (h : (a.length = b.length ∧ a.length ≤ 32768) ∧ decide (a = b) = r) :
    Calls Try.prog 21 #[.slice A a.length c, .slice B b.length d] w fun e w' => e = .returned (.bool r) ∧ Below w.heap.size w w' := by
  obtain ⟨k, hk⟩ := (samed_ev a b h.1.1 (by omega)).rounds
  rw [← h.2]
  refine (foghornlaw01_sameBits.calls k A c a B d b _ w h1 hc h2 hd hk).mono ?_
  rintro e w' ⟨rfl, ⟨nd, rfl⟩⟩
  exact ⟨rfl, pw_below_drewN (Below.refl _ _) _⟩
theorem C_to {A : Option Addr} {l : List Bool} {w : World} (h : Kd.C Kd.bool w A l.length l) (n : Nat) (hn : n ≤ l.length) : Kd.C Kd.bool w A n (l.take n) := by
  have h' := Kd.C_take (m := n) h hn
  rwa [show (l.take n).length = n by rw [List.length_take]; omega] at h'
set_option maxHeartbeats 8000000 in
set_option maxRecDepth 100000 in
theorem metric_walk (A0 : Option Addr) (c0 : Nat) (l0 : List Bool) (A1 : Option Addr) (c1 : Nat) (l1 : List Bool) (A2 : Option Addr) (c2 : Nat) (l2 : List Bool) (n n1 n2 : Nat) (L0 L1 L2 : List Bool) (X Y Z : Nat) (r : Bool) (w : World)
    (hc0 : l0.length ≤ c0) (hc1 : l1.length ≤ c1) (hc2 : l2.length ≤ c2) (hn0 : n ≤ l0.length) (hn1 : n ≤ l1.length) (hn2 : n ≤ l2.length) (hn : n ≤ 32768)
    (hm1 : (if l1.length < l0.length then (l1.length : Int) else (l0.length : Int)) = (n1 : Int)) (hm2 : (if l2.length < n1 then (l2.length : Int) else (n1 : Int)) = (n2 : Int)) (hm3 : (if (32768 : Int) < (n2 : Int) then (32768 : Int) else (n2 : Int)) = (n : Int))
    (hC0 : Kd.C Kd.bool w A0 n L0) (hC1 : Kd.C Kd.bool w A1 n L1) (hC2 : Kd.C Kd.bool w A2 n L2)
    (hL0 : L0.length = n) (hL1 : L1.length = n) (hL2 : L2.length = n)
    (hX : wgt (xorB L0 L1) = X) (hX' : wgt (xorB L1 L0) = X) (hY : wgt (xorB L1 L2) = Y) (hZ : wgt (xorB L0 L2) = Z) (hr : decide (L0 = L1) = r)
    (hbx : X ≤ n) (hby : Y ≤ n) (hbz : Z ≤ n) (htri : (Z : Int) ≤ (X : Int) + (Y : Int)) (hpar : ((X : Int) + (Y : Int) + (Z : Int)) % 2 = 0) (hzero : (((X : Int) == 0) == r) = true) :
    Calls Try.prog 10 #[.slice A0 l0.length c0, .slice A1 l1.length c1, .slice A2 l2.length c2] w fun e w' => e = .returned (.bool true) ∧ Below w.heap.size w w' := by
  have HC0 := Aside0.mk hC0
  have HC1 := Aside0.mk hC1
  have HC2 := Aside0.mk hC2
  have HN0 := Aside0.mk hn
  have HN1 := Aside0.mk hn
  have HN2 := Aside0.mk hn
  have HD01 := Aside0.mk (show (L0.length = L1.length ∧ L0.length ≤ 32768) ∧ wgt (xorB L0 L1) = X from ⟨by omega, hX⟩)
  have HD10 := Aside0.mk (show (L1.length = L0.length ∧ L1.length ≤ 32768) ∧ wgt (xorB L1 L0) = X from ⟨by omega, hX'⟩)
  have HD12 := Aside0.mk (show (L1.length = L2.length ∧ L1.length ≤ 32768) ∧ wgt (xorB L1 L2) = Y from ⟨by omega, hY⟩)
  have HD02 := Aside0.mk (show (L0.length = L2.length ∧ L0.length ≤ 32768) ∧ wgt (xorB L0 L2) = Z from ⟨by omega, hZ⟩)
  have HE01 := Aside0.mk HD01.out.1
  have HEW := Aside0.mk (show (xorB L0 L1).length ≤ 32768 by rw [xorB_length L0 L1 (by omega)]; omega)
  have HWX := Aside0.mk hX
  have HSE := Aside0.mk (show (L0.length = L1.length ∧ L0.length ≤ 32768) ∧ decide (L0 = L1) = r from ⟨by omega, hr⟩)
  have hmin : ∀ W : World, (Builtin.min_ #[3, 3, 3, 3] 3 #[.int .i64 (l0.length : Int), .int .i64 (l1.length : Int), .int .i64 (l2.length : Int), .int .i64 32768]).run Try.prog W = .ok (.int .i64 (n : Int)) W := by
    intro W
    rw [min_four]
    simp [Builtin.min2, hm1, hm2, hm3]
  clear hm1 hm2 hm3
  obtain ⟨i0, hi0, _, hs0, _⟩ := info_parts info4
  clear hC0 hC1 hC2 hL0 hL1 hL2 hX hX' hY hZ hr
  go_enter Try.func10, Try.ntmps10
  go_wp2_with (first
    | (go_at_call 45; (with_reducible refine (foghornlaw01_works.calls true _ rfl).mono ?_); rintro e w1 ⟨rfl, hb⟩; have HB_1 := Aside0.mk (below_step (Below.refl w.heap.size w) hb); clear hb)
    | ((with_reducible refine gate_dst (N := 27) rfl ?_); refine Kd.R_lit Kd.bool _ 4 ?hg (N := 27) ?hd (xs := ([] : List Bool)) (inner := []) (ok := fun _ => True) (okp := fun _ => True) ?hr ?hp (fun _ hk => hk) trivial (Below.refl _ _) (Nat.le_refl _) (by simp) ?_; (case hd => rfl); (case hg => rfl); (case hr => first | (go_simp; done) | (go_simp; rfl)); (case hp => exact (Reps.none _ _)); intro vl2 wl2 ho hb hg_ hnew_; clear hg_ hnew_; have HLo2 := Aside0.mk ho; have HLb2 := Aside0.mk hb; clear ho hb)
    | ((with_reducible refine gate_builtin (b := .append) (xs := #[.tmp 27, .tmp 30]) rfl ?_); at_builtin; refine Kd.R_append_rows Kd.bool (w0 := w1) w1.heap.size rfl (.tmp 27) (.tmp 30) 26 4 (.bool false) 1 rfl Try.underlying26 info4 rfl (by decide) (by omega) vl2 [] L0 _ _ _ (fun _ => True) (fun _ => False) rfl rfl ?aO ?aR (fun _ _ h => h) (fun _ h => h.elim) ?aF ?aB ?aS ?aL ?_; (case aR => exact Kd.C_below HC0.out (below_step HB_1.out HLb2.out)); (case aB => exact HLb2.out); (case aF => exact (fun _ _ => trivial)); (case aO => exact HLo2.out); (case aS => exact HLb2.out.size); (case aL => have := HN0.out; simp; omega); intro vn2 w2 ho hb hg hat; clear hg hat; have hR : Kd.R Kd.bool 4 w2 w1.heap.size (fun _ => True) vn2 L0 := ho; clear ho; obtain ⟨A_X, c_X, rfl⟩ := Kd.R_slice hR; have HX_2 := Aside0.mk hR; have HB_2 := Aside0.mk (below_step HB_1.out hb); clear hb hR)
    | ((with_reducible refine gate_dst (N := 32) rfl ?_); refine Kd.R_lit Kd.bool _ 4 ?hg (N := 32) ?hd (xs := ([] : List Bool)) (inner := []) (ok := fun _ => True) (okp := fun _ => True) ?hr ?hp (fun _ hk => hk) trivial (Below.refl _ _) (Nat.le_refl _) (by simp) ?_; (case hd => rfl); (case hg => rfl); (case hr => first | (go_simp; done) | (go_simp; rfl)); (case hp => exact (Reps.none _ _)); intro vl3 wl3 ho hb hg_ hnew_; clear hg_ hnew_; have HLo3 := Aside0.mk ho; have HLb3 := Aside0.mk hb; clear ho hb)
    | ((with_reducible refine gate_builtin (b := .append) (xs := #[.tmp 32, .tmp 35]) rfl ?_); at_builtin; refine Kd.R_append_rows Kd.bool (w0 := w2) w2.heap.size rfl (.tmp 32) (.tmp 35) 26 4 (.bool false) 1 rfl Try.underlying26 info4 rfl (by decide) (by omega) vl3 [] L1 _ _ _ (fun _ => True) (fun _ => False) rfl rfl ?aO ?aR (fun _ _ h => h) (fun _ h => h.elim) ?aF ?aB ?aS ?aL ?_; (case aR => exact Kd.C_below HC1.out (below_step HB_2.out HLb3.out)); (case aB => exact HLb3.out); (case aF => exact (fun _ _ => trivial)); (case aO => exact HLo3.out); (case aS => exact HLb3.out.size); (case aL => have := HN1.out; simp; omega); intro vn3 w3 ho hb hg hat; clear hg hat; have hR : Kd.R Kd.bool 4 w3 w2.heap.size (fun _ => True) vn3 L1 := ho; clear ho; obtain ⟨A_Y, c_Y, rfl⟩ := Kd.R_slice hR; have HY_3 := Aside0.mk hR; have HX_3 := Aside0.mk (Kd.R_below HX_2.out hb); have HB_3 := Aside0.mk (below_step HB_2.out hb); clear hb hR)
    | ((with_reducible refine gate_dst (N := 37) rfl ?_); refine Kd.R_lit Kd.bool _ 4 ?hg (N := 37) ?hd (xs := ([] : List Bool)) (inner := []) (ok := fun _ => True) (okp := fun _ => True) ?hr ?hp (fun _ hk => hk) trivial (Below.refl _ _) (Nat.le_refl _) (by simp) ?_; (case hd => rfl); (case hg => rfl); (case hr => first | (go_simp; done) | (go_simp; rfl)); (case hp => exact (Reps.none _ _)); intro vl4 wl4 ho hb hg_ hnew_; clear hg_ hnew_; have HLo4 := Aside0.mk ho; have HLb4 := Aside0.mk hb; clear ho hb)
    | ((with_reducible refine gate_builtin (b := .append) (xs := #[.tmp 37, .tmp 40]) rfl ?_); at_builtin; refine Kd.R_append_rows Kd.bool (w0 := w3) w3.heap.size rfl (.tmp 37) (.tmp 40) 26 4 (.bool false) 1 rfl Try.underlying26 info4 rfl (by decide) (by omega) vl4 [] L2 _ _ _ (fun _ => True) (fun _ => False) rfl rfl ?aO ?aR (fun _ _ h => h) (fun _ h => h.elim) ?aF ?aB ?aS ?aL ?_; (case aR => exact Kd.C_below HC2.out (below_step HB_3.out HLb4.out)); (case aB => exact HLb4.out); (case aF => exact (fun _ _ => trivial)); (case aO => exact HLo4.out); (case aS => exact HLb4.out.size); (case aL => have := HN2.out; simp; omega); intro vn4 w4 ho hb hg hat; clear hg hat; have hR : Kd.R Kd.bool 4 w4 w3.heap.size (fun _ => True) vn4 L2 := ho; clear ho; obtain ⟨A_Z, c_Z, rfl⟩ := Kd.R_slice hR; have HZ_4 := Aside0.mk hR; have HX_4 := Aside0.mk (Kd.R_below HX_3.out hb); have HY_4 := Aside0.mk (Kd.R_below HY_3.out hb); have HB_4 := Aside0.mk (below_step HB_3.out hb); clear hb hR)
    | (go_at_call 25; (with_reducible refine (dist_at A_X c_X L0 A_Y c_Y L1 _ _ (Kd.R_reads' HX_4.out).2.2 (Kd.R_reads' HX_4.out).2.1 (Kd.R_reads' HY_4.out).2.2 (Kd.R_reads' HY_4.out).2.1 HD01.out).mono ?_); rintro e w5 ⟨rfl, hb⟩; have HX_5 := Aside0.mk (Kd.R_below HX_4.out hb); have HY_5 := Aside0.mk (Kd.R_below HY_4.out hb); have HZ_5 := Aside0.mk (Kd.R_below HZ_4.out hb); have HB_5 := Aside0.mk (below_step HB_4.out hb); clear hb)
    | (go_at_call 25; (with_reducible refine (dist_at A_Y c_Y L1 A_Z c_Z L2 _ _ (Kd.R_reads' HY_5.out).2.2 (Kd.R_reads' HY_5.out).2.1 (Kd.R_reads' HZ_5.out).2.2 (Kd.R_reads' HZ_5.out).2.1 HD12.out).mono ?_); rintro e w6 ⟨rfl, hb⟩; have HX_6 := Aside0.mk (Kd.R_below HX_5.out hb); have HY_6 := Aside0.mk (Kd.R_below HY_5.out hb); have HZ_6 := Aside0.mk (Kd.R_below HZ_5.out hb); have HB_6 := Aside0.mk (below_step HB_5.out hb); clear hb)
    | (go_at_call 25; (with_reducible refine (dist_at A_X c_X L0 A_Z c_Z L2 _ _ (Kd.R_reads' HX_6.out).2.2 (Kd.R_reads' HX_6.out).2.1 (Kd.R_reads' HZ_6.out).2.2 (Kd.R_reads' HZ_6.out).2.1 HD02.out).mono ?_); rintro e w7 ⟨rfl, hb⟩; have HX_7 := Aside0.mk (Kd.R_below HX_6.out hb); have HY_7 := Aside0.mk (Kd.R_below HY_6.out hb); have HZ_7 := Aside0.mk (Kd.R_below HZ_6.out hb); have HB_7 := Aside0.mk (below_step HB_6.out hb); clear hb)
    | (go_at_call 25; (with_reducible refine (dist_at A_Y c_Y L1 A_X c_X L0 _ _ (Kd.R_reads' HY_7.out).2.2 (Kd.R_reads' HY_7.out).2.1 (Kd.R_reads' HX_7.out).2.2 (Kd.R_reads' HX_7.out).2.1 HD10.out).mono ?_); rintro e w8 ⟨rfl, hb⟩; have HX_8 := Aside0.mk (Kd.R_below HX_7.out hb); have HY_8 := Aside0.mk (Kd.R_below HY_7.out hb); have HZ_8 := Aside0.mk (Kd.R_below HZ_7.out hb); have HB_8 := Aside0.mk (below_step HB_7.out hb); clear hb)
    | (go_at_call 23; (with_reducible refine (xor_at A_X c_X L0 A_Y c_Y L1 _ (Kd.R_reads' HX_8.out).2.2 (Kd.R_reads' HX_8.out).2.1 (Kd.R_reads' HY_8.out).2.2 (Kd.R_reads' HY_8.out).2.1 HE01.out).mono ?_); rintro e w9 ⟨vW, rfl, hR, hb⟩; obtain ⟨A_W, c_W, rfl⟩ := Kd.R_slice hR; have HW_9 := Aside0.mk hR; have HX_9 := Aside0.mk (Kd.R_below HX_8.out hb); have HY_9 := Aside0.mk (Kd.R_below HY_8.out hb); have HZ_9 := Aside0.mk (Kd.R_below HZ_8.out hb); have HB_9 := Aside0.mk (below_step HB_8.out hb); clear hb hR)
    | (go_at_call 29; (with_reducible refine (weight_at' A_W c_W (xorB L0 L1) _ _ (Kd.R_reads' HW_9.out).2.2 (Kd.R_reads' HW_9.out).2.1 HEW.out HWX.out).mono ?_); rintro e w10 ⟨rfl, hb⟩; have HX_10 := Aside0.mk (Kd.R_below HX_9.out hb); have HY_10 := Aside0.mk (Kd.R_below HY_9.out hb); have HZ_10 := Aside0.mk (Kd.R_below HZ_9.out hb); have HW_10 := Aside0.mk (Kd.R_below HW_9.out hb); have HB_10 := Aside0.mk (below_step HB_9.out hb); clear hb)
    | (go_at_call 21; (with_reducible refine (same_at' A_X c_X L0 A_Y c_Y L1 _ _ (Kd.R_reads' HX_10.out).2.2 (Kd.R_reads' HX_10.out).2.1 (Kd.R_reads' HY_10.out).2.2 (Kd.R_reads' HY_10.out).2.1 HSE.out).mono ?_); rintro e w11 ⟨rfl, hb⟩; have HX_11 := Aside0.mk (Kd.R_below HX_10.out hb); have HY_11 := Aside0.mk (Kd.R_below HY_10.out hb); have HZ_11 := Aside0.mk (Kd.R_below HZ_10.out hb); have HW_11 := Aside0.mk (Kd.R_below HW_10.out hb); have HB_11 := Aside0.mk (below_step HB_10.out hb); clear hb))
  go_ret
  exact ⟨rfl, HB_11.out⟩
theorem BitsMetric_walk (A0 : Option Addr) (c0 : Nat) (l0 : List Bool) (A1 : Option Addr) (c1 : Nat) (l1 : List Bool) (A2 : Option Addr) (c2 : Nat) (l2 : List Bool) (w : World) (hr0 : Kd.C Kd.bool w A0 l0.length l0) (hc0 : l0.length ≤ c0) (hy0 : l0.length * 1 ≤ 140737488351232) (hg0 : ∀ y ∈ l0, True) (hr1 : Kd.C Kd.bool w A1 l1.length l1) (hc1 : l1.length ≤ c1) (hy1 : l1.length * 1 ≤ 140737488351232) (hg1 : ∀ y ∈ l1, True) (hr2 : Kd.C Kd.bool w A2 l2.length l2) (hc2 : l2.length ≤ c2) (hy2 : l2.length * 1 ≤ 140737488351232) (hg2 : ∀ y ∈ l2, True) :
    Calls Try.prog 10 #[.slice A0 l0.length c0, .slice A1 l1.length c1, .slice A2 l2.length c2] w fun e w' => e = .returned (.bool true) ∧ Below w.heap.size w w' := by
  obtain ⟨n1, h1⟩ : ∃ n1, (if l1.length < l0.length then l1.length else l0.length) = n1 := ⟨_, rfl⟩
  obtain ⟨n2, h2⟩ : ∃ n2, (if l2.length < n1 then l2.length else n1) = n2 := ⟨_, rfl⟩
  obtain ⟨n, h3⟩ : ∃ n, (if 32768 < n2 then 32768 else n2) = n := ⟨_, rfl⟩
  have e0 : n ≤ l0.length ∧ n ≤ l1.length ∧ n ≤ l2.length ∧ n ≤ 32768 := by
    split at h1 <;> split at h2 <;> split at h3 <;> omega
  obtain ⟨b0, b1, b2, b3⟩ := e0
  have g0 : (l0.take n).length = n := by rw [List.length_take]; omega
  have g1 : (l1.take n).length = n := by rw [List.length_take]; omega
  have g2 : (l2.take n).length = n := by rw [List.length_take]; omega
  have t := tri (l0.take n) (l1.take n) (l2.take n) (by omega) (by omega)
  have lx := wgt_le (xorB (l0.take n) (l1.take n))
  have ly := wgt_le (xorB (l1.take n) (l2.take n))
  have lz := wgt_le (xorB (l0.take n) (l2.take n))
  rw [xorB_length _ _ (by omega)] at lx ly lz
  have hz := xorB_zero (l0.take n) (l1.take n) (by omega)
  refine metric_walk A0 c0 l0 A1 c1 l1 A2 c2 l2 n n1 n2 (l0.take n) (l1.take n) (l2.take n) _ _ _ _ w hc0 hc1 hc2 b0 b1 b2 b3 ?_ ?_ ?_ (C_to hr0 n b0) (C_to hr1 n b1) (C_to hr2 n b2) g0 g1 g2 rfl (by rw [xorB_comm]) rfl rfl rfl (by omega) (by omega) (by omega) (by omega) (by omega) ?_
  · rw [← h1]; split <;> rfl
  · rw [← h2]; split <;> rfl
  · rw [← h3]; split <;> split <;> omega
  · by_cases he : l0.take n = l1.take n
    · rw [hz.2 he, decide_eq_true he]; rfl
    · have : wgt (xorB (l0.take n) (l1.take n)) ≠ 0 := fun h => he (hz.1 h)
      rw [decide_eq_false he, show ((wgt (xorB (l0.take n) (l1.take n)) : Int) == 0) = false by simpa using this]
      rfl
end Go.Proofs.Ytabjfehhibeeiaa.Pure
