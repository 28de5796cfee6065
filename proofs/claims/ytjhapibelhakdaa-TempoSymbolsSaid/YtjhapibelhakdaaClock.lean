/- Clocks: the program and the reference alike. -/
import Derived.Test.YtjhapibelhakdaaFogx0
import Derived.Test.YtjhapibelhakdaaFogx1
import Derived.Test.YtjhapibelhakdaaFogx2
import Derived.Test.YtjhapibelhakdaaPureTempoInstants
import Derived.Test.YtjhapibelhakdaaPick
namespace Go.Proofs.Ytjhapibelhakdaa.Pure
open Go.RowKit Go.Proofs.Ytjhapibelhakdaa.Fog Go.Proofs.YtjhapibelhakdaaW.PrintWords Go.Proofs.YtjhapibelhakdaaW.PrintLast Go.Proofs.YtjhapibelhakdaaW.PrintMore Go.Proofs.Ytjhapibelhakdaa.Kit
set_option linter.unusedVariables false
set_option linter.unusedSimpArgs false
theorem cell_under {w w' : World} {a : Addr} {v : Value} (hc : w.cell? a = some v) (hb : Below w.heap.size w w') : w'.cell? a = some v := (hb.cell (World.block_lt_of_cell? w a hc)).trans hc
def mayC (F Q D k : Int) : Prop := 0 ≤ F ∧ F ≤ 65536 ∧ 1 ≤ D ∧ D ≤ Q ∧ Q ≤ 65536 ∧ 0 ≤ k ∧ k ≤ 65536
def mayR (F Q D : Int) : Prop := 0 ≤ F ∧ F ≤ 65536 ∧ 1 ≤ D ∧ D ≤ Q ∧ Q ≤ 65536
theorem may_no (F Q D k : Int) (h : ¬ mayC F Q D k) : tempo_Clock_may.f F Q D k = some false := by
  unfold mayC at h
  unfold tempo_Clock_may.f
  repeat' split
  all_goals first | rfl | (rw [decide_eq_false (by omega)])
theorem refmay_yes (F Q D : Int) (h : mayR F Q D) : foghornref12_may.f F Q D = some true := by
  unfold mayR at h
  unfold foghornref12_may.f
  rw [if_pos (by omega), if_pos (by omega), if_pos (by omega), if_pos (by omega), if_pos (by omega), if_pos (by omega), decide_eq_true (by omega)]
theorem refmay_no (F Q D : Int) (h : ¬ mayR F Q D) : foghornref12_may.f F Q D = some false := by
  unfold mayR at h
  unfold foghornref12_may.f
  repeat' split
  all_goals first | rfl | (rw [decide_eq_false (by omega)])
theorem mayC_nat {F Q D k : Int} (h : mayC F Q D k) : ∃ a b c d : Nat, F = a ∧ Q = b ∧ D = c ∧ k = d ∧ a ≤ 65536 ∧ 1 ≤ c ∧ c ≤ b ∧ b ≤ 65536 ∧ d ≤ 65536 := by
  obtain ⟨h1, h2, h3, h4, h5, h6, h7⟩ := h
  exact ⟨F.toNat, Q.toNat, D.toNat, k.toNat, by omega, by omega, by omega, by omega, by omega, by omega, by omega, by omega, by omega⟩
theorem refat_f (F Q D k : Nat) (hF : F ≤ 65536) (hD : 1 ≤ D) (hQ2 : Q ≤ 65536) (hk : k ≤ 65536) : foghornref12_at.f F Q D k = some (atN F Q D k : Int) := by
  unfold foghornref12_at.f
  have h1 : k * Q ≤ 65536 * 65536 := Nat.mul_le_mul hk hQ2
  have h2 : k * Q / D ≤ k * Q := Nat.div_le_self _ _
  have e1 : (k : Int) * (Q : Int) = ((k * Q : Nat) : Int) := by rw [Int.natCast_mul]
  rw [if_neg (by omega), e1, w64n (by omega), tdiv_nat, w64n (by omega), show (F : Int) + ((k * Q / D : Nat) : Int) = ((atN F Q D k : Nat) : Int) by unfold atN; omega, w64n (by unfold atN; omega)]
theorem at_both (F Q D k : Int) : ∃ r1 r2, tempo_At.f F Q D k = some (r1, r2) ∧ foghornref12_At.f F Q D k = some (r1, r2) := by
  by_cases h : mayC F Q D k
  · have hR : mayR F Q D := ⟨h.1, h.2.1, h.2.2.1, h.2.2.2.1, h.2.2.2.2.1⟩
    obtain ⟨a, b, c, d, rfl, rfl, rfl, rfl, h1, h2, h3, h4, h5⟩ := mayC_nat h
    refine ⟨_, _, at_f a b c d h1 h2 h3 h4 h5, ?_⟩
    unfold foghornref12_At.f
    rw [refmay_yes _ _ _ hR]
    simp only [Option.bind_some, if_true]
    rw [if_neg (by omega), if_neg (by omega), refat_f a b c d h1 h2 h4 h5]
    rfl
  · refine ⟨0, 1, ?_, ?_⟩
    · unfold tempo_At.f
      rw [may_no _ _ _ _ h]
      rfl
    · unfold foghornref12_At.f
      by_cases hR : mayR F Q D
      · rw [refmay_yes _ _ _ hR]
        simp only [Option.bind_some, if_true]
        by_cases h0 : k < 0
        · rw [if_pos h0]
        · rw [if_neg h0, if_pos (by unfold mayC at h; unfold mayR at hR; omega)]
      · rw [refmay_no _ _ _ hR]
        rfl
theorem longN_le (Q D k : Nat) (hD : 1 ≤ D) : longN Q D k ≤ k := by
  unfold longN
  have h1 : Q % D < D := Nat.mod_lt _ (by omega)
  calc k * (Q % D) / D ≤ k * D / D := Nat.div_le_div_right (Nat.mul_le_mul_left _ (by omega))
    _ = k := Nat.mul_div_cancel _ (by omega)
theorem long_l0 (F Q D : Nat) (n : Nat) (hF : F ≤ 65536) (hD : 1 ≤ D) (hQ : D ≤ Q) (hQ2 : Q ≤ 65536) (hn : n < 65536 + 1) : ∀ (m x : Nat), x + m = n → foghornref12_Long.l0 (m + 1) (n : Int) (longN Q D x : Int) (x : Int) F Q D = some ((longN Q D n : Int), 0)
  | 0, x, hx => by
    obtain rfl : x = n := by omega
    unfold foghornref12_Long.l0
    rw [if_neg (by omega)]
  | m + 1, x, hx => by
    unfold foghornref12_Long.l0
    have ih := long_l0 F Q D n hF hD hQ hQ2 hn m (x + 1) (by omega)
    have s1 := at_split F Q D x hD
    have s2 := at_split F Q D (x + 1) hD
    have hs : (x + 1) * (Q / D) = x * (Q / D) + Q / D := Nat.succ_mul _ _
    have hst := long_step Q D x hD
    have hl := longN_le Q D x hD
    have hl2 := longN_le Q D (x + 1) hD
    have hq : Q / D ≤ 65536 := Nat.le_trans (Nat.div_le_self _ _) hQ2
    rw [if_pos (by omega), w64 (by omega) (by omega), show (x : Int) + 1 = ((x + 1 : Nat) : Int) by omega, refat_f F Q D (x + 1) hF hD hQ2 (by omega), refat_f F Q D x hF hD hQ2 (by omega)]
    simp only [Option.bind_some]
    rw [if_neg (by omega), tdiv_nat]
    generalize x * (Q / D) = p at *
    generalize Q / D = q at *
    rw [w64n (by omega), show ((atN F Q D (x + 1) : Nat) : Int) - ((atN F Q D x : Nat) : Int) = (q : Int) + ((longN Q D (x + 1) : Nat) : Int) - ((longN Q D x : Nat) : Int) by omega, w64 (by omega) (by omega)]
    rcases hst with h | h
    · rw [if_neg (by omega), show ((longN Q D x : Nat) : Int) = ((longN Q D (x + 1) : Nat) : Int) by omega]
      exact ih
    · rw [if_pos (by omega), show ((longN Q D x : Nat) : Int) + 1 = ((longN Q D (x + 1) : Nat) : Int) by omega, w64n (by omega)]
      exact ih
theorem long_both (F Q D k : Int) : ∃ r1 r2 m, tempo_Long.f F Q D k = some (r1, r2) ∧ foghornref12_Long.f m F Q D k = some (r1, r2) := by
  by_cases h : mayC F Q D k
  · have hR : mayR F Q D := ⟨h.1, h.2.1, h.2.2.1, h.2.2.2.1, h.2.2.2.2.1⟩
    obtain ⟨a, b, c, d, rfl, rfl, rfl, rfl, h1, h2, h3, h4, h5⟩ := mayC_nat h
    refine ⟨_, _, d + 1 + 1, long_f a b c d h1 h2 h3 h4 h5, ?_⟩
    unfold foghornref12_Long.f
    rw [refmay_yes _ _ _ hR]
    simp only [Option.bind_some, if_true]
    rw [if_neg (by omega), decide_eq_false (by omega)]
    show foghornref12_Long.l0 (d + 1) d 0 0 a b c = _
    have h := long_l0 a b c d h1 h2 h3 h4 (by omega) d 0 (by omega)
    rw [show longN b c 0 = 0 by unfold longN; rw [Nat.zero_mul, Nat.zero_div]] at h
    exact h
  · refine ⟨0, 1, 1, ?_, ?_⟩
    · unfold tempo_Long.f
      rw [may_no _ _ _ _ h]
      rfl
    · unfold foghornref12_Long.f
      by_cases hR : mayR F Q D
      · rw [refmay_yes _ _ _ hR]
        simp only [Option.bind_some, if_true]
        by_cases h0 : k < 0
        · rw [if_pos h0]; rfl
        · rw [if_neg h0, decide_eq_true (by unfold mayC at h; unfold mayR at hR; omega)]; rfl
      · rw [refmay_no _ _ _ hR]
        rfl
set_option maxHeartbeats 4000000 in
set_option maxRecDepth 100000 in
theorem pick_err (A : Option Addr) (n c : Nat) (F Q D m : Int) (w : World) (h : ¬ (mayC F Q D m ∧ n ≤ 65536)) :
    Calls Try.prog 30 #[.agg #[.int .i64 F, .int .i64 Q, .int .i64 D], .slice A n c, .int .i64 m] w fun e w' => e = .returned (.tuple #[.slice none 0 0, .int .i64 1]) ∧ Below w.heap.size w w' := by
  by_cases hm : mayC F Q D m
  · have q0 : ¬ n ≤ 65536 := fun h' => h ⟨hm, h'⟩
    obtain ⟨a, b, c, d, rfl, rfl, rfl, rfl, h1, h2, h3, h4, h5⟩ := mayC_nat hm
    have HM := Aside0.mk (may_f a b c d h1 h2 h3 h4 h5)
    have q1 : (65536 : Int) < (n : Int) := by omega
    clear h hm h1 h2 h3 h4 h5
    go_enter Try.func30, Try.ntmps30
    go_wp2_with (go_at_call 31; (with_reducible refine (tempo_Clock_may.calls _ _ _ _ _ _ HM.out).mono ?_); rintro e w1 ⟨rfl, hb⟩; (have HB1 := Aside0.mk (below_then ((Below.refl w.heap.size w).alloc (Nat.le_refl _) _) (by simp) hb)); clear hb)
    go_ret2
    exact ⟨rfl, HB1.out⟩
  · have HM := Aside0.mk (may_no F Q D m hm)
    clear h hm
    go_enter Try.func30, Try.ntmps30
    go_wp2_with (go_at_call 31; (with_reducible refine (tempo_Clock_may.calls _ _ _ _ _ _ HM.out).mono ?_); rintro e w1 ⟨rfl, hb⟩; (have HB1 := Aside0.mk (below_then ((Below.refl w.heap.size w).alloc (Nat.le_refl _) _) (by simp) hb)); clear hb)
    go_ret2
    exact ⟨rfl, HB1.out⟩
set_option maxHeartbeats 4000000 in
set_option maxRecDepth 100000 in
theorem refpick_err (A : Option Addr) (n c : Nat) (F Q D m : Int) (w : World) (h : ¬ (mayC F Q D m ∧ n ≤ 65536)) :
    Calls Try.prog 34 #[.agg #[.int .i64 F, .int .i64 Q, .int .i64 D], .slice A n c, .int .i64 m] w fun e w' => e = .returned (.tuple #[.slice none 0 0, .int .i64 1]) ∧ Below w.heap.size w w' := by
  by_cases hR : mayR F Q D
  · have HM := Aside0.mk (refmay_yes F Q D hR)
    by_cases q1 : (65536 : Int) < (n : Int)
    · clear h hR
      go_enter Try.func34, Try.ntmps34
      go_wp2_with (go_at_call 32; (with_reducible refine (foghornref12_may.calls _ _ _ _ _ HM.out).mono ?_); rintro e w1 ⟨rfl, hb⟩; (have HB1 := Aside0.mk (below_then ((Below.refl w.heap.size w).alloc (Nat.le_refl _) _) (by simp) hb)); clear hb)
      go_ret2
      exact ⟨rfl, HB1.out⟩
    by_cases q2 : m < 0
    · clear h hR
      go_enter Try.func34, Try.ntmps34
      go_wp2_with (go_at_call 32; (with_reducible refine (foghornref12_may.calls _ _ _ _ _ HM.out).mono ?_); rintro e w1 ⟨rfl, hb⟩; (have HB1 := Aside0.mk (below_then ((Below.refl w.heap.size w).alloc (Nat.le_refl _) _) (by simp) hb)); clear hb)
      go_ret2
      exact ⟨rfl, HB1.out⟩
    have q3 : (65536 : Int) < m := by unfold mayC at h; unfold mayR at hR; omega
    clear h hR
    go_enter Try.func34, Try.ntmps34
    go_wp2_with (go_at_call 32; (with_reducible refine (foghornref12_may.calls _ _ _ _ _ HM.out).mono ?_); rintro e w1 ⟨rfl, hb⟩; (have HB1 := Aside0.mk (below_then ((Below.refl w.heap.size w).alloc (Nat.le_refl _) _) (by simp) hb)); clear hb)
    go_ret2
    exact ⟨rfl, HB1.out⟩
  · have HM := Aside0.mk (refmay_no F Q D hR)
    clear h hR
    go_enter Try.func34, Try.ntmps34
    go_wp2_with (go_at_call 32; (with_reducible refine (foghornref12_may.calls _ _ _ _ _ HM.out).mono ?_); rintro e w1 ⟨rfl, hb⟩; (have HB1 := Aside0.mk (below_then ((Below.refl w.heap.size w).alloc (Nat.le_refl _) _) (by simp) hb)); clear hb)
    go_ret2
    exact ⟨rfl, HB1.out⟩
set_option maxHeartbeats 4000000 in
set_option maxRecDepth 100000 in
theorem refpick_calls (A : Option Addr) (n c F Q D m : Nat) (l : List Smp) (w : World) (hl : l.length = n) (h : Kd.C KS w A n l) (hn : n ≤ 65536) (hF : F ≤ 65536) (hD : 1 ≤ D) (hQ : D ≤ Q) (hQ2 : Q ≤ 65536) (hm : m ≤ 65536) :
    Calls Try.prog 34 #[.agg #[.int .i64 (F : Int), .int .i64 (Q : Int), .int .i64 (D : Int)], .slice A n c, .int .i64 (m : Int)] w fun e w' => ∃ v, e = .returned (.tuple #[v, .int .i64 0]) ∧ Kd.R KS 43 w' w.heap.size (fun _ => True) v (pickV F Q D l m) ∧ Below w.heap.size w w' := by
  have HC := Aside0.mk h
  have HLL := Aside0.mk hl
  have HMAY := Aside0.mk (refmay_yes F Q D (by unfold mayR; omega))
  have HAT := Aside0.mk (show ∀ k : Nat, k ≤ 65536 → foghornref12_at.f F Q D k = some (atN F Q D k : Int) from fun k hk => refat_f F Q D k hF hD hQ2 hk)
  have q1 : ¬ (65536 : Int) < (n : Int) := by omega
  have q2 : ¬ (m : Int) < 0 := by omega
  have q3 : ¬ (65536 : Int) < (m : Int) := by omega
  have HM := Aside0.mk (And.intro hm hn)
  clear h hl hF hD hQ hQ2 hm hn
  have hb0 := (Below.refl w.heap.size w).alloc (Nat.le_refl _) (.cells #[.int .i64 (F : Int), .int .i64 (Q : Int), .int .i64 (D : Int)] 32)
  have HX0 := Aside0.mk (blk_new w (.cells #[.int .i64 (F : Int), .int .i64 (Q : Int), .int .i64 (D : Int)] 32))
  have HB0 := Aside0.mk hb0
  clear hb0
  go_enter Try.func34, Try.ntmps34
  go_wp2_with (go_at_call 32; (with_reducible refine (foghornref12_may.calls _ _ _ _ _ HMAY.out).mono ?_); rintro e w1 ⟨rfl, hb⟩; (have HB1 := Aside0.mk (below_step HB0.out hb)); (have HX1 := Aside0.mk (blk_below HX0.out hb)); clear hb)
  have HCW := Aside0.mk (Kd.C_below HC.out HB1.out)
  go_loopw [8, 9, 10] (fun v i t wr => ∃ k : Nat, k ≤ m ∧ i = .int .i64 (k : Int) ∧ Aside0 (Kd.R KS 43 wr w1.heap.size (fun _ => True) v (pickV F Q D l k)) ∧ Aside0 (Below w1.heap.size w1 wr)) (fun _ i _ _ => m - (intOf i).toNat)
  case atStart => exact ⟨0, Nat.zero_le _, rfl, ⟨Kd.R_nil _ _ _ _ _⟩, ⟨Below.refl _ _⟩⟩
  case round =>
    obtain ⟨k, hk, rfl, HO, HB⟩ := hrel
    have HX := Aside0.mk (blk_below HX1.out HB.out)
    have hm := HM.out.1
    by_cases hlt : k < m
    · have q4 : (k : Int) < (m : Int) := by omega
      have hks : IntKind.i64.wrap ((k : Int) + 1) = (k : Int) + 1 := by rw [IntKind.wrap_i64]; omega
      have z0 := (blk_cell HX.out 0).trans rfl
      have z1 := (blk_cell HX.out 1).trans rfl
      have z2 := (blk_cell HX.out 2).trans rfl
      obtain ⟨T, hT⟩ : ∃ T, atN F Q D k = T := ⟨_, rfl⟩
      have hATk := HAT.out k (by omega)
      rw [hT] at hATk
      have HATk := Aside0.mk hATk
      have hsu := pickV_succ F Q D l k
      rw [show F + k * Q / D = T from hT] at hsu
      have HK := Aside0.mk hlt
      obtain ⟨B0, cB, hv⟩ := Kd.R_slice HO.out
      rw [pickV_length] at hv
      subst hv
      by_cases hTn : T < n
      · have q5 : (T : Int) < (n : Int) := by omega
        obtain ⟨ad, hA, y1, y2⟩ := smp_at (Kd.C_below HCW.out HB.out) T hTn
        subst hA
        have hgd : l.getD T lostS = l.getD T s0 := by
          rw [List.getD_eq_getElem?_getD, List.getD_eq_getElem?_getD, List.getElem?_eq_getElem (by have := HLL.out; omega)]; rfl
        rw [hgd] at hsu
        obtain ⟨x, hx⟩ : ∃ x, l.getD T s0 = x := ⟨_, rfl⟩
        rw [hx] at hsu y1 y2
        have HSU := Aside0.mk hsu
        clear hx hgd hsu hT hATk
        go_wp2_with (first
          | (go_at_call 33; (with_reducible refine (foghornref12_at.calls _ _ _ _ _ _ HATk.out).mono ?_); rintro e w2 ⟨rfl, hb⟩; (have HB2 := Aside0.mk (below_step HB.out hb)); (have HO2 := Aside0.mk (Kd.R_below HO.out hb)); (replace y1 := (cell_under y1 hb)); (replace y2 := (cell_under y2 hb)); clear hb)
          | ((with_reducible refine gate_builtin (b := .append) (xs := #[.tmp 39, .tmp 44]) rfl ?_); at_builtin; refine Kd.R_append KS (w0 := w1) w1.heap.size rfl (.tmp 39) (.tmp 44) 35 43 (.agg #[.complex .f64 0 0, .bool false]) 24 rfl Try.underlying35 sampleInfo rfl (by decide) (by omega) _ (pickV F Q D l k) x [.complex .f64 x.1.1 x.1.2, .bool x.2] (fun _ => True) (fun _ => False) rfl rfl ?aP (fun _ hk => hk.elim) ?aF ?aO ?aB ?aS ?aL ?_; (case aP => exact ⟨[.complex .f64 x.1.1 x.1.2], [.bool x.2], rfl, rfl, rfl⟩); (case aB => exact HB2.out); (case aF => exact (fun _ _ => trivial)); (case aO => exact HO2.out); (case aS => exact HB2.out.size); (case aL => rw [pickV_length]; have h1 := HM.out; have h2 := HK.out; omega); intro v3 w3 ho hb_ hg_ hat; clear hg_ hat; (rw [← HSU.out] at ho); (have HO4 := Aside0.mk ho); (have HB4 := Aside0.mk hb_); clear ho hb_))
        exact ⟨⟨k + 1, hlt, by go_num, HO4, HB4⟩, by show m - ((k : Int) + 1).toNat < m - (k : Int).toNat; omega⟩
      · have q5 : ¬ (T : Int) < (n : Int) := by omega
        have hgd : l.getD T lostS = lostS := by
          rw [List.getD_eq_getElem?_getD, List.getElem?_eq_none (by have := HLL.out; omega)]; rfl
        rw [hgd] at hsu
        have HSU := Aside0.mk hsu
        clear hgd hsu hT hATk
        go_wp2_with (first
          | (go_at_call 33; (with_reducible refine (foghornref12_at.calls _ _ _ _ _ _ HATk.out).mono ?_); rintro e w2 ⟨rfl, hb⟩; (have HB2 := Aside0.mk (below_step HB.out hb)); (have HO2 := Aside0.mk (Kd.R_below HO.out hb)); clear hb)
          | ((with_reducible refine gate_builtin (b := .append) (xs := #[.tmp 46, .tmp 48]) rfl ?_); at_builtin; refine Kd.R_append KS (w0 := w1) w1.heap.size rfl (.tmp 46) (.tmp 48) 35 43 (.agg #[.complex .f64 0 0, .bool false]) 24 rfl Try.underlying35 sampleInfo rfl (by decide) (by omega) _ (pickV F Q D l k) lostS [.complex .f64 0 0, .bool true] (fun _ => True) (fun _ => False) rfl rfl ?aP (fun _ hk => hk.elim) ?aF ?aO ?aB ?aS ?aL ?_; (case aP => exact ⟨[.complex .f64 0 0], [.bool true], rfl, rfl, rfl⟩); (case aB => exact HB2.out); (case aF => exact (fun _ _ => trivial)); (case aO => exact HO2.out); (case aS => exact HB2.out.size); (case aL => rw [pickV_length]; have h1 := HM.out; have h2 := HK.out; omega); intro v3 w3 ho hb_ hg_ hat; clear hg_ hat; (rw [← HSU.out] at ho); (have HO4 := Aside0.mk ho); (have HB4 := Aside0.mk hb_); clear ho hb_))
        exact ⟨⟨k + 1, hlt, by go_num, HO4, HB4⟩, by show m - ((k : Int) + 1).toNat < m - (k : Int).toNat; omega⟩
    · have hkm : k = m := by omega
      subst hkm
      go_wp2
      go_ret2
      exact ⟨_, rfl, Kd.R_lower HO.out HB1.out.size, below_step HB1.out HB.out⟩
def PicksAs (f : FuncId) (l : List Smp) (n : Nat) (F Q D m : Int) (L : List Smp) (r : Int) : Prop :=
  ∀ (W : World) (A : Option Addr) (c : Nat), n ≤ c → Kd.C KS W A n l → Calls Try.prog f #[.agg #[.int .i64 F, .int .i64 Q, .int .i64 D], .slice A n c, .int .i64 m] W fun e w' => ∃ (A' : Option Addr) (c' : Nat), e = .returned (.tuple #[.slice A' L.length c', .int .i64 r]) ∧ Kd.R KS 43 w' W.heap.size (fun _ => True) (.slice A' L.length c') L ∧ Below W.heap.size W w'
theorem pick_both (l : List Smp) (n : Nat) (F Q D m : Int) (hl : l.length = n) : ∃ (L : List Smp) (r : Int), L.length ≤ 67584 ∧ PicksAs 30 l n F Q D m L r ∧ PicksAs 34 l n F Q D m L r := by
  by_cases h : mayC F Q D m ∧ n ≤ 65536
  · obtain ⟨hm, hn⟩ := h
    obtain ⟨a, b, c, d, rfl, rfl, rfl, rfl, h1, h2, h3, h4, h5⟩ := mayC_nat hm
    refine ⟨pickV a b c l d, 0, by rw [pickV_length]; omega, fun W A cc hc hC => ?_, fun W A cc hc hC => ?_⟩
    · refine (pick_calls A n cc a b c d l W hl hC hc hn h1 h2 h3 h4 h5).mono ?_
      rintro e w' ⟨v, rfl, hR, hB⟩
      obtain ⟨A', c', rfl⟩ := Kd.R_slice hR
      exact ⟨A', c', rfl, hR, hB⟩
    · refine (refpick_calls A n cc a b c d l W hl hC hn h1 h2 h3 h4 h5).mono ?_
      rintro e w' ⟨v, rfl, hR, hB⟩
      obtain ⟨A', c', rfl⟩ := Kd.R_slice hR
      exact ⟨A', c', rfl, hR, hB⟩
  · refine ⟨[], 1, Nat.zero_le _, fun W A c _ _ => (pick_err A n c F Q D m W h).mono ?_, fun W A c _ _ => (refpick_err A n c F Q D m W h).mono ?_⟩
    all_goals
      rintro e w' ⟨rfl, hB⟩
      exact ⟨none, 0, rfl, Kd.R_nil _ _ _ _ _, hB⟩
end Go.Proofs.Ytjhapibelhakdaa.Pure
