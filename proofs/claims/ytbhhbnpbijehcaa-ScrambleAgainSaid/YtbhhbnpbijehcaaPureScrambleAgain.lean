/- ScrambleAgain: applied twice they are as they were; cut anywhere it is the same. -/
import Derived.Test.YtbhhbnpbijehcaaFogx0
import Derived.Test.YtbhhbnpbijehcaaPureScrambleJumps
import Derived.Test.YtbhhbnpbijehcaaScrApply
namespace Go.Proofs.Ytbhhbnpbijehcaa.Pure
open Go.RowKit Go.Proofs.Ytbhhbnpbijehcaa.Fog Go.Proofs.YtbhhbnpbijehcaaW.PrintWords Go.Proofs.YtbhhbnpbijehcaaW.PrintLast Go.Proofs.YtbhhbnpbijehcaaW.PrintMore Go.Proofs.Ytbhhbnpbijehcaa.Kit
set_option linter.unusedVariables false
set_option linter.unusedSimpArgs false
theorem xorB_xorB : ∀ (a r : List Bool), a.length = r.length → xorB (xorB a r) r = a
  | [], _, _ => rfl
  | x :: a, [], h => by simp at h
  | x :: a, y :: r, h => by
    have ih := xorB_xorB a r (by simpa using h)
    unfold xorB at ih ⊢
    rw [List.zipWith_cons_cons, List.zipWith_cons_cons, ih]
    cases x <;> cases y <;> rfl
theorem xorB_append (a b r s : List Bool) (h : a.length = r.length) : xorB (a ++ b) (r ++ s) = xorB a r ++ xorB b s := by
  unfold xorB
  exact List.zipWith_append h
theorem again_split (W T S K : Nat) (l : List Bool) (h : K ≤ l.length) : xorB (l.take K) (Go.Scr.rowV W T S K) ++ xorB (l.drop K) (Go.Scr.rowV W T (Go.Scr.iter (Go.Scr.step W T) K S) (l.length - K)) = xorB l (Go.Scr.rowV W T S l.length) := by
  rw [← xorB_append _ _ _ _ (by rw [List.length_take, Go.Scr.rowV_length]; omega), List.take_append_drop, ← Go.Scr.rowV_add, show K + (l.length - K) = l.length by omega]
theorem C_takeN {w : World} {A : Option Addr} {n : Nat} {l : List Bool} (h : Kd.C Kd.bool w A n l) (m : Nat) (hm : m ≤ n) : Kd.C Kd.bool w A m (l.take m) := by
  have hl := h.1
  subst hl
  have h2 := Kd.C_take h hm
  rwa [List.length_take, Nat.min_eq_left hm] at h2
theorem C_dropN {w : World} {A : Option Addr} {n c : Nat} {l : List Bool} (h : Kd.C Kd.bool w A n l) (m : Nat) (hm : m ≤ n) (hc : n ≤ c) : Kd.C Kd.bool w (if c = m then A else Option.map (fun x => x.add m) A) (n - m) (l.drop m) := by
  have hl := h.1
  subst hl
  have h2 := Kd.C_drop h hm hc
  rw [List.length_drop, show m * Kd.bool.sz = m from Nat.mul_one m] at h2
  exact h2
def AppC (W T S n : Nat) (l out : List Bool) (S' : Nat) : Prop := ∀ (b : Nat) (w : World) (A : Option Addr) (c : Nat), Reg w b W T S → n ≤ c → (∀ w', Moved b w w' → Kd.C Kd.bool w' A n l) →
    Calls Try.prog 21 #[.pointer (some ⟨b, 0, none⟩), .slice A n c] w fun e w' => ∃ v, e = .returned (.tuple #[v, .int .i64 0]) ∧ Kd.R Kd.bool 4 w' w.heap.size (fun _ => True) v out ∧ Reg w' b W T S' ∧ Moved b w w'
theorem AppC.at {W T S n : Nat} {l out : List Bool} {S' : Nat} (h : AppC W T S n l out S') (b : Nat) (w : World) (A : Option Addr) (c : Nat) (hr : Reg w b W T S) (hc : n ≤ c) (hC : ∀ w', Moved b w w' → Kd.C Kd.bool w' A n l) :
    Calls Try.prog 21 #[.pointer (some ⟨b, 0, none⟩), .slice A n c] w fun e w' => ∃ v, e = .returned (.tuple #[v, .int .i64 0]) ∧ Kd.R Kd.bool 4 w' w.heap.size (fun _ => True) v out ∧ Reg w' b W T S' ∧ Moved b w w' := h b w A c hr hc hC
theorem appC {W T S n : Nat} {l : List Bool} (hW : 2 ≤ W ∧ W ≤ 32) (hs : S < 2 ^ W) (ht : T < 4294967296) (hl : l.length = n) (hn : n ≤ 32768) : AppC W T S n l (xorB l (Go.Scr.rowV W T S n)) (Go.Scr.iter (Go.Scr.step W T) n S) :=
  fun b w A c h hc hC => apply_calls b W T S A n c l w h hW hs ht hl hn hc hC
def SameC (n : Nat) (l : List Bool) : Prop := ∀ (A : Option Addr) (c : Nat) (B : Option Addr) (d : Nat) (w : World), Kd.C Kd.bool w A n l → n ≤ c → Kd.C Kd.bool w B n l → n ≤ d →
    Calls Try.prog 22 #[.slice A n c, .slice B n d] w fun e w' => e = .returned (.bool true) ∧ Below w.heap.size w w'
theorem SameC.at {n : Nat} {l : List Bool} (h : SameC n l) (A : Option Addr) (c : Nat) (B : Option Addr) (d : Nat) (w : World) (h1 : Kd.C Kd.bool w A n l) (hc : n ≤ c) (h2 : Kd.C Kd.bool w B n l) (hd : n ≤ d) :
    Calls Try.prog 22 #[.slice A n c, .slice B n d] w fun e w' => e = .returned (.bool true) ∧ Below w.heap.size w w' := h A c B d w h1 hc h2 hd
theorem sameC {n : Nat} {l : List Bool} (hl : l.length = n) (hn : n ≤ 32768) : SameC n l := fun A c B d w h1 hc h2 hd => by
  subst hl
  exact same_in A c B d l w h1 hc h2 hd (by omega)
theorem row_C {w : World} {base n c : Nat} {A : Option Addr} {l : List Bool} (h : Kd.R Kd.bool 4 w base (fun _ => True) (.slice A n c) l) : Kd.C Kd.bool w A n l := by
  obtain ⟨e, _, h3⟩ := Kd.R_reads' h
  subst e
  exact h3
/-- A row elder than a register. -/
theorem row_elder {b base m : Nat} {v w : World} {x : Value} {l : List Bool} (h : Kd.R Kd.bool 4 v base (fun _ => True) x l) (k : Moved b v w) (ho : ∀ i, x.ownBlock = some i → i < m) (hb : m ≤ b) : Kd.R Kd.bool 4 w base (fun _ => True) x l :=
  row_moved h k fun i hi => by have := ho i hi; omega
set_option maxHeartbeats 16000000 in
set_option maxRecDepth 100000 in
theorem again_walk (a0 : Int) (t0 s0 : Nat) (A3 : Option Addr) (c3 : Nat) (l3 : List Bool) (a4 : Int) (w : World) (ht0 : t0 < 4294967296) (hs0 : s0 < 4294967296) (hr3 : Kd.C Kd.bool w A3 l3.length l3) (hc3 : l3.length ≤ c3) :
    Calls Try.prog 6 #[.int .i64 a0, .int .u32 (t0 : Int), .int .u32 (s0 : Int), .slice A3 l3.length c3, .int .i64 a4] w fun e w' => e = .returned (.bool true) ∧ Below w.heap.size w w' := by
  have HONE := Aside0.mk (show ∀ w, Calls Try.prog 11 #[.int .i64 a0, .int .u32 (t0 : Int), .int .u32 (s0 : Int)] w fun e w' => ∃ b, e = .returned (.pointer (some ⟨b, 0, none⟩)) ∧ w.heap.size ≤ b ∧ b < w'.heap.size ∧ Reg w' b (fitW a0) (fitT a0 t0) (fitS a0 s0) ∧ Below w.heap.size w w' from fun w => one_calls a0 t0 s0 w ht0 hs0)
  have hk1 := fit_takes a0 t0 s0
  obtain ⟨W, hW⟩ : ∃ W, fitW a0 = W := ⟨_, rfl⟩
  obtain ⟨T, hT⟩ : ∃ T, fitT a0 t0 = T := ⟨_, rfl⟩
  obtain ⟨S, hS⟩ : ∃ S, fitS a0 s0 = S := ⟨_, rfl⟩
  rw [hW, hT, hS] at hk1 HONE
  have hF : Go.Scr.Fit W T := Takes.fit hk1
  have hWr : 2 ≤ W ∧ W ≤ 32 := ⟨hF.lo, hF.hi⟩
  have hSl : S < 2 ^ W := by have := hk1.sl; rwa [Int.toNat_natCast] at this
  have hTl : T < 2 ^ W := by have := hk1.tl; rwa [Int.toNat_natCast] at this
  have h32 : 2 ^ W ≤ 2 ^ 32 := Nat.pow_le_pow_right (by decide) hWr.2
  have hT32 : T < 4294967296 := by omega
  have hlw := fun j => Go.Scr.iter_lt (fun a ha => Go.Scr.step_lt W T a hWr.1 ha) j S hSl
  obtain ⟨LL, hLL⟩ : ∃ LL, l3.take 32768 = LL := ⟨_, rfl⟩
  obtain ⟨NL, hNL⟩ : ∃ NL, LL.length = NL := ⟨_, rfl⟩
  have hN : NL ≤ 32768 := by rw [← hNL, ← hLL, List.length_take]; omega
  obtain ⟨K, hK⟩ : ∃ K : Nat, IntKind.u64.wrap a4 % ((NL : Int) + 1) = (K : Int) := ⟨(IntKind.u64.wrap a4 % ((NL : Int) + 1)).toNat, by have := Int.emod_nonneg (IntKind.u64.wrap a4) (show (NL : Int) + 1 ≠ 0 by omega); omega⟩
  have hKN : K ≤ NL := by have := Int.emod_lt_of_pos (IntKind.u64.wrap a4) (show 0 < (NL : Int) + 1 by omega); omega
  have HKm := Aside0.mk (show Int.tmod (IntKind.u64.wrap a4) ((NL : Int) + 1) = (K : Int) by rw [Int.tmod_eq_emod_of_nonneg (u64_range a4).1]; exact hK)
  have HK0 := Aside0.mk hK
  clear hK
  have HKi := Aside0.mk (show IntKind.i64.wrap (K : Int) = (K : Int) by rw [IntKind.wrap_i64]; omega)
  have HKw := Aside0.mk (show wrap64 (K : Int) = (K : Int) from w64n (by omega))
  have Hu64 := Aside0.mk (show IntKind.u64.wrap ((NL : Int) + 1) = (NL : Int) + 1 by simp [IntKind.wrap, IntKind.signed, IntKind.bits]; omega)
  have hkt : (LL.take K).length = K := by rw [List.length_take]; omega
  have hkd : (LL.drop K).length = NL - K := by rw [List.length_drop]; omega
  have HAX := Aside0.mk (appC (W := W) (T := T) (S := S) (l := LL) hWr hSl hT32 hNL hN)
  have HLA := Aside0.mk (show (xorB LL (Go.Scr.rowV W T S NL)).length = NL by rw [xorB_length _ _ (by rw [Go.Scr.rowV_length]; exact hNL)]; exact hNL)
  have HAY := Aside0.mk (show AppC W T S NL (xorB LL (Go.Scr.rowV W T S NL)) LL (Go.Scr.iter (Go.Scr.step W T) NL S) from by
    have h := appC (W := W) (T := T) (S := S) hWr hSl hT32 HLA.out hN
    rwa [xorB_xorB _ _ (by rw [Go.Scr.rowV_length]; exact hNL)] at h)
  have HAZ := Aside0.mk (appC (W := W) (T := T) (S := S) (l := LL.take K) hWr hSl hT32 hkt (by omega))
  have HAV := Aside0.mk (show AppC W T (Go.Scr.iter (Go.Scr.step W T) K S) (NL - K) (LL.drop K) (xorB (LL.drop K) (Go.Scr.rowV W T (Go.Scr.iter (Go.Scr.step W T) K S) (NL - K))) (Go.Scr.iter (Go.Scr.step W T) NL S) from by
    have h := appC (W := W) (T := T) (S := Go.Scr.iter (Go.Scr.step W T) K S) (l := LL.drop K) hWr (hlw K) hT32 hkd (by omega)
    rwa [← Go.Scr.iter_add, show K + (NL - K) = NL by omega] at h)
  have HLC := Aside0.mk (show (xorB (LL.take K) (Go.Scr.rowV W T S K)).length = K by rw [xorB_length _ _ (by rw [Go.Scr.rowV_length]; exact hkt)]; exact hkt)
  have HLD := Aside0.mk (show (xorB (LL.drop K) (Go.Scr.rowV W T (Go.Scr.iter (Go.Scr.step W T) K S) (NL - K))).length = NL - K by rw [xorB_length _ _ (by rw [Go.Scr.rowV_length]; exact hkd)]; exact hkd)
  have HSP := Aside0.mk (show xorB (LL.take K) (Go.Scr.rowV W T S K) ++ xorB (LL.drop K) (Go.Scr.rowV W T (Go.Scr.iter (Go.Scr.step W T) K S) (NL - K)) = xorB LL (Go.Scr.rowV W T S NL) from by
    have h := again_split W T S K LL (by omega)
    rwa [hNL] at h)
  have HSL := Aside0.mk (sameC hNL hN)
  have HSA := Aside0.mk (sameC HLA.out hN)
  obtain ⟨LA, hLA⟩ : ∃ l, xorB LL (Go.Scr.rowV W T S NL) = l := ⟨_, rfl⟩
  obtain ⟨LC, hLC⟩ : ∃ l, xorB (LL.take K) (Go.Scr.rowV W T S K) = l := ⟨_, rfl⟩
  obtain ⟨LD, hLD⟩ : ∃ l, xorB (LL.drop K) (Go.Scr.rowV W T (Go.Scr.iter (Go.Scr.step W T) K S) (NL - K)) = l := ⟨_, rfl⟩
  rw [hLA] at HAX HLA HAY HSP HSA
  rw [hLC] at HAZ HLC HSP
  rw [hLD] at HAV HLD HSP
  obtain ⟨FN, hFN⟩ : ∃ l, Go.Scr.iter (Go.Scr.step W T) NL S = l := ⟨_, rfl⟩
  obtain ⟨FK, hFK⟩ : ∃ l, Go.Scr.iter (Go.Scr.step W T) K S = l := ⟨_, rfl⟩
  rw [hFN] at HAX HAY
  rw [hFK] at HAZ
  rw [hFN, hFK] at HAV
  have HNL := Aside0.mk hNL
  have HNN := Aside0.mk hN
  have HKN := Aside0.mk hKN
  obtain ⟨NK, hNK⟩ : ∃ n, NL - K = n := ⟨_, rfl⟩
  rw [hNK] at HAV HLD
  have HNK := Aside0.mk hNK
  have hNK1 : (NL : Int) - (K : Int) = (NK : Int) := by omega
  have hNm : NL = min 32768 l3.length := by rw [← hNL, ← hLL, List.length_take]
  have HC3 := Aside0.mk (show Kd.C Kd.bool w A3 NL LL from by
    have h := C_takeN hr3 NL (by omega)
    have e : l3.take NL = LL := by
      rw [← hLL]
      rcases Nat.lt_or_ge 32768 l3.length with h | h
      · rw [show NL = 32768 by omega]
      · rw [List.take_of_length_le (by omega), List.take_of_length_le h]
    rwa [e] at h)
  have hmin : min (l3.length : Int) 32768 = (NL : Int) := by omega
  clear hk1 hW hT hS hF hSl hTl h32 ht0 hs0 hLA hLC hLD hFN hFK hlw hT32 hkt hkd hLL hr3 hNL
  clear hNm
  have hKm := HKm.out
  have hK0 := HK0.out
  have hKi := HKi.out
  have hKw := HKw.out
  have hu64 := Hu64.out
  go_enter Try.func6, Try.ntmps6
  go_wp2_with (first
    | (go_at_call 10; (with_reducible refine (works_calls _).mono ?_); rintro e w1 ⟨rfl, hb⟩; have HB1 := Aside0.mk hb; clear hb)
    | ((with_reducible refine gate_dst (N := 24) rfl ?_); refine Kd.R_lit Kd.bool (w0 := w1) w1.heap.size 4 ?hg (N := 24) ?hd (xs := ([] : List Bool)) (inner := []) (ok := fun _ => True) (okp := fun _ => True) ?hr ?hp (fun _ hk => hk) trivial (Below.refl _ _) (Nat.le_refl _) (by simp) ?_; (case hd => rfl); (case hg => rfl); (case hr => first | (go_simp; done) | (go_simp; rfl)); (case hp => exact (Reps.none _ _)); intro vl1 wl1 ho hb hg_ hnew_; clear hg_ hnew_; have HLo1 := Aside0.mk ho; have HLb1 := Aside0.mk hb; clear ho hb)
    | ((with_reducible refine gate_builtin (b := .append) (xs := #[.tmp 24, .tmp 29]) rfl ?_); at_builtin; refine Kd.R_append_rows Kd.bool (w0 := w1) w1.heap.size rfl (.tmp 24) (.tmp 29) 27 4 (.bool false) 1 rfl Try.underlying27 info4 rfl (by decide) (by omega) vl1 [] LL _ _ _ (fun _ => True) (fun _ => False) rfl rfl ?aO ?aR (fun _ _ h => h) (fun _ h => h.elim) ?aF ?aB ?aS ?aL ?_; (case aR => exact (Kd.C_below HC3.out (below_step HB1.out HLb1.out))); (case aB => exact HLb1.out); (case aF => exact (fun _ _ => trivial)); (case aO => exact HLo1.out); (case aS => exact HLb1.out.size); (case aL => (have := HNN.out; simp only [List.length_nil]; omega)); intro vn w2 ho hb hg hat; clear hg hat; have hR : Kd.R Kd.bool 4 w2 w1.heap.size (fun _ => True) vn LL := ho; clear ho; obtain ⟨A_L, c_L, rfl⟩ := Kd.R_slice hR; have hcL := (Kd.R_reads' hR).2.1; rw [HNL.out] at hR hcL ⊢; have HL2 := Aside0.mk hR; have HB2 := Aside0.mk (below_step HB1.out hb); clear hb hR)
    | (go_at_call 11; (with_reducible refine (HONE.out w2).mono ?_); rintro e w3 ⟨x, rfl, hxb, hxl, hx, hb⟩; have HX3 := Aside0.mk hx; have HXB := Aside0.mk (Nat.le_trans HB2.out.size hxb); have HXO := Aside0.mk hxb; have HL3 := Aside0.mk (Kd.R_below HL2.out hb); have HOW := Aside0.mk (show ∀ i, (Value.slice A_L NL c_L).ownBlock = some i → i < w2.heap.size from fun i hi => ((Kd.R_bound HL2.out).1 i hi).2.2.1); have HB3 := Aside0.mk (below_step HB2.out hb); have HZ23 := Aside0.mk hb.size; clear hx hb hxb hxl)
    | (go_at_call 11; (with_reducible refine (HONE.out w3).mono ?_); rintro e w4 ⟨y, rfl, hyb, hyl, hy, hb⟩; have HY4 := Aside0.mk hy; have HX4 := Aside0.mk (HX3.out.at_below hb); have HXY := Aside0.mk (Nat.ne_of_lt (Nat.lt_of_lt_of_le HX3.out.lt hyb)); have HYB := Aside0.mk (Nat.le_trans HB3.out.size hyb); have HYO := Aside0.mk (Nat.le_trans HZ23.out hyb); have HL4 := Aside0.mk (Kd.R_below HL3.out hb); have HB4 := Aside0.mk (below_step HB3.out hb); have HZ24 := Aside0.mk (Nat.le_trans HZ23.out hb.size); clear hy hb hyb hyl)
    | (go_at_call 11; (with_reducible refine (HONE.out w4).mono ?_); rintro e w5 ⟨z, rfl, hzb, hzl, hz, hb⟩; have HZ5 := Aside0.mk hz; have HX5 := Aside0.mk (HX4.out.at_below hb); have HY5 := Aside0.mk (HY4.out.at_below hb); have HXZ := Aside0.mk (Nat.ne_of_lt (Nat.lt_of_lt_of_le HX4.out.lt hzb)); have HYZ := Aside0.mk (Nat.ne_of_lt (Nat.lt_of_lt_of_le HY4.out.lt hzb)); have HZB := Aside0.mk (Nat.le_trans HB4.out.size hzb); have HZO := Aside0.mk (Nat.le_trans HZ24.out hzb); have HL5 := Aside0.mk (Kd.R_below HL4.out hb); have HB5 := Aside0.mk (below_step HB4.out hb); clear hz hb hzb hzl)
    | (go_at_call 21; clear hK0 hKm hKw hKi hu64; (with_reducible refine (HAX.out.at x _ A_L c_L HX5.out hcL (fun w' hm => row_C (row_elder HL5.out hm HOW.out HXO.out))).mono ?_); rintro e w6 ⟨v6, rfl, hR, hx, hm⟩; obtain ⟨A_A, c_A, rfl⟩ := Kd.R_slice hR; have hcA := (Kd.R_reads' hR).2.1; rw [HLA.out] at hR hcA ⊢; have HA6 := Aside0.mk hR; have HX6 := Aside0.mk hx; have HY6 := Aside0.mk (HY5.out.at_moved hm (Ne.symm HXY.out)); have HZ6 := Aside0.mk (HZ5.out.at_moved hm (Ne.symm HXZ.out)); have HL6 := Aside0.mk (row_elder HL5.out hm HOW.out HXO.out); have HB6 := Aside0.mk (HB5.out.trans (hm.below HXB.out HB5.out.size)); have HY5L := Aside0.mk HY5.out.lt; have HZ5L := Aside0.mk HZ5.out.lt; have hKc : (K : Int) ≤ (c_L : Int) := (by have := HKN.out; omega); clear hR hx hm)
    | (go_at_call 21; (with_reducible refine (HAY.out.at y _ A_A c_A HY6.out hcA (fun w' hm => row_C (row_moved' HA6.out hm HY5L.out))).mono ?_); rintro e w7 ⟨v7, rfl, hR, hx, hm⟩; obtain ⟨A_B, c_B, rfl⟩ := Kd.R_slice hR; have hcB := (Kd.R_reads' hR).2.1; rw [HNL.out] at hR hcB ⊢; have HB7r := Aside0.mk hR; have HY7 := Aside0.mk hx; have HX7 := Aside0.mk (HX6.out.at_moved hm HXY.out); have HZ7 := Aside0.mk (HZ6.out.at_moved hm (Ne.symm HYZ.out)); have HL7 := Aside0.mk (row_elder HL6.out hm HOW.out HYO.out); have HA7 := Aside0.mk (row_moved' HA6.out hm HY5L.out); have HB7 := Aside0.mk (HB6.out.trans (hm.below HYB.out HB6.out.size)); have HZ6L := Aside0.mk HZ6.out.lt; clear hR hx hm)
    | (go_at_call 21; (with_reducible refine (HAZ.out.at z _ A_L c_L HZ7.out (Nat.le_trans HKN.out hcL) (fun w' hm => C_takeN (row_C (row_elder HL7.out hm HOW.out HZO.out)) K HKN.out)).mono ?_); rintro e w8 ⟨v8, rfl, hR, hx, hm⟩; obtain ⟨A_C, c_C, rfl⟩ := Kd.R_slice hR; have hcC := (Kd.R_reads' hR).2.1; rw [HLC.out] at hR hcC ⊢; have HC8 := Aside0.mk hR; have HZ8 := Aside0.mk hx; have HX8 := Aside0.mk (HX7.out.at_moved hm HXZ.out); have HY8 := Aside0.mk (HY7.out.at_moved hm HYZ.out); have HL8 := Aside0.mk (row_elder HL7.out hm HOW.out HZO.out); have HA8 := Aside0.mk (row_moved' HA7.out hm HZ5L.out); have HB8r := Aside0.mk (row_moved' HB7r.out hm HZ6L.out); have HB8 := Aside0.mk (HB7.out.trans (hm.below HZB.out HB7.out.size)); have HZ7L := Aside0.mk HZ7.out.lt; clear hR hx hm)
    | (go_at_call 21; guard_hyp HB8; (with_reducible refine (HAV.out.at z w8 (if c_L = K then A_L else Option.map (fun x => x.add K) A_L) (c_L - K) HZ8.out (by have := HNK.out; omega) (fun w' hm => by have h := C_dropN (row_C (row_elder HL8.out hm HOW.out HZO.out)) K HKN.out hcL; rw [HNK.out] at h; exact h)).mono ?_); rintro e w9 ⟨v9, rfl, hR, hx, hm⟩; obtain ⟨A_D, c_D, rfl⟩ := Kd.R_slice hR; have hcD := (Kd.R_reads' hR).2.1; rw [HLD.out] at hR hcD ⊢; have HD9 := Aside0.mk hR; have HZ9 := Aside0.mk hx; have HX9 := Aside0.mk (HX8.out.at_moved hm HXZ.out); have HY9 := Aside0.mk (HY8.out.at_moved hm HYZ.out); have HL9 := Aside0.mk (row_elder HL8.out hm HOW.out HZO.out); have HA9 := Aside0.mk (row_moved' HA8.out hm HZ5L.out); have HB9r := Aside0.mk (row_moved' HB8r.out hm HZ6L.out); have HC9 := Aside0.mk (row_moved' HC8.out hm HZ7L.out); have HB9 := Aside0.mk (HB8.out.trans (hm.below HZB.out HB8.out.size)); clear hR hx hm)
    | (go_at_call 22; guard_hyp HC9; (with_reducible refine (HSL.out.at A_B c_B A_L c_L w9 (row_C HB9r.out) hcB (row_C HL9.out) hcL).mono ?_); rintro e w10 ⟨rfl, hb⟩; have HX10 := Aside0.mk (HX9.out.at_below hb); have HY10 := Aside0.mk (HY9.out.at_below hb); have HZ10 := Aside0.mk (HZ9.out.at_below hb); have HA10 := Aside0.mk (Kd.R_below HA9.out hb); have HC10 := Aside0.mk (Kd.R_below HC9.out hb); have HD10 := Aside0.mk (Kd.R_below HD9.out hb); have HB10 := Aside0.mk (below_step HB9.out hb); clear hb)
    | ((with_reducible refine gate_dst (N := 109) rfl ?_); refine gate_guard (by first | rfl | kernel_rfl) ?_; refine Kd.R_lit Kd.bool (w0 := w10) w10.heap.size 4 ?hg (N := 109) ?hd (xs := ([] : List Bool)) (inner := []) (ok := fun _ => True) (okp := fun _ => True) ?hr ?hp (fun _ hk => hk) trivial (Below.refl _ _) (Nat.le_refl _) (by simp) ?_; (case hd => rfl); (case hg => rfl); (case hr => first | (go_simp; done) | (go_simp; rfl)); (case hp => exact (Reps.none _ _)); intro vl2 wl2 ho hb hg_ hnew_; clear hg_ hnew_; have HLo2 := Aside0.mk ho; have HLb2 := Aside0.mk hb; clear ho hb)
    | ((with_reducible refine gate_builtin (b := .append) (xs := #[.tmp 109, .tmp 110]) rfl ?_); at_builtin; refine gate_guard (by first | rfl | kernel_rfl) ?_; refine Kd.R_append_rows Kd.bool (w0 := w10) w10.heap.size rfl (.tmp 109) (.tmp 110) 27 4 (.bool false) 1 rfl Try.underlying27 info4 rfl (by decide) (by omega) vl2 [] LC _ _ _ (fun _ => True) (fun _ => False) rfl rfl ?aO ?aR (fun _ _ h => h) (fun _ h => h.elim) ?aF ?aB ?aS ?aL ?_; (case aR => exact (row_C (Kd.R_below HC10.out HLb2.out))); (case aB => exact HLb2.out); (case aF => exact (fun _ _ => trivial)); (case aO => exact HLo2.out); (case aS => exact HLb2.out.size); (case aL => (have := HNN.out; have := HKN.out; simp only [List.length_nil]; omega)); intro vn w11 ho hb hg hat; clear hg hat; have hR : Kd.R Kd.bool 4 w11 w10.heap.size (fun _ => True) vn LC := ho; clear ho; have HE11 := Aside0.mk hR; have HB11 := Aside0.mk hb; clear hb hR)
    | ((with_reducible refine gate_builtin (b := .append) (xs := #[.tmp 111, .tmp 112]) rfl ?_); at_builtin; refine gate_guard (by first | rfl | kernel_rfl) ?_; refine Kd.R_append_rows Kd.bool (w0 := w10) w10.heap.size rfl (.tmp 111) (.tmp 112) 27 4 (.bool false) 1 rfl Try.underlying27 info4 rfl (by decide) (by omega) vn LC LD _ _ _ (fun _ => True) (fun _ => False) rfl rfl ?aO ?aR (fun _ _ h => h) (fun _ h => h.elim) ?aF ?aB ?aS ?aL ?_; (case aR => exact (row_C (Kd.R_below HD10.out HB11.out))); (case aB => exact HB11.out); (case aF => exact (fun _ _ => trivial)); (case aO => exact HE11.out); (case aS => exact HB11.out.size); (case aL => (have := HNN.out; have := HKN.out; have := HNK.out; have := HLC.out; omega)); intro vm w12 ho hb hg hat; clear hg hat; rw [HSP.out] at ho; obtain ⟨A_E, c_E, rfl⟩ := Kd.R_slice ho; have hcE := (Kd.R_reads' ho).2.1; rw [HLA.out] at ho hcE ⊢; have HE12 := Aside0.mk ho; have HA12 := Aside0.mk (Kd.R_below HA10.out hb); have HX12 := Aside0.mk (HX10.out.at_below hb); have HY12 := Aside0.mk (HY10.out.at_below hb); have HZ12 := Aside0.mk (HZ10.out.at_below hb); have HB12 := Aside0.mk (below_step HB10.out hb); clear ho hb)
    | (go_at_call 22; guard_hyp HE12; (with_reducible refine (HSA.out.at A_E c_E A_A c_A w12 (row_C HE12.out) hcE (row_C HA12.out) hcA).mono ?_); rintro e w13 ⟨rfl, hb⟩; have HX13 := Aside0.mk (HX12.out.at_below hb); have HY13 := Aside0.mk (HY12.out.at_below hb); have HZ13 := Aside0.mk (HZ12.out.at_below hb); have HB13 := Aside0.mk (below_step HB12.out hb); clear hb)
    | (go_at_call 12; (with_reducible refine (state_calls x W T FN w13 HX13.out).mono ?_); rintro e w' ⟨rfl, hw⟩; subst w')
    | (go_at_call 12; (with_reducible refine (state_calls y W T FN w13 HY13.out).mono ?_); rintro e w' ⟨rfl, hw⟩; subst w')
    | (go_at_call 12; (with_reducible refine (state_calls z W T FN w13 HZ13.out).mono ?_); rintro e w' ⟨rfl, hw⟩; subst w'))
  all_goals
    go_ret
    exact ⟨rfl, HB13.out⟩
theorem ScrambleAgain_walk (a0 a1 a2 : Int) (A3 : Option Addr) (c3 : Nat) (l3 : List Bool) (a4 : Int) (w : World) (w0 : (Lit.int .i64 a0).wf = true) (w1 : (Lit.int .u32 a1).wf = true) (w2 : (Lit.int .u32 a2).wf = true) (hr3 : Kd.C Kd.bool w A3 l3.length l3) (hc3 : l3.length ≤ c3) (hy3 : l3.length * 1 ≤ 140737488351232) (hg3 : ∀ y ∈ l3, True) (w4 : (Lit.int .i64 a4).wf = true) :
    Calls Try.prog 6 #[.int .i64 a0, .int .u32 a1, .int .u32 a2, .slice A3 l3.length c3, .int .i64 a4] w fun e w' => e = .returned (.bool true) ∧ Below w.heap.size w w' := by
  obtain ⟨n1, rfl, h1⟩ := wf_u32 w1
  obtain ⟨n2, rfl, h2⟩ := wf_u32 w2
  exact again_walk a0 n1 n2 A3 c3 l3 a4 w h1 h2 hr3 hc3
end Go.Proofs.Ytbhhbnpbijehcaa.Pure
