/- SumsBytes: any bytes, any two rows, any sums; what came in is of bulk at most 1048576. -/
import Derived.Test.YtjnedgkpakoceaaFogx0
import Derived.Test.YtjnedgkpakoceaaFogx1
import Derived.Test.YtjnedgkpakoceaaFogx2
import Derived.Test.YtjnedgkpakoceaaFogx3
import Derived.Test.YtjnedgkpakoceaaFogx5
import Derived.Test.YtjnedgkpakoceaaFogx6
import Derived.Test.YtjnedgkpakoceaaFogx7
import Derived.Test.YtjnedgkpakoceaaFogx9
import Derived.Test.YtjnedgkpakoceaaRefBytes
import Derived.Test.YtjnedgkpakoceaaHandLent24
import Derived.Test.YtjnedgkpakoceaaCrcAwake
namespace Go.Proofs.Ytjnedgkpakoceaa.Pure
open Go.RowKit Go.Proofs.Ytjnedgkpakoceaa.Fog Go.Proofs.YtjnedgkpakoceaaW.PrintWords Go.Proofs.YtjnedgkpakoceaaW.PrintLast Go.Proofs.YtjnedgkpakoceaaW.PrintMore Go.Proofs.Ytjnedgkpakoceaa.Kit Go.Proofs.Ytjnedgkpakoceaa.Crc
set_option linter.unusedSimpArgs false
set_option linter.unusedVariables false
theorem num16 (l : List Bool) : Ev (fun k => foghornref24_Number.f k (spelt (crc P16 0#16 l))) ((crc P16 0#16 l).toNat : Int) := by
  have h := number_ev (spelt (crc P16 0#16 l)) (by rw [spelt_length]; omega)
  rwa [natOf_spelt] at h
theorem num32 (l : List Bool) : Ev (fun k => foghornref24_Number.f k (spelt (crc P32 0#32 l))) ((crc P32 0#32 l).toNat : Int) := by
  have h := number_ev (spelt (crc P32 0#32 l)) (by rw [spelt_length]; omega)
  rwa [natOf_spelt] at h
set_option maxHeartbeats 8000000 in
set_option maxRecDepth 100000 in
theorem SumsBytes_walk (a0 : ByteArray) (A1_0 : Option Addr) (c1_0 : Nat) (l1_0 : List Bool) (A1_1 : Option Addr) (c1_1 : Nat) (l1_1 : List Bool) (a1_2 a1_3 a1_4 : Int) (w : World) (w0 : a0.size ≤ 140737488351232) (hu0 : a0.size ≤ 1048576)
    (hr1_0 : Kd.C Kd.bool w A1_0 l1_0.length l1_0) (hc1_0 : l1_0.length ≤ c1_0) (hy1_0 : l1_0.length * 1 ≤ 140737488351232) (hg1_0 : ∀ y ∈ l1_0, True) (hu1_0 : (l1_0.map fun _ => 1).sum ≤ 1048576)
    (hr1_1 : Kd.C Kd.bool w A1_1 l1_1.length l1_1) (hc1_1 : l1_1.length ≤ c1_1) (hy1_1 : l1_1.length * 1 ≤ 140737488351232) (hg1_1 : ∀ y ∈ l1_1, True) (hu1_1 : (l1_1.map fun _ => 1).sum ≤ 1048576)
    (w1_2 : (Lit.int .u32 a1_2).wf = true) (w1_3 : (Lit.int .u32 a1_3).wf = true) (w1_4 : (Lit.int .i64 a1_4).wf = true) :
    Calls Try.prog 4 #[.string a0, .agg #[.slice A1_0 l1_0.length c1_0, .slice A1_1 l1_1.length c1_1, .int .u32 a1_2, .int .u32 a1_3, .int .i64 a1_4]] w fun e w' => e = .returned (.bool true) ∧ Below w.heap.size w w' := by
  obtain ⟨x, rfl⟩ : ∃ s : BitVec 32, a1_2 = (s.toNat : Int) := by
    simp [Lit.wf, IntKind.min, IntKind.max, IntKind.signed, IntKind.bits] at w1_2
    exact ⟨BitVec.ofNat 32 a1_2.toNat, by rw [BitVec.toNat_ofNat]; omega⟩
  obtain ⟨y, rfl⟩ : ∃ s : BitVec 32, a1_3 = (s.toNat : Int) := by
    simp [Lit.wf, IntKind.min, IntKind.max, IntKind.signed, IntKind.bits] at w1_3
    exact ⟨BitVec.ofNat 32 a1_3.toNat, by rw [BitVec.toNat_ofNat]; omega⟩
  have hl0 : l1_0.length ≤ 140737488351232 := by omega
  have hl1 : l1_1.length ≤ 140737488351232 := by omega
  obtain ⟨k14, h14⟩ := (of_ev a0 hu0).rounds
  have hob := obits a0 hu0
  obtain ⟨bs, hbs⟩ : ∃ b, bitsOf (natsOf a0) = b := ⟨_, rfl⟩
  rw [hbs] at h14 hob
  obtain ⟨k16, h16⟩ := (rsum16 bs hob).rounds
  obtain ⟨k16b, h16b⟩ := (rsum32 bs hob).rounds
  obtain ⟨k15, h15⟩ := (num16 bs).rounds
  obtain ⟨k15b, h15b⟩ := (num32 bs).rounds
  have h17 := bytes16_f a0 (by omega)
  have h18 := bytes32_f a0 (by omega)
  have e16 : B16 a0 = crc P16 0#16 bs := by unfold B16; rw [hbs]
  have e32 : B32 a0 = crc P32 0#32 bs := by unfold B32; rw [hbs]
  rw [e16] at h17
  rw [e32] at h18
  obtain ⟨n16, hn16⟩ : ∃ n : Int, ((crc P16 0#16 bs).toNat : Int) = n := ⟨_, rfl⟩
  obtain ⟨n32, hn32⟩ : ∃ n : Int, ((crc P32 0#32 bs).toNat : Int) = n := ⟨_, rfl⟩
  have hb16 : 0 ≤ n16 ∧ n16 < 65536 := by have := (crc P16 0#16 bs).isLt; omega
  rw [hn16] at h15 h17
  rw [hn32] at h15b h18
  have h19 := sealed_f a0 (by omega)
  obtain ⟨k20, h20⟩ := (rsealed_ev a0 hu0).rounds
  have h21 := opened_f a0 (by omega)
  obtain ⟨k22, h22⟩ := (ropened_ev a0 (by omega)).rounds
  have h21b := opened_f (sealed a0) (by rw [sealed_size]; omega)
  rw [opened_sealed] at h21b
  obtain ⟨⟨o1, o2⟩, ho⟩ : ∃ o, opened a0 = o := ⟨_, rfl⟩
  rw [ho] at h21 h22
  obtain ⟨sl, hsl⟩ : ∃ s, sealed a0 = s := ⟨_, rfl⟩
  rw [hsl] at h19 h20 h21b
  obtain ⟨⟨r1, r2, r3⟩, hb1, hb2⟩ := burst_both l1_0 l1_1 (by omega) (by omega)
  obtain ⟨k24, h24⟩ := hb1.rounds
  obtain ⟨k25, h25⟩ := hb2.rounds
  obtain ⟨⟨j1, j2⟩, hj1, hj2⟩ := joined_both x y a1_4
  obtain ⟨k11, h11⟩ := hj1.rounds
  obtain ⟨k26, h26⟩ := hj2.rounds
  obtain ⟨k13, h13⟩ := awake_ev.rounds
  have H14 := Aside0.mk h14
  have H16 := Aside0.mk h16
  have H16b := Aside0.mk h16b
  have H15 := Aside0.mk h15
  have H15b := Aside0.mk h15b
  have H17 := Aside0.mk h17
  have H18 := Aside0.mk h18
  have H19 := Aside0.mk h19
  have H20 := Aside0.mk h20
  have H21 := Aside0.mk h21
  have H22 := Aside0.mk h22
  have H21b := Aside0.mk h21b
  have H24 := Aside0.mk h24
  have H25 := Aside0.mk h25
  have H11 := Aside0.mk h11
  have H26 := Aside0.mk h26
  have H13 := Aside0.mk h13
  have HR0 := Aside0.mk hr1_0
  have HR1 := Aside0.mk hr1_1
  clear h14 h16 h16b h15 h15b h17 h18 h19 h20 h21 h22 h21b h24 h25 h11 h26 h13 hr1_0 hr1_1 hb1 hb2 hj1 hj2 ho hsl hn16 hn32 e16 e32 hbs hob hu1_0 hu1_1 w1_2 w1_3 hg1_0 hg1_1 hy1_0 hy1_1
  have f0 : ∀ w1, Below (w.alloc (.cells #[.slice A1_0 l1_0.length c1_0, .slice A1_1 l1_1.length c1_1, .int .u32 (x.toNat : Int), .int .u32 (y.toNat : Int), .int .i64 a1_4] 36)).heap.size (w.alloc (.cells #[.slice A1_0 l1_0.length c1_0, .slice A1_1 l1_1.length c1_1, .int .u32 (x.toNat : Int), .int .u32 (y.toNat : Int), .int .i64 a1_4] 36)) w1 → Below w.heap.size w w1 ∧ w1.heap[w.heap.size]? = some (.cells #[.slice A1_0 l1_0.length c1_0, .slice A1_1 l1_1.length c1_1, .int .u32 (x.toNat : Int), .int .u32 (y.toNat : Int), .int .i64 a1_4] 36 (0, 0)) :=
    fun w1 hb => ⟨below_step (below_alloc (Below.refl _ _) _) hb, blk_below (blk_new w _) hb⟩
  have F0 := Aside0.mk f0
  clear f0
  go_enter Try.func4, Try.ntmps4
  go_wp2_with (first
    | (go_at_call 14; (with_reducible refine (foghornref24_Of.calls _ _ _ _ H14.out).mono ?_); rintro e w1 ⟨v1, rfl, hr, hb⟩; obtain ⟨hB, hf⟩ := F0.out w1 hb; obtain ⟨A1, n1, rfl⟩ := Kd.R_slice hr; have HC1 := Aside0.mk (Kd.R_reads' hr).2.2; have HN1 := Aside0.mk (Kd.R_reads' hr).2.1; clear hb F0 hr; have HB1 := Aside0.mk hB; have HF1 := Aside0.mk hf; clear hB hf)
    | (go_at_call 16; (with_reducible refine (foghornref24_Sum.calls _ _ _ _ _ _ _ HC1.out HN1.out H16.out).mono ?_); rintro e w2 ⟨v2, rfl, hr, hb⟩; obtain ⟨A2, n2, rfl, _⟩ := Kd.Q_slice hr; have HC2 := Aside0.mk (Kd.Q_reads' hr).2.2; have HN2 := Aside0.mk (Kd.Q_reads' hr).2.1; have HB2 := Aside0.mk (below_step HB1.out hb); have HF2 := Aside0.mk (blk_below HF1.out hb); have HC1b := Aside0.mk (Kd.C_below HC1.out hb); clear hb hr HC1)
    | (go_at_call 15; (with_reducible refine (foghornref24_Number.calls _ _ _ _ _ _ HC2.out HN2.out H15.out).mono ?_); rintro e w3 ⟨rfl, ⟨nd3, rfl⟩⟩; have HB3 := Aside0.mk (pw_below_drewN HB2.out nd3); have HF3 := Aside0.mk (show (w2.drewN nd3).heap[w.heap.size]? = _ from HF2.out); have HC3 := Aside0.mk (show Kd.C Kd.bool (w2.drewN nd3) A1 bs.length bs from HC1b.out); clear HC2 HN2 HC1b; obtain ⟨w3, hw3⟩ : ∃ w3, w3 = w2.drewN nd3 := ⟨_, rfl⟩; rw [← hw3] at HB3 HF3 HC3 ⊢; clear hw3)
    | (go_at_call 16; (with_reducible refine (foghornref24_Sum.calls _ _ _ _ _ _ _ HC3.out HN1.out H16b.out).mono ?_); rintro e w4 ⟨v4, rfl, hr, hb⟩; obtain ⟨A4, n4, rfl, _⟩ := Kd.Q_slice hr; have HC4 := Aside0.mk (Kd.Q_reads' hr).2.2; have HN4 := Aside0.mk (Kd.Q_reads' hr).2.1; have HB4 := Aside0.mk (below_step HB3.out hb); have HF4 := Aside0.mk (blk_below HF3.out hb); clear hb hr)
    | (go_at_call 15; (with_reducible refine (foghornref24_Number.calls _ _ _ _ _ _ HC4.out HN4.out H15b.out).mono ?_); rintro e w5 ⟨rfl, ⟨nd5, rfl⟩⟩; have HB5 := Aside0.mk (pw_below_drewN HB4.out nd5); have HF5 := Aside0.mk (show (w4.drewN nd5).heap[w.heap.size]? = _ from HF4.out); clear HC4 HN4; obtain ⟨w5, hw5⟩ : ∃ w5, w5 = w4.drewN nd5 := ⟨_, rfl⟩; rw [← hw5] at HB5 HF5 ⊢; clear hw5)
    | (go_at_call 17; (with_reducible refine (sums_Bytes16.calls _ _ _ H17.out).mono ?_); rintro e w6 ⟨rfl, hb⟩; have HB6 := Aside0.mk (below_step HB5.out hb); have HF6 := Aside0.mk (blk_below HF5.out hb); clear hb)
    | (go_at_call 18; (with_reducible refine (sums_Bytes32.calls _ _ _ H18.out).mono ?_); rintro e w7 ⟨rfl, hb⟩; have HB7 := Aside0.mk (below_step HB6.out hb); have HF7 := Aside0.mk (blk_below HF6.out hb); clear hb)
    | (go_at_call 19; (with_reducible refine (sums_Sealed.calls _ _ _ H19.out).mono ?_); rintro e w8 ⟨rfl, hb⟩; have HB8 := Aside0.mk (below_step HB7.out hb); have HF8 := Aside0.mk (blk_below HF7.out hb); clear hb)
    | (go_at_call 20; (with_reducible refine (foghornref24_Sealed.calls _ _ _ _ H20.out).mono ?_); rintro e w9 ⟨rfl, hb⟩; have HB9 := Aside0.mk (below_step HB8.out hb); have HF9 := Aside0.mk (blk_below HF8.out hb); clear hb HB8 HF8)
    | (go_at_call 21; (with_reducible refine (sums_Opened.calls _ _ _ _ H21.out).mono ?_); rintro e w10 ⟨rfl, hb⟩; have HB10 := Aside0.mk (below_step HB9.out hb); have HF10 := Aside0.mk (blk_below HF9.out hb); clear hb)
    | (go_at_call 22; (with_reducible refine (foghornref24_Opened.calls _ _ _ _ _ H22.out).mono ?_); rintro e w11 ⟨rfl, hb⟩; have HB11 := Aside0.mk (below_step HB10.out hb); have HF11 := Aside0.mk (blk_below HF10.out hb); clear hb)
    | (go_at_call 20; (with_reducible refine (foghornref24_Sealed.calls _ _ _ _ H20.out).mono ?_); rintro e w12 ⟨rfl, hb⟩; have HB12 := Aside0.mk (below_step HB11.out hb); have HF12 := Aside0.mk (blk_below HF11.out hb); clear hb)
    | (go_at_call 21; (with_reducible refine (sums_Opened.calls _ _ _ _ H21b.out).mono ?_); rintro e w13 ⟨rfl, hb⟩; have HB13 := Aside0.mk (below_step HB12.out hb); have HF13 := Aside0.mk (blk_below HF12.out hb); have hc0 := (blk_cell HF13.out 0).trans rfl; clear hb)
    | (go_at_call 23; (with_reducible refine (lent24_calls _ _ _ _ (Kd.C_below HR0.out HB13.out) hc1_0 hl0).mono ?_); rintro e w14 ⟨g, c, rfl, hroom, hg, hgl, hR, hb⟩; clear hc0; have HB14 := Aside0.mk (below_step HB13.out hb); have HF14 := Aside0.mk (blk_below HF13.out hb); have HMC := Aside0.mk (Kd.R_reads' hR).2.2; have HROOM := Aside0.mk hroom; have hc1 := (blk_cell HF14.out 1).trans rfl; clear hroom hg hgl hR hb)
    | (go_at_call 23; (with_reducible refine (lent24_calls _ _ _ _ (Kd.C_below HR1.out HB14.out) hc1_1 hl1).mono ?_); rintro e w15 ⟨g', c', rfl, hroom', hg', hgl', hR', hb⟩; clear hc1; have HB15 := Aside0.mk (below_step HB14.out hb); have HF15 := Aside0.mk (blk_below HF14.out hb); have HMC15 := Aside0.mk (Kd.C_below HMC.out hb); have HNC := Aside0.mk (Kd.R_reads' hR').2.2; have HROOM' := Aside0.mk hroom'; have HT1 := Aside0.mk (show Kd.C Kd.bool w15 (some ⟨g, 0, none⟩) l1_0.length l1_0 by have h := Kd.C_take (m := l1_0.length) HMC15.out (by simp); simpa using h); have HT2 := Aside0.mk (show Kd.C Kd.bool w15 (some ⟨g', 0, none⟩) l1_1.length l1_1 by have h := Kd.C_take (m := l1_1.length) HNC.out (by simp); simpa using h); clear hroom' hg' hgl' hR' hb)
    | (go_at_call 24; (with_reducible refine (sums_Burst.calls _ _ _ _ _ _ _ _ _ _ _ HT1.out (by have := HROOM.out; omega) HT2.out (by have := HROOM'.out; omega) H24.out).mono ?_); rintro e w16 ⟨rfl, ⟨nd16, rfl⟩⟩; have HB16 := Aside0.mk (pw_below_drewN HB15.out nd16); have HF16 := Aside0.mk (show (w15.drewN nd16).heap[w.heap.size]? = _ from HF15.out); have HM16 := Aside0.mk (show Kd.C Kd.bool (w15.drewN nd16) (some ⟨g, 0, none⟩) (l1_0 ++ [true]).length (l1_0 ++ [true]) from HMC15.out); have HN16 := Aside0.mk (show Kd.C Kd.bool (w15.drewN nd16) (some ⟨g', 0, none⟩) (l1_1 ++ [true]).length (l1_1 ++ [true]) from HNC.out); clear HT1 HT2; obtain ⟨w16, hw16⟩ : ∃ w16, w16 = w15.drewN nd16 := ⟨_, rfl⟩; rw [← hw16] at HB16 HF16 HM16 HN16 ⊢; clear hw16; have hc0 := (blk_cell HF16.out 0).trans rfl; have hc1 := (blk_cell HF16.out 1).trans rfl)
    | (go_at_call 25; (with_reducible refine (foghornref24_Burst.calls _ _ _ _ _ _ _ _ _ _ _ (Kd.C_below HR0.out HB16.out) hc1_0 (Kd.C_below HR1.out HB16.out) hc1_1 H25.out).mono ?_); rintro e w17 ⟨rfl, ⟨nd17, rfl⟩⟩; clear hc0 hc1; have HB17 := Aside0.mk (pw_below_drewN HB16.out nd17); have HF17 := Aside0.mk (show (w16.drewN nd17).heap[w.heap.size]? = _ from HF16.out); have HM17 := Aside0.mk (show Kd.C Kd.bool (w16.drewN nd17) (some ⟨g, 0, none⟩) (l1_0 ++ [true]).length (l1_0 ++ [true]) from HM16.out); have HN17 := Aside0.mk (show Kd.C Kd.bool (w16.drewN nd17) (some ⟨g', 0, none⟩) (l1_1 ++ [true]).length (l1_1 ++ [true]) from HN16.out); obtain ⟨w17, hw17⟩ : ∃ w17, w17 = w16.drewN nd17 := ⟨_, rfl⟩; rw [← hw17] at HB17 HF17 HM17 HN17 ⊢; clear hw17; have hc2 := (blk_cell HF17.out 2).trans rfl; have hc3 := (blk_cell HF17.out 3).trans rfl; have hc4 := (blk_cell HF17.out 4).trans rfl)
    | (go_at_call 11; (with_reducible refine (sums_Joined32.calls _ _ _ _ _ _ _ H11.out).mono ?_); rintro e w18 ⟨rfl, ⟨nd18, rfl⟩⟩; clear hc2 hc3 hc4; have HB18 := Aside0.mk (pw_below_drewN HB17.out nd18); have HF18 := Aside0.mk (show (w17.drewN nd18).heap[w.heap.size]? = _ from HF17.out); have HM18 := Aside0.mk (show Kd.C Kd.bool (w17.drewN nd18) (some ⟨g, 0, none⟩) (l1_0 ++ [true]).length (l1_0 ++ [true]) from HM17.out); have HN18 := Aside0.mk (show Kd.C Kd.bool (w17.drewN nd18) (some ⟨g', 0, none⟩) (l1_1 ++ [true]).length (l1_1 ++ [true]) from HN17.out); obtain ⟨w18, hw18⟩ : ∃ w18, w18 = w17.drewN nd18 := ⟨_, rfl⟩; rw [← hw18] at HB18 HF18 HM18 HN18 ⊢; clear hw18; have hc2 := (blk_cell HF18.out 2).trans rfl; have hc3 := (blk_cell HF18.out 3).trans rfl; have hc4 := (blk_cell HF18.out 4).trans rfl)
    | (go_at_call 26; (with_reducible refine (foghornref24_Joined.calls _ _ _ _ _ _ _ H26.out).mono ?_); rintro e w19 ⟨rfl, hb⟩; clear hc2 hc3 hc4; have HB19 := Aside0.mk (below_step HB18.out hb); have HF19 := Aside0.mk (blk_below HF18.out hb); have HM19 := Aside0.mk (Kd.C_below HM18.out hb); have HN19 := Aside0.mk (Kd.C_below HN18.out hb); clear hb; have hc0 := (blk_cell HF19.out 0).trans rfl; have hc1 := (blk_cell HF19.out 1).trans rfl)
    | (go_at_call 27; (with_reducible refine (kept24_calls _ _ _ _ _ _ HM19.out HROOM.out (Kd.C_below HR0.out HB19.out) hc1_0 hl0).mono ?_); rintro e w20 ⟨rfl, hb⟩; clear hc0 hc1; have HB20 := Aside0.mk (below_step HB19.out hb); have HF20 := Aside0.mk (blk_below HF19.out hb); have HN20 := Aside0.mk (Kd.C_below HN19.out hb); clear hb; have hc1 := (blk_cell HF20.out 1).trans rfl)
    | (go_at_call 27; (with_reducible refine (kept24_calls _ _ _ _ _ _ HN20.out HROOM'.out (Kd.C_below HR1.out HB20.out) hc1_1 hl1).mono ?_); rintro e w21 ⟨rfl, hb⟩; clear hc1; have HB21 := Aside0.mk (below_step HB20.out hb); clear hb)
    | (go_at_call 13; (with_reducible refine (foghornlaw24_awake.calls _ _ _ H13.out).mono ?_); rintro e w22 ⟨rfl, hb⟩; have HB22 := Aside0.mk (below_step HB21.out hb); clear hb))
  go_ret
  exact ⟨rfl, HB22.out⟩
end Go.Proofs.Ytjnedgkpakoceaa.Pure
