/- FrameNever: a burst is refused. No condition. -/
import Derived.Test.YtclhkbjcemgmnaaFogx0
import Derived.Test.YtclhkbjcemgmnaaFogx11
import Derived.Test.YtclhkbjcemgmnaaFogx4
import Derived.Test.YtclhkbjcemgmnaaHandPack
import Derived.Test.YtclhkbjcemgmnaaHandWorks
import Derived.Test.YtclhkbjcemgmnaaNever
import Derived.Test.YtclhkbjcemgmnaaPieces
import Derived.StillTailTactics
import Derived.Outline
namespace Go.Proofs.Ytclhkbjcemgmnaa.Pure
open Go.RowKit Go.Proofs.Ytclhkbjcemgmnaa.Fog Go.Proofs.YtclhkbjcemgmnaaW.PrintWords Go.Proofs.YtclhkbjcemgmnaaW.PrintLast Go.Proofs.YtclhkbjcemgmnaaW.PrintMore Go.Proofs.Ytclhkbjcemgmnaa.Kit Go.Proofs.Ytclhkbjcemgmnaa.Crc
set_option linter.unusedSimpArgs false
set_option linter.unusedVariables false
theorem fits_of_packed (a0 a1 : Int) (m : Bool) (s : ByteArray) (h : 1 ≤ a0 ∧ a0 ≤ 15) (h1 : 0 ≤ a1 ∧ a1 < 256) (hs : s.size ≤ 240) : fitsB (packed a0 a1 m s) = true ∧ lenOf (packed a0 a1 m s) = (packed a0 a1 m s).size := by
  have h2 := parsed_packed a0 a1 m s ⟨#[]⟩ h h1 hs
  have e : packed a0 a1 m s ++ (⟨#[]⟩ : ByteArray) = packed a0 a1 m s := by
    apply ByteArray.ext
    simp
  have h3 := (packed_bt a0 a1 m s ⟨#[]⟩ h h1 hs).2.2
  rw [e] at h2 h3
  constructor
  · cases hf : fitsB (packed a0 a1 m s) with
    | true => rfl
    | false =>
      unfold parsed at h2
      rw [hf, if_neg (by decide)] at h2
      simp at h2
  · unfold lenOf
    rw [h3, packed_size]
    omega
/-- A row of bytes as it is turned. -/
def bitI (xs : List Int) (j : Nat) : Bool := (xs.getD (j / 8) 0).toNat.testBit (7 - j % 8)
def Turned (s : ByteArray) (xs : List Int) (at_ i : Nat) (tb : Bool) : Prop :=
  xs.length = s.size ∧ (∀ k, k < s.size → 0 ≤ xs.getD k 0 ∧ xs.getD k 0 < 256) ∧ (∀ j, j < 8 * s.size → (j < at_ ∨ at_ + i ≤ j) → bitI xs j = bitI (bytesOf s) j) ∧ (tb = false → xs = bytesOf s) ∧ (tb = true → ∃ j, j < at_ + i ∧ j < 8 * s.size ∧ bitI xs j ≠ bitI (bytesOf s) j)
theorem turned_start (s : ByteArray) (at_ : Nat) : Turned s (bytesOf s) at_ 0 false := by
  refine ⟨bytesOf_length s, fun k hk => ?_, fun j hj h => rfl, fun _ => rfl, fun h => by cases h⟩
  have := rd_bytesOf s (k : Int)
  unfold rd at this
  rw [Int.toNat_natCast] at this
  rw [this]
  have := bt_range s (k : Int)
  omega
theorem turned_keep (s : ByteArray) (xs : List Int) (at_ i : Nat) (tb : Bool) (h : Turned s xs at_ i tb) : Turned s xs at_ (i + 1) tb := by
  obtain ⟨h1, h2, h3, h4, h5⟩ := h
  exact ⟨h1, h2, fun j hj ho => h3 j hj (by omega), h4, fun ht => by obtain ⟨j, k1, k2, k3⟩ := h5 ht; exact ⟨j, by omega, k2, k3⟩⟩
theorem turned_flip (s : ByteArray) (xs : List Int) (at_ i : Nat) (tb : Bool) (h : Turned s xs at_ i tb) (hi : at_ + i < 8 * s.size) :
    Turned s (xs.set ((at_ + i) / 8) (Go.bits .xor .u8 (xs.getD ((at_ + i) / 8) 0) ((2 ^ (7 - (at_ + i) % 8) : Nat) : Int))) at_ (i + 1) true := by
  obtain ⟨h1, h2, h3, h4, h5⟩ := h
  have hq : (at_ + i) / 8 < s.size := by omega
  obtain ⟨b0, b1⟩ := h2 _ hq
  obtain ⟨c, hc⟩ := Int.eq_ofNat_of_zero_le b0
  rw [hc] at b1 ⊢
  obtain ⟨d, hd, hd2, hd3⟩ := turn_bit c ((at_ + i) % 8) (by omega) (by omega)
  rw [hd]
  have hg : ∀ k, (xs.set ((at_ + i) / 8) (d : Int)).getD k 0 = if k = (at_ + i) / 8 then (d : Int) else xs.getD k 0 := by
    intro k
    rw [List.getD_eq_getElem?_getD, List.getElem?_set]
    by_cases e : (at_ + i) / 8 = k
    · subst e
      simp [show (at_ + i) / 8 < xs.length by omega]
    · rw [if_neg e, if_neg (fun h => e h.symm), List.getD_eq_getElem?_getD]
  have hbit : ∀ j, bitI (xs.set ((at_ + i) / 8) (d : Int)) j = (bitI xs j != decide (j = at_ + i)) := by
    intro j
    unfold bitI
    rw [hg]
    by_cases e : j / 8 = (at_ + i) / 8
    · rw [if_pos e, e, hc, Int.toNat_natCast, hd3]
      congr 1
      rw [decide_eq_decide]
      omega
    · rw [if_neg e, decide_eq_false (fun h => e (by rw [h]))]
      simp
  refine ⟨by rw [List.length_set]; exact h1, fun k hk => ?_, fun j hj ho => ?_, ?_, fun _ => ⟨at_ + i, by omega, hi, ?_⟩⟩
  rotate_left 2
  · intro h
    cases h
  rotate_left
  · rw [hg]
    split
    · omega
    · exact h2 k hk
  · rw [hbit, decide_eq_false (by omega), h3 j hj (by omega)]
    simp
  · rw [hbit, h3 _ hi (by omega)]
    simp
theorem bits_of_ints (xs : List Int) (h : ∀ k, k < xs.length → 0 ≤ xs.getD k 0 ∧ xs.getD k 0 < 256) (j : Nat) (hj : j < 8 * xs.length) : (bitsOf (natsOf (strOfNums xs))).getD j false = bitI xs j := by
  rw [nats_str, bitsOf_get _ j (by simpa using hj)]
  unfold bitI
  have hk : j / 8 < xs.length := by omega
  obtain ⟨h0, h1⟩ := h _ hk
  rw [List.getD_eq_getElem?_getD, List.getElem?_map]
  rw [List.getD_eq_getElem?_getD] at h0 h1 ⊢
  rw [List.getElem?_eq_getElem hk] at h0 h1 ⊢
  simp only [Option.map_some, Option.getD_some] at h0 h1 ⊢
  rw [Nat.mod_eq_of_lt (by omega)]
/-- What the turned bytes are parsed as. -/
theorem turned_parsed (s : ByteArray) (xs : List Int) (at_ i : Nat) (tb : Bool) (hs : fitsB s = true) (hsl : lenOf s = s.size) (h : Turned s xs at_ i tb) (hi : i ≤ (if at_ < 40 then 16 else 32)) : fitsB (strOfNums xs) = !tb := by
  obtain ⟨h1, h2, h3, h4, h5⟩ := h
  cases tb with
  | false => rw [h4 rfl, str_bytes, hs]; rfl
  | true =>
    obtain ⟨j, k1, k2, k3⟩ := h5 rfl
    have hs2 : s = strOfNums (bytesOf s) := (str_bytes s).symm
    have hbl : (bytesOf s).length = s.size := bytesOf_length s
    have hbs : ∀ k, k < (bytesOf s).length → 0 ≤ (bytesOf s).getD k 0 ∧ (bytesOf s).getD k 0 < 256 := by
      intro k hk
      have := rd_bytesOf s (k : Int)
      unfold rd at this
      rw [Int.toNat_natCast] at this
      rw [this]
      have := bt_range s (k : Int)
      omega
    refine never s (strOfNums xs) hs hsl (by rw [strOfNums_size, h1]) at_ (fun q hq ho => ?_) (fun e => k3 ?_)
    · rw [bits_of_ints xs (fun k hk => h2 k (by omega)) q (by omega)]
      conv => rhs; rw [hs2]
      rw [bits_of_ints (bytesOf s) hbs q (by omega)]
      exact h3 q hq (by omega)
    · rw [← bits_of_ints xs (fun k hk => h2 k (by omega)) j (by omega), ← bits_of_ints (bytesOf s) hbs j (by omega), e, str_bytes]
theorem turn128 : ∀ r : Nat, r < 8 → (128 : Int) / 2 ^ r = ((2 ^ (7 - r) : Nat) : Int) := by decide
theorem bytes_open (w : World) (e : TypeId) (s : ByteArray) (j : Nat) (hj : j < s.size) : (Lib.bytesWorld w e s).frozen? ⟨w.heap.size, j, none⟩ = false := by
  have h := Lib.bytesWorld_at_new w e s
  have hc := Lib.bytesWorld_cell w e s j hj
  have hlt : j < (Lib.bytesCells w e s).size := by
    have e2 : (Lib.bytesWorld w e s).cell? ⟨w.heap.size, j, none⟩ = (Lib.bytesCells w e s)[j]? := cell_of_row _ _ j _ e _ h
    rw [e2] at hc
    exact (Array.getElem?_eq_some_iff.1 hc).1
  simp [World.frozen?, h]
  omega
set_option maxHeartbeats 4000000 in
set_option maxRecDepth 100000 in
theorem FrameNever_walk (a0_0 a0_1 : Int) (a0_2 : Bool) (a0_3 : ByteArray) (a1 a2 : Int) (w : World) (w0_0 : (Lit.int .u8 a0_0).wf = true) (w0_1 : (Lit.int .u8 a0_1).wf = true) (w0_3 : a0_3.size ≤ 140737488351232) (w1 : (Lit.int .i64 a1).wf = true) (w2 : (Lit.int .u32 a2).wf = true) :
    Calls Try.prog 9 #[.agg #[.int .u8 a0_0, .int .u8 a0_1, .bool a0_2, .string a0_3], .int .i64 a1, .int .u32 a2] w fun e w' => e = .returned (.bool true) ∧ Below w.heap.size w w' := by
  obtain ⟨u, rfl, hu⟩ : ∃ u : Nat, a0_0 = (u : Int) ∧ u < 256 := by
    simp [Lit.wf, IntKind.min, IntKind.max, IntKind.signed, IntKind.bits] at w0_0
    exact ⟨a0_0.toNat, by omega, by omega⟩
  obtain ⟨q, rfl, hq⟩ : ∃ q : Nat, a2 = (q : Int) ∧ q < 4294967296 := by
    simp [Lit.wf, IntKind.min, IntKind.max, IntKind.signed, IntKind.bits] at w2
    exact ⟨a2.toNat, by omega, by omega⟩
  have hn : 0 ≤ a0_1 ∧ a0_1 < 256 := by
    simp [Lit.wf, IntKind.min, IntKind.max, IntKind.signed, IntKind.bits] at w0_1
    omega
  obtain ⟨body, hbody⟩ : ∃ b, a0_3.extract 0 (min a0_3.size 240) = b := ⟨_, rfl⟩
  have hbs : body.size ≤ 240 := by rw [← hbody, ByteArray.size_extract]; omega
  obtain ⟨kf, hkf⟩ : ∃ k : Int, (1 + Int.tmod (u : Int) 15) % 256 = k := ⟨_, rfl⟩
  have hk : 1 ≤ kf ∧ kf ≤ 15 := by
    rw [show (15 : Int) = ((15 : Nat) : Int) from rfl, tmod_nat] at hkf
    omega
  have hfit : foghornlaw25_fit.f (u : Int) a0_1 a0_2 a0_3 = some (kf, a0_1, a0_2, body) := by
    unfold foghornlaw25_fit.f
    rw [show (240 : Int) = ((240 : Nat) : Int) from rfl, mn_nat, if_pos (by omega), if_pos (by omega), Int.toNat_natCast, hkf, hbody]
  have hpack : frame_Pack.f kf a0_1 a0_2 body = some (packed kf a0_1 a0_2 body, 0) := by
    have hmay : mayB kf body = true := by
      unfold mayB
      rw [decide_eq_true hk.1, decide_eq_true hk.2, decide_eq_true (by omega : (body.size : Int) ≤ 240)]
      rfl
    rw [pack_f, if_pos hmay]
  obtain ⟨hfits, hlen⟩ := fits_of_packed kf a0_1 a0_2 body hk hn hbs
  have hss := packed_size kf a0_1 a0_2 body
  obtain ⟨s, hs⟩ : ∃ s, packed kf a0_1 a0_2 body = s := ⟨_, rfl⟩
  rw [hs] at hpack hfits hlen hss
  have hs9 : (9 : Int) ≤ (s.size : Int) := by omega
  have hs2 : (s.size : Int) ≤ 249 := by omega
  have HSZ := Aside0.mk hss
  have HFITS := Aside0.mk hfits
  have HLEN := Aside0.mk hlen
  have HFIT := Aside0.mk hfit
  have HPACK := Aside0.mk hpack
  clear hs hpack hfit hfits hlen hss hkf hbody hbs hk w0_0 w0_1 w2
  obtain ⟨t, ht, htl⟩ : ∃ t : Nat, wrap64 ((IntKind.u64.wrap a1).tmod (8 * (s.size : Int))) = (t : Int) ∧ t < 8 * s.size := by
    obtain ⟨v, hv⟩ := Int.eq_ofNat_of_zero_le (show 0 ≤ IntKind.u64.wrap a1 by rw [IntKind.wrap_u64]; omega)
    refine ⟨v % (8 * s.size), ?_, Nat.mod_lt _ (by omega)⟩
    rw [hv, show (8 * (s.size : Int)) = ((8 * s.size : Nat) : Int) by omega]
    have hm := Nat.mod_lt v (show 0 < 8 * s.size by omega)
    show wrap64 (Int.tmod (v : Int) _) = _
    rw [tmod_nat, w64n (by omega)]
  have kc := fun w : World => Lib.run_convert_string_bytes (P := Try.prog) w 9 46 5 s Try.underlying9 Try.underlying46 Try.underlying5
  have f0 : ∀ w1, Below (w.alloc (.cells #[.int .u8 (u : Int), .int .u8 a0_1, .bool a0_2, .string a0_3] 30)).heap.size (w.alloc (.cells #[.int .u8 (u : Int), .int .u8 a0_1, .bool a0_2, .string a0_3] 30)) w1 → Below w.heap.size w w1 ∧ w1.heap[w.heap.size]? = some (.cells #[.int .u8 (u : Int), .int .u8 a0_1, .bool a0_2, .string a0_3] 30 (0, 0)) :=
    fun w1 hb => ⟨below_step (below_alloc (Below.refl _ _) _) hb, blk_below (blk_new w _) hb⟩
  have F0 := Aside0.mk f0
  clear f0
  by_cases h40 : t < 40
  · -- 16 places
    have hd : decide ((40 : Int) ≤ (t : Int)) = false := decide_eq_false (by omega)
    go_enter Try.func9, Try.ntmps9
    go_wp2_with (first
      | (go_at_call 22; (with_reducible refine (foghornlaw25_works.calls true _ rfl).mono ?_); rintro e w1 ⟨rfl, hb⟩; obtain ⟨hB, hf⟩ := F0.out w1 hb; clear hb F0; have HB1 := Aside0.mk hB; have hc0 := (blk_cell hf 0).trans rfl; have hc1 := (blk_cell hf 1).trans rfl; have hc2 := (blk_cell hf 2).trans rfl; have hc3 := (blk_cell hf 3).trans rfl; clear hB hf)
      | (go_at_call 23; (with_reducible refine (foghornlaw25_fit.calls _ _ _ _ _ _ _ _ _ HFIT.out).mono ?_); rintro e w2 ⟨rfl, hb⟩; have HB2 := Aside0.mk (below_step HB1.out hb); clear hb hc0 hc1 hc2 hc3)
      | (go_at_call 15; (with_reducible refine (frame_Pack.calls _ _ _ _ _ _ _ HPACK.out).mono ?_); rintro e w3 ⟨rfl, hb⟩; have HB3 := Aside0.mk (below_step HB2.out hb); clear hb))
    simp only [ht]
    clear kc ht
    have HB0 := Aside0.mk (below_step HB3.out (bytesWorld_below w3 5 s))
    have HC0 : ∀ j, j < s.size → (Lib.bytesWorld w3 5 s).cell? ⟨w3.heap.size, j, none⟩ = some (.int .u8 ((bytesOf s).getD j 0)) ∧ (Lib.bytesWorld w3 5 s).frozen? ⟨w3.heap.size, j, none⟩ = false := fun j hj => ⟨by
      rw [bytesWorld_bt w3 5 s j hj]
      have := rd_bytesOf s (j : Int)
      unfold rd at this
      rw [Int.toNat_natCast] at this
      rw [this], bytes_open w3 5 s j hj⟩
    have HC := Aside0.mk HC0
    clear HC0
    obtain ⟨W0, hW0⟩ : ∃ W0, Lib.bytesWorld w3 5 s = W0 := ⟨_, rfl⟩
    rw [hW0] at HB0 HC ⊢
    clear hW0
    have HG := Aside0.mk HB3.out.size
    generalize Go.grownCap w3 s.size 0 5 = cap0
    generalize w3.heap.size = g at HC HG ⊢
    go_loopw [11, 12] (fun tv iv wr => ∃ (i : Nat) (xs : List Int) (tb : Bool), i ≤ 16 ∧ iv = .int .i64 (i : Int) ∧ tv = .bool tb ∧ Aside0 (Turned s xs t i tb) ∧ Aside0 (∀ j, j < s.size → wr.cell? ⟨g, j, none⟩ = some (.int .u8 (xs.getD j 0)) ∧ wr.frozen? ⟨g, j, none⟩ = false) ∧ Aside0 (Below w.heap.size w wr)) (fun _ iv _ => 16 - (intOf iv).toNat)
    case atStart => exact ⟨0, _, false, by omega, rfl, rfl, ⟨turned_start s t⟩, HC, HB0⟩
    case round =>
      obtain ⟨i, xs, tb, hi, rfl, rfl, HT, HC1, HB1'⟩ := hrel
      by_cases hlt : i < 16 ∧ t + i < 8 * s.size
      · obtain ⟨hiw, hin⟩ := hlt
        have hin' : (t : Int) + (i : Int) < 8 * (s.size : Int) := by omega
        obtain ⟨p, hp⟩ : ∃ p, t + i = p := ⟨_, rfl⟩
        obtain ⟨p8, hp8⟩ : ∃ x, p / 8 = x := ⟨_, rfl⟩
        obtain ⟨r, hr⟩ : ∃ x, p % 8 = x := ⟨_, rfl⟩
        obtain ⟨hcx, hfx⟩ := HC1.out p8 (by omega)
        have h8b : (p8 : Int) < (s.size : Int) := by omega
        have hrb : (r : Int) < 8 := by omega
        have e1 : IntKind.i64.wrap ((t : Int) + (i : Int)) = (p : Int) := by rw [IntKind.wrap_i64]; omega
        have e2 : IntKind.i64.wrap ((p : Int).tdiv 8) = (p8 : Int) := by rw [show (8 : Int) = ((8 : Nat) : Int) from rfl, tdiv_nat, hp8, IntKind.wrap_i64]; omega
        have e3 : (p : Int).tmod 8 = (r : Int) := by rw [show (8 : Int) = ((8 : Nat) : Int) from rfl, tmod_nat, hr]
        have e5 : IntKind.i64.wrap ((p : Int) / 8) = (p8 : Int) := by rw [IntKind.wrap_i64]; omega
        have e6 : (p : Int) % 8 = (r : Int) := by omega
        have e4 : IntKind.i64.wrap (r : Int) = (r : Int) := by rw [IntKind.wrap_i64]; omega
        have HP := Aside0.mk hp
        have HP8 := Aside0.mk hp8
        have HRR := Aside0.mk hr
        have E1 := Aside0.mk e1
        have E2 := Aside0.mk e2
        have E3 := Aside0.mk e3
        have E4 := Aside0.mk e4
        have E5 := Aside0.mk e5
        have E6 := Aside0.mk e6
        clear hp hp8 hr e1 e2 e3 e4 e5 e6
        go_wp2
        · have e1 := E1.out
          have e2 := E2.out
          have e3 := E3.out
          have e4 := E4.out
          have e5 := E5.out
          have e6 := E6.out
          go_still_tail 19, (by kernel_rfl)
          clear e1 e2 e3 e4 e5 e6
          change wpList _ _ _ _ _ wr.drew
          go_wp2
          go_roundw
          case rel =>
            rw [turn128 r (by omega)]
            refine ⟨i + 1, xs.set p8 (Go.bits .xor .u8 (xs.getD p8 0) ((2 ^ (7 - r) : Nat) : Int)), true, by omega, by go_num, rfl, ⟨?_⟩, ⟨fun j hj => ?_⟩, ⟨below_drew1 (below_set HB1'.out HG.out)⟩⟩
            · have h := turned_flip s xs t i tb HT.out (by omega)
              rw [HP.out, HP8.out, HRR.out] at h
              exact h
            · obtain ⟨hc, hf⟩ := HC1.out j hj
              refine ⟨?_, ?_⟩
              · show (wr.setCell ⟨g, p8, none⟩ _).cell? ⟨g, j, none⟩ = _
                by_cases e : j = p8
                · subst e
                  rw [World.cell?_setCell_same' _ _ _ (by rw [hcx]; rfl)]
                  rw [List.getD_eq_getElem?_getD, List.getD_eq_getElem?_getD, List.getElem?_set_self (by have := HT.out.1; omega)]
                  rfl
                · have hne : (⟨g, p8, none⟩ : Addr) ≠ ⟨g, j, none⟩ := by
                    intro h
                    cases h
                    exact e rfl
                  rw [World.cell?_setCell_other _ _ _ _ hne, hc]
                  rw [List.getD_eq_getElem?_getD, List.getD_eq_getElem?_getD, List.getElem?_set_ne (fun h => e h.symm)]
              · show (wr.setCell ⟨g, p8, none⟩ _).frozen? ⟨g, j, none⟩ = _
                rw [World.frozen?_setCell]
                exact hf
          case measure => simp [intOf]; omega
        · go_roundw
          case rel => exact ⟨i + 1, xs, tb, by omega, by go_num, rfl, ⟨turned_keep s xs t i tb HT.out⟩, HC1, HB1'⟩
          case measure => simp [intOf]; omega
      · have HNE := Aside0.mk (turned_parsed s xs t i tb HFITS.out HLEN.out HT.out (by first | (rw [if_pos h40]; exact hi) | (rw [if_neg h40]; exact hi)))
        have hpar := parse_ev (strOfNums xs) (by rw [strOfNums_size, HT.out.1]; omega)
        obtain ⟨kp, hkp⟩ := hpar.rounds
        unfold parsed at hkp
        rw [HNE.out] at hkp
        have kcv : (convert 46 9 (.slice (some ⟨g, 0, none⟩) s.size cap0)).run Try.prog wr = .ok (.string (strOfNums xs)) wr := by
          refine run_convert_bytes_arg wr 46 5 Try.underlying46 Try.underlying5 g 0 s.size cap0 xs HT.out.1 (fun i hi => ?_) 9 Try.underlying9
          rw [Nat.zero_add]
          exact (HC1.out i hi).1
        have HKP := Aside0.mk hkp
        clear hkp hpar
        by_cases hiw : i < 16
        · have hin : ¬ (t : Int) + (i : Int) < 8 * (s.size : Int) := by omega
          cases tb with
          | false =>
            have HKP1 := Aside0.mk (show frame_Parse.f kp (strOfNums xs) = some (kindOf (strOfNums xs), bt (strOfNums xs) 1, moreOf (strOfNums xs), bodyOf (strOfNums xs), (lenOf (strOfNums xs) : Int), 0) from HKP.out)
            go_wp2_with (go_at_call 17; (with_reducible refine (frame_Parse.calls _ _ _ _ _ _ _ _ _ HKP1.out).mono ?_); rintro e w9 ⟨rfl, hb⟩; have HB9 := Aside0.mk (below_step HB1'.out hb); clear hb)
            all_goals (go_ret; exact ⟨rfl, below_alloc HB9.out _⟩)
          | true =>
            have HKP1 := Aside0.mk (show frame_Parse.f kp (strOfNums xs) = some (0, 0, false, ⟨#[]⟩, 0, 4) from HKP.out)
            go_wp2_with (go_at_call 17; (with_reducible refine (frame_Parse.calls _ _ _ _ _ _ _ _ _ HKP1.out).mono ?_); rintro e w9 ⟨rfl, hb⟩; have HB9 := Aside0.mk (below_step HB1'.out hb); clear hb)
            all_goals (go_ret; exact ⟨rfl, below_alloc HB9.out _⟩)
        · obtain rfl : i = 16 := by omega
          cases tb with
          | false =>
            have HKP1 := Aside0.mk (show frame_Parse.f kp (strOfNums xs) = some (kindOf (strOfNums xs), bt (strOfNums xs) 1, moreOf (strOfNums xs), bodyOf (strOfNums xs), (lenOf (strOfNums xs) : Int), 0) from HKP.out)
            go_wp2_with (go_at_call 17; (with_reducible refine (frame_Parse.calls _ _ _ _ _ _ _ _ _ HKP1.out).mono ?_); rintro e w9 ⟨rfl, hb⟩; have HB9 := Aside0.mk (below_step HB1'.out hb); clear hb)
            all_goals (go_ret; exact ⟨rfl, below_alloc HB9.out _⟩)
          | true =>
            have HKP1 := Aside0.mk (show frame_Parse.f kp (strOfNums xs) = some (0, 0, false, ⟨#[]⟩, 0, 4) from HKP.out)
            go_wp2_with (go_at_call 17; (with_reducible refine (frame_Parse.calls _ _ _ _ _ _ _ _ _ HKP1.out).mono ?_); rintro e w9 ⟨rfl, hb⟩; have HB9 := Aside0.mk (below_step HB1'.out hb); clear hb)
            all_goals (go_ret; exact ⟨rfl, below_alloc HB9.out _⟩)
  · -- 32 places
    have hd : decide ((40 : Int) ≤ (t : Int)) = true := decide_eq_true (by omega)
    go_enter Try.func9, Try.ntmps9
    go_wp2_with (first
      | (go_at_call 22; (with_reducible refine (foghornlaw25_works.calls true _ rfl).mono ?_); rintro e w1 ⟨rfl, hb⟩; obtain ⟨hB, hf⟩ := F0.out w1 hb; clear hb F0; have HB1 := Aside0.mk hB; have hc0 := (blk_cell hf 0).trans rfl; have hc1 := (blk_cell hf 1).trans rfl; have hc2 := (blk_cell hf 2).trans rfl; have hc3 := (blk_cell hf 3).trans rfl; clear hB hf)
      | (go_at_call 23; (with_reducible refine (foghornlaw25_fit.calls _ _ _ _ _ _ _ _ _ HFIT.out).mono ?_); rintro e w2 ⟨rfl, hb⟩; have HB2 := Aside0.mk (below_step HB1.out hb); clear hb hc0 hc1 hc2 hc3)
      | (go_at_call 15; (with_reducible refine (frame_Pack.calls _ _ _ _ _ _ _ HPACK.out).mono ?_); rintro e w3 ⟨rfl, hb⟩; have HB3 := Aside0.mk (below_step HB2.out hb); clear hb))
    simp only [ht]
    clear kc ht
    have HB0 := Aside0.mk (below_step HB3.out (bytesWorld_below w3 5 s))
    have HC0 : ∀ j, j < s.size → (Lib.bytesWorld w3 5 s).cell? ⟨w3.heap.size, j, none⟩ = some (.int .u8 ((bytesOf s).getD j 0)) ∧ (Lib.bytesWorld w3 5 s).frozen? ⟨w3.heap.size, j, none⟩ = false := fun j hj => ⟨by
      rw [bytesWorld_bt w3 5 s j hj]
      have := rd_bytesOf s (j : Int)
      unfold rd at this
      rw [Int.toNat_natCast] at this
      rw [this], bytes_open w3 5 s j hj⟩
    have HC := Aside0.mk HC0
    clear HC0
    obtain ⟨W0, hW0⟩ : ∃ W0, Lib.bytesWorld w3 5 s = W0 := ⟨_, rfl⟩
    rw [hW0] at HB0 HC ⊢
    clear hW0
    have HG := Aside0.mk HB3.out.size
    generalize Go.grownCap w3 s.size 0 5 = cap0
    generalize w3.heap.size = g at HC HG ⊢
    go_loopw [11, 12] (fun tv iv wr => ∃ (i : Nat) (xs : List Int) (tb : Bool), i ≤ 32 ∧ iv = .int .i64 (i : Int) ∧ tv = .bool tb ∧ Aside0 (Turned s xs t i tb) ∧ Aside0 (∀ j, j < s.size → wr.cell? ⟨g, j, none⟩ = some (.int .u8 (xs.getD j 0)) ∧ wr.frozen? ⟨g, j, none⟩ = false) ∧ Aside0 (Below w.heap.size w wr)) (fun _ iv _ => 32 - (intOf iv).toNat)
    case atStart => exact ⟨0, _, false, by omega, rfl, rfl, ⟨turned_start s t⟩, HC, HB0⟩
    case round =>
      obtain ⟨i, xs, tb, hi, rfl, rfl, HT, HC1, HB1'⟩ := hrel
      by_cases hlt : i < 32 ∧ t + i < 8 * s.size
      · obtain ⟨hiw, hin⟩ := hlt
        have hin' : (t : Int) + (i : Int) < 8 * (s.size : Int) := by omega
        obtain ⟨p, hp⟩ : ∃ p, t + i = p := ⟨_, rfl⟩
        obtain ⟨p8, hp8⟩ : ∃ x, p / 8 = x := ⟨_, rfl⟩
        obtain ⟨r, hr⟩ : ∃ x, p % 8 = x := ⟨_, rfl⟩
        obtain ⟨hcx, hfx⟩ := HC1.out p8 (by omega)
        have h8b : (p8 : Int) < (s.size : Int) := by omega
        have hrb : (r : Int) < 8 := by omega
        have e1 : IntKind.i64.wrap ((t : Int) + (i : Int)) = (p : Int) := by rw [IntKind.wrap_i64]; omega
        have e2 : IntKind.i64.wrap ((p : Int).tdiv 8) = (p8 : Int) := by rw [show (8 : Int) = ((8 : Nat) : Int) from rfl, tdiv_nat, hp8, IntKind.wrap_i64]; omega
        have e3 : (p : Int).tmod 8 = (r : Int) := by rw [show (8 : Int) = ((8 : Nat) : Int) from rfl, tmod_nat, hr]
        have e5 : IntKind.i64.wrap ((p : Int) / 8) = (p8 : Int) := by rw [IntKind.wrap_i64]; omega
        have e6 : (p : Int) % 8 = (r : Int) := by omega
        have e4 : IntKind.i64.wrap (r : Int) = (r : Int) := by rw [IntKind.wrap_i64]; omega
        have HP := Aside0.mk hp
        have HP8 := Aside0.mk hp8
        have HRR := Aside0.mk hr
        have E1 := Aside0.mk e1
        have E2 := Aside0.mk e2
        have E3 := Aside0.mk e3
        have E4 := Aside0.mk e4
        have E5 := Aside0.mk e5
        have E6 := Aside0.mk e6
        clear hp hp8 hr e1 e2 e3 e4 e5 e6
        go_wp2
        · have e1 := E1.out
          have e2 := E2.out
          have e3 := E3.out
          have e4 := E4.out
          have e5 := E5.out
          have e6 := E6.out
          go_still_tail 19, (by kernel_rfl)
          clear e1 e2 e3 e4 e5 e6
          change wpList _ _ _ _ _ wr.drew
          go_wp2
          go_roundw
          case rel =>
            rw [turn128 r (by omega)]
            refine ⟨i + 1, xs.set p8 (Go.bits .xor .u8 (xs.getD p8 0) ((2 ^ (7 - r) : Nat) : Int)), true, by omega, by go_num, rfl, ⟨?_⟩, ⟨fun j hj => ?_⟩, ⟨below_drew1 (below_set HB1'.out HG.out)⟩⟩
            · have h := turned_flip s xs t i tb HT.out (by omega)
              rw [HP.out, HP8.out, HRR.out] at h
              exact h
            · obtain ⟨hc, hf⟩ := HC1.out j hj
              refine ⟨?_, ?_⟩
              · show (wr.setCell ⟨g, p8, none⟩ _).cell? ⟨g, j, none⟩ = _
                by_cases e : j = p8
                · subst e
                  rw [World.cell?_setCell_same' _ _ _ (by rw [hcx]; rfl)]
                  rw [List.getD_eq_getElem?_getD, List.getD_eq_getElem?_getD, List.getElem?_set_self (by have := HT.out.1; omega)]
                  rfl
                · have hne : (⟨g, p8, none⟩ : Addr) ≠ ⟨g, j, none⟩ := by
                    intro h
                    cases h
                    exact e rfl
                  rw [World.cell?_setCell_other _ _ _ _ hne, hc]
                  rw [List.getD_eq_getElem?_getD, List.getD_eq_getElem?_getD, List.getElem?_set_ne (fun h => e h.symm)]
              · show (wr.setCell ⟨g, p8, none⟩ _).frozen? ⟨g, j, none⟩ = _
                rw [World.frozen?_setCell]
                exact hf
          case measure => simp [intOf]; omega
        · go_roundw
          case rel => exact ⟨i + 1, xs, tb, by omega, by go_num, rfl, ⟨turned_keep s xs t i tb HT.out⟩, HC1, HB1'⟩
          case measure => simp [intOf]; omega
      · have HNE := Aside0.mk (turned_parsed s xs t i tb HFITS.out HLEN.out HT.out (by first | (rw [if_pos h40]; exact hi) | (rw [if_neg h40]; exact hi)))
        have hpar := parse_ev (strOfNums xs) (by rw [strOfNums_size, HT.out.1]; omega)
        obtain ⟨kp, hkp⟩ := hpar.rounds
        unfold parsed at hkp
        rw [HNE.out] at hkp
        have kcv : (convert 46 9 (.slice (some ⟨g, 0, none⟩) s.size cap0)).run Try.prog wr = .ok (.string (strOfNums xs)) wr := by
          refine run_convert_bytes_arg wr 46 5 Try.underlying46 Try.underlying5 g 0 s.size cap0 xs HT.out.1 (fun i hi => ?_) 9 Try.underlying9
          rw [Nat.zero_add]
          exact (HC1.out i hi).1
        have HKP := Aside0.mk hkp
        clear hkp hpar
        by_cases hiw : i < 32
        · have hin : ¬ (t : Int) + (i : Int) < 8 * (s.size : Int) := by omega
          cases tb with
          | false =>
            have HKP1 := Aside0.mk (show frame_Parse.f kp (strOfNums xs) = some (kindOf (strOfNums xs), bt (strOfNums xs) 1, moreOf (strOfNums xs), bodyOf (strOfNums xs), (lenOf (strOfNums xs) : Int), 0) from HKP.out)
            go_wp2_with (go_at_call 17; (with_reducible refine (frame_Parse.calls _ _ _ _ _ _ _ _ _ HKP1.out).mono ?_); rintro e w9 ⟨rfl, hb⟩; have HB9 := Aside0.mk (below_step HB1'.out hb); clear hb)
            all_goals (go_ret; exact ⟨rfl, below_alloc HB9.out _⟩)
          | true =>
            have HKP1 := Aside0.mk (show frame_Parse.f kp (strOfNums xs) = some (0, 0, false, ⟨#[]⟩, 0, 4) from HKP.out)
            go_wp2_with (go_at_call 17; (with_reducible refine (frame_Parse.calls _ _ _ _ _ _ _ _ _ HKP1.out).mono ?_); rintro e w9 ⟨rfl, hb⟩; have HB9 := Aside0.mk (below_step HB1'.out hb); clear hb)
            all_goals (go_ret; exact ⟨rfl, below_alloc HB9.out _⟩)
        · obtain rfl : i = 32 := by omega
          cases tb with
          | false =>
            have HKP1 := Aside0.mk (show frame_Parse.f kp (strOfNums xs) = some (kindOf (strOfNums xs), bt (strOfNums xs) 1, moreOf (strOfNums xs), bodyOf (strOfNums xs), (lenOf (strOfNums xs) : Int), 0) from HKP.out)
            go_wp2_with (go_at_call 17; (with_reducible refine (frame_Parse.calls _ _ _ _ _ _ _ _ _ HKP1.out).mono ?_); rintro e w9 ⟨rfl, hb⟩; have HB9 := Aside0.mk (below_step HB1'.out hb); clear hb)
            all_goals (go_ret; exact ⟨rfl, below_alloc HB9.out _⟩)
          | true =>
            have HKP1 := Aside0.mk (show frame_Parse.f kp (strOfNums xs) = some (0, 0, false, ⟨#[]⟩, 0, 4) from HKP.out)
            go_wp2_with (go_at_call 17; (with_reducible refine (frame_Parse.calls _ _ _ _ _ _ _ _ _ HKP1.out).mono ?_); rintro e w9 ⟨rfl, hb⟩; have HB9 := Aside0.mk (below_step HB1'.out hb); clear hb)
            all_goals (go_ret; exact ⟨rfl, below_alloc HB9.out _⟩)
end Go.Proofs.Ytclhkbjcemgmnaa.Pure
