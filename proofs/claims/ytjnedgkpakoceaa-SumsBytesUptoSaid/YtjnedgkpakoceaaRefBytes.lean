/- The bits of bytes, and of a sum's bytes. Plain. -/
import Derived.Test.YtjnedgkpakoceaaFogx0
import Derived.Test.YtjnedgkpakoceaaFogx1
import Derived.Test.YtjnedgkpakoceaaFogx5
import Derived.Test.YtjnedgkpakoceaaFogx6
import Derived.Test.YtjnedgkpakoceaaFogx7
import Derived.Test.YtjnedgkpakoceaaFogx9
import Derived.Test.YtjnedgkpakoceaaKit
import Derived.Test.YtjnedgkpakoceaaCrcStep
import Derived.Test.YtjnedgkpakoceaaRefTold
namespace Go.Proofs.Ytjnedgkpakoceaa.Crc
open Go.RowKit Go.Proofs.Ytjnedgkpakoceaa.Fog Go.Proofs.YtjnedgkpakoceaaW.PrintWords Go.Proofs.YtjnedgkpakoceaaW.PrintLast Go.Proofs.YtjnedgkpakoceaaW.PrintMore Go.Proofs.Ytjnedgkpakoceaa.Kit
set_option linter.unusedSimpArgs false
set_option linter.unusedVariables false
theorem str_append (xs ys : List Int) : strOfNums (xs ++ ys) = strOfNums xs ++ strOfNums ys := by
  apply ByteArray.ext
  simp [strOfNums, ByteArray.data_append]
theorem str_bytes (s : ByteArray) : strOfNums (bytesOf s) = s := by
  apply ByteArray.ext
  apply Array.ext'
  simp only [strOfNums, bytesOf, List.map_map]
  have : ((fun n : Int => UInt8.ofNat n.toNat) ∘ fun b : UInt8 => ((b.toNat : Nat) : Int)) = id := by
    funext b
    simp
  rw [this, List.map_id]
def two (x : Nat) : List Int := [(x : Int) / 256 % 256, (x : Int) % 256]
def four (y : Nat) : List Int := [(y : Int) / 16777216 % 256, (y : Int) / 65536 % 256, (y : Int) / 256 % 256, (y : Int) % 256]
theorem nats_append (a b : ByteArray) : natsOf (a ++ b) = natsOf a ++ natsOf b := by
  simp [natsOf, ByteArray.data_append]
theorem nats_str (xs : List Int) : natsOf (strOfNums xs) = xs.map fun n => n.toNat % 256 := by
  simp [natsOf, strOfNums, Function.comp_def]
theorem bitsOf_append (a b : List Nat) : bitsOf (a ++ b) = bitsOf a ++ bitsOf b := by simp [bitsOf]
theorem bitsOf_take (l : List Nat) (k : Nat) : bitsOf (l.take k) = (bitsOf l).take (8 * k) := by
  rcases Nat.lt_or_ge k l.length with h | h
  · have e : bitsOf l = bitsOf (l.take k) ++ bitsOf (l.drop k) := by rw [← bitsOf_append, List.take_append_drop]
    have hl : (bitsOf (l.take k)).length = 8 * k := by rw [bitsOf_length, List.length_take]; omega
    rw [e, ← hl, List.take_left]
  · rw [List.take_of_length_le h, List.take_of_length_le (by rw [bitsOf_length]; omega)]
theorem bitsOf_drop (l : List Nat) (k : Nat) : bitsOf (l.drop k) = (bitsOf l).drop (8 * k) := by
  rcases Nat.lt_or_ge k l.length with h | h
  · have e : bitsOf l = bitsOf (l.take k) ++ bitsOf (l.drop k) := by rw [← bitsOf_append, List.take_append_drop]
    have hl : (bitsOf (l.take k)).length = 8 * k := by rw [bitsOf_length, List.length_take]; omega
    rw [e, ← hl, List.drop_left]
  · rw [List.drop_eq_nil_of_le h, List.drop_eq_nil_of_le (by rw [bitsOf_length]; omega)]
    rfl
def nat8 (l : List Int) : List Nat := l.map fun n => n.toNat % 256
theorem two_bits (x : BitVec 16) : bitsOf (nat8 (two x.toNat)) = spelt x := by
  have hx := x.isLt
  have e : nat8 (two x.toNat) = [x.toNat / 256, x.toNat % 256] := by
    simp only [nat8, two, List.map_cons, List.map_nil]
    congr 1
    · omega
    · congr 1; omega
  rw [e]
  apply ext_getD (by rw [bitsOf_length, spelt_length]; rfl)
  intro i hi
  rw [bitsOf_length] at hi
  simp only [List.length_cons, List.length_nil] at hi
  rw [bitsOf_get _ i (by simp; omega), spelt_get _ i (by omega), BitVec.getMsbD_eq_getLsbD, ← BitVec.testBit_toNat]
  rcases Nat.lt_or_ge i 8 with h | h
  · rw [Nat.div_eq_of_lt h, Nat.mod_eq_of_lt h]
    simp only [List.getD_cons_zero]
    rw [show x.toNat / 256 = x.toNat / 2 ^ 8 from rfl, Nat.testBit_div_two_pow]
    simp only [show i < 16 by omega, decide_true, Bool.true_and]
    congr 1; omega
  · rw [show i / 8 = 0 + 1 by omega]
    simp only [List.getD_cons_succ, List.getD_cons_zero]
    rw [show x.toNat % 256 = x.toNat % 2 ^ 8 from rfl, Nat.testBit_mod_two_pow]
    simp only [show i < 16 by omega, decide_true, Bool.true_and, show 7 - i % 8 < 8 by omega]
    congr 1; omega
theorem four_bits (x : BitVec 32) : bitsOf (nat8 (four x.toNat)) = spelt x := by
  have hx := x.isLt
  have e : nat8 (four x.toNat) = [x.toNat / 2 ^ 24 % 2 ^ 8, x.toNat / 2 ^ 16 % 2 ^ 8, x.toNat / 2 ^ 8 % 2 ^ 8, x.toNat / 2 ^ 0 % 2 ^ 8] := by
    simp only [nat8, four, List.map_cons, List.map_nil]
    congr 1
    · omega
    · congr 1
      · omega
      · congr 1
        · omega
        · congr 1; omega
  rw [e]
  apply ext_getD (by rw [bitsOf_length, spelt_length]; rfl)
  intro i hi
  rw [bitsOf_length] at hi
  simp only [List.length_cons, List.length_nil] at hi
  rw [bitsOf_get _ i (by simp; omega), spelt_get _ i (by omega), BitVec.getMsbD_eq_getLsbD, ← BitVec.testBit_toNat]
  have key : ∀ q r : Nat, r < 8 → 8 * q + (7 - r) = 31 - i → (x.toNat / 2 ^ (8 * q) % 2 ^ 8).testBit (7 - r) = (decide (i < 32) && x.toNat.testBit (32 - 1 - i)) := by
    intro q r hr hq
    rw [Nat.testBit_mod_two_pow, Nat.testBit_div_two_pow]
    simp only [show i < 32 by omega, decide_true, Bool.true_and, show 7 - r < 8 by omega]
    congr 1; omega
  have h4 : i / 8 = 0 ∨ i / 8 = 1 ∨ i / 8 = 2 ∨ i / 8 = 3 := by omega
  rcases h4 with h | h | h | h
  · rw [h]; exact key 3 (i % 8) (by omega) (by omega)
  · rw [h]; exact key 2 (i % 8) (by omega) (by omega)
  · rw [h]; exact key 1 (i % 8) (by omega) (by omega)
  · rw [h]; exact key 0 (i % 8) (by omega) (by omega)
theorem bits_inj (a b : List Nat) (h : a.length = b.length) (ha : ∀ x ∈ a, x < 256) (hb : ∀ x ∈ b, x < 256) (k : bitsOf a = bitsOf b) : a = b := by
  apply List.ext_getElem h
  intro i h1 h2
  have hx := ha _ (List.getElem_mem h1)
  have hy := hb _ (List.getElem_mem h2)
  apply Nat.eq_of_testBit_eq
  intro q
  rcases Nat.lt_or_ge q 8 with hq | hq
  · have e1 := bitsOf_get a (8 * i + (7 - q)) (by omega)
    have e2 := bitsOf_get b (8 * i + (7 - q)) (by omega)
    rw [k, e2, show (8 * i + (7 - q)) / 8 = i by omega, show 7 - (8 * i + (7 - q)) % 8 = q by omega] at e1
    simp only [List.getD_eq_getElem?_getD, List.getElem?_eq_getElem h1, List.getElem?_eq_getElem h2, Option.getD_some] at e1
    exact e1.symm
  · rw [Nat.testBit_lt_two_pow (Nat.lt_of_lt_of_le hx (Nat.pow_le_pow_right (n := 2) (by omega) hq)), Nat.testBit_lt_two_pow (Nat.lt_of_lt_of_le hy (Nat.pow_le_pow_right (n := 2) (by omega) hq))]
theorem nats_small (s : ByteArray) : ∀ x ∈ natsOf s, x < 256 := by
  intro x hx
  unfold natsOf at hx
  obtain ⟨u, _, rfl⟩ := List.mem_map.1 hx
  exact u.toNat_lt
theorem nats_inj (a b : ByteArray) (h : natsOf a = natsOf b) : a = b := by
  apply ByteArray.ext
  apply Array.ext'
  unfold natsOf at h
  exact (List.map_inj_right (fun x y e => UInt8.toNat_inj.1 e)).1 h

theorem spelt_inj {w : Nat} (x y : BitVec w) (h : spelt x = spelt y) : x = y := by
  have := congrArg natOf h
  rw [natOf_spelt, natOf_spelt] at this
  exact BitVec.eq_of_toNat_eq this
/-! ### foghornref24.Of -/
theorem byte_spelt (c : Nat) : spelt (BitVec.ofNat 8 c) = byteBits c := by
  apply ext_getD (by rw [spelt_length]; rfl)
  intro i hi
  rw [spelt_length] at hi
  rw [spelt_get _ i hi, BitVec.getMsbD_eq_getLsbD, BitVec.getLsbD_ofNat]
  simp [byteBits, List.getD_eq_getElem?_getD, hi]
  intro _
  omega
theorem of_l0 (s : ByteArray) (hs : s.size ≤ 1048576) : ∀ (d i : Nat), i + d = s.size → Ev (fun k => foghornref24_Of.l0 k s (bitsOf ((natsOf s).take i)) (i : Int)) (bitsOf (natsOf s))
  | 0, i, h => by
    refine Ev.step (fun k => by simp only [foghornref24_Of.l0]; rfl) (Ev.ifn (by omega) (Ev.val ?_))
    rw [List.take_of_length_le (by rw [natsOf_length]; omega)]
  | d + 1, i, h => by
    have ih := of_l0 s hs d (i + 1) (by omega)
    have hi : i < (natsOf s).length := by rw [natsOf_length]; omega
    rw [List.take_succ_eq_append_getElem hi, bitsOf_append] at ih
    have hlt : (natsOf s)[i] < 256 := nats_small s _ (List.getElem_mem hi)
    have hb : bt s (i : Int) = ((natsOf s)[i] : Nat) := by
      rw [bt_nats s i (by omega), List.getD_eq_getElem?_getD, List.getElem?_eq_getElem hi, Option.getD_some]
    refine Ev.step (fun k => by simp only [foghornref24_Of.l0]; rfl) (Ev.ifp (by omega) (Ev.ifp (by omega) ?_))
    rw [hb, w64 (by omega) (by omega)]
    have hbits := bits_ev (w := 8) (by omega) (by omega) (BitVec.ofNat 8 (natsOf s)[i])
    rw [byte_spelt, BitVec.toNat_ofNat, Nat.mod_eq_of_lt (show (natsOf s)[i] < 2 ^ 8 by omega)] at hbits
    have e : (((natsOf s)[i] : Nat) : Int) % 4294967296 = (((natsOf s)[i] : Nat) : Int) := by omega
    rw [e]
    refine Ev.bind hbits (Ev.ifp ?_ ?_)
    · rw [bitsOf_length, List.length_take, byteBits_length, natsOf_length]
      omega
    · have e2 : bitsOf [(natsOf s)[i]] = byteBits (natsOf s)[i] := by simp [bitsOf]
      rw [e2] at ih
      exact ih
theorem of_ev (s : ByteArray) (hs : s.size ≤ 1048576) : Ev (fun k => foghornref24_Of.f k s) (bitsOf (natsOf s)) := by
  simp only [foghornref24_Of.f]
  exact of_l0 s hs s.size 0 (by omega)
theorem obits (s : ByteArray) (hs : s.size ≤ 1048576) : (bitsOf (natsOf s)).length ≤ 10000000 := by rw [bitsOf_length, natsOf_length]; omega
/-! ### Sealed, Opened -/
def sealed (s : ByteArray) : ByteArray := s ++ strOfNums (four (B32 s).toNat)
theorem sealed_size (s : ByteArray) : (sealed s).size = s.size + 4 := by unfold sealed; rw [ByteArray.size_append, strOfNums_size]; rfl
theorem sealed_f (s : ByteArray) (hs : s.size ≤ 140737488355000) : sums_Sealed.f s = some (sealed s) := by
  unfold sums_Sealed.f
  rw [bytes32_f s (by omega), Option.bind_some, Option.bind_some, if_pos]
  · rfl
  · rw [strOfNums_size]
    simp
    omega
theorem rsealed_ev (s : ByteArray) (hs : s.size ≤ 1048576) : Ev (fun k => foghornref24_Sealed.f k s) (sealed s) := by
  simp only [foghornref24_Sealed.f]
  refine Ev.bind (of_ev s hs) (Ev.bind (rsum32 _ (obits s hs)) (Ev.bind (number_ev _ (by rw [spelt_length]; omega)) (Ev.bindc rfl (Ev.ifp ?_ (Ev.val ?_)))))
  · rw [strOfNums_size]
    simp
    omega
  · rw [natOf_spelt]
    rfl
def opened (s : ByteArray) : ByteArray × Bool := if s.size < 4 then (⟨#[]⟩, false) else if B32 s = 0#32 then (s.extract 0 (s.size - 4), true) else (⟨#[]⟩, false)
theorem opened_f (s : ByteArray) (hs : s.size ≤ 140737488355000) : sums_Opened.f s = some (opened s) := by
  unfold sums_Opened.f opened
  by_cases h4 : s.size < 4
  · rw [if_pos (by omega), if_pos h4]
  · rw [if_neg (by omega), if_neg h4, bytes32_f s (by omega), Option.bind_some]
    by_cases hz : B32 s = 0#32
    · rw [if_pos hz, if_pos (by rw [hz]; rfl), w64 (by omega) (by omega), if_pos (by omega), if_pos (by omega), show ((s.size : Int) - 4).toNat = s.size - 4 by omega]
    · rw [if_neg hz, if_neg]
      intro e
      exact hz (BitVec.eq_of_toNat_eq (by simpa using e))
theorem nats_extract0 (b : ByteArray) (k : Nat) : natsOf (b.extract 0 k) = (natsOf b).take k := by
  unfold natsOf
  rw [ByteArray.data_extract, Array.toList_extract, List.extract_eq_take_drop, List.drop_zero, Nat.sub_zero, List.map_take]
theorem sealed_iff (s : ByteArray) (h4 : 4 ≤ s.size) : sealed (s.extract 0 (s.size - 4)) = s ↔ B32 s = 0#32 := by
  obtain ⟨t, ht⟩ : ∃ t, s.extract 0 (s.size - 4) = t := ⟨_, rfl⟩
  have hn : natsOf t = (natsOf s).take (s.size - 4) := by rw [← ht, nats_extract0]
  have hnl := natsOf_length s
  have e1 : natsOf (sealed t) = natsOf t ++ nat8 (four (B32 t).toNat) := by
    unfold sealed
    rw [nats_append, nats_str]
    rfl
  have e2 : natsOf s = natsOf t ++ (natsOf s).drop (s.size - 4) := by rw [hn, List.take_append_drop]
  have hdl : ((natsOf s).drop (s.size - 4)).length = 4 := by rw [List.length_drop, hnl]; omega
  have hB : B32 s = crc P32 (B32 t) (bitsOf ((natsOf s).drop (s.size - 4))) := by
    unfold B32
    rw [← crc_append, ← bitsOf_append, ← e2]
  rw [ht, hB, crc_zero_iff (by omega) P32 _ p32_low _ (by rw [bitsOf_length, hdl]), ← four_bits]
  constructor
  · intro h
    have : natsOf t ++ nat8 (four (B32 t).toNat) = natsOf t ++ (natsOf s).drop (s.size - 4) := by rw [← e1, h, ← e2]
    rw [List.append_cancel_left this]
  · intro h
    apply nats_inj
    rw [e1, e2]
    congr 1
    refine bits_inj _ _ (by rw [hdl]; rfl) (fun x hx => ?_) (fun x hx => nats_small s x (List.mem_of_mem_drop hx)) h.symm
    unfold nat8 at hx
    obtain ⟨y, _, rfl⟩ := List.mem_map.1 hx
    omega
theorem ropened_ev (s : ByteArray) (hs : s.size ≤ 1048576 + 4) : Ev (fun k => foghornref24_Opened.f k s) (opened s) := by
  simp only [foghornref24_Opened.f]
  unfold opened
  by_cases h4 : s.size < 4
  · rw [if_pos h4]
    exact Ev.ifp (by omega) (Ev.now _)
  · rw [if_neg h4]
    refine Ev.ifn (by omega) ?_
    rw [w64 (by omega) (by omega), show ((s.size : Int) - 4).toNat = s.size - 4 by omega]
    refine Ev.ifp (by omega) (Ev.ifp (by omega) (Ev.bind (rsealed_ev (s.extract 0 (s.size - 4)) (by rw [ByteArray.size_extract]; omega)) ?_))
    have hi := sealed_iff s (by omega)
    by_cases hz : B32 s = 0#32
    · rw [if_pos hz]
      exact Ev.ifp (by rw [hi.2 hz]) (Ev.now _)
    · rw [if_neg hz]
      refine Ev.ifn (fun e => hz (hi.1 ?_)) (Ev.now _)
      apply ByteArray.ext
      apply Array.ext'
      rw [ByteArray.toList_eq, ByteArray.toList_eq] at e
      exact e
theorem opened_sealed (s : ByteArray) : opened (sealed s) = (s, true) := by
  have hsz := sealed_size s
  have hx : (sealed s).extract 0 ((sealed s).size - 4) = s := by
    apply nats_inj
    rw [nats_extract0, hsz]
    unfold sealed
    rw [nats_append, show s.size + 4 - 4 = (natsOf s).length by rw [natsOf_length]; omega, List.take_left]
  have h := sealed_iff (sealed s) (by omega)
  rw [hx] at h
  unfold opened
  rw [if_neg (by omega), if_pos (h.1 rfl), hx]
/-! ### Burst -/
theorem burst_l0 (a b : List Bool) (h : a.length = b.length) (hl : a.length ≤ 32768) : ∀ (d i : Nat) (f la : Int) (at_ n : Int), i + d = a.length → ((f = -1 ∧ la = -1 ∧ at_ = 0 ∧ n = 0) ∨ (0 ≤ f ∧ f ≤ la ∧ la < i ∧ at_ = f ∧ n = la - f + 1)) →
    ∃ r, Ev (fun k => foghornref24_Burst.l0 k a b f la (i : Int)) r ∧ Ev (fun k => sums_Burst.l0 k b at_ n a (a.length : Int) (i : Int)) r
  | 0, i, f, la, at_, n, hi, hr => by
    rcases hr with ⟨rfl, rfl, rfl, rfl⟩ | ⟨h0, h1, h2, rfl, rfl⟩
    · exact ⟨(0, 0, 6), Ev.step (fun k => by simp only [foghornref24_Burst.l0]; rfl) (Ev.ifn (by omega) (Ev.ifp (by omega) (Ev.now _))), Ev.step (fun k => by simp only [sums_Burst.l0]; rfl) (Ev.ifn (by omega) (Ev.ifp (c := (0 : Int) = 0) rfl (Ev.now _)))⟩
    · refine ⟨(at_, la - at_ + 1, 0), Ev.step (fun k => by simp only [foghornref24_Burst.l0]; rfl) (Ev.ifn (by omega) (Ev.ifn (by omega) (Ev.val ?_))), Ev.step (fun k => by simp only [sums_Burst.l0]; rfl) (Ev.ifn (by omega) (Ev.ifn (by omega) (Ev.now _)))⟩
      rw [w64 (x := la - at_) (by omega) (by omega), w64 (by omega) (by omega)]
  | d + 1, i, f, la, at_, n, hi, hr => by
    by_cases e : rdOf false a (i : Int) = rdOf false b (i : Int)
    · obtain ⟨r, h1, h2⟩ := burst_l0 a b h hl d (i + 1) f la at_ n (by omega) (by
        rcases hr with hr | ⟨h0, h1, h2, h3, h4⟩
        · exact .inl hr
        · exact .inr ⟨h0, h1, by omega, h3, h4⟩)
      refine ⟨r, Ev.step (fun k => by simp only [foghornref24_Burst.l0]; rfl) (Ev.ifp (by omega) (Ev.ifp (by omega) (Ev.ifp (by omega) (Ev.ifn (by simp [e]) ?_)))), Ev.step (fun k => by simp only [sums_Burst.l0]; rfl) (Ev.ifp (by omega) (Ev.ifp (by omega) (Ev.ifp (by omega) (Ev.ifp (by omega) (Ev.ifp (by simp [e]) ?_)))))⟩
      · rw [w64 (by omega) (by omega)]; exact h1
      · rw [w64 (by omega) (by omega)]; exact h2
    · rcases hr with ⟨rfl, rfl, rfl, rfl⟩ | ⟨h0, h1, h2, rfl, rfl⟩
      · obtain ⟨r, h1, h2⟩ := burst_l0 a b h hl d (i + 1) (i : Int) (i : Int) (i : Int) 1 (by omega) (.inr ⟨by omega, by omega, by omega, rfl, by omega⟩)
        refine ⟨r, Ev.step (fun k => by simp only [foghornref24_Burst.l0]; rfl) (Ev.ifp (by omega) (Ev.ifp (by omega) (Ev.ifp (by omega) (Ev.ifp (by simpa using e) (Ev.ifp (by omega) ?_))))), Ev.step (fun k => by simp only [sums_Burst.l0]; rfl) (Ev.ifp (by omega) (Ev.ifp (by omega) (Ev.ifp (by omega) (Ev.ifp (by omega) (Ev.ifn (by simpa using e) (Ev.ifp (c := (0 : Int) = 0) rfl ?_))))))⟩
        · rw [w64 (by omega) (by omega)]; exact h1
        · rw [w64 (by omega) (by omega)]; exact h2
      · obtain ⟨r, h1', h2'⟩ := burst_l0 a b h hl d (i + 1) at_ (i : Int) at_ ((i : Int) - at_ + 1) (by omega) (.inr ⟨by omega, by omega, by omega, rfl, rfl⟩)
        refine ⟨r, Ev.step (fun k => by simp only [foghornref24_Burst.l0]; rfl) (Ev.ifp (by omega) (Ev.ifp (by omega) (Ev.ifp (by omega) (Ev.ifp (by simpa using e) (Ev.ifn (by omega) ?_))))), Ev.step (fun k => by simp only [sums_Burst.l0]; rfl) (Ev.ifp (by omega) (Ev.ifp (by omega) (Ev.ifp (by omega) (Ev.ifp (by omega) (Ev.ifn (by simpa using e) (Ev.ifn (by omega) ?_))))))⟩
        · rw [w64 (by omega) (by omega)]; exact h1'
        · rw [w64 (x := (i : Int) - at_) (by omega) (by omega), w64 (x := (i : Int) - at_ + 1) (by omega) (by omega), w64 (x := (i : Int) + 1) (by omega) (by omega)]; exact h2'
theorem burst_both (a b : List Bool) (ha : a.length ≤ 140737488355328) (hb : b.length ≤ 140737488355328) : ∃ r, Ev (fun k => sums_Burst.f k a b) r ∧ Ev (fun k => foghornref24_Burst.f k a b) r := by
  simp only [sums_Burst.f, foghornref24_Burst.f]
  by_cases h1 : (a.length : Int) > 32768
  · exact ⟨_, Ev.ifp h1 (Ev.step (fun k => by simp only [sums_Burst.j0]; rfl) (Ev.ifp trivial (Ev.now _))), Ev.ifp h1 (Ev.step (fun k => by simp only [foghornref24_Burst.j0]; rfl) (Ev.ifp trivial (Ev.now _)))⟩
  · by_cases h2 : a.length = b.length
    · obtain ⟨r, k1, k2⟩ := burst_l0 a b h2 (by omega) a.length 0 (-1) (-1) 0 0 (by omega) (.inl ⟨rfl, rfl, rfl, rfl⟩)
      exact ⟨r, Ev.ifn h1 (Ev.step (fun k => by simp only [sums_Burst.j0]; rfl) (Ev.ifn (by simp [h2]) k2)), Ev.ifn h1 (Ev.step (fun k => by simp only [foghornref24_Burst.j0]; rfl) (Ev.ifn (by simp [h2]) k1))⟩
    · exact ⟨_, Ev.ifn h1 (Ev.step (fun k => by simp only [sums_Burst.j0]; rfl) (Ev.ifp (by simp; omega) (Ev.now _))), Ev.ifn h1 (Ev.step (fun k => by simp only [foghornref24_Burst.j0]; rfl) (Ev.ifp (by simp; omega) (Ev.now _)))⟩
/-! ### Joined -/
theorem joined_l0' (y : BitVec 32) (n : Nat) (hn : n ≤ 32768) : ∀ (d i : Nat) (x : BitVec 32), i + d = n →
    Ev (fun k => sums_Joined32.l0 k (x.toNat : Int) (y.toNat : Int) (n : Int) (i : Int)) (((crc P32 x (List.replicate d false) ^^^ y).toNat : Int), 0)
  | 0, i, x, h => by
    refine Ev.step (fun k => by simp only [sums_Joined32.l0]; rfl) (Ev.ifn (by omega) ?_)
    refine Ev.val ?_
    rw [u32_xor_nat x.toNat y.toNat x.isLt y.isLt, ← BitVec.toNat_xor]
    rfl
  | d + 1, i, x, h => by
    have ih := joined_l0' y n hn d (i + 1) (Crc.step P32 x false) (by omega)
    refine Ev.step (fun k => by simp only [sums_Joined32.l0]; rfl) (Ev.ifp (by omega) (Ev.bindc (step32_f x false) ?_))
    rw [w64 (by omega) (by omega), List.replicate_succ, crc_cons]
    exact ih
theorem joined_both (x y : BitVec 32) (n : Int) : ∃ r, Ev (fun k => sums_Joined32.f k (x.toNat : Int) (y.toNat : Int) n) r ∧ Ev (fun k => foghornref24_Joined.f k (x.toNat : Int) (y.toNat : Int) n) r := by
  simp only [sums_Joined32.f, foghornref24_Joined.f]
  by_cases h0 : n < 0
  · exact ⟨_, Ev.ifp h0 (Ev.step (fun k => by simp only [sums_Joined32.j0]; rfl) (Ev.ifp trivial (Ev.now _))), Ev.ifp h0 (Ev.now _)⟩
  · by_cases h1 : n > 32768
    · exact ⟨_, Ev.ifn h0 (Ev.step (fun k => by simp only [sums_Joined32.j0]; rfl) (Ev.ifp (by simpa using h1) (Ev.now _))), Ev.ifn h0 (Ev.ifp h1 (Ev.now _))⟩
    · obtain ⟨m, rfl⟩ := Int.eq_ofNat_of_zero_le (show 0 ≤ n by omega)
      have k1 := joined_l0' y m (by omega) m 0 x (by omega)
      refine ⟨(((crc P32 x (List.replicate m false) ^^^ y).toNat : Int), 0), Ev.ifn h0 (Ev.step (fun k => by simp only [sums_Joined32.j0]; rfl) (Ev.ifn (by simp; omega) k1)), Ev.ifn h0 (Ev.ifn h1 (Ev.ifp (by omega) (Ev.ifp (by omega) (Ev.bind (ron32 x (List.replicate m false) (by rw [List.length_replicate]; omega)) (Ev.val ?_)))))⟩
      rw [u32_xor_nat _ _ (BitVec.isLt _) (BitVec.isLt _), ← BitVec.toNat_xor]
end Go.Proofs.Ytjnedgkpakoceaa.Crc
