/- FramePieces: a message's frames, the frames' message; what came in is of bulk at most 1048576. -/
import Derived.Test.YtclhkbjcemgmnaaFogx0
import Derived.Test.YtclhkbjcemgmnaaFogx1
import Derived.Test.YtclhkbjcemgmnaaFogx4
import Derived.Test.YtclhkbjcemgmnaaFogx5
import Derived.Test.YtclhkbjcemgmnaaFogx6
import Derived.Test.YtclhkbjcemgmnaaFogx7
import Derived.Test.YtclhkbjcemgmnaaHandJoin
import Derived.Test.YtclhkbjcemgmnaaPieces
namespace Go.Proofs.Ytclhkbjcemgmnaa.Pure
open Go.RowKit Go.Proofs.Ytclhkbjcemgmnaa.Fog Go.Proofs.YtclhkbjcemgmnaaW.PrintWords Go.Proofs.YtclhkbjcemgmnaaW.PrintLast Go.Proofs.YtclhkbjcemgmnaaW.PrintMore Go.Proofs.Ytclhkbjcemgmnaa.Kit Go.Proofs.Ytclhkbjcemgmnaa.Crc
set_option linter.unusedSimpArgs false
set_option linter.unusedVariables false
theorem range_last (kind num : Int) (s : ByteArray) (m j : Nat) (x : S30) (hx : x = piece kind num s m (j + 1) j) :
    ((List.range (j + 1)).map (piece kind num s m (j + 1))).set j ⟨x.f0, x.f1, true, x.f3⟩ = (List.range (j + 1)).map (piece kind num s m (j + 2)) := by
  subst hx
  rw [List.range_succ, List.map_append, List.map_append, List.set_append_right _ _ (by simp)]
  simp only [List.length_map, List.length_range, Nat.sub_self, List.map_cons, List.map_nil, List.set_cons_zero]
  congr 1
  · apply List.map_congr_left
    intro i hi
    rw [List.mem_range] at hi
    unfold piece
    rw [decide_eq_true (by omega : i + 1 < j + 1), decide_eq_true (by omega : i + 1 < j + 2)]
  · unfold piece
    simp
theorem rpieces_l0 (kind num : Int) (s : ByteArray) (m : Nat) (hn : 0 ≤ num ∧ num < 256) (hm : 0 < m) (hm2 : m ≤ 240) (hs : s.size ≤ 32768) : ∀ (d j : Nat), j + d + 1 = many s.size m →
    Ev (fun k => foghornref25_Pieces.l0 k kind num s (m : Int) ((List.range (j + 1)).map (piece kind num s m (j + 1))) (((j + 1) * m : Nat) : Int)) (pieces kind num s m, 0)
  | 0, j, h => by
    have h1 := many_lt s.size m j hm
    refine Ev.step (fun k => by simp only [foghornref25_Pieces.l0]; rfl) (Ev.ifn ?_ (Ev.val ?_))
    · have : ¬ (j + 1) * m < s.size := fun h2 => by have := h1.2 h2; omega
      omega
    · unfold pieces
      rw [← h]
  | d + 1, j, h => by
    have h1 := (many_lt s.size m j hm).1 (by omega)
    have ih := rpieces_l0 kind num s m hn hm hm2 hs d (j + 1) (by omega)
    have e2 : (j + 1 + 1) * m = (j + 1) * m + m := Nat.succ_mul (j + 1) m
    have hjm : j + 1 ≤ (j + 1) * m := Nat.le_mul_of_pos_right _ hm
    have hlen : ((List.range (j + 1)).map (piece kind num s m (j + 1))).length = j + 1 := by simp
    refine Ev.step (fun k => by simp only [foghornref25_Pieces.l0]; rfl) (Ev.ifp (by omega) ?_)
    rw [hlen, show (((j + 1 : Nat) : Int) - 1) = (j : Int) by omega, w64n (by omega), Int.toNat_natCast]
    have hrd : rd_T30 ((List.range (j + 1)).map (piece kind num s m (j + 1))) (j : Int) = piece kind num s m (j + 1) j := by
      simp [rd_T30, List.getD_eq_getElem?_getD]
    rw [hrd, range_last kind num s m j _ rfl]
    refine Ev.ifp (by omega) (Ev.ifp (by omega) (Ev.bindc rfl (Ev.ifp (by omega) ?_)))
    rw [show ((((j + 1) * m : Nat) : Int) + (m : Int)) = (((j + 1 + 1) * m : Nat) : Int) by omega, w64n (by omega), mn_nat, Int.toNat_natCast, Int.toNat_natCast]
    refine Ev.ifp (by omega) (Ev.ifp (by omega) (Ev.ifp (by rw [List.length_map, List.length_range]; omega) ?_))
    have e3 : (List.range (j + 1)).map (piece kind num s m (j + 2)) ++ [(⟨kind, (num + ((j + 1 : Nat) : Int)) % 256, false, s.extract ((j + 1) * m) (min ((j + 1 + 1) * m) s.size)⟩ : S30)] = (List.range (j + 1 + 1)).map (piece kind num s m (j + 1 + 1)) := by
      rw [List.range_succ (n := j + 1), List.map_append]
      congr 1
      simp [piece]
    rw [e3]
    exact ih
theorem rpieces_ev (kind num : Int) (s : ByteArray) (m : Nat) (hk : 1 ≤ kind ∧ kind ≤ 15) (hn : 0 ≤ num ∧ num < 256) (hm : 0 < m) (hm2 : m ≤ 240) (hs : s.size ≤ 32768) :
    Ev (fun k => foghornref25_Pieces.f k kind num s (m : Int)) (pieces kind num s m, 0) := by
  simp only [foghornref25_Pieces.f]
  refine Ev.ifn (by omega) (Ev.ifn (by omega) (Ev.ifn (by omega) (Ev.ifn (by omega) (Ev.step (fun k => by simp only [foghornref25_Pieces.j0]; rfl) (Ev.ifn (by simp; omega) ?_)))))
  have hN : 1 ≤ many s.size m := by unfold many; omega
  have h := rpieces_l0 kind num s m hn hm hm2 hs (many s.size m - 1) 0 (by omega)
  rw [mn_nat, Int.toNat_natCast]
  refine Ev.ifp (by omega) (Ev.ifp (by omega) ?_)
  have e : [(⟨kind, num, false, s.extract 0 (min m s.size)⟩ : S30)] = (List.range (0 + 1)).map (piece kind num s m (0 + 1)) := by
    simp [piece]
    omega
  rw [e]
  simpa using h
def okP (kind : Int) (s : ByteArray) (m : Int) : Prop := 1 ≤ kind ∧ kind ≤ 15 ∧ s.size ≤ 32768 ∧ 1 ≤ m ∧ m ≤ 240
instance (kind : Int) (s : ByteArray) (m : Int) : Decidable (okP kind s m) := by unfold okP; exact inferInstance
def pV (kind num : Int) (s : ByteArray) (m : Int) : List S30 × Int := if okP kind s m then (pieces kind num s m.toNat, 0) else ([], 1)
theorem pieces_v (kind num : Int) (s : ByteArray) (m : Int) (hn : 0 ≤ num ∧ num < 256) : Ev (fun k => frame_Pieces.f k kind num s m) (pV kind num s m) := by
  unfold pV
  by_cases h : okP kind s m
  · rw [if_pos h]
    obtain ⟨h1, h2, h3, h4, h5⟩ := h
    have := pieces_ev kind num s m.toNat ⟨h1, h2⟩ hn (by omega) (by omega) h3
    rwa [show ((m.toNat : Nat) : Int) = m by omega] at this
  · rw [if_neg h]
    unfold okP at h
    simp only [frame_Pieces.f]
    have step : ∀ b : Bool, b = true → Ev (fun k => frame_Pieces.j0 k kind num s m b) ([], 1) := fun b hb => Ev.step (fun k => by simp only [frame_Pieces.j0]; rfl) (Ev.ifp hb (Ev.now _))
    by_cases a1 : kind < 1
    · exact Ev.ifp a1 (step _ rfl)
    by_cases a2 : kind > 15
    · exact Ev.ifn a1 (Ev.ifp a2 (step _ rfl))
    by_cases a3 : (s.size : Int) > 32768
    · exact Ev.ifn a1 (Ev.ifn a2 (Ev.ifp a3 (step _ rfl)))
    by_cases a4 : m < 1
    · exact Ev.ifn a1 (Ev.ifn a2 (Ev.ifn a3 (Ev.ifp a4 (step _ rfl))))
    · exact Ev.ifn a1 (Ev.ifn a2 (Ev.ifn a3 (Ev.ifn a4 (step _ (decide_eq_true (by omega))))))
theorem rpieces_v (kind num : Int) (s : ByteArray) (m : Int) (hn : 0 ≤ num ∧ num < 256) : Ev (fun k => foghornref25_Pieces.f k kind num s m) (pV kind num s m) := by
  unfold pV
  by_cases h : okP kind s m
  · rw [if_pos h]
    obtain ⟨h1, h2, h3, h4, h5⟩ := h
    have := rpieces_ev kind num s m.toNat ⟨h1, h2⟩ hn (by omega) (by omega) h3
    rwa [show ((m.toNat : Nat) : Int) = m by omega] at this
  · rw [if_neg h]
    unfold okP at h
    simp only [foghornref25_Pieces.f]
    have step : ∀ b : Bool, b = true → Ev (fun k => foghornref25_Pieces.j0 k kind num s m b) ([], 1) := fun b hb => Ev.step (fun k => by simp only [foghornref25_Pieces.j0]; rfl) (Ev.ifp hb (Ev.now _))
    by_cases a1 : kind < 1
    · exact Ev.ifp a1 (step _ rfl)
    by_cases a2 : kind > 15
    · exact Ev.ifn a1 (Ev.ifp a2 (step _ rfl))
    by_cases a3 : (s.size : Int) > 32768
    · exact Ev.ifn a1 (Ev.ifn a2 (Ev.ifp a3 (step _ rfl)))
    by_cases a4 : m < 1
    · exact Ev.ifn a1 (Ev.ifn a2 (Ev.ifn a3 (Ev.ifp a4 (step _ rfl))))
    · exact Ev.ifn a1 (Ev.ifn a2 (Ev.ifn a3 (Ev.ifn a4 (step _ (decide_eq_true (by omega))))))
theorem rsame_self (x : S30) : foghornref25_Same.f x.f0 x.f1 x.f2 x.f3 x.f0 x.f1 x.f2 x.f3 = some true := by
  unfold foghornref25_Same.f
  simp
theorem sameAll_l0 (a : List S30) (hn : a.length ≤ 140737488355328) : ∀ (d i : Nat), i + d = a.length → Ev (fun k => foghornref25_SameAll.l0 k a a (i : Int)) true
  | 0, i, h => by
    exact Ev.step (fun k => by simp only [foghornref25_SameAll.l0]; rfl) (Ev.ifn (by omega) (Ev.now _))
  | d + 1, i, h => by
    refine Ev.step (fun k => by simp only [foghornref25_SameAll.l0]; rfl) (Ev.ifp (by omega) (Ev.ifp (by omega) (Ev.ifp (by omega) (Ev.bindc (rsame_self _) (Ev.ifp rfl ?_)))))
    rw [w64 (by omega) (by omega)]
    exact sameAll_l0 a hn d (i + 1) (by omega)
theorem sameAll_rfl (a : List S30) (hn : a.length ≤ 140737488355328) : Ev (fun k => foghornref25_SameAll.f k a a) true := by
  simp only [foghornref25_SameAll.f]
  exact Ev.ifp trivial (sameAll_l0 a hn a.length 0 (by omega))
/-! ### Join -/
theorem rmay_f (x : S30) : foghornref25_May.f x.f0 x.f1 x.f2 x.f3 = some (mayOf x) := by
  unfold foghornref25_May.f mayOf frame_may.f
  split
  · split <;> rfl
  · rfl
theorem bytes_list (s : ByteArray) : (bytesOf s).map (fun n => UInt8.ofNat n.toNat) = s.data.toList := by
  unfold bytesOf
  rw [List.map_map]
  conv => rhs; rw [← List.map_id s.data.toList]
  apply List.map_congr_left
  intro b _
  simp
theorem rjoin_l1 (l : List S30) (hb : (joinAcc l l.length).length ≤ 140737488000000) (hn : l.length ≤ 140737488000000) (hpos : 0 < l.length) : ∀ (d i : Nat) (acc : List Int), i + d = l.length → strOfNums acc = ⟨(joinAcc l i).toArray⟩ → acc.length = (joinAcc l i).length → (∀ j, j < i → badAt l j = false) →
    Ev (fun k => foghornref25_Join.l1 k l acc (i : Int)) (if (List.range l.length).any (badAt l) = true then (⟨#[]⟩, 4) else if 32768 < (joinAcc l l.length).length then (⟨#[]⟩, 1) else (⟨(joinAcc l l.length).toArray⟩, 0))
  | 0, i, acc, h, hs, hl, hg => by
    have hi : i = l.length := by omega
    subst hi
    have hany : (List.range l.length).any (badAt l) = false := by
      rw [Bool.eq_false_iff]
      intro h
      obtain ⟨j, hj, hb⟩ := List.any_eq_true.1 h
      rw [hg j (by simpa using hj)] at hb
      cases hb
    rw [hany, if_neg (by decide)]
    refine Ev.step (fun k => by simp only [foghornref25_Join.l1]; rfl) (Ev.ifn (by omega) ?_)
    by_cases hbig : 32768 < (joinAcc l l.length).length
    · rw [if_pos hbig]
      exact Ev.ifp (by omega) (Ev.now _)
    · rw [if_neg hbig]
      exact Ev.ifn (by omega) (Ev.val (by rw [hs]))
  | d + 1, i, acc, h, hs, hl, hg => by
    have hi : i < l.length := by omega
    have ebad : badAt l i = true → Ev (fun _ => some ((⟨#[]⟩ : ByteArray), (4 : Int))) (if (List.range l.length).any (badAt l) = true then (⟨#[]⟩, 4) else if 32768 < (joinAcc l l.length).length then (⟨#[]⟩, 1) else (⟨(joinAcc l l.length).toArray⟩, 0)) := by
      intro hbad
      rw [if_pos (List.any_eq_true.2 ⟨i, by simpa using hi, hbad⟩)]
      exact Ev.now _
    refine Ev.step (fun k => by simp only [foghornref25_Join.l1]; rfl) (Ev.ifp (by omega) (Ev.ifp (by omega) (Ev.ifp (by omega) ?_)))
    have et : Int.tmod (i : Int) 256 = ((i % 256 : Nat) : Int) := tmod_nat i 256
    rw [et, w64 (x := (l.length : Int) - 1) (by omega) (by omega)]
    by_cases b2 : (rd_T30 l (i : Int)).f0 = (rd_T30 l 0).f0
    · refine Ev.ifp b2 ?_
      by_cases b3 : (rd_T30 l (i : Int)).f1 = ((rd_T30 l 0).f1 + (i : Int)) % 256
      · refine Ev.ifp (by rw [b3]; omega) ?_
        have e1 : decide ((i : Int) < (l.length : Int) - 1) = decide ((i : Int) + 1 < (l.length : Int)) := decide_eq_decide.2 (by omega)
        rw [e1]
        cases b1 : ((rd_T30 l (i : Int)).f2 != decide ((i : Int) + 1 < (l.length : Int)))
        · refine Ev.ifn (by decide) ?_
          have hsucc := joinAcc_succ l i hi
          have hle := joinAcc_le l (i + 1) hi
          have hsz : (rd_T30 l (i : Int)).f3.data.toList.length = (rd_T30 l (i : Int)).f3.size := data_length _
          rw [hsucc, List.length_append, hsz] at hle
          refine Ev.ifp (by omega) ?_
          rw [w64 (by omega) (by omega)]
          refine rjoin_l1 l hb hn hpos d (i + 1) _ (by omega) ?_ ?_ ?_
          · rw [str_append, hs, str_bytes, hsucc]
            apply ByteArray.ext
            simp
          · rw [List.length_append, bytesOf_length, hsucc, List.length_append, hsz, hl]
          · intro j hj
            rcases Nat.lt_or_ge j i with h' | h'
            · exact hg j h'
            · obtain rfl : j = i := by omega
              unfold badAt bad1 bad2 bad3
              rw [b1, b2, b3]
              simp
        · exact Ev.ifp rfl (ebad (by unfold badAt bad1; rw [b1]; rfl))
      · refine Ev.ifn (fun e => b3 (by rw [e]; omega)) (ebad ?_)
        unfold badAt bad3
        rw [show ((rd_T30 l (i : Int)).f1 != ((rd_T30 l 0).f1 + (i : Int)) % 256) = true from by simpa using b3, Bool.or_true]
    · refine Ev.ifn b2 (ebad ?_)
      unfold badAt bad2
      rw [show ((rd_T30 l (i : Int)).f0 != (rd_T30 l 0).f0) = true from by simpa using b2, Bool.or_true, Bool.true_or]
theorem rjoin_l0 (l : List S30) (hb : (joinAcc l l.length).length ≤ 140737488000000) (hn : l.length ≤ 140737488000000) : ∀ (d i : Nat), i + d = l.length → (∀ j, j < i → mayOf (rd_T30 l (j : Int)) = true) → Ev (fun k => foghornref25_Join.l0 k l (i : Int)) (joinR l)
  | 0, i, h, hg => by
    have hall : (List.range l.length).all (fun i => mayOf (rd_T30 l (i : Int))) = true := by
      refine List.all_eq_true.2 fun j hj => hg j ?_
      have : j < l.length := by simpa using hj
      omega
    refine Ev.step (fun k => by simp only [foghornref25_Join.l0]; rfl) (Ev.ifn (by omega) ?_)
    unfold joinR
    rw [hall, if_neg (by decide)]
    by_cases h0 : l.length = 0
    · refine Ev.ifp (by omega) (Ev.val ?_)
      by_cases ha : (List.range l.length).any (badAt l) = true
      · rw [if_pos ha]
      · rw [if_neg ha, if_pos h0]
    · refine Ev.ifn (by omega) ?_
      have := rjoin_l1 l hb hn (by omega) l.length 0 [] (by omega) rfl rfl (fun j hj => absurd hj (Nat.not_lt_zero j))
      rw [if_neg h0]
      exact this
  | d + 1, i, h, hg => by
    refine Ev.step (fun k => by simp only [foghornref25_Join.l0]; rfl) (Ev.ifp (by omega) (Ev.ifp (by omega) (Ev.bindc (rmay_f _) ?_)))
    cases hm : mayOf (rd_T30 l (i : Int))
    · refine Ev.ifn (by decide) (Ev.val ?_)
      unfold joinR
      rw [if_pos]
      rw [Bool.eq_false_iff]
      intro h2
      rw [List.all_eq_true] at h2
      have := h2 i (by simp; omega)
      rw [hm] at this
      cases this
    · refine Ev.ifp rfl ?_
      rw [w64 (by omega) (by omega)]
      refine rjoin_l0 l hb hn d (i + 1) (by omega) fun j hj => ?_
      rcases Nat.lt_or_ge j i with h' | h'
      · exact hg j h'
      · obtain rfl : j = i := by omega
        exact hm
theorem rjoin_ev (l : List S30) (hb : (joinAcc l l.length).length ≤ 140737488000000) (hn : l.length ≤ 140737488000000) : Ev (fun k => foghornref25_Join.f k l) (joinR l) := by
  simp only [foghornref25_Join.f]
  exact rjoin_l0 l hb hn l.length 0 (by omega) (fun j hj => absurd hj (Nat.not_lt_zero j))
def mu (l : List S30) : Nat := (l.map fun x => x.f3.size + 1).sum
theorem acc_le (l : List S30) : (joinAcc l l.length).length ≤ mu l := by
  unfold joinAcc mu
  rw [List.take_length]
  induction l with
  | nil => simp
  | cons x l ih =>
    rw [List.flatMap_cons, List.length_append, List.map_cons, List.sum_cons, data_length]
    omega
theorem flen_le (l : List S30) : l.length ≤ mu l := by
  unfold mu
  induction l with
  | nil => simp
  | cons x l ih =>
    rw [List.length_cons, List.map_cons, List.sum_cons]
    omega
theorem mu_set (l : List S30) (i : Nat) (x : S30) (h : ∀ y, l[i]? = some y → x.f3 = y.f3) : mu (l.set i x) = mu l := by
  unfold mu
  induction l generalizing i with
  | nil => simp
  | cons y l ih =>
    cases i with
    | zero => simp [h y rfl]
    | succ i =>
      simp only [List.set_cons_succ, List.map_cons, List.sum_cons]
      rw [ih i (fun z hz => h z (by simpa using hz))]
theorem fp_l1 (a0 a1 : Int) (a2 : ByteArray) (a3 : Int) (hn : 0 ≤ a1 ∧ a1 < 256) (hb : (pV a0 a1 a2 a3).1.length ≤ 1000000) : ∀ (d i : Nat) (x : List S30), i + d = x.length → x.length ≤ 1000000 →
    Ev (fun k => foghornlaw25_FramePieces.l1 k a0 a1 a2 a3 x (pV a0 a1 a2 a3).1 (i : Int)) true
  | 0, i, x, h, hx => by
    refine Ev.step (fun k => by simp only [foghornlaw25_FramePieces.l1]; rfl) (Ev.ifn (by omega) (Ev.bind (pieces_v a0 a1 a2 a3 hn) (Ev.bind (sameAll_rfl (pV a0 a1 a2 a3).1 (by omega)) (Ev.now _))))
  | d + 1, i, x, h, hx => by
    refine Ev.step (fun k => by simp only [foghornlaw25_FramePieces.l1]; rfl) (Ev.ifp (by omega) (Ev.ifp (by omega) ?_))
    rw [w64 (by omega) (by omega)]
    exact fp_l1 a0 a1 a2 a3 hn hb d (i + 1) _ (by rw [List.length_set]; omega) (by rw [List.length_set]; exact hx)
theorem fp_l0 (a0 a1 : Int) (a2 : ByteArray) (a3 : Int) (hn : 0 ≤ a1 ∧ a1 < 256) (hb : (pV a0 a1 a2 a3).1.length ≤ 1000000) : ∀ (d i : Nat) (l : List S30), i + d = 2 → mu l ≤ 1048576 →
    Ev (fun k => foghornlaw25_FramePieces.l0 k a0 a1 a2 a3 (pV a0 a1 a2 a3).1 (pV a0 a1 a2 a3).1 l (i : Int)) true
  | 0, i, l, h, hl => by
    refine Ev.step (fun k => by simp only [foghornlaw25_FramePieces.l0]; rfl) (Ev.ifn (by omega) ?_)
    exact fp_l1 a0 a1 a2 a3 hn hb (pV a0 a1 a2 a3).1.length 0 _ (by omega) hb
  | d + 1, i, l, h, hl => by
    have h1 := acc_le l
    have h2 := flen_le l
    refine Ev.step (fun k => by simp only [foghornlaw25_FramePieces.l0]; rfl) (Ev.ifp (by omega) (Ev.bindc rfl (Ev.ifp (by simp; omega) (Ev.bindc rfl ?_))))
    rw [List.nil_append]
    refine Ev.bindc (a := joinR l) (by unfold frame_Join.f; rw [if_pos (by omega)]) (Ev.bind (rjoin_ev l (by omega) (by omega)) (Ev.ifp rfl (Ev.ifp rfl (Ev.bind (sameAll_rfl l (by omega)) ?_))))
    refine Ev.step (fun k => by simp only [foghornlaw25_FramePieces.j2]; rfl) (Ev.ifn (by simp) ?_)
    rw [w64 (x := (i : Int) + 1) (by omega) (by omega)]
    by_cases h0 : l.length = 0
    · refine Ev.ifn (by omega) ?_
      exact fp_l0 a0 a1 a2 a3 hn hb d (i + 1) l (by omega) hl
    · refine Ev.ifp (by omega) ?_
      rw [show ((l.length : Int) - 1) = ((l.length - 1 : Nat) : Int) by omega, w64n (by omega), Int.toNat_natCast]
      refine Ev.ifp (by omega) (Ev.ifp (by omega) ?_)
      refine fp_l0 a0 a1 a2 a3 hn hb d (i + 1) _ (by omega) ?_
      rw [mu_set]
      · exact hl
      · intro y hy
        simp [rd_T30, List.getD_eq_getElem?_getD, hy]
theorem pV_len (a0 a1 : Int) (a2 : ByteArray) (a3 : Int) : (pV a0 a1 a2 a3).1.length ≤ 1000000 := by
  unfold pV
  split
  · rename_i h
    obtain ⟨h1, h2, h3, h4, h5⟩ := h
    rw [pieces_length]
    rcases Nat.eq_zero_or_pos (many a2.size a3.toNat - 1) with e | e
    · omega
    · have := (many_lt a2.size a3.toNat (many a2.size a3.toNat - 2) (by omega)).1 (by omega)
      have h2 := Nat.le_mul_of_pos_right (many a2.size a3.toNat - 2 + 1) (show 0 < a3.toNat by omega)
      omega
  · simp
theorem FramePieces_ev (a0 a1 : Int) (a2 : ByteArray) (a3 : Int) (l4 : List S30) (w1 : (Lit.int .u8 a1).wf = true) (hl : mu l4 ≤ 1048576) : Ev (fun k => foghornlaw25_FramePieces.f k a0 a1 a2 a3 l4) true := by
  have hn : 0 ≤ a1 ∧ a1 < 256 := by
    simp [Lit.wf, IntKind.min, IntKind.max, IntKind.signed, IntKind.bits] at w1
    omega
  have hb := pV_len a0 a1 a2 a3
  have h2 := flen_le l4
  simp only [foghornlaw25_FramePieces.f]
  refine Ev.bind (pieces_v a0 a1 a2 a3 hn) (Ev.bind (rpieces_v a0 a1 a2 a3 hn) (Ev.bind (sameAll_rfl (pV a0 a1 a2 a3).1 (by omega)) (Ev.ifp rfl ?_)))
  refine Ev.step (fun k => by simp only [foghornlaw25_FramePieces.j0]; rfl) (Ev.ifn (by simp) (Ev.bindc rfl (Ev.ifp (by simp; omega) ?_)))
  exact fp_l0 a0 a1 a2 a3 hn hb 2 0 l4 (by omega) hl
theorem FramePieces_walk (a0 a1 : Int) (a2 : ByteArray) (a3 : Int) (A4 : Option Addr) (c4 : Nat) (l4 : List S30) (w : World) (w0 : (Lit.int .u8 a0).wf = true) (w1 : (Lit.int .u8 a1).wf = true) (w2 : a2.size ≤ 140737488351232) (hu2 : a2.size ≤ 1048576) (w3 : (Lit.int .i64 a3).wf = true)
    (hr4 : Kd.C k30 w A4 l4.length l4) (hc4 : l4.length ≤ c4) (hy4 : l4.length * 24 ≤ 140737488351232) (hg4 : ∀ x ∈ l4, (Lit.int .u8 x.f0).wf = true ∧ (Lit.int .u8 x.f1).wf = true ∧ True ∧ x.f3.size ≤ 140737488351232) (hu4 : (l4.map fun x => x.f3.size + 1).sum ≤ 1048576) :
    Calls Try.prog 3 #[.int .u8 a0, .int .u8 a1, .string a2, .int .i64 a3, .slice A4 l4.length c4] w fun e w' => e = .returned (.bool true) ∧ Below w.heap.size w w' := by
  obtain ⟨k, h⟩ := (FramePieces_ev a0 a1 a2 a3 l4 w1 hu4).rounds
  exact foghornlaw25_FramePieces.calls k a0 a1 a2 a3 A4 c4 l4 true w hr4 hc4 h
end Go.Proofs.Ytclhkbjcemgmnaa.Pure
