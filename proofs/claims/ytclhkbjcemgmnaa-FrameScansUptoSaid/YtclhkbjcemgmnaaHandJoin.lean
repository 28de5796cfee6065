-- FOREIGN foghorn/frame.Join making plain
-- ALSO foghorn/frame.may
import Derived.Test.YtclhkbjcemgmnaaFogx0
import Derived.Test.YtclhkbjcemgmnaaFogx1
import Derived.Test.YtclhkbjcemgmnaaShelf
import Derived.Test.YtclhkbjcemgmnaaHandWrite
namespace Go.Proofs.Ytclhkbjcemgmnaa.Fog
open Go.RowKit Go.Proofs.YtclhkbjcemgmnaaW.PrintWords Go.Proofs.YtclhkbjcemgmnaaW.PrintLast Go.Proofs.YtclhkbjcemgmnaaW.PrintMore
set_option linter.unusedVariables false
set_option linter.unusedSimpArgs false
def mayOf (x : S30) : Bool := (frame_may.f x.f0 x.f1 x.f2 x.f3).getD false
theorem mayOf_f (x : S30) : frame_may.f x.f0 x.f1 x.f2 x.f3 = some (mayOf x) := by
  unfold mayOf frame_may.f
  split
  · split <;> rfl
  · rfl
def bad1 (l : List S30) (i : Nat) : Bool := (rd_T30 l (i : Int)).f2 != decide ((i : Int) + 1 < (l.length : Int))
def bad2 (l : List S30) (i : Nat) : Bool := (rd_T30 l (i : Int)).f0 != (rd_T30 l 0).f0
def bad3 (l : List S30) (i : Nat) : Bool := (rd_T30 l (i : Int)).f1 != ((rd_T30 l 0).f1 + (i : Int)) % 256
def badAt (l : List S30) (i : Nat) : Bool := bad1 l i || bad2 l i || bad3 l i
def joinAcc (l : List S30) (k : Nat) : List UInt8 := (l.take k).flatMap fun x => x.f3.data.toList
def joinR (l : List S30) : ByteArray × Int :=
  if (List.range l.length).all (fun i => mayOf (rd_T30 l (i : Int))) = false then (⟨#[]⟩, 1) else
  if (List.range l.length).any (badAt l) = true then (⟨#[]⟩, 4) else
  if l.length = 0 then (⟨#[]⟩, 4) else
  if 32768 < (joinAcc l l.length).length then (⟨#[]⟩, 1) else (⟨(joinAcc l l.length).toArray⟩, 0)
def frame_Join.f (l0 : List S30) : Option (ByteArray × Int) := if (joinAcc l0 l0.length).length ≤ 140737488355328 then some (joinR l0) else none
theorem builderAt_below {T e B b : Nat} {p : Value} {bs : List Value} {w w' : World} (h : Lib.BuilderAt T e B b p bs w) (hb : Below w.heap.size w w') : Lib.BuilderAt T e B b p bs w' := by
  obtain ⟨hB, v, hk, ho, hne⟩ := h
  exact ⟨hB, v, blk_below hk hb, own_move ho (fun k hk => hb.block k (own_lt ho k hk)), hne⟩
theorem isBuilder_below {T e B b : Nat} {bs : List Value} {w w' : World} (h : Lib.IsBuilder T e B b bs w) (hb : Below w.heap.size w w') : Lib.IsBuilder T e B b bs w' := by
  rcases h with h | h
  · exact .inl (builderAt_below h hb)
  · exact .inr (builderAt_below h hb)
theorem isBuilder_drewN {T e B b : Nat} {bs : List Value} {w : World} (h : Lib.IsBuilder T e B b bs w) (n : Nat) : Lib.IsBuilder T e B b bs (w.drewN n) := isBuilder_below h (pw_below_drewN (Below.refl _ _) n)
theorem joinAcc_succ (l : List S30) (k : Nat) (h : k < l.length) : joinAcc l (k + 1) = joinAcc l k ++ (rd_T30 l (k : Int)).f3.data.toList := by
  unfold joinAcc
  rw [List.take_succ_eq_append_getElem h, List.flatMap_append]
  congr 1
  simp [rd_T30, List.getD_eq_getElem?_getD, h]
theorem joinAcc_le (l : List S30) (k : Nat) (h : k ≤ l.length) : (joinAcc l k).length ≤ (joinAcc l l.length).length := by
  have e : l.take l.length = l.take k ++ l.drop k := by rw [List.take_length, List.take_append_drop]
  have e2 : joinAcc l l.length = joinAcc l k ++ (l.drop k).flatMap fun x => x.f3.data.toList := by
    unfold joinAcc
    rw [e, List.flatMap_append]
  rw [e2, List.length_append]
  omega
set_option maxHeartbeats 2000000 in
set_option maxRecDepth 100000 in
theorem join_walk (A0 : Option Addr) (c0 : Nat) (l0 : List S30) (w : World) (hr0 : Kd.C k30 w A0 l0.length l0) (hc0 : l0.length ≤ c0) (hl : (joinAcc l0 l0.length).length ≤ 140737488355328) :
    Calls Try.prog 13 #[.slice A0 l0.length c0] w fun e w' => e = .returned (.tuple #[.string (joinR l0).1, .int .i64 (joinR l0).2]) ∧ Below w.heap.size w w' := by
  have hn : l0.length ≤ 9223372036854775807 := Kd.C_max hr0
  have HR := Aside0.mk hr0
  have HB := Aside0.mk (Below.refl w.heap.size w)
  clear hr0
  go_enter Try.func13, Try.ntmps13
  go_wp2
  go_loopw [5, 11] (fun p i wr => ∃ k : Nat, k ≤ l0.length ∧ i = .int .i64 (k : Int) ∧ Aside0 (∀ j, j < k → mayOf (rd_T30 l0 (j : Int)) = true) ∧ Aside0 (Below w.heap.size w wr)) (fun _ i _ => l0.length - (intOf i).toNat)
  case atStart => exact ⟨0, Nat.zero_le _, rfl, ⟨fun j hj => absurd hj (Nat.not_lt_zero j)⟩, HB⟩
  case round =>
    obtain ⟨k, hk, rfl, HM, HB1⟩ := hrel
    by_cases hlt : k < l0.length
    · obtain ⟨ad, rfl, q0, q1, q2, q3⟩ := at_T30 (Kd.C_below HR.out HB1.out) (k : Int) (by omega) (by omega)
      simp only [Int.toNat_natCast] at q0 q1 q2 q3
      cases hmy : mayOf (rd_T30 l0 (k : Int)) with
      | false =>
        have HF := Aside0.mk ((mayOf_f (rd_T30 l0 (k : Int))).trans (by rw [hmy]))
        have HNo := Aside0.mk hmy
        clear hmy
        go_wp2_with (go_at_call 25; (with_reducible refine (frame_may.calls _ _ _ _ _ _ HF.out).mono ?_); rintro e w1 ⟨rfl, hb⟩; have HB2 := Aside0.mk (below_step (below_alloc HB1.out _) hb); clear hb)
        go_ret2
        have e : joinR l0 = (⟨#[]⟩, 1) := by
          unfold joinR
          rw [if_pos]
          rw [Bool.eq_false_iff]
          intro h
          rw [List.all_eq_true] at h
          have := h k (by simpa using hlt)
          rw [HNo.out] at this
          cases this
        rw [e]
        exact ⟨rfl, HB2.out⟩
      | true =>
        have HF := Aside0.mk ((mayOf_f (rd_T30 l0 (k : Int))).trans (by rw [hmy]))
        have HYes := Aside0.mk hmy
        clear hmy
        go_wp2_with (go_at_call 25; (with_reducible refine (frame_may.calls _ _ _ _ _ _ HF.out).mono ?_); rintro e w1 ⟨rfl, hb⟩; have HB2 := Aside0.mk (below_step (below_alloc HB1.out _) hb); clear hb q0 q1 q2 q3)
        go_roundw
        case rel => exact ⟨k + 1, hlt, by go_num, ⟨fun j hj => by
          rcases Nat.lt_or_ge j k with h | h
          · exact HM.out j h
          · obtain rfl : j = k := by omega
            exact HYes.out⟩, HB2⟩
        case measure => simp [intOf]; omega
    · obtain rfl : k = l0.length := by omega
      go_wp2
      have HB3 := Aside0.mk (below_alloc HB1.out (.cells #[.pointer none, .slice none 0 0] 57))
      have HI3 := Aside0.mk (Lib.fresh_isBuilder 57 5 wr)
      have HC3 := Aside0.mk (Kd.C_below HR.out HB3.out)
      have HLE := Aside0.mk HB1.out.size
      obtain ⟨b, hb⟩ : ∃ b, b = wr.heap.size := ⟨_, rfl⟩
      rw [← hb] at HI3 ⊢
      obtain ⟨W3, hW3⟩ : ∃ W3, wr.alloc (.cells #[.pointer none, .slice none 0 0] 57) = W3 := ⟨_, rfl⟩
      rw [hW3] at HB3 HI3 HC3 ⊢
      have HLB := Aside0.mk (show b ≤ W3.heap.size by rw [hb, ← hW3]; simp)
      have HWB := Aside0.mk (show w.heap.size ≤ b by rw [hb]; exact HLE.out)
      clear hW3 hb HLE
      go_loopw [8, 7, 21] (fun p q i wr => ∃ k : Nat, k ≤ l0.length ∧ i = .int .i64 (k : Int) ∧ Aside0 (∀ j, j < k → badAt l0 j = false) ∧ Aside0 (Below w.heap.size w wr) ∧ Aside0 (Lib.IsBuilder 57 5 b b (Lib.byteCells (joinAcc l0 k)) wr) ∧ Aside0 (b ≤ wr.heap.size)) (fun _ _ i _ => l0.length - (intOf i).toNat)
      case atStart => exact ⟨0, Nat.zero_le _, rfl, ⟨fun j hj => absurd hj (Nat.not_lt_zero j)⟩, HB3, HI3, HLB⟩
      case round =>
        obtain ⟨k, hk, rfl, HM2, HB4, HI4, HL4⟩ := hrel
        by_cases hlt : k < l0.length
        · have HC4 := Kd.C_below HR.out HB4.out
          obtain ⟨ad, rfl, q0, q1, q2, q3⟩ := at_T30 HC4 (k : Int) (by omega) (by omega)
          obtain ⟨ad2, hq, o0, o1, o2, o3⟩ := at_T30 HC4 0 (by omega) (by omega)
          obtain rfl : ad = ad2 := Option.some.inj hq
          clear hq HC4
          simp only [Int.toNat_natCast] at q0 q1 q2 q3
          go_wp2
          obtain ⟨W5, hW5⟩ : ∃ W5, wr.alloc (.cells #[.int .u8 (rd_T30 l0 (k : Int)).f0, .int .u8 (rd_T30 l0 (k : Int)).f1, .bool (rd_T30 l0 (k : Int)).f2, .string (rd_T30 l0 (k : Int)).f3] 30) = W5 := ⟨_, rfl⟩
          have hf : W5.heap[wr.heap.size]? = _ := hW5 ▸ blk_new wr (.cells #[.int .u8 (rd_T30 l0 (k : Int)).f0, .int .u8 (rd_T30 l0 (k : Int)).f1, .bool (rd_T30 l0 (k : Int)).f2, .string (rd_T30 l0 (k : Int)).f3] 30)
          have hb5 : Below wr.heap.size wr W5 := hW5 ▸ below_alloc (Below.refl _ _) _
          rw [hW5]
          clear hW5 q0 q1 q2 q3 o0 o1 o2 o3
          have HB5 := Aside0.mk (below_step HB4.out hb5)
          have HI5 := Aside0.mk (isBuilder_below HI4.out hb5)
          have HL5 := Aside0.mk (Nat.le_trans HL4.out hb5.size)
          clear hb5
          obtain ⟨ad2, hq, o0, o1, o2, o3⟩ := at_T30 (Kd.C_below HR.out HB5.out) 0 (by omega) (by omega)
          obtain rfl : ad = ad2 := Option.some.inj hq
          have oe : ad.add (Int.toNat 0 * 4) = ad := by simp [Addr.add]
          rw [oe] at o0 o1 o2 o3
          clear hq oe o2 o3
          have c0' := (blk_cell hf 0).trans rfl
          have c1' := (blk_cell hf 1).trans rfl
          have c2' := (blk_cell hf 2).trans rfl
          have c3' := (blk_cell hf 3).trans rfl
          clear hf
          have hpos : 0 < l0.length := by omega
          have hw : IntKind.i64.wrap ((k : Int) + 1) = (k : Int) + 1 := by rw [IntKind.wrap_i64]; omega
          have refuse : badAt l0 k = true → joinR l0 = (⟨#[]⟩, 4) := by
            intro hbad
            unfold joinR
            rw [if_neg, if_pos]
            · exact List.any_eq_true.2 ⟨k, by simpa using hlt, hbad⟩
            · intro h
              rw [Bool.eq_false_iff] at h
              exact h (List.all_eq_true.2 fun j hj => HM.out j (by simpa using hj))
          have REF := Aside0.mk refuse
          clear refuse
          cases hb1 : ((rd_T30 l0 (k : Int)).f2 == decide ((k : Int) + 1 < (l0.length : Int))) with
          | false =>
            go_quiet (fail)
            go_wp2
            go_ret2
            rw [REF.out (by unfold badAt bad1; rw [bne, hb1]; rfl)]
            exact ⟨rfl, pw_below_drewN HB5.out _⟩
          | true =>
            by_cases hb2 : (rd_T30 l0 (k : Int)).f0 = (rd_T30 l0 0).f0
            · by_cases hb3 : (rd_T30 l0 (k : Int)).f1 = ((rd_T30 l0 0).f1 + (k : Int)) % 256
              · go_quiet (fail)
                have HL6 := Aside0.mk (joinAcc_le l0 (k + 1) hlt)
                have hacc : (Lib.byteCells (joinAcc l0 k)).length + (rd_T30 l0 (k : Int)).f3.size ≤ 140737488355328 := by
                  have := HL6.out
                  rw [joinAcc_succ l0 k hlt, List.length_append, data_length] at this
                  rw [Lib.byteCells_length]
                  omega
                have HAcc := Aside0.mk hacc
                clear hacc
                go_wp2_with (go_at_call 26; refine (write_calls b b (Lib.byteCells (joinAcc l0 k)) (rd_T30 l0 (k : Int)).f3 _ (isBuilder_drewN HI5.out _) HAcc.out HL5.out).mono ?_; rintro e w1 ⟨⟨v1, rfl⟩, hi, hb6⟩; have HI6 := Aside0.mk hi; have HB6 := Aside0.mk (below_weaken (pw_below_drewN HB5.out nq) HWB.out hb6); have HL7 := Aside0.mk (Nat.le_trans HL5.out hb6.size); clear hi hb6)
                have HOK := Aside0.mk (show badAt l0 k = false by
                  unfold badAt bad1 bad2 bad3
                  rw [bne, hb1, show ((rd_T30 l0 (k : Int)).f0 != (rd_T30 l0 0).f0) = false from by simpa using hb2, show ((rd_T30 l0 (k : Int)).f1 != ((rd_T30 l0 0).f1 + (k : Int)) % 256) = false from by simpa using hb3]
                  rfl)
                go_roundw
                case rel => exact ⟨k + 1, hlt, by go_num, ⟨fun j hj => by
                  rcases Nat.lt_or_ge j k with h | h
                  · exact HM2.out j h
                  · obtain rfl : j = k := by omega
                    exact HOK.out⟩, HB6, ⟨by
                  have h := HI6.out
                  rw [joinAcc_succ l0 k hlt]
                  have e : Lib.byteCells (joinAcc l0 k ++ (rd_T30 l0 (k : Int)).f3.data.toList) = Lib.byteCells (joinAcc l0 k) ++ Lib.strCells (rd_T30 l0 (k : Int)).f3 := by
                    unfold Lib.byteCells Lib.strCells
                    rw [List.map_append]
                  rw [e]
                  exact h⟩, HL7⟩
                case measure => simp [intOf]; omega
              · go_quiet (fail)
                go_wp2
                go_ret2
                rw [REF.out (by unfold badAt bad3; rw [show ((rd_T30 l0 (k : Int)).f1 != ((rd_T30 l0 0).f1 + (k : Int)) % 256) = true from by simpa using hb3, Bool.or_true])]
                exact ⟨rfl, pw_below_drewN HB5.out _⟩
            · go_quiet (fail)
              go_wp2
              go_ret2
              rw [REF.out (by unfold badAt bad2; rw [show ((rd_T30 l0 (k : Int)).f0 != (rd_T30 l0 0).f0) = true from by simpa using hb2, Bool.or_true, Bool.true_or])]
              exact ⟨rfl, pw_below_drewN HB5.out _⟩
        · obtain rfl : k = l0.length := by omega
          have hall : (List.range l0.length).all (fun i => mayOf (rd_T30 l0 (i : Int))) = true := List.all_eq_true.2 fun j hj => HM.out j (by simpa using hj)
          have hany : (List.range l0.length).any (badAt l0) = false := by
            rw [Bool.eq_false_iff]
            intro h
            obtain ⟨j, hj, hb⟩ := List.any_eq_true.1 h
            rw [HM2.out j (by simpa using hj)] at hb
            cases hb
          have HALL := Aside0.mk hall
          have HANY := Aside0.mk hany
          clear hall hany
          by_cases h0 : l0.length = 0
          · go_wp2
            go_ret2
            have e : joinR l0 = (⟨#[]⟩, 4) := by
              unfold joinR
              rw [HALL.out, HANY.out, if_neg (by decide), if_neg (by decide), if_pos h0]
            rw [e]
            exact ⟨rfl, HB4.out⟩
          · by_cases hbig : 32768 < (joinAcc l0 l0.length).length
            · have hbig' : (32768 : Int) < ((Lib.byteCells (joinAcc l0 l0.length)).length : Int) := by rw [Lib.byteCells_length]; omega
              go_wp2_with (go_at_call 27; refine (Shelf.Try.Builder_Len b b _ _ HI4.out).mono ?_; rintro e w1 ⟨rfl, rfl⟩)
              go_ret2
              have e : joinR l0 = (⟨#[]⟩, 1) := by
                unfold joinR
                rw [HALL.out, HANY.out, if_neg (by decide), if_neg (by decide), if_neg h0, if_pos hbig]
              rw [e]
              exact ⟨rfl, HB4.out⟩
            · have hbig' : ¬ (32768 : Int) < ((Lib.byteCells (joinAcc l0 l0.length)).length : Int) := by rw [Lib.byteCells_length]; omega
              go_wp2_with (first
                | (go_at_call 27; refine (Shelf.Try.Builder_Len b b _ _ HI4.out).mono ?_; rintro e w1 ⟨rfl, rfl⟩)
                | (go_at_call 28; refine (Shelf.Try.Builder_String_any b b _ _ HI4.out HL4.out).mono ?_; rintro e w1 ⟨rfl, hb6⟩; have HB6 := Aside0.mk (below_weaken HB4.out HWB.out hb6); clear hb6))
              go_ret2
              have e : joinR l0 = (⟨(joinAcc l0 l0.length).toArray⟩, 0) := by
                unfold joinR
                rw [HALL.out, HANY.out, if_neg (by decide), if_neg (by decide), if_neg h0, if_neg hbig]
              rw [e]
              exact ⟨rfl, HB6.out⟩
theorem frame_Join.calls (A0 : Option Addr) (c0 : Nat) (l0 : List S30) (r1 : ByteArray) (r2 : Int) (w : World) (hr0 : Kd.C k30 w A0 l0.length l0) (hc0 : l0.length ≤ c0) (h : frame_Join.f l0 = some (r1, r2)) :
    Calls Try.prog 13 #[.slice A0 l0.length c0] w fun e w' => e = .returned (.tuple #[.string r1, .int .i64 r2]) ∧ Below w.heap.size w w' := by
  unfold frame_Join.f at h
  by_cases hl : (joinAcc l0 l0.length).length ≤ 140737488355328
  · rw [if_pos hl] at h
    have e : joinR l0 = (r1, r2) := Option.some.inj h
    have := join_walk A0 c0 l0 w hr0 hc0 hl
    rw [e] at this
    exact this
  · rw [if_neg hl] at h
    cases h
end Go.Proofs.Ytclhkbjcemgmnaa.Fog
