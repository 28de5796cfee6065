-- FOREIGN foghorn/bits.Parse making plain
import Derived.Test.YtabjfehhibeeiaaFogx0
import Derived.Lib.OthersKept
namespace Go.Proofs.Ytabjfehhibeeiaa.Fog
open Go.RowKit Go.Proofs.YtabjfehhibeeiaaW.PrintWords Go.Proofs.YtabjfehhibeeiaaW.PrintLast Go.Proofs.YtabjfehhibeeiaaW.PrintMore
set_option linter.unusedVariables false
set_option linter.unusedSimpArgs false
def badC (s : ByteArray) (k : Nat) : Bool := (bt s (k : Int) != 48 && bt s (k : Int) != 49) || k == 32768
def parseV (s : ByteArray) : List Bool × Int × Int :=
  match (List.range s.size).find? (badC s) with
  | some k => ([], (k : Int), 4)
  | none => ((List.range s.size).map fun k : Nat => bt s (k : Int) == 49, 0, 0)
def bits_Parse.f (a0 : ByteArray) : Option (List Bool × Int × Int) := some (parseV a0)
theorem parse_bad (s : ByteArray) (k : Nat) (hk : k < s.size) (hb : badC s k = true) (hg : ∀ j, j < k → badC s j = false) : parseV s = ([], (k : Int), 4) := by
  unfold parseV
  rw [List.find?_range_eq_some.2 ⟨hb, by simpa using hk, fun j hj => by rw [hg j hj]; rfl⟩]
theorem parse_good (s : ByteArray) (hg : ∀ j, j < s.size → badC s j = false) : parseV s = ((List.range s.size).map fun k : Nat => bt s (k : Int) == 49, 0, 0) := by
  unfold parseV
  rw [List.find?_eq_none.2 (fun j hj => by rw [hg j (by simpa using hj)]; simp)]
set_option maxHeartbeats 4000000 in
set_option maxRecDepth 100000 in
theorem parse_walk (s : ByteArray) (w : World) :
    Calls Try.prog 32 #[.string s] w fun e w' => ∃ v0_ : Value, e = .returned (.tuple #[v0_, .int .i64 (parseV s).2.1, .int .i64 (parseV s).2.2]) ∧ Kd.R Kd.bool 4 w' w.heap.size (fun _ => True) v0_ (parseV s).1 ∧ Below w.heap.size w w' := by
  go_enter Try.func32, Try.ntmps32
  go_wp2
  obtain ⟨W1, hW1⟩ : ∃ W1, w.iter s 0 = W1 := ⟨_, rfl⟩
  have HB0 := Aside0.mk (show Below w.heap.size w W1 by rw [← hW1]; exact (Below.refl _ w).alloc (Nat.le_refl _) _)
  have HI0 := Aside0.mk (show W1.heap[w.heap.size]? = some (.stringIter s 0) by rw [← hW1]; exact World.iter_heap w s 0)
  rw [hW1]
  clear hW1
  go_loopw [5] (fun v wr => ∃ k : Nat, k ≤ s.size ∧ k ≤ 32768 ∧ Aside0 (∀ j, j < k → badC s j = false) ∧ Aside0 (wr.heap[w.heap.size]? = some (.stringIter s k)) ∧ Aside0 (Kd.R Kd.bool 4 wr w.heap.size (fun _ => True) v ((List.range k).map fun j : Nat => bt s (j : Int) == 49)) ∧ Aside0 (Below w.heap.size w wr)) (fun _ wr => s.size - wr.iterPos w.heap.size)
  case atStart => exact ⟨0, Nat.zero_le _, Nat.zero_le _, ⟨fun j hj => absurd hj (Nat.not_lt_zero j)⟩, HI0, ⟨Kd.R_nil _ _ _ _ _⟩, HB0⟩
  case round =>
    obtain ⟨k, hk, hk2, HG, HI, HR, HB⟩ := hrel
    by_cases hp : k < s.size
    · have hnx : ∀ ty, (Instr.next (.pointer (some ⟨w.heap.size, 0, none⟩)) true ty).run Try.prog wr = _ := fun ty => Lib.run_next_any_at wr w.heap.size s k ty HI.out hp
      have hbt : bt s (k : Int) = ((s[k]'hp).toNat : Int) := by have := bt_at s (k : Int); simp only [Int.toNat_natCast] at this; exact (this hp).symm
      have HB2 := Aside0.mk (Lib.below_iterAt HB.out (k := w.heap.size) (Nat.le_refl _) s (k + (Utf8.decode s k).2))
      have HI2 := Aside0.mk (Lib.iterAt_heap wr w.heap.size s k (k + (Utf8.decode s k).2) HI.out)
      have HR2 := Aside0.mk (show Kd.R Kd.bool 4 (wr.iterAt w.heap.size s (k + (Utf8.decode s k).2)) w.heap.size (fun _ => True) u5 ((List.range k).map fun j : Nat => bt s (j : Int) == 49) from by
        have h := Kd.R_bound HR.out
        refine Kd.R_mono (Kd.R_move h ?_) (fun _ _ => trivial)
        rintro q ⟨_, _, _, _, _, cells, hq⟩
        refine Lib.iterAt_other wr w.heap.size q s _ ?_
        rintro rfl
        rw [HI.out] at hq
        cases hq)
      by_cases hd : bt s (k : Int) = 48 ∨ bt s (k : Int) = 49
      · have hdec : Utf8.decode s k = ((s[k]'hp).toNat, 1) := decode_ascii s k hp (by omega)
        rw [hdec] at hnx HB2 HI2 HR2
        obtain ⟨W2, hW2⟩ : ∃ W2, wr.iterAt w.heap.size s (k + 1) = W2 := ⟨_, rfl⟩
        dsimp only at hnx HB2 HI2 HR2
        rw [hW2] at hnx HB2 HI2 HR2
        have hit : wr.iterPos w.heap.size = k := by simp only [World.iterPos, HI.out]
        have HIT := Aside0.mk hit
        rw [← hbt] at hnx
        obtain ⟨r, hr⟩ : ∃ r, bt s (k : Int) = r := ⟨_, rfl⟩
        rw [hr] at hnx hd
        have HRr := Aside0.mk hr
        clear hW2 hdec hbt hr hit
        by_cases h3 : k = 32768
        · have h3' : (k : Int) = 32768 := by omega
          have HBad := Aside0.mk (show badC s k = true by unfold badC; rw [h3]; simp)
          have HK := Aside0.mk h3
          clear h3
          rcases hd with rfl | rfl
          · go_wp2
            refine bodyPost_ret (results_tmp3 rfl _ _ _) rfl ?_
            rw [parse_bad s k hp HBad.out HG.out]
            exact ⟨_, by rw [h3']; rfl, Kd.R_nil _ _ _ _ _, HB2.out⟩
          · go_wp2
            refine bodyPost_ret (results_tmp3 rfl _ _ _) rfl ?_
            rw [parse_bad s k hp HBad.out HG.out]
            exact ⟨_, by rw [h3']; rfl, Kd.R_nil _ _ _ _ _, HB2.out⟩
        · have h3' : ((k : Int) == 32768) = false := by simpa using (by omega : ¬ (k : Int) = 32768)
          have hk3 : k < 32768 := by omega
          have HN := Aside0.mk (show ∀ j, j < k + 1 → badC s j = false from fun j hj => by
            rcases Nat.lt_or_ge j k with h | h
            · exact HG.out j h
            · obtain rfl : j = k := by omega
              unfold badC
              rw [HRr.out]
              have : (j == 32768) = false := by simpa using h3
              rw [this]
              rcases hd with rfl | rfl <;> rfl)
          have hsz : w.heap.size ≤ W2.heap.size := HB2.out.size
          have HSZ := Aside0.mk hsz
          clear h3 hsz
          rcases hd with rfl | rfl
          · go_wp2_with ((with_reducible refine gate_builtin (b := .append) (xs := #[.tmp 25, .tmp 28]) rfl ?_); at_builtin; refine Kd.R_append Kd.bool (w0 := w) w.heap.size rfl (.tmp 25) (.tmp 28) 26 4 (.bool false) 1 rfl Try.underlying26 info4 rfl (by decide) (by omega) u5 ((List.range k).map fun j : Nat => bt s (j : Int) == 49) false [.bool false] (fun _ => True) (fun _ => False) rfl rfl ?aP (fun _ hk => hk.elim) ?aF ?aO ?aB ?aS ?aL ?_; (case aP => exact rfl); (case aB => exact HB2.out); (case aF => exact (fun _ _ => trivial)); (case aO => exact HR2.out); (case aS => exact HSZ.out); (case aL => rw [List.length_map, List.length_range]; omega); intro v3 w3 ho hb_ hg hat; have HO4 := Aside0.mk ho; have HB4 := Aside0.mk hb_; have HGr := Aside0.mk hg; clear ho hb_ hg hat)
            have HI4 := Aside0.mk (show w3.heap[w.heap.size]? = some (.stringIter s (k + 1)) from by
              rw [HGr.out.block _ (Array.getElem?_eq_some_iff.1 HI2.out).1]
              · exact HI2.out
              · intro e
                obtain ⟨_, _, _, _, _, cells, hq⟩ := (Kd.R_bound HR2.out).1 _ e.symm
                rw [HI2.out] at hq
                cases hq)
            go_roundw
            case rel =>
              refine ⟨k + 1, by omega, by omega, HN, HI4, ⟨?_⟩, HB4⟩
              rw [List.range_succ, List.map_append]
              have e : (List.map (fun j : Nat => bt s (j : Int) == 49) [k]) = [false] := by simp [HRr.out]
              rw [e]
              exact HO4.out
            case measure =>
              rw [HIT.out]
              simp only [World.iterPos, HI4.out]
              omega
          · go_wp2_with ((with_reducible refine gate_builtin (b := .append) (xs := #[.tmp 25, .tmp 28]) rfl ?_); at_builtin; refine Kd.R_append Kd.bool (w0 := w) w.heap.size rfl (.tmp 25) (.tmp 28) 26 4 (.bool false) 1 rfl Try.underlying26 info4 rfl (by decide) (by omega) u5 ((List.range k).map fun j : Nat => bt s (j : Int) == 49) true [.bool true] (fun _ => True) (fun _ => False) rfl rfl ?aP (fun _ hk => hk.elim) ?aF ?aO ?aB ?aS ?aL ?_; (case aP => exact rfl); (case aB => exact HB2.out); (case aF => exact (fun _ _ => trivial)); (case aO => exact HR2.out); (case aS => exact HSZ.out); (case aL => rw [List.length_map, List.length_range]; omega); intro v3 w3 ho hb_ hg hat; have HO4 := Aside0.mk ho; have HB4 := Aside0.mk hb_; have HGr := Aside0.mk hg; clear ho hb_ hg hat)
            have HI4 := Aside0.mk (show w3.heap[w.heap.size]? = some (.stringIter s (k + 1)) from by
              rw [HGr.out.block _ (Array.getElem?_eq_some_iff.1 HI2.out).1]
              · exact HI2.out
              · intro e
                obtain ⟨_, _, _, _, _, cells, hq⟩ := (Kd.R_bound HR2.out).1 _ e.symm
                rw [HI2.out] at hq
                cases hq)
            go_roundw
            case rel =>
              refine ⟨k + 1, by omega, by omega, HN, HI4, ⟨?_⟩, HB4⟩
              rw [List.range_succ, List.map_append]
              have e : (List.map (fun j : Nat => bt s (j : Int) == 49) [k]) = [true] := by simp [HRr.out]
              rw [e]
              exact HO4.out
            case measure =>
              rw [HIT.out]
              simp only [World.iterPos, HI4.out]
              omega
      · have hr : ((Utf8.decode s k).1 : Int) ≠ 48 ∧ ((Utf8.decode s k).1 : Int) ≠ 49 := by
          by_cases ha : (s[k]'hp).toNat < 128
          · rw [decode_ascii s k hp ha]
            dsimp only
            omega
          · have := (decode_high s k hp (by omega)).1
            omega
        have HBad := Aside0.mk (show badC s k = true by
          unfold badC
          have h1 : (bt s (k : Int) != 48) = true := by simpa using (by omega : ¬ bt s (k : Int) = 48)
          have h2 : (bt s (k : Int) != 49) = true := by simpa using (by omega : ¬ bt s (k : Int) = 49)
          rw [h1, h2]; rfl)
        obtain ⟨W2, hW2⟩ : ∃ W2, wr.iterAt w.heap.size s (k + (Utf8.decode s k).2) = W2 := ⟨_, rfl⟩
        rw [hW2] at hnx HB2
        obtain ⟨r, hrr⟩ : ∃ r : Nat, (Utf8.decode s k).1 = r := ⟨_, rfl⟩
        rw [hrr] at hnx hr
        have hr1 : ((r : Int) != 48) = true := by simpa using hr.1
        have hr2 : ((r : Int) != 49) = true := by simpa using hr.2
        clear hbt hd hW2 hrr hr HR2 HI2
        go_wp2
        refine bodyPost_ret (results_tmp3 rfl _ _ _) rfl ?_
        rw [parse_bad s k hp HBad.out HG.out]
        exact ⟨_, rfl, Kd.R_nil _ _ _ _ _, HB2.out⟩
    · obtain rfl : k = s.size := by omega
      have hnx : ∀ ty, (Instr.next (.pointer (some ⟨w.heap.size, 0, none⟩)) true ty).run Try.prog wr = _ := fun ty => Lib.run_next_end_at wr w.heap.size s s.size ty HI.out hp
      go_wp2
      refine bodyPost_ret (results_tmp3 rfl _ _ _) rfl ?_
      rw [parse_good s HG.out]
      exact ⟨_, rfl, HR.out, HB.out⟩
theorem bits_Parse.calls (a0 : ByteArray) (r1 : List Bool) (r2 r3 : Int) (w : World) (h : bits_Parse.f a0 = some (r1, r2, r3)) :
    Calls Try.prog 32 #[.string a0] w fun e w' => ∃ v0_ : Value, e = .returned (.tuple #[v0_, .int .i64 r2, .int .i64 r3]) ∧ Kd.R Kd.bool 4 w' w.heap.size (fun _ => True) v0_ r1 ∧ Below w.heap.size w w' := by
  have e : parseV a0 = (r1, r2, r3) := Option.some.inj h
  have h := parse_walk a0 w
  rw [e] at h
  exact h
end Go.Proofs.Ytabjfehhibeeiaa.Fog
