import Derived.Test.YtabjfehhibeeiaaFogx0
import Derived.Test.YtabjfehhibeeiaaRefTurn
namespace Go.Proofs.Ytabjfehhibeeiaa.Pure
open Go.RowKit Go.Proofs.Ytabjfehhibeeiaa.Fog Go.Proofs.YtabjfehhibeeiaaW.PrintWords Go.Proofs.YtabjfehhibeeiaaW.PrintLast Go.Proofs.YtabjfehhibeeiaaW.PrintMore Go.Proofs.Ytabjfehhibeeiaa.Kit
set_option linter.unusedVariables false
set_option linter.unusedSimpArgs false
set_option maxHeartbeats 2000000 in
set_option maxRecDepth 100000 in
/-- turn of a lent row: the marks behind it stand. -/
theorem turn_lent (g c n : Nat) (l ms : List Bool) (base : Nat) (w : World) (hn : l.length = n) (hR : Kd.R Kd.bool 4 w base (fun _ => True) (.slice (some ⟨g, 0, none⟩) (l ++ ms).length c) (l ++ ms)) (hl : n ≤ 140737488355328) :
    Calls Try.prog 20 #[.slice (some ⟨g, 0, none⟩) n c] w fun e w' => e = .returned (.tuple #[]) ∧ Kd.R Kd.bool 4 w' base (fun _ => True) (.slice (some ⟨g, 0, none⟩) (l ++ ms).length c) (l.map not ++ ms) ∧ Below g w w' ∧ Kept w w' (fun k => k = g) := by
  have hnc : n ≤ c := by have := (Kd.R_reads' hR).2.1; rw [List.length_append] at this; omega
  obtain ⟨N, hN⟩ : ∃ N, (l ++ ms).length = N := ⟨_, rfl⟩
  have hNn : n ≤ N := by rw [← hN, List.length_append]; omega
  rw [hN] at hR ⊢
  have HR := Aside0.mk hR
  have HN := Aside0.mk hN
  have HL := Aside0.mk hn
  clear hR hN hn
  go_enter Try.func20, Try.ntmps20
  go_wp2
  go_loopw [2] (fun i wr => ∃ k : Nat, k ≤ n ∧ i = .int .i64 (k : Int) ∧ Aside0 (Kd.R Kd.bool 4 wr base (fun _ => True) (.slice (some ⟨g, 0, none⟩) N c) ((l.take k).map not ++ l.drop k ++ ms)) ∧ Aside0 (Below g w wr) ∧ Aside0 (Kept w wr (fun k => k = g))) (fun i _ => n - (intOf i).toNat)
  case atStart => exact ⟨0, Nat.zero_le _, rfl, ⟨by simpa using HR.out⟩, ⟨Below.refl _ _⟩, ⟨Kept.refl _ _⟩⟩
  case round =>
    obtain ⟨k, hk, rfl, HX, HB, HK⟩ := hrel
    by_cases hlt : k < n
    · have q1 : (k : Int) < (N : Int) := by omega
      have q2 : (k : Int) < (n : Int) := by omega
      obtain ⟨hx0, hf0⟩ := Kd.R_celln false HX.out (k : Int) (by omega) q1
      simp only [Int.toNat_natCast] at hx0 hf0
      have hkl : k < l.length := by have := HL.out; omega
      have hl1 : ((l.take k).map not).length = k := by rw [List.length_map, List.length_take]; omega
      have hd : l.drop k = l[k] :: l.drop (k + 1) := List.drop_eq_getElem_cons hkl
      have hrd : rdOf false ((l.take k).map not ++ l.drop k ++ ms) (k : Int) = l[k] := by
        rw [rd_nat, List.append_assoc, List.getD_eq_getElem?_getD, List.getElem?_append_right (by omega), hl1, Nat.sub_self, hd]
        rfl
      rw [hrd] at hx0
      obtain ⟨V, hV⟩ : ∃ V : Bool, l[k] = V := ⟨_, rfl⟩
      rw [hV] at hx0
      have HS := Aside0.mk (show ((l.take k).map not ++ l.drop k ++ ms).set k (!V) = (l.take (k + 1)).map not ++ l.drop (k + 1) ++ ms by
        rw [List.append_assoc, List.set_append_right _ _ (by omega), hl1, Nat.sub_self, hd, List.cons_append, List.set_cons_zero, List.take_succ_eq_append_getElem hkl, List.map_append, List.append_assoc, List.append_assoc, hV]
        rfl)
      have HP := Aside0.mk (Kd.R_putn HX.out (k : Int) (!V))
      clear hrd hd hl1 hV
      go_wp2
      go_roundw
      case rel =>
        refine ⟨k + 1, by omega, by go_num, ⟨?_⟩, ⟨HB.out.setCell (p := ⟨g, k, none⟩) (Nat.le_refl _) _⟩, ⟨?_⟩⟩
        · rw [← HS.out]
          have h := HP.out
          rw [Int.toNat_natCast] at h
          exact h
        · refine ⟨Nat.le_trans HK.out.1 (by simp), fun i hi hn => ?_⟩
          rw [Below.heap_setCell _ _ _ i (fun e => hn e)]
          exact HK.out.2 i hi hn
      case measure => simp [intOf]; omega
    · obtain rfl : k = n := by omega
      go_wp2
      go_end0
      have h := HX.out
      rw [List.take_of_length_le (by have := HL.out; omega), List.drop_of_length_le (by have := HL.out; omega), List.append_nil] at h
      exact ⟨rfl, h, HB.out, HK.out⟩
end Go.Proofs.Ytabjfehhibeeiaa.Pure
