/- BitsTexts: any row, any text. -/
import Derived.Test.YtabjfehhibeeiaaFogx0
import Derived.Test.YtabjfehhibeeiaaFogx5
import Derived.Test.YtabjfehhibeeiaaKit
import Derived.Test.YtabjfehhibeeiaaRefLent
import Derived.Test.YtabjfehhibeeiaaHandText
import Derived.Test.YtabjfehhibeeiaaHandParse
namespace Go.Proofs.Ytabjfehhibeeiaa.Pure
open Go.RowKit Go.Proofs.Ytabjfehhibeeiaa.Fog Go.Proofs.YtabjfehhibeeiaaW.PrintWords Go.Proofs.YtabjfehhibeeiaaW.PrintLast Go.Proofs.YtabjfehhibeeiaaW.PrintMore Go.Proofs.Ytabjfehhibeeiaa.Kit
set_option linter.unusedVariables false
set_option linter.unusedSimpArgs false
theorem reftext_l0 (l : List Bool) (hl : l.length < 140737488355328) : ∀ (d i : Nat) (xs : List Int), i + d = l.length → xs = (l.take i).map (fun b => ((bitByte b).toNat : Int)) → Ev (fun k => foghornref01_Text.l0 k l xs (i : Int)) (textOf l)
  | 0, i, xs, h, hx => by
    refine Ev.step (fun k => by simp only [foghornref01_Text.l0]; rfl) ?_
    refine Ev.ifn (by omega) (Ev.val ?_)
    rw [hx, List.take_of_length_le (by omega)]
    unfold textOf strOfNums
    rw [List.map_map]
    congr 2
    refine List.map_congr_left fun b _ => ?_
    cases b <;> rfl
  | d + 1, i, xs, h, hx => by
    have hi : i < l.length := by omega
    have htk := List.take_succ_eq_append_getElem hi
    have hxl : xs.length < 140737488355328 := by rw [hx, List.length_map, List.length_take]; omega
    have hg : l.getD i false = l[i] := by simp [List.getD_eq_getElem?_getD, hi]
    refine Ev.step (fun k => by simp only [foghornref01_Text.l0]; rfl) ?_
    refine Ev.ifp (by omega) (Ev.ifp (by omega) ?_)
    rw [rd_nat, hg, show ((i : Int) + 1) = ((i + 1 : Nat) : Int) by omega, w64n (by omega)]
    by_cases hb : l[i] = true
    · refine Ev.ifp hb (Ev.ifp hxl ?_)
      exact reftext_l0 l hl d (i + 1) _ (by omega) (by rw [htk, List.map_append, hb, hx]; rfl)
    · refine Ev.ifn hb (Ev.ifp hxl ?_)
      have hb' : l[i] = false := by simpa using hb
      exact reftext_l0 l hl d (i + 1) _ (by omega) (by rw [htk, List.map_append, hb', hx]; rfl)
theorem reftext_ev (l : List Bool) (hl : l.length < 140737488355328) : Ev (fun k => foghornref01_Text.f k l) (textOf l) := by
  have := reftext_l0 l hl l.length 0 [] (by omega) (by simp)
  simpa [foghornref01_Text.f] using this
theorem refparse_l0 (s : ByteArray) (hl : s.size ≤ 140737488351232) : ∀ (d i : Nat) (xs : List Bool), i + d = s.size → (∀ j, j < i → badC s j = false) → xs = (List.range i).map (fun j : Nat => bt s (j : Int) == 49) → Ev (fun k => foghornref01_Parse.l0 k s xs (i : Int)) (parseV s)
  | 0, i, xs, h, hg, hx => by
    obtain rfl : i = s.size := by omega
    refine Ev.step (fun k => by simp only [foghornref01_Parse.l0]; rfl) ?_
    refine Ev.ifn (by omega) (Ev.val ?_)
    rw [parse_good s hg, hx]
  | d + 1, i, xs, h, hg, hx => by
    have hi : i < s.size := by omega
    have hxl : xs.length < 140737488355328 := by rw [hx, List.length_map, List.length_range]; omega
    have hsu : ∀ b : Bool, (bt s (i : Int) == 49) = b → xs ++ [b] = (List.range (i + 1)).map (fun j : Nat => bt s (j : Int) == 49) := by
      intro b hb
      rw [List.range_succ, List.map_append, hx, ← hb]
      rfl
    have hng : badC s i = false → ∀ j, j < i + 1 → badC s j = false := by
      intro hb j hj
      rcases Nat.lt_or_ge j i with h1 | h1
      · exact hg j h1
      · obtain rfl : j = i := by omega
        exact hb
    refine Ev.step (fun k => by simp only [foghornref01_Parse.l0]; rfl) ?_
    refine Ev.ifp (by omega) (Ev.ifp (by omega) ?_)
    rw [show ((i : Int) + 1) = ((i + 1 : Nat) : Int) by omega, w64n (by omega)]
    by_cases h8 : bt s (i : Int) = 48
    · refine Ev.ifp h8 ?_
      by_cases h3 : i = 32768
      · refine Ev.ifp (by omega) (Ev.val ?_)
        rw [parse_bad s i hi (by unfold badC; rw [h3]; simp) hg]
      · refine Ev.ifn (by omega) (Ev.ifp hxl ?_)
        refine refparse_l0 s hl d (i + 1) _ (by omega) (hng (by unfold badC; rw [h8, show (i == 32768) = false by simpa using h3]; rfl)) (hsu _ rfl)
    · refine Ev.ifn h8 ?_
      by_cases h9 : bt s (i : Int) = 49
      · refine Ev.ifp h9 ?_
        by_cases h3 : i = 32768
        · refine Ev.ifp (by omega) (Ev.val ?_)
          rw [parse_bad s i hi (by unfold badC; rw [h3]; simp) hg]
        · refine Ev.ifn (by omega) (Ev.ifp hxl ?_)
          refine refparse_l0 s hl d (i + 1) _ (by omega) (hng (by unfold badC; rw [h9, show (i == 32768) = false by simpa using h3]; rfl)) (hsu _ (by rw [h9]; rfl))
      · refine Ev.ifn h9 (Ev.val ?_)
        rw [parse_bad s i hi (by unfold badC; rw [show (bt s (i : Int) != 48) = true by simpa using h8, show (bt s (i : Int) != 49) = true by simpa using h9]; rfl) hg]
theorem refparse_ev (s : ByteArray) (hl : s.size ≤ 140737488351232) : Ev (fun k => foghornref01_Parse.f k s) (parseV s) := by
  have := refparse_l0 s hl s.size 0 [] (by omega) (fun j hj => absurd hj (Nat.not_lt_zero j)) rfl
  simpa [foghornref01_Parse.f] using this
theorem parse_length (s : ByteArray) : (parseV s).1.length ≤ s.size := by
  unfold parseV
  split
  · simp
  · simp
theorem text_in (A : Option Addr) (c : Nat) (l : List Bool) (w : World) (h : Kd.C Kd.bool w A l.length l) (hc : l.length ≤ c) (hl : l.length < 140737488355328) :
    Calls Try.prog 34 #[.slice A l.length c] w fun e w' => e = .returned (.string (textOf l)) ∧ Below w.heap.size w w' :=
  bits_Text.calls A c l _ w h hc (by unfold bits_Text.f; rw [if_pos hl])
theorem reftext_in (A : Option Addr) (c : Nat) (l : List Bool) (w : World) (h : Kd.C Kd.bool w A l.length l) (hc : l.length ≤ c) (hl : l.length < 140737488355328) :
    Calls Try.prog 35 #[.slice A l.length c] w fun e w' => e = .returned (.string (textOf l)) ∧ Below w.heap.size w w' := by
  obtain ⟨k, hk⟩ := (reftext_ev l hl).rounds
  exact foghornref01_Text.calls k A c l _ w h hc hk
theorem refparse_in (s : ByteArray) (w : World) (hl : s.size ≤ 140737488351232) :
    Calls Try.prog 33 #[.string s] w fun e w' => ∃ v0_ : Value, e = .returned (.tuple #[v0_, .int .i64 (parseV s).2.1, .int .i64 (parseV s).2.2]) ∧ Kd.R Kd.bool 4 w' w.heap.size (fun _ => True) v0_ (parseV s).1 ∧ Below w.heap.size w w' := by
  obtain ⟨k, hk⟩ := (refparse_ev s hl).rounds
  exact foghornref01_Parse.calls k s _ _ _ w hk
set_option maxHeartbeats 4000000 in
set_option maxRecDepth 100000 in
theorem BitsTexts_walk (a0 : ByteArray) (A1 : Option Addr) (c1 : Nat) (l1 : List Bool) (w : World) (hs : a0.size ≤ 140737488351232) (hr : Kd.C Kd.bool w A1 l1.length l1) (hc : l1.length ≤ c1) (hy : l1.length * 1 ≤ 140737488351232) (hg : ∀ y ∈ l1, True) :
    Calls Try.prog 6 #[.string a0, .slice A1 l1.length c1] w fun e w' => e = .returned (.bool true) ∧ Below w.heap.size w w' := by
  have hl : l1.length ≤ 140737488351232 := by omega
  have HR := Aside0.mk hr
  have HL := Aside0.mk hl
  have HS := Aside0.mk hs
  have HPL := Aside0.mk (parse_length a0)
  clear hr hy hg hl hs
  go_enter Try.func6, Try.ntmps6
  go_wp2_with (first
    | (go_at_call 22; (with_reducible refine (lent_calls A1 c1 l1 _ HR.out hc (by have := HL.out; omega)).mono ?_); rintro e w1 ⟨g, c, rfl, hgc, hg1, hg2, hR, hb⟩; have HGC := Aside0.mk hgc; have HR1 := Aside0.mk hR; have HB1 := Aside0.mk hb; clear hb hR hgc hg1 hg2)
    | (go_at_call 32; (with_reducible refine (parse_walk a0 _).mono ?_); rintro e w2 ⟨v2, rfl, hR, hb⟩; obtain ⟨A2, c2, rfl⟩ := Kd.R_slice hR; have HR2 := Aside0.mk hR; have HB2 := Aside0.mk (below_step HB1.out hb); have HR1b := Aside0.mk (Kd.R_below HR1.out hb); clear hb hR)
    | (go_at_call 33; (with_reducible refine (refparse_in a0 _ HS.out).mono ?_); rintro e w3 ⟨v3, rfl, hR, hb⟩; obtain ⟨A3, c3, rfl⟩ := Kd.R_slice hR; have HR3 := Aside0.mk hR; have HB3 := Aside0.mk (below_step HB2.out hb); have HR2c := Aside0.mk (Kd.R_below HR2.out hb); have HR1c := Aside0.mk (Kd.R_below HR1b.out hb); clear hb hR)
    | (go_at_call 34; (with_reducible refine (text_in _ c l1 _ (lent_reads (Kd.R_reads' HR1c.out).2.2) (by have := HGC.out; omega) (by have := HL.out; omega)).mono ?_); rintro e w4 ⟨rfl, hb⟩; have HB4 := Aside0.mk (below_step HB3.out hb); have HR3d := Aside0.mk (Kd.R_below HR3.out hb); have HR2d := Aside0.mk (Kd.R_below HR2c.out hb); have HR1d := Aside0.mk (Kd.R_below HR1c.out hb); clear hb)
    | (go_at_call 35; (with_reducible refine (reftext_in A1 c1 l1 _ (Kd.C_below HR.out HB4.out) hc (by have := HL.out; omega)).mono ?_); rintro e w5 ⟨rfl, hb⟩; have HB5 := Aside0.mk (below_step HB4.out hb); have HR3e := Aside0.mk (Kd.R_below HR3d.out hb); have HR2e := Aside0.mk (Kd.R_below HR2d.out hb); have HR1e := Aside0.mk (Kd.R_below HR1d.out hb); clear hb)
    | (go_at_call 31; (with_reducible refine (unhurt_in g c A1 c1 l1 _ (Kd.R_reads' HR1e.out).2.2 HGC.out (Kd.C_below HR.out HB5.out) hc (by have := HL.out; omega)).mono ?_); rintro e w6 ⟨rfl, hb⟩; have HB6 := Aside0.mk (below_step HB5.out hb); have HR3f := Aside0.mk (Kd.R_below HR3e.out hb); have HR2f := Aside0.mk (Kd.R_below HR2e.out hb); clear hb)
    | (go_at_call 21; (with_reducible refine (same_in A2 c2 A3 c3 (parseV a0).1 _ (Kd.R_reads' HR2f.out).2.2 (Kd.R_reads' HR2f.out).2.1 (Kd.R_reads' HR3f.out).2.2 (Kd.R_reads' HR3f.out).2.1 (by have := HPL.out; have := HS.out; omega)).mono ?_); rintro e w7 ⟨rfl, hb⟩; have HB7 := Aside0.mk (below_step HB6.out hb); clear hb))
  go_ret
  exact ⟨rfl, HB7.out⟩
end Go.Proofs.Ytabjfehhibeeiaa.Pure
