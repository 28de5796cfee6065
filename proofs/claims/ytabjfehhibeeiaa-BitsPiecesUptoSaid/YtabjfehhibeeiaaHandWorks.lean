-- FOREIGN foghorn/foghornlaw01.works making plain
-- ALSO foghorn/bits.Gray
-- ALSO foghorn/bits.Weight
-- ALSO foghorn/foghornlaw01.sameInts
import Derived.Test.YtabjfehhibeeiaaFogx0
import Derived.Test.YtabjfehhibeeiaaFogx1
import Derived.Test.YtabjfehhibeeiaaHandOf
import Derived.Test.YtabjfehhibeeiaaHandWords
import Derived.Test.YtabjfehhibeeiaaHandPieces
import Derived.Test.YtabjfehhibeeiaaHandOf
import Derived.Test.YtabjfehhibeeiaaHandText
import Derived.Test.YtabjfehhibeeiaaHandWords
namespace Go.Proofs.Ytabjfehhibeeiaa.Fog
open Go.RowKit Go.Proofs.YtabjfehhibeeiaaW.PrintWords Go.Proofs.YtabjfehhibeeiaaW.PrintLast Go.Proofs.YtabjfehhibeeiaaW.PrintMore
set_option linter.unusedVariables false
set_option linter.unusedSimpArgs false
theorem w_of : bits_Of.f ⟨#[65]⟩ = some ([false, true, false, false, false, false, false, true], 0) := by decide +kernel
theorem w_words : bits_Words.f [false, true, false, false, false, false, false, true] 4 = some ([4, 1], 0) := by decide +kernel
theorem w_gray : bits_Gray.f 7 = some (4, 0) := by decide +kernel
theorem w_text : bits_Text.f [false, true, false, false, false, false, false, true] = some ⟨#[48, 49, 48, 48, 48, 48, 48, 49]⟩ := by decide +kernel
theorem w_same : foghornlaw01_sameInts.f 9 [4, 1] [4, 1] = some true := by kernel_rfl
theorem w_weight : bits_Weight.f 9 [false, true, false, false, false, false, false, true] = some 2 := by kernel_rfl
theorem pieces_not_nil (p q : Value) (W : World) : (binOp .neq 30 (.func (.func 49) #[] #[p, q]) .nilFunc).run Try.prog W = .ok (.bool true) W := by kernel_rfl
def wA : List Bool := [false, true, false, false, false, false, false, true]
theorem words_at (A : Option Addr) (c : Nat) (w : World) (hr : Kd.C Kd.bool w A 8 wA) (hc : 8 ≤ c) :
    Calls Try.prog 40 #[.slice A 8 c, .int .i64 4] w fun e w' => ∃ v0_ : Value, e = .returned (.tuple #[v0_, .int .i64 0]) ∧ Kd.R (Kd.int .i64) 3 w' w.heap.size (fun _ => True) v0_ [4, 1] ∧ Below w.heap.size w w' := bits_Words.calls A c wA 4 _ _ w hr hc w_words
theorem text_at (A : Option Addr) (c : Nat) (w : World) (hr : Kd.C Kd.bool w A 8 wA) (hc : 8 ≤ c) :
    Calls Try.prog 34 #[.slice A 8 c] w fun e w' => e = .returned (.string ⟨#[48, 49, 48, 48, 48, 48, 48, 49]⟩) ∧ Below w.heap.size w w' := bits_Text.calls A c wA _ w hr hc w_text
theorem weight_at (A : Option Addr) (c : Nat) (w : World) (hr : Kd.C Kd.bool w A 8 wA) (hc : 8 ≤ c) :
    Calls Try.prog 29 #[.slice A 8 c] w fun e w' => e = .returned (.int .i64 2) ∧ Below w.heap.size w w' := (bits_Weight.calls 9 A c wA _ w hr hc w_weight).mono fun e w' ⟨he, nd, hd⟩ => ⟨he, by subst hd; exact pw_below_drewN (Below.refl _ _) _⟩
theorem same_at (A : Option Addr) (c : Nat) (B : Option Addr) (d : Nat) (w : World) (hr : Kd.C (Kd.int .i64) w A 2 [4, 1]) (hc : 2 ≤ c) (hr2 : Kd.C (Kd.int .i64) w B 2 [4, 1]) (hd : 2 ≤ d) :
    Calls Try.prog 44 #[.slice A 2 c, .slice B 2 d] w fun e w' => e = .returned (.bool true) ∧ Below w.heap.size w w' := (foghornlaw01_sameInts.calls 9 A c [4, 1] B d [4, 1] _ w hr hc hr2 hd w_same).mono fun e w' ⟨he, nd, hd⟩ => ⟨he, by subst hd; exact pw_below_drewN (Below.refl _ _) _⟩
theorem pieces_at (A : Option Addr) (c : Nat) (w : World) (hr : Kd.C Kd.bool w A 8 wA) (hc : 8 ≤ c) :
    Calls Try.prog 19 #[.slice A 8 c, .int .i64 3] w fun e w' => (∃ p q, e = .returned (.func (.func 49) #[] #[p, q])) ∧ Below w.heap.size w w' := (pieces_calls A c wA 3 w hr hc (by decide)).mono fun e w' ⟨B, A, c, he, _, _, _, _, hb⟩ => ⟨⟨_, _, he⟩, hb⟩
theorem lit_R (w : World) (base : Nat) (hb : base ≤ w.heap.size) : Kd.R (Kd.int .i64) 3 (w.alloc (.cells #[.int .i64 4, .int .i64 1] 3)) base (fun _ => True) (.slice (some ⟨w.heap.size, 0, none⟩) 2 2) [4, 1] :=
  Kd.R_of_own ⟨rfl, .inr ⟨w.heap.size, 2, #[.int .i64 4, .int .i64 1], rfl, hb, blk_new _ _, Nat.le_refl _, by decide, rfl, rfl⟩⟩ (fun _ _ => trivial)
def foghornlaw01_works.f : Option Bool := some true
set_option maxHeartbeats 4000000 in
set_option maxRecDepth 100000 in
theorem foghornlaw01_works.calls (r : Bool) (w : World) (h : foghornlaw01_works.f = some r) : Calls Try.prog 45 #[] w fun e w' => e = .returned (.bool r) ∧ Below w.heap.size w w' := by
  obtain rfl : true = r := Option.some.inj h
  clear h
  have kn := pieces_not_nil
  go_enter Try.func45, Try.ntmps45
  go_wp2_with (first
    | (go_at_call 36; (with_reducible refine (bits_Of.calls _ _ _ _ w_of).mono ?_); rintro e w1 ⟨v1, rfl, hr, hb⟩; obtain ⟨A1, c1, rfl⟩ := Kd.R_slice hr; have HR1 := Aside0.mk (show Kd.R Kd.bool 4 w1 w.heap.size (fun _ => True) (.slice A1 8 c1) wA from hr); have HB1 := Aside0.mk hb; clear hr hb; have hc1 : 8 ≤ c1 := (Kd.R_reads' HR1.out).2.1)
    | (go_at_call 40; (with_reducible refine (words_at A1 c1 _ (Kd.R_reads' HR1.out).2.2 hc1).mono ?_); rintro e w2 ⟨v2, rfl, hr, hb⟩; obtain ⟨A2, c2, rfl⟩ := Kd.R_slice hr; have HR2 := Aside0.mk hr; have HB2 := Aside0.mk (below_step HB1.out hb); have HR1b := Aside0.mk (Kd.R_below HR1.out hb); clear hr hb; have hc2 : 2 ≤ c2 := (Kd.R_reads' HR2.out).2.1)
    | (go_at_call 14; (with_reducible refine (bits_Gray.calls 7 4 0 _ w_gray).mono ?_); rintro e w3 ⟨rfl, ⟨nd, rfl⟩⟩)
    | (go_at_call 34; (with_reducible refine (text_at A1 c1 _ (Kd.R_reads' (Kd.R_drewN HR1b.out nd)).2.2 hc1).mono ?_); rintro e w4 ⟨rfl, hb⟩; have HB4 := Aside0.mk (below_step (pw_below_drewN HB2.out nd) hb); have HR1d := Aside0.mk (Kd.R_below (Kd.R_drewN HR1b.out nd) hb); have HR2d := Aside0.mk (Kd.R_below (Kd.R_drewN HR2.out nd) hb); clear hb)
    | (go_at_call 44; have HR5 := Aside0.mk (lit_R w4 w.heap.size HB4.out.size); have HBa := Aside0.mk (below_alloc (Below.refl w4.heap.size w4) (.cells #[.int .i64 4, .int .i64 1] 3)); (have HC5 := Aside0.mk (show Kd.C (Kd.int .i64) (w4.alloc (.cells #[.int .i64 4, .int .i64 1] 3)) (some ⟨w4.heap.size, 0, none⟩) 2 [4, 1] from (Kd.R_reads' HR5.out).2.2)); (have HC2 := Aside0.mk (show Kd.C (Kd.int .i64) (w4.alloc (.cells #[.int .i64 4, .int .i64 1] 3)) A2 2 [4, 1] from (Kd.R_reads' (Kd.R_below HR2d.out HBa.out)).2.2)); have hcl := Nat.le_refl 2; (with_reducible refine (same_at A2 c2 (some ⟨w4.heap.size, 0, none⟩) 2 _ HC2.out hc2 HC5.out hcl).mono ?_); rintro e w6 ⟨rfl, hb⟩; have HB6 := Aside0.mk (below_step (below_step HB4.out HBa.out) hb); have HR1f := Aside0.mk (Kd.R_below (Kd.R_below HR1d.out HBa.out) hb); clear hb)
    | (go_at_call 29; (have HC7 := Aside0.mk (show Kd.C Kd.bool _ A1 8 wA from (Kd.R_reads' HR1f.out).2.2)); (with_reducible refine (weight_at A1 c1 _ HC7.out hc1).mono ?_); rintro e w7 ⟨rfl, hb⟩; have HB7 := Aside0.mk (below_step HB6.out hb); have HR1g := Aside0.mk (Kd.R_below HR1f.out hb); clear hb)
    | (go_at_call 19; (have HC8 := Aside0.mk (show Kd.C Kd.bool _ A1 8 wA from (Kd.R_reads' HR1g.out).2.2)); (with_reducible refine (pieces_at A1 c1 _ HC8.out hc1).mono ?_); (rintro e w8 ⟨⟨p8, q8, rfl⟩, hb⟩); (have HB8 := Aside0.mk (below_step HB7.out hb)); clear hb))
  go_ret
  exact ⟨rfl, HB8.out⟩
end Go.Proofs.Ytabjfehhibeeiaa.Fog
