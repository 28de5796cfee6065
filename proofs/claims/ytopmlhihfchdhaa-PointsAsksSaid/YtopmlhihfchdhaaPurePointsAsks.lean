/- PointsAsks: any size, label, turn, level, any number. -/
import Derived.Test.YtopmlhihfchdhaaFogx0
import Derived.Test.YtopmlhihfchdhaaBothP
namespace Go.Proofs.Ytopmlhihfchdhaa.Pure
open Go.RowKit Go.Proofs.Ytopmlhihfchdhaa.Fog Go.Proofs.YtopmlhihfchdhaaW.PrintWords Go.Proofs.YtopmlhihfchdhaaW.PrintLast Go.Proofs.YtopmlhihfchdhaaW.PrintMore Go.Proofs.Ytopmlhihfchdhaa.Kit
set_option linter.unusedVariables false
set_option linter.unusedSimpArgs false
set_option maxHeartbeats 4000000 in
set_option maxRecDepth 100000 in
theorem PointsAsks_walk (n lb m lv re im : Int) (od : Nat) (wh : Int) (w : World) (f0 : (Lit.int .i64 n).wf = true) (f1 : (Lit.int .i64 lb).wf = true) (f2 : (Lit.int .i64 m).wf = true) (f3 : (Lit.int .i64 lv).wf = true) (f4 : (Lit.int .i64 re).wf = true) (f5 : (Lit.int .i64 im).wf = true) (f6 : (Lit.float .f64 od).wf = true) (f7 : (Lit.int .i64 wh).wf = true) :
    Calls Try.prog 4 #[.int .i64 n, .int .i64 lb, .int .i64 m, .int .i64 lv, .int .i64 re, .int .i64 im, .float .f64 od, .int .i64 wh] w fun e w' => e = .returned (.bool true) ∧ Below w.heap.size w w' := by
  clear f0 f1 f2 f3 f4 f5 f6 f7
  obtain ⟨z1, z2, _, hnum⟩ := number_any re im od wh
  obtain ⟨x, y, e1, ⟨o1, o2⟩, hat, hrat⟩ := at_both n lb
  obtain ⟨v2, e2, hla, hrla⟩ := label_both n z1 z2
  obtain ⟨v3, e3, htu, hrtu⟩ := turned_both n lb m
  obtain ⟨v4, e4, hco, hrco⟩ := coset_both n z1 z2 lv
  obtain ⟨v5, e5, hbi, hrbi⟩ := bits_both n
  obtain ⟨v6, e6, hed, hred⟩ := edge_both n
  obtain ⟨v7, e7, hen, hren⟩ := energy_both n
  obtain ⟨N, l, e8, hlN, hN, hf, hal, hral⟩ := all_both n
  have C1 := Aside0.mk hnum
  have C2 := Aside0.mk hat
  have C3 := Aside0.mk hrat
  have C4 := Aside0.mk hla
  have C5 := Aside0.mk hrla
  have C6 := Aside0.mk htu
  have C7 := Aside0.mk hrtu
  have C8 := Aside0.mk hco
  have C9 := Aside0.mk hrco
  have C10 := Aside0.mk hbi
  have C11 := Aside0.mk hrbi
  have C12 := Aside0.mk hed
  have C13 := Aside0.mk hred
  have C14 := Aside0.mk hen
  have C15 := Aside0.mk hren
  have C16 := Aside0.mk hal
  have C17 := Aside0.mk hral
  have HF := Aside0.mk hf
  have HLN := Aside0.mk hlN
  have HN := Aside0.mk hN
  have HB0 := Aside0.mk (Below.refl w.heap.size w)
  clear hnum hat hrat hla hrla htu hrtu hco hrco hbi hrbi hed hred hen hren hal hral hf hlN hN
  go_enter Try.func4, Try.ntmps4
  go_wp2_with (first
    | (go_at_call 22; (with_reducible refine (C1.out _).mono ?_); rintro e w1 ⟨rfl, hb⟩; (have HB1 := Aside0.mk (below_step HB0.out hb)); clear hb)
    | (go_at_call 23; (with_reducible refine (C2.out _).mono ?_); rintro e w2 ⟨rfl, hb⟩; (have HB2 := Aside0.mk (below_step HB1.out hb)); clear hb)
    | (go_at_call 24; (with_reducible refine (C3.out _).mono ?_); rintro e w3 ⟨rfl, hb⟩; (have HB3 := Aside0.mk (below_step HB2.out hb)); clear hb)
    | (go_at_call 25; (with_reducible refine (C4.out _).mono ?_); rintro e w4 ⟨rfl, hb⟩; (have HB4 := Aside0.mk (below_step HB3.out hb)); clear hb)
    | (go_at_call 26; (with_reducible refine (C5.out _).mono ?_); rintro e w5 ⟨rfl, hb⟩; (have HB5 := Aside0.mk (below_step HB4.out hb)); clear hb)
    | (go_at_call 27; (with_reducible refine (C6.out _).mono ?_); rintro e w6 ⟨rfl, hb⟩; (have HB6 := Aside0.mk (below_step HB5.out hb)); clear hb)
    | (go_at_call 28; (with_reducible refine (C7.out _).mono ?_); rintro e w7 ⟨rfl, hb⟩; (have HB7 := Aside0.mk (below_step HB6.out hb)); clear hb)
    | (go_at_call 29; (with_reducible refine (C8.out _).mono ?_); rintro e w8 ⟨rfl, hb⟩; (have HB8 := Aside0.mk (below_step HB7.out hb)); clear hb)
    | (go_at_call 30; (with_reducible refine (C9.out _).mono ?_); rintro e w9 ⟨rfl, hb⟩; (have HB9 := Aside0.mk (below_step HB8.out hb)); clear hb)
    | (go_at_call 15; (with_reducible refine (C10.out _).mono ?_); rintro e w10 ⟨rfl, hb⟩; (have HB10 := Aside0.mk (below_step HB9.out hb)); clear hb)
    | (go_at_call 16; (with_reducible refine (C11.out _).mono ?_); rintro e w11 ⟨rfl, hb⟩; (have HB11 := Aside0.mk (below_step HB10.out hb)); clear hb)
    | (go_at_call 17; (with_reducible refine (C12.out _).mono ?_); rintro e w12 ⟨rfl, hb⟩; (have HB12 := Aside0.mk (below_step HB11.out hb)); clear hb)
    | (go_at_call 18; (with_reducible refine (C13.out _).mono ?_); rintro e w13 ⟨rfl, hb⟩; (have HB13 := Aside0.mk (below_step HB12.out hb)); clear hb)
    | (go_at_call 19; (with_reducible refine (C14.out _).mono ?_); rintro e w14 ⟨rfl, hb⟩; (have HB14 := Aside0.mk (below_step HB13.out hb)); clear hb)
    | (go_at_call 20; (with_reducible refine (C15.out _).mono ?_); rintro e w15 ⟨rfl, hb⟩; (have HB15 := Aside0.mk (below_step HB14.out hb)); clear hb)
    | (go_at_call 13; (with_reducible refine (C16.out _).mono ?_); rintro e w16 ⟨A16, c16, rfl, hc, hb⟩; (have HB16 := Aside0.mk (below_step HB15.out hb)); (have HC16 := Aside0.mk hc); clear hb hc)
    | (go_at_call 14; (with_reducible refine (C17.out _).mono ?_); rintro e w17 ⟨A17, c17, rfl, hc, hb⟩; (have HB17 := Aside0.mk (below_step HB16.out hb)); (have HD16 := Aside0.mk (Kd.C_below HC16.out hb)); (have HC17 := Aside0.mk hc); clear hb hc)
    | (go_at_call 21; (with_reducible refine (same_points A16 A17 c16 c17 N l _ HLN.out HD16.out HC17.out HF.out (by have := HN.out; omega)).mono ?_); rintro e w18 ⟨rfl, hd⟩; (have HB18 := Aside0.mk (below_step HB17.out (below_of_drew hd))); clear hd))
  go_ret
  exact ⟨rfl, HB18.out⟩
end Go.Proofs.Ytopmlhihfchdhaa.Pure
