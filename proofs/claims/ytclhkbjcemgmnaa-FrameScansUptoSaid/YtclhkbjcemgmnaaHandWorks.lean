-- FOREIGN foghorn/foghornlaw25.works making plain
-- ALSO foghorn/frame.Parse
-- ALSO foghorn/frame.Pieces
import Derived.Test.YtclhkbjcemgmnaaFogx0
import Derived.Test.YtclhkbjcemgmnaaFogx4
import Derived.Test.YtclhkbjcemgmnaaHandJoin
import Derived.Test.YtclhkbjcemgmnaaHandPack
namespace Go.Proofs.Ytclhkbjcemgmnaa.Fog
open Go.RowKit Go.Proofs.YtclhkbjcemgmnaaW.PrintWords Go.Proofs.YtclhkbjcemgmnaaW.PrintLast Go.Proofs.YtclhkbjcemgmnaaW.PrintMore
set_option linter.unusedVariables false
set_option linter.unusedSimpArgs false
def wS : ByteArray := ⟨#[16, 7, 1, 202, 213, 97, 168, 100, 219, 32]⟩
theorem w_pack : frame_Pack.f 1 7 false ⟨#[97]⟩ = some (⟨#[16, 7, 1, 202, 213, 97, 168, 100, 219, 32]⟩, 0) := by decide +kernel
theorem w_parse : frame_Parse.f 1 ((⟨#[16, 7, 1, 202, 213, 97, 168, 100, 219, 32]⟩ : ByteArray) ++ (⟨#[120]⟩ : ByteArray)) = some (1, 7, false, ⟨#[97]⟩, 10, 0) := by decide +kernel
theorem w_pieces : frame_Pieces.f 9 2 255 ⟨#[104, 101, 108, 108, 111]⟩ 2 = some ([⟨2, 255, true, ⟨#[104, 101]⟩⟩, ⟨2, 0, true, ⟨#[108, 108]⟩⟩, ⟨2, 1, false, ⟨#[111]⟩⟩], 0) := by kernel_rfl
theorem w_join : frame_Join.f [⟨2, 255, true, ⟨#[104, 101]⟩⟩, ⟨2, 0, true, ⟨#[108, 108]⟩⟩, ⟨2, 1, false, ⟨#[111]⟩⟩] = some (⟨#[104, 101, 108, 108, 111]⟩, 0) := by decide +kernel
theorem scan_calls (s : ByteArray) (w : World) : Calls Try.prog 21 #[.string s] w fun e w' => e = .returned (.func (.func 34) #[] #[.pointer (some ⟨w.heap.size, 0, none⟩)]) ∧ w' = w.alloc (.cells #[.string s] 9) := by
  go_enter Try.func21, Try.ntmps21
  go_wp2
  go_ret
  exact ⟨rfl, rfl⟩
theorem w_joined (A0 : Option Addr) (c0 : Nat) (w : World) (hr0 : Kd.C k30 w A0 3 [⟨2, 255, true, ⟨#[104, 101]⟩⟩, ⟨2, 0, true, ⟨#[108, 108]⟩⟩, ⟨2, 1, false, ⟨#[111]⟩⟩]) (hc0 : 3 ≤ c0) :
    Calls Try.prog 13 #[.slice A0 3 c0] w fun e w' => e = .returned (.tuple #[.string ⟨#[104, 101, 108, 108, 111]⟩, .int .i64 0]) ∧ Below w.heap.size w w' :=
  frame_Join.calls A0 c0 [⟨2, 255, true, ⟨#[104, 101]⟩⟩, ⟨2, 0, true, ⟨#[108, 108]⟩⟩, ⟨2, 1, false, ⟨#[111]⟩⟩] _ _ w hr0 hc0 w_join
theorem scan_not_nil (p : Value) (W : World) : (binOp .neq 40 (.func (.func 34) #[] #[p]) .nilFunc).run Try.prog W = .ok (.bool true) W := by
  kernel_rfl
def foghornlaw25_works.f : Option Bool := some true
set_option maxHeartbeats 2000000 in
set_option maxRecDepth 100000 in
theorem foghornlaw25_works.calls (r : Bool) (w : World) (h : foghornlaw25_works.f = some r) : Calls Try.prog 22 #[] w fun e w' => e = .returned (.bool r) ∧ Below w.heap.size w w' := by
  obtain rfl : true = r := Option.some.inj h
  clear h
  have kn := scan_not_nil
  go_enter Try.func22, Try.ntmps22
  go_wp2_with (first
    | (go_at_call 15; (with_reducible refine (frame_Pack.calls _ _ _ _ _ _ _ w_pack).mono ?_); rintro e w1 ⟨rfl, hb⟩; have HB1 := Aside0.mk hb; clear hb)
    | (go_at_call 17; (with_reducible refine (frame_Parse.calls 1 _ _ _ _ _ _ _ _ w_parse).mono ?_); rintro e w2 ⟨rfl, hb⟩; have HB2 := Aside0.mk (below_step HB1.out hb); clear hb)
    | (go_at_call 10; (with_reducible refine (frame_Pieces.calls 9 _ _ _ _ _ _ _ w_pieces).mono ?_); rintro e w3 ⟨v0, rfl, hr, hb⟩; have HF3 := Aside0.mk (blk_below (blk_new w2 _) hb); have HB3 := Aside0.mk (below_step (below_alloc HB2.out _) hb); clear hb; obtain ⟨A0, n0, rfl⟩ := Kd.R_slice hr; have HC3 := Aside0.mk (Kd.R_reads' hr).2.2; have HN3 := Aside0.mk (Kd.R_reads' hr).2.1; clear hr)
    | (go_at_call 13; (with_reducible refine (w_joined _ _ _ HC3.out HN3.out).mono ?_); rintro e w4 ⟨rfl, hb⟩; have HF4 := Aside0.mk (blk_below HF3.out hb); have HB4 := Aside0.mk (below_step HB3.out hb); clear hb; have c1' := (blk_cell HF4.out 1).trans rfl; have c3' := (blk_cell HF4.out 3).trans rfl)
    | (go_at_call 21; (with_reducible refine (scan_calls _ _).mono ?_); rintro e w5 ⟨rfl, rfl⟩))
  · go_ret
    exact ⟨rfl, below_alloc HB4.out _⟩
  · exact absurd (by decide +kernel : ((⟨#[16, 7, 1, 202, 213, 97, 168, 100, 219, 32]⟩ : ByteArray).extract 0 3).toList = [16, 7, 1]) (by assumption)
end Go.Proofs.Ytclhkbjcemgmnaa.Fog
