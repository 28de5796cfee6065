/- slices.Clone over floats, by their bits. -/
import Derived.Test.YtjhapibelhakdaaFogx0
import Derived.Test.YtjhapibelhakdaaLimits
namespace Go.Proofs.Ytjhapibelhakdaa.Pure
open Go.RowKit Go.Proofs.Ytjhapibelhakdaa.Fog Go.Proofs.YtjhapibelhakdaaW.PrintWords Go.Proofs.YtjhapibelhakdaaW.PrintLast Go.Proofs.YtjhapibelhakdaaW.PrintMore Go.Proofs.Ytjhapibelhakdaa.Kit
set_option linter.unusedVariables false
set_option linter.unusedSimpArgs false
def KF : Kd Nat := Kd.scalar (fun z => .float .f64 z) (fun _ => rfl)
theorem floatInfo : (Try.prog.info? 41).map (fun i => (i.zero, i.size, i.bytes)) = some (some (.float .f64 0), 1, 8) := by kernel_rfl
theorem nil_eqF (n c : Nat) (W : World) : (binOp .eql 55 (.slice none n c) (.slice none 0 0)).run Try.prog W = .ok (.bool true) W := by kernel_rfl
theorem some_eqF (ad : Addr) (n c : Nat) (W : World) : (binOp .eql 55 (.slice (some ad) n c) (.slice none 0 0)).run Try.prog W = .ok (.bool false) W := by kernel_rfl
theorem underF : Try.prog.underlying 55 = some (.slice 41) := by kernel_rfl
set_option maxHeartbeats 1000000 in
set_option maxRecDepth 100000 in
theorem cloneF (ad : Addr) (c0 n : Nat) (l0 : List Nat) (w : World) (hln : l0.length = n) (hr0 : Kd.C KF w (some ad) n l0) (hc0 : n ≤ c0) (hl : n < 1000000) :
    Calls Try.prog 40 #[.slice (some ad) n c0] w fun e w' => ∃ v0_ : Value, e = .returned v0_ ∧ Kd.R KF 41 w' w.heap.size (fun _ => True) v0_ l0 ∧ Below w.heap.size w w' := by
  have HR0 := Aside0.mk hr0
  have HL := Aside0.mk hl
  have HLN := Aside0.mk hln
  clear hr0 hl hln
  have kn := some_eqF
  go_enter Try.func40, Try.ntmps40
  go_wp2_with (first
    | ((with_reducible refine gate_dst (N := 5) rfl ?_); refine Kd.R_lit KF _ 41 ?hg (N := 5) ?hd (xs := ([] : List Nat)) (inner := []) (ok := fun _ => True) (okp := fun _ => True) ?hr ?hp (fun _ hk => hk) trivial (Below.refl _ _) (Nat.le_refl _) (by simp) ?_; (case hd => rfl); (case hg => rfl); (case hr => first | (go_simp; done) | (go_simp; rfl)); (case hp => exact (Reps.none _ _)); intro v1 w1 ho hb hg_ hnew_; clear hg_ hnew_; have HO1 := Aside0.mk ho; have HB1 := Aside0.mk hb; clear ho hb)
    | (at_builtin; (refine Kd.R_append_rows KF (w0 := w) w.heap.size rfl (.tmp 5) (.tmp 6) 55 41 (.float .f64 0) 8 rfl underF floatInfo rfl (by decide) (by omega) v1 [] l0 _ _ _ (fun _ => True) (fun _ => False) rfl rfl ?aO ?aR (fun _ _ h => h) (fun _ h => h.elim) ?aF ?aB ?aS ?aL ?_); (case aR => first | exact Kd.C_below HR0.out HB1.out | (rw [HLN.out]; exact Kd.C_below HR0.out HB1.out)); (case aB => exact HB1.out); (case aF => exact (fun _ _ => trivial)); (case aO => exact HO1.out); (case aS => exact HB1.out.size); (case aL => have h1 := HL.out; have h2 := HLN.out; simp; omega); intro v2 w2 ho hb hg hat; clear hg hat; have HO2 := Aside0.mk ho; have HB2 := Aside0.mk hb; clear ho hb))
  go_ret
  exact ⟨_, rfl, HO2.out, HB2.out⟩
end Go.Proofs.Ytjhapibelhakdaa.Pure
