/- TempoNone. -/
import Derived.Test.YtjhapibelhakdaaFogx0
import Derived.Test.YtjhapibelhakdaaFogx1
import Derived.Test.YtjhapibelhakdaaEnergies
import Derived.Test.YtjhapibelhakdaaAwake
namespace Go.Proofs.Ytjhapibelhakdaa.Pure
open Go.RowKit Go.Proofs.Ytjhapibelhakdaa.Fog Go.Proofs.YtjhapibelhakdaaW.PrintWords Go.Proofs.YtjhapibelhakdaaW.PrintLast Go.Proofs.YtjhapibelhakdaaW.PrintMore Go.Proofs.Ytjhapibelhakdaa.Kit
set_option linter.unusedVariables false
set_option linter.unusedSimpArgs false
set_option maxHeartbeats 4000000 in
set_option maxRecDepth 100000 in
theorem TempoNone_walk (w : World) :
    Calls Try.prog 9 #[] w fun e w' => e = .returned (.bool true) ∧ Below w.heap.size w w' := by
  go_enter Try.func9, Try.ntmps9
  have HB0 := Aside0.mk ((Below.refl w.heap.size w).alloc (Nat.le_refl _) (.cells #[.int .i64 65536, .int .i64 65536, .int .i64 1] 26))
  go_wp2_with (first
    | (go_at_call 10; (with_reducible refine (tempo_At.calls 65536 65536 1 65536 4295032832 0 _ (by decide +kernel)).mono ?_); rintro e w1 ⟨rfl, hb⟩; (have HB1 := Aside0.mk (below_then HB0.out HB0.out.size hb)); clear hb)
    | (go_at_call 10; (with_reducible refine (tempo_At.calls 65537 1 1 0 0 1 _ (by decide +kernel)).mono ?_); rintro e w2 ⟨rfl, hb⟩; (have HB2 := Aside0.mk (below_then HB1.out HB1.out.size hb)); clear hb)
    | (go_at_call 10; (with_reducible refine (tempo_At.calls 0 1 2 0 0 1 _ (by decide +kernel)).mono ?_); rintro e w3 ⟨rfl, hb⟩; (have HB3 := Aside0.mk (below_then HB2.out HB2.out.size hb)); clear hb)
    | (go_at_call 11; (with_reducible refine (tempo_Long.calls 0 65537 1 0 0 1 _ (by decide +kernel)).mono ?_); rintro e w4 ⟨rfl, hb⟩; (have HB4 := Aside0.mk (below_then HB3.out HB3.out.size hb)); clear hb)
    | (go_at_call 11; (with_reducible refine (tempo_Long.calls 0 1 0 0 0 1 _ (by decide +kernel)).mono ?_); rintro e w5 ⟨rfl, hb⟩; (have HB5 := Aside0.mk (below_then HB4.out HB4.out.size hb)); clear hb)
    | (go_at_call 30; (with_reducible refine (pick_2 _).mono ?_); rintro e w6 ⟨PA, pc, rfl, hC, hb⟩; (have HB6 := Aside0.mk (below_then HB5.out HB5.out.size hb)); clear hb; (have HP := Aside0.mk hC); clear hC; (have HD6 := Aside0.mk (Below.refl w6.heap.size w6)))
    | (go_at_call 30; (with_reducible refine (pick_bad _).mono ?_); rintro e w7 ⟨rfl, hb⟩; (have HD7 := Aside0.mk (below_then HD6.out HD6.out.size hb)); clear hb)
    | ((with_reducible refine gate_dst (N := 80) rfl ?_); refine Kd.R_make KS (w0 := w6) w6.heap.size 43 rfl (N := 80) rfl 35 _ _ rfl 512 rfl rfl Try.underlying35 (.agg #[.complex .f64 0 0, .bool false]) 24 sampleInfo rfl (by decide) (by omega) s0 (ok := fun _ => True) (okp := fun _ => True) ⟨[cx (0, 0)], [.bool false], rfl, rfl, rfl⟩ (fun _ hk => hk) trivial (by decide) (by decide) HD7.out HD7.out.size ?_; intro v8 w8 ho hb hg_ hnew_; clear hg_ hnew_; (obtain ⟨A8, c8, hv⟩ := Kd.R_slice ho); (simp only [List.length_replicate, Int.reduceToNat] at hv); subst hv; (have HO8 := Aside0.mk (show Kd.C KS w8 A8 512 (List.replicate 512 s0) ∧ 512 ≤ c8 from ⟨by have h := (Kd.R_reads' ho).2.2; rw [List.length_replicate] at h; exact h, by exact (Kd.R_reads' ho).2.1⟩)); (have HD8 := Aside0.mk hb); clear ho hb)
    | (go_at_call 24; (with_reducible refine (energies_calls A8 c8 _ HO8.out.1 HO8.out.2).mono ?_); rintro e w9 ⟨v, rfl, hb⟩; (have HD9 := Aside0.mk (below_then HD8.out HD8.out.size hb)); clear hb)
    | ((with_reducible refine gate_dst (N := 85) rfl ?_); refine Kd.R_make KS (w0 := w6) w6.heap.size 43 rfl (N := 85) rfl 35 _ _ rfl 512 rfl rfl Try.underlying35 (.agg #[.complex .f64 0 0, .bool false]) 24 sampleInfo rfl (by decide) (by omega) s0 (ok := fun _ => True) (okp := fun _ => True) ⟨[cx (0, 0)], [.bool false], rfl, rfl, rfl⟩ (fun _ hk => hk) trivial (by decide) (by decide) HD9.out HD9.out.size ?_; intro v10 w10 ho hb hg_ hnew_; clear hg_ hnew_; (obtain ⟨A10, c10, hv⟩ := Kd.R_slice ho); (simp only [List.length_replicate, Int.reduceToNat] at hv); subst hv; (have HO10 := Aside0.mk ho); (have HD10 := Aside0.mk hb); clear ho hb)
    | (go_at_call 24; (with_reducible refine (energies_bad1 A10 c10 _).mono ?_); rintro e w11 ⟨rfl, hb⟩; (have HD11 := Aside0.mk (below_then HD10.out HD10.out.size hb)); clear hb)
    | ((with_reducible refine gate_dst (N := 90) rfl ?_); refine Kd.R_make KS (w0 := w6) w6.heap.size 43 rfl (N := 90) rfl 35 _ _ rfl 9 rfl rfl Try.underlying35 (.agg #[.complex .f64 0 0, .bool false]) 24 sampleInfo rfl (by decide) (by omega) s0 (ok := fun _ => True) (okp := fun _ => True) ⟨[cx (0, 0)], [.bool false], rfl, rfl, rfl⟩ (fun _ hk => hk) trivial (by decide) (by decide) HD11.out HD11.out.size ?_; intro v12 w12 ho hb hg_ hnew_; clear hg_ hnew_; (obtain ⟨A12, c12, hv⟩ := Kd.R_slice ho); (simp only [List.length_replicate, Int.reduceToNat] at hv); subst hv; (have HO12 := Aside0.mk ho); (have HD12 := Aside0.mk hb); clear ho hb)
    | (go_at_call 24; (with_reducible refine (energies_bad2 A12 c12 _).mono ?_); rintro e w13 ⟨rfl, hb⟩; (have HD13 := Aside0.mk (below_then HD12.out HD12.out.size hb)); clear hb)
    | ((with_reducible refine gate_dst (N := 95) rfl ?_); refine Kd.R_make KS (w0 := w6) w6.heap.size 43 rfl (N := 95) rfl 35 _ _ rfl 99 rfl rfl Try.underlying35 (.agg #[.complex .f64 0 0, .bool false]) 24 sampleInfo rfl (by decide) (by omega) s0 (ok := fun _ => True) (okp := fun _ => True) ⟨[cx (0, 0)], [.bool false], rfl, rfl, rfl⟩ (fun _ hk => hk) trivial (by decide) (by decide) HD13.out HD13.out.size ?_; intro v14 w14 ho hb hg_ hnew_; clear hg_ hnew_; (obtain ⟨A14, c14, hv⟩ := Kd.R_slice ho); (simp only [List.length_replicate, Int.reduceToNat] at hv); subst hv; (have HO14 := Aside0.mk ho); (have HD14 := Aside0.mk hb); clear ho hb)
    | (go_at_call 24; (with_reducible refine (energies_bad3 A14 c14 _).mono ?_); rintro e w15 ⟨rfl, hb⟩; (have HD15 := Aside0.mk (below_then HD14.out HD14.out.size hb)); clear hb)
    | (go_at_call 27; (with_reducible refine (phase_nil _).mono ?_); rintro e w16 ⟨rfl, hb⟩; (have HD16 := Aside0.mk (below_then HD15.out HD15.out.size hb)); clear hb)
    | ((with_reducible refine gate_dst (N := 104) rfl ?_); refine Kd.R_make KS (w0 := w6) w6.heap.size 43 rfl (N := 104) rfl 35 _ _ rfl 4097 rfl rfl Try.underlying35 (.agg #[.complex .f64 0 0, .bool false]) 24 sampleInfo rfl (by decide) (by omega) s0 (ok := fun _ => True) (okp := fun _ => True) ⟨[cx (0, 0)], [.bool false], rfl, rfl, rfl⟩ (fun _ hk => hk) trivial (by decide) (by decide) HD16.out HD16.out.size ?_; intro v17 w17 ho hb hg_ hnew_; clear hg_ hnew_; (obtain ⟨A17, c17, hv⟩ := Kd.R_slice ho); (simp only [List.length_replicate, Int.reduceToNat] at hv); subst hv; (have HO17 := Aside0.mk ho); (have HD17 := Aside0.mk hb); clear ho hb)
    | (go_at_call 20; (with_reducible refine (slip_bad1 A17 c17 _).mono ?_); rintro e w18 ⟨rfl, hb⟩; (have HD18 := Aside0.mk (below_then HD17.out HD17.out.size hb)); clear hb)
    | (go_at_call 20; (with_reducible refine (slip_nil _).mono ?_); rintro e w19 ⟨rfl, hb⟩; (have HD19 := Aside0.mk (below_then HD18.out HD18.out.size hb)); clear hb)
    | (go_at_call 20; (with_reducible refine (slip_bad2 _).mono ?_); rintro e w20 ⟨rfl, hb⟩; (have HD20 := Aside0.mk (below_then HD19.out HD19.out.size hb)); clear hb)
    | ((with_reducible refine gate_dst (N := 120) rfl ?_); refine Kd.R_make KS (w0 := w6) w6.heap.size 43 rfl (N := 120) rfl 35 _ _ rfl 65536 rfl rfl Try.underlying35 (.agg #[.complex .f64 0 0, .bool false]) 24 sampleInfo rfl (by decide) (by omega) s0 (ok := fun _ => True) (okp := fun _ => True) ⟨[cx (0, 0)], [.bool false], rfl, rfl, rfl⟩ (fun _ hk => hk) trivial (by decide) (by decide) HD20.out HD20.out.size ?_; intro v21 w21 ho hb hg_ hnew_; clear hg_ hnew_; (obtain ⟨A21, c21, hv⟩ := Kd.R_slice ho); (simp only [List.length_replicate, Int.reduceToNat] at hv); subst hv; (have HO21 := Aside0.mk ho); (have HD21 := Aside0.mk hb); clear ho hb)
    | (go_at_call 19; (with_reducible refine (slide_bad1 A21 c21 _).mono ?_); rintro e w22 ⟨rfl, hb⟩; (have HD22 := Aside0.mk (below_then HD21.out HD21.out.size hb)); clear hb)
    | (go_at_call 19; (with_reducible refine (slide_bad2 _).mono ?_); rintro e w23 ⟨rfl, hb⟩; (have HD23 := Aside0.mk (below_then HD22.out HD22.out.size hb)); clear hb)
    | (go_at_call 19; (with_reducible refine (slide_bad3 _).mono ?_); rintro e w24 ⟨rfl, hb⟩; (have HD24 := Aside0.mk (below_then HD23.out HD23.out.size hb)); clear hb)
    | (go_at_call 19; (with_reducible refine (slide_nil _).mono ?_); rintro e w25 ⟨SA, sc, rfl, hb⟩; (have HD25 := Aside0.mk (below_then HD24.out HD24.out.size hb)); clear hb; (obtain ⟨ad, hA, k1, k2⟩ := smp_at (Kd.C_below HP.out HD25.out) 1 (by decide)); subst hA; (replace k2 : w25.cell? ⟨ad.block, ad.off + 2 + 1, none⟩ = some (.bool true) := k2); clear k1)
    | (go_at_call 12; (with_reducible refine (awake_calls _).mono ?_); rintro e w26 ⟨rfl, hb⟩; (have HB26 := Aside0.mk (below_then HB6.out HB6.out.size (below_step HD25.out hb))); clear hb))

  go_ret
  exact ⟨rfl, HB26.out⟩
end Go.Proofs.Ytjhapibelhakdaa.Pure
