/- slices.Concat over rows of samples. -/
import Derived.Test.YtjhapibelhakdaaFogx0
import Derived.Test.YtjhapibelhakdaaSmp
namespace Go.Proofs.Ytjhapibelhakdaa.Pure
open Go.RowKit Go.Proofs.Ytjhapibelhakdaa.Fog Go.Proofs.YtjhapibelhakdaaW.PrintWords Go.Proofs.YtjhapibelhakdaaW.PrintLast Go.Proofs.YtjhapibelhakdaaW.PrintMore
set_option linter.unusedVariables false
set_option linter.unusedSimpArgs false

theorem sampleInfo : (Try.prog.info? 43).map (fun i => (i.zero, i.size, i.bytes)) = some (some (.agg #[.complex .f64 0 0, .bool false]), 2, 24) := by kernel_rfl
set_option maxHeartbeats 1000000 in
set_option maxRecDepth 100000 in
theorem grow_nil (n : Nat) (hn : n < 5000000000) (w : World) :
    Calls Try.prog 46 #[.slice none 0 0, .int .i64 (n : Int)] w fun e w' => ∃ v : Value, e = .returned v ∧ Kd.R KS 43 w' w.heap.size (fun _ => True) v [] ∧ Below w.heap.size w w' := by
  rcases Nat.eq_zero_or_pos n with h0 | h0
  · subst h0
    go_enter Try.func46, Try.ntmps46
    go_wp2
    go_ret
    exact ⟨_, rfl, Kd.R_nil _ _ _ _ _, Below.refl _ _⟩
  · go_enter Try.func46, Try.ntmps46
    go_wp2_with (at_builtin; refine Kd.R_append_zeros KS (w0 := w) w.heap.size rfl (.tmp 20) (.tmp 21) 35 3 43 (.agg #[.complex .f64 0 0, .bool false]) 24 rfl Try.underlying35 Try.underlying3 sampleInfo rfl (by decide) (by omega) (.slice none 0 0) [] s0 (n : Int) (fun _ => True) rfl rfl ?z (fun _ _ => trivial) (Kd.R_nil _ _ _ _ _) ?h0 (Below.refl _ _) (Nat.le_refl _) ?hl ?_; (case z => exact ⟨[cx (0, 0)], [.bool false], rfl, rfl, rfl⟩); (case h0 => omega); (case hl => simp only [List.length_nil]; omega); intro v1 w1 ho hb hg hat; clear hg hat; (obtain ⟨A1, c1, hv⟩ := Kd.R_slice ho); subst hv; (obtain ⟨i0, hi0, _, hsz0, _⟩ := info_parts sampleInfo); (have hl1 := (Kd.R_reads' ho).2.1); (have hcut := cut_to (P := Try.prog) 35 43 .i64 Try.underlying35 hi0 A1 ([] ++ List.replicate (n : Int).toNat s0).length c1 0 (by omega) (by omega) hl1); (have HO := Aside0.mk (Kd.R_take (m := 0) ho (Nat.zero_le _))); (have HB := Aside0.mk hb); clear ho hb hi0 hsz0 hl1)
    go_ret
    exact ⟨_, rfl, HO.out, HB.out⟩

def slices_Concat_bool_bool.f (l0 : List (List Smp)) : Option (List Smp) := if l0.flatten.length < 5000000000 then some l0.flatten else none
def ccf (l : List (List Smp)) (k : Nat) : List Smp := (l.take k).flatten
def cce (l : List (List Smp)) (k : Nat) : List Smp := l.getD k []
theorem ccf_succ (l : List (List Smp)) (k : Nat) (h : k < l.length) : ccf l (k + 1) = ccf l k ++ cce l k := by
  unfold ccf cce
  rw [List.take_succ_eq_append_getElem h, List.flatten_append, List.getD_eq_getElem?_getD, List.getElem?_eq_getElem h]
  simp
theorem ccf_len (l : List (List Smp)) (k : Nat) : (ccf l k).length ≤ l.flatten.length := by
  unfold ccf
  have := congrArg (fun z => z.flatten.length) (List.take_append_drop k l)
  simp only [List.flatten_append, List.length_append] at this
  omega
theorem ccf_all (l : List (List Smp)) : ccf l l.length = l.flatten := by unfold ccf; rw [List.take_length]

set_option maxHeartbeats 2000000 in
set_option maxRecDepth 100000 in
theorem slices_Concat_bool_bool.calls (A0 : Option Addr) (c0 : Nat) (l0 : List (List Smp)) (r : List Smp) (w : World) (hr0 : Kd.C (Kd.slice 43 KS) w A0 l0.length l0) (hc0 : l0.length ≤ c0) (h : slices_Concat_bool_bool.f l0 = some r) :
    Calls Try.prog 35 #[.slice A0 l0.length c0] w fun e w' => ∃ v0_ : Value, e = .returned (v0_) ∧ Kd.R KS 43 w' w.heap.size (fun _ => True) v0_ r ∧ Below w.heap.size w w' := by
  unfold slices_Concat_bool_bool.f at h
  by_cases hl : l0.flatten.length < 5000000000
  · rw [if_pos hl] at h
    obtain rfl := Option.some.inj h
    clear h
    have hlen : l0.length ≤ 9223372036854775807 := hr0.2.1
    have HR := Aside0.mk hr0
    have HL := Aside0.mk hl
    have HLEN := Aside0.mk hlen
    clear hr0 hl
    go_enter Try.func35, Try.ntmps35
    go_wp2_with (fail)
    go_loop [3, 11] (fun s i => ∃ k : Nat, k ≤ l0.length ∧ i = .int .i64 (k : Int) ∧ s = .int .i64 ((ccf l0 k).length : Int)) (fun _ i => l0.length - (intOf i).toNat)
    case atStart => exact ⟨0, Nat.zero_le _, rfl, rfl⟩
    case round =>
      obtain ⟨k, hk, rfl, rfl⟩ := hrel
      by_cases hlt : k < l0.length
      · obtain ⟨ad, cs, rfl, hcs, hK, hcell⟩ := ReadsRow.get_ HR.out [] (k : Int) (by omega) (by omega)
        rw [Int.toNat_natCast, show l0.getD k [] = cce l0 k from rfl] at hK
        obtain ⟨A, c, rfl, hc, hC⟩ := hK
        have hx := hcell 0 _ rfl
        simp only [Int.toNat_natCast, Kd.slice, Nat.mul_one, Nat.add_zero] at hx
        have hb1 := ccf_len l0 (k + 1)
        have hb2 := HL.out
        have hb3 := ccf_len l0 k
        have he : (ccf l0 (k + 1)).length = (ccf l0 k).length + (cce l0 k).length := by rw [ccf_succ l0 k hlt, List.length_append]
        have HE := Aside0.mk he
        have hb4 : (ccf l0 k).length + (cce l0 k).length < 5000000000 := by omega
        clear he hb1 hb2 hC hc hcell hcs
        go_wp2
        go_round
        case rel => exact ⟨k + 1, by omega, by go_num, by rw [HE.out]; go_num⟩
        case measure => simp [intOf]; omega
      · obtain rfl : k = l0.length := by omega
        have HT := Aside0.mk (ccf_all l0)
        have HL2 : (ccf l0 l0.length).length < 5000000000 := by rw [HT.out]; exact HL.out
        go_wp2_with (go_at_call 46; (with_reducible refine (grow_nil _ (by assumption) _).mono ?_); rintro e w1 ⟨v, rfl, ho, hb⟩; (have HO := Aside0.mk ho); (have HB := Aside0.mk hb); clear ho hb)
        go_loopw [6, 27] (fun s i wr => ∃ (k : Nat), k ≤ l0.length ∧ i = .int .i64 (k : Int) ∧ Aside0 (Kd.R KS 43 wr w.heap.size (fun _ => True) s (ccf l0 k)) ∧ Aside0 (Below w.heap.size w wr)) (fun _ i _ => l0.length - (intOf i).toNat)
        case atStart => exact ⟨0, Nat.zero_le _, rfl, HO, HB⟩
        case round =>
          clear HO HB
          obtain ⟨k, hk, rfl, HO, HB⟩ := hrel
          by_cases hlt2 : k < l0.length
          · obtain ⟨ad, cs, rfl, hcs, hK, hcell⟩ := ReadsRow.get_ (Kd.C_below HR.out HB.out) [] (k : Int) (by omega) (by omega)
            rw [Int.toNat_natCast, show l0.getD k [] = cce l0 k from rfl] at hK
            obtain ⟨A, c, rfl, hc, hC⟩ := hK
            have hx := hcell 0 _ rfl
            simp only [Int.toNat_natCast, Kd.slice, Nat.mul_one, Nat.add_zero] at hx hC
            have hb1 := ccf_len l0 (k + 1)
            have hb2 := HL.out
            have he : (ccf l0 (k + 1)) = (ccf l0 k) ++ cce l0 k := ccf_succ l0 k hlt2
            have hb4 : ((ccf l0 k).length + (cce l0 k).length) * 24 ≤ 140737488355328 := by rw [he, List.length_append] at hb1; omega
            have HE := Aside0.mk he
            have HC := Aside0.mk hC
            have HB4 := Aside0.mk hb4
            clear he hb1 hb2 hcell hcs hC hb4 hc
            go_wp2_with (at_builtin; refine Kd.R_append_rows KS (w0 := w) w.heap.size rfl (.tmp 31) (.tmp 32) 35 43 (.agg #[.complex .f64 0 0, .bool false]) 24 rfl Try.underlying35 sampleInfo rfl (by decide) (by omega) _ (ccf l0 k) (cce l0 k) _ _ _ (fun _ => True) (fun _ => False) rfl rfl HO.out HC.out (fun _ _ h => h) (fun _ h => h.elim) (fun _ _ => trivial) HB.out HB.out.size HB4.out ?_; intro v1 w1 ho hb hg hat; clear hg hat; (rw [← HE.out] at ho); (have HO1 := Aside0.mk ho); (have HB1 := Aside0.mk hb); clear ho hb)
            go_roundw
            case rel => exact ⟨k + 1, by omega, by go_num, HO1, HB1⟩
            case measure => simp [intOf]; omega
          · obtain rfl : k = l0.length := by omega
            go_wp2
            go_ret
            exact ⟨_, rfl, by have := HO.out; rw [HT.out] at this; exact this, HB.out⟩
  · rw [if_neg hl] at h
    cases h

end Go.Proofs.Ytjhapibelhakdaa.Pure
