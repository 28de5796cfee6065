/- Slide. -/
import Derived.Test.YtjhapibelhakdaaFogx0
import Derived.Test.YtjhapibelhakdaaConcat
import Derived.Test.YtjhapibelhakdaaAwake
namespace Go.Proofs.Ytjhapibelhakdaa.Pure
open Go.RowKit Go.Proofs.Ytjhapibelhakdaa.Fog Go.Proofs.YtjhapibelhakdaaW.PrintWords Go.Proofs.YtjhapibelhakdaaW.PrintLast Go.Proofs.YtjhapibelhakdaaW.PrintMore Go.Proofs.Ytjhapibelhakdaa.Kit
set_option linter.unusedVariables false
set_option linter.unusedSimpArgs false
def lostS : Smp := ((0, 0), true)
theorem smpC_take {w : World} {A : Option Addr} {n : Nat} {l : List Smp} (h : Kd.C KS w A n l) (m : Nat) (hm : m ≤ n) : Kd.C KS w A m (l.take m) := by
  have hl := h.1
  subst hl
  have h2 := Kd.C_take h hm
  rwa [List.length_take, Nat.min_eq_left hm] at h2
theorem smpC_drop {w : World} {A : Option Addr} {n c : Nat} {l : List Smp} (h : Kd.C KS w A n l) (m : Nat) (hm : m ≤ n) (hc : n ≤ c) : Kd.C KS w (if c = m then A else Option.map (fun x => x.add (m * 2)) A) (n - m) (l.drop m) := by
  have hl := h.1
  subst hl
  have h2 := Kd.C_drop h hm hc
  rw [List.length_drop, show KS.sz = 2 from rfl] at h2
  exact h2
/-- A slice's value reads as its row. -/
theorem slice_K {w : World} {A : Option Addr} {n c : Nat} {l : List Smp} (h : Kd.C KS w A n l) (hc : n ≤ c) : (Kd.slice 43 KS).K w l [.slice A n c] := by
  have hl := h.1
  subst hl
  exact ⟨A, c, rfl, hc, h⟩
theorem lit2_C (w : World) (A1 A2 : Option Addr) (n1 c1 n2 c2 : Nat) (l1 l2 : List Smp) (h1 : Kd.C KS w A1 n1 l1) (hc1 : n1 ≤ c1) (h2 : Kd.C KS w A2 n2 l2) (hc2 : n2 ≤ c2) :
    Kd.C (Kd.slice 43 KS) (w.alloc (.cells #[.slice A1 n1 c1, .slice A2 n2 c2] 35)) (some ⟨w.heap.size, 0, none⟩) 2 [l1, l2] := by
  refine ⟨rfl, by decide, fun _ => ⟨_, rfl, fun j p hj => ?_⟩⟩
  have hb : Below w.heap.size w (w.alloc (.cells #[.slice A1 n1 c1, .slice A2 n2 c2] 35)) := (Below.refl _ _).alloc (Nat.le_refl _) _
  have hn := blk_new w (.cells #[.slice A1 n1 c1, .slice A2 n2 c2] 35)
  match j, hj with
  | 0, hj =>
    obtain rfl : l1 = p := by simpa using hj
    refine ⟨[.slice A1 n1 c1], rfl, slice_K (Kd.C_below h1 hb) hc1, fun i u hu => ?_⟩
    match i, hu with
    | 0, hu => obtain rfl : Value.slice A1 n1 c1 = u := by simpa using hu
               exact (blk_cell hn 0).trans rfl
  | 1, hj =>
    obtain rfl : l2 = p := by simpa using hj
    refine ⟨[.slice A2 n2 c2], rfl, slice_K (Kd.C_below h2 hb) hc2, fun i u hu => ?_⟩
    match i, hu with
    | 0, hu => obtain rfl : Value.slice A2 n2 c2 = u := by simpa using hu
               exact (blk_cell hn 1).trans rfl
theorem lit3_C (w : World) (A1 A2 A3 : Option Addr) (n1 c1 n2 c2 n3 c3 : Nat) (l1 l2 l3 : List Smp) (h1 : Kd.C KS w A1 n1 l1) (hc1 : n1 ≤ c1) (h2 : Kd.C KS w A2 n2 l2) (hc2 : n2 ≤ c2) (h3 : Kd.C KS w A3 n3 l3) (hc3 : n3 ≤ c3) :
    Kd.C (Kd.slice 43 KS) (w.alloc (.cells #[.slice A1 n1 c1, .slice A2 n2 c2, .slice A3 n3 c3] 35)) (some ⟨w.heap.size, 0, none⟩) 3 [l1, l2, l3] := by
  refine ⟨rfl, by decide, fun _ => ⟨_, rfl, fun j p hj => ?_⟩⟩
  have hb : Below w.heap.size w (w.alloc (.cells #[.slice A1 n1 c1, .slice A2 n2 c2, .slice A3 n3 c3] 35)) := (Below.refl _ _).alloc (Nat.le_refl _) _
  have hn := blk_new w (.cells #[.slice A1 n1 c1, .slice A2 n2 c2, .slice A3 n3 c3] 35)
  match j, hj with
  | 0, hj =>
    obtain rfl : l1 = p := by simpa using hj
    refine ⟨[.slice A1 n1 c1], rfl, slice_K (Kd.C_below h1 hb) hc1, fun i u hu => ?_⟩
    match i, hu with
    | 0, hu => obtain rfl : Value.slice A1 n1 c1 = u := by simpa using hu
               exact (blk_cell hn 0).trans rfl
  | 1, hj =>
    obtain rfl : l2 = p := by simpa using hj
    refine ⟨[.slice A2 n2 c2], rfl, slice_K (Kd.C_below h2 hb) hc2, fun i u hu => ?_⟩
    match i, hu with
    | 0, hu => obtain rfl : Value.slice A2 n2 c2 = u := by simpa using hu
               exact (blk_cell hn 1).trans rfl
  | 2, hj =>
    obtain rfl : l3 = p := by simpa using hj
    refine ⟨[.slice A3 n3 c3], rfl, slice_K (Kd.C_below h3 hb) hc3, fun i u hu => ?_⟩
    match i, hu with
    | 0, hu => obtain rfl : Value.slice A3 n3 c3 = u := by simpa using hu
               exact (blk_cell hn 2).trans rfl
/-- slices.Concat of two rows, of three. -/
theorem concat2 (w : World) (A : Option Addr) (l1 l2 : List Smp) (h : Kd.C (Kd.slice 43 KS) w A 2 [l1, l2]) (hl : l1.length + l2.length < 1000000) :
    Calls Try.prog 35 #[.slice A 2 2] w fun e w' => ∃ v, e = .returned v ∧ Kd.R KS 43 w' w.heap.size (fun _ => True) v (l1 ++ l2) ∧ Below w.heap.size w w' := by
  have g := slices_Concat_bool_bool.calls A 2 [l1, l2] (l1 ++ l2) w h (Nat.le_refl _) (by unfold slices_Concat_bool_bool.f; rw [if_pos (by simp; omega)]; simp)
  exact g
theorem concat3 (w : World) (A : Option Addr) (l1 l2 l3 : List Smp) (h : Kd.C (Kd.slice 43 KS) w A 3 [l1, l2, l3]) (hl : l1.length + l2.length + l3.length < 1000000) :
    Calls Try.prog 35 #[.slice A 3 3] w fun e w' => ∃ v, e = .returned v ∧ Kd.R KS 43 w' w.heap.size (fun _ => True) v (l1 ++ l2 ++ l3) ∧ Below w.heap.size w w' := by
  have g := slices_Concat_bool_bool.calls A 3 [l1, l2, l3] (l1 ++ l2 ++ l3) w h (Nat.le_refl _) (by unfold slices_Concat_bool_bool.f; rw [if_pos (by simp; omega)]; simp)
  exact g
set_option maxHeartbeats 4000000 in
set_option maxRecDepth 100000 in
theorem slide_out (A : Option Addr) (n c p d : Nat) (l : List Smp) (w : World) (hl : l.length = n) (h : Kd.C KS w A n l) (hc : n ≤ c) (hn : n ≤ 65536) (hp : p ≤ n) (hd0 : 1 ≤ d) (hd : d ≤ 1024) (hpd : d ≤ n - p) :
    Calls Try.prog 19 #[.slice A n c, .int .i64 (p : Int), .int .i64 (-(d : Int))] w fun e w' => ∃ v, e = .returned (.tuple #[v, .int .i64 0]) ∧ Kd.R KS 43 w' w.heap.size (fun _ => True) v (l.take p ++ l.drop (p + d)) ∧ Below w.heap.size w w' := by
  have HC := Aside0.mk h
  have HLL := Aside0.mk hl
  have q1 : ¬ (65536 : Int) < (n : Int) := by omega
  have q2 : ¬ (n : Int) < (p : Int) := by omega
  have q3 : ¬ (-(d : Int)) < -1024 := by omega
  have q4 : ¬ (1024 : Int) < -(d : Int) := by omega
  have w1 : IntKind.i64.wrap (- -(d : Int)) = (d : Int) := by rw [IntKind.wrap_i64]; omega
  have w2 : IntKind.i64.wrap ((n : Int) - (p : Int)) = (n : Int) - (p : Int) := by rw [IntKind.wrap_i64]; omega
  have q5 : ¬ (n : Int) - (p : Int) < (d : Int) := by omega
  have w3 : IntKind.i64.wrap ((n : Int) + -(d : Int)) = (n : Int) + -(d : Int) := by rw [IntKind.wrap_i64]; omega
  have q6 : ¬ (65536 : Int) < (n : Int) + -(d : Int) := by omega
  have q7 : (-(d : Int)) < 0 := by omega
  obtain ⟨P2, hP2⟩ : ∃ P2, p + d = P2 := ⟨_, rfl⟩
  have w4 : (p : Int) + (d : Int) = (P2 : Int) := by omega
  have w5 : (p : Int) - -(d : Int) = (P2 : Int) := by omega
  have b1 : (p : Int) ≤ (c : Int) := by omega
  have b2 : (P2 : Int) ≤ (n : Int) := by omega
  have HC1 := Aside0.mk (smpC_take h p hp)
  have HC2a := smpC_drop h P2 (by omega) hc
  have w6 : IntKind.i64.wrap (P2 : Int) = (P2 : Int) := by rw [IntKind.wrap_i64]; omega
  have HCAT := Aside0.mk (show ∀ w' B, Kd.C (Kd.slice 43 KS) w' B 2 [l.take p, l.drop P2] → Calls Try.prog 35 #[.slice B 2 2] w' fun e w'' => ∃ v, e = .returned v ∧ Kd.R KS 43 w'' w'.heap.size (fun _ => True) v (l.take p ++ l.drop P2) ∧ Below w'.heap.size w' w'' from fun w' B hB => concat2 w' B _ _ hB (by rw [List.length_take, List.length_drop]; omega))
  rw [hP2]
  have HP2a := (show p ≤ c ∧ n - P2 ≤ c - P2 by omega)
  clear h hl hP2
  by_cases hcp : c = P2
  · subst hcp
    have hn0 : n - c = 0 := by have := HP2a.2; omega
    rw [if_pos rfl, hn0] at HC2a
    have HP2 := Aside0.mk (⟨HP2a.1, Nat.le_refl 0⟩ : p ≤ c ∧ 0 ≤ 0)
    have HC2 := Aside0.mk HC2a
    clear HC2a HP2a hn0
    go_enter Try.func19, Try.ntmps19
    go_wp2
    go_region_with (go_at_call 35; (refine (HCAT.out _ _ (by have g := lit2_C _ _ _ _ _ _ _ _ _ HC1.out HP2.out.1 HC2.out HP2.out.2; first | exact g | exact Kd.C_drew g)).mono ?_; rintro e w2 ⟨v, rfl, ho, hb⟩))
    go_wp2
    go_ret2
    have hb0 := ((Below.refl w.heap.size w).alloc (Nat.le_refl _) (.cells #[.slice A p c, .slice A 0 0] 35)).drew
    exact ⟨_, rfl, Kd.R_lower ho hb0.size, below_then hb0 hb0.size hb⟩
  · rw [if_neg hcp] at HC2a
    have HC2 := Aside0.mk HC2a
    have HP2 := Aside0.mk HP2a
    clear HC2a HP2a
    go_enter Try.func19, Try.ntmps19
    go_wp2
    go_region_with (go_at_call 35; (refine (HCAT.out _ _ (by have g := lit2_C _ _ _ _ _ _ _ _ _ HC1.out HP2.out.1 HC2.out HP2.out.2; first | exact g | exact Kd.C_drew g)).mono ?_; rintro e w2 ⟨v, rfl, ho, hb⟩))
    go_wp2
    go_ret2
    have hb0 := ((Below.refl w.heap.size w).alloc (Nat.le_refl _) (.cells #[.slice A p c, .slice (Option.map (fun x => x.add (P2 * 2)) A) (n - P2) (c - P2)] 35)).drew
    exact ⟨_, rfl, Kd.R_lower ho hb0.size, below_then hb0 hb0.size hb⟩
set_option maxHeartbeats 4000000 in
set_option maxRecDepth 100000 in
theorem slide_in (A : Option Addr) (n c p d : Nat) (l : List Smp) (w : World) (hl : l.length = n) (h : Kd.C KS w A n l) (hc : n ≤ c) (hn : n + d ≤ 65536) (hp : p ≤ n) (hd : d ≤ 1024) :
    Calls Try.prog 19 #[.slice A n c, .int .i64 (p : Int), .int .i64 (d : Int)] w fun e w' => ∃ v, e = .returned (.tuple #[v, .int .i64 0]) ∧ Kd.R KS 43 w' w.heap.size (fun _ => True) v (l.take p ++ List.replicate d lostS ++ l.drop p) ∧ Below w.heap.size w w' := by
  have HC := Aside0.mk h
  have HLL := Aside0.mk hl
  have q1 : ¬ (65536 : Int) < (n : Int) := by omega
  have q2 : ¬ (n : Int) < (p : Int) := by omega
  have q3 : ¬ ((d : Int)) < -1024 := by omega
  have q4 : ¬ (1024 : Int) < (d : Int) := by omega
  have w1 : IntKind.i64.wrap (-(d : Int)) = -(d : Int) := by rw [IntKind.wrap_i64]; omega
  have w2 : IntKind.i64.wrap ((n : Int) - (p : Int)) = (n : Int) - (p : Int) := by rw [IntKind.wrap_i64]; omega
  have q5 : ¬ (n : Int) - (p : Int) < -(d : Int) := by omega
  have w3 : IntKind.i64.wrap ((n : Int) + (d : Int)) = (n : Int) + (d : Int) := by rw [IntKind.wrap_i64]; omega
  have q6 : ¬ (65536 : Int) < (n : Int) + (d : Int) := by omega
  have q7 : ¬ ((d : Int)) < 0 := by omega
  have b1 : (p : Int) ≤ (c : Int) := by omega
  have HC1 := Aside0.mk (smpC_take h p hp)
  have HC2a := smpC_drop h p hp hc
  clear h hl
  go_enter Try.func19, Try.ntmps19
  go_wp2_with ((with_reducible refine gate_dst (N := 49) rfl ?_); refine Kd.R_make KS (w0 := w) w.heap.size 43 rfl (N := 49) rfl 35 _ _ rfl (d : Int) rfl rfl Try.underlying35 (.agg #[.complex .f64 0 0, .bool false]) 24 sampleInfo rfl (by decide) (by omega) s0 (ok := fun _ => True) (okp := fun _ => True) ?z (fun _ hk => hk) trivial ?h0 ?hl (Below.refl _ _) (Nat.le_refl _) ?_; (case z => exact ⟨[cx (0, 0)], [.bool false], rfl, rfl, rfl⟩); (case h0 => omega); (case hl => omega); intro v2 w2 ho hb hg_ hnew_; clear hg_ hnew_; (rw [Int.toNat_natCast] at ho); (obtain ⟨GA, gc, hv⟩ := Kd.R_slice ho); (rw [List.length_replicate] at hv); subst hv; (have HO := Aside0.mk ho); (have HM := Aside0.mk hb); clear ho hb)
  have HG0 := Aside0.mk (fun i hi => ((Kd.R_bound HO.out).1 i hi).2.1 : ∀ i, (Value.slice GA d gc).ownBlock = some i → w.heap.size ≤ i)
  go_loopw [52] (fun i wr => ∃ k : Nat, k ≤ d ∧ i = .int .i64 (k : Int) ∧ Aside0 (Kd.R KS 43 wr w.heap.size (fun _ => True) (.slice GA d gc) (List.replicate k lostS ++ List.replicate (d - k) s0)) ∧ Aside0 (Below w.heap.size w wr)) (fun i _ => d - (intOf i).toNat)
  case atStart => exact ⟨0, Nat.zero_le _, rfl, HO, HM⟩
  case round =>
    obtain ⟨k, hk, rfl, HX, HMK⟩ := hrel
    by_cases hlt : k < d
    · have q1 : (k : Int) < (d : Int) := by omega
      obtain ⟨g, cc, hv, hgb, hgl, _⟩ := Kd.R_form HX.out (by simp; omega)
      simp only [Value.slice.injEq] at hv
      obtain ⟨rfl, hlen_, rfl⟩ := hv
      clear hlen_
      have hlen : (List.replicate k lostS ++ List.replicate (d - k) s0).length = d := by simp; omega
      have hgetk : (List.replicate k lostS ++ List.replicate (d - k) s0).getD k s0 = s0 := by
        rw [List.getD_eq_getElem?_getD, List.getElem?_append_right (by simp)]
        simp [List.getElem?_replicate, show k < k + (d - k) by omega]
        split <;> rfl
      have hsm := (Kd.R_reads' HX.out).2.2
      rw [hlen] at hsm
      obtain ⟨ad, had, hc0, hc1⟩ := smp_at hsm k hlt
      injection had with had
      subst had
      rw [hgetk] at hc0 hc1
      have hadd : (⟨g, 0, none⟩ : Addr).add (k * 2) = ⟨g, k * 2, none⟩ := by simp [Addr.add]; omega
      rw [hadd] at hc0 hc1
      have hcc : ∀ j u, ([.complex .f64 0 0, .bool false] : List Value)[j]? = some u → wr.cell? ⟨g, (k : Int).toNat * KS.sz + j, none⟩ = some u := by
        intro j u hj
        rw [Int.toNat_natCast, KS_sz]
        match j, hj with
        | 0, hj => obtain rfl : Value.complex .f64 0 0 = u := by simpa using hj
                   exact hc0
        | 1, hj => obtain rfl : Value.bool false = u := by simpa using hj
                   exact hc1
      have HCC := Aside0.mk hcc
      have hset : (List.replicate k lostS ++ List.replicate (d - k) s0).set k lostS = List.replicate (k + 1) lostS ++ List.replicate (d - (k + 1)) s0 := by
        rw [List.set_append_right _ _ (by rw [List.length_replicate]; exact Nat.le_refl _), List.length_replicate, Nat.sub_self, show d - k = (d - (k + 1)) + 1 by omega, List.replicate_succ, List.set_cons_zero, List.replicate_succ', List.append_assoc]
        rfl
      have HSET := Aside0.mk hset
      have HL := Aside0.mk hlen
      clear hlen hgetk hsm hcc hset
      go_wp2_with ((with_reducible refine gate_ (.store 4 (.tmp 58) (.const (.bool true))) rfl ?_); go_loud (refine Kd.R_store KS (w0 := w) w.heap.size rfl rfl 4 _ _ rfl 43 (k : Int) 1 _ lostS (.bool true) [.bool true] [.complex .f64 0 0, .bool false] (fun _ => True) (fun _ => False) rfl ?ho rfl rfl ?ht ?h1 HX.out (by omega) (by omega) rfl HCC.out (by decide) ?hM (fun _ hk => hk.elim) HMK.out ?_); (case ho => rw [Int.toNat_natCast]; rfl); (case ht => rfl); (case h1 => intro q hq; obtain rfl := List.mem_singleton.1 hq; rfl); (case hM => exact ⟨[.complex .f64 0 0], [.bool true], rfl, rfl, rfl⟩); intro w3 hx3 hb3 hg3; clear hg3; (rw [Int.toNat_natCast, HSET.out] at hx3); (have HX3 := Aside0.mk hx3); (have HM3 := Aside0.mk hb3); clear hx3 hb3)
      exact ⟨⟨k + 1, hlt, by go_num, HX3, HM3⟩, by show d - ((k : Int) + 1).toNat < d - (k : Int).toNat; omega⟩
    · have hkd : k = d := by omega
      subst hkd
      have HX1 := Aside0.mk (show Kd.R KS 43 wr w.heap.size (fun _ => True) (.slice GA k gc) (List.replicate k lostS) by have := HX.out; rwa [Nat.sub_self, List.replicate_zero, List.append_nil] at this)
      have hgc : k ≤ gc := by have := (Kd.R_reads' HX1.out).2.1; omega
      have hcg := (Kd.R_reads' HX1.out).2.2
      rw [List.length_replicate] at hcg
      have HCG := Aside0.mk hcg
      have HC1 := Aside0.mk (Kd.C_below HC1.out HMK.out)
      have hc2 := Kd.C_below HC2a HMK.out
      clear HX hlt hcg HC2a
      have HCAT := Aside0.mk (show ∀ w' B, Kd.C (Kd.slice 43 KS) w' B 3 [l.take p, List.replicate k lostS, l.drop p] → Calls Try.prog 35 #[.slice B 3 3] w' fun e w'' => ∃ v, e = .returned v ∧ Kd.R KS 43 w'' w'.heap.size (fun _ => True) v (l.take p ++ List.replicate k lostS ++ l.drop p) ∧ Below w'.heap.size w' w'' from fun w' B hB => concat3 w' B _ _ _ hB (by rw [List.length_take, List.length_drop, List.length_replicate]; have := HLL.out; omega))
      by_cases hcp : c = p
      · subst hcp
        have hn0 : n - c = 0 := by omega
        rw [if_pos rfl, hn0] at hc2
        have HP2 := Aside0.mk (⟨Nat.le_refl _, hgc, Nat.le_refl 0⟩ : c ≤ c ∧ k ≤ gc ∧ 0 ≤ 0)
        have HC2 := Aside0.mk hc2
        clear hc2 hgc hn0
        go_wp2
        go_region_with (go_at_call 35; (refine (HCAT.out _ _ (by have g := lit3_C _ _ _ _ _ _ _ _ _ _ _ _ _ HC1.out HP2.out.1 HCG.out HP2.out.2.1 HC2.out HP2.out.2.2; first | exact g | exact Kd.C_drew g)).mono ?_; rintro e w2 ⟨v, rfl, ho, hb⟩))
        go_wp2
        go_ret2
        have hb0 := (HMK.out.alloc HMK.out.size (.cells #[.slice A c c, .slice GA k gc, .slice A 0 0] 35)).drew
        exact ⟨_, rfl, Kd.R_lower ho hb0.size, below_then hb0 hb0.size hb⟩
      · rw [if_neg hcp] at hc2
        have HP2 := Aside0.mk (⟨by omega, hgc, by omega⟩ : p ≤ c ∧ k ≤ gc ∧ n - p ≤ c - p)
        have HC2 := Aside0.mk hc2
        clear hc2 hgc
        go_wp2
        go_region_with (go_at_call 35; (refine (HCAT.out _ _ (by have g := lit3_C _ _ _ _ _ _ _ _ _ _ _ _ _ HC1.out HP2.out.1 HCG.out HP2.out.2.1 HC2.out HP2.out.2.2; first | exact g | exact Kd.C_drew g)).mono ?_; rintro e w2 ⟨v, rfl, ho, hb⟩))
        go_wp2
        go_ret2
        have hb0 := (HMK.out.alloc HMK.out.size (.cells #[.slice A p c, .slice GA k gc, .slice (Option.map (fun x => x.add (p * 2)) A) (n - p) (c - p)] 35)).drew
        exact ⟨_, rfl, Kd.R_lower ho hb0.size, below_then hb0 hb0.size hb⟩
end Go.Proofs.Ytjhapibelhakdaa.Pure
