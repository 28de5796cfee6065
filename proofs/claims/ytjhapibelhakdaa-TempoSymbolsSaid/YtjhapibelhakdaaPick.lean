/- Pick. -/
import Derived.Test.YtjhapibelhakdaaFogx0
import Derived.Test.YtjhapibelhakdaaFogx1
import Derived.Test.YtjhapibelhakdaaSlide
namespace Go.Proofs.Ytjhapibelhakdaa.Pure
open Go.RowKit Go.Proofs.Ytjhapibelhakdaa.Fog Go.Proofs.YtjhapibelhakdaaW.PrintWords Go.Proofs.YtjhapibelhakdaaW.PrintLast Go.Proofs.YtjhapibelhakdaaW.PrintMore Go.Proofs.Ytjhapibelhakdaa.Kit
set_option linter.unusedVariables false
set_option linter.unusedSimpArgs false
def pickV (F Q D : Nat) (l : List Smp) (n : Nat) : List Smp := (List.range n).map fun k => l.getD (F + k * Q / D) lostS
theorem pickV_succ (F Q D : Nat) (l : List Smp) (n : Nat) : pickV F Q D l (n + 1) = pickV F Q D l n ++ [l.getD (F + n * Q / D) lostS] := by
  unfold pickV; rw [List.range_succ, List.map_append]; rfl
theorem pickV_length (F Q D : Nat) (l : List Smp) (n : Nat) : (pickV F Q D l n).length = n := by unfold pickV; simp
set_option maxHeartbeats 4000000 in
set_option maxRecDepth 100000 in
theorem pick_calls (A : Option Addr) (n c F Q D m : Nat) (l : List Smp) (w : World) (hl : l.length = n) (h : Kd.C KS w A n l) (hc : n ≤ c) (hn : n ≤ 65536) (hF : F ≤ 65536) (hD : 1 ≤ D) (hQ : D ≤ Q) (hQ2 : Q ≤ 65536) (hm : m ≤ 65536) :
    Calls Try.prog 30 #[.agg #[.int .i64 (F : Int), .int .i64 (Q : Int), .int .i64 (D : Int)], .slice A n c, .int .i64 (m : Int)] w fun e w' => ∃ v, e = .returned (.tuple #[v, .int .i64 0]) ∧ Kd.R KS 43 w' w.heap.size (fun _ => True) v (pickV F Q D l m) ∧ Below w.heap.size w w' := by
  have HC := Aside0.mk h
  have HLL := Aside0.mk hl
  have HMAY := Aside0.mk (show tempo_Clock_may.f F Q D m = some true by
    unfold tempo_Clock_may.f
    rw [if_pos (by omega), if_pos (by omega), if_pos (by omega), if_pos (by omega), if_pos (by omega), if_pos (by omega), decide_eq_true (by omega)])
  have q1 : ¬ (65536 : Int) < (n : Int) := by omega
  clear h hl
  go_enter Try.func30, Try.ntmps30
  go_wp2_with (first
    | (go_at_call 31; (with_reducible refine (tempo_Clock_may.calls _ _ _ _ _ _ HMAY.out).mono ?_); rintro e w1 ⟨rfl, hb⟩; (have HB1 := Aside0.mk (below_then ((Below.refl w.heap.size w).alloc (Nat.le_refl _) _) (by simp) hb)); (have HX1 := Aside0.mk (blk_below (blk_new w _) hb)); clear hb)
    | ((with_reducible refine gate_dst (N := 21) rfl ?_); refine Kd.R_make KS (w0 := w1) w1.heap.size 43 rfl (N := 21) rfl 35 _ _ rfl (m : Int) rfl rfl Try.underlying35 (.agg #[.complex .f64 0 0, .bool false]) 24 sampleInfo rfl (by decide) (by omega) s0 (ok := fun _ => True) (okp := fun _ => True) ?z (fun _ hk => hk) trivial ?h0 ?hl (Below.refl _ _) (Nat.le_refl _) ?_; (case z => exact ⟨[cx (0, 0)], [.bool false], rfl, rfl, rfl⟩); (case h0 => omega); (case hl => omega); intro v2 w2 ho hb hg_ hnew_; clear hnew_; (rw [Int.toNat_natCast] at ho); (obtain ⟨GA, gc, hv⟩ := Kd.R_slice ho); (rw [List.length_replicate] at hv); subst hv; (have HO := Aside0.mk ho); (have HM := Aside0.mk hb); clear ho hb hg_))
  have HCW := Aside0.mk (Kd.C_below HC.out HB1.out)
  go_loopw [24] (fun i wr => ∃ k : Nat, k ≤ m ∧ i = .int .i64 (k : Int) ∧ Aside0 (Kd.R KS 43 wr w1.heap.size (fun _ => True) (.slice GA m gc) (pickV F Q D l k ++ List.replicate (m - k) s0)) ∧ Aside0 (Below w1.heap.size w1 wr)) (fun i _ => m - (intOf i).toNat)
  case atStart => exact ⟨0, Nat.zero_le _, rfl, HO, HM⟩
  case round =>
    obtain ⟨k, hk, rfl, HX, HMK⟩ := hrel
    by_cases hlt : k < m
    · have q2 : (k : Int) < (m : Int) := by omega
      obtain ⟨g, cc, hv, hgb, hgl, _⟩ := Kd.R_form HX.out (by simp [pickV_length]; omega)
      simp only [Value.slice.injEq] at hv
      obtain ⟨rfl, hlen_, rfl⟩ := hv
      clear hlen_
      have hlen : (pickV F Q D l k ++ List.replicate (m - k) s0).length = m := by simp [pickV_length]; omega
      have hgetk : (pickV F Q D l k ++ List.replicate (m - k) s0).getD k s0 = s0 := by
        rw [List.getD_eq_getElem?_getD, List.getElem?_append_right (by simp [pickV_length])]
        simp [List.getElem?_replicate, pickV_length, show k < k + (m - k) by omega]
        split <;> rfl
      have hsm := (Kd.R_reads' HX.out).2.2
      rw [hlen] at hsm
      obtain ⟨ad, had, hc0, hc1⟩ := smp_at hsm k hlt
      injection had with had
      subst had
      rw [hgetk] at hc0 hc1
      have hadd : (⟨g, 0, none⟩ : Addr).add (k * 2) = ⟨g, k * 2, none⟩ := by simp [Addr.add]; omega
      rw [hadd] at hc0 hc1
      have hcc : ∀ j u, ([.complex .f64 0 0, .bool false] : List Value)[j]? = some u → wr.cell? ⟨g, (k : Int).toNat * KS.sz + j, none⟩ = some u := by
        intro j u hj
        rw [Int.toNat_natCast, KS_sz]
        match j, hj with
        | 0, hj => obtain rfl : Value.complex .f64 0 0 = u := by simpa using hj
                   exact hc0
        | 1, hj => obtain rfl : Value.bool false = u := by simpa using hj
                   exact hc1
      have HCC := Aside0.mk hcc
      have hset : ∀ z, (pickV F Q D l k ++ List.replicate (m - k) s0).set k z = pickV F Q D l k ++ [z] ++ List.replicate (m - (k + 1)) s0 := by
        intro z
        rw [List.set_append_right _ _ (by rw [pickV_length]; exact Nat.le_refl _), pickV_length, Nat.sub_self, show m - k = (m - (k + 1)) + 1 by omega, List.replicate_succ, List.set_cons_zero, List.append_assoc]
        rfl
      have HSET := Aside0.mk hset
      have HSU := Aside0.mk (pickV_succ F Q D l k)
      have HL := Aside0.mk hlen
      have HCR := Aside0.mk (Kd.C_below HCW.out HMK.out)
      have HBX := Aside0.mk (blk_below HX1.out HMK.out)
      have c0 := (blk_cell HBX.out 0).trans rfl
      have c1 := (blk_cell HBX.out 1).trans rfl
      have c2 := (blk_cell HBX.out 2).trans rfl
      have hkq : k * Q ≤ 65536 * 65536 := Nat.mul_le_mul (by omega) hQ2
      have hdl : k * Q / D ≤ k * Q := Nat.div_le_self _ _
      have e1 : (k : Int) * (Q : Int) = ((k * Q : Nat) : Int) := by rw [Int.natCast_mul]
      obtain ⟨KQ, hKQ⟩ : ∃ z, k * Q = z := ⟨_, rfl⟩
      rw [hKQ] at hkq hdl e1
      have e2 : IntKind.i64.wrap (KQ : Int) = (KQ : Int) := by rw [IntKind.wrap_i64]; omega
      obtain ⟨S, hS⟩ : ∃ z, KQ / D = z := ⟨_, rfl⟩
      rw [hS] at hdl
      have e3 : Int.tdiv (KQ : Int) (D : Int) = (S : Int) := by rw [tdiv_nat, hS]
      have e3' : (KQ : Int) / (D : Int) = (S : Int) := by rw [← hS]; simp
      have e4 : IntKind.i64.wrap (S : Int) = (S : Int) := by rw [IntKind.wrap_i64]; omega
      obtain ⟨T, hT⟩ : ∃ z, F + S = z := ⟨_, rfl⟩
      have e5 : (F : Int) + (S : Int) = (T : Int) := by omega
      have e6 : IntKind.i64.wrap (T : Int) = (T : Int) := by rw [IntKind.wrap_i64]; omega
      have hD0 : ¬ (D : Int) = 0 := by omega
      have hD0' : ((D : Int) == 0) = false := by simp; omega
      have hTT : F + k * Q / D = T := by rw [hKQ, hS, hT]
      rw [hTT] at HSU
      have hks : IntKind.i64.wrap ((k : Int) + 1) = (k : Int) + 1 := by rw [IntKind.wrap_i64]; omega
      clear hlen hgetk hsm hcc hset hKQ hS hT hTT hkq hdl
      by_cases hTn : T < n
      · have q3 : (T : Int) < (n : Int) := by omega
        obtain ⟨bd, rfl, y1, y2⟩ := smp_at HCR.out T hTn
        have hgd : l.getD T lostS = l.getD T s0 := by
          have := HLL.out
          rw [List.getD_eq_getElem?_getD, List.getD_eq_getElem?_getD, List.getElem?_eq_getElem (by omega)]; rfl
        rw [hgd] at HSU
        obtain ⟨⟨⟨z1, z2⟩, z3⟩, hZ⟩ : ∃ Z, l.getD T s0 = Z := ⟨_, rfl⟩
        rw [hZ] at HSU y1 y2
        simp only at y1 y2
        clear hgd hZ
        go_wp2
        go_quiet (fail)
        go_wp2_with ((with_reducible refine gate_ (.store 43 (.tmp 47) (.tmp 46)) rfl ?_); (have HXD := Aside0.mk (Kd.R_below HX.out (pw_below_drewN (Below.refl _ _) nq))); (have HMD := Aside0.mk (pw_below_drewN HMK.out nq)); refine Kd.R_store KS (w0 := w1) w1.heap.size rfl rfl 43 _ _ rfl 43 (k : Int) 0 _ ((z1, z2), z3) (.agg #[.complex .f64 z1 z2, .bool z3]) [.complex .f64 z1 z2, .bool z3] [.complex .f64 0 0, .bool false] (fun _ => True) (fun _ => False) rfl ?ho rfl rfl ?ht ?h1 HXD.out (by omega) (by omega) rfl HCC.out (by first | decide | exact Nat.le_refl 2) ?hM (fun _ hk => hk.elim) HMD.out ?_; (case ho => rw [Int.toNat_natCast]; rfl); (case ht => rfl); (case h1 => intro q hq; simp only [List.mem_cons, List.not_mem_nil, or_false] at hq; first | (obtain rfl := hq; rfl) | (rcases hq with rfl | rfl <;> rfl)); (case hM => exact ⟨[.complex .f64 z1 z2], [.bool z3], rfl, rfl, rfl⟩); intro w3 hx3 hb3 hg3; clear hg3; (rw [Int.toNat_natCast, HSET.out, ← HSU.out] at hx3); (have HX3 := Aside0.mk hx3); (have HM3 := Aside0.mk hb3); clear hx3 hb3)
        exact ⟨⟨k + 1, hlt, by go_num, HX3, HM3⟩, by show m - ((k : Int) + 1).toNat < m - (k : Int).toNat; omega⟩
      · have q3 : ¬ (T : Int) < (n : Int) := by omega
        have hgd : l.getD T lostS = lostS := by
          have := HLL.out
          rw [List.getD_eq_getElem?_getD, List.getElem?_eq_none (by omega)]; rfl
        rw [hgd] at HSU
        clear hgd
        go_wp2
        go_quiet (fail)
        go_wp2_with ((with_reducible refine gate_ (.store 4 (.tmp 51) (.const (.bool true))) rfl ?_); (have HXD := Aside0.mk (Kd.R_below HX.out (pw_below_drewN (Below.refl _ _) nq))); (have HMD := Aside0.mk (pw_below_drewN HMK.out nq)); refine Kd.R_store KS (w0 := w1) w1.heap.size rfl rfl 4 _ _ rfl 43 (k : Int) 1 _ lostS (.bool true) [.bool true] [.complex .f64 0 0, .bool false] (fun _ => True) (fun _ => False) rfl ?ho rfl rfl ?ht ?h1 HXD.out (by omega) (by omega) rfl HCC.out (by first | decide | exact Nat.le_refl 2) ?hM (fun _ hk => hk.elim) HMD.out ?_; (case ho => rw [Int.toNat_natCast]; rfl); (case ht => rfl); (case h1 => intro q hq; simp only [List.mem_cons, List.not_mem_nil, or_false] at hq; first | (obtain rfl := hq; rfl) | (rcases hq with rfl | rfl <;> rfl)); (case hM => exact ⟨[.complex .f64 0 0], [.bool true], rfl, rfl, rfl⟩); intro w3 hx3 hb3 hg3; clear hg3; (rw [Int.toNat_natCast, HSET.out, ← HSU.out] at hx3); (have HX3 := Aside0.mk hx3); (have HM3 := Aside0.mk hb3); clear hx3 hb3)
        exact ⟨⟨k + 1, hlt, by go_num, HX3, HM3⟩, by show m - ((k : Int) + 1).toNat < m - (k : Int).toNat; omega⟩
    · have q2 : ¬ (k : Int) < (m : Int) := by omega
      have hkm : k = m := by omega
      subst hkm
      have HX1' := Aside0.mk (show Kd.R KS 43 wr w1.heap.size (fun _ => True) (.slice GA k gc) (pickV F Q D l k) by have := HX.out; rwa [Nat.sub_self, List.replicate_zero, List.append_nil] at this)
      clear HX hlt
      go_wp2
      go_ret2
      exact ⟨_, rfl, Kd.R_lower HX1'.out HB1.out.size, below_then HB1.out HB1.out.size HMK.out⟩
end Go.Proofs.Ytjhapibelhakdaa.Pure
