/- SumsBits: any bits, by long division. No condition. -/
import Derived.Test.YtjnedgkpakoceaaFogx0
import Derived.Test.YtjnedgkpakoceaaFogx12
import Derived.Test.YtjnedgkpakoceaaFogx3
import Derived.Test.YtjnedgkpakoceaaRefToldP
import Derived.Test.YtjnedgkpakoceaaHandLent24
import Derived.Test.YtjnedgkpakoceaaCrcAwake
namespace Go.Proofs.Ytjnedgkpakoceaa.Pure
open Go.RowKit Go.Proofs.Ytjnedgkpakoceaa.Fog Go.Proofs.YtjnedgkpakoceaaW.PrintWords Go.Proofs.YtjnedgkpakoceaaW.PrintLast Go.Proofs.YtjnedgkpakoceaaW.PrintMore Go.Proofs.Ytjnedgkpakoceaa.Kit Go.Proofs.Ytjnedgkpakoceaa.Crc
set_option linter.unusedSimpArgs false
set_option linter.unusedVariables false
theorem take_set_snoc {a b : List Bool} {k : Nat} (h : a.take k = b.take k) (ha : k < a.length) (hb : k < b.length) (x : Bool) : (a.set k x).take (k + 1) = (b.set k x).take (k + 1) := by
  rw [List.take_succ_eq_append_getElem (by simpa using ha), List.take_succ_eq_append_getElem (by simpa using hb)]
  simp [List.take_set_of_le, h]
theorem set_left (b : List Bool) (k : Nat) (x : Bool) (hb : k < b.length) : (b ++ [true]).set k x = b.set k x ++ [true] := by
  rw [List.set_append_left _ _ hb]
theorem told_n (k : Nat) (A0 : Option Addr) (c0 : Nat) (xs : List Bool) (A1 : Option Addr) (c1 : Nat) (sum : BitVec 32) (w : World) (n : Nat) (hn : xs.length = n) (hr0 : Kd.C Kd.bool w A0 xs.length xs) (hc0 : xs.length ≤ c0) (hr1 : Kd.C Kd.bool w A1 xs.length xs) (hc1 : xs.length ≤ c1) (h : foghornlaw24_told.f k xs xs (sum.toNat : Int) = some true) :
    Calls Try.prog 28 #[.slice A0 n c0, .slice A1 xs.length c1, .int .u32 (sum.toNat : Int)] w fun e w' => e = .returned (.bool true) ∧ Below w.heap.size w w' := by
  subst hn
  exact foghornlaw24_told.calls k A0 c0 xs A1 c1 xs _ true w hr0 hc0 hr1 hc1 h
theorem kept_n (g c1 : Nat) (A0 : Option Addr) (c0 : Nat) (xs : List Bool) (w : World) (n : Nat) (hn : xs.length = n) (hr1 : Kd.C Kd.bool w (some ⟨g, 0, none⟩) (xs ++ [true]).length (xs ++ [true])) (hc1 : xs.length + 1 ≤ c1) (hr0 : Kd.C Kd.bool w A0 xs.length xs) (hc0 : xs.length ≤ c0) (hl : xs.length ≤ 140737488351232) :
    Calls Try.prog 27 #[.slice (some ⟨g, 0, none⟩) n c1, .slice A0 xs.length c0] w fun e w' => e = .returned (.bool true) ∧ Below w.heap.size w w' := by
  subst hn
  exact kept24_calls g c1 A0 c0 xs w hr1 hc1 hr0 hc0 hl
set_option maxHeartbeats 4000000 in
set_option maxRecDepth 100000 in
theorem SumsBits_walk (A0 : Option Addr) (c0 : Nat) (l0 : List Bool) (a1 : Int) (w : World) (hr0 : Kd.C Kd.bool w A0 l0.length l0) (hc0 : l0.length ≤ c0) (hy0 : l0.length * 1 ≤ 140737488351232) (hg0 : ∀ y ∈ l0, True) (w1 : (Lit.int .u32 a1).wf = true) :
    Calls Try.prog 5 #[.slice A0 l0.length c0, .int .u32 a1] w fun e w' => e = .returned (.bool true) ∧ Below w.heap.size w w' := by
  obtain ⟨sum, rfl⟩ : ∃ s : BitVec 32, a1 = (s.toNat : Int) := by
    simp [Lit.wf, IntKind.min, IntKind.max, IntKind.signed, IntKind.bits] at w1
    exact ⟨BitVec.ofNat 32 a1.toNat, by rw [BitVec.toNat_ofNat]; omega⟩
  have hl : l0.length ≤ 140737488351232 := by omega
  obtain ⟨k1, h1⟩ := (told_ev l0 hl sum).rounds
  obtain ⟨k3, h3⟩ := awake_ev.rounds
  have HR0 := Aside0.mk hr0
  have H1 := Aside0.mk h1
  have H3 := Aside0.mk h3
  clear hr0 h1 h3 w1 hy0 hg0
  go_enter Try.func5, Try.ntmps5
  go_wp2_with (first
    | (go_at_call 23; (with_reducible refine (lent24_calls _ _ _ _ HR0.out hc0 hl).mono ?_); rintro e w1 ⟨g, c, rfl, hroom, hg, hgl, hR, hb⟩; have HM1 := Aside0.mk (Kd.R_tight rfl hR); have HC1 := Aside0.mk (Kd.R_reads' hR).2.2; have HROOM := Aside0.mk hroom; have HG := Aside0.mk hg; have HGL1 := Aside0.mk hgl; have HB1 := Aside0.mk hb; have HT1 := Aside0.mk (show Kd.C Kd.bool w1 (some ⟨g, 0, none⟩) l0.length l0 by have h := Kd.C_take (m := l0.length) HC1.out (by simp); simpa using h); have hcr : l0.length ≤ c := (by omega); clear hroom hg hgl hR hb)
    | (go_at_call 28; (with_reducible refine (foghornlaw24_told.calls k1 _ _ _ _ _ _ _ _ _ HT1.out hcr (Kd.C_below HR0.out HB1.out) hc0 H1.out).mono ?_); rintro e w2 ⟨rfl, hb⟩; have HB2 := Aside0.mk (below_step HB1.out hb); have HM2 := Aside0.mk (Kd.R_below HM1.out hb); have HC2 := Aside0.mk (Kd.C_below HC1.out hb); have HGL2 := Aside0.mk (Nat.lt_of_lt_of_le HGL1.out hb.size); clear hb)
    | (go_at_call 27; (with_reducible refine (kept24_calls _ _ _ _ _ _ HC2.out HROOM.out (Kd.C_below HR0.out HB2.out) hc0 hl).mono ?_); rintro e w3 ⟨rfl, hb⟩; have HB3 := Aside0.mk (below_step HB2.out hb); have HM3 := Aside0.mk (Kd.R_below HM2.out hb); have HGL3 := Aside0.mk (Nat.lt_of_lt_of_le HGL2.out hb.size); clear hb)
    | ((with_reducible refine gate_dst (N := 23) rfl ?_); refine Kd.R_make Kd.bool _ 4 rfl (N := 23) rfl 22 _ _ rfl (l0.length : Int) rfl rfl Try.underlying22 (.bool false) 1 info4 rfl (by decide) (by omega) false (ok := fun _ => True) (okp := fun _ => True) rfl (fun _ hk => hk) trivial (by omega) (by omega) (Below.refl _ _) (Nat.le_refl _) ?_; intro v4 w4 ho hb hg_ hnew_; clear hg_ hnew_; have HV4 := Aside0.mk (Kd.R_tight rfl ho); have HB4 := Aside0.mk (below_step HB3.out hb); have HM4 := Aside0.mk (Kd.R_below HM3.out hb); clear ho hb))
  go_loopw [7] (fun i wr => ∃ (k : Nat) (xs ys : List Bool), k ≤ l0.length ∧ i = .int .i64 (k : Int) ∧ Aside0 (xs.length = l0.length ∧ ys.length = l0.length ∧ xs.take k = ys.take k) ∧ Aside0 (Kd.R Kd.bool 4 wr w3.heap.size (fun j => some j = v4.ownBlock) v4 xs) ∧ Aside0 (Kd.R Kd.bool 4 wr w.heap.size (fun j => some j = (Value.slice (some ⟨g, 0, none⟩) (l0 ++ [true]).length c).ownBlock) (.slice (some ⟨g, 0, none⟩) (l0 ++ [true]).length c) (ys ++ [true])) ∧ Aside0 (Below w.heap.size w wr)) (fun i _ => l0.length - (intOf i).toNat)
  case atStart => exact ⟨0, _, l0, Nat.zero_le _, rfl, ⟨by simp, rfl, by simp⟩, HV4, HM4, HB4⟩
  case round =>
    obtain ⟨k, xs, ys, hk, rfl, HL, HV, HM, HB⟩ := hrel
    by_cases hlt : k < l0.length
    · obtain ⟨ad, rfl, hc⟩ := Kd.at_bool (Kd.C_below HR0.out HB.out) (k : Int) (by omega) (by omega)
      obtain ⟨g4, c4, rfl, hb4, hg4, _⟩ := Kd.R_form HV.out (by have := HL.out.1; omega)
      have hxl := HL.out.1
      have hyl := HL.out.2.1
      have q0 : (k : Int) < (l0.length : Int) := by omega
      have q1 : (k : Int) < (xs.length : Int) := by omega
      have q2 : (k : Int) < ((l0 ++ [true]).length : Int) := by simp; omega
      obtain ⟨hx0, hf0⟩ := Kd.R_celln false HV.out (k : Int) (by omega) q1
      obtain ⟨hx1, hf1⟩ := Kd.R_celln false HM.out (k : Int) (by omega) q2
      simp only [Int.toNat_natCast] at hx0 hf0 hx1 hf1 hc
      have hne : g ≠ g4 := by have := HGL3.out; omega
      have hne2 : g4 ≠ g := fun e => hne e.symm
      have HXL := Aside0.mk hxl
      have HYL := Aside0.mk hyl
      clear hxl hyl q2
      go_wp2
      go_roundw
      case rel =>
        generalize (!rdOf false l0 (k : Int) == ((k : Int) % 3 == 0)) = V
        have h4 : Kd.R Kd.bool 4 (wr.setCell ⟨g4, k, none⟩ (.bool V)) w3.heap.size (fun j => some j = (Value.slice (some ⟨g4, 0, none⟩) xs.length c4).ownBlock) (.slice (some ⟨g4, 0, none⟩) xs.length c4) (xs.set k V) := Kd.R_putn HV.out (k : Int) V
        have h4b := Kd.R_far (p := ⟨g, k, none⟩) h4 (fun j hj e => by simp [Value.ownBlock] at hj; exact hne (by rw [← hj, e])) (.bool V)
        have h5 := Kd.R_far (p := ⟨g4, k, none⟩) HM.out (fun j hj e => by simp [Value.ownBlock] at hj; exact hne2 (by rw [← hj, e])) (.bool V)
        have h5b : Kd.R Kd.bool 4 ((wr.setCell ⟨g4, k, none⟩ (.bool V)).setCell ⟨g, k, none⟩ (.bool V)) w.heap.size _ (.slice (some ⟨g, 0, none⟩) (l0 ++ [true]).length c) ((ys ++ [true]).set k V) := Kd.R_putn h5 (k : Int) V
        rw [set_left ys k V (by rw [HYL.out]; exact hlt)] at h5b
        exact ⟨k + 1, xs.set k V, ys.set k V, by omega, by go_num, ⟨by rw [List.length_set]; exact HXL.out, by rw [List.length_set]; exact HYL.out, take_set_snoc HL.out.2.2 (by rw [HXL.out]; exact hlt) (by rw [HYL.out]; exact hlt) V⟩, ⟨h4b⟩, ⟨h5b⟩, ⟨below_set (below_set HB.out (Nat.le_trans HB3.out.size hb4)) HG.out⟩⟩
      case measure => simp [intOf]; omega
    · obtain rfl : k = l0.length := by omega
      have hxy : xs = ys := by
        have h := HL.out.2.2
        rwa [List.take_of_length_le (by rw [HL.out.1]; exact Nat.le_refl _), List.take_of_length_le (by rw [HL.out.2.1]; exact Nat.le_refl _)] at h
      subst hxy
      obtain ⟨A4, c4, rfl⟩ := Kd.R_slice HV.out
      have HXL := Aside0.mk HL.out.1
      have hlx : xs.length ≤ 140737488351232 := by rw [HXL.out]; exact hl
      obtain ⟨k2, h2⟩ := (told_ev xs hlx sum).rounds
      have H2 := Aside0.mk h2
      have HV5 := Aside0.mk (Kd.R_reads' HV.out).2.2
      have hc4 := (Kd.R_reads' HV.out).2.1
      have HC5 := Aside0.mk (Kd.R_reads' (n := (xs ++ [true]).length) (c := c) (show Kd.R Kd.bool 4 wr w.heap.size _ (.slice (some ⟨g, 0, none⟩) (xs ++ [true]).length c) (xs ++ [true]) by have h := HM.out; rw [show (l0 ++ [true]).length = (xs ++ [true]).length by simp [HXL.out]] at h; exact h)).2.2
      have HT5 := Aside0.mk (show Kd.C Kd.bool wr (some ⟨g, 0, none⟩) xs.length xs by have h := Kd.C_take (m := xs.length) HC5.out (by simp); simpa using h)
      have hlt5 : ¬ (l0.length : Int) < (l0.length : Int) := by omega
      have hcx : xs.length ≤ c := by rw [HXL.out]; exact hcr
      have HROOM5 := Aside0.mk (show xs.length + 1 ≤ c by rw [HXL.out]; exact HROOM.out)
      clear h2 HV HM hk HC1 HT1 HC2 HM1 HM2 HM3 HM4 HB1 HB2 HB4 HGL1 HGL2 HGL3 H1 HL
      go_wp2_with (first
        | (go_at_call 28; (with_reducible refine (told_n k2 _ _ xs _ _ sum _ l0.length HXL.out HT5.out hcx HV5.out hc4 H2.out).mono ?_); rintro e w6 ⟨rfl, hb⟩; have HB6 := Aside0.mk (below_step HB.out hb); have HC6 := Aside0.mk (Kd.C_below HC5.out hb); have HV6 := Aside0.mk (Kd.C_below HV5.out hb); clear hb)
        | (go_at_call 27; (with_reducible refine (kept_n _ _ _ _ xs _ l0.length HXL.out HC6.out HROOM5.out HV6.out hc4 hlx).mono ?_); rintro e w7 ⟨rfl, hb⟩; have HB7 := Aside0.mk (below_step HB6.out hb); clear hb)
        | (go_at_call 13; (with_reducible refine (foghornlaw24_awake.calls k3 _ _ H3.out).mono ?_); rintro e w8 ⟨rfl, hb⟩; have HB8 := Aside0.mk (below_step HB7.out hb); clear hb))
      go_ret
      exact ⟨rfl, HB8.out⟩
end Go.Proofs.Ytjnedgkpakoceaa.Pure
