/- Rows of points. -/
import Derived.Test.YtopmlhihfchdhaaFogx0
import Derived.Test.YtopmlhihfchdhaaRefWd
import Derived.Test.YtopmlhihfchdhaaPrg
namespace Go.Proofs.Ytopmlhihfchdhaa.Pure
open Go.RowKit Go.Proofs.Ytopmlhihfchdhaa.Fog Go.Proofs.YtopmlhihfchdhaaW.PrintWords Go.Proofs.YtopmlhihfchdhaaW.PrintLast Go.Proofs.YtopmlhihfchdhaaW.PrintMore Go.Proofs.Ytopmlhihfchdhaa.Kit
set_option linter.unusedVariables false
set_option linter.unusedSimpArgs false
def rowP (n : Nat) (ws : List Int) : List (Nat × Nat) := ws.map fun x => zAt n x.toNat
theorem rowP_length (n : Nat) (ws : List Int) : (rowP n ws).length = ws.length := by unfold rowP; rw [List.length_map]
theorem rowP_succ (n : Nat) (ws : List Int) (k v : Nat) (h : k < ws.length) (hv : ws.getD k 0 = (v : Int)) : rowP n (ws.take (k + 1)) = rowP n (ws.take k) ++ [zAt n v] := by
  unfold rowP
  rw [List.take_succ_eq_append_getElem h, List.map_append]
  have e : ws[k] = (v : Int) := by rw [← hv, List.getD_eq_getElem?_getD, List.getElem?_eq_getElem h]; rfl
  rw [e]; rfl
theorem wordsV_or (l : List Bool) (a : Int) : (wordsV l a).2 = 0 ∨ wordsV l a = ([], 1) := by
  unfold wordsV
  split
  · exact .inl rfl
  · exact .inr rfl
def Small (n : Nat) (ws : List Int) : Prop := ∀ k, k < ws.length → ∃ v : Nat, ws.getD k 0 = (v : Int) ∧ v < n
theorem words_small (n : Nat) (h : isSz n) (l : List Bool) : Small n (wordsV l (szB n)).1 := by
  have hb : (szB n).toNat ≤ 16 ∧ 2 ^ (szB n).toNat = n := by rcases h with rfl | rfl | rfl | rfl | rfl | rfl <;> decide
  unfold Small wordsV
  split
  · intro k hk
    rw [List.length_map, List.length_range] at hk
    obtain ⟨v, hv, hlt⟩ := wordOf_bound (szB n).toNat (l.drop (k * (szB n).toNat))
    refine ⟨v, ?_, by rw [hb.2] at hlt; exact hlt⟩
    rw [List.getD_eq_getElem?_getD, List.getElem?_map, List.getElem?_range hk]
    exact hv
  · intro k hk; exact absurd hk (Nat.not_lt_zero _)
set_option maxHeartbeats 4000000 in
set_option maxRecDepth 100000 in
theorem row_Sq (n : Nat) (b e : Int) (hof : OfSq n b e) (h : isSz n) (A : Option Addr) (c m : Nat) (l : List Bool) (hl : l.length = m) (w : World) (h1 : Kd.C Kd.bool w A m l) (hc : m ≤ c) (ws : List Int) (hws : wordsV l b = (ws, 0)) (hsm : Small n ws) :
    Calls Try.prog 32 #[.slice A m c, .int .i64 (n : Int)] w fun r w' => ∃ v, r = .returned (.tuple #[v, .int .i64 0]) ∧ Kd.R KC 31 w' w.heap.size (fun _ => True) v (rowP n ws) ∧ Below w.heap.size w w' := by
  have HW := Aside0.mk (show ∀ W, Below w.heap.size w W → Calls Try.prog 44 #[.slice A m c, .int .i64 b] W fun e w' => ∃ v0_ : Value, e = .returned (.tuple #[v0_, .int .i64 0]) ∧ Kd.R (Kd.int .i64) 3 w' W.heap.size (fun _ => True) v0_ ws ∧ Below W.heap.size W w' from fun W hb => by
    have h9 := words_n A c m l b W hl (Kd.C_below h1 hb) hc
    rw [hws] at h9
    exact h9)
  have HA := Aside0.mk (fun w => all_any n h w)
  have HSM := Aside0.mk hsm
  have HWL := Aside0.mk (show ws.length ≤ 32768 by have h9 := wordsV_length l b; rw [hws] at h9; exact h9)
  unfold OfSq at hof
  have HO := Aside0.mk hof
  clear hof
  clear hws hl h1 hc h hsm
  go_enter Try.func32, Try.ntmps32
  go_wp2_with (first
    | (go_at_call 41; (with_reducible refine (HO.out _).mono ?_); rintro r1 w1 ⟨bn, bf, rfl, hp, hb⟩; (have HB1 := Aside0.mk (below_step hb ((Below.refl w1.heap.size w1).alloc (Nat.le_refl _) (.cells #[.int .i64 b, .int .i64 e, .func (.func 56) #[] #[.pointer (some ⟨bn, 0, none⟩), .pointer (some ⟨bf, 0, none⟩)]] 57)))); clear hp hb)
    | (go_at_call 44; (with_reducible refine (HW.out _ HB1.out).mono ?_); rintro r2 w2 ⟨v2, rfl, hR, hb⟩; (obtain ⟨A2, c2, rfl⟩ := Kd.R_slice hR); (have HB2 := Aside0.mk (below_step HB1.out hb)); (have HW2 := Aside0.mk (Kd.R_reads' hR).2.2); clear hR hb)
    | (go_at_call 13; (with_reducible refine (HA.out _).mono ?_); rintro r3 w3 ⟨B, d, rfl, hcd, hR, hb⟩; (have HBw3 := Aside0.mk (below_step HB2.out hb)); (have HW3 := Aside0.mk (Kd.C_below HW2.out hb)); (have ha3 := (Kd.R_reads' hR).2.2); (rw [zt_length] at ha3); (have HA3 := Aside0.mk ha3); clear hR hb hcd ha3))
  go_loopw [12, 39] (fun v i wr => ∃ k : Nat, k ≤ ws.length ∧ i = .int .i64 (k : Int) ∧ Aside0 (Kd.R KC 31 wr w3.heap.size (fun _ => True) v (rowP n (ws.take k))) ∧ Aside0 (Below w3.heap.size w3 wr)) (fun _ i _ => ws.length - (intOf i).toNat)
  case atStart => exact ⟨0, Nat.zero_le _, rfl, Aside0.mk (Kd.R_nil _ _ _ _ _), Aside0.mk (Below.refl _ _)⟩
  case round =>
    obtain ⟨k, hk, rfl, HO, HB⟩ := hrel
    by_cases hlt : k < ws.length
    · have q1 : (k : Int) < (ws.length : Int) := by omega
      have q0 : (0 : Int) ≤ (k : Int) := by omega
      have hks : IntKind.i64.wrap ((k : Int) + 1) = (k : Int) + 1 := by rw [IntKind.wrap_i64]; have := HWL.out; omega
      obtain ⟨ad, hA, k1⟩ := int_at (Kd.C_below HW3.out HB.out) k hlt
      subst hA
      obtain ⟨v, hv, hvn⟩ := HSM.out k hlt
      have hsucc := rowP_succ n ws k v hlt hv
      rw [hv] at k1
      obtain ⟨bd, hB, k2⟩ := cx_at (Kd.C_below HA3.out HB.out) v hvn
      subst hB
      rw [zt_getD n n v hvn] at k2
      have q2 : (v : Int) < (n : Int) := by omega
      have q3 : (0 : Int) ≤ (v : Int) := by omega
      have HK := Aside0.mk hlt
      have HSU := Aside0.mk hsucc
      clear hv hvn hsucc
      go_wp2_with ((with_reducible refine gate_builtin (b := .append) (xs := #[.tmp 43, .tmp 48]) rfl ?_); at_builtin; refine Kd.R_append KC (w0 := w3) w3.heap.size rfl (.tmp 43) (.tmp 48) 24 31 (.complex .f64 0 0) 16 rfl Try.underlying24 cxInfo rfl (by decide) (by omega) u12 (rowP n (ws.take k)) (zAt n v) [.complex .f64 (zAt n v).1 (zAt n v).2] (fun _ => True) (fun _ => False) rfl rfl ?aP (fun _ hk => hk.elim) ?aF ?aO ?aB ?aS ?aL ?_; (case aP => exact rfl); (case aB => exact HB.out); (case aF => exact (fun _ _ => trivial)); (case aO => exact HO.out); (case aS => exact HB.out.size); (case aL => rw [rowP_length, List.length_take]; (have := HWL.out); (have := HK.out); omega); intro v3 w4 ho hb_ hg_ hat; clear hg_ hat; (rw [← HSU.out] at ho); (have HO4 := Aside0.mk ho); (have HB4 := Aside0.mk hb_); clear ho hb_)
      exact ⟨⟨k + 1, hlt, by go_num, HO4, HB4⟩, by show ws.length - ((k : Int) + 1).toNat < ws.length - (k : Int).toNat; omega⟩
    · obtain rfl : k = ws.length := by omega
      have HB1' := HBw3.out
      have ho := HO.out
      rw [List.take_length] at ho
      have HO' := Aside0.mk ho
      clear ho
      go_wp2
      go_ret2
      exact ⟨_, rfl, Kd.R_lower HO'.out HB1'.size, below_step HB1' HB.out⟩
set_option maxHeartbeats 4000000 in
set_option maxRecDepth 100000 in
theorem row_Cr (n : Nat) (b e : Int) (hof : OfCr n b e) (h : isSz n) (A : Option Addr) (c m : Nat) (l : List Bool) (hl : l.length = m) (w : World) (h1 : Kd.C Kd.bool w A m l) (hc : m ≤ c) (ws : List Int) (hws : wordsV l b = (ws, 0)) (hsm : Small n ws) :
    Calls Try.prog 32 #[.slice A m c, .int .i64 (n : Int)] w fun r w' => ∃ v, r = .returned (.tuple #[v, .int .i64 0]) ∧ Kd.R KC 31 w' w.heap.size (fun _ => True) v (rowP n ws) ∧ Below w.heap.size w w' := by
  have HW := Aside0.mk (show ∀ W, Below w.heap.size w W → Calls Try.prog 44 #[.slice A m c, .int .i64 b] W fun e w' => ∃ v0_ : Value, e = .returned (.tuple #[v0_, .int .i64 0]) ∧ Kd.R (Kd.int .i64) 3 w' W.heap.size (fun _ => True) v0_ ws ∧ Below W.heap.size W w' from fun W hb => by
    have h9 := words_n A c m l b W hl (Kd.C_below h1 hb) hc
    rw [hws] at h9
    exact h9)
  have HA := Aside0.mk (fun w => all_any n h w)
  have HSM := Aside0.mk hsm
  have HWL := Aside0.mk (show ws.length ≤ 32768 by have h9 := wordsV_length l b; rw [hws] at h9; exact h9)
  unfold OfCr at hof
  have HO := Aside0.mk hof
  clear hof
  clear hws hl h1 hc h hsm
  go_enter Try.func32, Try.ntmps32
  go_wp2_with (first
    | (go_at_call 41; (with_reducible refine (HO.out _).mono ?_); rintro r1 w1 ⟨bn, bf, rfl, hp, hb⟩; (have HB1 := Aside0.mk (below_step hb ((Below.refl w1.heap.size w1).alloc (Nat.le_refl _) (.cells #[.int .i64 b, .int .i64 e, .func (.func 57) #[] #[.pointer (some ⟨bn, 0, none⟩), .pointer (some ⟨bf, 0, none⟩)]] 57)))); clear hp hb)
    | (go_at_call 44; (with_reducible refine (HW.out _ HB1.out).mono ?_); rintro r2 w2 ⟨v2, rfl, hR, hb⟩; (obtain ⟨A2, c2, rfl⟩ := Kd.R_slice hR); (have HB2 := Aside0.mk (below_step HB1.out hb)); (have HW2 := Aside0.mk (Kd.R_reads' hR).2.2); clear hR hb)
    | (go_at_call 13; (with_reducible refine (HA.out _).mono ?_); rintro r3 w3 ⟨B, d, rfl, hcd, hR, hb⟩; (have HBw3 := Aside0.mk (below_step HB2.out hb)); (have HW3 := Aside0.mk (Kd.C_below HW2.out hb)); (have ha3 := (Kd.R_reads' hR).2.2); (rw [zt_length] at ha3); (have HA3 := Aside0.mk ha3); clear hR hb hcd ha3))
  go_loopw [12, 39] (fun v i wr => ∃ k : Nat, k ≤ ws.length ∧ i = .int .i64 (k : Int) ∧ Aside0 (Kd.R KC 31 wr w3.heap.size (fun _ => True) v (rowP n (ws.take k))) ∧ Aside0 (Below w3.heap.size w3 wr)) (fun _ i _ => ws.length - (intOf i).toNat)
  case atStart => exact ⟨0, Nat.zero_le _, rfl, Aside0.mk (Kd.R_nil _ _ _ _ _), Aside0.mk (Below.refl _ _)⟩
  case round =>
    obtain ⟨k, hk, rfl, HO, HB⟩ := hrel
    by_cases hlt : k < ws.length
    · have q1 : (k : Int) < (ws.length : Int) := by omega
      have q0 : (0 : Int) ≤ (k : Int) := by omega
      have hks : IntKind.i64.wrap ((k : Int) + 1) = (k : Int) + 1 := by rw [IntKind.wrap_i64]; have := HWL.out; omega
      obtain ⟨ad, hA, k1⟩ := int_at (Kd.C_below HW3.out HB.out) k hlt
      subst hA
      obtain ⟨v, hv, hvn⟩ := HSM.out k hlt
      have hsucc := rowP_succ n ws k v hlt hv
      rw [hv] at k1
      obtain ⟨bd, hB, k2⟩ := cx_at (Kd.C_below HA3.out HB.out) v hvn
      subst hB
      rw [zt_getD n n v hvn] at k2
      have q2 : (v : Int) < (n : Int) := by omega
      have q3 : (0 : Int) ≤ (v : Int) := by omega
      have HK := Aside0.mk hlt
      have HSU := Aside0.mk hsucc
      clear hv hvn hsucc
      go_wp2_with ((with_reducible refine gate_builtin (b := .append) (xs := #[.tmp 43, .tmp 48]) rfl ?_); at_builtin; refine Kd.R_append KC (w0 := w3) w3.heap.size rfl (.tmp 43) (.tmp 48) 24 31 (.complex .f64 0 0) 16 rfl Try.underlying24 cxInfo rfl (by decide) (by omega) u12 (rowP n (ws.take k)) (zAt n v) [.complex .f64 (zAt n v).1 (zAt n v).2] (fun _ => True) (fun _ => False) rfl rfl ?aP (fun _ hk => hk.elim) ?aF ?aO ?aB ?aS ?aL ?_; (case aP => exact rfl); (case aB => exact HB.out); (case aF => exact (fun _ _ => trivial)); (case aO => exact HO.out); (case aS => exact HB.out.size); (case aL => rw [rowP_length, List.length_take]; (have := HWL.out); (have := HK.out); omega); intro v3 w4 ho hb_ hg_ hat; clear hg_ hat; (rw [← HSU.out] at ho); (have HO4 := Aside0.mk ho); (have HB4 := Aside0.mk hb_); clear ho hb_)
      exact ⟨⟨k + 1, hlt, by go_num, HO4, HB4⟩, by show ws.length - ((k : Int) + 1).toNat < ws.length - (k : Int).toNat; omega⟩
    · obtain rfl : k = ws.length := by omega
      have HB1' := HBw3.out
      have ho := HO.out
      rw [List.take_length] at ho
      have HO' := Aside0.mk ho
      clear ho
      go_wp2
      go_ret2
      exact ⟨_, rfl, Kd.R_lower HO'.out HB1'.size, below_step HB1' HB.out⟩
set_option maxHeartbeats 4000000 in
set_option maxRecDepth 100000 in
theorem rowbad_Sq (n : Nat) (b e : Int) (hof : OfSq n b e) (h : isSz n) (A : Option Addr) (c m : Nat) (l : List Bool) (hl : l.length = m) (w : World) (h1 : Kd.C Kd.bool w A m l) (hc : m ≤ c) (ws : List Int) (hws : wordsV l b = (ws, 1)) (hsm : Small n ws) :
    Calls Try.prog 32 #[.slice A m c, .int .i64 (n : Int)] w fun r w' => ∃ v, r = .returned (.tuple #[v, .int .i64 1]) ∧ Kd.R KC 31 w' w.heap.size (fun _ => True) v ([]) ∧ Below w.heap.size w w' := by
  have HW := Aside0.mk (show ∀ W, Below w.heap.size w W → Calls Try.prog 44 #[.slice A m c, .int .i64 b] W fun e w' => ∃ v0_ : Value, e = .returned (.tuple #[v0_, .int .i64 1]) ∧ Kd.R (Kd.int .i64) 3 w' W.heap.size (fun _ => True) v0_ ws ∧ Below W.heap.size W w' from fun W hb => by
    have h9 := words_n A c m l b W hl (Kd.C_below h1 hb) hc
    rw [hws] at h9
    exact h9)
  have HA := Aside0.mk (fun w => all_any n h w)
  have HSM := Aside0.mk hsm
  have HWL := Aside0.mk (show ws.length ≤ 32768 by have h9 := wordsV_length l b; rw [hws] at h9; exact h9)
  unfold OfSq at hof
  have HO := Aside0.mk hof
  clear hof
  clear hws hl h1 hc h hsm
  go_enter Try.func32, Try.ntmps32
  go_wp2_with (first
    | (go_at_call 41; (with_reducible refine (HO.out _).mono ?_); rintro r1 w1 ⟨bn, bf, rfl, hp, hb⟩; (have HB1 := Aside0.mk (below_step hb ((Below.refl w1.heap.size w1).alloc (Nat.le_refl _) (.cells #[.int .i64 b, .int .i64 e, .func (.func 56) #[] #[.pointer (some ⟨bn, 0, none⟩), .pointer (some ⟨bf, 0, none⟩)]] 57)))); clear hp hb)
    | (go_at_call 44; (with_reducible refine (HW.out _ HB1.out).mono ?_); rintro r2 w2 ⟨v2, rfl, hR, hb⟩; (obtain ⟨A2, c2, rfl⟩ := Kd.R_slice hR); (have HB2 := Aside0.mk (below_step HB1.out hb)); (have HW2 := Aside0.mk (Kd.R_reads' hR).2.2); clear hR hb))
  go_ret2
  exact ⟨_, rfl, Kd.R_nil _ _ _ _ _, HB2.out⟩
set_option maxHeartbeats 4000000 in
set_option maxRecDepth 100000 in
theorem rowbad_Cr (n : Nat) (b e : Int) (hof : OfCr n b e) (h : isSz n) (A : Option Addr) (c m : Nat) (l : List Bool) (hl : l.length = m) (w : World) (h1 : Kd.C Kd.bool w A m l) (hc : m ≤ c) (ws : List Int) (hws : wordsV l b = (ws, 1)) (hsm : Small n ws) :
    Calls Try.prog 32 #[.slice A m c, .int .i64 (n : Int)] w fun r w' => ∃ v, r = .returned (.tuple #[v, .int .i64 1]) ∧ Kd.R KC 31 w' w.heap.size (fun _ => True) v ([]) ∧ Below w.heap.size w w' := by
  have HW := Aside0.mk (show ∀ W, Below w.heap.size w W → Calls Try.prog 44 #[.slice A m c, .int .i64 b] W fun e w' => ∃ v0_ : Value, e = .returned (.tuple #[v0_, .int .i64 1]) ∧ Kd.R (Kd.int .i64) 3 w' W.heap.size (fun _ => True) v0_ ws ∧ Below W.heap.size W w' from fun W hb => by
    have h9 := words_n A c m l b W hl (Kd.C_below h1 hb) hc
    rw [hws] at h9
    exact h9)
  have HA := Aside0.mk (fun w => all_any n h w)
  have HSM := Aside0.mk hsm
  have HWL := Aside0.mk (show ws.length ≤ 32768 by have h9 := wordsV_length l b; rw [hws] at h9; exact h9)
  unfold OfCr at hof
  have HO := Aside0.mk hof
  clear hof
  clear hws hl h1 hc h hsm
  go_enter Try.func32, Try.ntmps32
  go_wp2_with (first
    | (go_at_call 41; (with_reducible refine (HO.out _).mono ?_); rintro r1 w1 ⟨bn, bf, rfl, hp, hb⟩; (have HB1 := Aside0.mk (below_step hb ((Below.refl w1.heap.size w1).alloc (Nat.le_refl _) (.cells #[.int .i64 b, .int .i64 e, .func (.func 57) #[] #[.pointer (some ⟨bn, 0, none⟩), .pointer (some ⟨bf, 0, none⟩)]] 57)))); clear hp hb)
    | (go_at_call 44; (with_reducible refine (HW.out _ HB1.out).mono ?_); rintro r2 w2 ⟨v2, rfl, hR, hb⟩; (obtain ⟨A2, c2, rfl⟩ := Kd.R_slice hR); (have HB2 := Aside0.mk (below_step HB1.out hb)); (have HW2 := Aside0.mk (Kd.R_reads' hR).2.2); clear hR hb))
  go_ret2
  exact ⟨_, rfl, Kd.R_nil _ _ _ _ _, HB2.out⟩
theorem row_any (n : Nat) (h : isSz n) (A : Option Addr) (c m : Nat) (l : List Bool) (hl : l.length = m) (w : World) (h1 : Kd.C Kd.bool w A m l) (hc : m ≤ c) :
    Calls Try.prog 32 #[.slice A m c, .int .i64 (n : Int)] w fun r w' => ∃ v, r = .returned (.tuple #[v, .int .i64 (wordsV l (szB n)).2]) ∧ Kd.R KC 31 w' w.heap.size (fun _ => True) v (rowP n (wordsV l (szB n)).1) ∧ Below w.heap.size w w' := by
  have hs := words_small n h l
  obtain ⟨⟨ws, er⟩, hw⟩ : ∃ x, wordsV l (szB n) = x := ⟨_, rfl⟩
  have ho := wordsV_or l (szB n)
  rw [hw] at hs ho ⊢
  simp only at hs ho ⊢
  rcases ho with rfl | he
  · rcases of_any n h with ho | ho
    · exact row_Sq n _ _ ho h A c m l hl w h1 hc ws hw hs
    · exact row_Cr n _ _ ho h A c m l hl w h1 hc ws hw hs
  · rw [Prod.mk.injEq] at he
    obtain ⟨rfl, rfl⟩ := he
    rcases of_any n h with ho | ho
    · exact rowbad_Sq n _ _ ho h A c m l hl w h1 hc [] hw hs
    · exact rowbad_Cr n _ _ ho h A c m l hl w h1 hc [] hw hs
set_option maxHeartbeats 1000000 in
set_option maxRecDepth 100000 in
theorem row_no (n : Int) (h : noSz n) (A : Option Addr) (c m : Nat) (w : World) : Calls Try.prog 32 #[.slice A m c, .int .i64 n] w fun r w' => r = .returned (.tuple #[.slice none 0 0, .int .i64 1]) ∧ Below w.heap.size w w' := by
  have HO := Aside0.mk (fun w => of_no n w h)
  go_enter Try.func32, Try.ntmps32
  go_wp2_with (go_at_call 41; (with_reducible refine (HO.out _).mono ?_); rintro r1 w1 ⟨rfl, hb⟩; (have HB1 := Aside0.mk hb); clear hb)
  go_ret2
  exact ⟨rfl, (HB1.out).alloc HB1.out.size _⟩
end Go.Proofs.Ytopmlhihfchdhaa.Pure
