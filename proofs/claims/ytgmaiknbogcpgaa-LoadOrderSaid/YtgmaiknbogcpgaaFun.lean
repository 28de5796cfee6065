/- What the law's own helpers answer. -/
import Derived.Test.YtgmaiknbogcpgaaFogx0
import Derived.Test.YtgmaiknbogcpgaaFogx1
import Derived.Test.YtgmaiknbogcpgaaAt
namespace Go.Proofs.Ytgmaiknbogcpgaa.Pure
open Go.RowKit Go.Proofs.Ytgmaiknbogcpgaa.Fog Go.Proofs.YtgmaiknbogcpgaaW.PrintWords Go.Proofs.YtgmaiknbogcpgaaW.PrintLast Go.Proofs.YtgmaiknbogcpgaaW.PrintMore Go.Proofs.Ytgmaiknbogcpgaa.Kit
set_option linter.unusedVariables false
set_option linter.unusedSimpArgs false
theorem wf_u32 {x : Int} (h : (Lit.int .u32 x).wf = true) : 0 ≤ x ∧ x < 4294967296 := by
  simp [Lit.wf, IntKind.min, IntKind.max, IntKind.signed, IntKind.bits] at h
  omega
theorem wf_u8 {x : Int} (h : (Lit.int .u8 x).wf = true) : 0 ≤ x ∧ x < 256 := by
  simp [Lit.wf, IntKind.min, IntKind.max, IntKind.signed, IntKind.bits] at h
  omega
theorem rd_nonneg {l : List Int} (hl : ∀ x ∈ l, 0 ≤ x) (i : Int) : 0 ≤ rd l i := by
  unfold rd
  rw [List.getD_eq_getElem?_getD]
  by_cases h : i.toNat < l.length
  · rw [List.getElem?_eq_getElem h]; exact hl _ (List.getElem_mem h)
  · rw [List.getElem?_eq_none (by omega)]; exact Int.le_refl _
def okAll (l : List Int) : Prop := ∀ x ∈ l, 1 ≤ x ∧ x ≤ 1048576
theorem wts_l0 (l : List Int) (hl : ∀ x ∈ l, 0 ≤ x) : ∀ (m : Nat) (acc : List Int), acc.length ≤ 30 → 30 - acc.length ≤ m → okAll acc → ∃ r, foghornlaw27_weights.l0 (m + 1) l acc (acc.length : Int) = some r ∧ okAll r ∧ 1 ≤ r.length ∧ r.length ≤ 30 := by
  intro m
  induction m with
  | zero =>
    intro acc h1 h2 h3
    unfold foghornlaw27_weights.l0
    have e : acc.length = 30 := by omega
    have fin : (if (acc.length : Int) = 0 then (if acc.length < 17592186044416 then some (acc ++ [1]) else none) else some acc) = some acc := by rw [if_neg (by omega)]
    by_cases hlt : (acc.length : Int) < (l.length : Int)
    · rw [if_pos hlt, if_neg (by omega), fin]; exact ⟨_, rfl, h3, by omega, h1⟩
    · rw [if_neg hlt, fin]; exact ⟨_, rfl, h3, by omega, h1⟩
  | succ m ih =>
    intro acc h1 h2 h3
    unfold foghornlaw27_weights.l0
    have fin : ∃ r, (if (acc.length : Int) = 0 then (if acc.length < 17592186044416 then some (acc ++ [1]) else none) else some acc) = some r ∧ okAll r ∧ 1 ≤ r.length ∧ r.length ≤ 30 := by
      by_cases h0 : (acc.length : Int) = 0
      · rw [if_pos h0, if_pos (by omega)]
        refine ⟨_, rfl, fun x hx => ?_, by simp, by rw [List.length_append]; simp; omega⟩
        rcases List.mem_append.mp hx with hx | hx
        · exact h3 x hx
        · rw [List.mem_singleton.mp hx]; exact ⟨by decide, by decide⟩
      · rw [if_neg h0]; exact ⟨_, rfl, h3, by omega, h1⟩
    by_cases hlt : (acc.length : Int) < (l.length : Int)
    · rw [if_pos hlt]
      by_cases h30 : (acc.length : Int) < 30
      · rw [if_pos h30, if_pos (by omega), if_pos (by omega)]
        have hr := rd_nonneg hl (acc.length : Int)
        obtain ⟨x, hx⟩ : ∃ x, rd l (acc.length : Int) = x := ⟨_, rfl⟩
        rw [hx] at hr ⊢
        have ht : Int.tmod x 1048576 = x % 1048576 := Int.tmod_eq_emod_of_nonneg hr
        have hv : 1 ≤ wrap64 (wrap64 (Int.tmod x 1048576) + 1) ∧ wrap64 (wrap64 (Int.tmod x 1048576) + 1) ≤ 1048576 := by
          rw [ht]; unfold wrap64; omega
        have h := ih (acc ++ [wrap64 (wrap64 (Int.tmod x 1048576) + 1)]) (by rw [List.length_append]; simp; omega) (by rw [List.length_append]; simp; omega) (fun y hy => by
          rcases List.mem_append.mp hy with hy | hy
          · exact h3 y hy
          · rw [List.mem_singleton.mp hy]; exact hv)
        have e : wrap64 ((acc.length : Int) + 1) = ((acc ++ [wrap64 (wrap64 (Int.tmod x 1048576) + 1)]).length : Int) := by
          rw [List.length_append]; unfold wrap64; simp; omega
        rw [e]
        exact h
      · rw [if_neg h30]; exact fin
    · rw [if_neg hlt]; exact fin
theorem wts_calls (A0 : Option Addr) (c0 : Nat) (l0 : List Int) (w : World) (hr0 : Kd.C (Kd.int .u32) w A0 l0.length l0) (hc0 : l0.length ≤ c0) (hg : ∀ x ∈ l0, (Lit.int .u32 x).wf = true) : ∃ r, Ld.ok r ∧ 1 ≤ r.length ∧ r.length ≤ 30 ∧
    ∀ w' : World, Kd.C (Kd.int .u32) w' A0 l0.length l0 → Calls Try.prog 9 #[.slice A0 l0.length c0] w' fun e w'' => ∃ A c, e = .returned (.slice A r.length c) ∧ Kd.R (Kd.int .i64) 3 w'' w'.heap.size (fun _ => True) (.slice A r.length c) r ∧ Below w'.heap.size w' w'' := by
  obtain ⟨r, h1, h2, h3, h4⟩ := wts_l0 l0 (fun x hx => (wf_u32 (hg x hx)).1) 30 [] (by simp) (by simp) (fun x hx => by simp at hx)
  refine ⟨r, ⟨by omega, h2⟩, h3, h4, fun w' hr => ?_⟩
  refine (foghornlaw27_weights.calls 31 A0 c0 l0 r w' hr hc0 h1).mono ?_
  rintro e w'' ⟨v, rfl, hR, hb⟩
  obtain ⟨A, c, rfl⟩ := Kd.R_slice hR
  exact ⟨A, c, rfl, hR, hb⟩
/-- Bits that a carrier may have. -/
def haveAll (l : List Int) : Prop := ∀ x ∈ l, hasB x = true
theorem have_at (x : Int) (h : 0 ≤ x) : 0 ≤ Int.tmod x 7 ∧ Int.tmod x 7 < 7 ∧ hasB (rd [0, 2, 4, 5, 6, 7, 8] (Int.tmod x 7)) = true := by
  have e : Int.tmod x 7 = x % 7 := Int.tmod_eq_emod_of_nonneg h
  rw [e]
  obtain ⟨y, hy⟩ : ∃ y, x % 7 = y := ⟨_, rfl⟩
  have hr : 0 ≤ y ∧ y < 7 := by omega
  rw [hy]
  refine ⟨hr.1, hr.2, ?_⟩
  have : y = 0 ∨ y = 1 ∨ y = 2 ∨ y = 3 ∨ y = 4 ∨ y = 5 ∨ y = 6 := by omega
  rcases this with rfl | rfl | rfl | rfl | rfl | rfl | rfl <;> decide
theorem some_l0 (l : List Int) (hl : ∀ x ∈ l, 0 ≤ x) (n : Nat) (hn : n ≤ 1000000) : ∀ (m j : Nat) (acc : List Int), acc.length = n → j ≤ n → n - j ≤ m → haveAll acc → ∃ r, foghornlaw27_some.l0 (m + 1) l (n : Int) [0, 2, 4, 5, 6, 7, 8] acc (j : Int) = some r ∧ haveAll r ∧ r.length = n := by
  intro m
  induction m with
  | zero =>
    intro j acc h1 h2 h3 h4
    unfold foghornlaw27_some.l0
    rw [if_neg (by omega)]
    exact ⟨_, rfl, h4, h1⟩
  | succ m ih =>
    intro j acc h1 h2 h3 h4
    unfold foghornlaw27_some.l0
    by_cases hj : (j : Int) < (n : Int)
    · rw [if_pos hj]
      by_cases hl2 : (j : Int) < (l.length : Int)
      · rw [if_pos hl2, if_pos (by omega)]
        obtain ⟨a1, a2, a3⟩ := have_at (rd l (j : Int)) (rd_nonneg hl _)
        rw [if_pos a1, if_pos (by exact a2), if_pos (by omega)]
        have e : wrap64 ((j : Int) + 1) = ((j + 1 : Nat) : Int) := by unfold wrap64; omega
        rw [e, Int.toNat_natCast]
        exact ih (j + 1) _ (by rw [List.length_set]; exact h1) (by omega) (by omega) (fun x hx => by
          rcases List.mem_or_eq_of_mem_set hx with hx | hx
          · exact h4 x hx
          · rw [hx]; exact a3)
      · rw [if_neg hl2]; exact ⟨_, rfl, h4, h1⟩
    · rw [if_neg hj]; exact ⟨_, rfl, h4, h1⟩
theorem some_calls (A0 : Option Addr) (c0 : Nat) (l0 : List Int) (n : Nat) (hn : n ≤ 1000000) (hc0 : l0.length ≤ c0) (hg : ∀ x ∈ l0, (Lit.int .u8 x).wf = true) : ∃ r, haveAll r ∧ r.length = n ∧
    ∀ w' : World, Kd.C (Kd.int .u8) w' A0 l0.length l0 → Calls Try.prog 15 #[.slice A0 l0.length c0, .int .i64 (n : Int)] w' fun e w'' => ∃ A c, e = .returned (.slice A n c) ∧ n ≤ c ∧ Kd.R (Kd.int .i64) 3 w'' w'.heap.size (fun _ => True) (.slice A n c) r ∧ Below w'.heap.size w' w'' := by
  obtain ⟨r, h1, h2, h3⟩ := some_l0 l0 (fun x hx => (wf_u8 (hg x hx)).1) n hn n 0 (List.replicate n 0) (by simp) (by omega) (by omega) (fun x hx => by rw [List.eq_of_mem_replicate hx]; decide)
  refine ⟨r, h2, h3, fun w' hr => ?_⟩
  have hf : foghornlaw27_some.f (n + 1) l0 (n : Int) = some r := by
    unfold foghornlaw27_some.f
    rw [if_pos (by omega), if_pos (by rw [Int.toNat_natCast]; omega), Int.toNat_natCast]
    exact h1
  refine (foghornlaw27_some.calls (n + 1) A0 c0 l0 (n : Int) r w' hr hc0 hf).mono ?_
  rintro e w'' ⟨v, rfl, hR, hb⟩
  obtain ⟨A, c, rfl⟩ := Kd.R_slice hR
  have hc := (Kd.R_reads' hR).2.1
  rw [h3] at hR hc ⊢
  exact ⟨A, c, rfl, hc, hR, hb⟩
theorem ints_l0 (l : List Int) (hl : l.length ≤ 1000000) : ∀ (m j : Nat), j ≤ l.length → l.length - j ≤ m → foghornlaw27_ints.l0 (m + 1) l l (j : Int) = some true := by
  intro m
  induction m with
  | zero =>
    intro j h1 h2
    unfold foghornlaw27_ints.l0
    rw [if_neg (by omega)]
  | succ m ih =>
    intro j h1 h2
    unfold foghornlaw27_ints.l0
    by_cases hj : (j : Int) < (l.length : Int)
    · rw [if_pos hj, if_pos (by omega), if_pos hj, if_pos rfl]
      have e : wrap64 ((j : Int) + 1) = ((j + 1 : Nat) : Int) := by unfold wrap64; omega
      rw [e]
      exact ih (j + 1) (by omega) (by omega)
    · rw [if_neg hj]
theorem ints_same (A0 : Option Addr) (c0 : Nat) (A1 : Option Addr) (c1 : Nat) (n : Nat) (l : List Int) (w : World) (hn : l.length = n) (hl : n ≤ 1000000) (h0 : Kd.C (Kd.int .i64) w A0 n l) (k0 : n ≤ c0) (h1 : Kd.C (Kd.int .i64) w A1 n l) (k1 : n ≤ c1) :
    Calls Try.prog 12 #[.slice A0 n c0, .slice A1 n c1] w fun e w' => e = .returned (.bool true) ∧ ∃ d, w' = w.drewN d := by
  subst hn
  have hf : foghornlaw27_ints.f (l.length + 1) l l = some true := by
    unfold foghornlaw27_ints.f
    rw [if_pos rfl]
    exact ints_l0 l hl l.length 0 (by omega) (by omega)
  refine (foghornlaw27_ints.calls _ A0 c0 l A1 c1 l true w h0 k0 h1 k1 hf).mono ?_
  rintro e w' ⟨rfl, ⟨d, rfl⟩⟩
  exact ⟨rfl, _, rfl⟩
end Go.Proofs.Ytgmaiknbogcpgaa.Pure
