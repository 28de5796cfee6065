/- The calls' contracts in the laws' form. -/
import Derived.Test.YtgmaiknbogcpgaaFogx0
import Derived.Test.YtgmaiknbogcpgaaBridge
import Derived.Test.YtgmaiknbogcpgaaAw
namespace Go.Proofs.Ytgmaiknbogcpgaa.Pure
open Go.RowKit Go.Proofs.Ytgmaiknbogcpgaa.Fog Go.Proofs.YtgmaiknbogcpgaaW.PrintWords Go.Proofs.YtgmaiknbogcpgaaW.PrintLast Go.Proofs.YtgmaiknbogcpgaaW.PrintMore Go.Proofs.Ytgmaiknbogcpgaa.Kit
set_option linter.unusedVariables false
set_option linter.unusedSimpArgs false
theorem most_form (n : Nat) (ws : List Int) (p : Int) (hn : ws.length = n) (h1 : 1 ≤ n) (h2 : n ≤ 256) (hk : Ld.ok ws) (hp0 : 0 ≤ p) (hp1 : p ≤ 1099511627776) : ∃ (B : Nat) (Pw : Int) (bb : List Int), B = Ld.best false ws p ∧ Pw = Ld.need false ws B ∧ bb = bitsI (Ld.first false ws B) ∧ bb.length = n ∧ Pw < Ld.never ∧ chkF ws bb 0 0 = some ((B : Int), Pw) ∧
    ∀ (A : Option Addr) (c : Nat) (W : World), Kd.C (Kd.int .i64) W A n ws → Calls Try.prog 10 #[.slice A n c, .int .i64 p] W fun r w' => ∃ A2 c2, r = .returned (.tuple #[.agg #[.slice A2 n c2, .int .i64 (B : Int), .int .i64 Pw], .int .i64 0]) ∧ n ≤ c2 ∧ Kd.C (Kd.int .i64) w' A2 n bb ∧ Below W.heap.size W w' := by
  have hlt : Ld.need false ws (Ld.best false ws p) < Ld.never := by
    have := Ld.best_pays false ws hk p hp0; have e : Ld.never = 1152921504606846976 := rfl; omega
  obtain ⟨g1, g2⟩ := chk_first false ws _ hlt
  refine ⟨_, _, _, rfl, rfl, rfl, by rw [g2, hn], hlt, g1, fun A c W hC => ?_⟩
  refine (most_good A c n ws p W hn h1 h2 hk hC hp0 hp1).mono ?_
  rintro r w' ⟨A2, k2, c2, rfl, hR, hb⟩
  obtain ⟨A3, c3, hv⟩ := Kd.R_slice hR
  simp only [Value.slice.injEq] at hv
  obtain ⟨rfl, rfl, rfl⟩ := hv
  have hc := (Kd.R_reads' hR).2
  rw [g2, hn] at hc ⊢
  exact ⟨A2, c2, rfl, hc.1, hc.2, hb⟩
theorem squares_form (n : Nat) (ws : List Int) (p : Int) (hn : ws.length = n) (h1 : 1 ≤ n) (h2 : n ≤ 256) (hk : Ld.ok ws) (hp0 : 0 ≤ p) (hp1 : p ≤ 1099511627776) : ∃ (B : Nat) (Pw : Int) (bb : List Int), B = Ld.best true ws p ∧ Pw = Ld.need true ws B ∧ bb = bitsI (Ld.first true ws B) ∧ bb.length = n ∧ Pw < Ld.never ∧ chkF ws bb 0 0 = some ((B : Int), Pw) ∧
    ∀ (A : Option Addr) (c : Nat) (W : World), Kd.C (Kd.int .i64) W A n ws → Calls Try.prog 11 #[.slice A n c, .int .i64 p] W fun r w' => ∃ A2 c2, r = .returned (.tuple #[.agg #[.slice A2 n c2, .int .i64 (B : Int), .int .i64 Pw], .int .i64 0]) ∧ n ≤ c2 ∧ Kd.C (Kd.int .i64) w' A2 n bb ∧ Below W.heap.size W w' := by
  have hlt : Ld.need true ws (Ld.best true ws p) < Ld.never := by
    have := Ld.best_pays true ws hk p hp0; have e : Ld.never = 1152921504606846976 := rfl; omega
  obtain ⟨g1, g2⟩ := chk_first true ws _ hlt
  refine ⟨_, _, _, rfl, rfl, rfl, by rw [g2, hn], hlt, g1, fun A c W hC => ?_⟩
  refine (squares_good A c n ws p W hn h1 h2 hk hC hp0 hp1).mono ?_
  rintro r w' ⟨A2, k2, c2, rfl, hR, hb⟩
  obtain ⟨A3, c3, hv⟩ := Kd.R_slice hR
  simp only [Value.slice.injEq] at hv
  obtain ⟨rfl, rfl, rfl⟩ := hv
  have hc := (Kd.R_reads' hR).2
  rw [g2, hn] at hc ⊢
  exact ⟨A2, c2, rfl, hc.1, hc.2, hb⟩
theorem least_form (n : Nat) (ws : List Int) (p : Nat) (hn : ws.length = n) (h1 : 1 ≤ n) (h2 : n ≤ 256) (hk : Ld.ok ws) (hq : p ≤ 8 * n) (hf : Ld.need false ws p < Ld.never) : ∃ (B : Nat) (Pw : Int) (bb : List Int), B = p ∧ Pw = Ld.need false ws B ∧ bb = bitsI (Ld.first false ws B) ∧ bb.length = n ∧ Pw < Ld.never ∧ chkF ws bb 0 0 = some ((B : Int), Pw) ∧
    ∀ (A : Option Addr) (c : Nat) (W : World), Kd.C (Kd.int .i64) W A n ws → Calls Try.prog 17 #[.slice A n c, .int .i64 (p : Int)] W fun r w' => ∃ A2 c2, r = .returned (.tuple #[.agg #[.slice A2 n c2, .int .i64 (B : Int), .int .i64 Pw], .int .i64 0]) ∧ n ≤ c2 ∧ Kd.C (Kd.int .i64) w' A2 n bb ∧ Below W.heap.size W w' := by
  have hlt : Ld.need false ws (p) < Ld.never := by
    exact hf
  obtain ⟨g1, g2⟩ := chk_first false ws _ hlt
  refine ⟨_, _, _, rfl, rfl, rfl, by rw [g2, hn], hlt, g1, fun A c W hC => ?_⟩
  refine (least_good A c n ws p W hn h1 h2 hk hC hq hf).mono ?_
  rintro r w' ⟨A2, k2, c2, rfl, hR, hb⟩
  obtain ⟨A3, c3, hv⟩ := Kd.R_slice hR
  simp only [Value.slice.injEq] at hv
  obtain ⟨rfl, rfl, rfl⟩ := hv
  have hc := (Kd.R_reads' hR).2
  rw [g2, hn] at hc ⊢
  exact ⟨A2, c2, rfl, hc.1, hc.2, hb⟩
theorem check_form (n : Nat) (ws lb : List Int) (hn : ws.length = n) (hl : lb.length = n) (h1 : 1 ≤ n) (h2 : n ≤ 256) (hk : Ld.ok ws) (s p : Int) (h : chkF ws lb 0 0 = some (s, p)) (A : Option Addr) (c : Nat) (A1 : Option Addr) (c1 : Nat) (W : World) (hC : Kd.C (Kd.int .i64) W A n ws) (hC1 : Kd.C (Kd.int .i64) W A1 n lb) (hc1 : n ≤ c1) :
    Calls Try.prog 14 #[.slice A n c, .slice A1 n c1] W fun r w' => ∃ A2 c2, r = .returned (.tuple #[.agg #[.slice A2 n c2, .int .i64 s, .int .i64 p], .int .i64 0]) ∧ n ≤ c2 ∧ Kd.C (Kd.int .i64) w' A2 n lb ∧ Below W.heap.size W w' := by
  refine (check_any A c n ws A1 c1 lb W hn hl h1 h2 hk hC hC1 hc1).mono ?_
  rintro r w' ⟨hg, -, hb⟩
  obtain ⟨A2, k2, c2, rfl, hR⟩ := hg s p h
  obtain ⟨A3, c3, hv⟩ := Kd.R_slice hR
  simp only [Value.slice.injEq] at hv
  obtain ⟨rfl, rfl, rfl⟩ := hv
  have hc := (Kd.R_reads' hR).2
  rw [hl] at hc ⊢
  exact ⟨A2, c2, rfl, hc.1, hc.2, hb⟩
end Go.Proofs.Ytgmaiknbogcpgaa.Pure
