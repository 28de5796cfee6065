/- Slip. -/
import Derived.Test.YtjhapibelhakdaaFogx0
import Derived.Test.YtjhapibelhakdaaSlip
namespace Go.Proofs.Ytjhapibelhakdaa.Pure
open Go.RowKit Go.Proofs.Ytjhapibelhakdaa.Fog Go.Proofs.YtjhapibelhakdaaW.PrintWords Go.Proofs.YtjhapibelhakdaaW.PrintLast Go.Proofs.YtjhapibelhakdaaW.PrintMore Go.Proofs.Ytjhapibelhakdaa.Kit
set_option linter.unusedVariables false
set_option linter.unusedSimpArgs false
/-- The slips tried so far: the best. -/
def slipTo (a b : List Smp) : Nat → Int × Nat
  | 0 => tryV a b 0 (0, 0)
  | s + 1 => tryV a b (-(s : Int) - 1) (tryV a b ((s : Int) + 1) (slipTo a b s))
theorem tryV_le (a b : List Smp) (s : Int) (st : Int × Nat) (h : st.2 ≤ a.length) : (tryV a b s st).2 ≤ a.length := by
  unfold tryV
  split
  · exact agreeTo_le a b s _
  · exact h
theorem slipTo_le (a b : List Smp) : ∀ s, (slipTo a b s).2 ≤ a.length
  | 0 => tryV_le a b 0 (0, 0) (Nat.zero_le _)
  | s + 1 => tryV_le a b _ _ (tryV_le a b _ _ (slipTo_le a b s))
theorem C_below {w w' : World} {A : Option Addr} {n : Nat} {l : List Smp} (h : Kd.C KS w A n l) (hb : Below w.heap.size w w') : Kd.C KS w' A n l := Kd.C_below h hb
/-- The boxes of a call of Slip. -/
structure SB (A B : Option Addr) (na nb ca cb g : Nat) (st : Int × Nat) (X : World) : Prop where
  a : Boxed X g 35 (.slice A na ca)
  b : Boxed X (g + 1) 35 (.slice B nb cb)
  m : Boxed X (g + 1 + 1 + 1) 3 (.int .i64 (st.2 : Int))
  s : Boxed X (g + 1 + 1) 3 (.int .i64 st.1)
def TryC (a b : List Smp) (A B : Option Addr) (na nb ca cb g : Nat) (w : World) : Prop := ∀ (s : Int) (st : Int × Nat) (X : World), Below g w X → SB A B na nb ca cb g st X → -1024 ≤ s → s ≤ 1024 →
    Calls Try.prog 36 #[.int .i64 s, .pointer (some ⟨g, 0, none⟩), .pointer (some ⟨g + 1, 0, none⟩), .pointer (some ⟨g + 1 + 1 + 1, 0, none⟩), .pointer (some ⟨g + 1 + 1, 0, none⟩)] X fun e w' => e = .returned (.tuple #[]) ∧ SB A B na nb ca cb g (tryV a b s st) w' ∧ Below g w w'
theorem tryC (a b : List Smp) (A B : Option Addr) (ca cb na nb g : Nat) (w : World) (hg : w.heap.size = g) (hna : a.length = na) (hnb : b.length = nb) (ha : Kd.C KS w A na a) (hb : Kd.C KS w B nb b) (hla : na ≤ 4096) (hlb : nb ≤ 4096) : TryC a b A B na nb ca cb g w := by
  intro s st X hX S h0 h1
  subst hna hnb hg
  refine (try_calls a b A B ca cb _ _ _ _ s st.1 st.2 X S.a S.b S.m S.s (Kd.C_below ha hX) (Kd.C_below hb hX) hla hlb h0 h1 (by omega)).mono ?_
  rintro e w' ⟨rfl, hm, hs, ht⟩
  exact ⟨rfl, ⟨(ht.block _ (by omega) (by omega)).trans S.a, (ht.block _ (by omega) (by omega)).trans S.b, hm, hs⟩, hX.trans (ht.below (by omega) (by omega))⟩
theorem TryC.at {a b : List Smp} {A B : Option Addr} {na nb ca cb g : Nat} {w : World} (h : TryC a b A B na nb ca cb g w) (s : Int) (st : Int × Nat) (X : World) (hX : Below g w X) (S : SB A B na nb ca cb g st X) (h0 : -1024 ≤ s) (h1 : s ≤ 1024) :
    Calls Try.prog 36 #[.int .i64 s, .pointer (some ⟨g, 0, none⟩), .pointer (some ⟨g + 1, 0, none⟩), .pointer (some ⟨g + 1 + 1 + 1, 0, none⟩), .pointer (some ⟨g + 1 + 1, 0, none⟩)] X fun e w' => e = .returned (.tuple #[]) ∧ SB A B na nb ca cb g (tryV a b s st) w' ∧ Below g w w' := h s st X hX S h0 h1
theorem sb_new (A B : Option Addr) (na nb ca cb : Nat) (w : World) : SB A B na nb ca cb w.heap.size (0, 0) ((((w.alloc (.cells #[.slice A na ca] 35)).alloc (.cells #[.slice B nb cb] 35)).alloc (.cells #[.int .i64 0] 3)).alloc (.cells #[.int .i64 0] 3)) := by
  refine ⟨?_, ?_, ?_, ?_⟩
  · exact Boxed.alloc (Boxed.alloc (Boxed.alloc (Boxed.new w _ _) _) _) _
  · have h := Boxed.new (w.alloc (.cells #[.slice A na ca] 35)) 35 (.slice B nb cb)
    rw [World.size_alloc] at h
    exact Boxed.alloc (Boxed.alloc h _) _
  · have h := Boxed.new (((w.alloc (.cells #[.slice A na ca] 35)).alloc (.cells #[.slice B nb cb] 35)).alloc (.cells #[.int .i64 0] 3)) 3 (.int .i64 0)
    rw [World.size_alloc, World.size_alloc, World.size_alloc] at h
    exact h
  · have h := Boxed.new ((w.alloc (.cells #[.slice A na ca] 35)).alloc (.cells #[.slice B nb cb] 35)) 3 (.int .i64 0)
    rw [World.size_alloc, World.size_alloc] at h
    exact Boxed.alloc h _
theorem SB.drewN {A B : Option Addr} {na nb ca cb g : Nat} {st : Int × Nat} {X : World} (h : SB A B na nb ca cb g st X) (n : Nat) : SB A B na nb ca cb g st (X.drewN n) := ⟨h.a, h.b, h.m, h.s⟩
theorem results_iit {P : Program} {fn : Func} {p q u : Tmp} {ty : TypeId} (h : fn.results = #[.cell p ty, .cell q ty, .tmp u]) {k : IntKind} (hu : P.underlying ty = some (.int k)) (tmps : Array Value) (w : World) (g g' : Nat) (x y : Int) (hp : tmps.getD p undef = .pointer (some ⟨g, 0, none⟩)) (hq : tmps.getD q undef = .pointer (some ⟨g', 0, none⟩)) (hc : w.cell? ⟨g, 0, none⟩ = some (.int k x)) (hc' : w.cell? ⟨g', 0, none⟩ = some (.int k y)) :
    (results fn tmps).run P w = .ok (.tuple #[.int k x, .int k y, tmps.getD u undef]) w := by
  have hp' : tmps[p]?.getD undef = .pointer (some ⟨g, 0, none⟩) := by simpa using hp
  have hq' : tmps[q]?.getD undef = .pointer (some ⟨g', 0, none⟩) := by simpa using hq
  simp [results, h, hp', hq', asAddr, go_sem, isAgg, run_underlying hu, hu, hc, hc', Result.andThen]
/-- What stands in a box is stored into it. -/
theorem boxed_self {W : World} {B : Nat} {t : TypeId} {v : Value} (h : Boxed W B t v) : W.setCell ⟨B, 0, none⟩ v = W := by
  have e0 : W.setCell ⟨B, 0, none⟩ v = { W with heap := (W.setCell ⟨B, 0, none⟩ v).heap } := rfl
  have e : (W.setCell ⟨B, 0, none⟩ v).heap = W.heap := by
    apply Array.ext_getElem?
    intro i
    by_cases hi : i = B
    · subst hi; exact (Boxed.set v h).trans h.symm
    · exact Below.heap_setCell _ _ _ i hi
  rw [e0, e]
set_option maxHeartbeats 4000000 in
set_option maxRecDepth 100000 in
theorem slip_calls (a b : List Smp) (A B : Option Addr) (ca cb na nb most : Nat) (w : World) (hna : a.length = na) (hnb : b.length = nb) (ha : Kd.C KS w A na a) (hb : Kd.C KS w B nb b) (hla : na ≤ 4096) (hlb : nb ≤ 4096) (hm : most ≤ 1024) :
    Calls Try.prog 20 #[.slice A na ca, .slice B nb cb, .int .i64 (most : Int)] w fun e w' => e = .returned (.tuple #[.int .i64 (slipTo a b most).1, .int .i64 ((slipTo a b most).2 : Int), .int .i64 0]) ∧ Below w.heap.size w w' := by
  have Ha := Aside0.mk ha
  have Hb := Aside0.mk hb
  have HNA := Aside0.mk hna
  have HNB := Aside0.mk hnb
  have hl1 : ¬ (4096 : Int) < (na : Int) := by omega
  have hl2 : ¬ (4096 : Int) < (nb : Int) := by omega
  have hl3 : ¬ (1024 : Int) < (most : Int) := by omega
  have HTRY := Aside0.mk (tryC a b A B ca cb na nb w.heap.size w rfl hna hnb ha hb hla hlb)
  have HS0 := Aside0.mk (sb_new A B na nb ca cb w)
  have HB0 := Aside0.mk (show Below w.heap.size w ((((w.alloc (.cells #[.slice A na ca] 35)).alloc (.cells #[.slice B nb cb] 35)).alloc (.cells #[.int .i64 0] 3)).alloc (.cells #[.int .i64 0] 3)) from ((((Below.refl w.heap.size w).alloc (Nat.le_refl _) _).alloc (by simp) _).alloc (by simp; omega) _).alloc (by simp; omega) _)
  obtain ⟨p1, p2, hP⟩ : ∃ p1 p2, slipTo a b most = (p1, p2) := ⟨_, _, rfl⟩
  rw [hP]
  have HP := Aside0.mk hP
  clear hP
  clear ha hb hna hnb
  go_enter Try.func20, Try.ntmps20
  go_wp2_with ((go_at_call 36; (with_reducible refine (HTRY.out.at 0 (0, 0) _ HB0.out HS0.out (by decide) (by decide)).mono ?_); rintro e w1 ⟨rfl, hs, hb⟩; have HS1 := Aside0.mk (show SB A B na nb ca cb w.heap.size (slipTo a b 0) w1 from hs); have HB1 := Aside0.mk hb; clear hs hb))
  obtain ⟨g, hg⟩ : ∃ g, w.heap.size = g := ⟨_, rfl⟩
  rw [hg] at HS1 HB1 HTRY ⊢
  clear HS0 HB0
  go_loopw [31] (fun i wr => ∃ k : Nat, k ≤ most ∧ i = .int .i64 (k : Int) ∧ Aside0 (SB A B na nb ca cb g (slipTo a b k) wr) ∧ Aside0 (Below g w wr)) (fun i _ => most - (intOf i).toNat)
  case atStart => exact ⟨0, Nat.zero_le _, rfl, HS1, HB1⟩
  case round =>
    obtain ⟨k, hk, rfl, HS, HB⟩ := hrel
    by_cases hlt : k < most
    · have q1 : (k : Int) < (most : Int) := by omega
      have hw1 : IntKind.i64.wrap ((k : Int) + 1) = (k : Int) + 1 := by rw [IntKind.wrap_i64]; omega
      have hw2 : IntKind.i64.wrap (-(k : Int)) = -(k : Int) := by rw [IntKind.wrap_i64]; omega
      have hw3 : IntKind.i64.wrap (-(k : Int) - 1) = -(k : Int) - 1 := by rw [IntKind.wrap_i64]; omega
      go_wp2_with (first
        | (go_at_call 36; (with_reducible refine (HTRY.out.at ((k : Int) + 1) _ _ HB.out HS.out (by omega) (by omega)).mono ?_); rintro e w2 ⟨rfl, hs, hb⟩; have HS2 := Aside0.mk hs; have HB2 := Aside0.mk hb; clear hs hb)
        | (go_at_call 36; (with_reducible refine (HTRY.out.at (-(k : Int) - 1) _ _ HB2.out HS2.out (by omega) (by omega)).mono ?_); rintro e w3 ⟨rfl, hs, hb⟩; have HS3 := Aside0.mk hs; have HB3 := Aside0.mk hb; clear hs hb))
      go_roundw
      case rel => exact ⟨k + 1, by omega, by go_num, HS3, HB3⟩
      case measure => simp [intOf]; omega
    · have hkm : k = most := by omega
      subst k
      have HS9 := Aside0.mk (HP.out ▸ HS.out)
      have m1 : wr.cell? ⟨g + 1 + 1 + 1, 0, none⟩ = some (.int .i64 (p2 : Int)) := HS9.out.m.cell
      have m2 := HS9.out.m.frozen
      have s1 : wr.cell? ⟨g + 1 + 1, 0, none⟩ = some (.int .i64 p1) := HS9.out.s.cell
      have s2 := HS9.out.s.frozen
      have z1 : ∀ n, (wr.drewN n).setCell ⟨g + 1 + 1 + 1, 0, none⟩ (.int .i64 (p2 : Int)) = wr.drewN n := fun n => boxed_self (SB.drewN HS9.out n).m
      have z2 : ∀ n, (wr.drewN n).setCell ⟨g + 1 + 1, 0, none⟩ (.int .i64 p1) = wr.drewN n := fun n => boxed_self (SB.drewN HS9.out n).s
      go_wp2
      go_quiet (fail)
      clear z1 z2
      go_wp2
      refine bodyPost_ret (results_iit rfl Try.underlying3 _ _ (g + 1 + 1) (g + 1 + 1 + 1) p1 (p2 : Int) rfl rfl s1 m1) rfl ?_
      exact ⟨rfl, hg ▸ pw_below_drewN HB.out _⟩
end Go.Proofs.Ytjhapibelhakdaa.Pure
