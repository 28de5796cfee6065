/- Literals of samples; awake. -/
import Derived.Test.YtjhapibelhakdaaFogx0
import Derived.Test.YtjhapibelhakdaaFogx1
import Derived.Test.YtjhapibelhakdaaSlipAll
namespace Go.Proofs.Ytjhapibelhakdaa.Pure
open Go.RowKit Go.Proofs.Ytjhapibelhakdaa.Fog Go.Proofs.YtjhapibelhakdaaW.PrintWords Go.Proofs.YtjhapibelhakdaaW.PrintLast Go.Proofs.YtjhapibelhakdaaW.PrintMore Go.Proofs.Ytjhapibelhakdaa.Kit
set_option linter.unusedVariables false
set_option linter.unusedSimpArgs false
def encS : List Smp → List Value
  | [] => []
  | x :: l => .complex .f64 x.1.1 x.1.2 :: .bool x.2 :: encS l
theorem encS_length : ∀ l, (encS l).length = l.length * 2
  | [] => rfl
  | x :: l => by simp [encS, encS_length l]; omega
theorem smp_M {w : World} {base : Nat} {ok : Nat → Prop} (x : Smp) : KS.M w base ok x [.complex .f64 x.1.1 x.1.2, .bool x.2] := ⟨[cx x.1], [.bool x.2], rfl, rfl, rfl⟩
theorem smp_reps {w : World} {base : Nat} {ok : Nat → Prop} : ∀ l, Reps (KS.M w base ok) 2 l (encS l)
  | [] => Reps.none _ _
  | x :: l => Reps.front (c := [.complex .f64 x.1.1 x.1.2, .bool x.2]) (smp_M x) rfl (smp_reps l) rfl
theorem smp_lit (w : World) (base : Nat) (l : List Smp) (hb : base ≤ w.heap.size) (hl : l.length ≤ 1000000) : Kd.R KS 43 (w.alloc (.cells (encS l).toArray 43)) base (fun _ => True) (.slice (some ⟨w.heap.size, 0, none⟩) l.length l.length) l := by
  refine ⟨fun _ _ => trivial, encS l, ?_, smp_reps l⟩
  have h := World.ownsRow_lit (base := base) (e := 43) (size := 2) w (encS l).toArray l.length hb (by unfold maxLen; omega) (by simp [encS_length])
  exact h
def f1 : Smp := ((4607182418800017408, 0), false)
def f2 : Smp := ((4611686018427387904, 0), false)
def f3 : Smp := ((4613937818241073152, 0), false)
def f9 : Smp := ((4621256167635550208, 0), false)
theorem w_slip : slipTo [f1, f2, f3] [f9, f1, f2, f3] 2 = (1, 3) := by decide +kernel
theorem w_at : tempo_At.f 3 5 2 3 = some (10, 0) := by decide +kernel
abbrev lit1 : Obj := .cells #[.complex .f64 4607182418800017408 0, .bool false, .complex .f64 4611686018427387904 0, .bool false, .complex .f64 4613937818241073152 0, .bool false] 43
abbrev lit2 : Obj := .cells #[.complex .f64 4621256167635550208 0, .bool false, .complex .f64 4607182418800017408 0, .bool false, .complex .f64 4611686018427387904 0, .bool false, .complex .f64 4613937818241073152 0, .bool false] 43
theorem lits_C (w : World) : Kd.C KS ((w.alloc lit1).alloc lit2) (some ⟨w.heap.size, 0, none⟩) 3 [f1, f2, f3] ∧ Kd.C KS ((w.alloc lit1).alloc lit2) (some ⟨w.heap.size + 1, 0, none⟩) 4 [f9, f1, f2, f3] := by
  have h1 := (Kd.R_reads' (smp_lit w w.heap.size [f1, f2, f3] (Nat.le_refl _) (by decide))).2.2
  have h2 := (Kd.R_reads' (smp_lit (w.alloc lit1) w.heap.size [f9, f1, f2, f3] (by simp) (by decide))).2.2
  rw [World.size_alloc] at h2
  exact ⟨Kd.C_alloc (w := w.alloc lit1) h1 lit2, h2⟩
theorem lits_below (w : World) : Below w.heap.size w ((w.alloc lit1).alloc lit2) := ((Below.refl w.heap.size w).alloc (Nat.le_refl _) _).alloc (by simp) _
set_option maxHeartbeats 4000000 in
set_option maxRecDepth 100000 in
theorem awake_calls (w : World) : Calls Try.prog 12 #[] w fun e w' => e = .returned (.bool true) ∧ Below w.heap.size w w' := by
  have HSL := Aside0.mk (show ∀ A B ca cb w, Kd.C KS w A 3 [f1, f2, f3] → Kd.C KS w B 4 [f9, f1, f2, f3] → Calls Try.prog 20 #[.slice A 3 ca, .slice B 4 cb, .int .i64 2] w fun e w' => e = .returned (.tuple #[.int .i64 1, .int .i64 3, .int .i64 0]) ∧ Below w.heap.size w w' from fun A B ca cb w h1 h2 => by
    have h := slip_calls [f1, f2, f3] [f9, f1, f2, f3] A B ca cb 3 4 2 w rfl rfl h1 h2 (by decide) (by decide) (by decide)
    rw [w_slip] at h
    exact h)
  have HAT := Aside0.mk (fun w => tempo_At.calls 3 5 2 3 10 0 w w_at)
  go_enter Try.func12, Try.ntmps12
  go_wp2_with (first
    | (go_at_call 10; (with_reducible refine (HAT.out _).mono ?_); rintro e w1 ⟨rfl, hb⟩; have HB1 := Aside0.mk hb; clear hb)
    | (go_at_call 20; have HC := Aside0.mk (lits_C w1); (with_reducible refine (HSL.out (some ⟨w1.heap.size, 0, none⟩) (some ⟨w1.heap.size + 1, 0, none⟩) 3 4 ((w1.alloc lit1).alloc lit2) HC.out.1 HC.out.2).mono ?_); rintro e w2 ⟨rfl, hb⟩; have HB2 := Aside0.mk (HB1.out.trans (((lits_below w1).trans (hb.mono (lits_below w1).size)).mono HB1.out.size)); clear hb))
  go_ret
  exact ⟨rfl, HB2.out⟩
end Go.Proofs.Ytjhapibelhakdaa.Pure
