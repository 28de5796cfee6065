/- Sets. -/
import Derived.Test.YtgmaiknbogcpgaaFogx0
import Derived.Test.YtgmaiknbogcpgaaCross
import Derived.Laws.EntriesVeiled
import Derived.Laws.ResultCell
import Derived.Laws.Rows
namespace Go.Proofs.Ytgmaiknbogcpgaa.Pure
open Go.RowKit Go.Proofs.Ytgmaiknbogcpgaa.Fog Go.Proofs.YtgmaiknbogcpgaaW.PrintWords Go.Proofs.YtgmaiknbogcpgaaW.PrintLast Go.Proofs.YtgmaiknbogcpgaaW.PrintMore Go.Proofs.Ytgmaiknbogcpgaa.Kit
set_option linter.unusedVariables false
set_option linter.unusedSimpArgs false
abbrev sqF (bn bf : Nat) : Value := .func (.func 72) #[] #[.pointer (some ⟨bn, 0, none⟩), .pointer (some ⟨bf, 0, none⟩)]
abbrev crFn (be bm : Nat) : Value := .func (.func 73) #[] #[.pointer (some ⟨be, 0, none⟩), .pointer (some ⟨bm, 0, none⟩)]
theorem setInfo : (Try.prog.info? 97).map (·.size) = some 3 := by kernel_rfl
set_option maxHeartbeats 2000000 in
set_option maxRecDepth 100000 in
theorem square_calls (n e : Int) (w : World) :
    Calls Try.prog 68 #[.int .i64 n, .int .i64 e] w fun r w' => ∃ bn bf be : Nat, r = .returned (.agg #[.int .i64 n, .int .i64 e, sqF bn bf]) ∧ (w.heap.size ≤ bn ∧ w.heap.size ≤ bf ∧ w.heap.size ≤ be) ∧ (Boxed w' bn 3 (.int .i64 n) ∧ Boxed w' bf 107 (axF be) ∧ Boxed w' be 3 (.int .i64 e)) ∧ Below w.heap.size w w' := by
  go_enter Try.func68, Try.ntmps68
  go_wp2
  obtain ⟨X1, hX1⟩ : ∃ X1, w.alloc (.cells #[.int .i64 n] 3) = X1 := ⟨_, rfl⟩
  have s1 : X1.heap.size = w.heap.size + 1 := by rw [← hX1, World.size_alloc]
  have B1 : Boxed X1 w.heap.size 3 (.int .i64 n) := hX1 ▸ Boxed.new w _ _
  have b1 : Below w.heap.size w X1 := hX1 ▸ (Below.refl w.heap.size w).alloc (Nat.le_refl _) _
  rw [hX1]
  obtain ⟨X2, hX2⟩ : ∃ X2, X1.alloc (.cells #[.int .i64 e] 3) = X2 := ⟨_, rfl⟩
  have s2 : X2.heap.size = w.heap.size + 1 + 1 := by rw [← hX2, World.size_alloc, s1]
  have B2 : Boxed X2 (w.heap.size + 1) 3 (.int .i64 e) := by have h := Boxed.new X1 3 (.int .i64 e); rw [hX2, s1] at h; exact h
  have B12 : Boxed X2 w.heap.size 3 (.int .i64 n) := hX2 ▸ Boxed.alloc B1 _
  have b2 : Below w.heap.size w X2 := hX2 ▸ b1.alloc b1.size _
  rw [hX2]
  obtain ⟨X3, hX3⟩ : ∃ X3, X2.alloc (.cells #[.int .i64 n, .int .i64 e, .func (.func 72) #[] #[.pointer (some ⟨w.heap.size, 0, none⟩), .pointer (some ⟨w.heap.size + 1 + 1 + 1, 0, none⟩)]] 97) = X3 := ⟨_, rfl⟩
  have s3 : X3.heap.size = w.heap.size + 1 + 1 + 1 := by rw [← hX3, World.size_alloc, s2]
  have B3 : X3.heap[w.heap.size + 1 + 1]? = some (.cells #[.int .i64 n, .int .i64 e, .func (.func 72) #[] #[.pointer (some ⟨w.heap.size, 0, none⟩), .pointer (some ⟨w.heap.size + 1 + 1 + 1, 0, none⟩)]] 97) := by rw [← hX3, ← s2]; exact blk_new X2 _
  have B22 : Boxed X3 (w.heap.size + 1) 3 (.int .i64 e) := hX3 ▸ Boxed.alloc B2 _
  have B122 : Boxed X3 w.heap.size 3 (.int .i64 n) := hX3 ▸ Boxed.alloc B12 _
  have b3 : Below w.heap.size w X3 := hX3 ▸ b2.alloc b2.size _
  rw [hX3]
  obtain ⟨X4, hX4⟩ : ∃ X4, X3.alloc (.cells #[.func (.func 70) #[] #[.pointer (some ⟨w.heap.size + 1, 0, none⟩)]] 107) = X4 := ⟨_, rfl⟩
  have B4 : Boxed X4 (w.heap.size + 1 + 1 + 1) 107 (axF (w.heap.size + 1)) := by have h := Boxed.new X3 107 (axF (w.heap.size + 1)); unfold axF at h; rw [hX4, s3] at h; exact h
  have B33 := blk_below B3 (show Below X3.heap.size X3 X4 from hX4 ▸ (Below.refl _ _).alloc (Nat.le_refl _) _)
  have B222 : Boxed X4 (w.heap.size + 1) 3 (.int .i64 e) := hX4 ▸ Boxed.alloc B22 _
  have B1222 : Boxed X4 w.heap.size 3 (.int .i64 n) := hX4 ▸ Boxed.alloc B122 _
  have b4 : Below w.heap.size w X4 := hX4 ▸ b3.alloc b3.size _
  rw [hX4]
  refine bodyPost_ret (results_cell_row rfl _ _ (w.heap.size + 1 + 1) 97 #[.int .i64 n, .int .i64 e, sqF w.heap.size (w.heap.size + 1 + 1 + 1)] (0, 0) _ rfl B33 Try.underlying97 rfl setInfo) rfl ?_
  exact ⟨w.heap.size, w.heap.size + 1 + 1 + 1, w.heap.size + 1, rfl, ⟨by omega, by omega, by omega⟩, ⟨B1222, B4, B222⟩, b4⟩
set_option maxHeartbeats 2000000 in
set_option maxRecDepth 100000 in
theorem cross_calls (n e m : Int) (w : World) :
    Calls Try.prog 69 #[.int .i64 n, .int .i64 e, .int .i64 m] w fun r w' => ∃ be bm : Nat, r = .returned (.agg #[.int .i64 n, .int .i64 e, crFn be bm]) ∧ (w.heap.size ≤ be ∧ w.heap.size ≤ bm) ∧ (Boxed w' be 3 (.int .i64 e) ∧ Boxed w' bm 3 (.int .i64 m)) ∧ Below w.heap.size w w' := by
  go_enter Try.func69, Try.ntmps69
  go_wp2
  obtain ⟨X1, hX1⟩ : ∃ X1, w.alloc (.cells #[.int .i64 e] 3) = X1 := ⟨_, rfl⟩
  have s1 : X1.heap.size = w.heap.size + 1 := by rw [← hX1, World.size_alloc]
  have B1 : Boxed X1 w.heap.size 3 (.int .i64 e) := hX1 ▸ Boxed.new w _ _
  have b1 : Below w.heap.size w X1 := hX1 ▸ (Below.refl w.heap.size w).alloc (Nat.le_refl _) _
  rw [hX1]
  obtain ⟨X2, hX2⟩ : ∃ X2, X1.alloc (.cells #[.int .i64 m] 3) = X2 := ⟨_, rfl⟩
  have s2 : X2.heap.size = w.heap.size + 1 + 1 := by rw [← hX2, World.size_alloc, s1]
  have B2 : Boxed X2 (w.heap.size + 1) 3 (.int .i64 m) := by have h := Boxed.new X1 3 (.int .i64 m); rw [hX2, s1] at h; exact h
  have B12 : Boxed X2 w.heap.size 3 (.int .i64 e) := hX2 ▸ Boxed.alloc B1 _
  have b2 : Below w.heap.size w X2 := hX2 ▸ b1.alloc b1.size _
  rw [hX2]
  obtain ⟨X3, hX3⟩ : ∃ X3, X2.alloc (.cells #[.int .i64 n, .int .i64 e, .func (.func 73) #[] #[.pointer (some ⟨w.heap.size, 0, none⟩), .pointer (some ⟨w.heap.size + 1, 0, none⟩)]] 97) = X3 := ⟨_, rfl⟩
  have B3 : X3.heap[w.heap.size + 1 + 1]? = some (.cells #[.int .i64 n, .int .i64 e, .func (.func 73) #[] #[.pointer (some ⟨w.heap.size, 0, none⟩), .pointer (some ⟨w.heap.size + 1, 0, none⟩)]] 97) := by rw [← hX3, ← s2]; exact blk_new X2 _
  have B22 : Boxed X3 (w.heap.size + 1) 3 (.int .i64 m) := hX3 ▸ Boxed.alloc B2 _
  have B122 : Boxed X3 w.heap.size 3 (.int .i64 e) := hX3 ▸ Boxed.alloc B12 _
  have b3 : Below w.heap.size w X3 := hX3 ▸ b2.alloc b2.size _
  rw [hX3]
  refine bodyPost_ret (results_cell_row rfl _ _ (w.heap.size + 1 + 1) 97 #[.int .i64 n, .int .i64 e, crFn w.heap.size (w.heap.size + 1)] (0, 0) _ rfl B3 Try.underlying97 rfl setInfo) rfl ?_
  exact ⟨w.heap.size, w.heap.size + 1, rfl, ⟨by omega, by omega⟩, ⟨B122, B22⟩, b3⟩
theorem results_of {P : Program} {fn : Func} {p u : Tmp} {ty : TypeId} (h : fn.results = #[.cell p ty, .tmp u]) (tmps : Array Value) (w : World) (g : Nat) (t : TypeId) (cs : Array Value) (fr : Nat × Nat) (d : TypeDesc)
    (hp : tmps.getD p undef = .pointer (some ⟨g, 0, none⟩)) (hg : w.heap[g]? = some (.cells cs t fr))
    (hu : P.underlying ty = some d) (hd : (match d with | .struct _ | .array _ _ => true | _ => false) = true) (hi : (P.info? ty).map (·.size) = some cs.size) :
    (results fn tmps).run P w = .ok (.tuple #[.agg cs, tmps.getD u undef]) w := by
  have hp' : tmps[p]?.getD undef = .pointer (some ⟨g, 0, none⟩) := by simpa using hp
  rw [results_cell_tmp h]
  simp [hp', asAddr, run_loadVar_row w g t ty cs fr d hg hu hd hi, Result.andThen]
theorem sets3 {W : World} {g : Nat} {T : TypeId} {x y z : Value} (h : W.heap[g]? = some (.cells #[x, y, z] T)) (a b c : Value) : (((W.setCell ⟨g, 0, none⟩ a).setCell ⟨g, 1, none⟩ b).setCell ⟨g, 2, none⟩ c).heap[g]? = some (.cells #[a, b, c] T) :=
  blk_put (blk_put (blk_put h 0 a rfl) 1 b rfl) 2 c rfl
theorem boxed3 {W : World} {g B : Nat} {T : TypeId} {v : Value} (h : Boxed W B T v) (hne : B ≠ g) (a b c : Value) : Boxed (((W.setCell ⟨g, 0, none⟩ a).setCell ⟨g, 1, none⟩ b).setCell ⟨g, 2, none⟩ c) B T v :=
  (Below.heap_setCell _ _ _ B hne).trans ((Below.heap_setCell _ _ _ B hne).trans ((Below.heap_setCell _ _ _ B hne).trans h))
theorem below3 {W w : World} {g n : Nat} (h : Below n w W) (hg : n ≤ g) (a b c : Value) : Below n w (((W.setCell ⟨g, 0, none⟩ a).setCell ⟨g, 1, none⟩ b).setCell ⟨g, 2, none⟩ c) :=
  ((h.setCell hg a).setCell hg b).setCell hg c
/-- The point of a label. -/
def ptP (n lb : Nat) : Int × Int := if n = 4 then sqP 1 1 lb else if n = 16 then sqP 2 3 lb else if n = 64 then sqP 3 7 lb else if n = 256 then sqP 4 15 lb else if n = 32 then crP 5 3 lb else crP 11 7 lb
def PtAs (f : FuncId) (caps : List Value) (n : Nat) (W : World) : Prop :=
  ∀ W', Below W.heap.size W W' → ∀ lb : Nat, lb < n → Calls Try.prog f (.int .i64 (lb : Int) :: caps).toArray W' fun r w' => r = .returned (.complex .f64 (fI (ptP n lb).1) (fI (ptP n lb).2)) ∧ ∃ d, w' = W'.drewN d
/-- A set's function: it gives the points of the size n. -/
def FnAt (n : Nat) (F : Value) (W : World) : Prop :=
  (∃ bn bf : Nat, F = sqF bn bf ∧ PtAs 72 [.pointer (some ⟨bn, 0, none⟩), .pointer (some ⟨bf, 0, none⟩)] n W) ∨ (∃ be bm : Nat, F = crFn be bm ∧ PtAs 73 [.pointer (some ⟨be, 0, none⟩), .pointer (some ⟨bm, 0, none⟩)] n W)
theorem PtAs.at {f : FuncId} {caps : List Value} {n : Nat} {W W' : World} (h : PtAs f caps n W) (hb : Below W.heap.size W W') : PtAs f caps n W' := fun W2 h2 lb hl => h W2 (below_step hb h2) lb hl
theorem FnAt.at {n : Nat} {F : Value} {W W' : World} (h : FnAt n F W) (hb : Below W.heap.size W W') : FnAt n F W' := by
  rcases h with ⟨a, b, e, h⟩ | ⟨a, b, e, h⟩
  · exact .inl ⟨a, b, e, h.at hb⟩
  · exact .inr ⟨a, b, e, h.at hb⟩
/-- What 'of' gives for a size: in its two forms. -/
def OfSq (n : Nat) (b e : Int) : Prop := ∀ w, Calls Try.prog 66 #[.int .i64 (n : Int)] w fun r w' => ∃ bn bf : Nat, r = .returned (.tuple #[.agg #[.int .i64 b, .int .i64 e, .func (.func 72) #[] #[.pointer (some ⟨bn, 0, none⟩), .pointer (some ⟨bf, 0, none⟩)]], .bool true]) ∧ PtAs 72 [.pointer (some ⟨bn, 0, none⟩), .pointer (some ⟨bf, 0, none⟩)] n w' ∧ Below w.heap.size w w'
def OfCr (n : Nat) (b e : Int) : Prop := ∀ w, Calls Try.prog 66 #[.int .i64 (n : Int)] w fun r w' => ∃ bn bf : Nat, r = .returned (.tuple #[.agg #[.int .i64 b, .int .i64 e, .func (.func 73) #[] #[.pointer (some ⟨bn, 0, none⟩), .pointer (some ⟨bf, 0, none⟩)]], .bool true]) ∧ PtAs 73 [.pointer (some ⟨bn, 0, none⟩), .pointer (some ⟨bf, 0, none⟩)] n w' ∧ Below w.heap.size w w'
theorem boxed_below {W W' : World} {B : Nat} {T : TypeId} {v : Value} (h : Boxed W B T v) (hb : Below W.heap.size W W') : Boxed W' B T v := blk_below h hb
set_option maxHeartbeats 2000000 in
set_option maxRecDepth 100000 in
theorem of_4 : OfSq 4 2 1 := fun w => by
  have hb0 := (Below.refl w.heap.size w).alloc (Nat.le_refl _) (.cells #[.int .i64 0, .int .i64 0, .nilFunc] 97)
  have HN := Aside0.mk (blk_new w (.cells #[.int .i64 0, .int .i64 0, .nilFunc] 97))
  have hs0 : (w.alloc (.cells #[.int .i64 0, .int .i64 0, .nilFunc] 97)).heap.size = w.heap.size + 1 := World.size_alloc w _
  have HB0 := Aside0.mk hb0
  have HS0 := Aside0.mk hs0
  clear hb0 hs0
  go_enter Try.func66, Try.ntmps66
  go_wp2_with (go_at_call 68; (with_reducible refine (square_calls 2 1 _).mono ?_); rintro e w1 ⟨bn, bf, be, rfl, hg, hx, hb⟩; (have HXX := Aside0.mk (And.intro hg hx)); (have hn := blk_below HN.out hb); (have HN1 := Aside0.mk hn); (have f0 := blk_frozen hn 0); (have f1 := blk_frozen hn 1); (have f2 := blk_frozen hn 2); (have c0 := (blk_cell hn 0).trans rfl); (have c1 := (blk_cell hn 1).trans rfl); (have c2 := (blk_cell hn 2).trans rfl); (have HB1 := Aside0.mk (below_step HB0.out hb)); clear hn hx hb hg)
  refine bodyPost_ret (results_of rfl _ _ w.heap.size 97 #[.int .i64 2, .int .i64 1, sqF bn bf] (0, 0) _ rfl (sets3 HN1.out _ _ _) Try.underlying97 rfl setInfo) rfl ?_
  refine ⟨bn, bf, rfl, fun W' hW lb hl => ?_, below3 HB1.out (Nat.le_refl _) _ _ _⟩
  obtain ⟨⟨g1, g2, g3⟩, x1, x2, x3⟩ := HXX.out
  have hs := HS0.out
  exact sqat_4 lb hl bn bf be W' (boxed_below (boxed3 x1 (by omega) _ _ _) hW) (boxed_below (boxed3 x2 (by omega) _ _ _) hW) (boxed_below (boxed3 x3 (by omega) _ _ _) hW)
set_option maxHeartbeats 2000000 in
set_option maxRecDepth 100000 in
theorem of_16 : OfSq 16 4 3 := fun w => by
  have hb0 := (Below.refl w.heap.size w).alloc (Nat.le_refl _) (.cells #[.int .i64 0, .int .i64 0, .nilFunc] 97)
  have HN := Aside0.mk (blk_new w (.cells #[.int .i64 0, .int .i64 0, .nilFunc] 97))
  have hs0 : (w.alloc (.cells #[.int .i64 0, .int .i64 0, .nilFunc] 97)).heap.size = w.heap.size + 1 := World.size_alloc w _
  have HB0 := Aside0.mk hb0
  have HS0 := Aside0.mk hs0
  clear hb0 hs0
  go_enter Try.func66, Try.ntmps66
  go_wp2_with (go_at_call 68; (with_reducible refine (square_calls 4 3 _).mono ?_); rintro e w1 ⟨bn, bf, be, rfl, hg, hx, hb⟩; (have HXX := Aside0.mk (And.intro hg hx)); (have hn := blk_below HN.out hb); (have HN1 := Aside0.mk hn); (have f0 := blk_frozen hn 0); (have f1 := blk_frozen hn 1); (have f2 := blk_frozen hn 2); (have c0 := (blk_cell hn 0).trans rfl); (have c1 := (blk_cell hn 1).trans rfl); (have c2 := (blk_cell hn 2).trans rfl); (have HB1 := Aside0.mk (below_step HB0.out hb)); clear hn hx hb hg)
  refine bodyPost_ret (results_of rfl _ _ w.heap.size 97 #[.int .i64 4, .int .i64 3, sqF bn bf] (0, 0) _ rfl (sets3 HN1.out _ _ _) Try.underlying97 rfl setInfo) rfl ?_
  refine ⟨bn, bf, rfl, fun W' hW lb hl => ?_, below3 HB1.out (Nat.le_refl _) _ _ _⟩
  obtain ⟨⟨g1, g2, g3⟩, x1, x2, x3⟩ := HXX.out
  have hs := HS0.out
  exact sqat_16 lb hl bn bf be W' (boxed_below (boxed3 x1 (by omega) _ _ _) hW) (boxed_below (boxed3 x2 (by omega) _ _ _) hW) (boxed_below (boxed3 x3 (by omega) _ _ _) hW)
set_option maxHeartbeats 2000000 in
set_option maxRecDepth 100000 in
theorem of_64 : OfSq 64 6 7 := fun w => by
  have hb0 := (Below.refl w.heap.size w).alloc (Nat.le_refl _) (.cells #[.int .i64 0, .int .i64 0, .nilFunc] 97)
  have HN := Aside0.mk (blk_new w (.cells #[.int .i64 0, .int .i64 0, .nilFunc] 97))
  have hs0 : (w.alloc (.cells #[.int .i64 0, .int .i64 0, .nilFunc] 97)).heap.size = w.heap.size + 1 := World.size_alloc w _
  have HB0 := Aside0.mk hb0
  have HS0 := Aside0.mk hs0
  clear hb0 hs0
  go_enter Try.func66, Try.ntmps66
  go_wp2_with (go_at_call 68; (with_reducible refine (square_calls 6 7 _).mono ?_); rintro e w1 ⟨bn, bf, be, rfl, hg, hx, hb⟩; (have HXX := Aside0.mk (And.intro hg hx)); (have hn := blk_below HN.out hb); (have HN1 := Aside0.mk hn); (have f0 := blk_frozen hn 0); (have f1 := blk_frozen hn 1); (have f2 := blk_frozen hn 2); (have c0 := (blk_cell hn 0).trans rfl); (have c1 := (blk_cell hn 1).trans rfl); (have c2 := (blk_cell hn 2).trans rfl); (have HB1 := Aside0.mk (below_step HB0.out hb)); clear hn hx hb hg)
  refine bodyPost_ret (results_of rfl _ _ w.heap.size 97 #[.int .i64 6, .int .i64 7, sqF bn bf] (0, 0) _ rfl (sets3 HN1.out _ _ _) Try.underlying97 rfl setInfo) rfl ?_
  refine ⟨bn, bf, rfl, fun W' hW lb hl => ?_, below3 HB1.out (Nat.le_refl _) _ _ _⟩
  obtain ⟨⟨g1, g2, g3⟩, x1, x2, x3⟩ := HXX.out
  have hs := HS0.out
  exact sqat_64 lb hl bn bf be W' (boxed_below (boxed3 x1 (by omega) _ _ _) hW) (boxed_below (boxed3 x2 (by omega) _ _ _) hW) (boxed_below (boxed3 x3 (by omega) _ _ _) hW)
set_option maxHeartbeats 2000000 in
set_option maxRecDepth 100000 in
theorem of_256 : OfSq 256 8 15 := fun w => by
  have hb0 := (Below.refl w.heap.size w).alloc (Nat.le_refl _) (.cells #[.int .i64 0, .int .i64 0, .nilFunc] 97)
  have HN := Aside0.mk (blk_new w (.cells #[.int .i64 0, .int .i64 0, .nilFunc] 97))
  have hs0 : (w.alloc (.cells #[.int .i64 0, .int .i64 0, .nilFunc] 97)).heap.size = w.heap.size + 1 := World.size_alloc w _
  have HB0 := Aside0.mk hb0
  have HS0 := Aside0.mk hs0
  clear hb0 hs0
  go_enter Try.func66, Try.ntmps66
  go_wp2_with (go_at_call 68; (with_reducible refine (square_calls 8 15 _).mono ?_); rintro e w1 ⟨bn, bf, be, rfl, hg, hx, hb⟩; (have HXX := Aside0.mk (And.intro hg hx)); (have hn := blk_below HN.out hb); (have HN1 := Aside0.mk hn); (have f0 := blk_frozen hn 0); (have f1 := blk_frozen hn 1); (have f2 := blk_frozen hn 2); (have c0 := (blk_cell hn 0).trans rfl); (have c1 := (blk_cell hn 1).trans rfl); (have c2 := (blk_cell hn 2).trans rfl); (have HB1 := Aside0.mk (below_step HB0.out hb)); clear hn hx hb hg)
  refine bodyPost_ret (results_of rfl _ _ w.heap.size 97 #[.int .i64 8, .int .i64 15, sqF bn bf] (0, 0) _ rfl (sets3 HN1.out _ _ _) Try.underlying97 rfl setInfo) rfl ?_
  refine ⟨bn, bf, rfl, fun W' hW lb hl => ?_, below3 HB1.out (Nat.le_refl _) _ _ _⟩
  obtain ⟨⟨g1, g2, g3⟩, x1, x2, x3⟩ := HXX.out
  have hs := HS0.out
  exact sqat_256 lb hl bn bf be W' (boxed_below (boxed3 x1 (by omega) _ _ _) hW) (boxed_below (boxed3 x2 (by omega) _ _ _) hW) (boxed_below (boxed3 x3 (by omega) _ _ _) hW)
set_option maxHeartbeats 2000000 in
set_option maxRecDepth 100000 in
theorem of_32 : OfCr 32 5 5 := fun w => by
  have hb0 := (Below.refl w.heap.size w).alloc (Nat.le_refl _) (.cells #[.int .i64 0, .int .i64 0, .nilFunc] 97)
  have HN := Aside0.mk (blk_new w (.cells #[.int .i64 0, .int .i64 0, .nilFunc] 97))
  have hs0 : (w.alloc (.cells #[.int .i64 0, .int .i64 0, .nilFunc] 97)).heap.size = w.heap.size + 1 := World.size_alloc w _
  have HB0 := Aside0.mk hb0
  have HS0 := Aside0.mk hs0
  clear hb0 hs0
  go_enter Try.func66, Try.ntmps66
  go_wp2_with (go_at_call 69; (with_reducible refine (cross_calls 5 5 3 _).mono ?_); rintro e w1 ⟨be, bm, rfl, hg, hx, hb⟩; (have HXX := Aside0.mk (And.intro hg hx)); (have hn := blk_below HN.out hb); (have HN1 := Aside0.mk hn); (have f0 := blk_frozen hn 0); (have f1 := blk_frozen hn 1); (have f2 := blk_frozen hn 2); (have c0 := (blk_cell hn 0).trans rfl); (have c1 := (blk_cell hn 1).trans rfl); (have c2 := (blk_cell hn 2).trans rfl); (have HB1 := Aside0.mk (below_step HB0.out hb)); clear hn hx hb hg)
  refine bodyPost_ret (results_of rfl _ _ w.heap.size 97 #[.int .i64 5, .int .i64 5, crFn be bm] (0, 0) _ rfl (sets3 HN1.out _ _ _) Try.underlying97 rfl setInfo) rfl ?_
  refine ⟨be, bm, rfl, fun W' hW lb hl => ?_, below3 HB1.out (Nat.le_refl _) _ _ _⟩
  obtain ⟨⟨g1, g2⟩, x1, x2⟩ := HXX.out
  have hs := HS0.out
  refine (crat_calls 5 3 (by decide) (by decide) lb (by omega) (crP 5 3 lb) (cr_32 ⟨lb, hl⟩) be bm W' (boxed_below (boxed3 x1 (by omega) _ _ _) hW) (boxed_below (boxed3 x2 (by omega) _ _ _) hW)).mono ?_
  rintro e w' ⟨rfl, rfl⟩
  exact ⟨rfl, 0, rfl⟩
set_option maxHeartbeats 2000000 in
set_option maxRecDepth 100000 in
theorem of_128 : OfCr 128 7 11 := fun w => by
  have hb0 := (Below.refl w.heap.size w).alloc (Nat.le_refl _) (.cells #[.int .i64 0, .int .i64 0, .nilFunc] 97)
  have HN := Aside0.mk (blk_new w (.cells #[.int .i64 0, .int .i64 0, .nilFunc] 97))
  have hs0 : (w.alloc (.cells #[.int .i64 0, .int .i64 0, .nilFunc] 97)).heap.size = w.heap.size + 1 := World.size_alloc w _
  have HB0 := Aside0.mk hb0
  have HS0 := Aside0.mk hs0
  clear hb0 hs0
  go_enter Try.func66, Try.ntmps66
  go_wp2_with (go_at_call 69; (with_reducible refine (cross_calls 7 11 7 _).mono ?_); rintro e w1 ⟨be, bm, rfl, hg, hx, hb⟩; (have HXX := Aside0.mk (And.intro hg hx)); (have hn := blk_below HN.out hb); (have HN1 := Aside0.mk hn); (have f0 := blk_frozen hn 0); (have f1 := blk_frozen hn 1); (have f2 := blk_frozen hn 2); (have c0 := (blk_cell hn 0).trans rfl); (have c1 := (blk_cell hn 1).trans rfl); (have c2 := (blk_cell hn 2).trans rfl); (have HB1 := Aside0.mk (below_step HB0.out hb)); clear hn hx hb hg)
  refine bodyPost_ret (results_of rfl _ _ w.heap.size 97 #[.int .i64 7, .int .i64 11, crFn be bm] (0, 0) _ rfl (sets3 HN1.out _ _ _) Try.underlying97 rfl setInfo) rfl ?_
  refine ⟨be, bm, rfl, fun W' hW lb hl => ?_, below3 HB1.out (Nat.le_refl _) _ _ _⟩
  obtain ⟨⟨g1, g2⟩, x1, x2⟩ := HXX.out
  have hs := HS0.out
  refine (crat_calls 11 7 (by decide) (by decide) lb (by omega) (crP 11 7 lb) (cr_128 ⟨lb, hl⟩) be bm W' (boxed_below (boxed3 x1 (by omega) _ _ _) hW) (boxed_below (boxed3 x2 (by omega) _ _ _) hW)).mono ?_
  rintro e w' ⟨rfl, rfl⟩
  exact ⟨rfl, 0, rfl⟩
set_option maxHeartbeats 2000000 in
set_option maxRecDepth 100000 in
theorem of_no (n : Int) (w : World) (h : n ≠ 4 ∧ n ≠ 16 ∧ n ≠ 32 ∧ n ≠ 64 ∧ n ≠ 128 ∧ n ≠ 256) : Calls Try.prog 66 #[.int .i64 n] w fun r w' => r = .returned (.tuple #[.agg #[.int .i64 0, .int .i64 0, .nilFunc], .bool false]) ∧ Below w.heap.size w w' := by
  obtain ⟨h1, h2, h3, h4, h5, h6⟩ := h
  have d1 : (n == 4) = false := by simpa using h1
  have d2 : (n == 16) = false := by simpa using h2
  have d3 : (n == 32) = false := by simpa using h3
  have d4 : (n == 64) = false := by simpa using h4
  have d5 : (n == 128) = false := by simpa using h5
  have d6 : (n == 256) = false := by simpa using h6
  have HB0 := Aside0.mk ((Below.refl w.heap.size w).alloc (Nat.le_refl _) (.cells #[.int .i64 0, .int .i64 0, .nilFunc] 97))
  have HN := Aside0.mk (blk_new w (.cells #[.int .i64 0, .int .i64 0, .nilFunc] 97))
  go_enter Try.func66, Try.ntmps66
  go_wp2
  refine bodyPost_ret (results_of rfl _ _ w.heap.size 97 #[.int .i64 0, .int .i64 0, .nilFunc] (0, 0) _ rfl HN.out Try.underlying97 rfl setInfo) rfl ?_
  exact ⟨rfl, HB0.out⟩
end Go.Proofs.Ytgmaiknbogcpgaa.Pure
