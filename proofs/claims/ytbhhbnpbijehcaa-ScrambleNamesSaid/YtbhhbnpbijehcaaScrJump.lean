/- Registers in memory: what becomes of a state's bits; Jump. -/
import Derived.Test.YtbhhbnpbijehcaaFogx0
import Derived.Test.YtbhhbnpbijehcaaScrRow
namespace Go.Proofs.Ytbhhbnpbijehcaa.Pure
open Go.RowKit Go.Proofs.Ytbhhbnpbijehcaa.Fog Go.Proofs.YtbhhbnpbijehcaaW.PrintWords Go.Proofs.YtbhhbnpbijehcaaW.PrintLast Go.Proofs.YtbhhbnpbijehcaaW.PrintMore
set_option linter.unusedVariables false
set_option linter.unusedSimpArgs false
/-- An array of 32 words. -/
def words32 (m : Nat → Nat) : Array Value := Array.ofFn fun i : Fin 32 => Value.int .u32 (m i.val : Int)
theorem words32_size (m : Nat → Nat) : (words32 m).size = 32 := by simp [words32]
theorem words32_get (m : Nat → Nat) (i : Nat) (h : i < 32) : (words32 m)[i]? = some (.int .u32 (m i : Int)) := by simp [words32, h]
theorem mof_lt (m : Nat → Nat) (hm : ∀ i, i < 32 → m i < 4294967296) (s : Nat) : ∀ k, k ≤ 32 → Go.Scr.mofN m k s < 2 ^ 32
  | 0, _ => by unfold Go.Scr.mofN; decide
  | k + 1, hk => by
    have ih := mof_lt m hm s k (by omega)
    unfold Go.Scr.mofN
    split
    · exact Nat.xor_lt_two_pow ih (hm k (by omega))
    · exact ih
theorem bitk_nat (s k : Nat) : (Go.bits .and .u32 ((s : Int) / 2 ^ k) 1 == 1) = s.testBit k := by
  have e : (s : Int) / 2 ^ k = ((s / 2 ^ k : Nat) : Int) := by rw [Int.natCast_ediv, Int.natCast_pow]; rfl
  rw [e, and1_nat, Nat.testBit_eq_decide_div_mod_eq]
  rcases Nat.mod_two_eq_zero_or_one (s / 2 ^ k) with h | h <;> simp [h]
set_option maxHeartbeats 4000000 in
set_option maxRecDepth 100000 in
theorem of_calls (m : Nat → Nat) (s : Nat) (w : World) (hm : ∀ i, i < 32 → m i < 4294967296) (hs : s < 4294967296) :
    Calls Try.prog 30 #[.agg (words32 m), .int .u32 (s : Int)] w fun e w' => e = .returned (.int .u32 (Go.Scr.mofN m 32 s : Int)) ∧ Below w.heap.size w w' := by
  obtain ⟨cs, hcs⟩ : ∃ cs, words32 m = cs := ⟨_, rfl⟩
  have hsz : cs.size = 32 := by rw [← hcs, words32_size]
  have HG := Aside0.mk (show ∀ i, i < 32 → cs[i]? = some (.int .u32 (m i : Int)) from fun i hi => by rw [← hcs]; exact words32_get m i hi)
  have HM := Aside0.mk hm
  rw [hcs]
  have HB := Aside0.mk (below_alloc (Below.refl w.heap.size w) (.cells cs 63))
  have HC := Aside0.mk (show ∀ i, i < 32 → (w.alloc (.cells cs 63)).cell? ⟨w.heap.size, i, none⟩ = some (.int .u32 (m i : Int)) from fun i hi => (blk_cell (blk_new w (.cells cs 63)) i).trans (HG.out i hi))
  clear hcs hm
  go_enter Try.func30, Try.ntmps30
  go_wp2
  obtain ⟨w1, hw1⟩ : ∃ w1, w.alloc (.cells cs 63) = w1 := ⟨_, rfl⟩
  rw [hw1] at HB HC ⊢
  clear hw1 HG
  obtain ⟨g, hg⟩ : ∃ g, w.heap.size = g := ⟨_, rfl⟩
  rw [hg] at HC HB ⊢
  go_loop [5, 7] (fun o i => ∃ k : Nat, k ≤ 32 ∧ i = .int .i64 (k : Int) ∧ o = .int .u32 (Go.Scr.mofN m k s : Int)) (fun _ i => 32 - (intOf i).toNat)
  case atStart => exact ⟨0, Nat.zero_le _, rfl, rfl⟩
  case round =>
    obtain ⟨k, hk, rfl, rfl⟩ := hrel
    by_cases hlt : k < 32
    · have q1 : (k : Int) < 32 := by omega
      obtain ⟨X, hX⟩ : ∃ X, Go.Scr.mofN m k s = X := ⟨_, rfl⟩
      have hXl : X < 4294967296 := by rw [← hX]; exact mof_lt m HM.out s k hk
      obtain ⟨Y, hY⟩ : ∃ Y, m k = Y := ⟨_, rfl⟩
      have hYl : Y < 4294967296 := by rw [← hY]; exact HM.out k hlt
      have hx := xor_nat X Y hXl hYl
      obtain ⟨Z, hZ⟩ : ∃ Z, X ^^^ Y = Z := ⟨_, rfl⟩
      rw [hZ] at hx
      have hc : w1.cell? ⟨g, k, none⟩ = some (.int .u32 (Y : Int)) := by rw [← hY]; exact HC.out k hlt
      have hbit := bitk_nat s k
      have hmin : min k 32 = k := by omega
      have HN := Aside0.mk (show Go.Scr.mofN m (k + 1) s = if s.testBit k then Z else X by
        rw [← hZ, ← hX, ← hY]; rfl)
      rw [hX]
      clear hX hY hZ hXl hYl
      by_cases hb : s.testBit k = true
      · rw [hb] at hbit
        have HBB := Aside0.mk hb
        clear hb
        go_wp2
        go_round
        case rel => exact ⟨k + 1, by omega, by go_num, by rw [HN.out, if_pos HBB.out]⟩
        case measure => simp [intOf]; omega
      · rw [Bool.not_eq_true] at hb
        rw [hb] at hbit
        have HBB := Aside0.mk hb
        clear hb
        go_wp2
        go_round
        case rel => exact ⟨k + 1, by omega, by go_num, by rw [HN.out, HBB.out]; rfl⟩
        case measure => simp [intOf]; omega
    · obtain rfl : k = 32 := by omega
      go_wp2
      go_ret
      exact ⟨rfl, HB.out⟩
theorem setRow_heap' (w : World) (g : Nat) (old cs : Array Value) (ty : TypeId) (h : w.heap[g]? = some (.cells old ty (0, 0))) : (w.setRow g cs).heap[g]? = some (.cells cs ty (0, 0)) := setRow_heap w g old cs ty _ h
theorem setCell_heap (w : World) (g k : Nat) (cs : Array Value) (ty : TypeId) (v : Value) (h : w.heap[g]? = some (.cells cs ty (0, 0))) : (w.setCell ⟨g, k, none⟩ v).heap[g]? = some (.cells (cs.setIfInBounds k v) ty (0, 0)) := by
  simp only [World.setCell, Array.getElem?_modify]
  rw [if_pos trivial, h]
  rfl
theorem below_row {B g : Nat} {w0 w : World} (hb : Below B w0 w) (hBg : B ≤ g) (cs : Array Value) : Below B w0 (w.setRow g cs) :=
  hb.trans ⟨rfl, rfl, rfl, by simp [World.setRow], fun k hk => setRow_other w g k cs (by omega)⟩
theorem words32_set (m : Nat → Nat) (k x : Nat) : (words32 m).setIfInBounds k (.int .u32 (x : Int)) = words32 (fun j => if j = k then x else m j) := by
  apply Array.ext
  · simp [words32_size]
  · intro i h1 h2
    have hi : i < (words32 m).size := by simpa using h1
    rw [Array.getElem_setIfInBounds hi]
    by_cases h : k = i
    · subst h; simp [words32]
    · have h' : ¬ i = k := fun e => h e.symm
      simp [words32, h, h']
theorem words32_one (m : Nat → Nat) : (words32 m).all (·.oneCell') = true := by
  rw [Array.all_eq_true]
  intro i h
  simp [words32, Value.oneCell']
theorem words32_congr (m n : Nat → Nat) (h : ∀ i, i < 32 → m i = n i) : words32 m = words32 n := by
  apply Array.ext
  · simp [words32_size]
  · intro i h1 h2
    have hi : i < 32 := by rw [words32_size] at h1; exact h1
    simp [words32, h i hi]
section quiet
variable {P : Program} {ops : Array Oper} {C : World → Prop}
/-- A whole array is loaded, in every world of the class. -/
theorem wpQuiet_load_row {Q : Act → Prop} {a : Act} {o : Oper} {rest : List Oper} (hgd : o.guard = none) (ty : TypeId) (x : Operand) (ho : o.op = .load ty x) (g : Nat) (hx : a.eval x = .pointer (some ⟨g, 0, none⟩)) (t : TypeId) (cs : Array Value) (fr : Nat × Nat) (d : TypeDesc)
    (hg : ∀ w, C w → w.heap[g]? = some (.cells cs t fr)) (hu : P.underlying ty = some d) (hd : (match d with | .struct _ | .array _ _ => true | _ => false) = true) (hi : (P.info? ty).map (·.size) = some cs.size)
    (h : wpQuiet P ops C Q rest (a.put o.dst (.agg cs))) : wpQuiet P ops C Q (o :: rest) a := by
  unfold wpQuiet
  rw [if_pos (by simp [Region.wanted, hgd])]
  refine ⟨_, fun w hw => ?_, h⟩
  unfold Oper.quietAt execOp
  simp only [ho, hx, Instr.loadAt, Instr.sureAddr, Sem.run_bind, Sem.run_pure, Result.andThen_ok, run_loadVar_row w g t ty cs fr d (hg w hw) hu hd hi]
  exact ⟨rfl, rfl⟩
end quiet
theorem third_new (w : World) (a b c : Obj) : (((w.alloc a).alloc b).alloc c).heap[w.heap.size + 1 + 1]? = some c := by
  have h := blk_new ((w.alloc a).alloc b) c
  rw [World.size_alloc, World.size_alloc] at h
  exact h
theorem second_new (w : World) (a b c : Obj) : (((w.alloc a).alloc b).alloc c).heap[w.heap.size + 1]? = some b := by
  have h := blk_new (w.alloc a) b
  rw [World.size_alloc] at h
  exact (Below.heap_alloc _ _ _ (by simp)).trans h
theorem first_new (w : World) (a b c : Obj) : (((w.alloc a).alloc b).alloc c).heap[w.heap.size]? = some a :=
  ((Below.heap_alloc _ _ _ (by simp; omega)).trans (Below.heap_alloc _ _ _ (by simp))).trans (blk_new w a)
theorem arr_size : (Try.prog.info? 63).map (·.size) = some 32 := by kernel_rfl
theorem regrown_block {w : World} {g : Nat} {o : Obj} (h : w.heap[g]? = some o) (w' : World) (hw : ∃ p : Regrown, w' = Sort.grow (redrawn w p.d) p.os) : w'.heap[g]? = some o := by
  obtain ⟨p, rfl⟩ := hw
  exact ((below_regrown w p.d p.os).block g (Array.getElem?_eq_some_iff.1 h).1).trans h
/-- Turned up to k. -/
def turned (f m : Nat → Nat) (k j : Nat) : Nat := if j < k then f j else m j
theorem turned_set (f m : Nat → Nat) (k : Nat) : words32 (fun j => if j = k then f k else turned f m k j) = words32 (turned f m (k + 1)) := by
  refine words32_congr _ _ fun i _ => ?_
  unfold turned
  by_cases h : i = k
  · subst h; simp
  · rw [if_neg h]
    by_cases h2 : i < k
    · rw [if_pos h2, if_pos (by omega)]
    · rw [if_neg h2, if_neg (by omega)]
set_option maxHeartbeats 4000000 in
set_option maxRecDepth 100000 in
theorem twice_calls (m : Nat → Nat) (w : World) (hm : ∀ i, i < 32 → m i < 4294967296) :
    Calls Try.prog 31 #[.agg (words32 m)] w fun e w' => e = .returned (.agg (words32 fun i => Go.Scr.mofN m 32 (m i))) ∧ Below w.heap.size w w' := by
  obtain ⟨cs, hcs⟩ : ∃ cs, words32 m = cs := ⟨_, rfl⟩
  have hsz : cs.size = 32 := by rw [← hcs, words32_size]
  have HCS := Aside0.mk hcs
  have HI := Aside0.mk (show (Try.prog.info? 63).map (·.size) = some cs.size from by rw [hsz]; exact arr_size)
  have HS := Aside0.mk hsz
  have H1 := Aside0.mk (show cs.all (·.oneCell') = true by rw [← hcs]; exact words32_one m)
  have HG := Aside0.mk (show ∀ i, i < 32 → cs[i]? = some (.int .u32 (m i : Int)) from fun i hi => by rw [← hcs]; exact words32_get m i hi)
  have HM := Aside0.mk hm
  have HT := Aside0.mk (show words32 m = words32 (turned (fun j => Go.Scr.mofN m 32 (m j)) m 0) from words32_congr _ _ fun i _ => by unfold turned; rw [if_neg (by omega)])
  rw [hcs]
  clear hcs hm hsz
  obtain ⟨ty, hty⟩ : ∃ ty : TypeId, ty = 63 := ⟨_, rfl⟩
  have HL1 := Aside0.mk (show ∀ o : Obj, ((w.alloc (.cells cs 63)).alloc o).heap[w.heap.size]? = some (.cells cs 63 (0, 0)) from fun o => (Below.heap_alloc _ _ _ (by simp)).trans (blk_new w _))
  have hsz := HS.out
  clear hty
  go_enter Try.func31, Try.ntmps31
  go_wp2_with (first
    | ((with_reducible refine gate_dst (N := 5) rfl ?_); refine wpList_load_row rfl 63 (.tmp 1) rfl w.heap.size rfl 63 cs (0, 0) _ (HL1.out _) Try.underlying63 rfl HI.out ?_)
    | ((with_reducible refine gate_store (t := 63) (p := 3) rfl ?_); (refine wpList_store_row rfl 63 (.tmp 3) (.tmp 5) rfl _ cs rfl rfl 63 _ (third_new _ _ _ _) HI.out (HS.out.symm) H1.out ?_)))
  obtain ⟨X0, hX0⟩ : ∃ X0, ((w.alloc (.cells cs 63)).alloc (.cells (words32 fun _ => 0) 63)).alloc (.cells (words32 fun _ => 0) 63) = X0 := ⟨_, rfl⟩
  have HB0 := Aside0.mk (show Below w.heap.size w X0 from hX0 ▸ ((Below.refl w.heap.size w).alloc (Nat.le_refl _) _ |>.alloc (by simp) _ |>.alloc (by simp; omega) _))
  have HA := Aside0.mk (show X0.heap[w.heap.size]? = _ from hX0 ▸ first_new w _ _ _)
  have HBb := Aside0.mk (show X0.heap[w.heap.size + 1]? = _ from hX0 ▸ second_new w _ _ _)
  have HCc := Aside0.mk (show X0.heap[w.heap.size + 1 + 1]? = _ from hX0 ▸ third_new w _ _ _)
  change Code.wp _ _ _ _ ((((w.alloc (.cells cs 63)).alloc (.cells (words32 fun _ => 0) 63)).alloc (.cells (words32 fun _ => 0) 63)).setRow (w.heap.size + 1 + 1) cs)
  rw [hX0]
  clear hX0
  obtain ⟨g, hg⟩ : ∃ g, w.heap.size = g := ⟨_, rfl⟩
  rw [hg] at HB0 HA HBb HCc ⊢
  have HA1 := Aside0.mk ((setRow_other X0 (g + 1 + 1) g cs (by omega)).trans HA.out)
  have HB1 := Aside0.mk ((setRow_other X0 (g + 1 + 1) (g + 1) cs (by omega)).trans HBb.out)
  have HC1 := Aside0.mk (setRow_heap' X0 (g + 1 + 1) _ cs _ HCc.out)
  have HD1 := Aside0.mk (below_row HB0.out (show g ≤ g + 1 + 1 by omega) cs)
  obtain ⟨X1, hX1⟩ : ∃ X1, X0.setRow (g + 1 + 1) cs = X1 := ⟨_, rfl⟩
  rw [hX1] at HA1 HB1 HC1 HD1 ⊢
  have HC1' := Aside0.mk (show X1.heap[g + 1 + 1]? = some (.cells (words32 (turned (fun j => Go.Scr.mofN m 32 (m j)) m 0)) 63) by rw [← HT.out, HCS.out]; exact HC1.out)
  clear hX1 HA HBb HCc HB0
  obtain ⟨Z2, hZ2⟩ : ∃ Z2, words32 (fun _ => 0) = Z2 := ⟨_, rfl⟩
  have HZ := Aside0.mk (show Z2.size = 32 by rw [← hZ2, words32_size])
  rw [hZ2] at HB1
  go_loopw [6] (fun i wr => ∃ k : Nat, k ≤ 32 ∧ i = .int .i64 (k : Int) ∧ Aside0 (wr.heap[g]? = some (.cells cs 63)) ∧ Aside0 (wr.heap[g + 1]? = some (.cells Z2 63)) ∧ Aside0 (wr.heap[g + 1 + 1]? = some (.cells (words32 (turned (fun j => Go.Scr.mofN m 32 (m j)) m k)) 63)) ∧ Aside0 (Below g w wr)) (fun i _ => 32 - (intOf i).toNat)
  case atStart => exact ⟨0, Nat.zero_le _, rfl, HA1, HB1, HC1', HD1⟩
  case round =>
    obtain ⟨k, hk, rfl, HA2, HB2, HC2, HD2⟩ := hrel
    by_cases hlt : k < 32
    · have q1 : (k : Int) < 32 := by omega
      have hc := cell_regrown (show wr.cell? ⟨g, k, none⟩ = some (.int .u32 (m k : Int)) from (blk_cell HA2.out k).trans (HG.out k hlt))
      have HOF := Aside0.mk (show ∀ d os, Calls Try.prog 30 #[.agg cs, .int .u32 (m k : Int)] (Sort.grow (redrawn wr d) os) fun e w'' => e = .returned (.int .u32 (Go.Scr.mofN m 32 (m k) : Int)) ∧ ∃ p : Regrown, w'' = Sort.grow (redrawn wr p.d) p.os from fun d os => Calls.regrown_of (by rw [← HCS.out]; exact of_calls m (m k) _ HM.out (HM.out k hlt)))
      go_wp2
      refine QTail.wp_region_below_tail 7 (by kernel_rfl) (by kernel_rfl) ?_
      simp only [List.take_succ_cons, List.take_zero, List.drop_succ_cons, List.drop_zero]
      repeat (first | (refine wpQuiet_load_row rfl 63 (.tmp 1) rfl g rfl 63 cs (0, 0) _ (regrown_block HA2.out) Try.underlying63 rfl HI.out ?_) | (quiet_step (exact HOF.out _ _)))
      refine wpQuiet_nil ?_
      rintro _ ⟨p, rfl⟩
      have HXB := Aside0.mk (below_regrown wr p.d p.os)
      obtain ⟨X, hX⟩ : ∃ X, Sort.grow (redrawn wr p.d) p.os = X := ⟨_, rfl⟩
      rw [hX] at HXB ⊢
      clear hX hc
      have HX3 := Aside0.mk ((HXB.out.block (g + 1 + 1) (Array.getElem?_eq_some_iff.1 HC2.out).1).trans HC2.out)
      have c3 : X.cell? ⟨g + 1 + 1, k, none⟩ = some (.int .u32 (turned (fun j => Go.Scr.mofN m 32 (m j)) m k k : Int)) := (blk_cell HX3.out k).trans (words32_get _ k hlt)
      have f3 : X.frozen? ⟨g + 1 + 1, k, none⟩ = false := blk_frozen HX3.out k
      go_wp2
      go_roundw
      case rel =>
        refine ⟨k + 1, by omega, by go_num, ⟨?_⟩, ⟨?_⟩, ⟨?_⟩, ⟨?_⟩⟩
        · exact (Below.heap_setCell _ _ _ g (by show g ≠ g + 1 + 1; omega)).trans ((HXB.out.block g (Array.getElem?_eq_some_iff.1 HA2.out).1).trans HA2.out)
        · exact (Below.heap_setCell _ _ _ (g + 1) (by show g + 1 ≠ g + 1 + 1; omega)).trans ((HXB.out.block (g + 1) (Array.getElem?_eq_some_iff.1 HB2.out).1).trans HB2.out)
        · have h := setCell_heap X (g + 1 + 1) k _ _ (.int .u32 (Go.Scr.mofN m 32 (m k) : Int)) HX3.out
          rw [words32_set, turned_set (fun j => Go.Scr.mofN m 32 (m j)) m k] at h
          exact h
        · exact (HD2.out.trans (HXB.out.mono (Nat.le_of_lt (Array.getElem?_eq_some_iff.1 HA2.out).1))).setCell (p := ⟨g + 1 + 1, k, none⟩) (show g ≤ g + 1 + 1 by omega) _
      case measure => simp [intOf]; omega
    · obtain rfl : k = 32 := by omega
      obtain ⟨C3, hC3⟩ : ∃ C3, words32 (turned (fun j => Go.Scr.mofN m 32 (m j)) m 32) = C3 := ⟨_, rfl⟩
      have HFIN := Aside0.mk (show C3 = words32 (fun i => Go.Scr.mofN m 32 (m i)) by
        rw [← hC3]
        exact words32_congr _ _ fun i hi => by unfold turned; rw [if_pos hi])
      have H31 := Aside0.mk (show C3.all (·.oneCell') = true by rw [← hC3]; exact words32_one _)
      have H3S := Aside0.mk (show C3.size = 32 by rw [← hC3, words32_size])
      have H3I := Aside0.mk (show (Try.prog.info? 63).map (·.size) = some C3.size from by rw [H3S.out]; exact arr_size)
      rw [hC3] at HC2
      clear hC3
      go_wp2_with (first
        | ((with_reducible refine gate_dst (N := 17) rfl ?_); refine wpList_load_row rfl 63 (.tmp 3) rfl (g + 1 + 1) rfl 63 C3 (0, 0) _ HC2.out Try.underlying63 rfl H3I.out ?_)
        | ((with_reducible refine gate_store (t := 63) (p := 2) rfl ?_); refine wpList_store_row rfl 63 (.tmp 2) (.tmp 17) rfl (g + 1) C3 rfl rfl 63 _ HB2.out H3I.out (HZ.out.trans H3S.out.symm) H31.out ?_))
      refine bodyPost_ret (results_cell_row rfl _ _ (g + 1) 63 C3 (0, 0) _ rfl (setRow_heap' _ _ _ _ _ HB2.out) Try.underlying63 rfl H3I.out) rfl ?_
      rw [HFIN.out]
      exact ⟨rfl, hg.symm ▸ below_row HD2.out (show g ≤ g + 1 by omega) _⟩
def onlyN (Q : Act → World → Prop) : Exit → Act → World → Prop
  | .normal, a, w => Q a w
  | _, _, _ => False
theorem wp_join {P : Program} {c : Code} {Q0 : Exit → Act → World → Prop} {a a1 : Act} {w W1 : World} (h : ∀ Q : Act → World → Prop, Q a1 W1 → c.wp P (onlyN Q) a w) (k : Q0 .normal a1 W1) : c.wp P Q0 a w :=
  wp_mono (h (fun a' w' => a' = a1 ∧ w' = W1) ⟨rfl, rfl⟩) fun e a' w' hq => by
    cases e <;> first | (obtain ⟨rfl, rfl⟩ := hq; exact k) | exact hq.elim
theorem Moved.row {b g : Nat} {u v : World} (h : Moved b u v) (hg : u.heap.size ≤ g) (cs : Array Value) : Moved b u (v.setRow g cs) :=
  ⟨h.os, h.tape, h.output, by simpa [World.setRow] using h.size, fun i hi hb => (setRow_other v g i cs (by omega)).trans (h.block i hi hb)⟩
theorem and1_u64 (x : Nat) (h : x < 18446744073709551616) : Go.bits .and .u64 (x : Int) 1 = ((x % 2 : Nat) : Int) := by
  show IntKind.u64.wrap (((BitVec.ofInt 64 (x : Int) &&& BitVec.ofInt 64 1).toNat : Nat) : Int) = _
  have h : (BitVec.ofInt 64 (x : Int) &&& BitVec.ofInt 64 1).toNat = x % 2 := by
    rw [BitVec.toNat_and, show (BitVec.ofInt 64 1).toNat = 2 ^ 1 - 1 by decide, Nat.and_two_pow_sub_one_eq_mod, BitVec.ofInt_natCast, BitVec.toNat_ofNat, Nat.mod_mod_of_dvd _ (by decide)]
  rw [h]
  simp [IntKind.wrap, IntKind.signed, IntKind.bits]
  omega
/-- One step this way or that. -/
def oneStep (W t : Nat) (n : Int) : Nat → Nat := if n < 0 then Go.Scr.back W t else Go.Scr.step W t
theorem oneStep_lin {W t : Nat} (n : Int) (hW : 2 ≤ W) : Go.Scr.Lin W (oneStep W t n) := by
  unfold oneStep
  split
  · exact Go.Scr.lin_back W t hW
  · exact Go.Scr.lin_step W t hW
set_option maxHeartbeats 8000000 in
set_option maxRecDepth 100000 in
theorem jump_calls (b W t s : Nat) (n : Int) (w : World) (h : Reg w b W t s) (hW : 2 ≤ W ∧ W ≤ 32) (hs : s < 2 ^ W) (ht : t < 4294967296) (hn0 : -9223372036854775808 ≤ n) (hn1 : n ≤ 9223372036854775807) :
    Calls Try.prog 14 #[.pointer (some ⟨b, 0, none⟩), .int .i64 n] w fun e w' => e = .returned (.int .i64 0) ∧ Reg w' b W t (Go.Scr.jump W t n s) ∧ Moved b w w' := by
  have HREG := Aside0.mk h
  have HW := Aside0.mk hW
  have HSS := Aside0.mk hs
  have HT := Aside0.mk ht
  obtain ⟨F, hF⟩ : ∃ F, oneStep W t n = F := ⟨_, rfl⟩
  have HF := Aside0.mk hF
  have HLIN := Aside0.mk (show Go.Scr.Lin W F from hF ▸ oneStep_lin n hW.1)
  have HGO := Aside0.mk (show Go.Scr.jump W t n s = Go.Scr.iter F n.natAbs s by rw [← hF]; unfold Go.Scr.jump oneStep; split <;> rfl)
  have c0 : ∀ o, (w.alloc o).cell? ⟨b, 0, none⟩ = some (.int .i64 (W : Int)) := fun o => (show Reg (w.alloc o) b W t s from (Below.heap_alloc _ _ _ h.lt).trans h).c0
  have HLT := Aside0.mk h.lt
  clear h hs ht hF
  go_enter Try.func14, Try.ntmps14
  go_wp2
  obtain ⟨w0, hw0⟩ : ∃ w0, w.alloc (.cells (words32 fun _ => 0) 63) = w0 := ⟨_, rfl⟩
  have HB0 := Aside0.mk (show Below w.heap.size w w0 from hw0 ▸ (Below.refl w.heap.size w).alloc (Nat.le_refl _) _)
  have HA0 := Aside0.mk (show w0.heap[w.heap.size]? = some (.cells (words32 (turned (fun j => F (2 ^ j)) (fun _ => 0) 0)) 63) from hw0 ▸ (by
    rw [show words32 (turned (fun j => F (2 ^ j)) (fun _ => 0) 0) = words32 (fun _ => 0) from words32_congr _ _ fun i _ => by unfold turned; rw [if_neg (by omega)]]
    exact blk_new w _))
  change Code.wp _ _ _ _ (w.alloc (.cells (words32 fun _ => 0) 63))
  rw [hw0]
  obtain ⟨g, hg⟩ : ∃ g, w.heap.size = g := ⟨_, rfl⟩
  rw [hg] at HB0 HA0 HLT ⊢
  clear hw0
  go_loopw [15] (fun i wr => ∃ k : Nat, k ≤ W ∧ i = .int .i64 (k : Int) ∧ Aside0 (wr.heap[g]? = some (.cells (words32 (turned (fun j => F (2 ^ j)) (fun _ => 0) k)) 63)) ∧ Aside0 (Below g w wr)) (fun i _ => W - (intOf i).toNat)
  case atStart => exact ⟨0, Nat.zero_le _, rfl, HA0, HB0⟩
  case round =>
    obtain ⟨k, hk, rfl, HA, HB⟩ := hrel
    by_cases hlt : k < W
    · have q1 : (k : Int) < (W : Int) := by omega
      have HR := Aside0.mk (show Reg wr b W t s from (HB.out.block b HLT.out).trans HREG.out)
      have r0 := HR.out.c0
      have r1 := HR.out.c1
      obtain ⟨P, hP⟩ : ∃ P, 2 ^ k = P := ⟨_, rfl⟩
      have q2 : IntKind.u32.wrap ((2 : Int) ^ k) = (P : Int) := by
        have h2 : 2 ^ k ≤ 2 ^ 31 := Nat.pow_le_pow_right (by decide) (by have := HW.out; omega)
        have h3 : ((2 ^ k : Nat) : Int) = (2 : Int) ^ k := by rw [Int.natCast_pow]; rfl
        rw [← h3, hP]
        simp [IntKind.wrap, IntKind.signed, IntKind.bits]
        omega
      have HPW := Aside0.mk (show P < 2 ^ W from hP ▸ Nat.pow_lt_pow_right (by decide) hlt)
      have r0' : ∀ o, (wr.alloc o).cell? ⟨b, 0, none⟩ = some (.int .i64 (W : Int)) := fun o => (show Reg (wr.alloc o) b W t s from (Below.heap_alloc _ _ _ HR.out.lt).trans HR.out).c0
      have r1' : ∀ o, (wr.alloc o).cell? ⟨b, 1, none⟩ = some (.int .u32 (t : Int)) := fun o => (show Reg (wr.alloc o) b W t s from (Below.heap_alloc _ _ _ HR.out.lt).trans HR.out).c1
      go_wp2
      apply wp_join (W1 := (wr.alloc (.cells #[.int .i64 (W : Int), .int .u32 (t : Int), .int .u32 (P : Int)] 60)).drew)
      · intro Q hQ
        go_region_with (fail)
        all_goals exact hQ
      have HR1 := Aside0.mk (show Reg (wr.alloc (.cells #[.int .i64 (W : Int), .int .u32 (t : Int), .int .u32 (P : Int)] 60)).drew wr.heap.size W t P from blk_new wr _)
      have HB1 := Aside0.mk ((Below.refl wr.heap.size wr).alloc (Nat.le_refl _) (.cells #[.int .i64 (W : Int), .int .u32 (t : Int), .int .u32 (P : Int)] 60) |>.drew)
      obtain ⟨X, hX⟩ : ∃ X, (wr.alloc (.cells #[.int .i64 (W : Int), .int .u32 (t : Int), .int .u32 (P : Int)] 60)).drew = X := ⟨_, rfl⟩
      rw [hX] at HR1 HB1 ⊢
      clear hX r0' r1' r0 r1 q2
      have HP := Aside0.mk hP
      have hk32 : k < 32 := by have := HW.out; omega
      clear hP
      by_cases hneg : n < 0
      · have HFF := Aside0.mk (show F P = Go.Scr.back W t P by rw [← HF.out]; unfold oneStep; rw [if_pos hneg])
        go_wp2_with (go_at_call 15; (with_reducible refine (back_low wr.heap.size W t P _ HR1.out HW.out HPW.out HT.out).mono ?_); rintro e w3 ⟨rfl, hr3, hm3⟩; rw [← HFF.out] at hr3; have HR3 := Aside0.mk hr3; have HB3 := Aside0.mk (HB1.out.trans (hm3.below (Nat.le_refl _) HB1.out.size)); have x2 := hr3.c2; (have HA3 := Aside0.mk (blk_below HA.out HB3.out)); (have y3 : w3.cell? ⟨g, k, none⟩ = some (.int .u32 (turned (fun j => F (2 ^ j)) (fun _ => 0) k k : Int)) := (blk_cell HA3.out k).trans (words32_get _ k hk32)); (have f3 : w3.frozen? ⟨g, k, none⟩ = false := blk_frozen HA3.out k); clear hr3 hm3)
        go_roundw
        case rel =>
          refine ⟨k + 1, by omega, by go_num, ⟨?_⟩, ⟨(HB.out.trans (HB3.out.mono (by have := HB.out.size; omega))).setCell (p := ⟨g, k, none⟩) (Nat.le_refl g) _⟩⟩
          have h := setCell_heap w3 g k _ _ (.int .u32 (F P : Int)) HA3.out
          rw [← HP.out, words32_set, turned_set (fun j => F (2 ^ j)) (fun _ => 0) k] at h
          rw [← HP.out]
          exact h
        case measure => simp [intOf]; omega
      · have HFF := Aside0.mk (show F P = Go.Scr.step W t P by rw [← HF.out]; unfold oneStep; rw [if_neg hneg])
        have HP32 := Aside0.mk (show P < 4294967296 from Nat.lt_of_lt_of_le HPW.out (Nat.pow_le_pow_right (by decide) HW.out.2))
        go_wp2_with (go_at_call 13; (with_reducible refine (next_low wr.heap.size W t P _ HR1.out HW.out HP32.out HT.out).mono ?_); rintro e w3 ⟨rfl, hr3, hm3⟩; rw [← HFF.out] at hr3; have HR3 := Aside0.mk hr3; have HB3 := Aside0.mk (HB1.out.trans (hm3.below (Nat.le_refl _) HB1.out.size)); have x2 := hr3.c2; (have HA3 := Aside0.mk (blk_below HA.out HB3.out)); (have y3 : w3.cell? ⟨g, k, none⟩ = some (.int .u32 (turned (fun j => F (2 ^ j)) (fun _ => 0) k k : Int)) := (blk_cell HA3.out k).trans (words32_get _ k hk32)); (have f3 : w3.frozen? ⟨g, k, none⟩ = false := blk_frozen HA3.out k); clear hr3 hm3)
        go_roundw
        case rel =>
          refine ⟨k + 1, by omega, by go_num, ⟨?_⟩, ⟨(HB.out.trans (HB3.out.mono (by have := HB.out.size; omega))).setCell (p := ⟨g, k, none⟩) (Nat.le_refl g) _⟩⟩
          have h := setCell_heap w3 g k _ _ (.int .u32 (F P : Int)) HA3.out
          rw [← HP.out, words32_set, turned_set (fun j => F (2 ^ j)) (fun _ => 0) k] at h
          rw [← HP.out]
          exact h
        case measure => simp [intOf]; omega
    · obtain ⟨k', hk'⟩ : ∃ k', k = k' := ⟨_, rfl⟩
      have hkW : k = W := by omega
      have HSM := Aside0.mk (show ∀ i, i < W → turned (fun j => F (2 ^ j)) (fun _ => 0) k i = F (2 ^ i) from fun i hi => by unfold turned; rw [if_pos (by omega)])
      have HSL := Aside0.mk (show ∀ i, i < 32 → turned (fun j => F (2 ^ j)) (fun _ => 0) k i < 4294967296 from fun i hi => by
        unfold turned
        split
        · exact Nat.lt_of_lt_of_le (HLIN.out.lt _ (Nat.pow_lt_pow_right (by decide) (by omega))) (Nat.pow_le_pow_right (by decide) HW.out.2)
        · show (0 : Nat) < 4294967296; decide)
      have HRW := Aside0.mk (show Reg wr b W t s from (HB.out.block b HLT.out).trans HREG.out)
      have HMW := Aside0.mk (show Moved b w wr from Moved.of_below HB.out (by omega))
      have hkk : ¬ (k : Int) < (W : Int) := by omega
      clear hk' hkW
      obtain ⟨wo, rfl⟩ : ∃ wo : World, wo = wr := ⟨_, rfl⟩
      by_cases hneg : n < 0
      · -- N
        obtain ⟨V, hV⟩ : ∃ V : Nat, (V : Int) = n + 18446744073709551616 := ⟨(n + 18446744073709551616).toNat, by omega⟩
        obtain ⟨NA, hNA⟩ : ∃ NA : Nat, n.natAbs = NA := ⟨_, rfl⟩
        have hu1 : IntKind.u64.wrap n = (V : Int) := by simp [IntKind.wrap, IntKind.signed, IntKind.bits]; omega
        have hu2 : IntKind.u64.wrap (-(V : Int)) = (NA : Int) := by simp [IntKind.wrap, IntKind.signed, IntKind.bits]; omega
        have HNA := Aside0.mk hNA
        clear hV
        go_wp2
        clear hu1 hu2 hNA
        go_loopw [8] (fun c wr => ∃ (N st : Nat) (f m : Nat → Nat), c = .int .u64 (N : Int) ∧ Aside0 (N < 18446744073709551616) ∧ Aside0 (Go.Scr.Lin W f) ∧ Aside0 (∀ i, i < W → m i = f (2 ^ i)) ∧ Aside0 (∀ i, i < 32 → m i < 4294967296) ∧ Aside0 (st < 2 ^ W) ∧ Aside0 (Go.Scr.iter f N st = Go.Scr.iter F n.natAbs s) ∧ Aside0 (wr.heap[g]? = some (.cells (words32 m) 63)) ∧ Aside0 (Reg wr b W t st) ∧ Aside0 (Moved b w wr)) (fun c _ => (intOf c).toNat)
        case atStart => exact ⟨NA, s, F, _, rfl, ⟨by have := HNA.out; omega⟩, HLIN, HSM, HSL, HSS, ⟨by rw [HNA.out]⟩, HA, HRW, HMW⟩
        case round =>
          obtain ⟨N, st, f, m, rfl, HN, HL, HME, HML, HSL2, HGOAL, HAG, HRG, HMG⟩ := hrel
          obtain ⟨cs, hcs⟩ : ∃ cs, words32 m = cs := ⟨_, rfl⟩
          by_cases h0 : N = 0
          · subst h0
            clear hcs
            have HFIN := Aside0.mk (show st = Go.Scr.jump W t n s by rw [HGO.out, ← HGOAL.out]; rfl)
            go_wp2
            go_ret
            rw [← HFIN.out]
            exact ⟨rfl, HRG.out, HMG.out⟩
          · have hpos : 0 < (N : Int) := by omega
            obtain ⟨M, hM⟩ : ∃ M, N / 2 = M := ⟨_, rfl⟩
            have hdiv : (N : Int) / 2 = (M : Int) := by omega
            have HMM2 := Aside0.mk (show M < N ∧ M < 18446744073709551616 by have := HN.out; omega)
            have hpar := and1_u64 N HN.out
            obtain ⟨cs2, hcs2⟩ : ∃ cs2, words32 (fun i => Go.Scr.mofN m 32 (m i)) = cs2 := ⟨_, rfl⟩
            have HC2 := Aside0.mk hcs2
            have HTW := Aside0.mk (show ∀ w, Calls Try.prog 31 #[.agg cs] w fun e w' => e = .returned (.agg cs2) ∧ Below w.heap.size w w' from fun w => by rw [← hcs, ← hcs2]; exact twice_calls m w HML.out)
            have HI := Aside0.mk (show (Try.prog.info? 63).map (·.size) = some cs.size from by rw [← hcs, words32_size]; exact arr_size)
            have H2I := Aside0.mk (show (Try.prog.info? 63).map (·.size) = some cs2.size from by rw [← hcs2, words32_size]; exact arr_size)
            have H21 := Aside0.mk (show cs2.all (·.oneCell') = true by rw [← hcs2]; exact words32_one _)
            have HSZ := Aside0.mk (show cs.size = cs2.size by rw [← hcs, ← hcs2, words32_size, words32_size])
            have HL2 := Aside0.mk (HL.out.comp HL.out)
            have HM2 := Aside0.mk (show ∀ i, i < W → Go.Scr.mofN m 32 (m i) = f (f (2 ^ i)) from fun i hi => by
              rw [HME.out i hi, Go.Scr.mofN_all W f m HW.out.2 HL.out HME.out _ (HL.out.lt _ (Nat.pow_lt_pow_right (by decide) hi))])
            have HM32 := Aside0.mk (show ∀ i, i < 32 → Go.Scr.mofN m 32 (m i) < 4294967296 from fun i hi => mof_lt m HML.out (m i) 32 (Nat.le_refl _))
            rw [hcs] at HAG
            have hgb : b ≠ g := by have := HLT.out; omega
            rcases Nat.mod_two_eq_zero_or_one N with hp | hp
            · rw [hp] at hpar
              obtain ⟨ST, hST⟩ : ∃ ST, st = ST := ⟨_, rfl⟩
              subst hST
              have HIT := Aside0.mk (show Go.Scr.iter (fun x => f (f x)) M st = Go.Scr.iter F n.natAbs s by rw [← HGOAL.out, Go.Scr.iter_even f N st hp, hM])
              have HGR := HAG
              have HRR := HRG
              have HMM := HMG
              have HST := HSL2
              clear hcs hcs2 hM
              go_wp2_with (first
                | ((with_reducible refine gate_dst (N := 60) rfl ?_); refine wpList_load_row rfl 63 (.tmp 5) rfl g rfl 63 cs (0, 0) _ HGR.out Try.underlying63 rfl HI.out ?_)
                | (go_at_call 31; (with_reducible refine (HTW.out _).mono ?_); rintro e w4 ⟨rfl, hb4⟩; have HG4 := Aside0.mk (blk_below HGR.out hb4); (have HR4 := Aside0.mk (HRR.out.at_below hb4)); (have HM4 := Aside0.mk (HMM.out.step hb4)); clear hb4)
                | ((with_reducible refine gate_store (t := 63) (p := 5) rfl ?_); refine wpList_store_row rfl 63 (.tmp 5) (.tmp 61) rfl g cs2 rfl rfl 63 cs HG4.out H2I.out HSZ.out H21.out ?_))
              go_roundw
              case rel => exact ⟨M, _, fun x => f (f x), _, by go_num, ⟨HMM2.out.2⟩, ⟨HL2.out⟩, ⟨HM2.out⟩, ⟨HM32.out⟩, ⟨HST.out⟩, ⟨HIT.out⟩, ⟨HC2.out ▸ setRow_heap' _ _ _ _ _ HG4.out⟩, ⟨(setRow_other w4 g b cs2 (by have := HLT.out; omega)).trans HR4.out⟩, ⟨HM4.out.row (by omega) _⟩⟩
              case measure => have := HMM2.out.1; simp [intOf]; omega
            · rw [hp] at hpar
              obtain ⟨ST, hST⟩ : ∃ ST, f st = ST := ⟨_, rfl⟩
              have HST := Aside0.mk (show ST < 2 ^ W from hST ▸ HL.out.lt _ HSL2.out)
              have HIT := Aside0.mk (show Go.Scr.iter (fun x => f (f x)) M ST = Go.Scr.iter F n.natAbs s by rw [← HGOAL.out, Go.Scr.iter_odd f N st hp, hST, hM])
              have HOF := Aside0.mk (show ∀ d os, Calls Try.prog 30 #[.agg cs, .int .u32 (st : Int)] (Sort.grow (redrawn wr d) os) fun e w'' => e = .returned (.int .u32 (ST : Int)) ∧ ∃ p : Regrown, w'' = Sort.grow (redrawn wr p.d) p.os from fun d os => Calls.regrown_of (by
                have h := of_calls m st (Sort.grow (redrawn wr d) os) HML.out (Nat.lt_of_lt_of_le HSL2.out (Nat.pow_le_pow_right (by decide) HW.out.2))
                rw [Go.Scr.mofN_all W f m HW.out.2 HL.out HME.out st HSL2.out, hST, hcs] at h
                exact h))
              have hc := cell_regrown HRG.out.c2
              clear hcs hcs2 hST hM
              go_wp2
              refine QTail.wp_region_below_tail 9 (by kernel_rfl) (by kernel_rfl) ?_
              simp only [List.take_succ_cons, List.take_zero, List.drop_succ_cons, List.drop_zero]
              repeat (first | (refine wpQuiet_load_row rfl 63 (.tmp 5) rfl g rfl 63 cs (0, 0) _ (regrown_block HAG.out) Try.underlying63 rfl HI.out ?_) | (quiet_step (exact HOF.out _ _)))
              refine wpQuiet_nil ?_
              rintro _ ⟨p, rfl⟩
              have HXB := Aside0.mk (below_regrown wr p.d p.os)
              obtain ⟨X, hX⟩ : ∃ X, Sort.grow (redrawn wr p.d) p.os = X := ⟨_, rfl⟩
              rw [hX] at HXB ⊢
              clear hX hc
              have HRX := Aside0.mk (HRG.out.at_below HXB.out)
              have c3 := HRX.out.c2
              have f3 := HRX.out.frozen
              have HGR := Aside0.mk (show (X.setCell ⟨b, 2, none⟩ (.int .u32 (ST : Int))).heap[g]? = some (.cells cs 63) from (Below.heap_setCell _ _ _ g (Ne.symm hgb)).trans (blk_below HAG.out HXB.out))
              have HRR := Aside0.mk (HRX.out.store ST)
              have HMM := Aside0.mk ((HMG.out.step HXB.out).trans (moved_store HRX.out 0 (.int .u32 (ST : Int))))
              go_wp2_with (first
                | ((with_reducible refine gate_dst (N := 60) rfl ?_); refine wpList_load_row rfl 63 (.tmp 5) rfl g rfl 63 cs (0, 0) _ HGR.out Try.underlying63 rfl HI.out ?_)
                | (go_at_call 31; (with_reducible refine (HTW.out _).mono ?_); rintro e w4 ⟨rfl, hb4⟩; have HG4 := Aside0.mk (blk_below HGR.out hb4); (have HR4 := Aside0.mk (HRR.out.at_below hb4)); (have HM4 := Aside0.mk (HMM.out.step hb4)); clear hb4)
                | ((with_reducible refine gate_store (t := 63) (p := 5) rfl ?_); refine wpList_store_row rfl 63 (.tmp 5) (.tmp 61) rfl g cs2 rfl rfl 63 cs HG4.out H2I.out HSZ.out H21.out ?_))
              go_roundw
              case rel => exact ⟨M, _, fun x => f (f x), _, by go_num, ⟨HMM2.out.2⟩, ⟨HL2.out⟩, ⟨HM2.out⟩, ⟨HM32.out⟩, ⟨HST.out⟩, ⟨HIT.out⟩, ⟨HC2.out ▸ setRow_heap' _ _ _ _ _ HG4.out⟩, ⟨(setRow_other w4 g b cs2 (by have := HLT.out; omega)).trans HR4.out⟩, ⟨HM4.out.row (by omega) _⟩⟩
              case measure => have := HMM2.out.1; simp [intOf]; omega
      · -- P
        obtain ⟨NA, hNA⟩ : ∃ NA : Nat, n.natAbs = NA := ⟨_, rfl⟩
        have hu1 : IntKind.u64.wrap n = (NA : Int) := by simp [IntKind.wrap, IntKind.signed, IntKind.bits]; omega
        have HNA := Aside0.mk hNA
        go_wp2
        clear hu1 hNA
        go_loopw [8] (fun c wr => ∃ (N st : Nat) (f m : Nat → Nat), c = .int .u64 (N : Int) ∧ Aside0 (N < 18446744073709551616) ∧ Aside0 (Go.Scr.Lin W f) ∧ Aside0 (∀ i, i < W → m i = f (2 ^ i)) ∧ Aside0 (∀ i, i < 32 → m i < 4294967296) ∧ Aside0 (st < 2 ^ W) ∧ Aside0 (Go.Scr.iter f N st = Go.Scr.iter F n.natAbs s) ∧ Aside0 (wr.heap[g]? = some (.cells (words32 m) 63)) ∧ Aside0 (Reg wr b W t st) ∧ Aside0 (Moved b w wr)) (fun c _ => (intOf c).toNat)
        case atStart => exact ⟨NA, s, F, _, rfl, ⟨by have := HNA.out; omega⟩, HLIN, HSM, HSL, HSS, ⟨by rw [HNA.out]⟩, HA, HRW, HMW⟩
        case round =>
          obtain ⟨N, st, f, m, rfl, HN, HL, HME, HML, HSL2, HGOAL, HAG, HRG, HMG⟩ := hrel
          obtain ⟨cs, hcs⟩ : ∃ cs, words32 m = cs := ⟨_, rfl⟩
          by_cases h0 : N = 0
          · subst h0
            clear hcs
            have HFIN := Aside0.mk (show st = Go.Scr.jump W t n s by rw [HGO.out, ← HGOAL.out]; rfl)
            go_wp2
            go_ret
            rw [← HFIN.out]
            exact ⟨rfl, HRG.out, HMG.out⟩
          · have hpos : 0 < (N : Int) := by omega
            obtain ⟨M, hM⟩ : ∃ M, N / 2 = M := ⟨_, rfl⟩
            have hdiv : (N : Int) / 2 = (M : Int) := by omega
            have HMM2 := Aside0.mk (show M < N ∧ M < 18446744073709551616 by have := HN.out; omega)
            have hpar := and1_u64 N HN.out
            obtain ⟨cs2, hcs2⟩ : ∃ cs2, words32 (fun i => Go.Scr.mofN m 32 (m i)) = cs2 := ⟨_, rfl⟩
            have HC2 := Aside0.mk hcs2
            have HTW := Aside0.mk (show ∀ w, Calls Try.prog 31 #[.agg cs] w fun e w' => e = .returned (.agg cs2) ∧ Below w.heap.size w w' from fun w => by rw [← hcs, ← hcs2]; exact twice_calls m w HML.out)
            have HI := Aside0.mk (show (Try.prog.info? 63).map (·.size) = some cs.size from by rw [← hcs, words32_size]; exact arr_size)
            have H2I := Aside0.mk (show (Try.prog.info? 63).map (·.size) = some cs2.size from by rw [← hcs2, words32_size]; exact arr_size)
            have H21 := Aside0.mk (show cs2.all (·.oneCell') = true by rw [← hcs2]; exact words32_one _)
            have HSZ := Aside0.mk (show cs.size = cs2.size by rw [← hcs, ← hcs2, words32_size, words32_size])
            have HL2 := Aside0.mk (HL.out.comp HL.out)
            have HM2 := Aside0.mk (show ∀ i, i < W → Go.Scr.mofN m 32 (m i) = f (f (2 ^ i)) from fun i hi => by
              rw [HME.out i hi, Go.Scr.mofN_all W f m HW.out.2 HL.out HME.out _ (HL.out.lt _ (Nat.pow_lt_pow_right (by decide) hi))])
            have HM32 := Aside0.mk (show ∀ i, i < 32 → Go.Scr.mofN m 32 (m i) < 4294967296 from fun i hi => mof_lt m HML.out (m i) 32 (Nat.le_refl _))
            rw [hcs] at HAG
            have hgb : b ≠ g := by have := HLT.out; omega
            rcases Nat.mod_two_eq_zero_or_one N with hp | hp
            · rw [hp] at hpar
              obtain ⟨ST, hST⟩ : ∃ ST, st = ST := ⟨_, rfl⟩
              subst hST
              have HIT := Aside0.mk (show Go.Scr.iter (fun x => f (f x)) M st = Go.Scr.iter F n.natAbs s by rw [← HGOAL.out, Go.Scr.iter_even f N st hp, hM])
              have HGR := HAG
              have HRR := HRG
              have HMM := HMG
              have HST := HSL2
              clear hcs hcs2 hM
              go_wp2_with (first
                | ((with_reducible refine gate_dst (N := 60) rfl ?_); refine wpList_load_row rfl 63 (.tmp 5) rfl g rfl 63 cs (0, 0) _ HGR.out Try.underlying63 rfl HI.out ?_)
                | (go_at_call 31; (with_reducible refine (HTW.out _).mono ?_); rintro e w4 ⟨rfl, hb4⟩; have HG4 := Aside0.mk (blk_below HGR.out hb4); (have HR4 := Aside0.mk (HRR.out.at_below hb4)); (have HM4 := Aside0.mk (HMM.out.step hb4)); clear hb4)
                | ((with_reducible refine gate_store (t := 63) (p := 5) rfl ?_); refine wpList_store_row rfl 63 (.tmp 5) (.tmp 61) rfl g cs2 rfl rfl 63 cs HG4.out H2I.out HSZ.out H21.out ?_))
              go_roundw
              case rel => exact ⟨M, _, fun x => f (f x), _, by go_num, ⟨HMM2.out.2⟩, ⟨HL2.out⟩, ⟨HM2.out⟩, ⟨HM32.out⟩, ⟨HST.out⟩, ⟨HIT.out⟩, ⟨HC2.out ▸ setRow_heap' _ _ _ _ _ HG4.out⟩, ⟨(setRow_other w4 g b cs2 (by have := HLT.out; omega)).trans HR4.out⟩, ⟨HM4.out.row (by omega) _⟩⟩
              case measure => have := HMM2.out.1; simp [intOf]; omega
            · rw [hp] at hpar
              obtain ⟨ST, hST⟩ : ∃ ST, f st = ST := ⟨_, rfl⟩
              have HST := Aside0.mk (show ST < 2 ^ W from hST ▸ HL.out.lt _ HSL2.out)
              have HIT := Aside0.mk (show Go.Scr.iter (fun x => f (f x)) M ST = Go.Scr.iter F n.natAbs s by rw [← HGOAL.out, Go.Scr.iter_odd f N st hp, hST, hM])
              have HOF := Aside0.mk (show ∀ d os, Calls Try.prog 30 #[.agg cs, .int .u32 (st : Int)] (Sort.grow (redrawn wr d) os) fun e w'' => e = .returned (.int .u32 (ST : Int)) ∧ ∃ p : Regrown, w'' = Sort.grow (redrawn wr p.d) p.os from fun d os => Calls.regrown_of (by
                have h := of_calls m st (Sort.grow (redrawn wr d) os) HML.out (Nat.lt_of_lt_of_le HSL2.out (Nat.pow_le_pow_right (by decide) HW.out.2))
                rw [Go.Scr.mofN_all W f m HW.out.2 HL.out HME.out st HSL2.out, hST, hcs] at h
                exact h))
              have hc := cell_regrown HRG.out.c2
              clear hcs hcs2 hST hM
              go_wp2
              refine QTail.wp_region_below_tail 9 (by kernel_rfl) (by kernel_rfl) ?_
              simp only [List.take_succ_cons, List.take_zero, List.drop_succ_cons, List.drop_zero]
              repeat (first | (refine wpQuiet_load_row rfl 63 (.tmp 5) rfl g rfl 63 cs (0, 0) _ (regrown_block HAG.out) Try.underlying63 rfl HI.out ?_) | (quiet_step (exact HOF.out _ _)))
              refine wpQuiet_nil ?_
              rintro _ ⟨p, rfl⟩
              have HXB := Aside0.mk (below_regrown wr p.d p.os)
              obtain ⟨X, hX⟩ : ∃ X, Sort.grow (redrawn wr p.d) p.os = X := ⟨_, rfl⟩
              rw [hX] at HXB ⊢
              clear hX hc
              have HRX := Aside0.mk (HRG.out.at_below HXB.out)
              have c3 := HRX.out.c2
              have f3 := HRX.out.frozen
              have HGR := Aside0.mk (show (X.setCell ⟨b, 2, none⟩ (.int .u32 (ST : Int))).heap[g]? = some (.cells cs 63) from (Below.heap_setCell _ _ _ g (Ne.symm hgb)).trans (blk_below HAG.out HXB.out))
              have HRR := Aside0.mk (HRX.out.store ST)
              have HMM := Aside0.mk ((HMG.out.step HXB.out).trans (moved_store HRX.out 0 (.int .u32 (ST : Int))))
              go_wp2_with (first
                | ((with_reducible refine gate_dst (N := 60) rfl ?_); refine wpList_load_row rfl 63 (.tmp 5) rfl g rfl 63 cs (0, 0) _ HGR.out Try.underlying63 rfl HI.out ?_)
                | (go_at_call 31; (with_reducible refine (HTW.out _).mono ?_); rintro e w4 ⟨rfl, hb4⟩; have HG4 := Aside0.mk (blk_below HGR.out hb4); (have HR4 := Aside0.mk (HRR.out.at_below hb4)); (have HM4 := Aside0.mk (HMM.out.step hb4)); clear hb4)
                | ((with_reducible refine gate_store (t := 63) (p := 5) rfl ?_); refine wpList_store_row rfl 63 (.tmp 5) (.tmp 61) rfl g cs2 rfl rfl 63 cs HG4.out H2I.out HSZ.out H21.out ?_))
              go_roundw
              case rel => exact ⟨M, _, fun x => f (f x), _, by go_num, ⟨HMM2.out.2⟩, ⟨HL2.out⟩, ⟨HM2.out⟩, ⟨HM32.out⟩, ⟨HST.out⟩, ⟨HIT.out⟩, ⟨HC2.out ▸ setRow_heap' _ _ _ _ _ HG4.out⟩, ⟨(setRow_other w4 g b cs2 (by have := HLT.out; omega)).trans HR4.out⟩, ⟨HM4.out.row (by omega) _⟩⟩
              case measure => have := HMM2.out.1; simp [intOf]; omega
end Go.Proofs.Ytbhhbnpbijehcaa.Pure
