/- The table is made. -/
import Derived.Test.YtgmaiknbogcpgaaFogx0
import Derived.Test.YtgmaiknbogcpgaaBackw
import Derived.Test.YtgmaiknbogcpgaaTbl
namespace Go.Proofs.Ytgmaiknbogcpgaa.Pure
open Go.RowKit Go.Shelf Go.Proofs.Ytgmaiknbogcpgaa.Fog Go.Proofs.YtgmaiknbogcpgaaW.PrintWords Go.Proofs.YtgmaiknbogcpgaaW.PrintLast Go.Proofs.YtgmaiknbogcpgaaW.PrintMore Go.Proofs.Ytgmaiknbogcpgaa.Kit Go.Proofs.Ytgmaiknbogcpgaa.Seq
set_option linter.unusedVariables false
set_option linter.unusedSimpArgs false
/-- Nothing but the normal way out, told by cases. -/
def onlyP (Post : Act → World → Prop) : Exit → Act → World → Prop
  | .normal, a, w => Post a w
  | _, _, _ => False
attribute [local go_sem] Oper.semAt_some
theorem wp_split {P : Program} {c : Code} {Q0 : Exit → Act → World → Prop} {a : Act} {w : World} (Post : Act → World → Prop) (h : c.wp P (onlyP Post) a w) (k : ∀ a' w', Post a' w' → Q0 .normal a' w') : c.wp P Q0 a w :=
  wp_mono h fun e a' w' hq => by cases e <;> first | exact k _ _ hq | exact hq.elim
theorem exec_store {P : Program} {a : Act} {w w1 : World} {t : TypeId} {p x : Operand} {o : Oper} (ho : o.op = .store t p x) (pv u : Value) (hp : a.eval p = pv) (hx : a.eval x = u) (h : (Instr.storeAt t pv u).run P w = .ok () w1) : (execOp a.eval o).run P w = .ok .skip w1 := by
  unfold execOp
  simp only [ho, hp, hx, Sem.run_bind, Sem.run_pure, Result.andThen_ok, h]
theorem and1_par : ∀ m : Fin 9, (Go.bits .and .i64 ((m.val : Nat) : Int) 1 == 0) = (m.val % 2 == 0) := by decide +kernel
def tkI (sq : Bool) (k : Nat) : List Int := (Ld.tkD sq k).map (fun x : Nat => (x : Int))
/-- Between two rounds: the table holds what T says; all else lies as it lay. -/
def MidB (wC w : World) (b0 gN NN : Nat) (T : (Nat → Int) → Prop) (W : World) : Prop := (∃ f, NdAt W gN NN f ∧ T f) ∧ (∀ g, g < wC.heap.size → g ≠ gN → W.heap[g]? = wC.heap[g]?) ∧ Below b0 w W ∧ wC.heap.size ≤ W.heap.size
theorem MidB.lasts {wC w : World} {b0 gN NN : Nat} {T : (Nat → Int) → Prop} (h1 : gN < wC.heap.size) (h2 : b0 ≤ wC.heap.size) : Lasts wC.heap.size (MidB wC w b0 gN NN T) :=
  ⟨fun X Y ⟨⟨f, a, t⟩, b, c, d⟩ hb => ⟨⟨f, a.below hb, t⟩, fun g hg hn => (hb.block g (by omega)).trans (b g hg hn), c.trans (hb.mono (by omega)), Nat.le_trans d hb.size⟩,
   fun X l o o' hl ho hc ⟨⟨f, a, t⟩, b, c, d⟩ => ⟨⟨f, a.same (World.putObj_heap_other (by omega)), t⟩, fun g hg hn => (World.putObj_heap_other (by omega)).trans (b g hg hn), c.trans ⟨rfl, rfl, rfl, by simp, fun k hk => World.putObj_heap_other (by omega)⟩, by simpa using d⟩⟩
/-- What stays within a round. -/
def RestR (w9 w W2 : World) (b0 gN gB : Nat) (wr : World) : Prop := (∀ g, g < w9.heap.size → g ≠ gN → wr.heap[g]? = w9.heap[g]?) ∧ Below b0 w wr ∧ w9.heap.size ≤ wr.heap.size ∧ KeepsFrom w9.heap.size W2 wr ∧ KpB gB w.heap.size W2 wr
theorem RestR.put {w9 w W2 : World} {b0 gN gB : Nat} {wr : World} (h : RestR w9 w W2 b0 gN gB wr) (h1 : b0 ≤ gN) (h2 : w.heap.size ≤ gN) (h3 : gB ≠ gN) (q : Nat) (v : Value) : RestR w9 w W2 b0 gN gB (wr.setCell ⟨gN, q, none⟩ v) :=
  ⟨fun g hg hn => (Below.heap_setCell _ _ _ g (by show g ≠ gN; exact hn)).trans (h.1 g hg hn), h.2.1.setCell (p := ⟨gN, q, none⟩) h1 _, by simp [World.setCell]; exact h.2.2.1, h.2.2.2.1.trans ((KeepsOthers.setCell _ _ _).from _), ⟨(Below.heap_setCell _ _ _ gB (by show gB ≠ gN; exact h3)).trans h.2.2.2.2.1, h.2.2.2.2.2.setCell (p := ⟨gN, q, none⟩) h2 _⟩⟩
theorem RestR.drewN {w9 w W2 : World} {b0 gN gB : Nat} {wr : World} (h : RestR w9 w W2 b0 gN gB wr) (d : Nat) : RestR w9 w W2 b0 gN gB (wr.drewN d) :=
  ⟨h.1, h.2.1.trans ⟨rfl, rfl, rfl, Nat.le_refl _, fun _ _ => rfl⟩, h.2.2.1, h.2.2.2.1.trans (keeps_below ⟨rfl, rfl, rfl, Nat.le_refl _, fun _ _ => rfl⟩), ⟨h.2.2.2.2.1, h.2.2.2.2.2.trans ⟨rfl, rfl, rfl, Nat.le_refl _, fun _ _ => rfl⟩⟩⟩
/-- After k rounds from the last row on. -/
def TabOk (sq : Bool) (l0 : List Int) (n k : Nat) (f : Nat → Int) : Prop :=
  (∀ i, i ≤ n → n - k ≤ i → ∀ m, m ≤ 2048 → f (i * 2049 + m) = Ld.need sq (l0.drop i) m) ∧ (∀ i, i < n - k → ∀ m, m ≤ 2048 → f (i * 2049 + m) = Ld.never)
/-- Within the round of row i. -/
def TabIn (sq : Bool) (l0 : List Int) (n i j t : Nat) (f : Nat → Int) : Prop :=
  (∀ i', i' ≤ n → i < i' → ∀ m, m ≤ 2048 → f (i' * 2049 + m) = Ld.need sq (l0.drop i') m) ∧ (∀ i', i' < i → ∀ m, m ≤ 2048 → f (i' * 2049 + m) = Ld.never) ∧
  Ld.Rel sq (l0.getD i 0) (Ld.need sq (l0.drop (i + 1))) j t (fun m => f (i * 2049 + m))
theorem TabOk.start (sq : Bool) (l0 : List Int) (n : Nat) (hn : l0.length = n) : TabOk sq l0 n 0 (fun j => if j = n * 2049 then 0 else Ld.never) := by
  refine ⟨fun i h1 h2 m hm => ?_, fun i h1 m hm => ?_⟩
  · obtain rfl : i = n := by omega
    rw [List.drop_of_length_le (by omega)]
    unfold Ld.need
    by_cases e : m = 0
    · rw [if_pos e]
      show (if i * 2049 + m = i * 2049 then (0 : Int) else Ld.never) = 0
      rw [if_pos (by omega)]
    · rw [if_neg e]
      show (if i * 2049 + m = i * 2049 then (0 : Int) else Ld.never) = Ld.never
      rw [if_neg (by omega)]
  · show (if _ then _ else _) = _
    rw [if_neg (by omega)]
theorem TabOk.enter {sq : Bool} {l0 : List Int} {n k i : Nat} {f : Nat → Int} (h : TabOk sq l0 n k f) (e : i + k + 1 = n) : TabIn sq l0 n i 0 0 f :=
  ⟨fun i' h1 h2 => h.1 i' h1 (by omega), fun i' h1 => h.2 i' (by omega), Ld.Rel.start _ _ _ _ (fun m hm => h.2 i (by omega) m hm)⟩
theorem TabIn.next {sq : Bool} {l0 : List Int} {n i j t : Nat} {f : Nat → Int} (h : TabIn sq l0 n i j t f) (hc : (Ld.tk sq).length ≤ t ∨ ¬ Ld.need sq (l0.drop (i + 1)) j < Ld.never) : TabIn sq l0 n i (j + 1) 0 f :=
  ⟨h.1, h.2.1, h.2.2.next hc⟩
theorem TabIn.step {sq : Bool} {l0 : List Int} {n i j t : Nat} {f : Nat → Int} (h : TabIn sq l0 n i j t f) (b : Nat) (hb : (Ld.tk sq)[t]? = some b) (hjb : j + b ≤ 2048) (hg : Ld.need sq (l0.drop (i + 1)) j < Ld.never) (h0 : 0 ≤ Ld.need sq (l0.drop (i + 1)) j + l0.getD i 0 * Ld.E b) :
    TabIn sq l0 n i j (t + 1) (fun q => if q = i * 2049 + (j + b) then min (f (i * 2049 + (j + b))) (Ld.need sq (l0.drop (i + 1)) j + l0.getD i 0 * Ld.E b) else f q) := by
  refine ⟨fun i' h1 h2 m hm => ?_, fun i' h1 m hm => ?_, h.2.2.step b hb hg h0 (fun m hm => ?_)⟩
  · show (if _ then _ else _) = _
    rw [if_neg (by omega)]
    exact h.1 i' h1 h2 m hm
  · show (if _ then _ else _) = _
    rw [if_neg (by omega)]
    exact h.2.1 i' h1 m hm
  · show (if _ then _ else _) = (if _ then _ else _)
    by_cases e : m = j + b
    · subst e; rw [if_pos rfl, if_pos rfl]
    · rw [if_neg (by omega), if_neg e]
theorem TabIn.leave {sq : Bool} {l0 : List Int} {n i k t : Nat} {f : Nat → Int} (hn : l0.length = n) (hok : Ld.ok l0) (e : i + k + 1 = n) (h : TabIn sq l0 n i (8 * k + 1) t f) : TabOk sq l0 n (k + 1) f := by
  have hd : l0.drop i = l0.getD i 0 :: l0.drop (i + 1) := by
    rw [List.drop_eq_getElem_cons (by omega), List.getD_eq_getElem?_getD, List.getElem?_eq_getElem (by omega)]; rfl
  have hkd : Ld.ok (l0.getD i 0 :: l0.drop (i + 1)) := by
    rw [← hd]
    exact ⟨by rw [List.length_drop]; have := hok.1; omega, fun x hx => hok.2 x (List.mem_of_mem_drop hx)⟩
  have hlen : (l0.drop (i + 1)).length = k := by rw [List.length_drop]; omega
  have h3 := h.2.2
  rw [← hlen] at h3
  refine ⟨fun i' h1 h2 m hm => ?_, fun i' h1 => h.2.1 i' (by omega)⟩
  by_cases e2 : i' = i
  · subst e2
    rw [hd]
    exact h3.done hkd m hm
  · exact h.1 i' h1 (by omega) m hm
/-- The table's three blocks are laid. -/
def Laid (w1 w' : World) (gN gT gP : Nat) (ZC tc : Array Value) : Prop :=
  w'.heap[gN]? = some (.cells ZC 65 (0, 0)) ∧ w'.heap[gT]? = some (.cells tc 68 (0, 0)) ∧ w'.heap[gP]? = some (.cells #[.pointer (some ⟨gT, 0, none⟩)] 63 (0, 0)) ∧
  (gN ≠ gT ∧ gN ≠ gP ∧ gT ≠ gP) ∧ (w1.heap.size ≤ gN ∧ w1.heap.size ≤ gT ∧ w1.heap.size ≤ gP) ∧ Below w1.heap.size w1 w'
theorem three_a (w : World) (a b c : Obj) : (((w.alloc a).alloc b).alloc c).drew.heap[w.heap.size]? = some a :=
  ((Below.heap_alloc _ _ _ (by simp; omega)).trans (Below.heap_alloc _ _ _ (by simp))).trans (blk_new w a)
theorem three_b (w : World) (a b c : Obj) : (((w.alloc a).alloc b).alloc c).drew.heap[w.heap.size + 1]? = some b := by
  have h := blk_new (w.alloc a) b
  rw [World.size_alloc] at h
  exact (Below.heap_alloc _ _ _ (by simp)).trans h
theorem three_c (w : World) (a b c : Obj) : (((w.alloc a).alloc b).alloc c).drew.heap[w.heap.size + 1 + 1]? = some c := by
  have h := blk_new ((w.alloc a).alloc b) c
  rw [World.size_alloc, World.size_alloc] at h
  exact h
theorem three_below (w : World) (a b c : Obj) : Below w.heap.size w (((w.alloc a).alloc b).alloc c).drew :=
  ((Below.refl w.heap.size w).alloc (Nat.le_refl _) _ |>.alloc (by simp) _ |>.alloc (by simp; omega) _).trans ⟨rfl, rfl, rfl, Nat.le_refl _, fun _ _ => rfl⟩
theorem laid1 (w1 : World) (ZC tc : Array Value) : Laid w1 (((w1.alloc (.cells ZC 65)).alloc (.cells tc 68)).alloc (.cells #[.pointer (some ⟨w1.heap.size + 1, 0, none⟩)] 63)).drew w1.heap.size (w1.heap.size + 1) (w1.heap.size + 1 + 1) ZC tc :=
  ⟨three_a _ _ _ _, three_b _ _ _ _, three_c _ _ _ _, ⟨by omega, by omega, by omega⟩, ⟨by omega, by omega, by omega⟩, three_below _ _ _ _⟩
theorem laid2 (w1 : World) (ZC tc : Array Value) : Laid w1 (((w1.alloc (.cells ZC 65)).alloc (.cells #[.pointer (some ⟨w1.heap.size + 1 + 1, 0, none⟩)] 63)).alloc (.cells tc 68)).drew w1.heap.size (w1.heap.size + 1 + 1) (w1.heap.size + 1) ZC tc :=
  ⟨three_a _ _ _ _, three_c _ _ _ _, three_b _ _ _ _, ⟨by omega, by omega, by omega⟩, ⟨by omega, by omega, by omega⟩, three_below _ _ _ _⟩
theorem laid3 (w1 : World) (ZC tc : Array Value) : Laid w1 (((w1.alloc (.cells #[.pointer (some ⟨w1.heap.size + 1 + 1, 0, none⟩)] 63)).alloc (.cells ZC 65)).alloc (.cells tc 68)).drew (w1.heap.size + 1) (w1.heap.size + 1 + 1) w1.heap.size ZC tc :=
  ⟨three_b _ _ _ _, three_c _ _ _ _, three_a _ _ _ _, ⟨by omega, by omega, by omega⟩, ⟨by omega, by omega, by omega⟩, three_below _ _ _ _⟩
set_option maxHeartbeats 8000000 in
set_option maxRecDepth 100000 in
theorem made_calls (A0 : Option Addr) (c0 : Nat) (l0 : List Int) (sq : Bool) (n : Nat) (w : World) (hn : l0.length = n) (hn1 : 1 ≤ n) (hn2 : n ≤ 256) (hok : Ld.ok l0) (hr0 : Kd.C (Kd.int .i64) w A0 n l0) :
    Calls Try.prog 37 #[.slice A0 n c0, .bool sq] w fun r w' => ∃ gT, r = .returned (.pointer (some ⟨gT, 0, none⟩)) ∧ TblAt w' gT A0 n c0 sq l0 ∧ Below w.heap.size w w' := by
  have hmk := run_mk n hn2
  obtain ⟨ZC, hZC⟩ : ∃ ZC, zerosN ((n + 1) * 2049) = ZC := ⟨_, rfl⟩
  have HZC := Aside0.mk hZC
  rw [hZC] at hmk
  have hw1 : IntKind.i64.wrap ((n : Int) + 1) = (n : Int) + 1 := by rw [IntKind.wrap_i64]; omega
  have HR := Aside0.mk hr0
  have HOK := Aside0.mk hok
  have HN := Aside0.mk hn
  have HN12 := Aside0.mk (And.intro hn1 hn2)
  clear hr0 hZC hok hn hn1 hn2
  refine (callsIn_wide (n := 5)).1 ?_
  refine callsIn_of_wp_marks Try.func37 rfl trivial ?_ rfl
  simp only [Try.ntmps37, List.size_toArray, List.length_cons, List.length_nil, Nat.reduceAdd, Nat.reduceSub, Array.replicate_succ, Array.replicate_zero, List.push_toArray, List.append_toArray, List.nil_append, List.cons_append]
  refine wpIn_wide.2 ?_
  go_wp2
  obtain ⟨b0, hb0⟩ : ∃ b0, w.heap.size = b0 := ⟨_, rfl⟩
  obtain ⟨w1, hw1e⟩ : ∃ w1, w.alloc (.cells #[.slice A0 n c0] 26) = w1 := ⟨_, rfl⟩
  have hbx : w1.cell? ⟨b0, 0, none⟩ = some (.slice A0 n c0) := by rw [← hw1e, ← hb0]; exact (blk_cell (blk_new w _) 0).trans rfl
  have HBX := Aside0.mk (show w1.heap[b0]? = some (.cells #[.slice A0 n c0] 26 (0, 0)) by rw [← hw1e, ← hb0]; exact blk_new w _)
  have HB1 := Aside0.mk (show Below b0 w w1 by rw [← hw1e, ← hb0]; exact (Below.refl w.heap.size w).alloc (Nat.le_refl _) _)
  have HS1 := Aside0.mk (show w1.heap.size = b0 + 1 by rw [← hw1e, ← hb0]; simp)
  rw [hw1e]
  clear hw1e
  try rw [hb0]
  refine wp_split (fun a' w' => ∃ gN gT gP, Laid w1 w' gN gT gP ZC #[.slice A0 n c0, .slice none 0 0, .slice (some ⟨gN, 0, none⟩) (n + 1) (n + 1)] ∧ a' = { tmps := #[.slice A0 n c0, .bool sq, .pointer (some ⟨b0, 0, none⟩), undef, .pointer none, .pointer (some ⟨gP, 0, none⟩), undef, undef, undef, undef, undef, undef, undef, undef, undef, undef, .slice A0 n c0, .slice A0 n c0, .int .i64 (n : Int), .int .i64 ((n : Int) + 1), .slice (some ⟨gN, 0, none⟩) (n + 1) (n + 1), .agg #[.slice A0 n c0, .slice none 0 0, .slice (some ⟨gN, 0, none⟩) (n + 1) (n + 1)], .pointer (some ⟨gT, 0, none⟩), undef, undef, undef, undef, undef, undef, undef, undef, undef, undef, undef, undef, undef, undef, undef, undef, undef, undef, undef, undef, undef, undef, undef, undef, undef, undef, undef, undef, undef, undef, undef, undef, undef, undef, undef, undef, undef, undef, undef, undef, undef, undef, undef, undef, undef, undef, undef, undef, undef, undef, undef, undef, undef, undef, undef, undef, undef, undef, undef, undef, undef, undef, undef, undef, undef, undef, undef, undef, undef, undef, undef, undef, undef, undef, undef, undef, undef, undef, undef, undef, undef, undef, undef, undef, undef, undef, undef, undef, undef, undef, undef, undef, undef, undef, undef, undef, undef, undef, undef, undef, undef, undef, undef, undef, undef, undef, undef, undef, undef, undef, undef, undef, undef, undef, undef, undef, undef, undef, undef, undef, undef, undef, undef, undef], defers := [] }) ?_ ?_
  · have hbx1 : ∀ o, (w1.alloc o).cell? ⟨b0, 0, none⟩ = some (.slice A0 n c0) := fun o => (blk_cell ((Below.heap_alloc _ _ _ (by have := HS1.out; omega)).trans HBX.out) 0).trans rfl
    have hbx2 : ∀ o o', ((w1.alloc o).alloc o').cell? ⟨b0, 0, none⟩ = some (.slice A0 n c0) := fun o o' => (blk_cell ((Below.heap_alloc _ _ _ (by have := HS1.out; simp; omega)).trans ((Below.heap_alloc _ _ _ (by have := HS1.out; omega)).trans HBX.out)) 0).trans rfl
    go_region_with (fail)
    all_goals (show ∃ gN gT gP, Laid w1 _ gN gT gP ZC #[.slice A0 n c0, .slice none 0 0, .slice (some ⟨gN, 0, none⟩) (n + 1) (n + 1)] ∧ _ = _)
    all_goals first | (with_reducible exact ⟨_, _, _, laid1 _ _ _, rfl⟩) | (with_reducible exact ⟨_, _, _, laid2 _ _ _, rfl⟩) | (with_reducible exact ⟨_, _, _, laid3 _ _ _, rfl⟩)
  rintro a' w2 ⟨gN, gT, gP, hL, rfl⟩
  clear hmk hbx hw1
  obtain ⟨hgN, hgT, hgP, hne, hge, hb⟩ := hL
  have FN := Aside0.mk (show NdAt w2 gN ((n + 1) * 2049) (fun _ => 0) from ⟨ZC, hgN, NdAt.zeros _ _ HZC.out.symm⟩)
  have FT := Aside0.mk hgT
  have FP := Aside0.mk hgP
  have HNE := Aside0.mk hne
  have HGE := Aside0.mk hge
  have HBX2 := Aside0.mk (blk_below HBX.out hb)
  have HB2 := Aside0.mk (HB1.out.trans (hb.mono (by have := HS1.out; omega)))
  clear hgN hgT hgP hne hge hb
  have HEN := Aside0.mk energies_calls
  obtain ⟨cs, hcs⟩ : ∃ cs, enV = cs := ⟨_, rfl⟩
  have HCS := Aside0.mk hcs
  have HCSZ := Aside0.mk (show cs.size = 9 by rw [← hcs]; exact nine_size _)
  have HCI := Aside0.mk (show (Try.prog.info? 75).map (·.size) = some cs.size from by rw [HCSZ.out]; exact nineInfo)
  have HC1 := Aside0.mk (show cs.all (·.oneCell') = true by rw [← hcs]; exact nine_one _)
  rw [hcs] at HEN
  clear hcs
  go_wp2_with (first
    | (go_at_call 45; (with_reducible refine (HEN.out _).mono ?_); rintro e w3 ⟨rfl, hb⟩; (have HB3 := Aside0.mk hb); clear hb)
    | ((with_reducible refine gate_store (t := 75) (p := 6) rfl ?_); refine wpList_store_row rfl 75 (.tmp 6) (.tmp 23) rfl _ cs rfl rfl 75 _ (blk_new _ _) HCI.out HCSZ.out.symm HC1.out ?_))
  have hg3 : w3.heap.size = w3.heap.size := rfl
  obtain ⟨gC, hgC⟩ : ∃ gC, w3.heap.size = gC := ⟨_, rfl⟩
  obtain ⟨W0, hW0⟩ : ∃ W0, (w3.alloc (.cells #[.int .i64 0, .int .i64 0, .int .i64 0, .int .i64 0, .int .i64 0, .int .i64 0, .int .i64 0, .int .i64 0, .int .i64 0] 75)).setRow w3.heap.size cs = W0 := ⟨_, rfl⟩
  have hb03 : Below w3.heap.size w3 W0 := hW0 ▸ below_row9 ((Below.refl _ w3).alloc (Nat.le_refl _) _) (Nat.le_refl _) cs
  have FC := Aside0.mk (show W0.heap[gC]? = some (.cells cs 75 (0, 0)) from hW0 ▸ hgC ▸ setRow_heap9 _ _ _ _ _ (blk_new w3 _))
  have HSZ := Aside0.mk (show W0.heap.size = gC + 1 from hW0 ▸ hgC ▸ by simp [World.setRow])
  have hb02 : Below w2.heap.size w2 W0 := below_step HB3.out hb03
  have FN0 := Aside0.mk (FN.out.below hb02)
  have FT0 := Aside0.mk (blk_below FT.out hb02)
  have FP0 := Aside0.mk (blk_below FP.out hb02)
  have FB0 := Aside0.mk (blk_below HBX2.out hb02)
  have HB0 := Aside0.mk (HB2.out.trans (hb02.mono (by have h1 := HB2.out.size; omega)))
  have HLT := Aside0.mk (show gN < gC ∧ gT < gC ∧ gP < gC ∧ b0 < gC from ⟨Nat.lt_of_lt_of_le FN.out.lt (hgC ▸ HB3.out.size), Nat.lt_of_lt_of_le (Array.getElem?_eq_some_iff.1 FT.out).1 (hgC ▸ HB3.out.size), Nat.lt_of_lt_of_le (Array.getElem?_eq_some_iff.1 FP.out).1 (hgC ▸ HB3.out.size), Nat.lt_of_lt_of_le (Array.getElem?_eq_some_iff.1 HBX2.out).1 (hgC ▸ HB3.out.size)⟩)
  rw [hW0]
  try rw [hgC]
  have HD0 := Aside0.mk (show b0 < gT ∧ b0 < gP ∧ b0 < gN from ⟨by have h1 := HGE.out; have h2 := HS1.out; omega, by have h1 := HGE.out; have h2 := HS1.out; omega, by have h1 := HGE.out; have h2 := HS1.out; omega⟩)
  clear hW0 hb03 hb02 FN FT FP HBX HBX2 HB1 HB2 HB3 HGE HS1 hg3 hgC
  go_loopw [7] (fun v wr => ∃ (m : Nat) (kA : Option Addr) (kc : Nat), m ≤ 9 ∧ v = .int .i64 ((m : Int) - 1) ∧ Aside0 (wr.heap[gT]? = some (.cells #[.slice A0 n c0, .slice kA (Ld.tkD sq (9 - m)).length kc, .slice (some ⟨gN, 0, none⟩) (n + 1) (n + 1)] 68 (0, 0))) ∧ Aside0 (Kd.R (Kd.int .i64) 3 wr (gC + 1) (fun k => gC + 1 ≤ k) (.slice kA (Ld.tkD sq (9 - m)).length kc) (tkI sq (9 - m))) ∧ Aside0 (∀ k, k < gC + 1 → k ≠ gT → wr.heap[k]? = W0.heap[k]?) ∧ Aside0 (Below b0 w wr) ∧ Aside0 (gC + 1 ≤ wr.heap.size)) (fun v _ => (intOf v + 1).toNat)
  case atStart => exact ⟨9, none, 0, Nat.le_refl _, rfl, FT0, ⟨Kd.R_nil (Kd.int .i64) 3 W0 (gC + 1) (fun k => gC + 1 ≤ k)⟩, ⟨fun _ _ _ => rfl⟩, HB0, ⟨Nat.le_of_eq HSZ.out.symm⟩⟩
  case round =>
    obtain ⟨m, kA, kc, hm, rfl, GT, GR, GS, GB, GZ⟩ := hrel
    cases m with
    | succ m =>
      have em : (((m + 1 : Nat) : Int)) - 1 = (m : Int) := by omega
      rw [em]
      have hm8 : m ≤ 8 := by omega
      have hmin : min m 9 = m := by omega
      have q0 : (m : Int) < 9 := by omega
      have HM8 := Aside0.mk hm8
      obtain ⟨V, hV⟩ : ∃ V, Ld.E m = V := ⟨_, rfl⟩
      obtain ⟨P, hP⟩ : ∃ P, Go.bits .and .i64 (m : Int) 1 = P := ⟨_, rfl⟩
      have hc0 : wr.cell? ⟨gC, m, none⟩ = some (.int .i64 V) := by
        rw [← hV]
        exact cells9 (m := Ld.E) (by rw [GS.out gC (by omega) (by have := HLT.out; omega), FC.out, HCS.out.symm]; rfl) m (by omega)
      have hpar : (P == 0) = (m % 2 == 0) := by rw [← hP]; exact and1_par ⟨m, by omega⟩
      have hstep := Ld.tkD_step sq (9 - (m + 1))
      rw [show 8 - (9 - (m + 1)) = m by omega, show 9 - (m + 1) + 1 = 9 - m by omega] at hstep
      have hhas : Ld.has sq m = (decide (0 ≤ V) && (!sq || (P == 0))) := by unfold Ld.has; rw [hV, hpar]
      have hI : IntKind.i64.wrap ((m : Int) - 1) = (m : Int) - 1 := by rw [IntKind.wrap_i64]; omega
      have HMS := Aside0.mk (show ((m : Int) - 1 + 1).toNat < ((m : Int) + 1).toNat by omega)
      rw [show 9 - (m + 1) = 8 - m by omega] at GT GR hstep
      obtain ⟨y, hy⟩ : ∃ y, (P == 0) = y := ⟨_, rfl⟩
      rw [hy] at hhas
      have NO := Aside0.mk (show Ld.has sq m = false → ∃ (m1 : Nat) (kA : Option Addr) (kc : Nat), m1 ≤ 9 ∧ Value.int .i64 ((m : Int) - 1) = .int .i64 ((m1 : Int) - 1) ∧ Aside0 (wr.heap[gT]? = some (.cells #[.slice A0 n c0, .slice kA (Ld.tkD sq (9 - m1)).length kc, .slice (some ⟨gN, 0, none⟩) (n + 1) (n + 1)] 68 (0, 0))) ∧ Aside0 (Kd.R (Kd.int .i64) 3 wr (gC + 1) (fun k => gC + 1 ≤ k) (.slice kA (Ld.tkD sq (9 - m1)).length kc) (tkI sq (9 - m1))) ∧ Aside0 (∀ k, k < gC + 1 → k ≠ gT → wr.heap[k]? = W0.heap[k]?) ∧ Aside0 (Below b0 w wr) ∧ Aside0 (gC + 1 ≤ wr.heap.size) from fun hf => by
        rw [if_neg (by rw [hf]; decide)] at hstep
        refine ⟨m, kA, kc, by omega, rfl, ?_, ?_, GS, GB, GZ⟩
        · rw [hstep]; exact GT
        · unfold tkI; rw [hstep]; exact GR)
      have YES := Aside0.mk (show Ld.has sq m = true → Ld.tkD sq (9 - m) = Ld.tkD sq (8 - m) ++ [m] from fun ht => by rw [hstep, if_pos ht])
      clear hstep hV hpar em hm hm8
      by_cases hv : 0 ≤ V
      · have d1 : decide (0 ≤ V) = true := decide_eq_true hv
        rw [d1] at hhas
        cases sq with
        | false =>
          have HH := Aside0.mk (YES.out hhas)
          clear hhas hy hv
          have LP := Aside0.mk (show ∀ w', Below (gC + 1) wr w' → w'.cell? ⟨gP, 0, none⟩ = some (.pointer (some ⟨gT, 0, none⟩)) from fun w' hb => (blk_cell ((hb.block gP (by have := HLT.out; omega)).trans ((GS.out gP (by have := HLT.out; omega) (by have := HNE.out; omega)).trans FP0.out)) 0).trans rfl)
          have LT := Aside0.mk (show ∀ w', Below (gC + 1) wr w' → w'.cell? ⟨gT, 1, none⟩ = some (.slice kA (Ld.tkD false (8 - m)).length kc) from fun w' hb => (blk_cell ((hb.block gT (by have := HLT.out; omega)).trans GT.out) 1).trans rfl)
          have HLIM := Aside0.mk (show ((tkI false (8 - m)).length + 1) * 8 ≤ 140737488355328 by unfold tkI; rw [List.length_map]; have := Ld.tkD_len false (8 - m); omega)
          go_wp2
          refine wp_normal ?_
          refine start_ (n := 11) (S := fun w' => Below (gC + 1) wr w') (ds := [10]) #[false, false, false, false, false, false, false, false, false, false, false] (by kernel_rfl) rfl rfl ((Below.refl (gC + 1) wr).drew) (fun hHeld => ?_)
          obtain ⟨wq, hwq⟩ : ∃ wq, wr.drew = wq := ⟨_, rfl⟩; (have HOq := Aside0.mk (Kd.R_drew GR.out)); (have HBq := Aside0.mk hHeld); rw [hwq] at hHeld HOq HBq ⊢; clear hwq
          refine pure_ (i := 5) (N := some 46) (v := ?_) (a' := ?_) #[false, false, false, false, false, true, false, false, false, false, false] rfl rfl (by kernel_rfl) (fun _ _ _ h => h) (Or.inl ⟨by rfl, ?_⟩) ?_ ?_
          rotate_left
          · intro w'
            go_simp
            with_reducible rfl
          rotate_left
          · (try show Act.put _ _ _ = _); simp only [Act.put, List.setIfInBounds_toArray, List.set_cons_zero, List.set_cons_succ, i64_w, i32_w]
            rfl
          refine take_ (i := 0) (N := some 41) (v := ?_) (a' := ?_) #[true, false, false, false, false, true, false, false, false, false, false] rfl rfl (by kernel_rfl) (fun _ _ _ h => h) (Or.inl ⟨by rfl, ?_⟩) hHeld ?_ ?_
          rotate_left
          · intro w' hS_
            have kp_ := LP.out _ hS_
            have kt_ := LT.out _ hS_
            go_simp
            with_reducible rfl
          rotate_left
          · (try show Act.put _ _ _ = _); simp only [Act.put, List.setIfInBounds_toArray, List.set_cons_zero, List.set_cons_succ, i64_w, i32_w]
            rfl
          refine take_ (i := 1) (N := some 42) (v := ?_) (a' := ?_) #[true, true, false, false, false, true, false, false, false, false, false] rfl rfl (by kernel_rfl) (fun _ _ _ h => h) (Or.inl ⟨by rfl, ?_⟩) hHeld ?_ ?_
          rotate_left
          · intro w' hS_
            have kp_ := LP.out _ hS_
            have kt_ := LT.out _ hS_
            go_simp
            with_reducible rfl
          rotate_left
          · (try show Act.put _ _ _ = _); simp only [Act.put, List.setIfInBounds_toArray, List.set_cons_zero, List.set_cons_succ, i64_w, i32_w]
            rfl
          refine pure_ (i := 2) (N := some 43) (v := ?_) (a' := ?_) #[true, true, true, false, false, true, false, false, false, false, false] rfl rfl (by kernel_rfl) (fun _ _ _ h => h) (Or.inl ⟨by rfl, ?_⟩) ?_ ?_
          rotate_left
          · intro w'
            go_simp
            with_reducible rfl
          rotate_left
          · (try show Act.put _ _ _ = _); simp only [Act.put, List.setIfInBounds_toArray, List.set_cons_zero, List.set_cons_succ, i64_w, i32_w]
            rfl
          refine pure_ (i := 3) (N := some 44) (v := ?_) (a' := ?_) #[true, true, true, true, false, true, false, false, false, false, false] rfl rfl (by kernel_rfl) (fun _ _ _ h => h) (Or.inl ⟨by rfl, ?_⟩) ?_ ?_
          rotate_left
          · intro w'
            go_simp
            with_reducible rfl
          rotate_left
          · (try show Act.put _ _ _ = _); simp only [Act.put, List.setIfInBounds_toArray, List.set_cons_zero, List.set_cons_succ, i64_w, i32_w]
            rfl
          refine take_ (i := 4) (N := some 45) (v := ?_) (a' := ?_) #[true, true, true, true, true, true, false, false, false, false, false] rfl rfl (by kernel_rfl) (fun _ _ _ h => h) (Or.inl ⟨by rfl, ?_⟩) hHeld ?_ ?_
          rotate_left
          · intro w' hS_
            have kp_ := LP.out _ hS_
            have kt_ := LT.out _ hS_
            go_simp
            with_reducible rfl
          rotate_left
          · (try show Act.put _ _ _ = _); simp only [Act.put, List.setIfInBounds_toArray, List.set_cons_zero, List.set_cons_succ, i64_w, i32_w]
            rfl
          refine one_ (i := 6) (N := some 47) #[true, true, true, true, true, true, true, false, false, false, false] rfl rfl (by kernel_rfl) (by decide) (fun K hK => ?_)
          refine value_ (w1 := ?_) (v := ?_) (by rfl) rfl ?_ ?_
          rotate_left 2
          · go_simp
            constructor
            · rfl
            · rfl
          refine hK.out _ _ (hHeld.alloc (Nat.le_trans GZ.out hHeld.size) _) (fun hHeld => ?_)
          clear hK K
          refine norm_ (a' := ?_) ?_ ?_
          rotate_left
          · show Act.put _ (some 47) _ = _
            simp only [Act.put, List.setIfInBounds_toArray, List.set_cons_zero, List.set_cons_succ, i64_w, i32_w]
            rfl
          refine one_ (i := 7) (N := some 48) #[true, true, true, true, true, true, true, true, false, false, false] rfl rfl (by kernel_rfl) (by decide) (fun K hK => ?_)
          refine Kd.R_append_step (Kd.int .i64) (w0 := wr) (gC + 1) (by rfl) (.tmp 45) (.tmp 47) 26 3 (.int .i64 0) 8 rfl Try.underlying26 info3 rfl (by decide) (by decide) _ (tkI false (8 - m)) (m : Int) [.int .i64 (m : Int)] (fun k => gC + 1 ≤ k) (fun _ => False) rfl rfl ?aP (fun _ hk => hk.elim) ?aF ?aO ?aB ?aS ?aL ?_
          (case aP => exact rfl)
          (case aB => exact HBq.out)
          (case aF => exact (fun k hk => Nat.le_trans (Nat.le_trans GZ.out HBq.out.size) hk))
          (case aO => exact HOq.out)
          (case aS => exact Nat.le_trans GZ.out HBq.out.size)
          (case aL => exact HLIM.out)
          intro v5 w5 ho hb_ hg_ hat
          clear hg_ hat
          obtain ⟨kA5, kc5, rfl⟩ := Kd.R_slice ho
          have HO5 := Aside0.mk ho
          have HB5 := Aside0.mk hb_
          clear ho hb_
          refine hK.out _ _ (HB5.out) (fun hHeld => ?_)
          clear hK K
          refine norm_ (a' := ?_) ?_ ?_
          rotate_left
          · show Act.put _ (some 48) _ = _
            simp only [Act.put, List.setIfInBounds_toArray, List.set_cons_zero, List.set_cons_succ, i64_w, i32_w]
            rfl
          refine pure_ (i := 8) (N := some 49) (v := ?_) (a' := ?_) #[true, true, true, true, true, true, true, true, true, false, false] rfl rfl (by kernel_rfl) (fun _ _ _ h => h) (Or.inl ⟨by rfl, ?_⟩) ?_ ?_
          rotate_left
          · intro w'
            go_simp
            with_reducible rfl
          rotate_left
          · (try show Act.put _ _ _ = _); simp only [Act.put, List.setIfInBounds_toArray, List.set_cons_zero, List.set_cons_succ, i64_w, i32_w]
            rfl
          refine pure_ (i := 9) (N := some 50) (v := ?_) (a' := ?_) #[true, true, true, true, true, true, true, true, true, true, false] rfl rfl (by kernel_rfl) (fun _ _ _ h => h) (Or.inl ⟨by rfl, ?_⟩) ?_ ?_
          rotate_left
          · intro w'
            go_simp
            with_reducible rfl
          rotate_left
          · (try show Act.put _ _ _ = _); simp only [Act.put, List.setIfInBounds_toArray, List.set_cons_zero, List.set_cons_succ, i64_w, i32_w]
            rfl
          refine last_ (i := 10) (N := none) #[true, true, true, true, true, true, true, true, true, true, true] rfl rfl (by kernel_rfl) (by decide) (fun K hK => ?_)
          have h5 := (HB5.out.block gT (by have := HLT.out; omega)).trans GT.out
          have HT5 := Aside0.mk h5
          have hst := run_store_run (P := Try.prog) (w := w5) (g := gT) (o := 1) 26 (.slice kA5 (tkI false (8 - m) ++ [(m : Int)]).length kc5) [.slice kA5 (tkI false (8 - m) ++ [(m : Int)]).length kc5] h5 rfl rfl (by simp) (by intro q hq; obtain rfl := List.mem_singleton.1 hq; rfl)
          clear h5
          refine skip_ (w1 := w5.setCell ⟨gT, 1, none⟩ (.slice kA5 (tkI false (8 - m) ++ [(m : Int)]).length kc5)) (by rfl) rfl ?_ ?_
          · exact exec_store rfl _ _ rfl rfl hst
          clear hst
          refine hK.out _ _ ?_
          clear hK K
          refine done_ (by kernel_rfl) ?_
          show onlyNormal _ .normal _ _
          unfold onlyNormal
          have HL9 := Aside0.mk (show (tkI false (8 - m) ++ [(m : Int)]).length = (Ld.tkD false (9 - m)).length by rw [HH.out]; unfold tkI; simp)
          have HL8 := Aside0.mk (show tkI false (8 - m) ++ [(m : Int)] = tkI false (9 - m) by unfold tkI; rw [HH.out]; simp)
          rw [HL9.out] at HO5
          rw [HL8.out] at HO5
          rw [HL9.out]
          go_wp2
          refine ⟨⟨m, kA5, kc5, by have := HM8.out; omega, rfl, ⟨?_⟩, ⟨Kd.R_far HO5.out (p := ⟨gT, 1, none⟩) (fun k hk => by have := HLT.out; show k ≠ gT; omega) _⟩, ⟨?_⟩, ⟨?_⟩, ⟨?_⟩⟩, HMS.out⟩
          · exact setCell_heap9 w5 gT 1 _ _ (.slice kA5 (Ld.tkD false (9 - m)).length kc5) HT5.out
          · intro k hk hne
            exact (Below.heap_setCell _ _ _ k (by show k ≠ gT; exact hne)).trans ((HB5.out.block k (by omega)).trans (GS.out k hk hne))
          · exact (GB.out.trans (HB5.out.mono (by have := HLT.out; omega))).setCell (p := ⟨gT, 1, none⟩) (by show b0 ≤ gT; have := HD0.out; omega) _
          · have h1 := HB5.out.size
            have h2 := GZ.out
            simp only [World.setCell, Array.size_modify]
            omega
        | true =>
          cases y with
          | true =>
            have HH := Aside0.mk (YES.out hhas)
            clear hhas hv
            have LP := Aside0.mk (show ∀ w', Below (gC + 1) wr w' → w'.cell? ⟨gP, 0, none⟩ = some (.pointer (some ⟨gT, 0, none⟩)) from fun w' hb => (blk_cell ((hb.block gP (by have := HLT.out; omega)).trans ((GS.out gP (by have := HLT.out; omega) (by have := HNE.out; omega)).trans FP0.out)) 0).trans rfl)
            have LT := Aside0.mk (show ∀ w', Below (gC + 1) wr w' → w'.cell? ⟨gT, 1, none⟩ = some (.slice kA (Ld.tkD true (8 - m)).length kc) from fun w' hb => (blk_cell ((hb.block gT (by have := HLT.out; omega)).trans GT.out) 1).trans rfl)
            have HLIM := Aside0.mk (show ((tkI true (8 - m)).length + 1) * 8 ≤ 140737488355328 by unfold tkI; rw [List.length_map]; have := Ld.tkD_len true (8 - m); omega)
            go_wp2
            refine wp_normal ?_
            refine start_ (n := 11) (S := fun w' => Below (gC + 1) wr w') (ds := [10]) #[false, false, false, false, false, false, false, false, false, false, false] (by kernel_rfl) rfl rfl ((Below.refl (gC + 1) wr).drew) (fun hHeld => ?_)
            obtain ⟨wq, hwq⟩ : ∃ wq, wr.drew = wq := ⟨_, rfl⟩; (have HOq := Aside0.mk (Kd.R_drew GR.out)); (have HBq := Aside0.mk hHeld); rw [hwq] at hHeld HOq HBq ⊢; clear hwq
            refine pure_ (i := 5) (N := some 46) (v := ?_) (a' := ?_) #[false, false, false, false, false, true, false, false, false, false, false] rfl rfl (by kernel_rfl) (fun _ _ _ h => h) (Or.inl ⟨by rfl, ?_⟩) ?_ ?_
            rotate_left
            · intro w'
              go_simp
              with_reducible rfl
            rotate_left
            · (try show Act.put _ _ _ = _); simp only [Act.put, List.setIfInBounds_toArray, List.set_cons_zero, List.set_cons_succ, i64_w, i32_w]
              rfl
            refine take_ (i := 0) (N := some 41) (v := ?_) (a' := ?_) #[true, false, false, false, false, true, false, false, false, false, false] rfl rfl (by kernel_rfl) (fun _ _ _ h => h) (Or.inl ⟨by rfl, ?_⟩) hHeld ?_ ?_
            rotate_left
            · intro w' hS_
              have kp_ := LP.out _ hS_
              have kt_ := LT.out _ hS_
              go_simp
              with_reducible rfl
            rotate_left
            · (try show Act.put _ _ _ = _); simp only [Act.put, List.setIfInBounds_toArray, List.set_cons_zero, List.set_cons_succ, i64_w, i32_w]
              rfl
            refine take_ (i := 1) (N := some 42) (v := ?_) (a' := ?_) #[true, true, false, false, false, true, false, false, false, false, false] rfl rfl (by kernel_rfl) (fun _ _ _ h => h) (Or.inl ⟨by rfl, ?_⟩) hHeld ?_ ?_
            rotate_left
            · intro w' hS_
              have kp_ := LP.out _ hS_
              have kt_ := LT.out _ hS_
              go_simp
              with_reducible rfl
            rotate_left
            · (try show Act.put _ _ _ = _); simp only [Act.put, List.setIfInBounds_toArray, List.set_cons_zero, List.set_cons_succ, i64_w, i32_w]
              rfl
            refine pure_ (i := 2) (N := some 43) (v := ?_) (a' := ?_) #[true, true, true, false, false, true, false, false, false, false, false] rfl rfl (by kernel_rfl) (fun _ _ _ h => h) (Or.inl ⟨by rfl, ?_⟩) ?_ ?_
            rotate_left
            · intro w'
              go_simp
              with_reducible rfl
            rotate_left
            · (try show Act.put _ _ _ = _); simp only [Act.put, List.setIfInBounds_toArray, List.set_cons_zero, List.set_cons_succ, i64_w, i32_w]
              rfl
            refine pure_ (i := 3) (N := some 44) (v := ?_) (a' := ?_) #[true, true, true, true, false, true, false, false, false, false, false] rfl rfl (by kernel_rfl) (fun _ _ _ h => h) (Or.inl ⟨by rfl, ?_⟩) ?_ ?_
            rotate_left
            · intro w'
              go_simp
              with_reducible rfl
            rotate_left
            · (try show Act.put _ _ _ = _); simp only [Act.put, List.setIfInBounds_toArray, List.set_cons_zero, List.set_cons_succ, i64_w, i32_w]
              rfl
            refine take_ (i := 4) (N := some 45) (v := ?_) (a' := ?_) #[true, true, true, true, true, true, false, false, false, false, false] rfl rfl (by kernel_rfl) (fun _ _ _ h => h) (Or.inl ⟨by rfl, ?_⟩) hHeld ?_ ?_
            rotate_left
            · intro w' hS_
              have kp_ := LP.out _ hS_
              have kt_ := LT.out _ hS_
              go_simp
              with_reducible rfl
            rotate_left
            · (try show Act.put _ _ _ = _); simp only [Act.put, List.setIfInBounds_toArray, List.set_cons_zero, List.set_cons_succ, i64_w, i32_w]
              rfl
            refine one_ (i := 6) (N := some 47) #[true, true, true, true, true, true, true, false, false, false, false] rfl rfl (by kernel_rfl) (by decide) (fun K hK => ?_)
            refine value_ (w1 := ?_) (v := ?_) (by rfl) rfl ?_ ?_
            rotate_left 2
            · go_simp
              constructor
              · rfl
              · rfl
            refine hK.out _ _ (hHeld.alloc (Nat.le_trans GZ.out hHeld.size) _) (fun hHeld => ?_)
            clear hK K
            refine norm_ (a' := ?_) ?_ ?_
            rotate_left
            · show Act.put _ (some 47) _ = _
              simp only [Act.put, List.setIfInBounds_toArray, List.set_cons_zero, List.set_cons_succ, i64_w, i32_w]
              rfl
            refine one_ (i := 7) (N := some 48) #[true, true, true, true, true, true, true, true, false, false, false] rfl rfl (by kernel_rfl) (by decide) (fun K hK => ?_)
            refine Kd.R_append_step (Kd.int .i64) (w0 := wr) (gC + 1) (by rfl) (.tmp 45) (.tmp 47) 26 3 (.int .i64 0) 8 rfl Try.underlying26 info3 rfl (by decide) (by decide) _ (tkI true (8 - m)) (m : Int) [.int .i64 (m : Int)] (fun k => gC + 1 ≤ k) (fun _ => False) rfl rfl ?aP (fun _ hk => hk.elim) ?aF ?aO ?aB ?aS ?aL ?_
            (case aP => exact rfl)
            (case aB => exact HBq.out)
            (case aF => exact (fun k hk => Nat.le_trans (Nat.le_trans GZ.out HBq.out.size) hk))
            (case aO => exact HOq.out)
            (case aS => exact Nat.le_trans GZ.out HBq.out.size)
            (case aL => exact HLIM.out)
            intro v5 w5 ho hb_ hg_ hat
            clear hg_ hat
            obtain ⟨kA5, kc5, rfl⟩ := Kd.R_slice ho
            have HO5 := Aside0.mk ho
            have HB5 := Aside0.mk hb_
            clear ho hb_
            refine hK.out _ _ (HB5.out) (fun hHeld => ?_)
            clear hK K
            refine norm_ (a' := ?_) ?_ ?_
            rotate_left
            · show Act.put _ (some 48) _ = _
              simp only [Act.put, List.setIfInBounds_toArray, List.set_cons_zero, List.set_cons_succ, i64_w, i32_w]
              rfl
            refine pure_ (i := 8) (N := some 49) (v := ?_) (a' := ?_) #[true, true, true, true, true, true, true, true, true, false, false] rfl rfl (by kernel_rfl) (fun _ _ _ h => h) (Or.inl ⟨by rfl, ?_⟩) ?_ ?_
            rotate_left
            · intro w'
              go_simp
              with_reducible rfl
            rotate_left
            · (try show Act.put _ _ _ = _); simp only [Act.put, List.setIfInBounds_toArray, List.set_cons_zero, List.set_cons_succ, i64_w, i32_w]
              rfl
            refine pure_ (i := 9) (N := some 50) (v := ?_) (a' := ?_) #[true, true, true, true, true, true, true, true, true, true, false] rfl rfl (by kernel_rfl) (fun _ _ _ h => h) (Or.inl ⟨by rfl, ?_⟩) ?_ ?_
            rotate_left
            · intro w'
              go_simp
              with_reducible rfl
            rotate_left
            · (try show Act.put _ _ _ = _); simp only [Act.put, List.setIfInBounds_toArray, List.set_cons_zero, List.set_cons_succ, i64_w, i32_w]
              rfl
            refine last_ (i := 10) (N := none) #[true, true, true, true, true, true, true, true, true, true, true] rfl rfl (by kernel_rfl) (by decide) (fun K hK => ?_)
            have h5 := (HB5.out.block gT (by have := HLT.out; omega)).trans GT.out
            have HT5 := Aside0.mk h5
            have hst := run_store_run (P := Try.prog) (w := w5) (g := gT) (o := 1) 26 (.slice kA5 (tkI true (8 - m) ++ [(m : Int)]).length kc5) [.slice kA5 (tkI true (8 - m) ++ [(m : Int)]).length kc5] h5 rfl rfl (by simp) (by intro q hq; obtain rfl := List.mem_singleton.1 hq; rfl)
            clear h5
            refine skip_ (w1 := w5.setCell ⟨gT, 1, none⟩ (.slice kA5 (tkI true (8 - m) ++ [(m : Int)]).length kc5)) (by rfl) rfl ?_ ?_
            · exact exec_store rfl _ _ rfl rfl hst
            clear hst
            refine hK.out _ _ ?_
            clear hK K
            refine done_ (by kernel_rfl) ?_
            show onlyNormal _ .normal _ _
            unfold onlyNormal
            have HL9 := Aside0.mk (show (tkI true (8 - m) ++ [(m : Int)]).length = (Ld.tkD true (9 - m)).length by rw [HH.out]; unfold tkI; simp)
            have HL8 := Aside0.mk (show tkI true (8 - m) ++ [(m : Int)] = tkI true (9 - m) by unfold tkI; rw [HH.out]; simp)
            rw [HL9.out] at HO5
            rw [HL8.out] at HO5
            rw [HL9.out]
            go_wp2
            refine ⟨⟨m, kA5, kc5, by have := HM8.out; omega, rfl, ⟨?_⟩, ⟨Kd.R_far HO5.out (p := ⟨gT, 1, none⟩) (fun k hk => by have := HLT.out; show k ≠ gT; omega) _⟩, ⟨?_⟩, ⟨?_⟩, ⟨?_⟩⟩, HMS.out⟩
            · exact setCell_heap9 w5 gT 1 _ _ (.slice kA5 (Ld.tkD true (9 - m)).length kc5) HT5.out
            · intro k hk hne
              exact (Below.heap_setCell _ _ _ k (by show k ≠ gT; exact hne)).trans ((HB5.out.block k (by omega)).trans (GS.out k hk hne))
            · exact (GB.out.trans (HB5.out.mono (by have := HLT.out; omega))).setCell (p := ⟨gT, 1, none⟩) (by show b0 ≤ gT; have := HD0.out; omega) _
            · have h1 := HB5.out.size
              have h2 := GZ.out
              simp only [World.setCell, Array.size_modify]
              omega
          | false =>
            have HNO := Aside0.mk (NO.out hhas)
            clear hhas hv
            go_wp2
            exact ⟨HNO.out, HMS.out⟩
      · have d1 : decide (0 ≤ V) = false := decide_eq_false hv
        rw [d1] at hhas
        have HNO := Aside0.mk (NO.out hhas)
        clear hhas hy hv
        cases sq <;>
        · go_wp2
          exact ⟨HNO.out, HMS.out⟩
    | zero =>
      rw [show ((0 : Nat) : Int) - 1 = -1 from rfl]
      obtain ⟨wA, rfl⟩ : ∃ wA : World, wA = wr := ⟨_, rfl⟩
      have GP := Aside0.mk ((GS.out gP (by have := HLT.out; omega) (by have := HNE.out; omega)).trans FP0.out)
      have GB0 := Aside0.mk ((GS.out b0 (by have := HLT.out; omega) (by have := HD0.out; omega)).trans FB0.out)
      have GC := Aside0.mk ((GS.out gC (by omega) (by have := HLT.out; omega)).trans FC.out)
      have GN := Aside0.mk (FN0.out.same (GS.out gN (by have := HLT.out; omega) (by have := HNE.out; omega)))
      have kP : wA.cell? ⟨gP, 0, none⟩ = some (.pointer (some ⟨gT, 0, none⟩)) := (blk_cell GP.out 0).trans rfl
      have kT2 : wA.cell? ⟨gT, 2, none⟩ = some (.slice (some ⟨gN, 0, none⟩) (n + 1) (n + 1)) := (blk_cell GT.out 2).trans rfl
      have hk9 : Ld.tkD sq (9 - 0) = Ld.tk sq := Ld.tkD_9 sq
      rw [hk9] at GT GR
      have HK9 := Aside0.mk hk9
      clear hk9 FP0 FB0 FC FN0 GS hm
      go_wp2
      obtain ⟨NN, hNN⟩ : ∃ NN, (n + 1) * 2049 = NN := ⟨_, rfl⟩
      rw [hNN] at GN
      have HNN := Aside0.mk hNN
      clear hNN
      go_loopw [56] (fun iv wr => ∃ i : Nat, i ≤ n + 1 ∧ iv = .int .i64 (i : Int) ∧ Aside0 (NdAt wr gN NN (fun j => if j < i * 2049 then Ld.never else 0)) ∧ Aside0 (∀ k, k ≠ gN → wr.heap[k]? = wA.heap[k]?) ∧ Aside0 (Below b0 w wr) ∧ Aside0 (wr.heap.size = wA.heap.size)) (fun iv _ => n + 1 - (intOf iv).toNat)
      case atStart => exact ⟨0, Nat.zero_le _, rfl, ⟨GN.out.congr (fun j hj => by rw [if_neg (by omega)])⟩, ⟨fun _ _ => rfl⟩, GB, ⟨rfl⟩⟩
      case round =>
        obtain ⟨i, hi, rfl, QN, QS, QB, QZ⟩ := hrel
        by_cases hlt : i < n + 1
        · have q1 : (i : Int) < (n : Int) + 1 := by omega
          have HLTI := Aside0.mk hlt
          have q3 : (i : Int) ≤ 256 := by have := HN12.out; omega
          go_wp2
          obtain ⟨wo, rfl⟩ : ∃ wo : World, wo = wr := ⟨_, rfl⟩
          go_loopw [59] (fun mv wr => ∃ m : Nat, m ≤ 2049 ∧ mv = .int .i64 (m : Int) ∧ Aside0 (NdAt wr gN NN (fun j => if j < i * 2049 + m then Ld.never else 0)) ∧ Aside0 (∀ k, k ≠ gN → wr.heap[k]? = wA.heap[k]?) ∧ Aside0 (Below b0 w wr) ∧ Aside0 (wr.heap.size = wA.heap.size)) (fun mv _ => 2049 - (intOf mv).toNat)
          case atStart => exact ⟨0, Nat.zero_le _, rfl, QN, QS, QB, QZ⟩
          case round =>
            obtain ⟨m, hm, rfl, ON, OS, OB, OZ⟩ := hrel
            by_cases hlm : m < 2049
            · have q2 : (m : Int) < 2049 := by omega
              have hq : i * 2049 + m < NN := by have := HNN.out; have := HLTI.out; omega
              have c1 := ON.out.cell (i * 2049 + m) hq
              have f1 := ON.out.frozen (i * 2049 + m)
              have kP2 : wr.cell? ⟨gP, 0, none⟩ = some (.pointer (some ⟨gT, 0, none⟩)) := (World.cell?_of_block (a := ⟨gP, 0, none⟩) (OS.out gP (by have := HNE.out; omega))).trans kP
              have kT3 : wr.cell? ⟨gT, 2, none⟩ = some (.slice (some ⟨gN, 0, none⟩) (n + 1) (n + 1)) := (World.cell?_of_block (a := ⟨gT, 2, none⟩) (OS.out gT (by have := HNE.out; omega))).trans kT2
              obtain ⟨Z, hZ⟩ : ∃ Z : Int, (if i * 2049 + m < i * 2049 + m then Ld.never else 0) = Z := ⟨_, rfl⟩
              rw [hZ] at c1
              have HM := Aside0.mk hlm
              have HQ := Aside0.mk hq
              clear hZ hq hlm hm
              go_wp2
              refine ⟨⟨m + 1, HM.out, by go_num, ⟨?_⟩, ⟨fun k hk => (Below.heap_setCell _ _ _ k (by show k ≠ gN; exact hk)).trans (OS.out k hk)⟩, ⟨OB.out.setCell (p := ⟨gN, i * 2049 + m, none⟩) (by show b0 ≤ gN; have := HD0.out; omega) _⟩, ⟨by simp only [World.setCell, Array.size_modify]; exact OZ.out⟩⟩, ?_⟩
              · refine (ON.out.put (i * 2049 + m) Ld.never).congr (fun j hj => ?_)
                by_cases e : j = i * 2049 + m
                · rw [if_pos e, if_pos (by omega)]
                · rw [if_neg e]
                  by_cases h2 : j < i * 2049 + m
                  · rw [if_pos h2, if_pos (by omega)]
                  · rw [if_neg h2, if_neg (by omega)]
              · have := HM.out
                simp only [intOf]; omega
            · obtain rfl : m = 2049 := by omega
              go_wp2
              refine ⟨⟨i + 1, by have := HLTI.out; omega, by go_num, ⟨ON.out.congr (fun j hj => by rw [show (i + 1) * 2049 = i * 2049 + 2049 by omega])⟩, OS, OB, OZ⟩, ?_⟩
              have := HLTI.out
              simp only [intOf]; omega
        · obtain rfl : i = n + 1 := by omega
          have RN := Aside0.mk (show NdAt wr gN NN (fun _ => Ld.never) from QN.out.congr (fun j hj => by rw [if_pos (by have := HNN.out; omega)]))
          have RS := QS
          have RB := QB
          have RZ := QZ
          clear QN QS QB QZ hlt hi
          obtain ⟨wB, rfl⟩ : ∃ wB : World, wB = wr := ⟨_, rfl⟩
          have kP2 : wB.cell? ⟨gP, 0, none⟩ = some (.pointer (some ⟨gT, 0, none⟩)) := (World.cell?_of_block (a := ⟨gP, 0, none⟩) (RS.out gP (by have := HNE.out; omega))).trans kP
          have kT3 : wB.cell? ⟨gT, 2, none⟩ = some (.slice (some ⟨gN, 0, none⟩) (n + 1) (n + 1)) := (World.cell?_of_block (a := ⟨gT, 2, none⟩) (RS.out gT (by have := HNE.out; omega))).trans kT2
          have kB : wB.cell? ⟨b0, 0, none⟩ = some (.slice A0 n c0) := (blk_cell ((RS.out b0 (by have := HD0.out; omega)).trans GB0.out) 0).trans rfl
          have hq : n * 2049 < NN := by have := HNN.out; omega
          have qn : (n : Int) < (n : Int) + 1 := by omega
          have c1 := RN.out.cell (n * 2049) hq
          have f1 := RN.out.frozen (n * 2049)
          go_wp2
          refine QTail.wp_region_quiet_tail 7 (by kernel_rfl) (by kernel_rfl) ?_
          simp only [List.take_succ_cons, List.take_zero, List.drop_succ_cons, List.drop_zero]
          repeat (quiet_step (fail))
          have kB2 : ∀ (nq : Nat) (v : Value), ((wB.drewN nq).setCell ⟨gN, n * 2049, none⟩ v).cell? ⟨b0, 0, none⟩ = some (.slice A0 n c0) := fun nq v => (blk_cell ((Below.heap_setCell _ _ _ b0 (by have := HD0.out; show b0 ≠ gN; omega)).trans ((RS.out b0 (by have := HD0.out; omega)).trans GB0.out)) 0).trans rfl
          refine wpQuiet_nil ?_
          intro nq
          have HWC := Aside0.mk (RN.out.same (w' := wB.drewN nq) rfl)
          go_wp2_with (go_at_call 52; (with_reducible refine (backward_calls _ _ _ _).mono ?_); rintro e w9 ⟨rfl, hw9⟩; (have HW9 := Aside0.mk hw9); clear hw9)
          refine (wpIn_wide (n := 5)).1 ?_
          have HSB := Aside0.mk (show w9.heap.size = wB.heap.size + 1 by rw [HW9.out]; simp [World.setCell])
          have HBS := Aside0.mk (show w9.heap[wB.heap.size]? = some (.cells #[.slice A0 n c0] 26 (0, 0)) by rw [HW9.out]; have h := blk_new ((wB.drewN nq).setCell ⟨gN, n * 2049, none⟩ (.int .i64 0)) (.cells #[.slice A0 n c0] 26); rw [show ((wB.drewN nq).setCell ⟨gN, n * 2049, none⟩ (.int .i64 0)).heap.size = wB.heap.size by simp [World.setCell]] at h; exact h)
          have HNB := Aside0.mk (show gN < wB.heap.size from RN.out.lt)
          have N9 := Aside0.mk (show NdAt w9 gN NN (fun j => if j = n * 2049 then 0 else Ld.never) from HW9.out ▸ ((HWC.out.put (n * 2049) 0).same (Below.heap_alloc _ _ _ (by simp [World.setCell]; exact HNB.out))))
          have S9 := Aside0.mk (show ∀ k, k < wB.heap.size → k ≠ gN → w9.heap[k]? = wA.heap[k]? from fun k hk hne => by rw [HW9.out]; exact (Below.heap_alloc _ _ _ (by simp [World.setCell]; exact hk)).trans ((Below.heap_setCell _ _ _ k (by show k ≠ gN; exact hne)).trans (RS.out k hne)))
          have B9 := Aside0.mk (show Below b0 w w9 from HW9.out ▸ (((RB.out.trans (show Below b0 wB (wB.drewN nq) from ⟨rfl, rfl, rfl, Nat.le_refl _, fun _ _ => rfl⟩)).setCell (p := ⟨gN, n * 2049, none⟩) (by show b0 ≤ gN; have := HD0.out; omega) _).alloc (by simp [World.setCell]; have h1 := HNB.out; have h2 := HD0.out; omega) _))
          have HAB := Aside0.mk RZ.out
          obtain ⟨gk, kc9, hv, hgk, hgl, clk, hclk⟩ := Kd.R_form GR.out (by unfold tkI; rw [HK9.out, List.length_map]; cases sq <;> decide)
          have hlk : (tkI sq (9 - 0)).length = (Ld.tk sq).length := by unfold tkI; rw [HK9.out, List.length_map]
          rw [hlk] at hv
          simp only [Value.slice.injEq] at hv
          obtain ⟨rfl, -, rfl⟩ := hv
          have HGK := Aside0.mk (And.intro hgk hgl)
          have KC := Aside0.mk (show ∀ (t b : Nat), (Ld.tk sq)[t]? = some b → wA.cell? ⟨gk, t, none⟩ = some (.int .i64 (b : Int)) from fun (t b : Nat) hb => by
            have ht : t < (Ld.tk sq).length := (List.getElem?_eq_some_iff.1 hb).1
            have h := int_cell GR.out hlk t ht
            rw [h]
            congr 2
            unfold tkI
            rw [HK9.out, List.getD_eq_getElem?_getD, List.getElem?_map, hb]
            rfl)
          clear hgk hgl hclk hlk RN RS RB RZ HWC HW9 kB2 kP2 kT3 kB c1 f1 qn hq
          have hsz9 := HSB.out
          obtain ⟨gB, hgB⟩ : ∃ gB, wB.heap.size = gB := ⟨_, rfl⟩
          rw [hgB] at HSB HBS HNB S9 HAB hsz9
          try rw [hgB]
          have hgNB := HNB.out
          have hb0N := HD0.out.2.2
          clear hgB
          refine wpIn_rangeV_out (by decide) (gf := 64) (lb := #[.pointer (some ⟨gB, 0, none⟩)]) rfl trivial (enters_of Try.func64 (by kernel_rfl) rfl) (back_seq 4 (by decide) gB A0 c0 n HN12.out.2 l0 w w9 HR.out HBS.out (hb0 ▸ B9.out)) (fun h h' => ⟨h'.1.trans h.1, h.2.trans h'.2⟩) (fun W l o o' hl _ _ => ⟨World.putObj_heap_other (by omega), ⟨rfl, rfl, rfl, by simp, fun k hk => World.putObj_heap_other (by omega)⟩⟩) (Below.refl _ _) (fun _ => rfl)
            (fun k W => MidB w9 w b0 gN NN (TabOk sq l0 n k) W) (fun _ _ => False) (fun k => MidB.lasts (by omega) (by omega)) (fun c => Lasts.const _ False) ⟨⟨_, N9.out, TabOk.start sq l0 n HN.out⟩, fun _ _ _ => rfl, B9.out, Nat.le_refl _⟩ ?round rfl ?done ?stop
          case round =>
            rintro l k x W hl hmid hx hk
            obtain ⟨w0, hw0⟩ : ∃ w0, l0.getD x 0 = w0 := ⟨_, rfl⟩
            have HW0 := Aside0.mk hw0
            dsimp only [bwEnc]
            rw [hw0]
            clear hw0
            gi_wp2
            refine ⟨(KeepsOthers.refl _).from _, ⟨rfl, Below.refl _ _⟩, fun W2 hrr hT => ?_⟩
            have hmid2 := hT _ (MidB.lasts (by omega) (by omega)) hmid
            clear hmid hT hrr
            obtain ⟨⟨f0, hN0, hT0⟩, hS0, hB0, hZ0⟩ := hmid2
            have hxk : x + k + 1 = n := hx
            have REST0 := Aside0.mk (show RestR w9 w W2 b0 gN gB W2 from ⟨hS0, hB0, hZ0, (KeepsOthers.refl _).from _, rfl, Below.refl _ _⟩)
            have TAB0 := Aside0.mk (show ∃ f, NdAt W2 gN NN f ∧ TabIn sq l0 n x 0 0 f from ⟨f0, hN0, hT0.enter hxk⟩)
            have CELLB := Aside0.mk (show ∀ W', RestR w9 w W2 b0 gN gB W' → W'.cell? ⟨b0, 0, none⟩ = some (.slice A0 n c0) from fun W' hr => (blk_cell ((hr.1 b0 (by omega) (by omega)).trans ((S9.out b0 (by omega) (by omega)).trans GB0.out)) 0).trans rfl)
            have CELLP := Aside0.mk (show ∀ W', RestR w9 w W2 b0 gN gB W' → W'.cell? ⟨gP, 0, none⟩ = some (.pointer (some ⟨gT, 0, none⟩)) from fun W' hr => (blk_cell ((hr.1 gP (by have := HLT.out; have := HGK.out; have := HAB.out; omega) (by have := HNE.out; omega)).trans ((S9.out gP (by have := HLT.out; have := HGK.out; have := HAB.out; omega) (by have := HNE.out; omega)).trans GP.out)) 0).trans rfl)
            have CELLT := Aside0.mk (show ∀ W', RestR w9 w W2 b0 gN gB W' → W'.cell? ⟨gT, 1, none⟩ = some (.slice (some ⟨gk, 0, none⟩) (Ld.tk sq).length kc) ∧ W'.cell? ⟨gT, 2, none⟩ = some (.slice (some ⟨gN, 0, none⟩) (n + 1) (n + 1)) from fun W' hr => by
              have h := (hr.1 gT (by have := HLT.out; have := HGK.out; have := HAB.out; omega) (by have := HNE.out; omega)).trans ((S9.out gT (by have := HLT.out; have := HGK.out; have := HAB.out; omega) (by have := HNE.out; omega)).trans GT.out)
              exact ⟨(blk_cell h 1).trans rfl, (blk_cell h 2).trans rfl⟩)
            have CELLC := Aside0.mk (show ∀ W', RestR w9 w W2 b0 gN gB W' → ∀ b, b < 9 → W'.cell? ⟨gC, b, none⟩ = some (.int .i64 (Ld.E b)) from fun W' hr b hb => by
              have h := (hr.1 gC (by have := HGK.out; have := HAB.out; omega) (by have := HLT.out; omega)).trans ((S9.out gC (by have := HGK.out; have := HAB.out; omega) (by have := HLT.out; omega)).trans GC.out)
              rw [← HCS.out] at h
              exact cells9 (m := Ld.E) h b hb)
            have CELLK := Aside0.mk (show ∀ W', RestR w9 w W2 b0 gN gB W' → ∀ (t b : Nat), (Ld.tk sq)[t]? = some b → W'.cell? ⟨gk, t, none⟩ = some (.int .i64 (b : Int)) from fun W' hr t b hb => (World.cell?_of_block (a := ⟨gk, t, none⟩) ((hr.1 gk (by have := HGK.out; have := HAB.out; omega) (by have := HGK.out; have := HLT.out; omega)).trans (S9.out gk (by have := HGK.out; have := HAB.out; omega) (by have := HGK.out; have := HLT.out; omega)))).trans (KC.out t b hb))
            clear f0 hN0 hT0 hS0 hB0 hZ0
            have kB := CELLB.out _ REST0.out
            have hxn := HN12.out
            have q1 : (n : Int) ≤ 256 := by omega
            have q2 : (x : Int) < (n : Int) := by omega
            have q3 : (x : Int) + (k : Int) + 1 = (n : Int) := by omega
            have HXK := Aside0.mk hxk
            clear hxn hxk hx
            gi_wp2
            have HWB := Aside0.mk (show 1 ≤ w0 ∧ w0 ≤ 1048576 by
              rw [← HW0.out]
              have hlt : x < l0.length := by have := HXK.out; have := HN.out; omega
              rw [List.getD_eq_getElem?_getD, List.getElem?_eq_getElem hlt]
              exact HOK.out.2 _ (List.getElem_mem hlt))
            have HOKD := Aside0.mk (show Ld.ok (l0.drop (x + 1)) from ⟨by rw [List.length_drop]; have := HOK.out.1; omega, fun z hz => HOK.out.2 z (List.mem_of_mem_drop hz)⟩)
            clear kB
            gi_loopw [91] (fun jv wr => ∃ j : Nat, j ≤ 8 * k + 1 ∧ jv = .int .i64 (j : Int) ∧ Aside0 (RestR w9 w W2 b0 gN gB wr) ∧ Aside0 (∃ f, NdAt wr gN NN f ∧ TabIn sq l0 n x j 0 f)) (fun jv _ => 8 * k + 1 - (intOf jv).toNat)
            case atStart => exact ⟨0, Nat.zero_le _, rfl, REST0, TAB0⟩
            case round =>
              obtain ⟨j, hj, rfl, HRE, HTA⟩ := hrel
              by_cases hjl : j < 8 * k + 1
              · obtain ⟨f, hNf, hTf⟩ := HTA.out
                have hk255 : k ≤ 255 := by omega
                have q4 : (j : Int) < 8 * ((n : Int) - (x : Int) - 1) + 1 := by omega
                have hj48 : j ≤ 2040 := by omega
                have kP := CELLP.out _ HRE.out
                obtain ⟨kT1, kT2⟩ := CELLT.out _ HRE.out
                have hG := hTf.1 (x + 1) (by omega) (by omega) j (by omega)
                have kG := hNf.cell ((x + 1) * 2049 + j) (by have := HNN.out; have := HXK.out; omega)
                rw [hG] at kG
                have hGb := Ld.need_bd sq _ HOKD.out j
                have hGl := Ld.need_lt sq _ HOKD.out j
                have hGn := Ld.need_le sq (l0.drop (x + 1)) j
                obtain ⟨G, hGe⟩ : ∃ G, Ld.need sq (l0.drop (x + 1)) j = G := ⟨_, rfl⟩
                have HGE := Aside0.mk hGe
                rw [hGe] at kG hGb hGl hGn
                have HGR := Aside0.mk (And.intro hGb.1 (And.intro hGl hGn))
                have HF := Aside0.mk (And.intro hNf hTf)
                have HJ := Aside0.mk (show j < 8 * k + 1 ∧ j ≤ 2040 ∧ k ≤ 255 from ⟨hjl, hj48, hk255⟩)
                have HMJ := Aside0.mk (show 8 * k + 1 - ((j : Int) + 1).toNat < 8 * k + 1 - (j : Int).toNat by omega)
                clear hNf hTf hG hGb hGl hGn hGe HTA hj hjl hk255
                by_cases hnv : G = 1152921504606846976
                · have d1 : (G == 1152921504606846976) = true := by simpa using hnv
                  have HNV := Aside0.mk hnv
                  clear hnv
                  gi_wp2
                  refine ⟨⟨j + 1, by have := HJ.out; omega, by go_num, HRE, ⟨f, HF.out.1, HF.out.2.next (.inr (by rw [HGE.out, HNV.out]; decide))⟩⟩, HMJ.out⟩
                · have d1 : (G == 1152921504606846976) = false := by simpa using hnv
                  have HNV := Aside0.mk (show G ≤ 45634027520 ∧ 0 ≤ G ∧ G < Ld.never by
                    have h := HGR.out
                    have e : Ld.never = 1152921504606846976 := rfl
                    have : G < Ld.never := by omega
                    exact ⟨h.2.1 this, h.1, this⟩)
                  clear hnv
                  gi_wp2
                  gi_loopw [111] (fun tv wr => ∃ t : Nat, t ≤ (Ld.tk sq).length ∧ tv = .int .i64 (t : Int) ∧ Aside0 (RestR w9 w W2 b0 gN gB wr) ∧ Aside0 (∃ f, NdAt wr gN NN f ∧ TabIn sq l0 n x j t f)) (fun tv _ => (Ld.tk sq).length - (intOf tv).toNat)
                  case atStart => exact ⟨0, Nat.zero_le _, rfl, HRE, ⟨f, HF.out.1, HF.out.2⟩⟩
                  case round =>
                    obtain ⟨wk, rfl⟩ : ∃ wk : World, wk = wr := ⟨_, rfl⟩
                    obtain ⟨t, ht, rfl, HRT, HTT⟩ := hrel
                    by_cases htl : t < (Ld.tk sq).length
                    · obtain ⟨f, hNf, hTf⟩ := HTT.out
                      obtain ⟨b, hb⟩ : ∃ b, (Ld.tk sq)[t]? = some b := ⟨_, List.getElem?_eq_getElem htl⟩
                      obtain ⟨e0, e1, e2⟩ := Ld.tk_E sq b (List.mem_of_getElem? hb)
                      have kP := CELLP.out _ HRT.out
                      obtain ⟨kT1, kT2⟩ := CELLT.out _ HRT.out
                      have kK := CELLK.out _ HRT.out t b hb
                      have kE := CELLC.out _ HRT.out b (by omega)
                      obtain ⟨V, hV⟩ : ∃ V, Ld.E b = V := ⟨_, rfl⟩
                      rw [hV] at kE e0 e1
                      have hM := Ld.wE w0 HWB.out V e0 e1
                      obtain ⟨M, hMe⟩ : ∃ M, w0 * V = M := ⟨_, rfl⟩
                      rw [hMe] at hM
                      have hG9 := HNV.out
                      have i1 : IntKind.i64.wrap (w0 * V) = M := by rw [hMe, IntKind.wrap_i64]; omega
                      have i2 : IntKind.i64.wrap (G + M) = G + M := by rw [IntKind.wrap_i64]; omega
                      have hjb : j + b ≤ 2048 := by have := HJ.out; omega
                      have kF := hNf.cell (x * 2049 + (j + b)) (by have := HNN.out; have := HXK.out; omega)
                      have fF := hNf.frozen (x * 2049 + (j + b))
                      have hFr : 0 ≤ f (x * 2049 + (j + b)) ∧ f (x * 2049 + (j + b)) ≤ Ld.never := (hTf.2.2 (j + b) hjb).1
                      have hstep := hTf.step b hb hjb (by rw [HGE.out]; exact HNV.out.2.2) (by rw [HGE.out, HW0.out, hV, hMe]; omega)
                      have hput : ∀ nq : Nat, NdAt ((wk.drewN nq).setCell ⟨gN, x * 2049 + (j + b), none⟩ (.int .i64 (min (f (x * 2049 + (j + b))) (G + M)))) gN NN (fun i => if i = x * 2049 + (j + b) then min (f (x * 2049 + (j + b))) (G + M) else f i) := fun nq => (hNf.same (w' := wk.drewN nq) rfl).put (x * 2049 + (j + b)) (min (f (x * 2049 + (j + b))) (G + M))
                      rw [HGE.out, HW0.out, hV, hMe] at hstep
                      have HOUT := Aside0.mk (And.intro hput hstep)
                      obtain ⟨F, hFe⟩ : ∃ F, f (x * 2049 + (j + b)) = F := ⟨_, rfl⟩
                      rw [hFe] at kF hFr HOUT
                      have q5 : (t : Int) < ((Ld.tk sq).length : Int) := by omega
                      have q6 : (b : Int) ≤ 8 := by omega
                      have q11 : (t : Int) < 9 := by have := Ld.tk_len sq; omega
                      have q7 : (b : Int) < 9 := by omega
                      have q8 : (x : Int) < (n : Int) + 1 := by omega
                      have q9 : (j : Int) + (b : Int) < 2049 := by omega
                      have i3 : IntKind.i64.wrap ((j : Int) + (b : Int)) = (j : Int) + (b : Int) := by rw [IntKind.wrap_i64]; omega
                      have hmin : min b 9 = b := by omega
                      have q10 : 0 ≤ (j : Int) + (b : Int) := by omega
                      have i4 : ((j : Int) + (b : Int)).toNat = j + b := by omega
                      have HT9 := Aside0.mk htl
                      have HPT := Aside0.mk (show ∀ (nq : Nat) (v : Value), RestR w9 w W2 b0 gN gB ((wk.drewN nq).setCell ⟨gN, x * 2049 + (j + b), none⟩ v) from fun nq v => (HRT.out.drewN nq).put (by omega) (by omega) (by omega) _ _)
                      have HMT := Aside0.mk (show (Ld.tk sq).length - ((t : Int) + 1).toNat < (Ld.tk sq).length - (t : Int).toNat by omega)
                      clear hNf hTf hb hV hM hMe hG9 hstep hput hFe htl HTT ht e0 e1 e2
                      gi_wp2
                      refine wpIn_region_tail_round l 28 (by kernel_rfl) (by kernel_rfl) (by kernel_rfl) ?_
                      simp only [List.take_succ_cons, List.take_zero, List.drop_succ_cons, List.drop_zero]
                      repeat (quiet_step (fail))
                      refine wpQuiet_nil ?_
                      intro nq
                      go_wp2
                      · have emin : min F (G + M) = G + M := by omega
                        rw [emin] at HOUT
                        refine ⟨rfl, ?_⟩
                        gi_wp2
                        exact ⟨⟨t + 1, HT9.out, by go_num, ⟨HPT.out nq _⟩, ⟨_, HOUT.out.1 nq, HOUT.out.2⟩⟩, HMT.out⟩
                      · have emin : min F (G + M) = F := by omega
                        rw [emin] at HOUT
                        refine ⟨rfl, ?_⟩
                        gi_wp2
                        exact ⟨⟨t + 1, HT9.out, by go_num, ⟨HPT.out nq _⟩, ⟨_, HOUT.out.1 nq, HOUT.out.2⟩⟩, HMT.out⟩
                    · have q5 : ¬ ((t : Int) < ((Ld.tk sq).length : Int)) := by omega
                      obtain ⟨f9, hN9, hT9⟩ := HTT.out
                      have HGO := Aside0.mk (show ∃ f, NdAt wk gN NN f ∧ TabIn sq l0 n x (j + 1) 0 f from ⟨f9, hN9, hT9.next (.inl (by omega))⟩)
                      clear hN9 hT9 HTT
                      gi_wp2
                      exact ⟨⟨j + 1, by have := HJ.out; omega, by go_num, HRT, HGO⟩, HMJ.out⟩
              · obtain rfl : j = 8 * k + 1 := by omega
                have q4 : ¬ ((((8 * k + 1 : Nat) : Int)) < 8 * ((n : Int) - (x : Int) - 1) + 1) := by omega
                obtain ⟨f9, hN9, hT9⟩ := HTA.out
                have HGO := Aside0.mk (show ∃ f, NdAt wr gN NN f ∧ TabOk sq l0 n (k + 1) f from ⟨f9, hN9, hT9.leave HN.out HOK.out HXK.out⟩)
                clear hN9 hT9 HTA hjl hj
                have HEND := Aside0.mk (show KeepsFrom (gB + 1) W2 wr ∧ KpB gB b0 W2 wr from ⟨hsz9 ▸ HRE.out.2.2.2.1, hb0 ▸ HRE.out.2.2.2.2⟩)
                gi_wp2
                exact ⟨HEND.out.1, HEND.out.2, HGO.out, HRE.out.1, HRE.out.2.1, HRE.out.2.2.1⟩
          case done =>
            rintro D W hD hmid hK
            obtain ⟨⟨f9, hN9, hT9⟩, hS9, hB9, hZ9⟩ := hmid
            have kP : W.cell? ⟨gP, 0, none⟩ = some (.pointer (some ⟨gT, 0, none⟩)) := (blk_cell ((hS9 gP (by have := HLT.out; have := HGK.out; have := HAB.out; omega) (by have := HNE.out; omega)).trans ((S9.out gP (by have := HLT.out; have := HGK.out; have := HAB.out; omega) (by have := HNE.out; omega)).trans GP.out)) 0).trans rfl
            have hO : ∀ g, g < w9.heap.size → (W.putObj D (.deferred none)).heap[g]? = W.heap[g]? := fun g hg => World.putObj_heap_other (by omega)
            have HFIN := Aside0.mk (show TblAt (W.putObj D (.deferred none)) gT A0 n c0 sq l0 from ⟨gk, _, gN, f9, (hO gT (by have := HLT.out; have := HGK.out; have := HAB.out; omega)).trans ((hS9 gT (by have := HLT.out; have := HGK.out; have := HAB.out; omega) (by have := HNE.out; omega)).trans ((S9.out gT (by have := HLT.out; have := HGK.out; have := HAB.out; omega) (by have := HNE.out; omega)).trans GT.out)), by have := HGK.out; have := HAB.out; simp; omega, fun t b hb => (World.cell?_of_block (a := ⟨gk, t, none⟩) ((hO gk (by have := HGK.out; have := HAB.out; omega)).trans ((hS9 gk (by have := HGK.out; have := HAB.out; omega) (by have := HGK.out; have := HLT.out; omega)).trans (S9.out gk (by have := HGK.out; have := HAB.out; omega) (by have := HGK.out; have := HLT.out; omega))))).trans (KC.out t b hb), by rw [HNN.out]; exact hN9.same (hO gN (by omega)), fun i hi m hm => hT9.1 i hi (by omega) m hm⟩)
            have HBW := Aside0.mk (show Below w.heap.size w (W.putObj D (.deferred none)) from hb0 ▸ hB9.trans ⟨rfl, rfl, rfl, by simp, fun k hk => World.putObj_heap_other (by omega)⟩)
            clear hN9 hT9 hS9 hB9 hZ9 hO
            go_wp2
            refine ⟨by simp, .inl ⟨_, _, rfl, run_takeDeferred hK, ?_⟩⟩
            exact ⟨_, results_tmp rfl _ _ _, gT, rfl, HFIN.out, HBW.out⟩
          case stop =>
            rintro D c W hD h
            exact h.elim
end Go.Proofs.Ytgmaiknbogcpgaa.Pure
