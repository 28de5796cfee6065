/- The first load of so many bits is read off the table. -/
import Derived.Test.YtgmaiknbogcpgaaFogx0
import Derived.Test.YtgmaiknbogcpgaaFst1
import Derived.Test.YtgmaiknbogcpgaaMade
namespace Go.Proofs.Ytgmaiknbogcpgaa.Pure
open Go.RowKit Go.Proofs.Ytgmaiknbogcpgaa.Fog Go.Proofs.YtgmaiknbogcpgaaW.PrintWords Go.Proofs.YtgmaiknbogcpgaaW.PrintLast Go.Proofs.YtgmaiknbogcpgaaW.PrintMore Go.Proofs.Ytgmaiknbogcpgaa.Kit Go.Proofs.Ytgmaiknbogcpgaa.Seq
set_option linter.unusedVariables false
set_option linter.unusedSimpArgs false
theorem loadInfo : (Try.prog.info? 29).map (·.size) = some 3 := by kernel_rfl
def tkL (sq : Bool) : List Int := (Ld.tk sq).map (fun x : Nat => (x : Int))
theorem find_idx (p : Nat → Bool) : ∀ (l : List Nat) (b s : Nat), l.find? p = some b → ∃ t : Nat, l[t]? = some b ∧ idxFrom (fun x : Int => p x.toNat) (l.map (fun x : Nat => (x : Int))) s = ((s + t : Nat) : Int)
  | [], b, s, h => by simp at h
  | x :: l, b, s, h => by
    rw [List.find?_cons] at h
    rw [List.map_cons]
    unfold idxFrom
    have e : (fun x : Int => p x.toNat) ((x : Nat) : Int) = p x := by show p ((x : Int).toNat) = p x; rw [Int.toNat_natCast]
    by_cases hp : p x = true
    · rw [hp] at h
      obtain rfl := Option.some.inj h
      exact ⟨0, rfl, by rw [if_pos (e.trans hp)]; rfl⟩
    · rw [Bool.not_eq_true] at hp
      rw [hp] at h
      obtain ⟨t, h1, h2⟩ := find_idx p l b (s + 1) h
      refine ⟨t + 1, h1, ?_⟩
      rw [if_neg (by show ¬ (p ((x : Int).toNat) = true); rw [Int.toNat_natCast, hp]; decide), h2]
      congr 1; omega
theorem idx_pick (sq : Bool) (w0 : Int) (ws : List Int) (N b : Nat) (h : Ld.pick sq w0 ws N = some b) : ∃ t : Nat, (Ld.tk sq)[t]? = some b ∧ idx (fun x : Int => fitB sq w0 ws N x.toNat) (tkL sq) = (t : Int) := by
  obtain ⟨t, h1, h2⟩ := find_idx (fitB sq w0 ws N) (Ld.tk sq) b 0 h
  exact ⟨t, h1, by unfold idx tkL; rw [h2, Nat.zero_add]⟩
theorem C_cells {w : World} {g : Nat} (l : List Int) (hm : l.length ≤ 9223372036854775807) (h : ∀ t x, l[t]? = some x → w.cell? ⟨g, t, none⟩ = some (.int .i64 x)) : Kd.C (Kd.int .i64) w (some ⟨g, 0, none⟩) l.length l := by
  refine ⟨rfl, hm, fun _ => ⟨_, rfl, fun j p hj => ⟨[.int .i64 p], rfl, rfl, fun i u hu => ?_⟩⟩⟩
  obtain ⟨rfl, rfl⟩ : i = 0 ∧ Value.int .i64 p = u := by
    match i, hu with
    | 0, hu => exact ⟨rfl, by simpa using hu⟩
  rw [add_zero_form]
  show w.cell? ⟨g, j * 1 + 0, none⟩ = _
  rw [Nat.mul_one, Nat.add_zero]
  exact h j p hj
theorem sets3L {W : World} {g : Nat} {T : TypeId} {x y z : Value} (h : W.heap[g]? = some (.cells #[x, y, z] T)) (a b c : Value) : (((W.setCell ⟨g, 0, none⟩ a).setCell ⟨g, 1, none⟩ b).setCell ⟨g, 2, none⟩ c).heap[g]? = some (.cells #[a, b, c] T) :=
  blk_put (blk_put (blk_put h 0 a rfl) 1 b rfl) 2 c rfl
/-- Only what lay then is asked. -/
theorem TblAt.low {W W' : World} {gT : Nat} {A0 : Option Addr} {n c0 : Nat} {sq : Bool} {l0 : List Int} (h : TblAt W gT A0 n c0 sq l0) (_ : TblAt W gT A0 n c0 sq l0) (hb : ∀ k, k < W.heap.size → W'.heap[k]? = W.heap[k]?) : TblAt W' gT A0 n c0 sq l0 := by
  obtain ⟨gk, kc, gN, f, h1, h2, h3, h4, h5⟩ := h
  have e1 := hb gT (Array.getElem?_eq_some_iff.1 h1).1
  have e2 := hb gk h2
  refine ⟨gk, kc, gN, f, e1.trans h1, ?_, fun t b hh => (World.cell?_of_block (a := ⟨gk, t, none⟩) e2).trans (h3 t b hh), h4.same (hb gN h4.lt), h5⟩
  rcases Nat.lt_or_ge gk W'.heap.size with hl | hl
  · exact hl
  · rw [Array.getElem?_eq_none hl, Array.getElem?_eq_getElem h2] at e2
    cases e2
def bitsI (l : List Nat) : List Int := l.map (fun x : Nat => (x : Int))
set_option maxHeartbeats 8000000 in
set_option maxRecDepth 100000 in
theorem first_calls (gT : Nat) (A0 : Option Addr) (n c0 : Nat) (sq : Bool) (l0 : List Int) (N : Nat) (w : World) (hl0 : l0.length = n) (hn1 : 1 ≤ n) (hn2 : n ≤ 256) (hok : Ld.ok l0) (hT : TblAt w gT A0 n c0 sq l0) (hr0 : Kd.C (Kd.int .i64) w A0 n l0) (hN : N ≤ 2048) (hf : Ld.need sq l0 N < Ld.never) :
    Calls Try.prog 38 #[.pointer (some ⟨gT, 0, none⟩), .int .i64 (N : Int)] w fun r w' => ∃ v, r = .returned (.agg #[v, .int .i64 (N : Int), .int .i64 (Ld.need sq l0 N)]) ∧ Kd.R (Kd.int .i64) 3 w' w.heap.size (fun _ => True) v (bitsI (Ld.first sq l0 N)) ∧ Below w.heap.size w w' := by
  have HT := Aside0.mk hT
  have HC := Aside0.mk hr0
  have HOK := Aside0.mk hok
  have HL := Aside0.mk hl0
  have HN12 := Aside0.mk (And.intro hn1 hn2)
  have HNN := Aside0.mk hN
  have HFE := Aside0.mk hf
  obtain ⟨PW, hPW⟩ : ∃ PW, Ld.need sq l0 N = PW := ⟨_, rfl⟩
  have HPW := Aside0.mk hPW
  rw [hPW]
  clear hT hr0 hok hl0 hn1 hn2 hN hf hPW
  go_enter Try.func38, Try.ntmps38
  go_wp2
  obtain ⟨b0, hb0⟩ : ∃ b0, w.heap.size = b0 := ⟨_, rfl⟩
  obtain ⟨w1, hw1e⟩ : ∃ w1, ((w.alloc (.cells #[.pointer (some ⟨gT, 0, none⟩)] 63)).alloc (.cells #[.int .i64 (N : Int)] 3)).alloc (.cells #[.slice none 0 0, .int .i64 0, .int .i64 0] 29) = w1 := ⟨_, rfl⟩
  have F0 := Aside0.mk (show w1.heap[b0]? = some (.cells #[.pointer (some ⟨gT, 0, none⟩)] 63 (0, 0)) from hw1e ▸ hb0 ▸ three_a w _ _ _)
  have F1 := Aside0.mk (show w1.heap[b0 + 1]? = some (.cells #[.int .i64 (N : Int)] 3 (0, 0)) from hw1e ▸ hb0 ▸ three_b w _ _ _)
  have F2 := Aside0.mk (show w1.heap[b0 + 1 + 1]? = some (.cells #[.slice none 0 0, .int .i64 0, .int .i64 0] 29 (0, 0)) from hw1e ▸ hb0 ▸ three_c w _ _ _)
  have HB1 := Aside0.mk (show Below w.heap.size w w1 from hw1e ▸ (three_below w _ _ _).trans ⟨rfl, rfl, rfl, Nat.le_refl _, fun _ _ => rfl⟩)
  have HS1 := Aside0.mk (show w1.heap.size = b0 + 3 from hw1e ▸ hb0 ▸ by simp)
  rw [hw1e]
  try rw [hb0]
  clear hw1e
  have HT1 := Aside0.mk (HT.out.below HB1.out)
  obtain ⟨gk, kc, gN, f, h1', h2', h3', h4', h5⟩ := HT.out
  have h1 := blk_below h1' HB1.out
  have h2 : gk < w1.heap.size := Nat.lt_of_lt_of_le h2' HB1.out.size
  have h3 : ∀ (t b : Nat), (Ld.tk sq)[t]? = some b → w1.cell? ⟨gk, t, none⟩ = some (.int .i64 (b : Int)) := fun t b hh => (World.cell?_of_block (a := ⟨gk, t, none⟩) (HB1.out.block gk h2')).trans (h3' t b hh)
  have h4 := h4'.below HB1.out
  have HDD := Aside0.mk (show gT < b0 ∧ gk < b0 ∧ gN < b0 from by rw [← hb0]; exact ⟨(Array.getElem?_eq_some_iff.1 h1').1, h2', h4'.lt⟩)
  clear h1' h2' h3' h4'
  have LN := Aside0.mk (show ∀ w', Below w1.heap.size w1 w' → w'.cell? ⟨b0 + 1, 0, none⟩ = some (.int .i64 (N : Int)) from fun w' hb => (blk_cell (blk_below F1.out hb) 0).trans rfl)
  have LT := Aside0.mk (show ∀ w', Below w1.heap.size w1 w' → w'.cell? ⟨b0, 0, none⟩ = some (.pointer (some ⟨gT, 0, none⟩)) from fun w' hb => (blk_cell (blk_below F0.out hb) 0).trans rfl)
  have LTT := Aside0.mk (show ∀ w', Below w1.heap.size w1 w' → w'.cell? ⟨gT, 2, none⟩ = some (.slice (some ⟨gN, 0, none⟩) (n + 1) (n + 1)) from fun w' hb => (blk_cell (blk_below h1 hb) 2).trans rfl)
  have LC := Aside0.mk (show ∀ w', Below w1.heap.size w1 w' → w'.cell? ⟨gN, N, none⟩ = some (.int .i64 PW) from fun w' hb => by
    have h := (h4.below hb).cell N (by have := HNN.out; have := HN12.out; omega)
    have e := h5 0 (Nat.zero_le _) N HNN.out
    rw [Nat.zero_mul, Nat.zero_add, List.drop_zero, HPW.out] at e
    rw [e] at h
    exact h)
  have t1 : (N : Int) < 2049 := by have := HNN.out; omega
  have t2 : (0 : Int) < (n : Int) + 1 := by omega
  have T1 := Aside0.mk h1
  have T2 := Aside0.mk h2
  have T3 := Aside0.mk h3
  have T4 := Aside0.mk h4
  have T5 := Aside0.mk h5
  clear h1 h2 h3 h4 h5
  refine wp_normal ?_
  refine start_ (n := 12) (S := fun w' => Below w1.heap.size w1 w') (ds := [11]) #[false, false, false, false, false, false, false, false, false, false, false, false] (by kernel_rfl) rfl rfl ((Below.refl w1.heap.size w1).drew) (fun hHeld => ?_)
  obtain ⟨wq, hwq⟩ : ∃ wq, w1.drew = wq := ⟨_, rfl⟩; (have HBq := Aside0.mk hHeld); rw [hwq] at hHeld HBq ⊢; clear hwq
  refine take_ (i := 0) (N := some 10) (v := ?_) (a' := ?_) #[true, false, false, false, false, false, false, false, false, false, false, false] rfl rfl (by kernel_rfl) (fun _ _ _ h => h) (Or.inl ⟨by rfl, ?_⟩) hHeld ?_ ?_
  rotate_left
  · intro w' hS_
    have kn_ := LN.out _ hS_
    have kt_ := LT.out _ hS_
    have kT_ := LTT.out _ hS_
    have kc_ := LC.out _ hS_
    go_simp
    with_reducible rfl
  rotate_left
  · (try show Act.put _ _ _ = _); simp only [Act.put, List.setIfInBounds_toArray, List.set_cons_zero, List.set_cons_succ, i64_w, i32_w]
    rfl
  refine take_ (i := 1) (N := some 11) (v := ?_) (a' := ?_) #[true, true, false, false, false, false, false, false, false, false, false, false] rfl rfl (by kernel_rfl) (fun _ _ _ h => h) (Or.inl ⟨by rfl, ?_⟩) hHeld ?_ ?_
  rotate_left
  · intro w' hS_
    have kn_ := LN.out _ hS_
    have kt_ := LT.out _ hS_
    have kT_ := LTT.out _ hS_
    have kc_ := LC.out _ hS_
    go_simp
    with_reducible rfl
  rotate_left
  · (try show Act.put _ _ _ = _); simp only [Act.put, List.setIfInBounds_toArray, List.set_cons_zero, List.set_cons_succ, i64_w, i32_w]
    rfl
  refine pure_ (i := 2) (N := some 12) (v := ?_) (a' := ?_) #[true, true, true, false, false, false, false, false, false, false, false, false] rfl rfl (by kernel_rfl) (fun _ _ _ h => h) (Or.inl ⟨by rfl, ?_⟩) ?_ ?_
  rotate_left
  · intro w'
    go_simp
    with_reducible rfl
  rotate_left
  · (try show Act.put _ _ _ = _); simp only [Act.put, List.setIfInBounds_toArray, List.set_cons_zero, List.set_cons_succ, i64_w, i32_w]
    rfl
  refine pure_ (i := 3) (N := some 13) (v := ?_) (a' := ?_) #[true, true, true, true, false, false, false, false, false, false, false, false] rfl rfl (by kernel_rfl) (fun _ _ _ h => h) (Or.inl ⟨by rfl, ?_⟩) ?_ ?_
  rotate_left
  · intro w'
    go_simp
    with_reducible rfl
  rotate_left
  · (try show Act.put _ _ _ = _); simp only [Act.put, List.setIfInBounds_toArray, List.set_cons_zero, List.set_cons_succ, i64_w, i32_w]
    rfl
  refine take_ (i := 4) (N := some 14) (v := ?_) (a' := ?_) #[true, true, true, true, true, false, false, false, false, false, false, false] rfl rfl (by kernel_rfl) (fun _ _ _ h => h) (Or.inl ⟨by rfl, ?_⟩) hHeld ?_ ?_
  rotate_left
  · intro w' hS_
    have kn_ := LN.out _ hS_
    have kt_ := LT.out _ hS_
    have kT_ := LTT.out _ hS_
    have kc_ := LC.out _ hS_
    go_simp
    with_reducible rfl
  rotate_left
  · (try show Act.put _ _ _ = _); simp only [Act.put, List.setIfInBounds_toArray, List.set_cons_zero, List.set_cons_succ, i64_w, i32_w]
    rfl
  refine pure_ (i := 6) (N := some 16) (v := ?_) (a' := ?_) #[true, true, true, true, true, false, true, false, false, false, false, false] rfl rfl (by kernel_rfl) (fun _ _ _ h => h) (Or.inl ⟨by rfl, ?_⟩) ?_ ?_
  rotate_left
  · intro w'
    go_simp
    with_reducible rfl
  rotate_left
  · (try show Act.put _ _ _ = _); simp only [Act.put, List.setIfInBounds_toArray, List.set_cons_zero, List.set_cons_succ, i64_w, i32_w]
    rfl
  refine take_ (i := 5) (N := some 15) (v := ?_) (a' := ?_) #[true, true, true, true, true, true, true, false, false, false, false, false] rfl rfl (by kernel_rfl) (fun _ _ _ h => h) (Or.inl ⟨by rfl, ?_⟩) hHeld ?_ ?_
  rotate_left
  · intro w' hS_
    have kn_ := LN.out _ hS_
    have kt_ := LT.out _ hS_
    have kT_ := LTT.out _ hS_
    have kc_ := LC.out _ hS_
    go_simp
    with_reducible rfl
  rotate_left
  · (try show Act.put _ _ _ = _); simp only [Act.put, List.setIfInBounds_toArray, List.set_cons_zero, List.set_cons_succ, i64_w, i32_w]
    rfl
  refine pure_ (i := 7) (N := some 17) (v := ?_) (a' := ?_) #[true, true, true, true, true, true, true, true, false, false, false, false] rfl rfl (by kernel_rfl) (fun _ _ _ h => h) (Or.inl ⟨by rfl, ?_⟩) ?_ ?_
  rotate_left
  · intro w'
    go_simp
    with_reducible rfl
  rotate_left
  · (try show Act.put _ _ _ = _); simp only [Act.put, List.setIfInBounds_toArray, List.set_cons_zero, List.set_cons_succ, i64_w, i32_w]
    rfl
  refine take_ (i := 8) (N := some 18) (v := ?_) (a' := ?_) #[true, true, true, true, true, true, true, true, true, false, false, false] rfl rfl (by kernel_rfl) (fun _ _ _ h => h) (Or.inl ⟨by rfl, ?_⟩) hHeld ?_ ?_
  rotate_left
  · intro w' hS_
    have kn_ := LN.out _ hS_
    have kt_ := LT.out _ hS_
    have kT_ := LTT.out _ hS_
    have kc_ := LC.out _ hS_
    go_simp
    with_reducible rfl
  rotate_left
  · (try show Act.put _ _ _ = _); simp only [Act.put, List.setIfInBounds_toArray, List.set_cons_zero, List.set_cons_succ, i64_w, i32_w]
    rfl
  refine pure_ (i := 9) (N := some 19) (v := ?_) (a' := ?_) #[true, true, true, true, true, true, true, true, true, true, false, false] rfl rfl (by kernel_rfl) (fun _ _ _ h => h) (Or.inl ⟨by rfl, ?_⟩) ?_ ?_
  rotate_left
  · intro w'
    go_simp
    with_reducible rfl
  rotate_left
  · (try show Act.put _ _ _ = _); simp only [Act.put, List.setIfInBounds_toArray, List.set_cons_zero, List.set_cons_succ, i64_w, i32_w]
    rfl
  refine one_ (i := 10) (N := some 5) #[true, true, true, true, true, true, true, true, true, true, true, false] rfl rfl (by kernel_rfl) (by decide) (fun K hK => ?_)
  refine value_ (w1 := ?_) (v := ?_) (by rfl) rfl ?_ ?_
  rotate_left 2
  · go_simp
    constructor
    · rfl
    · rfl
  refine hK.out _ _ (hHeld.alloc hHeld.size _) (fun hHeld => ?_)
  clear hK K
  refine norm_ (a' := ?_) ?_ ?_
  rotate_left
  · show Act.put _ (some 5) _ = _
    simp only [Act.put, List.setIfInBounds_toArray, List.set_cons_zero, List.set_cons_succ, i64_w, i32_w]
    rfl
  refine last_ (i := 11) (N := none) #[true, true, true, true, true, true, true, true, true, true, true, true] rfl rfl (by kernel_rfl) (by decide) (fun K hK => ?_)
  have hnew := blk_new wq (.cells #[.slice none 0 0, .int .i64 0, .int .i64 0] 29)
  have HNW := Aside0.mk hnew
  have hst := run_store_run (P := Try.prog) (w := wq.alloc (.cells #[.slice none 0 0, .int .i64 0, .int .i64 0] 29)) (g := wq.heap.size) (o := 0) 29 (.agg #[.slice none 0 0, .int .i64 (N : Int), .int .i64 PW]) [.slice none 0 0, .int .i64 (N : Int), .int .i64 PW] hnew rfl loadInfo (by simp) (by intro q hq; simp only [List.mem_cons, List.not_mem_nil, or_false] at hq; rcases hq with rfl | rfl | rfl <;> rfl)
  clear hnew
  refine skip_ (w1 := (((wq.alloc (.cells #[.slice none 0 0, .int .i64 0, .int .i64 0] 29)).setCell ⟨wq.heap.size, 0, none⟩ (.slice none 0 0)).setCell ⟨wq.heap.size, 1, none⟩ (.int .i64 (N : Int))).setCell ⟨wq.heap.size, 2, none⟩ (.int .i64 PW)) (by rfl) rfl ?_ ?_
  · exact exec_store rfl _ _ rfl rfl hst
  clear hst
  refine hK.out _ _ ?_
  clear hK K
  refine done_ (by kernel_rfl) ?_
  show onlyNormal _ .normal _ _
  unfold onlyNormal
  obtain ⟨gX, hgX⟩ : ∃ gX, wq.heap.size = gX := ⟨_, rfl⟩
  obtain ⟨w2, hw2⟩ : ∃ w2, (((wq.alloc (.cells #[.slice none 0 0, .int .i64 0, .int .i64 0] 29)).setCell ⟨wq.heap.size, 0, none⟩ (.slice none 0 0)).setCell ⟨wq.heap.size, 1, none⟩ (.int .i64 (N : Int))).setCell ⟨wq.heap.size, 2, none⟩ (.int .i64 PW) = w2 := ⟨_, rfl⟩
  have FX := Aside0.mk (show w2.heap[gX]? = some (.cells #[.slice none 0 0, .int .i64 (N : Int), .int .i64 PW] 29 (0, 0)) from hw2 ▸ hgX ▸ sets3L HNW.out _ _ _)
  have HB2 := Aside0.mk (show Below w1.heap.size w1 w2 from hw2 ▸ ((((HBq.out.alloc HBq.out.size _).setCell (p := ⟨wq.heap.size, 0, none⟩) HBq.out.size _).setCell (p := ⟨wq.heap.size, 1, none⟩) HBq.out.size _).setCell (p := ⟨wq.heap.size, 2, none⟩) HBq.out.size _))
  have HXG := Aside0.mk (show w1.heap.size ≤ gX from hgX ▸ HBq.out.size)
  rw [hw2]
  try rw [hgX]
  clear hw2 hgX HNW HBq LN LT LTT LC
  have HEN := Aside0.mk energies_calls
  obtain ⟨cs, hcs⟩ : ∃ cs, enV = cs := ⟨_, rfl⟩
  have HCS := Aside0.mk hcs
  have HCSZ := Aside0.mk (show cs.size = 9 by rw [← hcs]; exact nine_size _)
  have HCI := Aside0.mk (show (Try.prog.info? 75).map (·.size) = some cs.size from by rw [HCSZ.out]; exact nineInfo)
  have HC1 := Aside0.mk (show cs.all (·.oneCell') = true by rw [← hcs]; exact nine_one _)
  rw [hcs] at HEN
  clear hcs
  go_wp2_with (first
    | (go_at_call 45; (with_reducible refine (HEN.out _).mono ?_); rintro e w3 ⟨rfl, hb⟩; (have HB3 := Aside0.mk hb); (have HG2 := Aside0.mk (show ∀ (g : Nat) (o : Obj), w2.heap[g]? = some o → g < w3.heap.size ∧ ((w3.alloc (.cells #[.int .i64 0, .int .i64 0, .int .i64 0, .int .i64 0, .int .i64 0, .int .i64 0, .int .i64 0, .int .i64 0, .int .i64 0] 75)).setRow w3.heap.size cs).heap[g]? = some o from fun g o ho => by have h3 := blk_below ho hb; have h4 := (Array.getElem?_eq_some_iff.1 h3).1; exact ⟨h4, (setRow_other _ _ _ _ (by omega)).trans ((Below.heap_alloc _ _ _ h4).trans h3)⟩)); (have HGO := Aside0.mk (show ∀ (g : Nat) (o : Obj), w1.heap[g]? = some o → g < w3.heap.size ∧ ((w3.alloc (.cells #[.int .i64 0, .int .i64 0, .int .i64 0, .int .i64 0, .int .i64 0, .int .i64 0, .int .i64 0, .int .i64 0, .int .i64 0] 75)).setRow w3.heap.size cs).heap[g]? = some o from fun g o ho => HG2.out g o (blk_below ho HB2.out))); (have kg1 : ((w3.alloc (.cells #[.int .i64 0, .int .i64 0, .int .i64 0, .int .i64 0, .int .i64 0, .int .i64 0, .int .i64 0, .int .i64 0, .int .i64 0] 75)).setRow w3.heap.size cs).cell? ⟨b0, 0, none⟩ = some (.pointer (some ⟨gT, 0, none⟩)) := (blk_cell (HGO.out _ _ F0.out).2 0).trans rfl); (have kg2 : ((w3.alloc (.cells #[.int .i64 0, .int .i64 0, .int .i64 0, .int .i64 0, .int .i64 0, .int .i64 0, .int .i64 0, .int .i64 0, .int .i64 0] 75)).setRow w3.heap.size cs).cell? ⟨gT, 0, none⟩ = some (.slice A0 n c0) := (blk_cell (HGO.out _ _ T1.out).2 0).trans rfl); clear hb)
    | ((with_reducible refine gate_store (t := 75) (p := 6) rfl ?_); refine wpList_store_row rfl 75 (.tmp 6) (.tmp 20) rfl _ cs rfl rfl 75 _ (blk_new _ _) HCI.out HCSZ.out.symm HC1.out ?_))
  obtain ⟨gC, hgC⟩ : ∃ gC, w3.heap.size = gC := ⟨_, rfl⟩
  obtain ⟨W0, hW0⟩ : ∃ W0, (w3.alloc (.cells #[.int .i64 0, .int .i64 0, .int .i64 0, .int .i64 0, .int .i64 0, .int .i64 0, .int .i64 0, .int .i64 0, .int .i64 0] 75)).setRow w3.heap.size cs = W0 := ⟨_, rfl⟩
  have FC := Aside0.mk (show W0.heap[gC]? = some (.cells cs 75 (0, 0)) from hW0 ▸ hgC ▸ setRow_heap9 _ _ _ _ _ (blk_new w3 _))
  have HSZ := Aside0.mk (show W0.heap.size = gC + 1 from hW0 ▸ hgC ▸ by simp [World.setRow])
  have HBW := Aside0.mk (show Below w1.heap.size w1 W0 from hW0 ▸ (below_step HB2.out HB3.out).trans ((below_row9 ((Below.refl _ w3).alloc (Nat.le_refl _) _) (Nat.le_refl _) cs).mono (Nat.le_trans HB2.out.size HB3.out.size)))
  rw [hW0, hgC] at HG2 HGO
  rw [hW0]
  try rw [hgC]
  clear hW0 hgC kg1 kg2
  obtain ⟨q0, F00⟩ := HGO.out _ _ F0.out
  obtain ⟨q1, F10⟩ := HGO.out _ _ F1.out
  obtain ⟨qT, FT0⟩ := HGO.out _ _ T1.out
  obtain ⟨qX, FX0⟩ := HG2.out _ _ FX.out
  have qk : gk < gC + 1 := by
    have h1 := T2.out
    have h2 := HBW.out.size
    have h3 := HSZ.out
    omega
  obtain ⟨qN, T40⟩ : gN < gC + 1 ∧ NdAt W0 gN ((n + 1) * 2049) f := by
    have h := T4.out.below HBW.out
    exact ⟨by have := h.lt; have h3 := HSZ.out; omega, h⟩
  have GQ := Aside0.mk (show b0 < gC ∧ b0 + 1 < gC ∧ gT < gC ∧ gX < gC ∧ gk < gC + 1 ∧ gN < gC + 1 from ⟨q0, q1, qT, qX, qk, qN⟩)
  have hT0 : TblAt W0 gT A0 n c0 sq l0 := HT1.out.below HBW.out
  obtain ⟨q2, F20⟩ := HGO.out _ _ F2.out
  have GF2 := Aside0.mk F20
  have GF0 := Aside0.mk F00
  have GF1 := Aside0.mk F10
  have GFT := Aside0.mk FT0
  have GFX := Aside0.mk FX0
  have GT0 := Aside0.mk hT0
  have GK0 := Aside0.mk (show ∀ (t b : Nat), (Ld.tk sq)[t]? = some b → W0.cell? ⟨gk, t, none⟩ = some (.int .i64 (b : Int)) from fun t b hh => (World.cell?_of_block (a := ⟨gk, t, none⟩) (HBW.out.block gk T2.out)).trans (T3.out t b hh))
  have GB0 := Aside0.mk (show Below b0 w W0 from by rw [← hb0]; exact below_step HB1.out HBW.out)
  have HD := Aside0.mk (show b0 + 3 ≤ gX ∧ gT < b0 ∧ gk < b0 ∧ gN < b0 from ⟨by have h1 := HXG.out; have h2 := HS1.out; omega, HDD.out⟩)
  have HS1' := HS1
  clear q2 F20 q0 q1 qT qX qk qN T40 F00 F10 FT0 FX0 hT0 F0 F1 F2 FX HG2 HGO T1 T2 T3 T4 T5 HB2 HB3 HBW HT1
  go_loopw [26] (fun iv wr => ∃ (i r : Nat) (pre : List Int) (bA : Option Addr) (bc : Nat), i ≤ n ∧ iv = .int .i64 (i : Int) ∧ Aside0 (bitsI (Ld.first sq l0 N) = pre ++ bitsI (Ld.first sq (l0.drop i) r) ∧ pre.length = i ∧ Ld.need sq (l0.drop i) r < Ld.never ∧ r ≤ 2048) ∧ Aside0 (wr.heap[b0 + 1]? = some (.cells #[.int .i64 (r : Int)] 3 (0, 0))) ∧ Aside0 (wr.heap[gX]? = some (.cells #[.slice bA i bc, .int .i64 (N : Int), .int .i64 PW] 29 (0, 0))) ∧ Aside0 (Kd.R (Kd.int .i64) 3 wr (gC + 1) (fun k => gC + 1 ≤ k) (.slice bA i bc) pre) ∧ Aside0 (∀ k, k < gC + 1 → k ≠ b0 + 1 → k ≠ gX → wr.heap[k]? = W0.heap[k]?) ∧ Aside0 (Below b0 w wr) ∧ Aside0 (gC + 1 ≤ wr.heap.size)) (fun iv _ => n - (intOf iv).toNat)
  case atStart => exact ⟨0, N, [], none, 0, Nat.zero_le _, rfl, ⟨rfl, rfl, HFE.out, HNN.out⟩, GF1, GFX, ⟨Kd.R_nil _ _ _ _ _⟩, ⟨fun _ _ _ _ => rfl⟩, GB0, ⟨Nat.le_of_eq HSZ.out.symm⟩⟩
  case round =>
    obtain ⟨wk, rfl⟩ : ∃ wk : World, wk = wr := ⟨_, rfl⟩
    obtain ⟨i, r, pre, bA, bc, hi, rfl, HP, G1, GX, GR, GS, GB, GZ⟩ := hrel
    by_cases hlt : i < n
    · have q1 : (i : Int) < (n : Int) := by omega
      have q0 : (i : Int) ≤ 256 := by have := HN12.out; omega
      have hdr : l0.drop i = l0.getD i 0 :: l0.drop (i + 1) := by
        have := HL.out
        rw [List.drop_eq_getElem_cons (by omega), List.getD_eq_getElem?_getD, List.getElem?_eq_getElem (by omega)]; rfl
      obtain ⟨p1, p2, p3, p4⟩ := HP.out
      rw [hdr] at p1 p3
      obtain ⟨b, hb, hbt, hbr, hbn, hbe⟩ := Ld.pick_some sq _ _ r p3
      obtain ⟨t, ht, hidx⟩ := idx_pick sq _ _ r b hb
      have hfst : Ld.first sq (l0.getD i 0 :: l0.drop (i + 1)) r = b :: Ld.first sq (l0.drop (i + 1)) (r - b) := by
        show (Ld.pick sq _ _ r).getD 0 :: _ = _
        rw [hb]; rfl
      rw [hfst] at p1
      have HP2 := Aside0.mk (show bitsI (Ld.first sq l0 N) = (pre ++ [(b : Int)]) ++ bitsI (Ld.first sq (l0.drop (i + 1)) (r - b)) ∧ (pre ++ [(b : Int)]).length = i + 1 ∧ Ld.need sq (l0.drop (i + 1)) (r - b) < Ld.never ∧ r - b ≤ 2048 from ⟨by rw [p1, List.append_assoc]; rfl, by rw [List.length_append, p2]; rfl, hbn, by omega⟩)
      have hb8 := (Ld.tk_E sq b hbt).2.2
      have htl : t < (Ld.tk sq).length := (List.getElem?_eq_some_iff.1 ht).1
      obtain ⟨ad, hA, hc⟩ := int_at (Kd.C_below HC.out (show Below w.heap.size w wk from hb0 ▸ GB.out)) i hlt
      have HIX : Aside0 (∀ W : World, W = (wk.alloc (.cells #[.int .i64 (i : Int)] 3)).alloc (.cells #[.int .i64 (l0.getD i 0)] 3) → Calls Try.prog 53 #[.slice (some ⟨gk, 0, none⟩) (Ld.tk sq).length kc, .func (.func 54) #[] #[.pointer (some ⟨b0 + 1, 0, none⟩), .pointer (some ⟨b0, 0, none⟩), .pointer (some ⟨wk.heap.size, 0, none⟩), .pointer (some ⟨wk.heap.size + 1, 0, none⟩), .pointer (some ⟨gC, 0, none⟩)]] W fun r w' => r = .returned (.int .i64 (t : Int)) ∧ ∃ d, w' = W.drewN d) := ⟨fun W hW => by
        have hWb : Below wk.heap.size wk W := hW ▸ ((Below.refl _ wk).alloc (Nat.le_refl _) _).alloc (by simp) _
        have hWs : ∀ k, k < gC + 1 → W.heap[k]? = wk.heap[k]? := fun k hk => hWb.block k (by have := GZ.out; omega)
        have hlen : (tkL sq).length = (Ld.tk sq).length := by unfold tkL; rw [List.length_map]
        have hcells : ∀ t x, (tkL sq)[t]? = some x → W.cell? ⟨gk, t, none⟩ = some (.int .i64 x) := by
          intro t x hx
          unfold tkL at hx
          rw [List.getElem?_map] at hx
          obtain ⟨y, hy, rfl⟩ := Option.map_eq_some_iff.1 hx
          exact (World.cell?_of_block (a := ⟨gk, t, none⟩) ((hWs gk (by have := GQ.out; omega)).trans (GS.out gk (by have := GQ.out; omega) (by have := HD.out; omega) (by have := HD.out; omega)))).trans (GK0.out t y hy)
        have hC := C_cells (w := W) (g := gk) (tkL sq) (by rw [hlen]; have := Ld.tk_len sq; omega) hcells
        have hTW : ∀ d, TblAt (W.drewN d) gT A0 n c0 sq l0 := fun d => by
          have e : ∀ k, k < b0 → (W.drewN d).heap[k]? = W0.heap[k]? := fun k hk => (hWs k (by have := GQ.out; omega)).trans (GS.out k (by have := GQ.out; omega) (by omega) (by have := HD.out; omega))
          exact (TblAt.low HT.out HT.out (fun k hk => by
            rw [e k (by rw [← hb0]; exact hk)]
            exact GB0.out.block k (by rw [← hb0]; exact hk)))
        have h := index_first (b0 + 1) b0 wk.heap.size (wk.heap.size + 1) gC (fun x : Int => fitB sq (l0.getD i 0) (l0.drop (i + 1)) r x.toNat) (some ⟨gk, 0, none⟩) kc (tkL sq) W hC (fun j hj d => by
          have hj2 : j < (Ld.tk sq).length := by rw [← hlen]; exact hj
          have hx : (tkL sq).getD j 0 = (((Ld.tk sq)[j] : Nat) : Int) := by
            unfold tkL
            rw [List.getD_eq_getElem?_getD, List.getElem?_map, List.getElem?_eq_getElem hj2]; rfl
          rw [hx]
          show Calls _ _ _ _ (fun r_ w' => r_ = .returned (.bool (fitB sq (l0.getD i 0) (l0.drop (i + 1)) r ((((Ld.tk sq)[j] : Nat) : Int)).toNat)) ∧ _)
          rw [Int.toNat_natCast]
          refine fst1_calls (W.drewN d) (b0 + 1) b0 wk.heap.size (wk.heap.size + 1) gC gT A0 n c0 sq l0 HL.out HOK.out (hTW d) i r hlt HN12.out.2 p4 _ (List.getElem_mem hj2) ?_ ?_ ?_ ?_ ?_
          · exact (blk_cell ((hWs (b0 + 1) (by have := GQ.out; omega)).trans G1.out) 0).trans rfl
          · exact (blk_cell ((hWs b0 (by have := GQ.out; omega)).trans ((GS.out b0 (by have := GQ.out; omega) (by omega) (by have := HD.out; omega)).trans GF0.out)) 0).trans rfl
          · rw [show (W.drewN d).cell? ⟨wk.heap.size, 0, none⟩ = W.cell? ⟨wk.heap.size, 0, none⟩ from rfl, hW]
            exact (blk_cell ((Below.heap_alloc _ _ _ (by simp)).trans (blk_new wk _)) 0).trans rfl
          · rw [show (W.drewN d).cell? ⟨wk.heap.size + 1, 0, none⟩ = W.cell? ⟨wk.heap.size + 1, 0, none⟩ from rfl, hW]
            have h2 := blk_new (wk.alloc (.cells #[.int .i64 (i : Int)] 3)) (.cells #[.int .i64 (l0.getD i 0)] 3)
            rw [World.size_alloc] at h2
            exact (blk_cell h2 0).trans rfl
          · intro b9 hb9
            have hh := (hWs gC (by omega)).trans ((GS.out gC (by omega) (by have := GQ.out; omega) (by have := GQ.out; omega)).trans FC.out)
            rw [← HCS.out] at hh
            exact cells9 (m := Ld.E) (w := W) hh b9 hb9)
        rw [hlen, hidx] at h
        exact h⟩
      obtain ⟨w0, hw0⟩ : ∃ w0, l0.getD i 0 = w0 := ⟨_, rfl⟩
      rw [hw0] at hc HIX
      subst hA
      have hS2 : ∀ k, k < gC + 1 → ((wk.alloc (.cells #[.int .i64 (i : Int)] 3)).alloc (.cells #[.int .i64 w0] 3)).heap[k]? = wk.heap[k]? := fun k hk => (((Below.refl _ wk).alloc (Nat.le_refl _) _).alloc (by simp) _).block k (by have := GZ.out; omega)
      have kk1 : ((wk.alloc (.cells #[.int .i64 (i : Int)] 3)).alloc (.cells #[.int .i64 w0] 3)).cell? ⟨b0, 0, none⟩ = some (.pointer (some ⟨gT, 0, none⟩)) := (blk_cell ((hS2 b0 (by have := GQ.out; omega)).trans ((GS.out b0 (by have := GQ.out; omega) (by omega) (by have := HD.out; omega)).trans GF0.out)) 0).trans rfl
      have kk2 : ((wk.alloc (.cells #[.int .i64 (i : Int)] 3)).alloc (.cells #[.int .i64 w0] 3)).cell? ⟨gT, 1, none⟩ = some (.slice (some ⟨gk, 0, none⟩) (Ld.tk sq).length kc) := (blk_cell ((hS2 gT (by have := GQ.out; omega)).trans ((GS.out gT (by have := GQ.out; omega) (by have := HD.out; omega) (by have := HD.out; omega)).trans GFT.out)) 1).trans rfl
      have HBR := Aside0.mk (And.intro hbr (And.intro hb8 htl))
      have HT9 := Aside0.mk ht
      have HPL := Aside0.mk (And.intro p2 p4)
      have HLTI := Aside0.mk hlt
      have HW2 := Aside0.mk (((Below.refl wk.heap.size wk).alloc (Nat.le_refl _) (.cells #[.int .i64 (i : Int)] 3)).alloc (by simp) (.cells #[.int .i64 w0] 3))
      clear hS2 hw0 hdr p1 p2 p3 p4 hb hbt hbr hbn hbe ht hidx hfst hb8 htl HP hlt hi
      go_wp2_with (go_at_call 53; (with_reducible refine (HIX.out _ rfl).mono ?_); rintro e wy ⟨rfl, hwy⟩; (have HWY := Aside0.mk (show Below wk.heap.size wk wy from by obtain ⟨d, rfl⟩ := hwy; exact HW2.out.trans ⟨rfl, rfl, rfl, Nat.le_refl _, fun _ _ => rfl⟩)); clear hwy)
      clear kk1 kk2
      have YZ := Aside0.mk (Nat.le_trans GZ.out HWY.out.size)
      have YS : ∀ k, k < gC + 1 → wy.heap[k]? = wk.heap[k]? := fun k hk => HWY.out.block k (Nat.lt_of_lt_of_le hk GZ.out)
      have YX := Aside0.mk ((YS gX (by have := GQ.out; omega)).trans GX.out)
      have Y1 := Aside0.mk ((YS (b0 + 1) (by have := GQ.out; omega)).trans G1.out)
      have YR := Aside0.mk (Kd.R_below GR.out HWY.out)
      have LX := Aside0.mk (show ∀ w', Below (gC + 1) wy w' → w'.cell? ⟨gX, 0, none⟩ = some (.slice bA i bc) from fun w' hb => (blk_cell ((hb.block gX (by have := GQ.out; omega)).trans YX.out) 0).trans rfl)
      have LP2 := Aside0.mk (show ∀ w', Below (gC + 1) wy w' → w'.cell? ⟨b0, 0, none⟩ = some (.pointer (some ⟨gT, 0, none⟩)) from fun w' hb => (blk_cell ((hb.block b0 (by have := GQ.out; omega)).trans ((YS b0 (by have := GQ.out; omega)).trans ((GS.out b0 (by have := GQ.out; omega) (by omega) (by have := HD.out; omega)).trans GF0.out))) 0).trans rfl)
      have LT1 := Aside0.mk (show ∀ w', Below (gC + 1) wy w' → w'.cell? ⟨gT, 1, none⟩ = some (.slice (some ⟨gk, 0, none⟩) (Ld.tk sq).length kc) from fun w' hb => (blk_cell ((hb.block gT (by have := GQ.out; omega)).trans ((YS gT (by have := GQ.out; omega)).trans ((GS.out gT (by have := GQ.out; omega) (by have := HD.out; omega) (by have := HD.out; omega)).trans GFT.out))) 1).trans rfl)
      have LK := Aside0.mk (show ∀ w', Below (gC + 1) wy w' → w'.cell? ⟨gk, t, none⟩ = some (.int .i64 (b : Int)) from fun w' hb => (World.cell?_of_block (a := ⟨gk, t, none⟩) ((hb.block gk (by have := GQ.out; omega)).trans ((YS gk (by have := GQ.out; omega)).trans (GS.out gk (by have := GQ.out; omega) (by have := HD.out; omega) (by have := HD.out; omega))))).trans (GK0.out t b HT9.out))
      have HXBT := Aside0.mk (show gX < gC + 1 by have := GQ.out; omega)
      have HLIM := Aside0.mk (show (pre.length + 1) * 8 ≤ 140737488355328 by have := HPL.out.1; have := HLTI.out; have := HN12.out; omega)
      have q5 : (t : Int) < ((Ld.tk sq).length : Int) := by have := HBR.out; omega
      clear YS
      refine wp_normal ?_
      refine start_ (n := 13) (S := fun w' => Below (gC + 1) wy w') (ds := [12]) #[false, false, false, false, false, false, false, false, false, false, false, false, false] (by kernel_rfl) rfl rfl ((Below.refl (gC + 1) wy).drew) (fun hHeld => ?_)
      obtain ⟨wq, hwq⟩ : ∃ wq, wy.drew = wq := ⟨_, rfl⟩; (have HOq := Aside0.mk (Kd.R_drew YR.out)); (have HBq := Aside0.mk hHeld); rw [hwq] at hHeld HOq HBq ⊢; clear hwq
      refine pure_ (i := 0) (N := some 37) (v := ?_) (a' := ?_) #[true, false, false, false, false, false, false, false, false, false, false, false, false] rfl rfl (by kernel_rfl) (fun _ _ _ h => h) (Or.inl ⟨by rfl, ?_⟩) ?_ ?_
      rotate_left
      · intro w'
        go_simp
        with_reducible rfl
      rotate_left
      · (try show Act.put _ _ _ = _); simp only [Act.put, List.setIfInBounds_toArray, List.set_cons_zero, List.set_cons_succ, i64_w, i32_w]
        rfl
      refine pure_ (i := 6) (N := some 43) (v := ?_) (a' := ?_) #[true, false, false, false, false, false, true, false, false, false, false, false, false] rfl rfl (by kernel_rfl) (fun _ _ _ h => h) (Or.inl ⟨by rfl, ?_⟩) ?_ ?_
      rotate_left
      · intro w'
        go_simp
        with_reducible rfl
      rotate_left
      · (try show Act.put _ _ _ = _); simp only [Act.put, List.setIfInBounds_toArray, List.set_cons_zero, List.set_cons_succ, i64_w, i32_w]
        rfl
      refine take_ (i := 1) (N := some 38) (v := ?_) (a' := ?_) #[true, true, false, false, false, false, true, false, false, false, false, false, false] rfl rfl (by kernel_rfl) (fun _ _ _ h => h) (Or.inl ⟨by rfl, ?_⟩) hHeld ?_ ?_
      rotate_left
      · intro w' hS_
        have k1_ := LX.out _ hS_
        have k2_ := LP2.out _ hS_
        have k3_ := LT1.out _ hS_
        have k4_ := LK.out _ hS_
        go_simp
        with_reducible rfl
      rotate_left
      · (try show Act.put _ _ _ = _); simp only [Act.put, List.setIfInBounds_toArray, List.set_cons_zero, List.set_cons_succ, i64_w, i32_w]
        rfl
      refine take_ (i := 2) (N := some 39) (v := ?_) (a' := ?_) #[true, true, true, false, false, false, true, false, false, false, false, false, false] rfl rfl (by kernel_rfl) (fun _ _ _ h => h) (Or.inl ⟨by rfl, ?_⟩) hHeld ?_ ?_
      rotate_left
      · intro w' hS_
        have k1_ := LX.out _ hS_
        have k2_ := LP2.out _ hS_
        have k3_ := LT1.out _ hS_
        have k4_ := LK.out _ hS_
        go_simp
        with_reducible rfl
      rotate_left
      · (try show Act.put _ _ _ = _); simp only [Act.put, List.setIfInBounds_toArray, List.set_cons_zero, List.set_cons_succ, i64_w, i32_w]
        rfl
      refine pure_ (i := 3) (N := some 40) (v := ?_) (a' := ?_) #[true, true, true, true, false, false, true, false, false, false, false, false, false] rfl rfl (by kernel_rfl) (fun _ _ _ h => h) (Or.inl ⟨by rfl, ?_⟩) ?_ ?_
      rotate_left
      · intro w'
        go_simp
        with_reducible rfl
      rotate_left
      · (try show Act.put _ _ _ = _); simp only [Act.put, List.setIfInBounds_toArray, List.set_cons_zero, List.set_cons_succ, i64_w, i32_w]
        rfl
      refine pure_ (i := 4) (N := some 41) (v := ?_) (a' := ?_) #[true, true, true, true, true, false, true, false, false, false, false, false, false] rfl rfl (by kernel_rfl) (fun _ _ _ h => h) (Or.inl ⟨by rfl, ?_⟩) ?_ ?_
      rotate_left
      · intro w'
        go_simp
        with_reducible rfl
      rotate_left
      · (try show Act.put _ _ _ = _); simp only [Act.put, List.setIfInBounds_toArray, List.set_cons_zero, List.set_cons_succ, i64_w, i32_w]
        rfl
      refine take_ (i := 5) (N := some 42) (v := ?_) (a' := ?_) #[true, true, true, true, true, true, true, false, false, false, false, false, false] rfl rfl (by kernel_rfl) (fun _ _ _ h => h) (Or.inl ⟨by rfl, ?_⟩) hHeld ?_ ?_
      rotate_left
      · intro w' hS_
        have k1_ := LX.out _ hS_
        have k2_ := LP2.out _ hS_
        have k3_ := LT1.out _ hS_
        have k4_ := LK.out _ hS_
        go_simp
        with_reducible rfl
      rotate_left
      · (try show Act.put _ _ _ = _); simp only [Act.put, List.setIfInBounds_toArray, List.set_cons_zero, List.set_cons_succ, i64_w, i32_w]
        rfl
      refine pure_ (i := 7) (N := some 44) (v := ?_) (a' := ?_) #[true, true, true, true, true, true, true, true, false, false, false, false, false] rfl rfl (by kernel_rfl) (fun _ _ _ h => h) (Or.inl ⟨by rfl, ?_⟩) ?_ ?_
      rotate_left
      · intro w'
        go_simp
        with_reducible rfl
      rotate_left
      · (try show Act.put _ _ _ = _); simp only [Act.put, List.setIfInBounds_toArray, List.set_cons_zero, List.set_cons_succ, i64_w, i32_w]
        rfl
      refine take_ (i := 8) (N := some 45) (v := ?_) (a' := ?_) #[true, true, true, true, true, true, true, true, true, false, false, false, false] rfl rfl (by kernel_rfl) (fun _ _ _ h => h) (Or.inl ⟨by rfl, ?_⟩) hHeld ?_ ?_
      rotate_left
      · intro w' hS_
        have k1_ := LX.out _ hS_
        have k2_ := LP2.out _ hS_
        have k3_ := LT1.out _ hS_
        have k4_ := LK.out _ hS_
        go_simp
        with_reducible rfl
      rotate_left
      · (try show Act.put _ _ _ = _); simp only [Act.put, List.setIfInBounds_toArray, List.set_cons_zero, List.set_cons_succ, i64_w, i32_w]
        rfl
      refine one_ (i := 9) (N := some 46) #[true, true, true, true, true, true, true, true, true, true, false, false, false] rfl rfl (by kernel_rfl) (by decide) (fun K hK => ?_)
      refine value_ (w1 := ?_) (v := ?_) (by rfl) rfl ?_ ?_
      rotate_left 2
      · go_simp
        constructor
        · rfl
        · rfl
      refine hK.out _ _ (hHeld.alloc (Nat.le_trans YZ.out hHeld.size) _) (fun hHeld => ?_)
      clear hK K
      refine norm_ (a' := ?_) ?_ ?_
      rotate_left
      · show Act.put _ (some 46) _ = _
        simp only [Act.put, List.setIfInBounds_toArray, List.set_cons_zero, List.set_cons_succ, i64_w, i32_w]
        rfl
      refine one_ (i := 10) (N := some 47) #[true, true, true, true, true, true, true, true, true, true, true, false, false] rfl rfl (by kernel_rfl) (by decide) (fun K hK => ?_)
      refine Kd.R_append_step (Kd.int .i64) (w0 := wy) (gC + 1) (by rfl) (.tmp 38) (.tmp 46) 26 3 (.int .i64 0) 8 rfl Try.underlying26 info3 rfl (by decide) (by decide) _ pre (b : Int) [.int .i64 (b : Int)] (fun k => (gC + 1) ≤ k) (fun _ => False) rfl rfl ?aP (fun _ hk => hk.elim) ?aF ?aO ?aB ?aS ?aL ?_
      (case aP => exact rfl)
      (case aB => exact HBq.out)
      (case aF => exact (fun k hk => Nat.le_trans (Nat.le_trans YZ.out HBq.out.size) hk))
      (case aO => exact HOq.out)
      (case aS => exact Nat.le_trans YZ.out HBq.out.size)
      (case aL => exact HLIM.out)
      intro v5 w5 ho hb_ hg_ hat
      clear hg_ hat
      obtain ⟨kA5, kc5, rfl⟩ := Kd.R_slice ho
      have HO5 := Aside0.mk ho
      have HB5 := Aside0.mk hb_
      clear ho hb_
      refine hK.out _ _ (HB5.out) (fun hHeld => ?_)
      clear hK K
      refine norm_ (a' := ?_) ?_ ?_
      rotate_left
      · show Act.put _ (some 47) _ = _
        simp only [Act.put, List.setIfInBounds_toArray, List.set_cons_zero, List.set_cons_succ, i64_w, i32_w]
        rfl
      refine pure_ (i := 11) (N := some 48) (v := ?_) (a' := ?_) #[true, true, true, true, true, true, true, true, true, true, true, true, false] rfl rfl (by kernel_rfl) (fun _ _ _ h => h) (Or.inl ⟨by rfl, ?_⟩) ?_ ?_
      rotate_left
      · intro w'
        go_simp
        with_reducible rfl
      rotate_left
      · (try show Act.put _ _ _ = _); simp only [Act.put, List.setIfInBounds_toArray, List.set_cons_zero, List.set_cons_succ, i64_w, i32_w]
        rfl
      refine last_ (i := 12) (N := none) #[true, true, true, true, true, true, true, true, true, true, true, true, true] rfl rfl (by kernel_rfl) (by decide) (fun K hK => ?_)
      have h5 := (HB5.out.block gX HXBT.out).trans YX.out
      have HX5 := Aside0.mk h5
      have hst := run_store_run (P := Try.prog) (w := w5) (g := gX) (o := 0) 26 (.slice kA5 (pre ++ [(b : Int)]).length kc5) [.slice kA5 (pre ++ [(b : Int)]).length kc5] h5 rfl rfl (by simp) (by intro q hq; obtain rfl := List.mem_singleton.1 hq; rfl)
      clear h5
      refine skip_ (w1 := w5.setCell ⟨gX, 0, none⟩ (.slice kA5 (pre ++ [(b : Int)]).length kc5)) (by rfl) rfl ?_ ?_
      · exact exec_store rfl _ _ rfl rfl hst
      clear hst
      refine hK.out _ _ ?_
      clear hK K
      refine done_ (by kernel_rfl) ?_
      show onlyNormal _ .normal _ _
      unfold onlyNormal
      have HL9 := Aside0.mk HP2.out.2.1
      have HXN : Aside0 ((w5.setCell ⟨gX, 0, none⟩ (.slice kA5 (i + 1) kc5)).heap[gX]? = some (.cells #[.slice kA5 (i + 1) kc5, .int .i64 (N : Int), .int .i64 PW] 29 (0, 0))) := ⟨setCell_heap9 w5 gX 0 _ _ _ HX5.out⟩
      have HRN := HO5
      rw [HL9.out] at HRN ⊢
      have HRM := Aside0.mk (Kd.R_far HRN.out (p := ⟨gX, 0, none⟩) (fun k hk => by have := HXBT.out; show k ≠ gX; omega) (.slice kA5 (i + 1) kc5))
      have HSM := Aside0.mk (show ∀ k, k < gC + 1 → k ≠ gX → (w5.setCell ⟨gX, 0, none⟩ (.slice kA5 (i + 1) kc5)).heap[k]? = wy.heap[k]? from fun k hk hne => (Below.heap_setCell _ _ _ k (by show k ≠ gX; exact hne)).trans (HB5.out.block k hk))
      have HBM := Aside0.mk (show Below b0 w (w5.setCell ⟨gX, 0, none⟩ (.slice kA5 (i + 1) kc5)) from ((GB.out.trans (HWY.out.mono (by have := GB.out.size; have := GZ.out; have := GQ.out; omega))).trans (HB5.out.mono (by have := GQ.out; omega))).setCell (p := ⟨gX, 0, none⟩) (by show b0 ≤ gX; have := HD.out; omega) _)
      have HZM := Aside0.mk (show gC + 1 ≤ (w5.setCell ⟨gX, 0, none⟩ (.slice kA5 (i + 1) kc5)).heap.size from by have h1 := HB5.out.size; have h2 := YZ.out; simp [World.setCell]; omega)
      have HYS := Aside0.mk (show ∀ k, k < gC + 1 → k ≠ b0 + 1 → k ≠ gX → wy.heap[k]? = W0.heap[k]? from fun k hk h1 h2 => (HWY.out.block k (Nat.lt_of_lt_of_le hk GZ.out)).trans (GS.out k hk h1 h2))
      obtain ⟨w6, hw6⟩ : ∃ w6, w5.setCell ⟨gX, 0, none⟩ (.slice kA5 (i + 1) kc5) = w6 := ⟨_, rfl⟩
      rw [hw6] at HXN HRM HSM HBM HZM ⊢
      have H16 := Aside0.mk ((HSM.out (b0 + 1) (by have := GQ.out; omega) (by have := HD.out; omega)).trans Y1.out)
      have k1 : w6.cell? ⟨b0 + 1, 0, none⟩ = some (.int .i64 (r : Int)) := (blk_cell H16.out 0).trans rfl
      have f1 : w6.frozen? ⟨b0 + 1, 0, none⟩ = false := blk_frozen H16.out 0
      have k2 : w6.cell? ⟨b0, 0, none⟩ = some (.pointer (some ⟨gT, 0, none⟩)) := (blk_cell ((HSM.out b0 (by have := GQ.out; omega) (by have := HD.out; omega)).trans ((HYS.out b0 (by have := GQ.out; omega) (by omega) (by have := HD.out; omega)).trans GF0.out)) 0).trans rfl
      have k3 : w6.cell? ⟨gT, 1, none⟩ = some (.slice (some ⟨gk, 0, none⟩) (Ld.tk sq).length kc) := (blk_cell ((HSM.out gT (by have := GQ.out; omega) (by have := HD.out; omega)).trans ((HYS.out gT (by have := GQ.out; omega) (by have := HD.out; omega) (by have := HD.out; omega)).trans GFT.out)) 1).trans rfl
      have k4 : w6.cell? ⟨gk, t, none⟩ = some (.int .i64 (b : Int)) := (World.cell?_of_block (a := ⟨gk, t, none⟩) ((HSM.out gk (by have := GQ.out; omega) (by have := HD.out; omega)).trans (HYS.out gk (by have := GQ.out; omega) (by have := HD.out; omega) (by have := HD.out; omega)))).trans (GK0.out t b HT9.out)
      have i9 : IntKind.i64.wrap ((r : Int) - (b : Int)) = ((r - b : Nat) : Int) := by rw [IntKind.wrap_i64]; have := HBR.out; have := HPL.out; omega
      obtain ⟨rb, hrb⟩ : ∃ rb, r - b = rb := ⟨_, rfl⟩
      rw [hrb] at i9 HP2
      have HPUT := Aside0.mk (show ∀ (nq : Nat), (((w6.drewN nq).setCell ⟨b0 + 1, 0, none⟩ (.int .i64 (rb : Int))).heap[b0 + 1]? = some (.cells #[.int .i64 (rb : Int)] 3 (0, 0))) ∧ (∀ k, k ≠ b0 + 1 → ((w6.drewN nq).setCell ⟨b0 + 1, 0, none⟩ (.int .i64 (rb : Int))).heap[k]? = w6.heap[k]?) from fun nq => ⟨setCell_heap9 (w6.drewN nq) (b0 + 1) 0 _ _ _ H16.out, fun k hk => Below.heap_setCell _ _ _ k (by show k ≠ b0 + 1; exact hk)⟩)
      clear hw6 hrb HWY HIX
      go_wp2
      refine QTail.wp_region_quiet_tail 9 (by kernel_rfl) (by kernel_rfl) ?_
      simp only [List.take_succ_cons, List.take_zero, List.drop_succ_cons, List.drop_zero]
      repeat (quiet_step (fail))
      refine wpQuiet_nil ?_
      intro nq
      go_wp2
      refine ⟨⟨i + 1, rb, pre ++ [(b : Int)], kA5, kc5, HLTI.out, by go_num, HP2, ⟨(HPUT.out nq).1⟩, ⟨((HPUT.out nq).2 gX (by have := HD.out; omega)).trans HXN.out⟩, ⟨Kd.R_step HRM.out (fun k hk _ => (HPUT.out nq).2 k (by have := GQ.out; omega))⟩, ⟨fun k hk h1 h2 => ((HPUT.out nq).2 k h1).trans ((HSM.out k hk h2).trans (HYS.out k hk h1 h2))⟩, ⟨(HBM.out.trans (show Below b0 w6 (w6.drewN nq) from ⟨rfl, rfl, rfl, Nat.le_refl _, fun _ _ => rfl⟩)).setCell (p := ⟨b0 + 1, 0, none⟩) (by show b0 ≤ b0 + 1; omega) _⟩, ⟨by have h := HZM.out; simp [World.setCell]; exact h⟩⟩, ?_⟩
      have := HLTI.out
      simp only [intOf]; omega
    · obtain rfl : i = n := by omega
      obtain ⟨p1, p2, p3, p4⟩ := HP.out
      rw [List.drop_of_length_le (by have := HL.out; omega)] at p1
      have hp1 : bitsI (Ld.first sq l0 N) = pre := by rw [p1]; show pre ++ [] = pre; exact List.append_nil _
      have HPE := Aside0.mk hp1
      have GR2 := Aside0.mk ((GS.out (b0 + 1 + 1) (by have := GQ.out; have := HD.out; omega) (by omega) (by have := HD.out; omega)).trans GF2.out)
      clear p1 p2 p3 p4 hp1 HP
      obtain ⟨C3, hC3⟩ : ∃ C3 : Array Value, #[.slice bA i bc, .int .i64 (N : Int), .int .i64 PW] = C3 := ⟨_, rfl⟩
      have HCE := Aside0.mk hC3
      have H31 := Aside0.mk (show C3.all (·.oneCell') = true by rw [← hC3]; simp [Value.oneCell'])
      have H3S := Aside0.mk (show C3.size = 3 by rw [← hC3]; rfl)
      have H3I := Aside0.mk (show (Try.prog.info? 29).map (·.size) = some C3.size from by rw [H3S.out]; exact loadInfo)
      rw [hC3] at GX
      clear hC3
      go_wp2_with (first
        | ((with_reducible refine gate_dst (N := 59) rfl ?_); refine wpList_load_row rfl 29 (.tmp 5) rfl gX rfl 29 C3 (0, 0) _ GX.out Try.underlying29 rfl H3I.out ?_)
        | ((with_reducible refine gate_store (t := 29) (p := 4) rfl ?_); refine wpList_store_row rfl 29 (.tmp 4) (.tmp 59) rfl (b0 + 1 + 1) C3 rfl rfl 29 _ GR2.out H3I.out (H3S.out.symm) H31.out ?_))
      refine bodyPost_ret (results_cell_row rfl _ _ (b0 + 1 + 1) 29 C3 (0, 0) _ rfl (setRow_heap9 _ _ _ _ _ GR2.out) Try.underlying29 rfl H3I.out) rfl ?_
      refine ⟨.slice bA i bc, by rw [← HCE.out], ?_, ?_⟩
      · rw [HPE.out]
        exact Kd.R_lower (Kd.R_mono (Kd.R_step GR.out (fun k hk _ => setRow_other _ _ _ _ (by have := GQ.out; have := HD.out; omega))) (fun _ _ => trivial)) (by rw [hb0]; have := GQ.out; omega)
      · rw [hb0]
        exact below_row9 GB.out (by omega) _
end Go.Proofs.Ytgmaiknbogcpgaa.Pure
