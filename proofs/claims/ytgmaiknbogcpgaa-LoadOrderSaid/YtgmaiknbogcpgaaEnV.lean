/- The table of energies; what a carrier may have; weights. -/
import Derived.Test.YtgmaiknbogcpgaaFogx0
import Derived.Test.YtgmaiknbogcpgaaFogx1
import Derived.Test.YtgmaiknbogcpgaaEng
import Derived.Test.YtgmaiknbogcpgaaLd
namespace Go.Proofs.Ytgmaiknbogcpgaa.Pure
open Go.RowKit Go.Proofs.Ytgmaiknbogcpgaa.Fog Go.Proofs.YtgmaiknbogcpgaaW.PrintWords Go.Proofs.YtgmaiknbogcpgaaW.PrintLast Go.Proofs.YtgmaiknbogcpgaaW.PrintMore Go.Proofs.Ytgmaiknbogcpgaa.Kit
set_option linter.unusedVariables false
set_option linter.unusedSimpArgs false
/-- An array of nine numbers. -/
def nine (m : Nat → Int) : Array Value := Array.ofFn fun i : Fin 9 => Value.int .i64 (m i.val)
theorem nine_size (m : Nat → Int) : (nine m).size = 9 := by simp [nine]
theorem nine_get (m : Nat → Int) (i : Nat) (h : i < 9) : (nine m)[i]? = some (.int .i64 (m i)) := by simp [nine, h]
theorem nine_set (m : Nat → Int) (k : Nat) (x : Int) : (nine m).setIfInBounds k (.int .i64 x) = nine (fun j => if j = k then x else m j) := by
  apply Array.ext
  · simp [nine_size]
  · intro i h1 h2
    have hi : i < (nine m).size := by simpa using h1
    rw [Array.getElem_setIfInBounds hi]
    by_cases h : k = i
    · subst h; simp [nine]
    · have h' : ¬ i = k := fun e => h e.symm
      simp [nine, h, h']
theorem nine_one (m : Nat → Int) : (nine m).all (·.oneCell') = true := by
  rw [Array.all_eq_true]
  intro i h
  simp [nine, Value.oneCell']
theorem nine_congr (m n : Nat → Int) (h : ∀ i, i < 9 → m i = n i) : nine m = nine n := by
  apply Array.ext
  · simp [nine_size]
  · intro i h1 h2
    have hi : i < 9 := by rw [nine_size] at h1; exact h1
    simp [nine, h i hi]
theorem nineInfo : (Try.prog.info? 75).map (·.size) = some 9 := by kernel_rfl
theorem setCell_heap9 (w : World) (g k : Nat) (cs : Array Value) (ty : TypeId) (v : Value) (h : w.heap[g]? = some (.cells cs ty (0, 0))) : (w.setCell ⟨g, k, none⟩ v).heap[g]? = some (.cells (cs.setIfInBounds k v) ty (0, 0)) := by
  simp only [World.setCell, Array.getElem?_modify]
  rw [if_pos trivial, h]
  rfl
theorem setRow_heap9 (w : World) (g : Nat) (old cs : Array Value) (ty : TypeId) (h : w.heap[g]? = some (.cells old ty (0, 0))) : (w.setRow g cs).heap[g]? = some (.cells cs ty (0, 0)) := setRow_heap w g old cs ty _ h
theorem below_row9 {B g : Nat} {w0 w : World} (hb : Below B w0 w) (hBg : B ≤ g) (cs : Array Value) : Below B w0 (w.setRow g cs) :=
  hb.trans ⟨rfl, rfl, rfl, by simp [World.setRow], fun k hk => setRow_other w g k cs (by omega)⟩
/-- After k rounds of the first loop: none. -/
def en1 (k j : Nat) : Int := if 0 < j ∧ j < k then -1 else 0
theorem en1_step : ∀ k : Fin 9, 0 < k.val → ∀ j : Fin 9, (if j.val = k.val then (-1 : Int) else en1 k.val j.val) = en1 (k.val + 1) j.val := by decide
theorem en1_0 : ∀ j : Fin 9, en1 0 j.val = en1 1 j.val := by decide
def szs : List Nat := [4, 16, 32, 64, 128, 256]
/-- After k rounds of the second loop. -/
def en2 (k j : Nat) : Int := if (szs.take k).any (fun n => szB n == (j : Int)) then Ld.E j else (if j = 0 then 0 else -1)
theorem en2_0 : ∀ j : Fin 9, en2 0 j.val = en1 9 j.val := by decide
theorem en2_6 : ∀ j : Fin 9, en2 6 j.val = Ld.E j.val := by decide
def szN (k : Nat) : Nat := szs.getD k 0
def bN (k : Nat) : Nat := (szB (szN k)).toNat
theorem en2_step : ∀ k : Fin 6, ∀ j : Fin 9, (if j.val = bN k.val then Ld.E (bN k.val) else en2 k.val j.val) = en2 (k.val + 1) j.val := by decide
theorem szN_list : ∀ k : Fin 6, ([4, 16, 32, 64, 128, 256] : List Int).getD k.val 0 = (szN k.val : Int) := by decide
theorem szN_all : ∀ k : Fin 6, (szN k.val = 4 ∨ szN k.val = 16 ∨ szN k.val = 32 ∨ szN k.val = 64 ∨ szN k.val = 128 ∨ szN k.val = 256) ∧ szB (szN k.val) = (bN k.val : Int) ∧ bN k.val < 9 ∧ (szN k.val : Int) ≠ 0 ∧ 0 < szN k.val ∧ szN k.val ≤ 256 := by decide
theorem eng_all : ∀ k : Fin 6, wrap64 ((eng (szN k.val) (szN k.val)) / (szN k.val : Int)) = Ld.E (bN k.val) ∧ (eng (szN k.val) (szN k.val)).tdiv (szN k.val : Int) = Ld.E (bN k.val) ∧ 0 ≤ eng (szN k.val) (szN k.val) := by decide +kernel
theorem wE9 (b : Nat) (h : b < 9) : wrap64 (Ld.E b) = Ld.E b := by
  have h2 : ∀ i : Fin 9, -1 ≤ Ld.E i.val ∧ Ld.E i.val ≤ 170 := by decide
  have h3 := h2 ⟨b, h⟩
  simp only at h3
  unfold wrap64; omega
def enV : Array Value := nine Ld.E
theorem cells9 {w : World} {g : Nat} {m : Nat → Int} {T : TypeId} (h : w.heap[g]? = some (.cells (nine m) T (0, 0))) (k : Nat) (hk : k < 9) : w.cell? ⟨g, k, none⟩ = some (.int .i64 (m k)) := (blk_cell h k).trans (nine_get _ k hk)
theorem int_at {w : World} {A : Option Addr} {n : Nat} {l : List Int} (h : Kd.C (Kd.int .i64) w A n l) (i : Nat) (hi : i < n) : ∃ ad, A = some ad ∧ w.cell? (ad.add i) = some (.int .i64 (l.getD i 0)) := by
  have hl : l.length = n := h.1
  obtain ⟨ad, rfl, hc⟩ := h.2.2 (by omega)
  have hg : l[i]? = some (l.getD i 0) := by
    rw [List.getD_eq_getElem?_getD, List.getElem?_eq_getElem (by omega)]; rfl
  obtain ⟨cs, hcl, hK, hcell⟩ := hc i _ hg
  have e : cs = [.int .i64 (l.getD i 0)] := hK
  subst e
  have h0 := hcell 0 _ rfl
  have e1 : i * (Kd.int .i64).sz + 0 = i := by show i * 1 + 0 = i; omega
  rw [e1] at h0
  exact ⟨ad, rfl, h0⟩
theorem int_hcc {T base : Nat} {wr : World} {ok : Nat → Prop} {g n c : Nat} {L : List Int} (h : Kd.R (Kd.int .i64) T wr base ok (.slice (some ⟨g, 0, none⟩) n c) L) (hl : L.length = n) (k : Nat) (hk : k < n) :
    ∀ (j : Nat) (u : Value), ([.int .i64 (L.getD k 0)] : List Value)[j]? = some u → wr.cell? ⟨g, (k : Int).toNat * (Kd.int .i64).sz + j, none⟩ = some u := by
  subst hl
  have hsm := (Kd.R_reads' h).2.2
  obtain ⟨ad, had, hc0⟩ := int_at hsm k hk
  injection had with had
  subst had
  rw [add_zero_form] at hc0
  intro j u hj
  rw [Int.toNat_natCast]
  match j, hj with
  | 0, hj => obtain rfl : Value.int .i64 (L.getD k 0) = u := by simpa using hj
             have e : k * (Kd.int .i64).sz + 0 = k := by show k * 1 + 0 = k; omega
             rw [e]
             exact hc0
theorem int_cell {T base : Nat} {wr : World} {ok : Nat → Prop} {g n c : Nat} {L : List Int} (h : Kd.R (Kd.int .i64) T wr base ok (.slice (some ⟨g, 0, none⟩) n c) L) (hl : L.length = n) (k : Nat) (hk : k < n) : wr.cell? ⟨g, k, none⟩ = some (.int .i64 (L.getD k 0)) := by
  have h0 := int_hcc h hl k hk 0 _ rfl
  have e : (k : Int).toNat * (Kd.int .i64).sz + 0 = k := by rw [Int.toNat_natCast]; show k * 1 + 0 = k; omega
  rw [e] at h0
  exact h0
def szI : List Int := [4, 16, 32, 64, 128, 256]
set_option maxHeartbeats 8000000 in
set_option maxRecDepth 100000 in
theorem energies_calls (w : World) : Calls Try.prog 45 #[] w fun r w' => r = .returned (.agg enV) ∧ Below w.heap.size w w' := by
  go_enter Try.func45, Try.ntmps45
  go_wp2
  obtain ⟨X, hX⟩ : ∃ X, (w.alloc (.cells #[.int .i64 0, .int .i64 0, .int .i64 0, .int .i64 0, .int .i64 0, .int .i64 0, .int .i64 0, .int .i64 0, .int .i64 0] 75)).alloc (.cells #[.int .i64 0, .int .i64 0, .int .i64 0, .int .i64 0, .int .i64 0, .int .i64 0, .int .i64 0, .int .i64 0, .int .i64 0] 75) = X := ⟨_, rfl⟩
  have HX0 := Aside0.mk (show X.heap[w.heap.size]? = some (.cells (nine fun _ => 0) 75) from hX ▸ (Below.heap_alloc _ _ _ (by simp)).trans (blk_new w _))
  have HX1 := Aside0.mk (show X.heap[w.heap.size + 1]? = some (.cells (nine (en1 0)) 75) from hX ▸ (by have h := blk_new (w.alloc (.cells #[.int .i64 0, .int .i64 0, .int .i64 0, .int .i64 0, .int .i64 0, .int .i64 0, .int .i64 0, .int .i64 0, .int .i64 0] 75)) (.cells #[.int .i64 0, .int .i64 0, .int .i64 0, .int .i64 0, .int .i64 0, .int .i64 0, .int .i64 0, .int .i64 0, .int .i64 0] 75); rw [World.size_alloc] at h; exact h))
  have HXB := Aside0.mk (show Below w.heap.size w X from hX ▸ ((Below.refl w.heap.size w).alloc (Nat.le_refl _) _ |>.alloc (by simp) _))
  rw [hX]
  clear hX
  obtain ⟨g, hg⟩ : ∃ g, w.heap.size = g := ⟨_, rfl⟩
  rw [hg] at HX0 HX1 HXB ⊢
  go_loopw [10] (fun i wr => ∃ k : Nat, k ≤ 9 ∧ i = .int .i64 (k : Int) ∧ Aside0 (wr.heap[g]? = some (.cells (nine fun _ => 0) 75)) ∧ Aside0 (wr.heap[g + 1]? = some (.cells (nine (en1 k)) 75)) ∧ Aside0 (Below g w wr)) (fun i _ => 9 - (intOf i).toNat)
  case atStart => exact ⟨0, Nat.zero_le _, rfl, HX0, HX1, HXB⟩
  case round =>
    obtain ⟨k, hk, rfl, H0, H1, HB⟩ := hrel
    by_cases hlt : k < 9
    · have q1 : (k : Int) < 9 := by omega
      have hmin : min k 9 = k := by omega
      by_cases h0 : k = 0
      · subst h0
        have HN := Aside0.mk (nine_congr (en1 0) (en1 1) (fun j hj => en1_0 ⟨j, hj⟩))
        go_wp2
        go_roundw
        case rel => exact ⟨1, by omega, by go_num, H0, ⟨by rw [← HN.out]; exact H1.out⟩, HB⟩
        case measure => simp [intOf]
      · have q2 : 0 < (k : Int) := by omega
        have f1 : wr.frozen? ⟨g + 1, k, none⟩ = false := blk_frozen H1.out k
        have c1 := cells9 H1.out k hlt
        have HN := Aside0.mk (nine_congr (fun j => if j = k then -1 else en1 k j) (en1 (k + 1)) (fun j hj => en1_step ⟨k, hlt⟩ (show 0 < k by omega) ⟨j, hj⟩))
        go_wp2
        go_roundw
        case rel =>
          refine ⟨k + 1, by omega, by go_num, ⟨(Below.heap_setCell _ _ _ g (by show g ≠ g + 1; omega)).trans H0.out⟩, ⟨?_⟩, ⟨HB.out.setCell (p := ⟨g + 1, k, none⟩) (show g ≤ g + 1 by omega) _⟩⟩
          have h := setCell_heap9 wr (g + 1) k _ _ (.int .i64 (-1)) H1.out
          rw [nine_set, HN.out] at h
          exact h
        case measure => simp [intOf]; omega
    · obtain rfl : k = 9 := by omega
      have H2 := Aside0.mk (show wr.heap[g + 1]? = some (.cells (nine (en2 0)) 75) by rw [nine_congr (en2 0) (en1 9) (fun j hj => en2_0 ⟨j, hj⟩)]; exact H1.out)
      clear H1
      go_wp2_with (go_at_call 60; (with_reducible refine (points_Sizes.calls [4, 16, 32, 64, 128, 256] wr rfl).mono ?_); rintro e v1 ⟨v, rfl, hR, hb⟩; (obtain ⟨g5, c5, hv, hg5, hl5, cl5, hcl5⟩ := Kd.R_form hR (by decide)); subst hv; (have HL1 := Aside0.mk (show ∀ k, k < 6 → v1.cell? ⟨g5, k, none⟩ = some (.int .i64 (szN k : Int)) from fun k hk => by have h := int_cell hR rfl k hk; rw [h]; exact congrArg (fun x => some (Value.int .i64 x)) (szN_list ⟨k, hk⟩))); (have HG5 := Aside0.mk (show g + 1 < g5 from by have := (Array.getElem?_eq_some_iff.1 H2.out).1; omega)); (have HB1 := Aside0.mk (HB.out.trans (hb.mono (by have := HB.out.size; omega)))); (have H01 := Aside0.mk (blk_below H0.out hb)); (have H21 := Aside0.mk (blk_below H2.out hb)); clear hR hb)
      clear H0 H2 HB
      go_loopw [20] (fun i wr => ∃ k : Nat, k ≤ 6 ∧ i = .int .i64 (k : Int) ∧ Aside0 (wr.heap[g]? = some (.cells (nine fun _ => 0) 75)) ∧ Aside0 (wr.heap[g + 1]? = some (.cells (nine (en2 k)) 75)) ∧ Aside0 (Below g w wr) ∧ Aside0 (wr.heap[g5]? = v1.heap[g5]?)) (fun i _ => 6 - (intOf i).toNat)
      case atStart => exact ⟨0, Nat.zero_le _, rfl, H01, H21, HB1, ⟨rfl⟩⟩
      case round =>
        obtain ⟨k, hk, rfl, HA, HC, HD, HE⟩ := hrel
        by_cases hlt2 : k < 6
        · have q1 : (k : Int) < 6 := by omega
          obtain ⟨z1, z2, z3, z4, z5, z6⟩ := szN_all ⟨k, hlt2⟩
          obtain ⟨e1, e2, e3⟩ := eng_all ⟨k, hlt2⟩
          simp only at z1 z2 z3 z4 z5 z6 e1 e2 e3
          have hc1 : wr.cell? ⟨g5, k, none⟩ = some (.int .i64 (szN k : Int)) := (World.cell?_of_block (a := ⟨g5, k, none⟩) HE.out).trans (HL1.out k hlt2)
          have HE2 := Aside0.mk (show g5 < wr.heap.size from by have h1 := HE.out; rw [hcl5] at h1; exact (Array.getElem?_eq_some_iff.1 h1).1)
          obtain ⟨n, hn⟩ : ∃ n, szN k = n := ⟨_, rfl⟩
          obtain ⟨b, hb⟩ : ∃ b, bN k = b := ⟨_, rfl⟩
          have HN := Aside0.mk (nine_congr (fun j => if j = bN k then Ld.E (bN k) else en2 k j) (en2 (k + 1)) (fun j hj => en2_step ⟨k, hlt2⟩ ⟨j, hj⟩))
          rw [hn] at z1 z2 z4 z5 z6 e1 e2 e3 hc1
          rw [hb] at z2 z3 e1 e2 HN
          obtain ⟨S, hS⟩ : ∃ S, eng n n = S := ⟨_, rfl⟩
          obtain ⟨V, hV⟩ : ∃ V, Ld.E b = V := ⟨_, rfl⟩
          rw [hV] at e1 e2 HN
          have HWV := Aside0.mk (show wrap64 V = V by rw [← hV]; exact wE9 b z3)
          have HZ := Aside0.mk z1
          have HS := Aside0.mk hS
          rw [hS] at e1 e2 e3
          have hzb : szB n = (b : Int) := z2
          have HZB := Aside0.mk hzb
          have q3 : 0 < (n : Int) := by omega
          have q4 : (b : Int) < 9 := by omega
          have q5 : ((n : Int) == 0) = false := by simpa using z4
          have hmin : min b 9 = b := by omega
          have HBI := Aside0.mk (show ∀ w : World, Calls Try.prog 61 #[.int .i64 (n : Int)] w fun r w' => r = .returned (.tuple #[.int .i64 (b : Int), .int .i64 0]) ∧ Below w.heap.size w w' from fun w => by rw [← hzb]; exact Bits_any n HZ.out w)
          have HEN := Aside0.mk (show ∀ w : World, Calls Try.prog 62 #[.int .i64 (n : Int)] w fun r w' => r = .returned (.tuple #[.int .i64 S, .int .i64 0]) ∧ Below w.heap.size w w' from fun w => by rw [← hS]; exact energy_any n HZ.out w)
          clear hn hb hS hV z1 z2 hzb
          go_wp2_with (first
            | (go_at_call 61; (with_reducible refine (HBI.out _).mono ?_); rintro e v2 ⟨rfl, hb⟩; (have HB2 := Aside0.mk hb); clear hb)
            | (go_at_call 62; (with_reducible refine (HEN.out _).mono ?_); rintro e v3 ⟨rfl, hb⟩; (have HB3 := Aside0.mk (HB2.out.trans (hb.mono HB2.out.size))); (have HA3 := Aside0.mk (blk_below HA.out HB3.out)); (have HC3 := Aside0.mk (blk_below HC.out HB3.out)); (have f3 : v3.frozen? ⟨g + 1, b, none⟩ = false := blk_frozen HC3.out b); (have c3 := cells9 HC3.out b z3); clear hb))
          go_roundw
          case rel =>
            refine ⟨k + 1, by omega, by go_num, ⟨(Below.heap_setCell _ _ _ g (by show g ≠ g + 1; omega)).trans HA3.out⟩, ⟨?_⟩, ⟨(HD.out.trans (HB3.out.mono (by have := HD.out.size; omega))).setCell (p := ⟨g + 1, b, none⟩) (show g ≤ g + 1 by omega) _⟩, ⟨?_⟩⟩
            · have h := setCell_heap9 v3 (g + 1) b _ _ (.int .i64 V) HC3.out
              rw [nine_set, HN.out] at h
              rw [HWV.out]
              exact h
            · exact ((Below.heap_setCell _ _ _ g5 (by have := HG5.out; show g5 ≠ g + 1; omega)).trans (HB3.out.block g5 HE2.out)).trans HE.out
          case measure => simp [intOf]; omega
        · obtain rfl : k = 6 := by omega
          obtain ⟨C3, hC3⟩ : ∃ C3, nine (en2 6) = C3 := ⟨_, rfl⟩
          have HFIN := Aside0.mk (show C3 = enV by
            rw [← hC3]
            exact nine_congr _ _ fun i hi => en2_6 ⟨i, hi⟩)
          have H31 := Aside0.mk (show C3.all (·.oneCell') = true by rw [← hC3]; exact nine_one _)
          have H3S := Aside0.mk (show C3.size = 9 by rw [← hC3, nine_size])
          have H3I := Aside0.mk (show (Try.prog.info? 75).map (·.size) = some C3.size from by rw [H3S.out]; exact nineInfo)
          have HZ9 := Aside0.mk (nine_size (fun _ => 0))
          rw [hC3] at HC
          clear hC3
          go_wp2_with (first
            | ((with_reducible refine gate_dst (N := 40) rfl ?_); refine wpList_load_row rfl 75 (.tmp 1) rfl (g + 1) rfl 75 C3 (0, 0) _ HC.out Try.underlying75 rfl H3I.out ?_)
            | ((with_reducible refine gate_store (t := 75) (p := 0) rfl ?_); refine wpList_store_row rfl 75 (.tmp 0) (.tmp 40) rfl g C3 rfl rfl 75 _ HA.out H3I.out (HZ9.out.trans H3S.out.symm) H31.out ?_))
          refine bodyPost_ret (results_cell_row rfl _ _ g 75 C3 (0, 0) _ rfl (setRow_heap9 _ _ _ _ _ HA.out) Try.underlying75 rfl H3I.out) rfl ?_
          rw [HFIN.out]
          exact ⟨rfl, hg.symm ▸ below_row9 HD.out (Nat.le_refl g) _⟩
end Go.Proofs.Ytgmaiknbogcpgaa.Pure
