/- The frames that stand in bytes: what a scan tells; frames laid one behind the other are scanned as those frames. -/
import Derived.Test.YtclhkbjcemgmnaaFogx0
import Derived.Test.YtclhkbjcemgmnaaBack
namespace Go.Proofs.Ytclhkbjcemgmnaa.Pure
open Go.RowKit Go.Proofs.Ytclhkbjcemgmnaa.Fog Go.Proofs.YtclhkbjcemgmnaaW.PrintWords Go.Proofs.YtclhkbjcemgmnaaW.PrintLast Go.Proofs.YtclhkbjcemgmnaaW.PrintMore Go.Proofs.Ytclhkbjcemgmnaa.Kit Go.Proofs.Ytclhkbjcemgmnaa.Crc
set_option linter.unusedSimpArgs false
set_option linter.unusedVariables false
def cutB (s : ByteArray) (p : Nat) : ByteArray := s.extract p s.size
def okB (s : ByteArray) (p : Nat) : Bool := fitsB (cutB s p)
def frB (s : ByteArray) (p : Nat) : S30 := ⟨kindOf (cutB s p), bt (cutB s p) 1, moreOf (cutB s p), bodyOf (cutB s p)⟩
def scanL (s : ByteArray) : Nat → Nat → List (Nat × S30)
  | 0, _ => []
  | d + 1, p => if p < s.size then (if okB s p = true then (p, frB s p) :: scanL s d (p + lenOf (cutB s p)) else scanL s d (p + 1)) else []
theorem scanL_fuel (s : ByteArray) : ∀ (d d' p : Nat), s.size - p ≤ d → s.size - p ≤ d' → scanL s d p = scanL s d' p
  | 0, 0, _, _, _ => rfl
  | 0, d' + 1, p, h, _ => by
    unfold scanL
    rw [if_neg (by omega)]
  | d + 1, 0, p, _, h => by
    unfold scanL
    rw [if_neg (by omega)]
  | d + 1, d' + 1, p, h, h' => by
    unfold scanL
    have hl := (len_le (cutB s p)).1
    rw [scanL_fuel s d d' (p + lenOf (cutB s p)) (by omega) (by omega), scanL_fuel s d d' (p + 1) (by omega) (by omega)]
def scanV (s : ByteArray) (p : Nat) : List (Nat × S30) := scanL s (s.size - p) p
theorem scanV_end (s : ByteArray) (p : Nat) (h : s.size ≤ p) : scanV s p = [] := by
  unfold scanV
  rw [show s.size - p = 0 by omega]
  rfl
theorem scanV_ok (s : ByteArray) (p : Nat) (h : p < s.size) (ho : okB s p = true) : scanV s p = (p, frB s p) :: scanV s (p + lenOf (cutB s p)) := by
  have hl := (len_le (cutB s p)).1
  unfold scanV
  rw [scanL_fuel s (s.size - p) (s.size - p - 1 + 1) p (by omega) (by omega)]
  conv => lhs; unfold scanL
  rw [if_pos h, if_pos ho, scanL_fuel s (s.size - p - 1) (s.size - (p + lenOf (cutB s p))) (p + lenOf (cutB s p)) (by omega) (by omega)]
theorem scanV_no (s : ByteArray) (p : Nat) (h : p < s.size) (ho : okB s p = false) : scanV s p = scanV s (p + 1) := by
  unfold scanV
  rw [scanL_fuel s (s.size - p) (s.size - (p + 1) + 1) p (by omega) (by omega)]
  conv => lhs; unfold scanL
  rw [if_pos h, if_neg (by rw [ho]; decide)]
theorem scanV_len (s : ByteArray) : ∀ (d p : Nat), s.size - p = d → (scanV s p).length ≤ d
  | d, p, h => by
    rcases Nat.lt_or_ge p s.size with hp | hp
    · have hl := (len_le (cutB s p)).1
      cases ho : okB s p
      · rw [scanV_no s p hp ho]
        have := scanV_len s (s.size - (p + 1)) (p + 1) rfl
        omega
      · rw [scanV_ok s p hp ho, List.length_cons]
        have := scanV_len s (s.size - (p + lenOf (cutB s p))) (p + lenOf (cutB s p)) rfl
        omega
    · rw [scanV_end s p hp]; simp
  termination_by d => d
theorem parsed_ok (s : ByteArray) (p : Nat) (h : okB s p = true) : parsed (cutB s p) = ((frB s p).f0, (frB s p).f1, (frB s p).f2, (frB s p).f3, (lenOf (cutB s p) : Int), 0) := by
  unfold parsed
  rw [if_pos (show fitsB (cutB s p) = true from h)]
  rfl
theorem parsed_no (s : ByteArray) (p : Nat) (h : okB s p = false) : parsed (cutB s p) = (0, 0, false, (⟨#[]⟩ : ByteArray), 0, 4) := by
  unfold parsed
  rw [if_neg (by rw [show fitsB (cutB s p) = false from h]; decide)]
theorem okB_of (s : ByteArray) (p : Nat) (k n : Int) (m : Bool) (b : ByteArray) (z : Int) (h : parsed (cutB s p) = (k, n, m, b, z, 0)) : okB s p = true ∧ frB s p = ⟨k, n, m, b⟩ ∧ (lenOf (cutB s p) : Int) = z := by
  cases ho : okB s p
  · rw [parsed_no s p ho] at h
    have h6 := congrArg (fun x => x.2.2.2.2.2) h
    simp at h6
  · rw [parsed_ok s p ho] at h
    obtain ⟨h1, h2, h3, h4, h5, _⟩ : (frB s p).f0 = k ∧ (frB s p).f1 = n ∧ (frB s p).f2 = m ∧ (frB s p).f3 = b ∧ (lenOf (cutB s p) : Int) = z ∧ True := by
      simp only [Prod.mk.injEq] at h
      exact ⟨h.1, h.2.1, h.2.2.1, h.2.2.2.1, h.2.2.2.2.1, trivial⟩
    refine ⟨rfl, ?_, h5⟩
    rw [← h1, ← h2, ← h3, ← h4]
/-! Frames laid one behind the other. -/
def packF (x : S30) : ByteArray := packed x.f0 x.f1 x.f2 x.f3
def GoodF (x : S30) : Prop := (1 ≤ x.f0 ∧ x.f0 ≤ 15) ∧ (0 ≤ x.f1 ∧ x.f1 < 256) ∧ x.f3.size ≤ 240
def packAll : List S30 → ByteArray
  | [] => ⟨#[]⟩
  | x :: l => packF x ++ packAll l
theorem ba_assoc (a b c : ByteArray) : (a ++ b) ++ c = a ++ (b ++ c) := by
  apply ByteArray.ext
  simp only [ByteArray.data_append, Array.append_assoc]
theorem ba_nil (a : ByteArray) : (⟨#[]⟩ : ByteArray) ++ a = a := by
  apply ByteArray.ext
  simp only [ByteArray.data_append, Array.empty_append]
theorem ba_nil_r (a : ByteArray) : a ++ (⟨#[]⟩ : ByteArray) = a := by
  apply ByteArray.ext
  simp only [ByteArray.data_append, Array.append_empty]
theorem packAll_append : ∀ (a b : List S30), packAll (a ++ b) = packAll a ++ packAll b
  | [], b => (ba_nil _).symm
  | x :: a, b => by
    show packF x ++ packAll (a ++ b) = (packF x ++ packAll a) ++ packAll b
    rw [packAll_append a b, ba_assoc]
theorem packF_size (x : S30) : (packF x).size = 9 + x.f3.size := packed_size _ _ _ _
theorem packAll_size : ∀ (l : List S30), (∀ x ∈ l, GoodF x) → (packAll l).size ≤ 249 * l.length
  | [], _ => Nat.le_refl _
  | x :: l, h => by
    have h1 := packAll_size l (fun y hy => h y (List.mem_cons_of_mem _ hy))
    have h2 := (h x List.mem_cons_self).2.2
    have h3 := packF_size x
    show (packF x ++ packAll l).size ≤ _
    rw [ByteArray.size_append, List.length_cons]
    omega
theorem cut_append (a b : ByteArray) : cutB (a ++ b) a.size = b := by
  unfold cutB
  apply ByteArray.ext
  apply Array.ext'
  rw [ByteArray.data_extract, Array.toList_extract, List.extract_eq_take_drop, ByteArray.data_append, Array.toList_append, ByteArray.size_append]
  have ha : a.data.toList.length = a.size := by rw [Array.length_toList]; rfl
  have hb : b.data.toList.length = b.size := by rw [Array.length_toList]; rfl
  rw [show a.size = a.data.toList.length from ha.symm, List.drop_left, List.take_of_length_le (by omega)]
def placed (p : Nat) : List S30 → List (Nat × S30)
  | [] => []
  | x :: l => (p, x) :: placed (p + (packF x).size) l
theorem placed_length : ∀ (l : List S30) (p : Nat), (placed p l).length = l.length
  | [], _ => rfl
  | x :: l, p => by
    show (placed _ l).length + 1 = l.length + 1
    rw [placed_length l]
theorem scan_packs : ∀ (l pre : List S30), (∀ x ∈ l, GoodF x) → scanV (packAll (pre ++ l)) (packAll pre).size = placed (packAll pre).size l
  | [], pre, _ => by
    rw [List.append_nil]
    exact scanV_end _ _ (Nat.le_refl _)
  | x :: l, pre, h => by
    obtain ⟨hk, hn, hb⟩ := h x List.mem_cons_self
    have hcut : cutB (packAll (pre ++ x :: l)) (packAll pre).size = packF x ++ packAll l := by
      rw [packAll_append]
      exact cut_append _ _
    have hp := parsed_packed x.f0 x.f1 x.f2 x.f3 (packAll l) hk hn hb
    obtain ⟨ho, hf, hl⟩ := okB_of (packAll (pre ++ x :: l)) (packAll pre).size _ _ _ _ _ (by rw [hcut]; exact hp)
    have hsz := packF_size x
    have hlt : (packAll pre).size < (packAll (pre ++ x :: l)).size := by
      rw [packAll_append, ByteArray.size_append]
      show _ < _ + (packF x ++ packAll l).size
      rw [ByteArray.size_append]
      omega
    rw [scanV_ok _ _ hlt ho, hf]
    have e1 : (packAll pre).size + lenOf (cutB (packAll (pre ++ x :: l)) (packAll pre).size) = (packAll (pre ++ [x])).size := by
      rw [show packAll (pre ++ [x]) = packAll pre ++ packAll [x] from packAll_append _ _, ByteArray.size_append]
      show _ = _ + (packF x ++ (⟨#[]⟩ : ByteArray)).size
      rw [ba_nil_r]
      omega
    have ih := scan_packs l (pre ++ [x]) (fun y hy => h y (List.mem_cons_of_mem _ hy))
    rw [List.append_assoc, List.singleton_append] at ih
    rw [e1, ih]
    show (_, x) :: _ = (_, x) :: placed _ l
    congr 2
    rw [show packAll (pre ++ [x]) = packAll pre ++ packAll [x] from packAll_append _ _, ByteArray.size_append]
    show _ + (packF x ++ (⟨#[]⟩ : ByteArray)).size = _
    rw [ba_nil_r]
theorem scan_all (l : List S30) (h : ∀ x ∈ l, GoodF x) : scanV (packAll l) 0 = placed 0 l := scan_packs l [] h
theorem placed_at : ∀ (l : List S30) (p k : Nat) (h : k < l.length), (placed p l)[k]? = some (p + (packAll (l.take k)).size, l[k])
  | x :: l, p, 0, h => by
    show some (p, x) = some (p + 0, x)
    rfl
  | x :: l, p, k + 1, h => by
    have hk : k < l.length := by simpa using h
    show (placed (p + (packF x).size) l)[k]? = _
    rw [placed_at l _ k hk, List.take_succ_cons]
    show _ = some (p + (packF x ++ packAll (l.take k)).size, l[k])
    rw [ByteArray.size_append, Nat.add_assoc]
def fitF (x : S30) : S30 := ⟨1 + x.f0 % 15, x.f1, x.f2, x.f3.extract 0 (min x.f3.size 240)⟩
theorem fitF_good (x : S30) (h0 : 0 ≤ x.f0) (h1 : 0 ≤ x.f1 ∧ x.f1 < 256) : GoodF (fitF x) := by
  refine ⟨?_, h1, ?_⟩
  · show 1 ≤ 1 + x.f0 % 15 ∧ 1 + x.f0 % 15 ≤ 15
    omega
  · show (x.f3.extract 0 (min x.f3.size 240)).size ≤ 240
    rw [ByteArray.size_extract]
    omega
end Go.Proofs.Ytclhkbjcemgmnaa.Pure
