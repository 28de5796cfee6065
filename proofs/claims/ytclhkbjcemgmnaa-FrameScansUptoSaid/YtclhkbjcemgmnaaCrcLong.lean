/- Long division, bit by bit, with as many false bits behind as the sum is wide: the same remainder. Plain. -/
import Derived.Test.YtclhkbjcemgmnaaFogx0
import Derived.Test.YtclhkbjcemgmnaaCrc
namespace Go.Proofs.Ytclhkbjcemgmnaa.Crc
set_option linter.unusedSimpArgs false
set_option linter.unusedVariables false
variable {w : Nat}
/-- A step that brings the bit down first. -/
def step0 (p s : BitVec w) (b : Bool) : BitVec w := ((s <<< 1) ^^^ (if b = true then 1#w else 0#w)) ^^^ (if s.msb = true then p else 0#w)
def run0 (p s : BitVec w) (l : List Bool) : BitVec w := l.foldl (step0 p) s
theorem run0_cons (p s : BitVec w) (b : Bool) (l : List Bool) : run0 p s (b :: l) = run0 p (step0 p s b) l := rfl
theorem run0_append (p s : BitVec w) (a b : List Bool) : run0 p s (a ++ b) = run0 p (run0 p s a) b := List.foldl_append ..
theorem step0_eq (p s : BitVec w) (b : Bool) : step0 p s b = step p s false ^^^ (if b = true then 1#w else 0#w) := by
  unfold step0 step
  rw [Bool.bne_false]
  ac_rfl
theorem run0_zeros (p : BitVec w) : ∀ (n : Nat) (s : BitVec w), run0 p s (List.replicate n false) = crc p s (List.replicate n false)
  | 0, s => rfl
  | n + 1, s => by
    rw [List.replicate_succ, run0_cons, crc_cons, step0_eq, if_neg (by decide), BitVec.xor_zero]
    exact run0_zeros p n _
theorem zeros_xor (p : BitVec w) (n : Nat) (s t : BitVec w) : crc p (s ^^^ t) (List.replicate n false) = crc p s (List.replicate n false) ^^^ crc p t (List.replicate n false) := by
  have h := crc_xor p (List.replicate n false) (List.replicate n false) s t rfl
  rw [xl_self, List.length_replicate] at h
  exact h
theorem zeros_step (p : BitVec w) (n : Nat) (s : BitVec w) : crc p (step p s false) (List.replicate n false) = step p (crc p s (List.replicate n false)) false := by
  rw [← crc_cons, ← List.replicate_succ, List.replicate_succ', crc_snoc]
theorem step_split (p s : BitVec w) (b : Bool) : step p s b = step p s false ^^^ (if b = true then p else 0#w) := by
  have h := step_xor p s 0#w false b
  rw [BitVec.xor_zero, Bool.false_bne] at h
  rw [h]
  congr 1
  unfold step
  cases b <;> simp
theorem run0_crc (p : BitVec w) (h1 : crc p 1#w (List.replicate w false) = p) : ∀ (l : List Bool) (s : BitVec w), crc p (run0 p s l) (List.replicate w false) = crc p (crc p s (List.replicate w false)) l
  | [], s => rfl
  | b :: l, s => by
    rw [run0_cons, run0_crc p h1 l, crc_cons, step0_eq, zeros_xor, zeros_step, step_split p _ b]
    congr 2
    cases b
    · rw [if_neg (by decide), if_neg (by decide), crc_zeros]
    · rw [if_pos rfl, if_pos rfl, h1]
/-- THE LONG DIVISION. -/
theorem run0_long (p : BitVec w) (h1 : crc p 1#w (List.replicate w false) = p) (l : List Bool) : run0 p 0#w (l ++ List.replicate w false) = crc p 0#w l := by
  rw [run0_append, run0_zeros, run0_crc p h1, crc_zeros]
/-- The bits of bytes. -/
def byteBits (c : Nat) : List Bool := (List.range 8).map fun i => c.testBit (7 - i)
def bitsOf (l : List Nat) : List Bool := l.flatMap byteBits
theorem byteBits_length (c : Nat) : (byteBits c).length = 8 := rfl
theorem bitsOf_length (l : List Nat) : (bitsOf l).length = 8 * l.length := by
  induction l with
  | nil => rfl
  | cons c l ih => simp only [bitsOf, List.flatMap_cons, List.length_append, byteBits_length, List.length_cons] at ih ⊢; omega
theorem bitsOf_get : ∀ (l : List Nat) (i : Nat), i < 8 * l.length → (bitsOf l).getD i false = (l.getD (i / 8) 0).testBit (7 - i % 8)
  | [], i, h => by simp at h
  | c :: l, i, h => by
    have e : bitsOf (c :: l) = byteBits c ++ bitsOf l := rfl
    rw [e, List.getD_eq_getElem?_getD]
    rcases Nat.lt_or_ge i 8 with h8 | h8
    · rw [List.getElem?_append_left (by rw [byteBits_length]; exact h8), Nat.div_eq_of_lt h8, Nat.mod_eq_of_lt h8]
      simp [byteBits, h8]
    · rw [List.getElem?_append_right (by rw [byteBits_length]; exact h8), byteBits_length, ← List.getD_eq_getElem?_getD, bitsOf_get l (i - 8) (by rw [List.length_cons] at h; omega)]
      rw [show i / 8 = (i - 8) / 8 + 1 by omega, show (i - 8) % 8 = i % 8 by omega]
      simp [List.getD_eq_getElem?_getD]
end Go.Proofs.Ytclhkbjcemgmnaa.Crc
