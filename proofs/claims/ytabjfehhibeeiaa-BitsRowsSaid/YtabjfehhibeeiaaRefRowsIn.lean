/- Contracts of the two sides' Of, Bytes, Words, Row at rows of any length. -/
import Derived.Test.YtabjfehhibeeiaaFogx0
import Derived.Test.YtabjfehhibeeiaaFogx1
import Derived.Test.YtabjfehhibeeiaaFogx3
import Derived.Test.YtabjfehhibeeiaaFogx4
import Derived.Test.YtabjfehhibeeiaaFogx5
import Derived.Test.YtabjfehhibeeiaaHandOf
import Derived.Test.YtabjfehhibeeiaaHandRow
import Derived.Test.YtabjfehhibeeiaaHandWords
import Derived.Test.YtabjfehhibeeiaaKit
import Derived.Test.YtabjfehhibeeiaaRefRows
namespace Go.Proofs.Ytabjfehhibeeiaa.Pure
open Go.RowKit Go.Proofs.Ytabjfehhibeeiaa.Fog Go.Proofs.YtabjfehhibeeiaaW.PrintWords Go.Proofs.YtabjfehhibeeiaaW.PrintLast Go.Proofs.YtabjfehhibeeiaaW.PrintMore Go.Proofs.Ytabjfehhibeeiaa.Kit
set_option linter.unusedVariables false
theorem sameI_l0 (l : List Int) (hl : l.length ≤ 9223372036854775806) : ∀ (d i : Nat), i + d = l.length → Ev (fun k => foghornlaw01_sameInts.l0 k l l (i : Int)) true
  | 0, i, h => by
    refine Ev.step (fun k => by simp only [foghornlaw01_sameInts.l0]; rfl) ?_
    exact Ev.ifn (by omega) (Ev.now _)
  | d + 1, i, h => by
    refine Ev.step (fun k => by simp only [foghornlaw01_sameInts.l0]; rfl) ?_
    refine Ev.ifp (by omega) (Ev.ifp (by omega) (Ev.ifp (by omega) (Ev.ifp (by first | exact rfl | trivial) ?_)))
    rw [show ((i : Int) + 1) = ((i + 1 : Nat) : Int) by omega, w64n (by omega)]
    exact sameI_l0 l hl d (i + 1) (by omega)
theorem sameI_ev (l : List Int) (hl : l.length ≤ 9223372036854775806) : Ev (fun k => foghornlaw01_sameInts.f k l l) true := by
  unfold foghornlaw01_sameInts.f
  refine Ev.ifp (by first | exact rfl | trivial) ?_
  exact sameI_l0 l hl l.length 0 (by omega)
theorem sameI_in (A : Option Addr) (c : Nat) (B : Option Addr) (d : Nat) (l : List Int) (w : World) (h1 : Kd.C (Kd.int .i64) w A l.length l) (hc : l.length ≤ c) (h2 : Kd.C (Kd.int .i64) w B l.length l) (hd : l.length ≤ d) (hl : l.length ≤ 9223372036854775806) :
    Calls Try.prog 44 #[.slice A l.length c, .slice B l.length d] w fun e w' => e = .returned (.bool true) ∧ Below w.heap.size w w' := by
  obtain ⟨k, hk⟩ := (sameI_ev l hl).rounds
  refine (foghornlaw01_sameInts.calls k A c l B d l true w h1 hc h2 hd hk).mono ?_
  rintro e w' ⟨rfl, ⟨nd, rfl⟩⟩
  exact ⟨rfl, pw_below_drewN (Below.refl _ _) _⟩
theorem of_in (s : ByteArray) (w : World) : Calls Try.prog 36 #[.string s] w fun e w' => ∃ v0_ : Value, e = .returned (.tuple #[v0_, .int .i64 (ofV s).2]) ∧ Kd.R Kd.bool 4 w' w.heap.size (fun _ => True) v0_ (ofV s).1 ∧ Below w.heap.size w w' :=
  bits_Of.calls s _ _ w rfl
theorem refof_in (s : ByteArray) (w : World) : Calls Try.prog 37 #[.string s] w fun e w' => ∃ v0_ : Value, e = .returned (.tuple #[v0_, .int .i64 (ofV s).2]) ∧ Kd.R Kd.bool 4 w' w.heap.size (fun _ => True) v0_ (ofV s).1 ∧ Below w.heap.size w w' := by
  obtain ⟨k, hk⟩ := (refof_ev s).rounds
  exact foghornref01_Of.calls k s _ _ w hk
section
variable (A : Option Addr) (c : Nat) (l : List Bool) (a : Int) (w : World) (h1 : Kd.C Kd.bool w A l.length l) (hc : l.length ≤ c)
include h1 hc
theorem bytes_in : Calls Try.prog 38 #[.slice A l.length c] w fun e w' => e = .returned (.tuple #[.string (bytesV l).1, .int .i64 (bytesV l).2]) ∧ Below w.heap.size w w' := by
  obtain ⟨k, hk⟩ := (bytes_ev l).rounds
  exact bits_Bytes.calls k A c l _ _ w h1 hc hk
theorem refbytes_in : Calls Try.prog 39 #[.slice A l.length c] w fun e w' => e = .returned (.tuple #[.string (bytesV l).1, .int .i64 (bytesV l).2]) ∧ Below w.heap.size w w' := by
  obtain ⟨k, hk⟩ := (refbytes_ev l).rounds
  exact foghornref01_Bytes.calls k A c l _ _ w h1 hc hk
theorem words_in : Calls Try.prog 40 #[.slice A l.length c, .int .i64 a] w fun e w' => ∃ v0_ : Value, e = .returned (.tuple #[v0_, .int .i64 (wordsV l a).2]) ∧ Kd.R (Kd.int .i64) 3 w' w.heap.size (fun _ => True) v0_ (wordsV l a).1 ∧ Below w.heap.size w w' :=
  bits_Words.calls A c l a _ _ w h1 hc rfl
theorem refwords_in : Calls Try.prog 41 #[.slice A l.length c, .int .i64 a] w fun e w' => ∃ v0_ : Value, e = .returned (.tuple #[v0_, .int .i64 (wordsV l a).2]) ∧ Kd.R (Kd.int .i64) 3 w' w.heap.size (fun _ => True) v0_ (wordsV l a).1 ∧ Below w.heap.size w w' := by
  obtain ⟨k, hk⟩ := (refwords_ev l a).rounds
  exact foghornref01_Words.calls k A c l a _ _ w h1 hc hk
end
section
variable (A : Option Addr) (c : Nat) (l : List Int) (a : Int) (w : World) (h1 : Kd.C (Kd.int .i64) w A l.length l) (hc : l.length ≤ c)
include h1 hc
theorem row_in : Calls Try.prog 42 #[.slice A l.length c, .int .i64 a] w fun e w' => ∃ v0_ : Value, e = .returned (.tuple #[v0_, .int .i64 (rowV l a).2]) ∧ Kd.R Kd.bool 4 w' w.heap.size (fun _ => True) v0_ (rowV l a).1 ∧ Below w.heap.size w w' :=
  bits_Row.calls A c l a _ _ w h1 hc rfl
theorem refrow_in : Calls Try.prog 43 #[.slice A l.length c, .int .i64 a] w fun e w' => ∃ v0_ : Value, e = .returned (.tuple #[v0_, .int .i64 (rowV l a).2]) ∧ Kd.R Kd.bool 4 w' w.heap.size (fun _ => True) v0_ (rowV l a).1 ∧ Below w.heap.size w w' := by
  obtain ⟨k, hk⟩ := (refrow_ev l a).rounds
  exact foghornref01_Row.calls k A c l a _ _ w h1 hc hk
end
section
variable (A : Option Addr) (c n : Nat) (l : List Bool) (a : Int) (w : World) (hn : l.length = n) (h1 : Kd.C Kd.bool w A n l) (hc : n ≤ c)
include hn h1 hc
theorem bytes_n : Calls Try.prog 38 #[.slice A n c] w fun e w' => e = .returned (.tuple #[.string (bytesV l).1, .int .i64 (bytesV l).2]) ∧ Below w.heap.size w w' := by
  subst hn; exact bytes_in A c l w h1 hc
theorem words_n : Calls Try.prog 40 #[.slice A n c, .int .i64 a] w fun e w' => ∃ v0_ : Value, e = .returned (.tuple #[v0_, .int .i64 (wordsV l a).2]) ∧ Kd.R (Kd.int .i64) 3 w' w.heap.size (fun _ => True) v0_ (wordsV l a).1 ∧ Below w.heap.size w w' := by
  subst hn; exact words_in A c l a w h1 hc
end
section
variable (A : Option Addr) (c n : Nat) (l : List Int) (a : Int) (w : World) (hn : l.length = n) (h1 : Kd.C (Kd.int .i64) w A n l) (hc : n ≤ c)
include hn h1 hc
theorem row_n : Calls Try.prog 42 #[.slice A n c, .int .i64 a] w fun e w' => ∃ v0_ : Value, e = .returned (.tuple #[v0_, .int .i64 (rowV l a).2]) ∧ Kd.R Kd.bool 4 w' w.heap.size (fun _ => True) v0_ (rowV l a).1 ∧ Below w.heap.size w w' := by
  subst hn; exact row_in A c l a w h1 hc
theorem refrow_n : Calls Try.prog 43 #[.slice A n c, .int .i64 a] w fun e w' => ∃ v0_ : Value, e = .returned (.tuple #[v0_, .int .i64 (rowV l a).2]) ∧ Kd.R Kd.bool 4 w' w.heap.size (fun _ => True) v0_ (rowV l a).1 ∧ Below w.heap.size w w' := by
  subst hn; exact refrow_in A c l a w h1 hc
end
theorem unhurt_n (g c : Nat) (A : Option Addr) (c0 n : Nat) (l : List Bool) (w : World) (hn : l.length = n) (h1 : Kd.C Kd.bool w (some ⟨g, 0, none⟩) (n + 4) (l ++ marks)) (hc : n + 4 ≤ c) (h2 : Kd.C Kd.bool w A l.length l) (hd : l.length ≤ c0) (hl : n ≤ 9223372036854775800) :
    Calls Try.prog 31 #[.slice (some ⟨g, 0, none⟩) (n + 4) c, .slice A l.length c0] w fun e w' => e = .returned (.bool true) ∧ Below w.heap.size w w' := by
  subst hn
  have hlen : (l ++ marks).length = l.length + 4 := by simp [marks]
  exact unhurt_in g c A c0 l w (by rw [hlen]; exact h1) hc h2 hd hl
end Go.Proofs.Ytabjfehhibeeiaa.Pure
