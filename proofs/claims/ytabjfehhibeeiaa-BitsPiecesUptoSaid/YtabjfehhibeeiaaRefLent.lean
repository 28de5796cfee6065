/- A lent row stands as it was; rows alike. -/
import Derived.Test.YtabjfehhibeeiaaFogx0
import Derived.Test.YtabjfehhibeeiaaFogx7
import Derived.Test.YtabjfehhibeeiaaKit
import Derived.Test.YtabjfehhibeeiaaRefBits
import Derived.Test.YtabjfehhibeeiaaHandLent
namespace Go.Proofs.Ytabjfehhibeeiaa.Pure
open Go.RowKit Go.Proofs.Ytabjfehhibeeiaa.Fog Go.Proofs.YtabjfehhibeeiaaW.PrintWords Go.Proofs.YtabjfehhibeeiaaW.PrintLast Go.Proofs.Ytabjfehhibeeiaa.Kit
set_option linter.unusedVariables false
theorem same_l0 (l : List Bool) (hl : l.length ≤ 9223372036854775806) : ∀ (d i : Nat), i + d = l.length → Ev (fun k => foghornlaw01_sameBits.l0 k l l (i : Int)) true
  | 0, i, h => by
    refine Ev.step (fun k => by simp only [foghornlaw01_sameBits.l0]; rfl) ?_
    exact Ev.ifn (by omega) (Ev.now _)
  | d + 1, i, h => by
    refine Ev.step (fun k => by simp only [foghornlaw01_sameBits.l0]; rfl) ?_
    refine Ev.ifp (by omega) (Ev.ifp (by omega) (Ev.ifp (by omega) (Ev.ifn (by simp) ?_)))
    rw [show ((i : Int) + 1) = ((i + 1 : Nat) : Int) by omega, w64n (by omega)]
    exact same_l0 l hl d (i + 1) (by omega)
theorem same_ev (l : List Bool) (hl : l.length ≤ 9223372036854775806) : Ev (fun k => foghornlaw01_sameBits.f k l l) true := by
  unfold foghornlaw01_sameBits.f
  refine Ev.ifp rfl ?_
  exact same_l0 l hl l.length 0 (by omega)
theorem marks_at (l : List Bool) (i : Nat) : rdOf false (l ++ marks) ((l.length + i : Nat) : Int) = marks.getD i false := by
  rw [rd_nat, List.getD_eq_getElem?_getD, List.getElem?_append_right (by omega), show l.length + i - l.length = i by omega, List.getD_eq_getElem?_getD]
theorem unhurt_ev (l : List Bool) (hl : l.length ≤ 9223372036854775800) : Ev (fun k => foghornlaw01_unhurt.f k (l ++ marks) l) true := by
  have h0 := marks_at l 0
  have h1 := marks_at l 1
  have h2 := marks_at l 2
  have h3 := marks_at l 3
  have hlen : (l ++ marks).length = l.length + 4 := by simp [marks]
  rw [Nat.add_zero] at h0
  unfold foghornlaw01_unhurt.f
  rw [hlen, show ((l.length : Int) + 4) = ((l.length + 4 : Nat) : Int) by omega, show ((l.length : Int) + 3) = ((l.length + 3 : Nat) : Int) by omega, show ((l.length : Int) + 2) = ((l.length + 2 : Nat) : Int) by omega, show ((l.length : Int) + 1) = ((l.length + 1 : Nat) : Int) by omega, w64n (by omega), w64n (by omega), w64n (by omega), w64n (by omega), h0, h1, h2, h3]
  refine Ev.ifp rfl (Ev.ifp (by omega) (Ev.ifp (by omega) ?_))
  rw [Int.toNat_natCast, List.take_left']
  · refine Ev.bind (same_ev l (by omega)) ?_
    exact Ev.ifp rfl (Ev.ifp (by omega) (Ev.ifp rfl (Ev.ifp (by omega) (Ev.ifp (by omega) (Ev.ifn (by decide) (Ev.ifp (by omega) (Ev.ifp (by omega) (Ev.ifp rfl (Ev.ifp (by omega) (Ev.ifp (by omega) (Ev.now _)))))))))))
  · rfl
theorem same_in (A : Option Addr) (c : Nat) (B : Option Addr) (d : Nat) (l : List Bool) (w : World) (h1 : Kd.C Kd.bool w A l.length l) (hc : l.length ≤ c) (h2 : Kd.C Kd.bool w B l.length l) (hd : l.length ≤ d) (hl : l.length ≤ 9223372036854775806) :
    Calls Try.prog 21 #[.slice A l.length c, .slice B l.length d] w fun e w' => e = .returned (.bool true) ∧ Below w.heap.size w w' := by
  obtain ⟨k, hk⟩ := (same_ev l hl).rounds
  refine (foghornlaw01_sameBits.calls k A c l B d l true w h1 hc h2 hd hk).mono ?_
  rintro e w' ⟨rfl, ⟨nd, rfl⟩⟩
  exact ⟨rfl, pw_below_drewN (Below.refl _ _) _⟩
theorem unhurt_in (g c : Nat) (A : Option Addr) (c0 : Nat) (l : List Bool) (w : World) (h1 : Kd.C Kd.bool w (some ⟨g, 0, none⟩) (l ++ marks).length (l ++ marks)) (hc : l.length + 4 ≤ c) (h2 : Kd.C Kd.bool w A l.length l) (hd : l.length ≤ c0) (hl : l.length ≤ 9223372036854775800) :
    Calls Try.prog 31 #[.slice (some ⟨g, 0, none⟩) (l.length + 4) c, .slice A l.length c0] w fun e w' => e = .returned (.bool true) ∧ Below w.heap.size w w' := by
  obtain ⟨k, hk⟩ := (unhurt_ev l hl).rounds
  have hlen : (l ++ marks).length = l.length + 4 := by simp [marks]
  have h := foghornlaw01_unhurt.calls k (some ⟨g, 0, none⟩) c (l ++ marks) A c0 l true w h1 (by omega) h2 hd hk
  rw [hlen] at h
  refine h.mono ?_
  rintro e w' ⟨rfl, ⟨nd, rfl⟩⟩
  exact ⟨rfl, pw_below_drewN (Below.refl _ _) _⟩
theorem lent_reads {w : World} {g : Nat} {l : List Bool} (h1 : Kd.C Kd.bool w (some ⟨g, 0, none⟩) (l ++ marks).length (l ++ marks)) : Kd.C Kd.bool w (some ⟨g, 0, none⟩) l.length l := by
  have h := Kd.C_take (m := l.length) h1 (by simp)
  simpa using h
end Go.Proofs.Ytabjfehhibeeiaa.Pure
