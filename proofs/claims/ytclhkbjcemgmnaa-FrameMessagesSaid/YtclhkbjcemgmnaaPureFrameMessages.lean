/- FrameMessages: the message of its pieces; each piece may be, all but the last are full. No condition. -/
import Derived.Test.YtclhkbjcemgmnaaFogx0
import Derived.Test.YtclhkbjcemgmnaaFogx12
import Derived.Test.YtclhkbjcemgmnaaPieces
namespace Go.Proofs.Ytclhkbjcemgmnaa.Pure
open Go.RowKit Go.Proofs.Ytclhkbjcemgmnaa.Fog Go.Proofs.YtclhkbjcemgmnaaW.PrintWords Go.Proofs.YtclhkbjcemgmnaaW.PrintLast Go.Proofs.YtclhkbjcemgmnaaW.PrintMore Go.Proofs.Ytclhkbjcemgmnaa.Kit Go.Proofs.Ytclhkbjcemgmnaa.Crc
set_option linter.unusedSimpArgs false
set_option linter.unusedVariables false
theorem mx_nat (a b : Nat) : mx (a : Int) (b : Int) = ((max a b : Nat) : Int) := by
  unfold mx
  split <;> omega
theorem messages_l0 (kind num : Int) (s : ByteArray) (m : Nat) (hk : 1 ≤ kind ∧ kind ≤ 15) (hn : 0 ≤ num ∧ num < 256) (hm : 0 < m) (hm2 : m ≤ 240) (hs : s.size ≤ 32768) (hN : many s.size m ≤ 40000) : ∀ d i : Nat, i + d = many s.size m →
    Ev (fun k => foghornlaw25_FrameMessages.l0 k kind num (m : Int) (pieces kind num s m) (i : Int)) true
  | 0, i, h => by
    refine Ev.step (fun k => by simp only [foghornlaw25_FrameMessages.l0]; rfl) (Ev.ifn (by rw [pieces_length]; omega) (Ev.now _))
  | d + 1, i, h => by
    have ih := messages_l0 kind num s m hk hn hm hm2 hs hN d (i + 1) (by omega)
    have hi : i < many s.size m := by omega
    have ht := many_lt s.size m i hm
    have ejm : (i + 1) * m = i * m + m := Nat.succ_mul i m
    obtain ⟨h1, h2⟩ := mul_lt s.size m i hm hi
    refine Ev.step (fun k => by simp only [foghornlaw25_FrameMessages.l0]; rfl) (Ev.ifp (by rw [pieces_length]; omega) (Ev.ifp (by omega) ?_))
    rw [pieces_rd kind num s m i hi, pieces_length]
    have hb : (s.extract (i * m) (min ((i + 1) * m) s.size)).size ≤ 240 := by rw [ByteArray.size_extract]; omega
    have hmay : mayB kind (s.extract (i * m) (min ((i + 1) * m) s.size)) = true := by
      unfold mayB
      rw [decide_eq_true hk.1, decide_eq_true hk.2, decide_eq_true (by omega : ((s.extract (i * m) (min ((i + 1) * m) s.size)).size : Int) ≤ 240)]
      rfl
    simp only [piece]
    refine Ev.bindc (pack_f _ _ _ _) ?_
    rw [if_pos hmay]
    refine Ev.ifp rfl (Ev.ifp trivial (Ev.ifp trivial (Ev.ifn ?_ ?_)))
    · rw [show ((many s.size m : Nat) : Int) - 1 = ((many s.size m - 1 : Nat) : Int) by omega, w64n (by omega), show decide ((i : Int) < ((many s.size m - 1 : Nat) : Int)) = decide (i + 1 < many s.size m) from decide_eq_decide.2 (by omega)]
      simp
    · rw [w64 (x := (i : Int) + 1) (by omega) (by omega)]
      by_cases hmore : i + 1 < many s.size m
      · have := ht.1 hmore
        refine Ev.ifp (by simpa using hmore) (Ev.ifp ?_ ih)
        rw [ByteArray.size_extract]
        omega
      · exact Ev.ifn (by simpa using hmore) ih
theorem FrameMessages_ev (a0 a1 : Int) (a2 : ByteArray) (a3 : Int) (w0 : (Lit.int .u8 a0).wf = true) (w1 : (Lit.int .u8 a1).wf = true) (w2 : a2.size ≤ 140737488351232) (w3 : (Lit.int .i64 a3).wf = true) :
    Ev (fun k => foghornlaw25_FrameMessages.f k a0 a1 a2 a3) true := by
  obtain ⟨u, rfl, hu⟩ : ∃ u : Nat, a0 = (u : Int) ∧ u < 256 := by
    simp [Lit.wf, IntKind.min, IntKind.max, IntKind.signed, IntKind.bits] at w0
    exact ⟨a0.toNat, by omega, by omega⟩
  have hn : 0 ≤ a1 ∧ a1 < 256 := by
    simp [Lit.wf, IntKind.min, IntKind.max, IntKind.signed, IntKind.bits] at w1
    omega
  obtain ⟨v, hv, hv2⟩ : ∃ v : Nat, IntKind.u64.wrap a3 = (v : Int) ∧ v < 18446744073709551616 := by
    rw [IntKind.wrap_u64]
    exact ⟨(a3 % 18446744073709551616).toNat, by omega, by omega⟩
  simp only [foghornlaw25_FrameMessages.f]
  rw [show (5000 : Int) = ((5000 : Nat) : Int) from rfl, mn_nat, Int.toNat_natCast, hv, show (240 : Int) = ((240 : Nat) : Int) from rfl, show (15 : Int) = ((15 : Nat) : Int) from rfl, tmod_nat, tmod_nat]
  have hsz : (a2.extract 0 (min a2.size 5000)).size = min a2.size 5000 := by rw [ByteArray.size_extract]; omega
  obtain ⟨s, hs⟩ : ∃ s, a2.extract 0 (min a2.size 5000) = s := ⟨_, rfl⟩
  rw [hs] at hsz ⊢
  obtain ⟨m, hm⟩ : ∃ m, 1 + v % 240 = m := ⟨_, rfl⟩
  have em : wrap64 (1 + wrap64 (((v % 240 : Nat) : Nat) : Int)) = (m : Int) := by rw [w64 (x := ((v % 240 : Nat) : Int)) (by omega) (by omega), w64 (by omega) (by omega)]; omega
  have ek : (1 + ((u % 15 : Nat) : Int)) % 256 = ((1 + u % 15 : Nat) : Int) := by omega
  rw [em, ek]
  have hk : (1 : Int) ≤ ((1 + u % 15 : Nat) : Int) ∧ ((1 + u % 15 : Nat) : Int) ≤ 15 := by omega
  refine Ev.bindc rfl (Ev.ifp rfl (Ev.ifp (by omega) (Ev.ifp (by omega) (Ev.bind (pieces_ev _ a1 s m hk hn (by omega) (by omega) (by omega)) (Ev.bindc (join_pieces _ a1 s m hk hn (by omega) (by omega) (by omega)) (Ev.ifp rfl (Ev.ifp rfl (Ev.ifp rfl (Ev.ifn (by omega) ?_)))))))))
  have hmany : many s.size m ≤ 40000 := by
    rcases Nat.eq_zero_or_pos (many s.size m - 1) with e | e
    · omega
    · have := (many_lt s.size m (many s.size m - 2) (by omega)).1 (by omega)
      have h2 := Nat.le_mul_of_pos_right (many s.size m - 2 + 1) (show 0 < m by omega)
      omega
  have hlen : (((pieces ((1 + u % 15 : Nat) : Int) a1 s m).length : Int) != (mx 1 (wrap64 (Int.tdiv (wrap64 ((wrap64 ((s.size : Int) + (m : Int))) - 1)) (m : Int))))) = false := by
    rw [pieces_length, w64 (x := (s.size : Int) + (m : Int)) (by omega) (by omega), show (s.size : Int) + (m : Int) - 1 = ((s.size + m - 1 : Nat) : Int) by omega, w64n (by omega), tdiv_nat]
    have hle := Nat.div_le_self (s.size + m - 1) m
    rw [w64n (by omega), show (1 : Int) = ((1 : Nat) : Int) from rfl, mx_nat]
    simp [many]
  rw [hlen]
  refine Ev.step (fun k => by simp only [foghornlaw25_FrameMessages.j0]; rfl) (Ev.ifn (by simp) ?_)
  exact messages_l0 _ a1 s m hk hn (by omega) (by omega) (by omega) hmany (many s.size m) 0 (by omega)
theorem FrameMessages : foghornlaw25_FrameMessages.Pure := by
  intro a0 a1 a2 a3 w0 w1 w2 w3
  exact (FrameMessages_ev a0 a1 a2 a3 w0 w1 w2 w3).rounds
end Go.Proofs.Ytclhkbjcemgmnaa.Pure
