/- Registers in memory: Row, Period, For. -/
import Derived.Test.YtbhhbnpbijehcaaFogx0
import Derived.Test.YtbhhbnpbijehcaaScrNew
namespace Go.Proofs.Ytbhhbnpbijehcaa.Pure
open Go.RowKit Go.Proofs.Ytbhhbnpbijehcaa.Fog Go.Proofs.YtbhhbnpbijehcaaW.PrintWords Go.Proofs.YtbhhbnpbijehcaaW.PrintLast Go.Proofs.YtbhhbnpbijehcaaW.PrintMore
set_option linter.unusedVariables false
set_option linter.unusedSimpArgs false
theorem Moved.refl (b : Nat) (w : World) : Moved b w w := ⟨rfl, rfl, rfl, Nat.le_refl _, fun _ _ _ => rfl⟩
theorem Moved.trans {b : Nat} {u v w : World} (h : Moved b u v) (k : Moved b v w) : Moved b u w :=
  ⟨k.os.trans h.os, k.tape.trans h.tape, k.output.trans h.output, Nat.le_trans h.size k.size, fun i hi hb => (k.block i (Nat.lt_of_lt_of_le hi h.size) hb).trans (h.block i hi hb)⟩
theorem Moved.of_below {b n : Nat} {v w : World} (h : Below n v w) (hn : v.heap.size ≤ n) : Moved b v w := ⟨h.os, h.tape, h.output, h.size, fun i hi _ => h.block i (Nat.lt_of_lt_of_le hi hn)⟩
theorem Moved.step {b : Nat} {u v w : World} (h : Moved b u v) (k : Below v.heap.size v w) : Moved b u w := h.trans (.of_below k (Nat.le_refl _))
theorem Moved.below {b n : Nat} {v w : World} (h : Moved b v w) (hb : n ≤ b) (hn : n ≤ v.heap.size) : Below n v w :=
  ⟨h.os, h.tape, h.output, h.size, fun i hi => h.block i (Nat.lt_of_lt_of_le hi hn) (by omega)⟩
theorem Moved.set {b n : Nat} {u v : World} (h : Moved b u v) {p : Addr} (hp : u.heap.size ≤ p.block) (x : Value) : Moved b u (v.setCell p x) :=
  ⟨h.os, h.tape, h.output, by simpa using h.size, fun i hi hb => (Below.heap_setCell _ _ _ i (by omega)).trans (h.block i hi hb)⟩
theorem Moved.kept {b : Nat} {v w : World} (h : Moved b v w) : Kept v w (fun k => k = b) := ⟨h.size, fun i hi hn => h.block i hi hn⟩
theorem Reg.lt {X : World} {b W t s : Nat} (h : Reg X b W t s) : b < X.heap.size := (Array.getElem?_eq_some_iff.1 h).1
theorem Reg.at_moved {u v : World} {b b' W t s : Nat} (h : Reg u b' W t s) (k : Moved b u v) (hb : b' ≠ b) : Reg v b' W t s := (k.block b' h.lt hb).trans h
theorem Reg.at_below {u v : World} {b W t s : Nat} (h : Reg u b W t s) (k : Below u.heap.size u v) : Reg v b W t s := (k.block b h.lt).trans h
theorem Reg.at_set {u : World} {b W t s : Nat} (h : Reg u b W t s) {p : Addr} (hp : b ≠ p.block) (x : Value) : Reg (u.setCell p x) b W t s := (Below.heap_setCell _ _ _ b hp).trans h
/-- A row of truths beside a register that moves. -/
theorem row_moved {b base : Nat} {v w : World} {x : Value} {l : List Bool} (h : Kd.R Kd.bool 4 v base (fun _ => True) x l) (k : Moved b v w) (hb : ∀ i, x.ownBlock = some i → i ≠ b) : Kd.R Kd.bool 4 w base (fun _ => True) x l :=
  Kd.R_mono (Kd.R_kept (Kd.R_tight rfl h) k.kept (fun i hi => hb i hi.symm)) (fun _ _ => trivial)
theorem next_low (b W t s : Nat) (w : World) (h : Reg w b W t s) (hW : 2 ≤ W ∧ W ≤ 32) (hs : s < 4294967296) (ht : t < 4294967296) :
    Calls Try.prog 13 #[.pointer (some ⟨b, 0, none⟩)] w fun e w' => e = .returned (.tuple #[.bool (Go.Scr.low s), .int .i64 0]) ∧ Reg w' b W t (Go.Scr.step W t s) ∧ Moved b w w' := next_calls b W t s w h hW hs ht
theorem back_low (b W t s : Nat) (w : World) (h : Reg w b W t s) (hW : 2 ≤ W ∧ W ≤ 32) (hs : s < 2 ^ W) (ht : t < 4294967296) :
    Calls Try.prog 15 #[.pointer (some ⟨b, 0, none⟩)] w fun e w' => e = .returned (.tuple #[.bool (Go.Scr.low (Go.Scr.back W t s)), .int .i64 0]) ∧ Reg w' b W t (Go.Scr.back W t s) ∧ Moved b w w' := back_calls b W t s w h hW hs ht
theorem step_lt32 {W t s : Nat} (hW : 2 ≤ W ∧ W ≤ 32) (hs : s < 2 ^ W) (n : Nat) : Go.Scr.iter (Go.Scr.step W t) n s < 4294967296 :=
  Nat.lt_of_lt_of_le (Go.Scr.iter_lt (fun a ha => Go.Scr.step_lt W t a hW.1 ha) n s hs) (Nat.pow_le_pow_right (by decide) hW.2)
set_option maxHeartbeats 4000000 in
set_option maxRecDepth 100000 in
theorem row_calls (b W t s n : Nat) (w : World) (h : Reg w b W t s) (hW : 2 ≤ W ∧ W ≤ 32) (hs : s < 2 ^ W) (ht : t < 4294967296) (hn : n ≤ 32768) :
    Calls Try.prog 18 #[.pointer (some ⟨b, 0, none⟩), .int .i64 (n : Int)] w fun e w' => ∃ v, e = .returned (.tuple #[v, .int .i64 0]) ∧ Kd.R Kd.bool 4 w' w.heap.size (fun _ => True) v (Go.Scr.rowV W t s n) ∧ Reg w' b W t (Go.Scr.iter (Go.Scr.step W t) n s) ∧ Moved b w w' := by
  have HREG := Aside0.mk h
  have HW := Aside0.mk hW
  have HSS := Aside0.mk hs
  have HT := Aside0.mk ht
  have hn' : (n : Int) ≤ 32768 := by omega
  clear h hW hs ht
  go_enter Try.func18, Try.ntmps18
  go_wp2_with ((with_reducible refine gate_dst (N := 17) rfl ?_); refine Kd.R_make Kd.bool (w0 := w) w.heap.size 4 rfl (N := 17) rfl 27 _ _ rfl (n : Int) rfl rfl Try.underlying27 (.bool false) 1 info4 rfl (by decide) (by omega) false (ok := fun _ => True) (okp := fun _ => True) rfl (fun _ hk => hk) trivial (by omega) (by omega) (Below.refl _ _) (Nat.le_refl _) ?_; intro v2 w2 ho hb hg_ hnew_; clear hg_ hnew_)
  rw [Int.toNat_natCast] at ho
  obtain ⟨A, c, hv⟩ := Kd.R_slice ho
  subst hv
  rw [List.length_replicate] at ho ⊢
  have HG0 := Aside0.mk (fun i hi => ((Kd.R_bound ho).1 i hi).2.1 : ∀ i, (Value.slice A n c).ownBlock = some i → w.heap.size ≤ i)
  have HO := Aside0.mk ho
  have HM := Aside0.mk (Moved.of_below (b := b) hb (Nat.le_refl _))
  have HR2 := Aside0.mk (HREG.out.at_below hb)
  clear ho hb
  go_loopw [19] (fun i wr => ∃ k : Nat, k ≤ n ∧ i = .int .i64 (k : Int) ∧ Aside0 (Kd.R Kd.bool 4 wr w.heap.size (fun _ => True) (.slice A n c) (Go.Scr.rowV W t s k ++ List.replicate (n - k) false)) ∧ Aside0 (Reg wr b W t (Go.Scr.iter (Go.Scr.step W t) k s)) ∧ Aside0 (Moved b w wr)) (fun i _ => n - (intOf i).toNat)
  case atStart => exact ⟨0, Nat.zero_le _, rfl, HO, HR2, HM⟩
  case round =>
    obtain ⟨k, hk, rfl, HX, HRK, HMK⟩ := hrel
    by_cases hlt : k < n
    · have q1 : (k : Int) < (n : Int) := by omega
      obtain ⟨g, cc, hv, hgb, hgl, _⟩ := Kd.R_form HX.out (by simp; omega)
      simp only [Value.slice.injEq] at hv
      obtain ⟨rfl, hlen_, rfl⟩ := hv
      clear hlen_
      have hgb' : w.heap.size ≤ g := hgb
      have hbg : b < g := Nat.lt_of_lt_of_le HREG.out.lt hgb
      have HLT := Aside0.mk (step_lt32 HW.out HSS.out (t := t) k)
      obtain ⟨S, hS⟩ : ∃ S, Go.Scr.iter (Go.Scr.step W t) k s = S := ⟨_, rfl⟩
      rw [hS] at HRK HLT
      have HSU := Aside0.mk (show Go.Scr.iter (Go.Scr.step W t) (k + 1) s = Go.Scr.step W t S by rw [Go.Scr.iter_succ, hS])
      have HBT := Aside0.mk (show Go.Scr.rowV W t s (k + 1) = Go.Scr.rowV W t s k ++ [Go.Scr.low S] by rw [Go.Scr.rowV_succ, hS])
      clear hS
      go_wp2_with ((go_at_call 13; (with_reducible refine (next_low b W t S _ HRK.out HW.out HLT.out HT.out).mono ?_); rintro e w3 ⟨rfl, hr3, hm3⟩; (have HX3 := Aside0.mk (row_moved HX.out hm3 (fun i hi => by simp [Value.ownBlock] at hi; omega))); obtain ⟨hx0, hf0⟩ := Kd.R_celln false HX3.out (k : Int) (by omega) q1; simp only [Int.toNat_natCast] at hx0 hf0; have HR3 := Aside0.mk hr3; have HM3 := Aside0.mk (HMK.out.trans hm3); clear hr3 hm3))
      go_roundw
      case rel =>
        refine ⟨k + 1, by omega, by go_num, ⟨?_⟩, ⟨?_⟩, ⟨HM3.out.set (n := 0) hgb' _⟩⟩
        · rw [HBT.out]
          have hp := Kd.R_putn HX3.out (k : Int) (Go.Scr.low S)
          rw [Int.toNat_natCast] at hp
          have e : (Go.Scr.rowV W t s k ++ List.replicate (n - k) false).set k (Go.Scr.low S) = Go.Scr.rowV W t s k ++ [Go.Scr.low S] ++ List.replicate (n - (k + 1)) false := by
            rw [List.set_append_right _ _ (by rw [Go.Scr.rowV_length]; exact Nat.le_refl _), Go.Scr.rowV_length, Nat.sub_self, show n - k = (n - (k + 1)) + 1 by omega, List.replicate_succ, List.set_cons_zero, List.append_assoc]
            rfl
          rw [← e]
          exact hp
        · rw [HSU.out]
          exact HR3.out.at_set (by show b ≠ g; omega) _
      case measure => simp [intOf]; omega
    · obtain rfl : k = n := by omega
      go_wp2
      go_ret2
      have hx := HX.out
      rw [Nat.sub_self, List.replicate_zero, List.append_nil] at hx
      exact ⟨_, rfl, hx, HRK.out, HMK.out⟩
theorem row_bad (b W t s : Nat) (n : Int) (w : World) (hn : n < 0 ∨ 32768 < n) :
    Calls Try.prog 18 #[.pointer (some ⟨b, 0, none⟩), .int .i64 n] w fun e w' => e = .returned (.tuple #[.slice none 0 0, .int .i64 1]) ∧ w' = w := by
  rcases hn with hn | hn
  · go_enter Try.func18, Try.ntmps18
    go_wp2
    go_ret2
    exact ⟨rfl, rfl⟩
  · have hn0 : ¬ n < 0 := by omega
    go_enter Try.func18, Try.ntmps18
    go_wp2
    go_ret2
    exact ⟨rfl, rfl⟩
end Go.Proofs.Ytbhhbnpbijehcaa.Pure
