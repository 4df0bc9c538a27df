/-
  Contracts: lists of roots.
-/
import Derived.Test.YtfpedehpmgcmnaaFilt
namespace Go.Proofs.Ytfpedehpmgcmnaa
open Go.RowKit
set_option linter.unusedSimpArgs false
set_option linter.unusedVariables false

def rF (a m : Int) (x : Nat) : Bool := decide (((x : Int) * x - a) % m = 0)

def dF (d n : Int) (x : Nat) : Bool := decide (((x : Int) * x - d) % (4 * n) = 0)


set_option maxHeartbeats 400000 in
theorem roDisc_yes (d n : Int) (w : World) (hd : good d = true) (m1 : 1 ≤ n) (m2 : n ≤ 2500) :
    Calls Try.prog 79 #[.int .i64 d, .int .i64 n] w (RetL w (qrs (dF d n) (2 * n).toNat)) := by
  obtain ⟨i0, hi, hz0, hz1, hz2⟩ := info_parts Try.infoInt
  go_enter Try.func79, Try.ntmps79
  go_wp2
  go_loopw [5, 6] (fun v s wr => ∃ k : Nat, s = .int .i64 k ∧ k ≤ (2 * n).toNat ∧ Lst wr w.heap.size v (qrs (dF d n) k) ∧ Below w.heap.size w wr) (fun _ s _ => (2 * n).toNat - (intOf s).toNat)
  case atStart => exact ⟨0, rfl, Nat.zero_le _, by rw [qrs_zero]; exact Lst.nil _ _, Below.refl _ _⟩
  case round =>
    obtain ⟨k, rfl, hk, hl, hb⟩ := hrel
    have hsz := hb.size
    by_cases hlt : k < (2 * n).toNat
    · have hlen := qrs_le (dF d n) k
      have gd := good_iff.1 hd
      have e1 := mul_le (A := 5000) (B := 5000) (x := k) (y := k) (by omega) (by omega) (by omega) (by omega) (by omega) (by omega)
      rcases hc : (dF d n) k with _ | _
      · have hq := qrs_miss hc
        have HQ := Lib.hid hq
        clear hq
        have ht := tmod_ne (a := (k : Int) * k - d) (p := 4 * n) (by omega) (by simpa [dF] using hc)
        clear hc
        go_wp2
        go_roundw
        case rel => exact ⟨k + 1, by go_num, by omega, by rw [HQ.out]; exact hl, hb⟩
        case measure => simp only [intOf]; omega
      · have hq := qrs_hit hc
        have HQ := Lib.hid hq
        clear hq
        have ht := tmod_eq (a := (k : Int) * k - d) (p := 4 * n) (by omega) (by simpa [dF] using hc)
        clear hc
        go_wp2_with (at_builtin; refine wpList_append_own _ rfl _ _ 41 rfl w.heap.size 3 i0 (.int .i64 0) 1 8 Try.underlying41 hi hz0 hz1 hz2 rfl (by decide) _ _ _ rfl (hl.own.alloc _) ⟨wr.heap.size, 0, none⟩ 1 1 [.int .i64 (k : Int)] rfl rfl ?c1 ?c2 ?c3 ?c4 ?c5 ?_)
        case c1 =>
          intro j u hj
          match j, hj with
          | 0, hj => simp at hj; subst hj; simp [Addr.add]
        case c2 => intro u hu; simp at hu; subst hu; rfl
        case c3 => have := qrs_le (dF d n) k; unfold maxLen; omega
        case c4 => have := qrs_le (dF d n) k; omega
        case c5 => have := hb.size; simp; omega
        · intro v' w1 hown' hgrow _
          have hl1 := Lst.snoc hown'
          rw [← HQ.out] at hl1
          have hb1 := snoc_below hb hl hgrow
          clear hown' hgrow hl hb HQ
          go_wp2
          go_roundw
          case rel => exact ⟨k + 1, by go_num, by omega, hl1, hb1⟩
          case measure => simp only [intOf]; omega
    · obtain rfl : k = (2 * n).toNat := by omega
      clear hlt
      go_wp2
      go_ret
      exact ⟨_, rfl, hl, hb⟩

set_option maxHeartbeats 400000 in
theorem rootsOf_yes (d n : Int) (w : World) (hd : good d = true) (m1 : 1 ≤ n) (m2 : n ≤ 2500) :
    Calls Try.prog 87 #[.int .i64 d, .int .i64 n] w (RetL w (qrs (dF d n) (2 * n).toNat)) := by
  obtain ⟨i0, hi, hz0, hz1, hz2⟩ := info_parts Try.infoInt
  go_enter Try.func87, Try.ntmps87
  go_wp2
  go_loopw [5, 6] (fun v s wr => ∃ k : Nat, s = .int .i64 k ∧ k ≤ (2 * n).toNat ∧ Lst wr w.heap.size v (qrs (dF d n) k) ∧ Below w.heap.size w wr) (fun _ s _ => (2 * n).toNat - (intOf s).toNat)
  case atStart => exact ⟨0, rfl, Nat.zero_le _, by rw [qrs_zero]; exact Lst.empty' (by simp) (by omega), by go_grown⟩
  case round =>
    obtain ⟨k, rfl, hk, hl, hb⟩ := hrel
    have hsz := hb.size
    by_cases hlt : k < (2 * n).toNat
    · have hlen := qrs_le (dF d n) k
      have gd := good_iff.1 hd
      have e1 := mul_le (A := 5000) (B := 5000) (x := k) (y := k) (by omega) (by omega) (by omega) (by omega) (by omega) (by omega)
      rcases hc : (dF d n) k with _ | _
      · have hq := qrs_miss hc
        have HQ := Lib.hid hq
        clear hq
        have ht := tmod_ne (a := (k : Int) * k - d) (p := 4 * n) (by omega) (by simpa [dF] using hc)
        clear hc
        go_wp2
        go_roundw
        case rel => exact ⟨k + 1, by go_num, by omega, by rw [HQ.out]; exact hl, hb⟩
        case measure => simp only [intOf]; omega
      · have hq := qrs_hit hc
        have HQ := Lib.hid hq
        clear hq
        have ht := tmod_eq (a := (k : Int) * k - d) (p := 4 * n) (by omega) (by simpa [dF] using hc)
        clear hc
        go_wp2_with (at_builtin; refine wpList_append_own _ rfl _ _ 41 rfl w.heap.size 3 i0 (.int .i64 0) 1 8 Try.underlying41 hi hz0 hz1 hz2 rfl (by decide) _ _ _ rfl (hl.own.alloc _) ⟨wr.heap.size, 0, none⟩ 1 1 [.int .i64 (k : Int)] rfl rfl ?c1 ?c2 ?c3 ?c4 ?c5 ?_)
        case c1 =>
          intro j u hj
          match j, hj with
          | 0, hj => simp at hj; subst hj; simp [Addr.add]
        case c2 => intro u hu; simp at hu; subst hu; rfl
        case c3 => have := qrs_le (dF d n) k; unfold maxLen; omega
        case c4 => have := qrs_le (dF d n) k; omega
        case c5 => have := hb.size; simp; omega
        · intro v' w1 hown' hgrow _
          have hl1 := Lst.snoc hown'
          rw [← HQ.out] at hl1
          have hb1 := snoc_below hb hl hgrow
          clear hown' hgrow hl hb HQ
          go_wp2
          go_roundw
          case rel => exact ⟨k + 1, by go_num, by omega, hl1, hb1⟩
          case measure => simp only [intOf]; omega
    · obtain rfl : k = (2 * n).toNat := by omega
      clear hlt
      go_wp2
      go_ret
      exact ⟨_, rfl, hl, hb⟩
end Go.Proofs.Ytfpedehpmgcmnaa
