/-
  Contracts: the roots of a polynomial modulo m.
-/
import Derived.Test.YtfnmdcifjdfocaaFilt
namespace Go.Proofs.Ytfnmdcifjdfocaa
open Go.RowKit
set_option linter.unusedSimpArgs false
set_option linter.unusedVariables false

def qF (a b c m : Int) (x : Nat) : Bool := decide ((a * x * x + b * x + c) % m = 0)
set_option maxHeartbeats 400000 in
theorem specQR_yes (a b c m : Int) (w : World) (ha : good a = true) (hb' : good b = true) (hc' : good c = true) (m1 : 1 ≤ m) (m2 : m ≤ 10000) :
    Calls Try.prog 22 #[.int .i64 a, .int .i64 b, .int .i64 c, .int .i64 m] w (RetS w (qrs (qF a b c m) m.toNat) true) := by
  obtain ⟨i0, hi, hz0, hz1, hz2⟩ := info_parts Try.infoInt
  have hin : inB 1 10000 m = true := inB_iff.2 ⟨m1, m2⟩
  go_enter Try.func22, Try.ntmps22
  go_wp2_with fail
  ((with_reducible refine (nuGood_any a _).mono ?_); rintro e w0 ⟨rfl, rfl⟩)
  go_wp2_with fail
  ((with_reducible refine (nuGood_any b _).mono ?_); rintro e w0 ⟨rfl, rfl⟩)
  go_wp2_with fail
  ((with_reducible refine (nuGood_any c _).mono ?_); rintro e w0 ⟨rfl, rfl⟩)
  go_wp2_with fail
  ((with_reducible refine (l1In_any m _ _ _).mono ?_); rintro e w0 ⟨rfl, rfl⟩)
  go_wp2
  go_loopw [10, 11] (fun v s wr => ∃ k : Nat, s = .int .i64 k ∧ k ≤ m.toNat ∧ Lst wr w.heap.size v (qrs (qF a b c m) k) ∧ Below w.heap.size w wr) (fun _ s _ => m.toNat - (intOf s).toNat)
  case atStart => exact ⟨0, rfl, Nat.zero_le _, by rw [qrs_zero]; exact Lst.nil _ _, Below.refl _ _⟩
  case round =>
    obtain ⟨k, rfl, hk, hl, hb⟩ := hrel
    have hsz := hb.size
    by_cases hlt : k < m.toNat
    · have hlen := qrs_le (qF a b c m) k
      have ga := good_iff.1 ha
      have gb := good_iff.1 hb'
      have gc := good_iff.1 hc'
      have e1 := mul_le (A := 1000000) (B := 10000) (x := a) (y := k) (by omega) (by omega) (by omega) (by omega) (by omega) (by omega)
      have e2 := mul_le (A := 10000000000) (B := 10000) (x := a * k) (y := k) (by omega) (by omega) (by omega) (by omega) (by omega) (by omega)
      have e3 := mul_le (A := 1000000) (B := 10000) (x := b) (y := k) (by omega) (by omega) (by omega) (by omega) (by omega) (by omega)
      rcases hc : (qF a b c m) k with _ | _
      · have hq := qrs_miss hc
        have HQ := Lib.hid hq
        clear hq
        have ht := tmod_ne (a := a * k * k + b * k + c) (p := m) (by omega) (by simpa [qF] using hc)
        clear hc
        go_wp2
        go_roundw
        case rel => exact ⟨k + 1, by go_num, by omega, by rw [HQ.out]; exact hl, hb⟩
        case measure => simp only [intOf]; omega
      · have hq := qrs_hit hc
        have HQ := Lib.hid hq
        clear hq
        have ht := tmod_eq (a := a * k * k + b * k + c) (p := m) (by omega) (by simpa [qF] using hc)
        clear hc
        go_wp2_with (at_builtin; refine wpList_append_own _ rfl _ _ 25 rfl w.heap.size 3 i0 (.int .i64 0) 1 8 Try.underlying25 hi hz0 hz1 hz2 rfl (by decide) _ _ _ rfl (hl.own.alloc _) ⟨wr.heap.size, 0, none⟩ 1 1 [.int .i64 (k : Int)] rfl rfl ?c1 ?c2 ?c3 ?c4 ?c5 ?_)
        case c1 =>
          intro j u hj
          match j, hj with
          | 0, hj => simp at hj; subst hj; simp [Addr.add]
        case c2 => intro u hu; simp at hu; subst hu; rfl
        case c3 => have := qrs_le (qF a b c m) k; unfold maxLen; omega
        case c4 => have := qrs_le (qF a b c m) k; omega
        case c5 => have := hb.size; simp; omega
        · intro v' w1 hown' hgrow _
          have hl1 := Lst.snoc hown'
          rw [← HQ.out] at hl1
          have hb1 := snoc_below hb hl hgrow
          clear hown' hgrow hl hb HQ
          go_wp2
          go_roundw
          case rel => exact ⟨k + 1, by go_num, by omega, hl1, hb1⟩
          case measure => simp only [intOf]; omega
    · obtain rfl : k = m.toNat := by omega
      clear hlt
      go_wp2
      go_ret2
      exact ⟨_, rfl, hl, hb⟩

set_option maxHeartbeats 400000 in
theorem implQR_yes (a b c m : Int) (w : World) (ha : good a = true) (hb' : good b = true) (hc' : good c = true) (m1 : 1 ≤ m) (m2 : m ≤ 10000) :
    Calls Try.prog 23 #[.int .i64 a, .int .i64 b, .int .i64 c, .int .i64 m] w (RetS w (qrs (qF a b c m) m.toNat) true) := by
  obtain ⟨i0, hi, hz0, hz1, hz2⟩ := info_parts Try.infoInt
  have hin : inB 1 10000 m = true := inB_iff.2 ⟨m1, m2⟩
  go_enter Try.func23, Try.ntmps23
  go_wp2_with fail
  ((with_reducible refine (are3 a b c _ _ (by simp) (by simp) (by simp)).mono ?_); rintro e w0 ⟨rfl, rfl⟩)
  go_wp2
  go_loopw [10, 11] (fun v s wr => ∃ k : Nat, s = .int .i64 k ∧ k ≤ m.toNat ∧ Lst wr w.heap.size v (qrs (qF a b c m) k) ∧ Below w.heap.size w wr) (fun _ s _ => m.toNat - (intOf s).toNat)
  case atStart => exact ⟨0, rfl, Nat.zero_le _, by rw [qrs_zero]; exact Lst.empty' (by simp) (by omega), by go_grown⟩
  case round =>
    obtain ⟨k, rfl, hk, hl, hb⟩ := hrel
    have hsz := hb.size
    by_cases hlt : k < m.toNat
    · have hlen := qrs_le (qF a b c m) k
      have ga := good_iff.1 ha
      have gb := good_iff.1 hb'
      have gc := good_iff.1 hc'
      have e1 := mul_le (A := 1000000) (B := 10000) (x := a) (y := k) (by omega) (by omega) (by omega) (by omega) (by omega) (by omega)
      have e2 := mul_le (A := 10000000000) (B := 10000) (x := a * k) (y := k) (by omega) (by omega) (by omega) (by omega) (by omega) (by omega)
      have e3 := mul_le (A := 1000000) (B := 10000) (x := b) (y := k) (by omega) (by omega) (by omega) (by omega) (by omega) (by omega)
      rcases hc : (qF a b c m) k with _ | _
      · have hq := qrs_miss hc
        have HQ := Lib.hid hq
        clear hq
        have ht := tmod_ne (a := a * k * k + b * k + c) (p := m) (by omega) (by simpa [qF] using hc)
        clear hc
        go_wp2
        go_roundw
        case rel => exact ⟨k + 1, by go_num, by omega, by rw [HQ.out]; exact hl, hb⟩
        case measure => simp only [intOf]; omega
      · have hq := qrs_hit hc
        have HQ := Lib.hid hq
        clear hq
        have ht := tmod_eq (a := a * k * k + b * k + c) (p := m) (by omega) (by simpa [qF] using hc)
        clear hc
        go_wp2_with (at_builtin; refine wpList_append_own _ rfl _ _ 25 rfl w.heap.size 3 i0 (.int .i64 0) 1 8 Try.underlying25 hi hz0 hz1 hz2 rfl (by decide) _ _ _ rfl (hl.own.alloc _) ⟨wr.heap.size, 0, none⟩ 1 1 [.int .i64 (k : Int)] rfl rfl ?c1 ?c2 ?c3 ?c4 ?c5 ?_)
        case c1 =>
          intro j u hj
          match j, hj with
          | 0, hj => simp at hj; subst hj; simp [Addr.add]
        case c2 => intro u hu; simp at hu; subst hu; rfl
        case c3 => have := qrs_le (qF a b c m) k; unfold maxLen; omega
        case c4 => have := qrs_le (qF a b c m) k; omega
        case c5 => have := hb.size; simp; omega
        · intro v' w1 hown' hgrow _
          have hl1 := Lst.snoc hown'
          rw [← HQ.out] at hl1
          have hb1 := snoc_below hb hl hgrow
          clear hown' hgrow hl hb HQ
          go_wp2
          go_roundw
          case rel => exact ⟨k + 1, by go_num, by omega, hl1, hb1⟩
          case measure => simp only [intOf]; omega
    · obtain rfl : k = m.toNat := by omega
      clear hlt
      go_wp2
      go_ret2
      exact ⟨_, rfl, hl, hb⟩
end Go.Proofs.Ytfnmdcifjdfocaa
