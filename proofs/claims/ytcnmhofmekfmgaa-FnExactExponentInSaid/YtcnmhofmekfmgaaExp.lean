/-
  Contracts: how often a prime divides an integer.
-/
import Derived.Test.YtcnmhofmekfmgaaGood
import Derived.Test.YtcnmhofmekfmgaaPlain
import Derived.Handy
namespace Go.Proofs.Ytcnmhofmekfmgaa
open Go.RowKit
set_option linter.unusedSimpArgs false
set_option linter.unusedVariables false

theorem exponent_any (n p : Int) (w : World) (n1 : -1000000 ≤ n) (n2 : n ≤ 1000000) (hn : n ≠ 0) (p1 : 2 ≤ p) (p2 : p ≤ 1000000) :
    Calls Try.prog 62 #[.int .i64 n, .int .i64 p] w fun e w' => e = .returned (.int .i64 (exN n.natAbs p.toNat)) ∧ w = w' := by
  have H0 := Lib.hid hn
  clear hn
  go_enter Try.func62, Try.ntmps62
  go_wp2
  go_loop [0, 5] (fun s t => ∃ (x : Int) (k : Nat), s = .int .i64 x ∧ t = .int .i64 k ∧ -1000000 ≤ x ∧ x ≤ 1000000 ∧ Hid (x ≠ 0) ∧ k + x.natAbs ≤ 1000000 ∧ Hid (exN x.natAbs p.toNat + k = exN n.natAbs p.toNat)) (fun s _ => (intOf s).natAbs)
  case atStart => exact ⟨n, 0, rfl, rfl, n1, n2, H0, by omega, rfl⟩
  case round =>
    obtain ⟨x, k, rfl, rfl, x1, x2, hx, hk, HE⟩ := hrel
    have hx0 := hx.out
    have q1 : (x.tdiv p).natAbs = x.natAbs / p.toNat := by rw [Int.natAbs_tdiv]; congr 1; omega
    have q2 : (x.tmod p).natAbs = x.natAbs % p.toNat := by rw [Int.natAbs_tmod]; congr 1; omega
    have q3 : x.natAbs / p.toNat < x.natAbs := Nat.div_lt_self (by omega) (by omega)
    by_cases hm : x.natAbs % p.toNat = 0
    · have ht : x.tmod p = 0 := by omega
      have hne : x.tdiv p ≠ 0 := fun h => by
        have := Nat.div_add_mod x.natAbs p.toNat
        rw [hm, ← q1, h] at this
        simp at this
        omega
      have he : exN (x.tdiv p).natAbs p.toNat + (k + 1) = exN n.natAbs p.toNat := by
        rw [← HE.out, q1, exN_hit (n := x.natAbs) (by omega) (by omega) hm]
        omega
      have b1 : -1000000 ≤ x.tdiv p ∧ x.tdiv p ≤ 1000000 := by omega
      have b2 : (x.tdiv p).natAbs < x.natAbs := by omega
      have HM := Lib.hid hm
      have HN := Lib.hid hne
      have HX := Lib.hid he
      clear hm hne he q1 q2 hx0
      go_wp2
      go_round
      case rel => exact ⟨x.tdiv p, k + 1, rfl, by go_num, b1.1, b1.2, HN, by omega, HX⟩
      case measure => simp only [intOf]; exact b2
    · have ht : (x.tmod p == 0) = false := by
        rw [beq_eq_false_iff_ne]
        omega
      have he : k = exN n.natAbs p.toNat := by rw [← HE.out, exN_miss hm]; omega
      have HX := Lib.hid he
      clear he hm q1 q2 q3 hx0
      go_wp2
      go_ret
      exact ⟨by rw [← HX.out]; rfl, rfl⟩
theorem nuExponent_any (n p : Int) (w : World) (n1 : -1000000 ≤ n) (n2 : n ≤ 1000000) (hn : n ≠ 0) (p1 : 2 ≤ p) (p2 : p ≤ 1000000) :
    Calls Try.prog 61 #[.int .i64 n, .int .i64 p] w fun e w' => e = .returned (.int .i64 (exN n.natAbs p.toNat)) ∧ w = w' := by
  have H0 := Lib.hid hn
  clear hn
  go_enter Try.func61, Try.ntmps61
  go_wp2
  go_loop [0, 5] (fun s t => ∃ (x : Int) (k : Nat), s = .int .i64 x ∧ t = .int .i64 k ∧ -1000000 ≤ x ∧ x ≤ 1000000 ∧ Hid (x ≠ 0) ∧ k + x.natAbs ≤ 1000000 ∧ Hid (exN x.natAbs p.toNat + k = exN n.natAbs p.toNat)) (fun s _ => (intOf s).natAbs)
  case atStart => exact ⟨n, 0, rfl, rfl, n1, n2, H0, by omega, rfl⟩
  case round =>
    obtain ⟨x, k, rfl, rfl, x1, x2, hx, hk, HE⟩ := hrel
    have hx0 := hx.out
    have q1 : (x.tdiv p).natAbs = x.natAbs / p.toNat := by rw [Int.natAbs_tdiv]; congr 1; omega
    have q2 : (x.tmod p).natAbs = x.natAbs % p.toNat := by rw [Int.natAbs_tmod]; congr 1; omega
    have q3 : x.natAbs / p.toNat < x.natAbs := Nat.div_lt_self (by omega) (by omega)
    by_cases hm : x.natAbs % p.toNat = 0
    · have ht : x.tmod p = 0 := by omega
      have hne : x.tdiv p ≠ 0 := fun h => by
        have := Nat.div_add_mod x.natAbs p.toNat
        rw [hm, ← q1, h] at this
        simp at this
        omega
      have he : exN (x.tdiv p).natAbs p.toNat + (k + 1) = exN n.natAbs p.toNat := by
        rw [← HE.out, q1, exN_hit (n := x.natAbs) (by omega) (by omega) hm]
        omega
      have b1 : -1000000 ≤ x.tdiv p ∧ x.tdiv p ≤ 1000000 := by omega
      have b2 : (x.tdiv p).natAbs < x.natAbs := by omega
      have HM := Lib.hid hm
      have HN := Lib.hid hne
      have HX := Lib.hid he
      clear hm hne he q1 q2 hx0
      go_wp2
      go_round
      case rel => exact ⟨x.tdiv p, k + 1, rfl, by go_num, b1.1, b1.2, HN, by omega, HX⟩
      case measure => simp only [intOf]; exact b2
    · have ht : (x.tmod p == 0) = false := by
        rw [beq_eq_false_iff_ne]
        omega
      have he : k = exN n.natAbs p.toNat := by rw [← HE.out, exN_miss hm]; omega
      have HX := Lib.hid he
      clear he hm q1 q2 q3 hx0
      go_wp2
      go_ret
      exact ⟨by rw [← HX.out]; rfl, rfl⟩
end Go.Proofs.Ytcnmhofmekfmgaa
