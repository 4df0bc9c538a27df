/-
  Contracts: powers of a prime.
-/
import Derived.Test.YtbiaokglmdmopaaAr
import Derived.Test.YtbiaokglmdmopaaForm
namespace Go.Proofs.Ytbiaokglmdmopaa
open Go.RowKit
set_option linter.unusedSimpArgs false
set_option linter.unusedVariables false

theorem pq_test {m n : Int} (n1 : 1 ≤ n) : (1000000 / n < m) ↔ 1000000 < m * n := Int.ediv_lt_iff_lt_mul (by omega)
theorem pow_up {p : Int} (p1 : 3 ≤ p) (j d : Nat) : p ^ j ≤ p ^ (j + d) := by
  induction d with
  | zero => exact Int.le_refl _
  | succ d ih =>
    have h0 : 0 ≤ p ^ (j + d) := Int.pow_nonneg (by omega)
    have h1 := Int.mul_le_mul_of_nonneg_left (show (1 : Int) ≤ p by omega) h0
    rw [← Nat.add_assoc, Int.pow_succ]
    omega
theorem pow_mono {p : Int} (p1 : 3 ≤ p) {j k : Nat} (h : j ≤ k) : p ^ j ≤ p ^ k := by
  have := pow_up p1 j (k - j)
  rwa [show j + (k - j) = k by omega] at this
theorem pow_ge {p : Int} (p1 : 3 ≤ p) (j : Nat) : (3 : Int) ^ j ≤ p ^ j := by
  induction j with
  | zero => simp
  | succ j ih =>
    rw [Int.pow_succ, Int.pow_succ]
    have h3 : (0 : Int) ≤ 3 ^ j := Int.pow_nonneg (by omega)
    exact Int.mul_le_mul ih p1 (by omega) (by omega)
theorem pow_small {p : Int} (p1 : 3 ≤ p) {k : Nat} (h : p ^ k ≤ 1000000) : k ≤ 12 := by
  rcases Nat.lt_or_ge 12 k with h1 | h1
  · exfalso
    have h2 := pow_mono p1 (j := 13) h1
    have h3 := pow_ge p1 13
    have h4 : (3 : Int) ^ 13 = 1594323 := by decide
    omega
  · exact h1
theorem pow_one_le {p : Int} (p1 : 3 ≤ p) (k : Nat) : 1 ≤ p ^ k := by
  have := pow_mono p1 (Nat.zero_le k)
  rwa [Int.pow_zero] at this
theorem powerWithin_yes (p k : Int) (w : World) (p1 : 3 ≤ p) (p2 : p ≤ 1000000) (k1 : 0 ≤ k) (k2 : k ≤ 1000001) (h : p ^ k.toNat ≤ 1000000) :
    Calls Try.prog 64 #[.int .i64 p, .int .i64 k] w fun e w' => e = .returned (.tuple #[.int .i64 (p ^ k.toNat), .bool true]) ∧ w = w' := by
  have HP := Lib.hid h
  clear h
  go_enter Try.func64, Try.ntmps64
  go_wp2
  go_loop [1, 6] (fun s t => ∃ (j : Nat) (q : Int), s = .int .i64 (k - j) ∧ t = .int .i64 q ∧ (j : Int) ≤ k ∧ 1 ≤ q ∧ q ≤ 1000000 ∧ Hid (p ^ j = q)) (fun s _ => (intOf s).toNat)
  case atStart => exact ⟨0, 1, by go_num, rfl, by omega, by omega, by omega, Lib.hid (Int.pow_zero _)⟩
  case round =>
    obtain ⟨j, q, rfl, rfl, jk, q1, q2, HQ⟩ := hrel
    by_cases hj : (j : Int) = k
    · have HV := Lib.hid (show p ^ k.toNat = q by rw [← HQ.out]; congr 1; omega)
      have hj1 : ¬ 0 < k - (j : Int) := by omega
      clear hj
      go_wp2
      go_ret2
      exact ⟨by rw [HV.out]; try rfl, rfl⟩
    · have hj1 : 0 < k - (j : Int) := by omega
      have HN := Lib.hid (show p ^ (j + 1) = q * p by rw [Int.pow_succ, HQ.out])
      have hb : 0 ≤ q * p ∧ q * p ≤ 1000000 := by
        have h1 := pow_mono p1 (show j + 1 ≤ k.toNat by omega)
        have h2 := HP.out
        have h3 := pow_one_le p1 (j + 1)
        rw [HN.out] at h1 h3
        omega
      have hb1 : 1 ≤ q * p := by
        have h3 := pow_one_le p1 (j + 1)
        rw [HN.out] at h3
        exact h3
      clear hj
      go_wp2
      go_round
      case rel => exact ⟨j + 1, q * p, by go_num, rfl, by omega, by omega, by omega, HN⟩
      case measure => simp only [intOf]; omega
theorem powerWithin_no (p k : Int) (w : World) (p1 : 3 ≤ p) (p2 : p ≤ 1000000) (k1 : 0 ≤ k) (k2 : k ≤ 1000001) (h : 1000000 < p ^ k.toNat) :
    Calls Try.prog 64 #[.int .i64 p, .int .i64 k] w fun e w' => e = .returned (.tuple #[.int .i64 0, .bool false]) ∧ w = w' := by
  have HP := Lib.hid h
  clear h
  go_enter Try.func64, Try.ntmps64
  go_wp2
  go_loop [1, 6] (fun s t => ∃ (j : Nat) (q : Int), s = .int .i64 (k - j) ∧ t = .int .i64 q ∧ (j : Int) ≤ k ∧ 1 ≤ q ∧ q ≤ 1000000 ∧ Hid (p ^ j = q)) (fun s _ => (intOf s).toNat)
  case atStart => exact ⟨0, 1, by go_num, rfl, by omega, by omega, by omega, Lib.hid (Int.pow_zero _)⟩
  case round =>
    obtain ⟨j, q, rfl, rfl, jk, q1, q2, HQ⟩ := hrel
    have hj1 : 0 < k - (j : Int) := by
      rcases Int.lt_or_le (j : Int) k with h | h
      · omega
      · exfalso
        have h1 := HP.out
        rw [show k.toNat = j by omega, HQ.out] at h1
        omega
    have HN := Lib.hid (show p ^ (j + 1) = q * p by rw [Int.pow_succ, HQ.out])
    have hq0 : 1 ≤ q * p := by
      have h3 := pow_one_le p1 (j + 1)
      rw [HN.out] at h3
      exact h3
    have hq1 : q * p ≤ 1000000000000 := by
      have := Int.mul_le_mul q2 p2 (by omega) (by omega)
      omega
    by_cases hb : q * p ≤ 1000000
    · go_wp2
      go_round
      case rel => exact ⟨j + 1, q * p, by go_num, rfl, by omega, by omega, by omega, HN⟩
      case measure => simp only [intOf]; omega
    · have hb1 : 1000000 < q * p := by omega
      clear hb
      go_wp2
      go_ret2
      exact ⟨rfl, rfl⟩
theorem roPower_yes (p k : Int) (w : World) (p1 : 3 ≤ p) (p2 : p ≤ 1000000) (k1 : 0 ≤ k) (k2 : k ≤ 1000001) (h : p ^ k.toNat ≤ 1000000) :
    Calls Try.prog 61 #[.int .i64 p, .int .i64 k] w fun e w' => e = .returned (.int .i64 (p ^ k.toNat)) ∧ w = w' := by
  have HP := Lib.hid h
  clear h
  go_enter Try.func61, Try.ntmps61
  go_wp2
  go_loop [1, 5] (fun s t => ∃ (j : Nat) (q : Int), s = .int .i64 (k - j) ∧ t = .int .i64 q ∧ (j : Int) ≤ k ∧ 1 ≤ q ∧ q ≤ 1000000 ∧ Hid (p ^ j = q)) (fun s _ => (intOf s).toNat)
  case atStart => exact ⟨0, 1, by go_num, rfl, by omega, by omega, by omega, Lib.hid (Int.pow_zero _)⟩
  case round =>
    obtain ⟨j, q, rfl, rfl, jk, q1, q2, HQ⟩ := hrel
    by_cases hj : (j : Int) = k
    · have HV := Lib.hid (show p ^ k.toNat = q by rw [← HQ.out]; congr 1; omega)
      have hj1 : ¬ 0 < k - (j : Int) := by omega
      clear hj
      go_wp2
      go_ret
      exact ⟨by rw [HV.out]; try rfl, rfl⟩
    · have hj1 : 0 < k - (j : Int) := by omega
      have HN := Lib.hid (show p ^ (j + 1) = q * p by rw [Int.pow_succ, HQ.out])
      have hb : 0 ≤ q * p ∧ q * p ≤ 1000000 := by
        have h1 := pow_mono p1 (show j + 1 ≤ k.toNat by omega)
        have h2 := HP.out
        have h3 := pow_one_le p1 (j + 1)
        rw [HN.out] at h1 h3
        omega
      have hb1 : 1 ≤ q * p := by
        have h3 := pow_one_le p1 (j + 1)
        rw [HN.out] at h3
        exact h3
      have hd : 0 ≤ 1000000 / p ∧ 1000000 / p ≤ 1000000 := ⟨Int.ediv_nonneg (by omega) (by omega), Int.ediv_le_self _ (by omega)⟩
      have hT : q ≤ 1000000 / p := Int.not_lt.1 fun h' => by have := (pq_test (show 1 ≤ p by omega)).1 h'; omega
      clear hj
      go_wp2
      go_round
      case rel => exact ⟨j + 1, q * p, by go_num, rfl, by omega, by omega, by omega, HN⟩
      case measure => simp only [intOf]; omega
theorem roPower_no (p k : Int) (w : World) (p1 : 3 ≤ p) (p2 : p ≤ 1000000) (k1 : 0 ≤ k) (k2 : k ≤ 1000001) (h : 1000000 < p ^ k.toNat) :
    Calls Try.prog 61 #[.int .i64 p, .int .i64 k] w fun e w' => e = .returned (.int .i64 0) ∧ w = w' := by
  have HP := Lib.hid h
  clear h
  go_enter Try.func61, Try.ntmps61
  go_wp2
  go_loop [1, 5] (fun s t => ∃ (j : Nat) (q : Int), s = .int .i64 (k - j) ∧ t = .int .i64 q ∧ (j : Int) ≤ k ∧ 1 ≤ q ∧ q ≤ 1000000 ∧ Hid (p ^ j = q)) (fun s _ => (intOf s).toNat)
  case atStart => exact ⟨0, 1, by go_num, rfl, by omega, by omega, by omega, Lib.hid (Int.pow_zero _)⟩
  case round =>
    obtain ⟨j, q, rfl, rfl, jk, q1, q2, HQ⟩ := hrel
    have hj1 : 0 < k - (j : Int) := by
      rcases Int.lt_or_le (j : Int) k with h | h
      · omega
      · exfalso
        have h1 := HP.out
        rw [show k.toNat = j by omega, HQ.out] at h1
        omega
    have HN := Lib.hid (show p ^ (j + 1) = q * p by rw [Int.pow_succ, HQ.out])
    have hq0 : 1 ≤ q * p := by
      have h3 := pow_one_le p1 (j + 1)
      rw [HN.out] at h3
      exact h3
    have hq1 : q * p ≤ 1000000000000 := by
      have := Int.mul_le_mul q2 p2 (by omega) (by omega)
      omega
    by_cases hb : q * p ≤ 1000000
    · have hd : 0 ≤ 1000000 / p ∧ 1000000 / p ≤ 1000000 := ⟨Int.ediv_nonneg (by omega) (by omega), Int.ediv_le_self _ (by omega)⟩
      have hT : q ≤ 1000000 / p := Int.not_lt.1 fun h' => by have := (pq_test (show 1 ≤ p by omega)).1 h'; omega
      go_wp2
      go_round
      case rel => exact ⟨j + 1, q * p, by go_num, rfl, by omega, by omega, by omega, HN⟩
      case measure => simp only [intOf]; omega
    · have hb1 : 1000000 < q * p := by omega
      have hd : 0 ≤ 1000000 / p ∧ 1000000 / p ≤ 1000000 := ⟨Int.ediv_nonneg (by omega) (by omega), Int.ediv_le_self _ (by omega)⟩
      have hT : 1000000 / p < q := (pq_test (show 1 ≤ p by omega)).2 (by omega)
      clear hb
      go_wp2
      go_ret
      exact ⟨rfl, rfl⟩
end Go.Proofs.Ytbiaokglmdmopaa
