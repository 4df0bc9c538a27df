/-
  Contracts: powers modulo m, of the program and of the reference.
-/
import Derived.Test.YtcnmhofmekfmgaaAr
import Derived.Test.YtcnmhofmekfmgaaPlain
import Derived.Deep.QuietTactic
import Derived.BigQuiet
namespace Go.Proofs.Ytcnmhofmekfmgaa
open Go.RowKit
set_option linter.unusedSimpArgs false
set_option linter.unusedVariables false

theorem mul_lt_bd {x y m : Int} (x0 : 0 ≤ x) (x1 : x < m) (y0 : 0 ≤ y) (y1 : y < m) (hm : m ≤ 1000000) : 0 ≤ x * y ∧ x * y ≤ 1000000000000 := by
  obtain ⟨X, rfl⟩ : ∃ X : Nat, x = X := ⟨x.toNat, by omega⟩
  obtain ⟨Y, rfl⟩ : ∃ Y : Nat, y = Y := ⟨y.toNat, by omega⟩
  have : X * Y ≤ 1000000 * 1000000 := Nat.mul_le_mul (by omega) (by omega)
  rw [← Int.natCast_mul]
  omega

theorem power_any (a : Int) (k : Nat) (m : Int) (w : World) (a1 : -1000000 ≤ a) (a2 : a ≤ 1000000) (k2 : k ≤ 1000000) (m1 : 1 ≤ m) (m2 : m ≤ 1000000) :
    Calls Try.prog 60 #[.int .i64 a, .int .i64 k, .int .i64 m] w fun e w' => e = .returned (.int .i64 (pw k (a % m) (1 % m) m)) ∧ ∃ d, w' = w.drewN d := by
  have r1 := Int.emod_nonneg a (show m ≠ 0 by omega)
  have r2 := Int.emod_lt_of_pos a (show 0 < m by omega)
  have r3 := Int.emod_nonneg 1 (show m ≠ 0 by omega)
  have r4 := Int.emod_lt_of_pos 1 (show 0 < m by omega)
  go_enter Try.func60, Try.ntmps60
  go_wp2_with (go_at_call 51; refine (mod_any _ _ _ (by omega) (by omega) (by omega) (by omega)).mono ?_; rintro e w0 ⟨rfl, rfl⟩)
  go_loopw [7, 1, 0] (fun s t u wr => ∃ (p b : Int) (j d : Nat), s = .int .i64 p ∧ t = .int .i64 j ∧ u = .int .i64 b ∧ wr = w.drewN d ∧ 0 ≤ p ∧ p < m ∧ 0 ≤ b ∧ b < m ∧ j ≤ 1000000 ∧ pw j b p m = pw k (a % m) (1 % m) m) (fun _ t _ _ => (intOf t).toNat)
  case atStart => first | exact ⟨_, _, k, _, rfl, rfl, rfl, rfl, r3, r4, r1, r2, k2, rfl⟩ | exact ⟨_, _, k, 0, rfl, rfl, rfl, rfl, r3, r4, r1, r2, k2, rfl⟩
  case round =>
    obtain ⟨p, b, j, d, rfl, rfl, rfl, rfl, p1, p2, b1, b2, j2, hp⟩ := hrel
    have HP := Lib.hid hp
    clear hp
    by_cases hj : 0 < j
    · have q1 := mul_lt_bd (m := m) p1 p2 b1 b2 m2
      have q2 := mul_lt_bd (m := m) b1 b2 b1 b2 m2
      have t1 := Int.emod_nonneg (p * b) (show m ≠ 0 by omega)
      have t2 := Int.emod_lt_of_pos (p * b) (show 0 < m by omega)
      have t3 := Int.emod_nonneg (b * b) (show m ≠ 0 by omega)
      have t4 := Int.emod_lt_of_pos (b * b) (show 0 < m by omega)
      have hm : j % 2 = 1 ∨ j % 2 = 0 := by omega
      rcases hm with hm | hm
      · have hmi : (j : Int) % 2 = 1 := by omega
        have hs := pw_odd b p m hm
        have HS := Lib.hid hs
        clear hs
        go_wp2
        go_roundw
        case rel => exact ⟨_, _, j / 2, d, rfl, by go_num, rfl, rfl, t1, t2, t3, t4, by omega, by rw [← HS.out]; exact HP.out⟩
        case measure => simp only [intOf]; omega
      · have hmi : (j : Int) % 2 = 0 := by omega
        have hs := pw_even b p m (show j ≠ 0 by omega) hm
        have HS := Lib.hid hs
        clear hs
        go_wp2
        go_roundw
        case rel => exact ⟨_, _, j / 2, d, rfl, by go_num, rfl, rfl, p1, p2, t3, t4, by omega, by rw [← HS.out]; exact HP.out⟩
        case measure => simp only [intOf]; omega
    · obtain rfl : j = 0 := by omega
      have he : p = pw k (a % m) (1 % m) m := by rw [← HP.out, pw_zero]
      have HE := Lib.hid he
      clear he
      go_wp2
      go_ret
      exact ⟨by rw [← HE.out]; rfl, d, rfl⟩
theorem nuPower_any (a : Int) (k : Nat) (m : Int) (w : World) (a1 : -1000000 ≤ a) (a2 : a ≤ 1000000) (k2 : k ≤ 1000000) (m1 : 1 ≤ m) (m2 : m ≤ 1000000) :
    Calls Try.prog 59 #[.int .i64 a, .int .i64 k, .int .i64 m] w fun e w' => e = .returned (.int .i64 (pw k (a % m) (1 % m) m)) ∧ ∃ d, w' = w.drewN d := by
  have r1 := Int.emod_nonneg a (show m ≠ 0 by omega)
  have r2 := Int.emod_lt_of_pos a (show 0 < m by omega)
  have r3 := Int.emod_nonneg 1 (show m ≠ 0 by omega)
  have r4 := Int.emod_lt_of_pos 1 (show 0 < m by omega)
  go_enter Try.func59, Try.ntmps59
  go_wp2_with fail
  go_quiet ((go_at_call 49; exact Calls.quiet_of_same ((nuMod_any _ _ _ (by omega) (by omega) (by omega) (by omega)).mono fun _ _ h => ⟨h.1, h.2.symm⟩)))
  go_wp2_with fail
  go_loopw [7, 1, 8] (fun s t u wr => ∃ (p b : Int) (j d : Nat), s = .int .i64 p ∧ t = .int .i64 j ∧ u = .int .i64 b ∧ wr = w.drewN d ∧ 0 ≤ p ∧ p < m ∧ 0 ≤ b ∧ b < m ∧ j ≤ 1000000 ∧ pw j b p m = pw k (a % m) (1 % m) m) (fun _ t _ _ => (intOf t).toNat)
  case atStart => first | exact ⟨_, _, k, _, rfl, rfl, rfl, rfl, r3, r4, r1, r2, k2, rfl⟩ | exact ⟨_, _, k, 0, rfl, rfl, rfl, rfl, r3, r4, r1, r2, k2, rfl⟩
  case round =>
    obtain ⟨p, b, j, d, rfl, rfl, rfl, rfl, p1, p2, b1, b2, j2, hp⟩ := hrel
    have HP := Lib.hid hp
    clear hp
    by_cases hj : 0 < j
    · have q1 := mul_lt_bd (m := m) p1 p2 b1 b2 m2
      have q2 := mul_lt_bd (m := m) b1 b2 b1 b2 m2
      have t1 := Int.emod_nonneg (p * b) (show m ≠ 0 by omega)
      have t2 := Int.emod_lt_of_pos (p * b) (show 0 < m by omega)
      have t3 := Int.emod_nonneg (b * b) (show m ≠ 0 by omega)
      have t4 := Int.emod_lt_of_pos (b * b) (show 0 < m by omega)
      have hm : j % 2 = 1 ∨ j % 2 = 0 := by omega
      rcases hm with hm | hm
      · have hmi : (j : Int) % 2 = 1 := by omega
        have hs := pw_odd b p m hm
        have HS := Lib.hid hs
        clear hs
        go_wp2
        go_roundw
        case rel => exact ⟨_, _, j / 2, d, rfl, by go_num, rfl, rfl, t1, t2, t3, t4, by omega, by rw [← HS.out]; exact HP.out⟩
        case measure => simp only [intOf]; omega
      · have hmi : (j : Int) % 2 = 0 := by omega
        have hs := pw_even b p m (show j ≠ 0 by omega) hm
        have HS := Lib.hid hs
        clear hs
        go_wp2
        go_roundw
        case rel => exact ⟨_, _, j / 2, d, rfl, by go_num, rfl, rfl, p1, p2, t3, t4, by omega, by rw [← HS.out]; exact HP.out⟩
        case measure => simp only [intOf]; omega
    · obtain rfl : j = 0 := by omega
      have he : p = pw k (a % m) (1 % m) m := by rw [← HP.out, pw_zero]
      have HE := Lib.hid he
      clear he
      go_wp2
      go_ret
      exact ⟨by rw [← HE.out]; rfl, d, rfl⟩
theorem power_int (a k m : Int) (w : World) (a1 : -1000000 ≤ a) (a2 : a ≤ 1000000) (k1 : 0 ≤ k) (k2 : k ≤ 1000000) (m1 : 1 ≤ m) (m2 : m ≤ 1000000) :
    Calls Try.prog 60 #[.int .i64 a, .int .i64 k, .int .i64 m] w fun e w' => e = .returned (.int .i64 (pw k.toNat (a % m) (1 % m) m)) ∧ ∃ d, w' = w.drewN d := by
  obtain ⟨K, rfl⟩ : ∃ K : Nat, k = K := ⟨k.toNat, by omega⟩
  exact power_any a K m w a1 a2 (by omega) m1 m2
theorem nuPower_int (a k m : Int) (w : World) (a1 : -1000000 ≤ a) (a2 : a ≤ 1000000) (k1 : 0 ≤ k) (k2 : k ≤ 1000000) (m1 : 1 ≤ m) (m2 : m ≤ 1000000) :
    Calls Try.prog 59 #[.int .i64 a, .int .i64 k, .int .i64 m] w fun e w' => e = .returned (.int .i64 (pw k.toNat (a % m) (1 % m) m)) ∧ ∃ d, w' = w.drewN d := by
  obtain ⟨K, rfl⟩ : ∃ K : Nat, k = K := ⟨k.toNat, by omega⟩
  exact nuPower_any a K m w a1 a2 (by omega) m1 m2
end Go.Proofs.Ytcnmhofmekfmgaa
