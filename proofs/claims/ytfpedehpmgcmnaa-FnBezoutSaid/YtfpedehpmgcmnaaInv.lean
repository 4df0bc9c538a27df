/-
  Contracts: the inverse modulo m, of the program and of the reference.
-/
import Derived.Test.YtfpedehpmgcmnaaAr
import Derived.Test.YtfpedehpmgcmnaaEg
namespace Go.Proofs.Ytfpedehpmgcmnaa
open Go.RowKit
set_option linter.unusedSimpArgs false
set_option linter.unusedVariables false

theorem inverse_any (a m : Int) (w : World) (a1 : -1000000000000 ≤ a) (a2 : a ≤ 1000000000000) (m1 : 1 ≤ m) (m2 : m ≤ 1000000000) (hg : Int.gcd a m = 1) :
    Calls Try.prog 67 #[.int .i64 a, .int .i64 m] w fun e w' => e = .returned (.int .i64 (inv a m)) ∧ w = w' := by
  have st := Eg.start1 (a := a) m1
  go_enter Try.func67, Try.ntmps67
  go_wp2_with fail
  ((with_reducible refine (mod_any _ _ _ (by omega) (by omega) (by omega) (by omega)).mono ?_); rintro e w0 ⟨rfl, rfl⟩)
  go_wp2
  go_loopw [5, 6, 7, 8] (fun s0 s1 s2 s3 wr => ∃ (x y r s : Int), s0 = .int .i64 x ∧ s1 = .int .i64 y ∧ s2 = .int .i64 r ∧ s3 = .int .i64 s ∧ wr = w ∧ Eg a m x y r s) (fun _ _ _ s3 _ => (intOf s3).natAbs)
  case atStart => exact ⟨1, 0, a % m, m, rfl, rfl, rfl, rfl, rfl, st⟩
  case round =>
    obtain ⟨x, y, r, s, rfl, rfl, rfl, rfl, rfl, he⟩ := hrel
    have b1 := he.r0
    have b2 := he.s0
    have b3 := he.r1
    have b4 := he.s1
    have b5 : -m ≤ x ∧ x ≤ m := by have := he.bx; omega
    have b6 : -m ≤ y ∧ y ≤ m := by have := he.bb; omega
    by_cases hs : s = 0
    · subst hs
      have ho := he.out m1 hg
      have HO := Lib.hid ho
      clear ho
      go_wp2_with fail
      ((with_reducible refine (mod_any _ _ _ (by omega) (by omega) (by omega) (by omega)).mono ?_); rintro e w0 ⟨rfl, rfl⟩)
      go_wp2
      go_ret
      first | exact ⟨by rw [← HO.out]; rfl, rfl⟩ | exact ⟨by have h9 := HO.out; rw [if_pos h1] at h9; rw [← h9]; rfl, rfl⟩ | exact ⟨rfl, rfl⟩
    · obtain ⟨q0, q1, q2, q3, q4, q5⟩ := he.bq hs
      have hl := Int.emod_lt_of_pos r (show 0 < s by omega)
      have hl0 := Int.emod_nonneg r (show s ≠ 0 by omega)
      have q6 : -m ≤ r / s * y ∧ r / s * y ≤ m := by omega
      have hn := he.step hs
      rw [← q4] at hl hl0
      clear q4 q5
      go_wp2
      all_goals
        go_roundw
        case rel => exact ⟨y, x - r / s * y, s, r - r / s * s, rfl, rfl, rfl, rfl, (by first | rfl | trivial), hn⟩
        case measure => simp only [intOf]; omega
theorem nuInverse_any (a m : Int) (w : World) (a1 : -1000000000000 ≤ a) (a2 : a ≤ 1000000000000) (m1 : 1 ≤ m) (m2 : m ≤ 1000000000) :
    Calls Try.prog 84 #[.int .i64 a, .int .i64 m] w fun e w' => e = .returned (.int .i64 (if Int.gcd a m = 1 then inv a m else -1)) ∧ w = w' := by
  have st := Eg.start2 (a := a) m1
  go_enter Try.func84, Try.ntmps84
  go_wp2_with fail
  ((with_reducible refine (nuMod_any _ _ _ (by omega) (by omega) (by omega) (by omega)).mono ?_); rintro e w0 ⟨rfl, rfl⟩)
  go_wp2
  go_loopw [7, 8, 5, 6] (fun s0 s1 s2 s3 wr => ∃ (x y r s : Int), s0 = .int .i64 x ∧ s1 = .int .i64 y ∧ s2 = .int .i64 r ∧ s3 = .int .i64 s ∧ wr = w ∧ Eg a m x y r s) (fun _ _ _ s3 _ => (intOf s3).natAbs)
  case atStart => exact ⟨0, 1, m, a % m, rfl, rfl, rfl, rfl, rfl, st⟩
  case round =>
    obtain ⟨x, y, r, s, rfl, rfl, rfl, rfl, rfl, he⟩ := hrel
    have b1 := he.r0
    have b2 := he.s0
    have b3 := he.r1
    have b4 := he.s1
    have b5 : -m ≤ x ∧ x ≤ m := by have := he.bx; omega
    have b6 : -m ≤ y ∧ y ≤ m := by have := he.bb; omega
    by_cases hs : s = 0
    · subst hs
      have hr := he.rest
      by_cases h1 : Int.gcd a m = 1
      · have ho : x % m = (if Int.gcd a m = 1 then inv a m else -1) := by rw [if_pos h1]; exact he.out m1 h1
        have HO := Lib.hid ho
        clear ho
        rw [h1] at hr
        have hr1 : r = 1 := hr
        subst hr1
        clear hr
        go_wp2_with fail
        ((with_reducible refine (nuMod_any _ _ _ (by omega) (by omega) (by omega) (by omega)).mono ?_); rintro e w0 ⟨rfl, rfl⟩)
        go_wp2
        go_ret
        first | exact ⟨by rw [← HO.out]; rfl, rfl⟩ | exact ⟨by have h9 := HO.out; rw [if_pos h1] at h9; rw [← h9]; rfl, rfl⟩ | exact ⟨rfl, rfl⟩
      · have ho : (-1 : Int) = (if Int.gcd a m = 1 then inv a m else -1) := by rw [if_neg h1]
        have HO := Lib.hid ho
        clear ho
        have hr1 : r ≠ 1 := by omega
        clear hr
        go_wp2
        go_ret
        first | exact ⟨by rw [← HO.out]; rfl, rfl⟩ | exact ⟨by have h9 := HO.out; rw [if_pos h1] at h9; rw [← h9]; rfl, rfl⟩ | exact ⟨rfl, rfl⟩
    · obtain ⟨q0, q1, q2, q3, q4, q5⟩ := he.bq hs
      have hl := Int.emod_lt_of_pos r (show 0 < s by omega)
      have hl0 := Int.emod_nonneg r (show s ≠ 0 by omega)
      have q6 : -m ≤ r / s * y ∧ r / s * y ≤ m := by omega
      have hn := he.step hs
      rw [← q4] at hl hl0
      clear q4 q5
      go_wp2
      all_goals
        go_roundw
        case rel => exact ⟨y, x - r / s * y, s, r - r / s * s, rfl, rfl, rfl, rfl, (by first | rfl | trivial), hn⟩
        case measure => simp only [intOf]; omega
end Go.Proofs.Ytfpedehpmgcmnaa
