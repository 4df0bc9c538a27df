/-
  Contracts: the steps of a symbol, of the program.
-/
import Derived.Test.YtfpedehpmgcmnaaJacS
import Derived.Test.YtfpedehpmgcmnaaJacI
namespace Go.Proofs.Ytfpedehpmgcmnaa
open Go.RowKit
set_option linter.unusedSimpArgs false
set_option linter.unusedVariables false

theorem ends_any (T B S : Int) (w : World) : Calls Try.prog 47 #[stepV T B S] w fun e w' => e = .returned (.bool (endB T)) ∧ Below w.heap.size w w' := by
  by_cases h : T = 0
  · subst h
    go_enter Try.func47, Try.ntmps47
    go_wp2
    go_ret
    exact ⟨rfl, (by repeat' (first | (with_reducible exact Below.refl _ _) | (with_reducible assumption) | (with_reducible refine Below.alloc ?_ ?_ _) | (with_reducible refine Below.drew ?_) | (with_reducible refine below_drewN ?_ _) | (with_reducible refine Below.setCell ?_ ?_ _) | go_size))⟩
  · by_cases h1 : T = 1
    · subst h1
      go_enter Try.func47, Try.ntmps47
      go_wp2
      go_ret
      exact ⟨rfl, (by repeat' (first | (with_reducible exact Below.refl _ _) | (with_reducible assumption) | (with_reducible refine Below.alloc ?_ ?_ _) | (with_reducible refine Below.drew ?_) | (with_reducible refine below_drewN ?_ _) | (with_reducible refine Below.setCell ?_ ?_ _) | go_size))⟩
    · have HV := Lib.hid (show endB T = false by simp [endB, h, h1])
      have t1 : (T == 0) = false := by rw [beq_eq_false_iff_ne]; exact h
      have t2 : (T == 1) = false := by rw [beq_eq_false_iff_ne]; exact h1
      clear h h1
      go_enter Try.func47, Try.ntmps47
      go_wp2
      go_ret
      exact ⟨by rw [HV.out]; try rfl, (by repeat' (first | (with_reducible exact Below.refl _ _) | (with_reducible assumption) | (with_reducible refine Below.alloc ?_ ?_ _) | (with_reducible refine Below.drew ?_) | (with_reducible refine below_drewN ?_ _) | (with_reducible refine Below.setCell ?_ ?_ _) | go_size))⟩
set_option maxHeartbeats 1600000 in
theorem next_any (T B S : Int) (w : World) (t1 : -1000000 ≤ T) (t2 : T ≤ 1000000) (b1 : 1 ≤ B) (b2 : B ≤ 1000000) (bo : B % 2 = 1) (s1 : -1 ≤ S) (s2 : S ≤ 1) :
    Calls Try.prog 48 #[stepV T B S] w fun e w' => e = .returned (stepV (sucT T B) (sucB T B) (sucS T B S)) ∧ Below w.heap.size w w' := by
  have r1 := Int.emod_nonneg T (show B ≠ 0 by omega)
  have r2 := Int.emod_lt_of_pos T (show 0 < B by omega)
  have pb := twoS_bd B
  have sp : -1 ≤ S * twoS B ∧ S * twoS B ≤ 1 := by
    have : S = -1 ∨ S = 0 ∨ S = 1 := by omega
    rcases this with rfl | rfl | rfl <;> omega
  by_cases hin : 0 ≤ T ∧ T ≤ B - 1
  · by_cases he : T % 2 = 0
    · have HV := Lib.hid (suc_even S hin he)
      go_enter Try.func48, Try.ntmps48
      go_wp2_with fail
      go_region_with ((go_at_call 78; refine (symbolOfTwo_any _ _ (by omega) (by omega) bo).mono ?_; rintro e w0 ⟨rfl, rfl⟩))
      all_goals
        go_wp2
        go_returns
        exact ⟨by rw [HV.out.1, HV.out.2.1, HV.out.2.2]; try rfl, (by repeat' (first | (with_reducible exact Below.refl _ _) | (with_reducible assumption) | (with_reducible refine Below.alloc ?_ ?_ _) | (with_reducible refine Below.drew ?_) | (with_reducible refine below_drewN ?_ _) | (with_reducible refine Below.setCell ?_ ?_ _) | go_size))⟩
    · have ho : T % 2 = 1 := by omega
      clear he bo
      by_cases hf : T % 4 = 3 ∧ B % 4 = 3
      · have HV := Lib.hid (suc_odd S hin ho)
        have HF := Lib.hid hf
        obtain ⟨f1, f2⟩ := hf
        go_enter Try.func48, Try.ntmps48
        go_wp2
        go_returns
        exact ⟨by rw [HV.out.1, HV.out.2.1, HV.out.2.2, if_pos HF.out]; try rfl, (by repeat' (first | (with_reducible exact Below.refl _ _) | (with_reducible assumption) | (with_reducible refine Below.alloc ?_ ?_ _) | (with_reducible refine Below.drew ?_) | (with_reducible refine below_drewN ?_ _) | (with_reducible refine Below.setCell ?_ ?_ _) | go_size))⟩
      · have HV := Lib.hid (suc_odd S hin ho)
        have HF := Lib.hid hf
        by_cases f1 : T % 4 = 3
        · have f2 : (B % 4 == 3) = false := by rw [beq_eq_false_iff_ne]; exact fun h => hf ⟨f1, h⟩
          clear hf
          go_enter Try.func48, Try.ntmps48
          go_wp2
          go_returns
          exact ⟨by rw [HV.out.1, HV.out.2.1, HV.out.2.2, if_neg HF.out]; try rfl, (by repeat' (first | (with_reducible exact Below.refl _ _) | (with_reducible assumption) | (with_reducible refine Below.alloc ?_ ?_ _) | (with_reducible refine Below.drew ?_) | (with_reducible refine below_drewN ?_ _) | (with_reducible refine Below.setCell ?_ ?_ _) | go_size))⟩
        · have f2 : (T % 4 == 3) = false := by rw [beq_eq_false_iff_ne]; exact f1
          clear hf f1
          go_enter Try.func48, Try.ntmps48
          go_wp2
          go_returns
          exact ⟨by rw [HV.out.1, HV.out.2.1, HV.out.2.2, if_neg HF.out]; try rfl, (by repeat' (first | (with_reducible exact Below.refl _ _) | (with_reducible assumption) | (with_reducible refine Below.alloc ?_ ?_ _) | (with_reducible refine Below.drew ?_) | (with_reducible refine below_drewN ?_ _) | (with_reducible refine Below.setCell ?_ ?_ _) | go_size))⟩
  · have HV := Lib.hid (suc_out S hin)
    clear bo
    by_cases hT : T < 0
    · clear hin
      go_enter Try.func48, Try.ntmps48
      go_wp2_with fail
      ((with_reducible refine (mod_any _ _ _ (by omega) (by omega) (by omega) (by omega)).mono ?_); rintro e w0 ⟨rfl, rfl⟩)
      go_wp2
      go_returns
      exact ⟨by rw [HV.out.1, HV.out.2.1, HV.out.2.2]; try rfl, (by repeat' (first | (with_reducible exact Below.refl _ _) | (with_reducible assumption) | (with_reducible refine Below.alloc ?_ ?_ _) | (with_reducible refine Below.drew ?_) | (with_reducible refine below_drewN ?_ _) | (with_reducible refine Below.setCell ?_ ?_ _) | go_size))⟩
    · have hT2 : B ≤ T := by omega
      clear hin
      go_enter Try.func48, Try.ntmps48
      go_wp2_with fail
      ((with_reducible refine (mod_any _ _ _ (by omega) (by omega) (by omega) (by omega)).mono ?_); rintro e w0 ⟨rfl, rfl⟩)
      go_wp2
      go_returns
      exact ⟨by rw [HV.out.1, HV.out.2.1, HV.out.2.2]; try rfl, (by repeat' (first | (with_reducible exact Below.refl _ _) | (with_reducible assumption) | (with_reducible refine Below.alloc ?_ ?_ _) | (with_reducible refine Below.drew ?_) | (with_reducible refine below_drewN ?_ _) | (with_reducible refine Below.setCell ?_ ?_ _) | go_size))⟩
end Go.Proofs.Ytfpedehpmgcmnaa
