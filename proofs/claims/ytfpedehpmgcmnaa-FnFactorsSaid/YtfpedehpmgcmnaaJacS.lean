/-
  Contracts: the symbol of two, the step behind a step, and the symbol of Jacobi, of the reference.
-/
import Derived.Test.YtfpedehpmgcmnaaIn
import Derived.Test.YtfpedehpmgcmnaaAr
import Derived.Test.YtfpedehpmgcmnaaSym
import Derived.Test.YtfpedehpmgcmnaaForm
import Derived.Deep.QuietTactic
import Derived.BigQuiet
import Derived.IntWalk
import Derived.Deep.RegionWith
namespace Go.Proofs.Ytfpedehpmgcmnaa
open Go.RowKit
set_option linter.unusedSimpArgs false
set_option linter.unusedVariables false

theorem syTwo_any (n : Int) (w : World) (h1 : -1000000000 ≤ n) (h2 : n ≤ 1000000000) :
    Calls Try.prog 77 #[.int .i64 n] w fun e w' => e = .returned (.int .i64 (twoS n)) ∧ w = w' := by
  have r1 := Int.emod_nonneg n (show (8 : Int) ≠ 0 by omega)
  have r2 := Int.emod_lt_of_pos n (show (0 : Int) < 8 by omega)
  have hc : n % 8 = 1 ∨ n % 8 = 7 ∨ n % 8 = 3 ∨ n % 8 = 5 ∨ n % 2 = 0 := by omega
  rcases hc with h | h | h | h | h
  · have HV := Lib.hid (twoS_plus (.inl h : n % 8 = 1 ∨ n % 8 = 7))
    go_enter Try.func77, Try.ntmps77
    go_wp2_with fail
    ((with_reducible refine (nuMod_any _ _ _ (by omega) (by omega) (by omega) (by omega)).mono ?_); rintro e w0 ⟨rfl, rfl⟩)
    go_wp2
    go_ret
    exact ⟨by rw [HV.out]; rfl, rfl⟩
  · have HV := Lib.hid (twoS_plus (.inr h : n % 8 = 1 ∨ n % 8 = 7))
    go_enter Try.func77, Try.ntmps77
    go_wp2_with fail
    ((with_reducible refine (nuMod_any _ _ _ (by omega) (by omega) (by omega) (by omega)).mono ?_); rintro e w0 ⟨rfl, rfl⟩)
    go_wp2
    go_ret
    exact ⟨by rw [HV.out]; rfl, rfl⟩
  · have HV := Lib.hid (twoS_minus (.inl h : n % 8 = 3 ∨ n % 8 = 5))
    go_enter Try.func77, Try.ntmps77
    go_wp2_with fail
    ((with_reducible refine (nuMod_any _ _ _ (by omega) (by omega) (by omega) (by omega)).mono ?_); rintro e w0 ⟨rfl, rfl⟩)
    go_wp2
    go_ret
    exact ⟨by rw [HV.out]; rfl, rfl⟩
  · have HV := Lib.hid (twoS_minus (.inr h : n % 8 = 3 ∨ n % 8 = 5))
    go_enter Try.func77, Try.ntmps77
    go_wp2_with fail
    ((with_reducible refine (nuMod_any _ _ _ (by omega) (by omega) (by omega) (by omega)).mono ?_); rintro e w0 ⟨rfl, rfl⟩)
    go_wp2
    go_ret
    exact ⟨by rw [HV.out]; rfl, rfl⟩
  · have HV := Lib.hid (twoS_zero h)
    have t1 : (n % 8 == 1) = false := by rw [beq_eq_false_iff_ne]; omega
    have t2 : (n % 8 == 7) = false := by rw [beq_eq_false_iff_ne]; omega
    have t3 : (n % 8 == 3) = false := by rw [beq_eq_false_iff_ne]; omega
    have t4 : (n % 8 == 5) = false := by rw [beq_eq_false_iff_ne]; omega
    clear h
    go_enter Try.func77, Try.ntmps77
    go_wp2_with fail
    ((with_reducible refine (nuMod_any _ _ _ (by omega) (by omega) (by omega) (by omega)).mono ?_); rintro e w0 ⟨rfl, rfl⟩)
    go_wp2
    go_ret
    exact ⟨by rw [HV.out]; rfl, rfl⟩

theorem jqadd {P : Program} {f : FuncId} {args : Array Value} {w : World} {a n : Nat} {v : Value}
    (h : Calls P f args (w.drewN (a + n)) fun e w' => e = .returned v ∧ w.drewN (a + n) = w') : Calls P f args (w.drewN (a + n)) fun e w'' => e = .returned v ∧ ∃ m, w'' = w.drewN (a + m) :=
  h.mono fun _ _ ⟨he, hm⟩ => ⟨he, n, hm.symm⟩
theorem jqone {P : Program} {f : FuncId} {args : Array Value} {w : World} {n : Nat} {v : Value}
    (h : Calls P f args (w.drewN n) fun e w' => e = .returned v ∧ w.drewN n = w') : Calls P f args (w.drewN n) fun e w'' => e = .returned v ∧ ∃ m, w'' = w.drewN m :=
  h.mono fun _ _ ⟨he, hm⟩ => ⟨he, n, hm.symm⟩
abbrev stepV (T B S : Int) : Value := .agg #[.int .i64 T, .int .i64 B, .int .i64 S]
def endB (T : Int) : Bool := decide (T = 0 ∨ T = 1)
def sucT (T B : Int) : Int := if 0 ≤ T ∧ T ≤ B - 1 then (if T % 2 = 0 then T / 2 else B) else T % B
def sucB (T B : Int) : Int := if (0 ≤ T ∧ T ≤ B - 1) ∧ T % 2 = 1 then T else B
def sucS (T B S : Int) : Int := if 0 ≤ T ∧ T ≤ B - 1 then (if T % 2 = 0 then S * twoS B else if T % 4 = 3 ∧ B % 4 = 3 then -S else S) else S
theorem suc_out {T B : Int} (S : Int) (h : ¬ (0 ≤ T ∧ T ≤ B - 1)) : sucT T B = T % B ∧ sucB T B = B ∧ sucS T B S = S := by
  unfold sucT sucB sucS
  simp only [if_neg h, if_neg (show ¬ ((0 ≤ T ∧ T ≤ B - 1) ∧ T % 2 = 1) from fun h' => h h'.1), and_self]
theorem suc_even {T B : Int} (S : Int) (h : 0 ≤ T ∧ T ≤ B - 1) (he : T % 2 = 0) : sucT T B = T / 2 ∧ sucB T B = B ∧ sucS T B S = S * twoS B := by
  unfold sucT sucB sucS
  simp only [if_pos h, if_pos he, if_neg (show ¬ ((0 ≤ T ∧ T ≤ B - 1) ∧ T % 2 = 1) by omega), and_self]
theorem suc_odd {T B : Int} (S : Int) (h : 0 ≤ T ∧ T ≤ B - 1) (he : T % 2 = 1) : sucT T B = B ∧ sucB T B = T ∧ sucS T B S = if T % 4 = 3 ∧ B % 4 = 3 then -S else S := by
  unfold sucT sucB sucS
  simp only [if_pos h, if_neg (show ¬ T % 2 = 0 by omega), if_pos (show (0 ≤ T ∧ T ≤ B - 1) ∧ T % 2 = 1 from ⟨h, he⟩), and_self]

theorem syEnd_any (T B S : Int) (w : World) : Calls Try.prog 42 #[stepV T B S] w fun e w' => e = .returned (.bool (endB T)) ∧ Below w.heap.size w w' := by
  by_cases h : T = 0
  · subst h
    go_enter Try.func42, Try.ntmps42
    go_wp2
    go_ret
    exact ⟨rfl, (by repeat' (first | (with_reducible exact Below.refl _ _) | (with_reducible assumption) | (with_reducible refine Below.alloc ?_ ?_ _) | (with_reducible refine Below.drew ?_) | (with_reducible refine below_drewN ?_ _) | (with_reducible refine Below.setCell ?_ ?_ _) | go_size))⟩
  · by_cases h1 : T = 1
    · subst h1
      go_enter Try.func42, Try.ntmps42
      go_wp2
      go_ret
      exact ⟨rfl, (by repeat' (first | (with_reducible exact Below.refl _ _) | (with_reducible assumption) | (with_reducible refine Below.alloc ?_ ?_ _) | (with_reducible refine Below.drew ?_) | (with_reducible refine below_drewN ?_ _) | (with_reducible refine Below.setCell ?_ ?_ _) | go_size))⟩
    · have HV := Lib.hid (show endB T = false by simp [endB, h, h1])
      have t1 : (T == 0) = false := by rw [beq_eq_false_iff_ne]; exact h
      have t2 : (T == 1) = false := by rw [beq_eq_false_iff_ne]; exact h1
      clear h h1
      go_enter Try.func42, Try.ntmps42
      go_wp2
      go_ret
      exact ⟨by rw [HV.out]; try rfl, (by repeat' (first | (with_reducible exact Below.refl _ _) | (with_reducible assumption) | (with_reducible refine Below.alloc ?_ ?_ _) | (with_reducible refine Below.drew ?_) | (with_reducible refine below_drewN ?_ _) | (with_reducible refine Below.setCell ?_ ?_ _) | go_size))⟩
set_option maxHeartbeats 1600000 in
theorem sySuc_any (T B S : Int) (w : World) (t1 : -1000000 ≤ T) (t2 : T ≤ 1000000) (b1 : 1 ≤ B) (b2 : B ≤ 1000000) (s1 : -1 ≤ S) (s2 : S ≤ 1) :
    Calls Try.prog 43 #[stepV T B S] w fun e w' => e = .returned (stepV (sucT T B) (sucB T B) (sucS T B S)) ∧ Below w.heap.size w w' := by
  have r1 := Int.emod_nonneg T (show B ≠ 0 by omega)
  have r2 := Int.emod_lt_of_pos T (show 0 < B by omega)
  have pb := twoS_bd B
  have sp : -1 ≤ S * twoS B ∧ S * twoS B ≤ 1 := by
    have : S = -1 ∨ S = 0 ∨ S = 1 := by omega
    rcases this with rfl | rfl | rfl <;> omega
  by_cases hin : 0 ≤ T ∧ T ≤ B - 1
  · have hI : inB 0 (B - 1) T = true := inB_iff.2 hin
    by_cases he : T % 2 = 0
    · have HV := Lib.hid (suc_even S hin he)
      go_enter Try.func43, Try.ntmps43
      go_wp2_with fail
      ((with_reducible refine (l1In_any _ _ _ _).mono ?_); rintro e w0 ⟨rfl, rfl⟩)
      go_wp2_with fail
      go_region_with ((go_at_call 77; refine (syTwo_any _ _ (by omega) (by omega)).mono ?_; rintro e w0 ⟨rfl, rfl⟩))
      all_goals
        go_wp2
        go_returns
        exact ⟨by rw [HV.out.1, HV.out.2.1, HV.out.2.2]; try rfl, (by repeat' (first | (with_reducible exact Below.refl _ _) | (with_reducible assumption) | (with_reducible refine Below.alloc ?_ ?_ _) | (with_reducible refine Below.drew ?_) | (with_reducible refine below_drewN ?_ _) | (with_reducible refine Below.setCell ?_ ?_ _) | go_size))⟩
    · have ho : T % 2 = 1 := by omega
      clear he
      by_cases hf : T % 4 = 3 ∧ B % 4 = 3
      · have HV := Lib.hid (suc_odd S hin ho)
        have HF := Lib.hid hf
        obtain ⟨f1, f2⟩ := hf
        go_enter Try.func43, Try.ntmps43
        go_wp2_with fail
        ((with_reducible refine (l1In_any _ _ _ _).mono ?_); rintro e w0 ⟨rfl, rfl⟩)
        go_wp2
        go_returns
        exact ⟨by rw [HV.out.1, HV.out.2.1, HV.out.2.2, if_pos HF.out]; try rfl, (by repeat' (first | (with_reducible exact Below.refl _ _) | (with_reducible assumption) | (with_reducible refine Below.alloc ?_ ?_ _) | (with_reducible refine Below.drew ?_) | (with_reducible refine below_drewN ?_ _) | (with_reducible refine Below.setCell ?_ ?_ _) | go_size))⟩
      · have HV := Lib.hid (suc_odd S hin ho)
        have HF := Lib.hid hf
        by_cases f1 : T % 4 = 3
        · have f2 : (B % 4 == 3) = false := by rw [beq_eq_false_iff_ne]; exact fun h => hf ⟨f1, h⟩
          clear hf
          go_enter Try.func43, Try.ntmps43
          go_wp2_with fail
          ((with_reducible refine (l1In_any _ _ _ _).mono ?_); rintro e w0 ⟨rfl, rfl⟩)
          go_wp2
          go_returns
          exact ⟨by rw [HV.out.1, HV.out.2.1, HV.out.2.2, if_neg HF.out]; try rfl, (by repeat' (first | (with_reducible exact Below.refl _ _) | (with_reducible assumption) | (with_reducible refine Below.alloc ?_ ?_ _) | (with_reducible refine Below.drew ?_) | (with_reducible refine below_drewN ?_ _) | (with_reducible refine Below.setCell ?_ ?_ _) | go_size))⟩
        · have f2 : (T % 4 == 3) = false := by rw [beq_eq_false_iff_ne]; exact f1
          clear hf f1
          go_enter Try.func43, Try.ntmps43
          go_wp2_with fail
          ((with_reducible refine (l1In_any _ _ _ _).mono ?_); rintro e w0 ⟨rfl, rfl⟩)
          go_wp2
          go_returns
          exact ⟨by rw [HV.out.1, HV.out.2.1, HV.out.2.2, if_neg HF.out]; try rfl, (by repeat' (first | (with_reducible exact Below.refl _ _) | (with_reducible assumption) | (with_reducible refine Below.alloc ?_ ?_ _) | (with_reducible refine Below.drew ?_) | (with_reducible refine below_drewN ?_ _) | (with_reducible refine Below.setCell ?_ ?_ _) | go_size))⟩
  · have hI : inB 0 (B - 1) T = false := by rw [inB_bad]; omega
    have HV := Lib.hid (suc_out S hin)
    clear hin
    go_enter Try.func43, Try.ntmps43
    go_wp2_with fail
    ((with_reducible refine (l1In_any _ _ _ _).mono ?_); rintro e w0 ⟨rfl, rfl⟩)
    go_wp2_with fail
    ((with_reducible refine (nuMod_any _ _ _ (by omega) (by omega) (by omega) (by omega)).mono ?_); rintro e w0 ⟨rfl, rfl⟩)
    go_wp2
    go_returns
    exact ⟨by rw [HV.out.1, HV.out.2.1, HV.out.2.2]; try rfl, (by repeat' (first | (with_reducible exact Below.refl _ _) | (with_reducible assumption) | (with_reducible refine Below.alloc ?_ ?_ _) | (with_reducible refine Below.drew ?_) | (with_reducible refine below_drewN ?_ _) | (with_reducible refine Below.setCell ?_ ?_ _) | go_size))⟩
end Go.Proofs.Ytfpedehpmgcmnaa
