/-
  Contracts: odd moduli.
-/
import Derived.Test.YtfpedehpmgcmnaaIn
import Derived.Test.YtfpedehpmgcmnaaForm
import Derived.Test.YtfpedehpmgcmnaaFrame
namespace Go.Proofs.Ytfpedehpmgcmnaa
open Go.RowKit
set_option linter.unusedSimpArgs false
set_option linter.unusedVariables false

def oddM (n : Int) : Bool := (decide (1 ≤ n) && good n) && decide (n % 2 = 1)
theorem oddM_iff {n : Int} : oddM n = true ↔ 1 ≤ n ∧ n ≤ 1000000 ∧ n % 2 = 1 := by
  simp only [oddM, Bool.and_eq_true, decide_eq_true_eq, good_iff]
  omega
theorem oddM_lo {n : Int} (h : ¬ 1 ≤ n) : oddM n = false := by simp [oddM, h]
theorem oddM_bad {n : Int} (h : good n = false) : oddM n = false := by simp [oddM, h]
theorem oddM_even {n : Int} (h : ¬ n % 2 = 1) : oddM n = false := by simp [oddM, h]
theorem jac_int {a n : Int} {w : World} (h : oddM n = true) (ha : good a = true) : (-1000000 ≤ a ∧ a ≤ 1000000) ∧ (1 ≤ n.toNat ∧ n.toNat ≤ 1000000 ∧ n.toNat % 2 = 1) ∧ ((n.toNat : Nat) : Int) = n := by
  have h1 := oddM_iff.1 h
  have h2 := good_iff.1 ha
  omega

theorem syOdd_any (n : Int) (w : World) (i1 : In64 n) : Calls Try.prog 40 #[.int .i64 n] w fun e w' => e = .returned (.bool (oddM n)) ∧ Below w.heap.size w w' := by
  rcases hg : good n with _ | _
  · by_cases h1 : 1 ≤ n
    · have HV := Lib.hid (oddM_bad hg)
      go_enter Try.func40, Try.ntmps40
      go_wp2_with fail
      ((with_reducible refine (nuGood_any n _).mono ?_); rintro e w0 ⟨rfl, rfl⟩)
      go_wp2
      go_ret
      first | exact ⟨rfl, (by repeat' (first | (with_reducible exact Below.refl _ _) | (with_reducible assumption) | (with_reducible refine Below.alloc ?_ ?_ _) | (with_reducible refine Below.drew ?_) | (with_reducible refine below_drewN ?_ _) | (with_reducible refine Below.setCell ?_ ?_ _) | go_size))⟩ | exact ⟨by rw [HV.out]; try rfl, (by repeat' (first | (with_reducible exact Below.refl _ _) | (with_reducible assumption) | (with_reducible refine Below.alloc ?_ ?_ _) | (with_reducible refine Below.drew ?_) | (with_reducible refine below_drewN ?_ _) | (with_reducible refine Below.setCell ?_ ?_ _) | go_size))⟩
    · have HV := Lib.hid (oddM_bad hg)
      have h1' : n < 1 := by omega
      clear h1
      go_enter Try.func40, Try.ntmps40
      go_wp2
      go_ret
      first | exact ⟨rfl, (by repeat' (first | (with_reducible exact Below.refl _ _) | (with_reducible assumption) | (with_reducible refine Below.alloc ?_ ?_ _) | (with_reducible refine Below.drew ?_) | (with_reducible refine below_drewN ?_ _) | (with_reducible refine Below.setCell ?_ ?_ _) | go_size))⟩ | exact ⟨by rw [HV.out]; try rfl, (by repeat' (first | (with_reducible exact Below.refl _ _) | (with_reducible assumption) | (with_reducible refine Below.alloc ?_ ?_ _) | (with_reducible refine Below.drew ?_) | (with_reducible refine below_drewN ?_ _) | (with_reducible refine Below.setCell ?_ ?_ _) | go_size))⟩
  · by_cases h1 : 1 ≤ n
    · have hb := good_iff.1 hg
      by_cases h2 : n % 2 = 1
      · have HV := Lib.hid (oddM_iff.2 ⟨h1, hb.2, h2⟩)
        go_enter Try.func40, Try.ntmps40
        go_wp2_with fail
        ((with_reducible refine (nuGood_any n _).mono ?_); rintro e w0 ⟨rfl, rfl⟩)
        go_wp2
        go_ret
        first | exact ⟨rfl, (by repeat' (first | (with_reducible exact Below.refl _ _) | (with_reducible assumption) | (with_reducible refine Below.alloc ?_ ?_ _) | (with_reducible refine Below.drew ?_) | (with_reducible refine below_drewN ?_ _) | (with_reducible refine Below.setCell ?_ ?_ _) | go_size))⟩ | exact ⟨by rw [HV.out]; try rfl, (by repeat' (first | (with_reducible exact Below.refl _ _) | (with_reducible assumption) | (with_reducible refine Below.alloc ?_ ?_ _) | (with_reducible refine Below.drew ?_) | (with_reducible refine below_drewN ?_ _) | (with_reducible refine Below.setCell ?_ ?_ _) | go_size))⟩
      · have HV := Lib.hid (oddM_even h2)
        have h2' : n % 2 = 0 := by omega
        clear h2
        go_enter Try.func40, Try.ntmps40
        go_wp2_with fail
        ((with_reducible refine (nuGood_any n _).mono ?_); rintro e w0 ⟨rfl, rfl⟩)
        go_wp2
        go_ret
        first | exact ⟨rfl, (by repeat' (first | (with_reducible exact Below.refl _ _) | (with_reducible assumption) | (with_reducible refine Below.alloc ?_ ?_ _) | (with_reducible refine Below.drew ?_) | (with_reducible refine below_drewN ?_ _) | (with_reducible refine Below.setCell ?_ ?_ _) | go_size))⟩ | exact ⟨by rw [HV.out]; try rfl, (by repeat' (first | (with_reducible exact Below.refl _ _) | (with_reducible assumption) | (with_reducible refine Below.alloc ?_ ?_ _) | (with_reducible refine Below.drew ?_) | (with_reducible refine below_drewN ?_ _) | (with_reducible refine Below.setCell ?_ ?_ _) | go_size))⟩
    · have HV := Lib.hid (oddM_lo h1)
      have h1' : n < 1 := by omega
      clear h1
      go_enter Try.func40, Try.ntmps40
      go_wp2
      go_ret
      first | exact ⟨rfl, (by repeat' (first | (with_reducible exact Below.refl _ _) | (with_reducible assumption) | (with_reducible refine Below.alloc ?_ ?_ _) | (with_reducible refine Below.drew ?_) | (with_reducible refine below_drewN ?_ _) | (with_reducible refine Below.setCell ?_ ?_ _) | go_size))⟩ | exact ⟨by rw [HV.out]; try rfl, (by repeat' (first | (with_reducible exact Below.refl _ _) | (with_reducible assumption) | (with_reducible refine Below.alloc ?_ ?_ _) | (with_reducible refine Below.drew ?_) | (with_reducible refine below_drewN ?_ _) | (with_reducible refine Below.setCell ?_ ?_ _) | go_size))⟩

theorem isOddModulus_any (n : Int) (w : World) (i1 : In64 n) : Calls Try.prog 45 #[.int .i64 n] w fun e w' => e = .returned (.bool (oddM n)) ∧ Below w.heap.size w w' := by
  rcases hg : good n with _ | _
  · by_cases h1 : 1 ≤ n
    · have HV := Lib.hid (oddM_bad hg)
      go_enter Try.func45, Try.ntmps45
      go_wp2_with fail
      ((with_reducible refine (are1 n _ _ (by simp)).mono ?_); rintro e w0 ⟨rfl, rfl⟩)
      go_wp2
      go_ret
      first | exact ⟨rfl, (by repeat' (first | (with_reducible exact Below.refl _ _) | (with_reducible assumption) | (with_reducible refine Below.alloc ?_ ?_ _) | (with_reducible refine Below.drew ?_) | (with_reducible refine below_drewN ?_ _) | (with_reducible refine Below.setCell ?_ ?_ _) | go_size))⟩ | exact ⟨by rw [HV.out]; try rfl, (by repeat' (first | (with_reducible exact Below.refl _ _) | (with_reducible assumption) | (with_reducible refine Below.alloc ?_ ?_ _) | (with_reducible refine Below.drew ?_) | (with_reducible refine below_drewN ?_ _) | (with_reducible refine Below.setCell ?_ ?_ _) | go_size))⟩
    · have HV := Lib.hid (oddM_bad hg)
      have h1' : n < 1 := by omega
      clear h1
      go_enter Try.func45, Try.ntmps45
      go_wp2_with fail
      ((with_reducible refine (are1 n _ _ (by simp)).mono ?_); rintro e w0 ⟨rfl, rfl⟩)
      go_wp2
      go_ret
      first | exact ⟨rfl, (by repeat' (first | (with_reducible exact Below.refl _ _) | (with_reducible assumption) | (with_reducible refine Below.alloc ?_ ?_ _) | (with_reducible refine Below.drew ?_) | (with_reducible refine below_drewN ?_ _) | (with_reducible refine Below.setCell ?_ ?_ _) | go_size))⟩ | exact ⟨by rw [HV.out]; try rfl, (by repeat' (first | (with_reducible exact Below.refl _ _) | (with_reducible assumption) | (with_reducible refine Below.alloc ?_ ?_ _) | (with_reducible refine Below.drew ?_) | (with_reducible refine below_drewN ?_ _) | (with_reducible refine Below.setCell ?_ ?_ _) | go_size))⟩
  · by_cases h1 : 1 ≤ n
    · have hb := good_iff.1 hg
      by_cases h2 : n % 2 = 1
      · have HV := Lib.hid (oddM_iff.2 ⟨h1, hb.2, h2⟩)
        go_enter Try.func45, Try.ntmps45
        go_wp2_with fail
        ((with_reducible refine (are1 n _ _ (by simp)).mono ?_); rintro e w0 ⟨rfl, rfl⟩)
        go_wp2
        go_ret
        first | exact ⟨rfl, (by repeat' (first | (with_reducible exact Below.refl _ _) | (with_reducible assumption) | (with_reducible refine Below.alloc ?_ ?_ _) | (with_reducible refine Below.drew ?_) | (with_reducible refine below_drewN ?_ _) | (with_reducible refine Below.setCell ?_ ?_ _) | go_size))⟩ | exact ⟨by rw [HV.out]; try rfl, (by repeat' (first | (with_reducible exact Below.refl _ _) | (with_reducible assumption) | (with_reducible refine Below.alloc ?_ ?_ _) | (with_reducible refine Below.drew ?_) | (with_reducible refine below_drewN ?_ _) | (with_reducible refine Below.setCell ?_ ?_ _) | go_size))⟩
      · have HV := Lib.hid (oddM_even h2)
        have h2' : n % 2 = 0 := by omega
        clear h2
        go_enter Try.func45, Try.ntmps45
        go_wp2_with fail
        ((with_reducible refine (are1 n _ _ (by simp)).mono ?_); rintro e w0 ⟨rfl, rfl⟩)
        go_wp2
        go_ret
        first | exact ⟨rfl, (by repeat' (first | (with_reducible exact Below.refl _ _) | (with_reducible assumption) | (with_reducible refine Below.alloc ?_ ?_ _) | (with_reducible refine Below.drew ?_) | (with_reducible refine below_drewN ?_ _) | (with_reducible refine Below.setCell ?_ ?_ _) | go_size))⟩ | exact ⟨by rw [HV.out]; try rfl, (by repeat' (first | (with_reducible exact Below.refl _ _) | (with_reducible assumption) | (with_reducible refine Below.alloc ?_ ?_ _) | (with_reducible refine Below.drew ?_) | (with_reducible refine below_drewN ?_ _) | (with_reducible refine Below.setCell ?_ ?_ _) | go_size))⟩
    · have HV := Lib.hid (oddM_lo h1)
      have h1' : n < 1 := by omega
      clear h1
      go_enter Try.func45, Try.ntmps45
      go_wp2_with fail
      ((with_reducible refine (are1 n _ _ (by simp)).mono ?_); rintro e w0 ⟨rfl, rfl⟩)
      go_wp2
      go_ret
      first | exact ⟨rfl, (by repeat' (first | (with_reducible exact Below.refl _ _) | (with_reducible assumption) | (with_reducible refine Below.alloc ?_ ?_ _) | (with_reducible refine Below.drew ?_) | (with_reducible refine below_drewN ?_ _) | (with_reducible refine Below.setCell ?_ ?_ _) | go_size))⟩ | exact ⟨by rw [HV.out]; try rfl, (by repeat' (first | (with_reducible exact Below.refl _ _) | (with_reducible assumption) | (with_reducible refine Below.alloc ?_ ?_ _) | (with_reducible refine Below.drew ?_) | (with_reducible refine below_drewN ?_ _) | (with_reducible refine Below.setCell ?_ ?_ _) | go_size))⟩
end Go.Proofs.Ytfpedehpmgcmnaa
