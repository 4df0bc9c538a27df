/-
  Contracts of 'IsPrime', 'GreatestDivisor', 'SquareRoot' and their laws' walks.
-/
import Derived.Test.YtfpedehpmgcmnaaPr
import Derived.Test.YtfpedehpmgcmnaaRoot
import Derived.Test.YtfpedehpmgcmnaaPow
import Derived.Test.YtfpedehpmgcmnaaForm
import Derived.Test.YtfpedehpmgcmnaaFrame
namespace Go.Proofs.Ytfpedehpmgcmnaa
open Go.RowKit
set_option linter.unusedSimpArgs false
set_option linter.unusedVariables false

def oddP (n : Int) : Bool := (good n && primeB n) && decide (n ≠ 2)
theorem oddP_iff {n : Int} : oddP n = true ↔ good n = true ∧ primeB n = true ∧ n ≠ 2 := by simp [oddP, and_assoc]

def v2 (a b : Int) : Bool := good a && good b

def vSR (n : Int) : Bool := decide (0 ≤ n) && good n


theorem implIsPrime_any (n : Int) (w : World) : Calls Try.prog 29 #[.int .i64 n] w fun e w' =>
    e = .returned (.bool (good n && primeB n)) ∧ Below w.heap.size w w' := by
  rcases h0 : good n with _ | _
  · go_enter Try.func29, Try.ntmps29
    go_wp2_with fail
    ((with_reducible refine (are1 n _ _ (by simp)).mono ?_); rintro e w0 ⟨rfl, rfl⟩)
    go_wp2
    go_ret
    first | exact ⟨rfl, (by repeat' (first | (with_reducible exact Below.refl _ _) | (with_reducible assumption) | (with_reducible refine Below.alloc ?_ ?_ _) | (with_reducible refine Below.drew ?_) | (with_reducible refine below_drewN ?_ _) | (with_reducible refine Below.setCell ?_ ?_ _) | go_size))⟩ | exact ⟨by simp [*], (by repeat' (first | (with_reducible exact Below.refl _ _) | (with_reducible assumption) | (with_reducible refine Below.alloc ?_ ?_ _) | (with_reducible refine Below.drew ?_) | (with_reducible refine below_drewN ?_ _) | (with_reducible refine Below.setCell ?_ ?_ _) | go_size))⟩
  · go_enter Try.func29, Try.ntmps29
    go_wp2_with fail
    ((with_reducible refine (are1 n _ _ (by simp)).mono ?_); rintro e w0 ⟨rfl, rfl⟩)
    go_wp2_with fail
    ((with_reducible refine (isPrime_any _ _ (good_hi h0) (by have := good_lo h0; omega)).mono ?_); rintro e w0 ⟨rfl, rfl⟩)
    go_wp2
    go_ret
    first | exact ⟨rfl, (by repeat' (first | (with_reducible exact Below.refl _ _) | (with_reducible assumption) | (with_reducible refine Below.alloc ?_ ?_ _) | (with_reducible refine Below.drew ?_) | (with_reducible refine below_drewN ?_ _) | (with_reducible refine Below.setCell ?_ ?_ _) | go_size))⟩ | exact ⟨by simp [*], (by repeat' (first | (with_reducible exact Below.refl _ _) | (with_reducible assumption) | (with_reducible refine Below.alloc ?_ ?_ _) | (with_reducible refine Below.drew ?_) | (with_reducible refine below_drewN ?_ _) | (with_reducible refine Below.setCell ?_ ?_ _) | go_size))⟩



theorem implGD_any (a b : Int) (w : World) : Calls Try.prog 35 #[.int .i64 a, .int .i64 b] w fun e w' =>
    e = .returned (.tuple #[.int .i64 (oFor (v2 a b) (Int.gcd a b)), .bool (v2 a b)]) ∧ Below w.heap.size w w' := by
  rcases h0 : good a with _ | _
  · rw [show v2 a b = false from by simp [v2, *] <;> omega]
    try simp only [oFor_false]
    go_enter Try.func35, Try.ntmps35
    go_wp2_with fail
    ((with_reducible refine (are2 a b _ _ (by simp) (by simp)).mono ?_); rintro e w0 ⟨rfl, rfl⟩)
    go_wp2
    go_ret2
    first | exact ⟨rfl, (by repeat' (first | (with_reducible exact Below.refl _ _) | (with_reducible assumption) | (with_reducible refine Below.alloc ?_ ?_ _) | (with_reducible refine Below.drew ?_) | (with_reducible refine below_drewN ?_ _) | (with_reducible refine Below.setCell ?_ ?_ _) | go_size))⟩ | exact ⟨by simp [*], (by repeat' (first | (with_reducible exact Below.refl _ _) | (with_reducible assumption) | (with_reducible refine Below.alloc ?_ ?_ _) | (with_reducible refine Below.drew ?_) | (with_reducible refine below_drewN ?_ _) | (with_reducible refine Below.setCell ?_ ?_ _) | go_size))⟩
  · rcases h1 : good b with _ | _
    · rw [show v2 a b = false from by simp [v2, *] <;> omega]
      try simp only [oFor_false]
      go_enter Try.func35, Try.ntmps35
      go_wp2_with fail
      ((with_reducible refine (are2 a b _ _ (by simp) (by simp)).mono ?_); rintro e w0 ⟨rfl, rfl⟩)
      go_wp2
      go_ret2
      first | exact ⟨rfl, (by repeat' (first | (with_reducible exact Below.refl _ _) | (with_reducible assumption) | (with_reducible refine Below.alloc ?_ ?_ _) | (with_reducible refine Below.drew ?_) | (with_reducible refine below_drewN ?_ _) | (with_reducible refine Below.setCell ?_ ?_ _) | go_size))⟩ | exact ⟨by simp [*], (by repeat' (first | (with_reducible exact Below.refl _ _) | (with_reducible assumption) | (with_reducible refine Below.alloc ?_ ?_ _) | (with_reducible refine Below.drew ?_) | (with_reducible refine below_drewN ?_ _) | (with_reducible refine Below.setCell ?_ ?_ _) | go_size))⟩
    · rw [show v2 a b = true from by simp [v2, *] <;> omega]
      try simp only [oFor_true]
      go_enter Try.func35, Try.ntmps35
      go_wp2_with fail
      ((with_reducible refine (are2 a b _ _ (by simp) (by simp)).mono ?_); rintro e w0 ⟨rfl, rfl⟩)
      have g0 := good_iff.1 h0; have g1 := good_iff.1 h1
      go_wp2_with fail
      ((with_reducible refine (gcd_any _ _ _ (by omega) (by omega) (by omega) (by omega)).mono ?_); rintro e w0 ⟨rfl, d1, rfl⟩)
      go_wp2
      go_ret2
      first | exact ⟨rfl, (by repeat' (first | (with_reducible exact Below.refl _ _) | (with_reducible assumption) | (with_reducible refine Below.alloc ?_ ?_ _) | (with_reducible refine Below.drew ?_) | (with_reducible refine below_drewN ?_ _) | (with_reducible refine Below.setCell ?_ ?_ _) | go_size))⟩ | exact ⟨by simp [*], (by repeat' (first | (with_reducible exact Below.refl _ _) | (with_reducible assumption) | (with_reducible refine Below.alloc ?_ ?_ _) | (with_reducible refine Below.drew ?_) | (with_reducible refine below_drewN ?_ _) | (with_reducible refine Below.setCell ?_ ?_ _) | go_size))⟩





end Go.Proofs.Ytfpedehpmgcmnaa
