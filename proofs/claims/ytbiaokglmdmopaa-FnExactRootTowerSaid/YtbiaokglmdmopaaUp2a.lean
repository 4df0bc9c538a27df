/-
  Contracts of 'IsPrime', 'GreatestDivisor', 'SquareRoot' and their laws' walks.
-/
import Derived.Test.YtbiaokglmdmopaaPr
import Derived.Test.YtbiaokglmdmopaaRoot
import Derived.Test.YtbiaokglmdmopaaPow
import Derived.Test.YtbiaokglmdmopaaForm
import Derived.Test.YtbiaokglmdmopaaFrame
namespace Go.Proofs.Ytbiaokglmdmopaa
open Go.RowKit
set_option linter.unusedSimpArgs false
set_option linter.unusedVariables false

def oddP (n : Int) : Bool := (good n && primeB n) && decide (n ≠ 2)
theorem oddP_iff {n : Int} : oddP n = true ↔ good n = true ∧ primeB n = true ∧ n ≠ 2 := by simp [oddP, and_assoc]

def v2 (a b : Int) : Bool := good a && good b

def vSR (n : Int) : Bool := decide (0 ≤ n) && good n


theorem implIsPrime_any (n : Int) (w : World) : Calls Try.prog 49 #[.int .i64 n] w fun e w' =>
    e = .returned (.bool (good n && primeB n)) ∧ Below w.heap.size w w' := by
  rcases h0 : good n with _ | _
  · go_enter Try.func49, Try.ntmps49
    go_wp2_with fail
    ((with_reducible refine (are1 n _ _ (by simp)).mono ?_); rintro e w0 ⟨rfl, rfl⟩)
    go_wp2
    go_ret
    first | exact ⟨rfl, (by repeat' (first | (with_reducible exact Below.refl _ _) | (with_reducible assumption) | (with_reducible refine Below.alloc ?_ ?_ _) | (with_reducible refine Below.drew ?_) | (with_reducible refine below_drewN ?_ _) | (with_reducible refine Below.setCell ?_ ?_ _) | go_size))⟩ | exact ⟨by simp [*], (by repeat' (first | (with_reducible exact Below.refl _ _) | (with_reducible assumption) | (with_reducible refine Below.alloc ?_ ?_ _) | (with_reducible refine Below.drew ?_) | (with_reducible refine below_drewN ?_ _) | (with_reducible refine Below.setCell ?_ ?_ _) | go_size))⟩
  · go_enter Try.func49, Try.ntmps49
    go_wp2_with fail
    ((with_reducible refine (are1 n _ _ (by simp)).mono ?_); rintro e w0 ⟨rfl, rfl⟩)
    go_wp2_with fail
    ((with_reducible refine (isPrime_any _ _ (good_hi h0) (by have := good_lo h0; omega)).mono ?_); rintro e w0 ⟨rfl, rfl⟩)
    go_wp2
    go_ret
    first | exact ⟨rfl, (by repeat' (first | (with_reducible exact Below.refl _ _) | (with_reducible assumption) | (with_reducible refine Below.alloc ?_ ?_ _) | (with_reducible refine Below.drew ?_) | (with_reducible refine below_drewN ?_ _) | (with_reducible refine Below.setCell ?_ ?_ _) | go_size))⟩ | exact ⟨by simp [*], (by repeat' (first | (with_reducible exact Below.refl _ _) | (with_reducible assumption) | (with_reducible refine Below.alloc ?_ ?_ _) | (with_reducible refine Below.drew ?_) | (with_reducible refine below_drewN ?_ _) | (with_reducible refine Below.setCell ?_ ?_ _) | go_size))⟩

theorem syOddPrime_any (n : Int) (w : World) (i1 : In64 n) : Calls Try.prog 69 #[.int .i64 n] w fun e w' => e = .returned (.bool (oddP n)) ∧ Below w.heap.size w w' := by
  by_cases h1 : 2 < n
  · rcases h2 : good n with _ | _
    · have hv : oddP n = false := by simp [oddP, h2]
      go_enter Try.func69, Try.ntmps69
      go_wp2_with fail
      ((with_reducible refine (nuGood_any n _).mono ?_); rintro e w0 ⟨rfl, rfl⟩)
      go_wp2
      go_ret
      first | exact ⟨rfl, (by repeat' (first | (with_reducible exact Below.refl _ _) | (with_reducible assumption) | (with_reducible refine Below.alloc ?_ ?_ _) | (with_reducible refine Below.drew ?_) | (with_reducible refine below_drewN ?_ _) | (with_reducible refine Below.setCell ?_ ?_ _) | go_size))⟩ | exact ⟨by rw [hv]; rfl, (by repeat' (first | (with_reducible exact Below.refl _ _) | (with_reducible assumption) | (with_reducible refine Below.alloc ?_ ?_ _) | (with_reducible refine Below.drew ?_) | (with_reducible refine below_drewN ?_ _) | (with_reducible refine Below.setCell ?_ ?_ _) | go_size))⟩
    · have hv : oddP n = primeB n := by simp [oddP, h2]; omega
      rw [hv]
      clear hv
      go_enter Try.func69, Try.ntmps69
      go_wp2_with fail
      ((with_reducible refine (nuGood_any n _).mono ?_); rintro e w0 ⟨rfl, rfl⟩)
      go_wp2_with fail
      ((with_reducible refine (nuPrime_any _ _ (good_hi h2) (by have := good_lo h2; omega)).mono ?_); rintro e w0 ⟨rfl, rfl⟩)
      go_wp2
      go_ret
      exact ⟨rfl, (by repeat' (first | (with_reducible exact Below.refl _ _) | (with_reducible assumption) | (with_reducible refine Below.alloc ?_ ?_ _) | (with_reducible refine Below.drew ?_) | (with_reducible refine below_drewN ?_ _) | (with_reducible refine Below.setCell ?_ ?_ _) | go_size))⟩
  · have hv : oddP n = false := by
      rcases hp : primeB n with _ | _
      · simp [oddP, hp]
      · have := (primeB_iff.1 hp).1
        simp [oddP]
        omega
    go_enter Try.func69, Try.ntmps69
    go_wp2
    go_ret
    first | exact ⟨rfl, (by repeat' (first | (with_reducible exact Below.refl _ _) | (with_reducible assumption) | (with_reducible refine Below.alloc ?_ ?_ _) | (with_reducible refine Below.drew ?_) | (with_reducible refine below_drewN ?_ _) | (with_reducible refine Below.setCell ?_ ?_ _) | go_size))⟩ | exact ⟨by rw [hv]; rfl, (by repeat' (first | (with_reducible exact Below.refl _ _) | (with_reducible assumption) | (with_reducible refine Below.alloc ?_ ?_ _) | (with_reducible refine Below.drew ?_) | (with_reducible refine below_drewN ?_ _) | (with_reducible refine Below.setCell ?_ ?_ _) | go_size))⟩
theorem isOddPrime_any (n : Int) (w : World) : Calls Try.prog 63 #[.int .i64 n] w fun e w' => e = .returned (.bool (oddP n)) ∧ Below w.heap.size w w' := by
  by_cases h1 : n = 2
  · have hv : oddP n = false := by simp [oddP, h1]
    have HV := Lib.hid hv
    clear hv
    have ht : (n != 2) = false := by simp [h1]
    clear h1
    go_enter Try.func63, Try.ntmps63
    go_wp2
    go_ret
    exact ⟨by rw [HV.out]; rfl, (by repeat' (first | (with_reducible exact Below.refl _ _) | (with_reducible assumption) | (with_reducible refine Below.alloc ?_ ?_ _) | (with_reducible refine Below.drew ?_) | (with_reducible refine below_drewN ?_ _) | (with_reducible refine Below.setCell ?_ ?_ _) | go_size))⟩
  · have hv : oddP n = (good n && primeB n) := by simp [oddP, h1]
    have ht : (n != 2) = true := by simp [h1]
    rw [hv]
    clear hv
    go_enter Try.func63, Try.ntmps63
    go_wp2_with fail
    ((with_reducible refine (implIsPrime_any _ _).mono ?_); rintro e w1 ⟨rfl, hb1⟩)
    obtain ⟨hc1, hf1⟩ := bcell hb1
    have hz1 := hb1.size
    try simp only [World.size_alloc, World.size_drew, World.size_setCell] at hz1
    try have hs1 : w.heap.size < w1.heap.size := by omega
    have bl1 : Below w.heap.size w w1 := Below.trans (by go_grown) (hb1.mono (by go_size))
    go_wp2
    go_ret
    exact ⟨rfl, bl1⟩







end Go.Proofs.Ytbiaokglmdmopaa
