/-
  Contracts of 'FloorDivide', 'SquareFreePart', 'PowerModulo', 'ExponentIn' and their laws' walks.
-/
import Derived.Test.YtfpedehpmgcmnaaUp2a
import Derived.Test.YtfpedehpmgcmnaaIn
import Derived.Test.YtfpedehpmgcmnaaExp
import Derived.Test.YtfpedehpmgcmnaaFree
namespace Go.Proofs.Ytfpedehpmgcmnaa
open Go.RowKit
set_option linter.unusedSimpArgs false
set_option linter.unusedVariables false

def vFD (a b : Int) : Bool := (good a && good b) && decide (b ≠ 0)
theorem fd_bd (a b : Int) (ha : good a = true) (hb : good b = true) (h0 : ¬ b = 0) : 0 ≤ a % (b.natAbs : Int) ∧ a % (b.natAbs : Int) < (b.natAbs : Int) ∧
    -2000000 ≤ (a - a % (b.natAbs : Int)).tdiv b ∧ (a - a % (b.natAbs : Int)).tdiv b ≤ 2000000 ∧ (1 : Int) ≤ (b.natAbs : Int) ∧ (b.natAbs : Int) ≤ 1000000 := by
  have g1 := good_iff.1 ha
  have g2 := good_iff.1 hb
  have r1 := Int.emod_nonneg a (show (b.natAbs : Int) ≠ 0 by omega)
  have r2 := Int.emod_lt_of_pos a (show 0 < (b.natAbs : Int) by omega)
  have q1 : ((a - a % (b.natAbs : Int)).tdiv b).natAbs = (a - a % (b.natAbs : Int)).natAbs / b.natAbs := Int.natAbs_tdiv _ _
  have q2 : (a - a % (b.natAbs : Int)).natAbs / b.natAbs ≤ (a - a % (b.natAbs : Int)).natAbs := Nat.div_le_self _ _
  omega

def vSF (n : Int) : Bool := good n && decide (n ≠ 0)

def vPM (a k m : Int) : Bool := (good a && inB 0 1000000 k) && inB 1 1000000 m

theorem vPM_bad {a k m : Int} (h : good a = false ∨ k < 0 ∨ 1000000 < k ∨ m < 1 ∨ 1000000 < m) : vPM a k m = false := by
  unfold vPM inB
  rcases h with h | h | h | h | h
  · simp [h]
  · simp; omega
  · simp; omega
  · simp; omega
  · simp; omega
theorem vPM_ok {a k m : Int} (h0 : good a = true) (h1 : 0 ≤ k) (h2 : k ≤ 1000000) (h3 : 1 ≤ m) (h4 : m ≤ 1000000) : vPM a k m = true := by simp [vPM, inB, *]
theorem good_cases {k : Int} (h : good k = false) : k < -1000000 ∨ 1000000 < k := bad_iff.1 h

def vEI (n p : Int) : Bool := (good n && decide (n ≠ 0)) && (good p && primeB p)
theorem vEI_bad {n p : Int} (h : good n = false ∨ n = 0 ∨ good p = false ∨ primeB p = false) : vEI n p = false := by
  unfold vEI
  rcases h with h | h | h | h <;> simp [h]
theorem vEI_ok {n p : Int} (h0 : good n = true) (h1 : ¬ n = 0) (h2 : good p = true) (h3 : primeB p = true) : vEI n p = true := by simp [vEI, *]


theorem implFD_any (a b : Int) (w : World) : Calls Try.prog 39 #[.int .i64 a, .int .i64 b] w fun e w' =>
    e = .returned (.tuple #[.int .i64 (oFor (vFD a b) ((a - a % (b.natAbs : Int)).tdiv b)), .int .i64 (oFor (vFD a b) (a % (b.natAbs : Int))), .bool (vFD a b)]) ∧ Below w.heap.size w w' := by
  rcases h0 : good a with _ | _
  · rw [show vFD a b = false from by simp [vFD, *] <;> omega]
    try simp only [oFor_false]
    go_enter Try.func39, Try.ntmps39
    go_wp2_with fail
    ((with_reducible refine (are2 a b _ _ (by simp) (by simp)).mono ?_); rintro e w0 ⟨rfl, rfl⟩)
    go_wp2
    go_ret3
    first | exact ⟨rfl, (by repeat' (first | (with_reducible exact Below.refl _ _) | (with_reducible assumption) | (with_reducible refine Below.alloc ?_ ?_ _) | (with_reducible refine Below.drew ?_) | (with_reducible refine below_drewN ?_ _) | (with_reducible refine Below.setCell ?_ ?_ _) | go_size))⟩ | exact ⟨by simp [*], (by repeat' (first | (with_reducible exact Below.refl _ _) | (with_reducible assumption) | (with_reducible refine Below.alloc ?_ ?_ _) | (with_reducible refine Below.drew ?_) | (with_reducible refine below_drewN ?_ _) | (with_reducible refine Below.setCell ?_ ?_ _) | go_size))⟩
  · rcases h1 : good b with _ | _
    · rw [show vFD a b = false from by simp [vFD, *] <;> omega]
      try simp only [oFor_false]
      go_enter Try.func39, Try.ntmps39
      go_wp2_with fail
      ((with_reducible refine (are2 a b _ _ (by simp) (by simp)).mono ?_); rintro e w0 ⟨rfl, rfl⟩)
      go_wp2
      go_ret3
      first | exact ⟨rfl, (by repeat' (first | (with_reducible exact Below.refl _ _) | (with_reducible assumption) | (with_reducible refine Below.alloc ?_ ?_ _) | (with_reducible refine Below.drew ?_) | (with_reducible refine below_drewN ?_ _) | (with_reducible refine Below.setCell ?_ ?_ _) | go_size))⟩ | exact ⟨by simp [*], (by repeat' (first | (with_reducible exact Below.refl _ _) | (with_reducible assumption) | (with_reducible refine Below.alloc ?_ ?_ _) | (with_reducible refine Below.drew ?_) | (with_reducible refine below_drewN ?_ _) | (with_reducible refine Below.setCell ?_ ?_ _) | go_size))⟩
    · by_cases h2 : b = 0
      · rw [show vFD a b = false from by simp [vFD, *] <;> omega]
        try simp only [oFor_false]
        have he2 : (b == 0) = true := by simpa using h2
        clear h2
        go_enter Try.func39, Try.ntmps39
        go_wp2_with fail
        ((with_reducible refine (are2 a b _ _ (by simp) (by simp)).mono ?_); rintro e w0 ⟨rfl, rfl⟩)
        go_wp2
        go_ret3
        first | exact ⟨rfl, (by repeat' (first | (with_reducible exact Below.refl _ _) | (with_reducible assumption) | (with_reducible refine Below.alloc ?_ ?_ _) | (with_reducible refine Below.drew ?_) | (with_reducible refine below_drewN ?_ _) | (with_reducible refine Below.setCell ?_ ?_ _) | go_size))⟩ | exact ⟨by simp [*], (by repeat' (first | (with_reducible exact Below.refl _ _) | (with_reducible assumption) | (with_reducible refine Below.alloc ?_ ?_ _) | (with_reducible refine Below.drew ?_) | (with_reducible refine below_drewN ?_ _) | (with_reducible refine Below.setCell ?_ ?_ _) | go_size))⟩
      · obtain ⟨r1, r2, q1, q2, b1, b2⟩ := fd_bd a b h0 h1 h2
        have g1 := good_iff.1 h0
        have g2 := good_iff.1 h1
        rw [show vFD a b = true from by simp [vFD, *] <;> omega]
        try simp only [oFor_true]
        go_enter Try.func39, Try.ntmps39
        go_wp2_with fail
        ((with_reducible refine (are2 a b _ _ (by simp) (by simp)).mono ?_); rintro e w0 ⟨rfl, rfl⟩)
        go_wp2_with fail
        ((with_reducible refine (abs_any _ _ (by omega) (by omega)).mono ?_); rintro e w0 ⟨rfl, rfl⟩)
        go_wp2_with fail
        ((with_reducible refine (mod_any _ _ _ (by omega) (by omega) (by omega) (by omega)).mono ?_); rintro e w0 ⟨rfl, rfl⟩)
        go_wp2
        go_ret3
        first | exact ⟨rfl, (by repeat' (first | (with_reducible exact Below.refl _ _) | (with_reducible assumption) | (with_reducible refine Below.alloc ?_ ?_ _) | (with_reducible refine Below.drew ?_) | (with_reducible refine below_drewN ?_ _) | (with_reducible refine Below.setCell ?_ ?_ _) | go_size))⟩ | exact ⟨by simp [*], (by repeat' (first | (with_reducible exact Below.refl _ _) | (with_reducible assumption) | (with_reducible refine Below.alloc ?_ ?_ _) | (with_reducible refine Below.drew ?_) | (with_reducible refine below_drewN ?_ _) | (with_reducible refine Below.setCell ?_ ?_ _) | go_size))⟩


theorem implSF_any (n : Int) (w : World) : Calls Try.prog 31 #[.int .i64 n] w fun e w' =>
    e = .returned (.tuple #[.int .i64 (oFor (vSF n) (sqS n)), .int .i64 (oFor (vSF n) (sqK n)), .bool (vSF n)]) ∧ Below w.heap.size w w' := by
  rcases h0 : good n with _ | _
  · rw [show vSF n = false from by simp [vSF, *] <;> omega]
    try simp only [oFor_false]
    go_enter Try.func31, Try.ntmps31
    go_wp2_with fail
    ((with_reducible refine (are1 n _ _ (by simp)).mono ?_); rintro e w0 ⟨rfl, rfl⟩)
    go_wp2
    go_ret3
    first | exact ⟨rfl, (by repeat' (first | (with_reducible exact Below.refl _ _) | (with_reducible assumption) | (with_reducible refine Below.alloc ?_ ?_ _) | (with_reducible refine Below.drew ?_) | (with_reducible refine below_drewN ?_ _) | (with_reducible refine Below.setCell ?_ ?_ _) | go_size))⟩ | exact ⟨by simp [*], (by repeat' (first | (with_reducible exact Below.refl _ _) | (with_reducible assumption) | (with_reducible refine Below.alloc ?_ ?_ _) | (with_reducible refine Below.drew ?_) | (with_reducible refine below_drewN ?_ _) | (with_reducible refine Below.setCell ?_ ?_ _) | go_size))⟩
  · by_cases h1 : n = 0
    · rw [show vSF n = false from by simp [vSF, *] <;> omega]
      try simp only [oFor_false]
      have he1 : (n == 0) = true := by simpa using h1
      clear h1
      go_enter Try.func31, Try.ntmps31
      go_wp2_with fail
      ((with_reducible refine (are1 n _ _ (by simp)).mono ?_); rintro e w0 ⟨rfl, rfl⟩)
      go_wp2
      go_ret3
      first | exact ⟨rfl, (by repeat' (first | (with_reducible exact Below.refl _ _) | (with_reducible assumption) | (with_reducible refine Below.alloc ?_ ?_ _) | (with_reducible refine Below.drew ?_) | (with_reducible refine below_drewN ?_ _) | (with_reducible refine Below.setCell ?_ ?_ _) | go_size))⟩ | exact ⟨by simp [*], (by repeat' (first | (with_reducible exact Below.refl _ _) | (with_reducible assumption) | (with_reducible refine Below.alloc ?_ ?_ _) | (with_reducible refine Below.drew ?_) | (with_reducible refine below_drewN ?_ _) | (with_reducible refine Below.setCell ?_ ?_ _) | go_size))⟩
    · rw [show vSF n = true from by simp [vSF, *] <;> omega]
      try simp only [oFor_true]
      go_enter Try.func31, Try.ntmps31
      go_wp2_with fail
      ((with_reducible refine (are1 n _ _ (by simp)).mono ?_); rintro e w0 ⟨rfl, rfl⟩)
      go_wp2_with fail
      ((with_reducible refine (squareFree_any _ _ (good_lo h0) (good_hi h0) h1).mono ?_); rintro e w0 ⟨rfl, rfl⟩)
      go_wp2
      go_ret3
      first | exact ⟨rfl, (by repeat' (first | (with_reducible exact Below.refl _ _) | (with_reducible assumption) | (with_reducible refine Below.alloc ?_ ?_ _) | (with_reducible refine Below.drew ?_) | (with_reducible refine below_drewN ?_ _) | (with_reducible refine Below.setCell ?_ ?_ _) | go_size))⟩ | exact ⟨by simp [*], (by repeat' (first | (with_reducible exact Below.refl _ _) | (with_reducible assumption) | (with_reducible refine Below.alloc ?_ ?_ _) | (with_reducible refine Below.drew ?_) | (with_reducible refine below_drewN ?_ _) | (with_reducible refine Below.setCell ?_ ?_ _) | go_size))⟩








end Go.Proofs.Ytfpedehpmgcmnaa
