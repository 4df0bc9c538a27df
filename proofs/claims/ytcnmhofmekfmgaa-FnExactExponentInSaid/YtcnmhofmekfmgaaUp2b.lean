/-
  Contracts of 'FloorDivide', 'SquareFreePart', 'PowerModulo', 'ExponentIn' and their laws' walks.
-/
import Derived.Test.YtcnmhofmekfmgaaUp2a
import Derived.Test.YtcnmhofmekfmgaaIn
import Derived.Test.YtcnmhofmekfmgaaExp
import Derived.Test.YtcnmhofmekfmgaaFree
namespace Go.Proofs.Ytcnmhofmekfmgaa
open Go.RowKit
set_option linter.unusedSimpArgs false
set_option linter.unusedVariables false

def vFD (a b : Int) : Bool := (good a && good b) && decide (b ≠ 0)
theorem fd_bd (a b : Int) (ha : good a = true) (hb : good b = true) (h0 : ¬ b = 0) : 0 ≤ a % (b.natAbs : Int) ∧ a % (b.natAbs : Int) < (b.natAbs : Int) ∧
    -2000000 ≤ (a - a % (b.natAbs : Int)).tdiv b ∧ (a - a % (b.natAbs : Int)).tdiv b ≤ 2000000 ∧ (1 : Int) ≤ (b.natAbs : Int) ∧ (b.natAbs : Int) ≤ 1000000 := by
  have g1 := good_iff.1 ha
  have g2 := good_iff.1 hb
  have r1 := Int.emod_nonneg a (show (b.natAbs : Int) ≠ 0 by omega)
  have r2 := Int.emod_lt_of_pos a (show 0 < (b.natAbs : Int) by omega)
  have q1 : ((a - a % (b.natAbs : Int)).tdiv b).natAbs = (a - a % (b.natAbs : Int)).natAbs / b.natAbs := Int.natAbs_tdiv _ _
  have q2 : (a - a % (b.natAbs : Int)).natAbs / b.natAbs ≤ (a - a % (b.natAbs : Int)).natAbs := Nat.div_le_self _ _
  omega

def vSF (n : Int) : Bool := good n && decide (n ≠ 0)

def vPM (a k m : Int) : Bool := (good a && inB 0 1000000 k) && inB 1 1000000 m

theorem vPM_bad {a k m : Int} (h : good a = false ∨ k < 0 ∨ 1000000 < k ∨ m < 1 ∨ 1000000 < m) : vPM a k m = false := by
  unfold vPM inB
  rcases h with h | h | h | h | h
  · simp [h]
  · simp; omega
  · simp; omega
  · simp; omega
  · simp; omega
theorem vPM_ok {a k m : Int} (h0 : good a = true) (h1 : 0 ≤ k) (h2 : k ≤ 1000000) (h3 : 1 ≤ m) (h4 : m ≤ 1000000) : vPM a k m = true := by simp [vPM, inB, *]
theorem good_cases {k : Int} (h : good k = false) : k < -1000000 ∨ 1000000 < k := bad_iff.1 h

def vEI (n p : Int) : Bool := (good n && decide (n ≠ 0)) && (good p && primeB p)
theorem vEI_bad {n p : Int} (h : good n = false ∨ n = 0 ∨ good p = false ∨ primeB p = false) : vEI n p = false := by
  unfold vEI
  rcases h with h | h | h | h <;> simp [h]
theorem vEI_ok {n p : Int} (h0 : good n = true) (h1 : ¬ n = 0) (h2 : good p = true) (h3 : primeB p = true) : vEI n p = true := by simp [vEI, *]

theorem specFD_any (a b : Int) (w : World) : Calls Try.prog 21 #[.int .i64 a, .int .i64 b] w fun e w' =>
    e = .returned (.tuple #[.int .i64 (oFor (vFD a b) ((a - a % (b.natAbs : Int)).tdiv b)), .int .i64 (oFor (vFD a b) (a % (b.natAbs : Int))), .bool (vFD a b)]) ∧ Below w.heap.size w w' := by
  rcases h0 : good a with _ | _
  · rw [show vFD a b = false from by simp [vFD, *] <;> omega]
    try simp only [oFor_false]
    go_enter Try.func21, Try.ntmps21
    go_wp2_with fail
    ((with_reducible refine (nuGood_any a _).mono ?_); rintro e w0 ⟨rfl, rfl⟩)
    go_wp2
    go_ret3
    first | exact ⟨rfl, (by repeat' (first | (with_reducible exact Below.refl _ _) | (with_reducible assumption) | (with_reducible refine Below.alloc ?_ ?_ _) | (with_reducible refine Below.drew ?_) | (with_reducible refine below_drewN ?_ _) | (with_reducible refine Below.setCell ?_ ?_ _) | go_size))⟩ | exact ⟨by simp [*], (by repeat' (first | (with_reducible exact Below.refl _ _) | (with_reducible assumption) | (with_reducible refine Below.alloc ?_ ?_ _) | (with_reducible refine Below.drew ?_) | (with_reducible refine below_drewN ?_ _) | (with_reducible refine Below.setCell ?_ ?_ _) | go_size))⟩
  · rcases h1 : good b with _ | _
    · rw [show vFD a b = false from by simp [vFD, *] <;> omega]
      try simp only [oFor_false]
      go_enter Try.func21, Try.ntmps21
      go_wp2_with fail
      ((with_reducible refine (nuGood_any a _).mono ?_); rintro e w0 ⟨rfl, rfl⟩)
      go_wp2_with fail
      ((with_reducible refine (nuGood_any b _).mono ?_); rintro e w0 ⟨rfl, rfl⟩)
      go_wp2
      go_ret3
      first | exact ⟨rfl, (by repeat' (first | (with_reducible exact Below.refl _ _) | (with_reducible assumption) | (with_reducible refine Below.alloc ?_ ?_ _) | (with_reducible refine Below.drew ?_) | (with_reducible refine below_drewN ?_ _) | (with_reducible refine Below.setCell ?_ ?_ _) | go_size))⟩ | exact ⟨by simp [*], (by repeat' (first | (with_reducible exact Below.refl _ _) | (with_reducible assumption) | (with_reducible refine Below.alloc ?_ ?_ _) | (with_reducible refine Below.drew ?_) | (with_reducible refine below_drewN ?_ _) | (with_reducible refine Below.setCell ?_ ?_ _) | go_size))⟩
    · by_cases h2 : b = 0
      · rw [show vFD a b = false from by simp [vFD, *] <;> omega]
        try simp only [oFor_false]
        have he2 : (b == 0) = true := by simpa using h2
        clear h2
        go_enter Try.func21, Try.ntmps21
        go_wp2_with fail
        ((with_reducible refine (nuGood_any a _).mono ?_); rintro e w0 ⟨rfl, rfl⟩)
        go_wp2_with fail
        ((with_reducible refine (nuGood_any b _).mono ?_); rintro e w0 ⟨rfl, rfl⟩)
        go_wp2
        go_ret3
        first | exact ⟨rfl, (by repeat' (first | (with_reducible exact Below.refl _ _) | (with_reducible assumption) | (with_reducible refine Below.alloc ?_ ?_ _) | (with_reducible refine Below.drew ?_) | (with_reducible refine below_drewN ?_ _) | (with_reducible refine Below.setCell ?_ ?_ _) | go_size))⟩ | exact ⟨by simp [*], (by repeat' (first | (with_reducible exact Below.refl _ _) | (with_reducible assumption) | (with_reducible refine Below.alloc ?_ ?_ _) | (with_reducible refine Below.drew ?_) | (with_reducible refine below_drewN ?_ _) | (with_reducible refine Below.setCell ?_ ?_ _) | go_size))⟩
      · obtain ⟨r1, r2, q1, q2, b1, b2⟩ := fd_bd a b h0 h1 h2
        have g1 := good_iff.1 h0
        have g2 := good_iff.1 h1
        rw [show vFD a b = true from by simp [vFD, *] <;> omega]
        try simp only [oFor_true]
        go_enter Try.func21, Try.ntmps21
        go_wp2_with fail
        ((with_reducible refine (nuGood_any a _).mono ?_); rintro e w0 ⟨rfl, rfl⟩)
        go_wp2_with fail
        ((with_reducible refine (nuGood_any b _).mono ?_); rintro e w0 ⟨rfl, rfl⟩)
        go_wp2_with fail
        ((with_reducible refine (l1Abs_any _ _ (by omega) (by omega)).mono ?_); rintro e w0 ⟨rfl, rfl⟩)
        go_wp2_with fail
        ((with_reducible refine (nuMod_any _ _ _ (by omega) (by omega) (by omega) (by omega)).mono ?_); rintro e w0 ⟨rfl, rfl⟩)
        go_wp2
        go_ret3
        first | exact ⟨rfl, (by repeat' (first | (with_reducible exact Below.refl _ _) | (with_reducible assumption) | (with_reducible refine Below.alloc ?_ ?_ _) | (with_reducible refine Below.drew ?_) | (with_reducible refine below_drewN ?_ _) | (with_reducible refine Below.setCell ?_ ?_ _) | go_size))⟩ | exact ⟨by simp [*], (by repeat' (first | (with_reducible exact Below.refl _ _) | (with_reducible assumption) | (with_reducible refine Below.alloc ?_ ?_ _) | (with_reducible refine Below.drew ?_) | (with_reducible refine below_drewN ?_ _) | (with_reducible refine Below.setCell ?_ ?_ _) | go_size))⟩

theorem implFD_any (a b : Int) (w : World) : Calls Try.prog 22 #[.int .i64 a, .int .i64 b] w fun e w' =>
    e = .returned (.tuple #[.int .i64 (oFor (vFD a b) ((a - a % (b.natAbs : Int)).tdiv b)), .int .i64 (oFor (vFD a b) (a % (b.natAbs : Int))), .bool (vFD a b)]) ∧ Below w.heap.size w w' := by
  rcases h0 : good a with _ | _
  · rw [show vFD a b = false from by simp [vFD, *] <;> omega]
    try simp only [oFor_false]
    go_enter Try.func22, Try.ntmps22
    go_wp2_with fail
    ((with_reducible refine (are2 a b _ _ (by simp) (by simp)).mono ?_); rintro e w0 ⟨rfl, rfl⟩)
    go_wp2
    go_ret3
    first | exact ⟨rfl, (by repeat' (first | (with_reducible exact Below.refl _ _) | (with_reducible assumption) | (with_reducible refine Below.alloc ?_ ?_ _) | (with_reducible refine Below.drew ?_) | (with_reducible refine below_drewN ?_ _) | (with_reducible refine Below.setCell ?_ ?_ _) | go_size))⟩ | exact ⟨by simp [*], (by repeat' (first | (with_reducible exact Below.refl _ _) | (with_reducible assumption) | (with_reducible refine Below.alloc ?_ ?_ _) | (with_reducible refine Below.drew ?_) | (with_reducible refine below_drewN ?_ _) | (with_reducible refine Below.setCell ?_ ?_ _) | go_size))⟩
  · rcases h1 : good b with _ | _
    · rw [show vFD a b = false from by simp [vFD, *] <;> omega]
      try simp only [oFor_false]
      go_enter Try.func22, Try.ntmps22
      go_wp2_with fail
      ((with_reducible refine (are2 a b _ _ (by simp) (by simp)).mono ?_); rintro e w0 ⟨rfl, rfl⟩)
      go_wp2
      go_ret3
      first | exact ⟨rfl, (by repeat' (first | (with_reducible exact Below.refl _ _) | (with_reducible assumption) | (with_reducible refine Below.alloc ?_ ?_ _) | (with_reducible refine Below.drew ?_) | (with_reducible refine below_drewN ?_ _) | (with_reducible refine Below.setCell ?_ ?_ _) | go_size))⟩ | exact ⟨by simp [*], (by repeat' (first | (with_reducible exact Below.refl _ _) | (with_reducible assumption) | (with_reducible refine Below.alloc ?_ ?_ _) | (with_reducible refine Below.drew ?_) | (with_reducible refine below_drewN ?_ _) | (with_reducible refine Below.setCell ?_ ?_ _) | go_size))⟩
    · by_cases h2 : b = 0
      · rw [show vFD a b = false from by simp [vFD, *] <;> omega]
        try simp only [oFor_false]
        have he2 : (b == 0) = true := by simpa using h2
        clear h2
        go_enter Try.func22, Try.ntmps22
        go_wp2_with fail
        ((with_reducible refine (are2 a b _ _ (by simp) (by simp)).mono ?_); rintro e w0 ⟨rfl, rfl⟩)
        go_wp2
        go_ret3
        first | exact ⟨rfl, (by repeat' (first | (with_reducible exact Below.refl _ _) | (with_reducible assumption) | (with_reducible refine Below.alloc ?_ ?_ _) | (with_reducible refine Below.drew ?_) | (with_reducible refine below_drewN ?_ _) | (with_reducible refine Below.setCell ?_ ?_ _) | go_size))⟩ | exact ⟨by simp [*], (by repeat' (first | (with_reducible exact Below.refl _ _) | (with_reducible assumption) | (with_reducible refine Below.alloc ?_ ?_ _) | (with_reducible refine Below.drew ?_) | (with_reducible refine below_drewN ?_ _) | (with_reducible refine Below.setCell ?_ ?_ _) | go_size))⟩
      · obtain ⟨r1, r2, q1, q2, b1, b2⟩ := fd_bd a b h0 h1 h2
        have g1 := good_iff.1 h0
        have g2 := good_iff.1 h1
        rw [show vFD a b = true from by simp [vFD, *] <;> omega]
        try simp only [oFor_true]
        go_enter Try.func22, Try.ntmps22
        go_wp2_with fail
        ((with_reducible refine (are2 a b _ _ (by simp) (by simp)).mono ?_); rintro e w0 ⟨rfl, rfl⟩)
        go_wp2_with fail
        ((with_reducible refine (abs_any _ _ (by omega) (by omega)).mono ?_); rintro e w0 ⟨rfl, rfl⟩)
        go_wp2_with fail
        ((with_reducible refine (mod_any _ _ _ (by omega) (by omega) (by omega) (by omega)).mono ?_); rintro e w0 ⟨rfl, rfl⟩)
        go_wp2
        go_ret3
        first | exact ⟨rfl, (by repeat' (first | (with_reducible exact Below.refl _ _) | (with_reducible assumption) | (with_reducible refine Below.alloc ?_ ?_ _) | (with_reducible refine Below.drew ?_) | (with_reducible refine below_drewN ?_ _) | (with_reducible refine Below.setCell ?_ ?_ _) | go_size))⟩ | exact ⟨by simp [*], (by repeat' (first | (with_reducible exact Below.refl _ _) | (with_reducible assumption) | (with_reducible refine Below.alloc ?_ ?_ _) | (with_reducible refine Below.drew ?_) | (with_reducible refine below_drewN ?_ _) | (with_reducible refine Below.setCell ?_ ?_ _) | go_size))⟩

theorem specSF_any (n : Int) (w : World) : Calls Try.prog 23 #[.int .i64 n] w fun e w' =>
    e = .returned (.tuple #[.int .i64 (oFor (vSF n) (sqS n)), .int .i64 (oFor (vSF n) (sqK n)), .bool (vSF n)]) ∧ Below w.heap.size w w' := by
  rcases h0 : good n with _ | _
  · rw [show vSF n = false from by simp [vSF, *] <;> omega]
    try simp only [oFor_false]
    go_enter Try.func23, Try.ntmps23
    go_wp2_with fail
    ((with_reducible refine (nuGood_any n _).mono ?_); rintro e w0 ⟨rfl, rfl⟩)
    go_wp2
    go_ret3
    first | exact ⟨rfl, (by repeat' (first | (with_reducible exact Below.refl _ _) | (with_reducible assumption) | (with_reducible refine Below.alloc ?_ ?_ _) | (with_reducible refine Below.drew ?_) | (with_reducible refine below_drewN ?_ _) | (with_reducible refine Below.setCell ?_ ?_ _) | go_size))⟩ | exact ⟨by simp [*], (by repeat' (first | (with_reducible exact Below.refl _ _) | (with_reducible assumption) | (with_reducible refine Below.alloc ?_ ?_ _) | (with_reducible refine Below.drew ?_) | (with_reducible refine below_drewN ?_ _) | (with_reducible refine Below.setCell ?_ ?_ _) | go_size))⟩
  · by_cases h1 : n = 0
    · rw [show vSF n = false from by simp [vSF, *] <;> omega]
      try simp only [oFor_false]
      have he1 : (n == 0) = true := by simpa using h1
      clear h1
      go_enter Try.func23, Try.ntmps23
      go_wp2_with fail
      ((with_reducible refine (nuGood_any n _).mono ?_); rintro e w0 ⟨rfl, rfl⟩)
      go_wp2
      go_ret3
      first | exact ⟨rfl, (by repeat' (first | (with_reducible exact Below.refl _ _) | (with_reducible assumption) | (with_reducible refine Below.alloc ?_ ?_ _) | (with_reducible refine Below.drew ?_) | (with_reducible refine below_drewN ?_ _) | (with_reducible refine Below.setCell ?_ ?_ _) | go_size))⟩ | exact ⟨by simp [*], (by repeat' (first | (with_reducible exact Below.refl _ _) | (with_reducible assumption) | (with_reducible refine Below.alloc ?_ ?_ _) | (with_reducible refine Below.drew ?_) | (with_reducible refine below_drewN ?_ _) | (with_reducible refine Below.setCell ?_ ?_ _) | go_size))⟩
    · rw [show vSF n = true from by simp [vSF, *] <;> omega]
      try simp only [oFor_true]
      go_enter Try.func23, Try.ntmps23
      go_wp2_with fail
      ((with_reducible refine (nuGood_any n _).mono ?_); rintro e w0 ⟨rfl, rfl⟩)
      go_wp2_with fail
      ((with_reducible refine (nuFree_any _ _ (good_lo h0) (good_hi h0) h1).mono ?_); rintro e w0 ⟨rfl, rfl⟩)
      go_wp2
      go_ret3
      first | exact ⟨rfl, (by repeat' (first | (with_reducible exact Below.refl _ _) | (with_reducible assumption) | (with_reducible refine Below.alloc ?_ ?_ _) | (with_reducible refine Below.drew ?_) | (with_reducible refine below_drewN ?_ _) | (with_reducible refine Below.setCell ?_ ?_ _) | go_size))⟩ | exact ⟨by simp [*], (by repeat' (first | (with_reducible exact Below.refl _ _) | (with_reducible assumption) | (with_reducible refine Below.alloc ?_ ?_ _) | (with_reducible refine Below.drew ?_) | (with_reducible refine below_drewN ?_ _) | (with_reducible refine Below.setCell ?_ ?_ _) | go_size))⟩

theorem implSF_any (n : Int) (w : World) : Calls Try.prog 24 #[.int .i64 n] w fun e w' =>
    e = .returned (.tuple #[.int .i64 (oFor (vSF n) (sqS n)), .int .i64 (oFor (vSF n) (sqK n)), .bool (vSF n)]) ∧ Below w.heap.size w w' := by
  rcases h0 : good n with _ | _
  · rw [show vSF n = false from by simp [vSF, *] <;> omega]
    try simp only [oFor_false]
    go_enter Try.func24, Try.ntmps24
    go_wp2_with fail
    ((with_reducible refine (are1 n _ _ (by simp)).mono ?_); rintro e w0 ⟨rfl, rfl⟩)
    go_wp2
    go_ret3
    first | exact ⟨rfl, (by repeat' (first | (with_reducible exact Below.refl _ _) | (with_reducible assumption) | (with_reducible refine Below.alloc ?_ ?_ _) | (with_reducible refine Below.drew ?_) | (with_reducible refine below_drewN ?_ _) | (with_reducible refine Below.setCell ?_ ?_ _) | go_size))⟩ | exact ⟨by simp [*], (by repeat' (first | (with_reducible exact Below.refl _ _) | (with_reducible assumption) | (with_reducible refine Below.alloc ?_ ?_ _) | (with_reducible refine Below.drew ?_) | (with_reducible refine below_drewN ?_ _) | (with_reducible refine Below.setCell ?_ ?_ _) | go_size))⟩
  · by_cases h1 : n = 0
    · rw [show vSF n = false from by simp [vSF, *] <;> omega]
      try simp only [oFor_false]
      have he1 : (n == 0) = true := by simpa using h1
      clear h1
      go_enter Try.func24, Try.ntmps24
      go_wp2_with fail
      ((with_reducible refine (are1 n _ _ (by simp)).mono ?_); rintro e w0 ⟨rfl, rfl⟩)
      go_wp2
      go_ret3
      first | exact ⟨rfl, (by repeat' (first | (with_reducible exact Below.refl _ _) | (with_reducible assumption) | (with_reducible refine Below.alloc ?_ ?_ _) | (with_reducible refine Below.drew ?_) | (with_reducible refine below_drewN ?_ _) | (with_reducible refine Below.setCell ?_ ?_ _) | go_size))⟩ | exact ⟨by simp [*], (by repeat' (first | (with_reducible exact Below.refl _ _) | (with_reducible assumption) | (with_reducible refine Below.alloc ?_ ?_ _) | (with_reducible refine Below.drew ?_) | (with_reducible refine below_drewN ?_ _) | (with_reducible refine Below.setCell ?_ ?_ _) | go_size))⟩
    · rw [show vSF n = true from by simp [vSF, *] <;> omega]
      try simp only [oFor_true]
      go_enter Try.func24, Try.ntmps24
      go_wp2_with fail
      ((with_reducible refine (are1 n _ _ (by simp)).mono ?_); rintro e w0 ⟨rfl, rfl⟩)
      go_wp2_with fail
      ((with_reducible refine (squareFree_any _ _ (good_lo h0) (good_hi h0) h1).mono ?_); rintro e w0 ⟨rfl, rfl⟩)
      go_wp2
      go_ret3
      first | exact ⟨rfl, (by repeat' (first | (with_reducible exact Below.refl _ _) | (with_reducible assumption) | (with_reducible refine Below.alloc ?_ ?_ _) | (with_reducible refine Below.drew ?_) | (with_reducible refine below_drewN ?_ _) | (with_reducible refine Below.setCell ?_ ?_ _) | go_size))⟩ | exact ⟨by simp [*], (by repeat' (first | (with_reducible exact Below.refl _ _) | (with_reducible assumption) | (with_reducible refine Below.alloc ?_ ?_ _) | (with_reducible refine Below.drew ?_) | (with_reducible refine below_drewN ?_ _) | (with_reducible refine Below.setCell ?_ ?_ _) | go_size))⟩

theorem specPM_any (a k m : Int) (w : World) : Calls Try.prog 30 #[.int .i64 a, .int .i64 k, .int .i64 m] w fun e w' =>
    e = .returned (.tuple #[.int .i64 (oFor (vPM a k m) (pw k.toNat (a % m) (1 % m) m)), .bool (vPM a k m)]) ∧ Below w.heap.size w w' := by
  rcases h0 : good a with _ | _
  · rw [show vPM a k m = false from by simp [vPM, *] <;> omega]
    try simp only [oFor_false]
    go_enter Try.func30, Try.ntmps30
    go_wp2_with fail
    ((with_reducible refine (nuGood_any a _).mono ?_); rintro e w0 ⟨rfl, rfl⟩)
    go_wp2
    go_ret2
    first | exact ⟨rfl, (by repeat' (first | (with_reducible exact Below.refl _ _) | (with_reducible assumption) | (with_reducible refine Below.alloc ?_ ?_ _) | (with_reducible refine Below.drew ?_) | (with_reducible refine below_drewN ?_ _) | (with_reducible refine Below.setCell ?_ ?_ _) | go_size))⟩ | exact ⟨by simp [*], (by repeat' (first | (with_reducible exact Below.refl _ _) | (with_reducible assumption) | (with_reducible refine Below.alloc ?_ ?_ _) | (with_reducible refine Below.drew ?_) | (with_reducible refine below_drewN ?_ _) | (with_reducible refine Below.setCell ?_ ?_ _) | go_size))⟩
  · rcases h1 : inB 0 1000000 k with _ | _
    · rw [show vPM a k m = false from by simp [vPM, *] <;> omega]
      try simp only [oFor_false]
      go_enter Try.func30, Try.ntmps30
      go_wp2_with fail
      ((with_reducible refine (nuGood_any a _).mono ?_); rintro e w0 ⟨rfl, rfl⟩)
      go_wp2_with fail
      ((with_reducible refine (l1In_any _ _ _ _).mono ?_); rintro e w0 ⟨rfl, rfl⟩)
      go_wp2
      go_ret2
      first | exact ⟨rfl, (by repeat' (first | (with_reducible exact Below.refl _ _) | (with_reducible assumption) | (with_reducible refine Below.alloc ?_ ?_ _) | (with_reducible refine Below.drew ?_) | (with_reducible refine below_drewN ?_ _) | (with_reducible refine Below.setCell ?_ ?_ _) | go_size))⟩ | exact ⟨by simp [*], (by repeat' (first | (with_reducible exact Below.refl _ _) | (with_reducible assumption) | (with_reducible refine Below.alloc ?_ ?_ _) | (with_reducible refine Below.drew ?_) | (with_reducible refine below_drewN ?_ _) | (with_reducible refine Below.setCell ?_ ?_ _) | go_size))⟩
    · rcases h2 : inB 1 1000000 m with _ | _
      · rw [show vPM a k m = false from by simp [vPM, *] <;> omega]
        try simp only [oFor_false]
        go_enter Try.func30, Try.ntmps30
        go_wp2_with fail
        ((with_reducible refine (nuGood_any a _).mono ?_); rintro e w0 ⟨rfl, rfl⟩)
        go_wp2_with fail
        ((with_reducible refine (l1In_any _ _ _ _).mono ?_); rintro e w0 ⟨rfl, rfl⟩)
        go_wp2_with fail
        ((with_reducible refine (l1In_any _ _ _ _).mono ?_); rintro e w0 ⟨rfl, rfl⟩)
        go_wp2
        go_ret2
        first | exact ⟨rfl, (by repeat' (first | (with_reducible exact Below.refl _ _) | (with_reducible assumption) | (with_reducible refine Below.alloc ?_ ?_ _) | (with_reducible refine Below.drew ?_) | (with_reducible refine below_drewN ?_ _) | (with_reducible refine Below.setCell ?_ ?_ _) | go_size))⟩ | exact ⟨by simp [*], (by repeat' (first | (with_reducible exact Below.refl _ _) | (with_reducible assumption) | (with_reducible refine Below.alloc ?_ ?_ _) | (with_reducible refine Below.drew ?_) | (with_reducible refine below_drewN ?_ _) | (with_reducible refine Below.setCell ?_ ?_ _) | go_size))⟩
      · rw [show vPM a k m = true from by simp [vPM, *] <;> omega]
        try simp only [oFor_true]
        have g0 := good_iff.1 h0
        have g1 := inB_iff.1 h1
        have g2 := inB_iff.1 h2
        go_enter Try.func30, Try.ntmps30
        go_wp2_with fail
        ((with_reducible refine (nuGood_any a _).mono ?_); rintro e w0 ⟨rfl, rfl⟩)
        go_wp2_with fail
        ((with_reducible refine (l1In_any _ _ _ _).mono ?_); rintro e w0 ⟨rfl, rfl⟩)
        go_wp2_with fail
        ((with_reducible refine (l1In_any _ _ _ _).mono ?_); rintro e w0 ⟨rfl, rfl⟩)
        go_wp2_with fail
        ((with_reducible refine (nuPower_int _ _ _ _ (by omega) (by omega) (by omega) (by omega) (by omega) (by omega)).mono ?_); rintro e w0 ⟨rfl, d1, rfl⟩)
        go_wp2
        go_ret2
        first | exact ⟨rfl, (by repeat' (first | (with_reducible exact Below.refl _ _) | (with_reducible assumption) | (with_reducible refine Below.alloc ?_ ?_ _) | (with_reducible refine Below.drew ?_) | (with_reducible refine below_drewN ?_ _) | (with_reducible refine Below.setCell ?_ ?_ _) | go_size))⟩ | exact ⟨by simp [*], (by repeat' (first | (with_reducible exact Below.refl _ _) | (with_reducible assumption) | (with_reducible refine Below.alloc ?_ ?_ _) | (with_reducible refine Below.drew ?_) | (with_reducible refine below_drewN ?_ _) | (with_reducible refine Below.setCell ?_ ?_ _) | go_size))⟩

theorem implPM_any (a k m : Int) (w : World) : Calls Try.prog 31 #[.int .i64 a, .int .i64 k, .int .i64 m] w fun e w' =>
    e = .returned (.tuple #[.int .i64 (oFor (vPM a k m) (pw k.toNat (a % m) (1 % m) m)), .bool (vPM a k m)]) ∧ Below w.heap.size w w' := by
  rcases h0 : good a with _ | _
  · rw [show vPM a k m = false from vPM_bad (.inl h0), oFor_false]
    go_enter Try.func31, Try.ntmps31
    go_wp2_with fail
    ((with_reducible refine (are3 a k m _ _ (by simp) (by simp) (by simp)).mono ?_); rintro e w0 ⟨rfl, rfl⟩)
    go_wp2
    go_ret2
    first | exact ⟨rfl, (by repeat' (first | (with_reducible exact Below.refl _ _) | (with_reducible assumption) | (with_reducible refine Below.alloc ?_ ?_ _) | (with_reducible refine Below.drew ?_) | (with_reducible refine below_drewN ?_ _) | (with_reducible refine Below.setCell ?_ ?_ _) | go_size))⟩ | exact ⟨by simp [*], (by repeat' (first | (with_reducible exact Below.refl _ _) | (with_reducible assumption) | (with_reducible refine Below.alloc ?_ ?_ _) | (with_reducible refine Below.drew ?_) | (with_reducible refine below_drewN ?_ _) | (with_reducible refine Below.setCell ?_ ?_ _) | go_size))⟩
  · rcases h1 : good k with _ | _
    · rw [show vPM a k m = false from vPM_bad (by have := good_cases h1; omega), oFor_false]
      go_enter Try.func31, Try.ntmps31
      go_wp2_with fail
      ((with_reducible refine (are3 a k m _ _ (by simp) (by simp) (by simp)).mono ?_); rintro e w0 ⟨rfl, rfl⟩)
      go_wp2
      go_ret2
      first | exact ⟨rfl, (by repeat' (first | (with_reducible exact Below.refl _ _) | (with_reducible assumption) | (with_reducible refine Below.alloc ?_ ?_ _) | (with_reducible refine Below.drew ?_) | (with_reducible refine below_drewN ?_ _) | (with_reducible refine Below.setCell ?_ ?_ _) | go_size))⟩ | exact ⟨by simp [*], (by repeat' (first | (with_reducible exact Below.refl _ _) | (with_reducible assumption) | (with_reducible refine Below.alloc ?_ ?_ _) | (with_reducible refine Below.drew ?_) | (with_reducible refine below_drewN ?_ _) | (with_reducible refine Below.setCell ?_ ?_ _) | go_size))⟩
    · rcases h2 : good m with _ | _
      · rw [show vPM a k m = false from vPM_bad (by have := good_cases h2; omega), oFor_false]
        go_enter Try.func31, Try.ntmps31
        go_wp2_with fail
        ((with_reducible refine (are3 a k m _ _ (by simp) (by simp) (by simp)).mono ?_); rintro e w0 ⟨rfl, rfl⟩)
        go_wp2
        go_ret2
        first | exact ⟨rfl, (by repeat' (first | (with_reducible exact Below.refl _ _) | (with_reducible assumption) | (with_reducible refine Below.alloc ?_ ?_ _) | (with_reducible refine Below.drew ?_) | (with_reducible refine below_drewN ?_ _) | (with_reducible refine Below.setCell ?_ ?_ _) | go_size))⟩ | exact ⟨by simp [*], (by repeat' (first | (with_reducible exact Below.refl _ _) | (with_reducible assumption) | (with_reducible refine Below.alloc ?_ ?_ _) | (with_reducible refine Below.drew ?_) | (with_reducible refine below_drewN ?_ _) | (with_reducible refine Below.setCell ?_ ?_ _) | go_size))⟩
      · by_cases h3 : k < 0
        · rw [show vPM a k m = false from vPM_bad (by omega), oFor_false]
          go_enter Try.func31, Try.ntmps31
          go_wp2_with fail
          ((with_reducible refine (are3 a k m _ _ (by simp) (by simp) (by simp)).mono ?_); rintro e w0 ⟨rfl, rfl⟩)
          go_wp2
          go_ret2
          first | exact ⟨rfl, (by repeat' (first | (with_reducible exact Below.refl _ _) | (with_reducible assumption) | (with_reducible refine Below.alloc ?_ ?_ _) | (with_reducible refine Below.drew ?_) | (with_reducible refine below_drewN ?_ _) | (with_reducible refine Below.setCell ?_ ?_ _) | go_size))⟩ | exact ⟨by simp [*], (by repeat' (first | (with_reducible exact Below.refl _ _) | (with_reducible assumption) | (with_reducible refine Below.alloc ?_ ?_ _) | (with_reducible refine Below.drew ?_) | (with_reducible refine below_drewN ?_ _) | (with_reducible refine Below.setCell ?_ ?_ _) | go_size))⟩
        · by_cases h4 : m < 1
          · rw [show vPM a k m = false from vPM_bad (by omega), oFor_false]
            go_enter Try.func31, Try.ntmps31
            go_wp2_with fail
            ((with_reducible refine (are3 a k m _ _ (by simp) (by simp) (by simp)).mono ?_); rintro e w0 ⟨rfl, rfl⟩)
            go_wp2
            go_ret2
            first | exact ⟨rfl, (by repeat' (first | (with_reducible exact Below.refl _ _) | (with_reducible assumption) | (with_reducible refine Below.alloc ?_ ?_ _) | (with_reducible refine Below.drew ?_) | (with_reducible refine below_drewN ?_ _) | (with_reducible refine Below.setCell ?_ ?_ _) | go_size))⟩ | exact ⟨by simp [*], (by repeat' (first | (with_reducible exact Below.refl _ _) | (with_reducible assumption) | (with_reducible refine Below.alloc ?_ ?_ _) | (with_reducible refine Below.drew ?_) | (with_reducible refine below_drewN ?_ _) | (with_reducible refine Below.setCell ?_ ?_ _) | go_size))⟩
          · have g0 := good_iff.1 h0
            have g1 := good_iff.1 h1
            have g2 := good_iff.1 h2
            rw [show vPM a k m = true from vPM_ok h0 (by omega) (by omega) (by omega) (by omega), oFor_true]
            go_enter Try.func31, Try.ntmps31
            go_wp2_with fail
            ((with_reducible refine (are3 a k m _ _ (by simp) (by simp) (by simp)).mono ?_); rintro e w0 ⟨rfl, rfl⟩)
            go_wp2_with fail
            ((with_reducible refine (power_int _ _ _ _ (by omega) (by omega) (by omega) (by omega) (by omega) (by omega)).mono ?_); rintro e w0 ⟨rfl, d1, rfl⟩)
            go_wp2
            go_ret2
            first | exact ⟨rfl, (by repeat' (first | (with_reducible exact Below.refl _ _) | (with_reducible assumption) | (with_reducible refine Below.alloc ?_ ?_ _) | (with_reducible refine Below.drew ?_) | (with_reducible refine below_drewN ?_ _) | (with_reducible refine Below.setCell ?_ ?_ _) | go_size))⟩ | exact ⟨by simp [*], (by repeat' (first | (with_reducible exact Below.refl _ _) | (with_reducible assumption) | (with_reducible refine Below.alloc ?_ ?_ _) | (with_reducible refine Below.drew ?_) | (with_reducible refine below_drewN ?_ _) | (with_reducible refine Below.setCell ?_ ?_ _) | go_size))⟩

theorem specEI_any (n p : Int) (w : World) : Calls Try.prog 32 #[.int .i64 n, .int .i64 p] w fun e w' =>
    e = .returned (.tuple #[.int .i64 (oFor (vEI n p) (exN n.natAbs p.toNat)), .bool (vEI n p)]) ∧ Below w.heap.size w w' := by
  rcases h0 : good n with _ | _
  · rw [show vEI n p = false from vEI_bad (by simp [*]), oFor_false]
    go_enter Try.func32, Try.ntmps32
    go_wp2_with fail
    ((with_reducible refine (nuGood_any n _).mono ?_); rintro e w0 ⟨rfl, rfl⟩)
    go_wp2
    go_ret2
    first | exact ⟨rfl, (by repeat' (first | (with_reducible exact Below.refl _ _) | (with_reducible assumption) | (with_reducible refine Below.alloc ?_ ?_ _) | (with_reducible refine Below.drew ?_) | (with_reducible refine below_drewN ?_ _) | (with_reducible refine Below.setCell ?_ ?_ _) | go_size))⟩ | exact ⟨by simp [*], (by repeat' (first | (with_reducible exact Below.refl _ _) | (with_reducible assumption) | (with_reducible refine Below.alloc ?_ ?_ _) | (with_reducible refine Below.drew ?_) | (with_reducible refine below_drewN ?_ _) | (with_reducible refine Below.setCell ?_ ?_ _) | go_size))⟩
  · by_cases h1 : n = 0
    · rw [show vEI n p = false from vEI_bad (by simp [*]), oFor_false]
      have he1 : (n == 0) = true := by simpa using h1
      clear h1
      go_enter Try.func32, Try.ntmps32
      go_wp2_with fail
      ((with_reducible refine (nuGood_any n _).mono ?_); rintro e w0 ⟨rfl, rfl⟩)
      go_wp2
      go_ret2
      first | exact ⟨rfl, (by repeat' (first | (with_reducible exact Below.refl _ _) | (with_reducible assumption) | (with_reducible refine Below.alloc ?_ ?_ _) | (with_reducible refine Below.drew ?_) | (with_reducible refine below_drewN ?_ _) | (with_reducible refine Below.setCell ?_ ?_ _) | go_size))⟩ | exact ⟨by simp [*], (by repeat' (first | (with_reducible exact Below.refl _ _) | (with_reducible assumption) | (with_reducible refine Below.alloc ?_ ?_ _) | (with_reducible refine Below.drew ?_) | (with_reducible refine below_drewN ?_ _) | (with_reducible refine Below.setCell ?_ ?_ _) | go_size))⟩
    · rcases h2 : good p with _ | _
      · rw [show vEI n p = false from vEI_bad (by simp [*]), oFor_false]
        go_enter Try.func32, Try.ntmps32
        go_wp2_with fail
        ((with_reducible refine (nuGood_any n _).mono ?_); rintro e w0 ⟨rfl, rfl⟩)
        go_wp2_with fail
        ((with_reducible refine (nuGood_any p _).mono ?_); rintro e w0 ⟨rfl, rfl⟩)
        go_wp2
        go_ret2
        first | exact ⟨rfl, (by repeat' (first | (with_reducible exact Below.refl _ _) | (with_reducible assumption) | (with_reducible refine Below.alloc ?_ ?_ _) | (with_reducible refine Below.drew ?_) | (with_reducible refine below_drewN ?_ _) | (with_reducible refine Below.setCell ?_ ?_ _) | go_size))⟩ | exact ⟨by simp [*], (by repeat' (first | (with_reducible exact Below.refl _ _) | (with_reducible assumption) | (with_reducible refine Below.alloc ?_ ?_ _) | (with_reducible refine Below.drew ?_) | (with_reducible refine below_drewN ?_ _) | (with_reducible refine Below.setCell ?_ ?_ _) | go_size))⟩
      · rcases h3 : primeB p with _ | _
        · rw [show vEI n p = false from vEI_bad (by simp [*]), oFor_false]
          go_enter Try.func32, Try.ntmps32
          go_wp2_with fail
          ((with_reducible refine (nuGood_any n _).mono ?_); rintro e w0 ⟨rfl, rfl⟩)
          go_wp2_with fail
          ((with_reducible refine (nuGood_any p _).mono ?_); rintro e w0 ⟨rfl, rfl⟩)
          go_wp2_with fail
          ((with_reducible refine (nuPrime_any _ _ (good_hi h2) (by have := good_lo h2; omega)).mono ?_); rintro e w0 ⟨rfl, rfl⟩)
          go_wp2
          go_ret2
          first | exact ⟨rfl, (by repeat' (first | (with_reducible exact Below.refl _ _) | (with_reducible assumption) | (with_reducible refine Below.alloc ?_ ?_ _) | (with_reducible refine Below.drew ?_) | (with_reducible refine below_drewN ?_ _) | (with_reducible refine Below.setCell ?_ ?_ _) | go_size))⟩ | exact ⟨by simp [*], (by repeat' (first | (with_reducible exact Below.refl _ _) | (with_reducible assumption) | (with_reducible refine Below.alloc ?_ ?_ _) | (with_reducible refine Below.drew ?_) | (with_reducible refine below_drewN ?_ _) | (with_reducible refine Below.setCell ?_ ?_ _) | go_size))⟩
        · rw [vEI_ok h0 h1 h2 h3, oFor_true]
          have p1 := (primeB_iff.1 h3).1
          go_enter Try.func32, Try.ntmps32
          go_wp2_with fail
          ((with_reducible refine (nuGood_any n _).mono ?_); rintro e w0 ⟨rfl, rfl⟩)
          go_wp2_with fail
          ((with_reducible refine (nuGood_any p _).mono ?_); rintro e w0 ⟨rfl, rfl⟩)
          go_wp2_with fail
          ((with_reducible refine (nuPrime_any _ _ (good_hi h2) (by have := good_lo h2; omega)).mono ?_); rintro e w0 ⟨rfl, rfl⟩)
          go_wp2_with fail
          ((with_reducible refine (nuExponent_any _ _ _ (good_lo h0) (good_hi h0) h1 p1 (good_hi h2)).mono ?_); rintro e w0 ⟨rfl, rfl⟩)
          go_wp2
          go_ret2
          first | exact ⟨rfl, (by repeat' (first | (with_reducible exact Below.refl _ _) | (with_reducible assumption) | (with_reducible refine Below.alloc ?_ ?_ _) | (with_reducible refine Below.drew ?_) | (with_reducible refine below_drewN ?_ _) | (with_reducible refine Below.setCell ?_ ?_ _) | go_size))⟩ | exact ⟨by simp [*], (by repeat' (first | (with_reducible exact Below.refl _ _) | (with_reducible assumption) | (with_reducible refine Below.alloc ?_ ?_ _) | (with_reducible refine Below.drew ?_) | (with_reducible refine below_drewN ?_ _) | (with_reducible refine Below.setCell ?_ ?_ _) | go_size))⟩

theorem implEI_any (n p : Int) (w : World) : Calls Try.prog 33 #[.int .i64 n, .int .i64 p] w fun e w' =>
    e = .returned (.tuple #[.int .i64 (oFor (vEI n p) (exN n.natAbs p.toNat)), .bool (vEI n p)]) ∧ Below w.heap.size w w' := by
  rcases h0 : good n with _ | _
  · rw [show vEI n p = false from vEI_bad (by simp [*]), oFor_false]
    go_enter Try.func33, Try.ntmps33
    go_wp2_with fail
    ((with_reducible refine (are2 n p _ _ (by simp) (by simp)).mono ?_); rintro e w0 ⟨rfl, rfl⟩)
    go_wp2
    go_ret2
    first | exact ⟨rfl, (by repeat' (first | (with_reducible exact Below.refl _ _) | (with_reducible assumption) | (with_reducible refine Below.alloc ?_ ?_ _) | (with_reducible refine Below.drew ?_) | (with_reducible refine below_drewN ?_ _) | (with_reducible refine Below.setCell ?_ ?_ _) | go_size))⟩ | exact ⟨by simp [*], (by repeat' (first | (with_reducible exact Below.refl _ _) | (with_reducible assumption) | (with_reducible refine Below.alloc ?_ ?_ _) | (with_reducible refine Below.drew ?_) | (with_reducible refine below_drewN ?_ _) | (with_reducible refine Below.setCell ?_ ?_ _) | go_size))⟩
  · rcases h1 : good p with _ | _
    · rw [show vEI n p = false from vEI_bad (by simp [*]), oFor_false]
      go_enter Try.func33, Try.ntmps33
      go_wp2_with fail
      ((with_reducible refine (are2 n p _ _ (by simp) (by simp)).mono ?_); rintro e w0 ⟨rfl, rfl⟩)
      go_wp2
      go_ret2
      first | exact ⟨rfl, (by repeat' (first | (with_reducible exact Below.refl _ _) | (with_reducible assumption) | (with_reducible refine Below.alloc ?_ ?_ _) | (with_reducible refine Below.drew ?_) | (with_reducible refine below_drewN ?_ _) | (with_reducible refine Below.setCell ?_ ?_ _) | go_size))⟩ | exact ⟨by simp [*], (by repeat' (first | (with_reducible exact Below.refl _ _) | (with_reducible assumption) | (with_reducible refine Below.alloc ?_ ?_ _) | (with_reducible refine Below.drew ?_) | (with_reducible refine below_drewN ?_ _) | (with_reducible refine Below.setCell ?_ ?_ _) | go_size))⟩
    · by_cases h2 : n = 0
      · rw [show vEI n p = false from vEI_bad (by simp [*]), oFor_false]
        have he2 : (n == 0) = true := by simpa using h2
        clear h2
        go_enter Try.func33, Try.ntmps33
        go_wp2_with fail
        ((with_reducible refine (are2 n p _ _ (by simp) (by simp)).mono ?_); rintro e w0 ⟨rfl, rfl⟩)
        go_wp2
        go_ret2
        first | exact ⟨rfl, (by repeat' (first | (with_reducible exact Below.refl _ _) | (with_reducible assumption) | (with_reducible refine Below.alloc ?_ ?_ _) | (with_reducible refine Below.drew ?_) | (with_reducible refine below_drewN ?_ _) | (with_reducible refine Below.setCell ?_ ?_ _) | go_size))⟩ | exact ⟨by simp [*], (by repeat' (first | (with_reducible exact Below.refl _ _) | (with_reducible assumption) | (with_reducible refine Below.alloc ?_ ?_ _) | (with_reducible refine Below.drew ?_) | (with_reducible refine below_drewN ?_ _) | (with_reducible refine Below.setCell ?_ ?_ _) | go_size))⟩
      · rcases h3 : primeB p with _ | _
        · rw [show vEI n p = false from vEI_bad (by simp [*]), oFor_false]
          go_enter Try.func33, Try.ntmps33
          go_wp2_with fail
          ((with_reducible refine (are2 n p _ _ (by simp) (by simp)).mono ?_); rintro e w0 ⟨rfl, rfl⟩)
          go_wp2_with fail
          ((with_reducible refine (isPrime_any _ _ (good_hi h1) (by have := good_lo h1; omega)).mono ?_); rintro e w0 ⟨rfl, rfl⟩)
          go_wp2
          go_ret2
          first | exact ⟨rfl, (by repeat' (first | (with_reducible exact Below.refl _ _) | (with_reducible assumption) | (with_reducible refine Below.alloc ?_ ?_ _) | (with_reducible refine Below.drew ?_) | (with_reducible refine below_drewN ?_ _) | (with_reducible refine Below.setCell ?_ ?_ _) | go_size))⟩ | exact ⟨by simp [*], (by repeat' (first | (with_reducible exact Below.refl _ _) | (with_reducible assumption) | (with_reducible refine Below.alloc ?_ ?_ _) | (with_reducible refine Below.drew ?_) | (with_reducible refine below_drewN ?_ _) | (with_reducible refine Below.setCell ?_ ?_ _) | go_size))⟩
        · rw [vEI_ok h0 h2 h1 h3, oFor_true]
          have p1 := (primeB_iff.1 h3).1
          go_enter Try.func33, Try.ntmps33
          go_wp2_with fail
          ((with_reducible refine (are2 n p _ _ (by simp) (by simp)).mono ?_); rintro e w0 ⟨rfl, rfl⟩)
          go_wp2_with fail
          ((with_reducible refine (isPrime_any _ _ (good_hi h1) (by have := good_lo h1; omega)).mono ?_); rintro e w0 ⟨rfl, rfl⟩)
          go_wp2_with fail
          ((with_reducible refine (exponent_any _ _ _ (good_lo h0) (good_hi h0) h2 p1 (good_hi h1)).mono ?_); rintro e w0 ⟨rfl, rfl⟩)
          go_wp2
          go_ret2
          first | exact ⟨rfl, (by repeat' (first | (with_reducible exact Below.refl _ _) | (with_reducible assumption) | (with_reducible refine Below.alloc ?_ ?_ _) | (with_reducible refine Below.drew ?_) | (with_reducible refine below_drewN ?_ _) | (with_reducible refine Below.setCell ?_ ?_ _) | go_size))⟩ | exact ⟨by simp [*], (by repeat' (first | (with_reducible exact Below.refl _ _) | (with_reducible assumption) | (with_reducible refine Below.alloc ?_ ?_ _) | (with_reducible refine Below.drew ?_) | (with_reducible refine below_drewN ?_ _) | (with_reducible refine Below.setCell ?_ ?_ _) | go_size))⟩

theorem law_FnExactFloorDivide (a b : Int) (w : World) (_ : In64 a) (_ : In64 b) : Calls Try.prog 6 #[.int .i64 a, .int .i64 b] w fun e w' => e = .returned (.bool true) ∧ Below w.heap.size w w' := by
  go_enter Try.func6, Try.ntmps6
  go_wp2_with fail
  ((with_reducible refine (specFD_any _ _ _).mono ?_); rintro e w1 ⟨rfl, hb1⟩)
  obtain ⟨hc1, hf1⟩ := bcell hb1
  have hz1 := hb1.size
  try simp only [World.size_alloc, World.size_drew, World.size_setCell] at hz1
  try have hs1 : w.heap.size < w1.heap.size := by omega
  have bl1 : Below w.heap.size w w1 := Below.trans (by go_grown) (hb1.mono (by go_size))
  go_wp2_with fail
  ((with_reducible refine (implFD_any _ _ _).mono ?_); rintro e w2 ⟨rfl, hb2⟩)
  obtain ⟨hc2, hf2⟩ := bcell hb2
  have hz2 := hb2.size
  try simp only [World.size_alloc, World.size_drew, World.size_setCell] at hz2
  try have hs2 : w.heap.size < w2.heap.size := by omega
  have bl2 : Below w.heap.size w w2 := Below.trans (by go_grown) (hb2.mono (by go_size))
  go_wp2
  go_ret
  exact ⟨rfl, (by repeat' (first | (with_reducible exact Below.refl _ _) | (with_reducible assumption) | (with_reducible refine Below.alloc ?_ ?_ _) | (with_reducible refine Below.drew ?_) | (with_reducible refine below_drewN ?_ _) | (with_reducible refine Below.setCell ?_ ?_ _) | go_size))⟩

theorem law_FnExactSquareFreePart (n : Int) (w : World) (_ : In64 n) : Calls Try.prog 7 #[.int .i64 n] w fun e w' => e = .returned (.bool true) ∧ Below w.heap.size w w' := by
  go_enter Try.func7, Try.ntmps7
  go_wp2_with fail
  ((with_reducible refine (specSF_any _ _).mono ?_); rintro e w1 ⟨rfl, hb1⟩)
  obtain ⟨hc1, hf1⟩ := bcell hb1
  have hz1 := hb1.size
  try simp only [World.size_alloc, World.size_drew, World.size_setCell] at hz1
  try have hs1 : w.heap.size < w1.heap.size := by omega
  have bl1 : Below w.heap.size w w1 := Below.trans (by go_grown) (hb1.mono (by go_size))
  go_wp2_with fail
  ((with_reducible refine (implSF_any _ _).mono ?_); rintro e w2 ⟨rfl, hb2⟩)
  obtain ⟨hc2, hf2⟩ := bcell hb2
  have hz2 := hb2.size
  try simp only [World.size_alloc, World.size_drew, World.size_setCell] at hz2
  try have hs2 : w.heap.size < w2.heap.size := by omega
  have bl2 : Below w.heap.size w w2 := Below.trans (by go_grown) (hb2.mono (by go_size))
  go_wp2
  go_ret
  exact ⟨rfl, (by repeat' (first | (with_reducible exact Below.refl _ _) | (with_reducible assumption) | (with_reducible refine Below.alloc ?_ ?_ _) | (with_reducible refine Below.drew ?_) | (with_reducible refine below_drewN ?_ _) | (with_reducible refine Below.setCell ?_ ?_ _) | go_size))⟩

theorem law_FnExactPowerModulo (a k m : Int) (w : World) (_ : In64 a) (_ : In64 k) (_ : In64 m) : Calls Try.prog 10 #[.int .i64 a, .int .i64 k, .int .i64 m] w fun e w' => e = .returned (.bool true) ∧ Below w.heap.size w w' := by
  go_enter Try.func10, Try.ntmps10
  go_wp2_with fail
  ((with_reducible refine (specPM_any _ _ _ _).mono ?_); rintro e w1 ⟨rfl, hb1⟩)
  obtain ⟨hc1, hf1⟩ := bcell hb1
  have hz1 := hb1.size
  try simp only [World.size_alloc, World.size_drew, World.size_setCell] at hz1
  try have hs1 : w.heap.size < w1.heap.size := by omega
  have bl1 : Below w.heap.size w w1 := Below.trans (by go_grown) (hb1.mono (by go_size))
  go_wp2_with fail
  ((with_reducible refine (implPM_any _ _ _ _).mono ?_); rintro e w2 ⟨rfl, hb2⟩)
  obtain ⟨hc2, hf2⟩ := bcell hb2
  have hz2 := hb2.size
  try simp only [World.size_alloc, World.size_drew, World.size_setCell] at hz2
  try have hs2 : w.heap.size < w2.heap.size := by omega
  have bl2 : Below w.heap.size w w2 := Below.trans (by go_grown) (hb2.mono (by go_size))
  go_wp2
  go_ret
  exact ⟨rfl, (by repeat' (first | (with_reducible exact Below.refl _ _) | (with_reducible assumption) | (with_reducible refine Below.alloc ?_ ?_ _) | (with_reducible refine Below.drew ?_) | (with_reducible refine below_drewN ?_ _) | (with_reducible refine Below.setCell ?_ ?_ _) | go_size))⟩

theorem law_FnExactExponentIn (n p : Int) (w : World) (_ : In64 n) (_ : In64 p) : Calls Try.prog 11 #[.int .i64 n, .int .i64 p] w fun e w' => e = .returned (.bool true) ∧ Below w.heap.size w w' := by
  go_enter Try.func11, Try.ntmps11
  go_wp2_with fail
  ((with_reducible refine (specEI_any _ _ _).mono ?_); rintro e w1 ⟨rfl, hb1⟩)
  obtain ⟨hc1, hf1⟩ := bcell hb1
  have hz1 := hb1.size
  try simp only [World.size_alloc, World.size_drew, World.size_setCell] at hz1
  try have hs1 : w.heap.size < w1.heap.size := by omega
  have bl1 : Below w.heap.size w w1 := Below.trans (by go_grown) (hb1.mono (by go_size))
  go_wp2_with fail
  ((with_reducible refine (implEI_any _ _ _).mono ?_); rintro e w2 ⟨rfl, hb2⟩)
  obtain ⟨hc2, hf2⟩ := bcell hb2
  have hz2 := hb2.size
  try simp only [World.size_alloc, World.size_drew, World.size_setCell] at hz2
  try have hs2 : w.heap.size < w2.heap.size := by omega
  have bl2 : Below w.heap.size w w2 := Below.trans (by go_grown) (hb2.mono (by go_size))
  go_wp2
  go_ret
  exact ⟨rfl, (by repeat' (first | (with_reducible exact Below.refl _ _) | (with_reducible assumption) | (with_reducible refine Below.alloc ?_ ?_ _) | (with_reducible refine Below.drew ?_) | (with_reducible refine below_drewN ?_ _) | (with_reducible refine Below.setCell ?_ ?_ _) | go_size))⟩
end Go.Proofs.Ytcnmhofmekfmgaa
