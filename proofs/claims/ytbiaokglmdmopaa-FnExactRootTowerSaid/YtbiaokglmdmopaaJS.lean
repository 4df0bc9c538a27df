/-
  'JacobiSymbol': its contracts and its law's walk.
-/
import Derived.Test.YtbiaokglmdmopaaOdd
import Derived.Test.YtbiaokglmdmopaaJacI
import Derived.Test.YtbiaokglmdmopaaJacS2
import Derived.Test.YtbiaokglmdmopaaFrame
namespace Go.Proofs.Ytbiaokglmdmopaa
open Go.RowKit
set_option linter.unusedSimpArgs false
set_option linter.unusedVariables false

def vJS (a n : Int) : Bool := good a && oddM n
theorem vJS_ok {a n : Int} (h0 : good a = true) (h1 : oddM n = true) : vJS a n = true := by unfold vJS; rw [h0, h1]; rfl
theorem jacobi_any (a n : Int) (w : World) (a1 : -1000000 ≤ a) (a2 : a ≤ 1000000) (n1 : 1 ≤ n) (n2 : n ≤ 1000000) (ho : n % 2 = 1) :
    Calls Try.prog 57 #[.int .i64 a, .int .i64 n] w fun e w' => e = .returned (.int .i64 (Jac.J a n.toNat)) ∧ w = w' := by
  obtain ⟨N, rfl⟩ : ∃ N : Nat, n = N := ⟨n.toNat, by omega⟩
  exact jacobi_nat a N w (by omega) (by omega) (by omega) (by omega) (by omega)
theorem syJac_any (a n : Int) (w : World) (a1 : -1000000 ≤ a) (a2 : a ≤ 1000000) (n1 : 1 ≤ n) (n2 : n ≤ 1000000) (ho : n % 2 = 1) :
    Calls Try.prog 55 #[.int .i64 a, .int .i64 n] w fun e w' => e = .returned (.int .i64 (Jac.J a n.toNat)) ∧ Below w.heap.size w w' := by
  obtain ⟨N, rfl⟩ : ∃ N : Nat, n = N := ⟨n.toNat, by omega⟩
  exact syJac_nat a N w (by omega) (by omega) (by omega) (by omega) (by omega)

theorem specJS_any (a n : Int) (w : World) (i1 : In64 n): Calls Try.prog 21 #[.int .i64 a, .int .i64 n] w fun e w' =>
    e = .returned (.tuple #[.int .i64 (oFor (vJS a n) (Jac.J a n.toNat)), .bool (vJS a n)]) ∧ Below w.heap.size w w' := by
  rcases h0 : good a with _ | _
  · rw [show vJS a n = false from by simp [vJS, *], oFor_false]
    go_enter Try.func21, Try.ntmps21
    go_wp2_with fail
    ((with_reducible refine (nuGood_any a _).mono ?_); rintro e w0 ⟨rfl, rfl⟩)
    go_wp2
    go_ret2
    exact ⟨rfl, (by repeat' (first | (with_reducible exact Below.refl _ _) | (with_reducible assumption) | (with_reducible refine Below.alloc ?_ ?_ _) | (with_reducible refine Below.drew ?_) | (with_reducible refine below_drewN ?_ _) | (with_reducible refine Below.setCell ?_ ?_ _) | go_size))⟩
  · rcases h1 : oddM n with _ | _
    · rw [show vJS a n = false from by simp [vJS, *], oFor_false]
      go_enter Try.func21, Try.ntmps21
      go_wp2_with fail
      ((with_reducible refine (nuGood_any a _).mono ?_); rintro e w0 ⟨rfl, rfl⟩)
      go_wp2_with fail
      ((with_reducible refine (syOdd_any n _ i1).mono ?_); rintro e w1 ⟨rfl, hb1⟩)
      obtain ⟨hc1, hf1⟩ := bcell hb1
      have hz1 := hb1.size
      try simp only [World.size_alloc, World.size_drew, World.size_setCell] at hz1
      try have hs1 : w.heap.size < w1.heap.size := by omega
      have bl1 : Below w.heap.size w w1 := Below.trans (by go_grown) (hb1.mono (by go_size))
      go_wp2
      go_ret2
      exact ⟨rfl, (by repeat' (first | (with_reducible exact Below.refl _ _) | (with_reducible assumption) | (with_reducible refine Below.alloc ?_ ?_ _) | (with_reducible refine Below.drew ?_) | (with_reducible refine below_drewN ?_ _) | (with_reducible refine Below.setCell ?_ ?_ _) | go_size))⟩
    · have ha := good_iff.1 h0
      have hn := oddM_iff.1 h1
      rw [vJS_ok h0 h1, oFor_true]
      go_enter Try.func21, Try.ntmps21
      go_wp2_with fail
      ((with_reducible refine (nuGood_any a _).mono ?_); rintro e w0 ⟨rfl, rfl⟩)
      go_wp2_with fail
      ((with_reducible refine (syOdd_any n _ i1).mono ?_); rintro e w1 ⟨rfl, hb1⟩)
      obtain ⟨hc1, hf1⟩ := bcell hb1
      have hz1 := hb1.size
      try simp only [World.size_alloc, World.size_drew, World.size_setCell] at hz1
      try have hs1 : w.heap.size < w1.heap.size := by omega
      have bl1 : Below w.heap.size w w1 := Below.trans (by go_grown) (hb1.mono (by go_size))
      go_wp2_with fail
      ((with_reducible refine (syJac_any a n _ ha.1 ha.2 hn.1 hn.2.1 hn.2.2).mono ?_); rintro e w2 ⟨rfl, hb2⟩)
      obtain ⟨hc2, hf2⟩ := bcell hb2
      have hz2 := hb2.size
      try simp only [World.size_alloc, World.size_drew, World.size_setCell] at hz2
      try have hs2 : w.heap.size < w2.heap.size := by omega
      have bl2 : Below w.heap.size w w2 := Below.trans (by go_grown) (hb2.mono (by go_size))
      go_wp2
      go_ret2
      exact ⟨rfl, (by repeat' (first | (with_reducible exact Below.refl _ _) | (with_reducible assumption) | (with_reducible refine Below.alloc ?_ ?_ _) | (with_reducible refine Below.drew ?_) | (with_reducible refine below_drewN ?_ _) | (with_reducible refine Below.setCell ?_ ?_ _) | go_size))⟩

theorem implJS_any (a n : Int) (w : World) (i1 : In64 n): Calls Try.prog 22 #[.int .i64 a, .int .i64 n] w fun e w' =>
    e = .returned (.tuple #[.int .i64 (oFor (vJS a n) (Jac.J a n.toNat)), .bool (vJS a n)]) ∧ Below w.heap.size w w' := by
  rcases h0 : good a with _ | _
  · rw [show vJS a n = false from by simp [vJS, *], oFor_false]
    go_enter Try.func22, Try.ntmps22
    go_wp2_with fail
    ((with_reducible refine (are1 a _ _ (by simp)).mono ?_); rintro e w0 ⟨rfl, rfl⟩)
    go_wp2
    go_ret2
    exact ⟨rfl, (by repeat' (first | (with_reducible exact Below.refl _ _) | (with_reducible assumption) | (with_reducible refine Below.alloc ?_ ?_ _) | (with_reducible refine Below.drew ?_) | (with_reducible refine below_drewN ?_ _) | (with_reducible refine Below.setCell ?_ ?_ _) | go_size))⟩
  · rcases h1 : oddM n with _ | _
    · rw [show vJS a n = false from by simp [vJS, *], oFor_false]
      go_enter Try.func22, Try.ntmps22
      go_wp2_with fail
      ((with_reducible refine (are1 a _ _ (by simp)).mono ?_); rintro e w0 ⟨rfl, rfl⟩)
      go_wp2_with fail
      ((with_reducible refine (isOddModulus_any n _ i1).mono ?_); rintro e w1 ⟨rfl, hb1⟩)
      obtain ⟨hc1, hf1⟩ := bcell hb1
      have hz1 := hb1.size
      try simp only [World.size_alloc, World.size_drew, World.size_setCell] at hz1
      try have hs1 : w.heap.size < w1.heap.size := by omega
      have bl1 : Below w.heap.size w w1 := Below.trans (by go_grown) (hb1.mono (by go_size))
      go_wp2
      go_ret2
      exact ⟨rfl, (by repeat' (first | (with_reducible exact Below.refl _ _) | (with_reducible assumption) | (with_reducible refine Below.alloc ?_ ?_ _) | (with_reducible refine Below.drew ?_) | (with_reducible refine below_drewN ?_ _) | (with_reducible refine Below.setCell ?_ ?_ _) | go_size))⟩
    · have ha := good_iff.1 h0
      have hn := oddM_iff.1 h1
      rw [vJS_ok h0 h1, oFor_true]
      go_enter Try.func22, Try.ntmps22
      go_wp2_with fail
      ((with_reducible refine (are1 a _ _ (by simp)).mono ?_); rintro e w0 ⟨rfl, rfl⟩)
      go_wp2_with fail
      ((with_reducible refine (isOddModulus_any n _ i1).mono ?_); rintro e w1 ⟨rfl, hb1⟩)
      obtain ⟨hc1, hf1⟩ := bcell hb1
      have hz1 := hb1.size
      try simp only [World.size_alloc, World.size_drew, World.size_setCell] at hz1
      try have hs1 : w.heap.size < w1.heap.size := by omega
      have bl1 : Below w.heap.size w w1 := Below.trans (by go_grown) (hb1.mono (by go_size))
      go_wp2_with fail
      ((with_reducible refine (jacobi_any a n _ ha.1 ha.2 hn.1 hn.2.1 hn.2.2).mono ?_); rintro e w0 ⟨rfl, rfl⟩)
      go_wp2
      go_ret2
      exact ⟨rfl, (by repeat' (first | (with_reducible exact Below.refl _ _) | (with_reducible assumption) | (with_reducible refine Below.alloc ?_ ?_ _) | (with_reducible refine Below.drew ?_) | (with_reducible refine below_drewN ?_ _) | (with_reducible refine Below.setCell ?_ ?_ _) | go_size))⟩

theorem law_FnExactJacobiSymbol (a n : Int) (w : World) (_ : In64 a) (_ : In64 n) : Calls Try.prog 6 #[.int .i64 a, .int .i64 n] w fun e w' => e = .returned (.bool true) ∧ Below w.heap.size w w' := by
  go_enter Try.func6, Try.ntmps6
  go_wp2_with fail
  ((with_reducible refine (specJS_any _ _ _ (by assumption)).mono ?_); rintro e w1 ⟨rfl, hb1⟩)
  obtain ⟨hc1, hf1⟩ := bcell hb1
  have hz1 := hb1.size
  try simp only [World.size_alloc, World.size_drew, World.size_setCell] at hz1
  try have hs1 : w.heap.size < w1.heap.size := by omega
  have bl1 : Below w.heap.size w w1 := Below.trans (by go_grown) (hb1.mono (by go_size))
  go_wp2_with fail
  ((with_reducible refine (implJS_any _ _ _ (by assumption)).mono ?_); rintro e w2 ⟨rfl, hb2⟩)
  obtain ⟨hc2, hf2⟩ := bcell hb2
  have hz2 := hb2.size
  try simp only [World.size_alloc, World.size_drew, World.size_setCell] at hz2
  try have hs2 : w.heap.size < w2.heap.size := by omega
  have bl2 : Below w.heap.size w w2 := Below.trans (by go_grown) (hb2.mono (by go_size))
  go_wp2
  go_ret
  exact ⟨rfl, (by repeat' (first | (with_reducible exact Below.refl _ _) | (with_reducible assumption) | (with_reducible refine Below.alloc ?_ ?_ _) | (with_reducible refine Below.drew ?_) | (with_reducible refine below_drewN ?_ _) | (with_reducible refine Below.setCell ?_ ?_ _) | go_size))⟩
end Go.Proofs.Ytbiaokglmdmopaa
