/-
  'LegendreSymbol': its contracts and its law's walk.
-/
import Derived.Test.YtbiaokglmdmopaaJS
import Derived.Test.YtbiaokglmdmopaaUp2a
namespace Go.Proofs.Ytbiaokglmdmopaa
open Go.RowKit
set_option linter.unusedSimpArgs false
set_option linter.unusedVariables false

theorem oddP_bd {p : Int} (h : oddP p = true) : 3 ≤ p ∧ p ≤ 1000000 ∧ p % 2 = 1 := by
  obtain ⟨h1, h2, h3⟩ := oddP_iff.1 h
  have hg := good_iff.1 h1
  obtain ⟨h4, h5⟩ := primeB_iff.1 h2
  have h6 : ¬ p % 2 = 0 := fun h7 => h5.2 2 (Nat.le_refl _) (by omega) (by omega)
  omega
theorem oddP_Pr {p : Int} (h : oddP p = true) : Jac.Pr p.toNat := (primeB_iff.1 (oddP_iff.1 h).2.1).2
def vLS (a p : Int) : Bool := good a && oddP p
theorem vLS_ok {a p : Int} (h0 : good a = true) (h1 : oddP p = true) : vLS a p = true := by unfold vLS; rw [h0, h1]; rfl

theorem specLS_any (a p : Int) (w : World) (i1 : In64 p): Calls Try.prog 29 #[.int .i64 a, .int .i64 p] w fun e w' =>
    e = .returned (.tuple #[.int .i64 (oFor (vLS a p) (Jac.J a p.toNat)), .bool (vLS a p)]) ∧ Below w.heap.size w w' := by
  rcases h0 : good a with _ | _
  · rw [show vLS a p = false from by simp [vLS, *], oFor_false]
    go_enter Try.func29, Try.ntmps29
    go_wp2_with fail
    ((with_reducible refine (nuGood_any a _).mono ?_); rintro e w0 ⟨rfl, rfl⟩)
    go_wp2
    go_ret2
    exact ⟨rfl, (by repeat' (first | (with_reducible exact Below.refl _ _) | (with_reducible assumption) | (with_reducible refine Below.alloc ?_ ?_ _) | (with_reducible refine Below.drew ?_) | (with_reducible refine below_drewN ?_ _) | (with_reducible refine Below.setCell ?_ ?_ _) | go_size))⟩
  · rcases h1 : oddP p with _ | _
    · rw [show vLS a p = false from by simp [vLS, *], oFor_false]
      go_enter Try.func29, Try.ntmps29
      go_wp2_with fail
      ((with_reducible refine (nuGood_any a _).mono ?_); rintro e w0 ⟨rfl, rfl⟩)
      go_wp2_with fail
      ((with_reducible refine (syOddPrime_any p _ i1).mono ?_); rintro e w1 ⟨rfl, hb1⟩)
      obtain ⟨hc1, hf1⟩ := bcell hb1
      have hz1 := hb1.size
      try simp only [World.size_alloc, World.size_drew, World.size_setCell] at hz1
      try have hs1 : w.heap.size < w1.heap.size := by omega
      have bl1 : Below w.heap.size w w1 := Below.trans (by go_grown) (hb1.mono (by go_size))
      go_wp2
      go_ret2
      exact ⟨rfl, (by repeat' (first | (with_reducible exact Below.refl _ _) | (with_reducible assumption) | (with_reducible refine Below.alloc ?_ ?_ _) | (with_reducible refine Below.drew ?_) | (with_reducible refine below_drewN ?_ _) | (with_reducible refine Below.setCell ?_ ?_ _) | go_size))⟩
    · have ha := good_iff.1 h0
      have hn := oddP_bd h1
      rw [vLS_ok h0 h1, oFor_true]
      go_enter Try.func29, Try.ntmps29
      go_wp2_with fail
      ((with_reducible refine (nuGood_any a _).mono ?_); rintro e w0 ⟨rfl, rfl⟩)
      go_wp2_with fail
      ((with_reducible refine (syOddPrime_any p _ i1).mono ?_); rintro e w1 ⟨rfl, hb1⟩)
      obtain ⟨hc1, hf1⟩ := bcell hb1
      have hz1 := hb1.size
      try simp only [World.size_alloc, World.size_drew, World.size_setCell] at hz1
      try have hs1 : w.heap.size < w1.heap.size := by omega
      have bl1 : Below w.heap.size w w1 := Below.trans (by go_grown) (hb1.mono (by go_size))
      go_wp2_with fail
      ((with_reducible refine (syJac_any a p _ ha.1 ha.2 (by omega) hn.2.1 hn.2.2).mono ?_); rintro e w2 ⟨rfl, hb2⟩)
      obtain ⟨hc2, hf2⟩ := bcell hb2
      have hz2 := hb2.size
      try simp only [World.size_alloc, World.size_drew, World.size_setCell] at hz2
      try have hs2 : w.heap.size < w2.heap.size := by omega
      have bl2 : Below w.heap.size w w2 := Below.trans (by go_grown) (hb2.mono (by go_size))
      go_wp2
      go_ret2
      exact ⟨rfl, (by repeat' (first | (with_reducible exact Below.refl _ _) | (with_reducible assumption) | (with_reducible refine Below.alloc ?_ ?_ _) | (with_reducible refine Below.drew ?_) | (with_reducible refine below_drewN ?_ _) | (with_reducible refine Below.setCell ?_ ?_ _) | go_size))⟩

theorem implLS_any (a p : Int) (w : World) (i1 : In64 p): Calls Try.prog 30 #[.int .i64 a, .int .i64 p] w fun e w' =>
    e = .returned (.tuple #[.int .i64 (oFor (vLS a p) (Jac.J a p.toNat)), .bool (vLS a p)]) ∧ Below w.heap.size w w' := by
  rcases h0 : good a with _ | _
  · rw [show vLS a p = false from by simp [vLS, *], oFor_false]
    go_enter Try.func30, Try.ntmps30
    go_wp2_with fail
    ((with_reducible refine (are1 a _ _ (by simp)).mono ?_); rintro e w0 ⟨rfl, rfl⟩)
    go_wp2
    go_ret2
    exact ⟨rfl, (by repeat' (first | (with_reducible exact Below.refl _ _) | (with_reducible assumption) | (with_reducible refine Below.alloc ?_ ?_ _) | (with_reducible refine Below.drew ?_) | (with_reducible refine below_drewN ?_ _) | (with_reducible refine Below.setCell ?_ ?_ _) | go_size))⟩
  · rcases h1 : oddP p with _ | _
    · rw [show vLS a p = false from by simp [vLS, *], oFor_false]
      go_enter Try.func30, Try.ntmps30
      go_wp2_with fail
      ((with_reducible refine (are1 a _ _ (by simp)).mono ?_); rintro e w0 ⟨rfl, rfl⟩)
      go_wp2_with fail
      ((with_reducible refine (isOddPrime_any p _).mono ?_); rintro e w1 ⟨rfl, hb1⟩)
      obtain ⟨hc1, hf1⟩ := bcell hb1
      have hz1 := hb1.size
      try simp only [World.size_alloc, World.size_drew, World.size_setCell] at hz1
      try have hs1 : w.heap.size < w1.heap.size := by omega
      have bl1 : Below w.heap.size w w1 := Below.trans (by go_grown) (hb1.mono (by go_size))
      go_wp2
      go_ret2
      exact ⟨rfl, (by repeat' (first | (with_reducible exact Below.refl _ _) | (with_reducible assumption) | (with_reducible refine Below.alloc ?_ ?_ _) | (with_reducible refine Below.drew ?_) | (with_reducible refine below_drewN ?_ _) | (with_reducible refine Below.setCell ?_ ?_ _) | go_size))⟩
    · have ha := good_iff.1 h0
      have hn := oddP_bd h1
      rw [vLS_ok h0 h1, oFor_true]
      go_enter Try.func30, Try.ntmps30
      go_wp2_with fail
      ((with_reducible refine (are1 a _ _ (by simp)).mono ?_); rintro e w0 ⟨rfl, rfl⟩)
      go_wp2_with fail
      ((with_reducible refine (isOddPrime_any p _).mono ?_); rintro e w1 ⟨rfl, hb1⟩)
      obtain ⟨hc1, hf1⟩ := bcell hb1
      have hz1 := hb1.size
      try simp only [World.size_alloc, World.size_drew, World.size_setCell] at hz1
      try have hs1 : w.heap.size < w1.heap.size := by omega
      have bl1 : Below w.heap.size w w1 := Below.trans (by go_grown) (hb1.mono (by go_size))
      go_wp2_with fail
      ((with_reducible refine (jacobi_any a p _ ha.1 ha.2 (by omega) hn.2.1 hn.2.2).mono ?_); rintro e w0 ⟨rfl, rfl⟩)
      go_wp2
      go_ret2
      exact ⟨rfl, (by repeat' (first | (with_reducible exact Below.refl _ _) | (with_reducible assumption) | (with_reducible refine Below.alloc ?_ ?_ _) | (with_reducible refine Below.drew ?_) | (with_reducible refine below_drewN ?_ _) | (with_reducible refine Below.setCell ?_ ?_ _) | go_size))⟩

theorem law_FnExactLegendreSymbol (a p : Int) (w : World) (_ : In64 a) (_ : In64 p) : Calls Try.prog 10 #[.int .i64 a, .int .i64 p] w fun e w' => e = .returned (.bool true) ∧ Below w.heap.size w w' := by
  go_enter Try.func10, Try.ntmps10
  go_wp2_with fail
  ((with_reducible refine (specLS_any _ _ _ (by assumption)).mono ?_); rintro e w1 ⟨rfl, hb1⟩)
  obtain ⟨hc1, hf1⟩ := bcell hb1
  have hz1 := hb1.size
  try simp only [World.size_alloc, World.size_drew, World.size_setCell] at hz1
  try have hs1 : w.heap.size < w1.heap.size := by omega
  have bl1 : Below w.heap.size w w1 := Below.trans (by go_grown) (hb1.mono (by go_size))
  go_wp2_with fail
  ((with_reducible refine (implLS_any _ _ _ (by assumption)).mono ?_); rintro e w2 ⟨rfl, hb2⟩)
  obtain ⟨hc2, hf2⟩ := bcell hb2
  have hz2 := hb2.size
  try simp only [World.size_alloc, World.size_drew, World.size_setCell] at hz2
  try have hs2 : w.heap.size < w2.heap.size := by omega
  have bl2 : Below w.heap.size w w2 := Below.trans (by go_grown) (hb2.mono (by go_size))
  go_wp2
  go_ret
  exact ⟨rfl, (by repeat' (first | (with_reducible exact Below.refl _ _) | (with_reducible assumption) | (with_reducible refine Below.alloc ?_ ?_ _) | (with_reducible refine Below.drew ?_) | (with_reducible refine below_drewN ?_ _) | (with_reducible refine Below.setCell ?_ ?_ _) | go_size))⟩
end Go.Proofs.Ytbiaokglmdmopaa
