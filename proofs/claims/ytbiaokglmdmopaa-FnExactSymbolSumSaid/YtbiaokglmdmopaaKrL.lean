/-
  'KroneckerSymbol': its contracts and its law's walk.
-/
import Derived.Test.YtbiaokglmdmopaaKr
namespace Go.Proofs.Ytbiaokglmdmopaa
open Go.RowKit
set_option linter.unusedSimpArgs false
set_option linter.unusedVariables false

def vKS (a n : Int) : Bool := good a && good n
theorem vKS_a {a n : Int} (h : good a = false) : vKS a n = false := by simp [vKS, h]
theorem vKS_n {a n : Int} (h : good n = false) : vKS a n = false := by simp [vKS, h]
theorem vKS_ok {a n : Int} (h0 : good a = true) (h1 : good n = true) : vKS a n = true := by simp [vKS, h0, h1]
theorem specKS_any (a n : Int) (w : World) : Calls Try.prog 33 #[.int .i64 a, .int .i64 n] w fun e w' =>
    e = .returned (.tuple #[.int .i64 (oFor (vKS a n) (kr a n)), .bool (vKS a n)]) ∧ Below w.heap.size w w' := by
  rcases h0 : good a with _ | _
  · rw [show vKS a n = false from vKS_a h0]
    try simp only [oFor_false]
    go_enter Try.func33, Try.ntmps33
    go_wp2_with fail
    ((with_reducible refine (nuGood_any a _).mono ?_); rintro e w0 ⟨rfl, rfl⟩)
    go_wp2
    go_ret2
    exact ⟨rfl, (by repeat' (first | (with_reducible exact Below.refl _ _) | (with_reducible assumption) | (with_reducible refine Below.alloc ?_ ?_ _) | (with_reducible refine Below.drew ?_) | (with_reducible refine below_drewN ?_ _) | (with_reducible refine Below.setCell ?_ ?_ _) | go_size))⟩
  · rcases h1 : good n with _ | _
    · rw [show vKS a n = false from vKS_n h1]
      try simp only [oFor_false]
      go_enter Try.func33, Try.ntmps33
      go_wp2_with fail
      ((with_reducible refine (nuGood_any a _).mono ?_); rintro e w0 ⟨rfl, rfl⟩)
      go_wp2_with fail
      ((with_reducible refine (nuGood_any n _).mono ?_); rintro e w0 ⟨rfl, rfl⟩)
      go_wp2
      go_ret2
      exact ⟨rfl, (by repeat' (first | (with_reducible exact Below.refl _ _) | (with_reducible assumption) | (with_reducible refine Below.alloc ?_ ?_ _) | (with_reducible refine Below.drew ?_) | (with_reducible refine below_drewN ?_ _) | (with_reducible refine Below.setCell ?_ ?_ _) | go_size))⟩
    · have ha := good_iff.1 h0
      have hn := good_iff.1 h1
      rw [vKS_ok h0 h1, oFor_true]
      go_enter Try.func33, Try.ntmps33
      go_wp2_with fail
      ((with_reducible refine (nuGood_any a _).mono ?_); rintro e w0 ⟨rfl, rfl⟩)
      go_wp2_with fail
      ((with_reducible refine (nuGood_any n _).mono ?_); rintro e w0 ⟨rfl, rfl⟩)
      go_wp2_with fail
      ((with_reducible refine (syKronecker_any a n _ ha.1 ha.2 hn.1 hn.2).mono ?_); rintro e w1 ⟨rfl, hb1⟩)
      obtain ⟨hc1, hf1⟩ := bcell hb1
      have hz1 := hb1.size
      try simp only [World.size_alloc, World.size_drew, World.size_setCell] at hz1
      try have hs1 : w.heap.size < w1.heap.size := by omega
      have bl1 : Below w.heap.size w w1 := Below.trans (by go_grown) (hb1.mono (by go_size))
      go_wp2
      go_ret2
      exact ⟨rfl, (by repeat' (first | (with_reducible exact Below.refl _ _) | (with_reducible assumption) | (with_reducible refine Below.alloc ?_ ?_ _) | (with_reducible refine Below.drew ?_) | (with_reducible refine below_drewN ?_ _) | (with_reducible refine Below.setCell ?_ ?_ _) | go_size))⟩
theorem implKS_any (a n : Int) (w : World) : Calls Try.prog 34 #[.int .i64 a, .int .i64 n] w fun e w' =>
    e = .returned (.tuple #[.int .i64 (oFor (vKS a n) (kr a n)), .bool (vKS a n)]) ∧ Below w.heap.size w w' := by
  rcases h0 : good a with _ | _
  · rw [show vKS a n = false from vKS_a h0]
    try simp only [oFor_false]
    go_enter Try.func34, Try.ntmps34
    go_wp2_with fail
    ((with_reducible refine (are2 a n _ _ (by simp) (by simp)).mono ?_); rintro e w0 ⟨rfl, rfl⟩)
    go_wp2
    go_ret2
    exact ⟨rfl, (by repeat' (first | (with_reducible exact Below.refl _ _) | (with_reducible assumption) | (with_reducible refine Below.alloc ?_ ?_ _) | (with_reducible refine Below.drew ?_) | (with_reducible refine below_drewN ?_ _) | (with_reducible refine Below.setCell ?_ ?_ _) | go_size))⟩
  · rcases h1 : good n with _ | _
    · rw [show vKS a n = false from vKS_n h1]
      try simp only [oFor_false]
      go_enter Try.func34, Try.ntmps34
      go_wp2_with fail
      ((with_reducible refine (are2 a n _ _ (by simp) (by simp)).mono ?_); rintro e w0 ⟨rfl, rfl⟩)
      go_wp2
      go_ret2
      exact ⟨rfl, (by repeat' (first | (with_reducible exact Below.refl _ _) | (with_reducible assumption) | (with_reducible refine Below.alloc ?_ ?_ _) | (with_reducible refine Below.drew ?_) | (with_reducible refine below_drewN ?_ _) | (with_reducible refine Below.setCell ?_ ?_ _) | go_size))⟩
    · have ha := good_iff.1 h0
      have hn := good_iff.1 h1
      rw [vKS_ok h0 h1, oFor_true]
      go_enter Try.func34, Try.ntmps34
      go_wp2_with fail
      ((with_reducible refine (are2 a n _ _ (by simp) (by simp)).mono ?_); rintro e w0 ⟨rfl, rfl⟩)
      go_wp2_with fail
      ((with_reducible refine (kronecker_any a n _ ha.1 ha.2 hn.1 hn.2).mono ?_); rintro e w0 ⟨rfl, rfl⟩)
      go_wp2
      go_ret2
      exact ⟨rfl, (by repeat' (first | (with_reducible exact Below.refl _ _) | (with_reducible assumption) | (with_reducible refine Below.alloc ?_ ?_ _) | (with_reducible refine Below.drew ?_) | (with_reducible refine below_drewN ?_ _) | (with_reducible refine Below.setCell ?_ ?_ _) | go_size))⟩
theorem law_FnExactKroneckerSymbol (a n : Int) (w : World) (ib_a : In64 a) (ib_n : In64 n) : Calls Try.prog 12 #[.int .i64 a, .int .i64 n] w fun e w' => e = .returned (.bool true) ∧ Below w.heap.size w w' := by
  go_enter Try.func12, Try.ntmps12
  go_wp2_with fail
  ((with_reducible refine (specKS_any _ _ _).mono ?_); rintro e w1 ⟨rfl, hb1⟩)
  obtain ⟨hc1, hf1⟩ := bcell hb1
  have hz1 := hb1.size
  try simp only [World.size_alloc, World.size_drew, World.size_setCell] at hz1
  try have hs1 : w.heap.size < w1.heap.size := by omega
  have bl1 : Below w.heap.size w w1 := Below.trans (by go_grown) (hb1.mono (by go_size))
  go_wp2_with fail
  ((with_reducible refine (implKS_any _ _ _).mono ?_); rintro e w2 ⟨rfl, hb2⟩)
  obtain ⟨hc2, hf2⟩ := bcell hb2
  have hz2 := hb2.size
  try simp only [World.size_alloc, World.size_drew, World.size_setCell] at hz2
  try have hs2 : w.heap.size < w2.heap.size := by omega
  have bl2 : Below w.heap.size w w2 := Below.trans (by go_grown) (hb2.mono (by go_size))
  go_wp2
  go_ret
  exact ⟨rfl, (by repeat' (first | (with_reducible exact Below.refl _ _) | (with_reducible assumption) | (with_reducible refine Below.alloc ?_ ?_ _) | (with_reducible refine Below.drew ?_) | (with_reducible refine below_drewN ?_ _) | (with_reducible refine Below.setCell ?_ ?_ _) | go_size))⟩
end Go.Proofs.Ytbiaokglmdmopaa
