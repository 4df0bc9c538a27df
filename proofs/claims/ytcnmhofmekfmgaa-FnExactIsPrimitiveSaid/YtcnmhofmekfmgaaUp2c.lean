/-
  The walks of the laws on contents.
-/
import Derived.Test.YtcnmhofmekfmgaaCnt
import Derived.Test.YtcnmhofmekfmgaaFrame
namespace Go.Proofs.Ytcnmhofmekfmgaa
open Go.RowKit
set_option linter.unusedSimpArgs false
set_option linter.unusedVariables false

theorem law_FnExactContent (a b c : Int) (w : World) (_ : In64 a) (_ : In64 b) (_ : In64 c) : Calls Try.prog 8 #[.agg #[.int .i64 a, .int .i64 b, .int .i64 c]] w fun e w' => e = .returned (.bool true) ∧ Below w.heap.size w w' := by
  go_enter Try.func8, Try.ntmps8
  go_wp2_with fail
  ((with_reducible refine (toForm_any _ _ _ _).mono ?_); rintro e w1 ⟨rfl, hb1⟩)
  obtain ⟨hc1, hf1⟩ := bcell hb1
  have hz1 := hb1.size
  try simp only [World.size_alloc, World.size_drew, World.size_setCell] at hz1
  try have hs1 : w.heap.size < w1.heap.size := by omega
  have bl1 : Below w.heap.size w w1 := Below.trans (by go_grown) (hb1.mono (by go_size))
  go_wp2_with fail
  ((with_reducible refine (specContent_any _ _ _ _).mono ?_); rintro e w2 ⟨rfl, hb2⟩)
  obtain ⟨hc2, hf2⟩ := bcell hb2
  have hz2 := hb2.size
  try simp only [World.size_alloc, World.size_drew, World.size_setCell] at hz2
  try have hs2 : w.heap.size < w2.heap.size := by omega
  have bl2 : Below w.heap.size w w2 := Below.trans (by go_grown) (hb2.mono (by go_size))
  go_wp2_with fail
  ((with_reducible refine (toForm_any _ _ _ _).mono ?_); rintro e w3 ⟨rfl, hb3⟩)
  obtain ⟨hc3, hf3⟩ := bcell hb3
  have hz3 := hb3.size
  try simp only [World.size_alloc, World.size_drew, World.size_setCell] at hz3
  try have hs3 : w.heap.size < w3.heap.size := by omega
  have bl3 : Below w.heap.size w w3 := Below.trans (by go_grown) (hb3.mono (by go_size))
  go_wp2_with fail
  ((with_reducible refine (implContent_any _ _ _ _).mono ?_); rintro e w4 ⟨rfl, hb4⟩)
  obtain ⟨hc4, hf4⟩ := bcell hb4
  have hz4 := hb4.size
  try simp only [World.size_alloc, World.size_drew, World.size_setCell] at hz4
  try have hs4 : w.heap.size < w4.heap.size := by omega
  have bl4 : Below w.heap.size w w4 := Below.trans (by go_grown) (hb4.mono (by go_size))
  go_wp2
  go_ret
  exact ⟨rfl, (by repeat' (first | (with_reducible exact Below.refl _ _) | (with_reducible assumption) | (with_reducible refine Below.alloc ?_ ?_ _) | (with_reducible refine Below.drew ?_) | (with_reducible refine below_drewN ?_ _) | (with_reducible refine Below.setCell ?_ ?_ _) | go_size))⟩

theorem law_FnExactIsPrimitive (a b c : Int) (w : World) (_ : In64 a) (_ : In64 b) (_ : In64 c) : Calls Try.prog 9 #[.agg #[.int .i64 a, .int .i64 b, .int .i64 c]] w fun e w' => e = .returned (.bool true) ∧ Below w.heap.size w w' := by
  go_enter Try.func9, Try.ntmps9
  go_wp2_with fail
  ((with_reducible refine (toForm_any _ _ _ _).mono ?_); rintro e w1 ⟨rfl, hb1⟩)
  obtain ⟨hc1, hf1⟩ := bcell hb1
  have hz1 := hb1.size
  try simp only [World.size_alloc, World.size_drew, World.size_setCell] at hz1
  try have hs1 : w.heap.size < w1.heap.size := by omega
  have bl1 : Below w.heap.size w w1 := Below.trans (by go_grown) (hb1.mono (by go_size))
  go_wp2_with fail
  ((with_reducible refine (specPrimitive_any _ _ _ _).mono ?_); rintro e w2 ⟨rfl, hb2⟩)
  obtain ⟨hc2, hf2⟩ := bcell hb2
  have hz2 := hb2.size
  try simp only [World.size_alloc, World.size_drew, World.size_setCell] at hz2
  try have hs2 : w.heap.size < w2.heap.size := by omega
  have bl2 : Below w.heap.size w w2 := Below.trans (by go_grown) (hb2.mono (by go_size))
  go_wp2_with fail
  ((with_reducible refine (toForm_any _ _ _ _).mono ?_); rintro e w3 ⟨rfl, hb3⟩)
  obtain ⟨hc3, hf3⟩ := bcell hb3
  have hz3 := hb3.size
  try simp only [World.size_alloc, World.size_drew, World.size_setCell] at hz3
  try have hs3 : w.heap.size < w3.heap.size := by omega
  have bl3 : Below w.heap.size w w3 := Below.trans (by go_grown) (hb3.mono (by go_size))
  go_wp2_with fail
  ((with_reducible refine (implPrimitive_any _ _ _ _).mono ?_); rintro e w4 ⟨rfl, hb4⟩)
  obtain ⟨hc4, hf4⟩ := bcell hb4
  have hz4 := hb4.size
  try simp only [World.size_alloc, World.size_drew, World.size_setCell] at hz4
  try have hs4 : w.heap.size < w4.heap.size := by omega
  have bl4 : Below w.heap.size w w4 := Below.trans (by go_grown) (hb4.mono (by go_size))
  go_wp2
  go_ret
  exact ⟨rfl, (by repeat' (first | (with_reducible exact Below.refl _ _) | (with_reducible assumption) | (with_reducible refine Below.alloc ?_ ?_ _) | (with_reducible refine Below.drew ?_) | (with_reducible refine below_drewN ?_ _) | (with_reducible refine Below.setCell ?_ ?_ _) | go_size))⟩
end Go.Proofs.Ytcnmhofmekfmgaa
