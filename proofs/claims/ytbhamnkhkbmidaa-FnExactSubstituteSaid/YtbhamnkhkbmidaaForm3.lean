/-
  Contracts of the functions that return a form or a matrix.
-/
import Derived.Test.YtbhamnkhkbmidaaForm
import Derived.Test.YtbhamnkhkbmidaaAr
namespace Go.Proofs.Ytbhamnkhkbmidaa
open Go.RowKit
set_option linter.unusedSimpArgs false
set_option linter.unusedVariables false

theorem foOpposite_any (a b c : Int) (w : World) : Calls Try.prog 55 #[.agg #[.int .i64 a, .int .i64 b, .int .i64 c]] w fun e w' =>
    e = .returned (.agg #[.int .i64 a, .int .i64 (wrap64 (-b)), .int .i64 c]) ∧ Below w.heap.size w w' := by
  go_enter Try.func55, Try.ntmps55
  go_wp2
  go_returns
  exact ⟨rfl, by go_grown⟩

theorem specOpp_any (a b c : Int) (w : World) : Calls Try.prog 33 #[.agg #[.int .i64 a, .int .i64 b, .int .i64 c]] w fun e w' =>
    e = .returned (.tuple #[.agg #[.int .i64 (oFor (good3 a b c) (a)), .int .i64 (oFor (good3 a b c) (wrap64 (-b))), .int .i64 (oFor (good3 a b c) (c))], .bool (good3 a b c)]) ∧ Below w.heap.size w w' := by
  rcases h0 : good3 a b c with _ | _
  · go_enter Try.func33, Try.ntmps33
    go_wp2_with fail
    ((with_reducible refine (foGood_any _ _ _ _).mono ?_); rintro e w1 ⟨rfl, hb1⟩)
    obtain ⟨hc1, hf1⟩ := bcell hb1
    have hz1 := hb1.size
    try simp only [World.size_alloc, World.size_drew, World.size_setCell] at hz1
    try have hs1 : w.heap.size < w1.heap.size := by omega
    have bl1 : Below w.heap.size w w1 := Below.trans (by go_grown) (hb1.mono (by go_size))
    have hs1' : w.heap.size + 1 < w1.heap.size := by omega
    go_wp2
    exact bodyPost_ret (v := .tuple #[.agg #[.int .i64 0, .int .i64 0, .int .i64 0], .bool false]) (by simp [results, Try.results33, go_sem, hc1, hs1']) rfl ⟨rfl, by go_grown⟩
  · go_enter Try.func33, Try.ntmps33
    go_wp2_with fail
    ((with_reducible refine (foGood_any _ _ _ _).mono ?_); rintro e w1 ⟨rfl, hb1⟩)
    obtain ⟨hc1, hf1⟩ := bcell hb1
    have hz1 := hb1.size
    try simp only [World.size_alloc, World.size_drew, World.size_setCell] at hz1
    try have hs1 : w.heap.size < w1.heap.size := by omega
    have bl1 : Below w.heap.size w w1 := Below.trans (by go_grown) (hb1.mono (by go_size))
    have hs1' : w.heap.size + 1 < w1.heap.size := by omega
    go_wp2_with fail
    ((with_reducible refine (foOpposite_any _ _ _ _).mono ?_); rintro e w2 ⟨rfl, hb2⟩)
    obtain ⟨hc2, hf2⟩ := bcell hb2
    have hz2 := hb2.size
    try simp only [World.size_alloc, World.size_drew, World.size_setCell] at hz2
    try have hs2 : w.heap.size < w2.heap.size := by omega
    have bl2 : Below w.heap.size w w2 := Below.trans (by go_grown) (hb2.mono (by go_size))
    go_wp2
    exact bodyPost_ret (v := .tuple #[.agg #[.int .i64 a, .int .i64 (wrap64 (-b)), .int .i64 c], .bool true]) (by simp [results, Try.results33, go_sem, *]) rfl ⟨rfl, by go_grown⟩

theorem implOpp_any (a b c : Int) (w : World) : Calls Try.prog 34 #[.agg #[.int .i64 a, .int .i64 b, .int .i64 c]] w fun e w' =>
    e = .returned (.tuple #[.agg #[.int .i64 (oFor (good3 a b c) (a)), .int .i64 (oFor (good3 a b c) (wrap64 (-b))), .int .i64 (oFor (good3 a b c) (c))], .bool (good3 a b c)]) ∧ Below w.heap.size w w' := by
  rcases h0 : good3 a b c with _ | _
  · go_enter Try.func34, Try.ntmps34
    go_wp2_with fail
    ((with_reducible refine (isForm_any _ _ _ _).mono ?_); rintro e w1 ⟨rfl, hb1⟩)
    obtain ⟨hc1, hf1⟩ := bcell hb1
    have hz1 := hb1.size
    try simp only [World.size_alloc, World.size_drew, World.size_setCell] at hz1
    try have hs1 : w.heap.size < w1.heap.size := by omega
    have bl1 : Below w.heap.size w w1 := Below.trans (by go_grown) (hb1.mono (by go_size))
    have hs1' : w.heap.size + 1 < w1.heap.size := by omega
    go_wp2
    exact bodyPost_ret (v := .tuple #[.agg #[.int .i64 0, .int .i64 0, .int .i64 0], .bool false]) (by simp [results, Try.results34, go_sem, hc1, hs1']) rfl ⟨rfl, by go_grown⟩
  · go_enter Try.func34, Try.ntmps34
    go_wp2_with fail
    ((with_reducible refine (isForm_any _ _ _ _).mono ?_); rintro e w1 ⟨rfl, hb1⟩)
    obtain ⟨hc1, hf1⟩ := bcell hb1
    have hz1 := hb1.size
    try simp only [World.size_alloc, World.size_drew, World.size_setCell] at hz1
    try have hs1 : w.heap.size < w1.heap.size := by omega
    have bl1 : Below w.heap.size w w1 := Below.trans (by go_grown) (hb1.mono (by go_size))
    have hs1' : w.heap.size + 1 < w1.heap.size := by omega
    go_wp2
    exact bodyPost_ret (v := .tuple #[.agg #[.int .i64 a, .int .i64 (wrap64 (-b)), .int .i64 c], .bool true]) (by simp [results, Try.results34, go_sem, *]) rfl ⟨rfl, by go_grown⟩
end Go.Proofs.Ytbhamnkhkbmidaa
