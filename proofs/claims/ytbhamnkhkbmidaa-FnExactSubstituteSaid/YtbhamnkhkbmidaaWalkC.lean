/-
  The walks of the laws on definite forms, values, the opposite form, inverses and substitution.
-/
import Derived.Test.YtbhamnkhkbmidaaForm2
import Derived.Test.YtbhamnkhkbmidaaForm3
import Derived.Test.YtbhamnkhkbmidaaForm4
import Derived.Test.YtbhamnkhkbmidaaFrame
namespace Go.Proofs.Ytbhamnkhkbmidaa
open Go.RowKit
set_option linter.unusedSimpArgs false
set_option linter.unusedVariables false

theorem law_FnExactConstants (w : World) : Calls Try.prog 3 #[] w fun e w' => e = .returned (.bool true) ∧ Below w.heap.size w w' := by
  go_enter Try.func3, Try.ntmps3
  go_wp2
  go_ret
  exact ⟨rfl, by go_grown⟩
theorem eqForm_same (a b c : Int) (w : World) : Calls Try.prog 35 #[.agg #[.int .i64 a, .int .i64 b, .int .i64 c], .agg #[.int .i64 a, .int .i64 b, .int .i64 c]] w fun e w' =>
    e = .returned (.bool true) ∧ Below w.heap.size w w' := by
  go_enter Try.func35, Try.ntmps35
  go_wp2
  go_ret
  exact ⟨rfl, by go_grown⟩
theorem eqMatrix_same (a b c d : Int) (w : World) : Calls Try.prog 38 #[.agg #[.int .i64 a, .int .i64 b, .int .i64 c, .int .i64 d], .agg #[.int .i64 a, .int .i64 b, .int .i64 c, .int .i64 d]] w fun e w' =>
    e = .returned (.bool true) ∧ Below w.heap.size w w' := by
  go_enter Try.func38, Try.ntmps38
  go_wp2
  go_ret
  exact ⟨rfl, by go_grown⟩
theorem invO_agg (g : Bool) (a b c d : Int) : ∃ x y z u : Int, invO g a b c d = .agg #[.int .i64 x, .int .i64 y, .int .i64 z, .int .i64 u] := by
  cases g
  · exact ⟨_, _, _, _, rfl⟩
  · exact ⟨_, _, _, _, rfl⟩
theorem subO_agg (g : Bool) (a b c p q r s : Int) : ∃ x y z : Int, subO g a b c p q r s = .agg #[.int .i64 x, .int .i64 y, .int .i64 z] := by
  cases g
  · exact ⟨_, _, _, rfl⟩
  · exact ⟨_, _, _, rfl⟩

theorem law_FnExactIsDefinite (a b c : Int) (w : World) (_ : In64 a) (_ : In64 b) (_ : In64 c) : Calls Try.prog 7 #[.agg #[.int .i64 a, .int .i64 b, .int .i64 c]] w fun e w' => e = .returned (.bool true) ∧ Below w.heap.size w w' := by
  go_enter Try.func7, Try.ntmps7
  go_wp2_with fail
  ((with_reducible refine (toForm_any _ _ _ _).mono ?_); rintro e w1 ⟨rfl, hb1⟩)
  obtain ⟨hc1, hf1⟩ := bcell hb1
  have hz1 := hb1.size
  try simp only [World.size_alloc, World.size_drew, World.size_setCell] at hz1
  try have hs1 : w.heap.size < w1.heap.size := by omega
  have bl1 : Below w.heap.size w w1 := Below.trans (by go_grown) (hb1.mono (by go_size))
  try have hs1' : w.heap.size + 1 < w1.heap.size := by omega
  try have hs1'' : w.heap.size + 1 + 1 < w1.heap.size := by omega
  try have hs1''' : w.heap.size + 1 + 1 + 1 < w1.heap.size := by omega
  go_wp2_with fail
  ((with_reducible refine (specDefinite_any _ _ _ _).mono ?_); rintro e w2 ⟨rfl, hb2⟩)
  obtain ⟨hc2, hf2⟩ := bcell hb2
  have hz2 := hb2.size
  try simp only [World.size_alloc, World.size_drew, World.size_setCell] at hz2
  try have hs2 : w.heap.size < w2.heap.size := by omega
  have bl2 : Below w.heap.size w w2 := Below.trans (by go_grown) (hb2.mono (by go_size))
  try have hy2_1 : w1.heap.size < w2.heap.size := by omega
  try have hs2' : w.heap.size + 1 < w2.heap.size := by omega
  try have hs2'' : w.heap.size + 1 + 1 < w2.heap.size := by omega
  try have hs2''' : w.heap.size + 1 + 1 + 1 < w2.heap.size := by omega
  go_wp2_with fail
  ((with_reducible refine (toForm_any _ _ _ _).mono ?_); rintro e w3 ⟨rfl, hb3⟩)
  obtain ⟨hc3, hf3⟩ := bcell hb3
  have hz3 := hb3.size
  try simp only [World.size_alloc, World.size_drew, World.size_setCell] at hz3
  try have hs3 : w.heap.size < w3.heap.size := by omega
  have bl3 : Below w.heap.size w w3 := Below.trans (by go_grown) (hb3.mono (by go_size))
  try have hy3_1 : w1.heap.size < w3.heap.size := by omega
  try have hy3_2 : w2.heap.size < w3.heap.size := by omega
  try have hs3' : w.heap.size + 1 < w3.heap.size := by omega
  try have hs3'' : w.heap.size + 1 + 1 < w3.heap.size := by omega
  try have hs3''' : w.heap.size + 1 + 1 + 1 < w3.heap.size := by omega
  go_wp2_with fail
  ((with_reducible refine (implDefinite_any _ _ _ _).mono ?_); rintro e w4 ⟨rfl, hb4⟩)
  obtain ⟨hc4, hf4⟩ := bcell hb4
  have hz4 := hb4.size
  try simp only [World.size_alloc, World.size_drew, World.size_setCell] at hz4
  try have hs4 : w.heap.size < w4.heap.size := by omega
  have bl4 : Below w.heap.size w w4 := Below.trans (by go_grown) (hb4.mono (by go_size))
  try have hy4_1 : w1.heap.size < w4.heap.size := by omega
  try have hy4_2 : w2.heap.size < w4.heap.size := by omega
  try have hy4_3 : w3.heap.size < w4.heap.size := by omega
  try have hs4' : w.heap.size + 1 < w4.heap.size := by omega
  try have hs4'' : w.heap.size + 1 + 1 < w4.heap.size := by omega
  try have hs4''' : w.heap.size + 1 + 1 + 1 < w4.heap.size := by omega
  go_wp2
  go_ret
  exact ⟨rfl, by go_grown⟩

theorem law_FnExactValueAt (a b c x y : Int) (w : World) (_ : In64 a) (_ : In64 b) (_ : In64 c) (_ : In64 x) (_ : In64 y) : Calls Try.prog 10 #[.agg #[.int .i64 a, .int .i64 b, .int .i64 c], .int .i64 x, .int .i64 y] w fun e w' => e = .returned (.bool true) ∧ Below w.heap.size w w' := by
  go_enter Try.func10, Try.ntmps10
  go_wp2_with fail
  ((with_reducible refine (toForm_any _ _ _ _).mono ?_); rintro e w1 ⟨rfl, hb1⟩)
  obtain ⟨hc1, hf1⟩ := bcell hb1
  have hz1 := hb1.size
  try simp only [World.size_alloc, World.size_drew, World.size_setCell] at hz1
  try have hs1 : w.heap.size < w1.heap.size := by omega
  have bl1 : Below w.heap.size w w1 := Below.trans (by go_grown) (hb1.mono (by go_size))
  try have hs1' : w.heap.size + 1 < w1.heap.size := by omega
  try have hs1'' : w.heap.size + 1 + 1 < w1.heap.size := by omega
  try have hs1''' : w.heap.size + 1 + 1 + 1 < w1.heap.size := by omega
  go_wp2_with fail
  ((with_reducible refine (specValue_any _ _ _ _ _ _).mono ?_); rintro e w2 ⟨rfl, hb2⟩)
  obtain ⟨hc2, hf2⟩ := bcell hb2
  have hz2 := hb2.size
  try simp only [World.size_alloc, World.size_drew, World.size_setCell] at hz2
  try have hs2 : w.heap.size < w2.heap.size := by omega
  have bl2 : Below w.heap.size w w2 := Below.trans (by go_grown) (hb2.mono (by go_size))
  try have hy2_1 : w1.heap.size < w2.heap.size := by omega
  try have hs2' : w.heap.size + 1 < w2.heap.size := by omega
  try have hs2'' : w.heap.size + 1 + 1 < w2.heap.size := by omega
  try have hs2''' : w.heap.size + 1 + 1 + 1 < w2.heap.size := by omega
  go_wp2_with fail
  ((with_reducible refine (toForm_any _ _ _ _).mono ?_); rintro e w3 ⟨rfl, hb3⟩)
  obtain ⟨hc3, hf3⟩ := bcell hb3
  have hz3 := hb3.size
  try simp only [World.size_alloc, World.size_drew, World.size_setCell] at hz3
  try have hs3 : w.heap.size < w3.heap.size := by omega
  have bl3 : Below w.heap.size w w3 := Below.trans (by go_grown) (hb3.mono (by go_size))
  try have hy3_1 : w1.heap.size < w3.heap.size := by omega
  try have hy3_2 : w2.heap.size < w3.heap.size := by omega
  try have hs3' : w.heap.size + 1 < w3.heap.size := by omega
  try have hs3'' : w.heap.size + 1 + 1 < w3.heap.size := by omega
  try have hs3''' : w.heap.size + 1 + 1 + 1 < w3.heap.size := by omega
  go_wp2_with fail
  ((with_reducible refine (implValue_any _ _ _ _ _ _).mono ?_); rintro e w4 ⟨rfl, hb4⟩)
  obtain ⟨hc4, hf4⟩ := bcell hb4
  have hz4 := hb4.size
  try simp only [World.size_alloc, World.size_drew, World.size_setCell] at hz4
  try have hs4 : w.heap.size < w4.heap.size := by omega
  have bl4 : Below w.heap.size w w4 := Below.trans (by go_grown) (hb4.mono (by go_size))
  try have hy4_1 : w1.heap.size < w4.heap.size := by omega
  try have hy4_2 : w2.heap.size < w4.heap.size := by omega
  try have hy4_3 : w3.heap.size < w4.heap.size := by omega
  try have hs4' : w.heap.size + 1 < w4.heap.size := by omega
  try have hs4'' : w.heap.size + 1 + 1 < w4.heap.size := by omega
  try have hs4''' : w.heap.size + 1 + 1 + 1 < w4.heap.size := by omega
  go_wp2
  go_ret
  exact ⟨rfl, by go_grown⟩

theorem law_FnExactPolarAt (a b c x y u v : Int) (w : World) (_ : In64 a) (_ : In64 b) (_ : In64 c) (_ : In64 x) (_ : In64 y) (_ : In64 u) (_ : In64 v) : Calls Try.prog 9 #[.agg #[.int .i64 a, .int .i64 b, .int .i64 c], .int .i64 x, .int .i64 y, .int .i64 u, .int .i64 v] w fun e w' => e = .returned (.bool true) ∧ Below w.heap.size w w' := by
  go_enter Try.func9, Try.ntmps9
  go_wp2_with fail
  ((with_reducible refine (toForm_any _ _ _ _).mono ?_); rintro e w1 ⟨rfl, hb1⟩)
  obtain ⟨hc1, hf1⟩ := bcell hb1
  have hz1 := hb1.size
  try simp only [World.size_alloc, World.size_drew, World.size_setCell] at hz1
  try have hs1 : w.heap.size < w1.heap.size := by omega
  have bl1 : Below w.heap.size w w1 := Below.trans (by go_grown) (hb1.mono (by go_size))
  try have hs1' : w.heap.size + 1 < w1.heap.size := by omega
  try have hs1'' : w.heap.size + 1 + 1 < w1.heap.size := by omega
  try have hs1''' : w.heap.size + 1 + 1 + 1 < w1.heap.size := by omega
  go_wp2_with fail
  ((with_reducible refine (specPolar_any _ _ _ _ _ _ _ _).mono ?_); rintro e w2 ⟨rfl, hb2⟩)
  obtain ⟨hc2, hf2⟩ := bcell hb2
  have hz2 := hb2.size
  try simp only [World.size_alloc, World.size_drew, World.size_setCell] at hz2
  try have hs2 : w.heap.size < w2.heap.size := by omega
  have bl2 : Below w.heap.size w w2 := Below.trans (by go_grown) (hb2.mono (by go_size))
  try have hy2_1 : w1.heap.size < w2.heap.size := by omega
  try have hs2' : w.heap.size + 1 < w2.heap.size := by omega
  try have hs2'' : w.heap.size + 1 + 1 < w2.heap.size := by omega
  try have hs2''' : w.heap.size + 1 + 1 + 1 < w2.heap.size := by omega
  go_wp2_with fail
  ((with_reducible refine (toForm_any _ _ _ _).mono ?_); rintro e w3 ⟨rfl, hb3⟩)
  obtain ⟨hc3, hf3⟩ := bcell hb3
  have hz3 := hb3.size
  try simp only [World.size_alloc, World.size_drew, World.size_setCell] at hz3
  try have hs3 : w.heap.size < w3.heap.size := by omega
  have bl3 : Below w.heap.size w w3 := Below.trans (by go_grown) (hb3.mono (by go_size))
  try have hy3_1 : w1.heap.size < w3.heap.size := by omega
  try have hy3_2 : w2.heap.size < w3.heap.size := by omega
  try have hs3' : w.heap.size + 1 < w3.heap.size := by omega
  try have hs3'' : w.heap.size + 1 + 1 < w3.heap.size := by omega
  try have hs3''' : w.heap.size + 1 + 1 + 1 < w3.heap.size := by omega
  go_wp2_with fail
  ((with_reducible refine (implPolar_any _ _ _ _ _ _ _ _).mono ?_); rintro e w4 ⟨rfl, hb4⟩)
  obtain ⟨hc4, hf4⟩ := bcell hb4
  have hz4 := hb4.size
  try simp only [World.size_alloc, World.size_drew, World.size_setCell] at hz4
  try have hs4 : w.heap.size < w4.heap.size := by omega
  have bl4 : Below w.heap.size w w4 := Below.trans (by go_grown) (hb4.mono (by go_size))
  try have hy4_1 : w1.heap.size < w4.heap.size := by omega
  try have hy4_2 : w2.heap.size < w4.heap.size := by omega
  try have hy4_3 : w3.heap.size < w4.heap.size := by omega
  try have hs4' : w.heap.size + 1 < w4.heap.size := by omega
  try have hs4'' : w.heap.size + 1 + 1 < w4.heap.size := by omega
  try have hs4''' : w.heap.size + 1 + 1 + 1 < w4.heap.size := by omega
  go_wp2
  go_ret
  exact ⟨rfl, by go_grown⟩

theorem law_FnExactOppositeForm (a b c : Int) (w : World) (_ : In64 a) (_ : In64 b) (_ : In64 c) : Calls Try.prog 12 #[.agg #[.int .i64 a, .int .i64 b, .int .i64 c]] w fun e w' => e = .returned (.bool true) ∧ Below w.heap.size w w' := by
  go_enter Try.func12, Try.ntmps12
  go_wp2_with fail
  ((with_reducible refine (toForm_any _ _ _ _).mono ?_); rintro e w1 ⟨rfl, hb1⟩)
  obtain ⟨hc1, hf1⟩ := bcell hb1
  have hz1 := hb1.size
  try simp only [World.size_alloc, World.size_drew, World.size_setCell] at hz1
  try have hs1 : w.heap.size < w1.heap.size := by omega
  have bl1 : Below w.heap.size w w1 := Below.trans (by go_grown) (hb1.mono (by go_size))
  try have hs1' : w.heap.size + 1 < w1.heap.size := by omega
  try have hs1'' : w.heap.size + 1 + 1 < w1.heap.size := by omega
  try have hs1''' : w.heap.size + 1 + 1 + 1 < w1.heap.size := by omega
  go_wp2_with fail
  ((with_reducible refine (specOpp_any _ _ _ _).mono ?_); rintro e w2 ⟨rfl, hb2⟩)
  obtain ⟨hc2, hf2⟩ := bcell hb2
  have hz2 := hb2.size
  try simp only [World.size_alloc, World.size_drew, World.size_setCell] at hz2
  try have hs2 : w.heap.size < w2.heap.size := by omega
  have bl2 : Below w.heap.size w w2 := Below.trans (by go_grown) (hb2.mono (by go_size))
  try have hy2_1 : w1.heap.size < w2.heap.size := by omega
  try have hs2' : w.heap.size + 1 < w2.heap.size := by omega
  try have hs2'' : w.heap.size + 1 + 1 < w2.heap.size := by omega
  try have hs2''' : w.heap.size + 1 + 1 + 1 < w2.heap.size := by omega
  go_wp2_with fail
  ((with_reducible refine (toForm_any _ _ _ _).mono ?_); rintro e w3 ⟨rfl, hb3⟩)
  obtain ⟨hc3, hf3⟩ := bcell hb3
  have hz3 := hb3.size
  try simp only [World.size_alloc, World.size_drew, World.size_setCell] at hz3
  try have hs3 : w.heap.size < w3.heap.size := by omega
  have bl3 : Below w.heap.size w w3 := Below.trans (by go_grown) (hb3.mono (by go_size))
  try have hy3_1 : w1.heap.size < w3.heap.size := by omega
  try have hy3_2 : w2.heap.size < w3.heap.size := by omega
  try have hs3' : w.heap.size + 1 < w3.heap.size := by omega
  try have hs3'' : w.heap.size + 1 + 1 < w3.heap.size := by omega
  try have hs3''' : w.heap.size + 1 + 1 + 1 < w3.heap.size := by omega
  go_wp2_with fail
  ((with_reducible refine (implOpp_any _ _ _ _).mono ?_); rintro e w4 ⟨rfl, hb4⟩)
  obtain ⟨hc4, hf4⟩ := bcell hb4
  have hz4 := hb4.size
  try simp only [World.size_alloc, World.size_drew, World.size_setCell] at hz4
  try have hs4 : w.heap.size < w4.heap.size := by omega
  have bl4 : Below w.heap.size w w4 := Below.trans (by go_grown) (hb4.mono (by go_size))
  try have hy4_1 : w1.heap.size < w4.heap.size := by omega
  try have hy4_2 : w2.heap.size < w4.heap.size := by omega
  try have hy4_3 : w3.heap.size < w4.heap.size := by omega
  try have hs4' : w.heap.size + 1 < w4.heap.size := by omega
  try have hs4'' : w.heap.size + 1 + 1 < w4.heap.size := by omega
  try have hs4''' : w.heap.size + 1 + 1 + 1 < w4.heap.size := by omega
  go_wp2_with fail
  ((with_reducible refine (eqForm_same _ _ _ _).mono ?_); rintro e w5 ⟨rfl, hb5⟩)
  obtain ⟨hc5, hf5⟩ := bcell hb5
  have hz5 := hb5.size
  try simp only [World.size_alloc, World.size_drew, World.size_setCell] at hz5
  try have hs5 : w.heap.size < w5.heap.size := by omega
  have bl5 : Below w.heap.size w w5 := Below.trans (by go_grown) (hb5.mono (by go_size))
  try have hy5_1 : w1.heap.size < w5.heap.size := by omega
  try have hy5_2 : w2.heap.size < w5.heap.size := by omega
  try have hy5_3 : w3.heap.size < w5.heap.size := by omega
  try have hy5_4 : w4.heap.size < w5.heap.size := by omega
  try have hs5' : w.heap.size + 1 < w5.heap.size := by omega
  try have hs5'' : w.heap.size + 1 + 1 < w5.heap.size := by omega
  try have hs5''' : w.heap.size + 1 + 1 + 1 < w5.heap.size := by omega
  go_wp2
  go_ret
  exact ⟨rfl, by go_grown⟩

theorem law_FnExactMatrixInverse (a b c d : Int) (w : World) (_ : In64 a) (_ : In64 b) (_ : In64 c) (_ : In64 d) : Calls Try.prog 13 #[.agg #[.int .i64 a, .int .i64 b, .int .i64 c, .int .i64 d]] w fun e w' => e = .returned (.bool true) ∧ Below w.heap.size w w' := by
  obtain ⟨x, y, z, u, hv⟩ := invO_agg (unitB a b c d) a b c d
  have HS := specInv_any a b c d
  have HI := implInv_any a b c d
  rw [hv] at HS HI
  have HS' := Lib.hid HS
  have HI' := Lib.hid HI
  clear HS HI hv
  go_enter Try.func13, Try.ntmps13
  go_wp2_with fail
  ((with_reducible refine (toMatrix_any _ _ _ _ _).mono ?_); rintro e w1 ⟨rfl, hb1⟩)
  obtain ⟨hc1, hf1⟩ := bcell hb1
  have hz1 := hb1.size
  try simp only [World.size_alloc, World.size_drew, World.size_setCell] at hz1
  try have hs1 : w.heap.size < w1.heap.size := by omega
  have bl1 : Below w.heap.size w w1 := Below.trans (by go_grown) (hb1.mono (by go_size))
  go_wp2_with fail
  ((with_reducible refine (HS'.out _).mono ?_); rintro e w2 ⟨rfl, hb2⟩)
  obtain ⟨hc2, hf2⟩ := bcell hb2
  have hz2 := hb2.size
  try simp only [World.size_alloc, World.size_drew, World.size_setCell] at hz2
  try have hs2 : w.heap.size < w2.heap.size := by omega
  have bl2 : Below w.heap.size w w2 := Below.trans (by go_grown) (hb2.mono (by go_size))
  go_wp2_with fail
  ((with_reducible refine (toMatrix_any _ _ _ _ _).mono ?_); rintro e w3 ⟨rfl, hb3⟩)
  obtain ⟨hc3, hf3⟩ := bcell hb3
  have hz3 := hb3.size
  try simp only [World.size_alloc, World.size_drew, World.size_setCell] at hz3
  try have hs3 : w.heap.size < w3.heap.size := by omega
  have bl3 : Below w.heap.size w w3 := Below.trans (by go_grown) (hb3.mono (by go_size))
  have hy3 : w2.heap.size < w3.heap.size := by omega
  go_wp2_with fail
  ((with_reducible refine (HI'.out _).mono ?_); rintro e w4 ⟨rfl, hb4⟩)
  obtain ⟨hc4, hf4⟩ := bcell hb4
  have hz4 := hb4.size
  try simp only [World.size_alloc, World.size_drew, World.size_setCell] at hz4
  try have hs4 : w.heap.size < w4.heap.size := by omega
  have bl4 : Below w.heap.size w w4 := Below.trans (by go_grown) (hb4.mono (by go_size))
  have hy4 : w2.heap.size < w4.heap.size := by omega
  go_wp2_with fail
  ((with_reducible refine (eqMatrix_same _ _ _ _ _).mono ?_); rintro e w5 ⟨rfl, hb5⟩)
  obtain ⟨hc5, hf5⟩ := bcell hb5
  have hz5 := hb5.size
  try simp only [World.size_alloc, World.size_drew, World.size_setCell] at hz5
  try have hs5 : w.heap.size < w5.heap.size := by omega
  have bl5 : Below w.heap.size w w5 := Below.trans (by go_grown) (hb5.mono (by go_size))
  go_wp2
  go_ret
  exact ⟨rfl, by go_grown⟩
end Go.Proofs.Ytbhamnkhkbmidaa
