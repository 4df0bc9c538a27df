/-
  'FormText', 'MatrixText': their contracts and their laws' walks.
-/
import Derived.Test.YtpoipdjhelnibaaDoorNum
import Derived.Test.YtpoipdjhelnibaaDoorForm
import Derived.Test.YtpoipdjhelnibaaDoorRows
import Derived.Stop.LaidErr
namespace Go.Proofs.YtpoipdjhelnibaaDoor
open Go.RowKit Go.Sort
set_option linter.unusedSimpArgs false
set_option linter.unusedVariables false

/-- what the condition on the library's table gives -/
theorem laid_of3 {W : World} (h : laidMet Tryd.prog [("math/bits.deBruijn32tab", Rows.laid_math_bits_deBruijn32tab), ("math/bits.deBruijn64tab", Rows.laid_math_bits_deBruijn64tab), ("internal/strconv.uint64pow10", Rows.laid_internal_strconv_uint64pow10)] W) : Pow10 W :=
  Lib.tabIs_of_head (g := (Tryd.prog.globalNamed "internal/strconv.uint64pow10").getD 0) (t := 92) (e := 78) (n := 20) (rest := []) (by kernel_rfl) (by kernel_rfl) (by kernel_rfl) (by kernel_rfl) (by kernel_rfl) (by kernel_rfl) h.tail.tail
def sFor (v : Bool) (x : ByteArray) : ByteArray := if v = true then x else ⟨#[]⟩
theorem sFor_true (x : ByteArray) : sFor true x = x := rfl
theorem sFor_false (x : ByteArray) : sFor false x = ⟨#[]⟩ := rfl
set_option maxHeartbeats 1600000 in
theorem implFT_any (a b c : Int) (w : World) (ht : Pow10 w) : Calls Tryd.prog 12 #[.agg #[.int .i64 a, .int .i64 b, .int .i64 c]] w fun e w' =>
    e = .returned (.tuple #[.string (sFor (good3 a b c) (fTx a b c)), .bool (good3 a b c)]) ∧ Below w.heap.size w w' := by
  rcases h0 : good3 a b c with _ | _
  · rw [sFor_false]
    have C := Lib.hid (isForm_any a b c)
    rw [h0] at C
    clear h0
    go_enter Tryd.func12, Tryd.ntmps12
    go_wp2_with fail
    refine (C.out _).mono ?_
    rintro e w1 ⟨rfl, hb1⟩
    go_wp2
    go_ret2
    exact ⟨rfl, Below.trans (by go_grown) (hb1.mono (by go_size))⟩
  · rw [sFor_true]
    obtain ⟨g0, g1, g2⟩ := good3_iff.1 h0
    rw [good_iff] at g0
    rw [good_iff] at g1
    rw [good_iff] at g2
    have C := Lib.hid (isForm_any a b c)
    rw [h0] at C
    clear h0
    have D := Lib.hid (formText_any a b c g0 g1 g2)
    generalize fTx a b c = X at *
    go_enter Tryd.func12, Tryd.ntmps12
    go_wp2_with fail
    refine (C.out _).mono ?_
    rintro e w1 ⟨rfl, hb1⟩
    have hc1 := bcell' hb1
    have hz1 := hb1.size
    (try simp only [World.size_alloc] at hz1)
    have ht1 := (Pow10.below (w := w.alloc (.cells #[.int .i64 a, .int .i64 b, .int .i64 c] 32)) (Lib.tabIs_alloc ht _) hb1 (Nat.le_refl _))
    go_wp2_with fail
    refine (D.out _ ht1).mono ?_
    rintro e w2 ⟨rfl, hb2⟩
    go_wp2
    go_ret2
    exact ⟨rfl, Below.trans (Below.trans (by go_grown) (hb1.mono (by go_size))) (hb2.mono (by go_size))⟩
set_option maxHeartbeats 1600000 in
theorem specFT_any (a b c : Int) (w : World) : Calls Tryd.prog 10 #[.agg #[.int .i64 a, .int .i64 b, .int .i64 c]] w fun e w' =>
    e = .returned (.tuple #[.string (sFor (good3 a b c) (fTx a b c)), .bool (good3 a b c)]) ∧ Below w.heap.size w w' := by
  rcases h0 : good3 a b c with _ | _
  · rw [sFor_false]
    have C := Lib.hid (foGood_any a b c)
    rw [h0] at C
    clear h0
    go_enter Tryd.func10, Tryd.ntmps10
    go_wp2_with fail
    refine (C.out _).mono ?_
    rintro e w1 ⟨rfl, hb1⟩
    go_wp2
    go_ret2
    exact ⟨rfl, Below.trans (by go_grown) (hb1.mono (by go_size))⟩
  · rw [sFor_true]
    obtain ⟨g0, g1, g2⟩ := good3_iff.1 h0
    rw [good_iff] at g0
    rw [good_iff] at g1
    rw [good_iff] at g2
    have C := Lib.hid (foGood_any a b c)
    rw [h0] at C
    clear h0
    have D := Lib.hid (foText_any a b c g0 g1 g2)
    generalize fTx a b c = X at *
    go_enter Tryd.func10, Tryd.ntmps10
    go_wp2_with fail
    refine (C.out _).mono ?_
    rintro e w1 ⟨rfl, hb1⟩
    have hc1 := bcell' hb1
    have hz1 := hb1.size
    (try simp only [World.size_alloc] at hz1)
    go_wp2_with fail
    refine (D.out _).mono ?_
    rintro e w2 ⟨rfl, hb2⟩
    go_wp2
    go_ret2
    exact ⟨rfl, Below.trans (Below.trans (by go_grown) (hb1.mono (by go_size))) (hb2.mono (by go_size))⟩
set_option maxHeartbeats 1600000 in
theorem implMT_any (a b c g : Int) (w : World) (ht : Pow10 w) : Calls Tryd.prog 9 #[.agg #[.int .i64 a, .int .i64 b, .int .i64 c, .int .i64 g]] w fun e w' =>
    e = .returned (.tuple #[.string (sFor (good4 a b c g) (mTx a b c g)), .bool (good4 a b c g)]) ∧ Below w.heap.size w w' := by
  rcases h0 : good4 a b c g with _ | _
  · rw [sFor_false]
    have C := Lib.hid (isMatrix_any a b c g)
    rw [h0] at C
    clear h0
    go_enter Tryd.func9, Tryd.ntmps9
    go_wp2_with fail
    refine (C.out _).mono ?_
    rintro e w1 ⟨rfl, hb1⟩
    go_wp2
    go_ret2
    exact ⟨rfl, Below.trans (by go_grown) (hb1.mono (by go_size))⟩
  · rw [sFor_true]
    obtain ⟨g0, g1, g2, g3⟩ := good4_iff.1 h0
    rw [good_iff] at g0
    rw [good_iff] at g1
    rw [good_iff] at g2
    rw [good_iff] at g3
    have C := Lib.hid (isMatrix_any a b c g)
    rw [h0] at C
    clear h0
    have D := Lib.hid (matrixText_any a b c g g0 g1 g2 g3)
    generalize mTx a b c g = X at *
    go_enter Tryd.func9, Tryd.ntmps9
    go_wp2_with fail
    refine (C.out _).mono ?_
    rintro e w1 ⟨rfl, hb1⟩
    have hc1 := bcell' hb1
    have hz1 := hb1.size
    (try simp only [World.size_alloc] at hz1)
    have ht1 := (Pow10.below (w := w.alloc (.cells #[.int .i64 a, .int .i64 b, .int .i64 c, .int .i64 g] 26)) (Lib.tabIs_alloc ht _) hb1 (Nat.le_refl _))
    go_wp2_with fail
    refine (D.out _ ht1).mono ?_
    rintro e w2 ⟨rfl, hb2⟩
    go_wp2
    go_ret2
    exact ⟨rfl, Below.trans (Below.trans (by go_grown) (hb1.mono (by go_size))) (hb2.mono (by go_size))⟩
set_option maxHeartbeats 1600000 in
theorem specMT_any (a b c g : Int) (w : World) : Calls Tryd.prog 7 #[.agg #[.int .i64 a, .int .i64 b, .int .i64 c, .int .i64 g]] w fun e w' =>
    e = .returned (.tuple #[.string (sFor (good4 a b c g) (mTx a b c g)), .bool (good4 a b c g)]) ∧ Below w.heap.size w w' := by
  rcases h0 : good4 a b c g with _ | _
  · rw [sFor_false]
    have C := Lib.hid (foMatrix_any a b c g)
    rw [h0] at C
    clear h0
    go_enter Tryd.func7, Tryd.ntmps7
    go_wp2_with fail
    refine (C.out _).mono ?_
    rintro e w1 ⟨rfl, hb1⟩
    go_wp2
    go_ret2
    exact ⟨rfl, Below.trans (by go_grown) (hb1.mono (by go_size))⟩
  · rw [sFor_true]
    obtain ⟨g0, g1, g2, g3⟩ := good4_iff.1 h0
    rw [good_iff] at g0
    rw [good_iff] at g1
    rw [good_iff] at g2
    rw [good_iff] at g3
    have C := Lib.hid (foMatrix_any a b c g)
    rw [h0] at C
    clear h0
    have D := Lib.hid (foMatrixText_any a b c g g0 g1 g2 g3)
    generalize mTx a b c g = X at *
    go_enter Tryd.func7, Tryd.ntmps7
    go_wp2_with fail
    refine (C.out _).mono ?_
    rintro e w1 ⟨rfl, hb1⟩
    have hc1 := bcell' hb1
    have hz1 := hb1.size
    (try simp only [World.size_alloc] at hz1)
    go_wp2_with fail
    refine (D.out _).mono ?_
    rintro e w2 ⟨rfl, hb2⟩
    go_wp2
    go_ret2
    exact ⟨rfl, Below.trans (Below.trans (by go_grown) (hb1.mono (by go_size))) (hb2.mono (by go_size))⟩
set_option maxHeartbeats 1600000 in
theorem law_FnExactFormText (a b c : Int) (w : World) (ht : Pow10 w) : Calls Tryd.prog 4 #[.agg #[.int .i64 a, .int .i64 b, .int .i64 c]] w fun e w' => e = .returned (.bool true) ∧ Below w.heap.size w w' := by
  have CS := Lib.hid (specFT_any a b c)
  have CI := Lib.hid (implFT_any a b c)
  generalize sFor (good3 a b c) (fTx a b c) = X at *
  generalize good3 a b c = v at *
  go_enter Tryd.func4, Tryd.ntmps4
  go_wp2_with fail
  ((with_reducible refine (toForm_any a b c _).mono ?_); rintro e w1 ⟨rfl, hb1⟩)
  obtain ⟨hc1, hf1⟩ := bcell hb1
  have hz1 := hb1.size
  try simp only [World.size_alloc, World.size_drew, World.size_setCell] at hz1
  try have hs1 : w.heap.size < w1.heap.size := by omega
  have bl1 : Below w.heap.size w w1 := Below.trans (by go_grown) (hb1.mono (by go_size))
  go_wp2_with fail
  ((with_reducible refine (CS.out _).mono ?_); rintro e w2 ⟨rfl, hb2⟩)
  obtain ⟨hc2, hf2⟩ := bcell hb2
  have hz2 := hb2.size
  try simp only [World.size_alloc, World.size_drew, World.size_setCell] at hz2
  try have hs2 : w.heap.size < w2.heap.size := by omega
  have bl2 : Below w.heap.size w w2 := Below.trans (by go_grown) (hb2.mono (by go_size))
  go_wp2_with fail
  ((with_reducible refine (toForm_any a b c _).mono ?_); rintro e w3 ⟨rfl, hb3⟩)
  obtain ⟨hc3, hf3⟩ := bcell hb3
  have hz3 := hb3.size
  try simp only [World.size_alloc, World.size_drew, World.size_setCell] at hz3
  try have hs3 : w.heap.size < w3.heap.size := by omega
  have bl3 : Below w.heap.size w w3 := Below.trans (by go_grown) (hb3.mono (by go_size))
  go_wp2_with fail
  ((with_reducible refine (CI.out _ (Pow10.below ht bl3 (Nat.le_refl _))).mono ?_); rintro e w4 ⟨rfl, hb4⟩)
  obtain ⟨hc4, hf4⟩ := bcell hb4
  have hz4 := hb4.size
  try simp only [World.size_alloc, World.size_drew, World.size_setCell] at hz4
  try have hs4 : w.heap.size < w4.heap.size := by omega
  have bl4 : Below w.heap.size w w4 := Below.trans (by go_grown) (hb4.mono (by go_size))
  go_wp2
  go_ret
  exact ⟨rfl, bl4⟩
set_option maxHeartbeats 1600000 in
theorem law_FnExactMatrixText (a b c g : Int) (w : World) (ht : Pow10 w) : Calls Tryd.prog 3 #[.agg #[.int .i64 a, .int .i64 b, .int .i64 c, .int .i64 g]] w fun e w' => e = .returned (.bool true) ∧ Below w.heap.size w w' := by
  have CS := Lib.hid (specMT_any a b c g)
  have CI := Lib.hid (implMT_any a b c g)
  generalize sFor (good4 a b c g) (mTx a b c g) = X at *
  generalize good4 a b c g = v at *
  go_enter Tryd.func3, Tryd.ntmps3
  go_wp2_with fail
  ((with_reducible refine (toMatrix_any a b c g _).mono ?_); rintro e w1 ⟨rfl, hb1⟩)
  obtain ⟨hc1, hf1⟩ := bcell hb1
  have hz1 := hb1.size
  try simp only [World.size_alloc, World.size_drew, World.size_setCell] at hz1
  try have hs1 : w.heap.size < w1.heap.size := by omega
  have bl1 : Below w.heap.size w w1 := Below.trans (by go_grown) (hb1.mono (by go_size))
  go_wp2_with fail
  ((with_reducible refine (CS.out _).mono ?_); rintro e w2 ⟨rfl, hb2⟩)
  obtain ⟨hc2, hf2⟩ := bcell hb2
  have hz2 := hb2.size
  try simp only [World.size_alloc, World.size_drew, World.size_setCell] at hz2
  try have hs2 : w.heap.size < w2.heap.size := by omega
  have bl2 : Below w.heap.size w w2 := Below.trans (by go_grown) (hb2.mono (by go_size))
  go_wp2_with fail
  ((with_reducible refine (toMatrix_any a b c g _).mono ?_); rintro e w3 ⟨rfl, hb3⟩)
  obtain ⟨hc3, hf3⟩ := bcell hb3
  have hz3 := hb3.size
  try simp only [World.size_alloc, World.size_drew, World.size_setCell] at hz3
  try have hs3 : w.heap.size < w3.heap.size := by omega
  have bl3 : Below w.heap.size w w3 := Below.trans (by go_grown) (hb3.mono (by go_size))
  go_wp2_with fail
  ((with_reducible refine (CI.out _ (Pow10.below ht bl3 (Nat.le_refl _))).mono ?_); rintro e w4 ⟨rfl, hb4⟩)
  obtain ⟨hc4, hf4⟩ := bcell hb4
  have hz4 := hb4.size
  try simp only [World.size_alloc, World.size_drew, World.size_setCell] at hz4
  try have hs4 : w.heap.size < w4.heap.size := by omega
  have bl4 : Below w.heap.size w w4 := Below.trans (by go_grown) (hb4.mono (by go_size))
  go_wp2
  go_ret
  exact ⟨rfl, bl4⟩
end Go.Proofs.YtpoipdjhelnibaaDoor
