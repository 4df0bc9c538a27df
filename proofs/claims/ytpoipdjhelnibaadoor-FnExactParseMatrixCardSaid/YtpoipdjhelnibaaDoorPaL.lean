/-
  The walks of the laws on reading: FnExactParseForm, FnExactParseMatrix.
-/
import Derived.Test.YtpoipdjhelnibaaDoorPaM
import Derived.Test.YtpoipdjhelnibaaDoorPsS
import Derived.Test.YtpoipdjhelnibaaDoorRows
import Derived.Stop.LaidErr
namespace Go.Proofs.YtpoipdjhelnibaaDoor
open Go.RowKit
set_option linter.unusedSimpArgs false
set_option linter.unusedVariables false

theorem err_row (u : TypeId) (h : Tryd.prog.typeName? 3 u = some "*errors.errorString") : u = 98 :=
  typeName_ptr_named (nm := "errors.errorString") (by rw [show "*" ++ "errors.errorString" = "*errors.errorString" by decide]; kernel_rfl) (by kernel_rfl) (by decide) u (by rw [show "*" ++ "errors.errorString" = "*errors.errorString" by decide]; exact h)
theorem laid_err {n : String} {text : List UInt8} {r : List (String × DataW Unit)} {W : World} {g : Nat} (h : laidMet Tryd.prog ((n, .iface "*errors.errorString" (.ptr (.agg [.lit (.string text)]))) :: r) W)
    (hg : Tryd.prog.globalNamed n = some g) (ht : (Tryd.prog.globals[g]?).map (·.type) = some 57) : ∃ tp p, W.var? Tryd.prog n = some #[.iface tp p] := by
  obtain ⟨a, s, hv, _⟩ := laid_sentinel h hg ht Tryd.underlying57 err_row Tryd.underlying98 Tryd.underlying100 rfl rfl Tryd.underlying9 (by kernel_rfl) (by kernel_rfl)
  exact ⟨_, _, hv⟩
/-- what the condition on the library's variables gives -/
theorem laid_of5 {W : World} (h : laidMet Tryd.prog [("math/bits.deBruijn32tab", Rows.laid_math_bits_deBruijn32tab), ("math/bits.deBruijn64tab", Rows.laid_math_bits_deBruijn64tab), ("internal/strconv.uint64pow10", Rows.laid_internal_strconv_uint64pow10), ("strconv.ErrRange", Rows.laid_strconv_ErrRange), ("strconv.ErrSyntax", Rows.laid_strconv_ErrSyntax)] W) : Pow10 W ∧ Snt W :=
  ⟨Lib.tabIs_of_head (g := (Tryd.prog.globalNamed "internal/strconv.uint64pow10").getD 0) (t := 92) (e := 78) (n := 20) (rest := [("strconv.ErrRange", Rows.laid_strconv_ErrRange), ("strconv.ErrSyntax", Rows.laid_strconv_ErrSyntax)]) (by kernel_rfl) (by kernel_rfl) (by kernel_rfl) (by kernel_rfl) (by kernel_rfl) (by kernel_rfl) h.tail.tail,
    laid_err (g := (Tryd.prog.globalNamed "strconv.ErrSyntax").getD 0) h.tail.tail.tail.tail (by kernel_rfl) (by kernel_rfl), laid_err (g := (Tryd.prog.globalNamed "strconv.ErrRange").getD 0) h.tail.tail.tail (by kernel_rfl) (by kernel_rfl)⟩
theorem eqForm_self (a b c : Int) (w : World) : Calls Tryd.prog 15 #[.agg #[.int .i64 a, .int .i64 b, .int .i64 c], .agg #[.int .i64 a, .int .i64 b, .int .i64 c]] w fun e w' => e = .returned (.bool true) ∧ Below w.heap.size w w' := by
  go_enter Tryd.func15, Tryd.ntmps15
  go_wp2
  go_ret
  exact ⟨rfl, by go_grown⟩
set_option maxHeartbeats 1600000 in
theorem law_FnExactParseForm (s : ByteArray) (w : World) (hz : s.size ≤ maxLen) (ht : Pow10 w ∧ Snt w) : Calls Tryd.prog 5 #[.string s] w fun e w' => e = .returned (.bool true) ∧ Below w.heap.size w w' := by
  unfold maxLen at hz
  by_cases hs : s.size ≤ 1048576
  · have k1 : ¬ (1048576 : Int) < (s.size : Int) := by omega
    obtain ⟨o, ho⟩ : ∃ o, rdF s.data.toList = o := ⟨_, rfl⟩
    have CS := Lib.hid (fun W => specPaF_is (s := s) W hs ho)
    have CI := Lib.hid (fun W h1 h2 => implF_is (s := s) W hs h1 h2 ho)
    unfold o3 at CS CI
    generalize (o.getD (0, 0, 0)).1 = a at *
    generalize (o.getD (0, 0, 0)).2.1 = b at *
    generalize (o.getD (0, 0, 0)).2.2 = c at *
    generalize o.isSome = v at *
    clear ho hs
    have CE := Lib.hid (eqForm_self a b c)
    go_enter Tryd.func5, Tryd.ntmps5
    go_wp2_with fail
    ((with_reducible refine (CS.out _).mono ?_); rintro e w1 ⟨rfl, hb1⟩)
    obtain ⟨hc1, hf1⟩ := bcell hb1
    have hz1 := hb1.size
    try simp only [World.size_alloc, World.size_drew, World.size_setCell] at hz1
    try have hs1 : w.heap.size < w1.heap.size := by omega
    have bl1 : Below w.heap.size w w1 := Below.trans (by go_grown) (hb1.mono (by go_size))
    go_wp2_with fail
    ((with_reducible refine (CI.out _ (ht.2.below (bl1.alloc bl1.size _) (Nat.le_refl _)) (ht.1.below (bl1.alloc bl1.size _) (Nat.le_refl _))).mono ?_); rintro e w2 ⟨rfl, hb2⟩)
    obtain ⟨hc2, hf2⟩ := bcell hb2
    have hz2 := hb2.size
    try simp only [World.size_alloc, World.size_drew, World.size_setCell] at hz2
    try have hs2 : w.heap.size < w2.heap.size := by omega
    have bl2 : Below w.heap.size w w2 := Below.trans (by go_grown) (hb2.mono (by go_size))
    have hv2 : w1.heap.size < w2.heap.size := by omega
    have hca := (bcell ((Below.refl w2.heap.size w2).alloc (Nat.le_refl _) (.cells #[.int .i64 a, .int .i64 b, .int .i64 c] 32))).1
    have m0 : w2.cell? ⟨w1.heap.size, 0, none⟩ = some (.int .i64 a) := by rw [hc2 _ _ (by simp)]; simp [World.cell?_alloc_new]
    have n0 := (hca _ 0 hv2).trans m0
    have m1 : w2.cell? ⟨w1.heap.size, 1, none⟩ = some (.int .i64 b) := by rw [hc2 _ _ (by simp)]; simp [World.cell?_alloc_new]
    have n1 := (hca _ 1 hv2).trans m1
    have m2 : w2.cell? ⟨w1.heap.size, 2, none⟩ = some (.int .i64 c) := by rw [hc2 _ _ (by simp)]; simp [World.cell?_alloc_new]
    have n2 := (hca _ 2 hv2).trans m2
    clear hca
    go_wp2_with fail
    ((with_reducible refine (CE.out _).mono ?_); rintro e w3 ⟨rfl, hb3⟩)
    obtain ⟨hc3, hf3⟩ := bcell hb3
    have hz3 := hb3.size
    try simp only [World.size_alloc, World.size_drew, World.size_setCell] at hz3
    try have hs3 : w.heap.size < w3.heap.size := by omega
    have bl3 : Below w.heap.size w w3 := Below.trans (by go_grown) (hb3.mono (by go_size))
    go_wp2
    go_ret
    exact ⟨rfl, (by repeat' (first | (with_reducible exact Below.refl _ _) | (with_reducible assumption) | (with_reducible refine Below.alloc ?_ ?_ _) | (with_reducible refine Below.drew ?_) | (with_reducible refine below_drewN ?_ _) | (with_reducible refine Below.setCell ?_ ?_ _) | go_size))⟩
  · have k1 : (1048576 : Int) < (s.size : Int) := by omega
    clear hs
    go_enter Tryd.func5, Tryd.ntmps5
    go_wp2
    go_ret
    exact ⟨rfl, Below.refl _ _⟩
theorem eqMatrix_self (a b c d : Int) (w : World) : Calls Tryd.prog 18 #[.agg #[.int .i64 a, .int .i64 b, .int .i64 c, .int .i64 d], .agg #[.int .i64 a, .int .i64 b, .int .i64 c, .int .i64 d]] w fun e w' => e = .returned (.bool true) ∧ Below w.heap.size w w' := by
  go_enter Tryd.func18, Tryd.ntmps18
  go_wp2
  go_ret
  exact ⟨rfl, by go_grown⟩
set_option maxHeartbeats 1600000 in
theorem law_FnExactParseMatrix (s : ByteArray) (w : World) (hz : s.size ≤ maxLen) (ht : Pow10 w ∧ Snt w) : Calls Tryd.prog 6 #[.string s] w fun e w' => e = .returned (.bool true) ∧ Below w.heap.size w w' := by
  unfold maxLen at hz
  by_cases hs : s.size ≤ 1048576
  · have k1 : ¬ (1048576 : Int) < (s.size : Int) := by omega
    obtain ⟨o, ho⟩ : ∃ o, rdM s.data.toList = o := ⟨_, rfl⟩
    have CS := Lib.hid (fun W => specPaM_is (s := s) W hs ho)
    have CI := Lib.hid (fun W h1 h2 => implM_is (s := s) W hs h1 h2 ho)
    unfold o4 at CS CI
    generalize (o.getD (0, 0, 0, 0)).1 = a at *
    generalize (o.getD (0, 0, 0, 0)).2.1 = b at *
    generalize (o.getD (0, 0, 0, 0)).2.2.1 = c at *
    generalize (o.getD (0, 0, 0, 0)).2.2.2 = d at *
    generalize o.isSome = v at *
    clear ho hs
    have CE := Lib.hid (eqMatrix_self a b c d)
    go_enter Tryd.func6, Tryd.ntmps6
    go_wp2_with fail
    ((with_reducible refine (CS.out _).mono ?_); rintro e w1 ⟨rfl, hb1⟩)
    obtain ⟨hc1, hf1⟩ := bcell hb1
    have hz1 := hb1.size
    try simp only [World.size_alloc, World.size_drew, World.size_setCell] at hz1
    try have hs1 : w.heap.size < w1.heap.size := by omega
    have bl1 : Below w.heap.size w w1 := Below.trans (by go_grown) (hb1.mono (by go_size))
    go_wp2_with fail
    ((with_reducible refine (CI.out _ (ht.2.below (bl1.alloc bl1.size _) (Nat.le_refl _)) (ht.1.below (bl1.alloc bl1.size _) (Nat.le_refl _))).mono ?_); rintro e w2 ⟨rfl, hb2⟩)
    obtain ⟨hc2, hf2⟩ := bcell hb2
    have hz2 := hb2.size
    try simp only [World.size_alloc, World.size_drew, World.size_setCell] at hz2
    try have hs2 : w.heap.size < w2.heap.size := by omega
    have bl2 : Below w.heap.size w w2 := Below.trans (by go_grown) (hb2.mono (by go_size))
    have hv2 : w1.heap.size < w2.heap.size := by omega
    have hca := (bcell ((Below.refl w2.heap.size w2).alloc (Nat.le_refl _) (.cells #[.int .i64 a, .int .i64 b, .int .i64 c, .int .i64 d] 26))).1
    have m0 : w2.cell? ⟨w1.heap.size, 0, none⟩ = some (.int .i64 a) := by rw [hc2 _ _ (by simp)]; simp [World.cell?_alloc_new]
    have n0 := (hca _ 0 hv2).trans m0
    have m1 : w2.cell? ⟨w1.heap.size, 1, none⟩ = some (.int .i64 b) := by rw [hc2 _ _ (by simp)]; simp [World.cell?_alloc_new]
    have n1 := (hca _ 1 hv2).trans m1
    have m2 : w2.cell? ⟨w1.heap.size, 2, none⟩ = some (.int .i64 c) := by rw [hc2 _ _ (by simp)]; simp [World.cell?_alloc_new]
    have n2 := (hca _ 2 hv2).trans m2
    have m3 : w2.cell? ⟨w1.heap.size, 3, none⟩ = some (.int .i64 d) := by rw [hc2 _ _ (by simp)]; simp [World.cell?_alloc_new]
    have n3 := (hca _ 3 hv2).trans m3
    clear hca
    go_wp2_with fail
    ((with_reducible refine (CE.out _).mono ?_); rintro e w3 ⟨rfl, hb3⟩)
    obtain ⟨hc3, hf3⟩ := bcell hb3
    have hz3 := hb3.size
    try simp only [World.size_alloc, World.size_drew, World.size_setCell] at hz3
    try have hs3 : w.heap.size < w3.heap.size := by omega
    have bl3 : Below w.heap.size w w3 := Below.trans (by go_grown) (hb3.mono (by go_size))
    go_wp2
    go_ret
    exact ⟨rfl, (by repeat' (first | (with_reducible exact Below.refl _ _) | (with_reducible assumption) | (with_reducible refine Below.alloc ?_ ?_ _) | (with_reducible refine Below.drew ?_) | (with_reducible refine below_drewN ?_ _) | (with_reducible refine Below.setCell ?_ ?_ _) | go_size))⟩
  · have k1 : (1048576 : Int) < (s.size : Int) := by omega
    clear hs
    go_enter Tryd.func6, Tryd.ntmps6
    go_wp2
    go_ret
    exact ⟨rfl, Below.refl _ _⟩
end Go.Proofs.YtpoipdjhelnibaaDoor
