/-
  Contracts of the functions on forms and matrices: validity, discriminant, values, determinant, inverse, substitution.
-/
import Derived.Test.YtbhamnkhkbmidaaGood
import Derived.Handy
namespace Go.Proofs.Ytbhamnkhkbmidaa
open Go.RowKit
set_option linter.unusedSimpArgs false
set_option linter.unusedVariables false

theorem bcell {W w1 : World} (hb : Below W.heap.size W w1) : (∀ b o, b < W.heap.size → w1.cell? ⟨b, o, none⟩ = W.cell? ⟨b, o, none⟩) ∧ (∀ b o, b < W.heap.size → w1.frozen? ⟨b, o, none⟩ = W.frozen? ⟨b, o, none⟩) :=
  ⟨fun b o h => hb.cell (p := ⟨b, o, none⟩) h, fun b o h => hb.frozen (p := ⟨b, o, none⟩) h⟩

def good3 (a b c : Int) : Bool := good a && (good b && good c)
def good4 (a b c d : Int) : Bool := good a && (good b && (good c && good d))
theorem good3_iff {a b c : Int} : good3 a b c = true ↔ good a = true ∧ good b = true ∧ good c = true := by simp [good3]
theorem good4_iff {a b c d : Int} : good4 a b c d = true ↔ good a = true ∧ good b = true ∧ good c = true ∧ good d = true := by simp [good4]


def discV (a b c : Int) : Int := wrap64 (wrap64 (b * b) - wrap64 (wrap64 (4 * a) * c))
def valV (a b c x y : Int) : Int := wrap64 (wrap64 (wrap64 (wrap64 (a * x) * x) + wrap64 (wrap64 (b * x) * y)) + wrap64 (wrap64 (c * y) * y))
def polV (a b c x y u v : Int) : Int := wrap64 (wrap64 (wrap64 (wrap64 (wrap64 (2 * a) * x) * u) + wrap64 (b * wrap64 (wrap64 (x * v) + wrap64 (y * u)))) + wrap64 (wrap64 (wrap64 (2 * c) * y) * v))
def detV (a b c d : Int) : Int := wrap64 (wrap64 (a * d) - wrap64 (b * c))
def oFor (g : Bool) (x : Int) : Int := if g = true then x else 0
theorem oFor_true (x : Int) : oFor true x = x := rfl
theorem oFor_false (x : Int) : oFor false x = 0 := rfl

theorem toForm_any (a b c : Int) (w : World) : Calls Try.prog 18 #[.agg #[.int .i64 a, .int .i64 b, .int .i64 c]] w fun e w' =>
    e = .returned (.agg #[.int .i64 a, .int .i64 b, .int .i64 c]) ∧ Below w.heap.size w w' := by
  go_enter Try.func18, Try.ntmps18
  go_wp2
  go_returns
  exact ⟨rfl, by go_grown⟩

theorem toMatrix_any (a b c d : Int) (w : World) : Calls Try.prog 21 #[.agg #[.int .i64 a, .int .i64 b, .int .i64 c, .int .i64 d]] w fun e w' =>
    e = .returned (.agg #[.int .i64 a, .int .i64 b, .int .i64 c, .int .i64 d]) ∧ Below w.heap.size w w' := by
  go_enter Try.func21, Try.ntmps21
  go_wp2
  go_returns
  exact ⟨rfl, by go_grown⟩

theorem foGood_any (a b c : Int) (w : World) : Calls Try.prog 43 #[.agg #[.int .i64 a, .int .i64 b, .int .i64 c]] w fun e w' =>
    e = .returned (.bool (good3 a b c)) ∧ Below w.heap.size w w' := by
  unfold good3
  rcases ha : good a with _ | _
  · go_enter Try.func43, Try.ntmps43
    go_wp2_with (go_at_call 41; refine (nuGood_any _ _).mono ?_; rintro e w' ⟨rfl, rfl⟩)
    go_ret
    exact ⟨rfl, by go_grown⟩
  · rcases hb : good b with _ | _
    · go_enter Try.func43, Try.ntmps43
      go_wp2_with (go_at_call 41; refine (nuGood_any _ _).mono ?_; rintro e w' ⟨rfl, rfl⟩)
      go_ret
      exact ⟨rfl, by go_grown⟩
    · go_enter Try.func43, Try.ntmps43
      go_wp2_with (go_at_call 41; refine (nuGood_any _ _).mono ?_; rintro e w' ⟨rfl, rfl⟩)
      go_ret
      exact ⟨rfl, by go_grown⟩

theorem foMatrix_any (a b c d : Int) (w : World) : Calls Try.prog 44 #[.agg #[.int .i64 a, .int .i64 b, .int .i64 c, .int .i64 d]] w fun e w' =>
    e = .returned (.bool (good4 a b c d)) ∧ Below w.heap.size w w' := by
  unfold good4
  rcases ha : good a with _ | _
  · go_enter Try.func44, Try.ntmps44
    go_wp2_with (go_at_call 41; refine (nuGood_any _ _).mono ?_; rintro e w' ⟨rfl, rfl⟩)
    go_ret
    exact ⟨rfl, by go_grown⟩
  · rcases hb : good b with _ | _
    · go_enter Try.func44, Try.ntmps44
      go_wp2_with (go_at_call 41; refine (nuGood_any _ _).mono ?_; rintro e w' ⟨rfl, rfl⟩)
      go_ret
      exact ⟨rfl, by go_grown⟩
    · rcases hc : good c with _ | _
      · go_enter Try.func44, Try.ntmps44
        go_wp2_with (go_at_call 41; refine (nuGood_any _ _).mono ?_; rintro e w' ⟨rfl, rfl⟩)
        go_ret
        exact ⟨rfl, by go_grown⟩
      · go_enter Try.func44, Try.ntmps44
        go_wp2_with (go_at_call 41; refine (nuGood_any _ _).mono ?_; rintro e w' ⟨rfl, rfl⟩)
        go_ret
        exact ⟨rfl, by go_grown⟩

theorem isForm_any (a b c : Int) (w : World) : Calls Try.prog 19 #[.agg #[.int .i64 a, .int .i64 b, .int .i64 c]] w fun e w' =>
    e = .returned (.bool (good3 a b c)) ∧ Below w.heap.size w w' := by
  unfold good3
  go_enter Try.func19, Try.ntmps19
  go_wp2_with (go_at_call 42; refine (are3 a b c _ _ (by simp) (by simp) (by simp)).mono ?_; rintro e w' ⟨rfl, rfl⟩)
  go_ret
  exact ⟨rfl, by go_grown⟩

theorem isMatrix_any (a b c d : Int) (w : World) : Calls Try.prog 22 #[.agg #[.int .i64 a, .int .i64 b, .int .i64 c, .int .i64 d]] w fun e w' =>
    e = .returned (.bool (good4 a b c d)) ∧ Below w.heap.size w w' := by
  unfold good4
  go_enter Try.func22, Try.ntmps22
  go_wp2_with (go_at_call 42; refine (are4 a b c d _ _ (by simp) (by simp) (by simp) (by simp)).mono ?_; rintro e w' ⟨rfl, rfl⟩)
  go_ret
  exact ⟨rfl, by go_grown⟩

theorem specIsForm_any (a b c : Int) (w : World) : Calls Try.prog 17 #[.agg #[.int .i64 a, .int .i64 b, .int .i64 c]] w fun e w' =>
    e = .returned (.bool (good3 a b c)) ∧ Below w.heap.size w w' := by
  go_enter Try.func17, Try.ntmps17
  go_wp2_with fail
  ((with_reducible refine (foGood_any _ _ _ _).mono ?_); rintro e w1 ⟨rfl, hb1⟩)
  obtain ⟨hc1, hf1⟩ := bcell hb1
  have hz1 := hb1.size
  try simp only [World.size_alloc, World.size_drew, World.size_setCell] at hz1
  try have hs1 : w.heap.size < w1.heap.size := by omega
  have bl1 : Below w.heap.size w w1 := Below.trans (by go_grown) (hb1.mono (by go_size))
  go_wp2
  go_ret
  exact ⟨rfl, bl1⟩

theorem specIsMatrix_any (a b c d : Int) (w : World) : Calls Try.prog 20 #[.agg #[.int .i64 a, .int .i64 b, .int .i64 c, .int .i64 d]] w fun e w' =>
    e = .returned (.bool (good4 a b c d)) ∧ Below w.heap.size w w' := by
  go_enter Try.func20, Try.ntmps20
  go_wp2_with fail
  ((with_reducible refine (foMatrix_any _ _ _ _ _).mono ?_); rintro e w1 ⟨rfl, hb1⟩)
  obtain ⟨hc1, hf1⟩ := bcell hb1
  have hz1 := hb1.size
  try simp only [World.size_alloc, World.size_drew, World.size_setCell] at hz1
  try have hs1 : w.heap.size < w1.heap.size := by omega
  have bl1 : Below w.heap.size w w1 := Below.trans (by go_grown) (hb1.mono (by go_size))
  go_wp2
  go_ret
  exact ⟨rfl, bl1⟩

theorem foDisc_any (a b c : Int) (w : World) : Calls Try.prog 47 #[.agg #[.int .i64 a, .int .i64 b, .int .i64 c]] w fun e w' =>
    e = .returned (.int .i64 (discV a b c)) ∧ Below w.heap.size w w' := by
  go_enter Try.func47, Try.ntmps47
  go_wp2
  go_ret
  exact ⟨rfl, by go_grown⟩

theorem disc_any (a b c : Int) (w : World) : Calls Try.prog 48 #[.agg #[.int .i64 a, .int .i64 b, .int .i64 c]] w fun e w' =>
    e = .returned (.int .i64 (discV a b c)) ∧ Below w.heap.size w w' := by
  go_enter Try.func48, Try.ntmps48
  go_wp2
  go_ret
  exact ⟨rfl, by go_grown⟩

theorem foValue_any (a b c x y : Int) (w : World) : Calls Try.prog 51 #[.agg #[.int .i64 a, .int .i64 b, .int .i64 c], .int .i64 x, .int .i64 y] w fun e w' =>
    e = .returned (.int .i64 (valV a b c x y)) ∧ Below w.heap.size w w' := by
  go_enter Try.func51, Try.ntmps51
  go_wp2
  go_ret
  exact ⟨rfl, by go_grown⟩

theorem at_any (a b c x y : Int) (w : World) : Calls Try.prog 52 #[.agg #[.int .i64 a, .int .i64 b, .int .i64 c], .int .i64 x, .int .i64 y] w fun e w' =>
    e = .returned (.int .i64 (valV a b c x y)) ∧ Below w.heap.size w w' := by
  go_enter Try.func52, Try.ntmps52
  go_wp2
  go_ret
  exact ⟨rfl, by go_grown⟩

theorem foPolar_any (a b c x y u v : Int) (w : World) : Calls Try.prog 49 #[.agg #[.int .i64 a, .int .i64 b, .int .i64 c], .int .i64 x, .int .i64 y, .int .i64 u, .int .i64 v] w fun e w' =>
    e = .returned (.int .i64 (polV a b c x y u v)) ∧ Below w.heap.size w w' := by
  go_enter Try.func49, Try.ntmps49
  go_wp2
  go_ret
  exact ⟨rfl, by go_grown⟩

theorem polar_any (a b c x y u v : Int) (w : World) : Calls Try.prog 50 #[.agg #[.int .i64 a, .int .i64 b, .int .i64 c], .int .i64 x, .int .i64 y, .int .i64 u, .int .i64 v] w fun e w' =>
    e = .returned (.int .i64 (polV a b c x y u v)) ∧ Below w.heap.size w w' := by
  go_enter Try.func50, Try.ntmps50
  go_wp2
  go_ret
  exact ⟨rfl, by go_grown⟩

theorem foDet_any (a b c d : Int) (w : World) : Calls Try.prog 53 #[.agg #[.int .i64 a, .int .i64 b, .int .i64 c, .int .i64 d]] w fun e w' =>
    e = .returned (.int .i64 (detV a b c d)) ∧ Below w.heap.size w w' := by
  go_enter Try.func53, Try.ntmps53
  go_wp2
  go_ret
  exact ⟨rfl, by go_grown⟩

theorem det_any (a b c d : Int) (w : World) : Calls Try.prog 54 #[.agg #[.int .i64 a, .int .i64 b, .int .i64 c, .int .i64 d]] w fun e w' =>
    e = .returned (.int .i64 (detV a b c d)) ∧ Below w.heap.size w w' := by
  go_enter Try.func54, Try.ntmps54
  go_wp2
  go_ret
  exact ⟨rfl, by go_grown⟩

theorem specDisc_any (a b c : Int) (w : World) : Calls Try.prog 25 #[.agg #[.int .i64 a, .int .i64 b, .int .i64 c]] w fun e w' =>
    e = .returned (.tuple #[.int .i64 (oFor (good3 a b c) (discV a b c)), .bool (good3 a b c)]) ∧ Below w.heap.size w w' := by
  rcases hg : good3 a b c with _ | _
  · go_enter Try.func25, Try.ntmps25
    go_wp2_with fail
    ((with_reducible refine (foGood_any _ _ _ _).mono ?_); rintro e w1 ⟨rfl, hb1⟩)
    obtain ⟨hc1, hf1⟩ := bcell hb1
    have hz1 := hb1.size
    try simp only [World.size_alloc, World.size_drew, World.size_setCell] at hz1
    try have hs1 : w.heap.size < w1.heap.size := by omega
    have bl1 : Below w.heap.size w w1 := Below.trans (by go_grown) (hb1.mono (by go_size))
    go_wp2
    go_ret2
    exact ⟨rfl, bl1⟩
  · go_enter Try.func25, Try.ntmps25
    go_wp2_with fail
    ((with_reducible refine (foGood_any _ _ _ _).mono ?_); rintro e w1 ⟨rfl, hb1⟩)
    obtain ⟨hc1, hf1⟩ := bcell hb1
    have hz1 := hb1.size
    try simp only [World.size_alloc, World.size_drew, World.size_setCell] at hz1
    try have hs1 : w.heap.size < w1.heap.size := by omega
    have bl1 : Below w.heap.size w w1 := Below.trans (by go_grown) (hb1.mono (by go_size))
    go_wp2_with fail
    ((with_reducible refine (foDisc_any _ _ _ _).mono ?_); rintro e w2 ⟨rfl, hb2⟩)
    obtain ⟨hc2, hf2⟩ := bcell hb2
    have hz2 := hb2.size
    try simp only [World.size_alloc, World.size_drew, World.size_setCell] at hz2
    try have hs2 : w.heap.size < w2.heap.size := by omega
    have bl2 : Below w.heap.size w w2 := Below.trans (by go_grown) (hb2.mono (by go_size))
    go_wp2
    go_ret2
    exact ⟨rfl, bl2⟩

theorem implDisc_any (a b c : Int) (w : World) : Calls Try.prog 26 #[.agg #[.int .i64 a, .int .i64 b, .int .i64 c]] w fun e w' =>
    e = .returned (.tuple #[.int .i64 (oFor (good3 a b c) (discV a b c)), .bool (good3 a b c)]) ∧ Below w.heap.size w w' := by
  rcases hg : good3 a b c with _ | _
  · go_enter Try.func26, Try.ntmps26
    go_wp2_with fail
    ((with_reducible refine (isForm_any _ _ _ _).mono ?_); rintro e w1 ⟨rfl, hb1⟩)
    obtain ⟨hc1, hf1⟩ := bcell hb1
    have hz1 := hb1.size
    try simp only [World.size_alloc, World.size_drew, World.size_setCell] at hz1
    try have hs1 : w.heap.size < w1.heap.size := by omega
    have bl1 : Below w.heap.size w w1 := Below.trans (by go_grown) (hb1.mono (by go_size))
    go_wp2
    go_ret2
    exact ⟨rfl, bl1⟩
  · go_enter Try.func26, Try.ntmps26
    go_wp2_with fail
    ((with_reducible refine (isForm_any _ _ _ _).mono ?_); rintro e w1 ⟨rfl, hb1⟩)
    obtain ⟨hc1, hf1⟩ := bcell hb1
    have hz1 := hb1.size
    try simp only [World.size_alloc, World.size_drew, World.size_setCell] at hz1
    try have hs1 : w.heap.size < w1.heap.size := by omega
    have bl1 : Below w.heap.size w w1 := Below.trans (by go_grown) (hb1.mono (by go_size))
    go_wp2_with fail
    ((with_reducible refine (disc_any _ _ _ _).mono ?_); rintro e w2 ⟨rfl, hb2⟩)
    obtain ⟨hc2, hf2⟩ := bcell hb2
    have hz2 := hb2.size
    try simp only [World.size_alloc, World.size_drew, World.size_setCell] at hz2
    try have hs2 : w.heap.size < w2.heap.size := by omega
    have bl2 : Below w.heap.size w w2 := Below.trans (by go_grown) (hb2.mono (by go_size))
    go_wp2
    go_ret2
    exact ⟨rfl, bl2⟩

theorem specDet_any (a b c d : Int) (w : World) : Calls Try.prog 31 #[.agg #[.int .i64 a, .int .i64 b, .int .i64 c, .int .i64 d]] w fun e w' =>
    e = .returned (.tuple #[.int .i64 (oFor (good4 a b c d) (detV a b c d)), .bool (good4 a b c d)]) ∧ Below w.heap.size w w' := by
  rcases hg : good4 a b c d with _ | _
  · go_enter Try.func31, Try.ntmps31
    go_wp2_with fail
    ((with_reducible refine (foMatrix_any _ _ _ _ _).mono ?_); rintro e w1 ⟨rfl, hb1⟩)
    obtain ⟨hc1, hf1⟩ := bcell hb1
    have hz1 := hb1.size
    try simp only [World.size_alloc, World.size_drew, World.size_setCell] at hz1
    try have hs1 : w.heap.size < w1.heap.size := by omega
    have bl1 : Below w.heap.size w w1 := Below.trans (by go_grown) (hb1.mono (by go_size))
    go_wp2
    go_ret2
    exact ⟨rfl, bl1⟩
  · go_enter Try.func31, Try.ntmps31
    go_wp2_with fail
    ((with_reducible refine (foMatrix_any _ _ _ _ _).mono ?_); rintro e w1 ⟨rfl, hb1⟩)
    obtain ⟨hc1, hf1⟩ := bcell hb1
    have hz1 := hb1.size
    try simp only [World.size_alloc, World.size_drew, World.size_setCell] at hz1
    try have hs1 : w.heap.size < w1.heap.size := by omega
    have bl1 : Below w.heap.size w w1 := Below.trans (by go_grown) (hb1.mono (by go_size))
    go_wp2_with fail
    ((with_reducible refine (foDet_any _ _ _ _ _).mono ?_); rintro e w2 ⟨rfl, hb2⟩)
    obtain ⟨hc2, hf2⟩ := bcell hb2
    have hz2 := hb2.size
    try simp only [World.size_alloc, World.size_drew, World.size_setCell] at hz2
    try have hs2 : w.heap.size < w2.heap.size := by omega
    have bl2 : Below w.heap.size w w2 := Below.trans (by go_grown) (hb2.mono (by go_size))
    go_wp2
    go_ret2
    exact ⟨rfl, bl2⟩

theorem implDet_any (a b c d : Int) (w : World) : Calls Try.prog 32 #[.agg #[.int .i64 a, .int .i64 b, .int .i64 c, .int .i64 d]] w fun e w' =>
    e = .returned (.tuple #[.int .i64 (oFor (good4 a b c d) (detV a b c d)), .bool (good4 a b c d)]) ∧ Below w.heap.size w w' := by
  rcases hg : good4 a b c d with _ | _
  · go_enter Try.func32, Try.ntmps32
    go_wp2_with fail
    ((with_reducible refine (isMatrix_any _ _ _ _ _).mono ?_); rintro e w1 ⟨rfl, hb1⟩)
    obtain ⟨hc1, hf1⟩ := bcell hb1
    have hz1 := hb1.size
    try simp only [World.size_alloc, World.size_drew, World.size_setCell] at hz1
    try have hs1 : w.heap.size < w1.heap.size := by omega
    have bl1 : Below w.heap.size w w1 := Below.trans (by go_grown) (hb1.mono (by go_size))
    go_wp2
    go_ret2
    exact ⟨rfl, bl1⟩
  · go_enter Try.func32, Try.ntmps32
    go_wp2_with fail
    ((with_reducible refine (isMatrix_any _ _ _ _ _).mono ?_); rintro e w1 ⟨rfl, hb1⟩)
    obtain ⟨hc1, hf1⟩ := bcell hb1
    have hz1 := hb1.size
    try simp only [World.size_alloc, World.size_drew, World.size_setCell] at hz1
    try have hs1 : w.heap.size < w1.heap.size := by omega
    have bl1 : Below w.heap.size w w1 := Below.trans (by go_grown) (hb1.mono (by go_size))
    go_wp2_with fail
    ((with_reducible refine (det_any _ _ _ _ _).mono ?_); rintro e w2 ⟨rfl, hb2⟩)
    obtain ⟨hc2, hf2⟩ := bcell hb2
    have hz2 := hb2.size
    try simp only [World.size_alloc, World.size_drew, World.size_setCell] at hz2
    try have hs2 : w.heap.size < w2.heap.size := by omega
    have bl2 : Below w.heap.size w w2 := Below.trans (by go_grown) (hb2.mono (by go_size))
    go_wp2
    go_ret2
    exact ⟨rfl, bl2⟩

/-! ### the laws -/

end Go.Proofs.Ytbhamnkhkbmidaa
