/-
  Contracts of the functions on forms and matrices: validity, discriminant, values, determinant, inverse, substitution.
-/
import Derived.Test.YtpoipdjhelnibaaDoorGood
import Derived.Handy
namespace Go.Proofs.YtpoipdjhelnibaaDoor
open Go.RowKit
set_option linter.unusedSimpArgs false
set_option linter.unusedVariables false

theorem bcell {W w1 : World} (hb : Below W.heap.size W w1) : (∀ b o, b < W.heap.size → w1.cell? ⟨b, o, none⟩ = W.cell? ⟨b, o, none⟩) ∧ (∀ b o, b < W.heap.size → w1.frozen? ⟨b, o, none⟩ = W.frozen? ⟨b, o, none⟩) :=
  ⟨fun b o h => hb.cell (p := ⟨b, o, none⟩) h, fun b o h => hb.frozen (p := ⟨b, o, none⟩) h⟩

def good3 (a b c : Int) : Bool := good a && (good b && good c)
def good4 (a b c d : Int) : Bool := good a && (good b && (good c && good d))
theorem good3_iff {a b c : Int} : good3 a b c = true ↔ good a = true ∧ good b = true ∧ good c = true := by simp [good3]
theorem good4_iff {a b c d : Int} : good4 a b c d = true ↔ good a = true ∧ good b = true ∧ good c = true ∧ good d = true := by simp [good4]


def discV (a b c : Int) : Int := wrap64 (wrap64 (b * b) - wrap64 (wrap64 (4 * a) * c))
def valV (a b c x y : Int) : Int := wrap64 (wrap64 (wrap64 (wrap64 (a * x) * x) + wrap64 (wrap64 (b * x) * y)) + wrap64 (wrap64 (c * y) * y))
def polV (a b c x y u v : Int) : Int := wrap64 (wrap64 (wrap64 (wrap64 (wrap64 (2 * a) * x) * u) + wrap64 (b * wrap64 (wrap64 (x * v) + wrap64 (y * u)))) + wrap64 (wrap64 (wrap64 (2 * c) * y) * v))
def detV (a b c d : Int) : Int := wrap64 (wrap64 (a * d) - wrap64 (b * c))
def oFor (g : Bool) (x : Int) : Int := if g = true then x else 0
theorem oFor_true (x : Int) : oFor true x = x := rfl
theorem oFor_false (x : Int) : oFor false x = 0 := rfl

theorem toForm_any (a b c : Int) (w : World) : Calls Tryd.prog 11 #[.agg #[.int .i64 a, .int .i64 b, .int .i64 c]] w fun e w' =>
    e = .returned (.agg #[.int .i64 a, .int .i64 b, .int .i64 c]) ∧ Below w.heap.size w w' := by
  go_enter Tryd.func11, Tryd.ntmps11
  go_wp2
  go_returns
  exact ⟨rfl, by go_grown⟩

theorem toMatrix_any (a b c d : Int) (w : World) : Calls Tryd.prog 8 #[.agg #[.int .i64 a, .int .i64 b, .int .i64 c, .int .i64 d]] w fun e w' =>
    e = .returned (.agg #[.int .i64 a, .int .i64 b, .int .i64 c, .int .i64 d]) ∧ Below w.heap.size w w' := by
  go_enter Tryd.func8, Tryd.ntmps8
  go_wp2
  go_returns
  exact ⟨rfl, by go_grown⟩

theorem foGood_any (a b c : Int) (w : World) : Calls Tryd.prog 23 #[.agg #[.int .i64 a, .int .i64 b, .int .i64 c]] w fun e w' =>
    e = .returned (.bool (good3 a b c)) ∧ Below w.heap.size w w' := by
  unfold good3
  rcases ha : good a with _ | _
  · go_enter Tryd.func23, Tryd.ntmps23
    go_wp2_with (go_at_call 30; refine (nuGood_any _ _).mono ?_; rintro e w' ⟨rfl, rfl⟩)
    go_ret
    exact ⟨rfl, by go_grown⟩
  · rcases hb : good b with _ | _
    · go_enter Tryd.func23, Tryd.ntmps23
      go_wp2_with (go_at_call 30; refine (nuGood_any _ _).mono ?_; rintro e w' ⟨rfl, rfl⟩)
      go_ret
      exact ⟨rfl, by go_grown⟩
    · go_enter Tryd.func23, Tryd.ntmps23
      go_wp2_with (go_at_call 30; refine (nuGood_any _ _).mono ?_; rintro e w' ⟨rfl, rfl⟩)
      go_ret
      exact ⟨rfl, by go_grown⟩

theorem foMatrix_any (a b c d : Int) (w : World) : Calls Tryd.prog 19 #[.agg #[.int .i64 a, .int .i64 b, .int .i64 c, .int .i64 d]] w fun e w' =>
    e = .returned (.bool (good4 a b c d)) ∧ Below w.heap.size w w' := by
  unfold good4
  rcases ha : good a with _ | _
  · go_enter Tryd.func19, Tryd.ntmps19
    go_wp2_with (go_at_call 30; refine (nuGood_any _ _).mono ?_; rintro e w' ⟨rfl, rfl⟩)
    go_ret
    exact ⟨rfl, by go_grown⟩
  · rcases hb : good b with _ | _
    · go_enter Tryd.func19, Tryd.ntmps19
      go_wp2_with (go_at_call 30; refine (nuGood_any _ _).mono ?_; rintro e w' ⟨rfl, rfl⟩)
      go_ret
      exact ⟨rfl, by go_grown⟩
    · rcases hc : good c with _ | _
      · go_enter Tryd.func19, Tryd.ntmps19
        go_wp2_with (go_at_call 30; refine (nuGood_any _ _).mono ?_; rintro e w' ⟨rfl, rfl⟩)
        go_ret
        exact ⟨rfl, by go_grown⟩
      · go_enter Tryd.func19, Tryd.ntmps19
        go_wp2_with (go_at_call 30; refine (nuGood_any _ _).mono ?_; rintro e w' ⟨rfl, rfl⟩)
        go_ret
        exact ⟨rfl, by go_grown⟩

theorem isForm_any (a b c : Int) (w : World) : Calls Tryd.prog 25 #[.agg #[.int .i64 a, .int .i64 b, .int .i64 c]] w fun e w' =>
    e = .returned (.bool (good3 a b c)) ∧ Below w.heap.size w w' := by
  unfold good3
  go_enter Tryd.func25, Tryd.ntmps25
  go_wp2_with (go_at_call 32; refine (are3 a b c _ _ (by simp) (by simp) (by simp)).mono ?_; rintro e w' ⟨rfl, rfl⟩)
  go_ret
  exact ⟨rfl, by go_grown⟩

theorem isMatrix_any (a b c d : Int) (w : World) : Calls Tryd.prog 21 #[.agg #[.int .i64 a, .int .i64 b, .int .i64 c, .int .i64 d]] w fun e w' =>
    e = .returned (.bool (good4 a b c d)) ∧ Below w.heap.size w w' := by
  unfold good4
  go_enter Tryd.func21, Tryd.ntmps21
  go_wp2_with (go_at_call 32; refine (are4 a b c d _ _ (by simp) (by simp) (by simp) (by simp)).mono ?_; rintro e w' ⟨rfl, rfl⟩)
  go_ret
  exact ⟨rfl, by go_grown⟩















/-! ### the laws -/

end Go.Proofs.YtpoipdjhelnibaaDoor
