/-
  Contracts of the functions on forms and matrices: validity, discriminant, values, determinant, inverse, substitution.
-/
import Derived.Test.YtfpedehpmgcmnaaGood
import Derived.Handy
namespace Go.Proofs.Ytfpedehpmgcmnaa
open Go.RowKit
set_option linter.unusedSimpArgs false
set_option linter.unusedVariables false

theorem bcell {W w1 : World} (hb : Below W.heap.size W w1) : (∀ b o, b < W.heap.size → w1.cell? ⟨b, o, none⟩ = W.cell? ⟨b, o, none⟩) ∧ (∀ b o, b < W.heap.size → w1.frozen? ⟨b, o, none⟩ = W.frozen? ⟨b, o, none⟩) :=
  ⟨fun b o h => hb.cell (p := ⟨b, o, none⟩) h, fun b o h => hb.frozen (p := ⟨b, o, none⟩) h⟩

def good3 (a b c : Int) : Bool := good a && (good b && good c)
def good4 (a b c d : Int) : Bool := good a && (good b && (good c && good d))
theorem good3_iff {a b c : Int} : good3 a b c = true ↔ good a = true ∧ good b = true ∧ good c = true := by simp [good3]
theorem good4_iff {a b c d : Int} : good4 a b c d = true ↔ good a = true ∧ good b = true ∧ good c = true ∧ good d = true := by simp [good4]


def discV (a b c : Int) : Int := wrap64 (wrap64 (b * b) - wrap64 (wrap64 (4 * a) * c))
def valV (a b c x y : Int) : Int := wrap64 (wrap64 (wrap64 (wrap64 (a * x) * x) + wrap64 (wrap64 (b * x) * y)) + wrap64 (wrap64 (c * y) * y))
def polV (a b c x y u v : Int) : Int := wrap64 (wrap64 (wrap64 (wrap64 (wrap64 (2 * a) * x) * u) + wrap64 (b * wrap64 (wrap64 (x * v) + wrap64 (y * u)))) + wrap64 (wrap64 (wrap64 (2 * c) * y) * v))
def detV (a b c d : Int) : Int := wrap64 (wrap64 (a * d) - wrap64 (b * c))
def oFor (g : Bool) (x : Int) : Int := if g = true then x else 0
theorem oFor_true (x : Int) : oFor true x = x := rfl
theorem oFor_false (x : Int) : oFor false x = 0 := rfl





















/-! ### the laws -/

end Go.Proofs.Ytfpedehpmgcmnaa
