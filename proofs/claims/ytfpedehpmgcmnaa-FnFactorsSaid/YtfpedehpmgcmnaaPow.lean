/-
  Contracts: powers modulo m, of the program and of the reference.
-/
import Derived.Test.YtfpedehpmgcmnaaAr
import Derived.Test.YtfpedehpmgcmnaaPlain
import Derived.Deep.QuietTactic
import Derived.BigQuiet
namespace Go.Proofs.Ytfpedehpmgcmnaa
open Go.RowKit
set_option linter.unusedSimpArgs false
set_option linter.unusedVariables false

theorem mul_lt_bd {x y m : Int} (x0 : 0 ≤ x) (x1 : x < m) (y0 : 0 ≤ y) (y1 : y < m) (hm : m ≤ 1000000) : 0 ≤ x * y ∧ x * y ≤ 1000000000000 := by
  obtain ⟨X, rfl⟩ : ∃ X : Nat, x = X := ⟨x.toNat, by omega⟩
  obtain ⟨Y, rfl⟩ : ∃ Y : Nat, y = Y := ⟨y.toNat, by omega⟩
  have : X * Y ≤ 1000000 * 1000000 := Nat.mul_le_mul (by omega) (by omega)
  rw [← Int.natCast_mul]
  omega

end Go.Proofs.Ytfpedehpmgcmnaa
