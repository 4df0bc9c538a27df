/-
  Contracts: the whole root by halving, of the program and of the reference.
-/
import Derived.Test.YtfpedehpmgcmnaaGood
import Derived.Test.YtfpedehpmgcmnaaPlain
import Derived.Handy
namespace Go.Proofs.Ytfpedehpmgcmnaa
open Go.RowKit
set_option linter.unusedSimpArgs false
set_option linter.unusedVariables false

def Sand (n l h : Int) : Prop := l * l ≤ n ∧ n < (h + 1) * (h + 1)
theorem Sand.up {n l h m : Int} (hs : Sand n l h) (hm : m * m ≤ n) : Sand n m h := ⟨hm, hs.2⟩
theorem Sand.down {n l h m : Int} (hs : Sand n l h) (hm : n < m * m) : Sand n l (m - 1) := ⟨hs.1, by rw [show m - 1 + 1 = m by omega]; exact hm⟩
theorem Sand.eq {n l : Int} (hs : Sand n l l) (h0 : 0 ≤ l) : l = (isq n.toNat : Int) := by
  obtain ⟨h1, h2⟩ := hs
  obtain ⟨L, rfl⟩ : ∃ L : Nat, l = L := ⟨l.toNat, by omega⟩
  have e1 : L * L ≤ n.toNat := by
    have : ((L * L : Nat) : Int) ≤ n := by rw [Int.natCast_mul]; exact h1
    omega
  have e2 : n.toNat < (L + 1) * (L + 1) := by
    have h3 : n < (((L + 1) * (L + 1) : Nat) : Int) := by rw [Int.natCast_mul]; exact h2
    have h4 : 0 < (L + 1) * (L + 1) := Nat.mul_pos (by omega) (by omega)
    omega
  rw [isq_unique e1 e2]
theorem sq_bd {x : Int} (h0 : 0 ≤ x) (h1 : x ≤ 3000000000) : 0 ≤ x * x ∧ x * x ≤ 9000000000000000000 := by
  obtain ⟨X, rfl⟩ : ∃ X : Nat, x = X := ⟨x.toNat, by omega⟩
  have : X * X ≤ 3000000000 * 3000000000 := Nat.mul_le_mul (by omega) (by omega)
  rw [← Int.natCast_mul]
  omega

end Go.Proofs.Ytfpedehpmgcmnaa
