/-
  Plain facts: the symbol of Kronecker.
-/
import Derived.Test.YtbiaokglmdmopaaSym
namespace Go.Proofs.Ytbiaokglmdmopaa

def krN (a s : Int) (n : Nat) : Int := if h : n ≠ 0 ∧ n % 2 = 0 then krN a (s * twoS a) (n / 2) else s * Jac.J a n
termination_by n
decreasing_by omega
theorem krN_even {a s : Int} {n : Nat} (h0 : n ≠ 0) (h : n % 2 = 0) : krN a s n = krN a (s * twoS a) (n / 2) := by
  rw [krN, dif_pos ⟨h0, h⟩]
theorem krN_odd {a s : Int} {n : Nat} (h : n % 2 = 1) : krN a s n = s * Jac.J a n := by
  rw [krN, dif_neg (by omega)]
theorem krN_zero (a : Int) (n : Nat) (h0 : n ≠ 0) : krN a 0 n = 0 := by
  induction n using Nat.strongRecOn with
  | ind n ih =>
    by_cases h : n % 2 = 0
    · rw [krN_even h0 h, Int.zero_mul]
      exact ih (n / 2) (by omega) (by omega)
    · rw [krN_odd (by omega), Int.zero_mul]
def kr (a n : Int) : Int := if n = 0 then (if a = 1 ∨ a = -1 then 1 else 0) else krN a (if n < 0 ∧ a < 0 then -1 else 1) n.natAbs
theorem mul_bd1 {x y : Int} (hx : -1 ≤ x ∧ x ≤ 1) (hy : -1 ≤ y ∧ y ≤ 1) : -1 ≤ x * y ∧ x * y ≤ 1 := by
  have : x = -1 ∨ x = 0 ∨ x = 1 := by omega
  rcases this with rfl | rfl | rfl <;> omega
theorem krN_bd (a : Int) (n : Nat) : ∀ s : Int, -1 ≤ s ∧ s ≤ 1 → -1 ≤ krN a s n ∧ krN a s n ≤ 1 := by
  induction n using Nat.strongRecOn with
  | ind n ih =>
    intro s hs
    by_cases h : n ≠ 0 ∧ n % 2 = 0
    · rw [krN_even h.1 h.2]
      exact ih (n / 2) (by omega) _ (mul_bd1 hs (twoS_bd a))
    · rw [krN, dif_neg h]
      exact mul_bd1 hs (J_bd a n)
theorem kr_bd (a n : Int) : -1 ≤ kr a n ∧ kr a n ≤ 1 := by
  unfold kr
  split
  · split <;> omega
  · exact krN_bd _ _ _ (by split <;> omega)
end Go.Proofs.Ytbiaokglmdmopaa
