/-
  Plain facts: the steps of a symbol.
-/
import Derived.Test.YtfpedehpmgcmnaaJac
import Derived.Lib.Hide
namespace Go.Proofs.Ytfpedehpmgcmnaa

def twoS (a : Int) : Int := if a % 8 = 1 ∨ a % 8 = 7 then 1 else if a % 8 = 3 ∨ a % 8 = 5 then -1 else 0
theorem twoS_plus {a : Int} (h : a % 8 = 1 ∨ a % 8 = 7) : twoS a = 1 := by unfold twoS; rw [if_pos h]
theorem twoS_minus {a : Int} (h : a % 8 = 3 ∨ a % 8 = 5) : twoS a = -1 := by unfold twoS; rw [if_neg (by omega), if_pos h]
theorem twoS_zero {a : Int} (h : a % 2 = 0) : twoS a = 0 := by unfold twoS; rw [if_neg (by omega), if_neg (by omega)]
theorem twoS_bd (a : Int) : -1 ≤ twoS a ∧ twoS a ≤ 1 := by unfold twoS; split <;> (try split) <;> omega
theorem twoS_sign {a : Int} (h : a % 2 = 1) : twoS a = 1 ∨ twoS a = -1 := by
  have : a % 8 = 1 ∨ a % 8 = 7 ∨ a % 8 = 3 ∨ a % 8 = 5 := by omega
  rcases this with h | h | h | h
  · exact .inl (twoS_plus (.inl h))
  · exact .inl (twoS_plus (.inr h))
  · exact .inr (twoS_minus (.inl h))
  · exact .inr (twoS_minus (.inr h))
theorem twoS_J {n : Nat} (ho : n % 2 = 1) : twoS n = Jac.J 2 n := by
  rw [Jac.J_two ho]
  split
  · rename_i h; exact twoS_plus (by omega)
  · rename_i h; exact twoS_minus (by omega)
theorem J_half {x n : Nat} (ho : n % 2 = 1) (hx : x % 2 = 0) : Jac.J x n = twoS n * Jac.J (x / 2 : Nat) n := by
  have e : (x : Int) = 2 * ((x / 2 : Nat) : Int) := by omega
  rw [twoS_J ho, ← Jac.J_mul' ho, ← e]
theorem J_flip {x n : Nat} (ho : n % 2 = 1) (hx : x % 2 = 1) : Jac.J x n = (if x % 4 = 3 ∧ n % 4 = 3 then -1 else 1) * Jac.J n x := by
  rw [Jac.J_recip ho hx, Jac.sg_swap ho hx]
theorem J_mod {x n : Nat} (ho : n % 2 = 1) : Jac.J (x % n : Nat) n = Jac.J x n := by
  rw [Int.natCast_emod, Jac.J_emod _ ho]

/-- 's' times the symbol (y/m) is 'V' -/
structure Sy (V s : Int) (y m : Nat) : Prop where
  sign : s = 1 ∨ s = -1
  odd : m % 2 = 1
  val : s * Jac.J y m = V
theorem sign_mul {s t : Int} (hs : s = 1 ∨ s = -1) (ht : t = 1 ∨ t = -1) : s * t = 1 ∨ s * t = -1 := by
  rcases hs with rfl | rfl <;> rcases ht with rfl | rfl <;> simp
theorem Sy.half {V s : Int} {y m : Nat} (h : Sy V s y m) (hy : y % 2 = 0) : Sy V (s * twoS m) (y / 2) m :=
  ⟨sign_mul h.sign (twoS_sign (by have := h.odd; omega)), h.odd, by rw [Int.mul_assoc, ← J_half h.odd hy]; exact h.val⟩
theorem Sy.swapP {V s : Int} {y m : Nat} (h : Sy V s y m) (hy : y % 2 = 1) (hn : ¬ (y % 4 = 3 ∧ m % 4 = 3)) : Sy V s m y :=
  ⟨h.sign, hy, by have h1 := J_flip h.odd hy; rw [if_neg hn, Int.one_mul] at h1; rw [← h1]; exact h.val⟩
theorem Sy.swapM {V s : Int} {y m : Nat} (h : Sy V s y m) (hy : y % 2 = 1) (hn : y % 4 = 3 ∧ m % 4 = 3) : Sy V (-s) m y :=
  ⟨by have := h.sign; omega, hy, by have h1 := J_flip h.odd hy; rw [if_pos hn] at h1; rw [← h.val, h1]; simp [Int.neg_mul, Int.mul_neg]⟩
theorem Sy.mod {V s : Int} {y m : Nat} (h : Sy V s y m) : Sy V s (y % m) m := ⟨h.sign, h.odd, by rw [J_mod h.odd]; exact h.val⟩
theorem Sy.start {a : Int} {n : Nat} (ho : n % 2 = 1) : Sy (Jac.J a n) 1 (a % n).toNat n :=
  ⟨.inl rfl, ho, by rw [Int.one_mul, Int.toNat_of_nonneg (Int.emod_nonneg _ (by omega)), Jac.J_emod _ ho]⟩
theorem Sy.zero {V s : Int} {m : Nat} (h : Sy V s 0 m) (hm : m ≠ 1) : V = 0 := by
  have := h.val
  rw [show ((0 : Nat) : Int) = 0 from rfl, Jac.J_zero_left hm] at this
  simpa using this.symm
theorem Sy.one {V s : Int} {y : Nat} (h : Sy V s y 1) : V = s := by
  have := h.val
  rw [Jac.J_one] at this
  simpa using this.symm
theorem J_bd (a : Int) (n : Nat) : -1 ≤ Jac.J a n ∧ Jac.J a n ≤ 1 := by
  by_cases h : Int.gcd a n = 1
  · rcases Jac.isSign_J h with h | h <;> omega
  · rw [Jac.J_zero h]; omega
theorem J_one_left {n : Nat} (ho : n % 2 = 1) : Jac.J 1 n = 1 := by
  have h := Jac.J_sq (a := 1) ho (by simp)
  simpa using h
theorem Sy.top1 {V s : Int} {m : Nat} (h : Sy V s 1 m) : V = s := by
  have := h.val
  rw [show ((1 : Nat) : Int) = 1 from rfl, J_one_left h.odd] at this
  simpa using this.symm
end Go.Proofs.Ytfpedehpmgcmnaa
