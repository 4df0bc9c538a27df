/-
  Plain functions on numbers, named for the walks: the whole root, powers, factors. No program in sight.
-/
namespace Go.Proofs.Ytfpedehpmgcmnaa

/-! ### the whole root -/
def isq : Nat → Nat
  | 0 => 0
  | n + 1 => if (isq n + 1) * (isq n + 1) ≤ n + 1 then isq n + 1 else isq n
theorem isq_spec : ∀ n, isq n * isq n ≤ n ∧ n < (isq n + 1) * (isq n + 1)
  | 0 => by simp [isq]
  | n + 1 => by
    obtain ⟨h1, h2⟩ := isq_spec n
    rw [isq]
    by_cases h : (isq n + 1) * (isq n + 1) ≤ n + 1
    · rw [if_pos h]
      refine ⟨h, ?_⟩
      have : (isq n + 1 + 1) * (isq n + 1 + 1) = (isq n + 1) * (isq n + 1) + 2 * (isq n + 1) + 1 := by grind
      omega
    · rw [if_neg h]
      omega
theorem sq_lt {a b : Nat} (h : a * a < b * b) : a < b := by
  rcases Nat.lt_or_ge a b with h1 | h1
  · exact h1
  · have := Nat.mul_le_mul h1 h1; omega
theorem isq_unique {n r : Nat} (h1 : r * r ≤ n) (h2 : n < (r + 1) * (r + 1)) : r = isq n := by
  obtain ⟨a, b⟩ := isq_spec n
  have c1 := sq_lt (show r * r < (isq n + 1) * (isq n + 1) by omega)
  have c2 := sq_lt (show isq n * isq n < (r + 1) * (r + 1) by omega)
  omega

/-! ### powers modulo m -/
def pw (k : Nat) (a p m : Int) : Int := if _h : k = 0 then p else pw (k / 2) (a * a % m) (if k % 2 = 1 then p * a % m else p) m
termination_by k
decreasing_by omega
theorem pw_zero (a p m : Int) : pw 0 a p m = p := by rw [pw]; rfl
theorem pw_odd {k : Nat} (a p m : Int) (h : k % 2 = 1) : pw k a p m = pw (k / 2) (a * a % m) (p * a % m) m := by
  rw [pw, dif_neg (by omega), if_pos h]
theorem pw_even {k : Nat} (a p m : Int) (h0 : k ≠ 0) (h : k % 2 = 0) : pw k a p m = pw (k / 2) (a * a % m) p m := by
  rw [pw, dif_neg h0, if_neg (by omega)]

/-! ### how often p divides n -/
def exN (n p : Nat) : Nat := if h : n ≠ 0 ∧ 2 ≤ p ∧ n % p = 0 then exN (n / p) p + 1 else 0
termination_by n
decreasing_by exact Nat.div_lt_self (by omega) (by omega)
theorem exN_hit {n p : Nat} (h0 : n ≠ 0) (h2 : 2 ≤ p) (h : n % p = 0) : exN n p = exN (n / p) p + 1 := by
  rw [exN, dif_pos ⟨h0, h2, h⟩]
theorem exN_miss {n p : Nat} (h : n % p ≠ 0) : exN n p = 0 := by
  rw [exN, dif_neg (fun h' => h h'.2.2)]

/-! ### the square-free part -/
def sfN (p a k : Nat) : Nat × Nat :=
  if h : 2 ≤ p ∧ p * p ≤ a then (if a % (p * p) = 0 then sfN p (a / (p * p)) (k * p) else sfN (p + 1) a k) else (a, k)
termination_by 2 * a - p
decreasing_by
  · have h4 : 2 * p ≤ p * p := Nat.mul_le_mul_right p h.1
    have h1 : a / (p * p) ≤ a / 4 := Nat.div_le_div_left (by omega) (by omega)
    omega
  · have h4 : 2 * p ≤ p * p := Nat.mul_le_mul_right p h.1
    omega
theorem sfN_hit {p a k : Nat} (h2 : 2 ≤ p) (h : p * p ≤ a) (hm : a % (p * p) = 0) : sfN p a k = sfN p (a / (p * p)) (k * p) := by
  rw [sfN, dif_pos ⟨h2, h⟩, if_pos hm]
theorem sfN_miss {p a k : Nat} (h2 : 2 ≤ p) (h : p * p ≤ a) (hm : a % (p * p) ≠ 0) : sfN p a k = sfN (p + 1) a k := by
  rw [sfN, dif_pos ⟨h2, h⟩, if_neg hm]
theorem sfN_end {p a k : Nat} (h : a < p * p) : sfN p a k = (a, k) := by
  rw [sfN, dif_neg (fun h' => by omega)]

/-! ### prime factors -/
def fcs (p n : Nat) : List Nat :=
  if h : 2 ≤ p ∧ p * p ≤ n then (if n % p = 0 then p :: fcs p (n / p) else fcs (p + 1) n) else if 1 < n then [n] else []
termination_by 2 * n - p
decreasing_by
  · have h4 : 2 * p ≤ p * p := Nat.mul_le_mul_right p h.1
    have h1 : n / p ≤ n / 2 := Nat.div_le_div_left (by omega) (by omega)
    omega
  · have h4 : 2 * p ≤ p * p := Nat.mul_le_mul_right p h.1
    omega
theorem fcs_hit {p n : Nat} (h2 : 2 ≤ p) (h : p * p ≤ n) (hm : n % p = 0) : fcs p n = p :: fcs p (n / p) := by
  rw [fcs, dif_pos ⟨h2, h⟩, if_pos hm]
theorem fcs_miss {p n : Nat} (h2 : 2 ≤ p) (h : p * p ≤ n) (hm : n % p ≠ 0) : fcs p n = fcs (p + 1) n := by
  rw [fcs, dif_pos ⟨h2, h⟩, if_neg hm]
theorem fcs_end {p n : Nat} (h : n < p * p) : fcs p n = if 1 < n then [n] else [] := by
  rw [fcs, dif_neg (fun h' => by omega)]

/-! ### Euclid's remainders -/
def eur (m r : Nat) : List Nat := if _h : r = 0 then [] else r :: eur r (m % r)
termination_by r
decreasing_by exact Nat.mod_lt _ (by omega)
theorem eur_zero (m : Nat) : eur m 0 = [] := by rw [eur]; rfl
theorem eur_pos {m r : Nat} (h : r ≠ 0) : eur m r = r :: eur r (m % r) := by rw [eur, dif_neg h]

end Go.Proofs.Ytfpedehpmgcmnaa
