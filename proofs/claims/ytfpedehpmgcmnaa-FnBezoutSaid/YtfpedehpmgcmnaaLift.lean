/-
  Plain law: the root modulo m*p above a root modulo m, for an odd prime p that divides m. No program in sight.
-/
import Derived.Test.YtfpedehpmgcmnaaPrimeP
namespace Go.Proofs.Ytfpedehpmgcmnaa
set_option linter.unusedVariables false

theorem gcd_of_prime {p : Nat} (hp : Jac.Pr p) {y : Int} (hy : ¬ (p : Int) ∣ y) : Int.gcd y p = 1 := by
  have h1 : (Int.gcd y p) ∣ p := by
    have := Int.gcd_dvd_right y (p : Int)
    exact Int.natCast_dvd_natCast.1 this
  have h2 : ((Int.gcd y p : Nat) : Int) ∣ y := Int.gcd_dvd_left y (p : Int)
  have p2 := hp.1
  have hle := Nat.le_of_dvd (by omega) h1
  have hpos : 0 < Int.gcd y p := Nat.pos_of_ne_zero fun h0 => by
    rw [h0] at h1
    have := Nat.eq_zero_of_zero_dvd h1
    omega
  rcases Nat.lt_or_ge (Int.gcd y p) 2 with h | h
  · omega
  · rcases Nat.lt_or_ge (Int.gcd y p) p with h' | h'
    · exact absurd h1 (hp.2 _ h h')
    · exfalso
      have e : Int.gcd y p = p := by omega
      rw [e] at h2
      exact hy h2

theorem bez (a b : Nat) : ∃ x y : Int, (a : Int) * x + b * y = (Nat.gcd a b : Nat) := by
  induction a, b using Nat.gcd.induction with
  | H0 b => exact ⟨0, 1, by simp⟩
  | H1 a b ha ih =>
    obtain ⟨x, y, h⟩ := ih
    rw [← Nat.gcd_rec] at h
    refine ⟨y - (b / a : Nat) * x, x, ?_⟩
    rw [← h]
    have e : ((b % a : Nat) : Int) = b - a * (b / a : Nat) := by
      have := Nat.mod_add_div b a
      have h2 : ((b % a + a * (b / a) : Nat) : Int) = (b : Int) := by rw [this]
      rw [Int.natCast_add, Int.natCast_mul] at h2
      omega
    rw [e]
    grind
theorem inv_exists {a m : Int} (ha : 0 ≤ a) (hm : 1 ≤ m) (hc : Int.gcd a m = 1) : ∃ v : Int, 0 ≤ v ∧ v < m ∧ m ∣ a * v - 1 := by
  obtain ⟨A, rfl⟩ : ∃ A : Nat, a = A := ⟨a.toNat, by omega⟩
  obtain ⟨M, rfl⟩ : ∃ M : Nat, m = M := ⟨m.toNat, by omega⟩
  obtain ⟨x, y, h⟩ := bez A M
  have hg : Nat.gcd A M = 1 := hc
  rw [hg] at h
  refine ⟨x % M, Int.emod_nonneg _ (by omega), Int.emod_lt_of_pos _ (by omega), ⟨-y - A * (x / M), ?_⟩⟩
  have e : x % M = x - M * (x / M) := by have := Int.emod_add_mul_ediv x M; omega
  rw [e]
  grind

/-- what the walks need of a, p, m and x -/
structure LiI (a p m x : Int) : Prop where
  pr : Jac.Pr p.toNat
  odd : p % 2 = 1
  p1 : 3 ≤ p
  m1 : 1 ≤ m
  pm : p ∣ m
  x0 : 0 ≤ x
  x1 : x < m
  rt : m ∣ x * x - a
  na : ¬ p ∣ a
def liC (a m x : Int) : Int := (a - x * x) / m
def liT (a p m x : Int) : Int := liC a m x % p * inv (2 * x) p % p
def liV (a p m x : Int) : Int := x + m * liT a p m x
theorem LiI.cop {a p m x : Int} (h : LiI a p m x) : Int.gcd (2 * x) p = 1 := by
  obtain ⟨P, rfl⟩ : ∃ P : Nat, p = P := ⟨p.toNat, by have := h.p1; omega⟩
  have hp := h.pr
  rw [Int.toNat_natCast] at hp
  refine gcd_of_prime hp fun hd => ?_
  have h2 : ¬ (P : Int) ∣ 2 := fun h2 => by
    have h3 := Int.le_of_dvd (by omega) h2
    have := h.p1
    omega
  have hx : (P : Int) ∣ x := by
    obtain ⟨c, hc⟩ := hd
    have ho := h.odd
    have : c % 2 = 0 := by
      rcases Int.emod_two_eq c with h4 | h4
      · exact h4
      · have h5 := Int.mul_emod (P : Int) c 2
        rw [ho, h4, ← hc] at h5
        omega
    exact ⟨c / 2, by
      have e : c = 2 * (c / 2) := by omega
      rw [e] at hc
      have : (2 : Int) * x = 2 * (P * (c / 2)) := by rw [hc]; grind
      omega⟩
  apply h.na
  obtain ⟨c, hc⟩ := Int.dvd_trans h.pm h.rt
  obtain ⟨d, hd⟩ := hx
  exact ⟨d * x - c, by rw [Int.mul_sub, ← Int.mul_assoc, ← hd, ← hc]; omega⟩
theorem LiI.inv_dvd {a p m x : Int} (h : LiI a p m x) : 0 ≤ inv (2 * x) p ∧ inv (2 * x) p < p ∧ p ∣ 2 * x * inv (2 * x) p - 1 := by
  have hc := h.cop
  obtain ⟨v, hv1, hv2, hv3⟩ : ∃ v : Int, 0 ≤ v ∧ v < p ∧ p ∣ 2 * x * v - 1 := by
    obtain ⟨v, h1, h2, h3⟩ := inv_exists (a := 2 * x) (m := p) (by have := h.x0; omega) (by have := h.p1; omega) hc
    exact ⟨v, h1, h2, h3⟩
  have := inv_unique hc hv1 hv2 hv3
  rw [← this]
  exact ⟨hv1, hv2, hv3⟩
theorem LiI.c_eq {a p m x : Int} (h : LiI a p m x) : m * liC a m x = a - x * x := by
  unfold liC
  obtain ⟨c, hc⟩ := h.rt
  have e : a - x * x = m * (-c) := by rw [Int.mul_neg, ← hc]; omega
  rw [e, Int.mul_ediv_cancel_left _ (by have := h.m1; omega)]
theorem LiI.t_rng {a p m x : Int} (h : LiI a p m x) : 0 ≤ liT a p m x ∧ liT a p m x < p :=
  ⟨Int.emod_nonneg _ (by have := h.p1; omega), Int.emod_lt_of_pos _ (by have := h.p1; omega)⟩
theorem LiI.t_eq {a p m x : Int} (h : LiI a p m x) : liT a p m x = liC a m x * inv (2 * x) p % p := by
  unfold liT
  rw [Int.mul_emod, Int.emod_emod_of_dvd _ (Int.dvd_refl p), ← Int.mul_emod]
/-- the multiples of m that make x a root modulo m*p -/
theorem LiI.root_iff {a p m x : Int} (h : LiI a p m x) (j : Int) (j0 : 0 ≤ j) (j1 : j < p) : (m * p) ∣ (x + m * j) * (x + m * j) - a ↔ j = liT a p m x := by
  obtain ⟨v0, v1, v2⟩ := h.inv_dvd
  have hc := h.c_eq
  have m1 := h.m1
  have p1 := h.p1
  obtain ⟨e, he⟩ := h.pm
  obtain ⟨u, hu⟩ := v2
  have key : (x + m * j) * (x + m * j) - a = m * (2 * x * j - liC a m x + m * j * j) := by
    have : m * (2 * x * j - liC a m x + m * j * j) = m * (2 * x * j) - m * liC a m x + m * (m * j * j) := by grind
    rw [this, hc]
    grind
  rw [key]
  rw [Int.mul_dvd_mul_iff_left (show m ≠ 0 by omega)]
  have hj : j = liT a p m x ↔ p ∣ j - liC a m x * inv (2 * x) p := by
    rw [h.t_eq]
    constructor
    · intro hh
      rw [hh]
      exact ⟨-(liC a m x * inv (2 * x) p / p), by have := Int.emod_add_mul_ediv (liC a m x * inv (2 * x) p) p; rw [Int.mul_neg]; omega⟩
    · intro hh
      rw [← Int.emod_eq_emod_iff_emod_sub_eq_zero.2 (Int.emod_eq_zero_of_dvd hh)]
      exact (Int.emod_eq_of_lt j0 j1).symm
  rw [hj]
  constructor
  · rintro ⟨c, hc'⟩
    exact ⟨c * inv (2 * x) p - j * u - e * j * j * inv (2 * x) p, by grind⟩
  · rintro ⟨c, hc'⟩
    exact ⟨2 * x * c + u * liC a m x + e * j * j, by grind⟩
theorem LiI.next {a p m x : Int} (h : LiI a p m x) : LiI a p (m * p) (liV a p m x) := by
  have ht := h.t_rng
  have m1 := h.m1
  have p1 := h.p1
  have hx := h.x0
  have hx1 := h.x1
  have hmt : 0 ≤ m * liT a p m x := Int.mul_nonneg (by omega) ht.1
  have hmt2 : m * (liT a p m x + 1) ≤ m * p := Int.mul_le_mul_of_nonneg_left (by omega) (by omega)
  have hmp : m ≤ m * p := by have := Int.mul_le_mul_of_nonneg_left (show (1 : Int) ≤ p by omega) (show 0 ≤ m by omega); omega
  refine ⟨h.pr, h.odd, h.p1, by omega, Int.dvd_mul_left _ _, by unfold liV; omega, by unfold liV; rw [Int.mul_add] at hmt2; omega, ?_, h.na⟩
  exact (h.root_iff _ ht.1 ht.2).2 rfl
end Go.Proofs.Ytfpedehpmgcmnaa
