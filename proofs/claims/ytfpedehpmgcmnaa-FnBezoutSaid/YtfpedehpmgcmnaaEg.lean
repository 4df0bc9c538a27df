/-
  Plain facts: the coefficients of Euclid's algorithm modulo m.
-/
import Derived.Test.YtfpedehpmgcmnaaPrimeP
namespace Go.Proofs.Ytfpedehpmgcmnaa

theorem gcd_em (a m : Int) : Int.gcd (a % m) m = Int.gcd a m := by
  have h1 := Int.mul_ediv_add_emod a m
  apply Nat.dvd_antisymm
  · refine Int.dvd_gcd ?_ (Int.gcd_dvd_right ..)
    have h3 : ((Int.gcd (a % m) m : Nat) : Int) ∣ m * (a / m) + a % m := Int.dvd_add (Int.dvd_trans (Int.gcd_dvd_right ..) (Int.dvd_mul_right _ _)) (Int.gcd_dvd_left ..)
    rwa [h1] at h3
  · refine Int.dvd_gcd ?_ (Int.gcd_dvd_right ..)
    have h2 : a % m = a - m * (a / m) := by omega
    rw [h2]
    exact Int.dvd_sub (Int.gcd_dvd_left ..) (Int.dvd_trans (Int.gcd_dvd_right ..) (Int.dvd_mul_right _ _))

structure Eg (a m x y r s : Int) : Prop where
  dx : m ∣ a * x - r
  dy : m ∣ a * y - s
  r0 : 0 ≤ r
  s0 : 0 ≤ s
  r1 : r ≤ m
  s1 : s ≤ m
  bx : (x.natAbs : Int) ≤ m
  bb : (y.natAbs : Int) ≤ m
  bd : (x.natAbs : Int) * s + (y.natAbs : Int) * r ≤ m
  g : Int.gcd r s = Int.gcd a m

theorem Eg.bq {a m x y r s : Int} (h : Eg a m x y r s) (hs : s ≠ 0) : 0 ≤ r / s ∧ r / s ≤ m ∧ 0 ≤ r / s * s ∧ r / s * s ≤ r ∧ r - r / s * s = r % s ∧ ((r / s * y).natAbs : Int) ≤ m := by
  have hs0 : 0 < s := by have := h.s0; omega
  have h1 : 0 ≤ r / s := Int.ediv_nonneg h.r0 h.s0
  have hm : s * (r / s) + r % s = r := Int.mul_ediv_add_emod r s
  have hr0 := Int.emod_nonneg r hs
  have hc : r / s * s = s * (r / s) := Int.mul_comm _ _
  have h2 : r / s ≤ r / s * s := by
    have := Int.mul_le_mul_of_nonneg_left (show 1 ≤ s by omega) h1
    omega
  have h3 : 0 ≤ r / s * s := Int.mul_nonneg h1 h.s0
  have hr1 := h.r1
  refine ⟨h1, by omega, h3, by omega, by omega, ?_⟩
  rw [Int.natAbs_mul]
  have e1 : ((r / s).natAbs : Int) = r / s := by omega
  rw [Int.natCast_mul, e1]
  have b1 : r / s * (y.natAbs : Int) ≤ r * (y.natAbs : Int) := Int.mul_le_mul_of_nonneg_right (by omega) (by omega)
  have b2 : 0 ≤ (x.natAbs : Int) * s := Int.mul_nonneg (by omega) h.s0
  have b3 := h.bd
  rw [Int.mul_comm (y.natAbs : Int) r] at b3
  omega

theorem Eg.step {a m x y r s : Int} (h : Eg a m x y r s) (hs : s ≠ 0) : Eg a m y (x - r / s * y) s (r - r / s * s) := by
  obtain ⟨q0, q1, q2, q3, q4, q5⟩ := h.bq hs
  have hs0 : 0 < s := by have := h.s0; omega
  have hl := Int.emod_lt_of_pos r hs0
  have hr0 := Int.emod_nonneg r hs
  have hbd : (y.natAbs : Int) * (r - r / s * s) + ((x - r / s * y).natAbs : Int) * s ≤ m := by
    have e : ((x - r / s * y).natAbs : Int) ≤ x.natAbs + r / s * y.natAbs := by
      have e1 : ((r / s * y).natAbs : Int) = r / s * y.natAbs := by
        rw [Int.natAbs_mul, Int.natCast_mul]
        congr 1
        omega
      omega
    have e2 := Int.mul_le_mul_of_nonneg_right e h.s0
    have e3 := h.bd
    have e4 : (y.natAbs : Int) * (r - r / s * s) = y.natAbs * r - r / s * y.natAbs * s := by
      rw [Int.mul_sub, ← Int.mul_assoc, Int.mul_comm (y.natAbs : Int) (r / s)]
    rw [Int.add_mul] at e2
    omega
  have hb2 : ((x - r / s * y).natAbs : Int) ≤ m := by
    have b0 : 0 ≤ (y.natAbs : Int) * (r - r / s * s) := Int.mul_nonneg (by omega) (by omega)
    have b1 := Int.mul_le_mul_of_nonneg_left (show 1 ≤ s by omega) (show 0 ≤ ((x - r / s * y).natAbs : Int) by omega)
    omega
  refine ⟨h.dy, ?_, h.s0, by omega, h.s1, by have := h.s1; omega, h.bb, hb2, hbd, ?_⟩
  · have e : a * (x - r / s * y) - (r - r / s * s) = (a * x - r) - r / s * (a * y - s) := by
      rw [Int.mul_sub, Int.mul_sub, Int.mul_left_comm a (r / s) y]
      omega
    rw [e]
    exact Int.dvd_sub h.dx (Int.dvd_trans h.dy (Int.dvd_mul_left _ _))
  · rw [q4, ← h.g]
    rw [Int.gcd_comm, gcd_em]

theorem Eg.start1 {a m : Int} (hm : 1 ≤ m) : Eg a m 1 0 (a % m) m := by
  have h0 := Int.emod_nonneg a (show m ≠ 0 by omega)
  have h1 := Int.emod_lt_of_pos a (show 0 < m by omega)
  refine ⟨by rw [Int.mul_one]; exact Int.dvd_self_sub_emod, by rw [Int.mul_zero]; exact ⟨-1, by omega⟩, h0, by omega, by omega, by omega, by simpa using hm, by simp; omega, by simp, by rw [gcd_em]⟩
theorem Eg.start2 {a m : Int} (hm : 1 ≤ m) : Eg a m 0 1 m (a % m) := by
  have h0 := Int.emod_nonneg a (show m ≠ 0 by omega)
  have h1 := Int.emod_lt_of_pos a (show 0 < m by omega)
  refine ⟨by rw [Int.mul_zero]; exact ⟨-1, by omega⟩, by rw [Int.mul_one]; exact Int.dvd_self_sub_emod, by omega, h0, by omega, by omega, by simp; omega, by simpa using hm, by simp, by rw [Int.gcd_comm, gcd_em]⟩
theorem Eg.rest {a m x y r : Int} (h : Eg a m x y r 0) : r = Int.gcd a m := by
  have := h.g
  have h0 := h.r0
  simp at this
  omega
theorem Eg.out {a m x y r : Int} (h : Eg a m x y r 0) (hm : 1 ≤ m) (hg : Int.gcd a m = 1) : x % m = inv a m := by
  have hr := h.rest
  rw [hg] at hr
  subst hr
  refine inv_unique hg (Int.emod_nonneg x (by omega)) (Int.emod_lt_of_pos x (by omega)) ?_
  have e : a * (x % m) - 1 = (a * x - ((1 : Nat) : Int)) - a * (x - x % m) := by
    rw [Int.mul_sub]; omega
  rw [e]
  exact Int.dvd_sub h.dx (Int.dvd_trans Int.dvd_self_sub_emod (Int.dvd_mul_left _ _))
end Go.Proofs.Ytfpedehpmgcmnaa
