/-
  Plain facts: the coefficients of Bezout, and common residues.
-/
import Derived.Test.YtfpedehpmgcmnaaBez
import Derived.Test.YtfpedehpmgcmnaaCr2
import Derived.Test.YtfpedehpmgcmnaaLift
namespace Go.Proofs.Ytfpedehpmgcmnaa
open Go.RowKit
set_option linter.unusedSimpArgs false
set_option linter.unusedVariables false

theorem inv_dvd {a m : Int} (hm : 1 ≤ m) (hc : Int.gcd a m = 1) : m ∣ a * inv a m - 1 := by
  have h0 := Int.emod_nonneg a (show m ≠ 0 by omega)
  obtain ⟨v, v0, v1, u, hu⟩ := inv_exists (a := a % m) h0 hm (by rw [gcd_em]; exact hc)
  have hd : m ∣ a * v - 1 := by
    have e : a = m * (a / m) + a % m := by have := Int.emod_add_mul_ediv a m; omega
    refine ⟨a / m * v + u, ?_⟩
    rw [Int.mul_add, ← hu]
    have : a * v = (m * (a / m) + a % m) * v := by rw [← e]
    rw [this]
    grind
  rw [← inv_unique hc v0 v1 hd]
  exact hd
/-- the coefficients make up the greatest common divisor -/
theorem bz_law {a b : Int} (ha : -1000000 ≤ a ∧ a ≤ 1000000) (hb : -1000000 ≤ b ∧ b ≤ 1000000) :
    a * bzX a b + b * bzY a b = bzG a b ∧ (-1000000000000 ≤ a * bzX a b ∧ a * bzX a b ≤ 1000000000000) ∧ (0 ≤ bzG a b ∧ bzG a b ≤ 1000000) ∧ bzG a b ∣ a ∧ bzG a b ∣ b := by
  have hga : bzG a b ∣ a := Int.gcd_dvd_left ..
  have hgb : bzG a b ∣ b := Int.gcd_dvd_right ..
  by_cases h0 : b = 0
  · subst h0
    have e1 : bzX a 0 = Int.sign a := by unfold bzX; rw [if_pos rfl]
    have e2 : bzY a 0 = 0 := by unfold bzY; rw [if_pos rfl]
    have e3 : bzG a 0 = a.natAbs := by unfold bzG; simp
    rw [e1, e2]
    rw [e3] at hga hgb ⊢
    rw [Int.mul_sign_self]
    exact ⟨by simp, by omega, by omega, hga, hgb⟩
  · obtain ⟨g, v, z⟩ := bz_of a b ha hb h0
    obtain ⟨hg, hv, g1, p1, q1, co, v1, av, yb, eG, eX, eY⟩ := z
    rw [eG] at hga hgb
    rw [eX, eY, eG]
    refine ⟨?_, av, by omega, hga, hgb⟩
    have hi := inv_dvd (by omega) co
    rw [hv] at hi
    obtain ⟨u, hu⟩ := hi
    have ea : g * a.tdiv g = a := Int.mul_tdiv_cancel' hga
    have eb : g * ((b.natAbs : Int) / g) = b.natAbs := Int.mul_ediv_cancel' (Int.dvd_natAbs.2 hgb)
    have hd : b ∣ g - a * v := by
      rw [← Int.natAbs_dvd]
      refine ⟨-u, ?_⟩
      have h1 : g * (a.tdiv g * v - 1) = g * (((b.natAbs : Int) / g) * u) := by rw [hu]
      have h2 : g * (a.tdiv g * v - 1) = a * v - g := by rw [Int.mul_sub, ← Int.mul_assoc, ea]; omega
      have h3 : g * (((b.natAbs : Int) / g) * u) = (b.natAbs : Int) * u := by rw [← Int.mul_assoc, eb]
      rw [Int.mul_neg]
      omega
    rw [Int.mul_tdiv_cancel' hd]
    omega
/-- a common residue fits both moduli -/
theorem cr_law {a m b n : Int} (hv : vCR a m b n = true) : (0 ≤ crX a m b n ∧ crX a m b n < crM m n) ∧ crM m n ≤ 1000000 ∧ (m ∣ crX a m b n - a) ∧ (n ∣ crX a m b n - b) ∧ (1 ≤ m ∧ m ≤ 1000000) ∧ (1 ≤ n ∧ n ≤ 1000000) ∧ (-1000000 ≤ a ∧ a ≤ 1000000) ∧ (-1000000 ≤ b ∧ b ≤ 1000000) := by
  unfold vCR at hv
  simp only [Bool.and_eq_true, decide_eq_true_eq] at hv
  obtain ⟨⟨⟨ga, gb⟩, gm, gn⟩, hM, hd⟩ := hv
  have ha := good_iff.1 ga
  have hb := good_iff.1 gb
  have hm := inB_iff.1 gm
  have hn := inB_iff.1 gn
  obtain ⟨g, p, q, r, v, t, C⟩ := cr_of a m b n ha hb hm.1 hm.2 hn.1 hn.2
  obtain ⟨hg, hp, hq, hr, hv, ht, g1, p1, q1, al, co, r1, v1, rv, t1, mt, rq, rw1, same, eM, eX⟩ := C
  have hgm : g ∣ m := by rw [← hg]; exact Int.gcd_dvd_left ..
  have hgn : g ∣ n := by rw [← hg]; exact Int.gcd_dvd_right ..
  have hG : crG m n = g := hg
  have em : g * p = m := by rw [← hp]; exact Int.mul_ediv_cancel' hgm
  have en : g * q = n := by rw [← hq]; exact Int.mul_ediv_cancel' hgn
  have er : g * r = b - a := by rw [← hr]; rw [hG] at hd; exact Int.mul_tdiv_cancel' (Int.dvd_of_tmod_eq_zero hd)
  have hi := inv_dvd (by omega) co
  rw [hv] at hi
  obtain ⟨u, hu⟩ := hi
  have h0 := Int.emod_nonneg (a + m * t) (show p * n ≠ 0 by omega)
  have h1 := Int.emod_lt_of_pos (a + m * t) (show 0 < p * n by omega)
  have hE := Int.emod_add_mul_ediv (a + m * t) (p * n)
  have hT := Int.emod_add_mul_ediv (r * v) q
  rw [ht] at hT
  rw [eM] at hM
  rw [eX, eM]
  generalize (a + m * t) / (p * n) = K at hE
  generalize r * v / q = K2 at hT
  generalize (a + m * t) % (p * n) = R at *
  refine ⟨⟨h0, h1⟩, hM, ⟨t - q * K, ?_⟩, ⟨r * u - p * K2 - p * K, ?_⟩, hm, hn, ha, hb⟩
  · have : p * n = m * q := by rw [← en, ← em]; grind
    rw [this] at hE
    rw [Int.mul_sub, ← Int.mul_assoc]
    omega
  · have e1 : m * t = g * (p * t) := by rw [← em]; grind
    have e2 : p * t = p * (r * v) - p * (q * K2) := by rw [← Int.mul_sub]; congr 1; omega
    have e3 : p * (r * v) = r + q * (r * u) := by
      have : r * (p * v - 1) = r * (q * u) := by rw [hu]
      rw [Int.mul_sub] at this
      have e4 : p * (r * v) = r * (p * v) := by grind
      have e5 : q * (r * u) = r * (q * u) := by grind
      rw [e4, e5]
      omega
    have e6 : m * t = g * r + g * (q * (r * u)) - g * (p * (q * K2)) := by rw [e1, e2, e3]; grind
    have e7 : n * (r * u - p * K2 - p * K) = g * (q * (r * u)) - g * (p * (q * K2)) - p * n * K := by
      rw [← en]
      grind
    rw [e7]
    omega
end Go.Proofs.Ytfpedehpmgcmnaa
