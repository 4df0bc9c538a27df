/-
  Plain facts: common residues and their bounds.
-/
import Derived.Test.YtfpedehpmgcmnaaInv2
namespace Go.Proofs.Ytfpedehpmgcmnaa
open Go.RowKit
set_option linter.unusedSimpArgs false
set_option linter.unusedVariables false

def crG (m n : Int) : Int := (Int.gcd m n : Nat)
def crV (m n : Int) : Int := inv (m / crG m n) (n / crG m n)
def crT (a m b n : Int) : Int := (b - a).tdiv (crG m n) * crV m n % (n / crG m n)
def crM (m n : Int) : Int := m / crG m n * n
def crX (a m b n : Int) : Int := (a + m * crT a m b n) % crM m n
def vCR (a m b n : Int) : Bool := ((good a && good b) && (inB 1 1000000 m && inB 1 1000000 n)) && (decide (crM m n ≤ 1000000) && decide ((b - a).tmod (crG m n) = 0))
theorem vCR_bad {a m b n : Int} (h : good a = false ∨ good b = false ∨ m < 1 ∨ 1000000 < m ∨ n < 1 ∨ 1000000 < n ∨ 1000000 < crM m n ∨ ¬ (b - a).tmod (crG m n) = 0) : vCR a m b n = false := by
  unfold vCR
  rcases h with h | h | h | h | h | h | h | h
  · simp [h]
  · simp [h]
  · rw [inB_bad.2 (.inl h)]; simp
  · rw [inB_bad.2 (.inr h)]; simp
  · rw [inB_bad.2 (.inl h)]; simp
  · rw [inB_bad.2 (.inr h)]; simp
  · rw [decide_eq_false (by omega)]; simp
  · rw [decide_eq_false h]; simp
theorem vCR_ok {a m b n : Int} (ha : good a = true) (hb : good b = true) (m1 : 1 ≤ m) (m2 : m ≤ 1000000) (n1 : 1 ≤ n) (n2 : n ≤ 1000000) (h1 : crM m n ≤ 1000000) (h2 : (b - a).tmod (crG m n) = 0) : vCR a m b n = true := by
  unfold vCR
  rw [inB_iff.2 ⟨m1, m2⟩, inB_iff.2 ⟨n1, n2⟩, ha, hb, decide_eq_true h1, decide_eq_true h2]
  rfl
/-- the pieces of a common residue, named -/
structure Cr (a m b n g p q r v t : Int) : Prop where
  hg : ((Int.gcd m n : Nat) : Int) = g
  hp : m / g = p
  hq : n / g = q
  hr : (b - a).tdiv g = r
  hv : inv p q = v
  ht : r * v % q = t
  g1 : 1 ≤ g ∧ g ≤ 1000000
  p1 : 1 ≤ p ∧ p ≤ 1000000
  q1 : 1 ≤ q ∧ q ≤ 1000000
  al : 1 ≤ p * n ∧ p * n ≤ 1000000000000
  co : Int.gcd p q = 1
  r1 : -2000000 ≤ r ∧ r ≤ 2000000
  v1 : 0 ≤ v ∧ v ≤ 1000000
  rv : -2000000000000 ≤ r * v ∧ r * v ≤ 2000000000000
  t1 : 0 ≤ t ∧ t ≤ 1000000
  mt : 0 ≤ m * t ∧ m * t ≤ 1000000000000
  rq : 0 ≤ r % q ∧ r % q ≤ 1000000
  rw1 : 0 ≤ r % q * v ∧ r % q * v ≤ 1000000000000
  same : r % q * v % q = t
  eM : crM m n = p * n
  eX : crX a m b n = (a + m * t) % (p * n)
theorem mul_pos' {x y : Int} (B C : Nat) (hx : 0 ≤ x ∧ x ≤ B) (hy : 0 ≤ y ∧ y ≤ C) : 0 ≤ x * y ∧ x * y ≤ (B * C : Nat) := ⟨Int.mul_nonneg hx.1 hy.1, (ab_mul B C (by omega) (by omega)).2⟩
theorem cr_of (a m b n : Int) (ha : -1000000 ≤ a ∧ a ≤ 1000000) (hb : -1000000 ≤ b ∧ b ≤ 1000000) (m1 : 1 ≤ m) (m2 : m ≤ 1000000) (n1 : 1 ≤ n) (n2 : n ≤ 1000000) : ∃ g p q r v t : Int, Cr a m b n g p q r v t := by
  have hg0 : 0 < Int.gcd m n := Int.gcd_pos_iff.2 (.inl (by omega))
  have hgm : ((Int.gcd m n : Nat) : Int) ∣ m := Int.gcd_dvd_left ..
  have hgn : ((Int.gcd m n : Nat) : Int) ∣ n := Int.gcd_dvd_right ..
  have hgl : ((Int.gcd m n : Nat) : Int) ≤ m := Int.le_of_dvd (by omega) hgm
  have em : m / ((Int.gcd m n : Nat) : Int) * ((Int.gcd m n : Nat) : Int) = m := Int.ediv_mul_cancel hgm
  have en : n / ((Int.gcd m n : Nat) : Int) * ((Int.gcd m n : Nat) : Int) = n := Int.ediv_mul_cancel hgn
  have hco : Int.gcd (m / ((Int.gcd m n : Nat) : Int)) (n / ((Int.gcd m n : Nat) : Int)) = 1 := Int.gcd_ediv_gcd_ediv_gcd hg0
  obtain ⟨g, hg⟩ : ∃ g : Int, ((Int.gcd m n : Nat) : Int) = g := ⟨_, rfl⟩
  rw [hg] at em en hco hgl
  have g0 : 1 ≤ g := by omega
  obtain ⟨p, hp⟩ : ∃ p : Int, m / g = p := ⟨_, rfl⟩
  obtain ⟨q, hq⟩ : ∃ q : Int, n / g = q := ⟨_, rfl⟩
  obtain ⟨r, hr⟩ : ∃ r : Int, (b - a).tdiv g = r := ⟨_, rfl⟩
  obtain ⟨v, hv⟩ : ∃ v : Int, inv p q = v := ⟨_, rfl⟩
  obtain ⟨t, ht⟩ : ∃ t : Int, r * v % q = t := ⟨_, rfl⟩
  rw [hp] at em hco
  rw [hq] at en hco
  have p1 : 1 ≤ p := by
    rcases Int.lt_or_le p 1 with h | h
    · have := Int.mul_le_mul_of_nonneg_right (show p ≤ 0 by omega) (show 0 ≤ g by omega); omega
    · exact h
  have q1 : 1 ≤ q := by
    rcases Int.lt_or_le q 1 with h | h
    · have := Int.mul_le_mul_of_nonneg_right (show q ≤ 0 by omega) (show 0 ≤ g by omega); omega
    · exact h
  have p2 : p ≤ 1000000 := by have := Int.mul_le_mul_of_nonneg_left g0 (show 0 ≤ p by omega); omega
  have q2 : q ≤ 1000000 := by have := Int.mul_le_mul_of_nonneg_left g0 (show 0 ≤ q by omega); omega
  have r1 := tdiv_ab (b - a) (y := g) (B := 2000000) (by omega)
  rw [hr] at r1
  have v1 := inv_range p q1
  rw [hv] at v1
  have t1 := Int.emod_nonneg (r * v) (show q ≠ 0 by omega)
  have t2 := Int.emod_lt_of_pos (r * v) (show 0 < q by omega)
  rw [ht] at t1 t2
  have k1 := Int.emod_nonneg r (show q ≠ 0 by omega)
  have k2 := Int.emod_lt_of_pos r (show 0 < q by omega)
  have al := mul_pos' (x := p) (y := n) 1000000 1000000 (by omega) (by omega)
  have al1 := Int.mul_le_mul_of_nonneg_left n1 (show 0 ≤ p by omega)
  have eM : crM m n = p * n := by unfold crM crG; rw [hg, hp]
  refine ⟨g, p, q, r, v, t, hg, hp, hq, hr, hv, ht, by omega, by omega, by omega, by omega, hco, r1, by omega, ?_, by omega, ?_, by omega, ?_, ?_, eM, ?_⟩
  · exact ab_mul 2000000 1000000 (by omega) (by omega)
  · exact mul_pos' 1000000 1000000 (by omega) (by omega)
  · exact mul_pos' 1000000 1000000 (by omega) (by omega)
  · rw [← ht, Int.mul_emod (r % q), Int.emod_emod, ← Int.mul_emod]
  · unfold crX crT crV
    rw [eM]
    unfold crG
    rw [hg, hp, hq, hr, hv, ht]
end Go.Proofs.Ytfpedehpmgcmnaa
