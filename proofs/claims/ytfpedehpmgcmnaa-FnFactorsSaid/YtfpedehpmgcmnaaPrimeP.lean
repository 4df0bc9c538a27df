/-
  Primes, and the inverse modulo m. No program in sight.
-/
import Derived.Test.YtfpedehpmgcmnaaJac2
namespace Go.Proofs.Ytfpedehpmgcmnaa

/-! ### primes -/
def primeB (n : Int) : Bool := decide (2 ≤ n) && (List.range n.toNat).all fun d => !(decide (2 ≤ d) && n.toNat % d == 0)
theorem primeB_iff {n : Int} : primeB n = true ↔ 2 ≤ n ∧ Jac.Pr n.toNat := by
  simp only [primeB, Bool.and_eq_true, decide_eq_true_eq, List.all_eq_true, List.mem_range, Bool.not_eq_true', Bool.and_eq_false_iff, decide_eq_false_iff_not, beq_eq_false_iff_ne]
  constructor
  · rintro ⟨h2, h⟩
    refine ⟨h2, by omega, fun d d2 dl hd => ?_⟩
    rcases h d dl with h' | h'
    · exact h' d2
    · exact h' (Nat.mod_eq_zero_of_dvd hd)
  · rintro ⟨h2, _, h⟩
    refine ⟨h2, fun d dl => ?_⟩
    rcases Nat.lt_or_ge d 2 with h' | h'
    · exact .inl (by omega)
    · exact .inr fun h0 => h d h' dl (Nat.dvd_of_mod_eq_zero h0)
theorem primeB_small {n : Int} (h : n < 2) : primeB n = false := by
  rcases hb : primeB n with _ | _
  · rfl
  · have := (primeB_iff.1 hb).1; omega
theorem primeB_true {n : Int} (h2 : 2 ≤ n) (h : ∀ d : Nat, 2 ≤ d → (d : Int) * d ≤ n → n % d ≠ 0) : primeB n = true :=
  primeB_iff.2 ⟨h2, Jac.Pr.of_root (by omega) fun d d2 dd hm => by
    have e : n = (n.toNat : Int) := by omega
    refine h d d2 ?_ ?_
    · rw [e, ← Int.natCast_mul]; omega
    · rw [e, ← Int.natCast_emod, hm]; rfl⟩
theorem primeB_false {n : Int} {d : Nat} (h2 : 2 ≤ d) (hd : (d : Int) * d ≤ n) (h : n % d = 0) : primeB n = false := by
  rcases hb : primeB n with _ | _
  · rfl
  · exfalso
    obtain ⟨n2, hp⟩ := primeB_iff.1 hb
    refine hp.root d h2 ?_ ?_
    · rw [← Int.natCast_mul] at hd; omega
    · have e : n = (n.toNat : Int) := by omega
      rw [e, ← Int.natCast_emod] at h
      omega

/-! ### the inverse modulo m -/
def inv (a m : Int) : Int := ((List.range m.toNat).find? fun v : Nat => (a * (v : Int) - 1) % m == 0).getD (0 : Nat)
theorem inv_unique {a m v : Int} (hc : Int.gcd a m = 1) (h0 : 0 ≤ v) (h1 : v < m) (h : m ∣ a * v - 1) : v = inv a m := by
  unfold inv
  rcases hf : (List.range m.toNat).find? (fun v : Nat => (a * (v : Int) - 1) % m == 0) with _ | u
  · rw [List.find?_eq_none] at hf
    exfalso
    refine hf v.toNat (by rw [List.mem_range]; omega) ?_
    rw [Int.toNat_of_nonneg h0]
    simpa using Int.emod_eq_zero_of_dvd h
  · have h2 := List.find?_some hf
    have h3 := List.mem_of_find?_eq_some hf
    rw [List.mem_range] at h3
    have h4 : m ∣ a * u - 1 := Int.dvd_of_emod_eq_zero (by simpa using h2)
    have h5 : m ∣ a * (v - u) := by
      obtain ⟨c, hc⟩ := h
      obtain ⟨d, hd⟩ := h4
      exact ⟨c - d, by grind⟩
    obtain ⟨M, hM⟩ : ∃ M : Nat, m = M := ⟨m.toNat, by omega⟩
    subst hM
    have := Jac.small_of_dvd (Jac.dvd_of_coprime hc h5) (by omega) (by omega)
    simp only [Option.getD_some]
    omega
end Go.Proofs.Ytfpedehpmgcmnaa
