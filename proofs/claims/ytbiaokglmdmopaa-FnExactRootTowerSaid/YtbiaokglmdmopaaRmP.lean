/-
  Plain facts: the least root of a modulo a prime, by search up to p/2. No program in sight.
-/
import Derived.Test.YtbiaokglmdmopaaPrimeP
namespace Go.Proofs.Ytbiaokglmdmopaa
set_option linter.unusedVariables false

def rmO (a p : Int) : Option Nat := (List.range (p / 2 + 1).toNat).find? fun x : Nat => ((x : Int) * x - a) % p == 0
def rmB (a p : Int) : Bool := (rmO a p).isSome
def rmV (a p : Int) : Int := ((rmO a p).getD 0 : Nat)
theorem find_first {f : Nat → Bool} {n x : Nat} (hx : x < n) (h : f x = true) (hlt : ∀ y < x, f y = false) : (List.range n).find? f = some x := by
  rw [List.find?_range_eq_some]
  exact ⟨h, List.mem_range.2 hx, fun j hj => by rw [hlt j hj]; rfl⟩
theorem rm_hit {a p : Int} {x : Nat} (hp : 0 < p) (hx : (x : Int) ≤ p / 2) (h : p ∣ (x : Int) * x - a) (hlt : ∀ y : Nat, y < x → ¬ p ∣ (y : Int) * y - a) : rmB a p = true ∧ rmV a p = x := by
  have e : rmO a p = some x := by
    unfold rmO
    refine find_first (by omega) (by simpa using Int.emod_eq_zero_of_dvd h) fun y hy => ?_
    rw [beq_eq_false_iff_ne]
    exact fun h' => hlt y hy (Int.dvd_of_emod_eq_zero h')
  unfold rmB rmV
  rw [e]
  exact ⟨rfl, rfl⟩
theorem rm_none {a p : Int} (h : ∀ y : Nat, (y : Int) ≤ p / 2 → ¬ p ∣ (y : Int) * y - a) (hp : 0 < p) : rmB a p = false ∧ rmV a p = 0 := by
  have e : rmO a p = none := by
    unfold rmO
    rw [List.find?_eq_none]
    intro y hy
    rw [List.mem_range] at hy
    simp only [beq_iff_eq]
    exact fun h' => h y (by omega) (Int.dvd_of_emod_eq_zero h')
  unfold rmB rmV
  rw [e]
  exact ⟨rfl, rfl⟩
theorem rm_some {a p : Int} (h : rmB a p = true) (hp : 0 < p) : 0 ≤ rmV a p ∧ rmV a p ≤ p / 2 ∧ p ∣ rmV a p * rmV a p - a := by
  unfold rmB at h
  unfold rmV
  rcases hf : rmO a p with _ | x
  · rw [hf] at h; cases h
  · unfold rmO at hf
    have h2 := List.find?_some hf
    have h3 := List.mem_of_find?_eq_some hf
    rw [List.mem_range] at h3
    simp only [Option.getD_some]
    exact ⟨by omega, by omega, Int.dvd_of_emod_eq_zero (by simpa using h2)⟩
/-- a test modulo p of the program: x*x and a leave one residue -/
theorem sq_test {a p x : Int} (hp : 0 < p) : x * x % p = a % p ↔ p ∣ x * x - a := by
  rw [Int.emod_eq_emod_iff_emod_sub_eq_zero]
  exact ⟨Int.dvd_of_emod_eq_zero, Int.emod_eq_zero_of_dvd⟩
theorem rm_minus {a p : Int} (hp : 0 < p) (ho : p % 2 = 1) (h : Jac.J a p.toNat = -1) : rmB a p = false ∧ rmV a p = 0 :=
  rm_none (fun y _ hd => by
    refine Jac.not_minus (p := p.toNat) (a := a) (x := y) (by omega) ?_ h
    rw [Int.toNat_of_nonneg (by omega)]
    exact hd) hp
end Go.Proofs.Ytbiaokglmdmopaa
