/-
  Contracts: the test for primes, of the program and of the reference.
-/
import Derived.Test.YtfpedehpmgcmnaaAr
import Derived.Test.YtfpedehpmgcmnaaPrimeP
import Derived.Test.YtfpedehpmgcmnaaPlain
namespace Go.Proofs.Ytfpedehpmgcmnaa
open Go.RowKit
set_option linter.unusedSimpArgs false
set_option linter.unusedVariables false

def NoDiv (n : Int) (d : Nat) : Prop := ∀ e : Nat, 2 ≤ e → e < d → n % e ≠ 0
theorem NoDiv.succ {n : Int} {d : Nat} (h : NoDiv n d) (hm : ¬ n % d = 0) : NoDiv n (d + 1) := fun e e2 el => by
  rcases Nat.lt_or_ge e d with h1 | h1
  · exact h e e2 h1
  · have : e = d := by omega
    subst this
    exact hm
theorem le_of_sq {d k : Nat} (h : d * d ≤ k * k) : d ≤ k := by
  rcases Nat.lt_or_ge k d with h1 | h1
  · have := Nat.mul_lt_mul'' h1 h1; omega
  · exact h1

theorem isPrime_any (n : Int) (w : World) (hn : n ≤ 1000000) (h0 : -9223372036854775808 ≤ n) :
    Calls Try.prog 61 #[.int .i64 n] w fun e w' => e = .returned (.bool (primeB n)) ∧ w = w' := by
  by_cases h2 : n < 2
  · have hp := primeB_small h2
    go_enter Try.func61, Try.ntmps61
    go_wp2
    go_ret
    first | exact ⟨rfl, rfl⟩ | exact ⟨by rw [hp]; rfl, rfl⟩
  · go_enter Try.func61, Try.ntmps61
    go_wp2
    go_loop [3] (fun s => ∃ d : Nat, s = .int .i64 d ∧ 2 ≤ d ∧ d ≤ 1001 ∧ NoDiv n d) (fun s => n.toNat - (intOf s).toNat)
    case atStart => exact ⟨2, rfl, by omega, by omega, fun e a b => by omega⟩
    case round =>
      obtain ⟨d, rfl, d2, d3, hd⟩ := hrel
      have hq : 0 ≤ (d : Int) * d ∧ (d : Int) * d ≤ 1002001 := by
        have : d * d ≤ 1001 * 1001 := Nat.mul_le_mul d3 d3
        rw [← Int.natCast_mul]; omega
      by_cases ht : (d : Int) * d ≤ n
      · have hlt : (d : Int) < n := by have : 2 * d ≤ d * d := Nat.mul_le_mul_right d d2; rw [← Int.natCast_mul] at ht; omega
        have hdk : d ≤ 1000 := le_of_sq (by rw [← Int.natCast_mul] at ht; omega)
        by_cases hm : n % d = 0
        · have hp := primeB_false d2 ht hm
          go_wp2
          go_ret
          first | exact ⟨rfl, rfl⟩ | exact ⟨by rw [hp]; rfl, rfl⟩
        · have hn1 : NoDiv n (d + 1) := hd.succ hm
          go_wp2
          go_round
          case rel => exact ⟨d + 1, by go_num, by omega, by omega, hn1⟩
          case measure => simp only [intOf]; omega
      · have hp : primeB n = true := primeB_true (by omega) fun e e2 he => hd e e2 (sq_lt (by rw [← Int.natCast_mul] at he ht; omega))
        go_wp2
        go_ret
        first | exact ⟨rfl, rfl⟩ | exact ⟨by rw [hp]; rfl, rfl⟩
end Go.Proofs.Ytfpedehpmgcmnaa
