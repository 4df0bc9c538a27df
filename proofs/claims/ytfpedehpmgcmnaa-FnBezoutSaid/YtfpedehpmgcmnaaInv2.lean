/-
  Bounds of inverses, products and quotients; contracts by name of their results.
-/
import Derived.Test.YtfpedehpmgcmnaaInv
import Derived.Test.YtfpedehpmgcmnaaIn
import Derived.Test.YtfpedehpmgcmnaaForm
import Derived.Test.YtfpedehpmgcmnaaFrame
namespace Go.Proofs.Ytfpedehpmgcmnaa
open Go.RowKit
set_option linter.unusedSimpArgs false
set_option linter.unusedVariables false

theorem inv_range (a : Int) {m : Int} (hm : 1 ≤ m) : 0 ≤ inv a m ∧ inv a m < m := by
  unfold inv
  rcases hf : (List.range m.toNat).find? (fun v : Nat => (a * (v : Int) - 1) % m == 0) with _ | u
  · simp; omega
  · have h3 := List.mem_of_find?_eq_some hf
    rw [List.mem_range] at h3
    simp only [Option.getD_some]
    omega
theorem ab_mul {x y : Int} (B C : Nat) (hx : -(B : Int) ≤ x ∧ x ≤ B) (hy : -(C : Int) ≤ y ∧ y ≤ C) : -((B * C : Nat) : Int) ≤ x * y ∧ x * y ≤ (B * C : Nat) := by
  have h : (x * y).natAbs ≤ B * C := by
    rw [Int.natAbs_mul]
    exact Nat.mul_le_mul (by omega) (by omega)
  omega
theorem tdiv_ab (x : Int) {y : Int} {B : Nat} (hx : -(B : Int) ≤ x ∧ x ≤ B) : -(B : Int) ≤ x.tdiv y ∧ x.tdiv y ≤ B := by
  have h : (x.tdiv y).natAbs ≤ B := by
    rw [Int.natAbs_tdiv]
    exact Nat.le_trans (Nat.div_le_self _ _) (by omega)
  omega
theorem gcd_is {a b g : Int} (w : World) (hg : ((Int.gcd a b : Nat) : Int) = g) (a1 : -1000000000000 ≤ a) (a2 : a ≤ 1000000000000) (b1 : -1000000000000 ≤ b) (b2 : b ≤ 1000000000000) :
    Calls Try.prog 65 #[.int .i64 a, .int .i64 b] w fun e w' => e = .returned (.int .i64 g) ∧ ∃ k, w' = w.drewN k := by
  rw [← hg]; exact gcd_any a b w a1 a2 b1 b2
theorem nuGcd_is {a b g : Int} (w : World) (hg : ((Int.gcd a b : Nat) : Int) = g) (a1 : -1000000000000 ≤ a) (a2 : a ≤ 1000000000000) (b1 : -1000000000000 ≤ b) (b2 : b ≤ 1000000000000) :
    Calls Try.prog 74 #[.int .i64 a, .int .i64 b] w fun e w' => e = .returned (.int .i64 g) ∧ ∃ k, w' = w.drewN k := by
  rw [← hg]; exact nuGcd_any a b w a1 a2 b1 b2
theorem inverse_is {a m v : Int} (w : World) (hg : Int.gcd a m = 1) (hv : inv a m = v) (a1 : -1000000000000 ≤ a) (a2 : a ≤ 1000000000000) (m1 : 1 ≤ m) (m2 : m ≤ 1000000000) :
    Calls Try.prog 67 #[.int .i64 a, .int .i64 m] w fun e w' => e = .returned (.int .i64 v) ∧ w = w' := by
  rw [← hv]; exact inverse_any a m w a1 a2 m1 m2 hg
theorem nuInverse_is {a m v : Int} (w : World) (hg : Int.gcd a m = 1) (hv : inv a m = v) (a1 : -1000000000000 ≤ a) (a2 : a ≤ 1000000000000) (m1 : 1 ≤ m) (m2 : m ≤ 1000000000) :
    Calls Try.prog 84 #[.int .i64 a, .int .i64 m] w fun e w' => e = .returned (.int .i64 v) ∧ w = w' := by
  rw [← hv]
  have h := nuInverse_any a m w a1 a2 m1 m2
  rwa [if_pos hg] at h
theorem nuInverse_no {a m : Int} (w : World) (hg : ¬ Int.gcd a m = 1) (a1 : -1000000000000 ≤ a) (a2 : a ≤ 1000000000000) (m1 : 1 ≤ m) (m2 : m ≤ 1000000000) :
    Calls Try.prog 84 #[.int .i64 a, .int .i64 m] w fun e w' => e = .returned (.int .i64 (-1)) ∧ w = w' := by
  have h := nuInverse_any a m w a1 a2 m1 m2
  rwa [if_neg hg] at h
end Go.Proofs.Ytfpedehpmgcmnaa
