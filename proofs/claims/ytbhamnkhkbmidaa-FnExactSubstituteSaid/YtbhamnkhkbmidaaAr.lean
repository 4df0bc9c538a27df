/-
  Contracts: the absolute value, the residue modulo a positive integer, the greatest common divisor: of the program and of the reference.
-/
import Derived.Test.YtbhamnkhkbmidaaGood
import Derived.Handy
namespace Go.Proofs.Ytbhamnkhkbmidaa
open Go.RowKit
set_option linter.unusedSimpArgs false
set_option linter.unusedVariables false

theorem emod_of_tmod {a m : Int} (hm : 0 < m) : a % m = if a.tmod m < 0 then a.tmod m + m else a.tmod m := by
  rw [Int.tmod_eq_emod]
  have h0 := Int.emod_nonneg a (show m ≠ 0 by omega)
  have h1 := Int.emod_lt_of_pos a hm
  split <;> split <;> omega
theorem tmod_bd {a m : Int} (hm : 0 < m) : -m < a.tmod m ∧ a.tmod m < m := by
  rw [Int.tmod_eq_emod]
  have h0 := Int.emod_nonneg a (show m ≠ 0 by omega)
  have h1 := Int.emod_lt_of_pos a hm
  split <;> omega
theorem tmod_abs (x : Int) {y : Int} (hy : y ≠ 0) : (x.tmod y).natAbs < y.natAbs ∧ (x.tmod y).natAbs ≤ x.natAbs := by
  rw [Int.natAbs_tmod]
  exact ⟨Nat.mod_lt _ (by omega), Nat.mod_le _ _⟩
theorem gcd_step (x : Int) {y : Int} (hy : y ≠ 0) : Int.gcd y (x.tmod y) = Int.gcd x y := by
  unfold Int.gcd
  rw [Int.natAbs_tmod, Nat.gcd_comm y.natAbs, ← Nat.gcd_rec, Nat.gcd_comm]
theorem below_draw (w : World) (k B : Nat) : Below B w (w.drewN k) := ⟨rfl, rfl, rfl, Nat.le_refl _, fun _ _ => rfl⟩

theorem abs_any (n : Int) (w : World) (h1 : -9223372036854775807 ≤ n) (h2 : n ≤ 9223372036854775807) :
    Calls Try.prog 58 #[.int .i64 n] w fun e w' => e = .returned (.int .i64 n.natAbs) ∧ w = w' := by
  by_cases h : 0 ≤ n
  · have e : (n.natAbs : Int) = n := by omega
    rw [e]
    go_enter Try.func58, Try.ntmps58
    go_wp2
    go_ret
    exact ⟨rfl, rfl⟩
  · have e : (n.natAbs : Int) = -n := by omega
    rw [e]
    go_enter Try.func58, Try.ntmps58
    go_wp2
    go_ret
    exact ⟨rfl, rfl⟩
theorem l1Abs_any (n : Int) (w : World) (h1 : -9223372036854775807 ≤ n) (h2 : n ≤ 9223372036854775807) :
    Calls Try.prog 56 #[.int .i64 n] w fun e w' => e = .returned (.int .i64 n.natAbs) ∧ w = w' := by
  by_cases h : 0 < n
  · have e : (n.natAbs : Int) = n := by omega
    rw [e]
    go_enter Try.func56, Try.ntmps56
    go_wp2_with go_in
    go_ret
    exact ⟨rfl, rfl⟩
  · have e : (n.natAbs : Int) = -n := by omega
    rw [e]
    go_enter Try.func56, Try.ntmps56
    go_wp2_with go_in
    go_ret
    exact ⟨rfl, rfl⟩
end Go.Proofs.Ytbhamnkhkbmidaa
