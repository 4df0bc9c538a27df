/-
  Contracts: whether an integer is a square.
-/
import Derived.Test.YtfnmdcifjdfocaaRoot
namespace Go.Proofs.Ytfnmdcifjdfocaa
open Go.RowKit
set_option linter.unusedSimpArgs false
set_option linter.unusedVariables false

def sqB (n : Int) : Bool := decide ((isq n.toNat : Int) * isq n.toNat = n)
theorem isq_bd {n : Int} (h0 : 0 ≤ n) (h1 : n ≤ 1000000000000) : 0 ≤ (isq n.toNat : Int) * isq n.toNat ∧ (isq n.toNat : Int) * isq n.toNat ≤ 1000000000000 := by
  have := (isq_spec n.toNat).1
  rw [← Int.natCast_mul]
  omega
theorem nuSquare_any (n : Int) (w : World) (h0 : 0 ≤ n) (h1 : n ≤ 1000000000000) : Calls Try.prog 61 #[.int .i64 n] w fun e w' => e = .returned (.bool (sqB n)) ∧ w = w' := by
  have hb := isq_bd h0 h1
  rcases hs : sqB n with _ | _
  · have ht : ((isq n.toNat : Int) * isq n.toNat == n) = false := by rw [beq_eq_false_iff_ne]; simpa [sqB] using hs
    go_enter Try.func61, Try.ntmps61
    go_wp2_with fail
    ((with_reducible refine (nuRoot_any _ _ h0 h1).mono ?_); rintro e w0 ⟨rfl, rfl⟩)
    go_wp2
    go_ret
    exact ⟨rfl, rfl⟩
  · have ht : ((isq n.toNat : Int) * isq n.toNat == n) = true := by rw [beq_iff_eq]; simpa [sqB] using hs
    go_enter Try.func61, Try.ntmps61
    go_wp2_with fail
    ((with_reducible refine (nuRoot_any _ _ h0 h1).mono ?_); rintro e w0 ⟨rfl, rfl⟩)
    go_wp2
    go_ret
    exact ⟨rfl, rfl⟩
theorem isSquare_any (n : Int) (w : World) (h0 : 0 ≤ n) (h1 : n ≤ 1000000000000) : Calls Try.prog 63 #[.int .i64 n] w fun e w' => e = .returned (.bool (sqB n)) ∧ w = w' := by
  have hb := isq_bd h0 h1
  rcases hs : sqB n with _ | _
  · have ht : ((isq n.toNat : Int) * isq n.toNat == n) = false := by rw [beq_eq_false_iff_ne]; simpa [sqB] using hs
    go_enter Try.func63, Try.ntmps63
    go_wp2_with fail
    ((with_reducible refine (root_any _ _ h0 h1).mono ?_); rintro e w0 ⟨rfl, rfl⟩)
    go_wp2_with fail
    ((with_reducible refine (root_any _ _ h0 h1).mono ?_); rintro e w0 ⟨rfl, rfl⟩)
    go_wp2
    go_ret
    exact ⟨rfl, rfl⟩
  · have ht : ((isq n.toNat : Int) * isq n.toNat == n) = true := by rw [beq_iff_eq]; simpa [sqB] using hs
    go_enter Try.func63, Try.ntmps63
    go_wp2_with fail
    ((with_reducible refine (root_any _ _ h0 h1).mono ?_); rintro e w0 ⟨rfl, rfl⟩)
    go_wp2_with fail
    ((with_reducible refine (root_any _ _ h0 h1).mono ?_); rintro e w0 ⟨rfl, rfl⟩)
    go_wp2
    go_ret
    exact ⟨rfl, rfl⟩
end Go.Proofs.Ytfnmdcifjdfocaa
