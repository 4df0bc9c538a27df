/-
  Contracts: the symbol of two, and the symbol of Jacobi, of the program.
-/
import Derived.Test.YtfpedehpmgcmnaaAr
import Derived.Test.YtfpedehpmgcmnaaSym
namespace Go.Proofs.Ytfpedehpmgcmnaa
open Go.RowKit
set_option linter.unusedSimpArgs false
set_option linter.unusedVariables false

theorem symbolOfTwo_any (n : Int) (w : World) (h1 : -1000000000 ≤ n) (h2 : n ≤ 1000000000) (ho : n % 2 = 1) :
    Calls Try.prog 78 #[.int .i64 n] w fun e w' => e = .returned (.int .i64 (twoS n)) ∧ w = w' := by
  have hc : n % 8 = 1 ∨ n % 8 = 7 ∨ (n % 8 = 3 ∨ n % 8 = 5) := by omega
  clear ho
  rcases hc with h | h | h
  · have hv := twoS_plus (.inl h : n % 8 = 1 ∨ n % 8 = 7)
    have HV := Lib.hid hv
    clear hv
    go_enter Try.func78, Try.ntmps78
    go_wp2_with fail
    ((with_reducible refine (mod_any _ _ _ (by omega) (by omega) (by omega) (by omega)).mono ?_); rintro e w0 ⟨rfl, rfl⟩)
    go_wp2
    go_ret
    exact ⟨by rw [HV.out]; rfl, rfl⟩
  · have hv := twoS_plus (.inr h : n % 8 = 1 ∨ n % 8 = 7)
    have HV := Lib.hid hv
    clear hv
    go_enter Try.func78, Try.ntmps78
    go_wp2_with fail
    ((with_reducible refine (mod_any _ _ _ (by omega) (by omega) (by omega) (by omega)).mono ?_); rintro e w0 ⟨rfl, rfl⟩)
    go_wp2
    go_ret
    exact ⟨by rw [HV.out]; rfl, rfl⟩
  · have hv := twoS_minus h
    have HV := Lib.hid hv
    clear hv
    have t1 : (n % 8 == 1) = false := by rw [beq_eq_false_iff_ne]; omega
    have t2 : (n % 8 == 7) = false := by rw [beq_eq_false_iff_ne]; omega
    clear h
    go_enter Try.func78, Try.ntmps78
    go_wp2_with fail
    ((with_reducible refine (mod_any _ _ _ (by omega) (by omega) (by omega) (by omega)).mono ?_); rintro e w0 ⟨rfl, rfl⟩)
    go_wp2
    go_ret
    exact ⟨by rw [HV.out]; rfl, rfl⟩
end Go.Proofs.Ytfpedehpmgcmnaa
