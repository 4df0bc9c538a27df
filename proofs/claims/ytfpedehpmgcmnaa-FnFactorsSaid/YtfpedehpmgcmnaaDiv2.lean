/-
  'Divisors': its contracts and its law's walk.
-/
import Derived.Test.YtfpedehpmgcmnaaDiv
import Derived.Test.YtfpedehpmgcmnaaAr
import Derived.Test.YtfpedehpmgcmnaaFrame
namespace Go.Proofs.Ytfpedehpmgcmnaa
open Go.RowKit
set_option linter.unusedSimpArgs false
set_option linter.unusedVariables false

def vDV (n : Int) : Bool := good n && decide (n ≠ 0)
theorem vDV_bad {n : Int} (h : good n = false ∨ n = 0) : vDV n = false := by
  unfold vDV
  rcases h with h | h <;> simp [h]
theorem vDV_ok {n : Int} (h0 : good n = true) (h1 : ¬ n = 0) : vDV n = true := by simp [vDV, *]
theorem dv_len (n : Int) : (lFor (vDV n) (ints (divs n.natAbs))).length ≤ 1000000000 := by
  rcases hv : vDV n with _ | _
  · simp [lFor]
  · have hg : good n = true := by
      unfold vDV at hv
      simp at hv
      exact hv.1
    have := good_iff.1 hg
    have := divs_len n.natAbs (by omega)
    rw [lFor_true, ints_length]
    omega


theorem implDV_any (n : Int) (w : World) : Calls Try.prog 26 #[.int .i64 n] w (RetS w (lFor (vDV n) (ints (divs n.natAbs))) (vDV n)) := by
  rcases h0 : good n with _ | _
  · rw [show vDV n = false from vDV_bad (.inl h0), lFor_false]
    go_enter Try.func26, Try.ntmps26
    go_wp2_with fail
    ((with_reducible refine (are1 n _ _ (by simp)).mono ?_); rintro e w0 ⟨rfl, rfl⟩)
    go_wp2
    go_ret2
    exact ⟨_, rfl, Lst.empty' (by simp) (by omega), (by repeat' (first | (with_reducible exact Below.refl _ _) | (with_reducible assumption) | (with_reducible refine Below.alloc ?_ ?_ _) | (with_reducible refine Below.drew ?_) | (with_reducible refine below_drewN ?_ _) | (with_reducible refine Below.setCell ?_ ?_ _) | go_size))⟩
  · by_cases h1 : n = 0
    · rw [show vDV n = false from vDV_bad (.inr h1), lFor_false]
      have he1 : (n == 0) = true := by simpa using h1
      clear h1
      go_enter Try.func26, Try.ntmps26
      go_wp2_with fail
      ((with_reducible refine (are1 n _ _ (by simp)).mono ?_); rintro e w0 ⟨rfl, rfl⟩)
      go_wp2
      go_ret2
      exact ⟨_, rfl, Lst.empty' (by simp) (by omega), (by repeat' (first | (with_reducible exact Below.refl _ _) | (with_reducible assumption) | (with_reducible refine Below.alloc ?_ ?_ _) | (with_reducible refine Below.drew ?_) | (with_reducible refine below_drewN ?_ _) | (with_reducible refine Below.setCell ?_ ?_ _) | go_size))⟩
    · have ha := good_iff.1 h0
      rw [vDV_ok h0 h1, lFor_true]
      go_enter Try.func26, Try.ntmps26
      go_wp2_with fail
      ((with_reducible refine (are1 n _ _ (by simp)).mono ?_); rintro e w0 ⟨rfl, rfl⟩)
      go_wp2_with fail
      ((with_reducible refine (abs_any _ _ (by omega) (by omega)).mono ?_); rintro e w0 ⟨rfl, rfl⟩)
      go_wp2_with fail
      refine (divisors_any n.natAbs _ (by omega) (by omega)).mono ?_
      rintro e w1 ⟨v1, rfl, l1, b1⟩
      go_wp2
      go_ret2
      exact ⟨_, rfl, l1.base (by first | exact Nat.le_refl _ | (simp; done) | (simp; omega)), Below.trans ((by repeat' (first | (with_reducible exact Below.refl _ _) | (with_reducible assumption) | (with_reducible refine Below.alloc ?_ ?_ _) | (with_reducible refine Below.drew ?_) | (with_reducible refine below_drewN ?_ _) | (with_reducible refine Below.setCell ?_ ?_ _) | go_size))) (b1.mono (by first | exact Nat.le_refl _ | (simp; done) | (simp; omega)))⟩

end Go.Proofs.Ytfpedehpmgcmnaa
