/-
  'Divisors': its contracts and its law's walk.
-/
import Derived.Test.YtfnmdcifjdfocaaDiv
import Derived.Test.YtfnmdcifjdfocaaAr
import Derived.Test.YtfnmdcifjdfocaaFrame
namespace Go.Proofs.Ytfnmdcifjdfocaa
open Go.RowKit
set_option linter.unusedSimpArgs false
set_option linter.unusedVariables false

def vDV (n : Int) : Bool := good n && decide (n ≠ 0)
theorem vDV_bad {n : Int} (h : good n = false ∨ n = 0) : vDV n = false := by
  unfold vDV
  rcases h with h | h <;> simp [h]
theorem vDV_ok {n : Int} (h0 : good n = true) (h1 : ¬ n = 0) : vDV n = true := by simp [vDV, *]
theorem dv_len (n : Int) : (lFor (vDV n) (ints (divs n.natAbs))).length ≤ 1000000000 := by
  rcases hv : vDV n with _ | _
  · simp [lFor]
  · have hg : good n = true := by
      unfold vDV at hv
      simp at hv
      exact hv.1
    have := good_iff.1 hg
    have := divs_len n.natAbs (by omega)
    rw [lFor_true, ints_length]
    omega

theorem specDV_any (n : Int) (w : World) : Calls Try.prog 34 #[.int .i64 n] w (RetS w (lFor (vDV n) (ints (divs n.natAbs))) (vDV n)) := by
  rcases h0 : good n with _ | _
  · rw [show vDV n = false from vDV_bad (.inl h0), lFor_false]
    go_enter Try.func34, Try.ntmps34
    go_wp2_with fail
    ((with_reducible refine (nuGood_any n _).mono ?_); rintro e w0 ⟨rfl, rfl⟩)
    go_wp2
    go_ret2
    exact ⟨_, rfl, Lst.nil _ _, (by repeat' (first | (with_reducible exact Below.refl _ _) | (with_reducible assumption) | (with_reducible refine Below.alloc ?_ ?_ _) | (with_reducible refine Below.drew ?_) | (with_reducible refine below_drewN ?_ _) | (with_reducible refine Below.setCell ?_ ?_ _) | go_size))⟩
  · by_cases h1 : n = 0
    · rw [show vDV n = false from vDV_bad (.inr h1), lFor_false]
      have he1 : (n == 0) = true := by simpa using h1
      clear h1
      go_enter Try.func34, Try.ntmps34
      go_wp2_with fail
      ((with_reducible refine (nuGood_any n _).mono ?_); rintro e w0 ⟨rfl, rfl⟩)
      go_wp2
      go_ret2
      exact ⟨_, rfl, Lst.nil _ _, (by repeat' (first | (with_reducible exact Below.refl _ _) | (with_reducible assumption) | (with_reducible refine Below.alloc ?_ ?_ _) | (with_reducible refine Below.drew ?_) | (with_reducible refine below_drewN ?_ _) | (with_reducible refine Below.setCell ?_ ?_ _) | go_size))⟩
    · have ha := good_iff.1 h0
      rw [vDV_ok h0 h1, lFor_true]
      go_enter Try.func34, Try.ntmps34
      go_wp2_with fail
      ((with_reducible refine (nuGood_any n _).mono ?_); rintro e w0 ⟨rfl, rfl⟩)
      go_wp2_with fail
      ((with_reducible refine (l1Abs_any _ _ (by omega) (by omega)).mono ?_); rintro e w0 ⟨rfl, rfl⟩)
      go_wp2_with fail
      refine (nuDivisors_any n.natAbs _ (by omega) (by omega)).mono ?_
      rintro e w1 ⟨v1, rfl, l1, b1⟩
      go_wp2
      go_ret2
      exact ⟨_, rfl, l1.base (by first | exact Nat.le_refl _ | (simp; done) | (simp; omega)), Below.trans ((by repeat' (first | (with_reducible exact Below.refl _ _) | (with_reducible assumption) | (with_reducible refine Below.alloc ?_ ?_ _) | (with_reducible refine Below.drew ?_) | (with_reducible refine below_drewN ?_ _) | (with_reducible refine Below.setCell ?_ ?_ _) | go_size))) (b1.mono (by first | exact Nat.le_refl _ | (simp; done) | (simp; omega)))⟩

theorem implDV_any (n : Int) (w : World) : Calls Try.prog 35 #[.int .i64 n] w (RetS w (lFor (vDV n) (ints (divs n.natAbs))) (vDV n)) := by
  rcases h0 : good n with _ | _
  · rw [show vDV n = false from vDV_bad (.inl h0), lFor_false]
    go_enter Try.func35, Try.ntmps35
    go_wp2_with fail
    ((with_reducible refine (are1 n _ _ (by simp)).mono ?_); rintro e w0 ⟨rfl, rfl⟩)
    go_wp2
    go_ret2
    exact ⟨_, rfl, Lst.empty' (by simp) (by omega), (by repeat' (first | (with_reducible exact Below.refl _ _) | (with_reducible assumption) | (with_reducible refine Below.alloc ?_ ?_ _) | (with_reducible refine Below.drew ?_) | (with_reducible refine below_drewN ?_ _) | (with_reducible refine Below.setCell ?_ ?_ _) | go_size))⟩
  · by_cases h1 : n = 0
    · rw [show vDV n = false from vDV_bad (.inr h1), lFor_false]
      have he1 : (n == 0) = true := by simpa using h1
      clear h1
      go_enter Try.func35, Try.ntmps35
      go_wp2_with fail
      ((with_reducible refine (are1 n _ _ (by simp)).mono ?_); rintro e w0 ⟨rfl, rfl⟩)
      go_wp2
      go_ret2
      exact ⟨_, rfl, Lst.empty' (by simp) (by omega), (by repeat' (first | (with_reducible exact Below.refl _ _) | (with_reducible assumption) | (with_reducible refine Below.alloc ?_ ?_ _) | (with_reducible refine Below.drew ?_) | (with_reducible refine below_drewN ?_ _) | (with_reducible refine Below.setCell ?_ ?_ _) | go_size))⟩
    · have ha := good_iff.1 h0
      rw [vDV_ok h0 h1, lFor_true]
      go_enter Try.func35, Try.ntmps35
      go_wp2_with fail
      ((with_reducible refine (are1 n _ _ (by simp)).mono ?_); rintro e w0 ⟨rfl, rfl⟩)
      go_wp2_with fail
      ((with_reducible refine (abs_any _ _ (by omega) (by omega)).mono ?_); rintro e w0 ⟨rfl, rfl⟩)
      go_wp2_with fail
      refine (divisors_any n.natAbs _ (by omega) (by omega)).mono ?_
      rintro e w1 ⟨v1, rfl, l1, b1⟩
      go_wp2
      go_ret2
      exact ⟨_, rfl, l1.base (by first | exact Nat.le_refl _ | (simp; done) | (simp; omega)), Below.trans ((by repeat' (first | (with_reducible exact Below.refl _ _) | (with_reducible assumption) | (with_reducible refine Below.alloc ?_ ?_ _) | (with_reducible refine Below.drew ?_) | (with_reducible refine below_drewN ?_ _) | (with_reducible refine Below.setCell ?_ ?_ _) | go_size))) (b1.mono (by first | exact Nat.le_refl _ | (simp; done) | (simp; omega)))⟩

theorem law_FnExactDivisors (n : Int) (w : World) (h_n : In64 n) : Calls Try.prog 11 #[.int .i64 n] w fun e w' => e = .returned (.bool true) ∧ Below w.heap.size w w' := by
  have hlen := dv_len n
  have HL := Lib.hid hlen
  clear hlen
  go_enter Try.func11, Try.ntmps11
  go_wp2_with fail
  refine (specDV_any n w).mono ?_
  rintro e w1 ⟨v1, rfl, l1, b1⟩
  go_wp2_with fail
  refine (implDV_any n w1).mono ?_
  rintro e w2 ⟨v2, rfl, l2, b2⟩
  have l1' := l1.below (Nat.le_refl _) b2
  go_wp2_with fail
  refine (eqIntS_same _ _ _ _ HL.out l2 l1').mono ?_
  rintro e w0 ⟨rfl, k3, rfl⟩
  go_wp2_with fail
  refine (markIntS_any _ _ _ HL.out (l2.drewN k3)).mono ?_
  rintro e w4 ⟨rfl, l4, g4⟩
  obtain ⟨l1'', bl4⟩ := after_mark b1 l1 b2 l2 g4
  clear l1' g4 l1 l2 b1 b2
  go_wp2_with fail
  refine (heldIntS_any _ _ _ HL.out l4).mono ?_
  rintro e w0 ⟨rfl, rfl⟩
  go_wp2_with fail
  refine (implDV_any n w4).mono ?_
  rintro e w6 ⟨v6, rfl, l6, b6⟩
  have l1' := l1''.below (Nat.le_refl _) b6
  have l4' := l4.below (Nat.le_refl _) b6
  have bl6 := bl4.trans (b6.mono bl4.size)
  clear l1'' l4 b6 bl4
  go_wp2_with fail
  refine (eqIntS_same _ _ _ _ HL.out l6 l1').mono ?_
  rintro e w0 ⟨rfl, k7, rfl⟩
  go_wp2_with fail
  refine (heldIntS_any _ _ _ HL.out (l4'.drewN k7)).mono ?_
  rintro e w0 ⟨rfl, rfl⟩
  go_wp2
  go_ret
  exact ⟨rfl, below_drewN bl6 k7⟩
end Go.Proofs.Ytfnmdcifjdfocaa
