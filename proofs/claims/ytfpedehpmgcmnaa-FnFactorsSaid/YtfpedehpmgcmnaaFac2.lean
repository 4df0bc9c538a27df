/-
  'PrimeFactors': its contracts and its law's walk.
-/
import Derived.Test.YtfpedehpmgcmnaaFac
import Derived.Test.YtfpedehpmgcmnaaFrame
namespace Go.Proofs.Ytfpedehpmgcmnaa
open Go.RowKit
set_option linter.unusedSimpArgs false
set_option linter.unusedVariables false

theorem fcs_len : ∀ (n p y : Nat), y ≤ n → 1 ≤ y → 2 ≤ p → ND y p → (fcs p y).length ≤ y
  | 0, p, y, h, h1, _, _ => by omega
  | n + 1, p, y, h, h1, h2, hn => by
    -- p goes up until it divides y, or its square is above y
    have key : ∀ k q, y + 2 - q ≤ k → 2 ≤ q → ND y q → (fcs q y).length ≤ y := fun k => by
      induction k with
      | zero =>
        intro q hk hq _
        have : y < q * q := by
          have : 2 * q ≤ q * q := Nat.mul_le_mul_right q hq
          omega
        rw [fcs_end this]
        split <;> simp <;> omega
      | succ k ih =>
        intro q hk hq hnq
        by_cases hm : y % q = 0
        · rw [fcs_hit' hq h1 hm hnq]
          have h3 : y / q < y := Nat.div_lt_self (by omega) (by omega)
          have h4 : 0 < y / q := Nat.div_pos (Nat.le_of_dvd (by omega) (Nat.dvd_of_mod_eq_zero hm)) (by omega)
          have := fcs_len n q (y / q) (by omega) h4 hq (hnq.quot hm)
          simp only [List.length_cons]
          omega
        · rw [fcs_miss' hq hm]
          rcases Nat.lt_or_ge (y + 2) (q + 1) with h5 | h5
          · have : y < (q + 1) * (q + 1) := by
              have : 2 * (q + 1) ≤ (q + 1) * (q + 1) := Nat.mul_le_mul_right _ (by omega)
              omega
            rw [fcs_end this]
            split <;> simp <;> omega
          · exact ih (q + 1) (by omega) (by omega) (hnq.succ hm)
    exact key (y + 2 - p) p (Nat.le_refl _) h2 hn
def vPF (n : Int) : Bool := inB 1 1000000 n
theorem pf_len (n : Int) : (lFor (vPF n) (ints (fcs 2 n.toNat))).length ≤ 1000000000 := by
  rcases hv : vPF n with _ | _
  · simp [lFor]
  · have h := inB_iff.1 hv
    have := fcs_len n.toNat 2 n.toNat (Nat.le_refl _) (by omega) (by omega) (fun d d1 d2 => by omega)
    rw [lFor_true, ints_length]
    omega
theorem fac_int {P : Program} {f : FuncId} {n : Int} {w : World} (h : ∀ N : Nat, 1 ≤ N → N ≤ 1000000 → Calls P f #[.int .i64 N] w (RetL w (ints (fcs 2 N)))) (m1 : 1 ≤ n) (m2 : n ≤ 1000000) :
    Calls P f #[.int .i64 n] w (RetL w (ints (fcs 2 n.toNat))) := by
  obtain ⟨N, rfl⟩ : ∃ N : Nat, n = N := ⟨n.toNat, by omega⟩
  exact h N (by omega) (by omega)
theorem vPF_bad {n : Int} (h : n < 1 ∨ 1000000 < n) : vPF n = false := inB_bad.2 h
theorem vPF_ok {n : Int} (h1 : 1 ≤ n) (h2 : n ≤ 1000000) : vPF n = true := inB_iff.2 ⟨h1, h2⟩

theorem specPF_any (n : Int) (w : World) : Calls Try.prog 25 #[.int .i64 n] w (RetS w (lFor (vPF n) (ints (fcs 2 n.toNat))) (vPF n)) := by
  rcases h0 : inB 1 1000000 n with _ | _
  · rw [show vPF n = false from h0, lFor_false]
    go_enter Try.func25, Try.ntmps25
    go_wp2_with fail
    ((with_reducible refine (l1In_any _ _ _ _).mono ?_); rintro e w0 ⟨rfl, rfl⟩)
    go_wp2
    go_ret2
    exact ⟨_, rfl, Lst.nil _ _, (by repeat' (first | (with_reducible exact Below.refl _ _) | (with_reducible assumption) | (with_reducible refine Below.alloc ?_ ?_ _) | (with_reducible refine Below.drew ?_) | (with_reducible refine below_drewN ?_ _) | (with_reducible refine Below.setCell ?_ ?_ _) | go_size))⟩
  · have ha := inB_iff.1 h0
    rw [vPF_ok ha.1 ha.2, lFor_true]
    go_enter Try.func25, Try.ntmps25
    go_wp2_with fail
    ((with_reducible refine (l1In_any _ _ _ _).mono ?_); rintro e w0 ⟨rfl, rfl⟩)
    go_wp2_with fail
    refine (fac_int (fun N a b => nuFactors_any N _ a b) ha.1 ha.2).mono ?_
    rintro e w1 ⟨v1, rfl, l1, b1⟩
    go_wp2
    go_ret2
    exact ⟨_, rfl, l1.base (by first | exact Nat.le_refl _ | (simp; done) | (simp; omega)), Below.trans ((by repeat' (first | (with_reducible exact Below.refl _ _) | (with_reducible assumption) | (with_reducible refine Below.alloc ?_ ?_ _) | (with_reducible refine Below.drew ?_) | (with_reducible refine below_drewN ?_ _) | (with_reducible refine Below.setCell ?_ ?_ _) | go_size))) (b1.mono (by first | exact Nat.le_refl _ | (simp; done) | (simp; omega)))⟩

theorem implPF_any (n : Int) (w : World) : Calls Try.prog 24 #[.int .i64 n] w (RetS w (lFor (vPF n) (ints (fcs 2 n.toNat))) (vPF n)) := by
  rcases h0 : good n with _ | _
  · rw [show vPF n = false from vPF_bad (by have := bad_iff.1 h0; omega), lFor_false]
    go_enter Try.func24, Try.ntmps24
    go_wp2_with fail
    ((with_reducible refine (are1 n _ _ (by simp)).mono ?_); rintro e w0 ⟨rfl, rfl⟩)
    go_wp2
    go_ret2
    exact ⟨_, rfl, Lst.empty' (by simp) (by omega), (by repeat' (first | (with_reducible exact Below.refl _ _) | (with_reducible assumption) | (with_reducible refine Below.alloc ?_ ?_ _) | (with_reducible refine Below.drew ?_) | (with_reducible refine below_drewN ?_ _) | (with_reducible refine Below.setCell ?_ ?_ _) | go_size))⟩
  · by_cases h1 : n < 1
    · rw [show vPF n = false from vPF_bad (by omega), lFor_false]
      go_enter Try.func24, Try.ntmps24
      go_wp2_with fail
      ((with_reducible refine (are1 n _ _ (by simp)).mono ?_); rintro e w0 ⟨rfl, rfl⟩)
      go_wp2
      go_ret2
      exact ⟨_, rfl, Lst.empty' (by simp) (by omega), (by repeat' (first | (with_reducible exact Below.refl _ _) | (with_reducible assumption) | (with_reducible refine Below.alloc ?_ ?_ _) | (with_reducible refine Below.drew ?_) | (with_reducible refine below_drewN ?_ _) | (with_reducible refine Below.setCell ?_ ?_ _) | go_size))⟩
    · have ha := good_iff.1 h0
      rw [vPF_ok (by omega) (by omega), lFor_true]
      go_enter Try.func24, Try.ntmps24
      go_wp2_with fail
      ((with_reducible refine (are1 n _ _ (by simp)).mono ?_); rintro e w0 ⟨rfl, rfl⟩)
      go_wp2_with fail
      refine (fac_int (fun N a b => factors_any N _ a b) (by omega) (by omega)).mono ?_
      rintro e w1 ⟨v1, rfl, l1, b1⟩
      go_wp2
      go_ret2
      exact ⟨_, rfl, l1.base (by first | exact Nat.le_refl _ | (simp; done) | (simp; omega)), Below.trans ((by repeat' (first | (with_reducible exact Below.refl _ _) | (with_reducible assumption) | (with_reducible refine Below.alloc ?_ ?_ _) | (with_reducible refine Below.drew ?_) | (with_reducible refine below_drewN ?_ _) | (with_reducible refine Below.setCell ?_ ?_ _) | go_size))) (b1.mono (by first | exact Nat.le_refl _ | (simp; done) | (simp; omega)))⟩

end Go.Proofs.Ytfpedehpmgcmnaa
