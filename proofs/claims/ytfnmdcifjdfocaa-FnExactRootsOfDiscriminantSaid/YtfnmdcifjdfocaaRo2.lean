/-
  'RootsOfDiscriminant': its contracts and its law's walk.
-/
import Derived.Test.YtfnmdcifjdfocaaRo
import Derived.Test.YtfnmdcifjdfocaaFrame
namespace Go.Proofs.Ytfnmdcifjdfocaa
open Go.RowKit
set_option linter.unusedSimpArgs false
set_option linter.unusedVariables false

def vRD (d n : Int) : Bool := good d && inB 1 2500 n
theorem vRD_bad {d n : Int} (h : good d = false ∨ n < 1 ∨ 2500 < n) : vRD d n = false := by
  unfold vRD
  rcases h with h | h | h
  · simp [h]
  · rw [inB_bad.2 (.inl h)]; simp
  · rw [inB_bad.2 (.inr h)]; simp
theorem vRD_ok {d n : Int} (hd : good d = true) (m1 : 1 ≤ n) (m2 : n ≤ 2500) : vRD d n = true := by
  unfold vRD
  rw [inB_iff.2 ⟨m1, m2⟩]
  simp [hd]
theorem vRD_in {d n : Int} (h : vRD d n = true) : 1 ≤ n ∧ n ≤ 2500 := by
  unfold vRD at h
  simp only [Bool.and_eq_true] at h
  exact inB_iff.1 h.2

theorem qr_len' (F : Nat → Bool) (V : Bool) (m : Int) (h : V = true → m ≤ 10000) : (lFor V (qrs F m.toNat)).length ≤ 1000000000 := by
  rcases hv : V with _ | _
  · simp [lFor]
  · have := qrs_le F m.toNat
    have := h hv
    rw [lFor_true]
    omega

theorem specRD_any (d n : Int) (w : World) : Calls Try.prog 28 #[.int .i64 d, .int .i64 n] w (RetS w (lFor (vRD d n) (qrs (dF d n) (2 * n).toNat)) (vRD d n)) := by
  rcases h0 : good d with _ | _
  · rw [show vRD d n = false from vRD_bad (.inl h0), lFor_false]
    go_enter Try.func28, Try.ntmps28
    go_wp2_with fail
    ((with_reducible refine (nuGood_any d _).mono ?_); rintro e w0 ⟨rfl, rfl⟩)
    go_wp2
    go_ret2
    exact ⟨_, rfl, Lst.nil _ _, (by repeat' (first | (with_reducible exact Below.refl _ _) | (with_reducible assumption) | (with_reducible refine Below.alloc ?_ ?_ _) | (with_reducible refine Below.drew ?_) | (with_reducible refine below_drewN ?_ _) | (with_reducible refine Below.setCell ?_ ?_ _) | go_size))⟩
  · rcases h1 : inB 1 2500 n with _ | _
    · rw [show vRD d n = false from vRD_bad (.inr (inB_bad.1 h1)), lFor_false]
      go_enter Try.func28, Try.ntmps28
      go_wp2_with fail
      ((with_reducible refine (nuGood_any d _).mono ?_); rintro e w0 ⟨rfl, rfl⟩)
      go_wp2_with fail
      ((with_reducible refine (l1In_any _ _ _ _).mono ?_); rintro e w0 ⟨rfl, rfl⟩)
      go_wp2
      go_ret2
      exact ⟨_, rfl, Lst.nil _ _, (by repeat' (first | (with_reducible exact Below.refl _ _) | (with_reducible assumption) | (with_reducible refine Below.alloc ?_ ?_ _) | (with_reducible refine Below.drew ?_) | (with_reducible refine below_drewN ?_ _) | (with_reducible refine Below.setCell ?_ ?_ _) | go_size))⟩
    · have hm := inB_iff.1 h1
      rw [vRD_ok h0 hm.1 hm.2, lFor_true]
      go_enter Try.func28, Try.ntmps28
      go_wp2_with fail
      ((with_reducible refine (nuGood_any d _).mono ?_); rintro e w0 ⟨rfl, rfl⟩)
      go_wp2_with fail
      ((with_reducible refine (l1In_any _ _ _ _).mono ?_); rintro e w0 ⟨rfl, rfl⟩)
      go_wp2_with fail
      refine (roDisc_yes d n _ h0 hm.1 hm.2).mono ?_
      rintro e w1 ⟨v1, rfl, l1, b1⟩
      go_wp2
      go_ret2
      exact ⟨_, rfl, l1.base (by first | exact Nat.le_refl _ | (simp; done) | (simp; omega)), Below.trans ((by repeat' (first | (with_reducible exact Below.refl _ _) | (with_reducible assumption) | (with_reducible refine Below.alloc ?_ ?_ _) | (with_reducible refine Below.drew ?_) | (with_reducible refine below_drewN ?_ _) | (with_reducible refine Below.setCell ?_ ?_ _) | go_size))) (b1.mono (by first | exact Nat.le_refl _ | (simp; done) | (simp; omega)))⟩

theorem implRD_any (d n : Int) (w : World) : Calls Try.prog 29 #[.int .i64 d, .int .i64 n] w (RetS w (lFor (vRD d n) (qrs (dF d n) (2 * n).toNat)) (vRD d n)) := by
  rcases h0 : good d with _ | _
  · rw [show vRD d n = false from vRD_bad (.inl h0), lFor_false]
    go_enter Try.func29, Try.ntmps29
    go_wp2_with fail
    ((with_reducible refine (are1 d _ _ (by simp)).mono ?_); rintro e w0 ⟨rfl, rfl⟩)
    go_wp2
    go_ret2
    exact ⟨_, rfl, Lst.empty' (by simp) (by omega), (by repeat' (first | (with_reducible exact Below.refl _ _) | (with_reducible assumption) | (with_reducible refine Below.alloc ?_ ?_ _) | (with_reducible refine Below.drew ?_) | (with_reducible refine below_drewN ?_ _) | (with_reducible refine Below.setCell ?_ ?_ _) | go_size))⟩
  · by_cases h1 : n < 1
    · rw [show vRD d n = false from vRD_bad (.inr (.inl h1)), lFor_false]
      go_enter Try.func29, Try.ntmps29
      go_wp2_with fail
      ((with_reducible refine (are1 d _ _ (by simp)).mono ?_); rintro e w0 ⟨rfl, rfl⟩)
      go_wp2
      go_ret2
      exact ⟨_, rfl, Lst.empty' (by simp) (by omega), (by repeat' (first | (with_reducible exact Below.refl _ _) | (with_reducible assumption) | (with_reducible refine Below.alloc ?_ ?_ _) | (with_reducible refine Below.drew ?_) | (with_reducible refine below_drewN ?_ _) | (with_reducible refine Below.setCell ?_ ?_ _) | go_size))⟩
    · by_cases h2 : 2500 < n
      · rw [show vRD d n = false from vRD_bad (.inr (.inr h2)), lFor_false]
        go_enter Try.func29, Try.ntmps29
        go_wp2_with fail
        ((with_reducible refine (are1 d _ _ (by simp)).mono ?_); rintro e w0 ⟨rfl, rfl⟩)
        go_wp2
        go_ret2
        exact ⟨_, rfl, Lst.empty' (by simp) (by omega), (by repeat' (first | (with_reducible exact Below.refl _ _) | (with_reducible assumption) | (with_reducible refine Below.alloc ?_ ?_ _) | (with_reducible refine Below.drew ?_) | (with_reducible refine below_drewN ?_ _) | (with_reducible refine Below.setCell ?_ ?_ _) | go_size))⟩
      · rw [vRD_ok h0 (by omega) (by omega), lFor_true]
        go_enter Try.func29, Try.ntmps29
        go_wp2_with fail
        ((with_reducible refine (are1 d _ _ (by simp)).mono ?_); rintro e w0 ⟨rfl, rfl⟩)
        go_wp2_with fail
        refine (rootsOf_yes d n _ h0 (by omega) (by omega)).mono ?_
        rintro e w1 ⟨v1, rfl, l1, b1⟩
        go_wp2
        go_ret2
        exact ⟨_, rfl, l1.base (by first | exact Nat.le_refl _ | (simp; done) | (simp; omega)), Below.trans ((by repeat' (first | (with_reducible exact Below.refl _ _) | (with_reducible assumption) | (with_reducible refine Below.alloc ?_ ?_ _) | (with_reducible refine Below.drew ?_) | (with_reducible refine below_drewN ?_ _) | (with_reducible refine Below.setCell ?_ ?_ _) | go_size))) (b1.mono (by first | exact Nat.le_refl _ | (simp; done) | (simp; omega)))⟩

theorem law_FnExactRootsOfDiscriminant (d n : Int) (w : World) (h_d : In64 d) (h_n : In64 n) : Calls Try.prog 8 #[.int .i64 d, .int .i64 n] w fun e w' => e = .returned (.bool true) ∧ Below w.heap.size w w' := by
  have hlen := qr_len' (dF d n) (vRD d n) (2 * n) (fun h => by have := (vRD_in h).2; omega)
  have HL := Lib.hid hlen
  clear hlen
  go_enter Try.func8, Try.ntmps8
  go_wp2_with fail
  refine (specRD_any d n w).mono ?_
  rintro e w1 ⟨v1, rfl, l1, b1⟩
  go_wp2_with fail
  refine (implRD_any d n w1).mono ?_
  rintro e w2 ⟨v2, rfl, l2, b2⟩
  have l1' := l1.below (Nat.le_refl _) b2
  go_wp2_with fail
  refine (eqIntS_same _ _ _ _ HL.out l2 l1').mono ?_
  rintro e w0 ⟨rfl, k3, rfl⟩
  go_wp2_with fail
  refine (markIntS_any _ _ _ HL.out (l2.drewN k3)).mono ?_
  rintro e w4 ⟨rfl, l4, g4⟩
  obtain ⟨l1'', bl4⟩ := after_mark b1 l1 b2 l2 g4
  clear l1' g4 l1 l2 b1 b2
  go_wp2_with fail
  refine (heldIntS_any _ _ _ HL.out l4).mono ?_
  rintro e w0 ⟨rfl, rfl⟩
  go_wp2_with fail
  refine (implRD_any d n w4).mono ?_
  rintro e w6 ⟨v6, rfl, l6, b6⟩
  have l1' := l1''.below (Nat.le_refl _) b6
  have l4' := l4.below (Nat.le_refl _) b6
  have bl6 := bl4.trans (b6.mono bl4.size)
  clear l1'' l4 b6 bl4
  go_wp2_with fail
  refine (eqIntS_same _ _ _ _ HL.out l6 l1').mono ?_
  rintro e w0 ⟨rfl, k7, rfl⟩
  go_wp2_with fail
  refine (heldIntS_any _ _ _ HL.out (l4'.drewN k7)).mono ?_
  rintro e w0 ⟨rfl, rfl⟩
  go_wp2
  go_ret
  exact ⟨rfl, below_drewN bl6 k7⟩
end Go.Proofs.Ytfnmdcifjdfocaa
