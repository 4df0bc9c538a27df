/-
  'FormsWithLeading': its contracts and its law's walk.
-/
import Derived.Test.YtfnmdcifjdfocaaFW
import Derived.Test.YtfnmdcifjdfocaaIn
namespace Go.Proofs.Ytfnmdcifjdfocaa
open Go.RowKit
set_option linter.unusedSimpArgs false
set_option linter.unusedVariables false

def vFW (d n : Int) : Bool := good d && inB 1 2500 n
theorem vFW_bad {d n : Int} (h : good d = false ∨ n < 1 ∨ 2500 < n) : vFW d n = false := by
  unfold vFW
  rcases h with h | h | h
  · simp [h]
  · rw [inB_bad.2 (.inl h)]; simp
  · rw [inB_bad.2 (.inr h)]; simp
theorem vFW_ok {d n : Int} (hd : good d = true) (m1 : 1 ≤ n) (m2 : n ≤ 2500) : vFW d n = true := by unfold vFW; rw [hd, inB_iff.2 ⟨m1, m2⟩]; rfl
theorem vFW_in {d n : Int} (h : vFW d n = true) : good d = true ∧ 1 ≤ n ∧ n ≤ 2500 := by
  unfold vFW at h
  simp only [Bool.and_eq_true] at h
  have := inB_iff.1 h.2
  exact ⟨h.1, this.1, this.2⟩
theorem fw_len (d n : Int) : (t3For (vFW d n) (fwL d n)).length ≤ 1000000000 := by
  rcases hv : vFW d n with _ | _
  · simp [t3For]
  · have := fwL_len (d := d) (vFW_in hv).2.2
    rw [t3For_true]
    omega
theorem specFW_any (d n : Int) (w : World) : Calls Try.prog 40 #[.int .i64 d, .int .i64 n] w (FoRetS w (t3For (vFW d n) (fwL d n)) (vFW d n)) := by
  rcases h0 : good d with _ | _
  · rw [show vFW d n = false from vFW_bad (.inl h0), t3For_false]
    go_enter Try.func40, Try.ntmps40
    go_wp2_with fail
    ((with_reducible refine (nuGood_any d _).mono ?_); rintro e w0 ⟨rfl, rfl⟩)
    go_wp2
    go_ret2
    exact ⟨_, rfl, FoLst.nil _ _, (by repeat' (first | (with_reducible exact Below.refl _ _) | (with_reducible assumption) | (with_reducible refine Below.alloc ?_ ?_ _) | (with_reducible refine Below.drew ?_) | (with_reducible refine below_drewN ?_ _) | (with_reducible refine Below.setCell ?_ ?_ _) | go_size))⟩
  · rcases h1 : inB 1 2500 n with _ | _
    · rw [show vFW d n = false from vFW_bad (by have := inB_bad.1 h1; omega), t3For_false]
      go_enter Try.func40, Try.ntmps40
      go_wp2_with fail
      ((with_reducible refine (nuGood_any d _).mono ?_); rintro e w0 ⟨rfl, rfl⟩)
      go_wp2_with fail
      ((with_reducible refine (l1In_any _ _ _ _).mono ?_); rintro e w0 ⟨rfl, rfl⟩)
      go_wp2
      go_ret2
      exact ⟨_, rfl, FoLst.nil _ _, (by repeat' (first | (with_reducible exact Below.refl _ _) | (with_reducible assumption) | (with_reducible refine Below.alloc ?_ ?_ _) | (with_reducible refine Below.drew ?_) | (with_reducible refine below_drewN ?_ _) | (with_reducible refine Below.setCell ?_ ?_ _) | go_size))⟩
    · have hd := good_iff.1 h0
      have hn := inB_iff.1 h1
      rw [vFW_ok h0 (by omega) (by omega), t3For_true]
      go_enter Try.func40, Try.ntmps40
      go_wp2_with fail
      ((with_reducible refine (nuGood_any d _).mono ?_); rintro e w0 ⟨rfl, rfl⟩)
      go_wp2_with fail
      ((with_reducible refine (l1In_any _ _ _ _).mono ?_); rintro e w0 ⟨rfl, rfl⟩)
      go_wp2_with fail
      refine (roForms_yes d n _ h0 (by omega) (by omega)).mono ?_
      rintro e w1 ⟨v1, rfl, l1, b1⟩
      go_wp2
      go_ret2
      exact ⟨_, rfl, l1.base (by first | exact Nat.le_refl _ | (simp; done) | (simp; omega)), Below.trans ((by repeat' (first | (with_reducible exact Below.refl _ _) | (with_reducible assumption) | (with_reducible refine Below.alloc ?_ ?_ _) | (with_reducible refine Below.drew ?_) | (with_reducible refine below_drewN ?_ _) | (with_reducible refine Below.setCell ?_ ?_ _) | go_size))) (b1.mono (by first | exact Nat.le_refl _ | (simp; done) | (simp; omega)))⟩
theorem implFW_any (d n : Int) (w : World) : Calls Try.prog 41 #[.int .i64 d, .int .i64 n] w (FoRetS w (t3For (vFW d n) (fwL d n)) (vFW d n)) := by
  rcases h0 : good d with _ | _
  · rw [show vFW d n = false from vFW_bad (.inl h0), t3For_false]
    go_enter Try.func41, Try.ntmps41
    go_wp2_with fail
    ((with_reducible refine (are1 d _ _ (by simp)).mono ?_); rintro e w0 ⟨rfl, rfl⟩)
    go_wp2
    go_ret2
    exact ⟨_, rfl, FoLst.empty (by simp) (by first | omega | go_size), (by repeat' (first | (with_reducible exact Below.refl _ _) | (with_reducible assumption) | (with_reducible refine Below.alloc ?_ ?_ _) | (with_reducible refine Below.drew ?_) | (with_reducible refine below_drewN ?_ _) | (with_reducible refine Below.setCell ?_ ?_ _) | go_size))⟩
  · by_cases h1 : n < 1
    · rw [show vFW d n = false from vFW_bad (by omega), t3For_false]
      go_enter Try.func41, Try.ntmps41
      go_wp2_with fail
      ((with_reducible refine (are1 d _ _ (by simp)).mono ?_); rintro e w0 ⟨rfl, rfl⟩)
      go_wp2
      go_ret2
      exact ⟨_, rfl, FoLst.empty (by simp) (by first | omega | go_size), (by repeat' (first | (with_reducible exact Below.refl _ _) | (with_reducible assumption) | (with_reducible refine Below.alloc ?_ ?_ _) | (with_reducible refine Below.drew ?_) | (with_reducible refine below_drewN ?_ _) | (with_reducible refine Below.setCell ?_ ?_ _) | go_size))⟩
    · by_cases h2 : 2500 < n
      · rw [show vFW d n = false from vFW_bad (by omega), t3For_false]
        go_enter Try.func41, Try.ntmps41
        go_wp2_with fail
        ((with_reducible refine (are1 d _ _ (by simp)).mono ?_); rintro e w0 ⟨rfl, rfl⟩)
        go_wp2
        go_ret2
        exact ⟨_, rfl, FoLst.empty (by simp) (by first | omega | go_size), (by repeat' (first | (with_reducible exact Below.refl _ _) | (with_reducible assumption) | (with_reducible refine Below.alloc ?_ ?_ _) | (with_reducible refine Below.drew ?_) | (with_reducible refine below_drewN ?_ _) | (with_reducible refine Below.setCell ?_ ?_ _) | go_size))⟩
      · have hd := good_iff.1 h0
        rw [vFW_ok h0 (by omega) (by omega), t3For_true]
        go_enter Try.func41, Try.ntmps41
        go_wp2_with fail
        ((with_reducible refine (are1 d _ _ (by simp)).mono ?_); rintro e w0 ⟨rfl, rfl⟩)
        go_wp2_with fail
        refine (formsWith_yes d n _ h0 (by omega) (by omega)).mono ?_
        rintro e w1 ⟨v1, rfl, l1, b1⟩
        go_wp2
        go_ret2
        exact ⟨_, rfl, l1.base (by first | exact Nat.le_refl _ | (simp; done) | (simp; omega)), Below.trans ((by repeat' (first | (with_reducible exact Below.refl _ _) | (with_reducible assumption) | (with_reducible refine Below.alloc ?_ ?_ _) | (with_reducible refine Below.drew ?_) | (with_reducible refine below_drewN ?_ _) | (with_reducible refine Below.setCell ?_ ?_ _) | go_size))) (b1.mono (by first | exact Nat.le_refl _ | (simp; done) | (simp; omega)))⟩
set_option maxHeartbeats 800000 in
theorem law_FnExactFormsWithLeading (d n : Int) (w : World) (ib_d : In64 d) (ib_n : In64 n) : Calls Try.prog 14 #[.int .i64 d, .int .i64 n] w fun e w' => e = .returned (.bool true) ∧ Below w.heap.size w w' := by
  have hlen := fw_len d n
  have HL := Lib.hid hlen
  clear hlen
  go_enter Try.func14, Try.ntmps14
  go_wp2_with fail
  refine (specFW_any d n w).mono ?_
  rintro e w1 ⟨v1, rfl, l1, b1⟩
  go_wp2_with fail
  refine (implFW_any d n w1).mono ?_
  rintro e w2 ⟨v2, rfl, l2, b2⟩
  have l1' := l1.below (Nat.le_refl _) b2
  go_wp2_with fail
  refine (eqFormS_same _ _ _ _ HL.out l2 l1').mono ?_
  rintro e w3 ⟨rfl, b3⟩
  go_wp2_with fail
  refine (markFormS_any _ _ _ HL.out (l2.below (Nat.le_refl _) b3)).mono ?_
  rintro e w4 ⟨rfl, l4, g4⟩
  obtain ⟨l1'', bl4⟩ := Foafter_mark b1 l1 b2 l2 b3 g4
  clear l1' g4 l1 l2 b1 b2 b3
  go_wp2_with fail
  refine (heldFormS_any _ _ _ HL.out l4).mono ?_
  rintro e w0 ⟨rfl, rfl⟩
  go_wp2_with fail
  refine (implFW_any d n w4).mono ?_
  rintro e w6 ⟨v6, rfl, l6, b6⟩
  have l1' := l1''.below (Nat.le_refl _) b6
  have l4' := l4.below (Nat.le_refl _) b6
  have bl6 := bl4.trans (b6.mono bl4.size)
  clear l1'' l4 b6 bl4
  go_wp2_with fail
  refine (eqFormS_same _ _ _ _ HL.out l6 l1').mono ?_
  rintro e w7 ⟨rfl, b7⟩
  have l4'' := l4'.below (Nat.le_refl _) b7
  have bl7 := bl6.trans (b7.mono bl6.size)
  clear b7 l4' l1' l6 bl6
  go_wp2_with fail
  refine (heldFormS_any _ _ _ HL.out l4'').mono ?_
  rintro e w0 ⟨rfl, rfl⟩
  go_wp2
  go_ret
  exact ⟨rfl, bl7⟩
end Go.Proofs.Ytfnmdcifjdfocaa
