/-
  'FormsWithLeading': its contracts and its law's walk.
-/
import Derived.Test.YtfpedehpmgcmnaaFW
import Derived.Test.YtfpedehpmgcmnaaIn
namespace Go.Proofs.Ytfpedehpmgcmnaa
open Go.RowKit
set_option linter.unusedSimpArgs false
set_option linter.unusedVariables false

def vFW (d n : Int) : Bool := good d && inB 1 2500 n
theorem vFW_bad {d n : Int} (h : good d = false ∨ n < 1 ∨ 2500 < n) : vFW d n = false := by
  unfold vFW
  rcases h with h | h | h
  · simp [h]
  · rw [inB_bad.2 (.inl h)]; simp
  · rw [inB_bad.2 (.inr h)]; simp
theorem vFW_ok {d n : Int} (hd : good d = true) (m1 : 1 ≤ n) (m2 : n ≤ 2500) : vFW d n = true := by unfold vFW; rw [hd, inB_iff.2 ⟨m1, m2⟩]; rfl
theorem vFW_in {d n : Int} (h : vFW d n = true) : good d = true ∧ 1 ≤ n ∧ n ≤ 2500 := by
  unfold vFW at h
  simp only [Bool.and_eq_true] at h
  have := inB_iff.1 h.2
  exact ⟨h.1, this.1, this.2⟩
theorem fw_len (d n : Int) : (t3For (vFW d n) (fwL d n)).length ≤ 1000000000 := by
  rcases hv : vFW d n with _ | _
  · simp [t3For]
  · have := fwL_len (d := d) (vFW_in hv).2.2
    rw [t3For_true]
    omega
theorem implFW_any (d n : Int) (w : World) : Calls Try.prog 53 #[.int .i64 d, .int .i64 n] w (FoRetS w (t3For (vFW d n) (fwL d n)) (vFW d n)) := by
  rcases h0 : good d with _ | _
  · rw [show vFW d n = false from vFW_bad (.inl h0), t3For_false]
    go_enter Try.func53, Try.ntmps53
    go_wp2_with fail
    ((with_reducible refine (are1 d _ _ (by simp)).mono ?_); rintro e w0 ⟨rfl, rfl⟩)
    go_wp2
    go_ret2
    exact ⟨_, rfl, FoLst.empty (by simp) (by first | omega | go_size), (by repeat' (first | (with_reducible exact Below.refl _ _) | (with_reducible assumption) | (with_reducible refine Below.alloc ?_ ?_ _) | (with_reducible refine Below.drew ?_) | (with_reducible refine below_drewN ?_ _) | (with_reducible refine Below.setCell ?_ ?_ _) | go_size))⟩
  · by_cases h1 : n < 1
    · rw [show vFW d n = false from vFW_bad (by omega), t3For_false]
      go_enter Try.func53, Try.ntmps53
      go_wp2_with fail
      ((with_reducible refine (are1 d _ _ (by simp)).mono ?_); rintro e w0 ⟨rfl, rfl⟩)
      go_wp2
      go_ret2
      exact ⟨_, rfl, FoLst.empty (by simp) (by first | omega | go_size), (by repeat' (first | (with_reducible exact Below.refl _ _) | (with_reducible assumption) | (with_reducible refine Below.alloc ?_ ?_ _) | (with_reducible refine Below.drew ?_) | (with_reducible refine below_drewN ?_ _) | (with_reducible refine Below.setCell ?_ ?_ _) | go_size))⟩
    · by_cases h2 : 2500 < n
      · rw [show vFW d n = false from vFW_bad (by omega), t3For_false]
        go_enter Try.func53, Try.ntmps53
        go_wp2_with fail
        ((with_reducible refine (are1 d _ _ (by simp)).mono ?_); rintro e w0 ⟨rfl, rfl⟩)
        go_wp2
        go_ret2
        exact ⟨_, rfl, FoLst.empty (by simp) (by first | omega | go_size), (by repeat' (first | (with_reducible exact Below.refl _ _) | (with_reducible assumption) | (with_reducible refine Below.alloc ?_ ?_ _) | (with_reducible refine Below.drew ?_) | (with_reducible refine below_drewN ?_ _) | (with_reducible refine Below.setCell ?_ ?_ _) | go_size))⟩
      · have hd := good_iff.1 h0
        rw [vFW_ok h0 (by omega) (by omega), t3For_true]
        go_enter Try.func53, Try.ntmps53
        go_wp2_with fail
        ((with_reducible refine (are1 d _ _ (by simp)).mono ?_); rintro e w0 ⟨rfl, rfl⟩)
        go_wp2_with fail
        refine (formsWith_yes d n _ h0 (by omega) (by omega)).mono ?_
        rintro e w1 ⟨v1, rfl, l1, b1⟩
        go_wp2
        go_ret2
        exact ⟨_, rfl, l1.base (by first | exact Nat.le_refl _ | (simp; done) | (simp; omega)), Below.trans ((by repeat' (first | (with_reducible exact Below.refl _ _) | (with_reducible assumption) | (with_reducible refine Below.alloc ?_ ?_ _) | (with_reducible refine Below.drew ?_) | (with_reducible refine below_drewN ?_ _) | (with_reducible refine Below.setCell ?_ ?_ _) | go_size))) (b1.mono (by first | exact Nat.le_refl _ | (simp; done) | (simp; omega)))⟩
end Go.Proofs.Ytfpedehpmgcmnaa
