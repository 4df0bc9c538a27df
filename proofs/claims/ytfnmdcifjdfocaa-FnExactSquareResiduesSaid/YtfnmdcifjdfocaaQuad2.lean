/-
  'QuadraticRoots': its contracts and its law's walk.
-/
import Derived.Test.YtfnmdcifjdfocaaQuad
import Derived.Test.YtfnmdcifjdfocaaFrame
namespace Go.Proofs.Ytfnmdcifjdfocaa
open Go.RowKit
set_option linter.unusedSimpArgs false
set_option linter.unusedVariables false

def vQR (a b c m : Int) : Bool := (good a && (good b && good c)) && inB 1 10000 m
theorem vQR_bad {a b c m : Int} (h : good a = false ∨ good b = false ∨ good c = false ∨ m < 1 ∨ 10000 < m) : vQR a b c m = false := by
  unfold vQR
  rcases h with h | h | h | h | h
  · simp [h]
  · simp [h]
  · simp [h]
  · rw [inB_bad.2 (.inl h)]; simp
  · rw [inB_bad.2 (.inr h)]; simp
theorem vQR_ok {a b c m : Int} (ha : good a = true) (hb : good b = true) (hc : good c = true) (m1 : 1 ≤ m) (m2 : m ≤ 10000) : vQR a b c m = true := by
  unfold vQR
  rw [inB_iff.2 ⟨m1, m2⟩]
  simp [ha, hb, hc]
theorem vQR_in {a b c m : Int} (h : vQR a b c m = true) : 1 ≤ m ∧ m ≤ 10000 := by
  unfold vQR at h
  simp only [Bool.and_eq_true] at h
  exact inB_iff.1 h.2

theorem qr_len (F : Nat → Bool) (V : Bool) (m : Int) (h : V = true → m ≤ 10000) : (lFor V (qrs F m.toNat)).length ≤ 1000000000 := by
  rcases hv : V with _ | _
  · simp [lFor]
  · have := qrs_le F m.toNat
    have := h hv
    rw [lFor_true]
    omega

theorem specQR_any (a b c m : Int) (w : World)  : Calls Try.prog 22 #[.int .i64 a, .int .i64 b, .int .i64 c, .int .i64 m] w (RetS w (lFor (vQR a b c m) (qrs (qF a b c m) m.toNat)) (vQR a b c m)) := by
  rcases h0 : good a with _ | _
  · rw [show vQR a b c m = false from vQR_bad (.inl h0), lFor_false]
    go_enter Try.func22, Try.ntmps22
    go_wp2_with fail
    ((with_reducible refine (nuGood_any a _).mono ?_); rintro e w0 ⟨rfl, rfl⟩)
    go_wp2
    go_ret2
    exact ⟨_, rfl, Lst.nil _ _, (by repeat' (first | (with_reducible exact Below.refl _ _) | (with_reducible assumption) | (with_reducible refine Below.alloc ?_ ?_ _) | (with_reducible refine Below.drew ?_) | (with_reducible refine below_drewN ?_ _) | (with_reducible refine Below.setCell ?_ ?_ _) | go_size))⟩
  · rcases h1 : good b with _ | _
    · rw [show vQR a b c m = false from vQR_bad (.inr (.inl h1)), lFor_false]
      go_enter Try.func22, Try.ntmps22
      go_wp2_with fail
      ((with_reducible refine (nuGood_any a _).mono ?_); rintro e w0 ⟨rfl, rfl⟩)
      go_wp2_with fail
      ((with_reducible refine (nuGood_any b _).mono ?_); rintro e w0 ⟨rfl, rfl⟩)
      go_wp2
      go_ret2
      exact ⟨_, rfl, Lst.nil _ _, (by repeat' (first | (with_reducible exact Below.refl _ _) | (with_reducible assumption) | (with_reducible refine Below.alloc ?_ ?_ _) | (with_reducible refine Below.drew ?_) | (with_reducible refine below_drewN ?_ _) | (with_reducible refine Below.setCell ?_ ?_ _) | go_size))⟩
    · rcases h2 : good c with _ | _
      · rw [show vQR a b c m = false from vQR_bad (.inr (.inr (.inl h2))), lFor_false]
        go_enter Try.func22, Try.ntmps22
        go_wp2_with fail
        ((with_reducible refine (nuGood_any a _).mono ?_); rintro e w0 ⟨rfl, rfl⟩)
        go_wp2_with fail
        ((with_reducible refine (nuGood_any b _).mono ?_); rintro e w0 ⟨rfl, rfl⟩)
        go_wp2_with fail
        ((with_reducible refine (nuGood_any c _).mono ?_); rintro e w0 ⟨rfl, rfl⟩)
        go_wp2
        go_ret2
        exact ⟨_, rfl, Lst.nil _ _, (by repeat' (first | (with_reducible exact Below.refl _ _) | (with_reducible assumption) | (with_reducible refine Below.alloc ?_ ?_ _) | (with_reducible refine Below.drew ?_) | (with_reducible refine below_drewN ?_ _) | (with_reducible refine Below.setCell ?_ ?_ _) | go_size))⟩
      · rcases h3 : inB 1 10000 m with _ | _
        · rw [show vQR a b c m = false from vQR_bad (.inr (.inr (.inr (inB_bad.1 h3)))), lFor_false]
          go_enter Try.func22, Try.ntmps22
          go_wp2_with fail
          ((with_reducible refine (nuGood_any a _).mono ?_); rintro e w0 ⟨rfl, rfl⟩)
          go_wp2_with fail
          ((with_reducible refine (nuGood_any b _).mono ?_); rintro e w0 ⟨rfl, rfl⟩)
          go_wp2_with fail
          ((with_reducible refine (nuGood_any c _).mono ?_); rintro e w0 ⟨rfl, rfl⟩)
          go_wp2_with fail
          ((with_reducible refine (l1In_any _ _ _ _).mono ?_); rintro e w0 ⟨rfl, rfl⟩)
          go_wp2
          go_ret2
          exact ⟨_, rfl, Lst.nil _ _, (by repeat' (first | (with_reducible exact Below.refl _ _) | (with_reducible assumption) | (with_reducible refine Below.alloc ?_ ?_ _) | (with_reducible refine Below.drew ?_) | (with_reducible refine below_drewN ?_ _) | (with_reducible refine Below.setCell ?_ ?_ _) | go_size))⟩
        · have hm := inB_iff.1 h3
          rw [vQR_ok h0 h1 h2 hm.1 hm.2, lFor_true]
          exact specQR_yes a b c m w h0 h1 h2 hm.1 hm.2

theorem implQR_any (a b c m : Int) (w : World)  : Calls Try.prog 23 #[.int .i64 a, .int .i64 b, .int .i64 c, .int .i64 m] w (RetS w (lFor (vQR a b c m) (qrs (qF a b c m) m.toNat)) (vQR a b c m)) := by
  rcases h0 : good a with _ | _
  · rw [show vQR a b c m = false from vQR_bad (.inl h0), lFor_false]
    go_enter Try.func23, Try.ntmps23
    go_wp2_with fail
    ((with_reducible refine (are3 a b c _ _ (by simp) (by simp) (by simp)).mono ?_); rintro e w0 ⟨rfl, rfl⟩)
    go_wp2
    go_ret2
    exact ⟨_, rfl, Lst.empty' (by simp) (by omega), (by repeat' (first | (with_reducible exact Below.refl _ _) | (with_reducible assumption) | (with_reducible refine Below.alloc ?_ ?_ _) | (with_reducible refine Below.drew ?_) | (with_reducible refine below_drewN ?_ _) | (with_reducible refine Below.setCell ?_ ?_ _) | go_size))⟩
  · rcases h1 : good b with _ | _
    · rw [show vQR a b c m = false from vQR_bad (.inr (.inl h1)), lFor_false]
      go_enter Try.func23, Try.ntmps23
      go_wp2_with fail
      ((with_reducible refine (are3 a b c _ _ (by simp) (by simp) (by simp)).mono ?_); rintro e w0 ⟨rfl, rfl⟩)
      go_wp2
      go_ret2
      exact ⟨_, rfl, Lst.empty' (by simp) (by omega), (by repeat' (first | (with_reducible exact Below.refl _ _) | (with_reducible assumption) | (with_reducible refine Below.alloc ?_ ?_ _) | (with_reducible refine Below.drew ?_) | (with_reducible refine below_drewN ?_ _) | (with_reducible refine Below.setCell ?_ ?_ _) | go_size))⟩
    · rcases h2 : good c with _ | _
      · rw [show vQR a b c m = false from vQR_bad (.inr (.inr (.inl h2))), lFor_false]
        go_enter Try.func23, Try.ntmps23
        go_wp2_with fail
        ((with_reducible refine (are3 a b c _ _ (by simp) (by simp) (by simp)).mono ?_); rintro e w0 ⟨rfl, rfl⟩)
        go_wp2
        go_ret2
        exact ⟨_, rfl, Lst.empty' (by simp) (by omega), (by repeat' (first | (with_reducible exact Below.refl _ _) | (with_reducible assumption) | (with_reducible refine Below.alloc ?_ ?_ _) | (with_reducible refine Below.drew ?_) | (with_reducible refine below_drewN ?_ _) | (with_reducible refine Below.setCell ?_ ?_ _) | go_size))⟩
      · by_cases h3 : m < 1
        · rw [show vQR a b c m = false from vQR_bad (.inr (.inr (.inr (.inl h3)))), lFor_false]
          go_enter Try.func23, Try.ntmps23
          go_wp2_with fail
          ((with_reducible refine (are3 a b c _ _ (by simp) (by simp) (by simp)).mono ?_); rintro e w0 ⟨rfl, rfl⟩)
          go_wp2
          go_ret2
          exact ⟨_, rfl, Lst.empty' (by simp) (by omega), (by repeat' (first | (with_reducible exact Below.refl _ _) | (with_reducible assumption) | (with_reducible refine Below.alloc ?_ ?_ _) | (with_reducible refine Below.drew ?_) | (with_reducible refine below_drewN ?_ _) | (with_reducible refine Below.setCell ?_ ?_ _) | go_size))⟩
        · by_cases h4 : 10000 < m
          · rw [show vQR a b c m = false from vQR_bad (.inr (.inr (.inr (.inr h4)))), lFor_false]
            go_enter Try.func23, Try.ntmps23
            go_wp2_with fail
            ((with_reducible refine (are3 a b c _ _ (by simp) (by simp) (by simp)).mono ?_); rintro e w0 ⟨rfl, rfl⟩)
            go_wp2
            go_ret2
            exact ⟨_, rfl, Lst.empty' (by simp) (by omega), (by repeat' (first | (with_reducible exact Below.refl _ _) | (with_reducible assumption) | (with_reducible refine Below.alloc ?_ ?_ _) | (with_reducible refine Below.drew ?_) | (with_reducible refine below_drewN ?_ _) | (with_reducible refine Below.setCell ?_ ?_ _) | go_size))⟩
          · rw [vQR_ok h0 h1 h2 (by omega) (by omega), lFor_true]
            exact implQR_yes a b c m w h0 h1 h2 (by omega) (by omega)

theorem law_FnExactQuadraticRoots (a b c m : Int) (w : World) (h_a : In64 a) (h_b : In64 b) (h_c : In64 c) (h_m : In64 m) : Calls Try.prog 5 #[.int .i64 a, .int .i64 b, .int .i64 c, .int .i64 m] w fun e w' => e = .returned (.bool true) ∧ Below w.heap.size w w' := by
  have hlen := qr_len (qF a b c m) (vQR a b c m) m (fun h => (vQR_in h).2)
  have HL := Lib.hid hlen
  clear hlen
  go_enter Try.func5, Try.ntmps5
  go_wp2_with fail
  refine (specQR_any a b c m w).mono ?_
  rintro e w1 ⟨v1, rfl, l1, b1⟩
  go_wp2_with fail
  refine (implQR_any a b c m w1).mono ?_
  rintro e w2 ⟨v2, rfl, l2, b2⟩
  have l1' := l1.below (Nat.le_refl _) b2
  go_wp2_with fail
  refine (eqIntS_same _ _ _ _ HL.out l2 l1').mono ?_
  rintro e w0 ⟨rfl, k3, rfl⟩
  go_wp2_with fail
  refine (markIntS_any _ _ _ HL.out (l2.drewN k3)).mono ?_
  rintro e w4 ⟨rfl, l4, g4⟩
  obtain ⟨l1'', bl4⟩ := after_mark b1 l1 b2 l2 g4
  clear l1' g4 l1 l2 b1 b2
  go_wp2_with fail
  refine (heldIntS_any _ _ _ HL.out l4).mono ?_
  rintro e w0 ⟨rfl, rfl⟩
  go_wp2_with fail
  refine (implQR_any a b c m w4).mono ?_
  rintro e w6 ⟨v6, rfl, l6, b6⟩
  have l1' := l1''.below (Nat.le_refl _) b6
  have l4' := l4.below (Nat.le_refl _) b6
  have bl6 := bl4.trans (b6.mono bl4.size)
  clear l1'' l4 b6 bl4
  go_wp2_with fail
  refine (eqIntS_same _ _ _ _ HL.out l6 l1').mono ?_
  rintro e w0 ⟨rfl, k7, rfl⟩
  go_wp2_with fail
  refine (heldIntS_any _ _ _ HL.out (l4'.drewN k7)).mono ?_
  rintro e w0 ⟨rfl, rfl⟩
  go_wp2
  go_ret
  exact ⟨rfl, below_drewN bl6 k7⟩
end Go.Proofs.Ytfnmdcifjdfocaa
