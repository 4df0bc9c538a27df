/-
  'EuclidRemainders': its contracts and its law's walk.
-/
import Derived.Test.YtfnmdcifjdfocaaEu
import Derived.Test.YtfnmdcifjdfocaaFrame
namespace Go.Proofs.Ytfnmdcifjdfocaa
open Go.RowKit
set_option linter.unusedSimpArgs false
set_option linter.unusedVariables false

def vER (m r : Int) : Bool := inB 1 1000000 m && inB 0 m r
theorem vER_bad {m r : Int} (h : m < 1 ∨ 1000000 < m ∨ r < 0 ∨ m < r) : vER m r = false := by
  unfold vER
  rcases h with h | h | h | h
  · rw [inB_bad.2 (.inl h)]; simp
  · rw [inB_bad.2 (.inr h)]; simp
  · rw [inB_bad.2 (.inl h : r < 0 ∨ m < r)]; simp
  · rw [inB_bad.2 (.inr h : r < 0 ∨ m < r)]; simp
theorem vER_ok {m r : Int} (h1 : 1 ≤ m) (h2 : m ≤ 1000000) (h3 : 0 ≤ r) (h4 : r ≤ m) : vER m r = true := by
  unfold vER
  rw [inB_iff.2 ⟨h1, h2⟩, inB_iff.2 ⟨h3, h4⟩]
  rfl
theorem vER_in {m r : Int} (h : vER m r = true) : 1 ≤ m ∧ m ≤ 1000000 ∧ 0 ≤ r ∧ r ≤ m := by
  unfold vER at h
  simp only [Bool.and_eq_true] at h
  have a := inB_iff.1 h.1
  have b := inB_iff.1 h.2
  omega
theorem euc_int {P : Program} {f : FuncId} {m r : Int} {w : World} (h : ∀ (M R : Nat), M ≤ 1000000 → R ≤ 1000000 → Calls P f #[.int .i64 M, .int .i64 R] w (RetL w (ints (M :: eur M R)))) (m1 : 0 ≤ m) (m2 : m ≤ 1000000) (r1 : 0 ≤ r) (r2 : r ≤ 1000000) :
    Calls P f #[.int .i64 m, .int .i64 r] w (RetL w (ints (m.toNat :: eur m.toNat r.toNat))) := by
  obtain ⟨M, rfl⟩ : ∃ M : Nat, m = M := ⟨m.toNat, by omega⟩
  obtain ⟨R, rfl⟩ : ∃ R : Nat, r = R := ⟨r.toNat, by omega⟩
  exact h M R (by omega) (by omega)
theorem er_len (m r : Int) : (lFor (vER m r) (ints (m.toNat :: eur m.toNat r.toNat))).length ≤ 1000000000 := by
  rcases hv : vER m r with _ | _
  · simp [lFor]
  · have := eur_len r.toNat m.toNat
    have := vER_in hv
    rw [lFor_true, ints_length]
    simp only [List.length_cons]
    omega

theorem specER_any (m r : Int) (w : World) : Calls Try.prog 24 #[.int .i64 m, .int .i64 r] w (RetS w (lFor (vER m r) (ints (m.toNat :: eur m.toNat r.toNat))) (vER m r)) := by
  rcases h0 : inB 1 1000000 m with _ | _
  · rw [show vER m r = false from vER_bad (by have := inB_bad.1 h0; omega), lFor_false]
    go_enter Try.func24, Try.ntmps24
    go_wp2_with fail
    ((with_reducible refine (l1In_any _ _ _ _).mono ?_); rintro e w0 ⟨rfl, rfl⟩)
    go_wp2
    go_ret2
    exact ⟨_, rfl, Lst.nil _ _, (by repeat' (first | (with_reducible exact Below.refl _ _) | (with_reducible assumption) | (with_reducible refine Below.alloc ?_ ?_ _) | (with_reducible refine Below.drew ?_) | (with_reducible refine below_drewN ?_ _) | (with_reducible refine Below.setCell ?_ ?_ _) | go_size))⟩
  · rcases h1 : inB 0 m r with _ | _
    · rw [show vER m r = false from vER_bad (by have := inB_bad.1 h1; omega), lFor_false]
      go_enter Try.func24, Try.ntmps24
      go_wp2_with fail
      ((with_reducible refine (l1In_any _ _ _ _).mono ?_); rintro e w0 ⟨rfl, rfl⟩)
      go_wp2_with fail
      ((with_reducible refine (l1In_any _ _ _ _).mono ?_); rintro e w0 ⟨rfl, rfl⟩)
      go_wp2
      go_ret2
      exact ⟨_, rfl, Lst.nil _ _, (by repeat' (first | (with_reducible exact Below.refl _ _) | (with_reducible assumption) | (with_reducible refine Below.alloc ?_ ?_ _) | (with_reducible refine Below.drew ?_) | (with_reducible refine below_drewN ?_ _) | (with_reducible refine Below.setCell ?_ ?_ _) | go_size))⟩
    · have ha := inB_iff.1 h0
      have hb := inB_iff.1 h1
      rw [vER_ok ha.1 ha.2 hb.1 hb.2, lFor_true]
      go_enter Try.func24, Try.ntmps24
      go_wp2_with fail
      ((with_reducible refine (l1In_any _ _ _ _).mono ?_); rintro e w0 ⟨rfl, rfl⟩)
      go_wp2_with fail
      ((with_reducible refine (l1In_any _ _ _ _).mono ?_); rintro e w0 ⟨rfl, rfl⟩)
      go_wp2_with fail
      refine (euc_int (fun M R hM hR => roEuclid_any M R _ hM hR) (by omega) (by omega) (by omega) (by omega)).mono ?_
      rintro e w1 ⟨v1, rfl, l1, b1⟩
      go_wp2
      go_ret2
      exact ⟨_, rfl, l1.base (by first | exact Nat.le_refl _ | (simp; done) | (simp; omega)), Below.trans ((by repeat' (first | (with_reducible exact Below.refl _ _) | (with_reducible assumption) | (with_reducible refine Below.alloc ?_ ?_ _) | (with_reducible refine Below.drew ?_) | (with_reducible refine below_drewN ?_ _) | (with_reducible refine Below.setCell ?_ ?_ _) | go_size))) (b1.mono (by first | exact Nat.le_refl _ | (simp; done) | (simp; omega)))⟩

theorem implER_any (m r : Int) (w : World) : Calls Try.prog 25 #[.int .i64 m, .int .i64 r] w (RetS w (lFor (vER m r) (ints (m.toNat :: eur m.toNat r.toNat))) (vER m r)) := by
  rcases h0 : good m with _ | _
  · rw [show vER m r = false from vER_bad (by have := bad_iff.1 h0; omega), lFor_false]
    go_enter Try.func25, Try.ntmps25
    go_wp2_with fail
    ((with_reducible refine (are1 m _ _ (by simp)).mono ?_); rintro e w0 ⟨rfl, rfl⟩)
    go_wp2
    go_ret2
    exact ⟨_, rfl, Lst.empty' (by simp) (by omega), (by repeat' (first | (with_reducible exact Below.refl _ _) | (with_reducible assumption) | (with_reducible refine Below.alloc ?_ ?_ _) | (with_reducible refine Below.drew ?_) | (with_reducible refine below_drewN ?_ _) | (with_reducible refine Below.setCell ?_ ?_ _) | go_size))⟩
  · by_cases h1 : m < 1
    · rw [show vER m r = false from vER_bad (by omega), lFor_false]
      go_enter Try.func25, Try.ntmps25
      go_wp2_with fail
      ((with_reducible refine (are1 m _ _ (by simp)).mono ?_); rintro e w0 ⟨rfl, rfl⟩)
      go_wp2
      go_ret2
      exact ⟨_, rfl, Lst.empty' (by simp) (by omega), (by repeat' (first | (with_reducible exact Below.refl _ _) | (with_reducible assumption) | (with_reducible refine Below.alloc ?_ ?_ _) | (with_reducible refine Below.drew ?_) | (with_reducible refine below_drewN ?_ _) | (with_reducible refine Below.setCell ?_ ?_ _) | go_size))⟩
    · by_cases h2 : r < 0
      · rw [show vER m r = false from vER_bad (by omega), lFor_false]
        go_enter Try.func25, Try.ntmps25
        go_wp2_with fail
        ((with_reducible refine (are1 m _ _ (by simp)).mono ?_); rintro e w0 ⟨rfl, rfl⟩)
        go_wp2
        go_ret2
        exact ⟨_, rfl, Lst.empty' (by simp) (by omega), (by repeat' (first | (with_reducible exact Below.refl _ _) | (with_reducible assumption) | (with_reducible refine Below.alloc ?_ ?_ _) | (with_reducible refine Below.drew ?_) | (with_reducible refine below_drewN ?_ _) | (with_reducible refine Below.setCell ?_ ?_ _) | go_size))⟩
      · by_cases h3 : m < r
        · rw [show vER m r = false from vER_bad (by omega), lFor_false]
          go_enter Try.func25, Try.ntmps25
          go_wp2_with fail
          ((with_reducible refine (are1 m _ _ (by simp)).mono ?_); rintro e w0 ⟨rfl, rfl⟩)
          go_wp2
          go_ret2
          exact ⟨_, rfl, Lst.empty' (by simp) (by omega), (by repeat' (first | (with_reducible exact Below.refl _ _) | (with_reducible assumption) | (with_reducible refine Below.alloc ?_ ?_ _) | (with_reducible refine Below.drew ?_) | (with_reducible refine below_drewN ?_ _) | (with_reducible refine Below.setCell ?_ ?_ _) | go_size))⟩
        · have ha := good_iff.1 h0
          rw [vER_ok (by omega) (by omega) (by omega) (by omega), lFor_true]
          go_enter Try.func25, Try.ntmps25
          go_wp2_with fail
          ((with_reducible refine (are1 m _ _ (by simp)).mono ?_); rintro e w0 ⟨rfl, rfl⟩)
          go_wp2_with fail
          refine (euc_int (fun M R hM hR => remainders_any M R _ hM hR) (by omega) (by omega) (by omega) (by omega)).mono ?_
          rintro e w1 ⟨v1, rfl, l1, b1⟩
          go_wp2
          go_ret2
          exact ⟨_, rfl, l1.base (by first | exact Nat.le_refl _ | (simp; done) | (simp; omega)), Below.trans ((by repeat' (first | (with_reducible exact Below.refl _ _) | (with_reducible assumption) | (with_reducible refine Below.alloc ?_ ?_ _) | (with_reducible refine Below.drew ?_) | (with_reducible refine below_drewN ?_ _) | (with_reducible refine Below.setCell ?_ ?_ _) | go_size))) (b1.mono (by first | exact Nat.le_refl _ | (simp; done) | (simp; omega)))⟩

theorem law_FnExactEuclidRemainders (m r : Int) (w : World) (h_m : In64 m) (h_r : In64 r) : Calls Try.prog 6 #[.int .i64 m, .int .i64 r] w fun e w' => e = .returned (.bool true) ∧ Below w.heap.size w w' := by
  have hlen := er_len m r
  have HL := Lib.hid hlen
  clear hlen
  go_enter Try.func6, Try.ntmps6
  go_wp2_with fail
  refine (specER_any m r w).mono ?_
  rintro e w1 ⟨v1, rfl, l1, b1⟩
  go_wp2_with fail
  refine (implER_any m r w1).mono ?_
  rintro e w2 ⟨v2, rfl, l2, b2⟩
  have l1' := l1.below (Nat.le_refl _) b2
  go_wp2_with fail
  refine (eqIntS_same _ _ _ _ HL.out l2 l1').mono ?_
  rintro e w0 ⟨rfl, k3, rfl⟩
  go_wp2_with fail
  refine (markIntS_any _ _ _ HL.out (l2.drewN k3)).mono ?_
  rintro e w4 ⟨rfl, l4, g4⟩
  obtain ⟨l1'', bl4⟩ := after_mark b1 l1 b2 l2 g4
  clear l1' g4 l1 l2 b1 b2
  go_wp2_with fail
  refine (heldIntS_any _ _ _ HL.out l4).mono ?_
  rintro e w0 ⟨rfl, rfl⟩
  go_wp2_with fail
  refine (implER_any m r w4).mono ?_
  rintro e w6 ⟨v6, rfl, l6, b6⟩
  have l1' := l1''.below (Nat.le_refl _) b6
  have l4' := l4.below (Nat.le_refl _) b6
  have bl6 := bl4.trans (b6.mono bl4.size)
  clear l1'' l4 b6 bl4
  go_wp2_with fail
  refine (eqIntS_same _ _ _ _ HL.out l6 l1').mono ?_
  rintro e w0 ⟨rfl, k7, rfl⟩
  go_wp2_with fail
  refine (heldIntS_any _ _ _ HL.out (l4'.drewN k7)).mono ?_
  rintro e w0 ⟨rfl, rfl⟩
  go_wp2
  go_ret
  exact ⟨rfl, below_drewN bl6 k7⟩
end Go.Proofs.Ytfnmdcifjdfocaa
