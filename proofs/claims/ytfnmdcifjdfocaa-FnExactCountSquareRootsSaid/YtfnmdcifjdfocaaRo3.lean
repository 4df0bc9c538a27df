/-
  'SquareRootsModulo', 'CountSquareRoots': contracts and walks of the laws.
-/
import Derived.Test.YtfnmdcifjdfocaaRo
import Derived.Test.YtfnmdcifjdfocaaQuad2
import Derived.Test.YtfnmdcifjdfocaaForm
import Derived.Test.YtfnmdcifjdfocaaFrame
namespace Go.Proofs.Ytfnmdcifjdfocaa
open Go.RowKit
set_option linter.unusedSimpArgs false
set_option linter.unusedVariables false

def vSM (a m : Int) : Bool := good a && inB 1 10000 m
theorem vSM_bad {a m : Int} (h : good a = false ∨ m < 1 ∨ 10000 < m) : vSM a m = false := by
  unfold vSM
  rcases h with h | h | h
  · simp [h]
  · rw [inB_bad.2 (.inl h)]; simp
  · rw [inB_bad.2 (.inr h)]; simp
theorem vSM_ok {a m : Int} (hd : good a = true) (m1 : 1 ≤ m) (m2 : m ≤ 10000) : vSM a m = true := by
  unfold vSM
  rw [inB_iff.2 ⟨m1, m2⟩]
  simp [hd]
theorem vSM_in {a m : Int} (h : vSM a m = true) : 1 ≤ m ∧ m ≤ 10000 := by
  unfold vSM at h
  simp only [Bool.and_eq_true] at h
  exact inB_iff.1 h.2
/-- The polynomial x*x - a, as the program asks for it. -/
theorem neg_wrap {a m : Int} (hi : In64 a) : vQR 1 0 (wrap64 (-a)) m = vSM a m ∧ lFor (vSM a m) (qrs (qF 1 0 (wrap64 (-a)) m) m.toNat) = lFor (vSM a m) (qrs (rF a m) m.toNat) := by
  obtain ⟨i1, i2⟩ := hi
  by_cases h0 : a = -9223372036854775808
  · subst h0
    have e1 : good (wrap64 (-(-9223372036854775808))) = false := bad_of (.inl (by unfold wrap64; omega))
    have e2 : good (-9223372036854775808) = false := bad_of (.inl (by omega))
    have e3 : vSM (-9223372036854775808) m = false := by simp [vSM, e2]
    rw [e3]
    exact ⟨vQR_bad (.inr (.inr (.inl e1))), by rw [lFor_false, lFor_false]⟩
  · have e0 : wrap64 (-a) = -a := by unfold wrap64; omega
    rw [e0]
    have e1 : good (-a) = good a := by
      rcases h : good a with _ | _
      · have := bad_iff.1 h
        exact bad_of (by omega)
      · have := good_iff.1 h
        exact good_of (by omega) (by omega)
    refine ⟨?_, ?_⟩
    · simp [vQR, vSM, e1, show good 1 = true from by decide, show good 0 = true from by decide]
    · congr 1
      refine qrs_congr _ fun x _ => ?_
      unfold qF rF
      congr 1
      rw [Int.one_mul, Int.zero_mul, Int.add_zero]
      rfl

theorem Lst.len {w : World} {base : Nat} {v : Value} {L : List Int} (h : Lst w base v L) : ∃ A c, v = .slice A L.length c := by
  rcases h.shape with ⟨rfl, rfl⟩ | ⟨g, c, rfl, _⟩
  · exact ⟨_, _, rfl⟩
  · exact ⟨_, _, rfl⟩

theorem specSM_any (a m : Int) (w : World) : Calls Try.prog 26 #[.int .i64 a, .int .i64 m] w (RetS w (lFor (vSM a m) (qrs (rF a m) m.toNat)) (vSM a m)) := by
  rcases h0 : good a with _ | _
  · rw [show vSM a m = false from vSM_bad (.inl h0), lFor_false]
    go_enter Try.func26, Try.ntmps26
    go_wp2_with fail
    ((with_reducible refine (nuGood_any a _).mono ?_); rintro e w0 ⟨rfl, rfl⟩)
    go_wp2
    go_ret2
    exact ⟨_, rfl, Lst.nil _ _, (by repeat' (first | (with_reducible exact Below.refl _ _) | (with_reducible assumption) | (with_reducible refine Below.alloc ?_ ?_ _) | (with_reducible refine Below.drew ?_) | (with_reducible refine below_drewN ?_ _) | (with_reducible refine Below.setCell ?_ ?_ _) | go_size))⟩
  · rcases h1 : inB 1 10000 m with _ | _
    · rw [show vSM a m = false from vSM_bad (.inr (inB_bad.1 h1)), lFor_false]
      go_enter Try.func26, Try.ntmps26
      go_wp2_with fail
      ((with_reducible refine (nuGood_any a _).mono ?_); rintro e w0 ⟨rfl, rfl⟩)
      go_wp2_with fail
      ((with_reducible refine (l1In_any _ _ _ _).mono ?_); rintro e w0 ⟨rfl, rfl⟩)
      go_wp2
      go_ret2
      exact ⟨_, rfl, Lst.nil _ _, (by repeat' (first | (with_reducible exact Below.refl _ _) | (with_reducible assumption) | (with_reducible refine Below.alloc ?_ ?_ _) | (with_reducible refine Below.drew ?_) | (with_reducible refine below_drewN ?_ _) | (with_reducible refine Below.setCell ?_ ?_ _) | go_size))⟩
    · have hm := inB_iff.1 h1
      rw [vSM_ok h0 hm.1 hm.2, lFor_true]
      go_enter Try.func26, Try.ntmps26
      go_wp2_with fail
      ((with_reducible refine (nuGood_any a _).mono ?_); rintro e w0 ⟨rfl, rfl⟩)
      go_wp2_with fail
      ((with_reducible refine (l1In_any _ _ _ _).mono ?_); rintro e w0 ⟨rfl, rfl⟩)
      go_wp2_with fail
      refine (roAll_yes a m _ h0 hm.1 hm.2).mono ?_
      rintro e w1 ⟨v1, rfl, l1, b1⟩
      go_wp2
      go_ret2
      exact ⟨_, rfl, l1.base (by first | exact Nat.le_refl _ | (simp; done) | (simp; omega)), Below.trans ((by repeat' (first | (with_reducible exact Below.refl _ _) | (with_reducible assumption) | (with_reducible refine Below.alloc ?_ ?_ _) | (with_reducible refine Below.drew ?_) | (with_reducible refine below_drewN ?_ _) | (with_reducible refine Below.setCell ?_ ?_ _) | go_size))) (b1.mono (by first | exact Nat.le_refl _ | (simp; done) | (simp; omega)))⟩

theorem implSM_any (a m : Int) (w : World) (hi : In64 a) : Calls Try.prog 27 #[.int .i64 a, .int .i64 m] w (RetS w (lFor (vSM a m) (qrs (rF a m) m.toNat)) (vSM a m)) := by
  obtain ⟨h1, h2⟩ := neg_wrap (m := m) hi
  have HQ : Calls Try.prog 23 #[.int .i64 1, .int .i64 0, .int .i64 (wrap64 (-a)), .int .i64 m] w (RetS w (lFor (vSM a m) (qrs (rF a m) m.toNat)) (vSM a m)) := by
    have h := implQR_any 1 0 (wrap64 (-a)) m w
    rw [h1, h2] at h
    exact h
  have HQ' := Lib.hid HQ
  clear HQ h1 h2
  go_enter Try.func27, Try.ntmps27
  go_wp2_with fail
  refine HQ'.out.mono ?_
  rintro e w1 ⟨v1, rfl, l1, b1⟩
  go_wp2
  go_ret2
  exact ⟨_, rfl, l1, b1⟩

theorem specCS_any (a m : Int) (w : World) : Calls Try.prog 15 #[.int .i64 a, .int .i64 m] w (fun e w' => e = .returned (.tuple #[.int .i64 ((lFor (vSM a m) (qrs (rF a m) m.toNat)).length : Int), .bool (vSM a m)]) ∧ Below w.heap.size w w') := by
  rcases h0 : good a with _ | _
  · rw [vSM_bad (.inl h0), lFor_false]
    go_enter Try.func15, Try.ntmps15
    go_wp2_with fail
    ((with_reducible refine (nuGood_any a _).mono ?_); rintro e w0 ⟨rfl, rfl⟩)
    go_wp2
    go_ret2
    exact ⟨rfl, (by repeat' (first | (with_reducible exact Below.refl _ _) | (with_reducible assumption) | (with_reducible refine Below.alloc ?_ ?_ _) | (with_reducible refine Below.drew ?_) | (with_reducible refine below_drewN ?_ _) | (with_reducible refine Below.setCell ?_ ?_ _) | go_size))⟩
  · rcases h1 : inB 1 10000 m with _ | _
    · rw [vSM_bad (.inr (inB_bad.1 h1)), lFor_false]
      go_enter Try.func15, Try.ntmps15
      go_wp2_with fail
      ((with_reducible refine (nuGood_any a _).mono ?_); rintro e w0 ⟨rfl, rfl⟩)
      go_wp2_with fail
      ((with_reducible refine (l1In_any _ _ _ _).mono ?_); rintro e w0 ⟨rfl, rfl⟩)
      go_wp2
      go_ret2
      exact ⟨rfl, (by repeat' (first | (with_reducible exact Below.refl _ _) | (with_reducible assumption) | (with_reducible refine Below.alloc ?_ ?_ _) | (with_reducible refine Below.drew ?_) | (with_reducible refine below_drewN ?_ _) | (with_reducible refine Below.setCell ?_ ?_ _) | go_size))⟩
    · have hm := inB_iff.1 h1
      rw [vSM_ok h0 hm.1 hm.2, lFor_true]
      go_enter Try.func15, Try.ntmps15
      go_wp2_with fail
      ((with_reducible refine (nuGood_any a _).mono ?_); rintro e w0 ⟨rfl, rfl⟩)
      go_wp2_with fail
      ((with_reducible refine (l1In_any _ _ _ _).mono ?_); rintro e w0 ⟨rfl, rfl⟩)
      go_wp2_with fail
      refine (roAll_yes a m _ h0 hm.1 hm.2).mono ?_
      rintro e w1 ⟨v1, rfl, l1, b1⟩
      obtain ⟨A, c, rfl⟩ : ∃ A c, v1 = .slice A (qrs (rF a m) m.toNat).length c := l1.len
      go_wp2
      go_ret2
      exact ⟨rfl, b1⟩
theorem implCS_any (a m : Int) (w : World) (hi : In64 a) : Calls Try.prog 16 #[.int .i64 a, .int .i64 m] w (fun e w' => e = .returned (.tuple #[.int .i64 ((lFor (vSM a m) (qrs (rF a m) m.toNat)).length : Int), .bool (vSM a m)]) ∧ Below w.heap.size w w') := by
  go_enter Try.func16, Try.ntmps16
  go_wp2_with fail
  refine (implSM_any a m _ hi).mono ?_
  rintro e w1 ⟨v1, rfl, l1, b1⟩
  obtain ⟨A, c, rfl⟩ : ∃ A c, v1 = .slice A (lFor (vSM a m) (qrs (rF a m) m.toNat)).length c := l1.len
  go_wp2
  go_ret2
  exact ⟨rfl, b1⟩

theorem law_FnExactSquareRootsModulo (a m : Int) (w : World) (h_a : In64 a) (h_m : In64 m) : Calls Try.prog 7 #[.int .i64 a, .int .i64 m] w fun e w' => e = .returned (.bool true) ∧ Below w.heap.size w w' := by
  have hlen := qr_len (rF a m) (vSM a m) m (fun h => (vSM_in h).2)
  have HL := Lib.hid hlen
  clear hlen
  go_enter Try.func7, Try.ntmps7
  go_wp2_with fail
  refine (specSM_any a m w).mono ?_
  rintro e w1 ⟨v1, rfl, l1, b1⟩
  go_wp2_with fail
  refine (implSM_any a m w1 h_a).mono ?_
  rintro e w2 ⟨v2, rfl, l2, b2⟩
  have l1' := l1.below (Nat.le_refl _) b2
  go_wp2_with fail
  refine (eqIntS_same _ _ _ _ HL.out l2 l1').mono ?_
  rintro e w0 ⟨rfl, k3, rfl⟩
  go_wp2_with fail
  refine (markIntS_any _ _ _ HL.out (l2.drewN k3)).mono ?_
  rintro e w4 ⟨rfl, l4, g4⟩
  obtain ⟨l1'', bl4⟩ := after_mark b1 l1 b2 l2 g4
  clear l1' g4 l1 l2 b1 b2
  go_wp2_with fail
  refine (heldIntS_any _ _ _ HL.out l4).mono ?_
  rintro e w0 ⟨rfl, rfl⟩
  go_wp2_with fail
  refine (implSM_any a m w4 h_a).mono ?_
  rintro e w6 ⟨v6, rfl, l6, b6⟩
  have l1' := l1''.below (Nat.le_refl _) b6
  have l4' := l4.below (Nat.le_refl _) b6
  have bl6 := bl4.trans (b6.mono bl4.size)
  clear l1'' l4 b6 bl4
  go_wp2_with fail
  refine (eqIntS_same _ _ _ _ HL.out l6 l1').mono ?_
  rintro e w0 ⟨rfl, k7, rfl⟩
  go_wp2_with fail
  refine (heldIntS_any _ _ _ HL.out (l4'.drewN k7)).mono ?_
  rintro e w0 ⟨rfl, rfl⟩
  go_wp2
  go_ret
  exact ⟨rfl, below_drewN bl6 k7⟩

theorem law_FnExactCountSquareRoots (a m : Int) (w : World) (ia : In64 a) (_ : In64 m) : Calls Try.prog 3 #[.int .i64 a, .int .i64 m] w fun e w' => e = .returned (.bool true) ∧ Below w.heap.size w w' := by
  go_enter Try.func3, Try.ntmps3
  go_wp2_with fail
  ((with_reducible refine (specCS_any _ _ _).mono ?_); rintro e w1 ⟨rfl, hb1⟩)
  obtain ⟨hc1, hf1⟩ := bcell hb1
  have hz1 := hb1.size
  try simp only [World.size_alloc, World.size_drew, World.size_setCell] at hz1
  try have hs1 : w.heap.size < w1.heap.size := by omega
  have bl1 : Below w.heap.size w w1 := Below.trans (by go_grown) (hb1.mono (by go_size))
  go_wp2_with fail
  ((with_reducible refine (implCS_any _ _ _ ia).mono ?_); rintro e w2 ⟨rfl, hb2⟩)
  obtain ⟨hc2, hf2⟩ := bcell hb2
  have hz2 := hb2.size
  try simp only [World.size_alloc, World.size_drew, World.size_setCell] at hz2
  try have hs2 : w.heap.size < w2.heap.size := by omega
  have bl2 : Below w.heap.size w w2 := Below.trans (by go_grown) (hb2.mono (by go_size))
  go_wp2
  go_ret
  exact ⟨rfl, bl2⟩
end Go.Proofs.Ytfnmdcifjdfocaa
