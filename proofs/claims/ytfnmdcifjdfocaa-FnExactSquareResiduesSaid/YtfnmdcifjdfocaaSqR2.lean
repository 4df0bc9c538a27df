/-
  'SquareResidues': its contracts and its law's walk.
-/
import Derived.Test.YtfnmdcifjdfocaaSqR
import Derived.Test.YtfnmdcifjdfocaaQuad2
import Derived.Test.YtfnmdcifjdfocaaFrame
namespace Go.Proofs.Ytfnmdcifjdfocaa
open Go.RowKit
set_option linter.unusedSimpArgs false
set_option linter.unusedVariables false

theorem specSQ_any (m : Int) (w : World)  : Calls Try.prog 17 #[.int .i64 m] w (RetS w (lFor (inB 1 10000 m) (qrs (sqR m.toNat m.toNat) m.toNat)) (inB 1 10000 m)) := by
  rcases h0 : inB 1 10000 m with _ | _
  · rw [lFor_false]
    go_enter Try.func17, Try.ntmps17
    go_wp2_with fail
    ((with_reducible refine (l1In_any _ _ _ _).mono ?_); rintro e w0 ⟨rfl, rfl⟩)
    go_wp2
    go_ret2
    exact ⟨_, rfl, Lst.nil _ _, (by repeat' (first | (with_reducible exact Below.refl _ _) | (with_reducible assumption) | (with_reducible refine Below.alloc ?_ ?_ _) | (with_reducible refine Below.drew ?_) | (with_reducible refine below_drewN ?_ _) | (with_reducible refine Below.setCell ?_ ?_ _) | go_size))⟩
  · have hm := inB_iff.1 h0
    rw [lFor_true]
    obtain ⟨M, rfl⟩ : ∃ M : Nat, m = M := ⟨m.toNat, by omega⟩
    exact specSQ_yes M w (by omega) (by omega)

theorem implSQ_any (m : Int) (w : World) : Calls Try.prog 18 #[.int .i64 m] w (RetS w (lFor (inB 1 10000 m) (qrs (sqR m.toNat m.toNat) m.toNat)) (inB 1 10000 m)) := by
  rcases h0 : inB 1 10000 m with _ | _
  · rw [lFor_false]
    have hb := inB_bad.1 h0
    clear h0
    by_cases h1 : m < 1
    · go_enter Try.func18, Try.ntmps18
      go_wp2
      go_ret2
      exact ⟨_, rfl, Lst.empty' (by simp) (by omega), (by repeat' (first | (with_reducible exact Below.refl _ _) | (with_reducible assumption) | (with_reducible refine Below.alloc ?_ ?_ _) | (with_reducible refine Below.drew ?_) | (with_reducible refine below_drewN ?_ _) | (with_reducible refine Below.setCell ?_ ?_ _) | go_size))⟩
    · have h2 : 10000 < m := by omega
      clear hb
      go_enter Try.func18, Try.ntmps18
      go_wp2
      go_ret2
      exact ⟨_, rfl, Lst.empty' (by simp) (by omega), (by repeat' (first | (with_reducible exact Below.refl _ _) | (with_reducible assumption) | (with_reducible refine Below.alloc ?_ ?_ _) | (with_reducible refine Below.drew ?_) | (with_reducible refine below_drewN ?_ _) | (with_reducible refine Below.setCell ?_ ?_ _) | go_size))⟩
  · have hm := inB_iff.1 h0
    rw [lFor_true]
    obtain ⟨M, rfl⟩ : ∃ M : Nat, m = M := ⟨m.toNat, by omega⟩
    exact implSQ_yes M w (by omega) (by omega)

theorem law_FnExactSquareResidues (m : Int) (w : World) (h_m : In64 m) : Calls Try.prog 4 #[.int .i64 m] w fun e w' => e = .returned (.bool true) ∧ Below w.heap.size w w' := by
  have hlen := qr_len (sqR m.toNat m.toNat) (inB 1 10000 m) m (fun h => (inB_iff.1 h).2)
  have HL := Lib.hid hlen
  clear hlen
  go_enter Try.func4, Try.ntmps4
  go_wp2_with fail
  refine (specSQ_any m w).mono ?_
  rintro e w1 ⟨v1, rfl, l1, b1⟩
  go_wp2_with fail
  refine (implSQ_any m w1).mono ?_
  rintro e w2 ⟨v2, rfl, l2, b2⟩
  have l1' := l1.below (Nat.le_refl _) b2
  go_wp2_with fail
  refine (eqIntS_same _ _ _ _ HL.out l2 l1').mono ?_
  rintro e w0 ⟨rfl, k3, rfl⟩
  go_wp2_with fail
  refine (markIntS_any _ _ _ HL.out (l2.drewN k3)).mono ?_
  rintro e w4 ⟨rfl, l4, g4⟩
  obtain ⟨l1'', bl4⟩ := after_mark b1 l1 b2 l2 g4
  clear l1' g4 l1 l2 b1 b2
  go_wp2_with fail
  refine (heldIntS_any _ _ _ HL.out l4).mono ?_
  rintro e w0 ⟨rfl, rfl⟩
  go_wp2_with fail
  refine (implSQ_any m w4).mono ?_
  rintro e w6 ⟨v6, rfl, l6, b6⟩
  have l1' := l1''.below (Nat.le_refl _) b6
  have l4' := l4.below (Nat.le_refl _) b6
  have bl6 := bl4.trans (b6.mono bl4.size)
  clear l1'' l4 b6 bl4
  go_wp2_with fail
  refine (eqIntS_same _ _ _ _ HL.out l6 l1').mono ?_
  rintro e w0 ⟨rfl, k7, rfl⟩
  go_wp2_with fail
  refine (heldIntS_any _ _ _ HL.out (l4'.drewN k7)).mono ?_
  rintro e w0 ⟨rfl, rfl⟩
  go_wp2
  go_ret
  exact ⟨rfl, below_drewN bl6 k7⟩
end Go.Proofs.Ytfnmdcifjdfocaa
