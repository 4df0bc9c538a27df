/-
  Contracts: whether x is a residue and a root of a modulo m.
-/
import Derived.Test.YtbiaokglmdmopaaIn
import Derived.Test.YtbiaokglmdmopaaForm
import Derived.Test.YtbiaokglmdmopaaFrame
namespace Go.Proofs.Ytbiaokglmdmopaa
open Go.RowKit
set_option linter.unusedSimpArgs false
set_option linter.unusedVariables false

def rootB (a x m : Int) : Bool := (decide (0 ≤ x) && decide (x < m)) && decide ((x * x - a).tmod m = 0)
theorem rootB_iff {a x m : Int} : rootB a x m = true ↔ (0 ≤ x ∧ x < m) ∧ (x * x - a).tmod m = 0 := by simp [rootB]
theorem rootB_lo {a x m : Int} (h : x < 0 ∨ m ≤ x) : rootB a x m = false := by
  unfold rootB
  rcases h with h | h
  · rw [decide_eq_false (show ¬ 0 ≤ x by omega)]; rfl
  · rw [decide_eq_false (show ¬ x < m by omega)]; simp
theorem rootB_no {a x m : Int} (h : ¬ (x * x - a).tmod m = 0) : rootB a x m = false := by simp [rootB, h]
theorem rsq {x m : Int} (h0 : 0 ≤ x) (h1 : x < m) (hm : m ≤ 1000000) : 0 ≤ x * x ∧ x * x ≤ 1000000000000 := by
  obtain ⟨X, rfl⟩ : ∃ X : Nat, x = X := ⟨x.toNat, by omega⟩
  have : X * X ≤ 1000000 * 1000000 := Nat.mul_le_mul (by omega) (by omega)
  rw [← Int.natCast_mul]
  omega

theorem roRoot_any (a x m : Int) (w : World) (i1 : In64 x) (a1 : -1000000 ≤ a) (a2 : a ≤ 1000000) (m1 : 1 ≤ m) (m2 : m ≤ 1000000) : Calls Try.prog 58 #[.int .i64 a, .int .i64 x, .int .i64 m] w fun e w' => e = .returned (.bool (rootB a x m)) ∧ w = w' := by
  by_cases h0 : x < 0
  · have HV := Lib.hid (rootB_lo (a := a) (.inl h0 : x < 0 ∨ m ≤ x))
    have hI : inB 0 (m - 1) x = false := by rw [inB_bad]; omega
    go_enter Try.func58, Try.ntmps58
    go_wp2_with fail
    ((with_reducible refine (l1In_any _ _ _ _).mono ?_); rintro e w0 ⟨rfl, rfl⟩)
    go_wp2
    go_ret
    first | exact ⟨rfl, rfl⟩ | exact ⟨by rw [HV.out]; try rfl, rfl⟩
  · by_cases h1 : m ≤ x
    · have HV := Lib.hid (rootB_lo (a := a) (.inr h1 : x < 0 ∨ m ≤ x))
      have hI : inB 0 (m - 1) x = false := by rw [inB_bad]; omega
      go_enter Try.func58, Try.ntmps58
      go_wp2_with fail
      ((with_reducible refine (l1In_any _ _ _ _).mono ?_); rintro e w0 ⟨rfl, rfl⟩)
      go_wp2
      go_ret
      first | exact ⟨rfl, rfl⟩ | exact ⟨by rw [HV.out]; try rfl, rfl⟩
    · have hq := rsq (x := x) (m := m) (by omega) (by omega) m2
      by_cases h2 : (x * x - a).tmod m = 0
      · have HV := Lib.hid (rootB_iff.2 ⟨⟨(by omega), (by omega)⟩, h2⟩)
        have ht : ((x * x - a).tmod m == 0) = true := by rw [beq_iff_eq]; exact h2
        clear h2
        have hI : inB 0 (m - 1) x = true := by rw [inB_iff]; omega
        go_enter Try.func58, Try.ntmps58
        go_wp2_with fail
        ((with_reducible refine (l1In_any _ _ _ _).mono ?_); rintro e w0 ⟨rfl, rfl⟩)
        go_wp2
        go_ret
        first | exact ⟨rfl, rfl⟩ | exact ⟨by rw [HV.out]; try rfl, rfl⟩
      · have HV := Lib.hid (rootB_no h2)
        have ht : ((x * x - a).tmod m == 0) = false := by rw [beq_eq_false_iff_ne]; exact h2
        clear h2
        have hI : inB 0 (m - 1) x = true := by rw [inB_iff]; omega
        go_enter Try.func58, Try.ntmps58
        go_wp2_with fail
        ((with_reducible refine (l1In_any _ _ _ _).mono ?_); rintro e w0 ⟨rfl, rfl⟩)
        go_wp2
        go_ret
        first | exact ⟨rfl, rfl⟩ | exact ⟨by rw [HV.out]; try rfl, rfl⟩

theorem isRoot_any (a x m : Int) (w : World) (i1 : In64 x) (a1 : -1000000 ≤ a) (a2 : a ≤ 1000000) (m1 : 1 ≤ m) (m2 : m ≤ 1000000) : Calls Try.prog 59 #[.int .i64 a, .int .i64 x, .int .i64 m] w fun e w' => e = .returned (.bool (rootB a x m)) ∧ w = w' := by
  by_cases h0 : x < 0
  · have HV := Lib.hid (rootB_lo (a := a) (.inl h0 : x < 0 ∨ m ≤ x))
    go_enter Try.func59, Try.ntmps59
    go_wp2
    go_ret
    first | exact ⟨rfl, rfl⟩ | exact ⟨by rw [HV.out]; try rfl, rfl⟩
  · by_cases h1 : m ≤ x
    · have HV := Lib.hid (rootB_lo (a := a) (.inr h1 : x < 0 ∨ m ≤ x))
      go_enter Try.func59, Try.ntmps59
      go_wp2
      go_ret
      first | exact ⟨rfl, rfl⟩ | exact ⟨by rw [HV.out]; try rfl, rfl⟩
    · have hq := rsq (x := x) (m := m) (by omega) (by omega) m2
      by_cases h2 : (x * x - a).tmod m = 0
      · have HV := Lib.hid (rootB_iff.2 ⟨⟨(by omega), (by omega)⟩, h2⟩)
        have ht : ((x * x - a).tmod m == 0) = true := by rw [beq_iff_eq]; exact h2
        clear h2
        go_enter Try.func59, Try.ntmps59
        go_wp2
        go_ret
        first | exact ⟨rfl, rfl⟩ | exact ⟨by rw [HV.out]; try rfl, rfl⟩
      · have HV := Lib.hid (rootB_no h2)
        have ht : ((x * x - a).tmod m == 0) = false := by rw [beq_eq_false_iff_ne]; exact h2
        clear h2
        go_enter Try.func59, Try.ntmps59
        go_wp2
        go_ret
        first | exact ⟨rfl, rfl⟩ | exact ⟨by rw [HV.out]; try rfl, rfl⟩
end Go.Proofs.Ytbiaokglmdmopaa
