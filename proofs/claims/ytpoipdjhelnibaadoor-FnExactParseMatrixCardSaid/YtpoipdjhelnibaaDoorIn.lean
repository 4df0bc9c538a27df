/-
  Contract: whether an integer lies within bounds.
-/
import Derived.Test.YtpoipdjhelnibaaDoorGood
namespace Go.Proofs.YtpoipdjhelnibaaDoor
open Go.RowKit
set_option linter.unusedSimpArgs false
set_option linter.unusedVariables false

def inB (lo hi n : Int) : Bool := decide (lo ≤ n) && decide (n ≤ hi)
theorem inB_iff {lo hi n : Int} : inB lo hi n = true ↔ lo ≤ n ∧ n ≤ hi := by simp [inB]
theorem inB_bad {lo hi n : Int} : inB lo hi n = false ↔ n < lo ∨ hi < n := by
  simp only [inB, Bool.and_eq_false_iff, decide_eq_false_iff_not]
  omega
theorem l1In_any (n lo hi : Int) (w : World) : Calls Tryd.prog 40 #[.int .i64 n, .int .i64 lo, .int .i64 hi] w fun e w' => e = .returned (.bool (inB lo hi n)) ∧ w = w' := by
  by_cases h1 : lo ≤ n
  · by_cases h2 : n ≤ hi
    · have hg := inB_iff.2 ⟨h1, h2⟩
      go_enter Tryd.func40, Tryd.ntmps40
      go_wp2
      go_ret
      first | exact ⟨rfl, rfl⟩ | exact ⟨by rw [hg]; rfl, rfl⟩
    · have hg := inB_bad.2 (.inr (Int.not_le.1 h2) : n < lo ∨ hi < n)
      go_enter Tryd.func40, Tryd.ntmps40
      go_wp2
      go_ret
      first | exact ⟨rfl, rfl⟩ | exact ⟨by rw [hg]; rfl, rfl⟩
  · have hg := inB_bad.2 (.inl (Int.not_le.1 h1) : n < lo ∨ hi < n)
    go_enter Tryd.func40, Tryd.ntmps40
    go_wp2
    go_ret
    first | exact ⟨rfl, rfl⟩ | exact ⟨by rw [hg]; rfl, rfl⟩
end Go.Proofs.YtpoipdjhelnibaaDoor
