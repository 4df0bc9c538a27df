/-
  The walks of the laws on 'IsNumber', 'IsForm', 'IsMatrix'.
-/
import Derived.Test.YtbhamnkhkbmidaaGood
import Derived.Test.YtbhamnkhkbmidaaFrame
namespace Go.Proofs.Ytbhamnkhkbmidaa
open Go.RowKit
set_option linter.unusedSimpArgs false
set_option linter.unusedVariables false

theorem law_FnExactIsNumber (a : Int) (w : World) (_ : In64 a) : Calls Try.prog 4 #[.int .i64 a] w fun e w' => e = .returned (.bool true) ∧ Below w.heap.size w w' := by
  go_enter Try.func4, Try.ntmps4
  go_wp2_with (first | (go_at_call 41; refine (nuGood_any _ _).mono ?_; rintro e w' ⟨rfl, rfl⟩) | (go_at_call 42; refine (are1 a _ _ (by simp)).mono ?_; rintro e w' ⟨rfl, rfl⟩) | go_in)
  go_ret
  exact ⟨rfl, (Below.refl _ _).alloc (Nat.le_refl _) _⟩
end Go.Proofs.Ytbhamnkhkbmidaa
