/-
  The program's predicate on runes: neither '-' nor a digit; spec.ParseForm.
-/
import Derived.Test.YtpoipdjhelnibaaDoorShelf
import Derived.Test.YtpoipdjhelnibaaDoorRdR
import Derived.Test.YtpoipdjhelnibaaDoorWdQ
namespace Go.Proofs.YtpoipdjhelnibaaDoor
open Go.RowKit Go.Lib
set_option linter.unusedSimpArgs false
set_option linter.unusedVariables false

theorem sep_any (x : Nat) (hx : x ≤ 1114111) (w : World) : Calls Tryd.prog 37 #[.int .i32 x] w fun e w' => e = .returned (.bool (wordSep x)) ∧ w = w' := by
  by_cases h1 : x = 45
  · subst h1
    go_enter Tryd.func37, Tryd.ntmps37
    go_wp2
    go_ret
    exact ⟨rfl, rfl⟩
  · have b1 : ((x : Int) != 45) = true := by rw [bne_iff_ne]; omega
    have b2 : ¬ (x : Int) = 45 := by omega
    by_cases h2 : x < 48
    · have c1 : (x : Int) < 48 := by omega
      have hv : wordSep x = true := by simp [wordSep, h1, h2]
      rw [hv]
      clear hv h1 h2
      go_enter Tryd.func37, Tryd.ntmps37
      go_wp2
      go_ret
      exact ⟨rfl, rfl⟩
    · have c1 : ¬ (x : Int) < 48 := by omega
      by_cases h3 : 57 < x
      · have d1 : 57 < (x : Int) := by omega
        have hv : wordSep x = true := by simp [wordSep, h1, h3]
        rw [hv]
        clear hv h1 h2 h3
        go_enter Tryd.func37, Tryd.ntmps37
        go_wp2
        go_ret
        exact ⟨rfl, rfl⟩
      · have d1 : ¬ 57 < (x : Int) := by omega
        have hv : wordSep x = false := by simp [wordSep, h2, h3]
        rw [hv]
        clear hv h1 h2 h3
        go_enter Tryd.func37, Tryd.ntmps37
        go_wp2
        go_ret
        exact ⟨rfl, rfl⟩
theorem sep_pays (w : World) : PredAtRunes Tryd.prog 37 #[] wordSep w := fun W x hx _ =>
  (sep_any x hx W).mono fun e w' ⟨he, hw⟩ => ⟨he, 0, hw.symm⟩
end Go.Proofs.YtpoipdjhelnibaaDoor
