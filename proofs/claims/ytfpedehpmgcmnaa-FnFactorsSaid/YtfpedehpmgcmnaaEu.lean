/-
  Contracts: the remainders of Euclid's algorithm.
-/
import Derived.Test.YtfpedehpmgcmnaaFilt
import Derived.Test.YtfpedehpmgcmnaaPlain
namespace Go.Proofs.Ytfpedehpmgcmnaa
open Go.RowKit
set_option linter.unusedSimpArgs false
set_option linter.unusedVariables false

def ints (L : List Nat) : List Int := L.map fun x : Nat => (x : Int)
theorem ints_length (L : List Nat) : (ints L).length = L.length := by simp [ints]
theorem ints_snoc (L : List Nat) (x : Nat) : ints (L ++ [x]) = ints L ++ [(x : Int)] := by simp [ints]
theorem Lst.one {W : World} {base g : Nat} (x : Int) (hg : g = W.heap.size) (h : base ≤ g) : Lst (W.alloc (.cells #[.int .i64 x] 3)) base (.slice (some ⟨g, 0, none⟩) 1 1) [x] := by
  subst hg
  exact World.ownsRow_lit (base := base) (e := 3) (size := 1) W #[.int .i64 x] 1 h (by simp [maxLen]) rfl
theorem eur_len : ∀ (r m : Nat), (eur m r).length ≤ r := fun r => by
  induction r using Nat.strongRecOn with
  | ind r ih =>
    intro m
    rcases Nat.eq_zero_or_pos r with h | h
    · subst h; rw [eur_zero]; simp
    · rw [eur_pos (by omega)]
      have h1 := Nat.mod_lt m h
      have h2 := ih (m % r) h1 r
      simp only [List.length_cons]
      omega


end Go.Proofs.Ytfpedehpmgcmnaa
