/-
  What a number is. No program in sight.
-/
namespace Go.Proofs.YtpoipdjhelnibaaDoor

/-! ### numbers -/
def good (n : Int) : Bool := decide (-1000000 ≤ n) && decide (n ≤ 1000000)
theorem good_iff {n : Int} : good n = true ↔ -1000000 ≤ n ∧ n ≤ 1000000 := by simp [good]
theorem good_lo {n : Int} (h : good n = true) : -1000000 ≤ n := (good_iff.1 h).1
theorem good_hi {n : Int} (h : good n = true) : n ≤ 1000000 := (good_iff.1 h).2
theorem good_of {n : Int} (h1 : -1000000 ≤ n) (h2 : n ≤ 1000000) : good n = true := good_iff.2 ⟨h1, h2⟩
theorem bad_of {n : Int} (h : n < -1000000 ∨ 1000000 < n) : good n = false := by
  rcases hb : good n with _ | _
  · rfl
  · have := good_iff.1 hb; omega
theorem bad_iff {n : Int} : good n = false ↔ n < -1000000 ∨ 1000000 < n := by
  constructor
  · intro h
    rcases Int.lt_or_le n (-1000000) with h1 | h1
    · exact .inl h1
    · rcases Int.lt_or_le 1000000 n with h2 | h2
      · exact .inr h2
      · rw [good_of h1 h2] at h; cases h
  · exact bad_of

end Go.Proofs.YtpoipdjhelnibaaDoor
