/-
  Which residues are squares: plain lemmas.
-/
import Derived.Test.YtfnmdcifjdfocaaFilt
namespace Go.Proofs.Ytfnmdcifjdfocaa
open Go.RowKit
set_option linter.unusedSimpArgs false
set_option linter.unusedVariables false

theorem Try.infoBool : (Try.prog.info? 4).map (fun i => (i.zero, i.size, i.bytes)) = some (some (.bool false), 1, 1) := by kernel_rfl
/-- which residues are squares of numbers below k -/
def sqR (m k x : Nat) : Bool := (List.range k).any fun y => y * y % m == x
def sqRow (m k : Nat) : List Value := (List.range m).map fun x => Value.bool (sqR m k x)
theorem sqRow_zero (m : Nat) : sqRow m 0 = (madeCells #[Value.bool false] m).toList := by
  rw [toList_madeCells_one]
  apply List.ext_getElem
  · simp [sqRow]
  · intro i h1 h2
    simp [sqRow, sqR]
theorem sqRow_succ (m k : Nat) (hm : 0 < m) : (sqRow m k).set (k * k % m) (.bool true) = sqRow m (k + 1) := by
  apply List.ext_getElem
  · simp [sqRow]
  · intro i h1 h2
    simp [sqRow] at h2
    simp only [sqRow, List.getElem_set, List.getElem_map, List.getElem_range]
    by_cases h : k * k % m = i
    · rw [if_pos h]
      simp [sqR, List.range_succ, h]
    · rw [if_neg h]
      simp [sqR, List.range_succ, h]

theorem row_keep {wr w1 : World} {o : Obj} {b1 b g M : Nat} {R : List Value} {v : Value} {L : List Int} (hr : wr.ownsRow b1 4 1 (.slice (some ⟨g, 0, none⟩) M M) M R) (hl : Lst wr b v L)
    (hg : (wr.alloc o).grownBy w1 v.ownBlock) : w1.ownsRow b1 4 1 (.slice (some ⟨g, 0, none⟩) M M) M R := by
  refine World.ownsRow.kept (hr.alloc o) hg (.inr fun he => ?_)
  have h1 : v.ownBlock = some g := by rw [← he]; rfl
  rcases hl.2 with ⟨rfl, _⟩ | ⟨g', cap, cur, rfl, _, hh, _⟩
  · simp [Value.ownBlock] at h1
  · have h2 : g' = g := by simpa [Value.ownBlock] using h1
    subst h2
    rcases hr.2 with ⟨h3, _⟩ | ⟨g2, cap2, cur2, h3, _, hh2, _⟩
    · simp at h3
    · simp only [Value.slice.injEq, Option.some.injEq, Addr.mk.injEq] at h3
      obtain ⟨⟨h4, _⟩, _⟩ := h3
      subst h4
      rw [hh] at hh2
      simp at hh2
end Go.Proofs.Ytfnmdcifjdfocaa
