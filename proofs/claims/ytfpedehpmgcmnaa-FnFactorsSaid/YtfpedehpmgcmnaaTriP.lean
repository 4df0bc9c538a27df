/-
  Lists of triples of integers, cell by cell. No walk in sight.
-/
import Derived.Test.YtfpedehpmgcmnaaSlice
import Derived.Test.YtfpedehpmgcmnaaForm
namespace Go.Proofs.Ytfpedehpmgcmnaa
open Go.RowKit
set_option linter.unusedVariables false

abbrev T3 := Int × Int × Int
def tri (t : T3) : List Value := [.int .i64 t.1, .int .i64 t.2.1, .int .i64 t.2.2]
def flat (L : List T3) : List Value := L.flatMap tri
theorem flat_cons (t : T3) (L : List T3) : flat (t :: L) = .int .i64 t.1 :: .int .i64 t.2.1 :: .int .i64 t.2.2 :: flat L := rfl
theorem flat_append (L M : List T3) : flat (L ++ M) = flat L ++ flat M := by simp [flat]
theorem flat_one (t : T3) : flat [t] = [.int .i64 t.1, .int .i64 t.2.1, .int .i64 t.2.2] := rfl
theorem flat_length : ∀ L : List T3, (flat L).length = L.length * 3
  | [] => rfl
  | t :: L => by rw [flat_cons, List.length_cons, List.length_cons, List.length_cons, List.length_cons, flat_length L]; omega
theorem flat_get : ∀ (L : List T3) (k : Nat), k < L.length → (flat L)[k * 3]? = some (.int .i64 (L.getD k (0, 0, 0)).1) ∧ (flat L)[k * 3 + 1]? = some (.int .i64 (L.getD k (0, 0, 0)).2.1) ∧ (flat L)[k * 3 + 2]? = some (.int .i64 (L.getD k (0, 0, 0)).2.2)
  | [], k, h => by simp at h
  | t :: L, 0, _ => by rw [flat_cons]; exact ⟨rfl, rfl, rfl⟩
  | t :: L, k + 1, h => by
    have := flat_get L k (by simpa using h)
    rw [flat_cons, show (k + 1) * 3 = k * 3 + 1 + 1 + 1 by omega]
    exact this
theorem flat_one_cell (L : List T3) : ∀ u ∈ flat L, u.oneCell' = true := by
  intro u hu
  unfold flat at hu
  obtain ⟨t, _, ht⟩ := List.mem_flatMap.1 hu
  simp only [tri, List.mem_cons, List.not_mem_nil, or_false] at ht
  rcases ht with rfl | rfl | rfl <;> rfl
def marks3 (n : Nat) : List T3 := (List.range n).map fun i : Nat => (1 + ((i * 3 : Nat) : Int), 1 + ((i * 3 + 1 : Nat) : Int), 1 + ((i * 3 + 2 : Nat) : Int))
theorem marks3_length (n : Nat) : (marks3 n).length = n := by simp [marks3]
theorem marks3_get {n k : Nat} (h : k < n) : (marks3 n).getD k (0, 0, 0) = (1 + ((k * 3 : Nat) : Int), 1 + ((k * 3 + 1 : Nat) : Int), 1 + ((k * 3 + 2 : Nat) : Int)) := by
  simp [marks3, h]
/-- the first m cells are marked -/
def mix3 (L : List T3) (m : Nat) : List Value := (List.range (L.length * 3)).map fun j => if j < m then Value.int .i64 (1 + (j : Int)) else (flat L).getD j (.int .i64 0)
theorem mix3_zero (L : List T3) : mix3 L 0 = flat L := by
  apply List.ext_getElem
  · simp [mix3, flat_length]
  · intro i h1 h2
    simp [mix3, h2]
theorem mix3_length (L : List T3) (m : Nat) : (mix3 L m).length = L.length * 3 := by simp [mix3]
theorem mix3_succ (L : List T3) (k : Nat) : (mix3 L k).set k (.int .i64 (1 + (k : Int))) = mix3 L (k + 1) := by
  apply List.ext_getElem
  · simp [mix3]
  · intro i h1 h2
    simp [mix3] at h2
    simp only [mix3, List.getElem_set, List.getElem_map, List.getElem_range]
    by_cases h : k = i
    · subst h; simp
    · by_cases h' : i < k
      · rw [if_neg h, if_pos h', if_pos (by omega)]
      · rw [if_neg h, if_neg h', if_neg (by omega)]
theorem flat_marks (n : Nat) : flat (marks3 n) = (List.range (n * 3)).map fun j : Nat => Value.int .i64 (1 + (j : Int)) := by
  apply List.ext_getElem
  · simp [flat_length, marks3_length]
  · intro i h1 h2
    rw [flat_length, marks3_length] at h1
    have hg := flat_get (marks3 n) (i / 3) (by rw [marks3_length]; omega)
    rw [marks3_get (by omega)] at hg
    simp only [List.getElem_map, List.getElem_range]
    have hi : i = i / 3 * 3 ∨ i = i / 3 * 3 + 1 ∨ i = i / 3 * 3 + 2 := by omega
    have key : (flat (marks3 n))[i]? = some (Value.int .i64 (1 + (i : Int))) := by
      rcases hi with h | h | h
      · have := hg.1; rw [← h] at this; rw [this]
      · have := hg.2.1; rw [← h] at this; rw [this]
      · have := hg.2.2; rw [← h] at this; rw [this]
    exact Option.some.inj (by rw [← key]; exact (List.getElem?_eq_getElem _).symm)
theorem mix3_end (L : List T3) : mix3 L (L.length * 3) = flat (marks3 L.length) := by
  rw [flat_marks]
  unfold mix3
  apply List.map_congr_left
  intro j hj
  rw [List.mem_range] at hj
  rw [if_pos hj]
def t3For (g : Bool) (L : List T3) : List T3 := if g = true then L else []
theorem t3For_true (L : List T3) : t3For true L = L := rfl
theorem t3For_false (L : List T3) : t3For false L = [] := rfl
end Go.Proofs.Ytfpedehpmgcmnaa
