/-
  Plain facts: going round the cycles of a map, with marks. No walk in sight.
-/
import Derived.Test.YtfnmdcifjdfocaaSqR0
namespace Go.Proofs.Ytfnmdcifjdfocaa
open Go.RowKit
set_option linter.unusedVariables false

theorem cnt_set : ∀ (S : List Bool) (x : Nat), S.getD x true = false → (S.set x true).count false + 1 = S.count false
  | [], x, h => by simp at h
  | b :: S, 0, h => by
    simp at h
    subst h
    simp
  | b :: S, x + 1, h => by
    have := cnt_set S x (by simpa using h)
    simp only [List.set_cons_succ, List.count_cons]
    omega
/-- the marks behind a way along the map, and the number of steps -/
def cyc (nx : Nat → Nat) (S : List Bool) (x : Nat) : List Bool × Nat :=
  if h : S.getD x true = false then ((cyc nx (S.set x true) (nx x)).1, (cyc nx (S.set x true) (nx x)).2 + 1) else (S, 0)
termination_by S.count false
decreasing_by all_goals (have := cnt_set S x h; omega)
theorem cyc_hit {nx : Nat → Nat} {S : List Bool} {x : Nat} (h : S.getD x true = false) : cyc nx S x = ((cyc nx (S.set x true) (nx x)).1, (cyc nx (S.set x true) (nx x)).2 + 1) := by
  rw [cyc, dif_pos h]
theorem cyc_miss {nx : Nat → Nat} {S : List Bool} {x : Nat} (h : S.getD x true = true) : cyc nx S x = (S, 0) := by
  rw [cyc, dif_neg (by rw [h]; simp)]
/-- on the way: c steps are done, marks S, at x; the whole way is R -/
def OnWay (nx : Nat → Nat) (R : List Bool × Nat) (S : List Bool) (x c : Nat) : Prop := (cyc nx S x).1 = R.1 ∧ c + (cyc nx S x).2 = R.2
theorem OnWay.start (nx : Nat → Nat) (S : List Bool) (x : Nat) : OnWay nx (cyc nx S x) S x 0 := ⟨rfl, by omega⟩
theorem OnWay.step {nx : Nat → Nat} {R : List Bool × Nat} {S : List Bool} {x c : Nat} (h : OnWay nx R S x c) (hx : S.getD x true = false) : OnWay nx R (S.set x true) (nx x) (c + 1) := by
  obtain ⟨h1, h2⟩ := h
  rw [cyc_hit hx] at h1 h2
  exact ⟨h1, by simp only at h2; omega⟩
theorem OnWay.done {nx : Nat → Nat} {R : List Bool × Nat} {S : List Bool} {x c : Nat} (h : OnWay nx R S x c) (hx : S.getD x true = true) : R = (S, c) := by
  obtain ⟨h1, h2⟩ := h
  rw [cyc_miss hx] at h1 h2
  exact Prod.ext h1.symm (by simp only at h2; omega)
def sgc (c : Nat) : Int := if c ≠ 0 ∧ c % 2 = 0 then -1 else 1
theorem sgc_zero : sgc 0 = 1 := by simp [sgc]
theorem sgc_one : sgc 1 = 1 := by simp [sgc]
theorem sgc_even {c : Nat} (h0 : c ≠ 0) (h : c % 2 = 0) : sgc c = -1 := by unfold sgc; rw [if_pos ⟨h0, h⟩]
theorem sgc_odd {c : Nat} (h : c % 2 = 1) : sgc c = 1 := by unfold sgc; rw [if_neg (by omega)]
theorem sgc_succ {c : Nat} (h : c ≠ 0) : sgc (c + 1) = -sgc c := by
  rcases Nat.mod_two_eq_zero_or_one c with h1 | h1
  · rw [sgc_even h h1, sgc_odd (by omega)]; rfl
  · rw [sgc_odd h1, sgc_even (by omega) (by omega)]
theorem sgc_sign (c : Nat) : sgc c = 1 ∨ sgc c = -1 := by unfold sgc; split <;> simp
def pms (nx : Nat → Nat) : Nat → Nat → List Bool → Int → Int
  | 0, _, _, s => s
  | r + 1, k, S, s => pms nx r (k + 1) (cyc nx S k).1 (s * sgc (cyc nx S k).2)
def nxt (a n : Int) (x : Nat) : Nat := (a * x % n).toNat
theorem nxt_int {a n : Int} (x : Nat) (hn : 1 ≤ n) : ((nxt a n x : Nat) : Int) = a * x % n := by
  unfold nxt
  have := Int.emod_nonneg (a * x) (show n ≠ 0 by omega)
  omega
theorem nxt_lt {a n : Int} (x : Nat) (hn : 1 ≤ n) : nxt a n x < n.toNat := by
  unfold nxt
  have h1 := Int.emod_nonneg (a * x) (show n ≠ 0 by omega)
  have h2 := Int.emod_lt_of_pos (a * x) (show 0 < n by omega)
  omega
def psV (a n : Int) : Int := pms (nxt a n) n.toNat 0 (List.replicate n.toNat false) 1
theorem mul_sign {s t : Int} (hs : s = 1 ∨ s = -1) (ht : t = 1 ∨ t = -1) : s * t = 1 ∨ s * t = -1 := by
  rcases hs with rfl | rfl <;> rcases ht with rfl | rfl <;> simp

/-! ### the marks in memory -/
def Marks (w : World) (b g : Nat) (S : List Bool) : Prop := w.ownsRow b 4 1 (.slice (some ⟨g, 0, none⟩) S.length S.length) S.length (S.map Value.bool)
theorem Marks.cell {w : World} {b g : Nat} {S : List Bool} (h : Marks w b g S) {x : Nat} (hx : x < S.length) : w.cell? ⟨g, x, none⟩ = some (.bool (S.getD x true)) := by
  rw [World.ownsRow.cellAt h x (by omega)]
  simp [hx]
theorem Marks.frozen {w : World} {b g : Nat} {S : List Bool} (h : Marks w b g S) (x : Nat) : w.frozen? ⟨g, x, none⟩ = false := World.ownsRow.frozenAt h x
theorem Marks.set {w : World} {b g : Nat} {S : List Bool} (h : Marks w b g S) (x : Nat) : Marks (w.setCell ⟨g, x, none⟩ (.bool true)) b g (S.set x true) := by
  have := (World.ownsRow.stored h x (.bool true)).1
  unfold Marks
  rw [List.length_set, List.map_set]
  exact this
theorem Marks.lt {w : World} {b g : Nat} {S : List Bool} (h : Marks w b g S) : b ≤ g ∧ g < w.heap.size := World.ownsRow.lt h g rfl
theorem Marks.made {w : World} {b g : Nat} (M : Nat) (h : w.ownsRow b 4 1 (.slice (some ⟨g, 0, none⟩) M M) M (madeCells #[Value.bool false] M).toList) : Marks w b g (List.replicate M false) := by
  unfold Marks
  rw [List.length_replicate, List.map_replicate]
  rw [toList_madeCells_one] at h
  exact h
end Go.Proofs.Ytfnmdcifjdfocaa
