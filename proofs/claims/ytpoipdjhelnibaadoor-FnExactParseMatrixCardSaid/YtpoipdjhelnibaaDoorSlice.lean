/-
  Slices of integers that a call hands back, and the laws' helpers that compare and mark them.
-/
import Derived.Test.YtpoipdjhelnibaaDoorGood
import Derived.Handy
import Derived.WalkSmall
namespace Go.Proofs.YtpoipdjhelnibaaDoor
open Go.RowKit
set_option linter.unusedSimpArgs false
set_option linter.unusedVariables false


theorem Tryd.infoInt : (Tryd.prog.info? 3).map (fun i => (i.zero, i.size, i.bytes)) = some (some (.int .i64 0), 1, 8) := by kernel_rfl

/-- The slice value v holds the integers L, in memory from block 'base' on (or is nil and L is empty). -/
def Lst (w : World) (base : Nat) (v : Value) (L : List Int) : Prop := w.ownsRow base 3 1 v L.length (L.map (Value.int .i64))

theorem Lst.nil (w : World) (base : Nat) : Lst w base (.slice none 0 0) [] := World.ownsRow_nil _ _ _ _
theorem Lst.empty (w : World) {base : Nat} (h : base ≤ w.heap.size) : Lst (w.alloc (.cells #[] 3)) base (.slice (some ⟨w.heap.size, 0, none⟩) 0 0) [] := by
  have := World.ownsRow_lit (base := base) (e := 3) (size := 1) w #[] 0 h (by simp [maxLen]) rfl
  simpa [Lst] using this
theorem Lst.empty' {W : World} {base g : Nat} (hg : g = W.heap.size) (h : base ≤ g) : Lst (W.alloc (.cells #[] 3)) base (.slice (some ⟨g, 0, none⟩) 0 0) [] := by
  subst hg
  exact Lst.empty W h
theorem Lst.shape {w : World} {base : Nat} {v : Value} {L : List Int} (h : Lst w base v L) : (L = [] ∧ v = .slice none 0 0) ∨
    ∃ g cap, v = .slice (some ⟨g, 0, none⟩) L.length cap ∧ base ≤ g ∧ g < w.heap.size ∧ (∀ k, k < L.length → w.cell? ⟨g, k, none⟩ = some (.int .i64 (L.getD k 0))) ∧ (∀ k, w.frozen? ⟨g, k, none⟩ = false) := by
  have h0 := h
  obtain ⟨hl, h⟩ := h
  rcases h with ⟨rfl, h⟩ | ⟨g, cap, cur, rfl, hb, hh, hn, hc, hs, ht⟩
  · exact .inl ⟨List.eq_nil_of_length_eq_zero h, rfl⟩
  · refine .inr ⟨g, cap, rfl, hb, (Array.getElem?_eq_some_iff.1 hh).1, fun k hk => ?_, fun k => World.ownsRow.frozenAt h0 k⟩
    rw [World.ownsRow.cellAt h0 k (by omega)]
    simp [hk]
theorem Lst.below {w w' : World} {base : Nat} {v : Value} {L : List Int} (h : Lst w base v L) {B : Nat} (hB : w.heap.size ≤ B) (hb : Below B w w') : Lst w' base v L := by
  refine ⟨h.1, ?_⟩
  rcases h.2 with h | ⟨g, cap, cur, rfl, h1, hh, r⟩
  · exact .inl h
  · have := (Array.getElem?_eq_some_iff.1 hh).1
    exact .inr ⟨g, cap, cur, rfl, h1, by rw [hb.block g (by omega)]; exact hh, r⟩
theorem Lst.drewN {w : World} {base : Nat} {v : Value} {L : List Int} (h : Lst w base v L) (k : Nat) : Lst (w.drewN k) base v L := h
theorem Lst.base {w : World} {base b' : Nat} {v : Value} {L : List Int} (h : Lst w base v L) (hb : b' ≤ base) : Lst w b' v L := by
  refine ⟨h.1, ?_⟩
  rcases h.2 with h | ⟨g, cap, cur, rfl, h1, r⟩
  · exact .inl h
  · exact .inr ⟨g, cap, cur, rfl, by omega, r⟩
/-- Behind a write into another row. -/
theorem Lst.grown {w w' : World} {base base' : Nat} {v v' : Value} {L L' : List Int} (h : Lst w base v L) (h' : Lst w base' v' L') (hlt : ∀ k, v.ownBlock = some k → k < base') (hg : w.grownBy w' v'.ownBlock) : Lst w' base v L := by
  refine World.ownsRow.kept h hg ?_
  rcases hb : v.ownBlock with _ | k
  · exact .inl rfl
  · refine .inr fun he => ?_
    have h1 := hlt k hb
    have h2 := (World.ownsRow.lt h' k he.symm).1
    omega

theorem grown_trans {w w1 w2 : World} {row : Option Nat} (h1 : w.grownBy w1 row) (h2 : w1.grownBy w2 row) : w.grownBy w2 row :=
  ⟨h2.os.trans h1.os, h2.tape.trans h1.tape, h2.output.trans h1.output, Nat.le_trans h1.size h2.size, fun k hk hne => (h2.block k (Nat.lt_of_lt_of_le hk h1.size) hne).trans (h1.block k hk hne)⟩

def RetS (w : World) (L : List Int) (ok : Bool) (e : Ending) (w' : World) : Prop := ∃ v, e = .returned (.tuple #[v, .bool ok]) ∧ Lst w' w.heap.size v L ∧ Below w.heap.size w w'
def RetL (w : World) (L : List Int) (e : Ending) (w' : World) : Prop := ∃ v, e = .returned v ∧ Lst w' w.heap.size v L ∧ Below w.heap.size w w'
def lFor (g : Bool) (L : List Int) : List Int := if g = true then L else []
theorem lFor_true (L : List Int) : lFor true L = L := rfl
theorem lFor_false (L : List Int) : lFor false L = [] := rfl
theorem lFor_le {g : Bool} {L : List Int} {n : Nat} (h : L.length ≤ n) : (lFor g L).length ≤ n := by
  cases g
  · simp [lFor]
  · exact h

/-! ### the three helpers of the laws -/
def marks (n : Nat) : List Int := (List.range n).map fun i : Nat => 1 + (i : Int)
theorem marks_length (n : Nat) : (marks n).length = n := by simp [marks]
def mix (L : List Int) (k : Nat) : List Value := (List.range L.length).map fun j => if j < k then Value.int .i64 (1 + (j : Int)) else Value.int .i64 (L.getD j 0)
theorem mix_zero (L : List Int) : mix L 0 = L.map (Value.int .i64) := by
  apply List.ext_getElem
  · simp [mix]
  · intro i h1 h2
    simp at h2
    simp [mix, h2]
theorem mix_succ (L : List Int) (k : Nat) : (mix L k).set k (.int .i64 (1 + (k : Int))) = mix L (k + 1) := by
  apply List.ext_getElem
  · simp [mix]
  · intro i h1 h2
    simp [mix] at h2
    simp only [mix, List.getElem_set, List.getElem_map, List.getElem_range]
    by_cases h : k = i
    · subst h; simp
    · by_cases h' : i < k
      · rw [if_neg h, if_pos h', if_pos (by omega)]
      · rw [if_neg h, if_neg h', if_neg (by omega)]
theorem mix_end (L : List Int) : mix L L.length = (marks L.length).map (Value.int .i64) := by
  apply List.ext_getElem
  · simp [mix, marks]
  · intro i h1 h2
    simp [marks] at h2
    simp [mix, marks, h2]
/-- What the marks leave: the first list as it was, old memory as it was. -/
theorem after_mark {w w1 w2 w4 : World} {v1 v2 : Value} {L : List Int} {k3 : Nat} (b1 : Below w.heap.size w w1) (l1 : Lst w1 w.heap.size v1 L) (b2 : Below w1.heap.size w1 w2) (l2 : Lst w2 w1.heap.size v2 L)
    (g4 : (w2.drewN k3).grownBy w4 v2.ownBlock) : Lst w4 w.heap.size v1 L ∧ Below w.heap.size w w4 := by
  have l1' := (l1.below (Nat.le_refl _) b2).drewN k3
  have l2' := l2.drewN k3
  have s1 := b1.size
  have s2 := b2.size
  refine ⟨l1'.grown l2' (fun k hk => (World.ownsRow.lt l1 k hk).2) g4, ?_⟩
  refine Below.grown (below_drewN (b1.trans (b2.mono s1)) k3) g4 (by show w.heap.size ≤ w2.heap.size; omega) fun k hk => ?_
  have := (World.ownsRow.lt l2 k hk).1
  omega
end Go.Proofs.YtpoipdjhelnibaaDoor
