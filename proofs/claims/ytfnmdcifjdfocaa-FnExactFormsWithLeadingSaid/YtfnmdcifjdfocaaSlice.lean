/-
  Slices of integers that a call hands back, and the laws' helpers that compare and mark them.
-/
import Derived.Test.YtfnmdcifjdfocaaGood
import Derived.Handy
import Derived.WalkSmall
namespace Go.Proofs.Ytfnmdcifjdfocaa
open Go.RowKit
set_option linter.unusedSimpArgs false
set_option linter.unusedVariables false


theorem Try.infoInt : (Try.prog.info? 3).map (fun i => (i.zero, i.size, i.bytes)) = some (some (.int .i64 0), 1, 8) := by kernel_rfl

/-- The slice value v holds the integers L, in memory from block 'base' on (or is nil and L is empty). -/
def Lst (w : World) (base : Nat) (v : Value) (L : List Int) : Prop := w.ownsRow base 3 1 v L.length (L.map (Value.int .i64))

theorem Lst.nil (w : World) (base : Nat) : Lst w base (.slice none 0 0) [] := World.ownsRow_nil _ _ _ _
theorem Lst.empty (w : World) {base : Nat} (h : base ≤ w.heap.size) : Lst (w.alloc (.cells #[] 3)) base (.slice (some ⟨w.heap.size, 0, none⟩) 0 0) [] := by
  have := World.ownsRow_lit (base := base) (e := 3) (size := 1) w #[] 0 h (by simp [maxLen]) rfl
  simpa [Lst] using this
theorem Lst.empty' {W : World} {base g : Nat} (hg : g = W.heap.size) (h : base ≤ g) : Lst (W.alloc (.cells #[] 3)) base (.slice (some ⟨g, 0, none⟩) 0 0) [] := by
  subst hg
  exact Lst.empty W h
theorem Lst.shape {w : World} {base : Nat} {v : Value} {L : List Int} (h : Lst w base v L) : (L = [] ∧ v = .slice none 0 0) ∨
    ∃ g cap, v = .slice (some ⟨g, 0, none⟩) L.length cap ∧ base ≤ g ∧ g < w.heap.size ∧ (∀ k, k < L.length → w.cell? ⟨g, k, none⟩ = some (.int .i64 (L.getD k 0))) ∧ (∀ k, w.frozen? ⟨g, k, none⟩ = false) := by
  have h0 := h
  obtain ⟨hl, h⟩ := h
  rcases h with ⟨rfl, h⟩ | ⟨g, cap, cur, rfl, hb, hh, hn, hc, hs, ht⟩
  · exact .inl ⟨List.eq_nil_of_length_eq_zero h, rfl⟩
  · refine .inr ⟨g, cap, rfl, hb, (Array.getElem?_eq_some_iff.1 hh).1, fun k hk => ?_, fun k => World.ownsRow.frozenAt h0 k⟩
    rw [World.ownsRow.cellAt h0 k (by omega)]
    simp [hk]
theorem Lst.below {w w' : World} {base : Nat} {v : Value} {L : List Int} (h : Lst w base v L) {B : Nat} (hB : w.heap.size ≤ B) (hb : Below B w w') : Lst w' base v L := by
  refine ⟨h.1, ?_⟩
  rcases h.2 with h | ⟨g, cap, cur, rfl, h1, hh, r⟩
  · exact .inl h
  · have := (Array.getElem?_eq_some_iff.1 hh).1
    exact .inr ⟨g, cap, cur, rfl, h1, by rw [hb.block g (by omega)]; exact hh, r⟩
theorem Lst.drewN {w : World} {base : Nat} {v : Value} {L : List Int} (h : Lst w base v L) (k : Nat) : Lst (w.drewN k) base v L := h
theorem Lst.base {w : World} {base b' : Nat} {v : Value} {L : List Int} (h : Lst w base v L) (hb : b' ≤ base) : Lst w b' v L := by
  refine ⟨h.1, ?_⟩
  rcases h.2 with h | ⟨g, cap, cur, rfl, h1, r⟩
  · exact .inl h
  · exact .inr ⟨g, cap, cur, rfl, by omega, r⟩
/-- Behind a write into another row. -/
theorem Lst.grown {w w' : World} {base base' : Nat} {v v' : Value} {L L' : List Int} (h : Lst w base v L) (h' : Lst w base' v' L') (hlt : ∀ k, v.ownBlock = some k → k < base') (hg : w.grownBy w' v'.ownBlock) : Lst w' base v L := by
  refine World.ownsRow.kept h hg ?_
  rcases hb : v.ownBlock with _ | k
  · exact .inl rfl
  · refine .inr fun he => ?_
    have h1 := hlt k hb
    have h2 := (World.ownsRow.lt h' k he.symm).1
    omega

theorem grown_trans {w w1 w2 : World} {row : Option Nat} (h1 : w.grownBy w1 row) (h2 : w1.grownBy w2 row) : w.grownBy w2 row :=
  ⟨h2.os.trans h1.os, h2.tape.trans h1.tape, h2.output.trans h1.output, Nat.le_trans h1.size h2.size, fun k hk hne => (h2.block k (Nat.lt_of_lt_of_le hk h1.size) hne).trans (h1.block k hk hne)⟩

def RetS (w : World) (L : List Int) (ok : Bool) (e : Ending) (w' : World) : Prop := ∃ v, e = .returned (.tuple #[v, .bool ok]) ∧ Lst w' w.heap.size v L ∧ Below w.heap.size w w'
def RetL (w : World) (L : List Int) (e : Ending) (w' : World) : Prop := ∃ v, e = .returned v ∧ Lst w' w.heap.size v L ∧ Below w.heap.size w w'
def lFor (g : Bool) (L : List Int) : List Int := if g = true then L else []
theorem lFor_true (L : List Int) : lFor true L = L := rfl
theorem lFor_false (L : List Int) : lFor false L = [] := rfl
theorem lFor_le {g : Bool} {L : List Int} {n : Nat} (h : L.length ≤ n) : (lFor g L).length ≤ n := by
  cases g
  · simp [lFor]
  · exact h

/-! ### the three helpers of the laws -/
theorem eqIntS_same (v1 v2 : Value) (L : List Int) (w : World) {b1 b2 : Nat} (hn : L.length ≤ 1000000000) (h1 : Lst w b1 v1 L) (h2 : Lst w b2 v2 L) :
    Calls Try.prog 19 #[v1, v2] w fun e w' => e = .returned (.bool true) ∧ ∃ k, w' = w.drewN k := by
  by_cases hL : L = []
  · subst hL
    have f1 : ∃ A c, v1 = .slice A 0 c := by rcases h1.shape with ⟨_, rfl⟩ | ⟨g, c, rfl, _⟩ <;> exact ⟨_, _, rfl⟩
    have f2 : ∃ A c, v2 = .slice A 0 c := by rcases h2.shape with ⟨_, rfl⟩ | ⟨g, c, rfl, _⟩ <;> exact ⟨_, _, rfl⟩
    obtain ⟨A, c, rfl⟩ := f1
    obtain ⟨A', c', rfl⟩ := f2
    go_enter Try.func19, Try.ntmps19
    go_wp2
    go_loop [5] (fun s => s = .int .i64 0) (fun _ => 0)
    case atStart => rfl
    case round =>
      obtain rfl := hrel
      go_wp2
      go_ret
      exact ⟨rfl, 0, rfl⟩
  · obtain ⟨g, c, rfl, _, _, hc, _⟩ : ∃ g cap, v1 = .slice (some ⟨g, 0, none⟩) L.length cap ∧ b1 ≤ g ∧ g < w.heap.size ∧ (∀ k, k < L.length → w.cell? ⟨g, k, none⟩ = some (.int .i64 (L.getD k 0))) ∧ (∀ k, w.frozen? ⟨g, k, none⟩ = false) := by
      rcases h1.shape with ⟨h, _⟩ | h
      · exact absurd h hL
      · exact h
    obtain ⟨g', c', rfl, _, _, hc', _⟩ : ∃ g cap, v2 = .slice (some ⟨g, 0, none⟩) L.length cap ∧ b2 ≤ g ∧ g < w.heap.size ∧ (∀ k, k < L.length → w.cell? ⟨g, k, none⟩ = some (.int .i64 (L.getD k 0))) ∧ (∀ k, w.frozen? ⟨g, k, none⟩ = false) := by
      rcases h2.shape with ⟨h, _⟩ | h
      · exact absurd h hL
      · exact h
    clear h1 h2 hL
    go_enter Try.func19, Try.ntmps19
    go_wp2
    go_loopw [5] (fun s wr => ∃ k d : Nat, s = .int .i64 k ∧ k ≤ L.length ∧ wr = w.drewN d) (fun s _ => L.length - (intOf s).toNat)
    case atStart => exact ⟨0, 0, rfl, Nat.zero_le _, rfl⟩
    case round =>
      obtain ⟨k, d, rfl, hk, rfl⟩ := hrel
      by_cases hlt : k < L.length
      · have e1 := hc k hlt
        have e2 := hc' k hlt
        have b1 : (0 : Int) ≤ (k : Int) := by omega
        have b2 : (k : Int) < (L.length : Int) := by omega
        clear hc hc'
        go_wp2
        go_region
        all_goals
          go_wp2
          go_roundw
          case rel => exact ⟨k + 1, d + 1, by go_num, by omega, rfl⟩
          case measure => simp only [intOf]; omega
      · go_wp2
        go_ret
        exact ⟨rfl, d, rfl⟩
def marks (n : Nat) : List Int := (List.range n).map fun i : Nat => 1 + (i : Int)
theorem marks_length (n : Nat) : (marks n).length = n := by simp [marks]
def mix (L : List Int) (k : Nat) : List Value := (List.range L.length).map fun j => if j < k then Value.int .i64 (1 + (j : Int)) else Value.int .i64 (L.getD j 0)
theorem mix_zero (L : List Int) : mix L 0 = L.map (Value.int .i64) := by
  apply List.ext_getElem
  · simp [mix]
  · intro i h1 h2
    simp at h2
    simp [mix, h2]
theorem mix_succ (L : List Int) (k : Nat) : (mix L k).set k (.int .i64 (1 + (k : Int))) = mix L (k + 1) := by
  apply List.ext_getElem
  · simp [mix]
  · intro i h1 h2
    simp [mix] at h2
    simp only [mix, List.getElem_set, List.getElem_map, List.getElem_range]
    by_cases h : k = i
    · subst h; simp
    · by_cases h' : i < k
      · rw [if_neg h, if_pos h', if_pos (by omega)]
      · rw [if_neg h, if_neg h', if_neg (by omega)]
theorem mix_end (L : List Int) : mix L L.length = (marks L.length).map (Value.int .i64) := by
  apply List.ext_getElem
  · simp [mix, marks]
  · intro i h1 h2
    simp [marks] at h2
    simp [mix, marks, h2]
theorem markIntS_any (v : Value) (L : List Int) (w : World) {base : Nat} (hn : L.length ≤ 1000000000) (h : Lst w base v L) :
    Calls Try.prog 20 #[v, .int .i64 1] w fun e w' => e = .returned (.int .i64 (1 + (L.length : Int))) ∧ Lst w' base v (marks L.length) ∧ w.grownBy w' v.ownBlock := by
  by_cases hL : L = []
  · subst hL
    have f1 : ∃ A c, v = .slice A 0 c := by rcases h.shape with ⟨_, rfl⟩ | ⟨g, c, rfl, _⟩ <;> exact ⟨_, _, rfl⟩
    obtain ⟨A, c, rfl⟩ := f1
    go_enter Try.func20, Try.ntmps20
    go_wp2
    go_loop [1, 5] (fun t s => s = .int .i64 0 ∧ t = .int .i64 1) (fun _ _ => 0)
    case atStart => exact ⟨rfl, rfl⟩
    case round =>
      obtain ⟨rfl, rfl⟩ := hrel
      go_wp2
      go_ret
      exact ⟨rfl, h, World.grownBy.refl _ _⟩
  · obtain ⟨g, c, rfl, _, _, _, _⟩ : ∃ g cap, v = .slice (some ⟨g, 0, none⟩) L.length cap ∧ base ≤ g ∧ g < w.heap.size ∧ (∀ k, k < L.length → w.cell? ⟨g, k, none⟩ = some (.int .i64 (L.getD k 0))) ∧ (∀ k, w.frozen? ⟨g, k, none⟩ = false) := by
      rcases h.shape with ⟨h, _⟩ | h
      · exact absurd h hL
      · exact h
    clear hL
    have h0 : w.ownsRow base 3 1 (.slice (some ⟨g, 0, none⟩) L.length c) L.length (mix L 0) := by rw [mix_zero]; exact h
    have HM := Lib.hid (mix_end L)
    clear h
    go_enter Try.func20, Try.ntmps20
    go_wp2
    go_loopw [1, 5] (fun t s wr => ∃ k : Nat, s = .int .i64 k ∧ t = .int .i64 (1 + (k : Int)) ∧ k ≤ L.length ∧ wr.ownsRow base 3 1 (.slice (some ⟨g, 0, none⟩) L.length c) L.length (mix L k) ∧ w.grownBy wr (some g)) (fun _ s _ => L.length - (intOf s).toNat)
    case atStart => exact ⟨0, rfl, rfl, Nat.zero_le _, h0, World.grownBy.refl _ _⟩
    case round =>
      obtain ⟨k, rfl, rfl, hk, hown, hgr⟩ := hrel
      by_cases hlt : k < L.length
      · have hcell : ∃ u, wr.cell? ⟨g, k, none⟩ = some u := by
          rw [World.ownsRow.cellAt hown k (by omega)]
          exact ⟨_, List.getElem?_eq_getElem (by simp [mix, hlt])⟩
        obtain ⟨u, e1⟩ := hcell
        have e2 := World.ownsRow.frozenAt hown k
        have hst := World.ownsRow.stored hown k (.int .i64 (1 + (k : Int)))
        rw [mix_succ] at hst
        obtain ⟨hs1, hs2⟩ := hst
        have hgr' := grown_trans hgr hs2
        clear hown hgr hs2
        go_wp2
        go_roundw
        case rel => exact ⟨k + 1, by go_num, by go_num, by omega, hs1, hgr'⟩
        case measure => simp only [intOf]; omega
      · obtain rfl : k = L.length := by omega
        rw [HM.out] at hown
        have hres : Lst wr base (.slice (some ⟨g, 0, none⟩) L.length c) (marks L.length) := by
          unfold Lst
          rw [marks_length]
          exact hown
        clear hown h0
        go_wp2
        go_ret
        exact ⟨rfl, hres, hgr⟩
theorem heldIntS_any (v : Value) (n : Nat) (w : World) {base : Nat} (hn : n ≤ 1000000000) (h : Lst w base v (marks n)) :
    Calls Try.prog 21 #[v, .int .i64 1] w fun e w' => e = .returned (.int .i64 (1 + (n : Int))) ∧ w = w' := by
  have hml := marks_length n
  by_cases hL : n = 0
  · subst hL
    have f1 : ∃ A c, v = .slice A 0 c := by rcases h.shape with ⟨_, rfl⟩ | ⟨g, c, rfl, _⟩ <;> exact ⟨_, _, rfl⟩
    obtain ⟨A, c, rfl⟩ := f1
    clear h hml
    go_enter Try.func21, Try.ntmps21
    go_wp2
    go_loop [1, 5] (fun t s => s = .int .i64 0 ∧ t = .int .i64 1) (fun _ _ => 0)
    case atStart => exact ⟨rfl, rfl⟩
    case round =>
      obtain ⟨rfl, rfl⟩ := hrel
      go_wp2
      go_ret
      exact ⟨rfl, rfl⟩
  · obtain ⟨g, c, rfl, _, _, hc, _⟩ : ∃ g cap, v = .slice (some ⟨g, 0, none⟩) (marks n).length cap ∧ base ≤ g ∧ g < w.heap.size ∧ (∀ k, k < (marks n).length → w.cell? ⟨g, k, none⟩ = some (.int .i64 ((marks n).getD k 0))) ∧ (∀ k, w.frozen? ⟨g, k, none⟩ = false) := by
      rcases h.shape with ⟨h, _⟩ | h
      · rw [h] at hml; simp at hml; omega
      · exact h
    clear h
    rw [hml] at hc ⊢
    have hc1 : ∀ k, k < n → w.cell? ⟨g, k, none⟩ = some (.int .i64 (1 + (k : Int))) := fun k hk => by
      rw [hc k hk]
      simp [marks, hk]
    clear hc hml
    go_enter Try.func21, Try.ntmps21
    go_wp2
    go_loop [1, 5] (fun t s => ∃ k : Nat, s = .int .i64 k ∧ t = .int .i64 (1 + (k : Int)) ∧ k ≤ n) (fun _ s => n - (intOf s).toNat)
    case atStart => exact ⟨0, rfl, rfl, Nat.zero_le _⟩
    case round =>
      obtain ⟨k, rfl, rfl, hk⟩ := hrel
      by_cases hlt : k < n
      · have e1 := hc1 k hlt
        clear hc1
        go_wp2
        go_round
        case rel => exact ⟨k + 1, by go_num, by go_num, by omega⟩
        case measure => simp only [intOf]; omega
      · obtain rfl : k = n := by omega
        clear hc1
        go_wp2
        go_ret
        exact ⟨rfl, rfl⟩
/-- What the marks leave: the first list as it was, old memory as it was. -/
theorem after_mark {w w1 w2 w4 : World} {v1 v2 : Value} {L : List Int} {k3 : Nat} (b1 : Below w.heap.size w w1) (l1 : Lst w1 w.heap.size v1 L) (b2 : Below w1.heap.size w1 w2) (l2 : Lst w2 w1.heap.size v2 L)
    (g4 : (w2.drewN k3).grownBy w4 v2.ownBlock) : Lst w4 w.heap.size v1 L ∧ Below w.heap.size w w4 := by
  have l1' := (l1.below (Nat.le_refl _) b2).drewN k3
  have l2' := l2.drewN k3
  have s1 := b1.size
  have s2 := b2.size
  refine ⟨l1'.grown l2' (fun k hk => (World.ownsRow.lt l1 k hk).2) g4, ?_⟩
  refine Below.grown (below_drewN (b1.trans (b2.mono s1)) k3) g4 (by show w.heap.size ≤ w2.heap.size; omega) fun k hk => ?_
  have := (World.ownsRow.lt l2 k hk).1
  omega
end Go.Proofs.Ytfnmdcifjdfocaa
