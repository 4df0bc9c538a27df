/-
  Slices of structs of three integers that a call hands back, and the laws' helpers that compare and mark them.
-/
import Derived.Test.YtfpedehpmgcmnaaTriP
import Derived.StillTailTactics
import Derived.Deep.QuietTactic
import Derived.BigQuiet
namespace Go.Proofs.Ytfpedehpmgcmnaa
open Go.RowKit
set_option linter.unusedSimpArgs false
set_option linter.unusedVariables false

theorem Try.infoSt : (Try.prog.info? 61).map (fun i => (i.zero, i.size, i.bytes)) = some (some (.agg #[.int .i64 0, .int .i64 0, .int .i64 0]), 3, 24) := by kernel_rfl
/-- The slice value v holds the triples L, in memory from block 'base' on (or is nil and L is empty). -/
def StLst (w : World) (base : Nat) (v : Value) (L : List T3) : Prop := w.ownsRow base 61 3 v L.length (flat L)
theorem StLst.nil (w : World) (base : Nat) : StLst w base (.slice none 0 0) [] := World.ownsRow_nil _ _ _ _
theorem StLst.empty {W : World} {base g : Nat} (hg : g = W.heap.size) (h : base ≤ g) : StLst (W.alloc (.cells #[] 61)) base (.slice (some ⟨g, 0, none⟩) 0 0) [] := by
  subst hg
  have := World.ownsRow_lit (base := base) (e := 61) (size := 3) W #[] 0 h (by simp [maxLen]) rfl
  simpa [StLst, flat] using this
theorem StLst.one {W : World} {base g : Nat} (a b c : Int) (hg : g = W.heap.size) (h : base ≤ g) : StLst (W.alloc (.cells #[.int .i64 a, .int .i64 b, .int .i64 c] 61)) base (.slice (some ⟨g, 0, none⟩) 1 1) [(a, b, c)] := by
  subst hg
  exact World.ownsRow_lit (base := base) (e := 61) (size := 3) W #[.int .i64 a, .int .i64 b, .int .i64 c] 1 h (by simp [maxLen]) rfl
theorem StLst.own {w : World} {base : Nat} {v : Value} {L : List T3} (h : StLst w base v L) : w.ownsRow base 61 3 v L.length (flat L) := h
theorem StLst.cell {w : World} {base g cap : Nat} {L : List T3} (h : StLst w base (.slice (some ⟨g, 0, none⟩) L.length cap) L) {k : Nat} (hk : k < L.length) :
    w.cell? ⟨g, k * 3, none⟩ = some (.int .i64 (L.getD k (0, 0, 0)).1) ∧ w.cell? ⟨g, k * 3 + 1, none⟩ = some (.int .i64 (L.getD k (0, 0, 0)).2.1) ∧ w.cell? ⟨g, k * 3 + 2, none⟩ = some (.int .i64 (L.getD k (0, 0, 0)).2.2) := by
  have hg := flat_get L k hk
  exact ⟨by rw [World.ownsRow.cellAt h.own _ (by omega)]; exact hg.1, by rw [World.ownsRow.cellAt h.own _ (by omega)]; exact hg.2.1, by rw [World.ownsRow.cellAt h.own _ (by omega)]; exact hg.2.2⟩
theorem StLst.shape {w : World} {base : Nat} {v : Value} {L : List T3} (h : StLst w base v L) : (L = [] ∧ v = .slice none 0 0) ∨
    ∃ g cap, v = .slice (some ⟨g, 0, none⟩) L.length cap ∧ base ≤ g ∧ g < w.heap.size := by
  have h0 := h
  obtain ⟨hl, h⟩ := h
  rcases h with ⟨rfl, h⟩ | ⟨g, cap, cur, rfl, hb, hh, hn, hc, hs, ht⟩
  · exact .inl ⟨List.eq_nil_of_length_eq_zero h, rfl⟩
  · exact .inr ⟨g, cap, rfl, hb, (Array.getElem?_eq_some_iff.1 hh).1⟩
theorem StLst.full {w : World} {base : Nat} {v : Value} {L : List T3} (h : StLst w base v L) (h1 : 1 ≤ L.length) : ∃ g cap, v = .slice (some ⟨g, 0, none⟩) L.length cap ∧ base ≤ g ∧ g < w.heap.size := by
  rcases h.shape with ⟨rfl, _⟩ | h
  · simp at h1
  · exact h
theorem StLst.len0 {w : World} {base : Nat} {v : Value} (h : StLst w base v []) : ∃ A c, v = .slice A 0 c := by
  rcases h.shape with ⟨_, rfl⟩ | ⟨g, c, rfl, _⟩ <;> exact ⟨_, _, rfl⟩
theorem StLst.below {w w' : World} {base : Nat} {v : Value} {L : List T3} (h : StLst w base v L) {B : Nat} (hB : w.heap.size ≤ B) (hb : Below B w w') : StLst w' base v L := by
  refine ⟨h.1, ?_⟩
  rcases h.2 with h | ⟨g, cap, cur, rfl, h1, hh, r⟩
  · exact .inl h
  · have := (Array.getElem?_eq_some_iff.1 hh).1
    exact .inr ⟨g, cap, cur, rfl, h1, by rw [hb.block g (by omega)]; exact hh, r⟩
theorem StLst.drewN {w : World} {base : Nat} {v : Value} {L : List T3} (h : StLst w base v L) (k : Nat) : StLst (w.drewN k) base v L := h
theorem StLst.base {w : World} {base b' : Nat} {v : Value} {L : List T3} (h : StLst w base v L) (hb : b' ≤ base) : StLst w b' v L := by
  refine ⟨h.1, ?_⟩
  rcases h.2 with h | ⟨g, cap, cur, rfl, h1, r⟩
  · exact .inl h
  · exact .inr ⟨g, cap, cur, rfl, by omega, r⟩
theorem StLst.grown {w w' : World} {base base' : Nat} {v v' : Value} {L L' : List T3} (h : StLst w base v L) (h' : StLst w base' v' L') (hlt : ∀ k, v.ownBlock = some k → k < base') (hg : w.grownBy w' v'.ownBlock) : StLst w' base v L := by
  refine World.ownsRow.kept h hg ?_
  rcases hb : v.ownBlock with _ | k
  · exact .inl rfl
  · refine .inr fun he => ?_
    have h1 := hlt k hb
    have h2 := (World.ownsRow.lt h' k he.symm).1
    omega
theorem StLst.snoc {w : World} {base : Nat} {v : Value} {L : List T3} {a b c : Int} (h : w.ownsRow base 61 3 v (L.length + 1) (flat L ++ [.int .i64 a, .int .i64 b, .int .i64 c])) : StLst w base v (L ++ [(a, b, c)]) := by
  unfold StLst
  rw [flat_append, flat_one, List.length_append]
  exact h
theorem Stsnoc_below {w wr w1 : World} {v : Value} {L : List T3} {o : Obj} (hb : Below w.heap.size w wr) (hl : StLst wr w.heap.size v L) (hg : (wr.alloc o).grownBy w1 v.ownBlock) : Below w.heap.size w w1 := by
  have hs := hb.size
  exact Below.grown (hb.alloc hs o) hg (by simp; omega) fun k hk => (World.ownsRow.lt hl k hk).1
def StRetS (w : World) (L : List T3) (ok : Bool) (e : Ending) (w' : World) : Prop := ∃ v, e = .returned (.tuple #[v, .bool ok]) ∧ StLst w' w.heap.size v L ∧ Below w.heap.size w w'
def StRetL (w : World) (L : List T3) (e : Ending) (w' : World) : Prop := ∃ v, e = .returned v ∧ StLst w' w.heap.size v L ∧ Below w.heap.size w w'

/-! ### the helpers of the laws -/
theorem eqSymbolStep_same (a b c : Int) (w : World) : Calls Try.prog 49 #[.agg #[.int .i64 a, .int .i64 b, .int .i64 c], .agg #[.int .i64 a, .int .i64 b, .int .i64 c]] w fun e w' => e = .returned (.bool true) ∧ Below w.heap.size w w' := by
  go_enter Try.func49, Try.ntmps49
  go_wp2
  go_ret
  exact ⟨rfl, (by repeat' (first | (with_reducible exact Below.refl _ _) | (with_reducible assumption) | (with_reducible refine Below.alloc ?_ ?_ _) | (with_reducible refine Below.drew ?_) | (with_reducible refine below_drewN ?_ _) | (with_reducible refine Below.setCell ?_ ?_ _) | go_size))⟩
set_option maxHeartbeats 800000 in
theorem eqSymbolStepS_same (v1 v2 : Value) (L : List T3) (w : World) {b1 b2 : Nat} (hn : L.length ≤ 1000000000) (h1 : StLst w b1 v1 L) (h2 : StLst w b2 v2 L) :
    Calls Try.prog 12 #[v1, v2] w fun e w' => e = .returned (.bool true) ∧ Below w.heap.size w w' := by
  by_cases hL : L = []
  · subst hL
    obtain ⟨A, c, rfl⟩ := h1.len0
    obtain ⟨A', c', rfl⟩ := h2.len0
    go_enter Try.func12, Try.ntmps12
    go_wp2
    go_loop [5] (fun s => s = .int .i64 0) (fun _ => 0)
    case atStart => rfl
    case round =>
      obtain rfl := hrel
      go_wp2
      go_ret
      exact ⟨rfl, Below.refl _ _⟩
  · have hpos : 1 ≤ L.length := List.length_pos_iff.2 hL
    obtain ⟨g, c, rfl, _, g1⟩ := h1.full hpos
    obtain ⟨g', c', rfl, _, g2⟩ := h2.full hpos
    have H1 := Lib.hid h1
    have H2 := Lib.hid h2
    clear h1 h2 hL
    go_enter Try.func12, Try.ntmps12
    go_wp2
    go_loopw [5] (fun s wr => ∃ k : Nat, s = .int .i64 k ∧ k ≤ L.length ∧ Below w.heap.size w wr) (fun s _ => L.length - (intOf s).toNat)
    case atStart => exact ⟨0, rfl, Nat.zero_le _, Below.refl _ _⟩
    case round =>
      obtain ⟨k, rfl, hk, hb⟩ := hrel
      have hsz := hb.size
      by_cases hlt : k < L.length
      · obtain ⟨t, ht⟩ : ∃ t, L.getD k (0, 0, 0) = t := ⟨_, rfl⟩
        obtain ⟨x, y, z⟩ := t
        have e1 := H1.out.cell hlt
        have e2 := H2.out.cell hlt
        rw [ht] at e1 e2
        obtain ⟨p1, p2, p3⟩ := e1
        obtain ⟨q1, q2, q3⟩ := e2
        rw [← (bcell hb).1 _ _ g1] at p1 p2 p3
        rw [← (bcell hb).1 _ _ g2] at q1 q2 q3
        clear ht
        have k0 : (0 : Int) ≤ (k : Int) := by omega
        have k1 : (k : Int) < (L.length : Int) := by omega
        go_wp2
        go_still_tail 8, (by kernel_rfl)
        change wpList _ _ _ _ _ wr.drew
        have hbd : Below w.heap.size w wr.drew := hb.drew
        generalize wr.drew = w2 at hbd ⊢
        go_wp2_with fail
        ((with_reducible refine (eqSymbolStep_same _ _ _ _).mono ?_); rintro e w3 ⟨rfl, hb3⟩)
        have hb4 := hbd.trans (hb3.mono hbd.size)
        clear hb3 hbd p1 p2 p3 q1 q2 q3
        go_wp2
        go_roundw
        case rel => exact ⟨k + 1, by go_num, by omega, hb4⟩
        case measure => simp only [intOf]; omega
      · go_wp2
        go_ret
        exact ⟨rfl, hb⟩
set_option maxHeartbeats 800000 in
theorem markSymbolStepS_any (v : Value) (L : List T3) (w : World) {base : Nat} (hn : L.length ≤ 1000000000) (h : StLst w base v L) :
    Calls Try.prog 15 #[v, .int .i64 1] w fun e w' => e = .returned (.int .i64 (1 + 3 * (L.length : Int))) ∧ StLst w' base v (marks3 L.length) ∧ w.grownBy w' v.ownBlock := by
  by_cases hL : L = []
  · subst hL
    obtain ⟨A, c, rfl⟩ := h.len0
    go_enter Try.func15, Try.ntmps15
    go_wp2
    go_loop [1, 5] (fun t s => s = .int .i64 0 ∧ t = .int .i64 1) (fun _ _ => 0)
    case atStart => exact ⟨rfl, rfl⟩
    case round =>
      obtain ⟨rfl, rfl⟩ := hrel
      go_wp2
      go_ret
      exact ⟨rfl, h, World.grownBy.refl _ _⟩
  · have hpos : 1 ≤ L.length := List.length_pos_iff.2 hL
    obtain ⟨g, c, rfl, _, _⟩ := h.full hpos
    have h0 : w.ownsRow base 61 3 (.slice (some ⟨g, 0, none⟩) L.length c) L.length (mix3 L 0) := by rw [mix3_zero]; exact h
    have HM := Lib.hid (mix3_end L)
    clear h hL
    go_enter Try.func15, Try.ntmps15
    go_wp2
    go_loopw [1, 5] (fun t s wr => ∃ k : Nat, s = .int .i64 k ∧ t = .int .i64 (1 + 3 * (k : Int)) ∧ k ≤ L.length ∧ wr.ownsRow base 61 3 (.slice (some ⟨g, 0, none⟩) L.length c) L.length (mix3 L (k * 3)) ∧ w.grownBy wr (some g)) (fun _ s _ => L.length - (intOf s).toNat)
    case atStart => exact ⟨0, rfl, rfl, Nat.zero_le _, h0, World.grownBy.refl _ _⟩
    case round =>
      obtain ⟨k, rfl, rfl, hk, hown, hgr⟩ := hrel
      by_cases hlt : k < L.length
      · have hc : ∀ j, j < L.length * 3 → ∃ u, wr.cell? ⟨g, j, none⟩ = some u := fun j hj => by
          rw [World.ownsRow.cellAt hown j hj]
          exact ⟨_, List.getElem?_eq_getElem (by rw [mix3_length]; exact hj)⟩
        obtain ⟨u0, e0⟩ := hc (k * 3) (by omega)
        obtain ⟨u1, e1⟩ := hc (k * 3 + 1) (by omega)
        obtain ⟨u2, e2⟩ := hc (k * 3 + 2) (by omega)
        have f0 := World.ownsRow.frozenAt hown (k * 3)
        have f1 := World.ownsRow.frozenAt hown (k * 3 + 1)
        have f2 := World.ownsRow.frozenAt hown (k * 3 + 2)
        have s1 := World.ownsRow.stored hown (k * 3) (.int .i64 (1 + ((k * 3 : Nat) : Int)))
        rw [mix3_succ] at s1
        have s2 := World.ownsRow.stored s1.1 (k * 3 + 1) (.int .i64 (1 + ((k * 3 + 1 : Nat) : Int)))
        rw [mix3_succ] at s2
        have s3 := World.ownsRow.stored s2.1 (k * 3 + 2) (.int .i64 (1 + ((k * 3 + 2 : Nat) : Int)))
        rw [mix3_succ] at s3
        have hgr' := grown_trans (grown_trans (grown_trans hgr s1.2) s2.2) s3.2
        have hs3 := s3.1
        rw [show 1 + ((k * 3 : Nat) : Int) = 1 + 3 * (k : Int) by omega, show 1 + ((k * 3 + 1 : Nat) : Int) = 1 + 3 * (k : Int) + 1 by omega, show 1 + ((k * 3 + 2 : Nat) : Int) = 1 + 3 * (k : Int) + 1 + 1 by omega] at hs3 hgr'
        have HS3 := Lib.hid hs3
        have HGR := Lib.hid hgr'
        clear hown hgr s1 s2 s3 hs3 hgr' hc
        go_wp2
        go_roundw
        case rel => exact ⟨k + 1, by go_num, by go_num, by omega, by rw [show (k + 1) * 3 = k * 3 + 2 + 1 by omega]; exact HS3.out, HGR.out⟩
        case measure => simp only [intOf]; omega
      · obtain rfl : k = L.length := by omega
        rw [HM.out] at hown
        have hres : StLst wr base (.slice (some ⟨g, 0, none⟩) L.length c) (marks3 L.length) := by
          unfold StLst
          rw [marks3_length]
          exact hown
        clear hown h0
        go_wp2
        go_ret
        exact ⟨rfl, hres, hgr⟩
set_option maxHeartbeats 800000 in
theorem heldSymbolStepS_any (v : Value) (n : Nat) (w : World) {base : Nat} (hn : n ≤ 1000000000) (h : StLst w base v (marks3 n)) :
    Calls Try.prog 16 #[v, .int .i64 1] w fun e w' => e = .returned (.int .i64 (1 + 3 * (n : Int))) ∧ w = w' := by
  have hml := marks3_length n
  by_cases hL : n = 0
  · subst hL
    obtain ⟨A, c, rfl⟩ := h.len0
    clear h hml
    go_enter Try.func16, Try.ntmps16
    go_wp2
    go_loop [1, 5] (fun t s => s = .int .i64 0 ∧ t = .int .i64 1) (fun _ _ => 0)
    case atStart => exact ⟨rfl, rfl⟩
    case round =>
      obtain ⟨rfl, rfl⟩ := hrel
      go_wp2
      go_ret
      exact ⟨rfl, rfl⟩
  · obtain ⟨g, c, rfl, _, _⟩ := h.full (by rw [hml]; omega)
    have hc1 : ∀ k, k < n → w.cell? ⟨g, k * 3, none⟩ = some (.int .i64 (1 + 3 * (k : Int))) ∧ w.cell? ⟨g, k * 3 + 1, none⟩ = some (.int .i64 (1 + 3 * (k : Int) + 1)) ∧ w.cell? ⟨g, k * 3 + 2, none⟩ = some (.int .i64 (1 + 3 * (k : Int) + 1 + 1)) := fun k hk => by
      have := h.cell (k := k) (by rw [hml]; exact hk)
      rw [marks3_get hk] at this
      rw [show 1 + 3 * (k : Int) = 1 + ((k * 3 : Nat) : Int) by omega, show 1 + ((k * 3 : Nat) : Int) + 1 = 1 + ((k * 3 + 1 : Nat) : Int) by omega, show 1 + ((k * 3 + 1 : Nat) : Int) + 1 = 1 + ((k * 3 + 2 : Nat) : Int) by omega]
      exact this
    have HC := Lib.hid hc1
    rw [hml]
    clear h hc1 hml
    go_enter Try.func16, Try.ntmps16
    go_wp2
    go_loop [1, 5] (fun t s => ∃ k : Nat, s = .int .i64 k ∧ t = .int .i64 (1 + 3 * (k : Int)) ∧ k ≤ n) (fun _ s => n - (intOf s).toNat)
    case atStart => exact ⟨0, rfl, rfl, Nat.zero_le _⟩
    case round =>
      obtain ⟨k, rfl, rfl, hk⟩ := hrel
      by_cases hlt : k < n
      · obtain ⟨e0, e1, e2⟩ := HC.out k hlt
        go_wp2
        go_round
        case rel => exact ⟨k + 1, by go_num, by go_num, by omega⟩
        case measure => simp only [intOf]; omega
      · obtain rfl : k = n := by omega
        go_wp2
        go_ret
        exact ⟨rfl, rfl⟩
/-- What the marks leave: the first list as it was, old memory as it was. -/
theorem Stafter_mark {w w1 w2 w3 w4 : World} {v1 v2 : Value} {L : List T3} (b1 : Below w.heap.size w w1) (l1 : StLst w1 w.heap.size v1 L) (b2 : Below w1.heap.size w1 w2) (l2 : StLst w2 w1.heap.size v2 L)
    (b3 : Below w2.heap.size w2 w3) (g4 : w3.grownBy w4 v2.ownBlock) : StLst w4 w.heap.size v1 L ∧ Below w.heap.size w w4 := by
  have l1' := (l1.below (Nat.le_refl _) b2).below (Nat.le_refl _) b3
  have l2' := l2.below (Nat.le_refl _) b3
  have s1 := b1.size
  have s2 := b2.size
  have s3 := b3.size
  refine ⟨l1'.grown l2' (fun k hk => (World.ownsRow.lt l1 k hk).2) g4, ?_⟩
  refine Below.grown ((b1.trans (b2.mono s1)).trans (b3.mono (by omega))) g4 (by omega) fun k hk => ?_
  have := (World.ownsRow.lt l2 k hk).1
  omega
end Go.Proofs.Ytfpedehpmgcmnaa
