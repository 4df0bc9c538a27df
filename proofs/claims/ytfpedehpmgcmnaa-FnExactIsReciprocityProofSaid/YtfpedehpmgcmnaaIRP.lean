/-
  Plain facts: whether steps follow each other to the end.
-/
import Derived.Test.YtfpedehpmgcmnaaRPf
namespace Go.Proofs.Ytfpedehpmgcmnaa
open Go.RowKit
set_option linter.unusedSimpArgs false
set_option linter.unusedVariables false

abbrev z3 : T3 := (0, 0, 0)
def chk (L : List T3) (k : Nat) : Bool := !(endB (L.getD (k - 1) z3).1) && decide (L.getD k z3 = nxt3 (L.getD (k - 1) z3))
def ChkTo (L : List T3) (k : Nat) : Prop := ∀ j, 1 ≤ j → j < k → chk L j = true
def hdB (L : List T3) : Bool := decide ((L.getD 0 z3).2.2 = 1) && (oddM (L.getD 0 z3).2.1 && good (L.getD 0 z3).1)
def isRP (L : List T3) : Bool := (decide (1 ≤ L.length) && hdB L) && ((List.range L.length).all (fun k => decide (k = 0) || chk L k) && endB (L.getD (L.length - 1) z3).1)
theorem ChkTo.succ {L : List T3} {k : Nat} (h : ChkTo L k) (hk : chk L k = true) : ChkTo L (k + 1) := fun j j1 j2 => by
  rcases Nat.lt_or_ge j k with h1 | h1
  · exact h j j1 h1
  · have : j = k := by omega
    subst this
    exact hk
theorem isRP_nil : isRP [] = false := rfl
theorem isRP_hd {L : List T3} (h : hdB L = false) : isRP L = false := by simp [isRP, h]
theorem isRP_chk {L : List T3} {k : Nat} (h1 : 1 ≤ k) (hk : k < L.length) (h : chk L k = false) : isRP L = false := by
  have : (List.range L.length).all (fun k => decide (k = 0) || chk L k) = false := by
    rw [List.all_eq_false]
    exact ⟨k, List.mem_range.2 hk, by simp [h]; omega⟩
  simp [isRP, this]
theorem isRP_end {L : List T3} (h0 : 1 ≤ L.length) (hh : hdB L = true) (hc : ChkTo L L.length) : isRP L = endB (L.getD (L.length - 1) z3).1 := by
  have : (List.range L.length).all (fun k => decide (k = 0) || chk L k) = true := by
    rw [List.all_eq_true]
    intro k hk
    rcases Nat.eq_zero_or_pos k with h | h
    · simp [h]
    · rw [hc k h (List.mem_range.1 hk)]; simp
  simp [isRP, this, hh, h0]
theorem hd_sy {L : List T3} (h : hdB L = true) : ∃ V, SyI V (L.getD 0 z3).1 (L.getD 0 z3).2.1 (L.getD 0 z3).2.2 := by
  simp only [hdB, Bool.and_eq_true, decide_eq_true_eq] at h
  obtain ⟨h1, h2, h3⟩ := h
  have ha := good_iff.1 h3
  have hn := oddM_iff.1 h2
  rw [h1]
  exact ⟨_, ha.1, ha.2, hn.1, hn.2.1, hn.2.2, .inl rfl, rfl⟩
theorem chk_sy {L : List T3} (h : hdB L = true) : ∀ k, ChkTo L (k + 1) → ∃ V, SyI V (L.getD k z3).1 (L.getD k z3).2.1 (L.getD k z3).2.2
  | 0, _ => hd_sy h
  | k + 1, hc => by
    obtain ⟨V, hV⟩ := chk_sy h k (fun j j1 j2 => hc j j1 (by omega))
    have h1 := hc (k + 1) (by omega) (by omega)
    simp only [chk, Bool.and_eq_true, decide_eq_true_eq, Nat.add_sub_cancel, Bool.not_eq_true'] at h1
    have h0 : (L.getD k z3).1 ≠ 0 := fun h => by rw [h] at h1; exact absurd h1.1 (by decide)
    rw [h1.2]
    exact ⟨V, hV.suc h0⟩
theorem chk_end {L : List T3} {k : Nat} {T B S : Int} (hp : L.getD k z3 = (T, B, S)) (he : endB T = true) : chk L (k + 1) = false := by
  simp only [chk, Nat.add_sub_cancel, hp, he]; rfl
theorem chk_ne {L : List T3} {k : Nat} {T B S x y z : Int} (hp : L.getD k z3 = (T, B, S)) (hc : L.getD (k + 1) z3 = (x, y, z)) (h : ¬ (x = sucT T B ∧ y = sucB T B ∧ z = sucS T B S)) : chk L (k + 1) = false := by
  simp only [chk, Nat.add_sub_cancel, hp, hc, nxt3, Prod.mk.injEq, decide_eq_false h, Bool.and_false]
theorem chk_yes {L : List T3} {k : Nat} {T B S x y z : Int} (hp : L.getD k z3 = (T, B, S)) (hc : L.getD (k + 1) z3 = (x, y, z)) (he : endB T = false) (h : x = sucT T B ∧ y = sucB T B ∧ z = sucS T B S) : chk L (k + 1) = true := by
  simp only [chk, Nat.add_sub_cancel, hp, hc, he, nxt3, Prod.mk.injEq, decide_eq_true h, Bool.and_true, Bool.not_false]
/-- six cells of a list, still there behind new blocks -/
def Six (w : World) (g i j : Nat) (T B S x y z : Int) : Prop :=
  (w.cell? ⟨g, i, none⟩ = some (.int .i64 T) ∧ w.cell? ⟨g, i + 1, none⟩ = some (.int .i64 B) ∧ w.cell? ⟨g, i + 2, none⟩ = some (.int .i64 S)) ∧
  (w.cell? ⟨g, j, none⟩ = some (.int .i64 x) ∧ w.cell? ⟨g, j + 1, none⟩ = some (.int .i64 y) ∧ w.cell? ⟨g, j + 2, none⟩ = some (.int .i64 z))
end Go.Proofs.Ytfpedehpmgcmnaa
