/-
  Contract: a number is put into an ascending list.
-/
import Derived.Test.YtfpedehpmgcmnaaMobP
import Derived.Laws.AppendOwnNone
namespace Go.Proofs.Ytfpedehpmgcmnaa
open Go.RowKit
set_option linter.unusedSimpArgs false
set_option linter.unusedVariables false

def PutR (b : Nat) (L : List Int) (n : Int) (w : World) (e : Ending) (w' : World) : Prop := ∃ v', e = .returned v' ∧ Lst w' b v' (putL L n) ∧ Below w.heap.size w w'
def AllLt (L : List Int) (n : Int) (k : Nat) : Prop := ∀ j, j < k → L.getD j 0 < n
theorem AllLt.succ {L : List Int} {n x : Int} {k : Nat} (h : AllLt L n k) (hx : L.getD k 0 = x) (hn : x < n) : AllLt L n (k + 1) := fun j hj => by
  rcases Nat.lt_or_ge j k with h1 | h1
  · exact h j h1
  · have : j = k := by omega
    subst this
    rw [hx]; exact hn
theorem AllLt.notMem {L : List Int} {n : Int} (h : AllLt L n L.length) : n ∉ L := fun hm => by
  obtain ⟨i, hi, he⟩ := List.mem_iff_getElem.1 hm
  have := h i hi
  simp [List.getD_eq_getElem?_getD, hi, he] at this
theorem putL_new {L : List Int} {n : Int} (h : n ∉ L) : putL L n = L ++ [n] := by unfold putL; rw [if_neg h]
theorem putL_old {L : List Int} {n : Int} (h : n ∈ L) : putL L n = L := by unfold putL; rw [if_pos h]
theorem getD_mem {L : List Int} {k : Nat} {x : Int} (hk : k < L.length) (hx : L.getD k 0 = x) : x ∈ L := by
  rw [← hx]
  simp [List.getD_eq_getElem?_getD, hk]

theorem Lst.some' {w : World} {base : Nat} {v : Value} {L : List Int} (h : Lst w base v L) (h1 : 1 ≤ L.length) : ∃ g cap, v = .slice (some ⟨g, 0, none⟩) L.length cap ∧ base ≤ g ∧ g < w.heap.size ∧ (∀ k, k < L.length → w.cell? ⟨g, k, none⟩ = some (.int .i64 (L.getD k 0))) ∧ (∀ k, w.frozen? ⟨g, k, none⟩ = false) := by
  rcases h.shape with ⟨rfl, _⟩ | h
  · simp at h1
  · exact h
theorem one_news {W : World} {g : Nat} {T : TypeId} {x : Value} (hg : g = W.heap.size) : ∀ j u, [x][j]? = some u → (W.alloc (.cells #[x] T)).cell? ((⟨g, 0, none⟩ : Addr).add j) = some u := by
  subst hg
  intro j u hj
  match j, hj with
  | 0, hj => simp at hj; subst hj; simp [Addr.add]
theorem one_cells (n : Int) : ∀ u ∈ [Value.int .i64 n], u.oneCell' = true := by intro u hu; simp at hu; subst hu; rfl
theorem int_cells (L : List Int) : ∀ u ∈ L.map (Value.int .i64), u.oneCell' = true := by
  intro u hu
  obtain ⟨y, _, rfl⟩ := List.mem_map.1 hu
  rfl
theorem no_news {W : World} {a : Addr} : ∀ (j : Nat) (u : Value), ([] : List Value)[j]? = some u → W.cell? (a.add j) = some u := by
  intro j u hj
  simp at hj
theorem no_cells : ∀ u ∈ ([] : List Value), u.oneCell' = true := by
  intro u hu
  cases hu
end Go.Proofs.Ytfpedehpmgcmnaa
