/-
  A slice of structs of three integers that came in.
-/
import Derived.Test.YtfpedehpmgcmnaaTriP
import Derived.Test.YtfpedehpmgcmnaaFrame
import Derived.Deep.Slices
import Derived.Deep.Fields
import Derived.ChangeSame
namespace Go.Proofs.Ytfpedehpmgcmnaa
open Go.RowKit
set_option linter.unusedSimpArgs false
set_option linter.unusedVariables false

/-- A slice of structs of three integers that came in. -/
def InTri (w : World) (A : Option Addr) (len cap : Nat) (L : List T3) : Prop :=
  (A = none ∧ len = 0 ∧ cap = 0 ∧ L = []) ∨
  (∃ b off, A = some ⟨b, off, none⟩ ∧ len ≤ cap ∧ cap ≤ maxLen ∧ L.length = len ∧ 0 < len ∧ b < w.heap.size ∧ (∀ k, k < len → w.cell? ⟨b, off + k * 3, none⟩ = some (.int .i64 (L.getD k (0, 0, 0)).1) ∧ w.cell? ⟨b, off + k * 3 + 1, none⟩ = some (.int .i64 (L.getD k (0, 0, 0)).2.1) ∧ w.cell? ⟨b, off + k * 3 + 2, none⟩ = some (.int .i64 (L.getD k (0, 0, 0)).2.2)) ∧
    ∀ k, k < len → In64 (L.getD k (0, 0, 0)).1 ∧ In64 (L.getD k (0, 0, 0)).2.1 ∧ In64 (L.getD k (0, 0, 0)).2.2)
  ∨ (∃ a, A = some a ∧ len = 0 ∧ L = [])
section
open Go.ChangeShapes Go.WideShapes Go.Deep Go.Joins
variable {H : Type} {enc : TypeId × Value → H} {P : Program} {w : World} {base : Nat} {spare : Nat → Bool} {held : Bool}
theorem open_tri {t e : TypeId} {f0 f1 f2 : Field} {fuel : Nat} {A : Option Addr} {len cap : Nat} {x : DataW H × List MemPlace} (ht : P.underlying t = some (.slice e)) (he : P.underlying e = some (.struct #[f0, f1, f2])) (hone : oneCellFields P #[f0, f1, f2] = true) (hC : P.cellsOf e = 3)
    (i0 : P.underlying f0.type = some (.int .i64)) (i1 : P.underlying f1.type = some (.int .i64)) (i2 : P.underlying f2.type = some (.int .i64)) (h : DataW.trod enc P w base spare held fuel t [.slice A len cap] = some x) : ∃ L, InTri w A len cap L := by
  rcases open_slice ht h with ⟨h0, _⟩ | ⟨a, len', cap', m, n, D, Pl, hcs, hb, hl, hm, hmm, hx, hi⟩
  · simp at h0
    obtain ⟨rfl, rfl, rfl⟩ := h0
    exact ⟨[], .inl ⟨rfl, rfl, rfl, rfl⟩⟩
  · simp at hcs
    obtain ⟨rfl, rfl, rfl⟩ := hcs
    have hlm : len ≤ m := by rw [hmm]; split <;> omega
    have key : ∀ k, k < len → ∃ q : T3, (w.cell? (a.add (k * 3)) = some (.int .i64 q.1) ∧ w.cell? (a.add (k * 3 + 1)) = some (.int .i64 q.2.1) ∧ w.cell? (a.add (k * 3 + 2)) = some (.int .i64 q.2.2)) ∧ In64 q.1 ∧ In64 q.2.1 ∧ In64 q.2.2 := fun k hk => by
      obtain ⟨cs', hc, ht'⟩ := hi k (by omega)
      rw [hC] at hc
      obtain ⟨_, hcl, hat⟩ := World.cells?_some hc
      obtain ⟨y0, y1, y2, n', _, _, h0, h1, h2⟩ := trod_struct3 he ht'
      obtain ⟨o0, k0⟩ := hone_of hone 0 f0 rfl
      obtain ⟨o1, k1⟩ := hone_of hone 1 f1 rfl
      obtain ⟨o2, k2⟩ := hone_of hone 2 f2 rfl
      match cs', hcl with
      | [c0, c1, c2], _ =>
        obtain ⟨n0, e0, _, w0⟩ := DataW.trod_int i0 h0
        obtain ⟨n1, e1, _, w1⟩ := DataW.trod_int i1 h1
        obtain ⟨n2, e2, _, w2⟩ := DataW.trod_int i2 h2
        simp [o0, k0] at e0
        simp [o1, k1] at e1
        simp [o2, k2] at e2
        subst e0 e1 e2
        have a0 := hat 0 (by omega)
        have a1 := hat 1 (by omega)
        have a2 := hat 2 (by omega)
        rw [Go.Deep.add_add] at a0 a1 a2
        exact ⟨(n0, n1, n2), ⟨a0, a1, a2⟩, wf_in w0, wf_in w1, wf_in w2⟩
    obtain ⟨V, hV⟩ := choose_lt key
    rcases Nat.eq_zero_or_pos len with h0 | h0
    · exact ⟨[], .inr (.inr ⟨a, rfl, h0, rfl⟩)⟩
    · obtain ⟨b, off, spot⟩ := a
      have hspot : spot = none := by simpa [Addr.add] using World.cell?_spot (hV 0 h0).1.1
      subst hspot
      have hbl : b < w.heap.size := by
        have := World.block_lt_of_cell? _ _ (hV 0 h0).1.1
        simpa [Addr.add] using this
      refine ⟨(List.range len).map V, .inr (.inl ⟨b, off, rfl, hl, hm, by simp, h0, hbl, fun k hk => ?_, fun k hk => ?_⟩)⟩
      · have e : ((List.range len).map V).getD k (0, 0, 0) = V k := by simp [hk]
        rw [e]
        have := (hV k hk).1
        simp only [add_plain] at this
        simpa [Nat.add_assoc] using this
      · have e : ((List.range len).map V).getD k (0, 0, 0) = V k := by simp [hk]
        rw [e]
        exact (hV k hk).2
end
end Go.Proofs.Ytfpedehpmgcmnaa
