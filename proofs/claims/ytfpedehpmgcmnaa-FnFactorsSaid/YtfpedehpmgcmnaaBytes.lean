/-
  Bytes that came in, as a cursor reads them.
-/
import Derived.Test.YtfpedehpmgcmnaaCur
import Derived.ChangeSame
import Derived.Deep.Slices
namespace Go.Proofs.Ytfpedehpmgcmnaa
open Go.RowKit
set_option linter.unusedSimpArgs false
set_option linter.unusedVariables false

theorem row_code {w : World} {A : Option Addr} {n cap : Nat} {zs : List Int} (h : IsRow .u8 w A n cap zs) : Code8 w w.heap.size A n ∧ n ≤ maxLen := by
  rcases h with ⟨_, rfl, _, _⟩ | ⟨x, rfl, h1, h2, h3, hc, hw⟩
  · exact ⟨fun i hi => by omega, Nat.zero_le _⟩
  · refine ⟨fun i hi => ?_, by omega⟩
    obtain ⟨b, off, spot⟩ := x
    have hspot : spot = none := by simpa [Addr.add] using World.cell?_spot (hc 0 (by omega))
    subst hspot
    have hbl : b < w.heap.size := by
      have := World.block_lt_of_cell? _ _ (hc 0 (by omega))
      simpa [Addr.add] using this
    have hci := hc i (by omega)
    have hwi := hw (zs.getD i 0) (by simp [show i < zs.length by omega])
    simp [Lit.wf, IntKind.min, IntKind.max, IntKind.bits, IntKind.signed] at hwi
    refine ⟨b, off, zs.getD i 0, rfl, hbl, by simpa using hwi.1, by simpa using hwi.2, ?_⟩
    rw [← hci, Go.WideShapes.add_plain]
end Go.Proofs.Ytfpedehpmgcmnaa
