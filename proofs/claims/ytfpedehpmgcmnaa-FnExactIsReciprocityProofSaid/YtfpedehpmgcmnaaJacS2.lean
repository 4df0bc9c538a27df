/-
  Contract: the symbol of Jacobi, of the reference.
-/
import Derived.Test.YtfpedehpmgcmnaaJacS
namespace Go.Proofs.Ytfpedehpmgcmnaa
open Go.RowKit
set_option linter.unusedSimpArgs false
set_option linter.unusedVariables false

/-- a step (T/B) with sign S, whose value is V -/
structure SyI (V T B S : Int) : Prop where
  t1 : -1000000 ≤ T
  t2 : T ≤ 1000000
  b1 : 1 ≤ B
  b2 : B ≤ 1000000
  odd : B % 2 = 1
  sign : S = 1 ∨ S = -1
  val : S * Jac.J T B.toNat = V
theorem SyI.suc {V T B S : Int} (h : SyI V T B S) (h0 : T ≠ 0) : SyI V (sucT T B) (sucB T B) (sucS T B S) := by
  obtain ⟨t1, t2, b1, b2, odd, sign, val⟩ := h
  obtain ⟨m, rfl⟩ : ∃ m : Nat, B = m := ⟨B.toNat, by omega⟩
  rw [Int.toNat_natCast] at val
  have mo : m % 2 = 1 := by omega
  by_cases hin : 0 ≤ T ∧ T ≤ m - 1
  · obtain ⟨y, rfl⟩ : ∃ y : Nat, T = y := ⟨T.toNat, by omega⟩
    have hs : Sy V S y m := ⟨sign, mo, val⟩
    by_cases he : (y : Int) % 2 = 0
    · obtain ⟨e1, e2, e3⟩ := suc_even S hin he
      have hn := hs.half (by omega)
      rw [e1, e2, e3]
      exact ⟨by omega, by omega, b1, b2, odd, hn.sign, by rw [Int.toNat_natCast]; exact hn.val⟩
    · obtain ⟨e1, e2, e3⟩ := suc_odd S hin (by omega)
      rw [e1, e2, e3]
      by_cases hf : (y : Int) % 4 = 3 ∧ (m : Int) % 4 = 3
      · have hn := hs.swapM (by omega) (by omega)
        rw [if_pos hf]
        exact ⟨by omega, by omega, by omega, by omega, by omega, hn.sign, by rw [Int.toNat_natCast]; exact hn.val⟩
      · have hn := hs.swapP (by omega) (by omega)
        rw [if_neg hf]
        exact ⟨by omega, by omega, by omega, by omega, by omega, hn.sign, by rw [Int.toNat_natCast]; exact hn.val⟩
  · obtain ⟨e1, e2, e3⟩ := suc_out S hin
    rw [e1, e2, e3]
    have r1 := Int.emod_nonneg T (show (m : Int) ≠ 0 by omega)
    have r2 := Int.emod_lt_of_pos T (show 0 < (m : Int) by omega)
    exact ⟨by omega, by omega, b1, b2, odd, sign, by rw [Int.toNat_natCast, Jac.J_emod _ mo]; exact val⟩
theorem SyI.val1 {V S : Int} (h : SyI V 0 1 S) : V = S := by
  have := h.val
  rw [show (1 : Int).toNat = 1 from rfl, Jac.J_one] at this
  simpa using this.symm
theorem SyI.val0 {V B S : Int} (h : SyI V 0 B S) (hB : ¬ B = 1) : V = 0 := by
  have := h.val
  have b1 := h.b1
  rw [Jac.J_zero_left (by omega)] at this
  simpa using this.symm
theorem SyI.top1 {V B S : Int} (h : SyI V 1 B S) : V = S := by
  have := h.val
  have b1 := h.b1
  have o := h.odd
  rw [J_one_left (by omega)] at this
  simpa using this.symm
def stepMu (T B : Int) : Nat := B.toNat * 2000000 + if 0 ≤ T ∧ T ≤ B - 1 then T.toNat else 1000001
theorem mu_lt {V T B S : Int} (h : SyI V T B S) (h0 : T ≠ 0) (h1 : T ≠ 1) : stepMu (sucT T B) (sucB T B) < stepMu T B := by
  obtain ⟨t1, t2, b1, b2, odd, sign, val⟩ := h
  by_cases hin : 0 ≤ T ∧ T ≤ B - 1
  · by_cases he : T % 2 = 0
    · obtain ⟨e1, e2, _⟩ := suc_even S hin he
      rw [e1, e2]
      unfold stepMu
      rw [if_pos hin, if_pos (by omega)]
      omega
    · obtain ⟨e1, e2, _⟩ := suc_odd S hin (by omega)
      rw [e1, e2]
      unfold stepMu
      rw [if_pos hin, if_neg (by omega)]
      omega
  · obtain ⟨e1, e2, _⟩ := suc_out S hin
    have r1 := Int.emod_nonneg T (show B ≠ 0 by omega)
    have r2 := Int.emod_lt_of_pos T (show 0 < B by omega)
    rw [e1, e2]
    unfold stepMu
    rw [if_neg hin, if_pos (by omega)]
    omega
def muAt (H : Nat) (w : World) : Nat :=
  match w.cell? ⟨H, 0, none⟩, w.cell? ⟨H, 1, none⟩ with
  | some (.int _ T), some (.int _ B) => stepMu T B
  | _, _ => 0
/-- a step lies in the block H -/
structure StepAt (w : World) (H : Nat) (T B S : Int) : Prop where
  c0 : w.cell? ⟨H, 0, none⟩ = some (.int .i64 T)
  c1 : w.cell? ⟨H, 1, none⟩ = some (.int .i64 B)
  c2 : w.cell? ⟨H, 2, none⟩ = some (.int .i64 S)
  f0 : w.frozen? ⟨H, 0, none⟩ = false
  f1 : w.frozen? ⟨H, 1, none⟩ = false
  f2 : w.frozen? ⟨H, 2, none⟩ = false
  z : H < w.heap.size
theorem StepAt.mu {w : World} {H : Nat} {T B S : Int} (h : StepAt w H T B S) : muAt H w = stepMu T B := by
  unfold muAt; rw [h.c0, h.c1]
theorem StepAt.below {w w' : World} {H : Nat} {T B S : Int} (h : StepAt w H T B S) (hb : Below w.heap.size w w') : StepAt w' H T B S :=
  ⟨by rw [(bcell hb).1 H 0 h.z]; exact h.c0, by rw [(bcell hb).1 H 1 h.z]; exact h.c1, by rw [(bcell hb).1 H 2 h.z]; exact h.c2, by rw [(bcell hb).2 H 0 h.z]; exact h.f0, by rw [(bcell hb).2 H 1 h.z]; exact h.f1, by rw [(bcell hb).2 H 2 h.z]; exact h.f2, Nat.lt_of_lt_of_le h.z hb.size⟩

theorem StepAt.set {w : World} {H : Nat} {T B S : Int} (c0 : w.cell? ⟨H, 0, none⟩ = some (.int .i64 T)) (c1 : w.cell? ⟨H, 1, none⟩ = some (.int .i64 B)) (c2 : w.cell? ⟨H, 2, none⟩ = some (.int .i64 S))
    (f0 : w.frozen? ⟨H, 0, none⟩ = false) (f1 : w.frozen? ⟨H, 1, none⟩ = false) (f2 : w.frozen? ⟨H, 2, none⟩ = false) (z : H < w.heap.size) (T' B' S' : Int) :
    StepAt (((w.setCell ⟨H, 0, none⟩ (.int .i64 T')).setCell ⟨H, 1, none⟩ (.int .i64 B')).setCell ⟨H, 2, none⟩ (.int .i64 S')) H T' B' S' := by
  refine ⟨by go_simp, by go_simp, by go_simp, ?_, ?_, ?_, by simp [*]⟩
  · rw [World.frozen?_setCell, World.frozen?_setCell, World.frozen?_setCell]; exact f0
  · rw [World.frozen?_setCell, World.frozen?_setCell, World.frozen?_setCell]; exact f1
  · rw [World.frozen?_setCell, World.frozen?_setCell, World.frozen?_setCell]; exact f2

end Go.Proofs.Ytfpedehpmgcmnaa
