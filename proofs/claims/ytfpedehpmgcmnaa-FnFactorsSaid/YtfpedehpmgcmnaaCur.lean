/-
  The cursor that derives choices from bytes.
-/
import Derived.Test.YtfpedehpmgcmnaaFrame
import Derived.Test.YtfpedehpmgcmnaaForm
import Derived.Test.YtfpedehpmgcmnaaTriP
import Derived.Laws.Rows
import Derived.Deep.QuietTactic
import Derived.BigQuiet
import Derived.RegionTactic
namespace Go.Proofs.Ytfpedehpmgcmnaa
open Go.RowKit
set_option linter.unusedSimpArgs false
set_option linter.unusedVariables false

theorem mask255 (x : Int) : 0 ≤ bits .and .u64 x 255 ∧ bits .and .u64 x 255 ≤ 255 := by
  unfold bits
  have h : (BitVec.ofInt 64 x &&& BitVec.ofInt 64 255).toNat ≤ 255 := by
    rw [BitVec.toNat_and]
    exact Nat.le_trans Nat.and_le_right (by decide)
  have h2 : (BitVec.ofInt IntKind.u64.bits x &&& BitVec.ofInt IntKind.u64.bits 255).toNat ≤ 255 := h
  simp only
  generalize (BitVec.ofInt IntKind.u64.bits x &&& BitVec.ofInt IntKind.u64.bits 255).toNat = n at h2
  have e : IntKind.u64.wrap (n : Int) = n := by
    unfold IntKind.wrap
    simp only [IntKind.bits, IntKind.signed, Bool.false_and]
    have : (n : Int) % (2 ^ 64 : Int) = n := Int.emod_eq_of_lt (by omega) (by have : (2 : Int) ^ 64 = 18446744073709551616 := by decide
                                                                              omega)
    simpa using this
  rw [e]
  omega
theorem wrap_small {x : Int} (h : 0 ≤ x ∧ x ≤ 255) : wrap64 x = x := by unfold wrap64; omega

/-- the bytes that a cursor in block G reads -/
def Code8 (w : World) (G : Nat) (A : Option Addr) (n : Nat) : Prop := ∀ i, i < n → ∃ b off z, A = some ⟨b, off, none⟩ ∧ b < G ∧ 0 ≤ z ∧ z ≤ (255 : Int) ∧ w.cell? ⟨b, off + i, none⟩ = some (.int .u8 z)
def CurB (w : World) (G : Nat) (A : Option Addr) (n cap at_ : Nat) (seed : Int) : Prop := w.heap[G]? = some (.cells #[.slice A n cap, .int .i64 (at_ : Int), .int .u64 seed] 80 (0, 0))
theorem CurB.lt {w : World} {G n cap a : Nat} {A : Option Addr} {s : Int} (h : CurB w G A n cap a s) : G < w.heap.size := (Array.getElem?_eq_some_iff.1 h).1
theorem CurB.cells {w : World} {G n cap a : Nat} {A : Option Addr} {s : Int} (h : CurB w G A n cap a s) : w.cell? ⟨G, 0, none⟩ = some (.slice A n cap) ∧ w.cell? ⟨G, 1, none⟩ = some (.int .i64 (a : Int)) ∧ w.cell? ⟨G, 2, none⟩ = some (.int .u64 s) :=
  ⟨cell_of_row w G 0 _ _ (0, 0) h, cell_of_row w G 1 _ _ (0, 0) h, cell_of_row w G 2 _ _ (0, 0) h⟩
theorem CurB.frozen {w : World} {G n cap a : Nat} {A : Option Addr} {s : Int} (h : CurB w G A n cap a s) (i : Nat) : w.frozen? ⟨G, i, none⟩ = false := by
  unfold CurB at h
  simp [World.frozen?, h]
theorem CurB.new (w : World) (A : Option Addr) (n cap : Nat) : CurB (w.alloc (.cells #[.slice A n cap, .int .i64 0, .int .u64 0] 80)) w.heap.size A n cap 0 0 := heap_alloc_new w _
theorem CurB.set {w : World} {G n cap a : Nat} {A : Option Addr} {s : Int} (h : CurB w G A n cap a s) (a' : Nat) (s' : Int) (q q' : Nat) {u : Value} (hu : u = .int .i64 (a' : Int)) : CurB ((((w.drewN q).setCell ⟨G, 1, none⟩ u).setCell ⟨G, 2, none⟩ (.int .u64 s')).drewN q') G A n cap a' s' := by
  subst hu
  have h1 : w.heap[G]? = some (.cells #[.slice A n cap, .int .i64 (a : Int), .int .u64 s] 80 (0, 0)) := h
  show (((w.drewN q).setCell ⟨G, 1, none⟩ (.int .i64 (a' : Int))).setCell ⟨G, 2, none⟩ (.int .u64 s')).heap[G]? = _
  simp [World.setCell, Array.getElem?_modify, h1]
theorem grown_set {w : World} {G : Nat} (q q' : Nat) (u v : Value) : w.grownBy ((((w.drewN q).setCell ⟨G, 1, none⟩ u).setCell ⟨G, 2, none⟩ v).drewN q') (some G) := by
  refine ⟨rfl, rfl, rfl, ?_, fun k hk hne => ?_⟩
  · show w.heap.size ≤ (((w.drewN q).setCell ⟨G, 1, none⟩ u).setCell ⟨G, 2, none⟩ v).heap.size
    simp
  · show (((w.drewN q).setCell ⟨G, 1, none⟩ u).setCell ⟨G, 2, none⟩ v).heap[k]? = w.heap[k]?
    have hk' : k ≠ G := fun e => hne (by rw [e])
    rw [Below.heap_setCell _ _ _ _ hk', Below.heap_setCell _ _ _ _ hk']
    rfl
theorem grown_alloc (w : World) (o : Obj) (row : Option Nat) : w.grownBy (w.alloc o) row := World.grownBy_alloc w o row
/-- a cursor in block G over n bytes, at most at m -/
structure Cu (w : World) (G : Nat) (A : Option Addr) (n cap m : Nat) : Prop where
  cur : ∃ a s, CurB w G A n cap a s ∧ a ≤ m
  code : Code8 w G A n
theorem Cu.lt {w : World} {G n cap m : Nat} {A : Option Addr} (h : Cu w G A n cap m) : G < w.heap.size := by
  obtain ⟨a, s, h, _⟩ := h.cur
  exact h.lt
theorem Code8.grown {w w' : World} {G n : Nat} {A : Option Addr} (h : Code8 w G A n) (hG : G < w.heap.size) (hg : w.grownBy w' (some G)) : Code8 w' G A n := fun i hi => by
  obtain ⟨b, off, z, e, hb, z0, z1, hc⟩ := h i hi
  refine ⟨b, off, z, e, hb, z0, z1, ?_⟩
  rw [← hc]
  exact World.cell?_of_block (hg.block b (by omega) (fun e => by simp at e; omega))
theorem Cu.alloc {w : World} {G n cap m : Nat} {A : Option Addr} (h : Cu w G A n cap m) (o : Obj) : Cu (w.alloc o) G A n cap m := by
  obtain ⟨a, s, hc, ha⟩ := h.cur
  exact ⟨⟨a, s, (Below.heap_alloc w o G hc.lt).trans hc, ha⟩, h.code.grown hc.lt (grown_alloc w o _)⟩
theorem Cu.more {w : World} {G n cap m m' : Nat} {A : Option Addr} (h : Cu w G A n cap m) (hm : m ≤ m') : Cu w G A n cap m' := by
  obtain ⟨a, s, hc, ha⟩ := h.cur
  exact ⟨⟨a, s, hc, by omega⟩, h.code⟩
/-- what a draw leaves: a number x with P, the cursor further on, all else as it was -/
def CuR (P : Int → Prop) (G : Nat) (A : Option Addr) (n cap m : Nat) (w : World) (e : Ending) (w' : World) : Prop := ∃ x, e = .returned (.int .i64 x) ∧ P x ∧ Cu w' G A n cap m ∧ w.grownBy w' (some G)
def CuB (G : Nat) (A : Option Addr) (n cap m : Nat) (w : World) (e : Ending) (w' : World) : Prop := ∃ x, e = .returned (.bool x) ∧ Cu w' G A n cap m ∧ w.grownBy w' (some G)

theorem next8_any (w : World) {G n cap m : Nat} {A : Option Addr} (h : Cu w G A n cap m) (hn : n ≤ 1048576) (hm : m ≤ 1000000) : Calls Try.prog 86 #[.pointer (some ⟨G, 0, none⟩)] w (CuR (fun x => 0 ≤ x ∧ x ≤ 255) G A n cap (m + 1) w) := by
  obtain ⟨a, s, hc, ha⟩ := h.cur
  obtain ⟨c0, c1, c2⟩ := hc.cells
  have hcode := h.code
  have hgl := hc.lt
  have f0 := hc.frozen 0
  have f1 := hc.frozen 1
  have f2 := hc.frozen 2
  by_cases hlt : a < n
  · obtain ⟨b, off, z, rfl, hb, z0, z1, hz⟩ := hcode a hlt
    have HC := Lib.hid hc
    have HD := Lib.hid hcode
    have k0 : (0 : Int) ≤ (a : Int) := by omega
    have k1 : (a : Int) < (n : Int) := by omega
    have k2 : (a : Int) + 1 ≤ (n : Int) := by omega
    clear hc hcode h
    go_enter Try.func86, Try.ntmps86
    go_wp2
    go_quiet (fail)
    go_wp2
    go_quiet (fail)
    go_wp2
    go_quiet (fail)
    go_wp2
    go_ret
    exact ⟨z, by first | rfl | (rw [wrap_small ⟨z0, z1⟩]), ⟨z0, z1⟩, ⟨⟨a + 1, _, HC.out.set (a + 1) _ _ _ (by go_num), by omega⟩, HD.out.grown hgl (grown_set _ _ _ _)⟩, (grown_set _ _ _ _)⟩
  · have HC := Lib.hid hc
    have HD := Lib.hid hcode
    have k0 : ¬ (a : Int) < (n : Int) := by omega
    have k2 : ¬ (a : Int) + 1 ≤ (n : Int) := by omega
    clear hc hcode h
    go_enter Try.func86, Try.ntmps86
    go_wp2
    go_quiet (fail)
    go_wp2
    go_quiet (fail)
    go_wp2
    go_ret
    exact ⟨_, rfl, by rw [wrap_small (mask255 _)]; exact mask255 _, ⟨⟨a + 1, _, HC.out.set (a + 1) _ _ _ (by go_num), by omega⟩, HD.out.grown hgl (grown_set _ _ _ _)⟩, (grown_set _ _ _ _)⟩
end Go.Proofs.Ytfpedehpmgcmnaa
