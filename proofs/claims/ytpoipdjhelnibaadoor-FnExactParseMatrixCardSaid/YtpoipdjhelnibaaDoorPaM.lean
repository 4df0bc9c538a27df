/-
  The program's reading of a matrix: impl.ParseMatrix.
-/
import Derived.Test.YtpoipdjhelnibaaDoorPaF
import Derived.Test.YtpoipdjhelnibaaDoorRdT
import Derived.Test.YtpoipdjhelnibaaDoorForm
namespace Go.Proofs.YtpoipdjhelnibaaDoor
open Go.RowKit
set_option linter.unusedSimpArgs false
set_option linter.unusedVariables false

set_option maxHeartbeats 1600000 in
set_option maxRecDepth 100000 in
/-- another number of integers -/
theorem paM_len {s : ByteArray} (w : World) (hs : s.size ≤ 1048576) (hw : Snt w) (hn : (inL s).length ≠ 4) :
    Calls Tryd.prog 17 #[.string s] w fun e w' => e = .returned (.tuple #[.agg #[.int .i64 0, .int .i64 0, .int .i64 0, .int .i64 0], .bool false]) ∧ Below w.heap.size w w' := by
  have C : Hid (∀ W, Snt W → Calls Tryd.prog 28 #[.string s] W fun e w' => ∃ v, e = .returned v ∧ Lst w' W.heap.size v (inL s) ∧ Below W.heap.size W w') := Lib.hid (fun W h => ints_any s W hs h)
  generalize inL s = D at *
  have n1 : ((D.length : Int) != 4) = true := by rw [bne_iff_ne]; omega
  have n2 : ¬ (D.length : Int) = 4 := by omega
  go_enter Tryd.func17, Tryd.ntmps17
  go_wp2_with fail
  refine (C.out _ (hw.below (B := w.heap.size) ((Below.refl _ w).alloc (Nat.le_refl _) _) (Nat.le_refl _))).mono ?_
  rintro e w1 ⟨v1, rfl, l1, b1⟩
  obtain ⟨A, cA, rfl, hA⟩ := lst_adr l1
  obtain ⟨hc1, hf1⟩ := bcell b1
  have hz1 := b1.size
  (try simp only [World.size_alloc] at hz1)
  have hs1 : w.heap.size < w1.heap.size := by omega
  have bl1 : Below w.heap.size w w1 := Below.trans (by go_grown) (b1.mono (by go_size))
  have p0 : w1.cell? ⟨w.heap.size, 0, none⟩ = some (.int .i64 0) := by rw [hc1 _ _ (by simp)]; simp [World.cell?_alloc_new]
  have f0 : w1.frozen? ⟨w.heap.size, 0, none⟩ = false := by rw [hf1 _ _ (by simp)]; exact World.frozen?_alloc_new _ _ _ _
  have p1 : w1.cell? ⟨w.heap.size, 1, none⟩ = some (.int .i64 0) := by rw [hc1 _ _ (by simp)]; simp [World.cell?_alloc_new]
  have f1 : w1.frozen? ⟨w.heap.size, 1, none⟩ = false := by rw [hf1 _ _ (by simp)]; exact World.frozen?_alloc_new _ _ _ _
  have p2 : w1.cell? ⟨w.heap.size, 2, none⟩ = some (.int .i64 0) := by rw [hc1 _ _ (by simp)]; simp [World.cell?_alloc_new]
  have f2 : w1.frozen? ⟨w.heap.size, 2, none⟩ = false := by rw [hf1 _ _ (by simp)]; exact World.frozen?_alloc_new _ _ _ _
  have p3 : w1.cell? ⟨w.heap.size, 3, none⟩ = some (.int .i64 0) := by rw [hc1 _ _ (by simp)]; simp [World.cell?_alloc_new]
  have f3 : w1.frozen? ⟨w.heap.size, 3, none⟩ = false := by rw [hf1 _ _ (by simp)]; exact World.frozen?_alloc_new _ _ _ _
  clear hc1 hf1
  clear hA l1
  go_wp2
  exact bodyPost_ret (v := .tuple #[.agg #[.int .i64 0, .int .i64 0, .int .i64 0, .int .i64 0], .bool false]) (by simp [results, Tryd.results17, go_sem, p0, p1, p2, p3]) rfl ⟨rfl, (by repeat' (first | (with_reducible exact Below.refl _ _) | (with_reducible assumption) | (with_reducible refine Below.alloc ?_ ?_ _) | (with_reducible refine Below.drew ?_) | (with_reducible refine below_drewN ?_ _) | (with_reducible refine Below.setCell ?_ ?_ _) | go_size))⟩

set_option maxHeartbeats 6400000 in
set_option maxRecDepth 100000 in
/-- integers out of bounds -/
theorem paM_big {s : ByteArray} {a b c d : Int} (w : World) (hs : s.size ≤ 1048576) (hw : Snt w) (hn : inL s = [a, b, c, d]) (hg : good4 a b c d = false) :
    Calls Tryd.prog 17 #[.string s] w fun e w' => e = .returned (.tuple #[.agg #[.int .i64 0, .int .i64 0, .int .i64 0, .int .i64 0], .bool false]) ∧ Below w.heap.size w w' := by
  have C : Hid (∀ W, Snt W → Calls Tryd.prog 28 #[.string s] W fun e w' => ∃ v, e = .returned v ∧ Lst w' W.heap.size v [a, b, c, d] ∧ Below W.heap.size W w') := Lib.hid (fun W h => by rw [← hn]; exact ints_any s W hs h)
  have CF := Lib.hid (isMatrix_any a b c d)
  rw [hg] at CF
  clear hn hg
  go_enter Tryd.func17, Tryd.ntmps17
  go_wp2_with fail
  refine (C.out _ (hw.below (B := w.heap.size) ((Below.refl _ w).alloc (Nat.le_refl _) _) (Nat.le_refl _))).mono ?_
  rintro e w1 ⟨v1, rfl, l1, b1⟩
  obtain ⟨A, cA, rfl, hA⟩ := lst_adr l1
  obtain ⟨hc1, hf1⟩ := bcell b1
  have hz1 := b1.size
  (try simp only [World.size_alloc] at hz1)
  have hs1 : w.heap.size < w1.heap.size := by omega
  have bl1 : Below w.heap.size w w1 := Below.trans (by go_grown) (b1.mono (by go_size))
  have p0 : w1.cell? ⟨w.heap.size, 0, none⟩ = some (.int .i64 0) := by rw [hc1 _ _ (by simp)]; simp [World.cell?_alloc_new]
  have f0 : w1.frozen? ⟨w.heap.size, 0, none⟩ = false := by rw [hf1 _ _ (by simp)]; exact World.frozen?_alloc_new _ _ _ _
  have p1 : w1.cell? ⟨w.heap.size, 1, none⟩ = some (.int .i64 0) := by rw [hc1 _ _ (by simp)]; simp [World.cell?_alloc_new]
  have f1 : w1.frozen? ⟨w.heap.size, 1, none⟩ = false := by rw [hf1 _ _ (by simp)]; exact World.frozen?_alloc_new _ _ _ _
  have p2 : w1.cell? ⟨w.heap.size, 2, none⟩ = some (.int .i64 0) := by rw [hc1 _ _ (by simp)]; simp [World.cell?_alloc_new]
  have f2 : w1.frozen? ⟨w.heap.size, 2, none⟩ = false := by rw [hf1 _ _ (by simp)]; exact World.frozen?_alloc_new _ _ _ _
  have p3 : w1.cell? ⟨w.heap.size, 3, none⟩ = some (.int .i64 0) := by rw [hc1 _ _ (by simp)]; simp [World.cell?_alloc_new]
  have f3 : w1.frozen? ⟨w.heap.size, 3, none⟩ = false := by rw [hf1 _ _ (by simp)]; exact World.frozen?_alloc_new _ _ _ _
  clear hc1 hf1
  obtain ⟨g, rfl, hg1, hcell⟩ := hA (by simp)
  have q0 := hcell 0 (by simp)
  have q1 := hcell 1 (by simp)
  have q2 := hcell 2 (by simp)
  have q3 := hcell 3 (by simp)
  simp at q0 q1 q2 q3
  clear hcell hA l1
  obtain ⟨hca, hfa⟩ := bcell ((Below.refl w1.heap.size w1).alloc (Nat.le_refl _) (.cells #[.int .i64 0, .int .i64 0, .int .i64 0, .int .i64 0] 26))
  have u0 := (hca _ 0 hg1).trans q0
  have u1 := (hca _ 1 hg1).trans q1
  have u2 := (hca _ 2 hg1).trans q2
  have u3 := (hca _ 3 hg1).trans q3
  clear hca hfa
  go_wp2
  go_region
  all_goals
    obtain ⟨hcb, hfb⟩ := bcell (((Below.refl w1.heap.size w1).alloc (Nat.le_refl _) (.cells #[.int .i64 a, .int .i64 b, .int .i64 c, .int .i64 d] 26)).drew)
    replace p0 := (hcb _ 0 hs1).trans p0
    replace f0 := (hfb _ 0 hs1).trans f0
    have r0 : ((w1.alloc (.cells #[.int .i64 a, .int .i64 b, .int .i64 c, .int .i64 d] 26)).drew).cell? ⟨w1.heap.size, 0, none⟩ = some (.int .i64 a) := by simp [World.cell?_alloc_new]
    replace p1 := (hcb _ 1 hs1).trans p1
    replace f1 := (hfb _ 1 hs1).trans f1
    have r1 : ((w1.alloc (.cells #[.int .i64 a, .int .i64 b, .int .i64 c, .int .i64 d] 26)).drew).cell? ⟨w1.heap.size, 1, none⟩ = some (.int .i64 b) := by simp [World.cell?_alloc_new]
    replace p2 := (hcb _ 2 hs1).trans p2
    replace f2 := (hfb _ 2 hs1).trans f2
    have r2 : ((w1.alloc (.cells #[.int .i64 a, .int .i64 b, .int .i64 c, .int .i64 d] 26)).drew).cell? ⟨w1.heap.size, 2, none⟩ = some (.int .i64 c) := by simp [World.cell?_alloc_new]
    replace p3 := (hcb _ 3 hs1).trans p3
    replace f3 := (hfb _ 3 hs1).trans f3
    have r3 : ((w1.alloc (.cells #[.int .i64 a, .int .i64 b, .int .i64 c, .int .i64 d] 26)).drew).cell? ⟨w1.heap.size, 3, none⟩ = some (.int .i64 d) := by simp [World.cell?_alloc_new]
    have bl2 : Below w.heap.size w ((w1.alloc (.cells #[.int .i64 a, .int .i64 b, .int .i64 c, .int .i64 d] 26)).drew) := bl1.trans ((((Below.refl w1.heap.size w1).alloc (Nat.le_refl _) (.cells #[.int .i64 a, .int .i64 b, .int .i64 c, .int .i64 d] 26)).drew).mono (Nat.le_of_lt hs1))
    have hs2 : w1.heap.size < ((w1.alloc (.cells #[.int .i64 a, .int .i64 b, .int .i64 c, .int .i64 d] 26)).drew).heap.size := by simp
    have hs3 : w.heap.size < ((w1.alloc (.cells #[.int .i64 a, .int .i64 b, .int .i64 c, .int .i64 d] 26)).drew).heap.size := Nat.lt_trans hs1 hs2
    clear hcb hfb u0 q0 u1 q1 u2 q2 u3 q3
    generalize (w1.alloc (.cells #[.int .i64 a, .int .i64 b, .int .i64 c, .int .i64 d] 26)).drew = w2 at *
    go_wp2_with fail
    refine (CF.out _).mono ?_
    rintro e w3 ⟨rfl, b3⟩
    obtain ⟨hcb, hfb⟩ := bcell b3
    have hz3 := b3.size
    replace p0 := (hcb _ 0 (by omega)).trans p0
    replace f0 := (hfb _ 0 (by omega)).trans f0
    replace r0 := (hcb _ 0 (by omega)).trans r0
    replace p1 := (hcb _ 1 (by omega)).trans p1
    replace f1 := (hfb _ 1 (by omega)).trans f1
    replace r1 := (hcb _ 1 (by omega)).trans r1
    replace p2 := (hcb _ 2 (by omega)).trans p2
    replace f2 := (hfb _ 2 (by omega)).trans f2
    replace r2 := (hcb _ 2 (by omega)).trans r2
    replace p3 := (hcb _ 3 (by omega)).trans p3
    replace f3 := (hfb _ 3 (by omega)).trans f3
    replace r3 := (hcb _ 3 (by omega)).trans r3
    have bl3 : Below w.heap.size w w3 := bl2.trans (b3.mono (by omega))
    clear hcb hfb
    go_wp2
    exact bodyPost_ret (v := .tuple #[.agg #[.int .i64 0, .int .i64 0, .int .i64 0, .int .i64 0], .bool false]) (by simp [results, Tryd.results17, go_sem, p0, p1, p2, p3]) rfl ⟨rfl, (by repeat' (first | (with_reducible exact Below.refl _ _) | (with_reducible assumption) | (with_reducible refine Below.alloc ?_ ?_ _) | (with_reducible refine Below.drew ?_) | (with_reducible refine below_drewN ?_ _) | (with_reducible refine Below.setCell ?_ ?_ _) | go_size))⟩

set_option maxHeartbeats 6400000 in
set_option maxRecDepth 100000 in
/-- another text -/
theorem paM_other {s : ByteArray} {a b c d : Int} (w : World) (hs : s.size ≤ 1048576) (hw : Snt w) (ht : Pow10 w) (hn : inL s = [a, b, c, d]) (hg : good4 a b c d = true) (hx : mTx a b c d ≠ s) :
    Calls Tryd.prog 17 #[.string s] w fun e w' => e = .returned (.tuple #[.agg #[.int .i64 0, .int .i64 0, .int .i64 0, .int .i64 0], .bool false]) ∧ Below w.heap.size w w' := by
  have C : Hid (∀ W, Snt W → Calls Tryd.prog 28 #[.string s] W fun e w' => ∃ v, e = .returned v ∧ Lst w' W.heap.size v [a, b, c, d] ∧ Below W.heap.size W w') := Lib.hid (fun W h => by rw [← hn]; exact ints_any s W hs h)
  have CF := Lib.hid (isMatrix_any a b c d)
  obtain ⟨g0, g1, g2, g3⟩ := good4_iff.1 hg
  rw [hg] at CF
  rw [good_iff] at g0
  rw [good_iff] at g1
  rw [good_iff] at g2
  rw [good_iff] at g3
  have CT := Lib.hid (matrixText_any a b c d g0 g1 g2 g3)
  generalize mTx a b c d = X at *
  have x1 : (X.toList == s.toList) = false := by
    rw [beq_eq_false_iff_ne]
    intro h
    rw [ByteArray.toList_eq, ByteArray.toList_eq] at h
    exact hx (ByteArray.ext (Array.toList_inj.1 h))
  clear hn hg
  go_enter Tryd.func17, Tryd.ntmps17
  go_wp2_with fail
  refine (C.out _ (hw.below (B := w.heap.size) ((Below.refl _ w).alloc (Nat.le_refl _) _) (Nat.le_refl _))).mono ?_
  rintro e w1 ⟨v1, rfl, l1, b1⟩
  obtain ⟨A, cA, rfl, hA⟩ := lst_adr l1
  obtain ⟨hc1, hf1⟩ := bcell b1
  have hz1 := b1.size
  (try simp only [World.size_alloc] at hz1)
  have hs1 : w.heap.size < w1.heap.size := by omega
  have bl1 : Below w.heap.size w w1 := Below.trans (by go_grown) (b1.mono (by go_size))
  have p0 : w1.cell? ⟨w.heap.size, 0, none⟩ = some (.int .i64 0) := by rw [hc1 _ _ (by simp)]; simp [World.cell?_alloc_new]
  have f0 : w1.frozen? ⟨w.heap.size, 0, none⟩ = false := by rw [hf1 _ _ (by simp)]; exact World.frozen?_alloc_new _ _ _ _
  have p1 : w1.cell? ⟨w.heap.size, 1, none⟩ = some (.int .i64 0) := by rw [hc1 _ _ (by simp)]; simp [World.cell?_alloc_new]
  have f1 : w1.frozen? ⟨w.heap.size, 1, none⟩ = false := by rw [hf1 _ _ (by simp)]; exact World.frozen?_alloc_new _ _ _ _
  have p2 : w1.cell? ⟨w.heap.size, 2, none⟩ = some (.int .i64 0) := by rw [hc1 _ _ (by simp)]; simp [World.cell?_alloc_new]
  have f2 : w1.frozen? ⟨w.heap.size, 2, none⟩ = false := by rw [hf1 _ _ (by simp)]; exact World.frozen?_alloc_new _ _ _ _
  have p3 : w1.cell? ⟨w.heap.size, 3, none⟩ = some (.int .i64 0) := by rw [hc1 _ _ (by simp)]; simp [World.cell?_alloc_new]
  have f3 : w1.frozen? ⟨w.heap.size, 3, none⟩ = false := by rw [hf1 _ _ (by simp)]; exact World.frozen?_alloc_new _ _ _ _
  clear hc1 hf1
  obtain ⟨g, rfl, hg1, hcell⟩ := hA (by simp)
  have q0 := hcell 0 (by simp)
  have q1 := hcell 1 (by simp)
  have q2 := hcell 2 (by simp)
  have q3 := hcell 3 (by simp)
  simp at q0 q1 q2 q3
  clear hcell hA l1
  obtain ⟨hca, hfa⟩ := bcell ((Below.refl w1.heap.size w1).alloc (Nat.le_refl _) (.cells #[.int .i64 0, .int .i64 0, .int .i64 0, .int .i64 0] 26))
  have u0 := (hca _ 0 hg1).trans q0
  have u1 := (hca _ 1 hg1).trans q1
  have u2 := (hca _ 2 hg1).trans q2
  have u3 := (hca _ 3 hg1).trans q3
  clear hca hfa
  go_wp2
  go_region
  all_goals
    obtain ⟨hcb, hfb⟩ := bcell (((Below.refl w1.heap.size w1).alloc (Nat.le_refl _) (.cells #[.int .i64 a, .int .i64 b, .int .i64 c, .int .i64 d] 26)).drew)
    replace p0 := (hcb _ 0 hs1).trans p0
    replace f0 := (hfb _ 0 hs1).trans f0
    have r0 : ((w1.alloc (.cells #[.int .i64 a, .int .i64 b, .int .i64 c, .int .i64 d] 26)).drew).cell? ⟨w1.heap.size, 0, none⟩ = some (.int .i64 a) := by simp [World.cell?_alloc_new]
    replace p1 := (hcb _ 1 hs1).trans p1
    replace f1 := (hfb _ 1 hs1).trans f1
    have r1 : ((w1.alloc (.cells #[.int .i64 a, .int .i64 b, .int .i64 c, .int .i64 d] 26)).drew).cell? ⟨w1.heap.size, 1, none⟩ = some (.int .i64 b) := by simp [World.cell?_alloc_new]
    replace p2 := (hcb _ 2 hs1).trans p2
    replace f2 := (hfb _ 2 hs1).trans f2
    have r2 : ((w1.alloc (.cells #[.int .i64 a, .int .i64 b, .int .i64 c, .int .i64 d] 26)).drew).cell? ⟨w1.heap.size, 2, none⟩ = some (.int .i64 c) := by simp [World.cell?_alloc_new]
    replace p3 := (hcb _ 3 hs1).trans p3
    replace f3 := (hfb _ 3 hs1).trans f3
    have r3 : ((w1.alloc (.cells #[.int .i64 a, .int .i64 b, .int .i64 c, .int .i64 d] 26)).drew).cell? ⟨w1.heap.size, 3, none⟩ = some (.int .i64 d) := by simp [World.cell?_alloc_new]
    have bl2 : Below w.heap.size w ((w1.alloc (.cells #[.int .i64 a, .int .i64 b, .int .i64 c, .int .i64 d] 26)).drew) := bl1.trans ((((Below.refl w1.heap.size w1).alloc (Nat.le_refl _) (.cells #[.int .i64 a, .int .i64 b, .int .i64 c, .int .i64 d] 26)).drew).mono (Nat.le_of_lt hs1))
    have hs2 : w1.heap.size < ((w1.alloc (.cells #[.int .i64 a, .int .i64 b, .int .i64 c, .int .i64 d] 26)).drew).heap.size := by simp
    have hs3 : w.heap.size < ((w1.alloc (.cells #[.int .i64 a, .int .i64 b, .int .i64 c, .int .i64 d] 26)).drew).heap.size := Nat.lt_trans hs1 hs2
    clear hcb hfb u0 q0 u1 q1 u2 q2 u3 q3
    generalize (w1.alloc (.cells #[.int .i64 a, .int .i64 b, .int .i64 c, .int .i64 d] 26)).drew = w2 at *
    go_wp2_with fail
    refine (CF.out _).mono ?_
    rintro e w3 ⟨rfl, b3⟩
    obtain ⟨hcb, hfb⟩ := bcell b3
    have hz3 := b3.size
    replace p0 := (hcb _ 0 (by omega)).trans p0
    replace f0 := (hfb _ 0 (by omega)).trans f0
    replace r0 := (hcb _ 0 (by omega)).trans r0
    replace p1 := (hcb _ 1 (by omega)).trans p1
    replace f1 := (hfb _ 1 (by omega)).trans f1
    replace r1 := (hcb _ 1 (by omega)).trans r1
    replace p2 := (hcb _ 2 (by omega)).trans p2
    replace f2 := (hfb _ 2 (by omega)).trans f2
    replace r2 := (hcb _ 2 (by omega)).trans r2
    replace p3 := (hcb _ 3 (by omega)).trans p3
    replace f3 := (hfb _ 3 (by omega)).trans f3
    replace r3 := (hcb _ 3 (by omega)).trans r3
    have bl3 : Below w.heap.size w w3 := bl2.trans (b3.mono (by omega))
    have ht3 := ht.below bl3 (Nat.le_refl _)
    clear hcb hfb
    go_wp2_with fail
    refine (CT.out _ ht3).mono ?_
    rintro e w4 ⟨rfl, b4⟩
    obtain ⟨hcb, hfb⟩ := bcell b4
    have hz4 := b4.size
    replace p0 := (hcb _ 0 (by omega)).trans p0
    replace f0 := (hfb _ 0 (by omega)).trans f0
    replace r0 := (hcb _ 0 (by omega)).trans r0
    replace p1 := (hcb _ 1 (by omega)).trans p1
    replace f1 := (hfb _ 1 (by omega)).trans f1
    replace r1 := (hcb _ 1 (by omega)).trans r1
    replace p2 := (hcb _ 2 (by omega)).trans p2
    replace f2 := (hfb _ 2 (by omega)).trans f2
    replace r2 := (hcb _ 2 (by omega)).trans r2
    replace p3 := (hcb _ 3 (by omega)).trans p3
    replace f3 := (hfb _ 3 (by omega)).trans f3
    replace r3 := (hcb _ 3 (by omega)).trans r3
    have bl4 : Below w.heap.size w w4 := bl3.trans (b4.mono (by omega))
    clear hcb hfb
    go_wp2
    exact bodyPost_ret (v := .tuple #[.agg #[.int .i64 0, .int .i64 0, .int .i64 0, .int .i64 0], .bool false]) (by simp [results, Tryd.results17, go_sem, p0, p1, p2, p3]) rfl ⟨rfl, (by repeat' (first | (with_reducible exact Below.refl _ _) | (with_reducible assumption) | (with_reducible refine Below.alloc ?_ ?_ _) | (with_reducible refine Below.drew ?_) | (with_reducible refine below_drewN ?_ _) | (with_reducible refine Below.setCell ?_ ?_ _) | go_size))⟩

set_option maxHeartbeats 6400000 in
set_option maxRecDepth 100000 in
/-- the canonical text -/
theorem paM_yes {s : ByteArray} {a b c d : Int} (w : World) (hs : s.size ≤ 1048576) (hw : Snt w) (ht : Pow10 w) (hn : inL s = [a, b, c, d]) (hg : good4 a b c d = true) (hx : mTx a b c d = s) :
    Calls Tryd.prog 17 #[.string s] w fun e w' => e = .returned (.tuple #[.agg #[.int .i64 a, .int .i64 b, .int .i64 c, .int .i64 d], .bool true]) ∧ Below w.heap.size w w' := by
  have C : Hid (∀ W, Snt W → Calls Tryd.prog 28 #[.string s] W fun e w' => ∃ v, e = .returned v ∧ Lst w' W.heap.size v [a, b, c, d] ∧ Below W.heap.size W w') := Lib.hid (fun W h => by rw [← hn]; exact ints_any s W hs h)
  have CF := Lib.hid (isMatrix_any a b c d)
  obtain ⟨g0, g1, g2, g3⟩ := good4_iff.1 hg
  rw [hg] at CF
  rw [good_iff] at g0
  rw [good_iff] at g1
  rw [good_iff] at g2
  rw [good_iff] at g3
  have CT := Lib.hid (matrixText_any a b c d g0 g1 g2 g3)
  generalize mTx a b c d = X at *
  subst hx
  clear hn hg
  go_enter Tryd.func17, Tryd.ntmps17
  go_wp2_with fail
  refine (C.out _ (hw.below (B := w.heap.size) ((Below.refl _ w).alloc (Nat.le_refl _) _) (Nat.le_refl _))).mono ?_
  rintro e w1 ⟨v1, rfl, l1, b1⟩
  obtain ⟨A, cA, rfl, hA⟩ := lst_adr l1
  obtain ⟨hc1, hf1⟩ := bcell b1
  have hz1 := b1.size
  (try simp only [World.size_alloc] at hz1)
  have hs1 : w.heap.size < w1.heap.size := by omega
  have bl1 : Below w.heap.size w w1 := Below.trans (by go_grown) (b1.mono (by go_size))
  have p0 : w1.cell? ⟨w.heap.size, 0, none⟩ = some (.int .i64 0) := by rw [hc1 _ _ (by simp)]; simp [World.cell?_alloc_new]
  have f0 : w1.frozen? ⟨w.heap.size, 0, none⟩ = false := by rw [hf1 _ _ (by simp)]; exact World.frozen?_alloc_new _ _ _ _
  have p1 : w1.cell? ⟨w.heap.size, 1, none⟩ = some (.int .i64 0) := by rw [hc1 _ _ (by simp)]; simp [World.cell?_alloc_new]
  have f1 : w1.frozen? ⟨w.heap.size, 1, none⟩ = false := by rw [hf1 _ _ (by simp)]; exact World.frozen?_alloc_new _ _ _ _
  have p2 : w1.cell? ⟨w.heap.size, 2, none⟩ = some (.int .i64 0) := by rw [hc1 _ _ (by simp)]; simp [World.cell?_alloc_new]
  have f2 : w1.frozen? ⟨w.heap.size, 2, none⟩ = false := by rw [hf1 _ _ (by simp)]; exact World.frozen?_alloc_new _ _ _ _
  have p3 : w1.cell? ⟨w.heap.size, 3, none⟩ = some (.int .i64 0) := by rw [hc1 _ _ (by simp)]; simp [World.cell?_alloc_new]
  have f3 : w1.frozen? ⟨w.heap.size, 3, none⟩ = false := by rw [hf1 _ _ (by simp)]; exact World.frozen?_alloc_new _ _ _ _
  clear hc1 hf1
  obtain ⟨g, rfl, hg1, hcell⟩ := hA (by simp)
  have q0 := hcell 0 (by simp)
  have q1 := hcell 1 (by simp)
  have q2 := hcell 2 (by simp)
  have q3 := hcell 3 (by simp)
  simp at q0 q1 q2 q3
  clear hcell hA l1
  obtain ⟨hca, hfa⟩ := bcell ((Below.refl w1.heap.size w1).alloc (Nat.le_refl _) (.cells #[.int .i64 0, .int .i64 0, .int .i64 0, .int .i64 0] 26))
  have u0 := (hca _ 0 hg1).trans q0
  have u1 := (hca _ 1 hg1).trans q1
  have u2 := (hca _ 2 hg1).trans q2
  have u3 := (hca _ 3 hg1).trans q3
  clear hca hfa
  go_wp2
  go_region
  all_goals
    obtain ⟨hcb, hfb⟩ := bcell (((Below.refl w1.heap.size w1).alloc (Nat.le_refl _) (.cells #[.int .i64 a, .int .i64 b, .int .i64 c, .int .i64 d] 26)).drew)
    replace p0 := (hcb _ 0 hs1).trans p0
    replace f0 := (hfb _ 0 hs1).trans f0
    have r0 : ((w1.alloc (.cells #[.int .i64 a, .int .i64 b, .int .i64 c, .int .i64 d] 26)).drew).cell? ⟨w1.heap.size, 0, none⟩ = some (.int .i64 a) := by simp [World.cell?_alloc_new]
    replace p1 := (hcb _ 1 hs1).trans p1
    replace f1 := (hfb _ 1 hs1).trans f1
    have r1 : ((w1.alloc (.cells #[.int .i64 a, .int .i64 b, .int .i64 c, .int .i64 d] 26)).drew).cell? ⟨w1.heap.size, 1, none⟩ = some (.int .i64 b) := by simp [World.cell?_alloc_new]
    replace p2 := (hcb _ 2 hs1).trans p2
    replace f2 := (hfb _ 2 hs1).trans f2
    have r2 : ((w1.alloc (.cells #[.int .i64 a, .int .i64 b, .int .i64 c, .int .i64 d] 26)).drew).cell? ⟨w1.heap.size, 2, none⟩ = some (.int .i64 c) := by simp [World.cell?_alloc_new]
    replace p3 := (hcb _ 3 hs1).trans p3
    replace f3 := (hfb _ 3 hs1).trans f3
    have r3 : ((w1.alloc (.cells #[.int .i64 a, .int .i64 b, .int .i64 c, .int .i64 d] 26)).drew).cell? ⟨w1.heap.size, 3, none⟩ = some (.int .i64 d) := by simp [World.cell?_alloc_new]
    have bl2 : Below w.heap.size w ((w1.alloc (.cells #[.int .i64 a, .int .i64 b, .int .i64 c, .int .i64 d] 26)).drew) := bl1.trans ((((Below.refl w1.heap.size w1).alloc (Nat.le_refl _) (.cells #[.int .i64 a, .int .i64 b, .int .i64 c, .int .i64 d] 26)).drew).mono (Nat.le_of_lt hs1))
    have hs2 : w1.heap.size < ((w1.alloc (.cells #[.int .i64 a, .int .i64 b, .int .i64 c, .int .i64 d] 26)).drew).heap.size := by simp
    have hs3 : w.heap.size < ((w1.alloc (.cells #[.int .i64 a, .int .i64 b, .int .i64 c, .int .i64 d] 26)).drew).heap.size := Nat.lt_trans hs1 hs2
    clear hcb hfb u0 q0 u1 q1 u2 q2 u3 q3
    generalize (w1.alloc (.cells #[.int .i64 a, .int .i64 b, .int .i64 c, .int .i64 d] 26)).drew = w2 at *
    go_wp2_with fail
    refine (CF.out _).mono ?_
    rintro e w3 ⟨rfl, b3⟩
    obtain ⟨hcb, hfb⟩ := bcell b3
    have hz3 := b3.size
    replace p0 := (hcb _ 0 (by omega)).trans p0
    replace f0 := (hfb _ 0 (by omega)).trans f0
    replace r0 := (hcb _ 0 (by omega)).trans r0
    replace p1 := (hcb _ 1 (by omega)).trans p1
    replace f1 := (hfb _ 1 (by omega)).trans f1
    replace r1 := (hcb _ 1 (by omega)).trans r1
    replace p2 := (hcb _ 2 (by omega)).trans p2
    replace f2 := (hfb _ 2 (by omega)).trans f2
    replace r2 := (hcb _ 2 (by omega)).trans r2
    replace p3 := (hcb _ 3 (by omega)).trans p3
    replace f3 := (hfb _ 3 (by omega)).trans f3
    replace r3 := (hcb _ 3 (by omega)).trans r3
    have bl3 : Below w.heap.size w w3 := bl2.trans (b3.mono (by omega))
    have ht3 := ht.below bl3 (Nat.le_refl _)
    clear hcb hfb
    go_wp2_with fail
    refine (CT.out _ ht3).mono ?_
    rintro e w4 ⟨rfl, b4⟩
    obtain ⟨hcb, hfb⟩ := bcell b4
    have hz4 := b4.size
    replace p0 := (hcb _ 0 (by omega)).trans p0
    replace f0 := (hfb _ 0 (by omega)).trans f0
    replace r0 := (hcb _ 0 (by omega)).trans r0
    replace p1 := (hcb _ 1 (by omega)).trans p1
    replace f1 := (hfb _ 1 (by omega)).trans f1
    replace r1 := (hcb _ 1 (by omega)).trans r1
    replace p2 := (hcb _ 2 (by omega)).trans p2
    replace f2 := (hfb _ 2 (by omega)).trans f2
    replace r2 := (hcb _ 2 (by omega)).trans r2
    replace p3 := (hcb _ 3 (by omega)).trans p3
    replace f3 := (hfb _ 3 (by omega)).trans f3
    replace r3 := (hcb _ 3 (by omega)).trans r3
    have bl4 : Below w.heap.size w w4 := bl3.trans (b4.mono (by omega))
    clear hcb hfb
    go_wp2
    exact bodyPost_ret (v := .tuple #[.agg #[.int .i64 a, .int .i64 b, .int .i64 c, .int .i64 d], .bool true]) (by simp [results, Tryd.results17, go_sem, p0, p1, p2, p3]) rfl ⟨rfl, (by repeat' (first | (with_reducible exact Below.refl _ _) | (with_reducible assumption) | (with_reducible refine Below.alloc ?_ ?_ _) | (with_reducible refine Below.drew ?_) | (with_reducible refine below_drewN ?_ _) | (with_reducible refine Below.setCell ?_ ?_ _) | go_size))⟩

theorem len4' {L : List Int} (h : L.length = 4) : ∃ a b c d, L = [a, b, c, d] := by
  match L, h with
  | [a, b, c, d], _ => exact ⟨a, b, c, d, rfl⟩
theorem implM_is {s : ByteArray} {o : Option (Int × Int × Int × Int)} (w : World) (hs : s.size ≤ 1048576) (hw : Snt w) (ht : Pow10 w) (ho : rdM s.data.toList = o) : Calls Tryd.prog 17 #[.string s] w fun e w' => e = .returned (.tuple #[o4 o, .bool o.isSome]) ∧ Below w.heap.size w w' := by
  have z0 : o4 none = .agg #[.int .i64 0, .int .i64 0, .int .i64 0, .int .i64 0] := rfl
  by_cases hn : (inL s).length = 4
  · obtain ⟨a, b, c, d, hL⟩ := len4' hn
    have hno : ∀ x y z t, rdM s.data.toList = some (x, y, z, t) → (good4 a b c d = true ∧ mTx a b c d = s) := fun x y z t h => by
      have h1 := inL_rdM h
      rw [hL] at h1
      simp only [List.cons.injEq, and_true] at h1
      obtain ⟨rfl, rfl, rfl, rfl⟩ := h1
      obtain ⟨⟨⟨g0, g1⟩, g2, g3⟩, hl⟩ := rdM_iff.1 h
      exact ⟨good4_iff.2 ⟨good_iff.2 g0, good_iff.2 g1, good_iff.2 g2, good_iff.2 g3⟩, (eq_mTx.2 hl).symm⟩
    have hone : good4 a b c d = false ∨ mTx a b c d ≠ s → o = none := fun h => by
      rcases hr : rdM s.data.toList with _ | ⟨x, y, z, t⟩
      · rw [← ho, hr]
      · obtain ⟨h1, h2⟩ := hno _ _ _ _ hr
        rcases h with h | h
        · rw [h1] at h; cases h
        · exact absurd h2 h
    rcases hg : good4 a b c d with _ | _
    · rw [hone (.inl hg), z0]
      exact paM_big w hs hw hL hg
    · by_cases hx : mTx a b c d = s
      · obtain ⟨g0, g1, g2, g3⟩ := good4_iff.1 hg
        have hr := (rdM_iff (l := s.data.toList) (a := a) (b := b) (c := c) (d := d)).2 ⟨⟨⟨good_iff.1 g0, good_iff.1 g1⟩, good_iff.1 g2, good_iff.1 g3⟩, eq_mTx.1 hx.symm⟩
        rw [ho] at hr
        subst hr
        exact paM_yes w hs hw ht hL hg hx
      · rw [hone (.inr hx), z0]
        exact paM_other w hs hw ht hL hg hx
  · have : o = none := by
      rcases hr : rdM s.data.toList with _ | ⟨x, y, z, t⟩
      · rw [← ho, hr]
      · rw [inL_rdM hr] at hn
        exact absurd rfl hn
    rw [this, z0]
    exact paM_len w hs hw hn
end Go.Proofs.YtpoipdjhelnibaaDoor
