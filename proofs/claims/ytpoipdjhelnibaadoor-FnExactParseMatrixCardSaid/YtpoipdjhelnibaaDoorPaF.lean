/-
  The program's reading of a form: impl.ParseForm.
-/
import Derived.Test.YtpoipdjhelnibaaDoorIni
import Derived.Test.YtpoipdjhelnibaaDoorRdT
import Derived.Test.YtpoipdjhelnibaaDoorForm
namespace Go.Proofs.YtpoipdjhelnibaaDoor
open Go.RowKit
set_option linter.unusedSimpArgs false
set_option linter.unusedVariables false

theorem lst_adr {w : World} {b : Nat} {v : Value} {L : List Int} (h : Lst w b v L) : ∃ A c, v = .slice A L.length c ∧ (0 < L.length → ∃ g, A = some ⟨g, 0, none⟩ ∧ g < w.heap.size ∧ ∀ k, k < L.length → w.cell? ⟨g, k, none⟩ = some (.int .i64 (L.getD k 0))) := by
  rcases h.shape with ⟨rfl, rfl⟩ | ⟨g, c, rfl, _, hg, hc, _⟩
  · exact ⟨_, _, rfl, fun h => by simp at h⟩
  · exact ⟨_, _, rfl, fun _ => ⟨_, rfl, hg, hc⟩⟩
set_option maxHeartbeats 1600000 in
set_option maxRecDepth 100000 in
/-- another number of integers -/
theorem paF_len {s : ByteArray} (w : World) (hs : s.size ≤ 1048576) (hw : Snt w) (hn : (inL s).length ≠ 3) :
    Calls Tryd.prog 14 #[.string s] w fun e w' => e = .returned (.tuple #[.agg #[.int .i64 0, .int .i64 0, .int .i64 0], .bool false]) ∧ Below w.heap.size w w' := by
  have C : Hid (∀ W, Snt W → Calls Tryd.prog 28 #[.string s] W fun e w' => ∃ v, e = .returned v ∧ Lst w' W.heap.size v (inL s) ∧ Below W.heap.size W w') := Lib.hid (fun W h => ints_any s W hs h)
  generalize inL s = D at *
  have n1 : ((D.length : Int) != 3) = true := by rw [bne_iff_ne]; omega
  have n2 : ¬ (D.length : Int) = 3 := by omega
  go_enter Tryd.func14, Tryd.ntmps14
  go_wp2_with fail
  refine (C.out _ (hw.below (B := w.heap.size) ((Below.refl _ w).alloc (Nat.le_refl _) _) (Nat.le_refl _))).mono ?_
  rintro e w1 ⟨v1, rfl, l1, b1⟩
  obtain ⟨A, cA, rfl, hA⟩ := lst_adr l1
  obtain ⟨hc1, hf1⟩ := bcell b1
  have hz1 := b1.size
  (try simp only [World.size_alloc] at hz1)
  have hs1 : w.heap.size < w1.heap.size := by omega
  have bl1 : Below w.heap.size w w1 := Below.trans (by go_grown) (b1.mono (by go_size))
  have p0 : w1.cell? ⟨w.heap.size, 0, none⟩ = some (.int .i64 0) := by rw [hc1 _ _ (by simp)]; simp [World.cell?_alloc_new]
  have f0 : w1.frozen? ⟨w.heap.size, 0, none⟩ = false := by rw [hf1 _ _ (by simp)]; exact World.frozen?_alloc_new _ _ _ _
  have p1 : w1.cell? ⟨w.heap.size, 1, none⟩ = some (.int .i64 0) := by rw [hc1 _ _ (by simp)]; simp [World.cell?_alloc_new]
  have f1 : w1.frozen? ⟨w.heap.size, 1, none⟩ = false := by rw [hf1 _ _ (by simp)]; exact World.frozen?_alloc_new _ _ _ _
  have p2 : w1.cell? ⟨w.heap.size, 2, none⟩ = some (.int .i64 0) := by rw [hc1 _ _ (by simp)]; simp [World.cell?_alloc_new]
  have f2 : w1.frozen? ⟨w.heap.size, 2, none⟩ = false := by rw [hf1 _ _ (by simp)]; exact World.frozen?_alloc_new _ _ _ _
  clear hc1 hf1
  clear hA l1
  go_wp2
  exact bodyPost_ret (v := .tuple #[.agg #[.int .i64 0, .int .i64 0, .int .i64 0], .bool false]) (by simp [results, Tryd.results14, go_sem, p0, p1, p2]) rfl ⟨rfl, (by repeat' (first | (with_reducible exact Below.refl _ _) | (with_reducible assumption) | (with_reducible refine Below.alloc ?_ ?_ _) | (with_reducible refine Below.drew ?_) | (with_reducible refine below_drewN ?_ _) | (with_reducible refine Below.setCell ?_ ?_ _) | go_size))⟩

set_option maxHeartbeats 6400000 in
set_option maxRecDepth 100000 in
/-- integers out of bounds -/
theorem paF_big {s : ByteArray} {a b c : Int} (w : World) (hs : s.size ≤ 1048576) (hw : Snt w) (hn : inL s = [a, b, c]) (hg : good3 a b c = false) :
    Calls Tryd.prog 14 #[.string s] w fun e w' => e = .returned (.tuple #[.agg #[.int .i64 0, .int .i64 0, .int .i64 0], .bool false]) ∧ Below w.heap.size w w' := by
  have C : Hid (∀ W, Snt W → Calls Tryd.prog 28 #[.string s] W fun e w' => ∃ v, e = .returned v ∧ Lst w' W.heap.size v [a, b, c] ∧ Below W.heap.size W w') := Lib.hid (fun W h => by rw [← hn]; exact ints_any s W hs h)
  have CF := Lib.hid (isForm_any a b c)
  rw [hg] at CF
  clear hn hg
  go_enter Tryd.func14, Tryd.ntmps14
  go_wp2_with fail
  refine (C.out _ (hw.below (B := w.heap.size) ((Below.refl _ w).alloc (Nat.le_refl _) _) (Nat.le_refl _))).mono ?_
  rintro e w1 ⟨v1, rfl, l1, b1⟩
  obtain ⟨A, cA, rfl, hA⟩ := lst_adr l1
  obtain ⟨hc1, hf1⟩ := bcell b1
  have hz1 := b1.size
  (try simp only [World.size_alloc] at hz1)
  have hs1 : w.heap.size < w1.heap.size := by omega
  have bl1 : Below w.heap.size w w1 := Below.trans (by go_grown) (b1.mono (by go_size))
  have p0 : w1.cell? ⟨w.heap.size, 0, none⟩ = some (.int .i64 0) := by rw [hc1 _ _ (by simp)]; simp [World.cell?_alloc_new]
  have f0 : w1.frozen? ⟨w.heap.size, 0, none⟩ = false := by rw [hf1 _ _ (by simp)]; exact World.frozen?_alloc_new _ _ _ _
  have p1 : w1.cell? ⟨w.heap.size, 1, none⟩ = some (.int .i64 0) := by rw [hc1 _ _ (by simp)]; simp [World.cell?_alloc_new]
  have f1 : w1.frozen? ⟨w.heap.size, 1, none⟩ = false := by rw [hf1 _ _ (by simp)]; exact World.frozen?_alloc_new _ _ _ _
  have p2 : w1.cell? ⟨w.heap.size, 2, none⟩ = some (.int .i64 0) := by rw [hc1 _ _ (by simp)]; simp [World.cell?_alloc_new]
  have f2 : w1.frozen? ⟨w.heap.size, 2, none⟩ = false := by rw [hf1 _ _ (by simp)]; exact World.frozen?_alloc_new _ _ _ _
  clear hc1 hf1
  obtain ⟨g, rfl, hg1, hcell⟩ := hA (by simp)
  have q0 := hcell 0 (by simp)
  have q1 := hcell 1 (by simp)
  have q2 := hcell 2 (by simp)
  simp at q0 q1 q2
  clear hcell hA l1
  obtain ⟨hca, hfa⟩ := bcell ((Below.refl w1.heap.size w1).alloc (Nat.le_refl _) (.cells #[.int .i64 0, .int .i64 0, .int .i64 0] 32))
  have u0 := (hca _ 0 hg1).trans q0
  have u1 := (hca _ 1 hg1).trans q1
  have u2 := (hca _ 2 hg1).trans q2
  clear hca hfa
  go_wp2
  go_region
  all_goals
    obtain ⟨hcb, hfb⟩ := bcell (((Below.refl w1.heap.size w1).alloc (Nat.le_refl _) (.cells #[.int .i64 a, .int .i64 b, .int .i64 c] 32)).drew)
    replace p0 := (hcb _ 0 hs1).trans p0
    replace f0 := (hfb _ 0 hs1).trans f0
    have r0 : ((w1.alloc (.cells #[.int .i64 a, .int .i64 b, .int .i64 c] 32)).drew).cell? ⟨w1.heap.size, 0, none⟩ = some (.int .i64 a) := by simp [World.cell?_alloc_new]
    replace p1 := (hcb _ 1 hs1).trans p1
    replace f1 := (hfb _ 1 hs1).trans f1
    have r1 : ((w1.alloc (.cells #[.int .i64 a, .int .i64 b, .int .i64 c] 32)).drew).cell? ⟨w1.heap.size, 1, none⟩ = some (.int .i64 b) := by simp [World.cell?_alloc_new]
    replace p2 := (hcb _ 2 hs1).trans p2
    replace f2 := (hfb _ 2 hs1).trans f2
    have r2 : ((w1.alloc (.cells #[.int .i64 a, .int .i64 b, .int .i64 c] 32)).drew).cell? ⟨w1.heap.size, 2, none⟩ = some (.int .i64 c) := by simp [World.cell?_alloc_new]
    have bl2 : Below w.heap.size w ((w1.alloc (.cells #[.int .i64 a, .int .i64 b, .int .i64 c] 32)).drew) := bl1.trans ((((Below.refl w1.heap.size w1).alloc (Nat.le_refl _) (.cells #[.int .i64 a, .int .i64 b, .int .i64 c] 32)).drew).mono (Nat.le_of_lt hs1))
    have hs2 : w1.heap.size < ((w1.alloc (.cells #[.int .i64 a, .int .i64 b, .int .i64 c] 32)).drew).heap.size := by simp
    have hs3 : w.heap.size < ((w1.alloc (.cells #[.int .i64 a, .int .i64 b, .int .i64 c] 32)).drew).heap.size := Nat.lt_trans hs1 hs2
    clear hcb hfb u0 q0 u1 q1 u2 q2
    generalize (w1.alloc (.cells #[.int .i64 a, .int .i64 b, .int .i64 c] 32)).drew = w2 at *
    go_wp2_with fail
    refine (CF.out _).mono ?_
    rintro e w3 ⟨rfl, b3⟩
    obtain ⟨hcb, hfb⟩ := bcell b3
    have hz3 := b3.size
    replace p0 := (hcb _ 0 (by omega)).trans p0
    replace f0 := (hfb _ 0 (by omega)).trans f0
    replace r0 := (hcb _ 0 (by omega)).trans r0
    replace p1 := (hcb _ 1 (by omega)).trans p1
    replace f1 := (hfb _ 1 (by omega)).trans f1
    replace r1 := (hcb _ 1 (by omega)).trans r1
    replace p2 := (hcb _ 2 (by omega)).trans p2
    replace f2 := (hfb _ 2 (by omega)).trans f2
    replace r2 := (hcb _ 2 (by omega)).trans r2
    have bl3 : Below w.heap.size w w3 := bl2.trans (b3.mono (by omega))
    clear hcb hfb
    go_wp2
    exact bodyPost_ret (v := .tuple #[.agg #[.int .i64 0, .int .i64 0, .int .i64 0], .bool false]) (by simp [results, Tryd.results14, go_sem, p0, p1, p2]) rfl ⟨rfl, (by repeat' (first | (with_reducible exact Below.refl _ _) | (with_reducible assumption) | (with_reducible refine Below.alloc ?_ ?_ _) | (with_reducible refine Below.drew ?_) | (with_reducible refine below_drewN ?_ _) | (with_reducible refine Below.setCell ?_ ?_ _) | go_size))⟩

set_option maxHeartbeats 6400000 in
set_option maxRecDepth 100000 in
/-- another text -/
theorem paF_other {s : ByteArray} {a b c : Int} (w : World) (hs : s.size ≤ 1048576) (hw : Snt w) (ht : Pow10 w) (hn : inL s = [a, b, c]) (hg : good3 a b c = true) (hx : fTx a b c ≠ s) :
    Calls Tryd.prog 14 #[.string s] w fun e w' => e = .returned (.tuple #[.agg #[.int .i64 0, .int .i64 0, .int .i64 0], .bool false]) ∧ Below w.heap.size w w' := by
  have C : Hid (∀ W, Snt W → Calls Tryd.prog 28 #[.string s] W fun e w' => ∃ v, e = .returned v ∧ Lst w' W.heap.size v [a, b, c] ∧ Below W.heap.size W w') := Lib.hid (fun W h => by rw [← hn]; exact ints_any s W hs h)
  have CF := Lib.hid (isForm_any a b c)
  obtain ⟨g0, g1, g2⟩ := good3_iff.1 hg
  rw [hg] at CF
  rw [good_iff] at g0
  rw [good_iff] at g1
  rw [good_iff] at g2
  have CT := Lib.hid (formText_any a b c g0 g1 g2)
  generalize fTx a b c = X at *
  have x1 : (X.toList == s.toList) = false := by
    rw [beq_eq_false_iff_ne]
    intro h
    rw [ByteArray.toList_eq, ByteArray.toList_eq] at h
    exact hx (ByteArray.ext (Array.toList_inj.1 h))
  clear hn hg
  go_enter Tryd.func14, Tryd.ntmps14
  go_wp2_with fail
  refine (C.out _ (hw.below (B := w.heap.size) ((Below.refl _ w).alloc (Nat.le_refl _) _) (Nat.le_refl _))).mono ?_
  rintro e w1 ⟨v1, rfl, l1, b1⟩
  obtain ⟨A, cA, rfl, hA⟩ := lst_adr l1
  obtain ⟨hc1, hf1⟩ := bcell b1
  have hz1 := b1.size
  (try simp only [World.size_alloc] at hz1)
  have hs1 : w.heap.size < w1.heap.size := by omega
  have bl1 : Below w.heap.size w w1 := Below.trans (by go_grown) (b1.mono (by go_size))
  have p0 : w1.cell? ⟨w.heap.size, 0, none⟩ = some (.int .i64 0) := by rw [hc1 _ _ (by simp)]; simp [World.cell?_alloc_new]
  have f0 : w1.frozen? ⟨w.heap.size, 0, none⟩ = false := by rw [hf1 _ _ (by simp)]; exact World.frozen?_alloc_new _ _ _ _
  have p1 : w1.cell? ⟨w.heap.size, 1, none⟩ = some (.int .i64 0) := by rw [hc1 _ _ (by simp)]; simp [World.cell?_alloc_new]
  have f1 : w1.frozen? ⟨w.heap.size, 1, none⟩ = false := by rw [hf1 _ _ (by simp)]; exact World.frozen?_alloc_new _ _ _ _
  have p2 : w1.cell? ⟨w.heap.size, 2, none⟩ = some (.int .i64 0) := by rw [hc1 _ _ (by simp)]; simp [World.cell?_alloc_new]
  have f2 : w1.frozen? ⟨w.heap.size, 2, none⟩ = false := by rw [hf1 _ _ (by simp)]; exact World.frozen?_alloc_new _ _ _ _
  clear hc1 hf1
  obtain ⟨g, rfl, hg1, hcell⟩ := hA (by simp)
  have q0 := hcell 0 (by simp)
  have q1 := hcell 1 (by simp)
  have q2 := hcell 2 (by simp)
  simp at q0 q1 q2
  clear hcell hA l1
  obtain ⟨hca, hfa⟩ := bcell ((Below.refl w1.heap.size w1).alloc (Nat.le_refl _) (.cells #[.int .i64 0, .int .i64 0, .int .i64 0] 32))
  have u0 := (hca _ 0 hg1).trans q0
  have u1 := (hca _ 1 hg1).trans q1
  have u2 := (hca _ 2 hg1).trans q2
  clear hca hfa
  go_wp2
  go_region
  all_goals
    obtain ⟨hcb, hfb⟩ := bcell (((Below.refl w1.heap.size w1).alloc (Nat.le_refl _) (.cells #[.int .i64 a, .int .i64 b, .int .i64 c] 32)).drew)
    replace p0 := (hcb _ 0 hs1).trans p0
    replace f0 := (hfb _ 0 hs1).trans f0
    have r0 : ((w1.alloc (.cells #[.int .i64 a, .int .i64 b, .int .i64 c] 32)).drew).cell? ⟨w1.heap.size, 0, none⟩ = some (.int .i64 a) := by simp [World.cell?_alloc_new]
    replace p1 := (hcb _ 1 hs1).trans p1
    replace f1 := (hfb _ 1 hs1).trans f1
    have r1 : ((w1.alloc (.cells #[.int .i64 a, .int .i64 b, .int .i64 c] 32)).drew).cell? ⟨w1.heap.size, 1, none⟩ = some (.int .i64 b) := by simp [World.cell?_alloc_new]
    replace p2 := (hcb _ 2 hs1).trans p2
    replace f2 := (hfb _ 2 hs1).trans f2
    have r2 : ((w1.alloc (.cells #[.int .i64 a, .int .i64 b, .int .i64 c] 32)).drew).cell? ⟨w1.heap.size, 2, none⟩ = some (.int .i64 c) := by simp [World.cell?_alloc_new]
    have bl2 : Below w.heap.size w ((w1.alloc (.cells #[.int .i64 a, .int .i64 b, .int .i64 c] 32)).drew) := bl1.trans ((((Below.refl w1.heap.size w1).alloc (Nat.le_refl _) (.cells #[.int .i64 a, .int .i64 b, .int .i64 c] 32)).drew).mono (Nat.le_of_lt hs1))
    have hs2 : w1.heap.size < ((w1.alloc (.cells #[.int .i64 a, .int .i64 b, .int .i64 c] 32)).drew).heap.size := by simp
    have hs3 : w.heap.size < ((w1.alloc (.cells #[.int .i64 a, .int .i64 b, .int .i64 c] 32)).drew).heap.size := Nat.lt_trans hs1 hs2
    clear hcb hfb u0 q0 u1 q1 u2 q2
    generalize (w1.alloc (.cells #[.int .i64 a, .int .i64 b, .int .i64 c] 32)).drew = w2 at *
    go_wp2_with fail
    refine (CF.out _).mono ?_
    rintro e w3 ⟨rfl, b3⟩
    obtain ⟨hcb, hfb⟩ := bcell b3
    have hz3 := b3.size
    replace p0 := (hcb _ 0 (by omega)).trans p0
    replace f0 := (hfb _ 0 (by omega)).trans f0
    replace r0 := (hcb _ 0 (by omega)).trans r0
    replace p1 := (hcb _ 1 (by omega)).trans p1
    replace f1 := (hfb _ 1 (by omega)).trans f1
    replace r1 := (hcb _ 1 (by omega)).trans r1
    replace p2 := (hcb _ 2 (by omega)).trans p2
    replace f2 := (hfb _ 2 (by omega)).trans f2
    replace r2 := (hcb _ 2 (by omega)).trans r2
    have bl3 : Below w.heap.size w w3 := bl2.trans (b3.mono (by omega))
    have ht3 := ht.below bl3 (Nat.le_refl _)
    clear hcb hfb
    go_wp2_with fail
    refine (CT.out _ ht3).mono ?_
    rintro e w4 ⟨rfl, b4⟩
    obtain ⟨hcb, hfb⟩ := bcell b4
    have hz4 := b4.size
    replace p0 := (hcb _ 0 (by omega)).trans p0
    replace f0 := (hfb _ 0 (by omega)).trans f0
    replace r0 := (hcb _ 0 (by omega)).trans r0
    replace p1 := (hcb _ 1 (by omega)).trans p1
    replace f1 := (hfb _ 1 (by omega)).trans f1
    replace r1 := (hcb _ 1 (by omega)).trans r1
    replace p2 := (hcb _ 2 (by omega)).trans p2
    replace f2 := (hfb _ 2 (by omega)).trans f2
    replace r2 := (hcb _ 2 (by omega)).trans r2
    have bl4 : Below w.heap.size w w4 := bl3.trans (b4.mono (by omega))
    clear hcb hfb
    go_wp2
    exact bodyPost_ret (v := .tuple #[.agg #[.int .i64 0, .int .i64 0, .int .i64 0], .bool false]) (by simp [results, Tryd.results14, go_sem, p0, p1, p2]) rfl ⟨rfl, (by repeat' (first | (with_reducible exact Below.refl _ _) | (with_reducible assumption) | (with_reducible refine Below.alloc ?_ ?_ _) | (with_reducible refine Below.drew ?_) | (with_reducible refine below_drewN ?_ _) | (with_reducible refine Below.setCell ?_ ?_ _) | go_size))⟩

set_option maxHeartbeats 6400000 in
set_option maxRecDepth 100000 in
/-- the canonical text -/
theorem paF_yes {s : ByteArray} {a b c : Int} (w : World) (hs : s.size ≤ 1048576) (hw : Snt w) (ht : Pow10 w) (hn : inL s = [a, b, c]) (hg : good3 a b c = true) (hx : fTx a b c = s) :
    Calls Tryd.prog 14 #[.string s] w fun e w' => e = .returned (.tuple #[.agg #[.int .i64 a, .int .i64 b, .int .i64 c], .bool true]) ∧ Below w.heap.size w w' := by
  have C : Hid (∀ W, Snt W → Calls Tryd.prog 28 #[.string s] W fun e w' => ∃ v, e = .returned v ∧ Lst w' W.heap.size v [a, b, c] ∧ Below W.heap.size W w') := Lib.hid (fun W h => by rw [← hn]; exact ints_any s W hs h)
  have CF := Lib.hid (isForm_any a b c)
  obtain ⟨g0, g1, g2⟩ := good3_iff.1 hg
  rw [hg] at CF
  rw [good_iff] at g0
  rw [good_iff] at g1
  rw [good_iff] at g2
  have CT := Lib.hid (formText_any a b c g0 g1 g2)
  generalize fTx a b c = X at *
  subst hx
  clear hn hg
  go_enter Tryd.func14, Tryd.ntmps14
  go_wp2_with fail
  refine (C.out _ (hw.below (B := w.heap.size) ((Below.refl _ w).alloc (Nat.le_refl _) _) (Nat.le_refl _))).mono ?_
  rintro e w1 ⟨v1, rfl, l1, b1⟩
  obtain ⟨A, cA, rfl, hA⟩ := lst_adr l1
  obtain ⟨hc1, hf1⟩ := bcell b1
  have hz1 := b1.size
  (try simp only [World.size_alloc] at hz1)
  have hs1 : w.heap.size < w1.heap.size := by omega
  have bl1 : Below w.heap.size w w1 := Below.trans (by go_grown) (b1.mono (by go_size))
  have p0 : w1.cell? ⟨w.heap.size, 0, none⟩ = some (.int .i64 0) := by rw [hc1 _ _ (by simp)]; simp [World.cell?_alloc_new]
  have f0 : w1.frozen? ⟨w.heap.size, 0, none⟩ = false := by rw [hf1 _ _ (by simp)]; exact World.frozen?_alloc_new _ _ _ _
  have p1 : w1.cell? ⟨w.heap.size, 1, none⟩ = some (.int .i64 0) := by rw [hc1 _ _ (by simp)]; simp [World.cell?_alloc_new]
  have f1 : w1.frozen? ⟨w.heap.size, 1, none⟩ = false := by rw [hf1 _ _ (by simp)]; exact World.frozen?_alloc_new _ _ _ _
  have p2 : w1.cell? ⟨w.heap.size, 2, none⟩ = some (.int .i64 0) := by rw [hc1 _ _ (by simp)]; simp [World.cell?_alloc_new]
  have f2 : w1.frozen? ⟨w.heap.size, 2, none⟩ = false := by rw [hf1 _ _ (by simp)]; exact World.frozen?_alloc_new _ _ _ _
  clear hc1 hf1
  obtain ⟨g, rfl, hg1, hcell⟩ := hA (by simp)
  have q0 := hcell 0 (by simp)
  have q1 := hcell 1 (by simp)
  have q2 := hcell 2 (by simp)
  simp at q0 q1 q2
  clear hcell hA l1
  obtain ⟨hca, hfa⟩ := bcell ((Below.refl w1.heap.size w1).alloc (Nat.le_refl _) (.cells #[.int .i64 0, .int .i64 0, .int .i64 0] 32))
  have u0 := (hca _ 0 hg1).trans q0
  have u1 := (hca _ 1 hg1).trans q1
  have u2 := (hca _ 2 hg1).trans q2
  clear hca hfa
  go_wp2
  go_region
  all_goals
    obtain ⟨hcb, hfb⟩ := bcell (((Below.refl w1.heap.size w1).alloc (Nat.le_refl _) (.cells #[.int .i64 a, .int .i64 b, .int .i64 c] 32)).drew)
    replace p0 := (hcb _ 0 hs1).trans p0
    replace f0 := (hfb _ 0 hs1).trans f0
    have r0 : ((w1.alloc (.cells #[.int .i64 a, .int .i64 b, .int .i64 c] 32)).drew).cell? ⟨w1.heap.size, 0, none⟩ = some (.int .i64 a) := by simp [World.cell?_alloc_new]
    replace p1 := (hcb _ 1 hs1).trans p1
    replace f1 := (hfb _ 1 hs1).trans f1
    have r1 : ((w1.alloc (.cells #[.int .i64 a, .int .i64 b, .int .i64 c] 32)).drew).cell? ⟨w1.heap.size, 1, none⟩ = some (.int .i64 b) := by simp [World.cell?_alloc_new]
    replace p2 := (hcb _ 2 hs1).trans p2
    replace f2 := (hfb _ 2 hs1).trans f2
    have r2 : ((w1.alloc (.cells #[.int .i64 a, .int .i64 b, .int .i64 c] 32)).drew).cell? ⟨w1.heap.size, 2, none⟩ = some (.int .i64 c) := by simp [World.cell?_alloc_new]
    have bl2 : Below w.heap.size w ((w1.alloc (.cells #[.int .i64 a, .int .i64 b, .int .i64 c] 32)).drew) := bl1.trans ((((Below.refl w1.heap.size w1).alloc (Nat.le_refl _) (.cells #[.int .i64 a, .int .i64 b, .int .i64 c] 32)).drew).mono (Nat.le_of_lt hs1))
    have hs2 : w1.heap.size < ((w1.alloc (.cells #[.int .i64 a, .int .i64 b, .int .i64 c] 32)).drew).heap.size := by simp
    have hs3 : w.heap.size < ((w1.alloc (.cells #[.int .i64 a, .int .i64 b, .int .i64 c] 32)).drew).heap.size := Nat.lt_trans hs1 hs2
    clear hcb hfb u0 q0 u1 q1 u2 q2
    generalize (w1.alloc (.cells #[.int .i64 a, .int .i64 b, .int .i64 c] 32)).drew = w2 at *
    go_wp2_with fail
    refine (CF.out _).mono ?_
    rintro e w3 ⟨rfl, b3⟩
    obtain ⟨hcb, hfb⟩ := bcell b3
    have hz3 := b3.size
    replace p0 := (hcb _ 0 (by omega)).trans p0
    replace f0 := (hfb _ 0 (by omega)).trans f0
    replace r0 := (hcb _ 0 (by omega)).trans r0
    replace p1 := (hcb _ 1 (by omega)).trans p1
    replace f1 := (hfb _ 1 (by omega)).trans f1
    replace r1 := (hcb _ 1 (by omega)).trans r1
    replace p2 := (hcb _ 2 (by omega)).trans p2
    replace f2 := (hfb _ 2 (by omega)).trans f2
    replace r2 := (hcb _ 2 (by omega)).trans r2
    have bl3 : Below w.heap.size w w3 := bl2.trans (b3.mono (by omega))
    have ht3 := ht.below bl3 (Nat.le_refl _)
    clear hcb hfb
    go_wp2_with fail
    refine (CT.out _ ht3).mono ?_
    rintro e w4 ⟨rfl, b4⟩
    obtain ⟨hcb, hfb⟩ := bcell b4
    have hz4 := b4.size
    replace p0 := (hcb _ 0 (by omega)).trans p0
    replace f0 := (hfb _ 0 (by omega)).trans f0
    replace r0 := (hcb _ 0 (by omega)).trans r0
    replace p1 := (hcb _ 1 (by omega)).trans p1
    replace f1 := (hfb _ 1 (by omega)).trans f1
    replace r1 := (hcb _ 1 (by omega)).trans r1
    replace p2 := (hcb _ 2 (by omega)).trans p2
    replace f2 := (hfb _ 2 (by omega)).trans f2
    replace r2 := (hcb _ 2 (by omega)).trans r2
    have bl4 : Below w.heap.size w w4 := bl3.trans (b4.mono (by omega))
    clear hcb hfb
    go_wp2
    exact bodyPost_ret (v := .tuple #[.agg #[.int .i64 a, .int .i64 b, .int .i64 c], .bool true]) (by simp [results, Tryd.results14, go_sem, p0, p1, p2]) rfl ⟨rfl, (by repeat' (first | (with_reducible exact Below.refl _ _) | (with_reducible assumption) | (with_reducible refine Below.alloc ?_ ?_ _) | (with_reducible refine Below.drew ?_) | (with_reducible refine below_drewN ?_ _) | (with_reducible refine Below.setCell ?_ ?_ _) | go_size))⟩

theorem len3' {L : List Int} (h : L.length = 3) : ∃ a b c, L = [a, b, c] := by
  match L, h with
  | [a, b, c], _ => exact ⟨a, b, c, rfl⟩
theorem implF_is {s : ByteArray} {o : Option (Int × Int × Int)} (w : World) (hs : s.size ≤ 1048576) (hw : Snt w) (ht : Pow10 w) (ho : rdF s.data.toList = o) : Calls Tryd.prog 14 #[.string s] w fun e w' => e = .returned (.tuple #[o3 o, .bool o.isSome]) ∧ Below w.heap.size w w' := by
  have z0 : o3 none = .agg #[.int .i64 0, .int .i64 0, .int .i64 0] := rfl
  by_cases hn : (inL s).length = 3
  · obtain ⟨a, b, c, hL⟩ := len3' hn
    have hno : ∀ x y z, rdF s.data.toList = some (x, y, z) → (good3 a b c = true ∧ fTx a b c = s) := fun x y z h => by
      have h1 := inL_rdF h
      rw [hL] at h1
      simp only [List.cons.injEq, and_true] at h1
      obtain ⟨rfl, rfl, rfl⟩ := h1
      obtain ⟨⟨g0, g1, g2⟩, hl⟩ := rdF_iff.1 h
      exact ⟨good3_iff.2 ⟨good_iff.2 g0, good_iff.2 g1, good_iff.2 g2⟩, (eq_fTx.2 hl).symm⟩
    have hone : good3 a b c = false ∨ fTx a b c ≠ s → o = none := fun h => by
      rcases hr : rdF s.data.toList with _ | ⟨x, y, z⟩
      · rw [← ho, hr]
      · obtain ⟨h1, h2⟩ := hno _ _ _ hr
        rcases h with h | h
        · rw [h1] at h; cases h
        · exact absurd h2 h
    rcases hg : good3 a b c with _ | _
    · rw [hone (.inl hg), z0]
      exact paF_big w hs hw hL hg
    · by_cases hx : fTx a b c = s
      · obtain ⟨g0, g1, g2⟩ := good3_iff.1 hg
        have hr := (rdF_iff (l := s.data.toList) (a := a) (b := b) (c := c)).2 ⟨⟨good_iff.1 g0, good_iff.1 g1, good_iff.1 g2⟩, eq_fTx.1 hx.symm⟩
        rw [ho] at hr
        subst hr
        exact paF_yes w hs hw ht hL hg hx
      · rw [hone (.inr hx), z0]
        exact paF_other w hs hw ht hL hg hx
  · have : o = none := by
      rcases hr : rdF s.data.toList with _ | ⟨x, y, z⟩
      · rw [← ho, hr]
      · rw [inL_rdF hr] at hn
        exact absurd rfl hn
    rw [this, z0]
    exact paF_len w hs hw hn
end Go.Proofs.YtpoipdjhelnibaaDoor
