/-
  Draws of the laws on integers.
-/
import Derived.Test.YtfpedehpmgcmnaaCur2
import Derived.Test.YtfpedehpmgcmnaaIn
import Derived.Test.YtfpedehpmgcmnaaFilt
import Derived.Test.YtfpedehpmgcmnaaAr
import Derived.Handy
import Derived.Test.YtfpedehpmgcmnaaJacS
namespace Go.Proofs.Ytfpedehpmgcmnaa
open Go.RowKit
set_option linter.unusedSimpArgs false
set_option linter.unusedVariables false

theorem Cu.new {w : World} {A : Option Addr} {n cap : Nat} (h : Code8 w w.heap.size A n) : Cu (w.alloc (.cells #[.slice A n cap, .int .i64 0, .int .u64 0] 80)) w.heap.size A n cap 0 := by
  refine ⟨⟨0, 0, CurB.new w A n cap, Nat.le_refl _⟩, fun i hi => ?_⟩
  obtain ⟨b, off, z, e, hb, z0, z1, hc⟩ := h i hi
  exact ⟨b, off, z, e, hb, z0, z1, (World.cell?_alloc_lt _ _ _ hb).trans hc⟩
theorem Code8.below {w w' : World} {A : Option Addr} {n : Nat} (h : Code8 w w.heap.size A n) (hb : Below w.heap.size w w') : Code8 w' w'.heap.size A n := fun i hi => by
  obtain ⟨b, off, z, e, hbl, z0, z1, hc⟩ := h i hi
  exact ⟨b, off, z, e, Nat.lt_of_lt_of_le hbl hb.size, z0, z1, by rw [(bcell hb).1 _ _ hbl]; exact hc⟩
theorem cur_below {w w' : World} {o : Obj} (h : (w.alloc o).grownBy w' (some w.heap.size)) : Below w.heap.size w w' :=
  Below.grown ((Below.refl _ _).alloc (Nat.le_refl _) _) h (by simp) (fun k hk => by simp at hk; omega)
def D1 (w : World) (e : Ending) (w' : World) : Prop := ∃ a, e = .returned (.int .i64 a) ∧ In64 a ∧ Below w.heap.size w w'
def D2 (w : World) (e : Ending) (w' : World) : Prop := ∃ a b, e = .returned (.tuple #[.int .i64 a, .int .i64 b]) ∧ (In64 a ∧ In64 b) ∧ Below w.heap.size w w'
def D4 (w : World) (e : Ending) (w' : World) : Prop := ∃ a b c d, e = .returned (.tuple #[.int .i64 a, .int .i64 b, .int .i64 c, .int .i64 d]) ∧ (In64 a ∧ In64 b ∧ In64 c ∧ In64 d) ∧ Below w.heap.size w w'
def mostV (a b : Int) : Int := if b < a then a else b
theorem mostV_ge (a b : Int) : a ≤ mostV a b ∧ (mostV a b = a ∨ mostV a b = b) := by unfold mostV; split <;> omega
theorem l1Most_any (a b : Int) (w : World) : Calls Try.prog 72 #[.int .i64 a, .int .i64 b] w fun e w' => e = .returned (.int .i64 (mostV a b)) ∧ w = w' := by
  by_cases h : b < a
  · have HV := Lib.hid (show mostV a b = a by unfold mostV; rw [if_pos h])
    go_enter Try.func72, Try.ntmps72
    go_wp2
    go_ret
    exact ⟨by rw [HV.out]; try rfl, rfl⟩
  · have HV := Lib.hid (show mostV a b = b by unfold mostV; rw [if_neg h])
    go_enter Try.func72, Try.ntmps72
    go_wp2
    go_ret
    exact ⟨by rw [HV.out]; try rfl, rfl⟩
theorem big_no (A1 A2 : Option Addr) (n1 c1 n2 c2 : Nat) (w : World) (h : n1 + n2 ≤ 1048576) : Calls Try.prog 22 #[.slice A1 n1 c1, .slice A2 n2 c2] w fun e w' => e = .returned (.bool false) ∧ w = w' := by
  have h1 : ¬ (1048576 : Int) < (n1 : Int) := by omega
  have h2 : ¬ (1048576 : Int) - (n1 : Int) < (n2 : Int) := by omega
  go_enter Try.func22, Try.ntmps22
  go_wp2
  go_ret
  exact ⟨rfl, rfl⟩
theorem big_yes (A1 A2 : Option Addr) (n1 c1 n2 c2 : Nat) (w : World) (m1 : n1 ≤ maxLen) (m2 : n2 ≤ maxLen) (h : 1048576 < n1 + n2) : Calls Try.prog 22 #[.slice A1 n1 c1, .slice A2 n2 c2] w fun e w' => e = .returned (.bool true) ∧ w = w' := by
  unfold maxLen at m1 m2
  by_cases h1 : 1048576 < n1
  · have h1' : (1048576 : Int) < (n1 : Int) := by omega
    go_enter Try.func22, Try.ntmps22
    go_wp2
    go_ret
    exact ⟨rfl, rfl⟩
  · have h1' : ¬ (1048576 : Int) < (n1 : Int) := by omega
    have h2' : (1048576 : Int) - (n1 : Int) < (n2 : Int) := by omega
    go_enter Try.func22, Try.ntmps22
    go_wp2
    go_ret
    exact ⟨rfl, rfl⟩
theorem l1Most_is {a b v : Int} (w : World) (h : mostV a b = v) : Calls Try.prog 72 #[.int .i64 a, .int .i64 b] w fun e w' => e = .returned (.int .i64 v) ∧ w = w' := by
  subst h; exact l1Most_any a b w
set_option maxHeartbeats 1600000 in
theorem drawGD_any (A : Option Addr) (n cap : Nat) (w : World) (h : Code8 w w.heap.size A n) (hn : n ≤ 1048576) : Calls Try.prog 64 #[.slice A n cap] w (D2 w) := by
  have HH := Lib.hid (Cu.new (cap := cap) h)
  clear h
  go_enter Try.func64, Try.ntmps64
  go_wp2_with fail
  refine (number_any _ HH.out hn (by omega)).mono ?_
  rintro e w1 ⟨x, rfl, hv1, hc1, hg1⟩
  have HC1 := Lib.hid hc1
  clear hc1
  go_wp2_with fail
  refine (number_any _ HC1.out hn (by omega)).mono ?_
  rintro e w2 ⟨y, rfl, hv2, hc2, hg2⟩
  have HC2 := Lib.hid hc2
  clear hc2
  go_wp2_with fail
  refine (one_any 3 _ HC2.out hn (by omega) (by omega) (by omega)).mono ?_
  rintro e w3 ⟨o, rfl, hc3, hg3⟩
  have HC3 := Lib.hid hc3
  clear hc3
  have hgg := grown_trans hg1 (grown_trans hg2 hg3)
  clear hg1 hg2 hg3
  rcases o with _ | _
  · go_wp2
    go_ret2
    exact ⟨_, _, rfl, ⟨hv1, hv2⟩, cur_below hgg⟩
  · rcases h1 : inB (-1000) 1000 x with _ | _
    · skip
      go_wp2_with fail
      ((with_reducible refine (l1In_any _ _ _ _).mono ?_); rintro e w0 ⟨rfl, rfl⟩)
      go_wp2
      go_ret2
      exact ⟨_, _, rfl, ⟨hv1, hv2⟩, cur_below hgg⟩
    · rcases h2 : inB (-1000) 1000 y with _ | _
      · skip
        go_wp2_with fail
        ((with_reducible refine (l1In_any _ _ _ _).mono ?_); rintro e w0 ⟨rfl, rfl⟩)
        go_wp2_with fail
        ((with_reducible refine (l1In_any _ _ _ _).mono ?_); rintro e w0 ⟨rfl, rfl⟩)
        go_wp2
        go_ret2
        exact ⟨_, _, rfl, ⟨hv1, hv2⟩, cur_below hgg⟩
      · have hx := inB_iff.1 h1
        have hy := inB_iff.1 h2
        go_wp2_with fail
        ((with_reducible refine (l1In_any _ _ _ _).mono ?_); rintro e w0 ⟨rfl, rfl⟩)
        go_wp2_with fail
        ((with_reducible refine (l1In_any _ _ _ _).mono ?_); rintro e w0 ⟨rfl, rfl⟩)
        go_wp2_with fail
        refine (pick_any 100 _ HC3.out hn (by omega) (by omega) (by omega)).mono ?_
        rintro e w4 ⟨u, rfl, ⟨u0, u1⟩, hc4, hg4⟩
        clear hc4
        have q1 := mul_le (A := 1000) (B := 100) (x := x) (y := 1 + u) (by omega) (by omega) (by omega) (by omega) (by omega) (by omega)
        have q2 := mul_le (A := 1000) (B := 100) (x := y) (y := 1 + u) (by omega) (by omega) (by omega) (by omega) (by omega) (by omega)
        go_wp2
        go_ret2
        exact ⟨_, _, rfl, ⟨by unfold In64; omega, by unfold In64; omega⟩, cur_below (grown_trans hgg hg4)⟩
theorem drawBZ_any (A : Option Addr) (n cap : Nat) (w : World) (h : Code8 w w.heap.size A n) (hn : n ≤ 1048576) : Calls Try.prog 32 #[.slice A n cap] w (D2 w) := by
  have HH := Lib.hid h
  clear h
  go_enter Try.func32, Try.ntmps32
  go_wp2_with fail
  refine (drawGD_any A n cap _ HH.out hn).mono ?_
  rintro e w1 ⟨a, b, rfl, hab, hb⟩
  go_wp2
  go_ret2
  exact ⟨_, _, rfl, hab, hb⟩
theorem drawPF_any (A : Option Addr) (n cap : Nat) (w : World) (h : Code8 w w.heap.size A n) (hn : n ≤ 1048576) : Calls Try.prog 23 #[.slice A n cap] w (D1 w) := by
  have HH := Lib.hid (Cu.new (cap := cap) h)
  clear h
  go_enter Try.func23, Try.ntmps23
  go_wp2_with fail
  refine (natural_any _ HH.out hn (by omega)).mono ?_
  rintro e w1 ⟨a, rfl, ha, hc, hg⟩
  clear hc
  go_wp2
  go_ret
  exact ⟨_, rfl, ha, cur_below hg⟩
set_option maxHeartbeats 1600000 in
theorem drawCR_any (A : Option Addr) (n cap : Nat) (w : World) (h : Code8 w w.heap.size A n) (hn : n ≤ 1048576) : Calls Try.prog 36 #[.slice A n cap] w (D4 w) := by
  have HH := Lib.hid (Cu.new (cap := cap) h)
  clear h
  go_enter Try.func36, Try.ntmps36
  go_wp2_with fail
  refine (pick_any 60 _ HH.out hn (by omega) (by omega) (by omega)).mono ?_
  rintro e w1 ⟨x, rfl, ⟨x0, x1⟩, hc1, hg1⟩
  have HC1 := Lib.hid hc1
  clear hc1
  go_wp2_with fail
  refine (pick_any 60 _ HC1.out hn (by omega) (by omega) (by omega)).mono ?_
  rintro e w2 ⟨y, rfl, ⟨y0, y1⟩, hc2, hg2⟩
  have HC2 := Lib.hid hc2
  clear hc2
  go_wp2_with fail
  refine (one_any 8 _ HC2.out hn (by omega) (by omega) (by omega)).mono ?_
  rintro e w3 ⟨o, rfl, hc3, hg3⟩
  have HC3 := Lib.hid hc3
  clear hc3
  have hgg := grown_trans hg1 (grown_trans hg2 hg3)
  clear hg1 hg2 hg3
  rcases o with _ | _
  · go_wp2_with fail
    refine (number_any _ HC3.out hn (by omega)).mono ?_
    rintro e w4 ⟨r, rfl, hv4, hc4, hg4⟩
    have HC4 := Lib.hid hc4
    clear hc4
    go_wp2_with fail
    refine (one_any 3 _ HC4.out hn (by omega) (by omega) (by omega)).mono ?_
    rintro e w5 ⟨p, rfl, hc5, hg5⟩
    have HC5 := Lib.hid hc5
    clear hc5
    have hg9 := grown_trans hgg (grown_trans hg4 hg5)
    clear hg4 hg5 hgg
    rcases p with _ | _
    · have i1 := hv4
      unfold In64 at i1
      have j1 := (show In64 (1 + x) by unfold In64; omega)
      have j2 := (show In64 (1 + y) by unfold In64; omega)
      unfold In64 at j1 j2
      obtain ⟨M, hM⟩ : ∃ M, mostV 1 (1 + x) = M := ⟨_, rfl⟩
      obtain ⟨N, hN⟩ : ∃ N, mostV 1 (1 + y) = N := ⟨_, rfl⟩
      have HM := Lib.hid hM
      have HN := Lib.hid hN
      have g1 := mostV_ge 1 (1 + x)
      have g2 := mostV_ge 1 (1 + y)
      rw [hM] at g1
      rw [hN] at g2
      have bM : 1 ≤ M ∧ M ≤ 9223372036854775807 := by omega
      have bN : 1 ≤ N ∧ N ≤ 9223372036854775807 := by omega
      clear hM hN
      have rM := tmod_bd (a := r) (m := M) (by omega)
      have rN := tmod_bd (a := r) (m := N) (by omega)
      have nM : M ≠ 0 := by omega
      have nN : N ≠ 0 := by omega
      go_wp2_with fail
      go_quiet (first | (go_at_call 72; exact jqadd (l1Most_is _ HM.out)) | (go_at_call 72; exact jqone (l1Most_is _ HM.out)) | (go_at_call 72; exact jqadd (l1Most_is _ HN.out)) | (go_at_call 72; exact jqone (l1Most_is _ HN.out)))
      go_wp2
      go_returns
      exact ⟨_, _, _, _, rfl, ⟨by unfold In64; first | omega | (have := Int.emod_lt_of_pos r (show 0 < M by omega); have := Int.emod_nonneg r (show M ≠ 0 by omega); omega), (show In64 (1 + x) by unfold In64; omega), by unfold In64; first | omega | (have := Int.emod_lt_of_pos r (show 0 < N by omega); have := Int.emod_nonneg r (show N ≠ 0 by omega); omega), (show In64 (1 + y) by unfold In64; omega)⟩, below_drewN (cur_below hg9) _⟩
    · go_wp2_with fail
      refine (number_any _ HC5.out hn (by omega)).mono ?_
      rintro e w6 ⟨q, rfl, hv6, hc6, hg6⟩
      have HC6 := Lib.hid hc6
      clear hc6
      go_wp2
      go_returns
      exact ⟨_, _, _, _, rfl, ⟨hv4, (show In64 (1 + x) by unfold In64; omega), hv6, (show In64 (1 + y) by unfold In64; omega)⟩, cur_below (grown_trans hg9 hg6)⟩
  · go_wp2_with fail
    refine (natural_any _ HC3.out hn (by omega)).mono ?_
    rintro e w11 ⟨M0, rfl, hv11, hc11, hg11⟩
    have HC11 := Lib.hid hc11
    clear hc11
    go_wp2_with fail
    refine (natural_any _ HC11.out hn (by omega)).mono ?_
    rintro e w12 ⟨N0, rfl, hv12, hc12, hg12⟩
    have HC12 := Lib.hid hc12
    clear hc12
    have hgg' := grown_trans hgg (grown_trans hg11 hg12)
    clear hgg hg11 hg12
    have hgg := hgg'
    clear hgg'
    go_wp2_with fail
    refine (number_any _ HC12.out hn (by omega)).mono ?_
    rintro e w13 ⟨r, rfl, hv13, hc13, hg13⟩
    have HC13 := Lib.hid hc13
    clear hc13
    go_wp2_with fail
    refine (one_any 3 _ HC13.out hn (by omega) (by omega) (by omega)).mono ?_
    rintro e w14 ⟨p, rfl, hc14, hg14⟩
    have HC14 := Lib.hid hc14
    clear hc14
    have hg9 := grown_trans hgg (grown_trans hg13 hg14)
    clear hg13 hg14 hgg
    rcases p with _ | _
    · have i1 := hv13
      unfold In64 at i1
      have j1 := hv11
      have j2 := hv12
      unfold In64 at j1 j2
      obtain ⟨M, hM⟩ : ∃ M, mostV 1 M0 = M := ⟨_, rfl⟩
      obtain ⟨N, hN⟩ : ∃ N, mostV 1 N0 = N := ⟨_, rfl⟩
      have HM := Lib.hid hM
      have HN := Lib.hid hN
      have g1 := mostV_ge 1 M0
      have g2 := mostV_ge 1 N0
      rw [hM] at g1
      rw [hN] at g2
      have bM : 1 ≤ M ∧ M ≤ 9223372036854775807 := by omega
      have bN : 1 ≤ N ∧ N ≤ 9223372036854775807 := by omega
      clear hM hN
      have rM := tmod_bd (a := r) (m := M) (by omega)
      have rN := tmod_bd (a := r) (m := N) (by omega)
      have nM : M ≠ 0 := by omega
      have nN : N ≠ 0 := by omega
      go_wp2_with fail
      go_quiet (first | (go_at_call 72; exact jqadd (l1Most_is _ HM.out)) | (go_at_call 72; exact jqone (l1Most_is _ HM.out)) | (go_at_call 72; exact jqadd (l1Most_is _ HN.out)) | (go_at_call 72; exact jqone (l1Most_is _ HN.out)))
      go_wp2
      go_returns
      exact ⟨_, _, _, _, rfl, ⟨by unfold In64; first | omega | (have := Int.emod_lt_of_pos r (show 0 < M by omega); have := Int.emod_nonneg r (show M ≠ 0 by omega); omega), hv11, by unfold In64; first | omega | (have := Int.emod_lt_of_pos r (show 0 < N by omega); have := Int.emod_nonneg r (show N ≠ 0 by omega); omega), hv12⟩, below_drewN (cur_below hg9) _⟩
    · go_wp2_with fail
      refine (number_any _ HC14.out hn (by omega)).mono ?_
      rintro e w15 ⟨q, rfl, hv15, hc15, hg15⟩
      have HC15 := Lib.hid hc15
      clear hc15
      go_wp2
      go_returns
      exact ⟨_, _, _, _, rfl, ⟨hv13, hv11, hv15, hv12⟩, cur_below (grown_trans hg9 hg15)⟩
end Go.Proofs.Ytfpedehpmgcmnaa
