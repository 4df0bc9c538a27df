/-
  Draws out of a cursor.
-/
import Derived.Test.YtfpedehpmgcmnaaCur
namespace Go.Proofs.Ytfpedehpmgcmnaa
open Go.RowKit
set_option linter.unusedSimpArgs false
set_option linter.unusedVariables false

theorem pick_any (N : Int) (w : World) {G n cap m : Nat} {A : Option Addr} (h : Cu w G A n cap m) (hn : n ≤ 1048576) (hm : m ≤ 900000) (N1 : 1 ≤ N) (N2 : N ≤ 1000000) : Calls Try.prog 69 #[.pointer (some ⟨G, 0, none⟩), .int .i64 N] w (CuR (fun x => 0 ≤ x ∧ x < N) G A n cap (m + 2) w) := by
  by_cases h1 : N ≤ 1
  · go_enter Try.func69, Try.ntmps69
    go_wp2
    go_ret
    exact ⟨0, rfl, by omega, h.more (by omega), World.grownBy.refl _ _⟩
  · by_cases h2 : N ≤ 200
    · have HH := Lib.hid h
      clear h
      go_enter Try.func69, Try.ntmps69
      go_wp2_with fail
      refine (next8_any _ HH.out hn (by omega)).mono ?_
      rintro e w1 ⟨x, rfl, ⟨x0, x1⟩, hc1, hg1⟩
      have r0 := Int.emod_nonneg x (show N ≠ 0 by omega)
      have r1 := Int.emod_lt_of_pos x (show 0 < N by omega)
      have HC := Lib.hid hc1
      clear hc1
      go_wp2
      go_ret
      exact ⟨_, rfl, ⟨r0, r1⟩, HC.out.more (by omega), hg1⟩
    · have HH := Lib.hid h
      clear h
      go_enter Try.func69, Try.ntmps69
      go_wp2_with fail
      refine (next8_any _ HH.out hn (by omega)).mono ?_
      rintro e w1 ⟨x, rfl, ⟨x0, x1⟩, hc1, hg1⟩
      have HC := Lib.hid hc1
      clear hc1
      go_wp2_with fail
      refine (next8_any _ HC.out hn (by omega)).mono ?_
      rintro e w2 ⟨y, rfl, ⟨y0, y1⟩, hc2, hg2⟩
      have r0 := Int.emod_nonneg (x * 256 + y) (show N ≠ 0 by omega)
      have r1 := Int.emod_lt_of_pos (x * 256 + y) (show 0 < N by omega)
      have HD := Lib.hid hc2
      clear hc2
      go_wp2
      go_ret
      exact ⟨_, rfl, ⟨r0, r1⟩, HD.out.more (by omega), grown_trans hg1 hg2⟩
theorem one_any (N : Int) (w : World) {G n cap m : Nat} {A : Option Addr} (h : Cu w G A n cap m) (hn : n ≤ 1048576) (hm : m ≤ 900000) (N1 : 1 ≤ N) (N2 : N ≤ 1000000) : Calls Try.prog 70 #[.pointer (some ⟨G, 0, none⟩), .int .i64 N] w (CuB G A n cap (m + 2) w) := by
  have HH := Lib.hid h
  clear h
  go_enter Try.func70, Try.ntmps70
  go_wp2_with fail
  refine (pick_any N _ HH.out hn hm N1 N2).mono ?_
  rintro e w1 ⟨x, rfl, ⟨x0, x1⟩, hc1, hg1⟩
  have HC := Lib.hid hc1
  clear hc1
  go_wp2
  go_ret
  exact ⟨_, rfl, HC.out, hg1⟩
theorem among_any (g K : Nat) (w : World) {G n cap m : Nat} {A : Option Addr} (h : Cu w G A n cap m) (hn : n ≤ 1048576) (hm : m ≤ 900000) (K1 : 1 ≤ K) (K2 : K ≤ 1000) (hg : g < w.heap.size) (hgG : g ≠ G) (hcell : ∀ j, j < K → ∃ z, In64 z ∧ w.cell? ⟨g, j, none⟩ = some (.int .i64 z)) :
    Calls Try.prog 82 #[.pointer (some ⟨G, 0, none⟩), .slice (some ⟨g, 0, none⟩) K K] w (CuR In64 G A n cap (m + 2) w) := by
  have HH := Lib.hid h
  have HC := Lib.hid hcell
  clear h hcell
  go_enter Try.func82, Try.ntmps82
  go_wp2_with fail
  refine (pick_any K _ HH.out hn hm (by omega) (by omega)).mono ?_
  rintro e w1 ⟨x, rfl, ⟨x0, x1⟩, hc1, hg1⟩
  obtain ⟨X, rfl⟩ : ∃ X : Nat, x = X := ⟨x.toNat, by omega⟩
  obtain ⟨z, hz, hcz⟩ := HC.out X (by omega)
  have hcz1 : w1.cell? ⟨g, X, none⟩ = some (.int .i64 z) := (World.cell?_of_block (hg1.block g hg (fun e => hgG (by simpa using e)))).trans hcz
  have HD := Lib.hid hc1
  have HZ := Lib.hid hz
  clear hc1 hcz hz
  go_wp2
  go_ret
  exact ⟨_, rfl, HZ.out, HD.out, hg1⟩
theorem mul_le8 {x y : Int} {A B : Nat} (x0 : 0 ≤ x) (x1 : x ≤ A) (y0 : 0 ≤ y) (y1 : y ≤ B) : 0 ≤ x * y ∧ x * y ≤ ((A * B : Nat) : Int) := by
  refine ⟨Int.mul_nonneg x0 y0, ?_⟩
  obtain ⟨X, rfl⟩ : ∃ X : Nat, x = X := ⟨x.toNat, by omega⟩
  obtain ⟨Y, rfl⟩ : ∃ Y : Nat, y = Y := ⟨y.toNat, by omega⟩
  have := Nat.mul_le_mul (show X ≤ A by omega) (show Y ≤ B by omega)
  rw [← Int.natCast_mul]
  omega
theorem number_lits (W : World) : ∀ j, j < 12 → ∃ z, In64 z ∧ (W.alloc (.cells #[.int .i64 0, .int .i64 1, .int .i64 (-1), .int .i64 1000000, .int .i64 (-1000000), .int .i64 1000001, .int .i64 (-1000001), .int .i64 (-9223372036854775808), .int .i64 9223372036854775807, .int .i64 999983, .int .i64 999999, .int .i64 1000] 3)).cell? ⟨W.heap.size, j, none⟩ = some (.int .i64 z) := fun j hj => by
  have hj' : j = 0 ∨ j = 1 ∨ j = 2 ∨ j = 3 ∨ j = 4 ∨ j = 5 ∨ j = 6 ∨ j = 7 ∨ j = 8 ∨ j = 9 ∨ j = 10 ∨ j = 11 := by omega
  rcases hj' with rfl | rfl | rfl | rfl | rfl | rfl | rfl | rfl | rfl | rfl | rfl | rfl
  · exact ⟨0, ⟨by omega, by omega⟩, by simp⟩
  · exact ⟨1, ⟨by omega, by omega⟩, by simp⟩
  · exact ⟨-1, ⟨by omega, by omega⟩, by simp⟩
  · exact ⟨1000000, ⟨by omega, by omega⟩, by simp⟩
  · exact ⟨-1000000, ⟨by omega, by omega⟩, by simp⟩
  · exact ⟨1000001, ⟨by omega, by omega⟩, by simp⟩
  · exact ⟨-1000001, ⟨by omega, by omega⟩, by simp⟩
  · exact ⟨-9223372036854775808, ⟨by omega, by omega⟩, by simp⟩
  · exact ⟨9223372036854775807, ⟨by omega, by omega⟩, by simp⟩
  · exact ⟨999983, ⟨by omega, by omega⟩, by simp⟩
  · exact ⟨999999, ⟨by omega, by omega⟩, by simp⟩
  · exact ⟨1000, ⟨by omega, by omega⟩, by simp⟩
theorem natural_lits (W : World) : ∀ j, j < 8 → ∃ z, In64 z ∧ (W.alloc (.cells #[.int .i64 1, .int .i64 1024, .int .i64 720720, .int .i64 510510, .int .i64 999983, .int .i64 998001, .int .i64 46656, .int .i64 1000000] 3)).cell? ⟨W.heap.size, j, none⟩ = some (.int .i64 z) := fun j hj => by
  have hj' : j = 0 ∨ j = 1 ∨ j = 2 ∨ j = 3 ∨ j = 4 ∨ j = 5 ∨ j = 6 ∨ j = 7 := by omega
  rcases hj' with rfl | rfl | rfl | rfl | rfl | rfl | rfl | rfl
  · exact ⟨1, ⟨by omega, by omega⟩, by simp⟩
  · exact ⟨1024, ⟨by omega, by omega⟩, by simp⟩
  · exact ⟨720720, ⟨by omega, by omega⟩, by simp⟩
  · exact ⟨510510, ⟨by omega, by omega⟩, by simp⟩
  · exact ⟨999983, ⟨by omega, by omega⟩, by simp⟩
  · exact ⟨998001, ⟨by omega, by omega⟩, by simp⟩
  · exact ⟨46656, ⟨by omega, by omega⟩, by simp⟩
  · exact ⟨1000000, ⟨by omega, by omega⟩, by simp⟩
set_option maxHeartbeats 1600000 in
theorem number_any (w : World) {G n cap m : Nat} {A : Option Addr} (h : Cu w G A n cap m) (hn : n ≤ 1048576) (hm : m ≤ 800000) : Calls Try.prog 71 #[.pointer (some ⟨G, 0, none⟩)] w (CuR In64 G A n cap (m + 10) w) := by
  have HH := Lib.hid h
  clear h
  go_enter Try.func71, Try.ntmps71
  go_wp2_with fail
  refine (pick_any 12 _ HH.out hn (by omega) (by omega) (by omega)).mono ?_
  rintro e w1 ⟨x, rfl, ⟨x0, x1⟩, hc1, hg1⟩
  have HC1 := Lib.hid hc1
  clear hc1
  have hx : x = 0 ∨ x = 1 ∨ x = 2 ∨ x = 3 ∨ x = 4 ∨ 5 ≤ x := by omega
  rcases hx with rfl | rfl | rfl | rfl | rfl | hx
  · have hG := HC1.out.lt
    go_wp2_with fail
    refine (among_any w1.heap.size 12 _ (HC1.out.alloc _) hn (by omega) (by omega) (by omega) (by simp) (by omega) (number_lits w1)).mono ?_
    rintro e w2 ⟨z, rfl, hz, hc2, hg2⟩
    have HC2 := Lib.hid hc2
    have HZ := Lib.hid hz
    clear hc2 hz
    go_wp2
    go_ret
    exact ⟨_, rfl, HZ.out, HC2.out.more (by omega), grown_trans hg1 (grown_trans (grown_alloc _ _ _) hg2)⟩
  · go_wp2_with fail
    refine (pick_any 50000 _ HC1.out hn (by omega) (by omega) (by omega)).mono ?_
    rintro e w2 ⟨y, rfl, ⟨y0, y1⟩, hc2, hg2⟩
    have HC2 := Lib.hid hc2
    clear hc2
    go_wp2_with fail
    refine (pick_any 20 _ HC2.out hn (by omega) (by omega) (by omega)).mono ?_
    rintro e w3 ⟨z, rfl, ⟨z0, z1⟩, hc3, hg3⟩
    have HC3 := Lib.hid hc3
    clear hc3
    have hq := mul_le8 (A := 50000) (B := 20) (x := y) (y := 1 + z) (by omega) (by omega) (by omega) (by omega)
    go_wp2_with fail
    refine (pick_any 2 _ HC3.out hn (by omega) (by omega) (by omega)).mono ?_
    rintro e w4 ⟨u, rfl, ⟨u0, u1⟩, hc4, hg4⟩
    have HC4 := Lib.hid hc4
    clear hc4
    have hu : u = 0 ∨ u = 1 := by omega
    have hgg := grown_trans hg1 (grown_trans hg2 (grown_trans hg3 hg4))
    clear hg1 hg2 hg3 hg4
    rcases hu with rfl | rfl
    all_goals
      go_wp2
      go_ret
      exact ⟨_, rfl, by unfold In64; first | omega | (simp; omega), HC4.out.more (by omega), hgg⟩
  · go_wp2_with fail
    refine (pick_any 50000 _ HC1.out hn (by omega) (by omega) (by omega)).mono ?_
    rintro e w2 ⟨y, rfl, ⟨y0, y1⟩, hc2, hg2⟩
    have HC2 := Lib.hid hc2
    clear hc2
    go_wp2_with fail
    refine (pick_any 20 _ HC2.out hn (by omega) (by omega) (by omega)).mono ?_
    rintro e w3 ⟨z, rfl, ⟨z0, z1⟩, hc3, hg3⟩
    have HC3 := Lib.hid hc3
    clear hc3
    have hq := mul_le8 (A := 50000) (B := 20) (x := y) (y := 1 + z) (by omega) (by omega) (by omega) (by omega)
    go_wp2_with fail
    refine (pick_any 2 _ HC3.out hn (by omega) (by omega) (by omega)).mono ?_
    rintro e w4 ⟨u, rfl, ⟨u0, u1⟩, hc4, hg4⟩
    have HC4 := Lib.hid hc4
    clear hc4
    have hu : u = 0 ∨ u = 1 := by omega
    have hgg := grown_trans hg1 (grown_trans hg2 (grown_trans hg3 hg4))
    clear hg1 hg2 hg3 hg4
    rcases hu with rfl | rfl
    all_goals
      go_wp2
      go_ret
      exact ⟨_, rfl, by unfold In64; first | omega | (simp; omega), HC4.out.more (by omega), hgg⟩
  · go_wp2_with fail
    refine (pick_any 2000 _ HC1.out hn (by omega) (by omega) (by omega)).mono ?_
    rintro e w2 ⟨y, rfl, ⟨y0, y1⟩, hc2, hg2⟩
    have HC2 := Lib.hid hc2
    clear hc2
    go_wp2
    go_ret
    exact ⟨_, rfl, by unfold In64; omega, HC2.out.more (by omega), grown_trans hg1 hg2⟩
  · go_wp2_with fail
    refine (pick_any 2000 _ HC1.out hn (by omega) (by omega) (by omega)).mono ?_
    rintro e w2 ⟨y, rfl, ⟨y0, y1⟩, hc2, hg2⟩
    have HC2 := Lib.hid hc2
    clear hc2
    go_wp2
    go_ret
    exact ⟨_, rfl, by unfold In64; omega, HC2.out.more (by omega), grown_trans hg1 hg2⟩
  · have t0 : (x == 0) = false := by rw [beq_eq_false_iff_ne]; omega
    have t1 : (x == 1) = false := by rw [beq_eq_false_iff_ne]; omega
    have t2 : (x == 2) = false := by rw [beq_eq_false_iff_ne]; omega
    have t3 : (x == 3) = false := by rw [beq_eq_false_iff_ne]; omega
    have t4 : (x == 4) = false := by rw [beq_eq_false_iff_ne]; omega
    go_wp2_with fail
    refine (pick_any 121 _ HC1.out hn (by omega) (by omega) (by omega)).mono ?_
    rintro e w2 ⟨y, rfl, ⟨y0, y1⟩, hc2, hg2⟩
    have HC2 := Lib.hid hc2
    clear hc2
    go_wp2
    go_ret
    exact ⟨_, rfl, by unfold In64; omega, HC2.out.more (by omega), grown_trans hg1 hg2⟩
set_option maxHeartbeats 1600000 in
theorem natural_any (w : World) {G n cap m : Nat} {A : Option Addr} (h : Cu w G A n cap m) (hn : n ≤ 1048576) (hm : m ≤ 700000) : Calls Try.prog 56 #[.pointer (some ⟨G, 0, none⟩)] w (CuR In64 G A n cap (m + 12) w) := by
  have HH := Lib.hid h
  clear h
  go_enter Try.func56, Try.ntmps56
  go_wp2_with fail
  refine (pick_any 10 _ HH.out hn (by omega) (by omega) (by omega)).mono ?_
  rintro e w1 ⟨x, rfl, ⟨x0, x1⟩, hc1, hg1⟩
  have HC1 := Lib.hid hc1
  clear hc1
  have hx : x = 0 ∨ x = 1 ∨ x = 2 ∨ x = 3 ∨ 4 ≤ x := by omega
  rcases hx with rfl | rfl | rfl | rfl | hx
  · go_wp2_with fail
    refine (number_any _ HC1.out hn (by omega)).mono ?_
    rintro e w2 ⟨z, rfl, hz, hc2, hg2⟩
    have HC2 := Lib.hid hc2
    have HZ := Lib.hid hz
    clear hc2 hz
    go_wp2
    go_ret
    exact ⟨_, rfl, HZ.out, HC2.out.more (by omega), grown_trans hg1 hg2⟩
  · have hG := HC1.out.lt
    go_wp2_with fail
    refine (among_any w1.heap.size 8 _ (HC1.out.alloc _) hn (by omega) (by omega) (by omega) (by simp) (by omega) (natural_lits w1)).mono ?_
    rintro e w2 ⟨z, rfl, hz, hc2, hg2⟩
    have HC2 := Lib.hid hc2
    have HZ := Lib.hid hz
    clear hc2 hz
    go_wp2
    go_ret
    exact ⟨_, rfl, HZ.out, HC2.out.more (by omega), grown_trans hg1 (grown_trans (grown_alloc _ _ _) hg2)⟩
  · go_wp2_with fail
    refine (pick_any 20000 _ HC1.out hn (by omega) (by omega) (by omega)).mono ?_
    rintro e w2 ⟨y, rfl, ⟨y0, y1⟩, hc2, hg2⟩
    have HC2 := Lib.hid hc2
    clear hc2
    go_wp2_with fail
    refine (pick_any 40 _ HC2.out hn (by omega) (by omega) (by omega)).mono ?_
    rintro e w3 ⟨z, rfl, ⟨z0, z1⟩, hc3, hg3⟩
    have HC3 := Lib.hid hc3
    clear hc3
    have hq := mul_le8 (A := 20000) (B := 40) (x := y) (y := 1 + z) (by omega) (by omega) (by omega) (by omega)
    go_wp2
    go_ret
    exact ⟨_, rfl, by unfold In64; omega, HC3.out.more (by omega), grown_trans hg1 (grown_trans hg2 hg3)⟩
  · go_wp2_with fail
    refine (pick_any 20000 _ HC1.out hn (by omega) (by omega) (by omega)).mono ?_
    rintro e w2 ⟨y, rfl, ⟨y0, y1⟩, hc2, hg2⟩
    have HC2 := Lib.hid hc2
    clear hc2
    go_wp2_with fail
    refine (pick_any 40 _ HC2.out hn (by omega) (by omega) (by omega)).mono ?_
    rintro e w3 ⟨z, rfl, ⟨z0, z1⟩, hc3, hg3⟩
    have HC3 := Lib.hid hc3
    clear hc3
    have hq := mul_le8 (A := 20000) (B := 40) (x := y) (y := 1 + z) (by omega) (by omega) (by omega) (by omega)
    go_wp2
    go_ret
    exact ⟨_, rfl, by unfold In64; omega, HC3.out.more (by omega), grown_trans hg1 (grown_trans hg2 hg3)⟩
  · have t0 : (x == 0) = false := by rw [beq_eq_false_iff_ne]; omega
    have t1 : (x == 1) = false := by rw [beq_eq_false_iff_ne]; omega
    have t2 : (x == 2) = false := by rw [beq_eq_false_iff_ne]; omega
    have t3 : (x == 3) = false := by rw [beq_eq_false_iff_ne]; omega
    go_wp2_with fail
    refine (pick_any 200 _ HC1.out hn (by omega) (by omega) (by omega)).mono ?_
    rintro e w2 ⟨y, rfl, ⟨y0, y1⟩, hc2, hg2⟩
    have HC2 := Lib.hid hc2
    clear hc2
    go_wp2
    go_ret
    exact ⟨_, rfl, by unfold In64; omega, HC2.out.more (by omega), grown_trans hg1 hg2⟩
end Go.Proofs.Ytfpedehpmgcmnaa
