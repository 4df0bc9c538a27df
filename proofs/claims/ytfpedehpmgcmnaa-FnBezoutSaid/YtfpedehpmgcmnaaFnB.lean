/-
  'FnBezout': its law's walk.
-/
import Derived.Test.YtfpedehpmgcmnaaBzP
import Derived.Test.YtfpedehpmgcmnaaDraw
import Derived.Test.YtfpedehpmgcmnaaUp2b
import Derived.Test.YtfpedehpmgcmnaaBytes
namespace Go.Proofs.Ytfpedehpmgcmnaa
open Go.RowKit
set_option linter.unusedSimpArgs false
set_option linter.unusedVariables false

theorem implBZ_is {a b g x y : Int} {v : Bool} (w : World) (hv : vBZ a b = v) (hg : oFor v (bzG a b) = g) (hx : oFor v (bzX a b) = x) (hy : oFor v (bzY a b) = y) : Calls Try.prog 33 #[.int .i64 a, .int .i64 b] w fun e w' => e = .returned (.tuple #[.int .i64 g, .int .i64 x, .int .i64 y, .bool v]) ∧ Below w.heap.size w w' := by
  subst hv hg hx hy; exact implBZ_any a b w
theorem specBZ_is {a b g x y : Int} {v : Bool} (w : World) (hv : vBZ a b = v) (hg : oFor v (bzG a b) = g) (hx : oFor v (bzX a b) = x) (hy : oFor v (bzY a b) = y) : Calls Try.prog 34 #[.int .i64 a, .int .i64 b] w fun e w' => e = .returned (.tuple #[.int .i64 g, .int .i64 x, .int .i64 y, .bool v]) ∧ Below w.heap.size w w' := by
  subst hv hg hx hy; exact specBZ_any a b w
theorem implGD_is {a b g : Int} {v : Bool} (w : World) (hv : vBZ a b = v) (hg : oFor v (bzG a b) = g) : Calls Try.prog 35 #[.int .i64 a, .int .i64 b] w fun e w' => e = .returned (.tuple #[.int .i64 g, .bool v]) ∧ Below w.heap.size w w' := by
  subst hv hg; exact implGD_any a b w
theorem implCR_is {a m b n r l : Int} {v : Bool} (w : World) (hv : vCR a m b n = v) (hr : oFor v (crX a m b n) = r) (hl : oFor v (crM m n) = l) : Calls Try.prog 37 #[.int .i64 a, .int .i64 m, .int .i64 b, .int .i64 n] w fun e w' => e = .returned (.tuple #[.int .i64 r, .int .i64 l, .bool v]) ∧ Below w.heap.size w w' := by
  subst hv hr hl; exact implCR_any a m b n w
theorem specCR_is {a m b n r l : Int} {v : Bool} (w : World) (hv : vCR a m b n = v) (hr : oFor v (crX a m b n) = r) (hl : oFor v (crM m n) = l) : Calls Try.prog 38 #[.int .i64 a, .int .i64 m, .int .i64 b, .int .i64 n] w fun e w' => e = .returned (.tuple #[.int .i64 r, .int .i64 l, .bool v]) ∧ Below w.heap.size w w' := by
  subst hv hr hl; exact specCR_any a m b n w
theorem implFD_is {d m i : Int} {v : Bool} (w : World) (hv : vFD d m = v) (m1 : 1 ≤ m) (hd : m * i = d) : Calls Try.prog 39 #[.int .i64 d, .int .i64 m] w fun e w' => e = .returned (.tuple #[.int .i64 (if v = true then i else 0), .int .i64 0, .bool v]) ∧ Below w.heap.size w w' := by
  have h := implFD_any d m w
  have e1 : d % (m.natAbs : Int) = 0 := by rw [show (m.natAbs : Int) = m by omega, ← hd]; exact Int.mul_emod_right m i
  have e2 : (d - 0).tdiv m = i := by rw [Int.sub_zero, ← hd, Int.mul_tdiv_cancel_left _ (by omega)]
  rw [e1, e2, hv] at h
  rcases v with _ | _ <;> exact h
set_option maxHeartbeats 6400000 in
set_option maxRecDepth 100000 in
theorem lawc_FnBezout (A1 : Option Addr) (n1 c1 : Nat) (A2 : Option Addr) (n2 c2 : Nat) (w : World) (h1 : Code8 w w.heap.size A1 n1) (h2 : Code8 w w.heap.size A2 n2) (m1 : n1 ≤ maxLen) (m2 : n2 ≤ maxLen) : Calls Try.prog 7 #[.slice A1 n1 c1, .slice A2 n2 c2] w fun e w' => e = .returned (.bool true) ∧ Below w.heap.size w w' := by
  by_cases hbig : n1 + n2 ≤ 1048576
  · have H1 := Lib.hid h1
    have H2 := Lib.hid h2
    clear h1 h2 m1 m2
    go_enter Try.func7, Try.ntmps7
    go_wp2_with fail
    ((with_reducible refine (big_no A1 A2 n1 c1 n2 c2 _ (by omega)).mono ?_); rintro e w0 ⟨rfl, rfl⟩)
    go_wp2_with fail
    ((refine (drawBZ_any A1 n1 c1 _ H1.out (by omega)).mono ?_); rintro e w1 ⟨a, b, rfl, ⟨ia, ib⟩, B1⟩)
    rcases hv : vBZ a b with _ | _
    · have HV1 := Lib.hid hv
      clear hv
      have HG := Lib.hid (show oFor false (bzG a b) = 0 from rfl)
      have HX := Lib.hid (show oFor false (bzX a b) = 0 from rfl)
      have HY := Lib.hid (show oFor false (bzY a b) = 0 from rfl)
      go_wp2_with fail
      ((refine (implBZ_is _ HV1.out HG.out HX.out HY.out).mono ?_); rintro e w2 ⟨rfl, b2⟩)
      have B2 := B1.trans (b2.mono B1.size)
      clear b2 B1
      go_wp2_with fail
      ((refine (specBZ_is _ HV1.out HG.out HX.out HY.out).mono ?_); rintro e w3 ⟨rfl, b3⟩)
      have B3 := B2.trans (b3.mono B2.size)
      clear b3 B2
      go_wp2_with fail
      ((refine (implGD_is _ HV1.out HG.out).mono ?_); rintro e w4 ⟨rfl, b4⟩)
      have B4 := B3.trans (b4.mono B3.size)
      clear b4 B3
      go_wp2_with fail
      ((refine (drawCR_any A2 n2 c2 _ (H2.out.below B4) (by omega)).mono ?_); rintro e w5 ⟨c, m, e, n, rfl, ⟨ic, im, ie, iN⟩, b5⟩)
      have B5 := B4.trans (b5.mono B4.size)
      clear b5 B4
      rcases hv2 : vCR c m e n with _ | _
      · have HV := Lib.hid hv2
        clear hv2
        have HR := Lib.hid (show oFor false (crX c m e n) = 0 from rfl)
        have HL := Lib.hid (show oFor false (crM m n) = 0 from rfl)
        go_wp2_with fail
        ((refine (implCR_is _ HV.out HR.out HL.out).mono ?_); rintro e w6 ⟨rfl, b6⟩)
        have B6 := B5.trans (b6.mono B5.size)
        clear b6 B5
        go_wp2_with fail
        ((refine (specCR_is _ HV.out HR.out HL.out).mono ?_); rintro e w7 ⟨rfl, b7⟩)
        have B7 := B6.trans (b7.mono B6.size)
        clear b7 B6
        go_wp2
        go_ret
        exact ⟨rfl, B7⟩
      · have hL := cr_law hv2
        have HV := Lib.hid hv2
        clear hv2
        obtain ⟨r, hr⟩ : ∃ r, crX c m e n = r := ⟨_, rfl⟩
        obtain ⟨l, hl⟩ : ∃ l, crM m n = l := ⟨_, rfl⟩
        rw [hr, hl] at hL
        have HR := Lib.hid (show oFor true (crX c m e n) = r from hr)
        have HL := Lib.hid (show oFor true (crM m n) = l from hl)
        clear hr hl
        obtain ⟨⟨r0, r1⟩, l1, ⟨i, hi⟩, ⟨j, hj⟩, bm, bn, bc, be⟩ := hL
        have HI := Lib.hid hi.symm
        have HJ := Lib.hid hj.symm
        have bi : -2000000 ≤ m * i ∧ m * i ≤ 2000000 := by omega
        have bj : -2000000 ≤ n * j ∧ n * j ≤ 2000000 := by omega
        rw [Int.mul_comm] at bi bj
        have ti : (i * m != r - c) = false := by rw [bne_eq_false_iff_eq, Int.mul_comm]; exact hi.symm
        have tj : (j * n != r - e) = false := by rw [bne_eq_false_iff_eq, Int.mul_comm]; exact hj.symm
        clear hi hj
        go_wp2_with fail
        ((refine (implCR_is _ HV.out HR.out HL.out).mono ?_); rintro e w6 ⟨rfl, b6⟩)
        have B6 := B5.trans (b6.mono B5.size)
        clear b6 B5
        go_wp2_with fail
        ((refine (specCR_is _ HV.out HR.out HL.out).mono ?_); rintro e w7 ⟨rfl, b7⟩)
        have B7 := B6.trans (b7.mono B6.size)
        clear b7 B6
        rcases h3 : vFD (r - c) m with _ | _
        · have H3 := Lib.hid h3
          clear h3
          go_wp2_with fail
          ((refine (implFD_is _ H3.out bm.1 HI.out).mono ?_); rintro e w8 ⟨rfl, b8⟩)
          have B8 := B7.trans (b8.mono B7.size)
          clear b8 B7
          rcases h4 : vFD (r - e) n with _ | _
          · have H4 := Lib.hid h4
            clear h4
            go_wp2_with fail
            ((refine (implFD_is _ H4.out bn.1 HJ.out).mono ?_); rintro e w9 ⟨rfl, b9⟩)
            have B9 := B8.trans (b9.mono B8.size)
            clear b9 B8
            go_wp2
            go_ret
            exact ⟨rfl, B9⟩
          · have H4 := Lib.hid h4
            clear h4
            go_wp2_with fail
            ((refine (implFD_is _ H4.out bn.1 HJ.out).mono ?_); rintro e w9 ⟨rfl, b9⟩)
            have B9 := B8.trans (b9.mono B8.size)
            clear b9 B8
            go_wp2
            go_ret
            exact ⟨rfl, B9⟩
        · have H3 := Lib.hid h3
          clear h3
          go_wp2_with fail
          ((refine (implFD_is _ H3.out bm.1 HI.out).mono ?_); rintro e w8 ⟨rfl, b8⟩)
          have B8 := B7.trans (b8.mono B7.size)
          clear b8 B7
          rcases h4 : vFD (r - e) n with _ | _
          · have H4 := Lib.hid h4
            clear h4
            go_wp2_with fail
            ((refine (implFD_is _ H4.out bn.1 HJ.out).mono ?_); rintro e w9 ⟨rfl, b9⟩)
            have B9 := B8.trans (b9.mono B8.size)
            clear b9 B8
            go_wp2
            go_ret
            exact ⟨rfl, B9⟩
          · have H4 := Lib.hid h4
            clear h4
            go_wp2_with fail
            ((refine (implFD_is _ H4.out bn.1 HJ.out).mono ?_); rintro e w9 ⟨rfl, b9⟩)
            have B9 := B8.trans (b9.mono B8.size)
            clear b9 B8
            go_wp2
            go_ret
            exact ⟨rfl, B9⟩
    · have hgd := hv
      simp only [vBZ, Bool.and_eq_true] at hgd
      have ga := good_iff.1 hgd.1
      have gb := good_iff.1 hgd.2
      have hL := bz_law ga gb
      have HV1 := Lib.hid hv
      clear hv hgd
      obtain ⟨g, hg⟩ : ∃ g, bzG a b = g := ⟨_, rfl⟩
      obtain ⟨x, hx⟩ : ∃ x, bzX a b = x := ⟨_, rfl⟩
      obtain ⟨y, hy⟩ : ∃ y, bzY a b = y := ⟨_, rfl⟩
      rw [hg, hx, hy] at hL
      have HG := Lib.hid (show oFor true (bzG a b) = g from hg)
      have HX := Lib.hid (show oFor true (bzX a b) = x from hx)
      have HY := Lib.hid (show oFor true (bzY a b) = y from hy)
      clear hg hx hy
      obtain ⟨he, bx, bg, da, db⟩ := hL
      have by' : -2000000000000 ≤ b * y ∧ b * y ≤ 2000000000000 := by omega
      have te : (a * x + b * y != g) = false := by rw [bne_eq_false_iff_eq]; exact he
      have ta : (a.tmod g != 0) = false := by rw [bne_eq_false_iff_eq]; exact Int.tmod_eq_zero_of_dvd da
      have tb : (b.tmod g != 0) = false := by rw [bne_eq_false_iff_eq]; exact Int.tmod_eq_zero_of_dvd db
      clear he da db
      go_wp2_with fail
      ((refine (implBZ_is _ HV1.out HG.out HX.out HY.out).mono ?_); rintro e w2 ⟨rfl, b2⟩)
      have B2 := B1.trans (b2.mono B1.size)
      clear b2 B1
      go_wp2_with fail
      ((refine (specBZ_is _ HV1.out HG.out HX.out HY.out).mono ?_); rintro e w3 ⟨rfl, b3⟩)
      have B3 := B2.trans (b3.mono B2.size)
      clear b3 B2
      go_wp2_with fail
      ((refine (implGD_is _ HV1.out HG.out).mono ?_); rintro e w4 ⟨rfl, b4⟩)
      have B4 := B3.trans (b4.mono B3.size)
      clear b4 B3
      by_cases g0 : g = 0
      · have tg : (g != 0) = false := by rw [bne_eq_false_iff_eq]; exact g0
        clear g0
        go_wp2_with fail
        ((refine (drawCR_any A2 n2 c2 _ (H2.out.below B4) (by omega)).mono ?_); rintro e w5 ⟨c, m, e, n, rfl, ⟨ic, im, ie, iN⟩, b5⟩)
        have B5 := B4.trans (b5.mono B4.size)
        clear b5 B4
        rcases hv2 : vCR c m e n with _ | _
        · have HV := Lib.hid hv2
          clear hv2
          have HR := Lib.hid (show oFor false (crX c m e n) = 0 from rfl)
          have HL := Lib.hid (show oFor false (crM m n) = 0 from rfl)
          go_wp2_with fail
          ((refine (implCR_is _ HV.out HR.out HL.out).mono ?_); rintro e w6 ⟨rfl, b6⟩)
          have B6 := B5.trans (b6.mono B5.size)
          clear b6 B5
          go_wp2_with fail
          ((refine (specCR_is _ HV.out HR.out HL.out).mono ?_); rintro e w7 ⟨rfl, b7⟩)
          have B7 := B6.trans (b7.mono B6.size)
          clear b7 B6
          go_wp2
          go_ret
          exact ⟨rfl, B7⟩
        · have hL := cr_law hv2
          have HV := Lib.hid hv2
          clear hv2
          obtain ⟨r, hr⟩ : ∃ r, crX c m e n = r := ⟨_, rfl⟩
          obtain ⟨l, hl⟩ : ∃ l, crM m n = l := ⟨_, rfl⟩
          rw [hr, hl] at hL
          have HR := Lib.hid (show oFor true (crX c m e n) = r from hr)
          have HL := Lib.hid (show oFor true (crM m n) = l from hl)
          clear hr hl
          obtain ⟨⟨r0, r1⟩, l1, ⟨i, hi⟩, ⟨j, hj⟩, bm, bn, bc, be⟩ := hL
          have HI := Lib.hid hi.symm
          have HJ := Lib.hid hj.symm
          have bi : -2000000 ≤ m * i ∧ m * i ≤ 2000000 := by omega
          have bj : -2000000 ≤ n * j ∧ n * j ≤ 2000000 := by omega
          rw [Int.mul_comm] at bi bj
          have ti : (i * m != r - c) = false := by rw [bne_eq_false_iff_eq, Int.mul_comm]; exact hi.symm
          have tj : (j * n != r - e) = false := by rw [bne_eq_false_iff_eq, Int.mul_comm]; exact hj.symm
          clear hi hj
          go_wp2_with fail
          ((refine (implCR_is _ HV.out HR.out HL.out).mono ?_); rintro e w6 ⟨rfl, b6⟩)
          have B6 := B5.trans (b6.mono B5.size)
          clear b6 B5
          go_wp2_with fail
          ((refine (specCR_is _ HV.out HR.out HL.out).mono ?_); rintro e w7 ⟨rfl, b7⟩)
          have B7 := B6.trans (b7.mono B6.size)
          clear b7 B6
          rcases h3 : vFD (r - c) m with _ | _
          · have H3 := Lib.hid h3
            clear h3
            go_wp2_with fail
            ((refine (implFD_is _ H3.out bm.1 HI.out).mono ?_); rintro e w8 ⟨rfl, b8⟩)
            have B8 := B7.trans (b8.mono B7.size)
            clear b8 B7
            rcases h4 : vFD (r - e) n with _ | _
            · have H4 := Lib.hid h4
              clear h4
              go_wp2_with fail
              ((refine (implFD_is _ H4.out bn.1 HJ.out).mono ?_); rintro e w9 ⟨rfl, b9⟩)
              have B9 := B8.trans (b9.mono B8.size)
              clear b9 B8
              go_wp2
              go_ret
              exact ⟨rfl, B9⟩
            · have H4 := Lib.hid h4
              clear h4
              go_wp2_with fail
              ((refine (implFD_is _ H4.out bn.1 HJ.out).mono ?_); rintro e w9 ⟨rfl, b9⟩)
              have B9 := B8.trans (b9.mono B8.size)
              clear b9 B8
              go_wp2
              go_ret
              exact ⟨rfl, B9⟩
          · have H3 := Lib.hid h3
            clear h3
            go_wp2_with fail
            ((refine (implFD_is _ H3.out bm.1 HI.out).mono ?_); rintro e w8 ⟨rfl, b8⟩)
            have B8 := B7.trans (b8.mono B7.size)
            clear b8 B7
            rcases h4 : vFD (r - e) n with _ | _
            · have H4 := Lib.hid h4
              clear h4
              go_wp2_with fail
              ((refine (implFD_is _ H4.out bn.1 HJ.out).mono ?_); rintro e w9 ⟨rfl, b9⟩)
              have B9 := B8.trans (b9.mono B8.size)
              clear b9 B8
              go_wp2
              go_ret
              exact ⟨rfl, B9⟩
            · have H4 := Lib.hid h4
              clear h4
              go_wp2_with fail
              ((refine (implFD_is _ H4.out bn.1 HJ.out).mono ?_); rintro e w9 ⟨rfl, b9⟩)
              have B9 := B8.trans (b9.mono B8.size)
              clear b9 B8
              go_wp2
              go_ret
              exact ⟨rfl, B9⟩
      · have tg : (g != 0) = true := by rw [bne_iff_ne]; exact g0
        go_wp2_with fail
        ((refine (drawCR_any A2 n2 c2 _ (H2.out.below B4) (by omega)).mono ?_); rintro e w5 ⟨c, m, e, n, rfl, ⟨ic, im, ie, iN⟩, b5⟩)
        have B5 := B4.trans (b5.mono B4.size)
        clear b5 B4
        rcases hv2 : vCR c m e n with _ | _
        · have HV := Lib.hid hv2
          clear hv2
          have HR := Lib.hid (show oFor false (crX c m e n) = 0 from rfl)
          have HL := Lib.hid (show oFor false (crM m n) = 0 from rfl)
          go_wp2_with fail
          ((refine (implCR_is _ HV.out HR.out HL.out).mono ?_); rintro e w6 ⟨rfl, b6⟩)
          have B6 := B5.trans (b6.mono B5.size)
          clear b6 B5
          go_wp2_with fail
          ((refine (specCR_is _ HV.out HR.out HL.out).mono ?_); rintro e w7 ⟨rfl, b7⟩)
          have B7 := B6.trans (b7.mono B6.size)
          clear b7 B6
          go_wp2
          go_ret
          exact ⟨rfl, B7⟩
        · have hL := cr_law hv2
          have HV := Lib.hid hv2
          clear hv2
          obtain ⟨r, hr⟩ : ∃ r, crX c m e n = r := ⟨_, rfl⟩
          obtain ⟨l, hl⟩ : ∃ l, crM m n = l := ⟨_, rfl⟩
          rw [hr, hl] at hL
          have HR := Lib.hid (show oFor true (crX c m e n) = r from hr)
          have HL := Lib.hid (show oFor true (crM m n) = l from hl)
          clear hr hl
          obtain ⟨⟨r0, r1⟩, l1, ⟨i, hi⟩, ⟨j, hj⟩, bm, bn, bc, be⟩ := hL
          have HI := Lib.hid hi.symm
          have HJ := Lib.hid hj.symm
          have bi : -2000000 ≤ m * i ∧ m * i ≤ 2000000 := by omega
          have bj : -2000000 ≤ n * j ∧ n * j ≤ 2000000 := by omega
          rw [Int.mul_comm] at bi bj
          have ti : (i * m != r - c) = false := by rw [bne_eq_false_iff_eq, Int.mul_comm]; exact hi.symm
          have tj : (j * n != r - e) = false := by rw [bne_eq_false_iff_eq, Int.mul_comm]; exact hj.symm
          clear hi hj
          go_wp2_with fail
          ((refine (implCR_is _ HV.out HR.out HL.out).mono ?_); rintro e w6 ⟨rfl, b6⟩)
          have B6 := B5.trans (b6.mono B5.size)
          clear b6 B5
          go_wp2_with fail
          ((refine (specCR_is _ HV.out HR.out HL.out).mono ?_); rintro e w7 ⟨rfl, b7⟩)
          have B7 := B6.trans (b7.mono B6.size)
          clear b7 B6
          rcases h3 : vFD (r - c) m with _ | _
          · have H3 := Lib.hid h3
            clear h3
            go_wp2_with fail
            ((refine (implFD_is _ H3.out bm.1 HI.out).mono ?_); rintro e w8 ⟨rfl, b8⟩)
            have B8 := B7.trans (b8.mono B7.size)
            clear b8 B7
            rcases h4 : vFD (r - e) n with _ | _
            · have H4 := Lib.hid h4
              clear h4
              go_wp2_with fail
              ((refine (implFD_is _ H4.out bn.1 HJ.out).mono ?_); rintro e w9 ⟨rfl, b9⟩)
              have B9 := B8.trans (b9.mono B8.size)
              clear b9 B8
              go_wp2
              go_ret
              exact ⟨rfl, B9⟩
            · have H4 := Lib.hid h4
              clear h4
              go_wp2_with fail
              ((refine (implFD_is _ H4.out bn.1 HJ.out).mono ?_); rintro e w9 ⟨rfl, b9⟩)
              have B9 := B8.trans (b9.mono B8.size)
              clear b9 B8
              go_wp2
              go_ret
              exact ⟨rfl, B9⟩
          · have H3 := Lib.hid h3
            clear h3
            go_wp2_with fail
            ((refine (implFD_is _ H3.out bm.1 HI.out).mono ?_); rintro e w8 ⟨rfl, b8⟩)
            have B8 := B7.trans (b8.mono B7.size)
            clear b8 B7
            rcases h4 : vFD (r - e) n with _ | _
            · have H4 := Lib.hid h4
              clear h4
              go_wp2_with fail
              ((refine (implFD_is _ H4.out bn.1 HJ.out).mono ?_); rintro e w9 ⟨rfl, b9⟩)
              have B9 := B8.trans (b9.mono B8.size)
              clear b9 B8
              go_wp2
              go_ret
              exact ⟨rfl, B9⟩
            · have H4 := Lib.hid h4
              clear h4
              go_wp2_with fail
              ((refine (implFD_is _ H4.out bn.1 HJ.out).mono ?_); rintro e w9 ⟨rfl, b9⟩)
              have B9 := B8.trans (b9.mono B8.size)
              clear b9 B8
              go_wp2
              go_ret
              exact ⟨rfl, B9⟩
  · clear h1 h2
    go_enter Try.func7, Try.ntmps7
    go_wp2_with fail
    ((with_reducible refine (big_yes A1 A2 n1 c1 n2 c2 _ m1 m2 (by omega)).mono ?_); rintro e w0 ⟨rfl, rfl⟩)
    go_wp2
    go_ret
    exact ⟨rfl, (by repeat' (first | (with_reducible exact Below.refl _ _) | (with_reducible assumption) | (with_reducible refine Below.alloc ?_ ?_ _) | (with_reducible refine Below.drew ?_) | (with_reducible refine below_drewN ?_ _) | (with_reducible refine Below.setCell ?_ ?_ _) | go_size))⟩
theorem law_FnBezout (A1 : Option Addr) (n1 c1 : Nat) (z1 : List Int) (A2 : Option Addr) (n2 c2 : Nat) (z2 : List Int) (w : World) (h1 : IsRow .u8 w A1 n1 c1 z1) (h2 : IsRow .u8 w A2 n2 c2 z2) : Calls Try.prog 7 #[.slice A1 n1 c1, .slice A2 n2 c2] w fun e w' => e = .returned (.bool true) ∧ Below w.heap.size w w' :=
  lawc_FnBezout A1 n1 c1 A2 n2 c2 w (row_code h1).1 (row_code h2).1 (row_code h1).2 (row_code h2).2
end Go.Proofs.Ytfpedehpmgcmnaa
