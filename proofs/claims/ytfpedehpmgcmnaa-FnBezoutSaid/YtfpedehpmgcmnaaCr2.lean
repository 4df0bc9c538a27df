/-
  'CommonResidue': its contracts and its law's walk.
-/
import Derived.Test.YtfpedehpmgcmnaaCr1
namespace Go.Proofs.Ytfpedehpmgcmnaa
open Go.RowKit
set_option linter.unusedSimpArgs false
set_option linter.unusedVariables false

theorem specCR_any (a m b n : Int) (w : World) : Calls Try.prog 38 #[.int .i64 a, .int .i64 m, .int .i64 b, .int .i64 n] w fun e w' =>
    e = .returned (.tuple #[.int .i64 (oFor (vCR a m b n) (crX a m b n)), .int .i64 (oFor (vCR a m b n) (crM m n)), .bool (vCR a m b n)]) ∧ Below w.heap.size w w' := by
  rcases h0 : good a with _ | _
  · rw [show vCR a m b n = false from vCR_bad (.inl h0)]
    simp only [oFor_false]
    go_enter Try.func38, Try.ntmps38
    go_wp2_with fail
    ((with_reducible refine (nuGood_any a _).mono ?_); rintro e w0 ⟨rfl, rfl⟩)
    go_wp2
    go_ret3
    first | exact ⟨rfl, (by repeat' (first | (with_reducible exact Below.refl _ _) | (with_reducible assumption) | (with_reducible refine Below.alloc ?_ ?_ _) | (with_reducible refine Below.drew ?_) | (with_reducible refine below_drewN ?_ _) | (with_reducible refine Below.setCell ?_ ?_ _) | go_size))⟩ | exact ⟨by simp [*], (by repeat' (first | (with_reducible exact Below.refl _ _) | (with_reducible assumption) | (with_reducible refine Below.alloc ?_ ?_ _) | (with_reducible refine Below.drew ?_) | (with_reducible refine below_drewN ?_ _) | (with_reducible refine Below.setCell ?_ ?_ _) | go_size))⟩ | exact ⟨by rw [HX.out, HM.out]; rfl, (by repeat' (first | (with_reducible exact Below.refl _ _) | (with_reducible assumption) | (with_reducible refine Below.alloc ?_ ?_ _) | (with_reducible refine Below.drew ?_) | (with_reducible refine below_drewN ?_ _) | (with_reducible refine Below.setCell ?_ ?_ _) | go_size))⟩
  · rcases h1 : good b with _ | _
    · rw [show vCR a m b n = false from vCR_bad (.inr (.inl h1))]
      simp only [oFor_false]
      go_enter Try.func38, Try.ntmps38
      go_wp2_with fail
      ((with_reducible refine (nuGood_any a _).mono ?_); rintro e w0 ⟨rfl, rfl⟩)
      go_wp2_with fail
      ((with_reducible refine (nuGood_any b _).mono ?_); rintro e w0 ⟨rfl, rfl⟩)
      go_wp2
      go_ret3
      first | exact ⟨rfl, (by repeat' (first | (with_reducible exact Below.refl _ _) | (with_reducible assumption) | (with_reducible refine Below.alloc ?_ ?_ _) | (with_reducible refine Below.drew ?_) | (with_reducible refine below_drewN ?_ _) | (with_reducible refine Below.setCell ?_ ?_ _) | go_size))⟩ | exact ⟨by simp [*], (by repeat' (first | (with_reducible exact Below.refl _ _) | (with_reducible assumption) | (with_reducible refine Below.alloc ?_ ?_ _) | (with_reducible refine Below.drew ?_) | (with_reducible refine below_drewN ?_ _) | (with_reducible refine Below.setCell ?_ ?_ _) | go_size))⟩ | exact ⟨by rw [HX.out, HM.out]; rfl, (by repeat' (first | (with_reducible exact Below.refl _ _) | (with_reducible assumption) | (with_reducible refine Below.alloc ?_ ?_ _) | (with_reducible refine Below.drew ?_) | (with_reducible refine below_drewN ?_ _) | (with_reducible refine Below.setCell ?_ ?_ _) | go_size))⟩
    · rcases h2 : inB 1 1000000 m with _ | _
      · rw [show vCR a m b n = false from vCR_bad (by have := inB_bad.1 h2; omega)]
        simp only [oFor_false]
        go_enter Try.func38, Try.ntmps38
        go_wp2_with fail
        ((with_reducible refine (nuGood_any a _).mono ?_); rintro e w0 ⟨rfl, rfl⟩)
        go_wp2_with fail
        ((with_reducible refine (nuGood_any b _).mono ?_); rintro e w0 ⟨rfl, rfl⟩)
        go_wp2_with fail
        ((with_reducible refine (l1In_any _ _ _ _).mono ?_); rintro e w0 ⟨rfl, rfl⟩)
        go_wp2
        go_ret3
        first | exact ⟨rfl, (by repeat' (first | (with_reducible exact Below.refl _ _) | (with_reducible assumption) | (with_reducible refine Below.alloc ?_ ?_ _) | (with_reducible refine Below.drew ?_) | (with_reducible refine below_drewN ?_ _) | (with_reducible refine Below.setCell ?_ ?_ _) | go_size))⟩ | exact ⟨by simp [*], (by repeat' (first | (with_reducible exact Below.refl _ _) | (with_reducible assumption) | (with_reducible refine Below.alloc ?_ ?_ _) | (with_reducible refine Below.drew ?_) | (with_reducible refine below_drewN ?_ _) | (with_reducible refine Below.setCell ?_ ?_ _) | go_size))⟩ | exact ⟨by rw [HX.out, HM.out]; rfl, (by repeat' (first | (with_reducible exact Below.refl _ _) | (with_reducible assumption) | (with_reducible refine Below.alloc ?_ ?_ _) | (with_reducible refine Below.drew ?_) | (with_reducible refine below_drewN ?_ _) | (with_reducible refine Below.setCell ?_ ?_ _) | go_size))⟩
      · rcases h3 : inB 1 1000000 n with _ | _
        · rw [show vCR a m b n = false from vCR_bad (by have := inB_bad.1 h3; omega)]
          simp only [oFor_false]
          go_enter Try.func38, Try.ntmps38
          go_wp2_with fail
          ((with_reducible refine (nuGood_any a _).mono ?_); rintro e w0 ⟨rfl, rfl⟩)
          go_wp2_with fail
          ((with_reducible refine (nuGood_any b _).mono ?_); rintro e w0 ⟨rfl, rfl⟩)
          go_wp2_with fail
          ((with_reducible refine (l1In_any _ _ _ _).mono ?_); rintro e w0 ⟨rfl, rfl⟩)
          go_wp2_with fail
          ((with_reducible refine (l1In_any _ _ _ _).mono ?_); rintro e w0 ⟨rfl, rfl⟩)
          go_wp2
          go_ret3
          first | exact ⟨rfl, (by repeat' (first | (with_reducible exact Below.refl _ _) | (with_reducible assumption) | (with_reducible refine Below.alloc ?_ ?_ _) | (with_reducible refine Below.drew ?_) | (with_reducible refine below_drewN ?_ _) | (with_reducible refine Below.setCell ?_ ?_ _) | go_size))⟩ | exact ⟨by simp [*], (by repeat' (first | (with_reducible exact Below.refl _ _) | (with_reducible assumption) | (with_reducible refine Below.alloc ?_ ?_ _) | (with_reducible refine Below.drew ?_) | (with_reducible refine below_drewN ?_ _) | (with_reducible refine Below.setCell ?_ ?_ _) | go_size))⟩ | exact ⟨by rw [HX.out, HM.out]; rfl, (by repeat' (first | (with_reducible exact Below.refl _ _) | (with_reducible assumption) | (with_reducible refine Below.alloc ?_ ?_ _) | (with_reducible refine Below.drew ?_) | (with_reducible refine below_drewN ?_ _) | (with_reducible refine Below.setCell ?_ ?_ _) | go_size))⟩
        · by_cases h4 : 1000000 < crM m n
          · have ha := good_iff.1 h0
            have hb := good_iff.1 h1
            have hm := inB_iff.1 h2
            have hn := inB_iff.1 h3
            obtain ⟨g, p, q, r, v, t, C⟩ := cr_of a m b n ha hb (by omega) (by omega) (by omega) (by omega)
            obtain ⟨hg, hp, hq, hr, hv, ht, g1, p1, q1, al, co, r1, v1, rv, t1, mt, rq, rw1, same, eM, eX⟩ := C
            subst hp hq hr ht
            have HM := Lib.hid eM
            have HX := Lib.hid eX
            have HS := Lib.hid same
            have CO := Lib.hid co
            have HV := Lib.hid hv
            have hG : crG m n = g := hg
            clear same eX co hv
            rw [eM] at h4
            rw [show vCR a m b n = false from vCR_bad (by omega)]
            simp only [oFor_false]
            clear eM
            go_enter Try.func38, Try.ntmps38
            go_wp2_with fail
            ((with_reducible refine (nuGood_any a _).mono ?_); rintro e w0 ⟨rfl, rfl⟩)
            go_wp2_with fail
            ((with_reducible refine (nuGood_any b _).mono ?_); rintro e w0 ⟨rfl, rfl⟩)
            go_wp2_with fail
            ((with_reducible refine (l1In_any _ _ _ _).mono ?_); rintro e w0 ⟨rfl, rfl⟩)
            go_wp2_with fail
            ((with_reducible refine (l1In_any _ _ _ _).mono ?_); rintro e w0 ⟨rfl, rfl⟩)
            go_wp2_with fail
            ((with_reducible refine (nuGcd_is _ hg (by omega) (by omega) (by omega) (by omega)).mono ?_); rintro e w0 ⟨rfl, d1, rfl⟩)
            go_wp2
            go_ret3
            first | exact ⟨rfl, (by repeat' (first | (with_reducible exact Below.refl _ _) | (with_reducible assumption) | (with_reducible refine Below.alloc ?_ ?_ _) | (with_reducible refine Below.drew ?_) | (with_reducible refine below_drewN ?_ _) | (with_reducible refine Below.setCell ?_ ?_ _) | go_size))⟩ | exact ⟨by simp [*], (by repeat' (first | (with_reducible exact Below.refl _ _) | (with_reducible assumption) | (with_reducible refine Below.alloc ?_ ?_ _) | (with_reducible refine Below.drew ?_) | (with_reducible refine below_drewN ?_ _) | (with_reducible refine Below.setCell ?_ ?_ _) | go_size))⟩ | exact ⟨by rw [HX.out, HM.out]; rfl, (by repeat' (first | (with_reducible exact Below.refl _ _) | (with_reducible assumption) | (with_reducible refine Below.alloc ?_ ?_ _) | (with_reducible refine Below.drew ?_) | (with_reducible refine below_drewN ?_ _) | (with_reducible refine Below.setCell ?_ ?_ _) | go_size))⟩
          · by_cases h5 : (b - a).tmod (crG m n) = 0
            · have ha := good_iff.1 h0
              have hb := good_iff.1 h1
              have hm := inB_iff.1 h2
              have hn := inB_iff.1 h3
              rw [vCR_ok h0 h1 (by omega) (by omega) (by omega) (by omega) (by omega) h5]
              simp only [oFor_true]
              obtain ⟨g, p, q, r, v, t, C⟩ := cr_of a m b n ha hb (by omega) (by omega) (by omega) (by omega)
              obtain ⟨hg, hp, hq, hr, hv, ht, g1, p1, q1, al, co, r1, v1, rv, t1, mt, rq, rw1, same, eM, eX⟩ := C
              subst hp hq hr ht
              have HM := Lib.hid eM
              have HX := Lib.hid eX
              have HS := Lib.hid same
              have CO := Lib.hid co
              have HV := Lib.hid hv
              have hG : crG m n = g := hg
              clear same eX co hv
              rw [eM] at h4
              clear eM
              go_enter Try.func38, Try.ntmps38
              go_wp2_with fail
              ((with_reducible refine (nuGood_any a _).mono ?_); rintro e w0 ⟨rfl, rfl⟩)
              go_wp2_with fail
              ((with_reducible refine (nuGood_any b _).mono ?_); rintro e w0 ⟨rfl, rfl⟩)
              go_wp2_with fail
              ((with_reducible refine (l1In_any _ _ _ _).mono ?_); rintro e w0 ⟨rfl, rfl⟩)
              go_wp2_with fail
              ((with_reducible refine (l1In_any _ _ _ _).mono ?_); rintro e w0 ⟨rfl, rfl⟩)
              go_wp2_with fail
              ((with_reducible refine (nuGcd_is _ hg (by omega) (by omega) (by omega) (by omega)).mono ?_); rintro e w0 ⟨rfl, d1, rfl⟩)
              go_wp2_with fail
              ((with_reducible refine (nuCommon_ok a m b n _ ha hb (by omega) (by omega) (by omega) (by omega) h5).mono ?_); rintro e w0 ⟨rfl, d2, rfl⟩)
              go_wp2
              go_ret3
              first | exact ⟨rfl, (by repeat' (first | (with_reducible exact Below.refl _ _) | (with_reducible assumption) | (with_reducible refine Below.alloc ?_ ?_ _) | (with_reducible refine Below.drew ?_) | (with_reducible refine below_drewN ?_ _) | (with_reducible refine Below.setCell ?_ ?_ _) | go_size))⟩ | exact ⟨by simp [*], (by repeat' (first | (with_reducible exact Below.refl _ _) | (with_reducible assumption) | (with_reducible refine Below.alloc ?_ ?_ _) | (with_reducible refine Below.drew ?_) | (with_reducible refine below_drewN ?_ _) | (with_reducible refine Below.setCell ?_ ?_ _) | go_size))⟩ | exact ⟨by rw [HX.out, HM.out]; rfl, (by repeat' (first | (with_reducible exact Below.refl _ _) | (with_reducible assumption) | (with_reducible refine Below.alloc ?_ ?_ _) | (with_reducible refine Below.drew ?_) | (with_reducible refine below_drewN ?_ _) | (with_reducible refine Below.setCell ?_ ?_ _) | go_size))⟩
            · have ha := good_iff.1 h0
              have hb := good_iff.1 h1
              have hm := inB_iff.1 h2
              have hn := inB_iff.1 h3
              obtain ⟨g, p, q, r, v, t, C⟩ := cr_of a m b n ha hb (by omega) (by omega) (by omega) (by omega)
              obtain ⟨hg, hp, hq, hr, hv, ht, g1, p1, q1, al, co, r1, v1, rv, t1, mt, rq, rw1, same, eM, eX⟩ := C
              subst hp hq hr ht
              have HM := Lib.hid eM
              have HX := Lib.hid eX
              have HS := Lib.hid same
              have CO := Lib.hid co
              have HV := Lib.hid hv
              have hG : crG m n = g := hg
              clear same eX co hv
              rw [eM] at h4
              clear eM
              rw [show vCR a m b n = false from vCR_bad (.inr (.inr (.inr (.inr (.inr (.inr (.inr h5)))))))]
              simp only [oFor_false]
              go_enter Try.func38, Try.ntmps38
              go_wp2_with fail
              ((with_reducible refine (nuGood_any a _).mono ?_); rintro e w0 ⟨rfl, rfl⟩)
              go_wp2_with fail
              ((with_reducible refine (nuGood_any b _).mono ?_); rintro e w0 ⟨rfl, rfl⟩)
              go_wp2_with fail
              ((with_reducible refine (l1In_any _ _ _ _).mono ?_); rintro e w0 ⟨rfl, rfl⟩)
              go_wp2_with fail
              ((with_reducible refine (l1In_any _ _ _ _).mono ?_); rintro e w0 ⟨rfl, rfl⟩)
              go_wp2_with fail
              ((with_reducible refine (nuGcd_is _ hg (by omega) (by omega) (by omega) (by omega)).mono ?_); rintro e w0 ⟨rfl, d1, rfl⟩)
              go_wp2_with fail
              ((with_reducible refine (nuCommon_no a m b n _ ha hb (by omega) (by omega) (by omega) (by omega) h5).mono ?_); rintro e w0 ⟨rfl, d2, rfl⟩)
              go_wp2
              go_ret3
              first | exact ⟨rfl, (by repeat' (first | (with_reducible exact Below.refl _ _) | (with_reducible assumption) | (with_reducible refine Below.alloc ?_ ?_ _) | (with_reducible refine Below.drew ?_) | (with_reducible refine below_drewN ?_ _) | (with_reducible refine Below.setCell ?_ ?_ _) | go_size))⟩ | exact ⟨by simp [*], (by repeat' (first | (with_reducible exact Below.refl _ _) | (with_reducible assumption) | (with_reducible refine Below.alloc ?_ ?_ _) | (with_reducible refine Below.drew ?_) | (with_reducible refine below_drewN ?_ _) | (with_reducible refine Below.setCell ?_ ?_ _) | go_size))⟩ | exact ⟨by rw [HX.out, HM.out]; rfl, (by repeat' (first | (with_reducible exact Below.refl _ _) | (with_reducible assumption) | (with_reducible refine Below.alloc ?_ ?_ _) | (with_reducible refine Below.drew ?_) | (with_reducible refine below_drewN ?_ _) | (with_reducible refine Below.setCell ?_ ?_ _) | go_size))⟩

theorem implCR_any (a m b n : Int) (w : World) : Calls Try.prog 37 #[.int .i64 a, .int .i64 m, .int .i64 b, .int .i64 n] w fun e w' =>
    e = .returned (.tuple #[.int .i64 (oFor (vCR a m b n) (crX a m b n)), .int .i64 (oFor (vCR a m b n) (crM m n)), .bool (vCR a m b n)]) ∧ Below w.heap.size w w' := by
  rcases h0 : good a with _ | _
  · rw [show vCR a m b n = false from vCR_bad (.inl h0)]
    simp only [oFor_false]
    go_enter Try.func37, Try.ntmps37
    go_wp2_with fail
    ((with_reducible refine (are4 a m b n _ _ (by simp) (by simp) (by simp) (by simp)).mono ?_); rintro e w0 ⟨rfl, rfl⟩)
    go_wp2
    go_ret3
    first | exact ⟨rfl, (by repeat' (first | (with_reducible exact Below.refl _ _) | (with_reducible assumption) | (with_reducible refine Below.alloc ?_ ?_ _) | (with_reducible refine Below.drew ?_) | (with_reducible refine below_drewN ?_ _) | (with_reducible refine Below.setCell ?_ ?_ _) | go_size))⟩ | exact ⟨by rw [HX.out, HM.out, ← HS.out]; rfl, (by repeat' (first | (with_reducible exact Below.refl _ _) | (with_reducible assumption) | (with_reducible refine Below.alloc ?_ ?_ _) | (with_reducible refine Below.drew ?_) | (with_reducible refine below_drewN ?_ _) | (with_reducible refine Below.setCell ?_ ?_ _) | go_size))⟩
  · rcases h1 : good b with _ | _
    · rw [show vCR a m b n = false from vCR_bad (.inr (.inl h1))]
      simp only [oFor_false]
      go_enter Try.func37, Try.ntmps37
      go_wp2_with fail
      ((with_reducible refine (are4 a m b n _ _ (by simp) (by simp) (by simp) (by simp)).mono ?_); rintro e w0 ⟨rfl, rfl⟩)
      go_wp2
      go_ret3
      first | exact ⟨rfl, (by repeat' (first | (with_reducible exact Below.refl _ _) | (with_reducible assumption) | (with_reducible refine Below.alloc ?_ ?_ _) | (with_reducible refine Below.drew ?_) | (with_reducible refine below_drewN ?_ _) | (with_reducible refine Below.setCell ?_ ?_ _) | go_size))⟩ | exact ⟨by rw [HX.out, HM.out, ← HS.out]; rfl, (by repeat' (first | (with_reducible exact Below.refl _ _) | (with_reducible assumption) | (with_reducible refine Below.alloc ?_ ?_ _) | (with_reducible refine Below.drew ?_) | (with_reducible refine below_drewN ?_ _) | (with_reducible refine Below.setCell ?_ ?_ _) | go_size))⟩
    · rcases h2 : good m with _ | _
      · rw [show vCR a m b n = false from vCR_bad (by have := bad_iff.1 h2; omega)]
        simp only [oFor_false]
        go_enter Try.func37, Try.ntmps37
        go_wp2_with fail
        ((with_reducible refine (are4 a m b n _ _ (by simp) (by simp) (by simp) (by simp)).mono ?_); rintro e w0 ⟨rfl, rfl⟩)
        go_wp2
        go_ret3
        first | exact ⟨rfl, (by repeat' (first | (with_reducible exact Below.refl _ _) | (with_reducible assumption) | (with_reducible refine Below.alloc ?_ ?_ _) | (with_reducible refine Below.drew ?_) | (with_reducible refine below_drewN ?_ _) | (with_reducible refine Below.setCell ?_ ?_ _) | go_size))⟩ | exact ⟨by rw [HX.out, HM.out, ← HS.out]; rfl, (by repeat' (first | (with_reducible exact Below.refl _ _) | (with_reducible assumption) | (with_reducible refine Below.alloc ?_ ?_ _) | (with_reducible refine Below.drew ?_) | (with_reducible refine below_drewN ?_ _) | (with_reducible refine Below.setCell ?_ ?_ _) | go_size))⟩
      · rcases h3 : good n with _ | _
        · rw [show vCR a m b n = false from vCR_bad (by have := bad_iff.1 h3; omega)]
          simp only [oFor_false]
          go_enter Try.func37, Try.ntmps37
          go_wp2_with fail
          ((with_reducible refine (are4 a m b n _ _ (by simp) (by simp) (by simp) (by simp)).mono ?_); rintro e w0 ⟨rfl, rfl⟩)
          go_wp2
          go_ret3
          first | exact ⟨rfl, (by repeat' (first | (with_reducible exact Below.refl _ _) | (with_reducible assumption) | (with_reducible refine Below.alloc ?_ ?_ _) | (with_reducible refine Below.drew ?_) | (with_reducible refine below_drewN ?_ _) | (with_reducible refine Below.setCell ?_ ?_ _) | go_size))⟩ | exact ⟨by rw [HX.out, HM.out, ← HS.out]; rfl, (by repeat' (first | (with_reducible exact Below.refl _ _) | (with_reducible assumption) | (with_reducible refine Below.alloc ?_ ?_ _) | (with_reducible refine Below.drew ?_) | (with_reducible refine below_drewN ?_ _) | (with_reducible refine Below.setCell ?_ ?_ _) | go_size))⟩
        · by_cases h4 : m < 1
          · rw [show vCR a m b n = false from vCR_bad (by omega)]
            simp only [oFor_false]
            go_enter Try.func37, Try.ntmps37
            go_wp2_with fail
            ((with_reducible refine (are4 a m b n _ _ (by simp) (by simp) (by simp) (by simp)).mono ?_); rintro e w0 ⟨rfl, rfl⟩)
            go_wp2
            go_ret3
            first | exact ⟨rfl, (by repeat' (first | (with_reducible exact Below.refl _ _) | (with_reducible assumption) | (with_reducible refine Below.alloc ?_ ?_ _) | (with_reducible refine Below.drew ?_) | (with_reducible refine below_drewN ?_ _) | (with_reducible refine Below.setCell ?_ ?_ _) | go_size))⟩ | exact ⟨by rw [HX.out, HM.out, ← HS.out]; rfl, (by repeat' (first | (with_reducible exact Below.refl _ _) | (with_reducible assumption) | (with_reducible refine Below.alloc ?_ ?_ _) | (with_reducible refine Below.drew ?_) | (with_reducible refine below_drewN ?_ _) | (with_reducible refine Below.setCell ?_ ?_ _) | go_size))⟩
          · by_cases h5 : n < 1
            · rw [show vCR a m b n = false from vCR_bad (by omega)]
              simp only [oFor_false]
              go_enter Try.func37, Try.ntmps37
              go_wp2_with fail
              ((with_reducible refine (are4 a m b n _ _ (by simp) (by simp) (by simp) (by simp)).mono ?_); rintro e w0 ⟨rfl, rfl⟩)
              go_wp2
              go_ret3
              first | exact ⟨rfl, (by repeat' (first | (with_reducible exact Below.refl _ _) | (with_reducible assumption) | (with_reducible refine Below.alloc ?_ ?_ _) | (with_reducible refine Below.drew ?_) | (with_reducible refine below_drewN ?_ _) | (with_reducible refine Below.setCell ?_ ?_ _) | go_size))⟩ | exact ⟨by rw [HX.out, HM.out, ← HS.out]; rfl, (by repeat' (first | (with_reducible exact Below.refl _ _) | (with_reducible assumption) | (with_reducible refine Below.alloc ?_ ?_ _) | (with_reducible refine Below.drew ?_) | (with_reducible refine below_drewN ?_ _) | (with_reducible refine Below.setCell ?_ ?_ _) | go_size))⟩
            · by_cases h6 : (b - a).tmod (crG m n) = 0
              · by_cases h7 : 1000000 < crM m n
                · have ha := good_iff.1 h0
                  have hb := good_iff.1 h1
                  have hm := good_iff.1 h2
                  have hn := good_iff.1 h3
                  rw [show vCR a m b n = false from vCR_bad (by omega)]
                  simp only [oFor_false]
                  obtain ⟨g, p, q, r, v, t, C⟩ := cr_of a m b n ha hb (by omega) (by omega) (by omega) (by omega)
                  obtain ⟨hg, hp, hq, hr, hv, ht, g1, p1, q1, al, co, r1, v1, rv, t1, mt, rq, rw1, same, eM, eX⟩ := C
                  subst hp hq hr ht
                  have HM := Lib.hid eM
                  have HX := Lib.hid eX
                  have HS := Lib.hid same
                  have CO := Lib.hid co
                  have HV := Lib.hid hv
                  have hG : crG m n = g := hg
                  clear same eX co hv
                  rw [eM] at h7
                  clear eM
                  rw [hG] at h6
                  have hd : ((b - a).tmod g != 0) = false := by rw [h6]; rfl
                  clear h6
                  go_enter Try.func37, Try.ntmps37
                  go_wp2_with fail
                  ((with_reducible refine (are4 a m b n _ _ (by simp) (by simp) (by simp) (by simp)).mono ?_); rintro e w0 ⟨rfl, rfl⟩)
                  go_wp2_with fail
                  ((with_reducible refine (gcd_is _ hg (by omega) (by omega) (by omega) (by omega)).mono ?_); rintro e w0 ⟨rfl, d1, rfl⟩)
                  go_wp2
                  go_ret3
                  first | exact ⟨rfl, (by repeat' (first | (with_reducible exact Below.refl _ _) | (with_reducible assumption) | (with_reducible refine Below.alloc ?_ ?_ _) | (with_reducible refine Below.drew ?_) | (with_reducible refine below_drewN ?_ _) | (with_reducible refine Below.setCell ?_ ?_ _) | go_size))⟩ | exact ⟨by rw [HX.out, HM.out, ← HS.out]; rfl, (by repeat' (first | (with_reducible exact Below.refl _ _) | (with_reducible assumption) | (with_reducible refine Below.alloc ?_ ?_ _) | (with_reducible refine Below.drew ?_) | (with_reducible refine below_drewN ?_ _) | (with_reducible refine Below.setCell ?_ ?_ _) | go_size))⟩
                · have ha := good_iff.1 h0
                  have hb := good_iff.1 h1
                  have hm := good_iff.1 h2
                  have hn := good_iff.1 h3
                  rw [vCR_ok h0 h1 (by omega) (by omega) (by omega) (by omega) (by omega) h6]
                  simp only [oFor_true]
                  obtain ⟨g, p, q, r, v, t, C⟩ := cr_of a m b n ha hb (by omega) (by omega) (by omega) (by omega)
                  obtain ⟨hg, hp, hq, hr, hv, ht, g1, p1, q1, al, co, r1, v1, rv, t1, mt, rq, rw1, same, eM, eX⟩ := C
                  subst hp hq hr ht
                  have HM := Lib.hid eM
                  have HX := Lib.hid eX
                  have HS := Lib.hid same
                  have CO := Lib.hid co
                  have HV := Lib.hid hv
                  have hG : crG m n = g := hg
                  clear same eX co hv
                  rw [eM] at h7
                  clear eM
                  rw [hG] at h6
                  have hd : ((b - a).tmod g != 0) = false := by rw [h6]; rfl
                  clear h6
                  go_enter Try.func37, Try.ntmps37
                  go_wp2_with fail
                  ((with_reducible refine (are4 a m b n _ _ (by simp) (by simp) (by simp) (by simp)).mono ?_); rintro e w0 ⟨rfl, rfl⟩)
                  go_wp2_with fail
                  ((with_reducible refine (gcd_is _ hg (by omega) (by omega) (by omega) (by omega)).mono ?_); rintro e w0 ⟨rfl, d1, rfl⟩)
                  go_wp2_with fail
                  have w0 : g ≠ 0 := by omega
                  have w1 : IntKind.i64.wrap (b - a) = b - a := IntWalk.i64_in _ (by omega)
                  have w2 : IntKind.i64.wrap ((b - a).tdiv g) = (b - a).tdiv g := IntWalk.i64_in _ (by omega)
                  have w3 : m.tdiv g = m / g := Int.tdiv_eq_ediv_of_nonneg (by omega)
                  have w4 : n.tdiv g = n / g := Int.tdiv_eq_ediv_of_nonneg (by omega)
                  have w5 : IntKind.i64.wrap (m / g) = m / g := IntWalk.i64_in _ (by omega)
                  have w6 : IntKind.i64.wrap (n / g) = n / g := IntWalk.i64_in _ (by omega)
                  have w7 : IntKind.i64.wrap ((b - a).tdiv g % (n / g) * v) = (b - a).tdiv g % (n / g) * v := IntWalk.i64_in _ (by omega)
                  go_quiet (first | (go_at_call 73; exact qadd (mod_any _ _ _ (by omega) (by omega) (by omega) (by omega))) | (go_at_call 73; exact qone (mod_any _ _ _ (by omega) (by omega) (by omega) (by omega))) | (go_at_call 67; exact qadd (inverse_is _ CO.out HV.out (by omega) (by omega) (by omega) (by omega))) | (go_at_call 67; exact qone (inverse_is _ CO.out HV.out (by omega) (by omega) (by omega) (by omega))))
                  clear w0 w1 w2 w3 w4 w5 w6 w7
                  have t1' : 0 ≤ (b - a).tdiv g % (n / g) * v % (n / g) ∧ (b - a).tdiv g % (n / g) * v % (n / g) ≤ 1000000 := by rw [HS.out]; exact t1
                  have mt' : 0 ≤ m * ((b - a).tdiv g % (n / g) * v % (n / g)) ∧ m * ((b - a).tdiv g % (n / g) * v % (n / g)) ≤ 1000000000000 := by rw [HS.out]; exact mt
                  go_wp2_with fail
                  ((with_reducible refine (mod_any _ _ _ (by omega) (by omega) (by omega) (by omega)).mono ?_); rintro e w0 ⟨rfl, rfl⟩)
                  go_wp2_with fail
                  ((with_reducible refine (mod_any _ _ _ (by omega) (by omega) (by omega) (by omega)).mono ?_); rintro e w0 ⟨rfl, rfl⟩)
                  go_wp2
                  go_ret3
                  first | exact ⟨rfl, (by repeat' (first | (with_reducible exact Below.refl _ _) | (with_reducible assumption) | (with_reducible refine Below.alloc ?_ ?_ _) | (with_reducible refine Below.drew ?_) | (with_reducible refine below_drewN ?_ _) | (with_reducible refine Below.setCell ?_ ?_ _) | go_size))⟩ | exact ⟨by rw [HX.out, HM.out, ← HS.out]; rfl, (by repeat' (first | (with_reducible exact Below.refl _ _) | (with_reducible assumption) | (with_reducible refine Below.alloc ?_ ?_ _) | (with_reducible refine Below.drew ?_) | (with_reducible refine below_drewN ?_ _) | (with_reducible refine Below.setCell ?_ ?_ _) | go_size))⟩
              · have ha := good_iff.1 h0
                have hb := good_iff.1 h1
                have hm := good_iff.1 h2
                have hn := good_iff.1 h3
                rw [show vCR a m b n = false from vCR_bad (.inr (.inr (.inr (.inr (.inr (.inr (.inr h6)))))))]
                simp only [oFor_false]
                obtain ⟨g, p, q, r, v, t, C⟩ := cr_of a m b n ha hb (by omega) (by omega) (by omega) (by omega)
                obtain ⟨hg, hp, hq, hr, hv, ht, g1, p1, q1, al, co, r1, v1, rv, t1, mt, rq, rw1, same, eM, eX⟩ := C
                subst hp hq hr ht
                have HM := Lib.hid eM
                have HX := Lib.hid eX
                have HS := Lib.hid same
                have CO := Lib.hid co
                have HV := Lib.hid hv
                have hG : crG m n = g := hg
                clear same eX co hv
                clear eM
                rw [hG] at h6
                have hd : ((b - a).tmod g != 0) = true := by rw [bne_iff_ne]; exact h6
                clear h6
                go_enter Try.func37, Try.ntmps37
                go_wp2_with fail
                ((with_reducible refine (are4 a m b n _ _ (by simp) (by simp) (by simp) (by simp)).mono ?_); rintro e w0 ⟨rfl, rfl⟩)
                go_wp2_with fail
                ((with_reducible refine (gcd_is _ hg (by omega) (by omega) (by omega) (by omega)).mono ?_); rintro e w0 ⟨rfl, d1, rfl⟩)
                go_wp2
                go_ret3
                first | exact ⟨rfl, (by repeat' (first | (with_reducible exact Below.refl _ _) | (with_reducible assumption) | (with_reducible refine Below.alloc ?_ ?_ _) | (with_reducible refine Below.drew ?_) | (with_reducible refine below_drewN ?_ _) | (with_reducible refine Below.setCell ?_ ?_ _) | go_size))⟩ | exact ⟨by rw [HX.out, HM.out, ← HS.out]; rfl, (by repeat' (first | (with_reducible exact Below.refl _ _) | (with_reducible assumption) | (with_reducible refine Below.alloc ?_ ?_ _) | (with_reducible refine Below.drew ?_) | (with_reducible refine below_drewN ?_ _) | (with_reducible refine Below.setCell ?_ ?_ _) | go_size))⟩

end Go.Proofs.Ytfpedehpmgcmnaa
