/-
  'CombineRoots': its contracts and its law's walk.
-/
import Derived.Test.YtbiaokglmdmopaaRt
import Derived.Test.YtbiaokglmdmopaaCr2
namespace Go.Proofs.Ytbiaokglmdmopaa
open Go.RowKit
set_option linter.unusedSimpArgs false
set_option linter.unusedVariables false

def vCB (a x m y n : Int) : Bool := (good a && (inB 1 1000000 m && inB 1 1000000 n)) && ((decide (m * n ≤ 1000000) && decide (Int.gcd m n = 1)) && (rootB a x m && rootB a y n))
theorem vCB_bad {a x m y n : Int} (h : good a = false ∨ m < 1 ∨ 1000000 < m ∨ n < 1 ∨ 1000000 < n ∨ 1000000 < m * n ∨ ¬ Int.gcd m n = 1 ∨ rootB a x m = false ∨ rootB a y n = false) : vCB a x m y n = false := by
  unfold vCB
  rcases h with h | h | h | h | h | h | h | h | h
  · simp [h]
  · rw [inB_bad.2 (.inl h)]; simp
  · rw [inB_bad.2 (.inr h)]; simp
  · rw [inB_bad.2 (.inl h)]; simp
  · rw [inB_bad.2 (.inr h)]; simp
  · rw [decide_eq_false (by omega)]; simp
  · rw [decide_eq_false h]; simp
  · rw [h]; simp
  · rw [h]; simp
theorem vCB_ok {a x m y n : Int} (ha : good a = true) (m1 : 1 ≤ m) (m2 : m ≤ 1000000) (n1 : 1 ≤ n) (n2 : n ≤ 1000000) (h1 : m * n ≤ 1000000) (h2 : Int.gcd m n = 1) (h3 : rootB a x m = true) (h4 : rootB a y n = true) : vCB a x m y n = true := by
  unfold vCB
  rw [inB_iff.2 ⟨m1, m2⟩, inB_iff.2 ⟨n1, n2⟩, ha, decide_eq_true h1, decide_eq_true h2, h3, h4]
  rfl
theorem mn_bd {m n : Int} (m1 : 1 ≤ m) (m2 : m ≤ 1000000) (n1 : 1 ≤ n) (n2 : n ≤ 1000000) : 1 ≤ m * n ∧ m * n ≤ 1000000000000 := by
  have h := mul_pos' (x := m) (y := n) 1000000 1000000 (by omega) (by omega)
  have := Int.mul_le_mul_of_nonneg_left n1 (show 0 ≤ m by omega)
  omega
theorem mn_test {m n : Int} (n1 : 1 ≤ n) : (1000000 / n < m) ↔ 1000000 < m * n := by
  have h := Int.ediv_lt_iff_lt_mul (a := 1000000) (b := m) (c := n) (by omega)
  exact h
theorem cop {x m y n : Int} (m1 : 1 ≤ m) (m2 : m ≤ 1000000) (n1 : 1 ≤ n) (n2 : n ≤ 1000000) (h1 : m * n ≤ 1000000) (h2 : Int.gcd m n = 1) : (y - x).tmod (crG m n) = 0 ∧ crM m n = m * n := by
  have e : crG m n = 1 := by unfold crG; rw [h2]; rfl
  rw [e]
  exact ⟨Int.tmod_one _, by unfold crM; rw [e, Int.ediv_one]⟩
theorem root_good {a x m : Int} (h : rootB a x m = true) (m2 : m ≤ 1000000) : good x = true := by
  have := (rootB_iff.1 h).1
  exact good_of (by omega) (by omega)
theorem root_bad {a x m : Int} (h : good x = false) (m2 : m ≤ 1000000) : rootB a x m = false := by
  have := bad_iff.1 h
  exact rootB_lo (by omega)

theorem vCB_xbad {a x m y n : Int} (h : good x = false) : vCB a x m y n = false := by
  by_cases h1 : m ≤ 1000000
  · exact vCB_bad (.inr (.inr (.inr (.inr (.inr (.inr (.inr (.inl (root_bad h h1)))))))))
  · exact vCB_bad (by omega)
theorem vCB_ybad {a x m y n : Int} (h : good y = false) : vCB a x m y n = false := by
  by_cases h1 : n ≤ 1000000
  · exact vCB_bad (.inr (.inr (.inr (.inr (.inr (.inr (.inr (.inr (root_bad h h1)))))))))
  · exact vCB_bad (by omega)

theorem implCR_ok (a m b n : Int) (w : World) (hv : vCR a m b n = true) : Calls Try.prog 20 #[.int .i64 a, .int .i64 m, .int .i64 b, .int .i64 n] w fun e w' => e = .returned (.tuple #[.int .i64 (crX a m b n), .int .i64 (crM m n), .bool true]) ∧ Below w.heap.size w w' := by
  have h := implCR_any a m b n w
  rw [hv] at h
  exact h

theorem specCB_any (a x m y n : Int) (w : World) (ix : In64 x) (iy : In64 y): Calls Try.prog 23 #[.int .i64 a, .int .i64 x, .int .i64 m, .int .i64 y, .int .i64 n] w fun e w' =>
    e = .returned (.tuple #[.int .i64 (oFor (vCB a x m y n) (crX x m y n)), .bool (vCB a x m y n)]) ∧ Below w.heap.size w w' := by
  rcases h0 : good a with _ | _
  · rw [show vCB a x m y n = false from vCB_bad (.inl h0), oFor_false]
    go_enter Try.func23, Try.ntmps23
    go_wp2_with fail
    ((with_reducible refine (nuGood_any a _).mono ?_); rintro e w0 ⟨rfl, rfl⟩)
    go_wp2
    go_ret2
    exact ⟨rfl, (by repeat' (first | (with_reducible exact Below.refl _ _) | (with_reducible assumption) | (with_reducible refine Below.alloc ?_ ?_ _) | (with_reducible refine Below.drew ?_) | (with_reducible refine below_drewN ?_ _) | (with_reducible refine Below.setCell ?_ ?_ _) | go_size))⟩
  · rcases h1 : inB 1 1000000 m with _ | _
    · rw [show vCB a x m y n = false from vCB_bad (by have := inB_bad.1 h1; omega), oFor_false]
      go_enter Try.func23, Try.ntmps23
      go_wp2_with fail
      ((with_reducible refine (nuGood_any a _).mono ?_); rintro e w0 ⟨rfl, rfl⟩)
      go_wp2_with fail
      ((with_reducible refine (l1In_any _ _ _ _).mono ?_); rintro e w0 ⟨rfl, rfl⟩)
      go_wp2
      go_ret2
      exact ⟨rfl, (by repeat' (first | (with_reducible exact Below.refl _ _) | (with_reducible assumption) | (with_reducible refine Below.alloc ?_ ?_ _) | (with_reducible refine Below.drew ?_) | (with_reducible refine below_drewN ?_ _) | (with_reducible refine Below.setCell ?_ ?_ _) | go_size))⟩
    · rcases h2 : inB 1 1000000 n with _ | _
      · rw [show vCB a x m y n = false from vCB_bad (by have := inB_bad.1 h2; omega), oFor_false]
        go_enter Try.func23, Try.ntmps23
        go_wp2_with fail
        ((with_reducible refine (nuGood_any a _).mono ?_); rintro e w0 ⟨rfl, rfl⟩)
        go_wp2_with fail
        ((with_reducible refine (l1In_any _ _ _ _).mono ?_); rintro e w0 ⟨rfl, rfl⟩)
        go_wp2_with fail
        ((with_reducible refine (l1In_any _ _ _ _).mono ?_); rintro e w0 ⟨rfl, rfl⟩)
        go_wp2
        go_ret2
        exact ⟨rfl, (by repeat' (first | (with_reducible exact Below.refl _ _) | (with_reducible assumption) | (with_reducible refine Below.alloc ?_ ?_ _) | (with_reducible refine Below.drew ?_) | (with_reducible refine below_drewN ?_ _) | (with_reducible refine Below.setCell ?_ ?_ _) | go_size))⟩
      · by_cases h3 : 1000000 < m * n
        · have ha := good_iff.1 h0
          have hm := inB_iff.1 h1
          have hn := inB_iff.1 h2
          have hb := mn_bd hm.1 hm.2 hn.1 hn.2
          have hq0 : 0 ≤ 1000000 / n ∧ 1000000 / n ≤ 1000000 := ⟨Int.ediv_nonneg (by omega) (by omega), Int.ediv_le_self _ (by omega)⟩
          have hT : 1000000 / n < m := (mn_test hn.1).2 h3
          rw [show vCB a x m y n = false from vCB_bad (by omega), oFor_false]
          go_enter Try.func23, Try.ntmps23
          go_wp2_with fail
          ((with_reducible refine (nuGood_any a _).mono ?_); rintro e w0 ⟨rfl, rfl⟩)
          go_wp2_with fail
          ((with_reducible refine (l1In_any _ _ _ _).mono ?_); rintro e w0 ⟨rfl, rfl⟩)
          go_wp2_with fail
          ((with_reducible refine (l1In_any _ _ _ _).mono ?_); rintro e w0 ⟨rfl, rfl⟩)
          go_wp2
          go_ret2
          exact ⟨rfl, (by repeat' (first | (with_reducible exact Below.refl _ _) | (with_reducible assumption) | (with_reducible refine Below.alloc ?_ ?_ _) | (with_reducible refine Below.drew ?_) | (with_reducible refine below_drewN ?_ _) | (with_reducible refine Below.setCell ?_ ?_ _) | go_size))⟩
        · by_cases h4 : Int.gcd m n = 1
          · rcases h5 : rootB a x m with _ | _
            · have ha := good_iff.1 h0
              have hm := inB_iff.1 h1
              have hn := inB_iff.1 h2
              have hb := mn_bd hm.1 hm.2 hn.1 hn.2
              have hq0 : 0 ≤ 1000000 / n ∧ 1000000 / n ≤ 1000000 := ⟨Int.ediv_nonneg (by omega) (by omega), Int.ediv_le_self _ (by omega)⟩
              have hT : m ≤ 1000000 / n := Int.not_lt.1 fun h' => h3 ((mn_test hn.1).1 h')
              obtain ⟨g, hg⟩ : ∃ g : Int, ((Int.gcd m n : Nat) : Int) = g := ⟨_, rfl⟩
              have hg1 : g = 1 := by omega
              subst hg1
              rw [show vCB a x m y n = false from vCB_bad (.inr (.inr (.inr (.inr (.inr (.inr (.inr (.inl h5)))))))), oFor_false]
              go_enter Try.func23, Try.ntmps23
              go_wp2_with fail
              ((with_reducible refine (nuGood_any a _).mono ?_); rintro e w0 ⟨rfl, rfl⟩)
              go_wp2_with fail
              ((with_reducible refine (l1In_any _ _ _ _).mono ?_); rintro e w0 ⟨rfl, rfl⟩)
              go_wp2_with fail
              ((with_reducible refine (l1In_any _ _ _ _).mono ?_); rintro e w0 ⟨rfl, rfl⟩)
              go_wp2_with fail
              ((with_reducible refine (nuGcd_is _ hg (by omega) (by omega) (by omega) (by omega)).mono ?_); rintro e w0 ⟨rfl, d1, rfl⟩)
              go_wp2_with fail
              ((with_reducible refine (roRoot_any a x m _ ix ha.1 ha.2 hm.1 hm.2).mono ?_); rintro e w0 ⟨rfl, rfl⟩)
              go_wp2
              go_ret2
              exact ⟨rfl, (by repeat' (first | (with_reducible exact Below.refl _ _) | (with_reducible assumption) | (with_reducible refine Below.alloc ?_ ?_ _) | (with_reducible refine Below.drew ?_) | (with_reducible refine below_drewN ?_ _) | (with_reducible refine Below.setCell ?_ ?_ _) | go_size))⟩
            · rcases h6 : rootB a y n with _ | _
              · have ha := good_iff.1 h0
                have hm := inB_iff.1 h1
                have hn := inB_iff.1 h2
                have hb := mn_bd hm.1 hm.2 hn.1 hn.2
                have hq0 : 0 ≤ 1000000 / n ∧ 1000000 / n ≤ 1000000 := ⟨Int.ediv_nonneg (by omega) (by omega), Int.ediv_le_self _ (by omega)⟩
                have hT : m ≤ 1000000 / n := Int.not_lt.1 fun h' => h3 ((mn_test hn.1).1 h')
                obtain ⟨g, hg⟩ : ∃ g : Int, ((Int.gcd m n : Nat) : Int) = g := ⟨_, rfl⟩
                have hg1 : g = 1 := by omega
                subst hg1
                rw [show vCB a x m y n = false from vCB_bad (.inr (.inr (.inr (.inr (.inr (.inr (.inr (.inr h6)))))))), oFor_false]
                go_enter Try.func23, Try.ntmps23
                go_wp2_with fail
                ((with_reducible refine (nuGood_any a _).mono ?_); rintro e w0 ⟨rfl, rfl⟩)
                go_wp2_with fail
                ((with_reducible refine (l1In_any _ _ _ _).mono ?_); rintro e w0 ⟨rfl, rfl⟩)
                go_wp2_with fail
                ((with_reducible refine (l1In_any _ _ _ _).mono ?_); rintro e w0 ⟨rfl, rfl⟩)
                go_wp2_with fail
                ((with_reducible refine (nuGcd_is _ hg (by omega) (by omega) (by omega) (by omega)).mono ?_); rintro e w0 ⟨rfl, d1, rfl⟩)
                go_wp2_with fail
                ((with_reducible refine (roRoot_any a x m _ ix ha.1 ha.2 hm.1 hm.2).mono ?_); rintro e w0 ⟨rfl, rfl⟩)
                go_wp2_with fail
                ((with_reducible refine (roRoot_any a y n _ iy ha.1 ha.2 hn.1 hn.2).mono ?_); rintro e w0 ⟨rfl, rfl⟩)
                go_wp2
                go_ret2
                exact ⟨rfl, (by repeat' (first | (with_reducible exact Below.refl _ _) | (with_reducible assumption) | (with_reducible refine Below.alloc ?_ ?_ _) | (with_reducible refine Below.drew ?_) | (with_reducible refine below_drewN ?_ _) | (with_reducible refine Below.setCell ?_ ?_ _) | go_size))⟩
              · have ha := good_iff.1 h0
                have hm := inB_iff.1 h1
                have hn := inB_iff.1 h2
                have hb := mn_bd hm.1 hm.2 hn.1 hn.2
                have hq0 : 0 ≤ 1000000 / n ∧ 1000000 / n ≤ 1000000 := ⟨Int.ediv_nonneg (by omega) (by omega), Int.ediv_le_self _ (by omega)⟩
                have hT : m ≤ 1000000 / n := Int.not_lt.1 fun h' => h3 ((mn_test hn.1).1 h')
                obtain ⟨g, hg⟩ : ∃ g : Int, ((Int.gcd m n : Nat) : Int) = g := ⟨_, rfl⟩
                have hg1 : g = 1 := by omega
                subst hg1
                have hx := (rootB_iff.1 h5).1
                have hy := (rootB_iff.1 h6).1
                have hc := cop (x := x) (y := y) hm.1 hm.2 hn.1 hn.2 (by omega) h4
                rw [vCB_ok h0 hm.1 hm.2 hn.1 hn.2 (by omega) h4 h5 h6, oFor_true]
                go_enter Try.func23, Try.ntmps23
                go_wp2_with fail
                ((with_reducible refine (nuGood_any a _).mono ?_); rintro e w0 ⟨rfl, rfl⟩)
                go_wp2_with fail
                ((with_reducible refine (l1In_any _ _ _ _).mono ?_); rintro e w0 ⟨rfl, rfl⟩)
                go_wp2_with fail
                ((with_reducible refine (l1In_any _ _ _ _).mono ?_); rintro e w0 ⟨rfl, rfl⟩)
                go_wp2_with fail
                ((with_reducible refine (nuGcd_is _ hg (by omega) (by omega) (by omega) (by omega)).mono ?_); rintro e w0 ⟨rfl, d1, rfl⟩)
                go_wp2_with fail
                ((with_reducible refine (roRoot_any a x m _ ix ha.1 ha.2 hm.1 hm.2).mono ?_); rintro e w0 ⟨rfl, rfl⟩)
                go_wp2_with fail
                ((with_reducible refine (roRoot_any a y n _ iy ha.1 ha.2 hn.1 hn.2).mono ?_); rintro e w0 ⟨rfl, rfl⟩)
                go_wp2_with fail
                ((with_reducible refine (nuCommon_ok x m y n _ (by omega) (by omega) hm.1 hm.2 hn.1 hn.2 hc.1).mono ?_); rintro e w0 ⟨rfl, d2, rfl⟩)
                go_wp2
                go_ret2
                exact ⟨rfl, (by repeat' (first | (with_reducible exact Below.refl _ _) | (with_reducible assumption) | (with_reducible refine Below.alloc ?_ ?_ _) | (with_reducible refine Below.drew ?_) | (with_reducible refine below_drewN ?_ _) | (with_reducible refine Below.setCell ?_ ?_ _) | go_size))⟩
          · have ha := good_iff.1 h0
            have hm := inB_iff.1 h1
            have hn := inB_iff.1 h2
            have hb := mn_bd hm.1 hm.2 hn.1 hn.2
            have hq0 : 0 ≤ 1000000 / n ∧ 1000000 / n ≤ 1000000 := ⟨Int.ediv_nonneg (by omega) (by omega), Int.ediv_le_self _ (by omega)⟩
            have hT : m ≤ 1000000 / n := Int.not_lt.1 fun h' => h3 ((mn_test hn.1).1 h')
            obtain ⟨g, hg⟩ : ∃ g : Int, ((Int.gcd m n : Nat) : Int) = g := ⟨_, rfl⟩
            have hg1 : (g != 1) = true := by rw [bne_iff_ne]; omega
            rw [show vCB a x m y n = false from vCB_bad (by omega), oFor_false]
            go_enter Try.func23, Try.ntmps23
            go_wp2_with fail
            ((with_reducible refine (nuGood_any a _).mono ?_); rintro e w0 ⟨rfl, rfl⟩)
            go_wp2_with fail
            ((with_reducible refine (l1In_any _ _ _ _).mono ?_); rintro e w0 ⟨rfl, rfl⟩)
            go_wp2_with fail
            ((with_reducible refine (l1In_any _ _ _ _).mono ?_); rintro e w0 ⟨rfl, rfl⟩)
            go_wp2_with fail
            ((with_reducible refine (nuGcd_is _ hg (by omega) (by omega) (by omega) (by omega)).mono ?_); rintro e w0 ⟨rfl, d1, rfl⟩)
            go_wp2
            go_ret2
            exact ⟨rfl, (by repeat' (first | (with_reducible exact Below.refl _ _) | (with_reducible assumption) | (with_reducible refine Below.alloc ?_ ?_ _) | (with_reducible refine Below.drew ?_) | (with_reducible refine below_drewN ?_ _) | (with_reducible refine Below.setCell ?_ ?_ _) | go_size))⟩

set_option maxHeartbeats 1600000 in
theorem implCB_any (a x m y n : Int) (w : World) (ix : In64 x) (iy : In64 y): Calls Try.prog 24 #[.int .i64 a, .int .i64 x, .int .i64 m, .int .i64 y, .int .i64 n] w fun e w' =>
    e = .returned (.tuple #[.int .i64 (oFor (vCB a x m y n) (crX x m y n)), .bool (vCB a x m y n)]) ∧ Below w.heap.size w w' := by
  rcases h0 : good a with _ | _
  · rw [show vCB a x m y n = false from vCB_bad (.inl h0), oFor_false]
    go_enter Try.func24, Try.ntmps24
    go_wp2_with fail
    ((with_reducible refine (are5 a x m y n _ _ (by simp) (by simp) (by simp) (by simp) (by simp)).mono ?_); rintro e w0 ⟨rfl, rfl⟩)
    go_wp2
    go_ret2
    exact ⟨rfl, (by repeat' (first | (with_reducible exact Below.refl _ _) | (with_reducible assumption) | (with_reducible refine Below.alloc ?_ ?_ _) | (with_reducible refine Below.drew ?_) | (with_reducible refine below_drewN ?_ _) | (with_reducible refine Below.setCell ?_ ?_ _) | go_size))⟩
  · rcases h1 : good x with _ | _
    · rw [show vCB a x m y n = false from vCB_xbad h1, oFor_false]
      go_enter Try.func24, Try.ntmps24
      go_wp2_with fail
      ((with_reducible refine (are5 a x m y n _ _ (by simp) (by simp) (by simp) (by simp) (by simp)).mono ?_); rintro e w0 ⟨rfl, rfl⟩)
      go_wp2
      go_ret2
      exact ⟨rfl, (by repeat' (first | (with_reducible exact Below.refl _ _) | (with_reducible assumption) | (with_reducible refine Below.alloc ?_ ?_ _) | (with_reducible refine Below.drew ?_) | (with_reducible refine below_drewN ?_ _) | (with_reducible refine Below.setCell ?_ ?_ _) | go_size))⟩
    · rcases h2 : good m with _ | _
      · rw [show vCB a x m y n = false from vCB_bad (by have := bad_iff.1 h2; omega), oFor_false]
        go_enter Try.func24, Try.ntmps24
        go_wp2_with fail
        ((with_reducible refine (are5 a x m y n _ _ (by simp) (by simp) (by simp) (by simp) (by simp)).mono ?_); rintro e w0 ⟨rfl, rfl⟩)
        go_wp2
        go_ret2
        exact ⟨rfl, (by repeat' (first | (with_reducible exact Below.refl _ _) | (with_reducible assumption) | (with_reducible refine Below.alloc ?_ ?_ _) | (with_reducible refine Below.drew ?_) | (with_reducible refine below_drewN ?_ _) | (with_reducible refine Below.setCell ?_ ?_ _) | go_size))⟩
      · rcases h3 : good y with _ | _
        · rw [show vCB a x m y n = false from vCB_ybad h3, oFor_false]
          go_enter Try.func24, Try.ntmps24
          go_wp2_with fail
          ((with_reducible refine (are5 a x m y n _ _ (by simp) (by simp) (by simp) (by simp) (by simp)).mono ?_); rintro e w0 ⟨rfl, rfl⟩)
          go_wp2
          go_ret2
          exact ⟨rfl, (by repeat' (first | (with_reducible exact Below.refl _ _) | (with_reducible assumption) | (with_reducible refine Below.alloc ?_ ?_ _) | (with_reducible refine Below.drew ?_) | (with_reducible refine below_drewN ?_ _) | (with_reducible refine Below.setCell ?_ ?_ _) | go_size))⟩
        · rcases h4 : good n with _ | _
          · rw [show vCB a x m y n = false from vCB_bad (by have := bad_iff.1 h4; omega), oFor_false]
            go_enter Try.func24, Try.ntmps24
            go_wp2_with fail
            ((with_reducible refine (are5 a x m y n _ _ (by simp) (by simp) (by simp) (by simp) (by simp)).mono ?_); rintro e w0 ⟨rfl, rfl⟩)
            go_wp2
            go_ret2
            exact ⟨rfl, (by repeat' (first | (with_reducible exact Below.refl _ _) | (with_reducible assumption) | (with_reducible refine Below.alloc ?_ ?_ _) | (with_reducible refine Below.drew ?_) | (with_reducible refine below_drewN ?_ _) | (with_reducible refine Below.setCell ?_ ?_ _) | go_size))⟩
          · by_cases h5 : m < 1
            · rw [show vCB a x m y n = false from vCB_bad (by omega), oFor_false]
              go_enter Try.func24, Try.ntmps24
              go_wp2_with fail
              ((with_reducible refine (are5 a x m y n _ _ (by simp) (by simp) (by simp) (by simp) (by simp)).mono ?_); rintro e w0 ⟨rfl, rfl⟩)
              go_wp2
              go_ret2
              exact ⟨rfl, (by repeat' (first | (with_reducible exact Below.refl _ _) | (with_reducible assumption) | (with_reducible refine Below.alloc ?_ ?_ _) | (with_reducible refine Below.drew ?_) | (with_reducible refine below_drewN ?_ _) | (with_reducible refine Below.setCell ?_ ?_ _) | go_size))⟩
            · by_cases h6 : n < 1
              · rw [show vCB a x m y n = false from vCB_bad (by omega), oFor_false]
                go_enter Try.func24, Try.ntmps24
                go_wp2_with fail
                ((with_reducible refine (are5 a x m y n _ _ (by simp) (by simp) (by simp) (by simp) (by simp)).mono ?_); rintro e w0 ⟨rfl, rfl⟩)
                go_wp2
                go_ret2
                exact ⟨rfl, (by repeat' (first | (with_reducible exact Below.refl _ _) | (with_reducible assumption) | (with_reducible refine Below.alloc ?_ ?_ _) | (with_reducible refine Below.drew ?_) | (with_reducible refine below_drewN ?_ _) | (with_reducible refine Below.setCell ?_ ?_ _) | go_size))⟩
              · by_cases h7 : Int.gcd m n = 1
                · by_cases h8 : 1000000 < m * n
                  · have ha := good_iff.1 h0
                    have hm := good_iff.1 h2
                    have hn := good_iff.1 h4
                    have hb := mn_bd (m := m) (n := n) (by omega) hm.2 (by omega) hn.2
                    obtain ⟨g, hg⟩ : ∃ g : Int, ((Int.gcd m n : Nat) : Int) = g := ⟨_, rfl⟩
                    have hg1 : g = 1 := by omega
                    subst hg1
                    rw [show vCB a x m y n = false from vCB_bad (by omega), oFor_false]
                    go_enter Try.func24, Try.ntmps24
                    go_wp2_with fail
                    ((with_reducible refine (are5 a x m y n _ _ (by simp) (by simp) (by simp) (by simp) (by simp)).mono ?_); rintro e w0 ⟨rfl, rfl⟩)
                    go_wp2_with fail
                    ((with_reducible refine (gcd_is _ hg (by omega) (by omega) (by omega) (by omega)).mono ?_); rintro e w0 ⟨rfl, d1, rfl⟩)
                    go_wp2
                    go_ret2
                    exact ⟨rfl, (by repeat' (first | (with_reducible exact Below.refl _ _) | (with_reducible assumption) | (with_reducible refine Below.alloc ?_ ?_ _) | (with_reducible refine Below.drew ?_) | (with_reducible refine below_drewN ?_ _) | (with_reducible refine Below.setCell ?_ ?_ _) | go_size))⟩
                  · rcases h9 : rootB a x m with _ | _
                    · have ha := good_iff.1 h0
                      have hm := good_iff.1 h2
                      have hn := good_iff.1 h4
                      have hb := mn_bd (m := m) (n := n) (by omega) hm.2 (by omega) hn.2
                      obtain ⟨g, hg⟩ : ∃ g : Int, ((Int.gcd m n : Nat) : Int) = g := ⟨_, rfl⟩
                      have hg1 : g = 1 := by omega
                      subst hg1
                      rw [show vCB a x m y n = false from vCB_bad (.inr (.inr (.inr (.inr (.inr (.inr (.inr (.inl h9)))))))), oFor_false]
                      go_enter Try.func24, Try.ntmps24
                      go_wp2_with fail
                      ((with_reducible refine (are5 a x m y n _ _ (by simp) (by simp) (by simp) (by simp) (by simp)).mono ?_); rintro e w0 ⟨rfl, rfl⟩)
                      go_wp2_with fail
                      ((with_reducible refine (gcd_is _ hg (by omega) (by omega) (by omega) (by omega)).mono ?_); rintro e w0 ⟨rfl, d1, rfl⟩)
                      go_wp2_with fail
                      ((with_reducible refine (isRoot_any a x m _ ix ha.1 ha.2 (by omega) hm.2).mono ?_); rintro e w0 ⟨rfl, rfl⟩)
                      go_wp2
                      go_ret2
                      exact ⟨rfl, (by repeat' (first | (with_reducible exact Below.refl _ _) | (with_reducible assumption) | (with_reducible refine Below.alloc ?_ ?_ _) | (with_reducible refine Below.drew ?_) | (with_reducible refine below_drewN ?_ _) | (with_reducible refine Below.setCell ?_ ?_ _) | go_size))⟩
                    · rcases h10 : rootB a y n with _ | _
                      · have ha := good_iff.1 h0
                        have hm := good_iff.1 h2
                        have hn := good_iff.1 h4
                        have hb := mn_bd (m := m) (n := n) (by omega) hm.2 (by omega) hn.2
                        obtain ⟨g, hg⟩ : ∃ g : Int, ((Int.gcd m n : Nat) : Int) = g := ⟨_, rfl⟩
                        have hg1 : g = 1 := by omega
                        subst hg1
                        rw [show vCB a x m y n = false from vCB_bad (.inr (.inr (.inr (.inr (.inr (.inr (.inr (.inr h10)))))))), oFor_false]
                        go_enter Try.func24, Try.ntmps24
                        go_wp2_with fail
                        ((with_reducible refine (are5 a x m y n _ _ (by simp) (by simp) (by simp) (by simp) (by simp)).mono ?_); rintro e w0 ⟨rfl, rfl⟩)
                        go_wp2_with fail
                        ((with_reducible refine (gcd_is _ hg (by omega) (by omega) (by omega) (by omega)).mono ?_); rintro e w0 ⟨rfl, d1, rfl⟩)
                        go_wp2_with fail
                        ((with_reducible refine (isRoot_any a x m _ ix ha.1 ha.2 (by omega) hm.2).mono ?_); rintro e w0 ⟨rfl, rfl⟩)
                        go_wp2_with fail
                        ((with_reducible refine (isRoot_any a y n _ iy ha.1 ha.2 (by omega) hn.2).mono ?_); rintro e w0 ⟨rfl, rfl⟩)
                        go_wp2
                        go_ret2
                        exact ⟨rfl, (by repeat' (first | (with_reducible exact Below.refl _ _) | (with_reducible assumption) | (with_reducible refine Below.alloc ?_ ?_ _) | (with_reducible refine Below.drew ?_) | (with_reducible refine below_drewN ?_ _) | (with_reducible refine Below.setCell ?_ ?_ _) | go_size))⟩
                      · have ha := good_iff.1 h0
                        have hm := good_iff.1 h2
                        have hn := good_iff.1 h4
                        have hb := mn_bd (m := m) (n := n) (by omega) hm.2 (by omega) hn.2
                        obtain ⟨g, hg⟩ : ∃ g : Int, ((Int.gcd m n : Nat) : Int) = g := ⟨_, rfl⟩
                        have hg1 : g = 1 := by omega
                        subst hg1
                        have hc := cop (x := x) (y := y) (m := m) (n := n) (by omega) hm.2 (by omega) hn.2 (by omega) h7
                        have hv : vCR x m y n = true := vCR_ok h1 h3 (by omega) hm.2 (by omega) hn.2 (by rw [hc.2]; omega) hc.1
                        rw [vCB_ok h0 (by omega) hm.2 (by omega) hn.2 (by omega) h7 h9 h10, oFor_true]
                        go_enter Try.func24, Try.ntmps24
                        go_wp2_with fail
                        ((with_reducible refine (are5 a x m y n _ _ (by simp) (by simp) (by simp) (by simp) (by simp)).mono ?_); rintro e w0 ⟨rfl, rfl⟩)
                        go_wp2_with fail
                        ((with_reducible refine (gcd_is _ hg (by omega) (by omega) (by omega) (by omega)).mono ?_); rintro e w0 ⟨rfl, d1, rfl⟩)
                        go_wp2_with fail
                        ((with_reducible refine (isRoot_any a x m _ ix ha.1 ha.2 (by omega) hm.2).mono ?_); rintro e w0 ⟨rfl, rfl⟩)
                        go_wp2_with fail
                        ((with_reducible refine (isRoot_any a y n _ iy ha.1 ha.2 (by omega) hn.2).mono ?_); rintro e w0 ⟨rfl, rfl⟩)
                        go_wp2_with fail
                        ((with_reducible refine (implCR_ok x m y n _ hv).mono ?_); rintro e w5 ⟨rfl, hb5⟩)
                        have bl5 : Below w.heap.size w w5 := Below.trans (by repeat' (first | (with_reducible exact Below.refl _ _) | (with_reducible assumption) | (with_reducible refine Below.alloc ?_ ?_ _) | (with_reducible refine Below.drew ?_) | (with_reducible refine below_drewN ?_ _) | (with_reducible refine Below.setCell ?_ ?_ _) | go_size)) (hb5.mono (by go_size))
                        go_wp2
                        go_ret2
                        exact ⟨rfl, (by repeat' (first | (with_reducible exact Below.refl _ _) | (with_reducible assumption) | (with_reducible refine Below.alloc ?_ ?_ _) | (with_reducible refine Below.drew ?_) | (with_reducible refine below_drewN ?_ _) | (with_reducible refine Below.setCell ?_ ?_ _) | go_size))⟩
                · have ha := good_iff.1 h0
                  have hm := good_iff.1 h2
                  have hn := good_iff.1 h4
                  have hb := mn_bd (m := m) (n := n) (by omega) hm.2 (by omega) hn.2
                  obtain ⟨g, hg⟩ : ∃ g : Int, ((Int.gcd m n : Nat) : Int) = g := ⟨_, rfl⟩
                  have hg1 : (g != 1) = true := by rw [bne_iff_ne]; omega
                  rw [show vCB a x m y n = false from vCB_bad (.inr (.inr (.inr (.inr (.inr (.inr (.inl h7))))))), oFor_false]
                  go_enter Try.func24, Try.ntmps24
                  go_wp2_with fail
                  ((with_reducible refine (are5 a x m y n _ _ (by simp) (by simp) (by simp) (by simp) (by simp)).mono ?_); rintro e w0 ⟨rfl, rfl⟩)
                  go_wp2_with fail
                  ((with_reducible refine (gcd_is _ hg (by omega) (by omega) (by omega) (by omega)).mono ?_); rintro e w0 ⟨rfl, d1, rfl⟩)
                  go_wp2
                  go_ret2
                  exact ⟨rfl, (by repeat' (first | (with_reducible exact Below.refl _ _) | (with_reducible assumption) | (with_reducible refine Below.alloc ?_ ?_ _) | (with_reducible refine Below.drew ?_) | (with_reducible refine below_drewN ?_ _) | (with_reducible refine Below.setCell ?_ ?_ _) | go_size))⟩

theorem law_FnExactCombineRoots (a x m y n : Int) (w : World) (_ : In64 a) (_ : In64 x) (_ : In64 m) (_ : In64 y) (_ : In64 n) : Calls Try.prog 7 #[.int .i64 a, .int .i64 x, .int .i64 m, .int .i64 y, .int .i64 n] w fun e w' => e = .returned (.bool true) ∧ Below w.heap.size w w' := by
  go_enter Try.func7, Try.ntmps7
  go_wp2_with fail
  ((with_reducible refine (specCB_any _ _ _ _ _ _ (by assumption) (by assumption)).mono ?_); rintro e w1 ⟨rfl, hb1⟩)
  obtain ⟨hc1, hf1⟩ := bcell hb1
  have hz1 := hb1.size
  try simp only [World.size_alloc, World.size_drew, World.size_setCell] at hz1
  try have hs1 : w.heap.size < w1.heap.size := by omega
  have bl1 : Below w.heap.size w w1 := Below.trans (by go_grown) (hb1.mono (by go_size))
  go_wp2_with fail
  ((with_reducible refine (implCB_any _ _ _ _ _ _ (by assumption) (by assumption)).mono ?_); rintro e w2 ⟨rfl, hb2⟩)
  obtain ⟨hc2, hf2⟩ := bcell hb2
  have hz2 := hb2.size
  try simp only [World.size_alloc, World.size_drew, World.size_setCell] at hz2
  try have hs2 : w.heap.size < w2.heap.size := by omega
  have bl2 : Below w.heap.size w w2 := Below.trans (by go_grown) (hb2.mono (by go_size))
  go_wp2
  go_ret
  exact ⟨rfl, (by repeat' (first | (with_reducible exact Below.refl _ _) | (with_reducible assumption) | (with_reducible refine Below.alloc ?_ ?_ _) | (with_reducible refine Below.drew ?_) | (with_reducible refine below_drewN ?_ _) | (with_reducible refine Below.setCell ?_ ?_ _) | go_size))⟩
end Go.Proofs.Ytbiaokglmdmopaa
