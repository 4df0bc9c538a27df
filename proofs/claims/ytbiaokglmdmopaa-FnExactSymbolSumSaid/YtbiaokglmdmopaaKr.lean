/-
  'KroneckerSymbol': its contracts and its law's walk.
-/
import Derived.Test.YtbiaokglmdmopaaJS
import Derived.Test.YtbiaokglmdmopaaKrP
namespace Go.Proofs.Ytbiaokglmdmopaa
open Go.RowKit
set_option linter.unusedSimpArgs false
set_option linter.unusedVariables false

theorem kr_zero1 {a : Int} (h : a = 1 ∨ a = -1) : kr a 0 = 1 := by unfold kr; rw [if_pos rfl, if_pos h]
theorem kr_zero0 {a : Int} (h : ¬ (a = 1 ∨ a = -1)) : kr a 0 = 0 := by unfold kr; rw [if_pos rfl, if_neg h]
theorem kr_minus {a n : Int} (h0 : n < 0) (h1 : a < 0) : krN a (-1) n.natAbs = kr a n := by unfold kr; rw [if_neg (by omega), if_pos ⟨h0, h1⟩]
theorem kr_plus {a n : Int} (h0 : n ≠ 0) (h1 : ¬ (n < 0 ∧ a < 0)) : krN a 1 n.natAbs = kr a n := by unfold kr; rw [if_neg h0, if_neg h1]
theorem tm2_even {a : Int} (h : a % 2 = 0) : (a.tmod 2 == 0) = true := by rw [beq_iff_eq]; exact Int.tmod_eq_zero_of_dvd (Int.dvd_of_emod_eq_zero h)
theorem tm2_odd {a : Int} (h : a % 2 = 1) : (a.tmod 2 == 0) = false := by
  rw [beq_eq_false_iff_ne]
  intro h1
  have := Int.emod_eq_zero_of_dvd (Int.dvd_of_tmod_eq_zero h1)
  omega
theorem twoS_sgn {a t : Int} (ht : t = 1 ∨ t = -1) (ho : a % 2 = 1) : t * twoS a = 1 ∨ t * twoS a = -1 := sign_mul ht (twoS_sign ho)
set_option maxHeartbeats 1600000 in
theorem kronecker_any (a n : Int) (w : World) (a1 : -1000000 ≤ a) (a2 : a ≤ 1000000) (n1 : -1000000 ≤ n) (n2 : n ≤ 1000000) :
    Calls Try.prog 71 #[.int .i64 a, .int .i64 n] w fun e w' => e = .returned (.int .i64 (kr a n)) ∧ w = w' := by
  by_cases h0 : n = 0
  · subst h0
    by_cases ha : a = 1 ∨ a = -1
    · have HV := Lib.hid (kr_zero1 ha)
      have ht : (((a.natAbs : Nat) : Int) == 1) = true := by rw [beq_iff_eq]; omega
      clear ha
      go_enter Try.func71, Try.ntmps71
      go_wp2_with fail
      ((with_reducible refine (abs_any _ _ (by omega) (by omega)).mono ?_); rintro e w0 ⟨rfl, rfl⟩)
      go_wp2
      go_ret
      exact ⟨by rw [HV.out]; try rfl, rfl⟩
    · have HV := Lib.hid (kr_zero0 ha)
      have ht : (((a.natAbs : Nat) : Int) == 1) = false := by rw [beq_eq_false_iff_ne]; omega
      clear ha
      go_enter Try.func71, Try.ntmps71
      go_wp2_with fail
      ((with_reducible refine (abs_any _ _ (by omega) (by omega)).mono ?_); rintro e w0 ⟨rfl, rfl⟩)
      go_wp2
      go_ret
      exact ⟨by rw [HV.out]; try rfl, rfl⟩
  · have hn0 : (n == 0) = false := by rw [beq_eq_false_iff_ne]; exact h0
    have K0 : n < 0 ∧ a < 0 → Calls Try.prog 71 #[.int .i64 a, .int .i64 n] w (fun e w' => e = .returned (.int .i64 (kr a n)) ∧ w = w') := fun hs => by
      have ST := Lib.hid (kr_minus hs.1 hs.2)
      clear h0
      obtain ⟨hs1, hs2⟩ := hs
      go_enter Try.func71, Try.ntmps71
      go_wp2_with fail
      ((with_reducible refine (abs_any _ _ (by omega) (by omega)).mono ?_); rintro e w0 ⟨rfl, rfl⟩)
      go_wp2
      go_loop [1, 5] (fun s1 s5 => ∃ (m : Nat) (t : Int), s1 = .int .i64 (m : Int) ∧ s5 = .int .i64 t ∧ 1 ≤ m ∧ m ≤ 1000000 ∧ (t = 1 ∨ t = -1) ∧ Hid (krN a t m = kr a n)) (fun s1 _ => (intOf s1).toNat)
      case atStart => exact ⟨n.natAbs, -1, rfl, rfl, by omega, by omega, by omega, ST⟩
      case round =>
        obtain ⟨m, t, rfl, rfl, m1, m2, ht, HI⟩ := hrel
        have tb : -1 ≤ t ∧ t ≤ 1 := by omega
        by_cases hm : m % 2 = 0
        · have hmi : (m : Int) % 2 = 0 := by omega
          by_cases ha : a % 2 = 0
          · have HV := Lib.hid (show kr a n = 0 by rw [← HI.out, krN_even (show m ≠ 0 by omega) hm, twoS_zero ha, Int.mul_zero]; exact krN_zero _ _ (by omega))
            have tm := tm2_even ha
            have tm1 : (a % 2 == 0) = true := by rw [beq_iff_eq]; exact ha
            clear ha
            go_wp2
            go_ret
            exact ⟨by rw [HV.out]; try rfl, rfl⟩
          · have hao : a % 2 = 1 := by omega
            have HN := Lib.hid (show krN a (t * twoS a) (m / 2) = kr a n by rw [← krN_even (s := t) (show m ≠ 0 by omega) hm]; exact HI.out)
            have HS := Lib.hid (twoS_sgn ht hao)
            have pb : -1 ≤ t * twoS a ∧ t * twoS a ≤ 1 := by have := HS.out; omega
            have tm := tm2_odd hao
            have tm1 : (a % 2 == 0) = false := by rw [beq_eq_false_iff_ne]; exact ha
            clear ha
            go_wp2_with fail
            ((with_reducible refine (symbolOfTwo_any _ _ (by omega) (by omega) hao).mono ?_); rintro e w0 ⟨rfl, rfl⟩)
            go_wp2
            go_round
            case rel => exact ⟨m / 2, t * twoS a, by go_num, rfl, by omega, by omega, HS.out, HN⟩
            case measure => simp only [intOf]; omega
        · have hmi : (m : Int) % 2 = 1 := by omega
          have hb := J_bd a m
          have HV := Lib.hid (show kr a n = t * Jac.J a m by rw [← HI.out, krN_odd (by omega)])
          have pb : -1 ≤ t * Jac.J a m ∧ t * Jac.J a m ≤ 1 := mul_bd1 tb hb
          go_wp2_with fail
          ((with_reducible refine (jacobi_nat a m _ (by omega) (by omega) m1 m2 (by omega)).mono ?_); rintro e w0 ⟨rfl, rfl⟩)
          go_wp2
          go_ret
          exact ⟨by rw [HV.out]; try rfl, rfl⟩
    have K1 : n < 0 ∧ 0 ≤ a → Calls Try.prog 71 #[.int .i64 a, .int .i64 n] w (fun e w' => e = .returned (.int .i64 (kr a n)) ∧ w = w') := fun hs => by
      have ST := Lib.hid (kr_plus (a := a) (n := n) h0 (by omega))
      clear h0
      obtain ⟨hs1, hs2⟩ := hs
      go_enter Try.func71, Try.ntmps71
      go_wp2_with fail
      ((with_reducible refine (abs_any _ _ (by omega) (by omega)).mono ?_); rintro e w0 ⟨rfl, rfl⟩)
      go_wp2
      go_loop [1, 5] (fun s1 s5 => ∃ (m : Nat) (t : Int), s1 = .int .i64 (m : Int) ∧ s5 = .int .i64 t ∧ 1 ≤ m ∧ m ≤ 1000000 ∧ (t = 1 ∨ t = -1) ∧ Hid (krN a t m = kr a n)) (fun s1 _ => (intOf s1).toNat)
      case atStart => exact ⟨n.natAbs, 1, rfl, rfl, by omega, by omega, by omega, ST⟩
      case round =>
        obtain ⟨m, t, rfl, rfl, m1, m2, ht, HI⟩ := hrel
        have tb : -1 ≤ t ∧ t ≤ 1 := by omega
        by_cases hm : m % 2 = 0
        · have hmi : (m : Int) % 2 = 0 := by omega
          by_cases ha : a % 2 = 0
          · have HV := Lib.hid (show kr a n = 0 by rw [← HI.out, krN_even (show m ≠ 0 by omega) hm, twoS_zero ha, Int.mul_zero]; exact krN_zero _ _ (by omega))
            have tm := tm2_even ha
            have tm1 : (a % 2 == 0) = true := by rw [beq_iff_eq]; exact ha
            clear ha
            go_wp2
            go_ret
            exact ⟨by rw [HV.out]; try rfl, rfl⟩
          · have hao : a % 2 = 1 := by omega
            have HN := Lib.hid (show krN a (t * twoS a) (m / 2) = kr a n by rw [← krN_even (s := t) (show m ≠ 0 by omega) hm]; exact HI.out)
            have HS := Lib.hid (twoS_sgn ht hao)
            have pb : -1 ≤ t * twoS a ∧ t * twoS a ≤ 1 := by have := HS.out; omega
            have tm := tm2_odd hao
            have tm1 : (a % 2 == 0) = false := by rw [beq_eq_false_iff_ne]; exact ha
            clear ha
            go_wp2_with fail
            ((with_reducible refine (symbolOfTwo_any _ _ (by omega) (by omega) hao).mono ?_); rintro e w0 ⟨rfl, rfl⟩)
            go_wp2
            go_round
            case rel => exact ⟨m / 2, t * twoS a, by go_num, rfl, by omega, by omega, HS.out, HN⟩
            case measure => simp only [intOf]; omega
        · have hmi : (m : Int) % 2 = 1 := by omega
          have hb := J_bd a m
          have HV := Lib.hid (show kr a n = t * Jac.J a m by rw [← HI.out, krN_odd (by omega)])
          have pb : -1 ≤ t * Jac.J a m ∧ t * Jac.J a m ≤ 1 := mul_bd1 tb hb
          go_wp2_with fail
          ((with_reducible refine (jacobi_nat a m _ (by omega) (by omega) m1 m2 (by omega)).mono ?_); rintro e w0 ⟨rfl, rfl⟩)
          go_wp2
          go_ret
          exact ⟨by rw [HV.out]; try rfl, rfl⟩
    have K2 : 0 < n → Calls Try.prog 71 #[.int .i64 a, .int .i64 n] w (fun e w' => e = .returned (.int .i64 (kr a n)) ∧ w = w') := fun hs => by
      have ST := Lib.hid (kr_plus (a := a) (n := n) h0 (by omega))
      clear h0
      go_enter Try.func71, Try.ntmps71
      go_wp2_with fail
      ((with_reducible refine (abs_any _ _ (by omega) (by omega)).mono ?_); rintro e w0 ⟨rfl, rfl⟩)
      go_wp2
      go_loop [1, 5] (fun s1 s5 => ∃ (m : Nat) (t : Int), s1 = .int .i64 (m : Int) ∧ s5 = .int .i64 t ∧ 1 ≤ m ∧ m ≤ 1000000 ∧ (t = 1 ∨ t = -1) ∧ Hid (krN a t m = kr a n)) (fun s1 _ => (intOf s1).toNat)
      case atStart => exact ⟨n.natAbs, 1, rfl, rfl, by omega, by omega, by omega, ST⟩
      case round =>
        obtain ⟨m, t, rfl, rfl, m1, m2, ht, HI⟩ := hrel
        have tb : -1 ≤ t ∧ t ≤ 1 := by omega
        by_cases hm : m % 2 = 0
        · have hmi : (m : Int) % 2 = 0 := by omega
          by_cases ha : a % 2 = 0
          · have HV := Lib.hid (show kr a n = 0 by rw [← HI.out, krN_even (show m ≠ 0 by omega) hm, twoS_zero ha, Int.mul_zero]; exact krN_zero _ _ (by omega))
            have tm := tm2_even ha
            have tm1 : (a % 2 == 0) = true := by rw [beq_iff_eq]; exact ha
            clear ha
            go_wp2
            go_ret
            exact ⟨by rw [HV.out]; try rfl, rfl⟩
          · have hao : a % 2 = 1 := by omega
            have HN := Lib.hid (show krN a (t * twoS a) (m / 2) = kr a n by rw [← krN_even (s := t) (show m ≠ 0 by omega) hm]; exact HI.out)
            have HS := Lib.hid (twoS_sgn ht hao)
            have pb : -1 ≤ t * twoS a ∧ t * twoS a ≤ 1 := by have := HS.out; omega
            have tm := tm2_odd hao
            have tm1 : (a % 2 == 0) = false := by rw [beq_eq_false_iff_ne]; exact ha
            clear ha
            go_wp2_with fail
            ((with_reducible refine (symbolOfTwo_any _ _ (by omega) (by omega) hao).mono ?_); rintro e w0 ⟨rfl, rfl⟩)
            go_wp2
            go_round
            case rel => exact ⟨m / 2, t * twoS a, by go_num, rfl, by omega, by omega, HS.out, HN⟩
            case measure => simp only [intOf]; omega
        · have hmi : (m : Int) % 2 = 1 := by omega
          have hb := J_bd a m
          have HV := Lib.hid (show kr a n = t * Jac.J a m by rw [← HI.out, krN_odd (by omega)])
          have pb : -1 ≤ t * Jac.J a m ∧ t * Jac.J a m ≤ 1 := mul_bd1 tb hb
          go_wp2_with fail
          ((with_reducible refine (jacobi_nat a m _ (by omega) (by omega) m1 m2 (by omega)).mono ?_); rintro e w0 ⟨rfl, rfl⟩)
          go_wp2
          go_ret
          exact ⟨by rw [HV.out]; try rfl, rfl⟩
    by_cases g1 : n < 0
    · by_cases g2 : a < 0
      · exact K0 ⟨g1, g2⟩
      · exact K1 ⟨g1, by omega⟩
    · exact K2 (by omega)
set_option maxHeartbeats 1600000 in
theorem syKronecker_any (a n : Int) (w : World) (a1 : -1000000 ≤ a) (a2 : a ≤ 1000000) (n1 : -1000000 ≤ n) (n2 : n ≤ 1000000) :
    Calls Try.prog 70 #[.int .i64 a, .int .i64 n] w fun e w' => e = .returned (.int .i64 (kr a n)) ∧ Below w.heap.size w w' := by
  by_cases h0 : n = 0
  · subst h0
    by_cases ha : a = 1 ∨ a = -1
    · have HV := Lib.hid (kr_zero1 ha)
      have ht : (((a.natAbs : Nat) : Int) == 1) = true := by rw [beq_iff_eq]; omega
      clear ha
      go_enter Try.func70, Try.ntmps70
      go_wp2_with fail
      ((with_reducible refine (l1Abs_any _ _ (by omega) (by omega)).mono ?_); rintro e w0 ⟨rfl, rfl⟩)
      go_wp2
      go_ret
      exact ⟨by rw [HV.out]; try rfl, (by repeat' (first | (with_reducible exact Below.refl _ _) | (with_reducible assumption) | (with_reducible refine Below.alloc ?_ ?_ _) | (with_reducible refine Below.drew ?_) | (with_reducible refine below_drewN ?_ _) | (with_reducible refine Below.setCell ?_ ?_ _) | go_size))⟩
    · have HV := Lib.hid (kr_zero0 ha)
      have ht : (((a.natAbs : Nat) : Int) == 1) = false := by rw [beq_eq_false_iff_ne]; omega
      clear ha
      go_enter Try.func70, Try.ntmps70
      go_wp2_with fail
      ((with_reducible refine (l1Abs_any _ _ (by omega) (by omega)).mono ?_); rintro e w0 ⟨rfl, rfl⟩)
      go_wp2
      go_ret
      exact ⟨by rw [HV.out]; try rfl, (by repeat' (first | (with_reducible exact Below.refl _ _) | (with_reducible assumption) | (with_reducible refine Below.alloc ?_ ?_ _) | (with_reducible refine Below.drew ?_) | (with_reducible refine below_drewN ?_ _) | (with_reducible refine Below.setCell ?_ ?_ _) | go_size))⟩
  · have hn0 : (n == 0) = false := by rw [beq_eq_false_iff_ne]; exact h0
    have K0 : n < 0 ∧ a < 0 → Calls Try.prog 70 #[.int .i64 a, .int .i64 n] w (fun e w' => e = .returned (.int .i64 (kr a n)) ∧ Below w.heap.size w w') := fun hs => by
      have ST := Lib.hid (kr_minus hs.1 hs.2)
      have hna : ((n.natAbs : Nat) : Int) = -n := by omega
      have HNA := Lib.hid hna
      clear hna
      clear h0
      obtain ⟨hs1, hs2⟩ := hs
      go_enter Try.func70, Try.ntmps70
      go_wp2
      go_loop [1, 5] (fun s1 s5 => ∃ (m : Nat) (t : Int), s1 = .int .i64 (m : Int) ∧ s5 = .int .i64 t ∧ 1 ≤ m ∧ m ≤ 1000000 ∧ (-1 ≤ t ∧ t ≤ 1) ∧ Hid (krN a t m = kr a n)) (fun s1 _ => (intOf s1).toNat)
      case atStart => exact ⟨n.natAbs, -1, by rw [HNA.out], rfl, by omega, by omega, by omega, ST⟩
      case round =>
        obtain ⟨m, t, rfl, rfl, m1, m2, tb, HI⟩ := hrel
        by_cases hm : m % 2 = 0
        · have hmi : (m : Int) % 2 = 0 := by omega
          have HN := Lib.hid (show krN a (t * twoS a) (m / 2) = kr a n by rw [← krN_even (s := t) (show m ≠ 0 by omega) hm]; exact HI.out)
          have pb : -1 ≤ t * twoS a ∧ t * twoS a ≤ 1 := mul_bd1 tb (twoS_bd a)
          go_wp2_with fail
          ((with_reducible refine (syTwo_any _ _ (by omega) (by omega)).mono ?_); rintro e w0 ⟨rfl, rfl⟩)
          go_wp2
          go_round
          case rel => exact ⟨m / 2, t * twoS a, by go_num, rfl, by omega, by omega, pb, HN⟩
          case measure => simp only [intOf]; omega
        · have hmi : (m : Int) % 2 = 1 := by omega
          have hb := J_bd a m
          have HV := Lib.hid (show kr a n = t * Jac.J a m by rw [← HI.out, krN_odd (by omega)])
          have pb : -1 ≤ t * Jac.J a m ∧ t * Jac.J a m ≤ 1 := mul_bd1 tb hb
          go_wp2_with fail
          ((with_reducible refine (syJac_nat a m _ (by omega) (by omega) m1 m2 (by omega)).mono ?_); rintro e w1 ⟨rfl, hb1⟩)
          go_wp2
          go_ret
          exact ⟨by rw [HV.out]; try rfl, hb1⟩
    have K1 : n < 0 ∧ 0 ≤ a → Calls Try.prog 70 #[.int .i64 a, .int .i64 n] w (fun e w' => e = .returned (.int .i64 (kr a n)) ∧ Below w.heap.size w w') := fun hs => by
      have ST := Lib.hid (kr_plus (a := a) (n := n) h0 (by omega))
      have hna : ((n.natAbs : Nat) : Int) = -n := by omega
      have HNA := Lib.hid hna
      clear hna
      clear h0
      obtain ⟨hs1, hs2⟩ := hs
      go_enter Try.func70, Try.ntmps70
      go_wp2
      go_loop [1, 5] (fun s1 s5 => ∃ (m : Nat) (t : Int), s1 = .int .i64 (m : Int) ∧ s5 = .int .i64 t ∧ 1 ≤ m ∧ m ≤ 1000000 ∧ (-1 ≤ t ∧ t ≤ 1) ∧ Hid (krN a t m = kr a n)) (fun s1 _ => (intOf s1).toNat)
      case atStart => exact ⟨n.natAbs, 1, by rw [HNA.out], rfl, by omega, by omega, by omega, ST⟩
      case round =>
        obtain ⟨m, t, rfl, rfl, m1, m2, tb, HI⟩ := hrel
        by_cases hm : m % 2 = 0
        · have hmi : (m : Int) % 2 = 0 := by omega
          have HN := Lib.hid (show krN a (t * twoS a) (m / 2) = kr a n by rw [← krN_even (s := t) (show m ≠ 0 by omega) hm]; exact HI.out)
          have pb : -1 ≤ t * twoS a ∧ t * twoS a ≤ 1 := mul_bd1 tb (twoS_bd a)
          go_wp2_with fail
          ((with_reducible refine (syTwo_any _ _ (by omega) (by omega)).mono ?_); rintro e w0 ⟨rfl, rfl⟩)
          go_wp2
          go_round
          case rel => exact ⟨m / 2, t * twoS a, by go_num, rfl, by omega, by omega, pb, HN⟩
          case measure => simp only [intOf]; omega
        · have hmi : (m : Int) % 2 = 1 := by omega
          have hb := J_bd a m
          have HV := Lib.hid (show kr a n = t * Jac.J a m by rw [← HI.out, krN_odd (by omega)])
          have pb : -1 ≤ t * Jac.J a m ∧ t * Jac.J a m ≤ 1 := mul_bd1 tb hb
          go_wp2_with fail
          ((with_reducible refine (syJac_nat a m _ (by omega) (by omega) m1 m2 (by omega)).mono ?_); rintro e w1 ⟨rfl, hb1⟩)
          go_wp2
          go_ret
          exact ⟨by rw [HV.out]; try rfl, hb1⟩
    have K2 : 0 < n → Calls Try.prog 70 #[.int .i64 a, .int .i64 n] w (fun e w' => e = .returned (.int .i64 (kr a n)) ∧ Below w.heap.size w w') := fun hs => by
      have ST := Lib.hid (kr_plus (a := a) (n := n) h0 (by omega))
      have hna : ((n.natAbs : Nat) : Int) = n := by omega
      have HNA := Lib.hid hna
      clear hna
      clear h0
      go_enter Try.func70, Try.ntmps70
      go_wp2
      go_loop [1, 5] (fun s1 s5 => ∃ (m : Nat) (t : Int), s1 = .int .i64 (m : Int) ∧ s5 = .int .i64 t ∧ 1 ≤ m ∧ m ≤ 1000000 ∧ (-1 ≤ t ∧ t ≤ 1) ∧ Hid (krN a t m = kr a n)) (fun s1 _ => (intOf s1).toNat)
      case atStart => exact ⟨n.natAbs, 1, by rw [HNA.out], rfl, by omega, by omega, by omega, ST⟩
      case round =>
        obtain ⟨m, t, rfl, rfl, m1, m2, tb, HI⟩ := hrel
        by_cases hm : m % 2 = 0
        · have hmi : (m : Int) % 2 = 0 := by omega
          have HN := Lib.hid (show krN a (t * twoS a) (m / 2) = kr a n by rw [← krN_even (s := t) (show m ≠ 0 by omega) hm]; exact HI.out)
          have pb : -1 ≤ t * twoS a ∧ t * twoS a ≤ 1 := mul_bd1 tb (twoS_bd a)
          go_wp2_with fail
          ((with_reducible refine (syTwo_any _ _ (by omega) (by omega)).mono ?_); rintro e w0 ⟨rfl, rfl⟩)
          go_wp2
          go_round
          case rel => exact ⟨m / 2, t * twoS a, by go_num, rfl, by omega, by omega, pb, HN⟩
          case measure => simp only [intOf]; omega
        · have hmi : (m : Int) % 2 = 1 := by omega
          have hb := J_bd a m
          have HV := Lib.hid (show kr a n = t * Jac.J a m by rw [← HI.out, krN_odd (by omega)])
          have pb : -1 ≤ t * Jac.J a m ∧ t * Jac.J a m ≤ 1 := mul_bd1 tb hb
          go_wp2_with fail
          ((with_reducible refine (syJac_nat a m _ (by omega) (by omega) m1 m2 (by omega)).mono ?_); rintro e w1 ⟨rfl, hb1⟩)
          go_wp2
          go_ret
          exact ⟨by rw [HV.out]; try rfl, hb1⟩
    by_cases g1 : n < 0
    · by_cases g2 : a < 0
      · exact K0 ⟨g1, g2⟩
      · exact K1 ⟨g1, by omega⟩
    · exact K2 (by omega)
end Go.Proofs.Ytbiaokglmdmopaa
