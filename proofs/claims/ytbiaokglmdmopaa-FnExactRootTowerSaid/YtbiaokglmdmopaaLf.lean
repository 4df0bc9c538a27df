/-
  Contracts: a lifted root.
-/
import Derived.Test.YtbiaokglmdmopaaLift
import Derived.Test.YtbiaokglmdmopaaCr
import Derived.Test.YtbiaokglmdmopaaJacS
import Derived.Test.YtbiaokglmdmopaaInv2
namespace Go.Proofs.Ytbiaokglmdmopaa
open Go.RowKit
set_option linter.unusedSimpArgs false
set_option linter.unusedVariables false

/-- the pieces of a lifted root, named -/
structure Lf (a p m x v : Int) : Prop where
  hv : inv (2 * x) p = v
  co : Int.gcd (2 * x) p = 1
  q1 : 0 ≤ x * x ∧ x * x ≤ 1000000000000
  c1 : -2000000000000 ≤ (a - x * x).tdiv m ∧ (a - x * x).tdiv m ≤ 2000000000000
  r1 : 0 ≤ (a - x * x).tdiv m % p ∧ (a - x * x).tdiv m % p ≤ 1000000
  v1 : 0 ≤ v ∧ v ≤ 1000000
  u1 : 0 ≤ (a - x * x).tdiv m % p * v ∧ (a - x * x).tdiv m % p * v ≤ 1000000000000
  t1 : 0 ≤ (a - x * x).tdiv m % p * v % p ∧ (a - x * x).tdiv m % p * v % p ≤ 1000000
  mt : 0 ≤ m * ((a - x * x).tdiv m % p * v % p) ∧ m * ((a - x * x).tdiv m % p * v % p) ≤ 1000000000000
  e : liV a p m x = x + m * ((a - x * x).tdiv m % p * v % p)
theorem lf_of {a p m x : Int} (h : LiI a p m x) (a1 : -1000000 ≤ a) (a2 : a ≤ 1000000) (p2 : p ≤ 1000000) (m2 : m ≤ 1000000) : ∃ v, Lf a p m x v := by
  have p1 := h.p1
  have m1 := h.m1
  have x0 := h.x0
  have x1 := h.x1
  have hq := mul_pos' (x := x) (y := x) 1000000 1000000 (by omega) (by omega)
  obtain ⟨v, hv⟩ : ∃ v : Int, inv (2 * x) p = v := ⟨_, rfl⟩
  have hvr := inv_range (2 * x) (m := p) (by omega)
  rw [hv] at hvr
  have hc := tdiv_ab (a - x * x) (y := m) (B := 2000000000000) (by omega)
  have r1 := Int.emod_nonneg ((a - x * x).tdiv m) (show p ≠ 0 by omega)
  have r2 := Int.emod_lt_of_pos ((a - x * x).tdiv m) (show 0 < p by omega)
  have u1 := mul_pos' (x := (a - x * x).tdiv m % p) (y := v) 1000000 1000000 (by omega) (by omega)
  have t1 := Int.emod_nonneg ((a - x * x).tdiv m % p * v) (show p ≠ 0 by omega)
  have t2 := Int.emod_lt_of_pos ((a - x * x).tdiv m % p * v) (show 0 < p by omega)
  have mt := mul_pos' (x := m) (y := (a - x * x).tdiv m % p * v % p) 1000000 1000000 (by omega) (by omega)
  have hd : m ∣ a - x * x := by obtain ⟨c, hc⟩ := h.rt; exact ⟨-c, by rw [Int.mul_neg, ← hc]; omega⟩
  refine ⟨v, hv, h.cop, by omega, by omega, by omega, by omega, by omega, by omega, by omega, ?_⟩
  unfold liV liT liC
  rw [hv, Int.tdiv_eq_ediv_of_dvd hd]
theorem LiI.le {a p m x : Int} (h : LiI a p m x) : 0 ≤ liV a p m x ∧ liV a p m x < m * p := ⟨h.next.x0, h.next.x1⟩
theorem mp_bd {m p : Int} (m1 : 1 ≤ m) (p1 : 3 ≤ p) (h : m * p ≤ 1000000) : m ≤ 1000000 ∧ p ≤ 1000000 ∧ 1 ≤ m * p ∧ m ≤ m * p := by
  have h1 := Int.mul_le_mul_of_nonneg_left (show (1 : Int) ≤ p by omega) (show 0 ≤ m by omega)
  have h2 := Int.mul_le_mul_of_nonneg_right m1 (show 0 ≤ p by omega)
  omega
theorem LiI.hit {a p m x : Int} (h : LiI a p m x) {j : Nat} (hj : (j : Int) = liT a p m x) : ((x + m * j) * (x + m * j) - a).tmod (m * p) = 0 ∧ liV a p m x = x + m * j := by
  have ht := h.t_rng
  exact ⟨Int.tmod_eq_zero_of_dvd ((h.root_iff j (by omega) (by omega)).2 hj), by unfold liV; rw [hj]⟩
theorem LiI.miss {a p m x : Int} (h : LiI a p m x) {j : Nat} (hj : (j : Int) < liT a p m x) : ¬ ((x + m * j) * (x + m * j) - a).tmod (m * p) = 0 := fun h' => by
  have ht := h.t_rng
  have := (h.root_iff j (by omega) (by omega)).1 (Int.dvd_of_tmod_eq_zero h')
  omega
theorem lift_any (a p m x : Int) (w : World) (h : LiI a p m x) (a1 : -1000000 ≤ a) (a2 : a ≤ 1000000) (hmp : m * p ≤ 1000000) :
    Calls Try.prog 65 #[.int .i64 a, .int .i64 p, .int .i64 m, .int .i64 x] w fun e w' => e = .returned (.int .i64 (liV a p m x)) ∧ w = w' := by
  have p1 := h.p1
  have m1 := h.m1
  have x0 := h.x0
  have x1 := h.x1
  have hb := mp_bd m1 p1 hmp
  obtain ⟨v, L⟩ := lf_of h a1 a2 hb.2.1 hb.1
  obtain ⟨hv, co, q1, c1, r1, v1, u1, t1, mt, ee⟩ := L
  have HV := Lib.hid hv
  have CO := Lib.hid co
  have HE := Lib.hid ee
  clear hv co ee h hmp
  go_enter Try.func65, Try.ntmps65
  have w0 : m ≠ 0 := by omega
  have w0' : p ≠ 0 := by omega
  go_wp2_with fail
  ((with_reducible refine (mod_any _ _ _ (by omega) (by omega) (by omega) (by omega)).mono ?_); rintro e w0 ⟨rfl, rfl⟩)
  go_wp2_with fail
  ((with_reducible refine (inverse_is _ CO.out HV.out (by omega) (by omega) (by omega) (by omega)).mono ?_); rintro e w0 ⟨rfl, rfl⟩)
  go_wp2
  go_ret
  exact ⟨by rw [HE.out]; try rfl, rfl⟩
theorem roLift_any (a p m x : Int) (w : World) (h : LiI a p m x) (a1 : -1000000 ≤ a) (a2 : a ≤ 1000000) (hmp : m * p ≤ 1000000) :
    Calls Try.prog 62 #[.int .i64 a, .int .i64 p, .int .i64 m, .int .i64 x] w fun e w' => e = .returned (.int .i64 (liV a p m x)) ∧ w = w' := by
  have p1 := h.p1
  have m1 := h.m1
  have x0 := h.x0
  have x1 := h.x1
  have hb := mp_bd m1 p1 hmp
  have ht := h.t_rng
  have hle := h.le
  have HH := Lib.hid h
  clear h
  go_enter Try.func62, Try.ntmps62
  go_wp2
  go_loop [9] (fun s => ∃ (j : Nat) (y : Int), s = .int .i64 y ∧ Hid (y = x + m * j) ∧ (j : Int) ≤ liT a p m x ∧ 0 ≤ y ∧ y ≤ liV a p m x) (fun s => (liV a p m x).toNat - (intOf s).toNat)
  case atStart => exact ⟨0, x, rfl, Lib.hid (by simp), by omega, x0, by unfold liV; have := Int.mul_nonneg (show 0 ≤ m by omega) ht.1; omega⟩
  case round =>
    obtain ⟨j, y, rfl, HY, hj, y0, y1⟩ := hrel
    have hq := mul_pos' (x := y) (y := y) 1000000 1000000 (by omega) (by omega)
    by_cases hk : (j : Int) = liT a p m x
    · have hh := HH.out.hit hk
      rw [← HY.out] at hh
      have HV := Lib.hid hh.2
      have hz : ((y * y - a).tmod (m * p) != 0) = false := by rw [hh.1]; rfl
      clear hk hh
      go_wp2
      go_ret
      exact ⟨by rw [HV.out]; try rfl, rfl⟩
    · have hh := HH.out.miss (j := j) (by omega)
      rw [← HY.out] at hh
      have hz : ((y * y - a).tmod (m * p) != 0) = true := by rw [bne_iff_ne]; exact hh
      have HN := Lib.hid (show y + m = x + m * ((j + 1 : Nat) : Int) by rw [HY.out, Int.natCast_add, Int.mul_add]; simp; omega)
      have hn : y + m ≤ liV a p m x := by
        have h1 := Int.mul_le_mul_of_nonneg_left (show ((j + 1 : Nat) : Int) ≤ liT a p m x by omega) (show 0 ≤ m by omega)
        rw [HN.out]
        unfold liV
        omega
      have hj' : (j : Int) < liT a p m x := by omega
      clear hk hh
      go_wp2
      go_round
      case rel => exact ⟨j + 1, y + m, rfl, HN, by omega, by omega, hn⟩
      case measure => simp only [intOf]; omega
end Go.Proofs.Ytbiaokglmdmopaa
