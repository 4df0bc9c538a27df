/-
  Contracts: the square-free part, of the program and of the reference.
-/
import Derived.Test.YtfpedehpmgcmnaaAr
import Derived.Test.YtfpedehpmgcmnaaPlain
namespace Go.Proofs.Ytfpedehpmgcmnaa
open Go.RowKit
set_option linter.unusedSimpArgs false
set_option linter.unusedVariables false

def sqS (n : Int) : Int := if 0 < n then ((sfN 2 n.natAbs 1).1 : Int) else -((sfN 2 n.natAbs 1).1 : Int)
def sqK (n : Int) : Int := ((sfN 2 n.natAbs 1).2 : Int)

theorem sq_bd' {p : Nat} (h : p ≤ 1001) : 0 ≤ (p : Int) * p ∧ (p : Int) * p ≤ 1002001 := by
  have : p * p ≤ 1001 * 1001 := Nat.mul_le_mul h h
  rw [← Int.natCast_mul]
  omega
theorem sq_le' {p : Nat} (h : (p : Int) * p ≤ 1000000) : p ≤ 1000 := by
  rcases Nat.lt_or_ge 1000 p with h1 | h1
  · have : 1001 * 1001 ≤ p * p := Nat.mul_le_mul h1 h1
    rw [← Int.natCast_mul] at h
    omega
  · exact h1
/-- What holds while the squares of primes are struck out: x is what is left, k the root of what is gone, p the next number to try. -/
structure SqInv (n x : Int) (k p : Nat) : Prop where
  pos : x ≠ 0
  sign : 0 < x ↔ 0 < n
  kp : 1 ≤ k
  mul : x.natAbs * (k * k) = n.natAbs
  val : sfN p x.natAbs k = sfN 2 n.natAbs 1
theorem SqInv.start {n : Int} (h : n ≠ 0) : SqInv n n 1 2 := ⟨h, Iff.rfl, Nat.le_refl _, by simp, rfl⟩
theorem SqInv.bd {n x : Int} {k p : Nat} (h : SqInv n x k p) (n1 : -1000000 ≤ n) (n2 : n ≤ 1000000) : -1000000 ≤ x ∧ x ≤ 1000000 ∧ k ≤ 1000 := by
  have hm := h.mul
  have hp := h.pos
  have hk := h.kp
  have h1 : x.natAbs * 1 ≤ x.natAbs * (k * k) := Nat.mul_le_mul_left _ (Nat.mul_le_mul hk hk)
  have h2 : 1 * (k * k) ≤ x.natAbs * (k * k) := Nat.mul_le_mul_right _ (by omega)
  have h3 : k ≤ 1000 := sq_le' (by rw [← Int.natCast_mul]; omega)
  omega
theorem SqInv.hit {n x : Int} {k p : Nat} (h : SqInv n x k p) (n1 : -1000000 ≤ n) (n2 : n ≤ 1000000) (p2 : 2 ≤ p) (hm : x.natAbs % (p * p) = 0) :
    SqInv n (x.tdiv ((p : Int) * p)) (k * p) p ∧ x.tmod ((p : Int) * p) = 0 ∧ (x.tdiv ((p : Int) * p)).natAbs < x.natAbs ∧
    -1000000 ≤ x.tdiv ((p : Int) * p) ∧ x.tdiv ((p : Int) * p) ≤ 1000000 ∧ 0 ≤ (k : Int) * p ∧ (k : Int) * p ≤ 1000000 := by
  have hp := h.pos
  have h4 : 2 * 2 ≤ p * p := Nat.mul_le_mul p2 p2
  have ha : (x.tdiv ((p : Int) * p)).natAbs = x.natAbs / (p * p) := by rw [Int.natAbs_tdiv, ← Int.natCast_mul, Int.natAbs_natCast]; rfl
  have hr : (x.tmod ((p : Int) * p)).natAbs = x.natAbs % (p * p) := by rw [Int.natAbs_tmod, ← Int.natCast_mul, Int.natAbs_natCast]
  have hd := Nat.div_add_mod x.natAbs (p * p)
  rw [hm, Nat.add_zero] at hd
  have hge : p * p ≤ x.natAbs := Nat.le_of_dvd (by omega) (Nat.dvd_of_mod_eq_zero hm)
  have hlt : x.natAbs / (p * p) < x.natAbs := Nat.div_lt_self (by omega) (by omega)
  have hq : 0 < x.natAbs / (p * p) := Nat.div_pos hge (by omega)
  have hS : SqInv n (x.tdiv ((p : Int) * p)) (k * p) p := by
    refine ⟨by omega, ?_, Nat.mul_pos h.kp (by omega), ?_, ?_⟩
    · rw [← h.sign]
      have hx : x = (p : Int) * p * x.tdiv ((p : Int) * p) := by
        have := Int.mul_tdiv_add_tmod x ((p : Int) * p)
        omega
      have hpp : 0 < (p : Int) * p := by rw [← Int.natCast_mul]; omega
      constructor
      · intro h0
        rw [hx]
        exact Int.mul_pos hpp h0
      · intro h0
        rcases Int.lt_or_le 0 (x.tdiv ((p : Int) * p)) with h1 | h1
        · exact h1
        · have : (p : Int) * p * x.tdiv ((p : Int) * p) ≤ 0 := Int.mul_nonpos_of_nonneg_of_nonpos (by omega) h1
          omega
    · rw [ha, ← h.mul]
      conv => rhs; rw [← hd]
      grind
    · rw [ha, ← h.val, sfN_hit p2 hge hm]
  have hb := hS.bd n1 n2
  refine ⟨hS, by omega, by omega, hb.1, hb.2.1, ?_, ?_⟩
  · rw [← Int.natCast_mul]; omega
  · rw [← Int.natCast_mul]; omega
theorem SqInv.miss {n x : Int} {k p : Nat} (h : SqInv n x k p) (p2 : 2 ≤ p) (hm : ¬ x.natAbs % (p * p) = 0) : SqInv n x k (p + 1) ∧ (x.tmod ((p : Int) * p) == 0) = false := by
  have hr : (x.tmod ((p : Int) * p)).natAbs = x.natAbs % (p * p) := by rw [Int.natAbs_tmod, ← Int.natCast_mul, Int.natAbs_natCast]
  refine ⟨⟨h.pos, h.sign, h.kp, h.mul, ?_⟩, ?_⟩
  · rw [← h.val]
    rcases Nat.lt_or_ge x.natAbs (p * p) with h1 | h1
    · have : p * p ≤ (p + 1) * (p + 1) := Nat.mul_le_mul (by omega) (by omega)
      rw [sfN_end (by omega), sfN_end h1]
    · rw [sfN_miss p2 h1 hm]
  · rw [beq_eq_false_iff_ne]
    intro h0
    rw [h0] at hr
    exact hm hr.symm
theorem SqInv.fin {n x : Int} {k p : Nat} (h : SqInv n x k p) (hlt : (x.natAbs : Int) < (p : Int) * p) : x = sqS n ∧ (k : Int) = sqK n := by
  have hv := h.val
  have h0 : x.natAbs < p * p := by rw [← Int.natCast_mul] at hlt; omega
  rw [sfN_end h0] at hv
  have hs := h.sign
  have hp := h.pos
  unfold sqS sqK
  rw [← hv]
  refine ⟨?_, rfl⟩
  show x = if 0 < n then (x.natAbs : Int) else -(x.natAbs : Int)
  split
  · rename_i h2
    have := hs.2 h2
    omega
  · rename_i h2
    have : ¬ 0 < x := fun h3 => h2 (hs.1 h3)
    omega

set_option maxHeartbeats 800000 in
theorem squareFree_any (n : Int) (w : World) (n1 : -1000000 ≤ n) (n2 : n ≤ 1000000) (hn : n ≠ 0) :
    Calls Try.prog 63 #[.int .i64 n] w fun e w' => e = .returned (.tuple #[.int .i64 (sqS n), .int .i64 (sqK n)]) ∧ w = w' := by
  have H0 := Lib.hid hn
  clear hn
  go_enter Try.func63, Try.ntmps63
  go_wp2
  go_loop [0, 4, 5] (fun s t u => ∃ (x : Int) (k p : Nat), s = .int .i64 x ∧ t = .int .i64 k ∧ u = .int .i64 p ∧ 2 ≤ p ∧ p ≤ 1001 ∧ Hid (SqInv n x k p)) (fun s _ u => 2 * (intOf s).natAbs + 1001 - (intOf u).toNat)
  case atStart => exact ⟨n, 1, 2, rfl, rfl, rfl, by omega, by omega, SqInv.start H0.out⟩
  case round =>
    obtain ⟨x, k, p, rfl, rfl, rfl, p1, p2, HI⟩ := hrel
    obtain ⟨x1, x2, k2⟩ := HI.out.bd n1 n2
    have pp := sq_bd' p2
    by_cases ht : (p : Int) * p ≤ (x.natAbs : Int)
    · go_wp2_with (go_at_call 60; refine (abs_any _ _ (by omega) (by omega)).mono ?_; rintro e w' ⟨rfl, rfl⟩)
      go_loop [0, 4] (fun s t => ∃ (y : Int) (j : Nat), s = .int .i64 y ∧ t = .int .i64 j ∧ Hid (SqInv n y j p) ∧ y.natAbs ≤ x.natAbs) (fun s _ => (intOf s).natAbs)
      case atStart => exact ⟨x, k, rfl, rfl, HI, Nat.le_refl _⟩
      case round =>
        obtain ⟨y, j, rfl, rfl, HJ, hyx⟩ := hrel
        obtain ⟨y1, y2, j2⟩ := HJ.out.bd n1 n2
        have pos : 1 ≤ (p : Int) * p := by have := Nat.mul_le_mul p1 p1; rw [← Int.natCast_mul]; omega
        by_cases hm : y.natAbs % (p * p) = 0
        · obtain ⟨hs, ht0, hlt, q1, q2, kp1, kp2⟩ := HJ.out.hit n1 n2 p1 hm
          have HS := Lib.hid hs
          have HM := Lib.hid hm
          clear hs hm
          go_wp2
          go_round
          case rel => exact ⟨y.tdiv ((p : Int) * p), j * p, rfl, by go_num, HS, by omega⟩
          case measure => simp only [intOf]; exact hlt
        · obtain ⟨hs, ht0⟩ := HJ.out.miss p1 hm
          have HS := Lib.hid hs
          have HM := Lib.hid hm
          clear hs hm
          have p3 : p ≤ 1000 := sq_le' (by omega)
          go_wp2
          go_round
          case rel => exact ⟨y, j, p + 1, rfl, rfl, by go_num, by omega, by omega, HS⟩
          case measure => simp only [intOf]; omega
    · obtain ⟨e1, e2⟩ := HI.out.fin (by omega)
      have E1 := Lib.hid e1
      have E2 := Lib.hid e2
      clear e1 e2
      go_wp2_with (go_at_call 60; refine (abs_any _ _ (by omega) (by omega)).mono ?_; rintro e w' ⟨rfl, rfl⟩)
      go_ret2
      exact ⟨by rw [← E1.out, ← E2.out]; rfl, rfl⟩
end Go.Proofs.Ytfpedehpmgcmnaa
