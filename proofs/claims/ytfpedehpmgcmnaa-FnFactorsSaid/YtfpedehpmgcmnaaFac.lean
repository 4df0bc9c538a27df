/-
  Contracts: prime factors.
-/
import Derived.Test.YtfpedehpmgcmnaaEu
namespace Go.Proofs.Ytfpedehpmgcmnaa
open Go.RowKit
set_option linter.unusedSimpArgs false
set_option linter.unusedVariables false

theorem sq_bd1 {p : Nat} (h : p ≤ 1001) : 0 ≤ (p : Int) * p ∧ (p : Int) * p ≤ 1002001 := by
  have : p * p ≤ 1001 * 1001 := Nat.mul_le_mul h h
  rw [← Int.natCast_mul]
  omega
theorem sq_le1 {p : Nat} (h : (p : Int) * p ≤ 1000000) : p ≤ 1000 := by
  rcases Nat.lt_or_ge 1000 p with h1 | h1
  · have : 1001 * 1001 ≤ p * p := Nat.mul_le_mul h1 h1
    rw [← Int.natCast_mul] at h
    omega
  · exact h1
/-- No number from 2 on and below p divides y. -/
def ND (y p : Nat) : Prop := ∀ d, 2 ≤ d → d < p → y % d ≠ 0
theorem ND.succ {y p : Nat} (h : ND y p) (hm : ¬ y % p = 0) : ND y (p + 1) := fun d d1 d2 => by
  rcases Nat.lt_or_ge d p with h' | h'
  · exact h d d1 h'
  · have : d = p := by omega
    subst this
    exact hm
theorem ND.quot {y p : Nat} (h : ND y p) (hm : y % p = 0) : ND (y / p) p := fun d d1 d2 h0 => by
  refine h d d1 d2 (Nat.mod_eq_zero_of_dvd ?_)
  have e : y / p * p = y := Nat.div_mul_cancel (Nat.dvd_of_mod_eq_zero hm)
  exact Nat.dvd_trans (Nat.dvd_of_mod_eq_zero h0) ⟨p, e.symm⟩
theorem fcs_hit' {p y : Nat} (h2 : 2 ≤ p) (y1 : 1 ≤ y) (hm : y % p = 0) (hn : ND y p) : fcs p y = p :: fcs p (y / p) := by
  rcases Nat.lt_or_ge y (p * p) with h | h
  · obtain ⟨q, hq⟩ := Nat.dvd_of_mod_eq_zero hm
    have hqp : q < p := by
      rcases Nat.lt_or_ge q p with h' | h'
      · exact h'
      · have := Nat.mul_le_mul_left p h'; omega
    have hq1 : q = 1 := by
      rcases Nat.lt_or_ge q 2 with h' | h'
      · have : q ≠ 0 := fun h0 => by subst h0; simp at hq; omega
        omega
      · exact absurd (by rw [hq]; exact Nat.mul_mod_left p q) (hn q h' hqp)
    subst hq1
    rw [Nat.mul_one] at hq
    subst hq
    rw [Nat.div_self (by omega), fcs_end h, fcs_end (by have := Nat.mul_le_mul h2 h2; omega), if_pos (by omega), if_neg (by omega)]
  · exact fcs_hit h2 h hm
theorem fcs_miss' {p y : Nat} (h2 : 2 ≤ p) (hm : ¬ y % p = 0) : fcs p y = fcs (p + 1) y := by
  rcases Nat.lt_or_ge y (p * p) with h | h
  · have : p * p ≤ (p + 1) * (p + 1) := Nat.mul_le_mul (by omega) (by omega)
    rw [fcs_end h, fcs_end (by omega)]
  · exact fcs_miss h2 h hm

set_option maxHeartbeats 800000 in
theorem nuFactors_any (N : Nat) (w : World) (n1 : 1 ≤ N) (n2 : N ≤ 1000000) : Calls Try.prog 58 #[.int .i64 N] w (RetL w (ints (fcs 2 N))) := by
  obtain ⟨i0, hi, hz0, hz1, hz2⟩ := info_parts Try.infoInt
  go_enter Try.func58, Try.ntmps58
  go_wp2
  go_loopw [0, 3, 4] (fun s v t wr => ∃ (x p : Nat) (D : List Nat), s = .int .i64 x ∧ t = .int .i64 p ∧ Hid (ND x p) ∧ 1 ≤ x ∧ x ≤ 1000000 ∧ 2 ≤ p ∧ p ≤ 1001 ∧ Lst wr w.heap.size v (ints D) ∧ D.length + x ≤ 1000001 ∧ Hid (D ++ fcs p x = fcs 2 N) ∧ Below w.heap.size w wr) (fun s _ t _ => 2 * (intOf s).toNat + 1001 - (intOf t).toNat)
  case atStart => exact ⟨N, 2, [], rfl, rfl, (fun d d1 d2 => by omega : ND N 2), n1, n2, by omega, by omega, Lst.nil _ _, by simp; omega, rfl, (by repeat' (first | (with_reducible exact Below.refl _ _) | (with_reducible assumption) | (with_reducible refine Below.alloc ?_ ?_ _) | (with_reducible refine Below.drew ?_) | (with_reducible refine below_drewN ?_ _) | (with_reducible refine Below.setCell ?_ ?_ _) | go_size))⟩
  case round =>
    obtain ⟨x, p, D, rfl, rfl, HN0, x1, x2, p1, p2, hl, hD, HD, hb⟩ := hrel
    have hsz := hb.size
    have pp := sq_bd1 p2
    by_cases ht : (p : Int) * p ≤ x
    · have hp3 : p ≤ 1000 := sq_le1 (by omega)
      go_wp2
      go_loopw [0, 3] (fun s v wr => ∃ (y : Nat) (D : List Nat), s = .int .i64 y ∧ Hid (ND y p) ∧ 1 ≤ y ∧ y ≤ x ∧ Lst wr w.heap.size v (ints D) ∧ D.length + y ≤ 1000001 ∧ Hid (D ++ fcs p y = fcs 2 N) ∧ Below w.heap.size w wr) (fun s _ _ => (intOf s).toNat)
      case atStart => exact ⟨x, D, rfl, HN0, x1, Nat.le_refl _, hl, hD, HD, hb⟩
      case round =>
        clear hl hD HD hb HN0
        obtain ⟨y, D, rfl, HN0, y1, y2, hl, hD, HD, hb⟩ := hrel
        have hsz := hb.size
        have hlen : (ints D).length + y ≤ 1000001 := by rw [ints_length]; exact hD
        by_cases hm : y % p = 0
        · have hq1 : y / p < y := Nat.div_lt_self (by omega) (by omega)
          have hq2 : 0 < y / p := Nat.div_pos (Nat.le_of_dvd (by omega) (Nat.dvd_of_mod_eq_zero hm)) (by omega)
          have hn : D ++ [p] ++ fcs p (y / p) = fcs 2 N := by rw [← HD.out, fcs_hit' p1 y1 hm HN0.out, List.append_assoc]; rfl
          have HN1 := Lib.hid (HN0.out.quot hm)
          have HN := Lib.hid hn
          have hmi : (y : Int) % (p : Int) = 0 := by omega
          have hdi : ((y / p : Nat) : Int) = (y : Int) / (p : Int) := Int.natCast_ediv _ _
          have HDI := Lib.hid hdi
          have HM := Lib.hid hm
          clear hn HD hdi hm
          go_wp2_with (at_builtin; refine wpList_append_own _ rfl _ _ 41 rfl w.heap.size 3 i0 (.int .i64 0) 1 8 Try.underlying41 hi hz0 hz1 hz2 rfl (by decide) _ _ _ rfl (hl.own.alloc _) ⟨wr.heap.size, 0, none⟩ 1 1 [.int .i64 (p : Int)] rfl rfl ?c1 ?c2 ?c3 ?c4 ?c5 ?_)
          case c1 =>
            intro j u hj
            match j, hj with
            | 0, hj => simp at hj; subst hj; simp [Addr.add]
          case c2 => intro u hu; simp at hu; subst hu; rfl
          case c3 => unfold maxLen; omega
          case c4 => omega
          case c5 => simp; omega
          · intro v' w1 hown' hgrow _
            have hl1 := Lst.snoc hown'
            rw [← ints_snoc] at hl1
            have hb1 := snoc_below hb hl hgrow
            have hd1 : (D ++ [p]).length + y / p ≤ 1000001 := by simp; omega
            clear hown' hgrow hl hb hlen hD
            go_wp2
            go_roundw
            case rel => exact ⟨y / p, D ++ [p], by rw [HDI.out], HN1, hq2, by omega, hl1, hd1, HN, hb1⟩
            case measure => simp only [intOf]; rw [← HDI.out]; omega
        · have hn : D ++ fcs (p + 1) y = fcs 2 N := by rw [← HD.out, fcs_miss' p1 hm]
          have HN1 := Lib.hid (HN0.out.succ hm)
          have HN := Lib.hid hn
          have hmi : ((y : Int) % (p : Int) == 0) = false := by rw [beq_eq_false_iff_ne]; omega
          clear hn HD hm
          go_wp2
          go_roundw
          case rel => exact ⟨y, p + 1, D, rfl, by go_num, HN1, y1, by omega, by omega, by omega, hl, hD, HN, hb⟩
          case measure => simp only [intOf]; omega
    · have hlt : x < p * p := by rw [← Int.natCast_mul] at ht; omega
      have hlen : (ints D).length + x ≤ 1000001 := by rw [ints_length]; exact hD
      by_cases hx : 1 < x
      · have hn : D ++ [x] = fcs 2 N := by rw [← HD.out, fcs_end hlt, if_pos hx]
        have HN := Lib.hid hn
        clear hn HD hlt
        go_wp2_with (at_builtin; refine wpList_append_own _ rfl _ _ 41 rfl w.heap.size 3 i0 (.int .i64 0) 1 8 Try.underlying41 hi hz0 hz1 hz2 rfl (by decide) _ _ _ rfl (hl.own.alloc _) ⟨wr.heap.size, 0, none⟩ 1 1 [.int .i64 (x : Int)] rfl rfl ?d1 ?d2 ?d3 ?d4 ?d5 ?_)
        try
          case d1 =>
            intro j u hj
            match j, hj with
            | 0, hj => simp at hj; subst hj; simp [Addr.add]
        case d2 => first | rfl | (intro u hu; simp at hu; subst hu; rfl)
        case d3 => unfold maxLen; omega
        case d4 => omega
        case d5 => first | omega | (simp; omega)
        · intro v' w1 hown' hgrow _
          have hl1 := Lst.snoc hown'
          rw [← ints_snoc, HN.out] at hl1
          have hb1 := snoc_below hb hl hgrow
          clear hown' hgrow hl hb hlen hD HN
          go_wp2
          go_ret
          exact ⟨_, rfl, hl1, hb1⟩
      · have hn : D = fcs 2 N := by rw [← HD.out, fcs_end hlt, if_neg hx, List.append_nil]
        rw [hn] at hl
        clear hn HD hlt hlen hD
        go_wp2
        go_ret
        exact ⟨_, rfl, hl, hb⟩
set_option maxHeartbeats 800000 in
theorem factors_any (N : Nat) (w : World) (n1 : 1 ≤ N) (n2 : N ≤ 1000000) : Calls Try.prog 57 #[.int .i64 N] w (RetL w (ints (fcs 2 N))) := by
  obtain ⟨i0, hi, hz0, hz1, hz2⟩ := info_parts Try.infoInt
  go_enter Try.func57, Try.ntmps57
  go_wp2
  go_loopw [0, 3, 4] (fun s v t wr => ∃ (x p : Nat) (D : List Nat), s = .int .i64 x ∧ t = .int .i64 p ∧ Hid (ND x p) ∧ 1 ≤ x ∧ x ≤ 1000000 ∧ 2 ≤ p ∧ p ≤ 1001 ∧ Lst wr w.heap.size v (ints D) ∧ D.length + x ≤ 1000001 ∧ Hid (D ++ fcs p x = fcs 2 N) ∧ Below w.heap.size w wr) (fun s _ t _ => 2 * (intOf s).toNat + 1001 - (intOf t).toNat)
  case atStart => exact ⟨N, 2, [], rfl, rfl, (fun d d1 d2 => by omega : ND N 2), n1, n2, by omega, by omega, Lst.empty' (by simp) (by omega), by simp; omega, rfl, (by repeat' (first | (with_reducible exact Below.refl _ _) | (with_reducible assumption) | (with_reducible refine Below.alloc ?_ ?_ _) | (with_reducible refine Below.drew ?_) | (with_reducible refine below_drewN ?_ _) | (with_reducible refine Below.setCell ?_ ?_ _) | go_size))⟩
  case round =>
    obtain ⟨x, p, D, rfl, rfl, HN0, x1, x2, p1, p2, hl, hD, HD, hb⟩ := hrel
    have hsz := hb.size
    have pp := sq_bd1 p2
    by_cases ht : (p : Int) * p ≤ x
    · have hp3 : p ≤ 1000 := sq_le1 (by omega)
      go_wp2
      go_loopw [0, 3] (fun s v wr => ∃ (y : Nat) (D : List Nat), s = .int .i64 y ∧ Hid (ND y p) ∧ 1 ≤ y ∧ y ≤ x ∧ Lst wr w.heap.size v (ints D) ∧ D.length + y ≤ 1000001 ∧ Hid (D ++ fcs p y = fcs 2 N) ∧ Below w.heap.size w wr) (fun s _ _ => (intOf s).toNat)
      case atStart => exact ⟨x, D, rfl, HN0, x1, Nat.le_refl _, hl, hD, HD, hb⟩
      case round =>
        clear hl hD HD hb HN0
        obtain ⟨y, D, rfl, HN0, y1, y2, hl, hD, HD, hb⟩ := hrel
        have hsz := hb.size
        have hlen : (ints D).length + y ≤ 1000001 := by rw [ints_length]; exact hD
        by_cases hm : y % p = 0
        · have hq1 : y / p < y := Nat.div_lt_self (by omega) (by omega)
          have hq2 : 0 < y / p := Nat.div_pos (Nat.le_of_dvd (by omega) (Nat.dvd_of_mod_eq_zero hm)) (by omega)
          have hn : D ++ [p] ++ fcs p (y / p) = fcs 2 N := by rw [← HD.out, fcs_hit' p1 y1 hm HN0.out, List.append_assoc]; rfl
          have HN1 := Lib.hid (HN0.out.quot hm)
          have HN := Lib.hid hn
          have hmi : (y : Int) % (p : Int) = 0 := by omega
          have hdi : ((y / p : Nat) : Int) = (y : Int) / (p : Int) := Int.natCast_ediv _ _
          have HDI := Lib.hid hdi
          have HM := Lib.hid hm
          clear hn HD hdi hm
          go_wp2_with (at_builtin; refine wpList_append_own _ rfl _ _ 41 rfl w.heap.size 3 i0 (.int .i64 0) 1 8 Try.underlying41 hi hz0 hz1 hz2 rfl (by decide) _ _ _ rfl (hl.own.alloc _) ⟨wr.heap.size, 0, none⟩ 1 1 [.int .i64 (p : Int)] rfl rfl ?c1 ?c2 ?c3 ?c4 ?c5 ?_)
          case c1 =>
            intro j u hj
            match j, hj with
            | 0, hj => simp at hj; subst hj; simp [Addr.add]
          case c2 => intro u hu; simp at hu; subst hu; rfl
          case c3 => unfold maxLen; omega
          case c4 => omega
          case c5 => simp; omega
          · intro v' w1 hown' hgrow _
            have hl1 := Lst.snoc hown'
            rw [← ints_snoc] at hl1
            have hb1 := snoc_below hb hl hgrow
            have hd1 : (D ++ [p]).length + y / p ≤ 1000001 := by simp; omega
            clear hown' hgrow hl hb hlen hD
            go_wp2
            go_roundw
            case rel => exact ⟨y / p, D ++ [p], by rw [HDI.out], HN1, hq2, by omega, hl1, hd1, HN, hb1⟩
            case measure => simp only [intOf]; rw [← HDI.out]; omega
        · have hn : D ++ fcs (p + 1) y = fcs 2 N := by rw [← HD.out, fcs_miss' p1 hm]
          have HN1 := Lib.hid (HN0.out.succ hm)
          have HN := Lib.hid hn
          have hmi : ((y : Int) % (p : Int) == 0) = false := by rw [beq_eq_false_iff_ne]; omega
          clear hn HD hm
          go_wp2
          go_roundw
          case rel => exact ⟨y, p + 1, D, rfl, by go_num, HN1, y1, by omega, by omega, by omega, hl, hD, HN, hb⟩
          case measure => simp only [intOf]; omega
    · have hlt : x < p * p := by rw [← Int.natCast_mul] at ht; omega
      have hlen : (ints D).length + x ≤ 1000001 := by rw [ints_length]; exact hD
      by_cases hx : 1 < x
      · have hn : D ++ [x] = fcs 2 N := by rw [← HD.out, fcs_end hlt, if_pos hx]
        have HN := Lib.hid hn
        clear hn HD hlt
        go_wp2_with (at_builtin; refine wpList_append_own _ rfl _ _ 41 rfl w.heap.size 3 i0 (.int .i64 0) 1 8 Try.underlying41 hi hz0 hz1 hz2 rfl (by decide) _ _ _ rfl (hl.own.alloc _) ⟨wr.heap.size, 0, none⟩ 1 1 [.int .i64 (x : Int)] rfl rfl ?d1 ?d2 ?d3 ?d4 ?d5 ?_)
        try
          case d1 =>
            intro j u hj
            match j, hj with
            | 0, hj => simp at hj; subst hj; simp [Addr.add]
        case d2 => first | rfl | (intro u hu; simp at hu; subst hu; rfl)
        case d3 => unfold maxLen; omega
        case d4 => omega
        case d5 => first | omega | (simp; omega)
        · intro v' w1 hown' hgrow _
          have hl1 := Lst.snoc hown'
          rw [← ints_snoc, HN.out] at hl1
          have hb1 := snoc_below hb hl hgrow
          clear hown' hgrow hl hb hlen hD HN
          go_wp2
          go_ret
          exact ⟨_, rfl, hl1, hb1⟩
      · have hn : D = fcs 2 N := by rw [← HD.out, fcs_end hlt, if_neg hx, List.append_nil]
        rw [hn] at hl
        clear hn HD hlt hlen hD
        go_wp2
        go_ret
        exact ⟨_, rfl, hl, hb⟩
end Go.Proofs.Ytfpedehpmgcmnaa
