/-
  Contracts: the squares modulo m.
-/
import Derived.Test.YtfnmdcifjdfocaaSqR0
namespace Go.Proofs.Ytfnmdcifjdfocaa
open Go.RowKit
set_option linter.unusedSimpArgs false
set_option linter.unusedVariables false

set_option maxHeartbeats 800000 in
theorem specSQ_yes (M : Nat) (w : World) (m1 : 1 ≤ M) (m2 : M ≤ 10000) : Calls Try.prog 17 #[.int .i64 M] w (RetS w (qrs (sqR M M) M) true) := by
  obtain ⟨i0, hi, hz0, hz1, hz2⟩ := info_parts Try.infoInt
  obtain ⟨ib, hbi, hbz, hbs, hbb⟩ := info_parts Try.infoBool
  have hin : inB 1 10000 (M : Int) = true := inB_iff.2 ⟨by omega, by omega⟩
  have HM0 := Lib.hid (sqRow_zero M)
  have hby : ib.bytes * M ≤ 281474976710656 := by rw [hbb]; omega
  go_enter Try.func17, Try.ntmps17
  go_wp2_with (first | (go_at_call 46; refine (l1In_any _ _ _ _).mono ?_; rintro e w0 ⟨rfl, rfl⟩) | (at_make; go_loud (refine wpList_make_full _ rfl _ _ 44 rfl w.heap.size 4 ib (.bool false) 1 Try.underlying44 hbi hbz hbs .i64 .i64 M M M rfl rfl rfl rfl hby (by unfold maxLen; omega) (by simp) ?rest)))
  case rest =>
    intro w1 hown1 hgrow1
    rw [← HM0.out] at hown1
    have hb1 : Below w.heap.size w w1 := Below.grown (Below.refl _ _) hgrow1 (Nat.le_refl _) (fun k hk => by cases hk)
    have hgl : w.heap.size < w1.heap.size := (World.ownsRow.lt hown1 w.heap.size rfl).2
    clear hgrow1 HM0
    go_wp2
    go_loopw [16] (fun s wr => ∃ k : Nat, s = .int .i64 k ∧ k ≤ M ∧ wr.ownsRow w.heap.size 4 1 (.slice (some ⟨w.heap.size, 0, none⟩) M M) M (sqRow M k) ∧ Below w.heap.size w wr) (fun s _ => M - (intOf s).toNat)
    case atStart => exact ⟨0, rfl, Nat.zero_le _, hown1, hb1⟩
    case round =>
      obtain ⟨k, rfl, hk, hown, hb⟩ := hrel
      have hgl' := (World.ownsRow.lt hown w.heap.size rfl).2
      by_cases hlt : k < M
      · have hmod : k * k % M < M := Nat.mod_lt _ (by omega)
        have hcell : ∃ u, wr.cell? ⟨w.heap.size, k * k % M, none⟩ = some u := by
          rw [World.ownsRow.cellAt hown _ (by omega)]
          exact ⟨_, List.getElem?_eq_getElem (by simp [sqRow]; exact hmod)⟩
        obtain ⟨u, e1⟩ := hcell
        have e2 := World.ownsRow.frozenAt hown (k * k % M)
        have hst := World.ownsRow.stored hown (k * k % M) (.bool true)
        rw [sqRow_succ M k (by omega)] at hst
        obtain ⟨hs1, hs2⟩ := hst
        have hb' : Below w.heap.size w (wr.setCell ⟨w.heap.size, k * k % M, none⟩ (.bool true)) := hb.setCell (Nat.le_refl _) _
        have q1 := mul_le (A := 10000) (B := 10000) (x := k) (y := k) (by omega) (by omega) (by omega) (by omega) (by omega) (by omega)
        have q0 : (0 : Int) ≤ (k : Int) * k := by rw [← Int.natCast_mul]; omega
        have q2 : 0 ≤ (k : Int) * k % M := Int.emod_nonneg _ (by omega)
        have q3 : (k : Int) * k % M < M := Int.emod_lt_of_pos _ (by omega)
        clear hown hs2 hb
        go_wp2
        go_roundw
        case rel => exact ⟨k + 1, by go_num, by omega, hs1, hb'⟩
        case measure => simp only [intOf]; omega
      · obtain rfl : k = M := by omega
        clear hown1 hb1 hlt
        go_wp2
        go_loopw [6, 29] (fun v s ws => ∃ j : Nat, s = .int .i64 j ∧ j ≤ k ∧ Lst ws w.heap.size v (qrs (sqR k k) j) ∧ ws.ownsRow w.heap.size 4 1 (.slice (some ⟨w.heap.size, 0, none⟩) k k) k (sqRow k k) ∧ Below w.heap.size w ws) (fun _ s _ => k - (intOf s).toNat)
        case atStart => exact ⟨0, rfl, Nat.zero_le _, by rw [qrs_zero]; exact Lst.nil _ _, hown, hb⟩
        case round =>
          clear hown hb
          rename_i wr0
          obtain ⟨j, rfl, hj, hl, hown, hb⟩ := hrel
          have hsz := hb.size
          by_cases hlt : j < k
          · have hlen := qrs_le (sqR k k) j
            have e1 : wr.cell? ⟨w.heap.size, j, none⟩ = some (.bool (sqR k k j)) := by
              rw [World.ownsRow.cellAt hown j (by omega)]
              simp [sqRow, hlt]
            rcases hc : sqR k k j with _ | _
            · have hq := qrs_miss hc
              have HQ := Lib.hid hq
              rw [hc] at e1
              clear hq hc
              go_wp2
              go_roundw
              case rel => exact ⟨j + 1, by go_num, by omega, by rw [HQ.out]; exact hl, hown, hb⟩
              case measure => simp only [intOf]; omega
            · have hq := qrs_hit hc
              have HQ := Lib.hid hq
              rw [hc] at e1
              clear hq hc
              go_wp2_with (at_builtin; refine wpList_append_own _ rfl _ _ 25 rfl w.heap.size 3 i0 (.int .i64 0) 1 8 Try.underlying25 hi hz0 hz1 hz2 rfl (by decide) _ _ _ rfl (hl.own.alloc _) ⟨wr.heap.size, 0, none⟩ 1 1 [.int .i64 (j : Int)] rfl rfl ?c1 ?c2 ?c3 ?c4 ?c5 ?_)
              case c1 =>
                intro j u hj
                match j, hj with
                | 0, hj => simp at hj; subst hj; simp [Addr.add]
              case c2 => intro u hu; simp at hu; subst hu; rfl
              case c3 => have := qrs_le (sqR k k) j; unfold maxLen; omega
              case c4 => have := qrs_le (sqR k k) j; omega
              case c5 => have := hb.size; simp; omega
              · intro v' w2 hown' hgrow _
                have hl1 := Lst.snoc hown'
                rw [← HQ.out] at hl1
                have hb1 := snoc_below hb hl hgrow
                have hr1 := row_keep hown hl hgrow
                clear hown' hgrow hl hb HQ hown e1
                go_wp2
                go_roundw
                case rel => exact ⟨j + 1, by go_num, by omega, hl1, hr1, hb1⟩
                case measure => simp only [intOf]; omega
          · obtain rfl : j = k := by omega
            clear hlt
            go_wp2
            go_ret2
            exact ⟨_, rfl, hl, hb⟩

set_option maxHeartbeats 800000 in
theorem implSQ_yes (M : Nat) (w : World) (m1 : 1 ≤ M) (m2 : M ≤ 10000) : Calls Try.prog 18 #[.int .i64 M] w (RetS w (qrs (sqR M M) M) true) := by
  obtain ⟨i0, hi, hz0, hz1, hz2⟩ := info_parts Try.infoInt
  obtain ⟨ib, hbi, hbz, hbs, hbb⟩ := info_parts Try.infoBool
  have hin : inB 1 10000 (M : Int) = true := inB_iff.2 ⟨by omega, by omega⟩
  have HM0 := Lib.hid (sqRow_zero M)
  have hby : ib.bytes * M ≤ 281474976710656 := by rw [hbb]; omega
  go_enter Try.func18, Try.ntmps18
  go_wp2_with (at_make; go_loud (refine wpList_make_full _ rfl _ _ 44 rfl w.heap.size 4 ib (.bool false) 1 Try.underlying44 hbi hbz hbs .i64 .i64 M M M rfl rfl rfl rfl hby (by unfold maxLen; omega) (by simp) ?rest))
  case rest =>
    intro w1 hown1 hgrow1
    rw [← HM0.out] at hown1
    have hb1 : Below w.heap.size w w1 := Below.grown (Below.refl _ _) hgrow1 (Nat.le_refl _) (fun k hk => by cases hk)
    have hgl : w.heap.size < w1.heap.size := (World.ownsRow.lt hown1 w.heap.size rfl).2
    clear hgrow1 HM0
    go_wp2
    go_loopw [5] (fun s wr => ∃ k : Nat, s = .int .i64 k ∧ k ≤ M ∧ wr.ownsRow w.heap.size 4 1 (.slice (some ⟨w.heap.size, 0, none⟩) M M) M (sqRow M k) ∧ Below w.heap.size w wr) (fun s _ => M - (intOf s).toNat)
    case atStart => exact ⟨0, rfl, Nat.zero_le _, hown1, hb1⟩
    case round =>
      obtain ⟨k, rfl, hk, hown, hb⟩ := hrel
      have hgl' := (World.ownsRow.lt hown w.heap.size rfl).2
      by_cases hlt : k < M
      · have hmod : k * k % M < M := Nat.mod_lt _ (by omega)
        have hcell : ∃ u, wr.cell? ⟨w.heap.size, k * k % M, none⟩ = some u := by
          rw [World.ownsRow.cellAt hown _ (by omega)]
          exact ⟨_, List.getElem?_eq_getElem (by simp [sqRow]; exact hmod)⟩
        obtain ⟨u, e1⟩ := hcell
        have e2 := World.ownsRow.frozenAt hown (k * k % M)
        have hst := World.ownsRow.stored hown (k * k % M) (.bool true)
        rw [sqRow_succ M k (by omega)] at hst
        obtain ⟨hs1, hs2⟩ := hst
        have hb' : Below w.heap.size w (wr.setCell ⟨w.heap.size, k * k % M, none⟩ (.bool true)) := hb.setCell (Nat.le_refl _) _
        have q1 := mul_le (A := 10000) (B := 10000) (x := k) (y := k) (by omega) (by omega) (by omega) (by omega) (by omega) (by omega)
        have q0 : (0 : Int) ≤ (k : Int) * k := by rw [← Int.natCast_mul]; omega
        have q2 : 0 ≤ (k : Int) * k % M := Int.emod_nonneg _ (by omega)
        have q3 : (k : Int) * k % M < M := Int.emod_lt_of_pos _ (by omega)
        clear hown hs2 hb
        go_wp2
        go_roundw
        case rel => exact ⟨k + 1, by go_num, by omega, hs1, hb'⟩
        case measure => simp only [intOf]; omega
      · obtain rfl : k = M := by omega
        clear hown1 hb1 hlt
        go_wp2
        go_loopw [6, 33] (fun v s ws => ∃ j : Nat, s = .int .i64 j ∧ j ≤ k ∧ Lst ws w.heap.size v (qrs (sqR k k) j) ∧ ws.ownsRow w.heap.size 4 1 (.slice (some ⟨w.heap.size, 0, none⟩) k k) k (sqRow k k) ∧ Below w.heap.size w ws) (fun _ s _ => k - (intOf s).toNat)
        case atStart => exact ⟨0, rfl, Nat.zero_le _, by rw [qrs_zero]; exact Lst.empty' (by simp) (by omega), hown.alloc _, hb.alloc (by omega) _⟩
        case round =>
          clear hown hb
          rename_i wr0
          obtain ⟨j, rfl, hj, hl, hown, hb⟩ := hrel
          have hsz := hb.size
          by_cases hlt : j < k
          · have hlen := qrs_le (sqR k k) j
            have e1 : wr.cell? ⟨w.heap.size, j, none⟩ = some (.bool (sqR k k j)) := by
              rw [World.ownsRow.cellAt hown j (by omega)]
              simp [sqRow, hlt]
            rcases hc : sqR k k j with _ | _
            · have hq := qrs_miss hc
              have HQ := Lib.hid hq
              rw [hc] at e1
              clear hq hc
              go_wp2
              go_roundw
              case rel => exact ⟨j + 1, by go_num, by omega, by rw [HQ.out]; exact hl, hown, hb⟩
              case measure => simp only [intOf]; omega
            · have hq := qrs_hit hc
              have HQ := Lib.hid hq
              rw [hc] at e1
              clear hq hc
              go_wp2_with (at_builtin; refine wpList_append_own _ rfl _ _ 25 rfl w.heap.size 3 i0 (.int .i64 0) 1 8 Try.underlying25 hi hz0 hz1 hz2 rfl (by decide) _ _ _ rfl (hl.own.alloc _) ⟨wr.heap.size, 0, none⟩ 1 1 [.int .i64 (j : Int)] rfl rfl ?c1 ?c2 ?c3 ?c4 ?c5 ?_)
              case c1 =>
                intro j u hj
                match j, hj with
                | 0, hj => simp at hj; subst hj; simp [Addr.add]
              case c2 => intro u hu; simp at hu; subst hu; rfl
              case c3 => have := qrs_le (sqR k k) j; unfold maxLen; omega
              case c4 => have := qrs_le (sqR k k) j; omega
              case c5 => have := hb.size; simp; omega
              · intro v' w2 hown' hgrow _
                have hl1 := Lst.snoc hown'
                rw [← HQ.out] at hl1
                have hb1 := snoc_below hb hl hgrow
                have hr1 := row_keep hown hl hgrow
                clear hown' hgrow hl hb HQ hown e1
                go_wp2
                go_roundw
                case rel => exact ⟨j + 1, by go_num, by omega, hl1, hr1, hb1⟩
                case measure => simp only [intOf]; omega
          · obtain rfl : j = k := by omega
            clear hlt
            go_wp2
            go_ret2
            exact ⟨_, rfl, hl, hb⟩
end Go.Proofs.Ytfnmdcifjdfocaa
