/-
  Contracts: the forms with a leading coefficient.
-/
import Derived.Test.YtfpedehpmgcmnaaTriF
import Derived.Test.YtfpedehpmgcmnaaRo
import Derived.Test.YtfpedehpmgcmnaaFrame
namespace Go.Proofs.Ytfpedehpmgcmnaa
open Go.RowKit
set_option linter.unusedSimpArgs false
set_option linter.unusedVariables false

theorem three_news {W : World} {g : Nat} {T : TypeId} {x y z : Value} (hg : g = W.heap.size) : ∀ j u, [x, y, z][j]? = some u → (W.alloc (.cells #[x, y, z] T)).cell? ((⟨g, 0, none⟩ : Addr).add j) = some u := by
  subst hg
  intro j u hj
  match j, hj with
  | 0, hj => simp at hj; subst hj; simp [Addr.add]
  | 1, hj => simp at hj; subst hj; simp [Addr.add]
  | 2, hj => simp at hj; subst hj; simp [Addr.add]
  | j + 3, hj => simp at hj
theorem three_cells (a b c : Int) : ∀ u ∈ [Value.int .i64 a, .int .i64 b, .int .i64 c], u.oneCell' = true := by
  intro u hu
  simp at hu
  rcases hu with rfl | rfl | rfl <;> rfl
theorem Lst.keepFo {wr w1 : World} {o : Obj} {b1 b : Nat} {v1 v : Value} {F : List Int} {L : List T3} (hr : Lst wr b1 v1 F) (hl : FoLst wr b v L) (hg : (wr.alloc o).grownBy w1 v.ownBlock) : Lst w1 b1 v1 F := by
  refine World.ownsRow.kept (hr.own.alloc o) hg ?_
  rcases hr.2 with ⟨rfl, _⟩ | ⟨g, cap, cur, rfl, _, hh, _⟩
  · exact .inl rfl
  · refine .inr fun he => ?_
    rcases hl.2 with ⟨rfl, _⟩ | ⟨g', cap', cur', rfl, _, hh', _⟩
    · simp [Value.ownBlock] at he
    · have h2 : g = g' := by simpa [Value.ownBlock] using he
      subst h2
      rw [hh] at hh'
      simp at hh'
def fwT (d n x : Int) : T3 := (n, x, (x * x - d).tdiv (4 * n))
def fwR (d n : Int) : List Int := qrs (dF d n) (2 * n).toNat
def fwL (d n : Int) : List T3 := (fwR d n).map (fwT d n)
theorem fwR_len {d n : Int} (m2 : n ≤ 2500) : (fwR d n).length ≤ 5000 := by
  have := qrs_le (dF d n) (2 * n).toNat
  unfold fwR
  omega
theorem fwR_bd {d n : Int} (m2 : n ≤ 2500) : ∀ x ∈ fwR d n, 0 ≤ x ∧ x ≤ 5000 := fun x hx => by
  unfold fwR qrs at hx
  obtain ⟨y, hy, rfl⟩ := List.mem_map.1 hx
  have := List.mem_range.1 (List.mem_filter.1 hy).1
  omega
theorem fwL_len {d n : Int} (m2 : n ≤ 2500) : (fwL d n).length ≤ 5000 := by
  unfold fwL
  rw [List.length_map]
  exact fwR_len m2
theorem getD_memI {L : List Int} {k : Nat} {x : Int} (hk : k < L.length) (hx : L.getD k 0 = x) : x ∈ L := by
  rw [← hx]
  simp [List.getD_eq_getElem?_getD, hk]
theorem take_snocG {L : List Int} {k : Nat} {x : Int} (hk : k < L.length) (hx : L.getD k 0 = x) : L.take (k + 1) = L.take k ++ [x] := by
  rw [List.take_succ_eq_append_getElem hk, ← hx]
  simp [List.getD_eq_getElem?_getD, hk]
theorem Lst.cells {w : World} {base g cap : Nat} {L : List Int} (h : Lst w base (.slice (some ⟨g, 0, none⟩) L.length cap) L) {k : Nat} (hk : k < L.length) : w.cell? ⟨g, k, none⟩ = some (.int .i64 (L.getD k 0)) := by
  rw [World.ownsRow.cellAt h.own k (by omega)]
  simp [hk]
theorem Lst.form {w : World} {base : Nat} {v : Value} {L : List Int} (h : Lst w base v L) (hn : L ≠ []) : ∃ g cap, v = .slice (some ⟨g, 0, none⟩) L.length cap := by
  rcases h.shape with ⟨h, _⟩ | ⟨g, c, rfl, _⟩
  · exact absurd h hn
  · exact ⟨g, c, rfl⟩
theorem Lst.formE {w : World} {base : Nat} {v : Value} (h : Lst w base v []) : ∃ A c, v = .slice A 0 c := by
  rcases h.shape with ⟨_, rfl⟩ | ⟨g, c, rfl, _⟩ <;> exact ⟨_, _, rfl⟩
set_option maxHeartbeats 800000 in
theorem roForms_yes (d n : Int) (w : World) (hd : good d = true) (m1 : 1 ≤ n) (m2 : n ≤ 2500) : Calls Try.prog 51 #[.int .i64 d, .int .i64 n] w (FoRetL w (fwL d n)) := by
  obtain ⟨i0, hi, ho0, ho1, ho2⟩ := info_parts Try.infoFo
  have hdd := good_iff.1 hd
  have hlen := fwR_len (d := d) m2
  have HB := Lib.hid (fwR_bd (d := d) m2)
  have HFL := Lib.hid (show fwL d n = (fwR d n).map (fwT d n) from rfl)
  have HFR := Lib.hid (show qrs (dF d n) (2 * n).toNat = fwR d n from rfl)
  obtain ⟨F, hF⟩ : ∃ F, fwR d n = F := ⟨_, rfl⟩
  rw [hF] at hlen HB HFL HFR
  clear hF
  go_enter Try.func51, Try.ntmps51
  go_wp2_with fail
  refine (roDisc_yes d n _ hd m1 m2).mono ?_
  rintro e w1 ⟨v1, rfl, l1, b1⟩
  rw [HFR.out] at l1
  have bw : Below w.heap.size w w1 := Below.trans (by repeat' (first | (with_reducible exact Below.refl _ _) | (with_reducible assumption) | (with_reducible refine Below.alloc ?_ ?_ _) | (with_reducible refine Below.drew ?_) | (with_reducible refine below_drewN ?_ _) | (with_reducible refine Below.setCell ?_ ?_ _) | go_size)) (b1.mono (by first | exact Nat.le_refl _ | (simp; done) | (simp; omega)))
  have hs0 : FoLst w1 w.heap.size (.slice none 0 0) [] := FoLst.nil _ _
  clear b1
  by_cases hn : F = []
  · subst hn
    obtain ⟨A, c, rfl⟩ := l1.formE
    have HE := Lib.hid (show fwL d n = [] by rw [HFL.out]; rfl)
    clear l1 HB HFR HFL
    go_wp2
    go_loop [5, 12] (fun v i => v = (.slice none 0 0) ∧ i = .int .i64 0) (fun _ _ => 0)
    case atStart => exact ⟨rfl, rfl⟩
    case round =>
      obtain ⟨rfl, rfl⟩ := hrel
      go_wp2
      go_ret
      exact ⟨_, rfl, by rw [HE.out]; exact hs0, bw⟩
  · obtain ⟨g, c, rfl⟩ := l1.form hn
    have l1w := l1.base (b' := w.heap.size) (by first | exact Nat.le_refl _ | (simp; done) | (simp; omega))
    clear l1 hn HFR
    go_wp2
    go_loopw [5, 12] (fun v i wr => ∃ (k : Nat) (D : List T3), i = .int .i64 k ∧ k ≤ F.length ∧ FoLst wr w.heap.size v D ∧ Hid (D = (F.take k).map (fwT d n)) ∧ Lst wr w.heap.size (.slice (some ⟨g, 0, none⟩) F.length c) F ∧ Below w.heap.size w wr) (fun _ i _ => F.length - (intOf i).toNat)
    case atStart => exact ⟨0, [], rfl, Nat.zero_le _, hs0, Lib.hid rfl, l1w, bw⟩
    case round =>
      clear hs0 l1w bw
      obtain ⟨k, D, rfl, hk, hl, HD, hr, hb⟩ := hrel
      have hsz := hb.size
      by_cases hlt : k < F.length
      · obtain ⟨x, hx⟩ : ∃ x, F.getD k 0 = x := ⟨_, rfl⟩
        have hc := hr.cells hlt
        rw [hx] at hc
        have hxb := HB.out x (getD_memI hlt hx)
        have HN := Lib.hid (show D ++ [(n, x, (x * x - d).tdiv (4 * n))] = (F.take (k + 1)).map (fwT d n) by rw [take_snocG hlt hx, List.map_append, HD.out]; rfl)
        have hl9 : D.length ≤ 5000 := by rw [HD.out, List.length_map, List.length_take]; omega
        have hq := mul_le (A := 5000) (B := 5000) (x := x) (y := x) (by omega) (by omega) (by omega) (by omega) (by omega) (by omega)
        have h4 : 4 * n ≠ 0 := by omega
        have hc0 : (0 : Int) ≤ x * x := Int.mul_nonneg hxb.1 hxb.1
        clear hx
        go_wp2_with (at_builtin; refine wpList_append_own _ rfl _ _ 33 rfl w.heap.size 73 i0 (.agg #[.int .i64 0, .int .i64 0, .int .i64 0]) 3 24 Try.underlying33 hi ho0 ho1 ho2 rfl (by decide) _ _ _ rfl (hl.own.alloc _) ⟨wr.heap.size, 0, none⟩ 1 1 [.int .i64 n, .int .i64 x, .int .i64 ((x * x - d).tdiv (4 * n))] rfl rfl (three_news rfl) (three_cells _ _ _) (by unfold maxLen; omega) (by omega) (by simp; omega) ?_)
        intro v' w2 hown' hgrow _
        have hl1 := FoLst.snoc hown'
        have hb1 := Fosnoc_below hb hl hgrow
        have hr1 := hr.keepFo hl hgrow
        clear hown' hgrow hl hb hr hc hsz
        go_wp2
        go_roundw
        case rel => exact ⟨k + 1, D ++ [(n, x, (x * x - d).tdiv (4 * n))], by go_num, by omega, hl1, HN, hr1, hb1⟩
        case measure => simp only [intOf]; omega
      · obtain rfl : k = F.length := by omega
        have HE := Lib.hid (show D = fwL d n by rw [HD.out, List.take_length, ← HFL.out])
        clear hlt hr
        go_wp2
        go_ret
        exact ⟨_, rfl, by rw [← HE.out]; exact hl, hb⟩
set_option maxHeartbeats 800000 in
theorem formsWith_yes (d n : Int) (w : World) (hd : good d = true) (m1 : 1 ≤ n) (m2 : n ≤ 2500) : Calls Try.prog 80 #[.int .i64 d, .int .i64 n] w (FoRetL w (fwL d n)) := by
  obtain ⟨i0, hi, ho0, ho1, ho2⟩ := info_parts Try.infoFo
  have hdd := good_iff.1 hd
  have hlen := fwR_len (d := d) m2
  have HB := Lib.hid (fwR_bd (d := d) m2)
  have HFL := Lib.hid (show fwL d n = (fwR d n).map (fwT d n) from rfl)
  have HFR := Lib.hid (show qrs (dF d n) (2 * n).toNat = fwR d n from rfl)
  obtain ⟨F, hF⟩ : ∃ F, fwR d n = F := ⟨_, rfl⟩
  rw [hF] at hlen HB HFL HFR
  clear hF
  go_enter Try.func80, Try.ntmps80
  go_wp2_with fail
  refine (rootsOf_yes d n _ hd m1 m2).mono ?_
  rintro e w1 ⟨v1, rfl, l1, b1⟩
  rw [HFR.out] at l1
  have bw : Below w.heap.size w w1 := Below.trans (by repeat' (first | (with_reducible exact Below.refl _ _) | (with_reducible assumption) | (with_reducible refine Below.alloc ?_ ?_ _) | (with_reducible refine Below.drew ?_) | (with_reducible refine below_drewN ?_ _) | (with_reducible refine Below.setCell ?_ ?_ _) | go_size)) (b1.mono (by first | exact Nat.le_refl _ | (simp; done) | (simp; omega)))
  have hs0 : FoLst w1 w.heap.size (.slice (some ⟨w.heap.size, 0, none⟩) 0 0) [] := (FoLst.empty rfl (Nat.le_refl _)).below (Nat.le_refl _) b1
  clear b1
  by_cases hn : F = []
  · subst hn
    obtain ⟨A, c, rfl⟩ := l1.formE
    have HE := Lib.hid (show fwL d n = [] by rw [HFL.out]; rfl)
    clear l1 HB HFR HFL
    go_wp2
    go_loop [5, 13] (fun v i => v = (.slice (some ⟨w.heap.size, 0, none⟩) 0 0) ∧ i = .int .i64 0) (fun _ _ => 0)
    case atStart => exact ⟨rfl, rfl⟩
    case round =>
      obtain ⟨rfl, rfl⟩ := hrel
      go_wp2
      go_ret
      exact ⟨_, rfl, by rw [HE.out]; exact hs0, bw⟩
  · obtain ⟨g, c, rfl⟩ := l1.form hn
    have l1w := l1.base (b' := w.heap.size) (by first | exact Nat.le_refl _ | (simp; done) | (simp; omega))
    clear l1 hn HFR
    go_wp2
    go_loopw [5, 13] (fun v i wr => ∃ (k : Nat) (D : List T3), i = .int .i64 k ∧ k ≤ F.length ∧ FoLst wr w.heap.size v D ∧ Hid (D = (F.take k).map (fwT d n)) ∧ Lst wr w.heap.size (.slice (some ⟨g, 0, none⟩) F.length c) F ∧ Below w.heap.size w wr) (fun _ i _ => F.length - (intOf i).toNat)
    case atStart => exact ⟨0, [], rfl, Nat.zero_le _, hs0, Lib.hid rfl, l1w, bw⟩
    case round =>
      clear hs0 l1w bw
      obtain ⟨k, D, rfl, hk, hl, HD, hr, hb⟩ := hrel
      have hsz := hb.size
      by_cases hlt : k < F.length
      · obtain ⟨x, hx⟩ : ∃ x, F.getD k 0 = x := ⟨_, rfl⟩
        have hc := hr.cells hlt
        rw [hx] at hc
        have hxb := HB.out x (getD_memI hlt hx)
        have HN := Lib.hid (show D ++ [(n, x, (x * x - d).tdiv (4 * n))] = (F.take (k + 1)).map (fwT d n) by rw [take_snocG hlt hx, List.map_append, HD.out]; rfl)
        have hl9 : D.length ≤ 5000 := by rw [HD.out, List.length_map, List.length_take]; omega
        have hq := mul_le (A := 5000) (B := 5000) (x := x) (y := x) (by omega) (by omega) (by omega) (by omega) (by omega) (by omega)
        have h4 : 4 * n ≠ 0 := by omega
        have hc0 : (0 : Int) ≤ x * x := Int.mul_nonneg hxb.1 hxb.1
        clear hx
        go_wp2_with (at_builtin; refine wpList_append_own _ rfl _ _ 33 rfl w.heap.size 73 i0 (.agg #[.int .i64 0, .int .i64 0, .int .i64 0]) 3 24 Try.underlying33 hi ho0 ho1 ho2 rfl (by decide) _ _ _ rfl (hl.own.alloc _) ⟨wr.heap.size, 0, none⟩ 1 1 [.int .i64 n, .int .i64 x, .int .i64 ((x * x - d).tdiv (4 * n))] rfl rfl (three_news rfl) (three_cells _ _ _) (by unfold maxLen; omega) (by omega) (by simp; omega) ?_)
        intro v' w2 hown' hgrow _
        have hl1 := FoLst.snoc hown'
        have hb1 := Fosnoc_below hb hl hgrow
        have hr1 := hr.keepFo hl hgrow
        clear hown' hgrow hl hb hr hc hsz
        go_wp2
        go_roundw
        case rel => exact ⟨k + 1, D ++ [(n, x, (x * x - d).tdiv (4 * n))], by go_num, by omega, hl1, HN, hr1, hb1⟩
        case measure => simp only [intOf]; omega
      · obtain rfl : k = F.length := by omega
        have HE := Lib.hid (show D = fwL d n by rw [HD.out, List.take_length, ← HFL.out])
        clear hlt hr
        go_wp2
        go_ret
        exact ⟨_, rfl, by rw [← HE.out]; exact hl, hb⟩
end Go.Proofs.Ytfpedehpmgcmnaa
