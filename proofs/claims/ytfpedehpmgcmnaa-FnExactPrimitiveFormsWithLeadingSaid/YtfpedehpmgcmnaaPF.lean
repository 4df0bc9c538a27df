/-
  'PrimitiveFormsWithLeading': its contracts and its law's walk.
-/
import Derived.Test.YtfpedehpmgcmnaaFWL
import Derived.Test.YtfpedehpmgcmnaaCnt
namespace Go.Proofs.Ytfpedehpmgcmnaa
open Go.RowKit
set_option linter.unusedSimpArgs false
set_option linter.unusedVariables false

def prim (t : T3) : Bool := cntV t.1 t.2.1 t.2.2 == 1
structure TB (t : T3) : Prop where
  x1 : -1000000000 ≤ t.1
  x2 : t.1 ≤ 1000000000
  y1 : -1000000000 ≤ t.2.1
  y2 : t.2.1 ≤ 1000000000
  z1 : -1000000000 ≤ t.2.2
  z2 : t.2.2 ≤ 1000000000
theorem fw_tb {d n : Int} (hd : good d = true) (m1 : 1 ≤ n) (m2 : n ≤ 2500) : ∀ t ∈ fwL d n, TB t := fun t ht => by
  unfold fwL at ht
  obtain ⟨x, hx, rfl⟩ := List.mem_map.1 ht
  have hxb := fwR_bd m2 x hx
  have hdd := good_iff.1 hd
  have hq := mul_le (A := 5000) (B := 5000) (x := x) (y := x) (by omega) (by omega) (by omega) (by omega) (by omega) (by omega)
  have hq0 : (0 : Int) ≤ x * x := Int.mul_nonneg hxb.1 hxb.1
  have hz : ((x * x - d).tdiv (4 * n)).natAbs ≤ 1000000000 := by
    rw [Int.natAbs_tdiv]
    exact Nat.le_trans (Nat.div_le_self _ _) (by omega)
  exact ⟨by simp only [fwT]; omega, by simp only [fwT]; omega, by simp only [fwT]; omega, by simp only [fwT]; omega, by simp only [fwT]; omega, by simp only [fwT]; omega⟩
theorem mem_get3 {L : List T3} {k : Nat} {t : T3} (hk : k < L.length) (hx : L.getD k (0, 0, 0) = t) : t ∈ L := by
  rw [← hx]
  simp [List.getD_eq_getElem?_getD, hk]
theorem filt_hit {L : List T3} {k : Nat} {t : T3} (hk : k < L.length) (hx : L.getD k (0, 0, 0) = t) (hp : prim t = true) : (L.take (k + 1)).filter prim = (L.take k).filter prim ++ [t] := by
  have e : L[k] = t := by rw [← hx]; simp [List.getD_eq_getElem?_getD, hk]
  rw [List.take_succ_eq_append_getElem hk, List.filter_append, e]
  simp [hp]
theorem filt_miss {L : List T3} {k : Nat} {t : T3} (hk : k < L.length) (hx : L.getD k (0, 0, 0) = t) (hp : prim t = false) : (L.take (k + 1)).filter prim = (L.take k).filter prim := by
  have e : L[k] = t := by rw [← hx]; simp [List.getD_eq_getElem?_getD, hk]
  rw [List.take_succ_eq_append_getElem hk, List.filter_append, e]
  simp [hp]
theorem FoLst.cellG {w w1 : World} {base g cap : Nat} {L : List T3} (h : FoLst w1 base (.slice (some ⟨g, 0, none⟩) L.length cap) L) (hg : g < w1.heap.size) (hb : Below w1.heap.size w1 w) {k : Nat} {x y z : Int} (hk : k < L.length) (hx : L.getD k (0, 0, 0) = (x, y, z)) :
    w.cell? ⟨g, k * 3, none⟩ = some (.int .i64 x) ∧ w.cell? ⟨g, k * 3 + 1, none⟩ = some (.int .i64 y) ∧ w.cell? ⟨g, k * 3 + 2, none⟩ = some (.int .i64 z) := by
  have := h.cell hk
  rw [hx] at this
  rw [(bcell hb).1 _ _ hg, (bcell hb).1 _ _ hg, (bcell hb).1 _ _ hg]
  exact this
set_option maxHeartbeats 1600000 in
theorem primitiveOf_any (v : Value) (F : List T3) (w : World) {b : Nat} (hs : FoLst w b v F) (hlen : F.length ≤ 5000) (hB : ∀ t ∈ F, TB t) : Calls Try.prog 54 #[v] w (FoRetL w (F.filter prim)) := by
  obtain ⟨i0, hi, ho0, ho1, ho2⟩ := info_parts Try.infoFo
  by_cases hn : F = []
  · subst hn
    obtain ⟨A, c, rfl⟩ := hs.len0
    clear hs hB
    go_enter Try.func54, Try.ntmps54
    go_wp2
    go_loop [3, 9] (fun v i => v = .slice (some ⟨w.heap.size, 0, none⟩) 0 0 ∧ i = .int .i64 0) (fun _ _ => 0)
    case atStart => exact ⟨rfl, rfl⟩
    case round =>
      obtain ⟨rfl, rfl⟩ := hrel
      go_wp2
      go_ret
      exact ⟨_, rfl, FoLst.empty rfl (Nat.le_refl _), (by repeat' (first | (with_reducible exact Below.refl _ _) | (with_reducible assumption) | (with_reducible refine Below.alloc ?_ ?_ _) | (with_reducible refine Below.drew ?_) | (with_reducible refine below_drewN ?_ _) | (with_reducible refine Below.setCell ?_ ?_ _) | go_size))⟩
  · have hpos : 1 ≤ F.length := List.length_pos_iff.2 hn
    obtain ⟨g, c, rfl, _, hg⟩ := hs.full hpos
    have HS := Lib.hid hs
    have HB := Lib.hid hB
    clear hs hB hn
    go_enter Try.func54, Try.ntmps54
    go_wp2
    go_loopw [3, 9] (fun v i wr => ∃ (k : Nat) (D : List T3), i = .int .i64 k ∧ k ≤ F.length ∧ FoLst wr w.heap.size v D ∧ Hid (D = (F.take k).filter prim) ∧ Below w.heap.size w wr) (fun _ i _ => F.length - (intOf i).toNat)
    case atStart => exact ⟨0, [], rfl, Nat.zero_le _, FoLst.empty rfl (Nat.le_refl _), Lib.hid rfl, (by repeat' (first | (with_reducible exact Below.refl _ _) | (with_reducible assumption) | (with_reducible refine Below.alloc ?_ ?_ _) | (with_reducible refine Below.drew ?_) | (with_reducible refine below_drewN ?_ _) | (with_reducible refine Below.setCell ?_ ?_ _) | go_size))⟩
    case round =>
      obtain ⟨k, D, rfl, hk, hl, HD, hb⟩ := hrel
      have hsz := hb.size
      by_cases hlt : k < F.length
      · obtain ⟨t, ht⟩ : ∃ t, F.getD k (0, 0, 0) = t := ⟨_, rfl⟩
        obtain ⟨x, y, z⟩ := t
        obtain ⟨e1, e2, e3⟩ := HS.out.cellG hg hb hlt ht
        obtain ⟨x1, x2, y1, y2, z1, z2⟩ := HB.out _ (mem_get3 hlt ht)
        simp only at x1 x2 y1 y2 z1 z2
        have k0 : (0 : Int) ≤ (k : Int) := by omega
        have k1 : (k : Int) < (F.length : Int) := by omega
        have hdl : D.length ≤ 5000 := by
          rw [HD.out]
          exact Nat.le_trans (List.length_filter_le _ _) (by rw [List.length_take]; omega)
        have hn : (wr.alloc (.cells #[.int .i64 x, .int .i64 y, .int .i64 z] 73)).heap.size = wr.heap.size + 1 := by simp
        rcases hp : prim (x, y, z) with _ | _
        · have HN := Lib.hid (show D = (F.take (k + 1)).filter prim by rw [filt_miss hlt ht hp, HD.out])
          have hq : (cntV x y z == 1) = false := hp
          clear ht hp
          go_wp2_with fail
          ((with_reducible refine (content_any x y z _ x1 x2 y1 y2 z1 z2).mono ?_); rintro e w2 ⟨rfl, hb2⟩)
          obtain ⟨hc2, hf2⟩ := bcell hb2
          have bl2 : Below wr.heap.size wr w2 := Below.trans (by go_grown) (hb2.mono (by go_size))
          have hl2 := hl.below (Nat.le_refl _) bl2
          have hb3 := hb.trans (bl2.mono hsz)
          clear hb2 hl hb
          go_wp2
          go_roundw
          case rel => exact ⟨k + 1, D, by go_num, by omega, hl2, HN, hb3⟩
          case measure => simp only [intOf]; omega
        · have HN := Lib.hid (show D ++ [(x, y, z)] = (F.take (k + 1)).filter prim by rw [filt_hit hlt ht hp, HD.out])
          have hq : (cntV x y z == 1) = true := hp
          clear ht hp
          go_wp2_with fail
          ((with_reducible refine (content_any x y z _ x1 x2 y1 y2 z1 z2).mono ?_); rintro e w2 ⟨rfl, hb2⟩)
          obtain ⟨hc2, hf2⟩ := bcell hb2
          have bl2 : Below wr.heap.size wr w2 := Below.trans (by go_grown) (hb2.mono (by go_size))
          have hl2 := hl.below (Nat.le_refl _) bl2
          have hb3 := hb.trans (bl2.mono hsz)
          have hz3 := hb3.size
          have g0 : w2.cell? ⟨wr.heap.size, 0, none⟩ = some (.int .i64 x) := by rw [hc2 _ _ (by go_size)]; simp
          have g1 : w2.cell? ⟨wr.heap.size, 1, none⟩ = some (.int .i64 y) := by rw [hc2 _ _ (by go_size)]; simp
          have g2 : w2.cell? ⟨wr.heap.size, 2, none⟩ = some (.int .i64 z) := by rw [hc2 _ _ (by go_size)]; simp
          clear hb2 hl hb hc2 hf2
          go_wp2_with (at_builtin; refine wpList_append_own _ rfl _ _ 33 rfl w.heap.size 73 i0 (.agg #[.int .i64 0, .int .i64 0, .int .i64 0]) 3 24 Try.underlying33 hi ho0 ho1 ho2 rfl (by decide) _ _ _ rfl (hl2.own.alloc _) ⟨w2.heap.size, 0, none⟩ 1 1 [.int .i64 x, .int .i64 y, .int .i64 z] rfl rfl (three_news rfl) (three_cells _ _ _) (by unfold maxLen; omega) (by omega) (by simp; omega) ?_)
          intro v' w3 hown' hgrow _
          have hl3 := FoLst.snoc hown'
          have hb4 := Fosnoc_below hb3 hl2 hgrow
          clear hown' hgrow hl2 hb3 g0 g1 g2
          go_wp2
          go_roundw
          case rel => exact ⟨k + 1, D ++ [(x, y, z)], by go_num, by omega, hl3, HN, hb4⟩
          case measure => simp only [intOf]; omega
      · obtain rfl : k = F.length := by omega
        have HE := Lib.hid (show D = F.filter prim by rw [HD.out, List.take_length])
        clear hlt
        go_wp2
        go_ret
        exact ⟨_, rfl, by rw [← HE.out]; exact hl, hb⟩
set_option maxHeartbeats 1600000 in
theorem specPF_any (d n : Int) (w : World) : Calls Try.prog 17 #[.int .i64 d, .int .i64 n] w (FoRetS w (t3For (vFW d n) ((fwL d n).filter prim)) (vFW d n)) := by
  rcases h0 : good d with _ | _
  · rw [vFW_bad (.inl h0), t3For_false]
    go_enter Try.func17, Try.ntmps17
    go_wp2_with fail
    ((with_reducible refine (nuGood_any d _).mono ?_); rintro e w0 ⟨rfl, rfl⟩)
    go_wp2
    go_ret2
    exact ⟨_, rfl, FoLst.nil _ _, (by repeat' (first | (with_reducible exact Below.refl _ _) | (with_reducible assumption) | (with_reducible refine Below.alloc ?_ ?_ _) | (with_reducible refine Below.drew ?_) | (with_reducible refine below_drewN ?_ _) | (with_reducible refine Below.setCell ?_ ?_ _) | go_size))⟩
  · rcases h1 : inB 1 2500 n with _ | _
    · rw [vFW_bad (by have := inB_bad.1 h1; omega), t3For_false]
      go_enter Try.func17, Try.ntmps17
      go_wp2_with fail
      ((with_reducible refine (nuGood_any d _).mono ?_); rintro e w0 ⟨rfl, rfl⟩)
      go_wp2_with fail
      ((with_reducible refine (l1In_any _ _ _ _).mono ?_); rintro e w0 ⟨rfl, rfl⟩)
      go_wp2
      go_ret2
      exact ⟨_, rfl, FoLst.nil _ _, (by repeat' (first | (with_reducible exact Below.refl _ _) | (with_reducible assumption) | (with_reducible refine Below.alloc ?_ ?_ _) | (with_reducible refine Below.drew ?_) | (with_reducible refine below_drewN ?_ _) | (with_reducible refine Below.setCell ?_ ?_ _) | go_size))⟩
    · have hn := inB_iff.1 h1
      rw [vFW_ok h0 hn.1 hn.2, t3For_true]
      obtain ⟨i0, hi, ho0, ho1, ho2⟩ := info_parts Try.infoFo
      have hlen := fwL_len (d := d) hn.2
      have HB := Lib.hid (fw_tb (n := n) h0 hn.1 hn.2)
      obtain ⟨F, hF⟩ : ∃ F, fwL d n = F := ⟨_, rfl⟩
      rw [hF] at hlen HB ⊢
      have HF := Lib.hid hF
      clear hF
      go_enter Try.func17, Try.ntmps17
      go_wp2_with fail
      ((with_reducible refine (nuGood_any d _).mono ?_); rintro e w0 ⟨rfl, rfl⟩)
      go_wp2_with fail
      ((with_reducible refine (l1In_any _ _ _ _).mono ?_); rintro e w0 ⟨rfl, rfl⟩)
      go_wp2_with fail
      refine (roForms_yes d n _ h0 hn.1 hn.2).mono ?_
      rintro e w1 ⟨v1, rfl, l1, b1⟩
      rw [HF.out] at l1
      have bw := b1
      clear b1
      by_cases hne : F = []
      · subst hne
        obtain ⟨A, c, rfl⟩ := l1.len0
        clear l1 HB HF
        go_wp2
        go_loop [6, 21] (fun v i => v = .slice none 0 0 ∧ i = .int .i64 0) (fun _ _ => 0)
        case atStart => exact ⟨rfl, rfl⟩
        case round =>
          obtain ⟨rfl, rfl⟩ := hrel
          go_wp2
          go_ret2
          exact ⟨_, rfl, FoLst.nil _ _, bw⟩
      · have hpos : 1 ≤ F.length := List.length_pos_iff.2 hne
        obtain ⟨g, c, rfl, _, hg⟩ := l1.full hpos
        have HS := Lib.hid l1
        clear l1 hne HF
        go_wp2
        go_loopw [6, 21] (fun v i wr => ∃ (k : Nat) (D : List T3), i = .int .i64 k ∧ k ≤ F.length ∧ FoLst wr w1.heap.size v D ∧ Hid (D = (F.take k).filter prim) ∧ Below w1.heap.size w1 wr) (fun _ i _ => F.length - (intOf i).toNat)
        case atStart => exact ⟨0, [], rfl, Nat.zero_le _, FoLst.nil _ _, Lib.hid rfl, Below.refl _ _⟩
        case round =>
          obtain ⟨k, D, rfl, hk, hl, HD, hb⟩ := hrel
          have hsz := hb.size
          by_cases hlt : k < F.length
          · obtain ⟨t, ht⟩ : ∃ t, F.getD k (0, 0, 0) = t := ⟨_, rfl⟩
            obtain ⟨x, y, z⟩ := t
            obtain ⟨e1, e2, e3⟩ := HS.out.cellG hg hb hlt ht
            obtain ⟨x1, x2, y1, y2, z1, z2⟩ := HB.out _ (mem_get3 hlt ht)
            simp only at x1 x2 y1 y2 z1 z2
            have k0 : (0 : Int) ≤ (k : Int) := by omega
            have k1 : (k : Int) < (F.length : Int) := by omega
            have hdl : D.length ≤ 5000 := by
              rw [HD.out]
              exact Nat.le_trans (List.length_filter_le _ _) (by rw [List.length_take]; omega)
            have hn : (wr.alloc (.cells #[.int .i64 x, .int .i64 y, .int .i64 z] 73)).heap.size = wr.heap.size + 1 := by simp
            rcases hp : prim (x, y, z) with _ | _
            · have HN := Lib.hid (show D = (F.take (k + 1)).filter prim by rw [filt_miss hlt ht hp, HD.out])
              have hq : (cntV x y z == 1) = false := hp
              clear ht hp
              go_wp2_with fail
              ((with_reducible refine (foContent_any x y z _ x1 x2 y1 y2 z1 z2).mono ?_); rintro e w2 ⟨rfl, hb2⟩)
              obtain ⟨hc2, hf2⟩ := bcell hb2
              have bl2 : Below wr.heap.size wr w2 := Below.trans (by go_grown) (hb2.mono (by go_size))
              have hl2 := hl.below (Nat.le_refl _) bl2
              have hb3 := hb.trans (bl2.mono hsz)
              clear hb2 hl hb
              go_wp2
              go_roundw
              case rel => exact ⟨k + 1, D, by go_num, by omega, hl2, HN, hb3⟩
              case measure => simp only [intOf]; omega
            · have HN := Lib.hid (show D ++ [(x, y, z)] = (F.take (k + 1)).filter prim by rw [filt_hit hlt ht hp, HD.out])
              have hq : (cntV x y z == 1) = true := hp
              clear ht hp
              go_wp2_with fail
              ((with_reducible refine (foContent_any x y z _ x1 x2 y1 y2 z1 z2).mono ?_); rintro e w2 ⟨rfl, hb2⟩)
              obtain ⟨hc2, hf2⟩ := bcell hb2
              have bl2 : Below wr.heap.size wr w2 := Below.trans (by go_grown) (hb2.mono (by go_size))
              have hl2 := hl.below (Nat.le_refl _) bl2
              have hb3 := hb.trans (bl2.mono hsz)
              have hz3 := hb3.size
              have g0 : w2.cell? ⟨wr.heap.size, 0, none⟩ = some (.int .i64 x) := by rw [hc2 _ _ (by go_size)]; simp
              have g1 : w2.cell? ⟨wr.heap.size, 1, none⟩ = some (.int .i64 y) := by rw [hc2 _ _ (by go_size)]; simp
              have g2 : w2.cell? ⟨wr.heap.size, 2, none⟩ = some (.int .i64 z) := by rw [hc2 _ _ (by go_size)]; simp
              clear hb2 hl hb hc2 hf2
              go_wp2_with (at_builtin; refine wpList_append_own _ rfl _ _ 33 rfl w1.heap.size 73 i0 (.agg #[.int .i64 0, .int .i64 0, .int .i64 0]) 3 24 Try.underlying33 hi ho0 ho1 ho2 rfl (by decide) _ _ _ rfl (hl2.own.alloc _) ⟨w2.heap.size, 0, none⟩ 1 1 [.int .i64 x, .int .i64 y, .int .i64 z] rfl rfl (three_news rfl) (three_cells _ _ _) (by unfold maxLen; omega) (by omega) (by simp; omega) ?_)
              intro v' w3 hown' hgrow _
              have hl3 := FoLst.snoc hown'
              have hb4 := Fosnoc_below hb3 hl2 hgrow
              clear hown' hgrow hl2 hb3 g0 g1 g2
              go_wp2
              go_roundw
              case rel => exact ⟨k + 1, D ++ [(x, y, z)], by go_num, by omega, hl3, HN, hb4⟩
              case measure => simp only [intOf]; omega
          · obtain rfl : k = F.length := by omega
            have HE := Lib.hid (show D = F.filter prim by rw [HD.out, List.take_length])
            clear hlt
            go_wp2
            go_ret2
            exact ⟨_, rfl, by rw [← HE.out]; exact hl.base bw.size, bw.trans (hb.mono bw.size)⟩
theorem filt_t3 (v : Bool) (F : List T3) : (t3For v F).filter prim = t3For v (F.filter prim) := by cases v <;> rfl
theorem implPF_any (d n : Int) (w : World) : Calls Try.prog 18 #[.int .i64 d, .int .i64 n] w (FoRetS w (t3For (vFW d n) ((fwL d n).filter prim)) (vFW d n)) := by
  have hlen : (t3For (vFW d n) (fwL d n)).length ≤ 5000 := by
    rcases hv : vFW d n with _ | _
    · simp [t3For]
    · rw [t3For_true]; exact fwL_len (vFW_in hv).2.2
  have HB := Lib.hid (show ∀ t ∈ t3For (vFW d n) (fwL d n), TB t from fun t ht => by
    rcases hv : vFW d n with _ | _
    · rw [hv, t3For_false] at ht; cases ht
    · rw [hv, t3For_true] at ht
      have := vFW_in hv
      exact fw_tb this.1 this.2.1 this.2.2 t ht)
  have HFI := Lib.hid (filt_t3 (vFW d n) (fwL d n))
  go_enter Try.func18, Try.ntmps18
  go_wp2_with fail
  refine (implFW_any d n _).mono ?_
  rintro e w1 ⟨v1, rfl, l1, b1⟩
  go_wp2_with fail
  refine (primitiveOf_any _ _ _ l1 hlen HB.out).mono ?_
  rintro e w2 ⟨v2, rfl, l2, b2⟩
  rw [HFI.out] at l2
  go_wp2
  go_ret2
  exact ⟨_, rfl, l2.base b1.size, b1.trans (b2.mono b1.size)⟩
theorem pf_len (d n : Int) : (t3For (vFW d n) ((fwL d n).filter prim)).length ≤ 1000000000 := by
  rcases hv : vFW d n with _ | _
  · simp [t3For]
  · have := fwL_len (d := d) (vFW_in hv).2.2
    have h2 := List.length_filter_le prim (fwL d n)
    rw [t3For_true]
    omega
set_option maxHeartbeats 800000 in
theorem law_FnExactPrimitiveFormsWithLeading (d n : Int) (w : World) (ib_d : In64 d) (ib_n : In64 n) : Calls Try.prog 5 #[.int .i64 d, .int .i64 n] w fun e w' => e = .returned (.bool true) ∧ Below w.heap.size w w' := by
  have hlen := pf_len d n
  have HL := Lib.hid hlen
  clear hlen
  go_enter Try.func5, Try.ntmps5
  go_wp2_with fail
  refine (specPF_any d n w).mono ?_
  rintro e w1 ⟨v1, rfl, l1, b1⟩
  go_wp2_with fail
  refine (implPF_any d n w1).mono ?_
  rintro e w2 ⟨v2, rfl, l2, b2⟩
  have l1' := l1.below (Nat.le_refl _) b2
  go_wp2_with fail
  refine (eqFormS_same _ _ _ _ HL.out l2 l1').mono ?_
  rintro e w3 ⟨rfl, b3⟩
  go_wp2_with fail
  refine (markFormS_any _ _ _ HL.out (l2.below (Nat.le_refl _) b3)).mono ?_
  rintro e w4 ⟨rfl, l4, g4⟩
  obtain ⟨l1'', bl4⟩ := Foafter_mark b1 l1 b2 l2 b3 g4
  clear l1' g4 l1 l2 b1 b2 b3
  go_wp2_with fail
  refine (heldFormS_any _ _ _ HL.out l4).mono ?_
  rintro e w0 ⟨rfl, rfl⟩
  go_wp2_with fail
  refine (implPF_any d n w4).mono ?_
  rintro e w6 ⟨v6, rfl, l6, b6⟩
  have l1' := l1''.below (Nat.le_refl _) b6
  have l4' := l4.below (Nat.le_refl _) b6
  have bl6 := bl4.trans (b6.mono bl4.size)
  clear l1'' l4 b6 bl4
  go_wp2_with fail
  refine (eqFormS_same _ _ _ _ HL.out l6 l1').mono ?_
  rintro e w7 ⟨rfl, b7⟩
  have l4'' := l4'.below (Nat.le_refl _) b7
  have bl7 := bl6.trans (b7.mono bl6.size)
  clear b7 l4' l1' l6 bl6
  go_wp2_with fail
  refine (heldFormS_any _ _ _ HL.out l4'').mono ?_
  rintro e w0 ⟨rfl, rfl⟩
  go_wp2
  go_ret
  exact ⟨rfl, bl7⟩
end Go.Proofs.Ytfpedehpmgcmnaa
