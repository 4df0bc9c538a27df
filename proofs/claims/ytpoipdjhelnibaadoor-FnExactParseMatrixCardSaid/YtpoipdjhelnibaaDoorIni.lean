/-
  The program's gathering of the integers of a text: integersIn.
-/
import Derived.Test.YtpoipdjhelnibaaDoorAto
import Derived.Test.YtpoipdjhelnibaaDoorRdM
namespace Go.Proofs.YtpoipdjhelnibaaDoor
open Go.RowKit
set_option linter.unusedSimpArgs false
set_option linter.unusedVariables false

/-- The slice value v holds the strings W, in memory from block 'base' on. -/
def WdL (w : World) (base : Nat) (v : Value) (W : List ByteArray) : Prop := w.ownsRow base 9 1 v W.length (W.map Value.string)
theorem wdl_below {w w' : World} {base : Nat} {v : Value} {W : List ByteArray} (h : WdL w base v W) {B : Nat} (hB : w.heap.size ≤ B) (hb : Below B w w') : WdL w' base v W := by
  refine ⟨h.1, ?_⟩
  rcases h.2 with h | ⟨g, cap, cur, rfl, h1, hh, r⟩
  · exact .inl h
  · have := (Array.getElem?_eq_some_iff.1 hh).1
    exact .inr ⟨g, cap, cur, rfl, h1, by rw [hb.block g (by omega)]; exact hh, r⟩
theorem wdl_alloc {w : World} {base : Nat} {v : Value} {W : List ByteArray} (h : WdL w base v W) (o : Obj) : WdL (w.alloc o) base v W := World.ownsRow.alloc h o
/-- a row of strings and a row of integers are two rows -/
theorem wdl_ne {w : World} {base base' : Nat} {v v' : Value} {W : List ByteArray} {L : List Int} (h : WdL w base v W) (hl : Lst w base' v' L) : v.ownBlock = none ∨ v.ownBlock ≠ v'.ownBlock := by
  rcases h.2 with ⟨rfl, _⟩ | ⟨g, cap, cur, rfl, _, hh, _⟩
  · exact .inl rfl
  · refine .inr fun he => ?_
    rcases hl.2 with ⟨rfl, _⟩ | ⟨g', cap', cur', rfl, _, hh', _⟩
    · simp [Value.ownBlock] at he
    · simp only [Value.ownBlock, Option.some.injEq] at he
      subst he
      rw [hh] at hh'
      simp at hh'
theorem wdl_kept {w w' : World} {base base' : Nat} {v v' : Value} {W : List ByteArray} {L : List Int} {o : Obj} (h : WdL w base v W) (hl : Lst w base' v' L) (hg : (w.alloc o).grownBy w' v'.ownBlock) : WdL w' base v W :=
  World.ownsRow.kept (wdl_alloc h o) hg (wdl_ne h hl)
theorem wdl_at {w : World} {base A n c : Nat} {W : List ByteArray} (h : WdL w base (.slice (some ⟨A, 0, none⟩) n c) W) : ∀ k (hk : k < W.length), w.cell? ⟨A, k, none⟩ = some (.string W[k]) := fun k hk => by
  rcases h.2 with ⟨he, _⟩ | ⟨g, cap, cur, he, _⟩
  · cases he
  · simp only [Value.slice.injEq, Option.some.injEq, Addr.mk.injEq, and_true] at he
    obtain ⟨rfl, rfl, rfl⟩ := he
    have := World.ownsRow.cellAt h k (by omega)
    rw [this]
    simp [hk]

set_option maxHeartbeats 3200000 in
set_option maxRecDepth 100000 in
theorem ints_any (s : ByteArray) (w : World) (hs : s.size ≤ 1048576) (hw : Snt w) : Calls Tryd.prog 28 #[.string s] w (RetL w (inL s)) := by
  obtain ⟨i0, hi, hz0, hz1, hz2⟩ := info_parts Tryd.infoInt
  have FF := fun W => Tryd.strings_FieldsFunc_runes 37 #[] (fun args w => rfl) wordSep s W (by omega) (sep_pays W)
  obtain ⟨Ws, hWs⟩ : ∃ Ws, Lib.goFieldsP wordSep s = Ws := ⟨_, rfl⟩
  obtain ⟨R, hR⟩ : ∃ R, Ws.mapM (fun x => atO x.data.toList) = R := ⟨_, rfl⟩
  have hcnt := words_cnt wordSep s
  have hsz := words_size wordSep s
  have hin : inL s = R.getD [] := by rw [inL, hWs, hR]
  rw [hin]
  simp only [hWs] at FF hcnt hsz
  have HF := Lib.hid FF
  have HZ := Lib.hid hsz
  have HR := Lib.hid hR
  clear FF hsz hR hWs hin
  go_enter Tryd.func28, Tryd.ntmps28
  go_wp2_with fail
  refine (HF.out _).mono ?_
  rintro e w1 ⟨A, rfl, hA, hW1, b1⟩
  have hc1 := wdl_at hW1
  have HC := Lib.hid hc1
  have hWD : WdL w1 (w.alloc (.cells #[] 3)).heap.size (.slice (some ⟨A, 0, none⟩) Ws.length Ws.length) Ws := hW1
  have hz1w := b1.size
  have hbw : Below w.heap.size w w1 := Below.trans (by go_grown) (b1.mono (by go_size))
  have hl0 : Lst w1 w.heap.size (.slice (some ⟨w.heap.size, 0, none⟩) 0 0) [] := (Lst.empty w (Nat.le_refl _)).below (Nat.le_refl _) b1
  clear hW1 hc1 b1
  go_wp2
  go_loopw [3, 12] (fun v i wr => ∃ (k : Nat) (L : List Int), i = .int .i64 k ∧ k ≤ Ws.length ∧ L.length = k ∧ Lst wr w.heap.size v L ∧ Hid ((Ws.take k).mapM (fun x => atO x.data.toList) = some L) ∧ Below w.heap.size w wr ∧ WdL wr (w.alloc (.cells #[] 3)).heap.size (.slice (some ⟨A, 0, none⟩) Ws.length Ws.length) Ws) (fun _ i _ => Ws.length - (intOf i).toNat)
  case atStart => exact ⟨0, [], rfl, Nat.zero_le _, rfl, hl0, Lib.hid (by simp), hbw, hWD⟩
  case round =>
    obtain ⟨k, L, rfl, hk, hL, hl, HM, hb, hW⟩ := hrel
    have hsz := hb.size
    by_cases hlt : k < Ws.length
    · have hc := wdl_at hW k hlt
      have hpz := HZ.out Ws[k] (List.getElem_mem hlt)
      have htk : Ws.take (k + 1) = Ws.take k ++ [Ws[k]] := List.take_succ_eq_append_getElem hlt
      have hspl : Ws = Ws.take k ++ Ws[k] :: Ws.drop (k + 1) := by rw [← List.drop_eq_getElem_cons hlt, List.take_append_drop]
      have HT := Lib.hid htk
      have HS := Lib.hid hspl
      clear htk hspl
      generalize Ws[k] = p at *
      have k1 : (0 : Int) ≤ (k : Int) := by omega
      have k2 : (k : Int) < (Ws.length : Int) := by omega
      have hsn := hw.below hb (Nat.le_refl _)
      rcases ho : atO p.data.toList with _ | n
      · have hRn : R = none := by rw [← HR.out, HS.out]; exact mapA_bad HM.out ho
        subst hRn
        have F := Lib.hid (atoi_no (s := p) (by omega) ho wr hsn)
        clear ho hsn
        go_wp2_with fail
        refine F.out.mono ?_
        rintro e wA ⟨x, T, q, rfl, bA⟩
        have hbA := hb.trans (bA.mono hsz)
        have hszA := hbA.size
        clear bA F
        go_wp2
        go_ret
        exact ⟨_, rfl, Lst.empty _ hszA, hbA.alloc hszA _⟩
      · have F := Lib.hid (atoi_yes (s := p) (by omega) ho wr)
        have HM2 : Hid ((Ws.take (k + 1)).mapM (fun x => atO x.data.toList) = some (L ++ [n])) := Lib.hid (by rw [HT.out]; exact mapA_snoc HM.out ho)
        clear ho hsn
        go_wp2_with fail
        refine F.out.mono ?_
        rintro e wA ⟨rfl, bA⟩
        have hbA := hb.trans (bA.mono hsz)
        have hszA := hbA.size
        have hlA := hl.below (Nat.le_refl _) bA
        have hWA := wdl_below hW (Nat.le_refl _) bA
        clear bA F hl hW hb hc
        go_wp2_with (at_builtin; refine wpList_append_own _ rfl _ _ 46 rfl w.heap.size 3 i0 (.int .i64 0) 1 8 Tryd.underlying46 hi hz0 hz1 hz2 rfl (by decide) _ _ _ rfl (hlA.own.alloc _) ⟨wA.heap.size, 0, none⟩ 1 1 [.int .i64 n] rfl rfl (cell_one_new _ _ _) (by intro u hu; simp at hu; subst hu; rfl) (by unfold maxLen; omega) (by omega) (by simp; omega) ?_; intro v' w2 hown' hgrow _)
        have hl1 := Lst.snoc hown'
        have hb1 := snoc_below hbA hlA hgrow
        have hW1 := wdl_kept hWA hlA hgrow
        clear hown' hgrow hlA hbA hWA
        go_wp2
        go_roundw
        case rel => exact ⟨k + 1, L ++ [n], by go_num, hlt, by simp; omega, hl1, HM2, hb1, hW1⟩
        case measure => simp only [intOf]; omega
    · have hke : k = Ws.length := by omega
      have k2 : ¬ (k : Int) < (Ws.length : Int) := by omega
      have hm := HM.out
      rw [hke, List.take_length, HR.out] at hm
      subst hm
      clear hke
      go_wp2
      go_ret
      exact ⟨_, rfl, hl, hb⟩
end Go.Proofs.YtpoipdjhelnibaaDoor
