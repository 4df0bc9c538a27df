/-
  The reference's splitting of a string: l1Split. Rows of strings.
-/
import Derived.Test.YtpoipdjhelnibaaDoorRdI
import Derived.Test.YtpoipdjhelnibaaDoorFilt
import Derived.Maps.AppendAt
namespace Go.Proofs.YtpoipdjhelnibaaDoor
open Go.RowKit
set_option linter.unusedSimpArgs false
set_option linter.unusedVariables false

theorem Tryd.infoStr : (Tryd.prog.info? 9).map (fun i => (i.zero, i.size, i.bytes)) = some (some (.string ⟨#[]⟩), 1, 16) := by kernel_rfl
abbrev bsV (p : List UInt8) : Value := .string ⟨p.toArray⟩
/-- The slice value v holds the strings D, in memory from block 'base' on (or is nil and D is empty). -/
def StL (w : World) (base : Nat) (v : Value) (D : List (List UInt8)) : Prop := w.ownsRow base 9 1 v D.length (D.map bsV)
theorem StL.nil (w : World) (base : Nat) : StL w base (.slice none 0 0) [] := World.ownsRow_nil _ _ _ _
theorem StL.snoc {w : World} {base : Nat} {v : Value} {D : List (List UInt8)} {p : List UInt8} (h : w.ownsRow base 9 1 v (D.length + 1) (D.map bsV ++ [bsV p])) : StL w base v (D ++ [p]) := by
  unfold StL
  simpa using h
theorem StL.own {w : World} {base : Nat} {v : Value} {D : List (List UInt8)} (h : StL w base v D) : w.ownsRow base 9 1 v D.length (D.map bsV) := h
theorem st_below {w wr w1 : World} {v : Value} {D : List (List UInt8)} {o : Obj} (hb : Below w.heap.size w wr) (hl : StL wr w.heap.size v D) (hg : (wr.alloc o).grownBy w1 v.ownBlock) : Below w.heap.size w w1 := by
  have hs := hb.size
  exact Below.grown (hb.alloc hs o) hg (by simp; omega) fun k hk => (World.ownsRow.lt hl k hk).1
def RetSt (w : World) (D : List (List UInt8)) (e : Ending) (w' : World) : Prop := ∃ v, e = .returned v ∧ StL w' w.heap.size v D ∧ Below w.heap.size w w'
theorem ext_bs (s : ByteArray) {a b : Nat} (h : b ≤ s.size) : s.extract a b = ⟨((s.data.toList.drop a).take (b - a)).toArray⟩ := by
  apply ByteArray.ext
  rw [ByteArray.data_extract]
  apply Array.toList_inj.1
  rw [Array.toList_extract]

set_option maxHeartbeats 1600000 in
theorem l1Split_any (s : ByteArray) (b : UInt8) (w : World) (hs : s.size ≤ 1048576) : Calls Tryd.prog 39 #[.string s, .int .u8 b.toNat] w (RetSt w (splGo b [] s.data.toList)) := by
  obtain ⟨i0, hi, hz0, hz1, hz2⟩ := info_parts Tryd.infoStr
  have HL := Lib.hid (sl_len s)
  go_enter Tryd.func39, Tryd.ntmps39
  go_wp2
  go_loopw [5, 6, 7] (fun v f i wr => ∃ (j k : Nat) (D : List (List UInt8)), f = .int .i64 j ∧ i = .int .i64 k ∧ j ≤ k ∧ k ≤ s.size ∧ D.length ≤ k ∧ StL wr w.heap.size v D ∧ Hid (D ++ splGo b ((s.data.toList.drop j).take (k - j)) (s.data.toList.drop k) = splGo b [] s.data.toList) ∧ Below w.heap.size w wr) (fun _ _ i _ => s.size - (intOf i).toNat)
  case atStart => exact ⟨0, 0, [], rfl, rfl, Nat.le_refl _, Nat.zero_le _, Nat.zero_le _, StL.nil _ _, Lib.hid rfl, Below.refl _ _⟩
  case round =>
    obtain ⟨j, k, D, rfl, rfl, hjk, hk, hD, hl, HS, hb⟩ := hrel
    have hsz := hb.size
    have j0 : (0 : Int) ≤ (j : Int) := by omega
    have j1 : (j : Int) ≤ (k : Int) := by omega
    have k0 : (0 : Int) ≤ (k : Int) := by omega
    have kk : (k : Int) ≤ (s.size : Int) := by omega
    by_cases hlt : k < s.size
    · have k1 : (k : Int) < (s.size : Int) := by omega
      obtain ⟨c, hc⟩ : ∃ c : UInt8, s[k]'hlt = c := ⟨_, rfl⟩
      have hdr : s.data.toList.drop k = c :: s.data.toList.drop (k + 1) := by
        rw [List.drop_eq_getElem_cons (by rw [HL.out]; exact hlt), sl_at s k hlt, hc]
      by_cases hcb : c = b
      · have hn : (D ++ [(s.data.toList.drop j).take (k - j)]) ++ splGo b ((s.data.toList.drop (k + 1)).take (k + 1 - (k + 1))) (s.data.toList.drop (k + 1)) = splGo b [] s.data.toList := by
          rw [← HS.out, hdr, splGo, if_pos hcb, Nat.sub_self, List.take_zero, List.append_assoc]
          rfl
        have HN := Lib.hid hn
        have hx := ext_bs s (a := j) (b := k) hk
        have hqb : ((c.toNat : Int) == (b.toNat : Int)) = true := by rw [beq_iff_eq, hcb]
        have hqi : (c.toNat : Int) = (b.toNat : Int) := by rw [hcb]
        generalize (s.data.toList.drop j).take (k - j) = p at *
        clear hn hdr HS hcb
        go_wp2_with (at_builtin; refine wpList_append_own _ rfl _ _ 53 rfl w.heap.size 9 i0 (.string ⟨#[]⟩) 1 16 Tryd.underlying53 hi hz0 hz1 hz2 rfl (by decide) _ _ _ rfl (hl.own.alloc _) ⟨wr.heap.size, 0, none⟩ 1 1 [bsV p] rfl rfl (cell_one_new _ _ _) (by intro u hu; simp at hu; subst hu; rfl) (by unfold maxLen; omega) (by omega) (by simp; omega) ?_; intro v' w1 hown' hgrow _)
        have hl1 := StL.snoc hown'
        have hb1 := st_below hb hl hgrow
        clear hown' hgrow hl hb
        go_wp2
        go_roundw
        case rel => exact ⟨k + 1, k + 1, D ++ [p], by go_num, by go_num, Nat.le_refl _, hlt, by simp; omega, hl1, HN, hb1⟩
        case measure => simp only [intOf]; omega
      · have hn : D ++ splGo b ((s.data.toList.drop j).take (k + 1 - j)) (s.data.toList.drop (k + 1)) = splGo b [] s.data.toList := by
          have e : (s.data.toList.drop j).take (k + 1 - j) = (s.data.toList.drop j).take (k - j) ++ [c] := by
            have h2 : (s.data.toList.drop j)[k - j]'(by rw [List.length_drop, HL.out]; omega) = c := by
              rw [List.getElem_drop]
              have : j + (k - j) = k := by omega
              simp only [this]
              rw [sl_at s k hlt, hc]
            rw [show k + 1 - j = (k - j) + 1 by omega, List.take_succ_eq_append_getElem (by rw [List.length_drop, HL.out]; omega), h2]
          rw [← HS.out, hdr, splGo, if_neg hcb, e]
        have HN := Lib.hid hn
        have hqi : ¬ (c.toNat : Int) = (b.toNat : Int) := fun h => hcb (UInt8.toNat_inj.1 (by omega))
        have hqb : ((c.toNat : Int) == (b.toNat : Int)) = false := by rw [beq_eq_false_iff_ne]; exact hqi
        clear hn hdr HS hcb
        go_wp2
        go_roundw
        case rel => exact ⟨j, k + 1, D, rfl, by go_num, by omega, hlt, by omega, hl, HN, hb⟩
        case measure => simp only [intOf]; omega
    · have hke : k = s.size := by omega
      have k1 : ¬ (k : Int) < (s.size : Int) := by omega
      have hx := ext_bs s (a := j) (b := s.size) (Nat.le_refl _)
      have hn : D ++ [(s.data.toList.drop j).take (s.size - j)] = splGo b [] s.data.toList := by
        rw [← HS.out, hke, List.drop_of_length_le (Nat.le_of_eq HL.out), splGo]
      have HN := Lib.hid hn
      have js : (j : Int) ≤ (s.size : Int) := by omega
      generalize (s.data.toList.drop j).take (s.size - j) = p at *
      clear hn HS hke
      go_wp2_with (at_builtin; refine wpList_append_own _ rfl _ _ 53 rfl w.heap.size 9 i0 (.string ⟨#[]⟩) 1 16 Tryd.underlying53 hi hz0 hz1 hz2 rfl (by decide) _ _ _ rfl (hl.own.alloc _) ⟨wr.heap.size, 0, none⟩ 1 1 [bsV p] rfl rfl (cell_one_new _ _ _) (by intro u hu; simp at hu; subst hu; rfl) (by unfold maxLen; omega) (by omega) (by simp; omega) ?_; intro v' w1 hown' hgrow _)
      have hl1 := StL.snoc hown'
      have hb1 := st_below hb hl hgrow
      rw [HN.out] at hl1
      clear hown' hgrow hl hb
      go_wp2
      go_ret
      exact ⟨_, rfl, hl1, hb1⟩
end Go.Proofs.YtpoipdjhelnibaaDoor
