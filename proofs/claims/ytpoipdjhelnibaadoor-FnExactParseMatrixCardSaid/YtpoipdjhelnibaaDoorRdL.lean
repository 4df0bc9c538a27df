/-
  The reference's reading of a list of numbers: foInts.
-/
import Derived.Test.YtpoipdjhelnibaaDoorSpl
namespace Go.Proofs.YtpoipdjhelnibaaDoor
open Go.RowKit
set_option linter.unusedSimpArgs false
set_option linter.unusedVariables false

theorem StL.some {w : World} {base : Nat} {v : Value} {D : List (List UInt8)} (h : StL w base v D) (h1 : 1 ≤ D.length) : ∃ g cap, v = .slice (some ⟨g, 0, none⟩) D.length cap ∧ base ≤ g ∧ g < w.heap.size ∧ (∀ k (hk : k < D.length), w.cell? ⟨g, k, none⟩ = some (bsV D[k])) := by
  have h0 := h
  obtain ⟨hl, h⟩ := h
  rcases h with ⟨rfl, h⟩ | ⟨g, cap, cur, rfl, hb, hh, hn, hc, hs, ht⟩
  · omega
  · refine ⟨g, cap, rfl, hb, (Array.getElem?_eq_some_iff.1 hh).1, fun k hk => ?_⟩
    rw [World.ownsRow.cellAt h0 k (by omega)]
    simp [hk]
theorem spl_len (b : UInt8) : ∀ (l cur p : List UInt8), p ∈ splGo b cur l → p.length ≤ cur.length + l.length
  | [], cur, p, h => by simp [splGo] at h; subst h; simp
  | c :: r, cur, p, h => by
    rw [splGo] at h
    split at h
    · rcases List.mem_cons.1 h with h | h
      · subst h; simp
      · have := spl_len b r [] p h
        simp at this ⊢
        omega
    · have := spl_len b r (cur ++ [c]) p h
      simp at this ⊢
      omega
theorem spl_cnt (b : UInt8) : ∀ (l cur : List UInt8), (splGo b cur l).length ≤ l.length + 1
  | [], cur => by simp [splGo]
  | c :: r, cur => by
    rw [splGo]
    split
    · have := spl_cnt b r []
      simp
      omega
    · have := spl_cnt b r (cur ++ [c])
      simp
      omega
theorem mapM_snoc {A : List (List UInt8)} {p : List UInt8} {L : List Int} {n : Int} (h : A.mapM rdInt = some L) (h1 : rdInt p = some n) : (A ++ [p]).mapM rdInt = some (L ++ [n]) := by
  rw [List.mapM_append, h]
  simp [h1]
theorem mapM_bad {A R : List (List UInt8)} {p : List UInt8} {L : List Int} (h : A.mapM rdInt = some L) (h1 : rdInt p = none) : (A ++ p :: R).mapM rdInt = none := by
  rw [List.mapM_append, h]
  simp [h1]
theorem rdInts_none {b : UInt8} {k : Nat} {l : List UInt8} (h : (splGo b [] l).length ≠ k) : rdInts b k l = none := by unfold rdInts; rw [if_neg h]
theorem rdInts_eq {b : UInt8} {k : Nat} {l : List UInt8} (h : (splGo b [] l).length = k) : rdInts b k l = (splGo b [] l).mapM rdInt := by unfold rdInts; rw [if_pos h]

set_option maxHeartbeats 1600000 in
set_option maxRecDepth 100000 in
theorem foInts_any (s : ByteArray) (k0 : Nat) (w : World) (hs : s.size ≤ 1048576) (hk0 : 1 ≤ k0 ∧ k0 ≤ 10) : Calls Tryd.prog 35 #[.string s, .int .u8 44, .int .i64 k0] w (RetL w ((rdInts 44 k0 s.data.toList).getD [])) := by
  obtain ⟨i0, hi, hz0, hz1, hz2⟩ := info_parts Tryd.infoInt
  have hP := l1Split_any s 44 w hs
  have hne := List.length_pos_iff.2 (spl_ne 44 s.data.toList)
  have hcnt := spl_cnt 44 s.data.toList []
  have hpl := spl_len 44 s.data.toList []
  rw [sl_len] at hcnt
  have e44 : ((44 : UInt8).toNat : Int) = 44 := rfl
  rw [e44] at hP
  obtain ⟨P, hPd⟩ : ∃ P, splGo 44 [] s.data.toList = P := ⟨_, rfl⟩
  rw [hPd] at hP hne hcnt
  have hpl2 : ∀ p ∈ P, p.length ≤ 1048576 := fun p hp => by
    have := hpl p (by rw [hPd]; exact hp)
    rw [sl_len] at this
    simp at this
    omega
  have HP := Lib.hid hP
  have HQ := Lib.hid hpl2
  have HE := Lib.hid hPd
  clear hP hpl hpl2 hPd
  by_cases hlen : P.length = k0
  · have hr : rdInts 44 k0 s.data.toList = P.mapM rdInt := by rw [rdInts_eq (by rw [HE.out]; exact hlen), HE.out]
    rw [hr]
    clear hr
    have hli : (P.length : Int) = (k0 : Int) := by omega
    obtain ⟨R, hR⟩ : ∃ R, P.mapM rdInt = R := ⟨_, rfl⟩
    rw [hR]
    have HR := Lib.hid hR
    clear hR
    go_enter Tryd.func35, Tryd.ntmps35
    go_wp2_with fail
    refine HP.out.mono ?_
    rintro e w1 ⟨v1, rfl, l1, b1⟩
    obtain ⟨g, cap, rfl, g0, g1, hcell⟩ := l1.some hne
    have HC := Lib.hid hcell
    have hsz1 := b1.size
    clear hcell l1
    go_wp2
    go_loopw [8, 22] (fun v i wr => ∃ (k : Nat) (L : List Int), i = .int .i64 k ∧ k ≤ P.length ∧ L.length = k ∧ Lst wr w1.heap.size v L ∧ Hid ((P.take k).mapM rdInt = some L) ∧ Below w1.heap.size w1 wr) (fun _ i _ => P.length - (intOf i).toNat)
    case atStart => exact ⟨0, [], rfl, Nat.zero_le _, rfl, Lst.nil _ _, Lib.hid (by simp), Below.refl _ _⟩
    case round =>
      obtain ⟨k, L, rfl, hk, hL, hl, HM, hb⟩ := hrel
      have hsz := hb.size
      by_cases hlt : k < P.length
      · have hc := hb.cell (p := ⟨g, k, none⟩) g1
        rw [HC.out k hlt] at hc
        have hpz := HQ.out P[k] (List.getElem_mem hlt)
        have htk : P.take (k + 1) = P.take k ++ [P[k]] := List.take_succ_eq_append_getElem hlt
        have hspl : P = P.take k ++ P[k] :: P.drop (k + 1) := by rw [← List.drop_eq_getElem_cons hlt, List.take_append_drop]
        have HT := Lib.hid htk
        have HS := Lib.hid hspl
        clear htk hspl
        generalize P[k] = p at *
        have k1 : (0 : Int) ≤ (k : Int) := by omega
        have k2 : (k : Int) < (P.length : Int) := by omega
        rcases ho : rdInt p with _ | n
        · have hRn : R = none := by rw [← HR.out, HS.out]; exact mapM_bad HM.out ho
          subst hRn
          have F := Lib.hid (fun W => foInt_is (s := ⟨p.toArray⟩) W (by simpa [ByteArray.size] using hpz) ho)
          clear ho
          go_wp2_with fail
          refine (F.out _).mono ?_
          rintro e w0 ⟨rfl, rfl⟩
          go_wp2
          go_ret
          exact ⟨_, rfl, Lst.nil _ _, b1.trans (hb.mono b1.size)⟩
        · have F := Lib.hid (fun W => foInt_is (s := ⟨p.toArray⟩) W (by simpa [ByteArray.size] using hpz) ho)
          have HM2 : Hid ((P.take (k + 1)).mapM rdInt = some (L ++ [n])) := Lib.hid (by rw [HT.out]; exact mapM_snoc HM.out ho)
          clear ho
          go_wp2_with (first | (go_at_call 43; refine (F.out _).mono ?_; rintro e w0 ⟨rfl, rfl⟩) | (at_builtin; refine wpList_append_own _ rfl _ _ 46 rfl w1.heap.size 3 i0 (.int .i64 0) 1 8 Tryd.underlying46 hi hz0 hz1 hz2 rfl (by decide) _ _ _ rfl (hl.own.alloc _) ⟨wr.heap.size, 0, none⟩ 1 1 [.int .i64 n] rfl rfl (cell_one_new _ _ _) (by intro u hu; simp at hu; subst hu; rfl) (by unfold maxLen; omega) (by omega) (by simp; omega) ?_; intro v' w2 hown' hgrow _))
          have hl1 := Lst.snoc hown'
          have hb1 := snoc_below hb hl hgrow
          clear hown' hgrow hl hb
          go_wp2
          go_roundw
          case rel => exact ⟨k + 1, L ++ [n], by go_num, hlt, by simp; omega, hl1, HM2, hb1⟩
          case measure => simp only [intOf]; omega
      · have hke : k = P.length := by omega
        have k2 : ¬ (k : Int) < (P.length : Int) := by omega
        have hm := HM.out
        rw [hke, List.take_length, HR.out] at hm
        subst hm
        clear hke
        go_wp2
        go_ret
        exact ⟨_, rfl, hl.base b1.size, b1.trans (hb.mono b1.size)⟩
  · rw [rdInts_none (by rw [HE.out]; exact hlen)]
    have hli : ((P.length : Int) != (k0 : Int)) = true := by rw [bne_iff_ne]; omega
    have hlj : ¬ (P.length : Int) = (k0 : Int) := by omega
    go_enter Tryd.func35, Tryd.ntmps35
    go_wp2_with fail
    refine HP.out.mono ?_
    rintro e w1 ⟨v1, rfl, l1, b1⟩
    obtain ⟨g, cap, rfl, g0, g1, hcell⟩ := l1.some hne
    clear hcell l1
    go_wp2
    go_ret
    exact ⟨_, rfl, Lst.nil _ _, b1⟩
end Go.Proofs.YtpoipdjhelnibaaDoor
