/-
  The reference's reading of a signed number: foInt.
-/
import Derived.Test.YtpoipdjhelnibaaDoorRdS
namespace Go.Proofs.YtpoipdjhelnibaaDoor
open Go.RowKit
set_option linter.unusedSimpArgs false
set_option linter.unusedVariables false

theorem rdInt_min {l : List UInt8} {r : Int} (hm : rdMin l = true) (hr : rdNat (l.drop 1) = r) : rdInt l = if r < 0 ∨ r = 0 ∨ 1000000 < r then none else some (-r) := by
  unfold rdInt
  rw [hm]
  simp only [if_true, true_and, hr]
theorem rdInt_pos {l : List UInt8} {r : Int} (hm : rdMin l = false) (hr : rdNat l = r) : rdInt l = if r < 0 ∨ 1000000 < r then none else some r := by
  unfold rdInt
  rw [hm]
  simp only [Bool.false_eq_true, if_false, false_and, false_or, hr]
theorem nuRead_is {s : ByteArray} {r : Int} (w : World) (hs : s.size ≤ 1048576) (hr : rdNat s.data.toList = r) : Calls Tryd.prog 47 #[.string s] w fun e w' => e = .returned (.int .i64 r) ∧ w = w' := by
  subst hr; exact nuRead_any s w hs
theorem foInt_is {s : ByteArray} {o : Option Int} (w : World) (hs : s.size ≤ 1048576) (ho : rdInt s.data.toList = o) : Calls Tryd.prog 43 #[.string s] w fun e w' => e = .returned (.tuple #[.int .i64 (o.getD 0), .bool o.isSome]) ∧ w = w' := by
  have hlen := sl_len s
  rcases hm : rdMin s.data.toList with _ | _
  · obtain ⟨r, hr⟩ : ∃ r, rdNat s.data.toList = r := ⟨_, rfl⟩
    rw [rdInt_pos hm hr] at ho
    have HR := Lib.hid hr
    have hmm : ∀ h0 : 0 < s.size, 1 < s.size → ¬ (s[0]'h0).toNat = 45 := fun h0 h1 h2 => by
      have hh : s.data.toList.head? = some (s[0]'h0) := by
        rw [List.head?_eq_getElem?, List.getElem?_eq_getElem (by rw [hlen]; exact h0), sl_at s 0 h0]
      have : rdMin s.data.toList = true := by
        unfold rdMin
        rw [hh, hlen]
        have : s[0]'h0 = 45 := UInt8.toNat_inj.1 h2
        simp [this, h1]
      rw [this] at hm
      cases hm
    have HM := Lib.hid hmm
    clear hm hr hlen hmm
    have core : Calls Tryd.prog 43 #[.string s] w fun e w' => e = .returned (.tuple #[.int .i64 (o.getD 0), .bool o.isSome]) ∧ w = w' := by
      by_cases h1 : 1 < s.size
      · have h0 : 0 < s.size := by omega
        have hc := HM.out h0 h1
        have hcb : (((s[0]'h0).toNat : Int) == 45) = false := by rw [beq_eq_false_iff_ne]; omega
        have h1i : 1 < (s.size : Int) := by omega
        have hci : ¬ ((s[0]'h0).toNat : Int) = 45 := by omega
        clear hc h1
        by_cases hbad : r < 0 ∨ 1000000 < r
        · rw [if_pos hbad] at ho
          subst ho
          by_cases hneg : r < 0
          · clear hbad
            go_enter Tryd.func43, Tryd.ntmps43
            go_wp2_with fail
            ((with_reducible refine (nuRead_is _ hs HR.out).mono ?_); rintro e w0 ⟨rfl, rfl⟩)
            go_wp2
            go_ret2
            exact ⟨rfl, rfl⟩
          · have hbig : 1000000 < r := by omega
            clear hbad
            go_enter Tryd.func43, Tryd.ntmps43
            go_wp2_with fail
            ((with_reducible refine (nuRead_is _ hs HR.out).mono ?_); rintro e w0 ⟨rfl, rfl⟩)
            go_wp2
            go_ret2
            exact ⟨rfl, rfl⟩
        · rw [if_neg hbad] at ho
          subst ho
          have g1 : ¬ r < 0 := by omega
          have g2 : ¬ 1000000 < r := by omega
          clear hbad
          go_enter Tryd.func43, Tryd.ntmps43
          go_wp2_with fail
          ((with_reducible refine (nuRead_is _ hs HR.out).mono ?_); rintro e w0 ⟨rfl, rfl⟩)
          go_wp2
          go_ret2
          exact ⟨rfl, rfl⟩
      · have h1i : ¬ 1 < (s.size : Int) := by omega
        clear h1
        by_cases hbad : r < 0 ∨ 1000000 < r
        · rw [if_pos hbad] at ho
          subst ho
          by_cases hneg : r < 0
          · clear hbad
            go_enter Tryd.func43, Tryd.ntmps43
            go_wp2_with fail
            ((with_reducible refine (nuRead_is _ hs HR.out).mono ?_); rintro e w0 ⟨rfl, rfl⟩)
            go_wp2
            go_ret2
            exact ⟨rfl, rfl⟩
          · have hbig : 1000000 < r := by omega
            clear hbad
            go_enter Tryd.func43, Tryd.ntmps43
            go_wp2_with fail
            ((with_reducible refine (nuRead_is _ hs HR.out).mono ?_); rintro e w0 ⟨rfl, rfl⟩)
            go_wp2
            go_ret2
            exact ⟨rfl, rfl⟩
        · rw [if_neg hbad] at ho
          subst ho
          have g1 : ¬ r < 0 := by omega
          have g2 : ¬ 1000000 < r := by omega
          clear hbad
          go_enter Tryd.func43, Tryd.ntmps43
          go_wp2_with fail
          ((with_reducible refine (nuRead_is _ hs HR.out).mono ?_); rintro e w0 ⟨rfl, rfl⟩)
          go_wp2
          go_ret2
          exact ⟨rfl, rfl⟩
    exact core
  · have hm2 := hm
    unfold rdMin at hm2
    rw [Bool.and_eq_true, decide_eq_true_eq, hlen, beq_iff_eq] at hm2
    obtain ⟨h1, h45⟩ := hm2
    have h0 : 0 < s.size := by omega
    have hc : s[0]'h0 = 45 := by
      rw [List.head?_eq_getElem?, List.getElem?_eq_getElem (by rw [hlen]; exact h0), sl_at s 0 h0] at h45
      injection h45
    have hci : ((s[0]'h0).toNat : Int) = 45 := by rw [hc]; rfl
    have ht : (s.extract 1 s.size).data.toList = s.data.toList.drop 1 := by
      rw [ByteArray.data_extract, Array.toList_extract]
      unfold List.extract
      exact List.take_of_length_le (by rw [List.length_drop, hlen]; omega)
    obtain ⟨r, hr⟩ : ∃ r, rdNat (s.data.toList.drop 1) = r := ⟨_, rfl⟩
    rw [rdInt_min hm hr] at ho
    rw [← ht] at hr
    have hts : (s.extract 1 s.size).size ≤ 1048576 := by rw [ByteArray.size_extract]; omega
    have HR := Lib.hid hr
    have HS := Lib.hid hts
    have h1i : 1 < (s.size : Int) := by omega
    have h1j : (1 : Int) ≤ (s.size : Int) := by omega
    clear hm h45 hc ht hr hlen hts h1
    generalize hT : s.extract 1 s.size = T at *
    by_cases hbad : r < 0 ∨ r = 0 ∨ 1000000 < r
    · rw [if_pos hbad] at ho
      subst ho
      by_cases hneg : r < 0
      · clear hbad
        go_enter Tryd.func43, Tryd.ntmps43
        go_wp2_with fail
        ((with_reducible refine (nuRead_is _ HS.out HR.out).mono ?_); rintro e w0 ⟨rfl, rfl⟩)
        go_wp2
        go_ret2
        exact ⟨rfl, rfl⟩
      · by_cases hz : r = 0
        · subst hz
          clear hbad hneg
          go_enter Tryd.func43, Tryd.ntmps43
          go_wp2_with fail
          ((with_reducible refine (nuRead_is _ HS.out HR.out).mono ?_); rintro e w0 ⟨rfl, rfl⟩)
          go_wp2
          go_ret2
          exact ⟨rfl, rfl⟩
        · have hbig : 1000000 < r := by omega
          have hzb : (r == 0) = false := by rw [beq_eq_false_iff_ne]; exact hz
          clear hbad
          go_enter Tryd.func43, Tryd.ntmps43
          go_wp2_with fail
          ((with_reducible refine (nuRead_is _ HS.out HR.out).mono ?_); rintro e w0 ⟨rfl, rfl⟩)
          go_wp2
          go_ret2
          exact ⟨rfl, rfl⟩
    · rw [if_neg hbad] at ho
      subst ho
      have g1 : ¬ r < 0 := by omega
      have g2 : ¬ 1000000 < r := by omega
      have g3 : (r == 0) = false := by rw [beq_eq_false_iff_ne]; omega
      have g4 : ¬ r = 0 := by omega
      have g5 : 1 ≤ r := by omega
      clear hbad
      go_enter Tryd.func43, Tryd.ntmps43
      go_wp2_with fail
      ((with_reducible refine (nuRead_is _ HS.out HR.out).mono ?_); rintro e w0 ⟨rfl, rfl⟩)
      go_wp2
      go_ret2
      exact ⟨rfl, rfl⟩
end Go.Proofs.YtpoipdjhelnibaaDoor
