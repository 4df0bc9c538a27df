/-
  'RootTower': its contracts and its law's walk.
-/
import Derived.Test.YtbiaokglmdmopaaLR
import Derived.Test.YtbiaokglmdmopaaRm
import Derived.Test.YtbiaokglmdmopaaFilt
import Derived.Test.YtbiaokglmdmopaaSlice
namespace Go.Proofs.Ytbiaokglmdmopaa
open Go.RowKit
set_option linter.unusedSimpArgs false
set_option linter.unusedVariables false

/-- the roots above x modulo m*p, m*p*p, .. -/
def tow (a p : Int) : Nat → Int → Int → List Int
  | 0, _, _ => []
  | n + 1, m, x => liV a p m x :: tow a p n (m * p) (liV a p m x)
theorem tow_len (a p : Int) : ∀ n m x, (tow a p n m x).length = n
  | 0, _, _ => rfl
  | n + 1, m, x => by rw [tow, List.length_cons, tow_len a p n]
theorem LiI.first {a p : Int} (h : fldB a p = true) (hb : rmB a p = true) : LiI a p p (rmV a p) := by
  obtain ⟨h0, h1, h2⟩ := fldB_iff.1 h
  have hp := oddP_bd h1
  obtain ⟨x0, x1, hr⟩ := rm_some hb (by omega)
  exact ⟨oddP_Pr h1, hp.2.2, hp.1, by omega, Int.dvd_refl _, x0, by omega, hr, fun hn => by rw [beq_eq_false_iff_ne] at h2; exact h2 (Int.tmod_eq_zero_of_dvd hn)⟩
def vRT (a p k : Int) : Bool := (fldB a p && decide (1 ≤ k)) && (decide (p ^ k.toNat ≤ 1000000) && rmB a p)
/-- what a true test says -/
structure RT (a p k : Int) : Prop where
  fl : fldB a p = true
  k1 : 1 ≤ k
  pw : p ^ k.toNat ≤ 1000000
  rt : rmB a p = true
theorem vRT_iff {a p k : Int} : vRT a p k = true ↔ RT a p k := by
  simp only [vRT, Bool.and_eq_true, decide_eq_true_eq]
  exact ⟨fun ⟨⟨h1, h2⟩, h3, h4⟩ => ⟨h1, h2, h3, h4⟩, fun ⟨h1, h2, h3, h4⟩ => ⟨⟨h1, h2⟩, h3, h4⟩⟩
theorem RT.kb {a p k : Int} (h : RT a p k) : k ≤ 12 := by
  have hb := oddP_bd (fldB_iff.1 h.fl).2.1
  have := pow_small hb.1 h.pw
  have := h.k1
  omega
theorem RT.gk {a p k : Int} (h : RT a p k) : good k = true := by
  have := h.kb
  have := h.k1
  exact good_of (by omega) (by omega)
def slen : Value → Nat
  | .slice _ n _ => n
  | _ => 0
def rtL (a p k : Int) : List Int := rmV a p :: tow a p (k.toNat - 1) p (rmV a p)
theorem rt_len (a p k : Int) : (lFor (vRT a p k) (rtL a p k)).length ≤ 1000000000 := by
  rcases hv : vRT a p k with _ | _
  · simp [lFor]
  · have := (vRT_iff.1 hv).kb
    rw [lFor_true, rtL, List.length_cons, tow_len]
    omega
theorem pow_1 (p : Int) {x : Int} : p ^ [x].length = p := by rw [List.length_singleton, Int.pow_succ, Int.pow_zero, Int.one_mul]
theorem Lst.one {W : World} {base g : Nat} (x : Int) (hg : g = W.heap.size) (h : base ≤ g) : Lst (W.alloc (.cells #[.int .i64 x] 3)) base (.slice (some ⟨g, 0, none⟩) 1 1) [x] := by
  subst hg
  exact World.ownsRow_lit (base := base) (e := 3) (size := 1) W #[.int .i64 x] 1 h (by simp [maxLen]) rfl
theorem Lst.len {w : World} {base : Nat} {v : Value} {L : List Int} (h : Lst w base v L) : slen v = L.length := by
  rcases h.shape with ⟨rfl, rfl⟩ | ⟨g, cap, rfl, _⟩ <;> rfl
theorem Lst.some {w : World} {base : Nat} {v : Value} {L : List Int} (h : Lst w base v L) (h1 : 1 ≤ L.length) : ∃ g cap, v = .slice (some ⟨g, 0, none⟩) L.length cap ∧ base ≤ g ∧ g < w.heap.size ∧ (∀ k, k < L.length → w.cell? ⟨g, k, none⟩ = some (.int .i64 (L.getD k 0))) ∧ (∀ k, w.frozen? ⟨g, k, none⟩ = false) := by
  rcases h.shape with ⟨rfl, _⟩ | h
  · simp at h1
  · exact h
theorem roLift_is {a p m x y : Int} (w : World) (h : LiI a p m x) (hy : liV a p m x = y) (a1 : -1000000 ≤ a) (a2 : a ≤ 1000000) (hmp : m * p ≤ 1000000) :
    Calls Try.prog 62 #[.int .i64 a, .int .i64 p, .int .i64 m, .int .i64 x] w fun e w' => e = .returned (.int .i64 y) ∧ w = w' := by
  subst hy; exact roLift_any a p m x w h a1 a2 hmp
theorem lift_is {a p m x y : Int} (w : World) (h : LiI a p m x) (hy : liV a p m x = y) (a1 : -1000000 ≤ a) (a2 : a ≤ 1000000) (hmp : m * p ≤ 1000000) :
    Calls Try.prog 65 #[.int .i64 a, .int .i64 p, .int .i64 m, .int .i64 x] w fun e w' => e = .returned (.int .i64 y) ∧ w = w' := by
  subst hy; exact lift_any a p m x w h a1 a2 hmp
theorem specRM_is {a p v : Int} (w : World) (h : fldB a p = true) (hv : rmV a p = v) : Calls Try.prog 17 #[.int .i64 a, .int .i64 p] w fun e w' => e = .returned (.tuple #[.int .i64 v, .bool (rmB a p)]) ∧ Below w.heap.size w w' := by
  obtain ⟨h0, h1, _⟩ := fldB_iff.1 h
  obtain ⟨h2, h3, _⟩ := oddP_iff.1 h1
  have := specRM_any a p w
  rwa [(vRM_ok h0 h2 h3).1, (vRM_ok h0 h2 h3).2, hv] at this
theorem rootModulo_is {a p v : Int} (w : World) (h : fldB a p = true) (hv : rmV a p = v) : Calls Try.prog 50 #[.int .i64 a, .int .i64 p] w fun e w' => e = .returned (.tuple #[.int .i64 v, .bool (rmB a p)]) ∧ w = w' := by
  obtain ⟨h0, h1, _⟩ := fldB_iff.1 h
  obtain ⟨h2, h3, _⟩ := oddP_iff.1 h1
  have ha := good_iff.1 h0
  rw [← hv]
  exact rootModulo_any a p w ha.1 ha.2 (good_hi h2) h3
set_option maxHeartbeats 1600000 in
theorem specRT_any (a p k : Int) (w : World) (i1 : In64 p) : Calls Try.prog 37 #[.int .i64 a, .int .i64 p, .int .i64 k] w (RetS w (lFor (vRT a p k) (rtL a p k)) (vRT a p k)) := by
  rcases h0' : fldB a p with _ | _
  · rw [show vRT a p k = false from not_true fun hh => (by have hv := vRT_iff.1 hh; have h9 := hv.fl; rw [h0'] at h9; cases h9), lFor_false]
    go_enter Try.func37, Try.ntmps37
    go_wp2_with fail
    ((with_reducible refine (roField_any a p _ i1).mono ?_); rintro e w1 ⟨rfl, hb1⟩)
    obtain ⟨hc1, hf1⟩ := bcell hb1
    have hz1 := hb1.size
    try simp only [World.size_alloc, World.size_drew, World.size_setCell] at hz1
    try have hs1 : w.heap.size < w1.heap.size := by omega
    have bl1 : Below w.heap.size w w1 := Below.trans (by go_grown) (hb1.mono (by go_size))
    go_wp2
    go_ret2
    exact ⟨_, rfl, Lst.nil _ _, (by repeat' (first | (with_reducible exact Below.refl _ _) | (with_reducible assumption) | (with_reducible refine Below.alloc ?_ ?_ _) | (with_reducible refine Below.drew ?_) | (with_reducible refine below_drewN ?_ _) | (with_reducible refine Below.setCell ?_ ?_ _) | go_size))⟩
  · have hf := fldB_iff.1 h0'
    have hn := oddP_bd hf.2.1
    have ha := good_iff.1 hf.1
    rcases h1 : inB 1 20 k with _ | _
    · rw [show vRT a p k = false from not_true fun hh => (by have hv := vRT_iff.1 hh; have h8 := hv.kb; have h9 := hv.k1; have := inB_bad.1 h1; omega), lFor_false]
      go_enter Try.func37, Try.ntmps37
      go_wp2_with fail
      ((with_reducible refine (roField_any a p _ i1).mono ?_); rintro e w1 ⟨rfl, hb1⟩)
      obtain ⟨hc1, hf1⟩ := bcell hb1
      have hz1 := hb1.size
      try simp only [World.size_alloc, World.size_drew, World.size_setCell] at hz1
      try have hs1 : w.heap.size < w1.heap.size := by omega
      have bl1 : Below w.heap.size w w1 := Below.trans (by go_grown) (hb1.mono (by go_size))
      go_wp2_with fail
      ((with_reducible refine (l1In_any _ _ _ _).mono ?_); rintro e w0 ⟨rfl, rfl⟩)
      go_wp2
      go_ret2
      exact ⟨_, rfl, Lst.nil _ _, (by repeat' (first | (with_reducible exact Below.refl _ _) | (with_reducible assumption) | (with_reducible refine Below.alloc ?_ ?_ _) | (with_reducible refine Below.drew ?_) | (with_reducible refine below_drewN ?_ _) | (with_reducible refine Below.setCell ?_ ?_ _) | go_size))⟩
    · have hk := inB_iff.1 h1
      by_cases h6 : 1000000 < p ^ k.toNat
      · rw [show vRT a p k = false from not_true fun hh => (by have hv := vRT_iff.1 hh; have h9 := hv.pw; omega), lFor_false]
        have H6 := Lib.hid h6
        clear h6
        go_enter Try.func37, Try.ntmps37
        go_wp2_with fail
        ((with_reducible refine (roField_any a p _ i1).mono ?_); rintro e w1 ⟨rfl, hb1⟩)
        obtain ⟨hc1, hf1⟩ := bcell hb1
        have hz1 := hb1.size
        try simp only [World.size_alloc, World.size_drew, World.size_setCell] at hz1
        try have hs1 : w.heap.size < w1.heap.size := by omega
        have bl1 : Below w.heap.size w w1 := Below.trans (by go_grown) (hb1.mono (by go_size))
        go_wp2_with fail
        ((with_reducible refine (l1In_any _ _ _ _).mono ?_); rintro e w0 ⟨rfl, rfl⟩)
        go_wp2_with fail
        ((with_reducible refine (roPower_no p k _ (by omega) (by omega) (by omega) (by omega) H6.out).mono ?_); rintro e w0 ⟨rfl, rfl⟩)
        go_wp2
        go_ret2
        exact ⟨_, rfl, Lst.nil _ _, (by repeat' (first | (with_reducible exact Below.refl _ _) | (with_reducible assumption) | (with_reducible refine Below.alloc ?_ ?_ _) | (with_reducible refine Below.drew ?_) | (with_reducible refine below_drewN ?_ _) | (with_reducible refine Below.setCell ?_ ?_ _) | go_size))⟩
      · obtain ⟨x0, hx0⟩ : ∃ x0, rmV a p = x0 := ⟨_, rfl⟩
        have HX := Lib.hid hx0
        rcases hrb : rmB a p with _ | _
        · rw [show vRT a p k = false from not_true fun hh => (by have hv := vRT_iff.1 hh; have h9 := hv.rt; rw [hrb] at h9; cases h9), lFor_false]
          obtain ⟨q, hq⟩ : ∃ q, p ^ k.toNat = q := ⟨_, rfl⟩
          have hq1 := pow_one_le hn.1 k.toNat
          have HP := Lib.hid (show p ^ k.toNat ≤ 1000000 by omega)
          have HQ := Lib.hid hq
          rw [hq] at h6 hq1
          clear hq
          have hq0 : (q == 0) = false := by rw [beq_eq_false_iff_ne]; omega
          go_enter Try.func37, Try.ntmps37
          go_wp2_with fail
          ((with_reducible refine (roField_any a p _ i1).mono ?_); rintro e w1 ⟨rfl, hb1⟩)
          obtain ⟨hc1, hf1⟩ := bcell hb1
          have hz1 := hb1.size
          try simp only [World.size_alloc, World.size_drew, World.size_setCell] at hz1
          try have hs1 : w.heap.size < w1.heap.size := by omega
          have bl1 : Below w.heap.size w w1 := Below.trans (by go_grown) (hb1.mono (by go_size))
          go_wp2_with fail
          ((with_reducible refine (l1In_any _ _ _ _).mono ?_); rintro e w0 ⟨rfl, rfl⟩)
          go_wp2_with fail
          ((with_reducible refine (roPower_is p k _ (by omega) (by omega) (by omega) (by omega) HQ.out (by omega)).mono ?_); rintro e w0 ⟨rfl, rfl⟩)
          go_wp2_with fail
          ((with_reducible refine (specRM_is _ h0' HX.out).mono ?_); rintro e w2 ⟨rfl, hb2⟩)
          obtain ⟨hc2, hf2⟩ := bcell hb2
          have hz2 := hb2.size
          try simp only [World.size_alloc, World.size_drew, World.size_setCell] at hz2
          try have hs2 : w.heap.size < w2.heap.size := by omega
          have bl2 : Below w.heap.size w w2 := Below.trans (by go_grown) (hb2.mono (by go_size))
          go_wp2
          go_ret2
          exact ⟨_, rfl, Lst.nil _ _, (by repeat' (first | (with_reducible exact Below.refl _ _) | (with_reducible assumption) | (with_reducible refine Below.alloc ?_ ?_ _) | (with_reducible refine Below.drew ?_) | (with_reducible refine below_drewN ?_ _) | (with_reducible refine Below.setCell ?_ ?_ _) | go_size))⟩
        · rw [show vRT a p k = true from vRT_iff.2 ⟨h0', by omega, by omega, hrb⟩, lFor_true]
          have HL0 := Lib.hid (LiI.first h0' hrb)
          have HRL := Lib.hid (show rtL a p k = rmV a p :: tow a p (k.toNat - 1) p (rmV a p) from rfl)
          rw [HX.out] at HL0 HRL
          obtain ⟨i0, hi, ho0, ho1, ho2⟩ := info_parts Try.infoInt
          clear hx0
          obtain ⟨q, hq⟩ : ∃ q, p ^ k.toNat = q := ⟨_, rfl⟩
          have hq1 := pow_one_le hn.1 k.toNat
          have HP := Lib.hid (show p ^ k.toNat ≤ 1000000 by omega)
          have HQ := Lib.hid hq
          rw [hq] at h6 hq1
          clear hq
          have hq0 : (q == 0) = false := by rw [beq_eq_false_iff_ne]; omega
          go_enter Try.func37, Try.ntmps37
          go_wp2_with fail
          ((with_reducible refine (roField_any a p _ i1).mono ?_); rintro e w1 ⟨rfl, hb1⟩)
          obtain ⟨hc1, hf1⟩ := bcell hb1
          have hz1 := hb1.size
          try simp only [World.size_alloc, World.size_drew, World.size_setCell] at hz1
          try have hs1 : w.heap.size < w1.heap.size := by omega
          have bl1 : Below w.heap.size w w1 := Below.trans (by go_grown) (hb1.mono (by go_size))
          go_wp2_with fail
          ((with_reducible refine (l1In_any _ _ _ _).mono ?_); rintro e w0 ⟨rfl, rfl⟩)
          go_wp2_with fail
          ((with_reducible refine (roPower_is p k _ (by omega) (by omega) (by omega) (by omega) HQ.out (by omega)).mono ?_); rintro e w0 ⟨rfl, rfl⟩)
          go_wp2_with fail
          ((with_reducible refine (specRM_is _ h0' HX.out).mono ?_); rintro e w2 ⟨rfl, hb2⟩)
          obtain ⟨hc2, hf2⟩ := bcell hb2
          have hz2 := hb2.size
          try simp only [World.size_alloc, World.size_drew, World.size_setCell] at hz2
          try have hs2 : w.heap.size < w2.heap.size := by omega
          have bl2 : Below w.heap.size w w2 := Below.trans (by go_grown) (hb2.mono (by go_size))
          go_wp2
          go_loopw [8, 10, 11] (fun sx sv sm wr => ∃ (D : List Int) (x m : Int) (r : Nat), sx = .int .i64 x ∧ sm = .int .i64 m ∧ Lst wr w.heap.size sv D ∧ (D.length : Int) + r = k ∧ 1 ≤ D.length ∧ Hid (p ^ D.length = m) ∧ m ≤ 1000000 ∧ 1 ≤ m ∧ Hid (LiI a p m x) ∧ Hid (D ++ tow a p r m x = rtL a p k) ∧ Below w.heap.size w wr) (fun _ sv _ _ => (k - slen sv).toNat)
          case atStart => exact ⟨[x0], x0, p, k.toNat - 1, rfl, rfl, Lst.one _ (by simp) (by first | omega | go_size), by simp; omega, by simp, Lib.hid (pow_1 p), by omega, by omega, HL0, Lib.hid (by rw [HRL.out]; rfl), (by repeat' (first | (with_reducible exact Below.refl _ _) | (with_reducible assumption) | (with_reducible refine Below.alloc ?_ ?_ _) | (with_reducible refine Below.drew ?_) | (with_reducible refine below_drewN ?_ _) | (with_reducible refine Below.setCell ?_ ?_ _) | go_size))⟩
          case round =>
            obtain ⟨D, x, m, r, rfl, rfl, hl, hD, hD1, HM, hm2, hm1, HI, HD, hb⟩ := hrel
            obtain ⟨g, cap, rfl, _, _, _, _⟩ := hl.some hD1
            have hsz := hb.size
            by_cases hz : r = 0
            · subst hz
              have HE := Lib.hid (show D = rtL a p k by rw [← HD.out, tow, List.append_nil])
              have hk8 : ¬ (D.length : Int) < k := by omega
              clear HD
              go_wp2
              go_ret2
              exact ⟨_, rfl, by rw [← HE.out]; exact hl, hb⟩
            · obtain ⟨r', rfl⟩ : ∃ r', r = r' + 1 := ⟨r - 1, by omega⟩
              have hmp : m * p ≤ 1000000 := by
                have h1 := pow_mono hn.1 (show D.length + 1 ≤ k.toNat by omega)
                rw [Int.pow_succ, HM.out] at h1
                have := HP.out
                omega
              have hmp1 : 1 ≤ m * p := (mp_bd hm1 hn.1 hmp).2.2.1
              have hlt : (D.length : Int) < k := by omega
              have HN := Lib.hid (show D ++ [liV a p m x] ++ tow a p r' (m * p) (liV a p m x) = rtL a p k by rw [← HD.out, tow, List.append_assoc]; rfl)
              have HI2 := Lib.hid HI.out.next
              have HM2 := Lib.hid (show p ^ (D ++ [liV a p m x]).length = m * p by rw [List.length_append, List.length_singleton, Int.pow_succ, HM.out])
              have hyb := HI.out.le
              obtain ⟨y, hy⟩ : ∃ y, liV a p m x = y := ⟨_, rfl⟩
              rw [hy] at HN HI2 HM2 hyb
              have HY := Lib.hid hy
              clear hy HD hz
              go_wp2_with fail
              ((with_reducible refine (roLift_is _ HI.out HY.out ha.1 ha.2 hmp).mono ?_); rintro e w0 ⟨rfl, rfl⟩)
              go_wp2_with (at_builtin; refine wpList_append_own _ rfl _ _ 35 rfl w.heap.size 3 i0 (.int .i64 0) 1 8 Try.underlying35 hi ho0 ho1 ho2 rfl (by decide) _ _ _ rfl (hl.own.alloc _) ⟨wr.heap.size, 0, none⟩ 1 1 [.int .i64 y] rfl rfl ?c1 ?c2 ?c3 ?c4 ?c5 ?_)
              case c1 =>
                intro j u hj
                match j, hj with
                | 0, hj => simp at hj; subst hj; simp [Addr.add]
              case c2 => intro u hu; simp at hu; subst hu; rfl
              case c3 => unfold maxLen; omega
              case c4 => omega
              case c5 => simp; omega
              · intro v' w1 hown' hgrow _
                have hl1 := Lst.snoc hown'
                have hb1 := snoc_below hb hl hgrow
                have hd1 : ((D ++ [y]).length : Int) + r' = k := by simp; omega
                have LN := Lib.hid hl1.len
                clear hown' hgrow hl hb
                go_wp2
                go_roundw
                case rel => exact ⟨D ++ [y], y, m * p, r', rfl, rfl, hl1, hd1, by simp, HM2, by omega, by omega, HI2, HN, hb1⟩
                case measure => rw [LN.out]; simp only [slen, List.length_append, List.length_singleton]; omega
set_option maxHeartbeats 1600000 in
theorem implRT_any (a p k : Int) (w : World) : Calls Try.prog 38 #[.int .i64 a, .int .i64 p, .int .i64 k] w (RetS w (lFor (vRT a p k) (rtL a p k)) (vRT a p k)) := by
  rcases h0 : good a with _ | _
  · rw [show vRT a p k = false from not_true fun hh => (by have hv := vRT_iff.1 hh; have h9 := (fldB_iff.1 hv.fl).1; rw [h0] at h9; cases h9), lFor_false]
    go_enter Try.func38, Try.ntmps38
    go_wp2_with fail
    ((with_reducible refine (are2 a k _ _ (by simp) (by simp)).mono ?_); rintro e w0 ⟨rfl, rfl⟩)
    go_wp2
    go_ret2
    exact ⟨_, rfl, Lst.empty' (by simp) (by first | omega | go_size), (by repeat' (first | (with_reducible exact Below.refl _ _) | (with_reducible assumption) | (with_reducible refine Below.alloc ?_ ?_ _) | (with_reducible refine Below.drew ?_) | (with_reducible refine below_drewN ?_ _) | (with_reducible refine Below.setCell ?_ ?_ _) | go_size))⟩
  · have ha := good_iff.1 h0
    rcases h1 : good k with _ | _
    · rw [show vRT a p k = false from not_true fun hh => (by have hv := vRT_iff.1 hh; have h9 := hv.gk; rw [h1] at h9; cases h9), lFor_false]
      go_enter Try.func38, Try.ntmps38
      go_wp2_with fail
      ((with_reducible refine (are2 a k _ _ (by simp) (by simp)).mono ?_); rintro e w0 ⟨rfl, rfl⟩)
      go_wp2
      go_ret2
      exact ⟨_, rfl, Lst.empty' (by simp) (by first | omega | go_size), (by repeat' (first | (with_reducible exact Below.refl _ _) | (with_reducible assumption) | (with_reducible refine Below.alloc ?_ ?_ _) | (with_reducible refine Below.drew ?_) | (with_reducible refine below_drewN ?_ _) | (with_reducible refine Below.setCell ?_ ?_ _) | go_size))⟩
    · have hk := good_iff.1 h1
      rcases h3 : oddP p with _ | _
      · rw [show vRT a p k = false from not_true fun hh => (by have hv := vRT_iff.1 hh; have h9 := (fldB_iff.1 hv.fl).2.1; rw [h3] at h9; cases h9), lFor_false]
        go_enter Try.func38, Try.ntmps38
        go_wp2_with fail
        ((with_reducible refine (are2 a k _ _ (by simp) (by simp)).mono ?_); rintro e w0 ⟨rfl, rfl⟩)
        go_wp2_with fail
        ((with_reducible refine (isOddPrime_any p _).mono ?_); rintro e w1 ⟨rfl, hb1⟩)
        obtain ⟨hc1, hf1⟩ := bcell hb1
        have hz1 := hb1.size
        try simp only [World.size_alloc, World.size_drew, World.size_setCell] at hz1
        try have hs1 : w.heap.size < w1.heap.size := by omega
        have bl1 : Below w.heap.size w w1 := Below.trans (by go_grown) (hb1.mono (by go_size))
        go_wp2
        go_ret2
        exact ⟨_, rfl, Lst.empty' (by simp) (by first | omega | go_size), (by repeat' (first | (with_reducible exact Below.refl _ _) | (with_reducible assumption) | (with_reducible refine Below.alloc ?_ ?_ _) | (with_reducible refine Below.drew ?_) | (with_reducible refine below_drewN ?_ _) | (with_reducible refine Below.setCell ?_ ?_ _) | go_size))⟩
      · have hn := oddP_bd h3
        have p0 : p ≠ 0 := by omega
        rcases h4 : (a.tmod p == 0) with _ | _
        · have h0' := fldB_ok h0 h3 h4
          by_cases h5 : k < 1
          · rw [show vRT a p k = false from not_true fun hh => (by have hv := vRT_iff.1 hh; have h9 := hv.k1; omega), lFor_false]
            go_enter Try.func38, Try.ntmps38
            go_wp2_with fail
            ((with_reducible refine (are2 a k _ _ (by simp) (by simp)).mono ?_); rintro e w0 ⟨rfl, rfl⟩)
            go_wp2_with fail
            ((with_reducible refine (isOddPrime_any p _).mono ?_); rintro e w1 ⟨rfl, hb1⟩)
            obtain ⟨hc1, hf1⟩ := bcell hb1
            have hz1 := hb1.size
            try simp only [World.size_alloc, World.size_drew, World.size_setCell] at hz1
            try have hs1 : w.heap.size < w1.heap.size := by omega
            have bl1 : Below w.heap.size w w1 := Below.trans (by go_grown) (hb1.mono (by go_size))
            go_wp2
            go_ret2
            exact ⟨_, rfl, Lst.empty' (by simp) (by first | omega | go_size), (by repeat' (first | (with_reducible exact Below.refl _ _) | (with_reducible assumption) | (with_reducible refine Below.alloc ?_ ?_ _) | (with_reducible refine Below.drew ?_) | (with_reducible refine below_drewN ?_ _) | (with_reducible refine Below.setCell ?_ ?_ _) | go_size))⟩
          · by_cases h6 : 1000000 < p ^ k.toNat
            · rw [show vRT a p k = false from not_true fun hh => (by have hv := vRT_iff.1 hh; have h9 := hv.pw; omega), lFor_false]
              have H6 := Lib.hid h6
              clear h6
              go_enter Try.func38, Try.ntmps38
              go_wp2_with fail
              ((with_reducible refine (are2 a k _ _ (by simp) (by simp)).mono ?_); rintro e w0 ⟨rfl, rfl⟩)
              go_wp2_with fail
              ((with_reducible refine (isOddPrime_any p _).mono ?_); rintro e w1 ⟨rfl, hb1⟩)
              obtain ⟨hc1, hf1⟩ := bcell hb1
              have hz1 := hb1.size
              try simp only [World.size_alloc, World.size_drew, World.size_setCell] at hz1
              try have hs1 : w.heap.size < w1.heap.size := by omega
              have bl1 : Below w.heap.size w w1 := Below.trans (by go_grown) (hb1.mono (by go_size))
              go_wp2_with fail
              ((with_reducible refine (powerWithin_no p k _ (by omega) (by omega) (by omega) (by omega) H6.out).mono ?_); rintro e w0 ⟨rfl, rfl⟩)
              go_wp2
              go_ret2
              exact ⟨_, rfl, Lst.empty' (by simp) (by first | omega | go_size), (by repeat' (first | (with_reducible exact Below.refl _ _) | (with_reducible assumption) | (with_reducible refine Below.alloc ?_ ?_ _) | (with_reducible refine Below.drew ?_) | (with_reducible refine below_drewN ?_ _) | (with_reducible refine Below.setCell ?_ ?_ _) | go_size))⟩
            · obtain ⟨x0, hx0⟩ : ∃ x0, rmV a p = x0 := ⟨_, rfl⟩
              have HX := Lib.hid hx0
              rcases hrb : rmB a p with _ | _
              · rw [show vRT a p k = false from not_true fun hh => (by have hv := vRT_iff.1 hh; have h9 := hv.rt; rw [hrb] at h9; cases h9), lFor_false]
                obtain ⟨q, hq⟩ : ∃ q, p ^ k.toNat = q := ⟨_, rfl⟩
                have hq1 := pow_one_le hn.1 k.toNat
                have HP := Lib.hid (show p ^ k.toNat ≤ 1000000 by omega)
                have HQ := Lib.hid hq
                rw [hq] at h6 hq1
                clear hq
                go_enter Try.func38, Try.ntmps38
                go_wp2_with fail
                ((with_reducible refine (are2 a k _ _ (by simp) (by simp)).mono ?_); rintro e w0 ⟨rfl, rfl⟩)
                go_wp2_with fail
                ((with_reducible refine (isOddPrime_any p _).mono ?_); rintro e w1 ⟨rfl, hb1⟩)
                obtain ⟨hc1, hf1⟩ := bcell hb1
                have hz1 := hb1.size
                try simp only [World.size_alloc, World.size_drew, World.size_setCell] at hz1
                try have hs1 : w.heap.size < w1.heap.size := by omega
                have bl1 : Below w.heap.size w w1 := Below.trans (by go_grown) (hb1.mono (by go_size))
                go_wp2_with fail
                ((with_reducible refine (powerWithin_is p k _ (by omega) (by omega) (by omega) (by omega) HQ.out (by omega)).mono ?_); rintro e w0 ⟨rfl, rfl⟩)
                go_wp2_with fail
                ((with_reducible refine (rootModulo_is _ h0' HX.out).mono ?_); rintro e w0 ⟨rfl, rfl⟩)
                go_wp2
                go_ret2
                exact ⟨_, rfl, Lst.empty' (by simp) (by first | omega | go_size), (by repeat' (first | (with_reducible exact Below.refl _ _) | (with_reducible assumption) | (with_reducible refine Below.alloc ?_ ?_ _) | (with_reducible refine Below.drew ?_) | (with_reducible refine below_drewN ?_ _) | (with_reducible refine Below.setCell ?_ ?_ _) | go_size))⟩
              · rw [show vRT a p k = true from vRT_iff.2 ⟨h0', by omega, by omega, hrb⟩, lFor_true]
                have HL0 := Lib.hid (LiI.first h0' hrb)
                have HRL := Lib.hid (show rtL a p k = rmV a p :: tow a p (k.toNat - 1) p (rmV a p) from rfl)
                rw [HX.out] at HL0 HRL
                obtain ⟨i0, hi, ho0, ho1, ho2⟩ := info_parts Try.infoInt
                clear hx0
                obtain ⟨q, hq⟩ : ∃ q, p ^ k.toNat = q := ⟨_, rfl⟩
                have hq1 := pow_one_le hn.1 k.toNat
                have HP := Lib.hid (show p ^ k.toNat ≤ 1000000 by omega)
                have HQ := Lib.hid hq
                rw [hq] at h6 hq1
                clear hq
                go_enter Try.func38, Try.ntmps38
                go_wp2_with fail
                ((with_reducible refine (are2 a k _ _ (by simp) (by simp)).mono ?_); rintro e w0 ⟨rfl, rfl⟩)
                go_wp2_with fail
                ((with_reducible refine (isOddPrime_any p _).mono ?_); rintro e w1 ⟨rfl, hb1⟩)
                obtain ⟨hc1, hf1⟩ := bcell hb1
                have hz1 := hb1.size
                try simp only [World.size_alloc, World.size_drew, World.size_setCell] at hz1
                try have hs1 : w.heap.size < w1.heap.size := by omega
                have bl1 : Below w.heap.size w w1 := Below.trans (by go_grown) (hb1.mono (by go_size))
                go_wp2_with fail
                ((with_reducible refine (powerWithin_is p k _ (by omega) (by omega) (by omega) (by omega) HQ.out (by omega)).mono ?_); rintro e w0 ⟨rfl, rfl⟩)
                go_wp2_with fail
                ((with_reducible refine (rootModulo_is _ h0' HX.out).mono ?_); rintro e w0 ⟨rfl, rfl⟩)
                go_wp2
                go_loopw [10, 12, 13] (fun sx sv sm wr => ∃ (D : List Int) (x m : Int) (r : Nat), sx = .int .i64 x ∧ sm = .int .i64 m ∧ Lst wr w.heap.size sv D ∧ (D.length : Int) + r = k ∧ 1 ≤ D.length ∧ Hid (p ^ D.length = m) ∧ m ≤ 1000000 ∧ 1 ≤ m ∧ Hid (LiI a p m x) ∧ Hid (D ++ tow a p r m x = rtL a p k) ∧ Below w.heap.size w wr) (fun _ sv _ _ => (k - slen sv).toNat)
                case atStart => exact ⟨[x0], x0, p, k.toNat - 1, rfl, rfl, Lst.one _ (by simp) (by first | omega | go_size), by simp; omega, by simp, Lib.hid (pow_1 p), by omega, by omega, HL0, Lib.hid (by rw [HRL.out]; rfl), (by repeat' (first | (with_reducible exact Below.refl _ _) | (with_reducible assumption) | (with_reducible refine Below.alloc ?_ ?_ _) | (with_reducible refine Below.drew ?_) | (with_reducible refine below_drewN ?_ _) | (with_reducible refine Below.setCell ?_ ?_ _) | go_size))⟩
                case round =>
                  obtain ⟨D, x, m, r, rfl, rfl, hl, hD, hD1, HM, hm2, hm1, HI, HD, hb⟩ := hrel
                  obtain ⟨g, cap, rfl, _, _, _, _⟩ := hl.some hD1
                  have hsz := hb.size
                  by_cases hz : r = 0
                  · subst hz
                    have HE := Lib.hid (show D = rtL a p k by rw [← HD.out, tow, List.append_nil])
                    have hk8 : ¬ (D.length : Int) < k := by omega
                    clear HD
                    go_wp2
                    go_ret2
                    exact ⟨_, rfl, by rw [← HE.out]; exact hl, hb⟩
                  · obtain ⟨r', rfl⟩ : ∃ r', r = r' + 1 := ⟨r - 1, by omega⟩
                    have hmp : m * p ≤ 1000000 := by
                      have h1 := pow_mono hn.1 (show D.length + 1 ≤ k.toNat by omega)
                      rw [Int.pow_succ, HM.out] at h1
                      have := HP.out
                      omega
                    have hmp1 : 1 ≤ m * p := (mp_bd hm1 hn.1 hmp).2.2.1
                    have hlt : (D.length : Int) < k := by omega
                    have HN := Lib.hid (show D ++ [liV a p m x] ++ tow a p r' (m * p) (liV a p m x) = rtL a p k by rw [← HD.out, tow, List.append_assoc]; rfl)
                    have HI2 := Lib.hid HI.out.next
                    have HM2 := Lib.hid (show p ^ (D ++ [liV a p m x]).length = m * p by rw [List.length_append, List.length_singleton, Int.pow_succ, HM.out])
                    have hyb := HI.out.le
                    obtain ⟨y, hy⟩ : ∃ y, liV a p m x = y := ⟨_, rfl⟩
                    rw [hy] at HN HI2 HM2 hyb
                    have HY := Lib.hid hy
                    clear hy HD hz
                    go_wp2_with fail
                    ((with_reducible refine (lift_is _ HI.out HY.out ha.1 ha.2 hmp).mono ?_); rintro e w0 ⟨rfl, rfl⟩)
                    go_wp2_with (at_builtin; refine wpList_append_own _ rfl _ _ 35 rfl w.heap.size 3 i0 (.int .i64 0) 1 8 Try.underlying35 hi ho0 ho1 ho2 rfl (by decide) _ _ _ rfl (hl.own.alloc _) ⟨wr.heap.size, 0, none⟩ 1 1 [.int .i64 y] rfl rfl ?c1 ?c2 ?c3 ?c4 ?c5 ?_)
                    case c1 =>
                      intro j u hj
                      match j, hj with
                      | 0, hj => simp at hj; subst hj; simp [Addr.add]
                    case c2 => intro u hu; simp at hu; subst hu; rfl
                    case c3 => unfold maxLen; omega
                    case c4 => omega
                    case c5 => simp; omega
                    · intro v' w1 hown' hgrow _
                      have hl1 := Lst.snoc hown'
                      have hb1 := snoc_below hb hl hgrow
                      have hd1 : ((D ++ [y]).length : Int) + r' = k := by simp; omega
                      have LN := Lib.hid hl1.len
                      clear hown' hgrow hl hb
                      go_wp2
                      go_roundw
                      case rel => exact ⟨D ++ [y], y, m * p, r', rfl, rfl, hl1, hd1, by simp, HM2, by omega, by omega, HI2, HN, hb1⟩
                      case measure => rw [LN.out]; simp only [slen, List.length_append, List.length_singleton]; omega
        · rw [show vRT a p k = false from not_true fun hh => (by have hv := vRT_iff.1 hh; have h9 := (fldB_iff.1 hv.fl).2.2; rw [h4] at h9; cases h9), lFor_false]
          go_enter Try.func38, Try.ntmps38
          go_wp2_with fail
          ((with_reducible refine (are2 a k _ _ (by simp) (by simp)).mono ?_); rintro e w0 ⟨rfl, rfl⟩)
          go_wp2_with fail
          ((with_reducible refine (isOddPrime_any p _).mono ?_); rintro e w1 ⟨rfl, hb1⟩)
          obtain ⟨hc1, hf1⟩ := bcell hb1
          have hz1 := hb1.size
          try simp only [World.size_alloc, World.size_drew, World.size_setCell] at hz1
          try have hs1 : w.heap.size < w1.heap.size := by omega
          have bl1 : Below w.heap.size w w1 := Below.trans (by go_grown) (hb1.mono (by go_size))
          go_wp2
          go_ret2
          exact ⟨_, rfl, Lst.empty' (by simp) (by first | omega | go_size), (by repeat' (first | (with_reducible exact Below.refl _ _) | (with_reducible assumption) | (with_reducible refine Below.alloc ?_ ?_ _) | (with_reducible refine Below.drew ?_) | (with_reducible refine below_drewN ?_ _) | (with_reducible refine Below.setCell ?_ ?_ _) | go_size))⟩
theorem law_FnExactRootTower (a p k : Int) (w : World) (h_a : In64 a) (h_p : In64 p) (h_k : In64 k) : Calls Try.prog 14 #[Value.int .i64 a, Value.int .i64 p, Value.int .i64 k] w fun e w' => e = .returned (.bool true) ∧ Below w.heap.size w w' := by
  have hlen := rt_len a p k
  have HL := Lib.hid hlen
  clear hlen
  go_enter Try.func14, Try.ntmps14
  go_wp2_with fail
  refine (specRT_any a p k w h_p).mono ?_
  rintro e w1 ⟨v1, rfl, l1, b1⟩
  go_wp2_with fail
  refine (implRT_any a p k w1).mono ?_
  rintro e w2 ⟨v2, rfl, l2, b2⟩
  have l1' := l1.below (Nat.le_refl _) b2
  go_wp2_with fail
  refine (eqIntS_same _ _ _ _ HL.out l2 l1').mono ?_
  rintro e w0 ⟨rfl, k3, rfl⟩
  go_wp2_with fail
  refine (markIntS_any _ _ _ HL.out (l2.drewN k3)).mono ?_
  rintro e w4 ⟨rfl, l4, g4⟩
  obtain ⟨l1'', bl4⟩ := after_mark b1 l1 b2 l2 g4
  clear l1' g4 l1 l2 b1 b2
  go_wp2_with fail
  refine (heldIntS_any _ _ _ HL.out l4).mono ?_
  rintro e w0 ⟨rfl, rfl⟩
  go_wp2_with fail
  refine (implRT_any a p k w4).mono ?_
  rintro e w6 ⟨v6, rfl, l6, b6⟩
  have l1' := l1''.below (Nat.le_refl _) b6
  have l4' := l4.below (Nat.le_refl _) b6
  have bl6 := bl4.trans (b6.mono bl4.size)
  clear l1'' l4 b6 bl4
  go_wp2_with fail
  refine (eqIntS_same _ _ _ _ HL.out l6 l1').mono ?_
  rintro e w0 ⟨rfl, k7, rfl⟩
  go_wp2_with fail
  refine (heldIntS_any _ _ _ HL.out (l4'.drewN k7)).mono ?_
  rintro e w0 ⟨rfl, rfl⟩
  go_wp2
  go_ret
  exact ⟨rfl, below_drewN bl6 k7⟩
end Go.Proofs.Ytbiaokglmdmopaa
