/-
  'SymbolSum': its contracts and its law's walk.
-/
import Derived.Test.YtbiaokglmdmopaaKrL
import Derived.Test.YtbiaokglmdmopaaIn
namespace Go.Proofs.Ytbiaokglmdmopaa
open Go.RowKit
set_option linter.unusedSimpArgs false
set_option linter.unusedVariables false

def ssN (d : Int) : Nat → Int
  | 0 => 0
  | n + 1 => ssN d n + kr d ((n : Int) + 1)
theorem ssN_bd (d : Int) : ∀ n : Nat, -(n : Int) ≤ ssN d n ∧ ssN d n ≤ n
  | 0 => by simp [ssN]
  | n + 1 => by
    have h1 := ssN_bd d n
    have h2 := kr_bd d ((n : Int) + 1)
    rw [ssN]
    omega
def vSS (d n : Int) : Bool := good d && inB 0 10000 n
theorem vSS_d {d n : Int} (h : good d = false) : vSS d n = false := by simp [vSS, h]
theorem vSS_n {d n : Int} (h : n < 0 ∨ 10000 < n) : vSS d n = false := by simp [vSS, inB_bad.2 h]
theorem vSS_ok {d n : Int} (h : good d = true) (h1 : 0 ≤ n) (h2 : n ≤ 10000) : vSS d n = true := by simp [vSS, h, inB_iff.2 ⟨h1, h2⟩]
theorem specSS_any (d n : Int) (w : World) : Calls Try.prog 35 #[.int .i64 d, .int .i64 n] w fun e w' =>
    e = .returned (.tuple #[.int .i64 (oFor (vSS d n) (ssN d n.toNat)), .bool (vSS d n)]) ∧ Below w.heap.size w w' := by
  rcases h0 : good d with _ | _
  · rw [show vSS d n = false from vSS_d h0]
    try simp only [oFor_false]
    go_enter Try.func35, Try.ntmps35
    go_wp2_with fail
    ((with_reducible refine (nuGood_any d _).mono ?_); rintro e w0 ⟨rfl, rfl⟩)
    go_wp2
    go_ret2
    exact ⟨rfl, (by repeat' (first | (with_reducible exact Below.refl _ _) | (with_reducible assumption) | (with_reducible refine Below.alloc ?_ ?_ _) | (with_reducible refine Below.drew ?_) | (with_reducible refine below_drewN ?_ _) | (with_reducible refine Below.setCell ?_ ?_ _) | go_size))⟩
  · rcases h1 : inB 0 10000 n with _ | _
    · rw [show vSS d n = false from vSS_n (inB_bad.1 h1)]
      try simp only [oFor_false]
      go_enter Try.func35, Try.ntmps35
      go_wp2_with fail
      ((with_reducible refine (nuGood_any d _).mono ?_); rintro e w0 ⟨rfl, rfl⟩)
      go_wp2_with fail
      ((with_reducible refine (l1In_any _ _ _ _).mono ?_); rintro e w0 ⟨rfl, rfl⟩)
      go_wp2
      go_ret2
      exact ⟨rfl, (by repeat' (first | (with_reducible exact Below.refl _ _) | (with_reducible assumption) | (with_reducible refine Below.alloc ?_ ?_ _) | (with_reducible refine Below.drew ?_) | (with_reducible refine below_drewN ?_ _) | (with_reducible refine Below.setCell ?_ ?_ _) | go_size))⟩
    · have hd := good_iff.1 h0
      have hn := inB_iff.1 h1
      rw [vSS_ok h0 hn.1 hn.2, oFor_true]
      go_enter Try.func35, Try.ntmps35
      go_wp2_with fail
      ((with_reducible refine (nuGood_any d _).mono ?_); rintro e w0 ⟨rfl, rfl⟩)
      go_wp2_with fail
      ((with_reducible refine (l1In_any _ _ _ _).mono ?_); rintro e w0 ⟨rfl, rfl⟩)
      go_wp2
      go_loopw [6, 7] (fun s t wr => ∃ k : Nat, s = .int .i64 (ssN d k) ∧ t = .int .i64 ((k : Int) + 1) ∧ (k : Int) ≤ n ∧ Below w.heap.size w wr) (fun _ t _ => (n + 1).toNat - (intOf t).toNat)
      case atStart => exact ⟨0, rfl, rfl, by omega, (by repeat' (first | (with_reducible exact Below.refl _ _) | (with_reducible assumption) | (with_reducible refine Below.alloc ?_ ?_ _) | (with_reducible refine Below.drew ?_) | (with_reducible refine below_drewN ?_ _) | (with_reducible refine Below.setCell ?_ ?_ _) | go_size))⟩
      case round =>
        obtain ⟨k, rfl, rfl, kl, bw⟩ := hrel
        have sb := ssN_bd d k
        have kb := kr_bd d ((k : Int) + 1)
        by_cases hk : (k : Int) = n
        · have HV := Lib.hid (show ssN d n.toNat = ssN d k by congr 1; omega)
          have hk1 : n < ((k : Int) + 1) := by omega
          clear hk
          go_wp2
          go_ret2
          exact ⟨by rw [HV.out]; try rfl, bw⟩
        · have hk1 : ((k : Int) + 1) ≤ n := by omega
          have HV := Lib.hid (show ssN d (k + 1) = ssN d k + kr d ((k : Int) + 1) from rfl)
          clear hk
          go_wp2_with fail
          ((with_reducible refine (syKronecker_any _ _ _ hd.1 hd.2 (by omega) (by omega)).mono ?_); rintro e w1 ⟨rfl, hb1⟩)
          go_wp2
          go_roundw
          case rel => exact ⟨k + 1, by rw [HV.out]; try rfl, by go_num, by omega, bw.trans (hb1.mono bw.size)⟩
          case measure => simp only [intOf]; omega
theorem implSS_any (d n : Int) (w : World) : Calls Try.prog 36 #[.int .i64 d, .int .i64 n] w fun e w' =>
    e = .returned (.tuple #[.int .i64 (oFor (vSS d n) (ssN d n.toNat)), .bool (vSS d n)]) ∧ Below w.heap.size w w' := by
  rcases h0 : good d with _ | _
  · rw [show vSS d n = false from vSS_d h0]
    try simp only [oFor_false]
    go_enter Try.func36, Try.ntmps36
    go_wp2_with fail
    ((with_reducible refine (are1 d _ _ (by simp)).mono ?_); rintro e w0 ⟨rfl, rfl⟩)
    go_wp2
    go_ret2
    exact ⟨rfl, (by repeat' (first | (with_reducible exact Below.refl _ _) | (with_reducible assumption) | (with_reducible refine Below.alloc ?_ ?_ _) | (with_reducible refine Below.drew ?_) | (with_reducible refine below_drewN ?_ _) | (with_reducible refine Below.setCell ?_ ?_ _) | go_size))⟩
  · by_cases h1 : n < 0
    · rw [show vSS d n = false from vSS_n (by omega)]
      try simp only [oFor_false]
      go_enter Try.func36, Try.ntmps36
      go_wp2_with fail
      ((with_reducible refine (are1 d _ _ (by simp)).mono ?_); rintro e w0 ⟨rfl, rfl⟩)
      go_wp2
      go_ret2
      exact ⟨rfl, (by repeat' (first | (with_reducible exact Below.refl _ _) | (with_reducible assumption) | (with_reducible refine Below.alloc ?_ ?_ _) | (with_reducible refine Below.drew ?_) | (with_reducible refine below_drewN ?_ _) | (with_reducible refine Below.setCell ?_ ?_ _) | go_size))⟩
    · by_cases h2 : 10000 < n
      · rw [show vSS d n = false from vSS_n (by omega)]
        try simp only [oFor_false]
        go_enter Try.func36, Try.ntmps36
        go_wp2_with fail
        ((with_reducible refine (are1 d _ _ (by simp)).mono ?_); rintro e w0 ⟨rfl, rfl⟩)
        go_wp2
        go_ret2
        exact ⟨rfl, (by repeat' (first | (with_reducible exact Below.refl _ _) | (with_reducible assumption) | (with_reducible refine Below.alloc ?_ ?_ _) | (with_reducible refine Below.drew ?_) | (with_reducible refine below_drewN ?_ _) | (with_reducible refine Below.setCell ?_ ?_ _) | go_size))⟩
      · have hd := good_iff.1 h0
        rw [vSS_ok h0 (by omega) (by omega), oFor_true]
        go_enter Try.func36, Try.ntmps36
        go_wp2_with fail
        ((with_reducible refine (are1 d _ _ (by simp)).mono ?_); rintro e w0 ⟨rfl, rfl⟩)
        go_wp2
        go_loopw [6, 7] (fun s t wr => ∃ k : Nat, s = .int .i64 (ssN d k) ∧ t = .int .i64 ((k : Int) + 1) ∧ (k : Int) ≤ n ∧ Below w.heap.size w wr) (fun _ t _ => (n + 1).toNat - (intOf t).toNat)
        case atStart => exact ⟨0, rfl, rfl, by omega, (by repeat' (first | (with_reducible exact Below.refl _ _) | (with_reducible assumption) | (with_reducible refine Below.alloc ?_ ?_ _) | (with_reducible refine Below.drew ?_) | (with_reducible refine below_drewN ?_ _) | (with_reducible refine Below.setCell ?_ ?_ _) | go_size))⟩
        case round =>
          obtain ⟨k, rfl, rfl, kl, bw⟩ := hrel
          have sb := ssN_bd d k
          have kb := kr_bd d ((k : Int) + 1)
          by_cases hk : (k : Int) = n
          · have HV := Lib.hid (show ssN d n.toNat = ssN d k by congr 1; omega)
            have hk1 : n < ((k : Int) + 1) := by omega
            clear hk
            go_wp2
            go_ret2
            exact ⟨by rw [HV.out]; try rfl, bw⟩
          · have hk1 : ((k : Int) + 1) ≤ n := by omega
            have HV := Lib.hid (show ssN d (k + 1) = ssN d k + kr d ((k : Int) + 1) from rfl)
            clear hk
            go_wp2_with fail
            ((with_reducible refine (kronecker_any _ _ _ hd.1 hd.2 (by omega) (by omega)).mono ?_); rintro e w1 ⟨rfl, rfl⟩)
            go_wp2
            go_roundw
            case rel => exact ⟨k + 1, by rw [HV.out]; try rfl, by go_num, by omega, bw⟩
            case measure => simp only [intOf]; omega
theorem law_FnExactSymbolSum (d n : Int) (w : World) (ib_d : In64 d) (ib_n : In64 n) : Calls Try.prog 13 #[.int .i64 d, .int .i64 n] w fun e w' => e = .returned (.bool true) ∧ Below w.heap.size w w' := by
  go_enter Try.func13, Try.ntmps13
  go_wp2_with fail
  ((with_reducible refine (specSS_any _ _ _).mono ?_); rintro e w1 ⟨rfl, hb1⟩)
  obtain ⟨hc1, hf1⟩ := bcell hb1
  have hz1 := hb1.size
  try simp only [World.size_alloc, World.size_drew, World.size_setCell] at hz1
  try have hs1 : w.heap.size < w1.heap.size := by omega
  have bl1 : Below w.heap.size w w1 := Below.trans (by go_grown) (hb1.mono (by go_size))
  go_wp2_with fail
  ((with_reducible refine (implSS_any _ _ _).mono ?_); rintro e w2 ⟨rfl, hb2⟩)
  obtain ⟨hc2, hf2⟩ := bcell hb2
  have hz2 := hb2.size
  try simp only [World.size_alloc, World.size_drew, World.size_setCell] at hz2
  try have hs2 : w.heap.size < w2.heap.size := by omega
  have bl2 : Below w.heap.size w w2 := Below.trans (by go_grown) (hb2.mono (by go_size))
  go_wp2
  go_ret
  exact ⟨rfl, (by repeat' (first | (with_reducible exact Below.refl _ _) | (with_reducible assumption) | (with_reducible refine Below.alloc ?_ ?_ _) | (with_reducible refine Below.drew ?_) | (with_reducible refine below_drewN ?_ _) | (with_reducible refine Below.setCell ?_ ?_ _) | go_size))⟩
end Go.Proofs.Ytbiaokglmdmopaa
