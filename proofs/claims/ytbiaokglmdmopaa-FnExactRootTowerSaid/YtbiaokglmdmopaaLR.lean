/-
  'LiftRoot': its contracts and its law's walk.
-/
import Derived.Test.YtbiaokglmdmopaaLf
import Derived.Test.YtbiaokglmdmopaaPw
import Derived.Test.YtbiaokglmdmopaaLS
import Derived.Test.YtbiaokglmdmopaaRt
namespace Go.Proofs.Ytbiaokglmdmopaa
open Go.RowKit
set_option linter.unusedSimpArgs false
set_option linter.unusedVariables false

def fldB (a p : Int) : Bool := (good a && oddP p) && !(a.tmod p == 0)
theorem fldB_a {a p : Int} (h : good a = false) : fldB a p = false := by simp [fldB, h]
theorem fldB_p {a p : Int} (h : oddP p = false) : fldB a p = false := by simp [fldB, h]
theorem fldB_d {a p : Int} (h : (a.tmod p == 0) = true) : fldB a p = false := by simp only [fldB, h]; simp
theorem fldB_ok {a p : Int} (h0 : good a = true) (h1 : oddP p = true) (h : (a.tmod p == 0) = false) : fldB a p = true := by simp only [fldB, h0, h1, h]; rfl
theorem fldB_iff {a p : Int} : fldB a p = true ↔ good a = true ∧ oddP p = true ∧ (a.tmod p == 0) = false := by
  simp only [fldB, Bool.and_eq_true, Bool.not_eq_true', and_assoc]
theorem not_true {b : Bool} (h : b = true → False) : b = false := by
  rcases b with _ | _
  · rfl
  · exact (h rfl).elim
theorem pow_succ_toNat {p k : Int} (k0 : 0 ≤ k) : p ^ (k + 1).toNat = p ^ k.toNat * p := by
  rw [show (k + 1).toNat = k.toNat + 1 by omega, Int.pow_succ]
theorem LiI.of {a p k x : Int} (h : fldB a p = true) (k1 : 1 ≤ k) (hp : p ^ (k + 1).toNat ≤ 1000000) (hx : rootB a x (p ^ k.toNat) = true) : LiI a p (p ^ k.toNat) x := by
  obtain ⟨h0, h1, h2⟩ := fldB_iff.1 h
  have hb := oddP_bd h1
  obtain ⟨⟨x0, x1⟩, hr⟩ := rootB_iff.1 hx
  have hd : p ∣ p ^ k.toNat := by
    rw [show k.toNat = (k.toNat - 1) + 1 by omega, Int.pow_succ]
    exact Int.dvd_mul_left _ _
  exact ⟨oddP_Pr h1, hb.2.2, hb.1, pow_one_le hb.1 _, hd, x0, x1, Int.dvd_of_tmod_eq_zero hr, fun hn => by rw [beq_eq_false_iff_ne] at h2; exact h2 (Int.tmod_eq_zero_of_dvd hn)⟩
def vLR (a p k x : Int) : Bool := (fldB a p && decide (1 ≤ k)) && (decide (p ^ (k + 1).toNat ≤ 1000000) && rootB a x (p ^ k.toNat))
/-- what a true test says -/
structure LR (a p k x : Int) : Prop where
  fl : fldB a p = true
  k1 : 1 ≤ k
  pw : p ^ (k + 1).toNat ≤ 1000000
  rt : rootB a x (p ^ k.toNat) = true
theorem vLR_iff {a p k x : Int} : vLR a p k x = true ↔ LR a p k x := by
  simp only [vLR, Bool.and_eq_true, decide_eq_true_eq]
  exact ⟨fun ⟨⟨h1, h2⟩, h3, h4⟩ => ⟨h1, h2, h3, h4⟩, fun ⟨h1, h2, h3, h4⟩ => ⟨⟨h1, h2⟩, h3, h4⟩⟩
theorem LR.kb {a p k x : Int} (h : LR a p k x) : k ≤ 11 := by
  have hb := oddP_bd (fldB_iff.1 h.fl).2.1
  have := pow_small hb.1 h.pw
  have := h.k1
  omega
theorem LR.gk {a p k x : Int} (h : LR a p k x) : good k = true := by
  have := h.kb
  have := h.k1
  exact good_of (by omega) (by omega)
theorem LR.mb {a p k x : Int} (h : LR a p k x) : p ^ k.toNat ≤ 1000000 := by
  have hb := oddP_bd (fldB_iff.1 h.fl).2.1
  have h1 := pow_mono hb.1 (show k.toNat ≤ (k + 1).toNat by omega)
  have := h.pw
  omega
theorem LR.gx {a p k x : Int} (h : LR a p k x) : good x = true := by
  have h1 := (rootB_iff.1 h.rt).1
  have h2 := h.mb
  exact good_of (by omega) (by omega)
def liW (a p k x : Int) : Int := liV a p (p ^ k.toNat) x
theorem roPower_is (p k : Int) (w : World) {q : Int} (p1 : 3 ≤ p) (p2 : p ≤ 1000000) (k1 : 0 ≤ k) (k2 : k ≤ 1000001) (hq : p ^ k.toNat = q) (h : q ≤ 1000000) :
    Calls Try.prog 61 #[.int .i64 p, .int .i64 k] w fun e w' => e = .returned (.int .i64 q) ∧ w = w' := by
  subst hq; exact roPower_yes p k w p1 p2 k1 k2 h
theorem powerWithin_is (p k : Int) (w : World) {q : Int} (p1 : 3 ≤ p) (p2 : p ≤ 1000000) (k1 : 0 ≤ k) (k2 : k ≤ 1000001) (hq : p ^ k.toNat = q) (h : q ≤ 1000000) :
    Calls Try.prog 64 #[.int .i64 p, .int .i64 k] w fun e w' => e = .returned (.tuple #[.int .i64 q, .bool true]) ∧ w = w' := by
  subst hq; exact powerWithin_yes p k w p1 p2 k1 k2 h
theorem roField_any (a p : Int) (w : World) (i1 : In64 p) : Calls Try.prog 60 #[.int .i64 a, .int .i64 p] w fun e w' => e = .returned (.bool (fldB a p)) ∧ Below w.heap.size w w' := by
  rcases h0 : good a with _ | _
  · rw [fldB_a h0]
    go_enter Try.func60, Try.ntmps60
    go_wp2_with fail
    ((with_reducible refine (nuGood_any a _).mono ?_); rintro e w0 ⟨rfl, rfl⟩)
    go_wp2
    go_ret
    exact ⟨rfl, (by repeat' (first | (with_reducible exact Below.refl _ _) | (with_reducible assumption) | (with_reducible refine Below.alloc ?_ ?_ _) | (with_reducible refine Below.drew ?_) | (with_reducible refine below_drewN ?_ _) | (with_reducible refine Below.setCell ?_ ?_ _) | go_size))⟩
  · rcases h1 : oddP p with _ | _
    · rw [fldB_p h1]
      go_enter Try.func60, Try.ntmps60
      go_wp2_with fail
      ((with_reducible refine (nuGood_any a _).mono ?_); rintro e w0 ⟨rfl, rfl⟩)
      go_wp2_with fail
      ((with_reducible refine (syOddPrime_any p _ i1).mono ?_); rintro e w1 ⟨rfl, hb1⟩)
      obtain ⟨hc1, hf1⟩ := bcell hb1
      have hz1 := hb1.size
      try simp only [World.size_alloc, World.size_drew, World.size_setCell] at hz1
      try have hs1 : w.heap.size < w1.heap.size := by omega
      have bl1 : Below w.heap.size w w1 := Below.trans (by go_grown) (hb1.mono (by go_size))
      go_wp2
      go_ret
      exact ⟨rfl, (by repeat' (first | (with_reducible exact Below.refl _ _) | (with_reducible assumption) | (with_reducible refine Below.alloc ?_ ?_ _) | (with_reducible refine Below.drew ?_) | (with_reducible refine below_drewN ?_ _) | (with_reducible refine Below.setCell ?_ ?_ _) | go_size))⟩
    · have ha := good_iff.1 h0
      have hn := oddP_bd h1
      have p0 : p ≠ 0 := by omega
      rcases h2 : (a.tmod p == 0) with _ | _
      · rw [fldB_ok h0 h1 h2]
        have h3 : (a.tmod p != 0) = true := by unfold bne; rw [h2]; rfl
        go_enter Try.func60, Try.ntmps60
        go_wp2_with fail
        ((with_reducible refine (nuGood_any a _).mono ?_); rintro e w0 ⟨rfl, rfl⟩)
        go_wp2_with fail
        ((with_reducible refine (syOddPrime_any p _ i1).mono ?_); rintro e w1 ⟨rfl, hb1⟩)
        obtain ⟨hc1, hf1⟩ := bcell hb1
        have hz1 := hb1.size
        try simp only [World.size_alloc, World.size_drew, World.size_setCell] at hz1
        try have hs1 : w.heap.size < w1.heap.size := by omega
        have bl1 : Below w.heap.size w w1 := Below.trans (by go_grown) (hb1.mono (by go_size))
        go_wp2
        go_ret
        exact ⟨rfl, (by repeat' (first | (with_reducible exact Below.refl _ _) | (with_reducible assumption) | (with_reducible refine Below.alloc ?_ ?_ _) | (with_reducible refine Below.drew ?_) | (with_reducible refine below_drewN ?_ _) | (with_reducible refine Below.setCell ?_ ?_ _) | go_size))⟩
      · rw [fldB_d h2]
        have h3 : (a.tmod p != 0) = false := by unfold bne; rw [h2]; rfl
        go_enter Try.func60, Try.ntmps60
        go_wp2_with fail
        ((with_reducible refine (nuGood_any a _).mono ?_); rintro e w0 ⟨rfl, rfl⟩)
        go_wp2_with fail
        ((with_reducible refine (syOddPrime_any p _ i1).mono ?_); rintro e w1 ⟨rfl, hb1⟩)
        obtain ⟨hc1, hf1⟩ := bcell hb1
        have hz1 := hb1.size
        try simp only [World.size_alloc, World.size_drew, World.size_setCell] at hz1
        try have hs1 : w.heap.size < w1.heap.size := by omega
        have bl1 : Below w.heap.size w w1 := Below.trans (by go_grown) (hb1.mono (by go_size))
        go_wp2
        go_ret
        exact ⟨rfl, (by repeat' (first | (with_reducible exact Below.refl _ _) | (with_reducible assumption) | (with_reducible refine Below.alloc ?_ ?_ _) | (with_reducible refine Below.drew ?_) | (with_reducible refine below_drewN ?_ _) | (with_reducible refine Below.setCell ?_ ?_ _) | go_size))⟩
set_option maxHeartbeats 800000 in
theorem specLR_any (a p k x : Int) (w : World) (i1 : In64 p) (ix : In64 x) : Calls Try.prog 25 #[.int .i64 a, .int .i64 p, .int .i64 k, .int .i64 x] w fun e w' =>
    e = .returned (.tuple #[.int .i64 (oFor (vLR a p k x) (liW a p k x)), .bool (vLR a p k x)]) ∧ Below w.heap.size w w' := by
  rcases h0 : fldB a p with _ | _
  · rw [show vLR a p k x = false from not_true fun hh => (by have hv := vLR_iff.1 hh; have h9 := hv.fl; rw [h0] at h9; cases h9), oFor_false]
    go_enter Try.func25, Try.ntmps25
    go_wp2_with fail
    ((with_reducible refine (roField_any a p _ i1).mono ?_); rintro e w1 ⟨rfl, hb1⟩)
    obtain ⟨hc1, hf1⟩ := bcell hb1
    have hz1 := hb1.size
    try simp only [World.size_alloc, World.size_drew, World.size_setCell] at hz1
    try have hs1 : w.heap.size < w1.heap.size := by omega
    have bl1 : Below w.heap.size w w1 := Below.trans (by go_grown) (hb1.mono (by go_size))
    go_wp2
    go_ret2
    exact ⟨rfl, (by repeat' (first | (with_reducible exact Below.refl _ _) | (with_reducible assumption) | (with_reducible refine Below.alloc ?_ ?_ _) | (with_reducible refine Below.drew ?_) | (with_reducible refine below_drewN ?_ _) | (with_reducible refine Below.setCell ?_ ?_ _) | go_size))⟩
  · have hf := fldB_iff.1 h0
    have hn := oddP_bd hf.2.1
    have ha := good_iff.1 hf.1
    rcases h1 : inB 1 20 k with _ | _
    · rw [show vLR a p k x = false from not_true fun hh => (by have hv := vLR_iff.1 hh; have h8 := hv.kb; have h9 := hv.k1; have := inB_bad.1 h1; omega), oFor_false]
      go_enter Try.func25, Try.ntmps25
      go_wp2_with fail
      ((with_reducible refine (roField_any a p _ i1).mono ?_); rintro e w1 ⟨rfl, hb1⟩)
      obtain ⟨hc1, hf1⟩ := bcell hb1
      have hz1 := hb1.size
      try simp only [World.size_alloc, World.size_drew, World.size_setCell] at hz1
      try have hs1 : w.heap.size < w1.heap.size := by omega
      have bl1 : Below w.heap.size w w1 := Below.trans (by go_grown) (hb1.mono (by go_size))
      go_wp2_with fail
      ((with_reducible refine (l1In_any _ _ _ _).mono ?_); rintro e w0 ⟨rfl, rfl⟩)
      go_wp2
      go_ret2
      exact ⟨rfl, (by repeat' (first | (with_reducible exact Below.refl _ _) | (with_reducible assumption) | (with_reducible refine Below.alloc ?_ ?_ _) | (with_reducible refine Below.drew ?_) | (with_reducible refine below_drewN ?_ _) | (with_reducible refine Below.setCell ?_ ?_ _) | go_size))⟩
    · have hk := inB_iff.1 h1
      have hq1 := pow_one_le hn.1 (k + 1).toNat
      by_cases h2 : 1000000 < p ^ (k + 1).toNat
      · rw [show vLR a p k x = false from not_true fun hh => (by have hv := vLR_iff.1 hh; have h9 := hv.pw; omega), oFor_false]
        have H2 := Lib.hid h2
        clear h2 hq1
        go_enter Try.func25, Try.ntmps25
        go_wp2_with fail
        ((with_reducible refine (roField_any a p _ i1).mono ?_); rintro e w1 ⟨rfl, hb1⟩)
        obtain ⟨hc1, hf1⟩ := bcell hb1
        have hz1 := hb1.size
        try simp only [World.size_alloc, World.size_drew, World.size_setCell] at hz1
        try have hs1 : w.heap.size < w1.heap.size := by omega
        have bl1 : Below w.heap.size w w1 := Below.trans (by go_grown) (hb1.mono (by go_size))
        go_wp2_with fail
        ((with_reducible refine (l1In_any _ _ _ _).mono ?_); rintro e w0 ⟨rfl, rfl⟩)
        go_wp2_with fail
        ((with_reducible refine (roPower_no p (k + 1) _ (by omega) (by omega) (by omega) (by omega) H2.out).mono ?_); rintro e w0 ⟨rfl, rfl⟩)
        go_wp2
        go_ret2
        exact ⟨rfl, (by repeat' (first | (with_reducible exact Below.refl _ _) | (with_reducible assumption) | (with_reducible refine Below.alloc ?_ ?_ _) | (with_reducible refine Below.drew ?_) | (with_reducible refine below_drewN ?_ _) | (with_reducible refine Below.setCell ?_ ?_ _) | go_size))⟩
      · have hmb : p ^ k.toNat ≤ 1000000 := by have h1 := pow_mono hn.1 (show k.toNat ≤ (k + 1).toNat by omega); omega
        have hm1 := pow_one_le hn.1 k.toNat
        have hqe := pow_succ_toNat (p := p) (show 0 ≤ k by omega)
        rcases h3 : rootB a x (p ^ k.toNat) with _ | _
        · rw [show vLR a p k x = false from not_true fun hh => (by have hv := vLR_iff.1 hh; have h9 := hv.rt; rw [h3] at h9; cases h9), oFor_false]
          obtain ⟨m, hm⟩ : ∃ m, p ^ k.toNat = m := ⟨_, rfl⟩
          obtain ⟨q, hq⟩ : ∃ q, p ^ (k + 1).toNat = q := ⟨_, rfl⟩
          rw [hq] at h2 hq1 hqe
          rw [hm] at hmb hm1 hqe h3
          have HM := Lib.hid hm
          have HQ := Lib.hid hq
          have hq0 : (q == 0) = false := by rw [beq_eq_false_iff_ne]; omega
          have hmp : m * p ≤ 1000000 := by omega
          clear hm hq hqe
          go_enter Try.func25, Try.ntmps25
          go_wp2_with fail
          ((with_reducible refine (roField_any a p _ i1).mono ?_); rintro e w1 ⟨rfl, hb1⟩)
          obtain ⟨hc1, hf1⟩ := bcell hb1
          have hz1 := hb1.size
          try simp only [World.size_alloc, World.size_drew, World.size_setCell] at hz1
          try have hs1 : w.heap.size < w1.heap.size := by omega
          have bl1 : Below w.heap.size w w1 := Below.trans (by go_grown) (hb1.mono (by go_size))
          go_wp2_with fail
          ((with_reducible refine (l1In_any _ _ _ _).mono ?_); rintro e w0 ⟨rfl, rfl⟩)
          go_wp2_with fail
          ((with_reducible refine (roPower_is p (k + 1) _ (by omega) (by omega) (by omega) (by omega) HQ.out (by omega)).mono ?_); rintro e w0 ⟨rfl, rfl⟩)
          go_wp2_with fail
          ((with_reducible refine (roPower_is p k _ (by omega) (by omega) (by omega) (by omega) HM.out (by omega)).mono ?_); rintro e w0 ⟨rfl, rfl⟩)
          go_wp2_with fail
          ((with_reducible refine (roRoot_any a x m _ ix ha.1 ha.2 (by omega) (by omega)).mono ?_); rintro e w0 ⟨rfl, rfl⟩)
          go_wp2
          go_ret2
          exact ⟨rfl, (by repeat' (first | (with_reducible exact Below.refl _ _) | (with_reducible assumption) | (with_reducible refine Below.alloc ?_ ?_ _) | (with_reducible refine Below.drew ?_) | (with_reducible refine below_drewN ?_ _) | (with_reducible refine Below.setCell ?_ ?_ _) | go_size))⟩
        · have hl := LiI.of h0 (by omega) (by omega) h3
          rw [show vLR a p k x = true from vLR_iff.2 ⟨h0, by omega, by omega, h3⟩, oFor_true]
          unfold liW
          obtain ⟨m, hm⟩ : ∃ m, p ^ k.toNat = m := ⟨_, rfl⟩
          obtain ⟨q, hq⟩ : ∃ q, p ^ (k + 1).toNat = q := ⟨_, rfl⟩
          rw [hq] at h2 hq1 hqe
          rw [hm] at hmb hm1 hqe h3 hl ⊢
          have HM := Lib.hid hm
          have HQ := Lib.hid hq
          have hq0 : (q == 0) = false := by rw [beq_eq_false_iff_ne]; omega
          have hmp : m * p ≤ 1000000 := by omega
          clear hm hq hqe
          go_enter Try.func25, Try.ntmps25
          go_wp2_with fail
          ((with_reducible refine (roField_any a p _ i1).mono ?_); rintro e w1 ⟨rfl, hb1⟩)
          obtain ⟨hc1, hf1⟩ := bcell hb1
          have hz1 := hb1.size
          try simp only [World.size_alloc, World.size_drew, World.size_setCell] at hz1
          try have hs1 : w.heap.size < w1.heap.size := by omega
          have bl1 : Below w.heap.size w w1 := Below.trans (by go_grown) (hb1.mono (by go_size))
          go_wp2_with fail
          ((with_reducible refine (l1In_any _ _ _ _).mono ?_); rintro e w0 ⟨rfl, rfl⟩)
          go_wp2_with fail
          ((with_reducible refine (roPower_is p (k + 1) _ (by omega) (by omega) (by omega) (by omega) HQ.out (by omega)).mono ?_); rintro e w0 ⟨rfl, rfl⟩)
          go_wp2_with fail
          ((with_reducible refine (roPower_is p k _ (by omega) (by omega) (by omega) (by omega) HM.out (by omega)).mono ?_); rintro e w0 ⟨rfl, rfl⟩)
          go_wp2_with fail
          ((with_reducible refine (roRoot_any a x m _ ix ha.1 ha.2 (by omega) (by omega)).mono ?_); rintro e w0 ⟨rfl, rfl⟩)
          go_wp2_with fail
          ((with_reducible refine (roPower_is p k _ (by omega) (by omega) (by omega) (by omega) HM.out (by omega)).mono ?_); rintro e w0 ⟨rfl, rfl⟩)
          go_wp2_with fail
          ((with_reducible refine (roLift_any a p m x _ hl ha.1 ha.2 hmp).mono ?_); rintro e w0 ⟨rfl, rfl⟩)
          go_wp2
          go_ret2
          exact ⟨rfl, (by repeat' (first | (with_reducible exact Below.refl _ _) | (with_reducible assumption) | (with_reducible refine Below.alloc ?_ ?_ _) | (with_reducible refine Below.drew ?_) | (with_reducible refine below_drewN ?_ _) | (with_reducible refine Below.setCell ?_ ?_ _) | go_size))⟩
set_option maxHeartbeats 1600000 in
theorem implLR_any (a p k x : Int) (w : World) (ix : In64 x) : Calls Try.prog 26 #[.int .i64 a, .int .i64 p, .int .i64 k, .int .i64 x] w fun e w' =>
    e = .returned (.tuple #[.int .i64 (oFor (vLR a p k x) (liW a p k x)), .bool (vLR a p k x)]) ∧ Below w.heap.size w w' := by
  rcases h0 : good a with _ | _
  · rw [show vLR a p k x = false from not_true fun hh => (by have hv := vLR_iff.1 hh; have h9 := (fldB_iff.1 hv.fl).1; rw [h0] at h9; cases h9), oFor_false]
    go_enter Try.func26, Try.ntmps26
    go_wp2_with fail
    ((with_reducible refine (are3 a k x _ _ (by simp) (by simp) (by simp)).mono ?_); rintro e w0 ⟨rfl, rfl⟩)
    go_wp2
    go_ret2
    exact ⟨rfl, (by repeat' (first | (with_reducible exact Below.refl _ _) | (with_reducible assumption) | (with_reducible refine Below.alloc ?_ ?_ _) | (with_reducible refine Below.drew ?_) | (with_reducible refine below_drewN ?_ _) | (with_reducible refine Below.setCell ?_ ?_ _) | go_size))⟩
  · rcases h1 : good k with _ | _
    · rw [show vLR a p k x = false from not_true fun hh => (by have hv := vLR_iff.1 hh; have h9 := hv.gk; rw [h1] at h9; cases h9), oFor_false]
      go_enter Try.func26, Try.ntmps26
      go_wp2_with fail
      ((with_reducible refine (are3 a k x _ _ (by simp) (by simp) (by simp)).mono ?_); rintro e w0 ⟨rfl, rfl⟩)
      go_wp2
      go_ret2
      exact ⟨rfl, (by repeat' (first | (with_reducible exact Below.refl _ _) | (with_reducible assumption) | (with_reducible refine Below.alloc ?_ ?_ _) | (with_reducible refine Below.drew ?_) | (with_reducible refine below_drewN ?_ _) | (with_reducible refine Below.setCell ?_ ?_ _) | go_size))⟩
    · rcases h2 : good x with _ | _
      · rw [show vLR a p k x = false from not_true fun hh => (by have hv := vLR_iff.1 hh; have h9 := hv.gx; rw [h2] at h9; cases h9), oFor_false]
        go_enter Try.func26, Try.ntmps26
        go_wp2_with fail
        ((with_reducible refine (are3 a k x _ _ (by simp) (by simp) (by simp)).mono ?_); rintro e w0 ⟨rfl, rfl⟩)
        go_wp2
        go_ret2
        exact ⟨rfl, (by repeat' (first | (with_reducible exact Below.refl _ _) | (with_reducible assumption) | (with_reducible refine Below.alloc ?_ ?_ _) | (with_reducible refine Below.drew ?_) | (with_reducible refine below_drewN ?_ _) | (with_reducible refine Below.setCell ?_ ?_ _) | go_size))⟩
      · rcases h3 : oddP p with _ | _
        · rw [show vLR a p k x = false from not_true fun hh => (by have hv := vLR_iff.1 hh; have h9 := (fldB_iff.1 hv.fl).2.1; rw [h3] at h9; cases h9), oFor_false]
          go_enter Try.func26, Try.ntmps26
          go_wp2_with fail
          ((with_reducible refine (are3 a k x _ _ (by simp) (by simp) (by simp)).mono ?_); rintro e w0 ⟨rfl, rfl⟩)
          go_wp2_with fail
          ((with_reducible refine (isOddPrime_any p _).mono ?_); rintro e w1 ⟨rfl, hb1⟩)
          obtain ⟨hc1, hf1⟩ := bcell hb1
          have hz1 := hb1.size
          try simp only [World.size_alloc, World.size_drew, World.size_setCell] at hz1
          try have hs1 : w.heap.size < w1.heap.size := by omega
          have bl1 : Below w.heap.size w w1 := Below.trans (by go_grown) (hb1.mono (by go_size))
          go_wp2
          go_ret2
          exact ⟨rfl, (by repeat' (first | (with_reducible exact Below.refl _ _) | (with_reducible assumption) | (with_reducible refine Below.alloc ?_ ?_ _) | (with_reducible refine Below.drew ?_) | (with_reducible refine below_drewN ?_ _) | (with_reducible refine Below.setCell ?_ ?_ _) | go_size))⟩
        · have ha := good_iff.1 h0
          have hn := oddP_bd h3
          have p0 : p ≠ 0 := by omega
          have hk := good_iff.1 h1
          rcases h4 : (a.tmod p == 0) with _ | _
          · by_cases h5 : k < 1
            · rw [show vLR a p k x = false from not_true fun hh => (by have hv := vLR_iff.1 hh; have h9 := hv.k1; omega), oFor_false]
              go_enter Try.func26, Try.ntmps26
              go_wp2_with fail
              ((with_reducible refine (are3 a k x _ _ (by simp) (by simp) (by simp)).mono ?_); rintro e w0 ⟨rfl, rfl⟩)
              go_wp2_with fail
              ((with_reducible refine (isOddPrime_any p _).mono ?_); rintro e w1 ⟨rfl, hb1⟩)
              obtain ⟨hc1, hf1⟩ := bcell hb1
              have hz1 := hb1.size
              try simp only [World.size_alloc, World.size_drew, World.size_setCell] at hz1
              try have hs1 : w.heap.size < w1.heap.size := by omega
              have bl1 : Below w.heap.size w w1 := Below.trans (by go_grown) (hb1.mono (by go_size))
              go_wp2
              go_ret2
              exact ⟨rfl, (by repeat' (first | (with_reducible exact Below.refl _ _) | (with_reducible assumption) | (with_reducible refine Below.alloc ?_ ?_ _) | (with_reducible refine Below.drew ?_) | (with_reducible refine below_drewN ?_ _) | (with_reducible refine Below.setCell ?_ ?_ _) | go_size))⟩
            · have h0' := fldB_ok h0 h3 h4
              have hq1 := pow_one_le hn.1 (k + 1).toNat
              by_cases h6 : 1000000 < p ^ (k + 1).toNat
              · rw [show vLR a p k x = false from not_true fun hh => (by have hv := vLR_iff.1 hh; have h9 := hv.pw; omega), oFor_false]
                have H6 := Lib.hid h6
                clear h6 hq1
                go_enter Try.func26, Try.ntmps26
                go_wp2_with fail
                ((with_reducible refine (are3 a k x _ _ (by simp) (by simp) (by simp)).mono ?_); rintro e w0 ⟨rfl, rfl⟩)
                go_wp2_with fail
                ((with_reducible refine (isOddPrime_any p _).mono ?_); rintro e w1 ⟨rfl, hb1⟩)
                obtain ⟨hc1, hf1⟩ := bcell hb1
                have hz1 := hb1.size
                try simp only [World.size_alloc, World.size_drew, World.size_setCell] at hz1
                try have hs1 : w.heap.size < w1.heap.size := by omega
                have bl1 : Below w.heap.size w w1 := Below.trans (by go_grown) (hb1.mono (by go_size))
                go_wp2_with fail
                ((with_reducible refine (powerWithin_no p (k + 1) _ (by omega) (by omega) (by omega) (by omega) H6.out).mono ?_); rintro e w0 ⟨rfl, rfl⟩)
                go_wp2
                go_ret2
                exact ⟨rfl, (by repeat' (first | (with_reducible exact Below.refl _ _) | (with_reducible assumption) | (with_reducible refine Below.alloc ?_ ?_ _) | (with_reducible refine Below.drew ?_) | (with_reducible refine below_drewN ?_ _) | (with_reducible refine Below.setCell ?_ ?_ _) | go_size))⟩
              · have hmb : p ^ k.toNat ≤ 1000000 := by have h1 := pow_mono hn.1 (show k.toNat ≤ (k + 1).toNat by omega); omega
                have hm1 := pow_one_le hn.1 k.toNat
                have hqe := pow_succ_toNat (p := p) (show 0 ≤ k by omega)
                rcases h7 : rootB a x (p ^ k.toNat) with _ | _
                · rw [show vLR a p k x = false from not_true fun hh => (by have hv := vLR_iff.1 hh; have h9 := hv.rt; rw [h7] at h9; cases h9), oFor_false]
                  obtain ⟨m, hm⟩ : ∃ m, p ^ k.toNat = m := ⟨_, rfl⟩
                  obtain ⟨q, hq⟩ : ∃ q, p ^ (k + 1).toNat = q := ⟨_, rfl⟩
                  rw [hq] at h6 hq1 hqe
                  rw [hm] at hmb hm1 hqe h7
                  have HM := Lib.hid hm
                  have HQ := Lib.hid hq
                  have hmp : m * p ≤ 1000000 := by omega
                  clear hm hq hqe
                  go_enter Try.func26, Try.ntmps26
                  go_wp2_with fail
                  ((with_reducible refine (are3 a k x _ _ (by simp) (by simp) (by simp)).mono ?_); rintro e w0 ⟨rfl, rfl⟩)
                  go_wp2_with fail
                  ((with_reducible refine (isOddPrime_any p _).mono ?_); rintro e w1 ⟨rfl, hb1⟩)
                  obtain ⟨hc1, hf1⟩ := bcell hb1
                  have hz1 := hb1.size
                  try simp only [World.size_alloc, World.size_drew, World.size_setCell] at hz1
                  try have hs1 : w.heap.size < w1.heap.size := by omega
                  have bl1 : Below w.heap.size w w1 := Below.trans (by go_grown) (hb1.mono (by go_size))
                  go_wp2_with fail
                  ((with_reducible refine (powerWithin_is p (k + 1) _ (by omega) (by omega) (by omega) (by omega) HQ.out (by omega)).mono ?_); rintro e w0 ⟨rfl, rfl⟩)
                  go_wp2_with fail
                  ((with_reducible refine (powerWithin_is p k _ (by omega) (by omega) (by omega) (by omega) HM.out (by omega)).mono ?_); rintro e w0 ⟨rfl, rfl⟩)
                  go_wp2_with fail
                  ((with_reducible refine (isRoot_any a x m _ ix ha.1 ha.2 (by omega) (by omega)).mono ?_); rintro e w0 ⟨rfl, rfl⟩)
                  go_wp2
                  go_ret2
                  exact ⟨rfl, (by repeat' (first | (with_reducible exact Below.refl _ _) | (with_reducible assumption) | (with_reducible refine Below.alloc ?_ ?_ _) | (with_reducible refine Below.drew ?_) | (with_reducible refine below_drewN ?_ _) | (with_reducible refine Below.setCell ?_ ?_ _) | go_size))⟩
                · have hl := LiI.of h0' (by omega) (by omega) h7
                  rw [show vLR a p k x = true from vLR_iff.2 ⟨h0', by omega, by omega, h7⟩, oFor_true]
                  unfold liW
                  obtain ⟨m, hm⟩ : ∃ m, p ^ k.toNat = m := ⟨_, rfl⟩
                  obtain ⟨q, hq⟩ : ∃ q, p ^ (k + 1).toNat = q := ⟨_, rfl⟩
                  rw [hq] at h6 hq1 hqe
                  rw [hm] at hmb hm1 hqe h7 hl ⊢
                  have HM := Lib.hid hm
                  have HQ := Lib.hid hq
                  have hmp : m * p ≤ 1000000 := by omega
                  clear hm hq hqe
                  go_enter Try.func26, Try.ntmps26
                  go_wp2_with fail
                  ((with_reducible refine (are3 a k x _ _ (by simp) (by simp) (by simp)).mono ?_); rintro e w0 ⟨rfl, rfl⟩)
                  go_wp2_with fail
                  ((with_reducible refine (isOddPrime_any p _).mono ?_); rintro e w1 ⟨rfl, hb1⟩)
                  obtain ⟨hc1, hf1⟩ := bcell hb1
                  have hz1 := hb1.size
                  try simp only [World.size_alloc, World.size_drew, World.size_setCell] at hz1
                  try have hs1 : w.heap.size < w1.heap.size := by omega
                  have bl1 : Below w.heap.size w w1 := Below.trans (by go_grown) (hb1.mono (by go_size))
                  go_wp2_with fail
                  ((with_reducible refine (powerWithin_is p (k + 1) _ (by omega) (by omega) (by omega) (by omega) HQ.out (by omega)).mono ?_); rintro e w0 ⟨rfl, rfl⟩)
                  go_wp2_with fail
                  ((with_reducible refine (powerWithin_is p k _ (by omega) (by omega) (by omega) (by omega) HM.out (by omega)).mono ?_); rintro e w0 ⟨rfl, rfl⟩)
                  go_wp2_with fail
                  ((with_reducible refine (isRoot_any a x m _ ix ha.1 ha.2 (by omega) (by omega)).mono ?_); rintro e w0 ⟨rfl, rfl⟩)
                  go_wp2_with fail
                  ((with_reducible refine (lift_any a p m x _ hl ha.1 ha.2 hmp).mono ?_); rintro e w0 ⟨rfl, rfl⟩)
                  go_wp2
                  go_ret2
                  exact ⟨rfl, (by repeat' (first | (with_reducible exact Below.refl _ _) | (with_reducible assumption) | (with_reducible refine Below.alloc ?_ ?_ _) | (with_reducible refine Below.drew ?_) | (with_reducible refine below_drewN ?_ _) | (with_reducible refine Below.setCell ?_ ?_ _) | go_size))⟩
          · rw [show vLR a p k x = false from not_true fun hh => (by have hv := vLR_iff.1 hh; have h9 := (fldB_iff.1 hv.fl).2.2; rw [h4] at h9; cases h9), oFor_false]
            go_enter Try.func26, Try.ntmps26
            go_wp2_with fail
            ((with_reducible refine (are3 a k x _ _ (by simp) (by simp) (by simp)).mono ?_); rintro e w0 ⟨rfl, rfl⟩)
            go_wp2_with fail
            ((with_reducible refine (isOddPrime_any p _).mono ?_); rintro e w1 ⟨rfl, hb1⟩)
            obtain ⟨hc1, hf1⟩ := bcell hb1
            have hz1 := hb1.size
            try simp only [World.size_alloc, World.size_drew, World.size_setCell] at hz1
            try have hs1 : w.heap.size < w1.heap.size := by omega
            have bl1 : Below w.heap.size w w1 := Below.trans (by go_grown) (hb1.mono (by go_size))
            go_wp2
            go_ret2
            exact ⟨rfl, (by repeat' (first | (with_reducible exact Below.refl _ _) | (with_reducible assumption) | (with_reducible refine Below.alloc ?_ ?_ _) | (with_reducible refine Below.drew ?_) | (with_reducible refine below_drewN ?_ _) | (with_reducible refine Below.setCell ?_ ?_ _) | go_size))⟩
theorem law_FnExactLiftRoot (a p k x : Int) (w : World) (ib_a : In64 a) (ib_p : In64 p) (ib_k : In64 k) (ib_x : In64 x) : Calls Try.prog 8 #[.int .i64 a, .int .i64 p, .int .i64 k, .int .i64 x] w fun e w' => e = .returned (.bool true) ∧ Below w.heap.size w w' := by
  go_enter Try.func8, Try.ntmps8
  go_wp2_with fail
  ((with_reducible refine (specLR_any _ _ _ _ _ (by assumption) (by assumption)).mono ?_); rintro e w1 ⟨rfl, hb1⟩)
  obtain ⟨hc1, hf1⟩ := bcell hb1
  have hz1 := hb1.size
  try simp only [World.size_alloc, World.size_drew, World.size_setCell] at hz1
  try have hs1 : w.heap.size < w1.heap.size := by omega
  have bl1 : Below w.heap.size w w1 := Below.trans (by go_grown) (hb1.mono (by go_size))
  go_wp2_with fail
  ((with_reducible refine (implLR_any _ _ _ _ _ (by assumption)).mono ?_); rintro e w2 ⟨rfl, hb2⟩)
  obtain ⟨hc2, hf2⟩ := bcell hb2
  have hz2 := hb2.size
  try simp only [World.size_alloc, World.size_drew, World.size_setCell] at hz2
  try have hs2 : w.heap.size < w2.heap.size := by omega
  have bl2 : Below w.heap.size w w2 := Below.trans (by go_grown) (hb2.mono (by go_size))
  go_wp2
  go_ret
  exact ⟨rfl, (by repeat' (first | (with_reducible exact Below.refl _ _) | (with_reducible assumption) | (with_reducible refine Below.alloc ?_ ?_ _) | (with_reducible refine Below.drew ?_) | (with_reducible refine below_drewN ?_ _) | (with_reducible refine Below.setCell ?_ ?_ _) | go_size))⟩
end Go.Proofs.Ytbiaokglmdmopaa
