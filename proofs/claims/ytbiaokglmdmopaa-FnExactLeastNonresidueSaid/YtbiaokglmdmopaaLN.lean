/-
  'LeastNonresidue': its contracts and its law's walk.
-/
import Derived.Test.YtbiaokglmdmopaaLS
namespace Go.Proofs.Ytbiaokglmdmopaa
open Go.RowKit
set_option linter.unusedSimpArgs false
set_option linter.unusedVariables false

def lnV (p : Int) : Int := ((((List.range p.toNat).find? fun x : Nat => decide (2 ≤ x) && (Jac.J x p.toNat == -1)).getD 0 : Nat) : Int)
theorem lnV_spec {p : Int} (hp : Jac.Pr p.toNat) (ho : p % 2 = 1) : 2 ≤ lnV p ∧ lnV p < p ∧ Jac.J (lnV p) p.toNat = -1 ∧ ∀ k : Nat, 2 ≤ k → (k : Int) < lnV p → Jac.J k p.toNat ≠ -1 := by
  unfold lnV
  have h2 := hp.1
  obtain ⟨a, a2, ap, aj⟩ := Jac.exists_minus hp (by omega)
  rcases hf : (List.range p.toNat).find? (fun x : Nat => decide (2 ≤ x) && (Jac.J x p.toNat == -1)) with _ | x
  · rw [List.find?_eq_none] at hf
    exact absurd (by simp [a2, aj]) (hf a (List.mem_range.2 ap))
  · rw [List.find?_range_eq_some] at hf
    obtain ⟨h3, h4, h5⟩ := hf
    rw [List.mem_range] at h4
    simp only [Bool.and_eq_true, decide_eq_true_eq, beq_iff_eq] at h3
    simp only [Option.getD_some]
    refine ⟨by omega, by omega, h3.2, fun k k2 kl hk => ?_⟩
    have := h5 k (by omega)
    simp [k2, hk] at this
def vLN (p : Int) : Bool := oddP p
theorem specLN_any (p : Int) (w : World) (i1 : In64 p) : Calls Try.prog 31 #[.int .i64 p] w fun e w' =>
    e = .returned (.tuple #[.int .i64 (oFor (oddP p) (lnV p)), .bool (oddP p)]) ∧ Below w.heap.size w w' := by
  rcases h0 : oddP p with _ | _
  · rw [oFor_false]
    go_enter Try.func31, Try.ntmps31
    go_wp2_with fail
    ((with_reducible refine (syOddPrime_any p _ i1).mono ?_); rintro e w1 ⟨rfl, hb1⟩)
    obtain ⟨hc1, hf1⟩ := bcell hb1
    have hz1 := hb1.size
    try simp only [World.size_alloc, World.size_drew, World.size_setCell] at hz1
    try have hs1 : w.heap.size < w1.heap.size := by omega
    have bl1 : Below w.heap.size w w1 := Below.trans (by go_grown) (hb1.mono (by go_size))
    go_wp2
    go_ret2
    exact ⟨rfl, (by repeat' (first | (with_reducible exact Below.refl _ _) | (with_reducible assumption) | (with_reducible refine Below.alloc ?_ ?_ _) | (with_reducible refine Below.drew ?_) | (with_reducible refine below_drewN ?_ _) | (with_reducible refine Below.setCell ?_ ?_ _) | go_size))⟩
  · have hn := oddP_bd h0
    have HL := Lib.hid (lnV_spec (oddP_Pr h0) hn.2.2)
    have l1 := HL.out.1
    have l2 := HL.out.2.1
    rw [oFor_true]
    go_enter Try.func31, Try.ntmps31
    go_wp2_with fail
    ((with_reducible refine (syOddPrime_any p _ i1).mono ?_); rintro e w1 ⟨rfl, hb1⟩)
    obtain ⟨hc1, hf1⟩ := bcell hb1
    have hz1 := hb1.size
    try simp only [World.size_alloc, World.size_drew, World.size_setCell] at hz1
    try have hs1 : w.heap.size < w1.heap.size := by omega
    have bl1 : Below w.heap.size w w1 := Below.trans (by go_grown) (hb1.mono (by go_size))
    go_wp2
    go_loopw [4] (fun s wr => ∃ k : Nat, s = .int .i64 (k : Int) ∧ 2 ≤ k ∧ (k : Int) ≤ lnV p ∧ Below w.heap.size w wr) (fun s _ => (lnV p).toNat - (intOf s).toNat)
    case atStart => exact ⟨2, rfl, by omega, by omega, (by repeat' (first | (with_reducible exact Below.refl _ _) | (with_reducible assumption) | (with_reducible refine Below.alloc ?_ ?_ _) | (with_reducible refine Below.drew ?_) | (with_reducible refine below_drewN ?_ _) | (with_reducible refine Below.setCell ?_ ?_ _) | go_size))⟩
    case round =>
      obtain ⟨k, rfl, k2, kl, bw⟩ := hrel
      by_cases hk : (k : Int) = lnV p
      · have HV := Lib.hid hk
        have ht : (Jac.J (k : Int) p.toNat != -1) = false := by rw [hk, HL.out.2.2.1]; rfl
        clear hk
        go_wp2_with fail
        ((with_reducible refine (syJac_any _ _ _ (by omega) (by omega) (by omega) (by omega) hn.2.2).mono ?_); rintro e w1 ⟨rfl, hb1⟩)
        go_wp2
        go_ret2
        exact ⟨by rw [HV.out]; try rfl, bw.trans (hb1.mono bw.size)⟩
      · have kl' : (k : Int) < lnV p := by omega
        have ht : (Jac.J (k : Int) p.toNat != -1) = true := by rw [bne_iff_ne]; exact HL.out.2.2.2 k k2 kl'
        clear hk
        go_wp2_with fail
        ((with_reducible refine (syJac_any _ _ _ (by omega) (by omega) (by omega) (by omega) hn.2.2).mono ?_); rintro e w1 ⟨rfl, hb1⟩)
        go_wp2
        go_roundw
        case rel => exact ⟨k + 1, by go_num, by omega, by omega, bw.trans (hb1.mono bw.size)⟩
        case measure => simp only [intOf]; omega
theorem implLN_any (p : Int) (w : World) : Calls Try.prog 32 #[.int .i64 p] w fun e w' =>
    e = .returned (.tuple #[.int .i64 (oFor (oddP p) (lnV p)), .bool (oddP p)]) ∧ Below w.heap.size w w' := by
  rcases h0 : oddP p with _ | _
  · rw [oFor_false]
    go_enter Try.func32, Try.ntmps32
    go_wp2_with fail
    ((with_reducible refine (isOddPrime_any p _).mono ?_); rintro e w1 ⟨rfl, hb1⟩)
    obtain ⟨hc1, hf1⟩ := bcell hb1
    have hz1 := hb1.size
    try simp only [World.size_alloc, World.size_drew, World.size_setCell] at hz1
    try have hs1 : w.heap.size < w1.heap.size := by omega
    have bl1 : Below w.heap.size w w1 := Below.trans (by go_grown) (hb1.mono (by go_size))
    go_wp2
    go_ret2
    exact ⟨rfl, (by repeat' (first | (with_reducible exact Below.refl _ _) | (with_reducible assumption) | (with_reducible refine Below.alloc ?_ ?_ _) | (with_reducible refine Below.drew ?_) | (with_reducible refine below_drewN ?_ _) | (with_reducible refine Below.setCell ?_ ?_ _) | go_size))⟩
  · have hn := oddP_bd h0
    have HL := Lib.hid (lnV_spec (oddP_Pr h0) hn.2.2)
    have l1 := HL.out.1
    have l2 := HL.out.2.1
    rw [oFor_true]
    go_enter Try.func32, Try.ntmps32
    go_wp2_with fail
    ((with_reducible refine (isOddPrime_any p _).mono ?_); rintro e w1 ⟨rfl, hb1⟩)
    obtain ⟨hc1, hf1⟩ := bcell hb1
    have hz1 := hb1.size
    try simp only [World.size_alloc, World.size_drew, World.size_setCell] at hz1
    try have hs1 : w.heap.size < w1.heap.size := by omega
    have bl1 : Below w.heap.size w w1 := Below.trans (by go_grown) (hb1.mono (by go_size))
    go_wp2
    go_loopw [4] (fun s wr => ∃ k : Nat, s = .int .i64 (k : Int) ∧ 2 ≤ k ∧ (k : Int) ≤ lnV p ∧ Below w.heap.size w wr) (fun s _ => (lnV p).toNat - (intOf s).toNat)
    case atStart => exact ⟨2, rfl, by omega, by omega, (by repeat' (first | (with_reducible exact Below.refl _ _) | (with_reducible assumption) | (with_reducible refine Below.alloc ?_ ?_ _) | (with_reducible refine Below.drew ?_) | (with_reducible refine below_drewN ?_ _) | (with_reducible refine Below.setCell ?_ ?_ _) | go_size))⟩
    case round =>
      obtain ⟨k, rfl, k2, kl, bw⟩ := hrel
      by_cases hk : (k : Int) = lnV p
      · have HV := Lib.hid hk
        have ht : (Jac.J (k : Int) p.toNat != -1) = false := by rw [hk, HL.out.2.2.1]; rfl
        clear hk
        go_wp2_with fail
        ((with_reducible refine (jacobi_any _ _ _ (by omega) (by omega) (by omega) (by omega) hn.2.2).mono ?_); rintro e w1 ⟨rfl, rfl⟩)
        go_wp2
        go_ret2
        exact ⟨by rw [HV.out]; try rfl, bw⟩
      · have kl' : (k : Int) < lnV p := by omega
        have ht : (Jac.J (k : Int) p.toNat != -1) = true := by rw [bne_iff_ne]; exact HL.out.2.2.2 k k2 kl'
        clear hk
        go_wp2_with fail
        ((with_reducible refine (jacobi_any _ _ _ (by omega) (by omega) (by omega) (by omega) hn.2.2).mono ?_); rintro e w1 ⟨rfl, rfl⟩)
        go_wp2
        go_roundw
        case rel => exact ⟨k + 1, by go_num, by omega, by omega, bw⟩
        case measure => simp only [intOf]; omega
theorem law_FnExactLeastNonresidue (p : Int) (w : World) (ib_p : In64 p) : Calls Try.prog 11 #[.int .i64 p] w fun e w' => e = .returned (.bool true) ∧ Below w.heap.size w w' := by
  go_enter Try.func11, Try.ntmps11
  go_wp2_with fail
  ((with_reducible refine (specLN_any _ _ ib_p).mono ?_); rintro e w1 ⟨rfl, hb1⟩)
  obtain ⟨hc1, hf1⟩ := bcell hb1
  have hz1 := hb1.size
  try simp only [World.size_alloc, World.size_drew, World.size_setCell] at hz1
  try have hs1 : w.heap.size < w1.heap.size := by omega
  have bl1 : Below w.heap.size w w1 := Below.trans (by go_grown) (hb1.mono (by go_size))
  go_wp2_with fail
  ((with_reducible refine (implLN_any _ _).mono ?_); rintro e w2 ⟨rfl, hb2⟩)
  obtain ⟨hc2, hf2⟩ := bcell hb2
  have hz2 := hb2.size
  try simp only [World.size_alloc, World.size_drew, World.size_setCell] at hz2
  try have hs2 : w.heap.size < w2.heap.size := by omega
  have bl2 : Below w.heap.size w w2 := Below.trans (by go_grown) (hb2.mono (by go_size))
  go_wp2
  go_ret
  exact ⟨rfl, (by repeat' (first | (with_reducible exact Below.refl _ _) | (with_reducible assumption) | (with_reducible refine Below.alloc ?_ ?_ _) | (with_reducible refine Below.drew ?_) | (with_reducible refine below_drewN ?_ _) | (with_reducible refine Below.setCell ?_ ?_ _) | go_size))⟩
end Go.Proofs.Ytbiaokglmdmopaa
