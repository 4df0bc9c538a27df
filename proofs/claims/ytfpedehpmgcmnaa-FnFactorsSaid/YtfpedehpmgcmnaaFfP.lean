/-
  Plain facts that the walk of FnFactors needs.
-/
import Derived.Test.YtfpedehpmgcmnaaMuP
import Derived.Test.YtfpedehpmgcmnaaFree
namespace Go.Proofs.Ytfpedehpmgcmnaa
open Go.RowKit
set_option linter.unusedSimpArgs false
set_option linter.unusedVariables false

theorem sfN_prod (p a k : Nat) : (sfN p a k).1 * (sfN p a k).2 * (sfN p a k).2 = a * k * k := by
  fun_induction sfN p a k with
  | case1 p a k h hm ih =>
    rw [ih]
    have e : a / (p * p) * (p * p) = a := Nat.div_mul_cancel (Nat.dvd_of_mod_eq_zero hm)
    conv => rhs; rw [← e]
    grind
  | case2 p a k h hm ih => exact ih
  | case3 p a k h => rfl
theorem sq_law {n : Int} (n1 : 1 ≤ n) (n2 : n ≤ 1000000) : sqS n * sqK n * sqK n = n ∧ 0 ≤ sqS n * sqK n ∧ sqS n * sqK n ≤ 1000000 := by
  have h := sfN_prod 2 n.natAbs 1
  unfold sqS sqK
  rw [if_pos (by omega)]
  generalize sfN 2 n.natAbs 1 = t at h
  obtain ⟨s, k⟩ := t
  simp only at h ⊢
  have hk : 1 ≤ k := Nat.pos_of_ne_zero fun h0 => by subst h0; simp at h; omega
  have h2 : s * k * 1 ≤ s * k * k := Nat.mul_le_mul_left _ hk
  refine ⟨?_, ?_, ?_⟩
  · rw [← Int.natCast_mul, ← Int.natCast_mul, h]; omega
  · rw [← Int.natCast_mul]; omega
  · rw [← Int.natCast_mul]; omega

/-! ### products of integers -/
def prodI (L : List Int) : Int := L.foldl (· * ·) 1
theorem prodI_snoc (L : List Int) (x : Int) : prodI (L ++ [x]) = prodI L * x := by simp [prodI]
theorem prodI_succ {L : List Int} {k : Nat} (hk : k < L.length) : prodI (L.take (k + 1)) = prodI (L.take k) * L.getD k 0 := by
  rw [List.take_succ_eq_append_getElem hk, prodI_snoc]
  simp [hk]
theorem prodN_cons (x : Nat) (L : List Nat) : prodN (x :: L) = x * prodN L := rfl
theorem foldl_ints (L : List Nat) (c : Int) : (ints L).foldl (· * ·) c = c * (prodN L : Int) := by
  induction L generalizing c with
  | nil => simp [ints, prodN]
  | cons x L ih =>
    have : ints (x :: L) = (x : Int) :: ints L := rfl
    rw [this, List.foldl_cons, ih, prodN_cons, Int.natCast_mul, Int.mul_assoc]
theorem prodI_ints (L : List Nat) : prodI (ints L) = (prodN L : Int) := by
  unfold prodI
  rw [foldl_ints, Int.one_mul]
theorem ints_take (L : List Nat) (k : Nat) : (ints L).take k = ints (L.take k) := by simp [ints, List.map_take]
theorem ints_getD {L : List Nat} {k : Nat} (hk : k < L.length) : (ints L).getD k 0 = (L[k] : Int) := by simp [ints, hk]
theorem ints_getD' {L : List Nat} {k : Nat} (hk : k < L.length) : (ints L).getD k 0 = ((L.getD k 0 : Nat) : Int) := by simp [ints, hk]

/-- What the walk of FnFactors needs to know. -/
structure FF (n : Int) (F E : List Int) (S : Nat → Int) : Prop where
  n1 : 1 ≤ n
  n2 : n ≤ 1000000
  fl : F.length ≤ 1000000000
  el : 0 < E.length ∧ E.length ≤ 2000
  pr : prodI F = n
  pb : ∀ k, 0 ≤ prodI (F.take k) ∧ prodI (F.take k) ≤ 1000000
  pp : ∀ k, k < F.length → (good (F.getD k 0) && primeB (F.getD k 0)) = true
  ee : ∀ i, i < E.length → 1 ≤ E.getD i 0 ∧ E.getD i 0 ≤ 1000000
  ep : ∀ i, i < E.length → E.getD i 0 * E.getD (E.length - 1 - i) 0 = n
  s0 : S 0 = 0
  ss : ∀ i, i < E.length → S (i + 1) = S i + mobF (ints (fcs 2 (E.getD i 0).toNat))
  sb : ∀ i, -2000 ≤ S i ∧ S i ≤ 2000
  se : S E.length = if n = 1 then 1 else 0
theorem FF.of {n : Int} (n1 : 1 ≤ n) (n2 : n ≤ 1000000) : FF n (ints (fcs 2 n.toNat)) (ints (divs n.natAbs)) (fun i => muS ((divs n.natAbs).take i)) := by
  obtain ⟨N, rfl⟩ : ∃ N : Nat, n = N := ⟨n.toNat, by omega⟩
  rw [Int.toNat_natCast, Int.natAbs_natCast]
  have m1 : 1 ≤ N := by omega
  have m2 : N ≤ 1000000 := by omega
  have hpos : ∀ x ∈ fcs 2 N, 1 ≤ x := fun x hx => by have := (fac_prime m1 hx).1; omega
  have hdl := divs_len N m2
  have hd1 : 0 < (divs N).length := List.length_pos_of_mem ((mem_divs m1).2 ⟨Nat.le_refl 1, Nat.one_dvd N⟩)
  have hfl : (fcs 2 N).length ≤ N := fcs_len N 2 N (Nat.le_refl _) (by omega) (by omega) (fun d d1 d2 => by omega)
  constructor
  · omega
  · omega
  · rw [ints_length]; omega
  · rw [ints_length]; omega
  · rw [prodI_ints, fac_prod m1]
  · intro k
    rw [ints_take, prodI_ints]
    have := prodN_take hpos k
    rw [fac_prod m1] at this
    omega
  · intro k hk
    rw [ints_length] at hk
    rw [ints_getD hk, Bool.and_eq_true]
    have hm : (fcs 2 N)[k] ∈ fcs 2 N := List.getElem_mem hk
    have hp := fac_prime m1 hm
    have hle := fac_le m1 hm
    have h2 := hp.1
    generalize (fcs 2 N)[k] = q at *
    exact ⟨good_iff.2 (by omega), primeB_iff.2 ⟨by omega, by rw [Int.toNat_natCast]; exact hp⟩⟩
  · intro i hi
    rw [ints_length] at hi
    rw [ints_getD hi]
    obtain ⟨a, b⟩ := (mem_divs m1).1 (List.getElem_mem hi)
    have := Nat.le_of_dvd (by omega) b
    omega
  · intro i hi
    rw [ints_length] at hi ⊢
    rw [ints_getD' hi, ints_getD' (show (divs N).length - 1 - i < (divs N).length by omega), ← Int.natCast_mul, divs_pair m1 hi]
  · rfl
  · intro i hi
    rw [ints_length] at hi
    rw [ints_getD hi, Int.toNat_natCast, List.take_succ_eq_append_getElem hi, muS_snoc]
    rfl
  · intro i
    have := muS_bd ((divs N).take i)
    have h : ((divs N).take i).length ≤ 2000 := by rw [List.length_take]; omega
    omega
  · rw [ints_length, List.take_length, mu_sum m1]
    by_cases h : N = 1
    · rw [if_pos h, if_pos (by omega)]
    · rw [if_neg h, if_neg (by omega)]
end Go.Proofs.Ytfpedehpmgcmnaa
