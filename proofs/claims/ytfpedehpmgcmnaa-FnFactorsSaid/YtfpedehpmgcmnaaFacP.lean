/-
  Plain law: prime factors, divisors and the function of Moebius. No walk in sight.
-/
import Derived.Test.YtfpedehpmgcmnaaMobP
import Derived.Test.YtfpedehpmgcmnaaDiv2
import Derived.Test.YtfpedehpmgcmnaaPrimeP
namespace Go.Proofs.Ytfpedehpmgcmnaa
set_option linter.unusedVariables false

/-! ### the prime factors -/
def prodN (L : List Nat) : Nat := L.foldr (· * ·) 1
theorem fcs_prod : ∀ (k p n : Nat), 2 * n + 2 - p ≤ k → 2 ≤ p → 1 ≤ n → ND n p → prodN (fcs p n) = n ∧ ∀ q ∈ fcs p n, Jac.Pr q := fun k => by
  have hend : ∀ p n, 2 ≤ p → 1 ≤ n → ND n p → n < p * p → prodN (fcs p n) = n ∧ ∀ q ∈ fcs p n, Jac.Pr q := fun p n p2 n1 hn hlt => by
    rw [fcs_end hlt]
    split
    · rename_i h1
      refine ⟨by simp [prodN], fun q hq => ?_⟩
      rw [List.mem_singleton] at hq
      rw [hq]
      refine Jac.Pr.of_root (by omega) fun d d2 dd => hn d d2 ?_
      rcases Nat.lt_or_ge d p with h | h
      · exact h
      · have := Nat.mul_le_mul h h; omega
    · exact ⟨by simp [prodN]; omega, fun q hq => by cases hq⟩
  induction k with
  | zero =>
    intro p n hk p2 n1 hn
    exact hend p n p2 n1 hn (by have := Nat.mul_le_mul_right p p2; omega)
  | succ k ih =>
    intro p n hk p2 n1 hn
    rcases Nat.lt_or_ge n (p * p) with hlt | hge
    · exact hend p n p2 n1 hn hlt
    · have hp := Nat.mul_le_mul_right p p2
      by_cases hm : n % p = 0
      · rw [fcs_hit p2 hge hm]
        have hd1 : 0 < n / p := Nat.div_pos (Nat.le_of_dvd (by omega) (Nat.dvd_of_mod_eq_zero hm)) (by omega)
        have hd2 : n / p < n := Nat.div_lt_self (by omega) (by omega)
        obtain ⟨a, b⟩ := ih p (n / p) (by omega) p2 hd1 (hn.quot hm)
        refine ⟨?_, fun q hq => ?_⟩
        · show p * prodN (fcs p (n / p)) = n
          rw [a, Nat.mul_div_cancel' (Nat.dvd_of_mod_eq_zero hm)]
        · rcases List.mem_cons.1 hq with h | h
          · subst h
            exact ⟨p2, fun d d2 dp hd => hn d d2 dp (Nat.mod_eq_zero_of_dvd (Nat.dvd_trans hd (Nat.dvd_of_mod_eq_zero hm)))⟩
          · exact b q h
      · rw [fcs_miss p2 hge hm]
        exact ih (p + 1) n (by omega) (by omega) n1 (hn.succ hm)
theorem fac_prod {n : Nat} (n1 : 1 ≤ n) : prodN (fcs 2 n) = n := (fcs_prod _ 2 n (Nat.le_refl _) (by omega) n1 (nd2 n)).1
theorem fac_prime {n : Nat} (n1 : 1 ≤ n) {q : Nat} (hq : q ∈ fcs 2 n) : Jac.Pr q := (fcs_prod _ 2 n (Nat.le_refl _) (by omega) n1 (nd2 n)).2 q hq
theorem prodN_snoc (L : List Nat) (x : Nat) : prodN (L ++ [x]) = prodN L * x := by
  induction L with
  | nil => simp [prodN]
  | cons a L ih =>
    show a * prodN (L ++ [x]) = a * prodN L * x
    rw [ih, Nat.mul_assoc]
theorem prodN_pos {L : List Nat} (h : ∀ x ∈ L, 1 ≤ x) : 1 ≤ prodN L := by
  induction L with
  | nil => simp [prodN]
  | cons a L ih =>
    have h1 := h a List.mem_cons_self
    have h2 := ih fun x hx => h x (List.mem_cons_of_mem _ hx)
    exact Nat.mul_le_mul h1 h2
theorem prodN_take {L : List Nat} (h : ∀ x ∈ L, 1 ≤ x) (k : Nat) : prodN (L.take k) ≤ prodN L := by
  have e : prodN L = prodN (L.take k) * prodN (L.drop k) := by
    have hap : ∀ A B : List Nat, prodN (A ++ B) = prodN A * prodN B := fun A B => by
      induction A with
      | nil => simp [prodN]
      | cons a A ih =>
        show a * prodN (A ++ B) = a * prodN A * prodN B
        rw [ih, Nat.mul_assoc]
    rw [← hap, List.take_append_drop]
  have h2 := prodN_pos (L := L.drop k) fun x hx => h x (List.mem_of_mem_drop hx)
  rw [e]
  exact Nat.le_mul_of_pos_right _ h2
theorem fac_le {n : Nat} (n1 : 1 ≤ n) {q : Nat} (hq : q ∈ fcs 2 n) : q ≤ n := by
  have hpos : ∀ x ∈ fcs 2 n, 1 ≤ x := fun x hx => by have := (fac_prime n1 hx).1; omega
  have key : ∀ (L : List Nat), (∀ x ∈ L, 1 ≤ x) → ∀ x ∈ L, x ≤ prodN L := fun L => by
    induction L with
    | nil => intro _ x hx; cases hx
    | cons a L ih =>
      intro h x hx
      have h1 := prodN_pos (L := L) fun y hy => h y (List.mem_cons_of_mem _ hy)
      have h2 := h a List.mem_cons_self
      show x ≤ a * prodN L
      rcases List.mem_cons.1 hx with e | e
      · subst e; exact Nat.le_mul_of_pos_right _ h1
      · exact Nat.le_trans (ih (fun y hy => h y (List.mem_cons_of_mem _ hy)) x e) (Nat.le_mul_of_pos_left _ h2)
  have := key _ hpos q hq
  rwa [fac_prod n1] at this

/-! ### the divisors pair off -/
theorem dv_cancel {n d : Nat} (hn : 1 ≤ n) (hd : d ∣ n) : n / (n / d) = d := by
  obtain ⟨e, rfl⟩ := hd
  have hd0 : 0 < d := Nat.pos_of_ne_zero fun h => by subst h; simp at hn
  have he0 : 0 < e := Nat.pos_of_ne_zero fun h => by subst h; simp at hn
  rw [Nat.mul_div_cancel_left _ hd0, Nat.mul_div_cancel _ he0]
theorem dhi_eq (n k : Nat) : dhi n k = ((dlo n k).filter fun d => d * d != n).map (n / ·) := by
  unfold dhi dlo
  rw [List.filter_filter]
  congr 2
  funext d
  rw [Bool.and_comm]
theorem mem_dlo {n k d : Nat} : d ∈ dlo n k ↔ 1 ≤ d ∧ d ≤ k ∧ d ∣ n := by
  unfold dlo
  simp only [List.mem_filter, List.mem_map, List.mem_range, beq_iff_eq]
  constructor
  · rintro ⟨⟨a, ha, rfl⟩, h⟩
    exact ⟨by omega, by omega, Nat.dvd_of_mod_eq_zero h⟩
  · rintro ⟨h1, h2, h3⟩
    exact ⟨⟨d - 1, by omega, by omega⟩, Nat.mod_eq_zero_of_dvd h3⟩
/-- below the root no divisor is its own partner, but for the root of a square -/
theorem dlo_split {n : Nat} (hn : 1 ≤ n) : dlo n (isq n) = ((dlo n (isq n)).filter fun d => d * d != n) ++ (if isq n * isq n = n then [isq n] else []) := by
  obtain ⟨h1, h2⟩ := isq_spec n
  have hr : 1 ≤ isq n := by
    rcases Nat.eq_zero_or_pos (isq n) with h | h
    · rw [h] at h2; omega
    · exact h
  obtain ⟨k, hk⟩ : ∃ k, isq n = k + 1 := ⟨isq n - 1, by omega⟩
  have hbelow : (dlo n k).filter (fun d => d * d != n) = dlo n k := by
    rw [List.filter_eq_self]
    intro d hd
    obtain ⟨d1, d2, _⟩ := mem_dlo.1 hd
    rw [bne_iff_ne]
    have : d * d < (k + 1) * (k + 1) := Nat.mul_lt_mul'' (by omega) (by omega)
    rw [hk] at h1
    omega
  rw [hk]
  by_cases hd : n % (k + 1) = 0
  · rw [dlo_hit hd, List.filter_append, hbelow]
    by_cases hs : (k + 1) * (k + 1) = n
    · rw [if_pos hs]; simp [hs]
    · rw [if_neg hs]; simp [hs]
  · rw [dlo_miss hd, hbelow, if_neg (fun h => hd (by rw [← h]; exact Nat.mul_mod_left _ _))]
    simp
theorem divs_mirror {n : Nat} (hn : 1 ≤ n) : (divs n).map (n / ·) = (divs n).reverse := by
  have hs := dlo_split hn
  unfold divs
  rw [dhi_eq]
  obtain ⟨A', hA⟩ : ∃ A', ((dlo n (isq n)).filter fun d => d * d != n) = A' := ⟨_, rfl⟩
  have hdv : ∀ d ∈ A', n / (n / d) = d := fun d hd => by
    rw [← hA] at hd
    exact dv_cancel hn (mem_dlo.1 (List.mem_filter.1 hd).1).2.2
  rw [hA] at hs ⊢
  rw [hs]
  have hmm : (A'.map (n / ·)).map (n / ·) = A' := by
    rw [List.map_map]
    conv => rhs; rw [← List.map_id A']
    exact List.map_congr_left fun d hd => hdv d hd
  have hmid : ((if isq n * isq n = n then [isq n] else []) : List Nat).map (n / ·) = (if isq n * isq n = n then [isq n] else []).reverse := by
    split
    · rename_i h
      have hr : 0 < isq n := Nat.pos_of_ne_zero fun h0 => by rw [h0] at h; omega
      have : n / isq n = isq n := Nat.div_eq_of_eq_mul_left hr h.symm
      simp [this]
    · rfl
  simp only [List.map_append, List.reverse_append, List.map_reverse, List.reverse_reverse, List.append_assoc, hmm, hmid]
theorem mem_divs_dvd {n d : Nat} (hn : 1 ≤ n) (hd : d ∈ divs n) : 1 ≤ d ∧ d ∣ n := by
  unfold divs at hd
  rw [dhi_eq] at hd
  rcases List.mem_append.1 hd with h | h
  · obtain ⟨a, b, c⟩ := mem_dlo.1 h
    exact ⟨a, c⟩
  · rw [List.mem_reverse] at h
    obtain ⟨e, he, rfl⟩ := List.mem_map.1 h
    obtain ⟨a, b, c⟩ := mem_dlo.1 (List.mem_filter.1 he).1
    refine ⟨Nat.div_pos (Nat.le_of_dvd (by omega) c) (by omega), Nat.div_dvd_of_dvd c⟩
theorem divs_pair {n i : Nat} (hn : 1 ≤ n) (hi : i < (divs n).length) : (divs n).getD i 0 * (divs n).getD ((divs n).length - 1 - i) 0 = n := by
  have hm := divs_mirror hn
  have h1 : ((divs n).map (n / ·))[i]? = ((divs n).reverse)[i]? := by rw [hm]
  rw [List.getElem?_map, List.getElem?_eq_getElem hi, List.getElem?_reverse hi, List.getElem?_eq_getElem (by omega)] at h1
  simp only [Option.map_some, Option.some.injEq] at h1
  have e1 : (divs n).getD i 0 = (divs n)[i] := by simp [List.getD_eq_getElem?_getD, hi]
  have e2 : (divs n).getD ((divs n).length - 1 - i) 0 = (divs n)[(divs n).length - 1 - i] := by simp [List.getD_eq_getElem?_getD, show (divs n).length - 1 - i < (divs n).length by omega]
  rw [e1, e2, ← h1]
  exact Nat.mul_div_cancel' (mem_divs_dvd hn (List.getElem_mem hi)).2
end Go.Proofs.Ytfpedehpmgcmnaa
