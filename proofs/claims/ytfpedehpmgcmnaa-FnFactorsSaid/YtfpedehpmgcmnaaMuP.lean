/-
  Plain law: the sum of the function of Moebius over the divisors. No walk in sight.
-/
import Derived.Test.YtfpedehpmgcmnaaFacP
namespace Go.Proofs.Ytfpedehpmgcmnaa
set_option linter.unusedVariables false

theorem perm_of_mem {A B : List Nat} (ha : A.Nodup) (hb : B.Nodup) (h : ∀ x, x ∈ A ↔ x ∈ B) : A.Perm B :=
  (List.perm_ext_iff_of_nodup ha hb).2 h
def mu (d : Nat) : Int := mobF (ints (fcs 2 d))
def muS : List Nat → Int
  | [] => 0
  | d :: L => mu d + muS L
theorem muS_append (A B : List Nat) : muS (A ++ B) = muS A + muS B := by
  induction A with
  | nil => simp [muS]
  | cons a A ih => rw [List.cons_append, muS, muS, ih]; omega
theorem muS_snoc (A : List Nat) (x : Nat) : muS (A ++ [x]) = muS A + mu x := by
  rw [muS_append]; simp [muS]
theorem muS_perm {A B : List Nat} (h : A.Perm B) : muS A = muS B := by
  induction h with
  | nil => rfl
  | cons x _ ih => rw [muS, muS, ih]
  | swap x y l => rw [muS, muS, muS, muS]; omega
  | trans _ _ h1 h2 => rw [h1, h2]
theorem muS_split (P : Nat → Bool) (A : List Nat) : muS A = muS (A.filter P) + muS (A.filter fun x => !P x) := by
  induction A with
  | nil => rfl
  | cons a A ih =>
    rw [muS, ih]
    rcases h : P a with _ | _
    · simp [h, muS]; omega
    · simp [h, muS]; omega
theorem muS_bd (A : List Nat) : -(A.length : Int) ≤ muS A ∧ muS A ≤ A.length := by
  induction A with
  | nil => simp [muS]
  | cons a A ih =>
    have := mobF_bd (ints (fcs 2 a))
    rw [muS, List.length_cons]
    unfold mu
    omega

/-! ### the divisors as a filtered range -/
def dv (n : Nat) : List Nat := dlo n n
theorem nodup_dlo (n k : Nat) : (dlo n k).Nodup := by
  unfold dlo
  refine List.Nodup.sublist List.filter_sublist ?_
  refine List.pairwise_map.2 (List.nodup_range.imp fun h => ?_)
  omega
theorem mem_dv {n d : Nat} (hn : 1 ≤ n) : d ∈ dv n ↔ 1 ≤ d ∧ d ∣ n := by
  unfold dv
  rw [mem_dlo]
  exact ⟨fun h => ⟨h.1, h.2.2⟩, fun h => ⟨h.1, Nat.le_of_dvd (by omega) h.2, h.2⟩⟩
theorem div_inj {n a b : Nat} (hn : 1 ≤ n) (ha : a ∣ n) (hb : b ∣ n) (h : n / a = n / b) : a = b := by
  rw [← dv_cancel hn ha, h, dv_cancel hn hb]
theorem nodup_divs {n : Nat} (hn : 1 ≤ n) : (divs n).Nodup := by
  unfold divs
  rw [dhi_eq]
  refine List.nodup_append.2 ⟨nodup_dlo n _, ?_, ?_⟩
  · refine List.pairwise_reverse.2 (List.pairwise_map.2 ?_)
    refine List.Pairwise.imp_of_mem ?_ (List.Nodup.sublist List.filter_sublist (nodup_dlo n (isq n)))
    intro a b ha hb hab he
    exact hab (div_inj hn (mem_dlo.1 (List.mem_filter.1 ha).1).2.2 (mem_dlo.1 (List.mem_filter.1 hb).1).2.2 he.symm)
  · intro a ha b hb hab
    subst hab
    rw [List.mem_reverse] at hb
    obtain ⟨e, he, rfl⟩ := List.mem_map.1 hb
    obtain ⟨he1, he2⟩ := List.mem_filter.1 he
    obtain ⟨e1, e2, e3⟩ := mem_dlo.1 he1
    obtain ⟨a1, a2, a3⟩ := mem_dlo.1 ha
    rw [bne_iff_ne] at he2
    have hm : n / e * e = n := Nat.div_mul_cancel e3
    have hs := (isq_spec n).1
    generalize hr : isq n = r at *
    generalize hd : n / e = d at *
    apply he2
    have h1 : d * e ≤ r * e := Nat.mul_le_mul_right e a2
    have h2 : r * e ≤ r * r := Nat.mul_le_mul_left r e2
    have h3 : r * e = r * r := by omega
    have h4 : e = r := Nat.eq_of_mul_eq_mul_left (by omega) h3
    subst h4
    omega
theorem mem_divs {n d : Nat} (hn : 1 ≤ n) : d ∈ divs n ↔ 1 ≤ d ∧ d ∣ n := by
  refine ⟨mem_divs_dvd hn, fun ⟨h1, h2⟩ => ?_⟩
  unfold divs
  rw [dhi_eq]
  have hm : n / d * d = n := Nat.div_mul_cancel h2
  have hdv := dv_cancel hn h2
  have hdd : n / d ∣ n := Nat.div_dvd_of_dvd h2
  have hpos : 1 ≤ n / d := Nat.div_pos (Nat.le_of_dvd (by omega) h2) (by omega)
  have hs := isq_spec n
  rcases Nat.lt_or_ge (isq n) d with h | h
  · refine List.mem_append.2 (.inr (List.mem_reverse.2 (List.mem_map.2 ⟨n / d, List.mem_filter.2 ⟨mem_dlo.2 ⟨hpos, ?_, hdd⟩, ?_⟩, hdv⟩)))
    · rcases Nat.lt_or_ge (isq n) (n / d) with h3 | h3
      · have := Nat.mul_le_mul h3 h
        simp only [Nat.succ_eq_add_one] at this
        omega
      · exact h3
    · rw [bne_iff_ne]
      intro h3
      have h4 : n / d * (n / d) = n / d * d := by omega
      have h5 : n / d = d := Nat.eq_of_mul_eq_mul_left (by omega) h4
      have := Nat.mul_le_mul h h
      simp only [Nat.succ_eq_add_one] at this
      rw [h5] at hm
      omega
  · exact List.mem_append.2 (.inl (mem_dlo.2 ⟨h1, h, h2⟩))
theorem divs_perm {n : Nat} (hn : 1 ≤ n) : (divs n).Perm (dv n) :=
  perm_of_mem (nodup_divs hn) (nodup_dlo n n) fun x => by rw [mem_divs hn, mem_dv hn]

/-! ### the least prime factor -/
theorem least_factor {n : Nat} (hn : 2 ≤ n) : ∃ p, 2 ≤ p ∧ n % p = 0 ∧ ND n p := by
  have key : ∀ j k, n - k ≤ j → 2 ≤ k → k ≤ n → ND n k → ∃ p, 2 ≤ p ∧ n % p = 0 ∧ ND n p := fun j => by
    induction j with
    | zero =>
      intro k hj h2 hk hnd
      have : k = n := by omega
      subst this
      exact ⟨k, h2, Nat.mod_self k, hnd⟩
    | succ j ih =>
      intro k hj h2 hk hnd
      by_cases hm : n % k = 0
      · exact ⟨k, h2, hm, hnd⟩
      · rcases Nat.lt_or_ge k n with h | h
        · exact ih (k + 1) (by omega) (by omega) h (hnd.succ hm)
        · have : k = n := by omega
          subst this
          exact absurd (Nat.mod_self k) hm
  exact key n 2 (by omega) (by omega) hn (nd2 n)
theorem ND.dvd {n e p : Nat} (h : ND n p) (he : e ∣ n) : ND e p := fun d d1 d2 h0 =>
  h d d1 d2 (Nat.mod_eq_zero_of_dvd (Nat.dvd_trans (Nat.dvd_of_mod_eq_zero h0) he))
theorem fcs_from {n p : Nat} (h : ND n p) : ∀ q, 2 ≤ q → q ≤ p → fcs 2 n = fcs q n
  | 0, h1, _ => by omega
  | q + 1, h1, h2 => by
    rcases Nat.lt_or_ge q 2 with h3 | h3
    · have : q = 1 := by omega
      subst this
      rfl
    · rw [fcs_from h q h3 (by omega), fcs_miss' h3 (h q h3 (by omega))]
theorem mu_mul {n p e : Nat} (hn : 1 ≤ n) (hp : 2 ≤ p) (h : ND n p) (he : p * e ∣ n) (e1 : 1 ≤ e) : mu (p * e) = if e % p = 0 then 0 else - mu e := by
  have hed : e ∣ n := Nat.dvd_trans ⟨p, Nat.mul_comm p e⟩ he
  have hpe : ND (p * e) p := h.dvd he
  have hee : ND e p := h.dvd hed
  have hpos : 1 ≤ p * e := Nat.mul_pos (by omega) e1
  unfold mu
  rw [fcs_from hpe p hp (Nat.le_refl _), fcs_hit' hp hpos (Nat.mul_mod_right p e) hpe, Nat.mul_div_cancel_left _ (by omega), fcs_from hee p hp (Nat.le_refl _)]
  by_cases hm : e % p = 0
  · rw [if_pos hm, fcs_hit' hp e1 hm hee]
    refine mobF_dup ?_
    intro hd
    simp [ints] at hd
  · rw [if_neg hm, fcs_miss' hp hm]
    have hs := (fcs_sorted _ (p + 1) e (Nat.le_refl _) (by omega) e1 (hee.succ hm)).2
    have hni : (p : Int) ∉ ints (fcs (p + 1) e) := fun hx => by
      unfold ints at hx
      obtain ⟨y, hy, hyp⟩ := List.mem_map.1 hx
      have := hs y hy
      have : (y : Int) = p := hyp
      omega
    have e0 : ints (p :: fcs (p + 1) e) = (p : Int) :: ints (fcs (p + 1) e) := rfl
    rw [e0]
    generalize hF : ints (fcs (p + 1) e) = F at *
    unfold mobF
    by_cases hF2 : F.Nodup
    · rw [if_pos (List.nodup_cons.2 ⟨hni, hF2⟩), if_pos hF2, List.length_cons]
      split <;> split <;> omega
    · rw [if_neg (fun h => hF2 (List.nodup_cons.1 h).2), if_neg hF2]
      rfl
theorem muS_map {n p : Nat} (hn : 1 ≤ n) (hp : 2 ≤ p) (h : ND n p) (A : List Nat) (hA : ∀ e ∈ A, 1 ≤ e ∧ p * e ∣ n) :
    muS (A.map (p * ·)) = - muS (A.filter fun e => !(e % p == 0)) := by
  induction A with
  | nil => rfl
  | cons a A ih =>
    obtain ⟨a1, a2⟩ := hA a (by simp)
    rw [List.map_cons, muS, ih fun e he => hA e (by simp [he]), mu_mul hn hp h a2 a1]
    by_cases hm : a % p = 0
    · simp [hm]
    · simp [hm, muS]; omega
theorem mu_sum {n : Nat} (hn : 1 ≤ n) : muS (divs n) = if n = 1 then 1 else 0 := by
  rw [muS_perm (divs_perm hn)]
  by_cases h1 : n = 1
  · subst h1
    rw [if_pos rfl]
    have hd : dv 1 = [1] := rfl
    have hf : fcs 2 1 = [] := by rw [fcs_end (by omega)]; rfl
    rw [hd]
    simp [muS, mu, hf, ints, mobF]
  rw [if_neg h1]
  obtain ⟨p, p2, pm, hnd⟩ := least_factor (show 2 ≤ n by omega)
  obtain ⟨m, hm⟩ := Nat.dvd_of_mod_eq_zero pm
  have m1 : 1 ≤ m := Nat.pos_of_ne_zero fun h => by subst h; simp at hm; omega
  rw [muS_split (fun d => d % p == 0)]
  have hA : ((dv n).filter fun d => d % p == 0).Perm ((dv m).map (p * ·)) := by
    refine perm_of_mem (List.Nodup.sublist List.filter_sublist (nodup_dlo n n)) ?_ fun x => ?_
    · refine List.pairwise_map.2 ((nodup_dlo m m).imp fun hab he => hab (Nat.eq_of_mul_eq_mul_left (by omega) he))
    · rw [List.mem_filter, mem_dv hn, List.mem_map]
      constructor
      · rintro ⟨⟨x1, x2⟩, x3⟩
        obtain ⟨e, rfl⟩ := Nat.dvd_of_mod_eq_zero (beq_iff_eq.1 x3)
        have e1 : 1 ≤ e := Nat.pos_of_ne_zero fun h => by subst h; simp at x1
        refine ⟨e, (mem_dv m1).2 ⟨e1, ?_⟩, rfl⟩
        rw [hm] at x2
        exact Nat.dvd_of_mul_dvd_mul_left (by omega) x2
      · rintro ⟨e, he, rfl⟩
        obtain ⟨e1, e2⟩ := (mem_dv m1).1 he
        exact ⟨⟨Nat.mul_pos (by omega) e1, by rw [hm]; exact Nat.mul_dvd_mul_left p e2⟩, by simp⟩
  have hB : ((dv n).filter fun d => !(d % p == 0)).Perm ((dv m).filter fun d => !(d % p == 0)) := by
    refine perm_of_mem (List.Nodup.sublist List.filter_sublist (nodup_dlo n n)) (List.Nodup.sublist List.filter_sublist (nodup_dlo m m)) fun x => ?_
    rw [List.mem_filter, List.mem_filter, mem_dv hn, mem_dv m1]
    constructor
    · rintro ⟨⟨x1, x2⟩, x3⟩
      refine ⟨⟨x1, ?_⟩, x3⟩
      have hg : Nat.gcd x p = 1 := by
        have g1 := Nat.gcd_dvd_left x p
        have g2 := Nat.gcd_dvd_right x p
        generalize Nat.gcd x p = g at g1 g2
        have gp : 0 < g := Nat.pos_of_dvd_of_pos g1 (by omega)
        rcases Nat.lt_or_ge g 2 with h | h
        · omega
        · have h3 := Nat.le_of_dvd (by omega) g2
          rcases Nat.lt_or_ge g p with h4 | h4
          · exact absurd (Nat.mod_eq_zero_of_dvd (Nat.dvd_trans g1 x2)) (hnd g h h4)
          · have : g = p := by omega
            subst this
            simp [Nat.mod_eq_zero_of_dvd g1] at x3
      exact Nat.Coprime.dvd_of_dvd_mul_left hg (by rw [← hm]; exact x2)
    · rintro ⟨⟨x1, x2⟩, x3⟩
      exact ⟨⟨x1, Nat.dvd_trans x2 ⟨p, by rw [hm, Nat.mul_comm]⟩⟩, x3⟩
  rw [muS_perm hA, muS_perm hB, muS_map hn p2 hnd (dv m) fun e he => by
    obtain ⟨e1, e2⟩ := (mem_dv m1).1 he
    exact ⟨e1, by rw [hm]; exact Nat.mul_dvd_mul_left p e2⟩]
  omega
end Go.Proofs.Ytfpedehpmgcmnaa
