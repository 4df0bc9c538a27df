/-
  Plain facts: the function of Moebius of a list of prime factors, in ascending order. No walk in sight.
-/
import Derived.Test.YtfpedehpmgcmnaaFac2
namespace Go.Proofs.Ytfpedehpmgcmnaa
set_option linter.unusedVariables false

theorem nd2 (n : Nat) : ND n 2 := fun d d1 d2 => by omega
theorem ND.le {y p : Nat} (h : ND y p) (h1 : 1 < y) : p ≤ y := by
  rcases Nat.lt_or_ge y p with h2 | h2
  · exact absurd (Nat.mod_self y) (h y (by omega) h2)
  · exact h2
theorem fcs_sorted : ∀ (k p n : Nat), 2 * n + 2 - p ≤ k → 2 ≤ p → 1 ≤ n → ND n p → (fcs p n).Pairwise (· ≤ ·) ∧ ∀ x ∈ fcs p n, p ≤ x := fun k => by
  induction k with
  | zero =>
    intro p n hk p2 n1 hn
    have hlt : n < p * p := by have := Nat.mul_le_mul_right p p2; omega
    rw [fcs_end hlt]
    split
    · rename_i h1
      exact ⟨by simp, fun x hx => by rw [List.mem_singleton] at hx; rw [hx]; exact hn.le h1⟩
    · exact ⟨by simp, fun x hx => by cases hx⟩
  | succ k ih =>
    intro p n hk p2 n1 hn
    rcases Nat.lt_or_ge n (p * p) with hlt | hge
    · rw [fcs_end hlt]
      split
      · rename_i h1
        exact ⟨by simp, fun x hx => by rw [List.mem_singleton] at hx; rw [hx]; exact hn.le h1⟩
      · exact ⟨by simp, fun x hx => by cases hx⟩
    · have hp := Nat.mul_le_mul_right p p2
      by_cases hm : n % p = 0
      · rw [fcs_hit p2 hge hm]
        have hd1 : 0 < n / p := Nat.div_pos (Nat.le_of_dvd (by omega) (Nat.dvd_of_mod_eq_zero hm)) (by omega)
        have hd2 : n / p < n := Nat.div_lt_self (by omega) (by omega)
        obtain ⟨a, b⟩ := ih p (n / p) (by omega) p2 hd1 (hn.quot hm)
        exact ⟨List.pairwise_cons.2 ⟨b, a⟩, fun x hx => by
          rcases List.mem_cons.1 hx with h | h
          · omega
          · exact b x h⟩
      · rw [fcs_miss p2 hge hm]
        obtain ⟨a, b⟩ := ih (p + 1) n (by omega) (by omega) n1 (hn.succ hm)
        exact ⟨a, fun x hx => by have := b x hx; omega⟩
theorem fcs_sort {n : Nat} (n1 : 1 ≤ n) : (fcs 2 n).Pairwise (· ≤ ·) := (fcs_sorted _ 2 n (Nat.le_refl _) (by omega) n1 (nd2 n)).1
theorem ints_sort {n : Nat} (n1 : 1 ≤ n) : (ints (fcs 2 n)).Pairwise (· ≤ ·) := by
  unfold ints
  rw [List.pairwise_map]
  exact (fcs_sort n1).imp fun h => by omega

/-! ### different elements of an ascending list -/
def mobF (F : List Int) : Int := if F.Nodup then (if F.length % 2 = 1 then -1 else 1) else 0
theorem mobF_bd (F : List Int) : -1 ≤ mobF F ∧ mobF F ≤ 1 := by unfold mobF; split <;> (try split) <;> omega
def putL (L : List Int) (n : Int) : List Int := if n ∈ L then L else L ++ [n]
def ddL (F : List Int) : List Int := F.foldl putL []
theorem ddL_snoc (F : List Int) (x : Int) : ddL (F ++ [x]) = putL (ddL F) x := by simp [ddL]
theorem mem_putL {L : List Int} {n x : Int} : x ∈ putL L n ↔ x ∈ L ∨ x = n := by
  unfold putL
  split
  · exact ⟨.inl, fun h => h.elim id fun h => by rw [h]; assumption⟩
  · simp
theorem snoc_ind {P : List Int → Prop} (h0 : P []) (hs : ∀ G x, P G → P (G ++ [x])) (F : List Int) : P F := by
  have : ∀ n (F : List Int), F.length = n → P F := fun n => by
    induction n with
    | zero => intro F h; rw [List.eq_nil_of_length_eq_zero h]; exact h0
    | succ n ih =>
      intro F h
      have hne : F ≠ [] := fun h' => by rw [h'] at h; simp at h
      rw [← List.dropLast_concat_getLast hne]
      exact hs _ _ (ih _ (by simp; omega))
  exact this _ F rfl
theorem mem_ddL {F : List Int} {x : Int} : x ∈ ddL F ↔ x ∈ F := by
  refine snoc_ind (P := fun F => x ∈ ddL F ↔ x ∈ F) (by simp [ddL]) (fun G y ih => ?_) F
  rw [ddL_snoc, mem_putL, ih]
  simp
theorem ddL_le (F : List Int) : (ddL F).length ≤ F.length := by
  refine snoc_ind (P := fun F => (ddL F).length ≤ F.length) (by simp [ddL]) (fun G y ih => ?_) F
  rw [ddL_snoc]
  unfold putL
  split <;> simp <;> omega
theorem nodup_snoc {G : List Int} {x : Int} : (G ++ [x]).Nodup ↔ G.Nodup ∧ x ∉ G := by
  rw [List.nodup_append]
  simp only [List.mem_singleton, List.nodup_cons, List.not_mem_nil, not_false_eq_true, List.nodup_nil, and_self, true_and]
  constructor
  · rintro ⟨h1, h2⟩
    exact ⟨h1, fun hx => h2 x hx x rfl rfl⟩
  · rintro ⟨h1, h2⟩
    exact ⟨h1, fun a ha b hb hab => h2 (by rw [← hb, ← hab]; exact ha)⟩
theorem ddL_nodup (F : List Int) : F.Nodup → ddL F = F := by
  refine snoc_ind (P := fun F => F.Nodup → ddL F = F) (fun _ => rfl) (fun G y ih h => ?_) F
  obtain ⟨h1, h2⟩ := nodup_snoc.1 h
  rw [ddL_snoc, ih h1]
  unfold putL
  rw [if_neg h2]
theorem ddL_lt (F : List Int) : ¬ F.Nodup → (ddL F).length < F.length := by
  refine snoc_ind (P := fun F => ¬ F.Nodup → (ddL F).length < F.length) (fun h => absurd (by simp) h) (fun G y ih h => ?_) F
  rw [ddL_snoc]
  unfold putL
  by_cases hy : y ∈ G
  · rw [if_pos (mem_ddL.2 hy)]
    have := ddL_le G
    simp
    omega
  · have hg : ¬ G.Nodup := fun h' => h (nodup_snoc.2 ⟨h', hy⟩)
    have := ih hg
    split <;> simp <;> omega
theorem pw_snoc {G : List Int} {x : Int} (h : G.Pairwise (· < ·)) (hx : ∀ y ∈ G, y < x) : (G ++ [x]).Pairwise (· < ·) := by
  rw [List.pairwise_append]
  exact ⟨h, by simp, fun a ha b hb => by rw [List.mem_singleton] at hb; rw [hb]; exact hx a ha⟩
theorem putL_pw {L : List Int} {n : Int} (h : L.Pairwise (· < ·)) (hx : ∀ y ∈ L, y ≤ n) : (putL L n).Pairwise (· < ·) := by
  unfold putL
  split
  · exact h
  · rename_i hn
    refine pw_snoc h fun y hy => ?_
    have := hx y hy
    have : y ≠ n := fun e => hn (by rw [← e]; exact hy)
    omega
theorem sorted_le {F : List Int} (h : F.Pairwise (· ≤ ·)) {i j : Nat} (hi : i < j) (hj : j < F.length) : F[i] ≤ F[j] := List.pairwise_iff_getElem.1 h i j (by omega) hj hi
theorem take_snocI {F : List Int} {k : Nat} (hk : k < F.length) : F.take (k + 1) = F.take k ++ [F[k]] := List.take_succ_eq_append_getElem hk
theorem mem_take_le {F : List Int} (h : F.Pairwise (· ≤ ·)) {k : Nat} (hk : k < F.length) {y : Int} (hy : y ∈ F.take k) : y ≤ F[k] := by
  obtain ⟨i, hi, rfl⟩ := List.mem_iff_getElem.1 hy
  rw [List.length_take] at hi
  rw [List.getElem_take]
  exact sorted_le h (by omega) hk
theorem ddL_pw {F : List Int} (h : F.Pairwise (· ≤ ·)) : ∀ k, k ≤ F.length → (ddL (F.take k)).Pairwise (· < ·)
  | 0, _ => by simp [ddL]
  | k + 1, hk => by
    rw [take_snocI (by omega), ddL_snoc]
    exact putL_pw (ddL_pw h k (by omega)) fun y hy => mem_take_le h (by omega) (mem_ddL.1 hy)
/-- no two neighbours alike: all different -/
theorem asc_succ {F : List Int} (h : F.Pairwise (· ≤ ·)) {k : Nat} (hk : k < F.length) (hp : (F.take k).Pairwise (· < ·)) (hne : k = 0 ∨ F.getD k 0 ≠ F.getD (k - 1) 0) : (F.take (k + 1)).Pairwise (· < ·) := by
  rw [take_snocI hk]
  refine pw_snoc hp fun y hy => ?_
  rcases Nat.eq_zero_or_pos k with h0 | h0
  · subst h0; simp at hy
  · have hne' : F[k] ≠ F[k - 1] := by
      rcases hne with h1 | h1
      · omega
      · simpa [List.getD_eq_getElem?_getD, hk, show k - 1 < F.length by omega] using h1
    obtain ⟨i, hi, rfl⟩ := List.mem_iff_getElem.1 hy
    rw [List.length_take] at hi
    rw [List.getElem_take]
    have h1 : F[k - 1] ≤ F[k] := sorted_le h (by omega) hk
    rcases Nat.lt_or_ge i (k - 1) with h2 | h2
    · have := sorted_le h h2 (by omega)
      omega
    · have : i = k - 1 := by omega
      subst this
      omega
theorem nodup_of_asc {F : List Int} (h : F.Pairwise (· < ·)) : F.Nodup := h.imp fun h => by omega
theorem not_nodup {F : List Int} {k : Nat} (hk : k < F.length) (h0 : 0 < k) (he : F.getD k 0 = F.getD (k - 1) 0) : ¬ F.Nodup := fun h => by
  have h1 := (List.nodup_iff_pairwise_ne.1 h)
  have := List.pairwise_iff_getElem.1 h1 (k - 1) k (by omega) hk (by omega)
  apply this
  have e1 : F.getD k 0 = F[k] := by simp [List.getD_eq_getElem?_getD, hk]
  have e2 : F.getD (k - 1) 0 = F[k - 1] := by simp [List.getD_eq_getElem?_getD, show k - 1 < F.length by omega]
  rw [← e1, ← e2, he]
theorem mobF_dup {F : List Int} (h : ¬ F.Nodup) : mobF F = 0 := by unfold mobF; rw [if_neg h]
theorem mobF_asc {F : List Int} (h : F.Nodup) : mobF F = 1 - (F.length : Int) % 2 * 2 := by
  unfold mobF
  rw [if_pos h]
  split <;> omega
end Go.Proofs.Ytfpedehpmgcmnaa
