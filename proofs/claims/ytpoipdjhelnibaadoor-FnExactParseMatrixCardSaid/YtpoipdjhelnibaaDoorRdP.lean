/-
  Plain facts: decimal numerals are read back. No walk in sight.
-/
import Derived.Test.YtpoipdjhelnibaaDoorGood
import Derived.Lib.AtoiAll
import Derived.Lib.ItoaLen
namespace Go.Proofs.YtpoipdjhelnibaaDoor
set_option linter.unusedVariables false

/-! ### digits -/
def isDig (c : UInt8) : Bool := decide (48 ≤ c.toNat) && decide (c.toNat ≤ 57)
theorem isDig_iff {c : UInt8} : isDig c = true ↔ 48 ≤ c.toNat ∧ c.toNat ≤ 57 := by simp [isDig]
def valD (l : List UInt8) : Nat := l.foldl (fun n c => n * 10 + (c.toNat - 48)) 0
theorem valD_snoc (l : List UInt8) (c : UInt8) : valD (l ++ [c]) = valD l * 10 + (c.toNat - 48) := by simp [valD]
theorem snoc_indB {P : List UInt8 → Prop} (h0 : P []) (hs : ∀ A c, P A → P (A ++ [c])) (l : List UInt8) : P l := by
  have key : ∀ n (l : List UInt8), l.length ≤ n → P l := fun n => by
    induction n with
    | zero =>
      intro l h
      have e : l = [] := List.eq_nil_of_length_eq_zero (by omega)
      rw [e]
      exact h0
    | succ n ih =>
      intro l h
      rcases List.eq_nil_or_concat l with rfl | ⟨A, c, rfl⟩
      · exact h0
      · rw [List.concat_eq_append] at h ⊢
        exact hs A c (ih A (by simp at h; omega))
  exact key _ l (Nat.le_refl _)
theorem dg_toNat {d : Nat} (h : d < 10) : (UInt8.ofNat (48 + d)).toNat = 48 + d := by
  simp
  omega
theorem decDigits_lt {n : Nat} (h : n < 10) : Lib.decDigits n = [UInt8.ofNat (48 + n)] := by rw [Lib.decDigits, dif_pos h]
theorem decDigits_ge {n : Nat} (h : ¬ n < 10) : Lib.decDigits n = Lib.decDigits (n / 10) ++ [UInt8.ofNat (48 + n % 10)] := by rw [Lib.decDigits, dif_neg h]
theorem decDigits_ne (n : Nat) : Lib.decDigits n ≠ [] := by
  by_cases h : n < 10
  · rw [decDigits_lt h]; simp
  · rw [decDigits_ge h]; simp
/-- what the digits of n are -/
theorem decDigits_is (n : Nat) : (∀ c ∈ Lib.decDigits n, isDig c = true) ∧ valD (Lib.decDigits n) = n ∧ (1 ≤ n → ∀ c r, Lib.decDigits n = c :: r → c.toNat ≠ 48) := by
  induction n using Nat.strongRecOn with
  | _ n ih =>
    by_cases h : n < 10
    · rw [decDigits_lt h]
      have ht := dg_toNat h
      refine ⟨fun c hc => ?_, ?_, fun h1 c r he => ?_⟩
      · rw [List.mem_singleton] at hc; rw [hc, isDig_iff, ht]; omega
      · simp only [valD, List.foldl_cons, List.foldl_nil, ht]; omega
      · rw [List.cons.injEq] at he; rw [← he.1, ht]; omega
    · obtain ⟨a, b, d⟩ := ih (n / 10) (by omega)
      have ht := dg_toNat (show n % 10 < 10 by omega)
      rw [decDigits_ge h]
      refine ⟨fun c hc => ?_, ?_, fun h1 c r he => ?_⟩
      · rcases List.mem_append.1 hc with hc | hc
        · exact a c hc
        · rw [List.mem_singleton] at hc; rw [hc, isDig_iff, ht]; omega
      · rw [valD_snoc, b, ht]; omega
      · rcases hA : Lib.decDigits (n / 10) with _ | ⟨c', r'⟩
        · exact absurd hA (decDigits_ne _)
        · rw [hA, List.cons_append, List.cons.injEq] at he
          rw [← he.1]
          exact d (by omega) c' r' hA
/-- digits without a nought ahead are a numeral -/
theorem decDigits_of (l : List UInt8) : (∀ c ∈ l, isDig c = true) → l ≠ [] → (∀ c r, l = c :: r → c.toNat = 48 → r = []) → l = Lib.decDigits (valD l) ∧ (2 ≤ l.length → 10 ≤ valD l) := by
  induction l using snoc_indB with
  | h0 => intro _ h; exact absurd rfl h
  | hs A c ih =>
    intro hd _ hz
    have hc := isDig_iff.1 (hd c (by simp))
    have hcc : UInt8.ofNat (48 + (c.toNat - 48)) = c := by
      rw [show 48 + (c.toNat - 48) = c.toNat by omega]
      exact UInt8.ofNat_toNat
    rw [valD_snoc]
    by_cases hA : A = []
    · subst hA
      have e : valD ([] : List UInt8) * 10 + (c.toNat - 48) = c.toNat - 48 := by simp [valD]
      rw [e, decDigits_lt (by omega), hcc]
      exact ⟨rfl, fun h => by simp at h⟩
    · obtain ⟨i1, i2⟩ := ih (fun x hx => hd x (by simp [hx])) hA (fun x r hx h48 => by
        have := hz x (r ++ [c]) (by rw [hx]; rfl) h48
        simp at this)
      have hv : 1 ≤ valD A := by
        rcases Nat.lt_or_ge A.length 2 with h2 | h2
        · match A, hA, h2 with
          | [x], _, _ =>
            have hx := isDig_iff.1 (hd x (by simp))
            have h48 : x.toNat ≠ 48 := fun h => by have := hz x [c] rfl h; simp at this
            simp only [valD, List.foldl_cons, List.foldl_nil]
            omega
        · have := i2 h2; omega
      rw [decDigits_ge (by omega), show (valD A * 10 + (c.toNat - 48)) / 10 = valD A by omega, show (valD A * 10 + (c.toNat - 48)) % 10 = c.toNat - 48 by omega, hcc, ← i1]
      exact ⟨rfl, fun _ => by omega⟩

/-! ### strconv.Atoi reads back what strconv.Itoa wrote -/
theorem pu_snoc : ∀ (A : List UInt8) (acc v : Nat) (c : UInt8), Lib.parseUint10 acc A = .ok v → isDig c = true → v ≤ 1000000 → Lib.parseUint10 acc (A ++ [c]) = .ok (v * 10 + (c.toNat - 48))
  | [], acc, v, c, h, hc, hv => by
    simp only [Lib.parseUint10] at h
    injection h with h
    subst h
    have := isDig_iff.1 hc
    rw [List.nil_append, Lib.parseUint10, if_pos this, if_neg (by omega), if_neg (by omega)]
    rfl
  | x :: A, acc, v, c, h, hc, hv => by
    rw [List.cons_append, Lib.parseUint10]
    rw [Lib.parseUint10] at h
    split at h
    · rename_i h1
      rw [if_pos h1]
      split at h
      · cases h
      · rename_i h2
        rw [if_neg h2]
        split at h
        · cases h
        · rename_i h3
          rw [if_neg h3]
          exact pu_snoc A _ v c h hc hv
    · cases h
theorem pu_dec (n : Nat) : n ≤ 1000000 → Lib.parseUint10 0 (Lib.decDigits n) = .ok n := by
  induction n using Nat.strongRecOn with
  | _ n ih =>
    intro hn
    by_cases h : n < 10
    · have ht := dg_toNat h
      rw [decDigits_lt h, Lib.parseUint10, ht, if_pos (by omega), if_neg (by omega), if_neg (by omega), Lib.parseUint10]
      congr 1
      omega
    · have hd := dg_toNat (show n % 10 < 10 by omega)
      rw [decDigits_ge h, pu_snoc _ 0 (n / 10) _ (ih (n / 10) (by omega) (by omega)) (isDig_iff.2 (by rw [hd]; omega)) (by omega), hd]
      congr 1
      omega
theorem atoi_itoa {n : Int} (h : -1000000 ≤ n ∧ n ≤ 1000000) : Lib.atoiAll (Lib.itoa n) = .ok n := by
  by_cases hn : n < 0
  · obtain ⟨u, rfl⟩ : ∃ u : Nat, n = -(u : Int) := ⟨n.natAbs, by omega⟩
    rw [Lib.itoa_neg u (by omega)]
    have h45 : (45 : UInt8).toNat = 45 := rfl
    simp only [Lib.atoiAll, h45, or_true, if_true, Lib.parseMag, if_neg (decDigits_ne u), pu_dec u (by omega), not_true, false_and, if_false]
    rw [if_neg (by omega)]
  · obtain ⟨u, rfl⟩ : ∃ u : Nat, n = (u : Int) := ⟨n.toNat, by omega⟩
    rw [Lib.itoa_nonneg]
    rcases hl : Lib.decDigits u with _ | ⟨c, r⟩
    · exact absurd hl (decDigits_ne u)
    · have hc := isDig_iff.1 ((decDigits_is u).1 c (by rw [hl]; simp))
      have hp := pu_dec u (by omega)
      rw [hl] at hp
      have c1 : ¬ (c.toNat = 43 ∨ c.toNat = 45) := by omega
      have c2 : ¬ c.toNat = 45 := by omega
      have c3 : ¬ c.toNat = 43 := by omega
      simp only [Lib.atoiAll, c3, c2, or_self, if_false, Lib.parseMag, List.cons_ne_nil, hp, false_and, not_false_iff, true_and]
      rw [if_neg (by omega)]
end Go.Proofs.YtpoipdjhelnibaaDoor
