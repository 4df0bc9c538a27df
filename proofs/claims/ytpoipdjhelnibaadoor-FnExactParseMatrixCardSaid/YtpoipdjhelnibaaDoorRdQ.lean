/-
  Plain facts: how the reference reads a number, a list, a form, a matrix; it reads just the canonical texts. No walk in sight.
-/
import Derived.Test.YtpoipdjhelnibaaDoorRdP
namespace Go.Proofs.YtpoipdjhelnibaaDoor
set_option linter.unusedVariables false

/-! ### a number -/
def rdNat (l : List UInt8) : Int := if (1 ≤ l.length ∧ l.length ≤ 10) ∧ ¬ (l.head? = some 48 ∧ 1 < l.length) ∧ l.all isDig = true then (valD l : Int) else -1
theorem len_dec {n : Nat} (h : n ≤ 1000000) : (Lib.decDigits n).length ≤ 10 := by
  rw [Lib.decDigits_length]
  by_cases h1 : n < 10
  · rw [Lib.nDigits_small h1]; omega
  · have e : ∀ m, ¬ m < 10 → Lib.nDigits m = Lib.nDigits (m / 10) + 1 := fun m hm => by rw [Lib.nDigits, dif_neg hm]
    have go : ∀ k m, m < 10 ^ (k + 1) → Lib.nDigits m ≤ k + 1 := fun k => by
      induction k with
      | zero => intro m hm; rw [Lib.nDigits_small (by omega)]; omega
      | succ k ih =>
        intro m hm
        by_cases h2 : m < 10
        · rw [Lib.nDigits_small h2]; omega
        · rw [e m h2]
          have := ih (m / 10) (by rw [Nat.div_lt_iff_lt_mul (by omega)]; rw [Nat.pow_succ] at hm; exact hm)
          omega
    have := go 6 n (by omega)
    omega
theorem rdNat_dec {n : Nat} (h : n ≤ 1000000) : rdNat (Lib.decDigits n) = n := by
  obtain ⟨a, b, c⟩ := decDigits_is n
  have hl := len_dec h
  have h0 : 1 ≤ (Lib.decDigits n).length := by rw [Lib.decDigits_length]; rw [← Lib.decDigits_length]; exact List.length_pos_iff.2 (decDigits_ne n)
  unfold rdNat
  rw [if_pos, b]
  refine ⟨⟨h0, hl⟩, ?_, List.all_eq_true.2 a⟩
  rintro ⟨h1, h2⟩
  rcases hd : Lib.decDigits n with _ | ⟨x, r⟩
  · exact absurd hd (decDigits_ne n)
  · rw [hd] at h1
    simp at h1
    by_cases hn : 1 ≤ n
    · exact c hn x r hd (by rw [h1]; rfl)
    · have : n = 0 := by omega
      subst this
      rw [decDigits_lt (by omega)] at h2
      simp at h2
theorem rdNat_of {l : List UInt8} (h : 0 ≤ rdNat l) : l = Lib.decDigits (rdNat l).toNat := by
  unfold rdNat at h ⊢
  split at h
  · rename_i hc
    rw [if_pos hc, Int.toNat_natCast]
    obtain ⟨⟨h1, h2⟩, h3, h4⟩ := hc
    refine (decDigits_of l (List.all_eq_true.1 h4) (List.length_pos_iff.1 h1) fun c r he h48 => ?_).1
    rw [he] at h3
    rcases r with _ | ⟨y, r⟩
    · rfl
    · exact absurd ⟨by simp; exact UInt8.toNat_inj.1 h48, by simp⟩ h3
  · omega
def rdMin (l : List UInt8) : Bool := decide (1 < l.length) && (l.head? == some 45)
def rdInt (l : List UInt8) : Option Int :=
  if rdNat (if rdMin l = true then l.drop 1 else l) < 0 ∨ (rdMin l = true ∧ rdNat (if rdMin l = true then l.drop 1 else l) = 0) ∨ 1000000 < rdNat (if rdMin l = true then l.drop 1 else l) then none
  else some (if rdMin l = true then - rdNat (if rdMin l = true then l.drop 1 else l) else rdNat (if rdMin l = true then l.drop 1 else l))
theorem dec_head {n : Nat} {c : UInt8} {r : List UInt8} (h : Lib.decDigits n = c :: r) : c ≠ 45 ∧ c ≠ 44 ∧ c ≠ 59 ∧ c ≠ 40 := by
  have := isDig_iff.1 ((decDigits_is n).1 c (by rw [h]; simp))
  refine ⟨?_, ?_, ?_, ?_⟩ <;> (intro h; subst h; simp at this)
theorem rdMin_dec (n : Nat) : rdMin (Lib.decDigits n) = false := by
  rcases hd : Lib.decDigits n with _ | ⟨c, r⟩
  · rfl
  · have := (dec_head hd).1
    simp [rdMin, this]
theorem rdMin_neg (n : Nat) : rdMin (45 :: Lib.decDigits n) = true := by
  have := List.length_pos_iff.2 (decDigits_ne n)
  simp [rdMin]
  omega
theorem rdInt_itoa {n : Int} (h : -1000000 ≤ n ∧ n ≤ 1000000) : rdInt (Lib.itoa n) = some n := by
  by_cases hn : n < 0
  · obtain ⟨u, rfl⟩ : ∃ u : Nat, n = -(u : Int) := ⟨n.natAbs, by omega⟩
    rw [Lib.itoa_neg u (by omega)]
    unfold rdInt
    rw [rdMin_neg]
    simp only [if_true, List.drop_succ_cons, List.drop_zero]
    rw [rdNat_dec (by omega), if_neg (by omega)]
  · obtain ⟨u, rfl⟩ : ∃ u : Nat, n = (u : Int) := ⟨n.toNat, by omega⟩
    rw [Lib.itoa_nonneg]
    unfold rdInt
    rw [rdMin_dec]
    simp only [Bool.false_eq_true, if_false]
    rw [rdNat_dec (by omega), if_neg (by simp; omega)]
theorem rdInt_some {l : List UInt8} {n : Int} (h : rdInt l = some n) : (-1000000 ≤ n ∧ n ≤ 1000000) ∧ l = Lib.itoa n := by
  unfold rdInt at h
  rcases hm : rdMin l with _ | _
  · rw [hm] at h
    simp only [Bool.false_eq_true, if_false, false_and, false_or] at h
    split at h
    · cases h
    · rename_i hc
      injection h with h
      have := rdNat_of (l := l) (by omega)
      rw [h] at this
      refine ⟨by omega, ?_⟩
      rw [this, show n = ((n.toNat : Nat) : Int) by omega, Lib.itoa_nonneg]
      rfl
  · rw [hm] at h
    simp only [if_true, true_and] at h
    split at h
    · cases h
    · rename_i hc
      injection h with h
      have := rdNat_of (l := l.drop 1) (by omega)
      generalize hr : rdNat (l.drop 1) = r at *
      refine ⟨by omega, ?_⟩
      have hl : l = 45 :: l.drop 1 := by
        rcases l with _ | ⟨c, t⟩
        · simp [rdMin] at hm
        · simp [rdMin] at hm
          simp [hm.2]
      rw [hl, this, ← h, show -r = -((r.toNat : Nat) : Int) by omega, Lib.itoa_neg _ (by omega)]

/-! ### splitting -/
def splGo (b : UInt8) (cur : List UInt8) : List UInt8 → List (List UInt8)
  | [] => [cur]
  | c :: r => if c = b then cur :: splGo b [] r else splGo b (cur ++ [c]) r
theorem splGo_no {b : UInt8} : ∀ (A cur : List UInt8), b ∉ A → splGo b cur A = [cur ++ A]
  | [], cur, _ => by simp [splGo]
  | c :: A, cur, h => by
    have h1 : c ≠ b := fun e => h (by simp [e])
    rw [splGo, if_neg h1, splGo_no A _ (fun hx => h (by simp [hx]))]
    simp
theorem splGo_at {b : UInt8} : ∀ (A cur R : List UInt8), b ∉ A → splGo b cur (A ++ b :: R) = (cur ++ A) :: splGo b [] R
  | [], cur, R, _ => by simp [splGo]
  | c :: A, cur, R, h => by
    have h1 : c ≠ b := fun e => h (by simp [e])
    rw [List.cons_append, splGo, if_neg h1, splGo_at A _ R (fun hx => h (by simp [hx]))]
    simp
theorem first_b (b : UInt8) : ∀ l : List UInt8, b ∉ l ∨ ∃ A R, l = A ++ b :: R ∧ b ∉ A
  | [] => .inl (by simp)
  | c :: r => by
    by_cases h : c = b
    · exact .inr ⟨[], r, by rw [h]; rfl, by simp⟩
    · rcases first_b b r with h1 | ⟨A, R, rfl, h2⟩
      · exact .inl (by simp [h1]; exact fun e => h e.symm)
      · exact .inr ⟨c :: A, R, rfl, by simp [h2]; exact fun e => h e.symm⟩
theorem spl_cons {b : UInt8} {l A : List UInt8} {rest : List (List UInt8)} (h : splGo b [] l = A :: rest) : (rest = [] ∧ l = A) ∨ ∃ R, l = A ++ b :: R ∧ rest = splGo b [] R := by
  rcases first_b b l with h1 | ⟨A', R, rfl, h1⟩
  · rw [splGo_no _ _ h1] at h
    simp only [List.nil_append, List.cons.injEq] at h
    exact .inl ⟨h.2.symm, h.1⟩
  · rw [splGo_at _ _ _ h1] at h
    simp only [List.nil_append, List.cons.injEq] at h
    exact .inr ⟨R, by rw [h.1], h.2.symm⟩
theorem spl_ne (b : UInt8) (l : List UInt8) : splGo b [] l ≠ [] := by
  rcases first_b b l with h1 | ⟨A', R, rfl, h1⟩
  · rw [splGo_no _ _ h1]; simp
  · rw [splGo_at _ _ _ h1]; simp
theorem spl2 {b : UInt8} {l A B : List UInt8} (h : splGo b [] l = [A, B]) : l = A ++ b :: B := by
  rcases spl_cons h with ⟨h1, _⟩ | ⟨R, rfl, h2⟩
  · cases h1
  · rcases spl_cons h2.symm with ⟨_, h3⟩ | ⟨R', _, h4⟩
    · rw [h3]
    · exact absurd h4.symm (spl_ne _ _)
theorem spl3 {b : UInt8} {l A B C : List UInt8} (h : splGo b [] l = [A, B, C]) : l = A ++ b :: (B ++ b :: C) := by
  rcases spl_cons h with ⟨h1, _⟩ | ⟨R, rfl, h2⟩
  · cases h1
  · rw [spl2 h2.symm]
theorem itoa_mem {n : Int} {c : UInt8} (h : c ∈ Lib.itoa n) : c = 45 ∨ isDig c = true := by
  by_cases hn : n < 0
  · obtain ⟨u, rfl⟩ : ∃ u : Nat, n = -(u : Int) := ⟨n.natAbs, by omega⟩
    rw [Lib.itoa_neg u (by omega)] at h
    rcases List.mem_cons.1 h with h | h
    · exact .inl h
    · exact .inr ((decDigits_is u).1 c h)
  · obtain ⟨u, rfl⟩ : ∃ u : Nat, n = (u : Int) := ⟨n.toNat, by omega⟩
    rw [Lib.itoa_nonneg] at h
    exact .inr ((decDigits_is u).1 c h)
theorem itoa_not {n : Int} {c : UInt8} (h1 : c ≠ 45) (h2 : isDig c = false) : c ∉ Lib.itoa n := fun h => by
  rcases itoa_mem h with h | h
  · exact h1 h
  · rw [h] at h2; cases h2

/-! ### forms and matrices -/
def rdInts (b : UInt8) (k : Nat) (l : List UInt8) : Option (List Int) := if (splGo b [] l).length = k then (splGo b [] l).mapM rdInt else none
def rdIn (x y : UInt8) (l : List UInt8) : Option (List UInt8) := if 2 ≤ l.length ∧ l.head? = some x ∧ l.getLast? = some y then some ((l.drop 1).take (l.length - 2)) else none
theorem rdIn_some {x y : UInt8} {l m : List UInt8} : rdIn x y l = some m ↔ l = x :: (m ++ [y]) := by
  unfold rdIn
  constructor
  · intro h
    split at h
    · rename_i hc
      injection h with h
      obtain ⟨h1, h2, h3⟩ := hc
      rcases l with _ | ⟨c, t⟩
      · simp at h2
      · simp at h2
        subst h2
        rcases List.eq_nil_or_concat t with rfl | ⟨A, d, rfl⟩
        · simp at h1
        · rw [List.concat_eq_append] at *
          have : d = y := by
            rw [show c :: (A ++ [d]) = (c :: A) ++ [d] from rfl, List.getLast?_append] at h3
            simpa using h3
          subst this
          rw [← h]
          simp
    · cases h
  · intro h
    subst h
    rw [if_pos]
    · simp
    · refine ⟨by simp, by simp, ?_⟩
      rw [show x :: (m ++ [y]) = (x :: m) ++ [y] from rfl, List.getLast?_append]
      simp
def rdF (l : List UInt8) : Option (Int × Int × Int) := match (rdIn 40 41 l).bind (rdInts 44 3) with
  | some [a, b, c] => some (a, b, c)
  | _ => none
def fTl (a b c : Int) : List UInt8 := 40 :: ((Lib.itoa a ++ 44 :: (Lib.itoa b ++ 44 :: Lib.itoa c)) ++ [41])
def mTl (a b c d : Int) : List UInt8 := 91 :: (((Lib.itoa a ++ 44 :: Lib.itoa b) ++ 59 :: (Lib.itoa c ++ 44 :: Lib.itoa d)) ++ [93])
def rdM (l : List UInt8) : Option (Int × Int × Int × Int) := match (rdIn 91 93 l).map (splGo 59 []) with
  | some [r, s] => match rdInts 44 2 r, rdInts 44 2 s with
    | some [a, b], some [c, d] => some (a, b, c, d)
    | _, _ => none
  | _ => none
theorem len3 {α : Type} {L : List α} (h : L.length = 3) : ∃ a b c, L = [a, b, c] := by
  match L, h with
  | [a, b, c], _ => exact ⟨a, b, c, rfl⟩
theorem len2 {α : Type} {L : List α} (h : L.length = 2) : ∃ a b, L = [a, b] := by
  match L, h with
  | [a, b], _ => exact ⟨a, b, rfl⟩
theorem rdInts3 {l : List UInt8} {a b c : Int} : rdInts 44 3 l = some [a, b, c] ↔ ((-1000000 ≤ a ∧ a ≤ 1000000) ∧ (-1000000 ≤ b ∧ b ≤ 1000000) ∧ (-1000000 ≤ c ∧ c ≤ 1000000)) ∧ l = Lib.itoa a ++ 44 :: (Lib.itoa b ++ 44 :: Lib.itoa c) := by
  have hn : ∀ n : Int, (44 : UInt8) ∉ Lib.itoa n := fun n => itoa_not (by decide) (by decide)
  unfold rdInts
  constructor
  · intro h
    split at h
    · rename_i hlen
      obtain ⟨A, B, C, hp⟩ := len3 hlen
      have hl := spl3 hp
      rw [hp] at h
      simp only [List.mapM_cons, List.mapM_nil, Option.bind_eq_bind, Option.bind_eq_some_iff, Option.pure_def, Option.some.injEq, List.cons.injEq] at h
      obtain ⟨a', ha, _, ⟨b', hb, _, ⟨c', hc, _, rfl, rfl⟩, rfl⟩, rfl, rfl, rfl, _⟩ := h
      obtain ⟨ga, rfl⟩ := rdInt_some ha
      obtain ⟨gb, rfl⟩ := rdInt_some hb
      obtain ⟨gc, rfl⟩ := rdInt_some hc
      exact ⟨⟨ga, gb, gc⟩, hl⟩
    · cases h
  · rintro ⟨⟨ga, gb, gc⟩, rfl⟩
    rw [splGo_at _ _ _ (hn a), splGo_at _ _ _ (hn b), splGo_no _ _ (hn c)]
    simp [rdInt_itoa ga, rdInt_itoa gb, rdInt_itoa gc]
theorem rdInts2 {l : List UInt8} {a b : Int} : rdInts 44 2 l = some [a, b] ↔ ((-1000000 ≤ a ∧ a ≤ 1000000) ∧ (-1000000 ≤ b ∧ b ≤ 1000000)) ∧ l = Lib.itoa a ++ 44 :: Lib.itoa b := by
  have hn : ∀ n : Int, (44 : UInt8) ∉ Lib.itoa n := fun n => itoa_not (by decide) (by decide)
  unfold rdInts
  constructor
  · intro h
    split at h
    · rename_i hlen
      obtain ⟨A, B, hp⟩ := len2 hlen
      have hl := spl2 hp
      rw [hp] at h
      simp only [List.mapM_cons, List.mapM_nil, Option.bind_eq_bind, Option.bind_eq_some_iff, Option.pure_def, Option.some.injEq, List.cons.injEq] at h
      obtain ⟨a', ha, _, ⟨b', hb, _, rfl, rfl⟩, rfl, rfl, _⟩ := h
      obtain ⟨ga, rfl⟩ := rdInt_some ha
      obtain ⟨gb, rfl⟩ := rdInt_some hb
      exact ⟨⟨ga, gb⟩, hl⟩
    · cases h
  · rintro ⟨⟨ga, gb⟩, rfl⟩
    rw [splGo_at _ _ _ (hn a), splGo_no _ _ (hn b)]
    simp [rdInt_itoa ga, rdInt_itoa gb]
/-- the reference reads just the canonical texts of forms -/
theorem rdF_iff {l : List UInt8} {a b c : Int} : rdF l = some (a, b, c) ↔ ((-1000000 ≤ a ∧ a ≤ 1000000) ∧ (-1000000 ≤ b ∧ b ≤ 1000000) ∧ (-1000000 ≤ c ∧ c ≤ 1000000)) ∧ l = fTl a b c := by
  unfold rdF
  constructor
  · intro h
    split at h
    · rename_i x y z hb
      simp only [Option.some.injEq, Prod.mk.injEq] at h
      obtain ⟨rfl, rfl, rfl⟩ := h
      obtain ⟨m, hm, hr⟩ := Option.bind_eq_some_iff.1 hb
      obtain ⟨g, rfl⟩ := rdInts3.1 hr
      exact ⟨g, rdIn_some.1 hm⟩
    · cases h
  · rintro ⟨g, rfl⟩
    have h1 : rdIn 40 41 (fTl a b c) = some (Lib.itoa a ++ 44 :: (Lib.itoa b ++ 44 :: Lib.itoa c)) := rdIn_some.2 rfl
    have h2 := (rdInts3 (a := a) (b := b) (c := c)).2 ⟨g, rfl⟩
    rw [h1, Option.bind_some, h2]
/-- the reference reads just the canonical texts of matrices -/
theorem rdM_iff {l : List UInt8} {a b c d : Int} : rdM l = some (a, b, c, d) ↔ (((-1000000 ≤ a ∧ a ≤ 1000000) ∧ (-1000000 ≤ b ∧ b ≤ 1000000)) ∧ ((-1000000 ≤ c ∧ c ≤ 1000000) ∧ (-1000000 ≤ d ∧ d ≤ 1000000))) ∧ l = mTl a b c d := by
  have hn : ∀ n : Int, (59 : UInt8) ∉ Lib.itoa n := fun n => itoa_not (by decide) (by decide)
  unfold rdM
  constructor
  · intro h
    split at h
    · rename_i r s hb
      split at h
      · rename_i x y z t h1 h2
        simp only [Option.some.injEq, Prod.mk.injEq] at h
        obtain ⟨rfl, rfl, rfl, rfl⟩ := h
        obtain ⟨m, hm, hr⟩ := Option.map_eq_some_iff.1 hb
        obtain ⟨g1, rfl⟩ := rdInts2.1 h1
        obtain ⟨g2, rfl⟩ := rdInts2.1 h2
        have := spl2 hr
        subst this
        exact ⟨⟨g1, g2⟩, rdIn_some.1 hm⟩
      · cases h
    · cases h
  · rintro ⟨⟨g1, g2⟩, rfl⟩
    have h1 : rdIn 91 93 (mTl a b c d) = some ((Lib.itoa a ++ 44 :: Lib.itoa b) ++ 59 :: (Lib.itoa c ++ 44 :: Lib.itoa d)) := rdIn_some.2 rfl
    have k1 : (59 : UInt8) ∉ Lib.itoa a ++ 44 :: Lib.itoa b := by
      simp only [List.mem_append, List.mem_cons, not_or]
      exact ⟨hn a, by decide, hn b⟩
    have k2 : (59 : UInt8) ∉ Lib.itoa c ++ 44 :: Lib.itoa d := by
      simp only [List.mem_append, List.mem_cons, not_or]
      exact ⟨hn c, by decide, hn d⟩
    have h2 := (rdInts2 (a := a) (b := b)).2 ⟨g1, rfl⟩
    have h3 := (rdInts2 (a := c) (b := d)).2 ⟨g2, rfl⟩
    rw [h1, Option.map_some, splGo_at _ _ _ k1, splGo_no _ _ k2]
    simp only [List.nil_append, h2, h3]
end Go.Proofs.YtpoipdjhelnibaaDoor
