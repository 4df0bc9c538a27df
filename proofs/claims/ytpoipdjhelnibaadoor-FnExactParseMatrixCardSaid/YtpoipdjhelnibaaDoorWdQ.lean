/-
  Plain facts: the integers between the other characters of a text, as the program gathers them. No walk in sight.
-/
import Derived.Test.YtpoipdjhelnibaaDoorWdP
namespace Go.Proofs.YtpoipdjhelnibaaDoor
set_option linter.unusedVariables false

def atO (l : List UInt8) : Option Int := match Lib.atoiAll l with
  | .ok v => some v
  | _ => none
theorem atO_itoa {n : Int} (h : -1000000 ≤ n ∧ n ≤ 1000000) : atO (Lib.itoa n) = some n := by
  unfold atO
  rw [atoi_itoa (by omega)]
/-- the integers of a text -/
def inL (s : ByteArray) : List Int := ((Lib.goFieldsP wordSep s).mapM (fun x => atO x.data.toList)).getD []
theorem inL_ascii {s : ByteArray} (hs : ∀ c ∈ s.data.toList, c.toNat < 128) : inL s = ((wdGo wordSep [] s.data.toList).mapM atO).getD [] := by
  unfold inL
  rw [← words_ascii hs, List.mapM_map]
  rfl
theorem itoa_word {n : Int} : ∀ c ∈ Lib.itoa n, wordSep c.toNat = false := fun c hc => sep_word (itoa_mem hc)
theorem itoa_lt {n : Int} {c : UInt8} (hc : c ∈ Lib.itoa n) : c.toNat < 128 := by
  rcases itoa_mem hc with rfl | h
  · decide
  · have := isDig_iff.1 h
    omega
theorem fTl_lt {a b c : Int} : ∀ x ∈ fTl a b c, x.toNat < 128 := fun x hx => by
  simp only [fTl, List.mem_cons, List.mem_append, List.not_mem_nil, or_false] at hx
  rcases hx with rfl | ((h | (rfl | (h | (rfl | h)))) | rfl)
  · decide
  · exact itoa_lt h
  · decide
  · exact itoa_lt h
  · decide
  · exact itoa_lt h
  · decide
theorem mTl_lt {a b c d : Int} : ∀ x ∈ mTl a b c d, x.toNat < 128 := fun x hx => by
  simp only [mTl, List.mem_cons, List.mem_append, List.not_mem_nil, or_false] at hx
  rcases hx with rfl | (((h | (rfl | h)) | (rfl | (h | (rfl | h)))) | rfl)
  · decide
  · exact itoa_lt h
  · decide
  · exact itoa_lt h
  · decide
  · exact itoa_lt h
  · decide
  · exact itoa_lt h
  · decide
theorem wd_one {n : Int} {c : UInt8} {R : List UInt8} (h : wordSep c.toNat = true) : wdGo wordSep [] (Lib.itoa n ++ c :: R) = Lib.itoa n :: wdGo wordSep [] R := by
  rw [wdGo_in _ _ _ itoa_word, List.nil_append, wdGo_sep h (itoa_ne n)]
theorem wd_fTl (a b c : Int) : wdGo wordSep [] (fTl a b c) = [Lib.itoa a, Lib.itoa b, Lib.itoa c] := by
  unfold fTl
  rw [wdGo_sep0 (by decide)]
  simp only [List.append_assoc, List.cons_append]
  rw [wd_one (by decide), wd_one (by decide), wd_one (by decide), wdGo, if_pos rfl]
theorem wd_mTl (a b c d : Int) : wdGo wordSep [] (mTl a b c d) = [Lib.itoa a, Lib.itoa b, Lib.itoa c, Lib.itoa d] := by
  unfold mTl
  rw [wdGo_sep0 (by decide)]
  simp only [List.append_assoc, List.cons_append]
  rw [wd_one (by decide), wd_one (by decide), wd_one (by decide), wd_one (by decide), wdGo, if_pos rfl]
/-- the integers of a form's canonical text -/
theorem inL_rdF {s : ByteArray} {a b c : Int} (h : rdF s.data.toList = some (a, b, c)) : inL s = [a, b, c] := by
  obtain ⟨⟨ga, gb, gc⟩, hl⟩ := rdF_iff.1 h
  rw [inL_ascii (by rw [hl]; exact fTl_lt), hl, wd_fTl]
  simp [atO_itoa ga, atO_itoa gb, atO_itoa gc]
/-- the integers of a matrix's canonical text -/
theorem inL_rdM {s : ByteArray} {a b c d : Int} (h : rdM s.data.toList = some (a, b, c, d)) : inL s = [a, b, c, d] := by
  obtain ⟨⟨⟨ga, gb⟩, gc, gd⟩, hl⟩ := rdM_iff.1 h
  rw [inL_ascii (by rw [hl]; exact mTl_lt), hl, wd_mTl]
  simp [atO_itoa ga, atO_itoa gb, atO_itoa gc, atO_itoa gd]

/-! ### how many words, how long -/
theorem spans_cnt {p : Nat → Bool} {s : ByteArray} : ∀ (f pos : Nat) (st : Option Nat) (acc : List (Nat × Nat)), (Lib.spansFromP p s f pos st acc).1.length ≤ acc.length + f
  | 0, pos, st, acc => by rw [Lib.spansFromP]; simp
  | f + 1, pos, st, acc => by
    by_cases hlt : pos < s.size
    · have h1 := fun q t A => spans_cnt (p := p) (s := s) f q t A
      cases hp : p (Utf8.decode s pos).1 <;> cases st <;> rw [Lib.spansFromP, if_pos hlt] <;> simp only [hp, if_true, Bool.false_eq_true, if_false]
      all_goals
        refine Nat.le_trans (h1 _ _ _) ?_
        simp
        try omega
    · rw [Lib.spansFromP_end _ _ _ _ _ _ hlt]
      simp
theorem words_cnt (p : Nat → Bool) (s : ByteArray) : (Lib.goFieldsP p s).length ≤ s.size + 1 := by
  have h := spans_cnt (p := p) (s := s) s.size 0 none []
  simp only [List.length_nil, Nat.zero_add] at h
  rw [Lib.goFieldsP, List.length_map, Lib.spansOfP, Lib.closeSpans]
  split
  · simp; omega
  · omega
theorem words_size (p : Nat → Bool) (s : ByteArray) : ∀ x ∈ Lib.goFieldsP p s, x.size ≤ s.size := fun x hx => by
  obtain ⟨y, _, rfl⟩ := List.mem_map.1 hx
  rw [ByteArray.size_extract]
  omega
theorem mapA_snoc {A : List ByteArray} {p : ByteArray} {L : List Int} {n : Int} (h : A.mapM (fun x => atO x.data.toList) = some L) (h1 : atO p.data.toList = some n) : (A ++ [p]).mapM (fun x => atO x.data.toList) = some (L ++ [n]) := by
  rw [List.mapM_append, h]
  simp [h1]
theorem mapA_bad {A R : List ByteArray} {p : ByteArray} {L : List Int} (h : A.mapM (fun x => atO x.data.toList) = some L) (h1 : atO p.data.toList = none) : (A ++ p :: R).mapM (fun x => atO x.data.toList) = none := by
  rw [List.mapM_append, h]
  simp [h1]
end Go.Proofs.YtpoipdjhelnibaaDoor
