/-
  Plain facts: the words of a text of ASCII bytes, as a list's pass; the words of a canonical text. No walk in sight.
-/
import Derived.Test.YtpoipdjhelnibaaDoorRdQ
import Derived.Lib.FieldsP
import Derived.Laws.RangeString
namespace Go.Proofs.YtpoipdjhelnibaaDoor
set_option linter.unusedVariables false

def wordSep (x : Nat) : Bool := decide (x ≠ 45) && (decide (x < 48) || decide (57 < x))
theorem sep_word {c : UInt8} (h : c = 45 ∨ isDig c = true) : wordSep c.toNat = false := by
  rcases h with rfl | h
  · rfl
  · have := isDig_iff.1 h
    simp [wordSep]
    omega
theorem itoa_ne (n : Int) : Lib.itoa n ≠ [] := by
  by_cases hn : n < 0
  · obtain ⟨u, rfl⟩ : ∃ u : Nat, n = -(u : Int) := ⟨n.natAbs, by omega⟩
    rw [Lib.itoa_neg u (by omega)]
    simp
  · obtain ⟨u, rfl⟩ : ∃ u : Nat, n = (u : Int) := ⟨n.toNat, by omega⟩
    rw [Lib.itoa_nonneg]
    exact decDigits_ne u
/-- the words of a list of bytes; cur: the word begun -/
def wdGo (p : Nat → Bool) (cur : List UInt8) : List UInt8 → List (List UInt8)
  | [] => if cur = [] then [] else [cur]
  | c :: r => if p c.toNat = true then (if cur = [] then wdGo p [] r else cur :: wdGo p [] r) else wdGo p (cur ++ [c]) r
theorem wdGo_in {p : Nat → Bool} : ∀ (A cur R : List UInt8), (∀ c ∈ A, p c.toNat = false) → wdGo p cur (A ++ R) = wdGo p (cur ++ A) R
  | [], cur, R, _ => by simp
  | c :: A, cur, R, h => by
    rw [List.cons_append, wdGo, if_neg (by rw [h c (by simp)]; simp), wdGo_in A _ R (fun x hx => h x (by simp [hx]))]
    simp
theorem wdGo_sep {p : Nat → Bool} {cur R : List UInt8} {c : UInt8} (h : p c.toNat = true) (hc : cur ≠ []) : wdGo p cur (c :: R) = cur :: wdGo p [] R := by
  rw [wdGo, if_pos h, if_neg hc]
theorem wdGo_sep0 {p : Nat → Bool} {R : List UInt8} {c : UInt8} (h : p c.toNat = true) : wdGo p [] (c :: R) = wdGo p [] R := by
  rw [wdGo, if_pos h, if_pos rfl]
def pcB (s : ByteArray) (x : Nat × Nat) : List UInt8 := (s.data.toList.drop x.1).take (x.2 - x.1)
theorem pc_ext (s : ByteArray) (x : Nat × Nat) : (s.extract x.1 x.2).data.toList = pcB s x := by
  rw [ByteArray.data_extract, Array.toList_extract]
  simp [pcB]
def opB (s : ByteArray) (st : Option Nat) (pos : Nat) : List UInt8 := match st with
  | none => []
  | some a => pcB s (a, pos)
theorem sl_len' (s : ByteArray) : s.data.toList.length = s.size := Array.length_toList
theorem pcB_end (s : ByteArray) {a pos : Nat} (h : s.size ≤ pos) : pcB s (a, pos) = pcB s (a, s.size) := by
  simp only [pcB]
  rw [List.take_of_length_le (by rw [List.length_drop, sl_len']; omega), List.take_of_length_le (by rw [List.length_drop, sl_len']; omega)]
/-- at ASCII bytes the library's pass over the runes is the pass over the bytes -/
theorem spans_wd {p : Nat → Bool} {s : ByteArray} (hs : ∀ c ∈ s.data.toList, c.toNat < 128) : ∀ (f pos : Nat) (st : Option Nat) (acc : List (Nat × Nat)), s.size ≤ pos + f → (∀ a, st = some a → a < pos ∧ a < s.size) →
    (Lib.closeSpans s (Lib.spansFromP p s f pos st acc)).map (pcB s) = acc.map (pcB s) ++ wdGo p (opB s st pos) (s.data.toList.drop pos)
  | f, pos, st, acc, hf, hst => by
    by_cases hlt : pos < s.size
    · obtain ⟨g, rfl⟩ : ∃ g, f = g + 1 := ⟨f - 1, by omega⟩
      have hl : pos < s.data.toList.length := by rw [sl_len']; exact hlt
      have hdr : s.data.toList.drop pos = s[pos]'hlt :: s.data.toList.drop (pos + 1) := by
        rw [List.drop_eq_getElem_cons hl]
        congr 1
      have hd := decode_ascii s pos hlt (hs _ (by
        have : s[pos]'hlt = s.data.toList[pos]'hl := rfl
        rw [this]; exact List.getElem_mem hl))
      obtain ⟨c, hc⟩ : ∃ c : UInt8, s[pos]'hlt = c := ⟨_, rfl⟩
      rw [hc] at hd hdr
      have hgrow : ∀ a, a < pos → pcB s (a, pos + 1) = pcB s (a, pos) ++ [c] := fun a ha => by
        simp only [pcB]
        have h2 : (s.data.toList.drop a)[pos - a]'(by rw [List.length_drop]; omega) = c := by
          rw [List.getElem_drop]
          have : a + (pos - a) = pos := by omega
          simp only [this]
          exact hc
        rw [show pos + 1 - a = (pos - a) + 1 by omega, List.take_succ_eq_append_getElem (by rw [List.length_drop]; omega), h2]
      have hone : pcB s (pos, pos + 1) = [c] := by
        simp only [pcB]
        rw [hdr, show pos + 1 - pos = 1 by omega]
        rfl
      have hne : ∀ a, a < pos → pcB s (a, pos) ≠ [] := fun a ha h => by
        have := congrArg List.length h
        simp only [pcB, List.length_take, List.length_drop, List.length_nil] at this
        omega
      rw [hdr]
      cases hp : p c.toNat with
      | true =>
        cases st with
        | none =>
          rw [Lib.spansFromP, if_pos hlt, hd]
          simp only [hp, if_true]
          rw [spans_wd hs g (pos + 1) none acc (by omega) (fun a h => by cases h)]
          simp only [opB]
          rw [wdGo_sep0 hp]
        | some a =>
          obtain ⟨h1, h2⟩ := hst a rfl
          rw [Lib.spansFromP, if_pos hlt, hd]
          simp only [hp, if_true]
          rw [spans_wd hs g (pos + 1) none _ (by omega) (fun a h => by cases h)]
          simp only [opB]
          rw [wdGo_sep hp (hne a h1)]
          simp
      | false =>
        cases st with
        | none =>
          rw [Lib.spansFromP, if_pos hlt, hd]
          simp only [hp, Bool.false_eq_true, if_false]
          rw [spans_wd hs g (pos + 1) (some pos) acc (by omega) (fun a h => by cases h; exact ⟨by omega, hlt⟩)]
          simp only [opB, hone]
          rw [wdGo, if_neg (by rw [hp]; simp)]
          rfl
        | some a =>
          obtain ⟨h1, h2⟩ := hst a rfl
          rw [Lib.spansFromP, if_pos hlt, hd]
          simp only [hp, Bool.false_eq_true, if_false]
          rw [spans_wd hs g (pos + 1) (some a) acc (by omega) (fun b h => by cases h; exact ⟨by omega, h2⟩)]
          simp only [opB, hgrow a h1]
          rw [wdGo, if_neg (by rw [hp]; simp)]
    · rw [Lib.spansFromP_end p s f pos st acc hlt, List.drop_of_length_le (by rw [sl_len']; omega)]
      cases st with
      | none => simp [Lib.closeSpans, opB, wdGo]
      | some a =>
        obtain ⟨h1, h2⟩ := hst a rfl
        have e := pcB_end s (a := a) (pos := pos) (by omega)
        have hn : pcB s (a, pos) ≠ [] := fun h => by
          have := congrArg List.length h
          simp only [pcB, List.length_take, List.length_drop, List.length_nil, sl_len'] at this
          omega
        simp only [Lib.closeSpans, opB]
        rw [wdGo, if_neg hn]
        simp [e]
theorem words_ascii {p : Nat → Bool} {s : ByteArray} (hs : ∀ c ∈ s.data.toList, c.toNat < 128) : (Lib.goFieldsP p s).map (fun x => x.data.toList) = wdGo p [] s.data.toList := by
  have h := spans_wd (p := p) hs s.size 0 none [] (by omega) (fun a h => by cases h)
  simp only [opB, List.map_nil, List.nil_append, List.drop_zero] at h
  rw [← h, Lib.goFieldsP, Lib.spansOfP, List.map_map]
  exact List.map_congr_left fun x _ => pc_ext s x
end Go.Proofs.YtpoipdjhelnibaaDoor
