/-
  'IsReciprocityProof': its law's walk.
-/
import Derived.Test.YtfpedehpmgcmnaaOpen3
import Derived.Test.YtfpedehpmgcmnaaIRs
namespace Go.Proofs.Ytfpedehpmgcmnaa
open Go.RowKit
set_option linter.unusedSimpArgs false
set_option linter.unusedVariables false

theorem made3 (n : Nat) : (madeCells #[Value.int .i64 0, .int .i64 0, .int .i64 0] (n * 3)).toList = flat (List.replicate n (0, 0, 0)) := by
  apply List.ext_getElem
  · simp [madeCells, flat_length]
  · intro i h1 h2
    rw [flat_length, List.length_replicate] at h2
    have hg := flat_get (List.replicate n (0, 0, 0)) (i / 3) (by rw [List.length_replicate]; omega)
    have e : (List.replicate n ((0, 0, 0) : T3)).getD (i / 3) (0, 0, 0) = (0, 0, 0) := by
      simp [show i / 3 < n by omega]
    rw [e] at hg
    have hi : i = i / 3 * 3 ∨ i = i / 3 * 3 + 1 ∨ i = i / 3 * 3 + 2 := by omega
    have key : (flat (List.replicate n (0, 0, 0)))[i]? = some (Value.int .i64 0) := by
      rcases hi with h | h | h
      · have := hg.1; rw [← h] at this; rw [this]
      · have := hg.2.1; rw [← h] at this; rw [this]
      · have := hg.2.2; rw [← h] at this; rw [this]
    rw [List.getElem?_eq_getElem (by rw [flat_length, List.length_replicate]; exact h2)] at key
    rw [Option.some.inj key]
    simp [madeCells]
    have : i % 3 = 0 ∨ i % 3 = 1 ∨ i % 3 = 2 := by omega
    rcases this with h | h | h <;> simp [h]
theorem flat_set : ∀ (D : List T3) (k : Nat) (t : T3), k < D.length → (((flat D).set (k * 3) (.int .i64 t.1)).set (k * 3 + 1) (.int .i64 t.2.1)).set (k * 3 + 2) (.int .i64 t.2.2) = flat (D.set k t)
  | [], k, t, h => by simp at h
  | d :: D, 0, t, _ => by rw [flat_cons]; rfl
  | d :: D, k + 1, t, h => by
    have := flat_set D k t (by simpa using h)
    rw [flat_cons, show (k + 1) * 3 = k * 3 + 1 + 1 + 1 by omega, show k * 3 + 1 + 1 + 1 + 1 = (k * 3 + 1) + 1 + 1 + 1 by omega, show k * 3 + 1 + 1 + 1 + 2 = (k * 3 + 2) + 1 + 1 + 1 by omega]
    simp only [List.set_cons_succ]
    rw [this, ← flat_cons]
def fill (L : List T3) (n k : Nat) : List T3 := (List.range n).map fun j => if j < k then L.getD j (0, 0, 0) else (0, 0, 0)
theorem fill_length (L : List T3) (n k : Nat) : (fill L n k).length = n := by simp [fill]
theorem fill_zero (L : List T3) (n : Nat) : fill L n 0 = List.replicate n (0, 0, 0) := by
  apply List.ext_getElem
  · simp [fill]
  · intro i h1 h2
    simp [fill]
theorem fill_succ (L : List T3) {n k : Nat} {t : T3} (ht : L.getD k (0, 0, 0) = t) : (fill L n k).set k t = fill L n (k + 1) := by
  apply List.ext_getElem
  · simp [fill]
  · intro i h1 h2
    simp [fill] at h2
    simp only [fill, List.getElem_set, List.getElem_map, List.getElem_range]
    by_cases h : k = i
    · subst h; rw [if_pos rfl, if_pos (by omega), ht]
    · by_cases h' : i < k
      · rw [if_neg h, if_pos h', if_pos (by omega)]
      · rw [if_neg h, if_neg h', if_neg (by omega)]
theorem fill_end {L : List T3} {n : Nat} (h : L.length = n) : fill L n n = L := by
  apply List.ext_getElem
  · simp [fill, h]
  · intro i h1 h2
    simp [fill] at h1
    simp [fill, h1, h2]
theorem toSymbolStep_any (a b c : Int) (w : World) : Calls Try.prog 44 #[stepV a b c] w fun e w' => e = .returned (stepV a b c) ∧ Below w.heap.size w w' := by
  go_enter Try.func44, Try.ntmps44
  go_wp2
  go_returns
  exact ⟨rfl, by go_grown⟩
set_option maxHeartbeats 1600000 in
theorem toSymbolStepS_any (A : Option Addr) (n cap : Nat) (L : List T3) (w : World) (hi : InTri w A n cap L) (h3 : n ≤ 1048576) : Calls Try.prog 10 #[.slice A n cap] w (StRetL w L) := by
  obtain ⟨ib, hbi, hbz, hbs, hbb⟩ := info_parts Try.infoSt
  have hby : ib.bytes * n ≤ 281474976710656 := by rw [hbb]; omega
  have HM := Lib.hid (show (madeCells #[Value.int .i64 0, .int .i64 0, .int .i64 0] (n * 3)).toList = flat (fill L n 0) by rw [fill_zero, made3])
  have hn : L.length = n := by
    rcases hi with ⟨_, h1, _, h2⟩ | ⟨_, _, _, _, _, h, _⟩ | ⟨_, _, h1, h2⟩
    · rw [h1, h2]; rfl
    · exact h
    · rw [h1, h2]; rfl
  have HE := Lib.hid (fill_end hn)
  have hc : ∀ k, k < n → ∃ b off, A = some ⟨b, off, none⟩ ∧ b < w.heap.size ∧ w.cell? ⟨b, off + k * 3, none⟩ = some (.int .i64 (L.getD k (0, 0, 0)).1) ∧ w.cell? ⟨b, off + k * 3 + 1, none⟩ = some (.int .i64 (L.getD k (0, 0, 0)).2.1) ∧ w.cell? ⟨b, off + k * 3 + 2, none⟩ = some (.int .i64 (L.getD k (0, 0, 0)).2.2) := fun k hk => by
    rcases hi with ⟨_, h1, _, h2⟩ | ⟨b, off, rfl, _, _, _, _, hb, hcell, _⟩ | ⟨_, _, h1, h2⟩
    · omega
    · exact ⟨b, off, rfl, hb, hcell k hk⟩
    · omega
  have HC := Lib.hid hc
  clear hc hi hn
  go_enter Try.func10, Try.ntmps10
  go_wp2_with (at_make; go_loud (refine wpList_make_full _ rfl _ _ 25 rfl w.heap.size 61 ib (.agg #[.int .i64 0, .int .i64 0, .int .i64 0]) 3 Try.underlying25 hbi hbz hbs .i64 .i64 n n n rfl rfl rfl rfl hby (by unfold maxLen; omega) (by simp) ?rest))
  case rest =>
    intro w1 hown1 hgrow1
    have hown0 : w1.ownsRow w.heap.size 61 3 (.slice (some ⟨w.heap.size, 0, none⟩) n n) n (flat (fill L n 0)) := by rw [← HM.out]; exact hown1
    have hb1 : Below w.heap.size w w1 := Below.grown (Below.refl _ _) hgrow1 (Nat.le_refl _) (fun k hk => by cases hk)
    clear hgrow1 hown1 HM
    go_wp2
    go_loopw [4] (fun i wr => ∃ k : Nat, i = .int .i64 k ∧ k ≤ n ∧ wr.ownsRow w.heap.size 61 3 (.slice (some ⟨w.heap.size, 0, none⟩) n n) n (flat (fill L n k)) ∧ Below w.heap.size w wr) (fun i _ => n - (intOf i).toNat)
    case atStart => exact ⟨0, rfl, Nat.zero_le _, hown0, hb1⟩
    case round =>
      clear hown0 hb1
      obtain ⟨k, rfl, hk, hown, hb⟩ := hrel
      have hsz := hb.size
      have hgl := (World.ownsRow.lt hown w.heap.size rfl).2
      by_cases hlt : k < n
      · obtain ⟨b, off, rfl, hbl, c0, c1, c2⟩ := HC.out k hlt
        obtain ⟨t, ht⟩ : ∃ t, L.getD k (0, 0, 0) = t := ⟨_, rfl⟩
        obtain ⟨x, y, z⟩ := t
        rw [ht] at c0 c1 c2
        rw [← (bcell hb).1 _ _ hbl] at c0 c1 c2
        have HF := Lib.hid (fill_succ L (n := n) ht)
        have k0 : (0 : Int) ≤ (k : Int) := by omega
        have k1 : (k : Int) < (n : Int) := by omega
        simp only at c0 c1 c2
        clear ht
        go_wp2_with fail
        ((with_reducible refine (toSymbolStep_any _ _ _ _).mono ?_); rintro e w2 ⟨rfl, hb2⟩)
        have hown2 : w2.ownsRow w.heap.size 61 3 (.slice (some ⟨w.heap.size, 0, none⟩) n n) n (flat (fill L n k)) := by
          refine ⟨hown.1, ?_⟩
          rcases hown.2 with h | ⟨g, cap, cur, e, h1, hh, r⟩
          · exact .inl h
          · exact .inr ⟨g, cap, cur, e, h1, by rw [hb2.block g (Array.getElem?_eq_some_iff.1 hh).1]; exact hh, r⟩
        have hb3 := hb.trans (hb2.mono hsz)
        clear hb2 hown hb c0 c1 c2
        have hcl : ∀ j, j < n * 3 → ∃ u, w2.cell? ⟨w.heap.size, j, none⟩ = some u := fun j hj => by
          rw [World.ownsRow.cellAt hown2 j hj]
          exact ⟨_, List.getElem?_eq_getElem (by rw [flat_length, fill_length]; exact hj)⟩
        obtain ⟨u0, e0⟩ := hcl (k * 3) (by omega)
        obtain ⟨u1, e1⟩ := hcl (k * 3 + 1) (by omega)
        obtain ⟨u2, e2⟩ := hcl (k * 3 + 2) (by omega)
        have f0 := World.ownsRow.frozenAt hown2 (k * 3)
        have f1 := World.ownsRow.frozenAt hown2 (k * 3 + 1)
        have f2 := World.ownsRow.frozenAt hown2 (k * 3 + 2)
        have s1 := World.ownsRow.stored hown2 (k * 3) (.int .i64 x)
        have s2 := World.ownsRow.stored s1.1 (k * 3 + 1) (.int .i64 y)
        have s3 := World.ownsRow.stored s2.1 (k * 3 + 2) (.int .i64 z)
        have hs3 := s3.1
        rw [flat_set (fill L n k) k (x, y, z) (by rw [fill_length]; exact hlt), HF.out] at hs3
        have HS3 := Lib.hid hs3
        have HB3 := Lib.hid (((hb3.setCell (p := ⟨w.heap.size, k * 3, none⟩) (Nat.le_refl _) (.int .i64 x)).setCell (p := ⟨w.heap.size, k * 3 + 1, none⟩) (Nat.le_refl _) (.int .i64 y)).setCell (p := ⟨w.heap.size, k * 3 + 2, none⟩) (Nat.le_refl _) (.int .i64 z))
        clear hown2 s1 s2 s3 hs3 hcl hb3
        go_wp2
        go_roundw
        case rel => exact ⟨k + 1, by go_num, by omega, HS3.out, HB3.out⟩
        case measure => simp only [intOf]; omega
      · obtain rfl : k = n := by omega
        have hres : StLst wr w.heap.size (.slice (some ⟨w.heap.size, 0, none⟩) k k) L := by
          rw [HE.out] at hown
          unfold StLst
          have := congrArg List.length HE.out
          rw [fill_length] at this
          rw [← this]
          exact hown
        clear hown hlt
        go_wp2
        go_ret
        exact ⟨_, rfl, hres, hb⟩
theorem szS_ok (A : Option Addr) (n cap : Nat) (w : World) (h : n ≤ 1048576) : Calls Try.prog 8 #[.slice A n cap, .int .i64 1048576] w fun e w' => e = .returned (.int .i64 (1048576 - (n : Int))) ∧ w = w' := by
  have h1 : ¬ (1048576 - (n : Int)) < 0 := by omega
  go_enter Try.func8, Try.ntmps8
  go_wp2
  go_ret
  exact ⟨rfl, rfl⟩
theorem szS_no (A : Option Addr) (n cap : Nat) (w : World) (h : 1048576 < n) (hm : n ≤ maxLen) : Calls Try.prog 8 #[.slice A n cap, .int .i64 1048576] w fun e w' => e = .returned (.int .i64 (-1)) ∧ w = w' := by
  unfold maxLen at hm
  have h1 : (1048576 - (n : Int)) < 0 := by omega
  go_enter Try.func8, Try.ntmps8
  go_wp2
  go_ret
  exact ⟨rfl, rfl⟩
theorem In64T {w : World} {A : Option Addr} {n cap : Nat} {L : List T3} (hi : InTri w A n cap L) : L.length = n ∧ n ≤ maxLen ∧ ∀ k, k < n → In64 (L.getD k z3).1 ∧ In64 (L.getD k z3).2.1 ∧ In64 (L.getD k z3).2.2 := by
  rcases hi with ⟨_, h1, _, h2⟩ | ⟨_, _, _, h4, h5, h, _, _, _, h6⟩ | ⟨_, _, h1, h2⟩
  · subst h1 h2; exact ⟨rfl, Nat.zero_le _, fun k hk => by omega⟩
  · exact ⟨h, by omega, h6⟩
  · subst h1 h2; exact ⟨rfl, Nat.zero_le _, fun k hk => by omega⟩
theorem specIR_any (v : Value) (L : List T3) (w : World) {b : Nat} (hl : StLst w b v L) (h3 : L.length ≤ 1048576) (hin : ∀ k, k < L.length → In64 (L.getD k z3).1 ∧ In64 (L.getD k z3).2.1 ∧ In64 (L.getD k z3).2.2) :
    Calls Try.prog 9 #[v] w fun e w' => e = .returned (.bool (isRP L)) ∧ Below w.heap.size w w' := by
  by_cases hL : L = []
  · subst hL
    obtain ⟨A, c, rfl⟩ := hl.len0
    rw [isRP_nil]
    clear hl hin
    go_enter Try.func9, Try.ntmps9
    go_wp2
    go_ret
    exact ⟨rfl, (by repeat' (first | (with_reducible exact Below.refl _ _) | (with_reducible assumption) | (with_reducible refine Below.alloc ?_ ?_ _) | (with_reducible refine Below.drew ?_) | (with_reducible refine below_drewN ?_ _) | (with_reducible refine Below.setCell ?_ ?_ _) | go_size))⟩
  · have hpos : 1 ≤ L.length := List.length_pos_iff.2 hL
    obtain ⟨g, c, rfl, _, hg⟩ := hl.full hpos
    exact specIR_some g c L.length L w hl rfl hg hpos h3 hin
theorem implIR_any (v : Value) (L : List T3) (w : World) {b : Nat} (hl : StLst w b v L) (h3 : L.length ≤ 1048576) (hin : ∀ k, k < L.length → In64 (L.getD k z3).1 ∧ In64 (L.getD k z3).2.1 ∧ In64 (L.getD k z3).2.2) :
    Calls Try.prog 11 #[v] w fun e w' => e = .returned (.bool (isRP L)) ∧ Below w.heap.size w w' := by
  by_cases hL : L = []
  · subst hL
    obtain ⟨A, c, rfl⟩ := hl.len0
    rw [isRP_nil]
    clear hl hin
    go_enter Try.func11, Try.ntmps11
    go_wp2
    go_ret
    exact ⟨rfl, (by repeat' (first | (with_reducible exact Below.refl _ _) | (with_reducible assumption) | (with_reducible refine Below.alloc ?_ ?_ _) | (with_reducible refine Below.drew ?_) | (with_reducible refine below_drewN ?_ _) | (with_reducible refine Below.setCell ?_ ?_ _) | go_size))⟩
  · have hpos : 1 ≤ L.length := List.length_pos_iff.2 hL
    obtain ⟨g, c, rfl, _, hg⟩ := hl.full hpos
    exact implIR_some g c L.length L w hl rfl hg hpos h3 hin
theorem InTri.below {w w' : World} {A : Option Addr} {n cap : Nat} {L : List T3} (hi : InTri w A n cap L) (hb : Below w.heap.size w w') : InTri w' A n cap L := by
  rcases hi with h | ⟨b, off, h1, h2, h3, h4, h5, h6, h7, h8⟩ | h
  · exact .inl h
  · refine .inr (.inl ⟨b, off, h1, h2, h3, h4, h5, Nat.lt_of_lt_of_le h6 hb.size, fun k hk => ?_, h8⟩)
    rw [(bcell hb).1 _ _ h6, (bcell hb).1 _ _ h6, (bcell hb).1 _ _ h6]
    exact h7 k hk
  · exact .inr (.inr h)
set_option maxHeartbeats 800000 in
theorem law_FnExactIsReciprocityProof (A : Option Addr) (n cap : Nat) (L : List T3) (w : World) (hi : InTri w A n cap L) : Calls Try.prog 3 #[.slice A n cap] w fun e w' => e = .returned (.bool true) ∧ Below w.heap.size w w' := by
  obtain ⟨hn, hm, hin⟩ := In64T hi
  by_cases h : n ≤ 1048576
  · have HI := Lib.hid hi
    have HN := Lib.hid hn
    have HIN := Lib.hid hin
    have hlen : L.length ≤ 1048576 := by rw [hn]; exact h
    have HL := Lib.hid (show L.length ≤ 1000000000 by omega)
    have HL2 := Lib.hid hlen
    have hz : ¬ (1048576 - (n : Int)) < 0 := by omega
    clear hi hn hin hlen hm
    go_enter Try.func3, Try.ntmps3
    go_wp2_with fail
    ((with_reducible refine (szS_ok A n cap _ h).mono ?_); rintro e w0 ⟨rfl, rfl⟩)
    go_wp2_with fail
    refine (toSymbolStepS_any A n cap L _ HI.out h).mono ?_
    rintro e w1 ⟨v1, rfl, l1, b1⟩
    go_wp2_with fail
    ((with_reducible refine (specIR_any _ _ _ l1 HL2.out (by rw [HN.out]; exact HIN.out)).mono ?_); rintro e w2 ⟨rfl, b2⟩)
    have bw2 := b1.trans (b2.mono b1.size)
    clear b1 b2 l1
    go_wp2_with fail
    refine (toSymbolStepS_any A n cap L _ (HI.out.below bw2) h).mono ?_
    rintro e w3 ⟨v3, rfl, l3, b3⟩
    have bw3 := bw2.trans (b3.mono bw2.size)
    clear b3 bw2
    go_wp2_with fail
    ((with_reducible refine (implIR_any _ _ _ l3 HL2.out (by rw [HN.out]; exact HIN.out)).mono ?_); rintro e w4 ⟨rfl, b4⟩)
    have l4 := l3.below (Nat.le_refl _) b4
    have bw4 := bw3.trans (b4.mono bw3.size)
    clear b4 bw3 l3
    go_wp2_with fail
    refine (toSymbolStepS_any A n cap L _ (HI.out.below bw4) h).mono ?_
    rintro e w5 ⟨v5, rfl, l5, b5⟩
    have l6 := l4.below (Nat.le_refl _) b5
    have bw5 := bw4.trans (b5.mono bw4.size)
    clear b5 bw4 l4
    go_wp2_with fail
    refine (eqSymbolStepS_same _ _ _ _ HL.out l6 l5).mono ?_
    rintro e w6 ⟨rfl, b6⟩
    have bw6 := bw5.trans (b6.mono bw5.size)
    clear b6 bw5 l5 l6
    go_wp2
    go_ret
    exact ⟨rfl, bw6⟩
  · have hz : (-1 : Int) < 0 := by omega
    clear hi hn hin
    go_enter Try.func3, Try.ntmps3
    go_wp2_with fail
    ((with_reducible refine (szS_no A n cap _ (by omega) hm).mono ?_); rintro e w0 ⟨rfl, rfl⟩)
    go_wp2
    go_ret
    exact ⟨rfl, (by repeat' (first | (with_reducible exact Below.refl _ _) | (with_reducible assumption) | (with_reducible refine Below.alloc ?_ ?_ _) | (with_reducible refine Below.drew ?_) | (with_reducible refine below_drewN ?_ _) | (with_reducible refine Below.setCell ?_ ?_ _) | go_size))⟩
end Go.Proofs.Ytfpedehpmgcmnaa
