/-
  'ReciprocityProof': its contracts and its law's walk.
-/
import Derived.Test.YtfpedehpmgcmnaaTriS
import Derived.Test.YtfpedehpmgcmnaaStep
import Derived.Test.YtfpedehpmgcmnaaJacS2
import Derived.Test.YtfpedehpmgcmnaaOdd
import Derived.Laws.Rows
import Derived.Deep.Cut
namespace Go.Proofs.Ytfpedehpmgcmnaa
open Go.RowKit
set_option linter.unusedSimpArgs false
set_option linter.unusedVariables false

theorem three_news {W : World} {g : Nat} {T : TypeId} {x y z : Value} (hg : g = W.heap.size) : ∀ j u, [x, y, z][j]? = some u → (W.alloc (.cells #[x, y, z] T)).cell? ((⟨g, 0, none⟩ : Addr).add j) = some u := by
  subst hg
  intro j u hj
  match j, hj with
  | 0, hj => simp at hj; subst hj; simp [Addr.add]
  | 1, hj => simp at hj; subst hj; simp [Addr.add]
  | 2, hj => simp at hj; subst hj; simp [Addr.add]
  | j + 3, hj => simp at hj
theorem three_cells (a b c : Int) : ∀ u ∈ [Value.int .i64 a, .int .i64 b, .int .i64 c], u.oneCell' = true := by
  intro u hu
  simp at hu
  rcases hu with rfl | rfl | rfl <;> rfl
/-- how far a step is from the end -/
def stMu (T B : Int) : Nat := if 0 ≤ T ∧ T ≤ B - 1 then 2 * (T + B).toNat else 2 * (T % B + B).toNat + 1
theorem stMu_lt {V T B S : Int} (h : SyI V T B S) (h0 : T ≠ 0) : stMu (sucT T B) (sucB T B) < stMu T B := by
  obtain ⟨t1, t2, b1, b2, odd, sign, val⟩ := h
  by_cases hin : 0 ≤ T ∧ T ≤ B - 1
  · by_cases he : T % 2 = 0
    · obtain ⟨e1, e2, _⟩ := suc_even S hin he
      rw [e1, e2]
      unfold stMu
      rw [if_pos hin, if_pos (by omega)]
      omega
    · obtain ⟨e1, e2, _⟩ := suc_odd S hin (by omega)
      have r1 := Int.emod_nonneg B (show T ≠ 0 by omega)
      have r2 : B % T ≤ B - T := by
        have hq := Int.emod_add_mul_ediv B T
        have hq1 : 1 ≤ B / T := by
          have := Int.ediv_le_ediv (c := T) (by omega) (show T ≤ B by omega)
          rw [Int.ediv_self h0] at this
          exact this
        have hm := Int.mul_le_mul_of_nonneg_left hq1 (show 0 ≤ T by omega)
        omega
      rw [e1, e2]
      unfold stMu
      rw [if_pos hin, if_neg (by omega)]
      omega
  · obtain ⟨e1, e2, _⟩ := suc_out S hin
    have r1 := Int.emod_nonneg T (show B ≠ 0 by omega)
    have r2 := Int.emod_lt_of_pos T (show 0 < B by omega)
    rw [e1, e2]
    unfold stMu
    rw [if_neg hin, if_pos (by omega)]
    omega
theorem stMu_le {V T B S : Int} (h : SyI V T B S) : stMu T B ≤ 4000001 := by
  obtain ⟨t1, t2, b1, b2, odd, sign, val⟩ := h
  have r1 := Int.emod_nonneg T (show B ≠ 0 by omega)
  have r2 := Int.emod_lt_of_pos T (show 0 < B by omega)
  unfold stMu
  split <;> omega
def nxt3 (t : T3) : T3 := (sucT t.1 t.2.1, sucB t.1 t.2.1, sucS t.1 t.2.1 t.2.2)
/-- the steps from t on -/
def rpf : Nat → T3 → List T3
  | 0, t => [t]
  | f + 1, t => if endB t.1 = true then [t] else t :: rpf f (nxt3 t)
theorem rpf_end {t : T3} (f : Nat) (h : endB t.1 = true) : rpf f t = [t] := by
  cases f with
  | zero => rfl
  | succ f => rw [rpf, if_pos h]
theorem rpf_step {t : T3} (f : Nat) (h : endB t.1 = false) : rpf (f + 1) t = t :: rpf f (nxt3 t) := by
  rw [rpf, if_neg (by rw [h]; simp)]
theorem rpf_len : ∀ (f : Nat) (t : T3), (rpf f t).length ≤ f + 1
  | 0, t => by simp [rpf]
  | f + 1, t => by
    rw [rpf]
    split
    · simp
    · have := rpf_len f (nxt3 t)
      simp only [List.length_cons]
      omega
def rpL (a n : Int) : List T3 := rpf (stMu a n + 1) (a, n, 1)
def vRP (a n : Int) : Bool := good a && oddM n
theorem vRP_ok {a n : Int} (h0 : good a = true) (h1 : oddM n = true) : vRP a n = true := by unfold vRP; rw [h0, h1]; rfl
theorem rp_start {a n : Int} (h0 : good a = true) (h1 : oddM n = true) : SyI (Jac.J a n.toNat) a n 1 := by
  have ha := good_iff.1 h0
  have hn := oddM_iff.1 h1
  exact ⟨ha.1, ha.2, hn.1, hn.2.1, hn.2.2, .inl rfl, by rw [Int.one_mul]⟩
theorem rp_len (a n : Int) : (t3For (vRP a n) (rpL a n)).length ≤ 1000000000 := by
  rcases hv : vRP a n with _ | _
  · simp [t3For]
  · unfold vRP at hv
    simp only [Bool.and_eq_true] at hv
    have h1 := stMu_le (rp_start hv.1 hv.2)
    have h2 := rpf_len (stMu a n + 1) (a, n, 1)
    rw [t3For_true]
    unfold rpL
    omega
def slen3 : Value → Nat
  | .slice _ n _ => n
  | _ => 0
theorem StLst.len {w : World} {base : Nat} {v : Value} {L : List T3} (h : StLst w base v L) : slen3 v = L.length := by
  rcases h.shape with ⟨rfl, rfl⟩ | ⟨g, cap, rfl, _⟩ <;> rfl
theorem StLst.last {w : World} {base g cap : Nat} {D : List T3} {T B S : Int} (h : StLst w base (.slice (some ⟨g, 0, none⟩) (D ++ [(T, B, S)]).length cap) (D ++ [(T, B, S)])) {m : Nat} (hm : D.length = m) :
    w.cell? ⟨g, m * 3, none⟩ = some (.int .i64 T) ∧ w.cell? ⟨g, m * 3 + 1, none⟩ = some (.int .i64 B) ∧ w.cell? ⟨g, m * 3 + 2, none⟩ = some (.int .i64 S) := by
  have := h.cell (k := m) (by simp; omega)
  have e : (D ++ [(T, B, S)]).getD m (0, 0, 0) = (T, B, S) := by subst hm; simp
  rw [e] at this
  exact this

/-! ### a step in a block of its own -/
def Box (w : World) (G : Nat) (T B S : Int) : Prop := w.heap[G]? = some (.cells #[.int .i64 T, .int .i64 B, .int .i64 S] 61 (0, 0))
theorem Box.lt {w : World} {G : Nat} {T B S : Int} (h : Box w G T B S) : G < w.heap.size := (Array.getElem?_eq_some_iff.1 h).1
theorem Box.cells {w : World} {G : Nat} {T B S : Int} (h : Box w G T B S) : w.cell? ⟨G, 0, none⟩ = some (.int .i64 T) ∧ w.cell? ⟨G, 1, none⟩ = some (.int .i64 B) ∧ w.cell? ⟨G, 2, none⟩ = some (.int .i64 S) :=
  ⟨cell_of_row w G 0 _ _ (0, 0) h, cell_of_row w G 1 _ _ (0, 0) h, cell_of_row w G 2 _ _ (0, 0) h⟩
theorem Box.frozen {w : World} {G : Nat} {T B S : Int} (h : Box w G T B S) (i : Nat) : w.frozen? ⟨G, i, none⟩ = false := by
  unfold Box at h
  simp [World.frozen?, h]
theorem Box.new (w : World) (T B S : Int) : Box (w.alloc (.cells #[.int .i64 T, .int .i64 B, .int .i64 S] 61)) w.heap.size T B S := heap_alloc_new w _
theorem Box.alloc {w : World} {G : Nat} {T B S : Int} (h : Box w G T B S) (o : Obj) : Box (w.alloc o) G T B S := (Below.heap_alloc w o G h.lt).trans h
theorem Box.below {w w' : World} {G : Nat} {T B S : Int} (h : Box w G T B S) (hb : Below w.heap.size w w') : Box w' G T B S := (hb.block G h.lt).trans h
theorem Box.set {w : World} {G : Nat} {T B S : Int} (h : Box w G T B S) (T' B' S' : Int) : Box (((w.setCell ⟨G, 0, none⟩ (.int .i64 T')).setCell ⟨G, 1, none⟩ (.int .i64 B')).setCell ⟨G, 2, none⟩ (.int .i64 S')) G T' B' S' := by
  unfold Box at h ⊢
  simp [World.setCell, Array.getElem?_modify, h]
theorem Box.grown {w w' : World} {G : Nat} {T B S : Int} {o : Obj} {row : Option Nat} (h : Box w G T B S) (hg : (w.alloc o).grownBy w' row) (hr : ∀ k, row = some k → G < k) : Box w' G T B S := by
  have h1 : Box (w.alloc o) G T B S := (Below.heap_alloc w o G h.lt).trans h
  refine (hg.block G h1.lt fun e => ?_).trans h1
  have := hr G e.symm
  omega
theorem StLst.set {w : World} {base G i : Nat} {v u : Value} {L : List T3} (h : StLst w base v L) (hG : G < base) : StLst (w.setCell ⟨G, i, none⟩ u) base v L := by
  refine ⟨h.1, ?_⟩
  rcases h.2 with h | ⟨g, cap, cur, rfl, h1, hh, r⟩
  · exact .inl h
  · exact .inr ⟨g, cap, cur, rfl, h1, by rw [Below.heap_setCell _ _ _ _ (by simp; omega)]; exact hh, r⟩
theorem StLst.ownm {w : World} {base g cap m : Nat} {D : List T3} {t : T3} (h : StLst w base (.slice (some ⟨g, 0, none⟩) (m + 1) cap) (D ++ [t])) (hm : D.length = m) : w.ownsRow base 61 3 (.slice (some ⟨g, 0, none⟩) (m + 1) cap) (m + 1) (flat (D ++ [t])) := by
  have := h.own
  rwa [List.length_append, List.length_singleton, hm] at this
set_option maxHeartbeats 1600000 in
theorem specRP_any (a n : Int) (w : World) (i1 : In64 n) : Calls Try.prog 13 #[.int .i64 a, .int .i64 n] w (StRetS w (t3For (vRP a n) (rpL a n)) (vRP a n)) := by
  rcases h0 : good a with _ | _
  · rw [show vRP a n = false by simp [vRP, h0], t3For_false]
    go_enter Try.func13, Try.ntmps13
    go_wp2_with fail
    ((with_reducible refine (nuGood_any a _).mono ?_); rintro e w0 ⟨rfl, rfl⟩)
    go_wp2
    go_ret2
    exact ⟨_, rfl, StLst.nil _ _, (by repeat' (first | (with_reducible exact Below.refl _ _) | (with_reducible assumption) | (with_reducible refine Below.alloc ?_ ?_ _) | (with_reducible refine Below.drew ?_) | (with_reducible refine below_drewN ?_ _) | (with_reducible refine Below.setCell ?_ ?_ _) | go_size))⟩
  · rcases h1 : oddM n with _ | _
    · rw [show vRP a n = false by simp [vRP, h1], t3For_false]
      go_enter Try.func13, Try.ntmps13
      go_wp2_with fail
      ((with_reducible refine (nuGood_any a _).mono ?_); rintro e w0 ⟨rfl, rfl⟩)
      go_wp2_with fail
      ((with_reducible refine (syOdd_any n _ i1).mono ?_); rintro e w1 ⟨rfl, hb1⟩)
      obtain ⟨hc1, hf1⟩ := bcell hb1
      have hz1 := hb1.size
      try simp only [World.size_alloc, World.size_drew, World.size_setCell] at hz1
      try have hs1 : w.heap.size < w1.heap.size := by omega
      have bl1 : Below w.heap.size w w1 := Below.trans (by go_grown) (hb1.mono (by go_size))
      go_wp2
      go_ret2
      exact ⟨_, rfl, StLst.nil _ _, (by repeat' (first | (with_reducible exact Below.refl _ _) | (with_reducible assumption) | (with_reducible refine Below.alloc ?_ ?_ _) | (with_reducible refine Below.drew ?_) | (with_reducible refine below_drewN ?_ _) | (with_reducible refine Below.setCell ?_ ?_ _) | go_size))⟩
    · obtain ⟨i0, hi, ho0, ho1, ho2⟩ := info_parts Try.infoSt
      have hst := rp_start h0 h1
      have hmu := stMu_le hst
      have HST := Lib.hid hst
      have HRL := Lib.hid (show rpL a n = rpf (stMu a n + 1) (a, n, 1) from rfl)
      obtain ⟨K, hK⟩ : ∃ K, stMu a n + 1 = K := ⟨_, rfl⟩
      have hK2 : K ≤ 4000002 := by omega
      have HMU := Lib.hid (show stMu a n < K by omega)
      rw [hK] at HRL
      have ha := good_iff.1 h0
      have hn := oddM_iff.1 h1
      rw [vRP_ok h0 h1, t3For_true]
      clear hst hmu hK
      go_enter Try.func13, Try.ntmps13
      go_wp2_with fail
      ((with_reducible refine (nuGood_any a _).mono ?_); rintro e w0 ⟨rfl, rfl⟩)
      go_wp2_with fail
      ((with_reducible refine (syOdd_any n _ i1).mono ?_); rintro e w1 ⟨rfl, hb1⟩)
      obtain ⟨hc1, hf1⟩ := bcell hb1
      have hz1 := hb1.size
      try simp only [World.size_alloc, World.size_drew, World.size_setCell] at hz1
      try have hs1 : w.heap.size < w1.heap.size := by omega
      have bl1 : Below w.heap.size w w1 := Below.trans (by go_grown) (hb1.mono (by go_size))
      go_wp2
      go_loopw [6] (fun v wr => ∃ (D : List T3) (T B S : Int) (f : Nat), StLst wr w.heap.size v (D ++ [(T, B, S)]) ∧ Hid (D ++ rpf f (T, B, S) = rpL a n) ∧ Hid (stMu T B < f) ∧ D.length + f ≤ K ∧ Hid (SyI (Jac.J a n.toNat) T B S) ∧ Below w.heap.size w wr) (fun v _ => 4000003 - slen3 v)
      case atStart => exact ⟨[], a, n, 1, K, StLst.one _ _ _ (by simp) (by first | omega | go_size), Lib.hid (by rw [HRL.out]; rfl), HMU, by simp, HST, (by repeat' (first | (with_reducible exact Below.refl _ _) | (with_reducible assumption) | (with_reducible refine Below.alloc ?_ ?_ _) | (with_reducible refine Below.drew ?_) | (with_reducible refine below_drewN ?_ _) | (with_reducible refine Below.setCell ?_ ?_ _) | go_size))⟩
      case round =>
        obtain ⟨D, T, B, S, f, hl, HD, HF, hD, HI, hb⟩ := hrel
        obtain ⟨m, hm⟩ : ∃ m, D.length = m := ⟨_, rfl⟩
        have HMD := Lib.hid hm
        have hmK : m + f ≤ K := by omega
        have hsz := hb.size
        have hlen3 := hl.len
        rw [List.length_append, List.length_singleton, hm] at hlen3
        have HL3 := Lib.hid hlen3
        have bb : 1 ≤ B ∧ B ≤ 1000000 := ⟨HI.out.b1, HI.out.b2⟩
        have tb : -1000000 ≤ T ∧ T ≤ 1000000 := ⟨HI.out.t1, HI.out.t2⟩
        have sb : -1 ≤ S ∧ S ≤ 1 := by have := HI.out.sign; omega
        obtain ⟨g, c, rfl, hg1, hg2⟩ := hl.full (by simp)
        rw [List.length_append, List.length_singleton, hm]
        have HL := Lib.hid hl
        clear hlen3 hm hD hl
        obtain ⟨c0, c1, c2⟩ := HL.out.last HMD.out
        have n1 : (0 : Int) ≤ (m : Int) := by omega
        by_cases he : endB T = true
        · have HE := Lib.hid (show D ++ [(T, B, S)] = rpL a n by rw [← HD.out, rpf_end f (t := (T, B, S)) he])
          go_wp2_with fail
          ((with_reducible refine (syEnd_any _ _ _ _).mono ?_); rintro e w1 ⟨rfl, hb1⟩)
          have hl1 := HL.out.below (Nat.le_refl _) hb1
          have hb1' := hb.trans (hb1.mono hsz)
          go_wp2
          go_ret2
          exact ⟨_, rfl, by rw [← HE.out]; simpa [HMD.out] using hl1, hb1'⟩
        · have he : endB T = false := by simpa using he
          have hT0 : T ≠ 0 := fun h => by rw [h] at he; cases he
          obtain ⟨f', rfl⟩ : ∃ f', f = f' + 1 := ⟨f - 1, by have := HF.out; omega⟩
          have HN := Lib.hid (show (D ++ [(T, B, S)]) ++ rpf f' (sucT T B, sucB T B, sucS T B S) = rpL a n by rw [← HD.out, rpf_step f' (t := (T, B, S)) he, List.append_assoc]; rfl)
          have HF2 := Lib.hid (show stMu (sucT T B) (sucB T B) < f' by have := stMu_lt HI.out hT0; have := HF.out; omega)
          have HI2 := Lib.hid (HI.out.suc hT0)
          have HD2 := Lib.hid (show (D ++ [(T, B, S)]).length + f' ≤ K by rw [List.length_append, List.length_singleton, HMD.out]; omega)
          clear hT0
          go_wp2_with fail
          ((with_reducible refine (syEnd_any _ _ _ _).mono ?_); rintro e w1 ⟨rfl, hb1⟩)
          have hl1 := HL.out.below (Nat.le_refl _) hb1
          have hb1' := hb.trans (hb1.mono hsz)
          rw [← (bcell hb1).1 _ _ hg2] at c0 c1 c2
          clear hb1 hb hsz
          have hsz1 := hb1'.size
          go_wp2_with fail
          ((with_reducible refine (sySuc_any _ _ _ _ (by omega) (by omega) (by omega) (by omega) (by omega) (by omega)).mono ?_); rintro e w2 ⟨rfl, hb2⟩)
          have hl2 := hl1.below (Nat.le_refl _) hb2
          have hb2' := hb1'.trans (hb2.mono hsz1)
          rw [List.length_append, List.length_singleton, HMD.out] at hl2
          have HW := Lib.hid hl2
          clear hb2 hb1' hl1 c0 c1 c2 hl2
          have hsz2 := hb2'.size
          go_wp2_with (at_builtin; refine wpList_append_own _ rfl _ _ 25 rfl w.heap.size 61 i0 (.agg #[.int .i64 0, .int .i64 0, .int .i64 0]) 3 24 Try.underlying25 hi ho0 ho1 ho2 rfl (by decide) _ _ _ rfl ((StLst.ownm HW.out HMD.out).alloc _) ⟨w2.heap.size, 0, none⟩ 1 1 [.int .i64 (sucT T B), .int .i64 (sucB T B), .int .i64 (sucS T B S)] rfl rfl (three_news rfl) (three_cells _ _ _) (by unfold maxLen; omega) (by omega) (by simp; omega) ?_)
          intro v' w3 hown' hgrow _
          have hl3 : StLst w3 w.heap.size v' (D ++ [(T, B, S)] ++ [(sucT T B, sucB T B, sucS T B S)]) := StLst.snoc (by rw [List.length_append, List.length_singleton, HMD.out]; exact hown')
          have hb3 : Below w.heap.size w w3 := Below.grown (hb2'.alloc hsz2 _) hgrow (by simp; omega) (fun k hk => by simp [Value.ownBlock] at hk; omega)
          have HLN := Lib.hid hl3.len
          clear hown' hgrow HW hb2'
          go_wp2
          go_roundw
          case rel => exact ⟨D ++ [(T, B, S)], _, _, _, f', hl3, HN, HF2, HD2.out, HI2, hb3⟩
          case measure => rw [HLN.out]; simp only [slen3, List.length_append, List.length_singleton, HMD.out]; omega
set_option maxHeartbeats 1600000 in
theorem implRP_any (a n : Int) (w : World) (i1 : In64 n) : Calls Try.prog 14 #[.int .i64 a, .int .i64 n] w (StRetS w (t3For (vRP a n) (rpL a n)) (vRP a n)) := by
  rcases h0 : good a with _ | _
  · rw [show vRP a n = false by simp [vRP, h0], t3For_false]
    go_enter Try.func14, Try.ntmps14
    go_wp2_with fail
    ((with_reducible refine (are1 a _ _ (by simp)).mono ?_); rintro e w0 ⟨rfl, rfl⟩)
    go_wp2
    go_ret2
    exact ⟨_, rfl, StLst.empty (by simp) (by first | omega | go_size), (by repeat' (first | (with_reducible exact Below.refl _ _) | (with_reducible assumption) | (with_reducible refine Below.alloc ?_ ?_ _) | (with_reducible refine Below.drew ?_) | (with_reducible refine below_drewN ?_ _) | (with_reducible refine Below.setCell ?_ ?_ _) | go_size))⟩
  · rcases h1 : oddM n with _ | _
    · rw [show vRP a n = false by simp [vRP, h1], t3For_false]
      go_enter Try.func14, Try.ntmps14
      go_wp2_with fail
      ((with_reducible refine (are1 a _ _ (by simp)).mono ?_); rintro e w0 ⟨rfl, rfl⟩)
      go_wp2_with fail
      ((with_reducible refine (isOddModulus_any n _ i1).mono ?_); rintro e w1 ⟨rfl, hb1⟩)
      obtain ⟨hc1, hf1⟩ := bcell hb1
      have hz1 := hb1.size
      try simp only [World.size_alloc, World.size_drew, World.size_setCell] at hz1
      try have hs1 : w.heap.size < w1.heap.size := by omega
      have bl1 : Below w.heap.size w w1 := Below.trans (by go_grown) (hb1.mono (by go_size))
      go_wp2
      go_ret2
      exact ⟨_, rfl, StLst.empty (by simp) (by first | omega | go_size), (by repeat' (first | (with_reducible exact Below.refl _ _) | (with_reducible assumption) | (with_reducible refine Below.alloc ?_ ?_ _) | (with_reducible refine Below.drew ?_) | (with_reducible refine below_drewN ?_ _) | (with_reducible refine Below.setCell ?_ ?_ _) | go_size))⟩
    · obtain ⟨i0, hi, ho0, ho1, ho2⟩ := info_parts Try.infoSt
      have hst := rp_start h0 h1
      have hmu := stMu_le hst
      have HST := Lib.hid hst
      have HRL := Lib.hid (show rpL a n = rpf (stMu a n + 1) (a, n, 1) from rfl)
      obtain ⟨K, hK⟩ : ∃ K, stMu a n + 1 = K := ⟨_, rfl⟩
      have hK2 : K ≤ 4000002 := by omega
      have HMU := Lib.hid (show stMu a n < K by omega)
      rw [hK] at HRL
      have ha := good_iff.1 h0
      have hn := oddM_iff.1 h1
      rw [vRP_ok h0 h1, t3For_true]
      clear hst hmu hK
      go_enter Try.func14, Try.ntmps14
      go_wp2_with fail
      ((with_reducible refine (are1 a _ _ (by simp)).mono ?_); rintro e w0 ⟨rfl, rfl⟩)
      go_wp2_with fail
      ((with_reducible refine (isOddModulus_any n _ i1).mono ?_); rintro e w1 ⟨rfl, hb1⟩)
      obtain ⟨hc1, hf1⟩ := bcell hb1
      have hz1 := hb1.size
      try simp only [World.size_alloc, World.size_drew, World.size_setCell] at hz1
      try have hs1 : w.heap.size < w1.heap.size := by omega
      have bl1 : Below w.heap.size w w1 := Below.trans (by go_grown) (hb1.mono (by go_size))
      clear hc1 hf1 hb1 hz1
      go_wp2
      go_loopw [7] (fun v wr => ∃ (D : List T3) (T B S : Int) (f : Nat), StLst wr (w1.heap.size + 1) v (D ++ [(T, B, S)]) ∧ Box wr w1.heap.size T B S ∧ Hid (D ++ rpf f (T, B, S) = rpL a n) ∧ Hid (stMu T B < f) ∧ D.length + f ≤ K ∧ Hid (SyI (Jac.J a n.toNat) T B S) ∧ Below w.heap.size w wr) (fun v _ => 4000003 - slen3 v)
      case atStart => exact ⟨[], a, n, 1, K, StLst.one _ _ _ (by simp) (by first | omega | go_size), (Box.new _ _ _ _).alloc _, Lib.hid (by rw [HRL.out]; rfl), HMU, by simp, HST, (by repeat' (first | (with_reducible exact Below.refl _ _) | (with_reducible assumption) | (with_reducible refine Below.alloc ?_ ?_ _) | (with_reducible refine Below.drew ?_) | (with_reducible refine below_drewN ?_ _) | (with_reducible refine Below.setCell ?_ ?_ _) | go_size))⟩
      case round =>
        obtain ⟨D, T, B, S, f, hl, hx, HD, HF, hD, HI, hb⟩ := hrel
        have hb1z := bl1.size
        obtain ⟨m, hm⟩ : ∃ m, D.length = m := ⟨_, rfl⟩
        have HMD := Lib.hid hm
        have hmK : m + f ≤ K := by omega
        have hsz := hb.size
        have hlen3 := hl.len
        rw [List.length_append, List.length_singleton, hm] at hlen3
        have HL3 := Lib.hid hlen3
        have bb : 1 ≤ B ∧ B ≤ 1000000 := ⟨HI.out.b1, HI.out.b2⟩
        have tb : -1000000 ≤ T ∧ T ≤ 1000000 := ⟨HI.out.t1, HI.out.t2⟩
        have sb : -1 ≤ S ∧ S ≤ 1 := by have := HI.out.sign; omega
        obtain ⟨g, c, rfl, hg1, hg2⟩ := hl.full (by simp)
        rw [List.length_append, List.length_singleton, hm]
        have HL := Lib.hid hl
        clear hlen3 hm hD hl
        obtain ⟨c0, c1, c2⟩ := hx.cells
        have hgs := hx.lt
        by_cases he : endB T = true
        · have HE := Lib.hid (show D ++ [(T, B, S)] = rpL a n by rw [← HD.out, rpf_end f (t := (T, B, S)) he])
          go_wp2_with fail
          ((with_reducible refine (ends_any _ _ _ _).mono ?_); rintro e w2 ⟨rfl, hb1⟩)
          have hl1 := HL.out.below (Nat.le_refl _) hb1
          have hb1' := hb.trans (hb1.mono hsz)
          go_wp2
          go_ret2
          exact ⟨_, rfl, by rw [← HE.out]; exact (by simpa [HMD.out] using hl1 : StLst w2 (w1.heap.size + 1) _ _).base (by omega), hb1'⟩
        · have he : endB T = false := by simpa using he
          have hT0 : T ≠ 0 := fun h => by rw [h] at he; cases he
          obtain ⟨f', rfl⟩ : ∃ f', f = f' + 1 := ⟨f - 1, by have := HF.out; omega⟩
          have HN := Lib.hid (show (D ++ [(T, B, S)]) ++ rpf f' (sucT T B, sucB T B, sucS T B S) = rpL a n by rw [← HD.out, rpf_step f' (t := (T, B, S)) he, List.append_assoc]; rfl)
          have HF2 := Lib.hid (show stMu (sucT T B) (sucB T B) < f' by have := stMu_lt HI.out hT0; have := HF.out; omega)
          have HI2 := Lib.hid (HI.out.suc hT0)
          have HD2 := Lib.hid (show (D ++ [(T, B, S)]).length + f' ≤ K by rw [List.length_append, List.length_singleton, HMD.out]; omega)
          have hBo := HI.out.odd
          have HBO := Lib.hid hBo
          clear hT0 hBo
          go_wp2_with fail
          ((with_reducible refine (ends_any _ _ _ _).mono ?_); rintro e w2 ⟨rfl, hb1⟩)
          have hl1 := HL.out.below (Nat.le_refl _) hb1
          have hx1 := hx.below hb1
          have hb1' := hb.trans (hb1.mono hsz)
          clear hb1 hb hsz c0 c1 c2 hx
          have hsz1 := hb1'.size
          obtain ⟨c0, c1, c2⟩ := hx1.cells
          go_wp2_with fail
          ((with_reducible refine (next_any _ _ _ _ (by omega) (by omega) (by omega) (by omega) HBO.out (by omega) (by omega)).mono ?_); rintro e w3 ⟨rfl, hb2⟩)
          have hl2 := hl1.below (Nat.le_refl _) hb2
          have hx2 := hx1.below hb2
          have hb2' := hb1'.trans (hb2.mono hsz1)
          rw [List.length_append, List.length_singleton, HMD.out] at hl2
          clear hb2 hb1' hl1 c0 c1 c2 hx1
          have hsz2 := hb2'.size
          obtain ⟨c0, c1, c2⟩ := hx2.cells
          have f0 := hx2.frozen 0
          have f1 := hx2.frozen 1
          have f2 := hx2.frozen 2
          have HX3 := Lib.hid (hx2.set (sucT T B) (sucB T B) (sucS T B S))
          have HL3 := Lib.hid (((hl2.set (i := 0) (u := .int .i64 (sucT T B)) (show w1.heap.size < w1.heap.size + 1 by omega)).set (i := 1) (u := .int .i64 (sucB T B)) (show w1.heap.size < w1.heap.size + 1 by omega)).set (i := 2) (u := .int .i64 (sucS T B S)) (show w1.heap.size < w1.heap.size + 1 by omega))
          have HB3 := Lib.hid (((hb2'.setCell (p := ⟨w1.heap.size, 0, none⟩) (by omega) (.int .i64 (sucT T B))).setCell (p := ⟨w1.heap.size, 1, none⟩) (by omega) (.int .i64 (sucB T B))).setCell (p := ⟨w1.heap.size, 2, none⟩) (by omega) (.int .i64 (sucS T B S)))
          clear hl2 hx2 hb2'
          go_upto_region 7 with fail
          revert HX3 HL3 HB3
          clear c0 c1 c2 f0 f1 f2 hsz2
          generalize ((w3.setCell ⟨w1.heap.size, 0, none⟩ (.int .i64 (sucT T B))).setCell ⟨w1.heap.size, 1, none⟩ (.int .i64 (sucB T B))).setCell ⟨w1.heap.size, 2, none⟩ (.int .i64 (sucS T B S)) = w9
          intro HX3 HL3 HB3
          have hsz2 := HB3.out.size
          have hx9 := HX3.out.lt
          obtain ⟨c0, c1, c2⟩ := HX3.out.cells
          go_wp2_with (at_builtin; refine wpList_append_own _ rfl _ _ 25 rfl (w1.heap.size + 1) 61 i0 (.agg #[.int .i64 0, .int .i64 0, .int .i64 0]) 3 24 Try.underlying25 hi ho0 ho1 ho2 rfl (by decide) _ _ _ rfl ((StLst.ownm HL3.out HMD.out).alloc _) ⟨w9.heap.size, 0, none⟩ 1 1 [.int .i64 (sucT T B), .int .i64 (sucB T B), .int .i64 (sucS T B S)] rfl rfl (three_news rfl) (three_cells _ _ _) (by unfold maxLen; omega) (by omega) (by simp; omega) ?_)
          intro v' w4 hown' hgrow _
          have hl3 : StLst w4 (w1.heap.size + 1) v' (D ++ [(T, B, S)] ++ [(sucT T B, sucB T B, sucS T B S)]) := StLst.snoc (by rw [List.length_append, List.length_singleton, HMD.out]; exact hown')
          have hx4 := HX3.out.grown hgrow (fun k hk => by simp [Value.ownBlock] at hk; omega)
          have hb3 : Below w.heap.size w w4 := Below.grown (HB3.out.alloc hsz2 _) hgrow (by simp; omega) (fun k hk => by simp [Value.ownBlock] at hk; omega)
          have HLN := Lib.hid hl3.len
          clear hown' hgrow HL3 HX3 HB3 c0 c1 c2
          go_wp2
          go_roundw
          case rel => exact ⟨D ++ [(T, B, S)], _, _, _, f', hl3, hx4, HN, HF2, HD2.out, HI2, hb3⟩
          case measure => rw [HLN.out]; simp only [slen3, List.length_append, List.length_singleton, HMD.out]; omega
set_option maxHeartbeats 800000 in
theorem law_FnExactReciprocityProof (a n : Int) (w : World) (ib_a : In64 a) (ib_n : In64 n) : Calls Try.prog 4 #[.int .i64 a, .int .i64 n] w fun e w' => e = .returned (.bool true) ∧ Below w.heap.size w w' := by
  have hlen := rp_len a n
  have HL := Lib.hid hlen
  clear hlen
  go_enter Try.func4, Try.ntmps4
  go_wp2_with fail
  refine (specRP_any a n w ib_n).mono ?_
  rintro e w1 ⟨v1, rfl, l1, b1⟩
  go_wp2_with fail
  refine (implRP_any a n w1 ib_n).mono ?_
  rintro e w2 ⟨v2, rfl, l2, b2⟩
  have l1' := l1.below (Nat.le_refl _) b2
  go_wp2_with fail
  refine (eqSymbolStepS_same _ _ _ _ HL.out l2 l1').mono ?_
  rintro e w3 ⟨rfl, b3⟩
  go_wp2_with fail
  refine (markSymbolStepS_any _ _ _ HL.out (l2.below (Nat.le_refl _) b3)).mono ?_
  rintro e w4 ⟨rfl, l4, g4⟩
  obtain ⟨l1'', bl4⟩ := Stafter_mark b1 l1 b2 l2 b3 g4
  clear l1' g4 l1 l2 b1 b2 b3
  go_wp2_with fail
  refine (heldSymbolStepS_any _ _ _ HL.out l4).mono ?_
  rintro e w0 ⟨rfl, rfl⟩
  go_wp2_with fail
  refine (implRP_any a n w4 ib_n).mono ?_
  rintro e w6 ⟨v6, rfl, l6, b6⟩
  have l1' := l1''.below (Nat.le_refl _) b6
  have l4' := l4.below (Nat.le_refl _) b6
  have bl6 := bl4.trans (b6.mono bl4.size)
  clear l1'' l4 b6 bl4
  go_wp2_with fail
  refine (eqSymbolStepS_same _ _ _ _ HL.out l6 l1').mono ?_
  rintro e w7 ⟨rfl, b7⟩
  have l4'' := l4'.below (Nat.le_refl _) b7
  have bl7 := bl6.trans (b7.mono bl6.size)
  clear b7 l4' l1' l6 bl6
  go_wp2_with fail
  refine (heldSymbolStepS_any _ _ _ HL.out l4'').mono ?_
  rintro e w0 ⟨rfl, rfl⟩
  go_wp2
  go_ret
  exact ⟨rfl, bl7⟩
end Go.Proofs.Ytfpedehpmgcmnaa
