/-
  Contracts: the divisors.
-/
import Derived.Test.YtfpedehpmgcmnaaEu
import Derived.Maps.AppendAt
namespace Go.Proofs.Ytfpedehpmgcmnaa
open Go.RowKit
set_option linter.unusedSimpArgs false
set_option linter.unusedVariables false

/-- Two lists under way, in rows of their own. -/
structure Two (w wr : World) (v u : Value) (L H : List Int) : Prop where
  l : Lst wr w.heap.size v L
  h : Lst wr w.heap.size u H
  ne : ∀ k, v.ownBlock = some k → u.ownBlock = some k → False
  b : Below w.heap.size w wr
theorem Two.size {w wr : World} {v u : Value} {L H : List Int} (t : Two w wr v u L H) : w.heap.size ≤ wr.heap.size := t.b.size
theorem Two.pushL {w wr w1 : World} {v u v' : Value} {L H : List Int} {o : Obj} {x : Int} (t : Two w wr v u L H) (hg : (wr.alloc o).grownBy w1 v.ownBlock)
    (hown : w1.ownsRow w.heap.size 3 1 v' (L.length + 1) (L.map (Value.int .i64) ++ [Value.int .i64 x])) (hat : v'.ownBlock = v.ownBlock ∨ v'.ownBlock = some (wr.alloc o).heap.size) : Two w w1 v' u (L ++ [x]) H := by
  refine ⟨Lst.snoc hown, World.ownsRow.kept (t.h.own.alloc o) hg ?_, fun k h1 h2 => ?_, snoc_below t.b t.l hg⟩
  · rcases hu : u.ownBlock with _ | k
    · exact .inl rfl
    · exact .inr fun he => t.ne k he.symm hu
  · have h3 := (World.ownsRow.lt t.h k h2).2
    rcases hat with h4 | h4
    · exact t.ne k (by rw [← h4]; exact h1) h2
    · rw [h4] at h1
      simp at h1
      omega
theorem Two.swap {w wr : World} {v u : Value} {L H : List Int} (t : Two w wr v u L H) : Two w wr u v H L := ⟨t.h, t.l, fun k a b => t.ne k b a, t.b⟩
theorem Two.pushH {w wr w1 : World} {v u u' : Value} {L H : List Int} {o : Obj} {x : Int} (t : Two w wr v u L H) (hg : (wr.alloc o).grownBy w1 u.ownBlock)
    (hown : w1.ownsRow w.heap.size 3 1 u' (H.length + 1) (H.map (Value.int .i64) ++ [Value.int .i64 x])) (hat : u'.ownBlock = u.ownBlock ∨ u'.ownBlock = some (wr.alloc o).heap.size) : Two w w1 v u' L (H ++ [x]) :=
  (t.swap.pushL hg hown hat).swap

def dlo (n k : Nat) : List Nat := ((List.range k).map (· + 1)).filter fun d => n % d == 0
def dhi (n k : Nat) : List Nat := (((List.range k).map (· + 1)).filter fun d => n % d == 0 && d * d != n).map (n / ·)
def divs (n : Nat) : List Nat := dlo n (isq n) ++ (dhi n (isq n)).reverse
theorem dlo_hit {n k : Nat} (h : n % (k + 1) = 0) : dlo n (k + 1) = dlo n k ++ [k + 1] := by simp [dlo, List.range_succ, List.filter_append, h]
theorem dlo_miss {n k : Nat} (h : n % (k + 1) ≠ 0) : dlo n (k + 1) = dlo n k := by simp [dlo, List.range_succ, List.filter_append, h]
theorem dhi_hit {n k : Nat} (h : n % (k + 1) = 0) (h2 : (k + 1) * (k + 1) ≠ n) : dhi n (k + 1) = dhi n k ++ [n / (k + 1)] := by simp [dhi, List.range_succ, List.filter_append, h, h2]
theorem dhi_miss {n k : Nat} (h : n % (k + 1) ≠ 0) : dhi n (k + 1) = dhi n k := by simp [dhi, List.range_succ, List.filter_append, h]
theorem dhi_sq {n k : Nat} (h2 : (k + 1) * (k + 1) = n) : dhi n (k + 1) = dhi n k := by simp [dhi, List.range_succ, List.filter_append, h2]
theorem dlo_len (n k : Nat) : (dlo n k).length ≤ k := Nat.le_trans (List.length_filter_le _ _) (by simp)
theorem dhi_len (n k : Nat) : (dhi n k).length ≤ k := by
  unfold dhi
  rw [List.length_map]
  exact Nat.le_trans (List.length_filter_le _ _) (by simp)
theorem drop_snoc {H : List Int} {i : Nat} (hi : i < H.length) : (H.drop i).reverse = (H.drop (i + 1)).reverse ++ [H.getD i 0] := by
  rw [List.drop_eq_getElem_cons hi, List.reverse_cons]
  simp [hi]
theorem isq_le (n : Nat) (h : n ≤ 1000000) : isq n ≤ 1000 := by
  have h1 := (isq_spec n).1
  rcases Nat.lt_or_ge 1000 (isq n) with h2 | h2
  · have : 1001 * 1001 ≤ isq n * isq n := Nat.mul_le_mul h2 h2
    omega
  · exact h2
theorem divs_len (n : Nat) (h : n ≤ 1000000) : (divs n).length ≤ 2000 := by
  have := isq_le n h
  have h1 := dlo_len n (isq n)
  have h2 := dhi_len n (isq n)
  unfold divs
  simp
  omega
theorem ints_append (A B : List Nat) : ints (A ++ B) = ints A ++ ints B := by simp [ints]
theorem ints_reverse (A : List Nat) : ints A.reverse = (ints A).reverse := by simp [ints]

theorem Lst.alloc {w : World} {base : Nat} {v : Value} {L : List Int} (h : Lst w base v L) (o : Obj) : Lst (w.alloc o) base v L := World.ownsRow.alloc h o
theorem Lst.len {w : World} {base : Nat} {v : Value} {L : List Int} (h : Lst w base v L) : ∃ A c, v = .slice A L.length c := by
  rcases h.shape with ⟨rfl, rfl⟩ | ⟨g, c, rfl, _⟩
  · exact ⟨_, _, rfl⟩
  · exact ⟨_, _, rfl⟩

set_option maxHeartbeats 1600000 in
theorem divisors_any (N : Nat) (w : World) (n1 : 1 ≤ N) (n2 : N ≤ 1000000) : Calls Try.prog 59 #[.int .i64 N] w (RetL w (ints (divs N))) := by
  obtain ⟨i0, hi, hz0, hz1, hz2⟩ := info_parts Try.infoInt
  go_enter Try.func59, Try.ntmps59
  go_wp2
  go_loopw [3, 4, 5] (fun v u s wr => ∃ j : Nat, s = .int .i64 ((j : Int) + 1) ∧ j ≤ 1000 ∧ Hid (j * j ≤ N) ∧ Two w wr v u (ints (dlo N j)) (ints (dhi N j))) (fun _ _ s _ => 1002 - (intOf s).toNat)
  case atStart => exact ⟨0, rfl, Nat.zero_le _, by show 0 * 0 ≤ N; omega, ⟨(Lst.empty' rfl (Nat.le_refl _)).alloc _, Lst.empty' (by simp) (by simp), (fun k h1 h2 => by simp [Value.ownBlock] at h1 h2; omega), (by repeat' (first | (with_reducible exact Below.refl _ _) | (with_reducible assumption) | (with_reducible refine Below.alloc ?_ ?_ _) | (with_reducible refine Below.drew ?_) | (with_reducible refine below_drewN ?_ _) | (with_reducible refine Below.setCell ?_ ?_ _) | go_size))⟩⟩
  case round =>
    obtain ⟨j, rfl, hj, hjj, ht⟩ := hrel
    have hsz := ht.size
    have hL : (ints (dlo N j)).length ≤ 1000 := by rw [ints_length]; exact Nat.le_trans (dlo_len N j) hj
    have hH : (ints (dhi N j)).length ≤ 1000 := by rw [ints_length]; exact Nat.le_trans (dhi_len N j) hj
    have eq2 : ((j : Int) + 1) * ((j : Int) + 1) = (((j + 1) * (j + 1) : Nat) : Int) := by rw [Int.natCast_mul]; rfl
    have hb1 : (j + 1) * (j + 1) ≤ 1001 * 1001 := Nat.mul_le_mul (by omega) (by omega)
    have q1 : 0 ≤ ((j : Int) + 1) * ((j : Int) + 1) ∧ ((j : Int) + 1) * ((j : Int) + 1) ≤ 1002001 := by omega
    by_cases hle : (j + 1) * (j + 1) ≤ N
    · have hj3 : j + 1 ≤ 1000 := by
        rcases Nat.lt_or_ge 1000 (j + 1) with h | h
        · have : 1001 * 1001 ≤ (j + 1) * (j + 1) := Nat.mul_le_mul h h
          omega
        · exact h
      have hle' : ((j : Int) + 1) * ((j : Int) + 1) ≤ N := by omega
      have HJ := Lib.hid hle
      have modc : ((N % (j + 1) : Nat) : Int) = (N : Int) % ((j : Int) + 1) := Int.natCast_emod _ _
      by_cases hm : N % (j + 1) = 0
      · have hmi : (N : Int) % ((j : Int) + 1) = 0 := by omega
        have d1 := Lib.hid (dlo_hit hm)
        have divc : ((N / (j + 1) : Nat) : Int) = (N : Int) / ((j : Int) + 1) := Int.natCast_ediv _ _
        have dq1 : 0 ≤ (N : Int) / ((j : Int) + 1) := Int.ediv_nonneg (by omega) (by omega)
        have dq2 : (N : Int) / ((j : Int) + 1) ≤ N := Int.ediv_le_self _ (by omega)
        have DC := Lib.hid divc
        by_cases hs : (j + 1) * (j + 1) = N
        · have d2 := Lib.hid (dhi_sq hs)
          have hsi : (((j : Int) + 1) * ((j : Int) + 1) != (N : Int)) = false := by simp; omega
          have hsl : decide (((j : Int) + 1) * ((j : Int) + 1) < (N : Int)) = false := by simp; omega
          clear eq2 hb1 hle modc divc hm hs
          go_wp2_with (at_builtin; refine wpList_append_own_at _ rfl _ _ 41 rfl w.heap.size 3 i0 (.int .i64 0) 1 8 Try.underlying41 hi hz0 hz1 hz2 rfl (by decide) _ _ _ rfl (ht.l.own.alloc _) ⟨wr.heap.size, 0, none⟩ 1 1 [.int .i64 ((j : Int) + 1)] rfl rfl (cell_one_new _ _ _) (by intro u hu; simp at hu; subst hu; rfl) (by unfold maxLen; omega) (by omega) (by simp; omega) ?_; intro v1 w1 hown1 hgrow1 _ hat1)
          have ht1 := ht.pushL hgrow1 hown1 hat1
          have e1 : ints (dlo N j) ++ [(j : Int) + 1] = ints (dlo N (j + 1)) := by rw [d1.out, ints_snoc]; rfl
          rw [e1, ← d2.out] at ht1
          clear hgrow1 hown1 hat1 ht e1
          go_wp2
          go_roundw
          case rel => exact ⟨j + 1, by go_num, hj3, HJ, ht1⟩
          case measure => simp only [intOf]; omega
        · have d2 := Lib.hid (dhi_hit hm hs)
          have hsi : (((j : Int) + 1) * ((j : Int) + 1) != (N : Int)) = true := by simp; omega
          have hsl : ((j : Int) + 1) * ((j : Int) + 1) < (N : Int) := by omega
          clear eq2 hb1 hle modc divc hm hs
          go_wp2_with (first | (at_builtin; refine wpList_append_own_at _ rfl _ _ 41 rfl w.heap.size 3 i0 (.int .i64 0) 1 8 Try.underlying41 hi hz0 hz1 hz2 rfl (by decide) _ _ _ rfl (ht.l.own.alloc _) ⟨wr.heap.size, 0, none⟩ 1 1 [.int .i64 ((j : Int) + 1)] rfl rfl (cell_one_new _ _ _) (by intro u hu; simp at hu; subst hu; rfl) (by unfold maxLen; omega) (by omega) (by simp; omega) ?_; intro v1 w1 hown1 hgrow1 _ hat1; have ht1 := ht.pushL hgrow1 hown1 hat1; have hsz1 := ht1.size; clear hgrow1 hown1 hat1) | (at_builtin; go_loud (refine wpList_append_own_at _ rfl _ _ 41 rfl w.heap.size 3 i0 (.int .i64 0) 1 8 Try.underlying41 hi hz0 hz1 hz2 rfl (by decide) _ _ _ rfl (ht1.h.own.alloc _) ⟨w1.heap.size, 0, none⟩ 1 1 [.int .i64 ((N : Int) / ((j : Int) + 1))] rfl rfl (cell_one_new _ _ _) (by intro u hu; simp at hu; subst hu; rfl) (by unfold maxLen; omega) (by omega) (by simp; omega) ?_); intro v2 w2 hown2 hgrow2 _ hat2))
          have ht2 := ht1.pushH hgrow2 hown2 hat2
          have e1 : ints (dlo N j) ++ [(j : Int) + 1] = ints (dlo N (j + 1)) := by rw [d1.out, ints_snoc]; rfl
          have e2 : ints (dhi N j) ++ [(N : Int) / ((j : Int) + 1)] = ints (dhi N (j + 1)) := by rw [d2.out, ints_snoc, DC.out]
          rw [e1, e2] at ht2
          clear hgrow2 hown2 hat2 ht1 e1 e2 ht
          go_wp2
          go_roundw
          case rel => exact ⟨j + 1, by go_num, hj3, HJ, ht2⟩
          case measure => simp only [intOf]; omega
      · have hmi : ((N : Int) % ((j : Int) + 1) != 0) = true := by simp; omega
        have d1 := Lib.hid (dlo_miss hm)
        have d2 := Lib.hid (dhi_miss hm)
        clear eq2 hb1 hle modc hm
        go_wp2
        go_roundw
        case rel => exact ⟨j + 1, by go_num, hj3, HJ, by rw [d1.out, d2.out]; exact ht⟩
        case measure => simp only [intOf]; omega
    · have hjq : j = isq N := isq_unique hjj.out (by omega)
      have hgt : ¬ ((j : Int) + 1) * ((j : Int) + 1) ≤ (N : Int) := by omega
      have HQ := Lib.hid hjq
      clear hjq hle eq2 hb1
      have HD : Hid (ints (divs N) = ints (dlo N j) ++ (ints (dhi N j)).reverse) := by
        show ints (divs N) = _
        unfold divs
        rw [← HQ.out, ints_append, ints_reverse]
      by_cases hnil : ints (dhi N j) = []
      · rw [hnil] at ht HD
        clear hH
        obtain ⟨A, c, rfl⟩ := ht.h.len
        have hl := ht.l
        have hbb := ht.b
        simp only [List.reverse_nil, List.append_nil] at HD
        rw [← HD.out] at hl
        clear ht hnil hL
        go_wp2
        go_loop [3, 6] (fun v s => s = .int .i64 (-1) ∧ Lst wr w.heap.size v (ints (divs N))) (fun _ _ => 0)
        case atStart => exact ⟨rfl, hl⟩
        case round =>
          clear hl
          obtain ⟨rfl, hl⟩ := hrel
          go_wp2
          go_ret
          exact ⟨_, rfl, hl, hbb⟩
      · obtain ⟨H, hHe⟩ : ∃ H, H = ints (dhi N j) := ⟨_, rfl⟩
        rw [← hHe] at ht hnil hH HD
        clear hHe
        have hpos : 0 < H.length := by rcases H with _ | ⟨x, t⟩; exact absurd rfl hnil; simp
        obtain ⟨g, c, hv⟩ : ∃ g c, u4 = .slice (some ⟨g, 0, none⟩) H.length c := by
          rcases ht.h.shape with ⟨h, _⟩ | ⟨g, c, h, _⟩
          · exact absurd h hnil
          · exact ⟨g, c, h⟩
        subst hv
        clear hnil
        go_wp2
        go_loopw [3, 6] (fun v s wr => ∃ i : Nat, s = .int .i64 ((i : Int) - 1) ∧ i ≤ H.length ∧ Two w wr v (.slice (some ⟨g, 0, none⟩) H.length c) (ints (dlo N j) ++ (H.drop i).reverse) H) (fun _ s _ => (intOf s + 1).toNat)
        case atStart => exact ⟨H.length, rfl, Nat.le_refl _, by simpa using ht⟩
        case round =>
          clear ht
          obtain ⟨i, rfl, hil, ht⟩ := hrel
          have hsz := ht.size
          by_cases hi0 : 0 < i
          · obtain ⟨i, rfl⟩ : ∃ k, i = k + 1 := ⟨i - 1, by omega⟩
            have hcell : wr.cell? ⟨g, i, none⟩ = some (.int .i64 (H.getD i 0)) := by
              rcases ht.h.shape with ⟨h, _⟩ | ⟨g', c', he, _, _, hc, _⟩
              · rw [h] at hil; simp at hil
              · simp only [Value.slice.injEq, Option.some.injEq, Addr.mk.injEq] at he
                obtain ⟨⟨rfl, _⟩, _⟩ := he
                exact hc i (by omega)
            have hln : (ints (dlo N j) ++ (H.drop (i + 1)).reverse).length ≤ 2000 := by simp only [List.length_append, List.length_reverse, List.length_drop]; omega
            have hdr := Lib.hid (drop_snoc (H := H) (i := i) (by omega))
            have hix : ((i + 1 : Nat) : Int) - 1 = (i : Int) := by omega
            rw [hix]
            clear hix
            go_wp2_with (at_builtin; refine wpList_append_own_at _ rfl _ _ 41 rfl w.heap.size 3 i0 (.int .i64 0) 1 8 Try.underlying41 hi hz0 hz1 hz2 rfl (by decide) _ _ _ rfl (ht.l.own.alloc _) ⟨wr.heap.size, 0, none⟩ 1 1 [.int .i64 (H.getD i 0)] rfl rfl (cell_one_new _ _ _) (by intro u hu; simp at hu; subst hu; rfl) (by unfold maxLen; omega) (by omega) (by simp; omega) ?_; intro v1 w1 hown1 hgrow1 _ hat1)
            have ht1 := ht.pushL hgrow1 hown1 hat1
            rw [List.append_assoc, ← hdr.out] at ht1
            clear hgrow1 hown1 hat1 ht hdr
            go_wp2
            go_roundw
            case rel => exact ⟨i, rfl, by omega, ht1⟩
            case measure => simp only [intOf]; omega
          · obtain rfl : i = 0 := by omega
            have hl := ht.l
            have hbb := ht.b
            rw [List.drop_zero, ← HD.out] at hl
            clear ht hi0 hil
            go_wp2
            go_ret
            exact ⟨_, rfl, hl, hbb⟩
end Go.Proofs.Ytfpedehpmgcmnaa
