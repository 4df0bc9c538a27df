/-
  Contracts: the remainders of Euclid's algorithm.
-/
import Derived.Test.YtfnmdcifjdfocaaFilt
import Derived.Test.YtfnmdcifjdfocaaPlain
namespace Go.Proofs.Ytfnmdcifjdfocaa
open Go.RowKit
set_option linter.unusedSimpArgs false
set_option linter.unusedVariables false

def ints (L : List Nat) : List Int := L.map fun x : Nat => (x : Int)
theorem ints_length (L : List Nat) : (ints L).length = L.length := by simp [ints]
theorem ints_snoc (L : List Nat) (x : Nat) : ints (L ++ [x]) = ints L ++ [(x : Int)] := by simp [ints]
theorem Lst.one {W : World} {base g : Nat} (x : Int) (hg : g = W.heap.size) (h : base ≤ g) : Lst (W.alloc (.cells #[.int .i64 x] 3)) base (.slice (some ⟨g, 0, none⟩) 1 1) [x] := by
  subst hg
  exact World.ownsRow_lit (base := base) (e := 3) (size := 1) W #[.int .i64 x] 1 h (by simp [maxLen]) rfl
theorem eur_len : ∀ (r m : Nat), (eur m r).length ≤ r := fun r => by
  induction r using Nat.strongRecOn with
  | ind r ih =>
    intro m
    rcases Nat.eq_zero_or_pos r with h | h
    · subst h; rw [eur_zero]; simp
    · rw [eur_pos (by omega)]
      have h1 := Nat.mod_lt m h
      have h2 := ih (m % r) h1 r
      simp only [List.length_cons]
      omega

set_option maxHeartbeats 400000 in
theorem roEuclid_any (m r : Nat) (w : World) (m2 : m ≤ 1000000) (r2 : r ≤ 1000000) : Calls Try.prog 49 #[.int .i64 m, .int .i64 r] w (RetL w (ints (m :: eur m r))) := by
  obtain ⟨i0, hi, hz0, hz1, hz2⟩ := info_parts Try.infoInt
  go_enter Try.func49, Try.ntmps49
  go_wp2
  go_loopw [0, 1, 5] (fun s t v wr => ∃ (M R : Nat) (D : List Nat), s = .int .i64 M ∧ t = .int .i64 R ∧ M ≤ 1000000 ∧ R ≤ 1000000 ∧ Lst wr w.heap.size v (ints D) ∧ D.length + R ≤ 1000001 ∧ Hid (D ++ eur M R = m :: eur m r) ∧ Below w.heap.size w wr) (fun _ t _ _ => (intOf t).toNat)
  case atStart => exact ⟨m, r, [m], rfl, rfl, m2, r2, Lst.one _ (by simp) (by omega), by simp; omega, rfl, (by repeat' (first | (with_reducible exact Below.refl _ _) | (with_reducible assumption) | (with_reducible refine Below.alloc ?_ ?_ _) | (with_reducible refine Below.drew ?_) | (with_reducible refine below_drewN ?_ _) | (with_reducible refine Below.setCell ?_ ?_ _) | go_size))⟩
  case round =>
    obtain ⟨M, R, D, rfl, rfl, hM, hR, hl, hD, HD, hb⟩ := hrel
    have hsz := hb.size
    have hlen : (ints D).length + R ≤ 1000001 := by rw [ints_length]; exact hD
    by_cases hz : R = 0
    · subst hz
      have he : ints D = ints (m :: eur m r) := by rw [← HD.out, eur_zero, List.append_nil]
      rw [he] at hl
      clear he HD hlen
      go_wp2
      go_ret
      exact ⟨_, rfl, hl, hb⟩
    · have hml := Nat.mod_lt M (show 0 < R by omega)
      have hn : D ++ [R] ++ eur R (M % R) = m :: eur m r := by rw [← HD.out, eur_pos hz, List.append_assoc]; rfl
      have HN := Lib.hid hn
      have hpos : (0 : Int) < (R : Int) := by omega
      have hmc : ((M % R : Nat) : Int) = (M : Int) % (R : Int) := Int.natCast_emod _ _
      have HMC := Lib.hid hmc
      have hm0 : (0 : Int) ≤ (M : Int) % (R : Int) := by omega
      clear hn HD hmc
      go_wp2_with (at_builtin; refine wpList_append_own _ rfl _ _ 25 rfl w.heap.size 3 i0 (.int .i64 0) 1 8 Try.underlying25 hi hz0 hz1 hz2 rfl (by decide) _ _ _ rfl (hl.own.alloc _) ⟨wr.heap.size, 0, none⟩ 1 1 [.int .i64 (R : Int)] rfl rfl ?c1 ?c2 ?c3 ?c4 ?c5 ?_)
      case c1 =>
        intro j u hj
        match j, hj with
        | 0, hj => simp at hj; subst hj; simp [Addr.add]
      case c2 => intro u hu; simp at hu; subst hu; rfl
      case c3 => unfold maxLen; omega
      case c4 => omega
      case c5 => simp; omega
      · intro v' w1 hown' hgrow _
        have hl1 := Lst.snoc hown'
        rw [← ints_snoc] at hl1
        have hb1 := snoc_below hb hl hgrow
        have hd1 : (D ++ [R]).length + M % R ≤ 1000001 := by simp; omega
        clear hown' hgrow hl hb hlen hD
        go_wp2
        go_region
        all_goals
          go_wp2
          go_roundw
          case rel => exact ⟨R, M % R, D ++ [R], rfl, by rw [HMC.out], hR, by omega, hl1.drewN 1, hd1, HN, hb1.drew⟩
          case measure => simp only [intOf]; rw [← HMC.out]; omega

set_option maxHeartbeats 400000 in
theorem remainders_any (m r : Nat) (w : World) (m2 : m ≤ 1000000) (r2 : r ≤ 1000000) : Calls Try.prog 50 #[.int .i64 m, .int .i64 r] w (RetL w (ints (m :: eur m r))) := by
  obtain ⟨i0, hi, hz0, hz1, hz2⟩ := info_parts Try.infoInt
  go_enter Try.func50, Try.ntmps50
  go_wp2
  go_loopw [0, 1, 5] (fun s t v wr => ∃ (M R : Nat) (D : List Nat), s = .int .i64 M ∧ t = .int .i64 R ∧ M ≤ 1000000 ∧ R ≤ 1000000 ∧ Lst wr w.heap.size v (ints D) ∧ D.length + R ≤ 1000001 ∧ Hid (D ++ eur M R = m :: eur m r) ∧ Below w.heap.size w wr) (fun _ t _ _ => (intOf t).toNat)
  case atStart => exact ⟨m, r, [m], rfl, rfl, m2, r2, Lst.one _ (by simp) (by omega), by simp; omega, rfl, (by repeat' (first | (with_reducible exact Below.refl _ _) | (with_reducible assumption) | (with_reducible refine Below.alloc ?_ ?_ _) | (with_reducible refine Below.drew ?_) | (with_reducible refine below_drewN ?_ _) | (with_reducible refine Below.setCell ?_ ?_ _) | go_size))⟩
  case round =>
    obtain ⟨M, R, D, rfl, rfl, hM, hR, hl, hD, HD, hb⟩ := hrel
    have hsz := hb.size
    have hlen : (ints D).length + R ≤ 1000001 := by rw [ints_length]; exact hD
    by_cases hz : R = 0
    · subst hz
      have he : ints D = ints (m :: eur m r) := by rw [← HD.out, eur_zero, List.append_nil]
      rw [he] at hl
      clear he HD hlen
      go_wp2
      go_ret
      exact ⟨_, rfl, hl, hb⟩
    · have hml := Nat.mod_lt M (show 0 < R by omega)
      have hn : D ++ [R] ++ eur R (M % R) = m :: eur m r := by rw [← HD.out, eur_pos hz, List.append_assoc]; rfl
      have HN := Lib.hid hn
      have hpos : (0 : Int) < (R : Int) := by omega
      have hmc : ((M % R : Nat) : Int) = (M : Int) % (R : Int) := Int.natCast_emod _ _
      have HMC := Lib.hid hmc
      have hm0 : (0 : Int) ≤ (M : Int) % (R : Int) := by omega
      clear hn HD hmc
      go_wp2_with (at_builtin; refine wpList_append_own _ rfl _ _ 25 rfl w.heap.size 3 i0 (.int .i64 0) 1 8 Try.underlying25 hi hz0 hz1 hz2 rfl (by decide) _ _ _ rfl (hl.own.alloc _) ⟨wr.heap.size, 0, none⟩ 1 1 [.int .i64 (R : Int)] rfl rfl ?c1 ?c2 ?c3 ?c4 ?c5 ?_)
      case c1 =>
        intro j u hj
        match j, hj with
        | 0, hj => simp at hj; subst hj; simp [Addr.add]
      case c2 => intro u hu; simp at hu; subst hu; rfl
      case c3 => unfold maxLen; omega
      case c4 => omega
      case c5 => simp; omega
      · intro v' w1 hown' hgrow _
        have hl1 := Lst.snoc hown'
        rw [← ints_snoc] at hl1
        have hb1 := snoc_below hb hl hgrow
        have hd1 : (D ++ [R]).length + M % R ≤ 1000001 := by simp; omega
        clear hown' hgrow hl hb hlen hD
        go_wp2
        go_region
        all_goals
          go_wp2
          go_roundw
          case rel => exact ⟨R, M % R, D ++ [R], rfl, by rw [HMC.out], hR, by omega, hl1.drewN 1, hd1, HN, hb1.drew⟩
          case measure => simp only [intOf]; rw [← HMC.out]; omega
end Go.Proofs.Ytfnmdcifjdfocaa
