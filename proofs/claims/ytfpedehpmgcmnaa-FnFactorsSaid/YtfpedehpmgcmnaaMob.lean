/-
  'Mobius': its contracts and its law's walk.
-/
import Derived.Test.YtfpedehpmgcmnaaPut
import Derived.Test.YtfpedehpmgcmnaaFrame
import Derived.Test.YtfpedehpmgcmnaaForm
import Derived.Deep.QuietTactic
import Derived.BigQuiet
namespace Go.Proofs.Ytfpedehpmgcmnaa
open Go.RowKit
set_option linter.unusedSimpArgs false
set_option linter.unusedVariables false

theorem putNil {F : List Int} {k : Nat} (hk : k ≤ F.length) (h : ddL (F.take k) = []) : k = 0 := by
  rcases Nat.eq_zero_or_pos k with h0 | h0
  · exact h0
  · exfalso
    have hm : F[0] ∈ F.take k := by
      rw [List.mem_take_iff_getElem]
      exact ⟨0, by omega, rfl⟩
    rw [← mem_ddL, h] at hm
    cases hm
theorem dd_take_le (F : List Int) (k : Nat) : (ddL (F.take k)).length ≤ F.length := by
  have := ddL_le (F.take k)
  rw [List.length_take] at this
  omega
theorem fac_len {N : Nat} (n1 : 1 ≤ N) : (ints (fcs 2 N)).length ≤ N := by
  rw [ints_length]
  exact fcs_len N 2 N (Nat.le_refl _) n1 (by omega) (nd2 N)
set_option maxHeartbeats 800000 in
theorem mobius_any (N : Nat) (w : World) (n1 : 1 ≤ N) (n2 : N ≤ 1000000) : Calls Try.prog 62 #[.int .i64 N] w fun e w' => e = .returned (.int .i64 (mobF (ints (fcs 2 N)))) ∧ Below w.heap.size w w' := by
  have hlen := fac_len n1
  have HS := Lib.hid (ints_sort n1)
  obtain ⟨F, hF⟩ : ∃ F, ints (fcs 2 N) = F := ⟨_, rfl⟩
  rw [hF] at hlen HS ⊢
  have HF := Lib.hid hF
  clear hF
  go_enter Try.func62, Try.ntmps62
  go_wp2_with fail
  refine (factors_any N _ n1 n2).mono ?_
  rintro e w1 ⟨v1, rfl, l1, b1⟩
  rw [HF.out] at l1
  by_cases hn : F = []
  · subst hn
    have f1 : ∃ A c, v1 = .slice A 0 c := by rcases l1.shape with ⟨_, rfl⟩ | ⟨g, c, rfl, _⟩ <;> exact ⟨_, _, rfl⟩
    obtain ⟨A, c, rfl⟩ := f1
    clear l1 HS
    go_wp2
    go_loop [4] (fun i => i = .int .i64 1) (fun _ => 0)
    case atStart => rfl
    case round =>
      obtain rfl := hrel
      go_wp2
      go_ret
      exact ⟨rfl, b1⟩
  · have hpos : 0 < F.length := List.length_pos_iff.2 hn
    obtain ⟨g, c, rfl, _, hg, hcell, _⟩ := l1.some' hpos
    have HC := Lib.hid hcell
    clear hcell l1 hn
    go_wp2
    go_loopw [4] (fun i wr => ∃ k d : Nat, i = .int .i64 ((k : Int) + 1) ∧ k + 1 ≤ F.length ∧ Hid ((F.take (k + 1)).Pairwise (· < ·)) ∧ wr = w1.drewN d) (fun i _ => F.length - (intOf i).toNat)
    case atStart => exact ⟨0, 0, rfl, hpos, Lib.hid (asc_succ HS.out hpos (by simp) (.inl rfl)), rfl⟩
    case round =>
      obtain ⟨k, d, rfl, hk, HA, rfl⟩ := hrel
      by_cases hlt : k + 1 < F.length
      · obtain ⟨x, hx⟩ : ∃ x, F.getD k 0 = x := ⟨_, rfl⟩
        obtain ⟨y, hy⟩ : ∃ y, F.getD (k + 1) 0 = y := ⟨_, rfl⟩
        have hc := HC.out k (by omega)
        have hc1 := HC.out (k + 1) hlt
        rw [hx] at hc
        rw [hy] at hc1
        have k0 : (0 : Int) ≤ (k : Int) := by omega
        have k1 : (0 : Int) ≤ (k : Int) + 1 := by omega
        have k2 : (k : Int) + 1 < (F.length : Int) := by omega
        have k3 : (k : Int) < (F.length : Int) := by omega
        have k4 : (k : Int) + 1 - 1 = k := by omega
        have k5 : ((k : Int) + 1).toNat = k + 1 := by omega
        by_cases he : y = x
        · have HM := Lib.hid (mobF_dup (not_nodup (k := k + 1) hlt (by omega) (by rw [hy, Nat.add_sub_cancel, hx, he])))
          have hq : (y == x) = true := by rw [beq_iff_eq]; exact he
          clear hx hy he
          go_wp2
          go_quiet (fail)
          go_wp2
          go_ret
          exact ⟨by rw [HM.out]; try rfl, by first | exact below_drewN b1 _ | exact below_drewN (below_drewN b1 _) _⟩
        · have HA2 := Lib.hid (asc_succ HS.out hlt HA.out (.inr (by rw [hy, Nat.add_sub_cancel, hx]; exact he)))
          have hq : (y == x) = false := by rw [beq_eq_false_iff_ne]; exact he
          clear hx hy he
          go_wp2
          go_quiet (fail)
          go_wp2
          go_roundw
          case rel => exact ⟨k + 1, _, by go_num, hlt, HA2, rfl⟩
          case measure => simp only [intOf]; omega
      · have hke : k + 1 = F.length := by omega
        have HM := Lib.hid (mobF_asc (nodup_of_asc (by have := HA.out; rwa [hke, List.take_length] at this)))
        have k2 : ¬ (k : Int) + 1 < (F.length : Int) := by omega
        clear hke hlt
        go_wp2
        go_ret
        exact ⟨by rw [HM.out]; try rfl, by first | exact below_drewN b1 _ | exact below_drewN (below_drewN b1 _) _⟩
def vMO (n : Int) : Bool := inB 1 1000000 n
def moV (n : Int) : Int := mobF (ints (fcs 2 n.toNat))
theorem mob_int {P : Program} {f : FuncId} {n : Int} {w : World} (h : ∀ N : Nat, 1 ≤ N → N ≤ 1000000 → Calls P f #[.int .i64 N] w fun e w' => e = .returned (.int .i64 (mobF (ints (fcs 2 N)))) ∧ Below w.heap.size w w') (n1 : 1 ≤ n) (n2 : n ≤ 1000000) :
    Calls P f #[.int .i64 n] w fun e w' => e = .returned (.int .i64 (moV n)) ∧ Below w.heap.size w w' := by
  obtain ⟨N, rfl⟩ : ∃ N : Nat, n = N := ⟨n.toNat, by omega⟩
  exact h N (by omega) (by omega)
theorem implMO_any (n : Int) (w : World) : Calls Try.prog 30 #[.int .i64 n] w fun e w' =>
    e = .returned (.tuple #[.int .i64 (oFor (inB 1 1000000 n) (moV n)), .bool (inB 1 1000000 n)]) ∧ Below w.heap.size w w' := by
  rcases h0 : good n with _ | _
  · rw [show inB 1 1000000 n = false from inB_bad.2 (by have := bad_iff.1 h0; omega), oFor_false]
    go_enter Try.func30, Try.ntmps30
    go_wp2_with fail
    ((with_reducible refine (are1 n _ _ (by simp)).mono ?_); rintro e w0 ⟨rfl, rfl⟩)
    go_wp2
    go_ret2
    exact ⟨rfl, (by repeat' (first | (with_reducible exact Below.refl _ _) | (with_reducible assumption) | (with_reducible refine Below.alloc ?_ ?_ _) | (with_reducible refine Below.drew ?_) | (with_reducible refine below_drewN ?_ _) | (with_reducible refine Below.setCell ?_ ?_ _) | go_size))⟩
  · by_cases h1 : n < 1
    · rw [show inB 1 1000000 n = false from inB_bad.2 (by omega), oFor_false]
      go_enter Try.func30, Try.ntmps30
      go_wp2_with fail
      ((with_reducible refine (are1 n _ _ (by simp)).mono ?_); rintro e w0 ⟨rfl, rfl⟩)
      go_wp2
      go_ret2
      exact ⟨rfl, (by repeat' (first | (with_reducible exact Below.refl _ _) | (with_reducible assumption) | (with_reducible refine Below.alloc ?_ ?_ _) | (with_reducible refine Below.drew ?_) | (with_reducible refine below_drewN ?_ _) | (with_reducible refine Below.setCell ?_ ?_ _) | go_size))⟩
    · have hn := good_iff.1 h0
      rw [show inB 1 1000000 n = true from inB_iff.2 ⟨by omega, by omega⟩, oFor_true]
      go_enter Try.func30, Try.ntmps30
      go_wp2_with fail
      ((with_reducible refine (are1 n _ _ (by simp)).mono ?_); rintro e w0 ⟨rfl, rfl⟩)
      go_wp2_with fail
      ((with_reducible refine (mob_int (fun N a b => mobius_any N _ a b) (by omega) (by omega)).mono ?_); rintro e w1 ⟨rfl, hb1⟩)
      obtain ⟨hc1, hf1⟩ := bcell hb1
      have hz1 := hb1.size
      try simp only [World.size_alloc, World.size_drew, World.size_setCell] at hz1
      try have hs1 : w.heap.size < w1.heap.size := by omega
      have bl1 : Below w.heap.size w w1 := Below.trans (by go_grown) (hb1.mono (by go_size))
      go_wp2
      go_ret2
      exact ⟨rfl, (by repeat' (first | (with_reducible exact Below.refl _ _) | (with_reducible assumption) | (with_reducible refine Below.alloc ?_ ?_ _) | (with_reducible refine Below.drew ?_) | (with_reducible refine below_drewN ?_ _) | (with_reducible refine Below.setCell ?_ ?_ _) | go_size))⟩
end Go.Proofs.Ytfpedehpmgcmnaa
