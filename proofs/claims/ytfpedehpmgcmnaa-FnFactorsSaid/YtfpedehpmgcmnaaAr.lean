/-
  Contracts: the absolute value, the residue modulo a positive integer, the greatest common divisor: of the program and of the reference.
-/
import Derived.Test.YtfpedehpmgcmnaaGood
import Derived.Handy
namespace Go.Proofs.Ytfpedehpmgcmnaa
open Go.RowKit
set_option linter.unusedSimpArgs false
set_option linter.unusedVariables false

theorem emod_of_tmod {a m : Int} (hm : 0 < m) : a % m = if a.tmod m < 0 then a.tmod m + m else a.tmod m := by
  rw [Int.tmod_eq_emod]
  have h0 := Int.emod_nonneg a (show m ≠ 0 by omega)
  have h1 := Int.emod_lt_of_pos a hm
  split <;> split <;> omega
theorem tmod_bd {a m : Int} (hm : 0 < m) : -m < a.tmod m ∧ a.tmod m < m := by
  rw [Int.tmod_eq_emod]
  have h0 := Int.emod_nonneg a (show m ≠ 0 by omega)
  have h1 := Int.emod_lt_of_pos a hm
  split <;> omega
theorem tmod_abs (x : Int) {y : Int} (hy : y ≠ 0) : (x.tmod y).natAbs < y.natAbs ∧ (x.tmod y).natAbs ≤ x.natAbs := by
  rw [Int.natAbs_tmod]
  exact ⟨Nat.mod_lt _ (by omega), Nat.mod_le _ _⟩
theorem gcd_step (x : Int) {y : Int} (hy : y ≠ 0) : Int.gcd y (x.tmod y) = Int.gcd x y := by
  unfold Int.gcd
  rw [Int.natAbs_tmod, Nat.gcd_comm y.natAbs, ← Nat.gcd_rec, Nat.gcd_comm]
theorem below_draw (w : World) (k B : Nat) : Below B w (w.drewN k) := ⟨rfl, rfl, rfl, Nat.le_refl _, fun _ _ => rfl⟩

theorem abs_any (n : Int) (w : World) (h1 : -9223372036854775807 ≤ n) (h2 : n ≤ 9223372036854775807) :
    Calls Try.prog 60 #[.int .i64 n] w fun e w' => e = .returned (.int .i64 n.natAbs) ∧ w = w' := by
  by_cases h : 0 ≤ n
  · have e : (n.natAbs : Int) = n := by omega
    rw [e]
    go_enter Try.func60, Try.ntmps60
    go_wp2
    go_ret
    exact ⟨rfl, rfl⟩
  · have e : (n.natAbs : Int) = -n := by omega
    rw [e]
    go_enter Try.func60, Try.ntmps60
    go_wp2
    go_ret
    exact ⟨rfl, rfl⟩
theorem mod_any (a m : Int) (w : World) (h1 : -9223372036854775808 ≤ a) (h2 : a ≤ 9223372036854775807) (hm : 1 ≤ m) (hm2 : m ≤ 9223372036854775807) :
    Calls Try.prog 73 #[.int .i64 a, .int .i64 m] w fun e w' => e = .returned (.int .i64 (a % m)) ∧ w = w' := by
  have hb := tmod_bd (a := a) (m := m) (by omega)
  have he := emod_of_tmod (a := a) (m := m) (by omega)
  have h0 := Int.emod_nonneg a (show m ≠ 0 by omega)
  by_cases h : a.tmod m < 0
  · rw [if_pos h] at he
    have ha : ¬ 0 ≤ a := fun h' => by rw [Int.tmod_eq_emod_of_nonneg h'] at h; omega
    have HE := Lib.hid he
    clear he
    go_enter Try.func73, Try.ntmps73
    go_wp2
    go_ret
    exact ⟨by rw [HE.out]; rfl, rfl⟩
  · rw [if_neg h] at he
    have HE := Lib.hid he
    clear he
    by_cases ha : 0 ≤ a
    · go_enter Try.func73, Try.ntmps73
      go_wp2
      go_ret
      exact ⟨rfl, rfl⟩
    · go_enter Try.func73, Try.ntmps73
      go_wp2
      go_ret
      exact ⟨by rw [HE.out]; rfl, rfl⟩
theorem l1Abs_any (n : Int) (w : World) (h1 : -9223372036854775807 ≤ n) (h2 : n ≤ 9223372036854775807) :
    Calls Try.prog 85 #[.int .i64 n] w fun e w' => e = .returned (.int .i64 n.natAbs) ∧ w = w' := by
  by_cases h : 0 < n
  · have e : (n.natAbs : Int) = n := by omega
    rw [e]
    go_enter Try.func85, Try.ntmps85
    go_wp2_with go_in
    go_ret
    exact ⟨rfl, rfl⟩
  · have e : (n.natAbs : Int) = -n := by omega
    rw [e]
    go_enter Try.func85, Try.ntmps85
    go_wp2_with go_in
    go_ret
    exact ⟨rfl, rfl⟩
theorem nuMod_any (a m : Int) (w : World) (h1 : -9223372036854775808 ≤ a) (h2 : a ≤ 9223372036854775807) (hm : 1 ≤ m) (hm2 : m ≤ 9223372036854775807) :
    Calls Try.prog 76 #[.int .i64 a, .int .i64 m] w fun e w' => e = .returned (.int .i64 (a % m)) ∧ w = w' := by
  have hb := tmod_bd (a := a) (m := m) (by omega)
  have he := emod_of_tmod (a := a) (m := m) (by omega)
  have h0 := Int.emod_nonneg a (show m ≠ 0 by omega)
  by_cases h : a.tmod m < 0
  · rw [if_pos h] at he
    have ha : ¬ 0 ≤ a := fun h' => by rw [Int.tmod_eq_emod_of_nonneg h'] at h; omega
    have HE := Lib.hid he
    clear he
    go_enter Try.func76, Try.ntmps76
    go_wp2
    go_ret
    exact ⟨by rw [HE.out]; rfl, rfl⟩
  · rw [if_neg h] at he
    have HE := Lib.hid he
    clear he
    by_cases ha : 0 ≤ a
    · go_enter Try.func76, Try.ntmps76
      go_wp2
      go_ret
      exact ⟨rfl, rfl⟩
    · go_enter Try.func76, Try.ntmps76
      go_wp2
      go_ret
      exact ⟨by rw [HE.out]; rfl, rfl⟩
theorem gcd_any (a b : Int) (w : World) (a1 : -1000000000000 ≤ a) (a2 : a ≤ 1000000000000) (b1 : -1000000000000 ≤ b) (b2 : b ≤ 1000000000000) :
    Calls Try.prog 65 #[.int .i64 a, .int .i64 b] w fun e w' => e = .returned (.int .i64 (Int.gcd a b)) ∧ ∃ k, w' = w.drewN k := by
  go_enter Try.func65, Try.ntmps65
  go_wp2
  go_loopw [0, 1] (fun s0 s1 wr => ∃ (x y : Int) (k : Nat), s0 = .int .i64 x ∧ s1 = .int .i64 y ∧ wr = w.drewN k ∧ -1000000000000 ≤ x ∧ x ≤ 1000000000000 ∧ -1000000000000 ≤ y ∧ y ≤ 1000000000000 ∧ Int.gcd x y = Int.gcd a b) (fun _ s1 _ => (intOf s1).natAbs)
  case atStart => exact ⟨a, b, 0, rfl, rfl, rfl, a1, a2, b1, b2, rfl⟩
  case round =>
    obtain ⟨x, y, k, rfl, rfl, rfl, x1, x2, y1, y2, hg⟩ := hrel
    have HG := Lib.hid hg
    clear hg
    by_cases hy : y = 0
    · subst hy
      have he : ((x.natAbs : Nat) : Int) = Int.gcd a b := by rw [← HG.out]; simp
      have HE := Lib.hid he
      clear he
      go_wp2_with (go_at_call 60; refine (abs_any _ _ (by omega) (by omega)).mono ?_; rintro e w' ⟨rfl, rfl⟩)
      go_ret
      exact ⟨by rw [← HE.out]; rfl, k, rfl⟩
    · have hs := gcd_step x hy
      have HS := Lib.hid hs
      clear hs
      have hb : -1000000000000 ≤ x.tmod y ∧ x.tmod y ≤ 1000000000000 := by have := tmod_abs x hy; omega
      have hl := (tmod_abs x hy).1
      go_wp2
      go_region
      all_goals
        go_wp2
        go_roundw
        case rel => exact ⟨y, x.tmod y, k + 1, rfl, rfl, rfl, by omega, by omega, hb.1, hb.2, by rw [HS.out]; exact HG.out⟩
        case measure => simp only [intOf]; exact hl
theorem nuGcd_any (a b : Int) (w : World) (a1 : -1000000000000 ≤ a) (a2 : a ≤ 1000000000000) (b1 : -1000000000000 ≤ b) (b2 : b ≤ 1000000000000) :
    Calls Try.prog 74 #[.int .i64 a, .int .i64 b] w fun e w' => e = .returned (.int .i64 (Int.gcd a b)) ∧ ∃ k, w' = w.drewN k := by
  have habs : ∀ z : Int, Int.gcd (z.natAbs : Int) 0 = z.natAbs := fun z => by simp
  have hst : Int.gcd (a.natAbs : Int) (b.natAbs : Int) = Int.gcd a b := by simp [Int.gcd]
  have HST := Lib.hid hst
  clear hst habs
  go_enter Try.func74, Try.ntmps74
  go_wp2_with (go_at_call 85; refine (l1Abs_any _ _ (by omega) (by omega)).mono ?_; rintro e w' ⟨rfl, rfl⟩)
  go_loopw [0, 1] (fun s0 s1 wr => ∃ (x y : Int) (k : Nat), s0 = .int .i64 x ∧ s1 = .int .i64 y ∧ wr = w.drewN k ∧ 0 ≤ x ∧ x ≤ 1000000000000 ∧ 0 ≤ y ∧ y ≤ 1000000000000 ∧ Int.gcd x y = Int.gcd a b) (fun _ s1 _ => (intOf s1).natAbs)
  case atStart => exact ⟨a.natAbs, b.natAbs, 0, rfl, rfl, rfl, by omega, by omega, by omega, by omega, HST.out⟩
  case round =>
    obtain ⟨x, y, k, rfl, rfl, rfl, x1, x2, y1, y2, hg⟩ := hrel
    have HG := Lib.hid hg
    clear hg
    by_cases hy : y = 0
    · subst hy
      have he : x = Int.gcd a b := by rw [← HG.out]; simp; omega
      have HE := Lib.hid he
      clear he
      go_wp2
      go_ret
      exact ⟨by rw [← HE.out]; rfl, k, rfl⟩
    · have hs := gcd_step x hy
      have HS := Lib.hid hs
      clear hs
      have hq : x.tmod y = x % y := Int.tmod_eq_emod_of_nonneg x1
      rw [hq] at HS
      have hb : 0 ≤ x % y ∧ x % y ≤ 1000000000000 := by have := tmod_abs x hy; have := Int.emod_nonneg x hy; omega
      have hl : (x % y).natAbs < y.natAbs := by rw [← hq]; exact (tmod_abs x hy).1
      clear hq
      go_wp2
      go_region
      all_goals
        go_wp2
        go_roundw
        case rel => exact ⟨y, x % y, k + 1, rfl, rfl, rfl, by omega, by omega, hb.1, hb.2, by rw [HS.out]; exact HG.out⟩
        case measure => simp only [intOf]; exact hl
end Go.Proofs.Ytfpedehpmgcmnaa
