/-
  Contracts: the whole root by halving, of the program and of the reference.
-/
import Derived.Test.YtfnmdcifjdfocaaGood
import Derived.Test.YtfnmdcifjdfocaaPlain
import Derived.Handy
namespace Go.Proofs.Ytfnmdcifjdfocaa
open Go.RowKit
set_option linter.unusedSimpArgs false
set_option linter.unusedVariables false

def Sand (n l h : Int) : Prop := l * l ≤ n ∧ n < (h + 1) * (h + 1)
theorem Sand.up {n l h m : Int} (hs : Sand n l h) (hm : m * m ≤ n) : Sand n m h := ⟨hm, hs.2⟩
theorem Sand.down {n l h m : Int} (hs : Sand n l h) (hm : n < m * m) : Sand n l (m - 1) := ⟨hs.1, by rw [show m - 1 + 1 = m by omega]; exact hm⟩
theorem Sand.eq {n l : Int} (hs : Sand n l l) (h0 : 0 ≤ l) : l = (isq n.toNat : Int) := by
  obtain ⟨h1, h2⟩ := hs
  obtain ⟨L, rfl⟩ : ∃ L : Nat, l = L := ⟨l.toNat, by omega⟩
  have e1 : L * L ≤ n.toNat := by
    have : ((L * L : Nat) : Int) ≤ n := by rw [Int.natCast_mul]; exact h1
    omega
  have e2 : n.toNat < (L + 1) * (L + 1) := by
    have h3 : n < (((L + 1) * (L + 1) : Nat) : Int) := by rw [Int.natCast_mul]; exact h2
    have h4 : 0 < (L + 1) * (L + 1) := Nat.mul_pos (by omega) (by omega)
    omega
  rw [isq_unique e1 e2]
theorem sq_bd {x : Int} (h0 : 0 ≤ x) (h1 : x ≤ 3000000000) : 0 ≤ x * x ∧ x * x ≤ 9000000000000000000 := by
  obtain ⟨X, rfl⟩ : ∃ X : Nat, x = X := ⟨x.toNat, by omega⟩
  have : X * X ≤ 3000000000 * 3000000000 := Nat.mul_le_mul (by omega) (by omega)
  rw [← Int.natCast_mul]
  omega

theorem root_any (n : Int) (w : World) (h0 : 0 ≤ n) (h1 : n ≤ 1000000000000) :
    Calls Try.prog 64 #[.int .i64 n] w fun e w' => e = .returned (.int .i64 (isq n.toNat)) ∧ w = w' := by
  go_enter Try.func64, Try.ntmps64
  go_wp2
  go_loop [3, 4] (fun s t => ∃ l h : Int, s = .int .i64 l ∧ t = .int .i64 h ∧ 0 ≤ l ∧ l ≤ h ∧ h ≤ 3000000000 ∧ Sand n l h) (fun s t => (intOf t - intOf s).toNat)
  case atStart => exact ⟨0, 3000000000, rfl, rfl, by omega, by omega, by omega, ⟨by simpa using h0, by omega⟩⟩
  case round =>
    obtain ⟨l, h, rfl, rfl, l0, lh, hh, hs⟩ := hrel
    have HS := Lib.hid hs
    clear hs
    by_cases hlt : l < h
    · have m1 : l < (l + h + 1) / 2 := by omega
      have m2 : (l + h + 1) / 2 ≤ h := by omega
      have m3 := sq_bd (x := (l + h + 1) / 2) (by omega) (by omega)
      by_cases ht : (l + h + 1) / 2 * ((l + h + 1) / 2) ≤ n
      · have HN := Lib.hid (HS.out.up (m := (l + h + 1) / 2) ht)
        go_wp2
        go_round
        case rel => exact ⟨(l + h + 1) / 2, h, rfl, rfl, by omega, m2, hh, HN.out⟩
        case measure => simp only [intOf]; omega
      · have HN := Lib.hid (HS.out.down (m := (l + h + 1) / 2) (by omega))
        go_wp2
        go_round
        case rel => exact ⟨l, (l + h + 1) / 2 - 1, rfl, rfl, l0, by omega, by omega, HN.out⟩
        case measure => simp only [intOf]; omega
    · obtain rfl : l = h := by omega
      have he := HS.out.eq l0
      go_wp2
      go_ret
      first | exact ⟨rfl, rfl⟩ | exact ⟨by rw [← he]; rfl, rfl⟩
theorem nuRoot_any (n : Int) (w : World) (h0 : 0 ≤ n) (h1 : n ≤ 1000000000000) :
    Calls Try.prog 62 #[.int .i64 n] w fun e w' => e = .returned (.int .i64 (isq n.toNat)) ∧ w = w' := by
  go_enter Try.func62, Try.ntmps62
  go_wp2
  go_loop [3, 4] (fun s t => ∃ l h : Int, s = .int .i64 l ∧ t = .int .i64 h ∧ 0 ≤ l ∧ l ≤ h ∧ h ≤ 1000000000 ∧ Sand n l h) (fun s t => (intOf t - intOf s).toNat)
  case atStart => exact ⟨0, 1000000000, rfl, rfl, by omega, by omega, by omega, ⟨by simpa using h0, by omega⟩⟩
  case round =>
    obtain ⟨l, h, rfl, rfl, l0, lh, hh, hs⟩ := hrel
    have HS := Lib.hid hs
    clear hs
    by_cases hlt : l < h
    · have m1 : l < (l + h + 1) / 2 := by omega
      have m2 : (l + h + 1) / 2 ≤ h := by omega
      have m3 := sq_bd (x := (l + h + 1) / 2) (by omega) (by omega)
      by_cases ht : (l + h + 1) / 2 * ((l + h + 1) / 2) ≤ n
      · have HN := Lib.hid (HS.out.up (m := (l + h + 1) / 2) ht)
        go_wp2
        go_round
        case rel => exact ⟨(l + h + 1) / 2, h, rfl, rfl, by omega, m2, hh, HN.out⟩
        case measure => simp only [intOf]; omega
      · have HN := Lib.hid (HS.out.down (m := (l + h + 1) / 2) (by omega))
        go_wp2
        go_round
        case rel => exact ⟨l, (l + h + 1) / 2 - 1, rfl, rfl, l0, by omega, by omega, HN.out⟩
        case measure => simp only [intOf]; omega
    · obtain rfl : l = h := by omega
      have he := HS.out.eq l0
      go_wp2
      go_ret
      first | exact ⟨rfl, rfl⟩ | exact ⟨by rw [← he]; rfl, rfl⟩
end Go.Proofs.Ytfnmdcifjdfocaa
