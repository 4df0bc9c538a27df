/-
  Contracts: the content of a form.
-/
import Derived.Test.YtfpedehpmgcmnaaForm
import Derived.Test.YtfpedehpmgcmnaaAr
import Derived.Deep.QuietTactic
import Derived.BigQuiet
namespace Go.Proofs.Ytfpedehpmgcmnaa
open Go.RowKit
set_option linter.unusedSimpArgs false
set_option linter.unusedVariables false

theorem quiet_add {P : Program} {f : FuncId} {args : Array Value} {w : World} {a n : Nat} {v : Value}
    (h : Calls P f args (w.drewN (a + n)) fun e w' => e = .returned v ∧ ∃ m, w' = (w.drewN (a + n)).drewN m) :
    Calls P f args (w.drewN (a + n)) fun e w'' => e = .returned v ∧ ∃ m, w'' = w.drewN (a + m) :=
  h.mono fun _ _ ⟨he, m, hm⟩ => ⟨he, n + m, by rw [hm, World.drewN_drewN, Nat.add_assoc]⟩

def cntV (a b c : Int) : Int := (Int.gcd a (Int.gcd b c) : Int)
theorem cntV_assoc (a b c : Int) : (Int.gcd (Int.gcd a b) c : Int) = cntV a b c := by
  unfold cntV
  simp only [Int.gcd, Int.natAbs_natCast]
  rw [Nat.gcd_assoc]
theorem gcd_le {a b B : Int} (h0 : 0 ≤ B) (a1 : -B ≤ a) (a2 : a ≤ B) (b1 : -B ≤ b) (b2 : b ≤ B) : (0 : Int) ≤ Int.gcd a b ∧ (Int.gcd a b : Int) ≤ B := by
  have h : Int.gcd a b ≤ B.natAbs := by
    rcases Nat.eq_zero_or_pos a.natAbs with h | h
    · have : Int.gcd a b = b.natAbs := by simp [Int.gcd, h]
      omega
    · have := Nat.gcd_le_left b.natAbs h
      have e : Int.gcd a b = Nat.gcd a.natAbs b.natAbs := rfl
      omega
  omega

theorem foContent_any (a b c : Int) (w : World) (a1 : -1000000000 ≤ a) (a2 : a ≤ 1000000000) (b1 : -1000000000 ≤ b) (b2 : b ≤ 1000000000) (c1 : -1000000000 ≤ c) (c2 : c ≤ 1000000000) : Calls Try.prog 52 #[.agg #[.int .i64 a, .int .i64 b, .int .i64 c]] w fun e w' => e = .returned (.int .i64 (cntV a b c)) ∧ Below w.heap.size w w' := by
  have hg := gcd_le (by omega) a1 a2 b1 b2
  have hv := cntV_assoc a b c
  rw [← hv]
  clear hv
  go_enter Try.func52, Try.ntmps52
  go_wp2_with fail
  go_quiet ((first | (go_at_call 74; exact Calls.quiet_of (nuGcd_any _ _ _ (by omega) (by omega) (by omega) (by omega))) | (go_at_call 74; exact quiet_add (nuGcd_any _ _ _ (by omega) (by omega) (by omega) (by omega)))))
  go_wp2
  go_ret
  exact ⟨rfl, (by repeat' (first | (with_reducible exact Below.refl _ _) | (with_reducible assumption) | (with_reducible refine Below.alloc ?_ ?_ _) | (with_reducible refine Below.drew ?_) | (with_reducible refine below_drewN ?_ _) | (with_reducible refine Below.setCell ?_ ?_ _) | go_size))⟩

theorem content_any (a b c : Int) (w : World) (a1 : -1000000000 ≤ a) (a2 : a ≤ 1000000000) (b1 : -1000000000 ≤ b) (b2 : b ≤ 1000000000) (c1 : -1000000000 ≤ c) (c2 : c ≤ 1000000000) : Calls Try.prog 81 #[.agg #[.int .i64 a, .int .i64 b, .int .i64 c]] w fun e w' => e = .returned (.int .i64 (cntV a b c)) ∧ Below w.heap.size w w' := by
  have hg := gcd_le (by omega) b1 b2 c1 c2
  unfold cntV
  go_enter Try.func81, Try.ntmps81
  go_wp2_with fail
  go_quiet ((first | (go_at_call 65; exact Calls.quiet_of (gcd_any _ _ _ (by omega) (by omega) (by omega) (by omega))) | (go_at_call 65; exact quiet_add (gcd_any _ _ _ (by omega) (by omega) (by omega) (by omega)))))
  go_wp2
  go_ret
  exact ⟨rfl, (by repeat' (first | (with_reducible exact Below.refl _ _) | (with_reducible assumption) | (with_reducible refine Below.alloc ?_ ?_ _) | (with_reducible refine Below.drew ?_) | (with_reducible refine below_drewN ?_ _) | (with_reducible refine Below.setCell ?_ ?_ _) | go_size))⟩




end Go.Proofs.Ytfpedehpmgcmnaa
