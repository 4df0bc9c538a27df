/-
  Contract of 'nuCommon'.
-/
import Derived.Test.YtfpedehpmgcmnaaCr
import Derived.Deep.QuietTactic
import Derived.BigQuiet
import Derived.IntWalk
namespace Go.Proofs.Ytfpedehpmgcmnaa
open Go.RowKit
set_option linter.unusedSimpArgs false
set_option linter.unusedVariables false

/-- a callee that leaves its world alone, within a quiet region behind draws -/
theorem qadd {P : Program} {f : FuncId} {args : Array Value} {w : World} {a n : Nat} {v : Value}
    (h : Calls P f args (w.drewN (a + n)) fun e w' => e = .returned v ∧ w.drewN (a + n) = w') : Calls P f args (w.drewN (a + n)) fun e w'' => e = .returned v ∧ ∃ m, w'' = w.drewN (a + m) :=
  h.mono fun _ _ ⟨he, hm⟩ => ⟨he, n, hm.symm⟩
theorem qone {P : Program} {f : FuncId} {args : Array Value} {w : World} {n : Nat} {v : Value}
    (h : Calls P f args (w.drewN n) fun e w' => e = .returned v ∧ w.drewN n = w') : Calls P f args (w.drewN n) fun e w'' => e = .returned v ∧ ∃ m, w'' = w.drewN m :=
  h.mono fun _ _ ⟨he, hm⟩ => ⟨he, n, hm.symm⟩

theorem nuCommon_no (a m b n : Int) (w : World) (ha : -1000000 ≤ a ∧ a ≤ 1000000) (hb : -1000000 ≤ b ∧ b ≤ 1000000) (m1 : 1 ≤ m) (m2 : m ≤ 1000000) (n1 : 1 ≤ n) (n2 : n ≤ 1000000) (hd : ¬ (b - a).tmod (crG m n) = 0) : Calls Try.prog 75 #[.int .i64 a, .int .i64 m, .int .i64 b, .int .i64 n] w fun e w' => e = .returned (.tuple #[.int .i64 0, .int .i64 0, .bool false]) ∧ ∃ k, w' = w.drewN k := by
  obtain ⟨g, p, q, r, v, t, C⟩ := cr_of a m b n ha hb (by omega) (by omega) (by omega) (by omega)
  obtain ⟨hg, hp, hq, hr, hv, ht, g1, p1, q1, al, co, r1, v1, rv, t1, mt, rq, rw1, same, eM, eX⟩ := C
  subst hp hq hr ht
  have HM := Lib.hid eM
  have HX := Lib.hid eX
  have HS := Lib.hid same
  have CO := Lib.hid co
  have HV := Lib.hid hv
  have hG : crG m n = g := hg
  clear same eM eX co hv
  rw [hG] at hd
  have hd1 : ((b - a).tmod g != 0) = true := by rw [bne_iff_ne]; exact hd
  clear hd
  go_enter Try.func75, Try.ntmps75
  go_wp2_with fail
  ((with_reducible refine (nuGcd_is _ hg (by omega) (by omega) (by omega) (by omega)).mono ?_); rintro e w0 ⟨rfl, d1, rfl⟩)
  go_wp2
  go_ret3
  exact ⟨rfl, _, rfl⟩

theorem nuCommon_ok (a m b n : Int) (w : World) (ha : -1000000 ≤ a ∧ a ≤ 1000000) (hb : -1000000 ≤ b ∧ b ≤ 1000000) (m1 : 1 ≤ m) (m2 : m ≤ 1000000) (n1 : 1 ≤ n) (n2 : n ≤ 1000000) (hd : (b - a).tmod (crG m n) = 0) : Calls Try.prog 75 #[.int .i64 a, .int .i64 m, .int .i64 b, .int .i64 n] w fun e w' => e = .returned (.tuple #[.int .i64 (crX a m b n), .int .i64 (crM m n), .bool true]) ∧ ∃ k, w' = w.drewN k := by
  obtain ⟨g, p, q, r, v, t, C⟩ := cr_of a m b n ha hb (by omega) (by omega) (by omega) (by omega)
  obtain ⟨hg, hp, hq, hr, hv, ht, g1, p1, q1, al, co, r1, v1, rv, t1, mt, rq, rw1, same, eM, eX⟩ := C
  subst hp hq hr ht
  have HM := Lib.hid eM
  have HX := Lib.hid eX
  have HS := Lib.hid same
  have CO := Lib.hid co
  have HV := Lib.hid hv
  have hG : crG m n = g := hg
  clear same eM eX co hv
  rw [hG] at hd
  have hd1 : ((b - a).tmod g != 0) = false := by rw [hd]; rfl
  clear hd
  go_enter Try.func75, Try.ntmps75
  go_wp2_with fail
  ((with_reducible refine (nuGcd_is _ hg (by omega) (by omega) (by omega) (by omega)).mono ?_); rintro e w0 ⟨rfl, d1, rfl⟩)
  go_wp2_with fail
  have w0 : g ≠ 0 := by omega
  have w1 : IntKind.i64.wrap (b - a) = b - a := IntWalk.i64_in _ (by omega)
  have w2 : IntKind.i64.wrap ((b - a).tdiv g) = (b - a).tdiv g := IntWalk.i64_in _ (by omega)
  have w3 : m.tdiv g = m / g := Int.tdiv_eq_ediv_of_nonneg (by omega)
  have w4 : n.tdiv g = n / g := Int.tdiv_eq_ediv_of_nonneg (by omega)
  have w5 : IntKind.i64.wrap (m / g) = m / g := IntWalk.i64_in _ (by omega)
  have w6 : IntKind.i64.wrap (n / g) = n / g := IntWalk.i64_in _ (by omega)
  have w7 : IntKind.i64.wrap ((b - a).tdiv g * v) = (b - a).tdiv g * v := IntWalk.i64_in _ (by omega)
  go_quiet (first | (go_at_call 84; exact qadd (nuInverse_is _ CO.out HV.out (by omega) (by omega) (by omega) (by omega))) | (go_at_call 76; exact qadd (nuMod_any _ _ _ (by omega) (by omega) (by omega) (by omega))))
  clear w0 w1 w2 w3 w4 w5 w6 w7
  go_wp2_with fail
  ((with_reducible refine (nuMod_any _ _ _ (by omega) (by omega) (by omega) (by omega)).mono ?_); rintro e w0 ⟨rfl, rfl⟩)
  go_wp2
  go_ret3
  exact ⟨by rw [HX.out, HM.out]; rfl, _, rfl⟩
end Go.Proofs.Ytfpedehpmgcmnaa
