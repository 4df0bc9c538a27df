/-
  strconv.Atoi at every string, in two contracts; the library's two sentinels.
-/
import Derived.Test.YtpoipdjhelnibaaDoorSep
import Derived.Lib.SmallJoins
namespace Go.Proofs.YtpoipdjhelnibaaDoor
open Go.RowKit
set_option linter.unusedSimpArgs false
set_option linter.unusedVariables false

def Snt (w : World) : Prop := (∃ tp p, w.var? Tryd.prog "strconv.ErrSyntax" = some #[.iface tp p]) ∧ ∃ tp p, w.var? Tryd.prog "strconv.ErrRange" = some #[.iface tp p]
theorem Snt.below {w w' : World} {B : Nat} (h : Snt w) (hb : Below B w w') (hB : w.heap.size ≤ B) : Snt w' := by
  obtain ⟨⟨t1, p1, h1⟩, t2, p2, h2⟩ := h
  exact ⟨⟨t1, p1, Joins.var_stays (g := (Tryd.prog.globalNamed "strconv.ErrSyntax").getD 0) (by kernel_rfl) h1 hb hB⟩, t2, p2, Joins.var_stays (g := (Tryd.prog.globalNamed "strconv.ErrRange").getD 0) (by kernel_rfl) h2 hb hB⟩
theorem atoi_yes {s : ByteArray} {v : Int} (hs : s.size ≤ 1048576) (h : atO s.data.toList = some v) (w : World) : Calls Tryd.prog 38 #[.string s] w fun e w' => e = .returned (.tuple #[.int .i64 v, .nilIface]) ∧ Below w.heap.size w w' := by
  unfold atO at h
  cases hc : Lib.atoiAll s.data.toList with
  | ok u =>
    rw [hc] at h
    injection h with h
    subst h
    refine (Tryd.strconv_Atoi_ok s (by omega) u hc w).mono ?_
    rintro e w' ⟨rfl, h⟩
    refine ⟨rfl, ?_⟩
    rcases h with rfl | ⟨t, rfl⟩
    · exact Below.refl _ _
    · exact Joins.below_bytesWorld _ w _ t (Nat.le_refl _)
  | _ => rw [hc] at h; cases h
theorem atoi_no {s : ByteArray} (hs : s.size ≤ 1048576) (h : atO s.data.toList = none) (w : World) (hw : Snt w) : Calls Tryd.prog 38 #[.string s] w fun e w' => ∃ x T p, e = .returned (.tuple #[.int .i64 x, .iface T p]) ∧ Below w.heap.size w w' := by
  obtain ⟨⟨t1, p1, h1⟩, t2, p2, h2⟩ := hw
  unfold atO at h
  cases hc : Lib.atoiAll s.data.toList with
  | ok u => rw [hc] at h; cases h
  | range =>
    refine (Tryd.strconv_Atoi_range_var s (by omega) hc t2 p2 w h2).mono ?_
    rintro e w' ⟨N, rfl, _, _, hb⟩
    exact ⟨_, _, _, rfl, hb⟩
  | _ =>
    refine (Any.strconv_Atoi_syntax_var Tryd.laysC172 s (by omega) hc t1 p1 w h1).mono ?_
    rintro e w' ⟨N, rfl, _, _, hb⟩
    exact ⟨_, _, _, rfl, hb⟩
end Go.Proofs.YtpoipdjhelnibaaDoor
