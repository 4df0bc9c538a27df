/-
  spec.ParseForm.
-/
import Derived.Test.YtpoipdjhelnibaaDoorRdR
namespace Go.Proofs.YtpoipdjhelnibaaDoor
open Go.RowKit
set_option linter.unusedSimpArgs false
set_option linter.unusedVariables false

set_option maxHeartbeats 800000 in
theorem specPaF_is {s : ByteArray} {o : Option (Int × Int × Int)} (w : World) (hs : s.size ≤ 1048576) (ho : rdF s.data.toList = o) : Calls Tryd.prog 13 #[.string s] w fun e w' => e = .returned (.tuple #[o3 o, .bool o.isSome]) ∧ Below w.heap.size w w' := by
  have C := Lib.hid (fun W => foRead_is (s := s) W hs ho)
  unfold o3 at C ⊢
  generalize (o.getD (0, 0, 0)).1 = a at *
  generalize (o.getD (0, 0, 0)).2.1 = b at *
  generalize (o.getD (0, 0, 0)).2.2 = c at *
  generalize o.isSome = v at *
  clear ho
  go_enter Tryd.func13, Tryd.ntmps13
  go_wp2_with fail
  ((with_reducible refine (C.out _).mono ?_); rintro e w1 ⟨rfl, hb1⟩)
  obtain ⟨hc1, hf1⟩ := bcell hb1
  have hz1 := hb1.size
  try simp only [World.size_alloc, World.size_drew, World.size_setCell] at hz1
  try have hs1 : w.heap.size < w1.heap.size := by omega
  have bl1 : Below w.heap.size w w1 := Below.trans (by go_grown) (hb1.mono (by go_size))
  go_wp2
  first
  | (exact bodyPost_ret (v := .tuple #[.agg #[.int .i64 a, .int .i64 b, .int .i64 c], .bool v]) (by simp [results, Tryd.results13, go_sem, hc1, hs1]) rfl ⟨rfl, (by repeat' (first | (with_reducible exact Below.refl _ _) | (with_reducible assumption) | (with_reducible refine Below.alloc ?_ ?_ _) | (with_reducible refine Below.drew ?_) | (with_reducible refine below_drewN ?_ _) | (with_reducible refine Below.setCell ?_ ?_ _) | go_size))⟩)
  | (go_ret2; exact ⟨rfl, (by repeat' (first | (with_reducible exact Below.refl _ _) | (with_reducible assumption) | (with_reducible refine Below.alloc ?_ ?_ _) | (with_reducible refine Below.drew ?_) | (with_reducible refine below_drewN ?_ _) | (with_reducible refine Below.setCell ?_ ?_ _) | go_size))⟩)
end Go.Proofs.YtpoipdjhelnibaaDoor
