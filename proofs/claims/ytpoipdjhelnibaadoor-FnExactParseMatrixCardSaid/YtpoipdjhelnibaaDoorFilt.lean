/-
  Lists that are gathered by append: plain lemmas.
-/
import Derived.Test.YtpoipdjhelnibaaDoorSlice
import Derived.Test.YtpoipdjhelnibaaDoorIn
namespace Go.Proofs.YtpoipdjhelnibaaDoor
open Go.RowKit
set_option linter.unusedSimpArgs false
set_option linter.unusedVariables false


def qrs (F : Nat → Bool) (k : Nat) : List Int := ((List.range k).filter F).map fun x : Nat => (x : Int)
theorem qrs_zero (F : Nat → Bool) : qrs F 0 = [] := rfl
theorem qrs_hit {F : Nat → Bool} {k : Nat} (h : F k = true) : qrs F (k + 1) = qrs F k ++ [(k : Int)] := by simp [qrs, List.range_succ, List.filter_append, h]
theorem qrs_miss {F : Nat → Bool} {k : Nat} (h : F k = false) : qrs F (k + 1) = qrs F k := by simp [qrs, List.range_succ, List.filter_append, h]
theorem qrs_le (F : Nat → Bool) (k : Nat) : (qrs F k).length ≤ k := by
  unfold qrs
  rw [List.length_map]
  exact Nat.le_trans (List.length_filter_le _ _) (by simp)
theorem qrs_congr {F G : Nat → Bool} (k : Nat) (h : ∀ x, x < k → F x = G x) : qrs F k = qrs G k := by
  unfold qrs
  congr 1
  exact List.filter_congr fun x hx => h x (List.mem_range.1 hx)
theorem Lst.snoc {w : World} {base : Nat} {v : Value} {L : List Int} {x : Int} (h : w.ownsRow base 3 1 v (L.length + 1) (L.map (Value.int .i64) ++ [Value.int .i64 x])) : Lst w base v (L ++ [x]) := by
  unfold Lst
  simpa using h
theorem Lst.own {w : World} {base : Nat} {v : Value} {L : List Int} (h : Lst w base v L) : w.ownsRow base 3 1 v L.length (L.map (Value.int .i64)) := h
theorem snoc_below {w wr w1 : World} {v : Value} {L : List Int} {o : Obj} (hb : Below w.heap.size w wr) (hl : Lst wr w.heap.size v L) (hg : (wr.alloc o).grownBy w1 v.ownBlock) : Below w.heap.size w w1 := by
  have hs := hb.size
  exact Below.grown (hb.alloc hs o) hg (by simp; omega) fun k hk => (World.ownsRow.lt hl k hk).1
theorem tmod_eq {a p : Int} (hp : 0 < p) (h : a % p = 0) : a.tmod p = 0 := by
  rw [Int.tmod_eq_emod]
  split <;> omega
theorem tmod_ne {a p : Int} (hp : 0 < p) (h : ¬ a % p = 0) : (a.tmod p == 0) = false := by
  rw [beq_eq_false_iff_ne]
  rw [Int.tmod_eq_emod]
  have h0 := Int.emod_nonneg a (show p ≠ 0 by omega)
  have h1 := Int.emod_lt_of_pos a hp
  split <;> omega
theorem mul_le {x y A B : Int} (hA : 0 ≤ A) (hB : 0 ≤ B) (x1 : -A ≤ x) (x2 : x ≤ A) (y1 : -B ≤ y) (y2 : y ≤ B) : -(A * B) ≤ x * y ∧ x * y ≤ A * B := by
  have h3 : (x * y).natAbs ≤ A.toNat * B.toNat := by rw [Int.natAbs_mul]; exact Nat.mul_le_mul (by omega) (by omega)
  have h4 : ((A.toNat * B.toNat : Nat) : Int) = A * B := by rw [Int.natCast_mul]; congr 1 <;> omega
  omega
theorem RetL.toS {P : Program} {f : FuncId} {args : Array Value} {w : World} {L : List Int} (h : Calls P f args w (RetL w L)) : Calls P f args w (RetL w L) := h
end Go.Proofs.YtpoipdjhelnibaaDoor
