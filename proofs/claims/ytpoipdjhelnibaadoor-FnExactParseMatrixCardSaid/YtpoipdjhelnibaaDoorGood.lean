/-
  Contracts: 'nuGood' and 'areNumbers' answer whether integers are numbers.
-/
import Derived.Test.YtpoipdjhelnibaaDoorBase
import Derived.Test.YtpoipdjhelnibaaDoorProg
import Derived.WalkKit
import Derived.WalkLawsBesides
import Derived.WalkSpells
import Derived.Lib.Hide
namespace Go.Proofs.YtpoipdjhelnibaaDoor
open Go.RowKit
set_option linter.unusedSimpArgs false
set_option linter.unusedVariables false

theorem nuGood_any (n : Int) (w : World) : Calls Tryd.prog 30 #[.int .i64 n] w fun e w' => e = .returned (.bool (good n)) ∧ w = w' := by
  by_cases h1 : -1000000 ≤ n
  · by_cases h2 : n ≤ 1000000
    · have hg := good_of h1 h2
      go_enter Tryd.func30, Tryd.ntmps30
      go_wp2
      go_ret
      first | exact ⟨rfl, rfl⟩ | exact ⟨by rw [hg]; rfl, rfl⟩
    · have hg := bad_of (.inr (Int.not_le.1 h2))
      go_enter Tryd.func30, Tryd.ntmps30
      go_wp2
      go_ret
      first | exact ⟨rfl, rfl⟩ | exact ⟨by rw [hg]; rfl, rfl⟩
  · have hg := bad_of (n := n) (.inl (Int.not_le.1 h1))
    go_enter Tryd.func30, Tryd.ntmps30
    go_wp2
    go_ret
    first | exact ⟨rfl, rfl⟩ | exact ⟨by rw [hg]; rfl, rfl⟩

theorem all_false {zs : List Int} {k : Nat} (hk : k < zs.length) (h : good zs[k] = false) : zs.all good = false := by
  rw [List.all_eq_false]
  exact ⟨zs[k], List.getElem_mem hk, by rw [h]; simp⟩
theorem all_succ {zs : List Int} {k : Nat} (hk : k < zs.length) (ha : (zs.take k).all good = true) (h : good zs[k] = true) : (zs.take (k + 1)).all good = true := by
  rw [List.take_succ_eq_append_getElem hk, List.all_append, ha]
  simp [h]

theorem areNumbers_any (b : Nat) (zs : List Int) (w : World) (hbig : zs.length ≤ 1000) (hc : ∀ j, j < zs.length → w.cell? ⟨b, j, none⟩ = some (.int .i64 (zs.getD j 0))) :
    Calls Tryd.prog 32 #[.slice (some ⟨b, 0, none⟩) zs.length zs.length] w fun e w' => e = .returned (.bool (zs.all good)) ∧ w = w' := by
  go_enter Tryd.func32, Tryd.ntmps32
  go_wp2
  go_loop [7] (fun i => ∃ k : Nat, k ≤ zs.length ∧ i = .int .i64 k ∧ (zs.take k).all good = true) (fun i => zs.length - (intOf i).toNat)
  case atStart => exact ⟨0, Nat.zero_le _, rfl, rfl⟩
  case round =>
    obtain ⟨k, hk, rfl, hall⟩ := hrel
    have HA := Lib.hid hall
    clear hall
    have hcell : k < zs.length → w.cell? ⟨b, k, none⟩ = some (.int .i64 (zs.getD k 0)) := fun _ => hc k (by omega)
    go_wp2
    · have hlt : k < zs.length := by assumption
      have hb : zs[k] < -1000000 ∨ 1000000 < zs[k] := by assumption
      have hf := all_false hlt (bad_of hb)
      go_ret
      exact ⟨by rw [hf]; rfl, rfl⟩
    · have hlt : k < zs.length := by assumption
      have hb : -1000000 ≤ zs[k] ∧ zs[k] ≤ 1000000 := by assumption
      have hs := all_succ hlt HA.out (good_of hb.1 hb.2)
      go_round
      case rel => exact ⟨k + 1, by omega, by go_num, hs⟩
      case measure => simp [intOf]; omega
    · have hlt : k < zs.length := by assumption
      have hb : zs[k] < -1000000 := by assumption
      have hf := all_false hlt (bad_of (.inl hb))
      go_ret
      exact ⟨by rw [hf]; rfl, rfl⟩
    · have hge : ¬ k < zs.length := by assumption
      have hf : zs.all good = true := by
        have := HA.out
        rw [List.take_of_length_le (by omega)] at this
        exact this
      go_ret
      exact ⟨by rw [hf]; rfl, rfl⟩

/-! ### 'areNumbers' as its callers meet it: the integers lie in a new block -/
theorem are1 (a : Int) (g : Nat) (W : World) (h0 : W.cell? ⟨g, 0, none⟩ = some (.int .i64 a)) :
    Calls Tryd.prog 32 #[.slice (some ⟨g, 0, none⟩) 1 1] W fun e w' => e = .returned (.bool (good a)) ∧ W = w' := by
  have h := areNumbers_any g [a] W (by simp) (fun j hj => by match j, hj with | 0, _ => simpa using h0)
  simpa using h
theorem are2 (a b : Int) (g : Nat) (W : World) (h0 : W.cell? ⟨g, 0, none⟩ = some (.int .i64 a)) (h1 : W.cell? ⟨g, 1, none⟩ = some (.int .i64 b)) :
    Calls Tryd.prog 32 #[.slice (some ⟨g, 0, none⟩) 2 2] W fun e w' => e = .returned (.bool (good a && good b)) ∧ W = w' := by
  have h := areNumbers_any g [a, b] W (by simp) (fun j hj => by match j, hj with | 0, _ => simpa using h0 | 1, _ => simpa using h1)
  simpa using h
theorem are3 (a b c : Int) (g : Nat) (W : World) (h0 : W.cell? ⟨g, 0, none⟩ = some (.int .i64 a)) (h1 : W.cell? ⟨g, 1, none⟩ = some (.int .i64 b)) (h2 : W.cell? ⟨g, 2, none⟩ = some (.int .i64 c)) :
    Calls Tryd.prog 32 #[.slice (some ⟨g, 0, none⟩) 3 3] W fun e w' => e = .returned (.bool (good a && (good b && good c))) ∧ W = w' := by
  have h := areNumbers_any g [a, b, c] W (by simp) (fun j hj => by match j, hj with | 0, _ => simpa using h0 | 1, _ => simpa using h1 | 2, _ => simpa using h2)
  simpa using h
theorem are4 (a b c d : Int) (g : Nat) (W : World) (h0 : W.cell? ⟨g, 0, none⟩ = some (.int .i64 a)) (h1 : W.cell? ⟨g, 1, none⟩ = some (.int .i64 b)) (h2 : W.cell? ⟨g, 2, none⟩ = some (.int .i64 c)) (h3 : W.cell? ⟨g, 3, none⟩ = some (.int .i64 d)) :
    Calls Tryd.prog 32 #[.slice (some ⟨g, 0, none⟩) 4 4] W fun e w' => e = .returned (.bool (good a && (good b && (good c && good d)))) ∧ W = w' := by
  have h := areNumbers_any g [a, b, c, d] W (by simp) (fun j hj => by match j, hj with | 0, _ => simpa using h0 | 1, _ => simpa using h1 | 2, _ => simpa using h2 | 3, _ => simpa using h3)
  simpa using h
theorem are5 (a b c d f : Int) (g : Nat) (W : World) (h0 : W.cell? ⟨g, 0, none⟩ = some (.int .i64 a)) (h1 : W.cell? ⟨g, 1, none⟩ = some (.int .i64 b)) (h2 : W.cell? ⟨g, 2, none⟩ = some (.int .i64 c)) (h3 : W.cell? ⟨g, 3, none⟩ = some (.int .i64 d)) (h4 : W.cell? ⟨g, 4, none⟩ = some (.int .i64 f)) :
    Calls Tryd.prog 32 #[.slice (some ⟨g, 0, none⟩) 5 5] W fun e w' => e = .returned (.bool (good a && (good b && (good c && (good d && good f))))) ∧ W = w' := by
  have h := areNumbers_any g [a, b, c, d, f] W (by simp) (fun j hj => by match j, hj with | 0, _ => simpa using h0 | 1, _ => simpa using h1 | 2, _ => simpa using h2 | 3, _ => simpa using h3 | 4, _ => simpa using h4)
  simpa using h
end Go.Proofs.YtpoipdjhelnibaaDoor
