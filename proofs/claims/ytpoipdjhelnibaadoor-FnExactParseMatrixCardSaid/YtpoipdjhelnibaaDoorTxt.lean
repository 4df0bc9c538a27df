/-
  Texts of integers, forms and matrices: contracts of strconv.Itoa (off the shelf), l1Num, l1Int, and of the functions that join them.
-/
import Derived.Test.YtpoipdjhelnibaaDoorShelf
import Derived.Test.YtpoipdjhelnibaaDoorGood
import Derived.Lib.QuietBelow
import Derived.Lib.ItoaLen
import Derived.Lib.AppendIntMem
import Derived.Lib.SmallJoins
import Derived.Handy
import Derived.WalkSmall
import Derived.Deep.RegionWith
import Derived.Laws.IdiomStrings
namespace Go.Proofs.YtpoipdjhelnibaaDoor
open Go.RowKit Go.Sort
set_option linter.unusedSimpArgs false
set_option linter.unusedVariables false

/-- an integer in decimal -/
def itS (n : Int) : ByteArray := ⟨(Lib.itoa n).toArray⟩
theorem itS_size {n : Int} (h : -1000000 ≤ n ∧ n ≤ 1000000) : (itS n).size ≤ 21 := by
  have := Lib.itoa_length_le n (by omega) (by omega)
  simpa [itS, ByteArray.size] using this
def Pow10 (w : World) : Prop := Lib.TabIs Tryd.prog w "internal/strconv.uint64pow10" .u64 Lib.pow10Tab
theorem Pow10.below {w w' : World} {B : Nat} (h : Pow10 w) (hb : Below B w w') (hB : w.heap.size ≤ B) : Pow10 w' :=
  Joins.tab_stays (g := (Tryd.prog.globalNamed "internal/strconv.uint64pow10").getD 0) (by kernel_rfl) h hb hB
theorem itoa_any (n : Int) (hn : -1000000 ≤ n ∧ n ≤ 1000000) (w : World) (ht : Pow10 w) : Calls Tryd.prog 33 #[.int .i64 n] w fun e w' => e = .returned (.string (itS n)) ∧ Below w.heap.size w w' :=
  (Tryd.strconv_Itoa n (by omega) (by omega) w ht).mono fun e w' ⟨he, k, os, hw⟩ => ⟨he, by subst hw; exact Lib.below_grow _ w (Nat.le_refl _) k os⟩
theorem dd_size {n : Nat} (h : n ≤ 1000000) : (Lib.decDigits n).length ≤ 20 := by
  rw [Lib.decDigits_length]; exact Lib.nDigits_le20 n (by omega)
theorem dd_small {n : Nat} (h : n < 10) : Lib.decDigits n = [UInt8.ofNat (48 + n)] := by rw [Lib.decDigits, dif_pos h]
theorem dd_more {n : Nat} (h : ¬ n < 10) : Lib.decDigits n = Lib.decDigits (n / 10) ++ [UInt8.ofNat (48 + n % 10)] := by rw [Lib.decDigits, dif_neg h]
/-- the text of three integers -/
def fTx (a b c : Int) : ByteArray := ⟨#[40]⟩ ++ itS a ++ ⟨#[44]⟩ ++ itS b ++ ⟨#[44]⟩ ++ itS c ++ ⟨#[41]⟩
/-- the text of four integers -/
def mTx (a b c g : Int) : ByteArray := ⟨#[91]⟩ ++ itS a ++ ⟨#[44]⟩ ++ itS b ++ ⟨#[59]⟩ ++ itS c ++ ⟨#[44]⟩ ++ itS g ++ ⟨#[93]⟩
set_option maxHeartbeats 1600000 in
set_option maxRecDepth 100000 in
theorem formText_any (a b c : Int) (ha : -1000000 ≤ a ∧ a ≤ 1000000) (hb : -1000000 ≤ b ∧ b ≤ 1000000) (hc : -1000000 ≤ c ∧ c ≤ 1000000) (w : World) (ht : Pow10 w) : Calls Tryd.prog 26 #[.agg #[.int .i64 a, .int .i64 b, .int .i64 c]] w fun e w' =>
    e = .returned (.string (fTx a b c)) ∧ Below w.heap.size w w' := by
  unfold fTx
  have za := itS_size ha
  have zb := itS_size hb
  have zc := itS_size hc
  have ca : ∀ d os, Calls Tryd.prog 33 #[.int .i64 a] (grow (redrawn (w.alloc (.cells #[.int .i64 a, .int .i64 b, .int .i64 c] 32)) d) os) fun e w'' => e = .returned (.string (itS a)) ∧ ∃ p : Regrown, w'' = grow (redrawn (w.alloc (.cells #[.int .i64 a, .int .i64 b, .int .i64 c] 32)) p.d) p.os := fun d os => Calls.regrown_of (itoa_any a ha _ (Pow10.below (w := w.alloc (.cells #[.int .i64 a, .int .i64 b, .int .i64 c] 32)) (Lib.tabIs_alloc ht _) (below_regrown _ d os) (Nat.le_refl _)))
  have cb : ∀ d os, Calls Tryd.prog 33 #[.int .i64 b] (grow (redrawn (w.alloc (.cells #[.int .i64 a, .int .i64 b, .int .i64 c] 32)) d) os) fun e w'' => e = .returned (.string (itS b)) ∧ ∃ p : Regrown, w'' = grow (redrawn (w.alloc (.cells #[.int .i64 a, .int .i64 b, .int .i64 c] 32)) p.d) p.os := fun d os => Calls.regrown_of (itoa_any b hb _ (Pow10.below (w := w.alloc (.cells #[.int .i64 a, .int .i64 b, .int .i64 c] 32)) (Lib.tabIs_alloc ht _) (below_regrown _ d os) (Nat.le_refl _)))
  have cc : ∀ d os, Calls Tryd.prog 33 #[.int .i64 c] (grow (redrawn (w.alloc (.cells #[.int .i64 a, .int .i64 b, .int .i64 c] 32)) d) os) fun e w'' => e = .returned (.string (itS c)) ∧ ∃ p : Regrown, w'' = grow (redrawn (w.alloc (.cells #[.int .i64 a, .int .i64 b, .int .i64 c] 32)) p.d) p.os := fun d os => Calls.regrown_of (itoa_any c hc _ (Pow10.below (w := w.alloc (.cells #[.int .i64 a, .int .i64 b, .int .i64 c] 32)) (Lib.tabIs_alloc ht _) (below_regrown _ d os) (Nat.le_refl _)))
  have ka : ∀ d os, (grow (redrawn (w.alloc (.cells #[.int .i64 a, .int .i64 b, .int .i64 c] 32)) d) os).cell? ⟨w.heap.size, 0, none⟩ = some (.int .i64 a) := cell_regrown (by simp [World.cell?_alloc_new])
  have kb : ∀ d os, (grow (redrawn (w.alloc (.cells #[.int .i64 a, .int .i64 b, .int .i64 c] 32)) d) os).cell? ⟨w.heap.size, 1, none⟩ = some (.int .i64 b) := cell_regrown (by simp [World.cell?_alloc_new])
  have kc : ∀ d os, (grow (redrawn (w.alloc (.cells #[.int .i64 a, .int .i64 b, .int .i64 c] 32)) d) os).cell? ⟨w.heap.size, 2, none⟩ = some (.int .i64 c) := cell_regrown (by simp [World.cell?_alloc_new])
  generalize itS a = sa at *
  generalize itS b = sb at *
  generalize itS c = sc at *
  have n0 : ¬ 9223372036854775807 < 1 + sa.size := by omega
  have n1 : ¬ 9223372036854775807 < 1 + sa.size + 1 := by omega
  have n2 : ¬ 9223372036854775807 < 1 + sa.size + 1 + sb.size := by omega
  have n3 : ¬ 9223372036854775807 < 1 + sa.size + 1 + sb.size + 1 := by omega
  have n4 : ¬ 9223372036854775807 < 1 + sa.size + 1 + sb.size + 1 + sc.size := by omega
  have n5 : ¬ 9223372036854775807 < 1 + sa.size + 1 + sb.size + 1 + sc.size + 1 := by omega
  clear za zb zc
  go_enter Tryd.func26, Tryd.ntmps26
  go_wp2
  refine wp_region_quiet_below (by kernel_rfl) (by kernel_rfl) ?_
  repeat (quiet_step (first | with_reducible exact ca _ _ | with_reducible exact cb _ _ | with_reducible exact cc _ _))
  refine wpQuiet_nil ?_
  intro _ hw'
  obtain ⟨⟨dq, osq⟩, hw''⟩ := hw'
  subst hw''
  go_wp2
  go_ret
  exact ⟨rfl, Below.trans (by go_grown) ((below_regrown _ dq osq).mono (by simp))⟩
set_option maxHeartbeats 1600000 in
set_option maxRecDepth 100000 in
theorem matrixText_any (a b c g : Int) (ha : -1000000 ≤ a ∧ a ≤ 1000000) (hb : -1000000 ≤ b ∧ b ≤ 1000000) (hc : -1000000 ≤ c ∧ c ≤ 1000000) (hg : -1000000 ≤ g ∧ g ≤ 1000000) (w : World) (ht : Pow10 w) : Calls Tryd.prog 22 #[.agg #[.int .i64 a, .int .i64 b, .int .i64 c, .int .i64 g]] w fun e w' =>
    e = .returned (.string (mTx a b c g)) ∧ Below w.heap.size w w' := by
  unfold mTx
  have za := itS_size ha
  have zb := itS_size hb
  have zc := itS_size hc
  have zg := itS_size hg
  have ca : ∀ d os, Calls Tryd.prog 33 #[.int .i64 a] (grow (redrawn (w.alloc (.cells #[.int .i64 a, .int .i64 b, .int .i64 c, .int .i64 g] 26)) d) os) fun e w'' => e = .returned (.string (itS a)) ∧ ∃ p : Regrown, w'' = grow (redrawn (w.alloc (.cells #[.int .i64 a, .int .i64 b, .int .i64 c, .int .i64 g] 26)) p.d) p.os := fun d os => Calls.regrown_of (itoa_any a ha _ (Pow10.below (w := w.alloc (.cells #[.int .i64 a, .int .i64 b, .int .i64 c, .int .i64 g] 26)) (Lib.tabIs_alloc ht _) (below_regrown _ d os) (Nat.le_refl _)))
  have cb : ∀ d os, Calls Tryd.prog 33 #[.int .i64 b] (grow (redrawn (w.alloc (.cells #[.int .i64 a, .int .i64 b, .int .i64 c, .int .i64 g] 26)) d) os) fun e w'' => e = .returned (.string (itS b)) ∧ ∃ p : Regrown, w'' = grow (redrawn (w.alloc (.cells #[.int .i64 a, .int .i64 b, .int .i64 c, .int .i64 g] 26)) p.d) p.os := fun d os => Calls.regrown_of (itoa_any b hb _ (Pow10.below (w := w.alloc (.cells #[.int .i64 a, .int .i64 b, .int .i64 c, .int .i64 g] 26)) (Lib.tabIs_alloc ht _) (below_regrown _ d os) (Nat.le_refl _)))
  have cc : ∀ d os, Calls Tryd.prog 33 #[.int .i64 c] (grow (redrawn (w.alloc (.cells #[.int .i64 a, .int .i64 b, .int .i64 c, .int .i64 g] 26)) d) os) fun e w'' => e = .returned (.string (itS c)) ∧ ∃ p : Regrown, w'' = grow (redrawn (w.alloc (.cells #[.int .i64 a, .int .i64 b, .int .i64 c, .int .i64 g] 26)) p.d) p.os := fun d os => Calls.regrown_of (itoa_any c hc _ (Pow10.below (w := w.alloc (.cells #[.int .i64 a, .int .i64 b, .int .i64 c, .int .i64 g] 26)) (Lib.tabIs_alloc ht _) (below_regrown _ d os) (Nat.le_refl _)))
  have cg : ∀ d os, Calls Tryd.prog 33 #[.int .i64 g] (grow (redrawn (w.alloc (.cells #[.int .i64 a, .int .i64 b, .int .i64 c, .int .i64 g] 26)) d) os) fun e w'' => e = .returned (.string (itS g)) ∧ ∃ p : Regrown, w'' = grow (redrawn (w.alloc (.cells #[.int .i64 a, .int .i64 b, .int .i64 c, .int .i64 g] 26)) p.d) p.os := fun d os => Calls.regrown_of (itoa_any g hg _ (Pow10.below (w := w.alloc (.cells #[.int .i64 a, .int .i64 b, .int .i64 c, .int .i64 g] 26)) (Lib.tabIs_alloc ht _) (below_regrown _ d os) (Nat.le_refl _)))
  have ka : ∀ d os, (grow (redrawn (w.alloc (.cells #[.int .i64 a, .int .i64 b, .int .i64 c, .int .i64 g] 26)) d) os).cell? ⟨w.heap.size, 0, none⟩ = some (.int .i64 a) := cell_regrown (by simp [World.cell?_alloc_new])
  have kb : ∀ d os, (grow (redrawn (w.alloc (.cells #[.int .i64 a, .int .i64 b, .int .i64 c, .int .i64 g] 26)) d) os).cell? ⟨w.heap.size, 1, none⟩ = some (.int .i64 b) := cell_regrown (by simp [World.cell?_alloc_new])
  have kc : ∀ d os, (grow (redrawn (w.alloc (.cells #[.int .i64 a, .int .i64 b, .int .i64 c, .int .i64 g] 26)) d) os).cell? ⟨w.heap.size, 2, none⟩ = some (.int .i64 c) := cell_regrown (by simp [World.cell?_alloc_new])
  have kg : ∀ d os, (grow (redrawn (w.alloc (.cells #[.int .i64 a, .int .i64 b, .int .i64 c, .int .i64 g] 26)) d) os).cell? ⟨w.heap.size, 3, none⟩ = some (.int .i64 g) := cell_regrown (by simp [World.cell?_alloc_new])
  generalize itS a = sa at *
  generalize itS b = sb at *
  generalize itS c = sc at *
  generalize itS g = sg at *
  have n0 : ¬ 9223372036854775807 < 1 + sa.size := by omega
  have n1 : ¬ 9223372036854775807 < 1 + sa.size + 1 := by omega
  have n2 : ¬ 9223372036854775807 < 1 + sa.size + 1 + sb.size := by omega
  have n3 : ¬ 9223372036854775807 < 1 + sa.size + 1 + sb.size + 1 := by omega
  have n4 : ¬ 9223372036854775807 < 1 + sa.size + 1 + sb.size + 1 + sc.size := by omega
  have n5 : ¬ 9223372036854775807 < 1 + sa.size + 1 + sb.size + 1 + sc.size + 1 := by omega
  have n6 : ¬ 9223372036854775807 < 1 + sa.size + 1 + sb.size + 1 + sc.size + 1 + sg.size := by omega
  have n7 : ¬ 9223372036854775807 < 1 + sa.size + 1 + sb.size + 1 + sc.size + 1 + sg.size + 1 := by omega
  clear za zb zc zg
  go_enter Tryd.func22, Tryd.ntmps22
  go_wp2
  refine wp_region_quiet_below (by kernel_rfl) (by kernel_rfl) ?_
  repeat (quiet_step (first | with_reducible exact ca _ _ | with_reducible exact cb _ _ | with_reducible exact cc _ _ | with_reducible exact cg _ _))
  refine wpQuiet_nil ?_
  intro _ hw'
  obtain ⟨⟨dq, osq⟩, hw''⟩ := hw'
  subst hw''
  go_wp2
  go_ret
  exact ⟨rfl, Below.trans (by go_grown) ((below_regrown _ dq osq).mono (by simp))⟩
end Go.Proofs.YtpoipdjhelnibaaDoor
