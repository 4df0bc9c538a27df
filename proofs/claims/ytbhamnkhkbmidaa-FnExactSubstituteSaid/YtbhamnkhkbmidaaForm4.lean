/-
  Contracts: the inverse of a matrix, and substitution.
-/
import Derived.Test.YtbhamnkhkbmidaaForm
import Derived.Test.YtbhamnkhkbmidaaAr
import Derived.Deep.RegionHeld3
namespace Go.Proofs.Ytbhamnkhkbmidaa
open Go.RowKit
set_option linter.unusedSimpArgs false
set_option linter.unusedVariables false

set_option maxHeartbeats 800000 in
theorem foAct_any (a b c p q r s : Int) (w : World) : Calls Try.prog 60 #[.agg #[.int .i64 a, .int .i64 b, .int .i64 c], .agg #[.int .i64 p, .int .i64 q, .int .i64 r, .int .i64 s]] w fun e w' =>
    e = .returned (.agg #[.int .i64 (valV a b c p r), .int .i64 (polV a b c p r q s), .int .i64 (valV a b c q s)]) ∧ Below w.heap.size w w' := by
  go_enter Try.func60, Try.ntmps60
  go_wp2_with fail
  have F : ∀ W0 : World, W0 = ((w.alloc (.cells #[.int .i64 a, .int .i64 b, .int .i64 c] 27)).alloc (.cells #[.int .i64 p, .int .i64 q, .int .i64 r, .int .i64 s] 33)).alloc (.cells #[.int .i64 0, .int .i64 0, .int .i64 0] 27) →
      W0.cell? ⟨w.heap.size, 0, none⟩ = some (.int .i64 a) ∧ W0.cell? ⟨w.heap.size, 1, none⟩ = some (.int .i64 b) ∧ W0.cell? ⟨w.heap.size, 2, none⟩ = some (.int .i64 c) ∧
      W0.cell? ⟨w.heap.size + 1, 0, none⟩ = some (.int .i64 p) ∧ W0.cell? ⟨w.heap.size + 1, 1, none⟩ = some (.int .i64 q) ∧ W0.cell? ⟨w.heap.size + 1, 2, none⟩ = some (.int .i64 r) ∧ W0.cell? ⟨w.heap.size + 1, 3, none⟩ = some (.int .i64 s) ∧
      W0.cell? ⟨w.heap.size + 1 + 1, 0, none⟩ = some (.int .i64 0) ∧ W0.cell? ⟨w.heap.size + 1 + 1, 1, none⟩ = some (.int .i64 0) ∧ W0.cell? ⟨w.heap.size + 1 + 1, 2, none⟩ = some (.int .i64 0) ∧
      W0.frozen? ⟨w.heap.size + 1 + 1, 0, none⟩ = false ∧ W0.frozen? ⟨w.heap.size + 1 + 1, 1, none⟩ = false ∧ W0.frozen? ⟨w.heap.size + 1 + 1, 2, none⟩ = false ∧ w.heap.size + 1 + 1 < W0.heap.size ∧ Below w.heap.size w W0 := by
    rintro W0 rfl
    refine ⟨by rw [World.cell?_alloc_past _ _ _ (by simp only [World.size_alloc]; omega), World.cell?_alloc_past _ _ _ (by simp only [World.size_alloc]; omega), World.cell?_alloc_at _ _ _ _ rfl]; rfl, by rw [World.cell?_alloc_past _ _ _ (by simp only [World.size_alloc]; omega), World.cell?_alloc_past _ _ _ (by simp only [World.size_alloc]; omega), World.cell?_alloc_at _ _ _ _ rfl]; rfl, by rw [World.cell?_alloc_past _ _ _ (by simp only [World.size_alloc]; omega), World.cell?_alloc_past _ _ _ (by simp only [World.size_alloc]; omega), World.cell?_alloc_at _ _ _ _ rfl]; rfl, by rw [World.cell?_alloc_past _ _ _ (by simp only [World.size_alloc]; omega), World.cell?_alloc_at _ _ _ _ (by simp)]; rfl, by rw [World.cell?_alloc_past _ _ _ (by simp only [World.size_alloc]; omega), World.cell?_alloc_at _ _ _ _ (by simp)]; rfl, by rw [World.cell?_alloc_past _ _ _ (by simp only [World.size_alloc]; omega), World.cell?_alloc_at _ _ _ _ (by simp)]; rfl, by rw [World.cell?_alloc_past _ _ _ (by simp only [World.size_alloc]; omega), World.cell?_alloc_at _ _ _ _ (by simp)]; rfl, ?_, ?_, ?_, World.frozen?_alloc_at _ _ _ _ (by simp), World.frozen?_alloc_at _ _ _ _ (by simp), World.frozen?_alloc_at _ _ _ _ (by simp), by simp, by go_grown⟩
    all_goals (rw [World.cell?_alloc_at _ _ _ _ (by simp)]; rfl)
  generalize hW0 : ((w.alloc (.cells #[.int .i64 a, .int .i64 b, .int .i64 c] 27)).alloc (.cells #[.int .i64 p, .int .i64 q, .int .i64 r, .int .i64 s] 33)).alloc (.cells #[.int .i64 0, .int .i64 0, .int .i64 0] 27) = W0
  obtain ⟨f1, f2, f3, f4, f5, f6, f7, f8, f9, f10, f11, f12, f13, sz0, bl0⟩ := F W0 hW0.symm
  clear F hW0
  have hne1 : w.heap.size ≠ w.heap.size + 1 + 1 := by omega
  have hne2 : ¬ w.heap.size + 1 + 1 = w.heap.size := by omega
  go_region_held3 (fun w' => w'.cell? ⟨w.heap.size, 0, none⟩ = some (.int .i64 a) ∧ w'.cell? ⟨w.heap.size, 1, none⟩ = some (.int .i64 b) ∧ w'.cell? ⟨w.heap.size, 2, none⟩ = some (.int .i64 c) ∧
      w'.cell? ⟨w.heap.size + 1, 0, none⟩ = some (.int .i64 p) ∧ w'.cell? ⟨w.heap.size + 1, 1, none⟩ = some (.int .i64 q) ∧ w'.cell? ⟨w.heap.size + 1, 2, none⟩ = some (.int .i64 r) ∧ w'.cell? ⟨w.heap.size + 1, 3, none⟩ = some (.int .i64 s))
    (go_keep)
    (first
      | (go_at_call 51; ((with_reducible refine (foValue_any _ _ _ _ _ _).mono ?_); rintro e wq1 ⟨rfl, hbq1⟩; obtain ⟨hcq1, hfq1⟩ := bcell hbq1; have hca1 := (fun o => hcq1 w.heap.size o (by first | omega | (simp only [World.size_alloc, World.size_drew]; omega))); have hcb1 := (fun o => hcq1 (w.heap.size + 1) o (by first | omega | (simp only [World.size_alloc, World.size_drew]; omega))); have hcc1 := (fun o => hcq1 (w.heap.size + 1 + 1) o (by first | omega | (simp only [World.size_alloc, World.size_drew]; omega))); have hfc1 := (fun o => hfq1 (w.heap.size + 1 + 1) o (by first | omega | (simp only [World.size_alloc, World.size_drew]; omega))); have hzq1 := hbq1.size; (try simp only [World.size_alloc, World.size_drew] at hzq1); have hsq1 : w.heap.size + 1 + 1 < wq1.heap.size := (by omega); have blq1 : Below w.heap.size w wq1 := (Below.trans (by go_grown) (hbq1.mono (by go_size))); clear hcq1 hfq1))
      | (go_at_call 49; ((with_reducible refine (foPolar_any _ _ _ _ _ _ _ _).mono ?_); rintro e wq2 ⟨rfl, hbq2⟩; obtain ⟨hcq2, hfq2⟩ := bcell hbq2; have hca2 := (fun o => hcq2 w.heap.size o (by first | omega | (simp only [World.size_alloc, World.size_drew]; omega))); have hcb2 := (fun o => hcq2 (w.heap.size + 1) o (by first | omega | (simp only [World.size_alloc, World.size_drew]; omega))); have hcc2 := (fun o => hcq2 (w.heap.size + 1 + 1) o (by first | omega | (simp only [World.size_alloc, World.size_drew]; omega))); have hfc2 := (fun o => hfq2 (w.heap.size + 1 + 1) o (by first | omega | (simp only [World.size_alloc, World.size_drew]; omega))); have hzq2 := hbq2.size; (try simp only [World.size_alloc, World.size_drew] at hzq2); have hsq2 : w.heap.size + 1 + 1 < wq2.heap.size := (by omega); have blq2 : Below w.heap.size w wq2 := (Below.trans (by go_grown) (hbq2.mono (by go_size))); clear hcq2 hfq2)))
  go_wp2
  exact bodyPost_ret (v := .agg #[.int .i64 (valV a b c p r), .int .i64 (polV a b c p r q s), .int .i64 (valV a b c q s)]) (by simp [results, Try.results60, go_sem, *]) rfl ⟨rfl, by go_grown⟩

set_option maxHeartbeats 800000 in
theorem substitute_any (a b c p q r s : Int) (w : World) : Calls Try.prog 61 #[.agg #[.int .i64 a, .int .i64 b, .int .i64 c], .agg #[.int .i64 p, .int .i64 q, .int .i64 r, .int .i64 s]] w fun e w' =>
    e = .returned (.agg #[.int .i64 (valV a b c p r), .int .i64 (polV a b c p r q s), .int .i64 (valV a b c q s)]) ∧ Below w.heap.size w w' := by
  go_enter Try.func61, Try.ntmps61
  go_wp2_with fail
  have F : ∀ W0 : World, W0 = ((w.alloc (.cells #[.int .i64 a, .int .i64 b, .int .i64 c] 27)).alloc (.cells #[.int .i64 p, .int .i64 q, .int .i64 r, .int .i64 s] 33)).alloc (.cells #[.int .i64 0, .int .i64 0, .int .i64 0] 27) →
      W0.cell? ⟨w.heap.size, 0, none⟩ = some (.int .i64 a) ∧ W0.cell? ⟨w.heap.size, 1, none⟩ = some (.int .i64 b) ∧ W0.cell? ⟨w.heap.size, 2, none⟩ = some (.int .i64 c) ∧
      W0.cell? ⟨w.heap.size + 1, 0, none⟩ = some (.int .i64 p) ∧ W0.cell? ⟨w.heap.size + 1, 1, none⟩ = some (.int .i64 q) ∧ W0.cell? ⟨w.heap.size + 1, 2, none⟩ = some (.int .i64 r) ∧ W0.cell? ⟨w.heap.size + 1, 3, none⟩ = some (.int .i64 s) ∧
      W0.cell? ⟨w.heap.size + 1 + 1, 0, none⟩ = some (.int .i64 0) ∧ W0.cell? ⟨w.heap.size + 1 + 1, 1, none⟩ = some (.int .i64 0) ∧ W0.cell? ⟨w.heap.size + 1 + 1, 2, none⟩ = some (.int .i64 0) ∧
      W0.frozen? ⟨w.heap.size + 1 + 1, 0, none⟩ = false ∧ W0.frozen? ⟨w.heap.size + 1 + 1, 1, none⟩ = false ∧ W0.frozen? ⟨w.heap.size + 1 + 1, 2, none⟩ = false ∧ w.heap.size + 1 + 1 < W0.heap.size ∧ Below w.heap.size w W0 := by
    rintro W0 rfl
    refine ⟨by rw [World.cell?_alloc_past _ _ _ (by simp only [World.size_alloc]; omega), World.cell?_alloc_past _ _ _ (by simp only [World.size_alloc]; omega), World.cell?_alloc_at _ _ _ _ rfl]; rfl, by rw [World.cell?_alloc_past _ _ _ (by simp only [World.size_alloc]; omega), World.cell?_alloc_past _ _ _ (by simp only [World.size_alloc]; omega), World.cell?_alloc_at _ _ _ _ rfl]; rfl, by rw [World.cell?_alloc_past _ _ _ (by simp only [World.size_alloc]; omega), World.cell?_alloc_past _ _ _ (by simp only [World.size_alloc]; omega), World.cell?_alloc_at _ _ _ _ rfl]; rfl, by rw [World.cell?_alloc_past _ _ _ (by simp only [World.size_alloc]; omega), World.cell?_alloc_at _ _ _ _ (by simp)]; rfl, by rw [World.cell?_alloc_past _ _ _ (by simp only [World.size_alloc]; omega), World.cell?_alloc_at _ _ _ _ (by simp)]; rfl, by rw [World.cell?_alloc_past _ _ _ (by simp only [World.size_alloc]; omega), World.cell?_alloc_at _ _ _ _ (by simp)]; rfl, by rw [World.cell?_alloc_past _ _ _ (by simp only [World.size_alloc]; omega), World.cell?_alloc_at _ _ _ _ (by simp)]; rfl, ?_, ?_, ?_, World.frozen?_alloc_at _ _ _ _ (by simp), World.frozen?_alloc_at _ _ _ _ (by simp), World.frozen?_alloc_at _ _ _ _ (by simp), by simp, by go_grown⟩
    all_goals (rw [World.cell?_alloc_at _ _ _ _ (by simp)]; rfl)
  generalize hW0 : ((w.alloc (.cells #[.int .i64 a, .int .i64 b, .int .i64 c] 27)).alloc (.cells #[.int .i64 p, .int .i64 q, .int .i64 r, .int .i64 s] 33)).alloc (.cells #[.int .i64 0, .int .i64 0, .int .i64 0] 27) = W0
  obtain ⟨f1, f2, f3, f4, f5, f6, f7, f8, f9, f10, f11, f12, f13, sz0, bl0⟩ := F W0 hW0.symm
  clear F hW0
  have hne1 : w.heap.size ≠ w.heap.size + 1 + 1 := by omega
  have hne2 : ¬ w.heap.size + 1 + 1 = w.heap.size := by omega
  go_region_held3 (fun w' => w'.cell? ⟨w.heap.size, 0, none⟩ = some (.int .i64 a) ∧ w'.cell? ⟨w.heap.size, 1, none⟩ = some (.int .i64 b) ∧ w'.cell? ⟨w.heap.size, 2, none⟩ = some (.int .i64 c) ∧
      w'.cell? ⟨w.heap.size + 1, 0, none⟩ = some (.int .i64 p) ∧ w'.cell? ⟨w.heap.size + 1, 1, none⟩ = some (.int .i64 q) ∧ w'.cell? ⟨w.heap.size + 1, 2, none⟩ = some (.int .i64 r) ∧ w'.cell? ⟨w.heap.size + 1, 3, none⟩ = some (.int .i64 s))
    (go_keep)
    (first
      | (go_at_call 52; ((with_reducible refine (at_any _ _ _ _ _ _).mono ?_); rintro e wq1 ⟨rfl, hbq1⟩; obtain ⟨hcq1, hfq1⟩ := bcell hbq1; have hca1 := (fun o => hcq1 w.heap.size o (by first | omega | (simp only [World.size_alloc, World.size_drew]; omega))); have hcb1 := (fun o => hcq1 (w.heap.size + 1) o (by first | omega | (simp only [World.size_alloc, World.size_drew]; omega))); have hcc1 := (fun o => hcq1 (w.heap.size + 1 + 1) o (by first | omega | (simp only [World.size_alloc, World.size_drew]; omega))); have hfc1 := (fun o => hfq1 (w.heap.size + 1 + 1) o (by first | omega | (simp only [World.size_alloc, World.size_drew]; omega))); have hzq1 := hbq1.size; (try simp only [World.size_alloc, World.size_drew] at hzq1); have hsq1 : w.heap.size + 1 + 1 < wq1.heap.size := (by omega); have blq1 : Below w.heap.size w wq1 := (Below.trans (by go_grown) (hbq1.mono (by go_size))); clear hcq1 hfq1))
      | (go_at_call 50; ((with_reducible refine (polar_any _ _ _ _ _ _ _ _).mono ?_); rintro e wq2 ⟨rfl, hbq2⟩; obtain ⟨hcq2, hfq2⟩ := bcell hbq2; have hca2 := (fun o => hcq2 w.heap.size o (by first | omega | (simp only [World.size_alloc, World.size_drew]; omega))); have hcb2 := (fun o => hcq2 (w.heap.size + 1) o (by first | omega | (simp only [World.size_alloc, World.size_drew]; omega))); have hcc2 := (fun o => hcq2 (w.heap.size + 1 + 1) o (by first | omega | (simp only [World.size_alloc, World.size_drew]; omega))); have hfc2 := (fun o => hfq2 (w.heap.size + 1 + 1) o (by first | omega | (simp only [World.size_alloc, World.size_drew]; omega))); have hzq2 := hbq2.size; (try simp only [World.size_alloc, World.size_drew] at hzq2); have hsq2 : w.heap.size + 1 + 1 < wq2.heap.size := (by omega); have blq2 : Below w.heap.size w wq2 := (Below.trans (by go_grown) (hbq2.mono (by go_size))); clear hcq2 hfq2)))
  go_wp2
  exact bodyPost_ret (v := .agg #[.int .i64 (valV a b c p r), .int .i64 (polV a b c p r q s), .int .i64 (valV a b c q s)]) (by simp [results, Try.results61, go_sem, *]) rfl ⟨rfl, by go_grown⟩

theorem foInverse_any (a b c d : Int) (w : World) : Calls Try.prog 57 #[.agg #[.int .i64 a, .int .i64 b, .int .i64 c, .int .i64 d]] w fun e w' =>
    e = .returned (.agg #[.int .i64 (wrap64 (detV a b c d * d)), .int .i64 (wrap64 (wrap64 (-detV a b c d) * b)), .int .i64 (wrap64 (wrap64 (-detV a b c d) * c)), .int .i64 (wrap64 (detV a b c d * a))]) ∧ Below w.heap.size w w' := by
  go_enter Try.func57, Try.ntmps57
  go_wp2_with fail
  ((with_reducible refine (foDet_any _ _ _ _ _).mono ?_); rintro e w1 ⟨rfl, hb1⟩)
  obtain ⟨hc1, hf1⟩ := bcell hb1
  have hz1 := hb1.size
  try simp only [World.size_alloc, World.size_drew, World.size_setCell] at hz1
  try have hs1 : w.heap.size < w1.heap.size := by omega
  have bl1 : Below w.heap.size w w1 := Below.trans (by go_grown) (hb1.mono (by go_size))
  have hs1' : w.heap.size + 1 < w1.heap.size := by omega
  go_wp2
  exact bodyPost_ret (v := .agg #[.int .i64 (wrap64 (detV a b c d * d)), .int .i64 (wrap64 (wrap64 (-detV a b c d) * b)), .int .i64 (wrap64 (wrap64 (-detV a b c d) * c)), .int .i64 (wrap64 (detV a b c d * a))]) (by simp [results, Try.results57, go_sem, *]) rfl ⟨rfl, by go_grown⟩

theorem inverse_any (a b c d : Int) (w : World) : Calls Try.prog 59 #[.agg #[.int .i64 a, .int .i64 b, .int .i64 c, .int .i64 d]] w fun e w' =>
    e = .returned (.agg #[.int .i64 (wrap64 (detV a b c d * d)), .int .i64 (wrap64 (wrap64 (-detV a b c d) * b)), .int .i64 (wrap64 (wrap64 (-detV a b c d) * c)), .int .i64 (wrap64 (detV a b c d * a))]) ∧ Below w.heap.size w w' := by
  go_enter Try.func59, Try.ntmps59
  go_wp2_with fail
  ((with_reducible refine (det_any _ _ _ _ _).mono ?_); rintro e w1 ⟨rfl, hb1⟩)
  obtain ⟨hc1, hf1⟩ := bcell hb1
  have hz1 := hb1.size
  try simp only [World.size_alloc, World.size_drew, World.size_setCell] at hz1
  try have hs1 : w.heap.size < w1.heap.size := by omega
  have bl1 : Below w.heap.size w w1 := Below.trans (by go_grown) (hb1.mono (by go_size))
  have hs1' : w.heap.size + 1 < w1.heap.size := by omega
  go_wp2
  exact bodyPost_ret (v := .agg #[.int .i64 (wrap64 (detV a b c d * d)), .int .i64 (wrap64 (wrap64 (-detV a b c d) * b)), .int .i64 (wrap64 (wrap64 (-detV a b c d) * c)), .int .i64 (wrap64 (detV a b c d * a))]) (by simp [results, Try.results59, go_sem, *]) rfl ⟨rfl, by go_grown⟩

theorem mul_bd {x y : Int} (hx : good x = true) (hy : good y = true) : -1000000000000 ≤ x * y ∧ x * y ≤ 1000000000000 := by
  have h1 := good_iff.1 hx
  have h2 := good_iff.1 hy
  have h3 : (x * y).natAbs ≤ 1000000 * 1000000 := by rw [Int.natAbs_mul]; exact Nat.mul_le_mul (by omega) (by omega)
  omega
theorem det_bd {a b c d : Int} (h : good4 a b c d = true) : -9223372036854775807 ≤ detV a b c d ∧ detV a b c d ≤ 9223372036854775807 := by
  obtain ⟨h1, h2, h3, h4⟩ := good4_iff.1 h
  have e1 := mul_bd h1 h4
  have e2 := mul_bd h2 h3
  unfold detV wrap64
  generalize a * d = x at *
  generalize b * c = y at *
  omega
def unitB (a b c d : Int) : Bool := good4 a b c d && ((detV a b c d).natAbs == 1)
theorem unitB_bad {a b c d : Int} (h : good4 a b c d = false) : unitB a b c d = false := by simp [unitB, h]
theorem unitB_yes {a b c d : Int} (h : good4 a b c d = true) (h1 : ((detV a b c d).natAbs : Int) = 1) : unitB a b c d = true := by simp [unitB, h]; omega
theorem unitB_no {a b c d : Int} (h1 : ((detV a b c d).natAbs : Int) ≠ 1) : unitB a b c d = false := by simp [unitB]; omega
def invO (g : Bool) (a b c d : Int) : Value := if g = true then .agg #[.int .i64 (wrap64 (detV a b c d * d)), .int .i64 (wrap64 (wrap64 (-detV a b c d) * b)), .int .i64 (wrap64 (wrap64 (-detV a b c d) * c)), .int .i64 (wrap64 (detV a b c d * a))] else .agg #[.int .i64 0, .int .i64 0, .int .i64 0, .int .i64 0]
theorem invO_true (a b c d : Int) : invO true a b c d = .agg #[.int .i64 (wrap64 (detV a b c d * d)), .int .i64 (wrap64 (wrap64 (-detV a b c d) * b)), .int .i64 (wrap64 (wrap64 (-detV a b c d) * c)), .int .i64 (wrap64 (detV a b c d * a))] := rfl
theorem invO_false (a b c d : Int) : invO false a b c d = .agg #[.int .i64 0, .int .i64 0, .int .i64 0, .int .i64 0] := rfl

theorem specInv_any (a b c d : Int) (w : World) : Calls Try.prog 36 #[.agg #[.int .i64 a, .int .i64 b, .int .i64 c, .int .i64 d]] w fun e w' =>
    e = .returned (.tuple #[invO (unitB a b c d) a b c d, .bool (unitB a b c d)]) ∧ Below w.heap.size w w' := by
  rcases h0 : good4 a b c d with _ | _
  · rw [unitB_bad h0, invO_false]
    go_enter Try.func36, Try.ntmps36
    go_wp2_with fail
    ((with_reducible refine (foMatrix_any _ _ _ _ _).mono ?_); rintro e w1 ⟨rfl, hb1⟩)
    obtain ⟨hc1, hf1⟩ := bcell hb1
    have hz1 := hb1.size
    try simp only [World.size_alloc, World.size_drew, World.size_setCell] at hz1
    try have hs1 : w.heap.size < w1.heap.size := by omega
    have bl1 : Below w.heap.size w w1 := Below.trans (by go_grown) (hb1.mono (by go_size))
    have hs1' : w.heap.size + 1 < w1.heap.size := by omega
    go_wp2
    exact bodyPost_ret (v := .tuple #[.agg #[.int .i64 0, .int .i64 0, .int .i64 0, .int .i64 0], .bool false]) (by simp [results, Try.results36, go_sem, *]) rfl ⟨rfl, by go_grown⟩
  · obtain ⟨d1, d2⟩ := det_bd h0
    by_cases h1 : ((detV a b c d).natAbs : Int) = 1
    · rw [unitB_yes h0 h1, invO_true]
      go_enter Try.func36, Try.ntmps36
      go_wp2_with fail
      ((with_reducible refine (foMatrix_any _ _ _ _ _).mono ?_); rintro e w1 ⟨rfl, hb1⟩)
      obtain ⟨hc1, hf1⟩ := bcell hb1
      have hz1 := hb1.size
      try simp only [World.size_alloc, World.size_drew, World.size_setCell] at hz1
      try have hs1 : w.heap.size < w1.heap.size := by omega
      have bl1 : Below w.heap.size w w1 := Below.trans (by go_grown) (hb1.mono (by go_size))
      have hs1' : w.heap.size + 1 < w1.heap.size := by omega
      go_wp2_with fail
      ((with_reducible refine (foDet_any _ _ _ _ _).mono ?_); rintro e w2 ⟨rfl, hb2⟩)
      obtain ⟨hc2, hf2⟩ := bcell hb2
      have hz2 := hb2.size
      try simp only [World.size_alloc, World.size_drew, World.size_setCell] at hz2
      try have hs2 : w.heap.size < w2.heap.size := by omega
      have bl2 : Below w.heap.size w w2 := Below.trans (by go_grown) (hb2.mono (by go_size))
      have hs2' : w.heap.size + 1 < w2.heap.size := by omega
      go_wp2_with fail
      refine (l1Abs_any _ _ (by omega) (by omega)).mono ?_
      rintro e w0 ⟨rfl, rfl⟩
      go_wp2_with fail
      ((with_reducible refine (foInverse_any _ _ _ _ _).mono ?_); rintro e w3 ⟨rfl, hb3⟩)
      obtain ⟨hc3, hf3⟩ := bcell hb3
      have hz3 := hb3.size
      try simp only [World.size_alloc, World.size_drew, World.size_setCell] at hz3
      try have hs3 : w.heap.size < w3.heap.size := by omega
      have bl3 : Below w.heap.size w w3 := Below.trans (by go_grown) (hb3.mono (by go_size))
      have hs3' : w.heap.size + 1 < w3.heap.size := by omega
      go_wp2
      exact bodyPost_ret (v := .tuple #[.agg #[.int .i64 (wrap64 (detV a b c d * d)), .int .i64 (wrap64 (wrap64 (-detV a b c d) * b)), .int .i64 (wrap64 (wrap64 (-detV a b c d) * c)), .int .i64 (wrap64 (detV a b c d * a))], .bool true]) (by simp [results, Try.results36, go_sem, *]) rfl ⟨rfl, by go_grown⟩
    · rw [unitB_no h1, invO_false]
      go_enter Try.func36, Try.ntmps36
      go_wp2_with fail
      ((with_reducible refine (foMatrix_any _ _ _ _ _).mono ?_); rintro e w1 ⟨rfl, hb1⟩)
      obtain ⟨hc1, hf1⟩ := bcell hb1
      have hz1 := hb1.size
      try simp only [World.size_alloc, World.size_drew, World.size_setCell] at hz1
      try have hs1 : w.heap.size < w1.heap.size := by omega
      have bl1 : Below w.heap.size w w1 := Below.trans (by go_grown) (hb1.mono (by go_size))
      have hs1' : w.heap.size + 1 < w1.heap.size := by omega
      go_wp2_with fail
      ((with_reducible refine (foDet_any _ _ _ _ _).mono ?_); rintro e w2 ⟨rfl, hb2⟩)
      obtain ⟨hc2, hf2⟩ := bcell hb2
      have hz2 := hb2.size
      try simp only [World.size_alloc, World.size_drew, World.size_setCell] at hz2
      try have hs2 : w.heap.size < w2.heap.size := by omega
      have bl2 : Below w.heap.size w w2 := Below.trans (by go_grown) (hb2.mono (by go_size))
      have hs2' : w.heap.size + 1 < w2.heap.size := by omega
      go_wp2_with fail
      refine (l1Abs_any _ _ (by omega) (by omega)).mono ?_
      rintro e w0 ⟨rfl, rfl⟩
      go_wp2
      exact bodyPost_ret (v := .tuple #[.agg #[.int .i64 0, .int .i64 0, .int .i64 0, .int .i64 0], .bool false]) (by simp [results, Try.results36, go_sem, *]) rfl ⟨rfl, by go_grown⟩

theorem implInv_any (a b c d : Int) (w : World) : Calls Try.prog 37 #[.agg #[.int .i64 a, .int .i64 b, .int .i64 c, .int .i64 d]] w fun e w' =>
    e = .returned (.tuple #[invO (unitB a b c d) a b c d, .bool (unitB a b c d)]) ∧ Below w.heap.size w w' := by
  rcases h0 : good4 a b c d with _ | _
  · rw [unitB_bad h0, invO_false]
    go_enter Try.func37, Try.ntmps37
    go_wp2_with fail
    ((with_reducible refine (isMatrix_any _ _ _ _ _).mono ?_); rintro e w1 ⟨rfl, hb1⟩)
    obtain ⟨hc1, hf1⟩ := bcell hb1
    have hz1 := hb1.size
    try simp only [World.size_alloc, World.size_drew, World.size_setCell] at hz1
    try have hs1 : w.heap.size < w1.heap.size := by omega
    have bl1 : Below w.heap.size w w1 := Below.trans (by go_grown) (hb1.mono (by go_size))
    have hs1' : w.heap.size + 1 < w1.heap.size := by omega
    go_wp2
    exact bodyPost_ret (v := .tuple #[.agg #[.int .i64 0, .int .i64 0, .int .i64 0, .int .i64 0], .bool false]) (by simp [results, Try.results37, go_sem, *]) rfl ⟨rfl, by go_grown⟩
  · obtain ⟨d1, d2⟩ := det_bd h0
    by_cases h1 : ((detV a b c d).natAbs : Int) = 1
    · rw [unitB_yes h0 h1, invO_true]
      go_enter Try.func37, Try.ntmps37
      go_wp2_with fail
      ((with_reducible refine (isMatrix_any _ _ _ _ _).mono ?_); rintro e w1 ⟨rfl, hb1⟩)
      obtain ⟨hc1, hf1⟩ := bcell hb1
      have hz1 := hb1.size
      try simp only [World.size_alloc, World.size_drew, World.size_setCell] at hz1
      try have hs1 : w.heap.size < w1.heap.size := by omega
      have bl1 : Below w.heap.size w w1 := Below.trans (by go_grown) (hb1.mono (by go_size))
      have hs1' : w.heap.size + 1 < w1.heap.size := by omega
      go_wp2_with fail
      ((with_reducible refine (det_any _ _ _ _ _).mono ?_); rintro e w2 ⟨rfl, hb2⟩)
      obtain ⟨hc2, hf2⟩ := bcell hb2
      have hz2 := hb2.size
      try simp only [World.size_alloc, World.size_drew, World.size_setCell] at hz2
      try have hs2 : w.heap.size < w2.heap.size := by omega
      have bl2 : Below w.heap.size w w2 := Below.trans (by go_grown) (hb2.mono (by go_size))
      have hs2' : w.heap.size + 1 < w2.heap.size := by omega
      go_wp2_with fail
      refine (abs_any _ _ (by omega) (by omega)).mono ?_
      rintro e w0 ⟨rfl, rfl⟩
      go_wp2_with fail
      ((with_reducible refine (inverse_any _ _ _ _ _).mono ?_); rintro e w3 ⟨rfl, hb3⟩)
      obtain ⟨hc3, hf3⟩ := bcell hb3
      have hz3 := hb3.size
      try simp only [World.size_alloc, World.size_drew, World.size_setCell] at hz3
      try have hs3 : w.heap.size < w3.heap.size := by omega
      have bl3 : Below w.heap.size w w3 := Below.trans (by go_grown) (hb3.mono (by go_size))
      have hs3' : w.heap.size + 1 < w3.heap.size := by omega
      go_wp2
      exact bodyPost_ret (v := .tuple #[.agg #[.int .i64 (wrap64 (detV a b c d * d)), .int .i64 (wrap64 (wrap64 (-detV a b c d) * b)), .int .i64 (wrap64 (wrap64 (-detV a b c d) * c)), .int .i64 (wrap64 (detV a b c d * a))], .bool true]) (by simp [results, Try.results37, go_sem, *]) rfl ⟨rfl, by go_grown⟩
    · rw [unitB_no h1, invO_false]
      go_enter Try.func37, Try.ntmps37
      go_wp2_with fail
      ((with_reducible refine (isMatrix_any _ _ _ _ _).mono ?_); rintro e w1 ⟨rfl, hb1⟩)
      obtain ⟨hc1, hf1⟩ := bcell hb1
      have hz1 := hb1.size
      try simp only [World.size_alloc, World.size_drew, World.size_setCell] at hz1
      try have hs1 : w.heap.size < w1.heap.size := by omega
      have bl1 : Below w.heap.size w w1 := Below.trans (by go_grown) (hb1.mono (by go_size))
      have hs1' : w.heap.size + 1 < w1.heap.size := by omega
      go_wp2_with fail
      ((with_reducible refine (det_any _ _ _ _ _).mono ?_); rintro e w2 ⟨rfl, hb2⟩)
      obtain ⟨hc2, hf2⟩ := bcell hb2
      have hz2 := hb2.size
      try simp only [World.size_alloc, World.size_drew, World.size_setCell] at hz2
      try have hs2 : w.heap.size < w2.heap.size := by omega
      have bl2 : Below w.heap.size w w2 := Below.trans (by go_grown) (hb2.mono (by go_size))
      have hs2' : w.heap.size + 1 < w2.heap.size := by omega
      go_wp2_with fail
      refine (abs_any _ _ (by omega) (by omega)).mono ?_
      rintro e w0 ⟨rfl, rfl⟩
      go_wp2
      exact bodyPost_ret (v := .tuple #[.agg #[.int .i64 0, .int .i64 0, .int .i64 0, .int .i64 0], .bool false]) (by simp [results, Try.results37, go_sem, *]) rfl ⟨rfl, by go_grown⟩

def subB (a b c p q r s : Int) : Bool := good3 a b c && (good4 p q r s && good3 (valV a b c p r) (polV a b c p r q s) (valV a b c q s))
def subO (g : Bool) (a b c p q r s : Int) : Value := if g = true then .agg #[.int .i64 (valV a b c p r), .int .i64 (polV a b c p r q s), .int .i64 (valV a b c q s)] else .agg #[.int .i64 0, .int .i64 0, .int .i64 0]
theorem subO_true (a b c p q r s : Int) : subO true a b c p q r s = .agg #[.int .i64 (valV a b c p r), .int .i64 (polV a b c p r q s), .int .i64 (valV a b c q s)] := rfl
theorem subO_false (a b c p q r s : Int) : subO false a b c p q r s = .agg #[.int .i64 0, .int .i64 0, .int .i64 0] := rfl
theorem subB_1 {a b c p q r s : Int} (h : good3 a b c = false) : subB a b c p q r s = false := by simp [subB, h]
theorem subB_2 {a b c p q r s : Int} (h : good4 p q r s = false) : subB a b c p q r s = false := by simp [subB, h]
theorem subB_3 {a b c p q r s : Int} (h : good3 (valV a b c p r) (polV a b c p r q s) (valV a b c q s) = false) : subB a b c p q r s = false := by simp [subB, h]
theorem subB_4 {a b c p q r s : Int} (h0 : good3 a b c = true) (h1 : good4 p q r s = true) (h : good3 (valV a b c p r) (polV a b c p r q s) (valV a b c q s) = true) : subB a b c p q r s = true := by simp [subB, h0, h1, h]

set_option maxHeartbeats 1600000 in
theorem specSub_any (a b c p q r s : Int) (w : World) : Calls Try.prog 39 #[.agg #[.int .i64 a, .int .i64 b, .int .i64 c], .agg #[.int .i64 p, .int .i64 q, .int .i64 r, .int .i64 s]] w fun e w' =>
    e = .returned (.tuple #[subO (subB a b c p q r s) a b c p q r s, .bool (subB a b c p q r s)]) ∧ Below w.heap.size w w' := by
  rcases h0 : good3 a b c with _ | _
  · rw [subB_1 h0, subO_false]
    go_enter Try.func39, Try.ntmps39
    go_wp2_with fail
    ((with_reducible refine (foGood_any _ _ _ _).mono ?_); rintro e w1 ⟨rfl, hb1⟩)
    obtain ⟨hc1, hf1⟩ := bcell hb1
    have hz1 := hb1.size
    try simp only [World.size_alloc, World.size_drew, World.size_setCell] at hz1
    try have hs1 : w.heap.size < w1.heap.size := by omega
    have bl1 : Below w.heap.size w w1 := Below.trans (by go_grown) (hb1.mono (by go_size))
    have hs1' : w.heap.size + 1 < w1.heap.size := by omega
    have hs1'' : w.heap.size + 1 + 1 < w1.heap.size := by omega
    go_wp2
    exact bodyPost_ret (v := .tuple #[.agg #[.int .i64 0, .int .i64 0, .int .i64 0], .bool false]) (by simp [results, Try.results39, go_sem, *]) rfl ⟨rfl, by go_grown⟩
  rcases h1 : good4 p q r s with _ | _
  · rw [subB_2 h1, subO_false]
    go_enter Try.func39, Try.ntmps39
    go_wp2_with fail
    ((with_reducible refine (foGood_any _ _ _ _).mono ?_); rintro e w1 ⟨rfl, hb1⟩)
    obtain ⟨hc1, hf1⟩ := bcell hb1
    have hz1 := hb1.size
    try simp only [World.size_alloc, World.size_drew, World.size_setCell] at hz1
    try have hs1 : w.heap.size < w1.heap.size := by omega
    have bl1 : Below w.heap.size w w1 := Below.trans (by go_grown) (hb1.mono (by go_size))
    have hs1' : w.heap.size + 1 < w1.heap.size := by omega
    have hs1'' : w.heap.size + 1 + 1 < w1.heap.size := by omega
    go_wp2_with fail
    ((with_reducible refine (foMatrix_any _ _ _ _ _).mono ?_); rintro e w2 ⟨rfl, hb2⟩)
    obtain ⟨hc2, hf2⟩ := bcell hb2
    have hz2 := hb2.size
    try simp only [World.size_alloc, World.size_drew, World.size_setCell] at hz2
    try have hs2 : w.heap.size < w2.heap.size := by omega
    have bl2 : Below w.heap.size w w2 := Below.trans (by go_grown) (hb2.mono (by go_size))
    have hs2' : w.heap.size + 1 < w2.heap.size := by omega
    have hs2'' : w.heap.size + 1 + 1 < w2.heap.size := by omega
    go_wp2
    exact bodyPost_ret (v := .tuple #[.agg #[.int .i64 0, .int .i64 0, .int .i64 0], .bool false]) (by simp [results, Try.results39, go_sem, *]) rfl ⟨rfl, by go_grown⟩
  rcases h2 : good3 (valV a b c p r) (polV a b c p r q s) (valV a b c q s) with _ | _
  · rw [subB_3 h2, subO_false]
    go_enter Try.func39, Try.ntmps39
    go_wp2_with fail
    ((with_reducible refine (foGood_any _ _ _ _).mono ?_); rintro e w1 ⟨rfl, hb1⟩)
    obtain ⟨hc1, hf1⟩ := bcell hb1
    have hz1 := hb1.size
    try simp only [World.size_alloc, World.size_drew, World.size_setCell] at hz1
    try have hs1 : w.heap.size < w1.heap.size := by omega
    have bl1 : Below w.heap.size w w1 := Below.trans (by go_grown) (hb1.mono (by go_size))
    have hs1' : w.heap.size + 1 < w1.heap.size := by omega
    have hs1'' : w.heap.size + 1 + 1 < w1.heap.size := by omega
    go_wp2_with fail
    ((with_reducible refine (foMatrix_any _ _ _ _ _).mono ?_); rintro e w2 ⟨rfl, hb2⟩)
    obtain ⟨hc2, hf2⟩ := bcell hb2
    have hz2 := hb2.size
    try simp only [World.size_alloc, World.size_drew, World.size_setCell] at hz2
    try have hs2 : w.heap.size < w2.heap.size := by omega
    have bl2 : Below w.heap.size w w2 := Below.trans (by go_grown) (hb2.mono (by go_size))
    have hs2' : w.heap.size + 1 < w2.heap.size := by omega
    have hs2'' : w.heap.size + 1 + 1 < w2.heap.size := by omega
    go_wp2_with fail
    ((with_reducible refine (foAct_any _ _ _ _ _ _ _ _).mono ?_); rintro e w3 ⟨rfl, hb3⟩)
    obtain ⟨hc3, hf3⟩ := bcell hb3
    have hz3 := hb3.size
    try simp only [World.size_alloc, World.size_drew, World.size_setCell] at hz3
    try have hs3 : w.heap.size < w3.heap.size := by omega
    have bl3 : Below w.heap.size w w3 := Below.trans (by go_grown) (hb3.mono (by go_size))
    have hs3' : w.heap.size + 1 < w3.heap.size := by omega
    have hs3'' : w.heap.size + 1 + 1 < w3.heap.size := by omega
    go_wp2_with fail
    ((with_reducible refine (foGood_any _ _ _ _).mono ?_); rintro e w4 ⟨rfl, hb4⟩)
    obtain ⟨hc4, hf4⟩ := bcell hb4
    have hz4 := hb4.size
    try simp only [World.size_alloc, World.size_drew, World.size_setCell] at hz4
    try have hs4 : w.heap.size < w4.heap.size := by omega
    have bl4 : Below w.heap.size w w4 := Below.trans (by go_grown) (hb4.mono (by go_size))
    have hs4' : w.heap.size + 1 < w4.heap.size := by omega
    have hs4'' : w.heap.size + 1 + 1 < w4.heap.size := by omega
    go_wp2
    exact bodyPost_ret (v := .tuple #[.agg #[.int .i64 0, .int .i64 0, .int .i64 0], .bool false]) (by simp [results, Try.results39, go_sem, *]) rfl ⟨rfl, by go_grown⟩
  · rw [subB_4 h0 h1 h2, subO_true]
    go_enter Try.func39, Try.ntmps39
    go_wp2_with fail
    ((with_reducible refine (foGood_any _ _ _ _).mono ?_); rintro e w1 ⟨rfl, hb1⟩)
    obtain ⟨hc1, hf1⟩ := bcell hb1
    have hz1 := hb1.size
    try simp only [World.size_alloc, World.size_drew, World.size_setCell] at hz1
    try have hs1 : w.heap.size < w1.heap.size := by omega
    have bl1 : Below w.heap.size w w1 := Below.trans (by go_grown) (hb1.mono (by go_size))
    have hs1' : w.heap.size + 1 < w1.heap.size := by omega
    have hs1'' : w.heap.size + 1 + 1 < w1.heap.size := by omega
    go_wp2_with fail
    ((with_reducible refine (foMatrix_any _ _ _ _ _).mono ?_); rintro e w2 ⟨rfl, hb2⟩)
    obtain ⟨hc2, hf2⟩ := bcell hb2
    have hz2 := hb2.size
    try simp only [World.size_alloc, World.size_drew, World.size_setCell] at hz2
    try have hs2 : w.heap.size < w2.heap.size := by omega
    have bl2 : Below w.heap.size w w2 := Below.trans (by go_grown) (hb2.mono (by go_size))
    have hs2' : w.heap.size + 1 < w2.heap.size := by omega
    have hs2'' : w.heap.size + 1 + 1 < w2.heap.size := by omega
    go_wp2_with fail
    ((with_reducible refine (foAct_any _ _ _ _ _ _ _ _).mono ?_); rintro e w3 ⟨rfl, hb3⟩)
    obtain ⟨hc3, hf3⟩ := bcell hb3
    have hz3 := hb3.size
    try simp only [World.size_alloc, World.size_drew, World.size_setCell] at hz3
    try have hs3 : w.heap.size < w3.heap.size := by omega
    have bl3 : Below w.heap.size w w3 := Below.trans (by go_grown) (hb3.mono (by go_size))
    have hs3' : w.heap.size + 1 < w3.heap.size := by omega
    have hs3'' : w.heap.size + 1 + 1 < w3.heap.size := by omega
    go_wp2_with fail
    ((with_reducible refine (foGood_any _ _ _ _).mono ?_); rintro e w4 ⟨rfl, hb4⟩)
    obtain ⟨hc4, hf4⟩ := bcell hb4
    have hz4 := hb4.size
    try simp only [World.size_alloc, World.size_drew, World.size_setCell] at hz4
    try have hs4 : w.heap.size < w4.heap.size := by omega
    have bl4 : Below w.heap.size w w4 := Below.trans (by go_grown) (hb4.mono (by go_size))
    have hs4' : w.heap.size + 1 < w4.heap.size := by omega
    have hs4'' : w.heap.size + 1 + 1 < w4.heap.size := by omega
    go_wp2_with fail
    ((with_reducible refine (foAct_any _ _ _ _ _ _ _ _).mono ?_); rintro e w5 ⟨rfl, hb5⟩)
    obtain ⟨hc5, hf5⟩ := bcell hb5
    have hz5 := hb5.size
    try simp only [World.size_alloc, World.size_drew, World.size_setCell] at hz5
    try have hs5 : w.heap.size < w5.heap.size := by omega
    have bl5 : Below w.heap.size w w5 := Below.trans (by go_grown) (hb5.mono (by go_size))
    have hs5' : w.heap.size + 1 < w5.heap.size := by omega
    have hs5'' : w.heap.size + 1 + 1 < w5.heap.size := by omega
    go_wp2
    exact bodyPost_ret (v := .tuple #[.agg #[.int .i64 (valV a b c p r), .int .i64 (polV a b c p r q s), .int .i64 (valV a b c q s)], .bool true]) (by simp [results, Try.results39, go_sem, *]) rfl ⟨rfl, by go_grown⟩

set_option maxHeartbeats 1600000 in
theorem implSub_any (a b c p q r s : Int) (w : World) : Calls Try.prog 40 #[.agg #[.int .i64 a, .int .i64 b, .int .i64 c], .agg #[.int .i64 p, .int .i64 q, .int .i64 r, .int .i64 s]] w fun e w' =>
    e = .returned (.tuple #[subO (subB a b c p q r s) a b c p q r s, .bool (subB a b c p q r s)]) ∧ Below w.heap.size w w' := by
  rcases h0 : good3 a b c with _ | _
  · rw [subB_1 h0, subO_false]
    go_enter Try.func40, Try.ntmps40
    go_wp2_with fail
    ((with_reducible refine (isForm_any _ _ _ _).mono ?_); rintro e w1 ⟨rfl, hb1⟩)
    obtain ⟨hc1, hf1⟩ := bcell hb1
    have hz1 := hb1.size
    try simp only [World.size_alloc, World.size_drew, World.size_setCell] at hz1
    try have hs1 : w.heap.size < w1.heap.size := by omega
    have bl1 : Below w.heap.size w w1 := Below.trans (by go_grown) (hb1.mono (by go_size))
    have hs1' : w.heap.size + 1 < w1.heap.size := by omega
    have hs1'' : w.heap.size + 1 + 1 < w1.heap.size := by omega
    go_wp2
    exact bodyPost_ret (v := .tuple #[.agg #[.int .i64 0, .int .i64 0, .int .i64 0], .bool false]) (by simp [results, Try.results40, go_sem, *]) rfl ⟨rfl, by go_grown⟩
  rcases h1 : good4 p q r s with _ | _
  · rw [subB_2 h1, subO_false]
    go_enter Try.func40, Try.ntmps40
    go_wp2_with fail
    ((with_reducible refine (isForm_any _ _ _ _).mono ?_); rintro e w1 ⟨rfl, hb1⟩)
    obtain ⟨hc1, hf1⟩ := bcell hb1
    have hz1 := hb1.size
    try simp only [World.size_alloc, World.size_drew, World.size_setCell] at hz1
    try have hs1 : w.heap.size < w1.heap.size := by omega
    have bl1 : Below w.heap.size w w1 := Below.trans (by go_grown) (hb1.mono (by go_size))
    have hs1' : w.heap.size + 1 < w1.heap.size := by omega
    have hs1'' : w.heap.size + 1 + 1 < w1.heap.size := by omega
    go_wp2_with fail
    ((with_reducible refine (isMatrix_any _ _ _ _ _).mono ?_); rintro e w2 ⟨rfl, hb2⟩)
    obtain ⟨hc2, hf2⟩ := bcell hb2
    have hz2 := hb2.size
    try simp only [World.size_alloc, World.size_drew, World.size_setCell] at hz2
    try have hs2 : w.heap.size < w2.heap.size := by omega
    have bl2 : Below w.heap.size w w2 := Below.trans (by go_grown) (hb2.mono (by go_size))
    have hs2' : w.heap.size + 1 < w2.heap.size := by omega
    have hs2'' : w.heap.size + 1 + 1 < w2.heap.size := by omega
    go_wp2
    exact bodyPost_ret (v := .tuple #[.agg #[.int .i64 0, .int .i64 0, .int .i64 0], .bool false]) (by simp [results, Try.results40, go_sem, *]) rfl ⟨rfl, by go_grown⟩
  rcases h2 : good3 (valV a b c p r) (polV a b c p r q s) (valV a b c q s) with _ | _
  · rw [subB_3 h2, subO_false]
    go_enter Try.func40, Try.ntmps40
    go_wp2_with fail
    ((with_reducible refine (isForm_any _ _ _ _).mono ?_); rintro e w1 ⟨rfl, hb1⟩)
    obtain ⟨hc1, hf1⟩ := bcell hb1
    have hz1 := hb1.size
    try simp only [World.size_alloc, World.size_drew, World.size_setCell] at hz1
    try have hs1 : w.heap.size < w1.heap.size := by omega
    have bl1 : Below w.heap.size w w1 := Below.trans (by go_grown) (hb1.mono (by go_size))
    have hs1' : w.heap.size + 1 < w1.heap.size := by omega
    have hs1'' : w.heap.size + 1 + 1 < w1.heap.size := by omega
    go_wp2_with fail
    ((with_reducible refine (isMatrix_any _ _ _ _ _).mono ?_); rintro e w2 ⟨rfl, hb2⟩)
    obtain ⟨hc2, hf2⟩ := bcell hb2
    have hz2 := hb2.size
    try simp only [World.size_alloc, World.size_drew, World.size_setCell] at hz2
    try have hs2 : w.heap.size < w2.heap.size := by omega
    have bl2 : Below w.heap.size w w2 := Below.trans (by go_grown) (hb2.mono (by go_size))
    have hs2' : w.heap.size + 1 < w2.heap.size := by omega
    have hs2'' : w.heap.size + 1 + 1 < w2.heap.size := by omega
    go_wp2_with fail
    ((with_reducible refine (substitute_any _ _ _ _ _ _ _ _).mono ?_); rintro e w3 ⟨rfl, hb3⟩)
    obtain ⟨hc3, hf3⟩ := bcell hb3
    have hz3 := hb3.size
    try simp only [World.size_alloc, World.size_drew, World.size_setCell] at hz3
    try have hs3 : w.heap.size < w3.heap.size := by omega
    have bl3 : Below w.heap.size w w3 := Below.trans (by go_grown) (hb3.mono (by go_size))
    have hs3' : w.heap.size + 1 < w3.heap.size := by omega
    have hs3'' : w.heap.size + 1 + 1 < w3.heap.size := by omega
    have hs3''' : w3.heap.size < w3.heap.size + 1 := by omega
    go_wp2_with fail
    ((with_reducible refine (isForm_any _ _ _ _).mono ?_); rintro e w4 ⟨rfl, hb4⟩)
    obtain ⟨hc4, hf4⟩ := bcell hb4
    have hz4 := hb4.size
    try simp only [World.size_alloc, World.size_drew, World.size_setCell] at hz4
    try have hs4 : w.heap.size < w4.heap.size := by omega
    have bl4 : Below w.heap.size w w4 := Below.trans (by go_grown) (hb4.mono (by go_size))
    have hs4' : w.heap.size + 1 < w4.heap.size := by omega
    have hs4'' : w.heap.size + 1 + 1 < w4.heap.size := by omega
    go_wp2
    exact bodyPost_ret (v := .tuple #[.agg #[.int .i64 0, .int .i64 0, .int .i64 0], .bool false]) (by simp [results, Try.results40, go_sem, *]) rfl ⟨rfl, by go_grown⟩
  · rw [subB_4 h0 h1 h2, subO_true]
    go_enter Try.func40, Try.ntmps40
    go_wp2_with fail
    ((with_reducible refine (isForm_any _ _ _ _).mono ?_); rintro e w1 ⟨rfl, hb1⟩)
    obtain ⟨hc1, hf1⟩ := bcell hb1
    have hz1 := hb1.size
    try simp only [World.size_alloc, World.size_drew, World.size_setCell] at hz1
    try have hs1 : w.heap.size < w1.heap.size := by omega
    have bl1 : Below w.heap.size w w1 := Below.trans (by go_grown) (hb1.mono (by go_size))
    have hs1' : w.heap.size + 1 < w1.heap.size := by omega
    have hs1'' : w.heap.size + 1 + 1 < w1.heap.size := by omega
    go_wp2_with fail
    ((with_reducible refine (isMatrix_any _ _ _ _ _).mono ?_); rintro e w2 ⟨rfl, hb2⟩)
    obtain ⟨hc2, hf2⟩ := bcell hb2
    have hz2 := hb2.size
    try simp only [World.size_alloc, World.size_drew, World.size_setCell] at hz2
    try have hs2 : w.heap.size < w2.heap.size := by omega
    have bl2 : Below w.heap.size w w2 := Below.trans (by go_grown) (hb2.mono (by go_size))
    have hs2' : w.heap.size + 1 < w2.heap.size := by omega
    have hs2'' : w.heap.size + 1 + 1 < w2.heap.size := by omega
    go_wp2_with fail
    ((with_reducible refine (substitute_any _ _ _ _ _ _ _ _).mono ?_); rintro e w3 ⟨rfl, hb3⟩)
    obtain ⟨hc3, hf3⟩ := bcell hb3
    have hz3 := hb3.size
    try simp only [World.size_alloc, World.size_drew, World.size_setCell] at hz3
    try have hs3 : w.heap.size < w3.heap.size := by omega
    have bl3 : Below w.heap.size w w3 := Below.trans (by go_grown) (hb3.mono (by go_size))
    have hs3' : w.heap.size + 1 < w3.heap.size := by omega
    have hs3'' : w.heap.size + 1 + 1 < w3.heap.size := by omega
    go_wp2_with fail
    ((with_reducible refine (isForm_any _ _ _ _).mono ?_); rintro e w4 ⟨rfl, hb4⟩)
    obtain ⟨hc4, hf4⟩ := bcell hb4
    have hz4 := hb4.size
    try simp only [World.size_alloc, World.size_drew, World.size_setCell] at hz4
    try have hs4 : w.heap.size < w4.heap.size := by omega
    have bl4 : Below w.heap.size w w4 := Below.trans (by go_grown) (hb4.mono (by go_size))
    have hs4' : w.heap.size + 1 < w4.heap.size := by omega
    have hs4'' : w.heap.size + 1 + 1 < w4.heap.size := by omega
    go_wp2
    exact bodyPost_ret (v := .tuple #[.agg #[.int .i64 (valV a b c p r), .int .i64 (polV a b c p r q s), .int .i64 (valV a b c q s)], .bool true]) (by simp [results, Try.results40, go_sem, *]) rfl ⟨rfl, by go_grown⟩
end Go.Proofs.Ytbhamnkhkbmidaa
