/-
  The walk of the law on substitution.
-/
import Derived.Test.YtbhamnkhkbmidaaWalkC
import Derived.Deep.DeepCutAuto
namespace Go.Proofs.Ytbhamnkhkbmidaa
open Go.RowKit
set_option linter.unusedSimpArgs false
set_option linter.unusedVariables false

theorem set3_cells {w : World} {g : Nat} {x y z u0 u1 u2 : Value} (h0 : w.cell? ⟨g, 0, none⟩ = some u0) (h1 : w.cell? ⟨g, 1, none⟩ = some u1) (h2 : w.cell? ⟨g, 2, none⟩ = some u2) :
    (((w.setCell ⟨g, 0, none⟩ x).setCell ⟨g, 1, none⟩ y).setCell ⟨g, 2, none⟩ z).cell? ⟨g, 0, none⟩ = some x ∧
    (((w.setCell ⟨g, 0, none⟩ x).setCell ⟨g, 1, none⟩ y).setCell ⟨g, 2, none⟩ z).cell? ⟨g, 1, none⟩ = some y ∧
    (((w.setCell ⟨g, 0, none⟩ x).setCell ⟨g, 1, none⟩ y).setCell ⟨g, 2, none⟩ z).cell? ⟨g, 2, none⟩ = some z := by
  have k1 : (w.setCell ⟨g, 0, none⟩ x).cell? ⟨g, 1, none⟩ = some u1 := (World.cell?_setCell_other _ _ _ _ (by simp)).trans h1
  have k2 : (w.setCell ⟨g, 0, none⟩ x).cell? ⟨g, 2, none⟩ = some u2 := (World.cell?_setCell_other _ _ _ _ (by simp)).trans h2
  have k3 : ((w.setCell ⟨g, 0, none⟩ x).setCell ⟨g, 1, none⟩ y).cell? ⟨g, 2, none⟩ = some u2 := (World.cell?_setCell_other _ _ _ _ (by simp)).trans k2
  refine ⟨?_, ?_, World.cell?_setCell_same _ _ _ k3⟩
  · exact (World.cell?_setCell_other _ _ _ _ (by simp)).trans ((World.cell?_setCell_other _ _ _ _ (by simp)).trans (World.cell?_setCell_same _ _ _ h0))
  · exact (World.cell?_setCell_other _ _ _ _ (by simp)).trans (World.cell?_setCell_same _ _ _ k1)

set_option maxHeartbeats 3200000 in
theorem law_FnExactSubstitute (a b c p q r s : Int) (w : World) (_ : In64 a) (_ : In64 b) (_ : In64 c) (_ : In64 p) (_ : In64 q) (_ : In64 r) (_ : In64 s) :
    Calls Try.prog 14 #[.agg #[.int .i64 a, .int .i64 b, .int .i64 c], .agg #[.int .i64 p, .int .i64 q, .int .i64 r, .int .i64 s]] w fun e w' => e = .returned (.bool true) ∧ Below w.heap.size w w' := by
  obtain ⟨x, y, z, hv⟩ := subO_agg (subB a b c p q r s) a b c p q r s
  have HS := specSub_any a b c p q r s
  have HI := implSub_any a b c p q r s
  rw [hv] at HS HI
  have HS' := Lib.hid HS
  have HI' := Lib.hid HI
  clear HS HI hv
  have F : ∀ W0 : World, W0 = (w.alloc (.cells #[.int .i64 a, .int .i64 b, .int .i64 c] 25)).alloc (.cells #[.int .i64 p, .int .i64 q, .int .i64 r, .int .i64 s] 31) →
      W0.cell? ⟨w.heap.size, 0, none⟩ = some (.int .i64 a) ∧ W0.cell? ⟨w.heap.size, 1, none⟩ = some (.int .i64 b) ∧ W0.cell? ⟨w.heap.size, 2, none⟩ = some (.int .i64 c) ∧ W0.cell? ⟨w.heap.size + 1, 0, none⟩ = some (.int .i64 p) ∧ W0.cell? ⟨w.heap.size + 1, 1, none⟩ = some (.int .i64 q) ∧ W0.cell? ⟨w.heap.size + 1, 2, none⟩ = some (.int .i64 r) ∧ W0.cell? ⟨w.heap.size + 1, 3, none⟩ = some (.int .i64 s) ∧ w.heap.size + 1 < W0.heap.size ∧ Below w.heap.size w W0 := by
    rintro W0 rfl
    refine ⟨by simp, by simp, by simp, by simp, by simp, by simp, by simp, by simp, by go_grown⟩
  go_enter Try.func14, Try.ntmps14
  go_upto_region 1 with fail
  generalize hW0 : (w.alloc (.cells #[.int .i64 a, .int .i64 b, .int .i64 c] 25)).alloc (.cells #[.int .i64 p, .int .i64 q, .int .i64 r, .int .i64 s] 31) = W0
  obtain ⟨f1, f2, f3, f4, f5, f6, f7, sz0, bl0⟩ := F W0 hW0.symm
  clear F hW0
  have hn0a : w.heap.size ≠ W0.heap.size := by omega
  have hn0b : w.heap.size + 1 ≠ W0.heap.size := by omega
  have hn0c : ¬ W0.heap.size = w.heap.size := by omega
  have hn0d : ¬ W0.heap.size = w.heap.size + 1 := by omega
  go_cut [5, 6] (fun s5 s6 wx => ∃ g : Nat, s5 = .pointer (some ⟨g, 0, none⟩) ∧ s6 = .bool (subB a b c p q r s) ∧ wx.cell? ⟨w.heap.size, 0, none⟩ = some (.int .i64 a) ∧ wx.cell? ⟨w.heap.size, 1, none⟩ = some (.int .i64 b) ∧ wx.cell? ⟨w.heap.size, 2, none⟩ = some (.int .i64 c) ∧ wx.cell? ⟨w.heap.size + 1, 0, none⟩ = some (.int .i64 p) ∧ wx.cell? ⟨w.heap.size + 1, 1, none⟩ = some (.int .i64 q) ∧ wx.cell? ⟨w.heap.size + 1, 2, none⟩ = some (.int .i64 r) ∧ wx.cell? ⟨w.heap.size + 1, 3, none⟩ = some (.int .i64 s) ∧ wx.cell? ⟨g, 0, none⟩ = some (.int .i64 x) ∧ wx.cell? ⟨g, 1, none⟩ = some (.int .i64 y) ∧ wx.cell? ⟨g, 2, none⟩ = some (.int .i64 z) ∧ w.heap.size + 1 < g ∧ g < wx.heap.size ∧ Below w.heap.size w wx)
  case first =>
    go_region_held3 (fun w' => w'.cell? ⟨w.heap.size, 0, none⟩ = some (.int .i64 a) ∧ w'.cell? ⟨w.heap.size, 1, none⟩ = some (.int .i64 b) ∧ w'.cell? ⟨w.heap.size, 2, none⟩ = some (.int .i64 c) ∧ w'.cell? ⟨w.heap.size + 1, 0, none⟩ = some (.int .i64 p) ∧ w'.cell? ⟨w.heap.size + 1, 1, none⟩ = some (.int .i64 q) ∧ w'.cell? ⟨w.heap.size + 1, 2, none⟩ = some (.int .i64 r) ∧ w'.cell? ⟨w.heap.size + 1, 3, none⟩ = some (.int .i64 s))
      (go_keep)
      (first
        | (go_at_call 18; ((with_reducible refine (toForm_any _ _ _ _).mono ?_); rintro e wq1 ⟨rfl, hbq1⟩; obtain ⟨hcq1, hfq1⟩ := bcell hbq1; have hca1 := (fun o => hcq1 w.heap.size o (by first | omega | (simp only [World.size_alloc, World.size_drew]; omega))); have hcb1 := (fun o => hcq1 (w.heap.size + 1) o (by first | omega | (simp only [World.size_alloc, World.size_drew]; omega))); have hzq1 := hbq1.size; (try simp only [World.size_alloc, World.size_drew] at hzq1); have hsq1 : w.heap.size + 1 < wq1.heap.size := (by omega); have hne1 : w.heap.size ≠ wq1.heap.size := (by omega); have hnf1 : w.heap.size + 1 ≠ wq1.heap.size := (by omega); have hng1 : ¬ wq1.heap.size = w.heap.size := (by omega); have hnh1 : ¬ wq1.heap.size = w.heap.size + 1 := (by omega); (try have hni1 : g ≠ wq1.heap.size := (by omega)); (try have hnj1 : ¬ wq1.heap.size = g := (by omega)); have blq1 : Below w.heap.size w wq1 := (Below.trans (by go_grown) (hbq1.mono (by go_size))); (try have hya1 : W0.heap.size < wq1.heap.size := (by omega)); (try have hyb1 : wq1.heap.size < wq1.heap.size := (by omega)); (try have hyc1 : wq2.heap.size < wq1.heap.size := (by omega))))
        | (go_at_call 21; ((with_reducible refine (toMatrix_any _ _ _ _ _).mono ?_); rintro e wq2 ⟨rfl, hbq2⟩; obtain ⟨hcq2, hfq2⟩ := bcell hbq2; have hca2 := (fun o => hcq2 w.heap.size o (by first | omega | (simp only [World.size_alloc, World.size_drew]; omega))); have hcb2 := (fun o => hcq2 (w.heap.size + 1) o (by first | omega | (simp only [World.size_alloc, World.size_drew]; omega))); have hzq2 := hbq2.size; (try simp only [World.size_alloc, World.size_drew] at hzq2); have hsq2 : w.heap.size + 1 < wq2.heap.size := (by omega); have hne2 : w.heap.size ≠ wq2.heap.size := (by omega); have hnf2 : w.heap.size + 1 ≠ wq2.heap.size := (by omega); have hng2 : ¬ wq2.heap.size = w.heap.size := (by omega); have hnh2 : ¬ wq2.heap.size = w.heap.size + 1 := (by omega); (try have hni1 : g ≠ wq2.heap.size := (by omega)); (try have hnj1 : ¬ wq2.heap.size = g := (by omega)); have blq2 : Below w.heap.size w wq2 := (Below.trans (by go_grown) (hbq2.mono (by go_size))); (try have hya2 : W0.heap.size < wq2.heap.size := (by omega)); (try have hyb2 : wq1.heap.size < wq2.heap.size := (by omega)); (try have hyc2 : wq2.heap.size < wq2.heap.size := (by omega))))
        | (go_at_call 39; ((with_reducible refine (HS'.out _).mono ?_); rintro e wq3 ⟨rfl, hbq3⟩; obtain ⟨hcq3, hfq3⟩ := bcell hbq3; have hca3 := (fun o => hcq3 w.heap.size o (by first | omega | (simp only [World.size_alloc, World.size_drew]; omega))); have hcb3 := (fun o => hcq3 (w.heap.size + 1) o (by first | omega | (simp only [World.size_alloc, World.size_drew]; omega))); have hzq3 := hbq3.size; (try simp only [World.size_alloc, World.size_drew] at hzq3); have hsq3 : w.heap.size + 1 < wq3.heap.size := (by omega); have hne3 : w.heap.size ≠ wq3.heap.size := (by omega); have hnf3 : w.heap.size + 1 ≠ wq3.heap.size := (by omega); have hng3 : ¬ wq3.heap.size = w.heap.size := (by omega); have hnh3 : ¬ wq3.heap.size = w.heap.size + 1 := (by omega); (try have hni1 : g ≠ wq3.heap.size := (by omega)); (try have hnj1 : ¬ wq3.heap.size = g := (by omega)); have blq3 : Below w.heap.size w wq3 := (Below.trans (by go_grown) (hbq3.mono (by go_size))); (try have hya3 : W0.heap.size < wq3.heap.size := (by omega)); (try have hyb3 : wq1.heap.size < wq3.heap.size := (by omega)); (try have hyc3 : wq2.heap.size < wq3.heap.size := (by omega)))))
    all_goals (go_wp2_with fail; go_meet)
    all_goals (refine ⟨_, rfl, rfl, ?_, ?_, ?_, ?_, ?_, ?_, ?_, ?_, ?_, ?_, ?_, ?_, ?_⟩ <;> first | (go_keep; done) | (simp [*]; done) | (simp [World.cell?_alloc_new, *]; done) | (rw [World.cell?_alloc_at _ _ _ _ rfl]; rfl) | exact (set3_cells (u0 := .int .i64 0) (u1 := .int .i64 0) (u2 := .int .i64 0) (by simp [World.cell?_alloc_new, *]) (by simp [World.cell?_alloc_new, *]) (by simp [World.cell?_alloc_new, *])).1 | exact (set3_cells (u0 := .int .i64 0) (u1 := .int .i64 0) (u2 := .int .i64 0) (by simp [World.cell?_alloc_new, *]) (by simp [World.cell?_alloc_new, *]) (by simp [World.cell?_alloc_new, *])).2.1 | exact (set3_cells (u0 := .int .i64 0) (u1 := .int .i64 0) (u2 := .int .i64 0) (by simp [World.cell?_alloc_new, *]) (by simp [World.cell?_alloc_new, *]) (by simp [World.cell?_alloc_new, *])).2.2 | go_grown | (simp only [World.size_alloc, World.size_drew, World.size_setCell]; omega) | omega)
  case rest =>
    clear f1 f2 f3 f4 f5 f6 f7 sz0 bl0 hn0a hn0b hn0c hn0d
    obtain ⟨g, rfl, rfl, f1, f2, f3, f4, f5, f6, f7, g0, g1, g2, hg1, hg2, bl0⟩ := hcut
    have hn0a : w.heap.size ≠ wc.heap.size := by omega
    have hn0b : w.heap.size + 1 ≠ wc.heap.size := by omega
    have hn0c : ¬ wc.heap.size = w.heap.size := by omega
    have hn0d : ¬ wc.heap.size = w.heap.size + 1 := by omega
    have hn0e : g ≠ wc.heap.size := by omega
    have hn0f : ¬ wc.heap.size = g := by omega
    have hn0g : w.heap.size + 1 < wc.heap.size := by omega
    go_upto_region 2 with fail
    go_cut [7, 8] (fun s7 s8 wx => ∃ k : Nat, s7 = .pointer (some ⟨k, 0, none⟩) ∧ s8 = .bool (subB a b c p q r s) ∧ wx.cell? ⟨g, 0, none⟩ = some (.int .i64 x) ∧ wx.cell? ⟨g, 1, none⟩ = some (.int .i64 y) ∧ wx.cell? ⟨g, 2, none⟩ = some (.int .i64 z) ∧ wx.cell? ⟨k, 0, none⟩ = some (.int .i64 x) ∧ wx.cell? ⟨k, 1, none⟩ = some (.int .i64 y) ∧ wx.cell? ⟨k, 2, none⟩ = some (.int .i64 z) ∧ w.heap.size + 1 < k ∧ k < wx.heap.size ∧ Below w.heap.size w wx)
    case first =>
      go_region_held3 (fun w' => w'.cell? ⟨w.heap.size, 0, none⟩ = some (.int .i64 a) ∧ w'.cell? ⟨w.heap.size, 1, none⟩ = some (.int .i64 b) ∧ w'.cell? ⟨w.heap.size, 2, none⟩ = some (.int .i64 c) ∧ w'.cell? ⟨w.heap.size + 1, 0, none⟩ = some (.int .i64 p) ∧ w'.cell? ⟨w.heap.size + 1, 1, none⟩ = some (.int .i64 q) ∧ w'.cell? ⟨w.heap.size + 1, 2, none⟩ = some (.int .i64 r) ∧ w'.cell? ⟨w.heap.size + 1, 3, none⟩ = some (.int .i64 s) ∧ w'.cell? ⟨g, 0, none⟩ = some (.int .i64 x) ∧ w'.cell? ⟨g, 1, none⟩ = some (.int .i64 y) ∧ w'.cell? ⟨g, 2, none⟩ = some (.int .i64 z))
        (go_keep)
        (first
          | (go_at_call 18; ((with_reducible refine (toForm_any _ _ _ _).mono ?_); rintro e wq1 ⟨rfl, hbq1⟩; obtain ⟨hcq1, hfq1⟩ := bcell hbq1; have hca1 := (fun o => hcq1 w.heap.size o (by first | omega | (simp only [World.size_alloc, World.size_drew]; omega))); have hcb1 := (fun o => hcq1 (w.heap.size + 1) o (by first | omega | (simp only [World.size_alloc, World.size_drew]; omega))); have hcg1 := (fun o => hcq1 g o (by first | omega | (simp only [World.size_alloc, World.size_drew]; omega))); have hzq1 := hbq1.size; (try simp only [World.size_alloc, World.size_drew] at hzq1); have hsq1 : w.heap.size + 1 < wq1.heap.size := (by omega); have hne1 : w.heap.size ≠ wq1.heap.size := (by omega); have hnf1 : w.heap.size + 1 ≠ wq1.heap.size := (by omega); have hng1 : ¬ wq1.heap.size = w.heap.size := (by omega); have hnh1 : ¬ wq1.heap.size = w.heap.size + 1 := (by omega); (try have hni1 : g ≠ wq1.heap.size := (by omega)); (try have hnj1 : ¬ wq1.heap.size = g := (by omega)); have blq1 : Below w.heap.size w wq1 := (Below.trans (by go_grown) (hbq1.mono (by go_size))); (try have hya1 : wc.heap.size < wq1.heap.size := (by omega)); (try have hyb1 : wq1.heap.size < wq1.heap.size := (by omega)); (try have hyc1 : wq2.heap.size < wq1.heap.size := (by omega))))
          | (go_at_call 21; ((with_reducible refine (toMatrix_any _ _ _ _ _).mono ?_); rintro e wq2 ⟨rfl, hbq2⟩; obtain ⟨hcq2, hfq2⟩ := bcell hbq2; have hca2 := (fun o => hcq2 w.heap.size o (by first | omega | (simp only [World.size_alloc, World.size_drew]; omega))); have hcb2 := (fun o => hcq2 (w.heap.size + 1) o (by first | omega | (simp only [World.size_alloc, World.size_drew]; omega))); have hcg2 := (fun o => hcq2 g o (by first | omega | (simp only [World.size_alloc, World.size_drew]; omega))); have hzq2 := hbq2.size; (try simp only [World.size_alloc, World.size_drew] at hzq2); have hsq2 : w.heap.size + 1 < wq2.heap.size := (by omega); have hne2 : w.heap.size ≠ wq2.heap.size := (by omega); have hnf2 : w.heap.size + 1 ≠ wq2.heap.size := (by omega); have hng2 : ¬ wq2.heap.size = w.heap.size := (by omega); have hnh2 : ¬ wq2.heap.size = w.heap.size + 1 := (by omega); (try have hni1 : g ≠ wq2.heap.size := (by omega)); (try have hnj1 : ¬ wq2.heap.size = g := (by omega)); have blq2 : Below w.heap.size w wq2 := (Below.trans (by go_grown) (hbq2.mono (by go_size))); (try have hya2 : wc.heap.size < wq2.heap.size := (by omega)); (try have hyb2 : wq1.heap.size < wq2.heap.size := (by omega)); (try have hyc2 : wq2.heap.size < wq2.heap.size := (by omega))))
          | (go_at_call 40; ((with_reducible refine (HI'.out _).mono ?_); rintro e wq3 ⟨rfl, hbq3⟩; obtain ⟨hcq3, hfq3⟩ := bcell hbq3; have hca3 := (fun o => hcq3 w.heap.size o (by first | omega | (simp only [World.size_alloc, World.size_drew]; omega))); have hcb3 := (fun o => hcq3 (w.heap.size + 1) o (by first | omega | (simp only [World.size_alloc, World.size_drew]; omega))); have hcg3 := (fun o => hcq3 g o (by first | omega | (simp only [World.size_alloc, World.size_drew]; omega))); have hzq3 := hbq3.size; (try simp only [World.size_alloc, World.size_drew] at hzq3); have hsq3 : w.heap.size + 1 < wq3.heap.size := (by omega); have hne3 : w.heap.size ≠ wq3.heap.size := (by omega); have hnf3 : w.heap.size + 1 ≠ wq3.heap.size := (by omega); have hng3 : ¬ wq3.heap.size = w.heap.size := (by omega); have hnh3 : ¬ wq3.heap.size = w.heap.size + 1 := (by omega); (try have hni1 : g ≠ wq3.heap.size := (by omega)); (try have hnj1 : ¬ wq3.heap.size = g := (by omega)); have blq3 : Below w.heap.size w wq3 := (Below.trans (by go_grown) (hbq3.mono (by go_size))); (try have hya3 : wc.heap.size < wq3.heap.size := (by omega)); (try have hyb3 : wq1.heap.size < wq3.heap.size := (by omega)); (try have hyc3 : wq2.heap.size < wq3.heap.size := (by omega)))))
      all_goals (go_wp2_with fail; go_meet)
      all_goals (refine ⟨_, rfl, rfl, ?_, ?_, ?_, ?_, ?_, ?_, ?_, ?_, ?_⟩ <;> first | (go_keep; done) | (simp [*]; done) | (simp [World.cell?_alloc_new, *]; done) | (rw [World.cell?_alloc_at _ _ _ _ rfl]; rfl) | exact (set3_cells (u0 := .int .i64 0) (u1 := .int .i64 0) (u2 := .int .i64 0) (by simp [World.cell?_alloc_new, *]) (by simp [World.cell?_alloc_new, *]) (by simp [World.cell?_alloc_new, *])).1 | exact (set3_cells (u0 := .int .i64 0) (u1 := .int .i64 0) (u2 := .int .i64 0) (by simp [World.cell?_alloc_new, *]) (by simp [World.cell?_alloc_new, *]) (by simp [World.cell?_alloc_new, *])).2.1 | exact (set3_cells (u0 := .int .i64 0) (u1 := .int .i64 0) (u2 := .int .i64 0) (by simp [World.cell?_alloc_new, *]) (by simp [World.cell?_alloc_new, *]) (by simp [World.cell?_alloc_new, *])).2.2 | go_grown | (simp only [World.size_alloc, World.size_drew, World.size_setCell]; omega) | omega)
    case rest =>
      obtain ⟨k, rfl, rfl, q0, q1, q2, k0, k1, k2, hk1, hk2, blc⟩ := hcut
      go_wp2_with fail
      refine (eqForm_same _ _ _ _).mono ?_
      rintro e w5 ⟨rfl, hb5⟩
      have bl5 : Below w.heap.size w w5 := blc.trans (hb5.mono (by omega))
      go_wp2
      go_ret
      exact ⟨rfl, bl5⟩
end Go.Proofs.Ytbhamnkhkbmidaa
