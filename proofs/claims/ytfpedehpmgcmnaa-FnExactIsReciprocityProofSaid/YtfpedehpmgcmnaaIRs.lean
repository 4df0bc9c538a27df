/-
  'IsReciprocityProof' of the reference.
-/
import Derived.Test.YtfpedehpmgcmnaaIRi
namespace Go.Proofs.Ytfpedehpmgcmnaa
open Go.RowKit
set_option linter.unusedSimpArgs false
set_option linter.unusedVariables false

set_option maxHeartbeats 3200000 in
theorem specIR_some (g c n : Nat) (L : List T3) (w : World) {b : Nat} (hl : StLst w b (.slice (some ⟨g, 0, none⟩) n c) L) (hn : L.length = n) (hg : g < w.heap.size) (h1 : 0 < n) (h3 : n ≤ 1048576) (hin : ∀ k, k < n → In64 (L.getD k z3).1 ∧ In64 (L.getD k z3).2.1 ∧ In64 (L.getD k z3).2.2) :
    Calls Try.prog 9 #[.slice (some ⟨g, 0, none⟩) n c] w fun e w' => e = .returned (.bool (isRP L)) ∧ Below w.heap.size w w' := by
  have n1 : 1 ≤ n := by omega
  have n0 : ((n : Int) == 0) = false := by rw [beq_eq_false_iff_ne]; omega
  obtain ⟨f0, hf0⟩ : ∃ t, L.getD 0 z3 = t := ⟨_, rfl⟩
  obtain ⟨T0, B0, S0⟩ := f0
  obtain ⟨p0, p1, p2⟩ := hl.cellAt hn hg (Below.refl _ _) (show 0 < n by omega) hf0
  simp only [Nat.zero_mul, Nat.zero_add] at p0 p1 p2
  have iB0 : In64 B0 := by have := (hin 0 (by omega)).2.1; rw [hf0] at this; exact this
  have HL := Lib.hid hl
  have HN := Lib.hid hn
  clear hl hn hin
  have HD := Lib.hid (show hdB L = (decide (S0 = 1) && (oddM B0 && good T0)) by unfold hdB; rw [hf0])
  by_cases hS : S0 = 1
  · subst hS
    rcases hB : oddM B0 with _ | _
    · have HV := Lib.hid (isRP_hd (L := L) (by rw [HD.out, hB]; simp))
      go_enter Try.func9, Try.ntmps9
      go_wp2_with fail
      ((with_reducible refine (syOdd_any B0 _ iB0).mono ?_); rintro e w1 ⟨rfl, hb1⟩)
      obtain ⟨hc1, hf1⟩ := bcell hb1
      have hz1 := hb1.size
      try simp only [World.size_alloc, World.size_drew, World.size_setCell] at hz1
      try have hs1 : w.heap.size < w1.heap.size := by omega
      have bl1 : Below w.heap.size w w1 := Below.trans (by go_grown) (hb1.mono (by go_size))
      go_wp2
      go_ret
      exact ⟨by rw [HV.out]; try rfl, (by repeat' (first | (with_reducible exact Below.refl _ _) | (with_reducible assumption) | (with_reducible refine Below.alloc ?_ ?_ _) | (with_reducible refine Below.drew ?_) | (with_reducible refine below_drewN ?_ _) | (with_reducible refine Below.setCell ?_ ?_ _) | go_size))⟩
    · rcases hT : good T0 with _ | _
      · have HV := Lib.hid (isRP_hd (L := L) (by rw [HD.out, hT]; simp))
        go_enter Try.func9, Try.ntmps9
        go_wp2_with fail
        ((with_reducible refine (syOdd_any B0 _ iB0).mono ?_); rintro e w1 ⟨rfl, hb1⟩)
        obtain ⟨hc1, hf1⟩ := bcell hb1
        have hz1 := hb1.size
        try simp only [World.size_alloc, World.size_drew, World.size_setCell] at hz1
        try have hs1 : w.heap.size < w1.heap.size := by omega
        have bl1 : Below w.heap.size w w1 := Below.trans (by go_grown) (hb1.mono (by go_size))
        go_wp2_with fail
        ((with_reducible refine (nuGood_any T0 _).mono ?_); rintro e w0 ⟨rfl, rfl⟩)
        go_wp2
        go_ret
        exact ⟨by rw [HV.out]; try rfl, (by repeat' (first | (with_reducible exact Below.refl _ _) | (with_reducible assumption) | (with_reducible refine Below.alloc ?_ ?_ _) | (with_reducible refine Below.drew ?_) | (with_reducible refine below_drewN ?_ _) | (with_reducible refine Below.setCell ?_ ?_ _) | go_size))⟩
      · have HH := Lib.hid (show hdB L = true by rw [HD.out, hB, hT]; rfl)
        go_enter Try.func9, Try.ntmps9
        go_wp2_with fail
        ((with_reducible refine (syOdd_any B0 _ iB0).mono ?_); rintro e w1 ⟨rfl, hb1⟩)
        obtain ⟨hc1, hf1⟩ := bcell hb1
        have hz1 := hb1.size
        try simp only [World.size_alloc, World.size_drew, World.size_setCell] at hz1
        try have hs1 : w.heap.size < w1.heap.size := by omega
        have bl1 : Below w.heap.size w w1 := Below.trans (by go_grown) (hb1.mono (by go_size))
        go_wp2_with fail
        ((with_reducible refine (nuGood_any T0 _).mono ?_); rintro e w0 ⟨rfl, rfl⟩)
        clear hc1 hf1 hb1 p0 p1 p2 HD
        go_wp2
        go_loopw [33] (fun i wr => ∃ k : Nat, i = .int .i64 (k : Int) ∧ k ≤ n ∧ Hid (ChkTo L k) ∧ Below w.heap.size w wr) (fun i _ => n - (intOf i).toNat)
        case atStart => exact ⟨0, rfl, by omega, Lib.hid (fun j j1 j2 => by omega), (by repeat' (first | (with_reducible exact Below.refl _ _) | (with_reducible assumption) | (with_reducible refine Below.alloc ?_ ?_ _) | (with_reducible refine Below.drew ?_) | (with_reducible refine below_drewN ?_ _) | (with_reducible refine Below.setCell ?_ ?_ _) | go_size))⟩
        case round =>
          obtain ⟨k, rfl, hk, HK, hb⟩ := hrel
          have hgr := Nat.lt_of_lt_of_le hg hb.size
          have hsz := hb.size
          by_cases hlt : k < n
          · obtain ⟨f2, hf2⟩ : ∃ t, L.getD k z3 = t := ⟨_, rfl⟩
            obtain ⟨x, y, z⟩ := f2
            obtain ⟨r0, r1, r2⟩ := HL.out.cellAt HN.out hg hb hlt hf2
            have HQ := Lib.hid hf2
            clear hf2
            rcases Nat.eq_zero_or_pos k with hk0 | hk0
            · subst hk0
              have k2 : (0 : Int) < (n : Int) := by omega
              simp only [Nat.zero_mul, Nat.zero_add] at r0 r1 r2
              go_wp2_with fail
              refine wp_region_held_drew (S := (fun _ => True)) (by kernel_rfl) ?_ (fun hHeld => ?_)
              · exact trivial
              refine wpAnyH_take (i := 0) (v := ?vZ200) rfl (by kernel_rfl) (by kernel_rfl) (by kernel_rfl) (fun _ _ _ h => h) (Or.inl ⟨by rfl, ?hZ200⟩) (by assumption) ?_
              case hZ200 => (intro w hSw; (try dsimp only at hSw); go_simp; (try with_reducible rfl))
              (try simp only [Act.put, List.getElem_toArray, List.getElem_cons_zero, List.getElem_cons_succ, List.setIfInBounds_toArray, List.set_cons_zero, List.set_cons_succ])
              refine wpAnyH_take (i := 1) (v := ?vZ201) rfl (by kernel_rfl) (by kernel_rfl) (by kernel_rfl) (fun _ _ _ h => h) (Or.inl ⟨by rfl, ?hZ201⟩) (by assumption) ?_
              case hZ201 => (intro w hSw; (try dsimp only at hSw); go_simp; (try with_reducible rfl))
              (try simp only [Act.put, List.getElem_toArray, List.getElem_cons_zero, List.getElem_cons_succ, List.setIfInBounds_toArray, List.set_cons_zero, List.set_cons_succ])
              refine wpAnyH_take (i := 2) (v := ?vZ202) rfl (by kernel_rfl) (by kernel_rfl) (by kernel_rfl) (fun _ _ _ h => h) (Or.inl ⟨by rfl, ?hZ202⟩) (by assumption) ?_
              case hZ202 => (intro w hSw; (try dsimp only at hSw); go_simp; (try with_reducible rfl))
              (try simp only [Act.put, List.getElem_toArray, List.getElem_cons_zero, List.getElem_cons_succ, List.setIfInBounds_toArray, List.set_cons_zero, List.set_cons_succ])
              refine wpAnyH_take (i := 3) (v := undef) rfl (by kernel_rfl) (by kernel_rfl) (by kernel_rfl) (fun _ _ _ h => h) (Or.inr ⟨by rfl, rfl⟩) (by assumption) ?_
              (try simp only [Act.put, List.getElem_toArray, List.getElem_cons_zero, List.getElem_cons_succ, List.setIfInBounds_toArray, List.set_cons_zero, List.set_cons_succ])
              refine wpAnyH_take (i := 4) (v := undef) rfl (by kernel_rfl) (by kernel_rfl) (by kernel_rfl) (fun _ _ _ h => h) (Or.inr ⟨by rfl, rfl⟩) (by assumption) ?_
              (try simp only [Act.put, List.getElem_toArray, List.getElem_cons_zero, List.getElem_cons_succ, List.setIfInBounds_toArray, List.set_cons_zero, List.set_cons_succ])
              refine wpAnyH_take (i := 5) (v := undef) rfl (by kernel_rfl) (by kernel_rfl) (by kernel_rfl) (fun _ _ _ h => h) (Or.inr ⟨by rfl, rfl⟩) (by assumption) ?_
              (try simp only [Act.put, List.getElem_toArray, List.getElem_cons_zero, List.getElem_cons_succ, List.setIfInBounds_toArray, List.set_cons_zero, List.set_cons_succ])
              refine wpAnyH_take (i := 6) (v := undef) rfl (by kernel_rfl) (by kernel_rfl) (by kernel_rfl) (fun _ _ _ h => h) (Or.inr ⟨by rfl, rfl⟩) (by assumption) ?_
              (try simp only [Act.put, List.getElem_toArray, List.getElem_cons_zero, List.getElem_cons_succ, List.setIfInBounds_toArray, List.set_cons_zero, List.set_cons_succ])
              refine wpAnyH_take (i := 7) (v := undef) rfl (by kernel_rfl) (by kernel_rfl) (by kernel_rfl) (fun _ _ _ h => h) (Or.inr ⟨by rfl, rfl⟩) (by assumption) ?_
              (try simp only [Act.put, List.getElem_toArray, List.getElem_cons_zero, List.getElem_cons_succ, List.setIfInBounds_toArray, List.set_cons_zero, List.set_cons_succ])
              refine wpAnyH_take (i := 8) (v := undef) rfl (by kernel_rfl) (by kernel_rfl) (by kernel_rfl) (fun _ _ _ h => h) (Or.inr ⟨by rfl, rfl⟩) (by assumption) ?_
              (try simp only [Act.put, List.getElem_toArray, List.getElem_cons_zero, List.getElem_cons_succ, List.setIfInBounds_toArray, List.set_cons_zero, List.set_cons_succ])
              refine wpAnyH_take (i := 9) (v := undef) rfl (by kernel_rfl) (by kernel_rfl) (by kernel_rfl) (fun _ _ _ h => h) (Or.inr ⟨by rfl, rfl⟩) (by assumption) ?_
              (try simp only [Act.put, List.getElem_toArray, List.getElem_cons_zero, List.getElem_cons_succ, List.setIfInBounds_toArray, List.set_cons_zero, List.set_cons_succ])
              refine wpAnyH_take (i := 10) (v := undef) rfl (by kernel_rfl) (by kernel_rfl) (by kernel_rfl) (fun _ _ _ h => h) (Or.inr ⟨by rfl, rfl⟩) (by assumption) ?_
              (try simp only [Act.put, List.getElem_toArray, List.getElem_cons_zero, List.getElem_cons_succ, List.setIfInBounds_toArray, List.set_cons_zero, List.set_cons_succ])
              refine wpAnyH_take (i := 11) (v := undef) rfl (by kernel_rfl) (by kernel_rfl) (by kernel_rfl) (fun _ _ _ h => h) (Or.inr ⟨by rfl, rfl⟩) (by assumption) ?_
              (try simp only [Act.put, List.getElem_toArray, List.getElem_cons_zero, List.getElem_cons_succ, List.setIfInBounds_toArray, List.set_cons_zero, List.set_cons_succ])
              refine wpAnyH_take (i := 12) (v := undef) rfl (by kernel_rfl) (by kernel_rfl) (by kernel_rfl) (fun _ _ _ h => h) (Or.inr ⟨by rfl, rfl⟩) (by assumption) ?_
              (try simp only [Act.put, List.getElem_toArray, List.getElem_cons_zero, List.getElem_cons_succ, List.setIfInBounds_toArray, List.set_cons_zero, List.set_cons_succ])
              refine wpAnyH_take (i := 13) (v := undef) rfl (by kernel_rfl) (by kernel_rfl) (by kernel_rfl) (fun _ _ _ h => h) (Or.inr ⟨by rfl, rfl⟩) (by assumption) ?_
              (try simp only [Act.put, List.getElem_toArray, List.getElem_cons_zero, List.getElem_cons_succ, List.setIfInBounds_toArray, List.set_cons_zero, List.set_cons_succ])
              refine wpAnyH_take (i := 14) (v := undef) rfl (by kernel_rfl) (by kernel_rfl) (by kernel_rfl) (fun _ _ _ h => h) (Or.inr ⟨by rfl, rfl⟩) (by assumption) ?_
              (try simp only [Act.put, List.getElem_toArray, List.getElem_cons_zero, List.getElem_cons_succ, List.setIfInBounds_toArray, List.set_cons_zero, List.set_cons_succ])
              refine wpAnyH_take (i := 15) (v := undef) rfl (by kernel_rfl) (by kernel_rfl) (by kernel_rfl) (fun _ _ _ h => h) (Or.inr ⟨by rfl, rfl⟩) (by assumption) ?_
              (try simp only [Act.put, List.getElem_toArray, List.getElem_cons_zero, List.getElem_cons_succ, List.setIfInBounds_toArray, List.set_cons_zero, List.set_cons_succ])
              refine wpAnyH_take (i := 16) (v := undef) rfl (by kernel_rfl) (by kernel_rfl) (by kernel_rfl) (fun _ _ _ h => h) (Or.inr ⟨by rfl, rfl⟩) (by assumption) ?_
              (try simp only [Act.put, List.getElem_toArray, List.getElem_cons_zero, List.getElem_cons_succ, List.setIfInBounds_toArray, List.set_cons_zero, List.set_cons_succ])
              refine wpAnyH_take (i := 17) (v := undef) rfl (by kernel_rfl) (by kernel_rfl) (by kernel_rfl) (fun _ _ _ h => h) (Or.inr ⟨by rfl, rfl⟩) (by assumption) ?_
              (try simp only [Act.put, List.getElem_toArray, List.getElem_cons_zero, List.getElem_cons_succ, List.setIfInBounds_toArray, List.set_cons_zero, List.set_cons_succ])
              refine wpAnyH_take (i := 18) (v := undef) rfl (by kernel_rfl) (by kernel_rfl) (by kernel_rfl) (fun _ _ _ h => h) (Or.inr ⟨by rfl, rfl⟩) (by assumption) ?_
              (try simp only [Act.put, List.getElem_toArray, List.getElem_cons_zero, List.getElem_cons_succ, List.setIfInBounds_toArray, List.set_cons_zero, List.set_cons_succ])
              refine wpAnyH_take (i := 19) (v := ?vZ219) rfl (by kernel_rfl) (by kernel_rfl) (by kernel_rfl) (fun _ _ _ h => h) (Or.inl ⟨by rfl, ?hZ219⟩) (by assumption) ?_
              case hZ219 => (intro w hSw; (try dsimp only at hSw); go_simp; (try with_reducible rfl))
              (try simp only [Act.put, List.getElem_toArray, List.getElem_cons_zero, List.getElem_cons_succ, List.setIfInBounds_toArray, List.set_cons_zero, List.set_cons_succ])
              refine wpAnyH_done (by kernel_rfl) ?_ _
              go_wp2
              go_roundw
              case rel => exact ⟨1, by go_num, by omega, Lib.hid (fun j j1 j2 => by omega), hb.trans (by go_grown)⟩
              case measure => simp only [intOf]; omega
            · obtain ⟨j, rfl⟩ : ∃ j, k = j + 1 := ⟨k - 1, by omega⟩
              have k0 : (0 : Int) ≤ (j : Int) := by omega
              have k1 : (0 : Int) ≤ (j : Int) + 1 := by omega
              have k2 : (j : Int) + 1 < (n : Int) := by omega
              have k3 : (j : Int) < (n : Int) := by omega
              have k4 : (j : Int) + 1 - 1 = j := by omega
              have k5 : ((j : Int) + 1).toNat = j + 1 := by omega
              have k6 : (0 : Int) < (j : Int) + 1 := by omega
              rw [show ((j + 1 : Nat) : Int) = (j : Int) + 1 by omega]
              obtain ⟨f1, hf1⟩ : ∃ t, L.getD j z3 = t := ⟨_, rfl⟩
              obtain ⟨T, B, S⟩ := f1
              obtain ⟨q0, q1, q2⟩ := HL.out.cellAt HN.out hg hb (show j < n by omega) hf1
              have HP := Lib.hid hf1
              clear hf1 hk0
              obtain ⟨V, hV⟩ := chk_sy HH.out j HK.out
              rw [HP.out] at hV
              have tb : -1000000 ≤ T ∧ T ≤ 1000000 := ⟨hV.t1, hV.t2⟩
              have bb : 1 ≤ B ∧ B ≤ 1000000 := ⟨hV.b1, hV.b2⟩
              have sb : -1 ≤ S ∧ S ≤ 1 := by have := hV.sign; simp only at this; omega
              have bo := Lib.hid hV.odd
              simp only at tb bb sb bo
              clear hV
              go_wp2_with fail
              have F : ((wr.alloc (.cells #[.int .i64 x, .int .i64 y, .int .i64 z] 61)).cell? ⟨g, j * 3, none⟩ = some (.int .i64 T) ∧ (wr.alloc (.cells #[.int .i64 x, .int .i64 y, .int .i64 z] 61)).cell? ⟨g, j * 3 + 1, none⟩ = some (.int .i64 B) ∧ (wr.alloc (.cells #[.int .i64 x, .int .i64 y, .int .i64 z] 61)).cell? ⟨g, j * 3 + 2, none⟩ = some (.int .i64 S)) ∧ ((wr.alloc (.cells #[.int .i64 x, .int .i64 y, .int .i64 z] 61)).cell? ⟨wr.heap.size, 0, none⟩ = some (.int .i64 x) ∧ (wr.alloc (.cells #[.int .i64 x, .int .i64 y, .int .i64 z] 61)).cell? ⟨wr.heap.size, 1, none⟩ = some (.int .i64 y) ∧ (wr.alloc (.cells #[.int .i64 x, .int .i64 y, .int .i64 z] 61)).cell? ⟨wr.heap.size, 2, none⟩ = some (.int .i64 z)) ∧ wr.heap.size < (wr.alloc (.cells #[.int .i64 x, .int .i64 y, .int .i64 z] 61)).heap.size ∧ Below wr.heap.size wr (wr.alloc (.cells #[.int .i64 x, .int .i64 y, .int .i64 z] 61)) :=
                ⟨⟨by rw [World.cell?_alloc_lt _ _ _ (by exact hgr)]; exact q0, by rw [World.cell?_alloc_lt _ _ _ (by exact hgr)]; exact q1, by rw [World.cell?_alloc_lt _ _ _ (by exact hgr)]; exact q2⟩, ⟨by simp, by simp, by simp⟩, by simp, (Below.refl _ _).alloc (Nat.le_refl _) _⟩
              clear q0 q1 q2 r0 r1 r2
              revert F
              generalize (wr.alloc (.cells #[.int .i64 x, .int .i64 y, .int .i64 z] 61)) = W5
              intro F
              obtain ⟨⟨q0, q1, q2⟩, ⟨r0, r1, r2⟩, hgb, hB5⟩ := F
              have hg5 := Nat.lt_of_lt_of_le hgr hB5.size
              have hb5 := hb.trans (hB5.mono hsz)
              have hsz5 := hb5.size
              have w2 : IntKind.i64.wrap (j : Int) = (j : Int) := IntWalk.i64_in _ (by omega)
              have w1' : IntKind.i64.wrap ((j : Int) + 1 - 1) = (j : Int) := by rw [k4]; exact IntWalk.i64_in _ (by omega)
              rcases he : endB T with _ | _
              · by_cases hx1 : x = sucT T B
                · have e1 : (x == sucT T B) = true := by rw [beq_iff_eq]; exact hx1
                  by_cases hx2 : y = sucB T B
                  · have e2 : (y == sucB T B) = true := by rw [beq_iff_eq]; exact hx2
                    by_cases hx3 : z = sucS T B S
                    · have e3 : (z == sucS T B S) = true := by rw [beq_iff_eq]; exact hx3
                      have HC := Lib.hid (chk_yes HP.out HQ.out he ⟨hx1, hx2, hx3⟩)
                      clear hx1 hx2 hx3
                      go_region_held3 (fun w' => (w'.cell? ⟨g, j * 3, none⟩ = some (.int .i64 T) ∧ w'.cell? ⟨g, j * 3 + 1, none⟩ = some (.int .i64 B) ∧ w'.cell? ⟨g, j * 3 + 2, none⟩ = some (.int .i64 S)) ∧ (w'.cell? ⟨wr.heap.size, 0, none⟩ = some (.int .i64 x) ∧ w'.cell? ⟨wr.heap.size, 1, none⟩ = some (.int .i64 y) ∧ w'.cell? ⟨wr.heap.size, 2, none⟩ = some (.int .i64 z)) ∧ Below W5.heap.size W5 w')
                        (first | exact ⟨⟨q0, q1, q2⟩, ⟨r0, r1, r2⟩, (Below.refl _ _).drew⟩ | (exact keep6 (by assumption) hg5 hgb (by assumption)) | go_keep)
                        (first | (go_at_call 42; refine (syEnd_is _ he).mono ?_; rintro e w' ⟨rfl, hb'⟩) | (go_at_call 43; refine (sySuc_any _ _ _ _ tb.1 tb.2 bb.1 bb.2 sb.1 sb.2).mono ?_; rintro e w' ⟨rfl, hb'⟩))
                      all_goals
                        rename_i hS9
                        have hb9 := hb5.trans (hS9.2.2.mono hsz5)
                        clear hS9 w2 w1'
                        go_wp2
                        go_roundw
                        case rel => exact ⟨j + 1 + 1, by go_num, by omega, Lib.hid (HK.out.succ HC.out), hb9⟩
                        case measure => simp only [intOf]; omega
                    · have e3 : (z == sucS T B S) = false := by rw [beq_eq_false_iff_ne]; exact hx3
                      have HC := Lib.hid (chk_ne HP.out HQ.out (fun h => hx3 h.2.2))
                      clear hx1 hx2 hx3
                      go_region_held3 (fun w' => (w'.cell? ⟨g, j * 3, none⟩ = some (.int .i64 T) ∧ w'.cell? ⟨g, j * 3 + 1, none⟩ = some (.int .i64 B) ∧ w'.cell? ⟨g, j * 3 + 2, none⟩ = some (.int .i64 S)) ∧ (w'.cell? ⟨wr.heap.size, 0, none⟩ = some (.int .i64 x) ∧ w'.cell? ⟨wr.heap.size, 1, none⟩ = some (.int .i64 y) ∧ w'.cell? ⟨wr.heap.size, 2, none⟩ = some (.int .i64 z)) ∧ Below W5.heap.size W5 w')
                        (first | exact ⟨⟨q0, q1, q2⟩, ⟨r0, r1, r2⟩, (Below.refl _ _).drew⟩ | (exact keep6 (by assumption) hg5 hgb (by assumption)) | go_keep)
                        (first | (go_at_call 42; refine (syEnd_is _ he).mono ?_; rintro e w' ⟨rfl, hb'⟩) | (go_at_call 43; refine (sySuc_any _ _ _ _ tb.1 tb.2 bb.1 bb.2 sb.1 sb.2).mono ?_; rintro e w' ⟨rfl, hb'⟩))
                      all_goals
                        rename_i hS9
                        have hb9 := hb5.trans (hS9.2.2.mono hsz5)
                        clear hS9 w2 w1'
                        have HV := Lib.hid (isRP_chk (L := L) (k := j + 1) (by omega) (by rw [HN.out]; exact hlt) HC.out)
                        go_wp2
                        go_ret
                        exact ⟨by rw [HV.out]; try rfl, hb9⟩
                  · have e2 : (y == sucB T B) = false := by rw [beq_eq_false_iff_ne]; exact hx2
                    have HC := Lib.hid (chk_ne HP.out HQ.out (fun h => hx2 h.2.1))
                    clear hx1 hx2
                    go_region_held3 (fun w' => (w'.cell? ⟨g, j * 3, none⟩ = some (.int .i64 T) ∧ w'.cell? ⟨g, j * 3 + 1, none⟩ = some (.int .i64 B) ∧ w'.cell? ⟨g, j * 3 + 2, none⟩ = some (.int .i64 S)) ∧ (w'.cell? ⟨wr.heap.size, 0, none⟩ = some (.int .i64 x) ∧ w'.cell? ⟨wr.heap.size, 1, none⟩ = some (.int .i64 y) ∧ w'.cell? ⟨wr.heap.size, 2, none⟩ = some (.int .i64 z)) ∧ Below W5.heap.size W5 w')
                      (first | exact ⟨⟨q0, q1, q2⟩, ⟨r0, r1, r2⟩, (Below.refl _ _).drew⟩ | (exact keep6 (by assumption) hg5 hgb (by assumption)) | go_keep)
                      (first | (go_at_call 42; refine (syEnd_is _ he).mono ?_; rintro e w' ⟨rfl, hb'⟩) | (go_at_call 43; refine (sySuc_any _ _ _ _ tb.1 tb.2 bb.1 bb.2 sb.1 sb.2).mono ?_; rintro e w' ⟨rfl, hb'⟩))
                    all_goals
                      rename_i hS9
                      have hb9 := hb5.trans (hS9.2.2.mono hsz5)
                      clear hS9 w2 w1'
                      have HV := Lib.hid (isRP_chk (L := L) (k := j + 1) (by omega) (by rw [HN.out]; exact hlt) HC.out)
                      go_wp2
                      go_ret
                      exact ⟨by rw [HV.out]; try rfl, hb9⟩
                · have e1 : (x == sucT T B) = false := by rw [beq_eq_false_iff_ne]; exact hx1
                  have HC := Lib.hid (chk_ne HP.out HQ.out (fun h => hx1 h.1))
                  clear hx1
                  go_region_held3 (fun w' => (w'.cell? ⟨g, j * 3, none⟩ = some (.int .i64 T) ∧ w'.cell? ⟨g, j * 3 + 1, none⟩ = some (.int .i64 B) ∧ w'.cell? ⟨g, j * 3 + 2, none⟩ = some (.int .i64 S)) ∧ (w'.cell? ⟨wr.heap.size, 0, none⟩ = some (.int .i64 x) ∧ w'.cell? ⟨wr.heap.size, 1, none⟩ = some (.int .i64 y) ∧ w'.cell? ⟨wr.heap.size, 2, none⟩ = some (.int .i64 z)) ∧ Below W5.heap.size W5 w')
                    (first | exact ⟨⟨q0, q1, q2⟩, ⟨r0, r1, r2⟩, (Below.refl _ _).drew⟩ | (exact keep6 (by assumption) hg5 hgb (by assumption)) | go_keep)
                    (first | (go_at_call 42; refine (syEnd_is _ he).mono ?_; rintro e w' ⟨rfl, hb'⟩) | (go_at_call 43; refine (sySuc_any _ _ _ _ tb.1 tb.2 bb.1 bb.2 sb.1 sb.2).mono ?_; rintro e w' ⟨rfl, hb'⟩))
                  all_goals
                    rename_i hS9
                    have hb9 := hb5.trans (hS9.2.2.mono hsz5)
                    clear hS9 w2 w1'
                    have HV := Lib.hid (isRP_chk (L := L) (k := j + 1) (by omega) (by rw [HN.out]; exact hlt) HC.out)
                    go_wp2
                    go_ret
                    exact ⟨by rw [HV.out]; try rfl, hb9⟩
              · have HC := Lib.hid (chk_end HP.out he)
                refine wp_region_held_drew (S := (fun w' => (w'.cell? ⟨g, j * 3, none⟩ = some (.int .i64 T) ∧ w'.cell? ⟨g, j * 3 + 1, none⟩ = some (.int .i64 B) ∧ w'.cell? ⟨g, j * 3 + 2, none⟩ = some (.int .i64 S)) ∧ (w'.cell? ⟨wr.heap.size, 0, none⟩ = some (.int .i64 x) ∧ w'.cell? ⟨wr.heap.size, 1, none⟩ = some (.int .i64 y) ∧ w'.cell? ⟨wr.heap.size, 2, none⟩ = some (.int .i64 z)) ∧ Below W5.heap.size W5 w')) (by kernel_rfl) ?_ (fun hHeld => ?_)
                · exact ⟨⟨q0, q1, q2⟩, ⟨r0, r1, r2⟩, (Below.refl _ _).drew⟩
                refine wpAnyH_take (i := 0) (v := ?vZ100) rfl (by kernel_rfl) (by kernel_rfl) (by kernel_rfl) (fun _ _ _ h => h) (Or.inl ⟨by rfl, ?hZ100⟩) (by assumption) ?_
                case hZ100 => (intro w hSw; (try dsimp only at hSw); go_simp; (try with_reducible rfl))
                (try simp only [Act.put, List.getElem_toArray, List.getElem_cons_zero, List.getElem_cons_succ, List.setIfInBounds_toArray, List.set_cons_zero, List.set_cons_succ])
                refine wpAnyH_take (i := 1) (v := ?vZ101) rfl (by kernel_rfl) (by kernel_rfl) (by kernel_rfl) (fun _ _ _ h => h) (Or.inl ⟨by rfl, ?hZ101⟩) (by assumption) ?_
                case hZ101 => (intro w hSw; (try dsimp only at hSw); go_simp; (try with_reducible rfl))
                (try simp only [Act.put, List.getElem_toArray, List.getElem_cons_zero, List.getElem_cons_succ, List.setIfInBounds_toArray, List.set_cons_zero, List.set_cons_succ])
                refine wpAnyH_take (i := 2) (v := ?vZ102) rfl (by kernel_rfl) (by kernel_rfl) (by kernel_rfl) (fun _ _ _ h => h) (Or.inl ⟨by rfl, ?hZ102⟩) (by assumption) ?_
                case hZ102 => (intro w hSw; (try dsimp only at hSw); go_simp; (try with_reducible rfl))
                (try simp only [Act.put, List.getElem_toArray, List.getElem_cons_zero, List.getElem_cons_succ, List.setIfInBounds_toArray, List.set_cons_zero, List.set_cons_succ])
                refine wpAnyH_take (i := 3) (v := ?vZ103) rfl (by kernel_rfl) (by kernel_rfl) (by kernel_rfl) (fun _ _ _ h => h) (Or.inl ⟨by rfl, ?hZ103⟩) (by assumption) ?_
                case hZ103 => (intro w hSw; (try dsimp only at hSw); go_simp; (try with_reducible rfl))
                (try simp only [Act.put, List.getElem_toArray, List.getElem_cons_zero, List.getElem_cons_succ, List.setIfInBounds_toArray, List.set_cons_zero, List.set_cons_succ])
                refine wpAnyH_take (i := 4) (v := ?vZ104) rfl (by kernel_rfl) (by kernel_rfl) (by kernel_rfl) (fun _ _ _ h => h) (Or.inl ⟨by rfl, ?hZ104⟩) (by assumption) ?_
                case hZ104 => (intro w hSw; (try dsimp only at hSw); go_simp; (try with_reducible rfl))
                (try simp only [Act.put, List.getElem_toArray, List.getElem_cons_zero, List.getElem_cons_succ, List.setIfInBounds_toArray, List.set_cons_zero, List.set_cons_succ])
                refine wpAnyH_take (i := 5) (v := ?vZ105) rfl (by kernel_rfl) (by kernel_rfl) (by kernel_rfl) (fun _ _ _ h => h) (Or.inl ⟨by rfl, ?hZ105⟩) (by assumption) ?_
                case hZ105 => (intro w hSw; (try dsimp only at hSw); go_simp; (try with_reducible rfl))
                (try simp only [Act.put, List.getElem_toArray, List.getElem_cons_zero, List.getElem_cons_succ, List.setIfInBounds_toArray, List.set_cons_zero, List.set_cons_succ])
                refine wpAnyH_take (i := 6) (v := ?vZ106) rfl (by kernel_rfl) (by kernel_rfl) (by kernel_rfl) (fun _ _ _ h => h) (Or.inl ⟨by rfl, ?hZ106⟩) (by assumption) ?_
                case hZ106 => (intro w hSw; (try dsimp only at hSw); go_simp; (try with_reducible rfl))
                (try simp only [Act.put, List.getElem_toArray, List.getElem_cons_zero, List.getElem_cons_succ, List.setIfInBounds_toArray, List.set_cons_zero, List.set_cons_succ])
                refine wpAnyH_take (i := 7) (v := ?vZ107) rfl (by kernel_rfl) (by kernel_rfl) (by kernel_rfl) (fun _ _ _ h => h) (Or.inl ⟨by rfl, ?hZ107⟩) (by assumption) ?_
                case hZ107 => (intro w hSw; (try dsimp only at hSw); go_simp; (try with_reducible rfl))
                (try simp only [Act.put, List.getElem_toArray, List.getElem_cons_zero, List.getElem_cons_succ, List.setIfInBounds_toArray, List.set_cons_zero, List.set_cons_succ])
                refine wpAnyH_ready (rs := [8]) (by kernel_rfl) (by simp) ?_
                refine AllReadyH.cons (o := _) rfl (fun K hK => ?_) AllReadyH.nil
                go_simp
                ((go_at_call 42; refine (syEnd_any T B S _).mono ?_; rintro e w9 ⟨rfl, hb9⟩))
                simp only [he]
                go_wp2_with fail
                refine hK.out _ _ ?_ (fun hHeld2 => ?_)
                · exact keep6 hHeld hg5 hgb hb9
                clear hK K hHeld
                (try simp only [Act.put, List.getElem_toArray, List.getElem_cons_zero, List.getElem_cons_succ, List.setIfInBounds_toArray, List.set_cons_zero, List.set_cons_succ])
                refine wpAnyH_take (i := 9) (v := ?vZ109) rfl (by kernel_rfl) (by kernel_rfl) (by kernel_rfl) (fun _ _ _ h => h) (Or.inl ⟨by rfl, ?hZ109⟩) (by assumption) ?_
                case hZ109 => (intro w hSw; (try dsimp only at hSw); go_simp; (try with_reducible rfl))
                (try simp only [Act.put, List.getElem_toArray, List.getElem_cons_zero, List.getElem_cons_succ, List.setIfInBounds_toArray, List.set_cons_zero, List.set_cons_succ])
                refine wpAnyH_take (i := 10) (v := undef) rfl (by kernel_rfl) (by kernel_rfl) (by kernel_rfl) (fun _ _ _ h => h) (Or.inr ⟨by rfl, rfl⟩) (by assumption) ?_
                (try simp only [Act.put, List.getElem_toArray, List.getElem_cons_zero, List.getElem_cons_succ, List.setIfInBounds_toArray, List.set_cons_zero, List.set_cons_succ])
                refine wpAnyH_take (i := 11) (v := undef) rfl (by kernel_rfl) (by kernel_rfl) (by kernel_rfl) (fun _ _ _ h => h) (Or.inr ⟨by rfl, rfl⟩) (by assumption) ?_
                (try simp only [Act.put, List.getElem_toArray, List.getElem_cons_zero, List.getElem_cons_succ, List.setIfInBounds_toArray, List.set_cons_zero, List.set_cons_succ])
                refine wpAnyH_take (i := 12) (v := undef) rfl (by kernel_rfl) (by kernel_rfl) (by kernel_rfl) (fun _ _ _ h => h) (Or.inr ⟨by rfl, rfl⟩) (by assumption) ?_
                (try simp only [Act.put, List.getElem_toArray, List.getElem_cons_zero, List.getElem_cons_succ, List.setIfInBounds_toArray, List.set_cons_zero, List.set_cons_succ])
                refine wpAnyH_take (i := 13) (v := undef) rfl (by kernel_rfl) (by kernel_rfl) (by kernel_rfl) (fun _ _ _ h => h) (Or.inr ⟨by rfl, rfl⟩) (by assumption) ?_
                (try simp only [Act.put, List.getElem_toArray, List.getElem_cons_zero, List.getElem_cons_succ, List.setIfInBounds_toArray, List.set_cons_zero, List.set_cons_succ])
                refine wpAnyH_take (i := 14) (v := undef) rfl (by kernel_rfl) (by kernel_rfl) (by kernel_rfl) (fun _ _ _ h => h) (Or.inr ⟨by rfl, rfl⟩) (by assumption) ?_
                (try simp only [Act.put, List.getElem_toArray, List.getElem_cons_zero, List.getElem_cons_succ, List.setIfInBounds_toArray, List.set_cons_zero, List.set_cons_succ])
                refine wpAnyH_take (i := 15) (v := undef) rfl (by kernel_rfl) (by kernel_rfl) (by kernel_rfl) (fun _ _ _ h => h) (Or.inr ⟨by rfl, rfl⟩) (by assumption) ?_
                (try simp only [Act.put, List.getElem_toArray, List.getElem_cons_zero, List.getElem_cons_succ, List.setIfInBounds_toArray, List.set_cons_zero, List.set_cons_succ])
                refine wpAnyH_take (i := 16) (v := undef) rfl (by kernel_rfl) (by kernel_rfl) (by kernel_rfl) (fun _ _ _ h => h) (Or.inr ⟨by rfl, rfl⟩) (by assumption) ?_
                (try simp only [Act.put, List.getElem_toArray, List.getElem_cons_zero, List.getElem_cons_succ, List.setIfInBounds_toArray, List.set_cons_zero, List.set_cons_succ])
                refine wpAnyH_take (i := 17) (v := undef) rfl (by kernel_rfl) (by kernel_rfl) (by kernel_rfl) (fun _ _ _ h => h) (Or.inr ⟨by rfl, rfl⟩) (by assumption) ?_
                (try simp only [Act.put, List.getElem_toArray, List.getElem_cons_zero, List.getElem_cons_succ, List.setIfInBounds_toArray, List.set_cons_zero, List.set_cons_succ])
                refine wpAnyH_take (i := 18) (v := ?vZ118) rfl (by kernel_rfl) (by kernel_rfl) (by kernel_rfl) (fun _ _ _ h => h) (Or.inl ⟨by rfl, ?hZ118⟩) (by assumption) ?_
                case hZ118 => (intro w hSw; (try dsimp only at hSw); go_simp; (try with_reducible rfl))
                (try simp only [Act.put, List.getElem_toArray, List.getElem_cons_zero, List.getElem_cons_succ, List.setIfInBounds_toArray, List.set_cons_zero, List.set_cons_succ])
                refine wpAnyH_take (i := 19) (v := ?vZ119) rfl (by kernel_rfl) (by kernel_rfl) (by kernel_rfl) (fun _ _ _ h => h) (Or.inl ⟨by rfl, ?hZ119⟩) (by assumption) ?_
                case hZ119 => (intro w hSw; (try dsimp only at hSw); go_simp; (try with_reducible rfl))
                (try simp only [Act.put, List.getElem_toArray, List.getElem_cons_zero, List.getElem_cons_succ, List.setIfInBounds_toArray, List.set_cons_zero, List.set_cons_succ])
                refine wpAnyH_done (by kernel_rfl) ?_ _
                have HV := Lib.hid (isRP_chk (L := L) (k := j + 1) (by omega) (by rw [HN.out]; exact hlt) HC.out)
                have hb10 := hb5.trans (hHeld2.2.2.mono hsz5)
                clear hHeld2 w2 w1'
                go_wp2
                go_ret
                exact ⟨by rw [HV.out]; try rfl, hb10⟩
          · have hke : k = n := by omega
            obtain ⟨m, rfl⟩ : ∃ m, n = m + 1 := ⟨n - 1, by omega⟩
            obtain ⟨f1, hf1⟩ : ∃ t, L.getD m z3 = t := ⟨_, rfl⟩
            obtain ⟨T, B, S⟩ := f1
            obtain ⟨q0, q1, q2⟩ := HL.out.cellAt HN.out hg hb (show m < m + 1 by omega) hf1
            have HV := Lib.hid (show isRP L = endB T by
              rw [isRP_end (by rw [HN.out]; exact n1) HH.out (by rw [HN.out, ← hke]; exact HK.out), HN.out, Nat.add_sub_cancel, hf1])
            subst hke
            have w1' : ((m + 1 : Nat) : Int) - 1 = m := by omega
            have w2' : (m : Int) + 1 - 1 = m := by omega
            have k0 : (0 : Int) ≤ (m : Int) := by omega
            clear hf1 hlt
            go_wp2_with fail
            ((with_reducible refine (syEnd_any T B S _).mono ?_); rintro e w2 ⟨rfl, hb2⟩)
            go_wp2
            go_ret
            exact ⟨by rw [HV.out]; try rfl, hb.trans (hb2.mono hsz)⟩
  · have s1 : (S0 != 1) = true := by rw [bne_iff_ne]; exact hS
    have HV := Lib.hid (isRP_hd (L := L) (by rw [HD.out, decide_eq_false hS]; rfl))
    clear hS
    go_enter Try.func9, Try.ntmps9
    go_wp2
    go_ret
    exact ⟨by rw [HV.out]; try rfl, (by repeat' (first | (with_reducible exact Below.refl _ _) | (with_reducible assumption) | (with_reducible refine Below.alloc ?_ ?_ _) | (with_reducible refine Below.drew ?_) | (with_reducible refine below_drewN ?_ _) | (with_reducible refine Below.setCell ?_ ?_ _) | go_size))⟩
end Go.Proofs.Ytfpedehpmgcmnaa
