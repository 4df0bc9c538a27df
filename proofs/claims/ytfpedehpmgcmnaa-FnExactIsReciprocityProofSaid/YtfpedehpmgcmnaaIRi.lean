/-
  'IsReciprocityProof' of the program.
-/
import Derived.Test.YtfpedehpmgcmnaaIRP
import Derived.Deep.RegionHeld3
import Derived.IntWalk
namespace Go.Proofs.Ytfpedehpmgcmnaa
open Go.RowKit
set_option linter.unusedSimpArgs false
set_option linter.unusedVariables false

theorem ends_is {T B S : Int} {v : Bool} (w : World) (h : endB T = v) : Calls Try.prog 47 #[stepV T B S] w fun e w' => e = .returned (.bool v) ∧ Below w.heap.size w w' := by
  subst h; exact ends_any T B S w
theorem syEnd_is {T B S : Int} {v : Bool} (w : World) (h : endB T = v) : Calls Try.prog 42 #[stepV T B S] w fun e w' => e = .returned (.bool v) ∧ Below w.heap.size w w' := by
  subst h; exact syEnd_any T B S w
theorem keep6 {w w1 w2 : World} {g g' i j : Nat} {T B S x y z : Int} (h : ((w1.cell? ⟨g, i, none⟩ = some (.int .i64 T) ∧ w1.cell? ⟨g, i + 1, none⟩ = some (.int .i64 B) ∧ w1.cell? ⟨g, i + 2, none⟩ = some (.int .i64 S)) ∧
  (w1.cell? ⟨g', j, none⟩ = some (.int .i64 x) ∧ w1.cell? ⟨g', j + 1, none⟩ = some (.int .i64 y) ∧ w1.cell? ⟨g', j + 2, none⟩ = some (.int .i64 z)) ∧ Below w.heap.size w w1)) (hg : g < w.heap.size) (hg' : g' < w.heap.size) (hb : Below w1.heap.size w1 w2) :
  ((w2.cell? ⟨g, i, none⟩ = some (.int .i64 T) ∧ w2.cell? ⟨g, i + 1, none⟩ = some (.int .i64 B) ∧ w2.cell? ⟨g, i + 2, none⟩ = some (.int .i64 S)) ∧
  (w2.cell? ⟨g', j, none⟩ = some (.int .i64 x) ∧ w2.cell? ⟨g', j + 1, none⟩ = some (.int .i64 y) ∧ w2.cell? ⟨g', j + 2, none⟩ = some (.int .i64 z)) ∧ Below w.heap.size w w2) := by
  obtain ⟨⟨a1, a2, a3⟩, ⟨b1, b2, b3⟩, hl⟩ := h
  have hs := hl.size
  have hc := (bcell hb).1
  refine ⟨⟨?_, ?_, ?_⟩, ⟨?_, ?_, ?_⟩, hl.trans (hb.mono hs)⟩ <;> (rw [hc _ _ (by omega)]; assumption)
theorem StLst.cellAt {w w1 : World} {base g cap n : Nat} {L : List T3} (h : StLst w1 base (.slice (some ⟨g, 0, none⟩) n cap) L) (hn : L.length = n) (hg : g < w1.heap.size) (hb : Below w1.heap.size w1 w) {k : Nat} {x y z : Int} (hk : k < n) (hx : L.getD k z3 = (x, y, z)) :
    w.cell? ⟨g, k * 3, none⟩ = some (.int .i64 x) ∧ w.cell? ⟨g, k * 3 + 1, none⟩ = some (.int .i64 y) ∧ w.cell? ⟨g, k * 3 + 2, none⟩ = some (.int .i64 z) := by
  subst hn
  have := h.cell hk
  rw [hx] at this
  rw [(bcell hb).1 _ _ hg, (bcell hb).1 _ _ hg, (bcell hb).1 _ _ hg]
  exact this
set_option maxHeartbeats 3200000 in
theorem implIR_some (g c n : Nat) (L : List T3) (w : World) {b : Nat} (hl : StLst w b (.slice (some ⟨g, 0, none⟩) n c) L) (hn : L.length = n) (hg : g < w.heap.size) (h1 : 0 < n) (h3 : n ≤ 1048576) (hin : ∀ k, k < n → In64 (L.getD k z3).1 ∧ In64 (L.getD k z3).2.1 ∧ In64 (L.getD k z3).2.2) :
    Calls Try.prog 11 #[.slice (some ⟨g, 0, none⟩) n c] w fun e w' => e = .returned (.bool (isRP L)) ∧ Below w.heap.size w w' := by
  have n1 : 1 ≤ n := by omega
  have n0 : ((n : Int) == 0) = false := by rw [beq_eq_false_iff_ne]; omega
  obtain ⟨f0, hf0⟩ : ∃ t, L.getD 0 z3 = t := ⟨_, rfl⟩
  obtain ⟨T0, B0, S0⟩ := f0
  obtain ⟨p0, p1, p2⟩ := hl.cellAt hn hg (Below.refl _ _) (show 0 < n by omega) hf0
  simp only [Nat.zero_mul, Nat.zero_add] at p0 p1 p2
  have iB0 : In64 B0 := by have := (hin 0 (by omega)).2.1; rw [hf0] at this; exact this
  have HL := Lib.hid hl
  have HN := Lib.hid hn
  clear hl hn hin
  have HD := Lib.hid (show hdB L = (decide (S0 = 1) && (oddM B0 && good T0)) by unfold hdB; rw [hf0])
  by_cases hS : S0 = 1
  · subst hS
    rcases hB : oddM B0 with _ | _
    · have HV := Lib.hid (isRP_hd (L := L) (by rw [HD.out, hB]; simp))
      go_enter Try.func11, Try.ntmps11
      go_wp2_with fail
      ((with_reducible refine (isOddModulus_any B0 _ iB0).mono ?_); rintro e w1 ⟨rfl, hb1⟩)
      obtain ⟨hc1, hf1⟩ := bcell hb1
      have hz1 := hb1.size
      try simp only [World.size_alloc, World.size_drew, World.size_setCell] at hz1
      try have hs1 : w.heap.size < w1.heap.size := by omega
      have bl1 : Below w.heap.size w w1 := Below.trans (by go_grown) (hb1.mono (by go_size))
      go_wp2
      go_ret
      exact ⟨by rw [HV.out]; try rfl, (by repeat' (first | (with_reducible exact Below.refl _ _) | (with_reducible assumption) | (with_reducible refine Below.alloc ?_ ?_ _) | (with_reducible refine Below.drew ?_) | (with_reducible refine below_drewN ?_ _) | (with_reducible refine Below.setCell ?_ ?_ _) | go_size))⟩
    · rcases hT : good T0 with _ | _
      · have HV := Lib.hid (isRP_hd (L := L) (by rw [HD.out, hT]; simp))
        go_enter Try.func11, Try.ntmps11
        go_wp2_with fail
        ((with_reducible refine (isOddModulus_any B0 _ iB0).mono ?_); rintro e w1 ⟨rfl, hb1⟩)
        obtain ⟨hc1, hf1⟩ := bcell hb1
        have hz1 := hb1.size
        try simp only [World.size_alloc, World.size_drew, World.size_setCell] at hz1
        try have hs1 : w.heap.size < w1.heap.size := by omega
        have bl1 : Below w.heap.size w w1 := Below.trans (by go_grown) (hb1.mono (by go_size))
        go_wp2_with fail
        ((with_reducible refine (are1 T0 _ _ (by simp)).mono ?_); rintro e w0 ⟨rfl, rfl⟩)
        go_wp2
        go_ret
        exact ⟨by rw [HV.out]; try rfl, (by repeat' (first | (with_reducible exact Below.refl _ _) | (with_reducible assumption) | (with_reducible refine Below.alloc ?_ ?_ _) | (with_reducible refine Below.drew ?_) | (with_reducible refine below_drewN ?_ _) | (with_reducible refine Below.setCell ?_ ?_ _) | go_size))⟩
      · have HH := Lib.hid (show hdB L = true by rw [HD.out, hB, hT]; rfl)
        go_enter Try.func11, Try.ntmps11
        go_wp2_with fail
        ((with_reducible refine (isOddModulus_any B0 _ iB0).mono ?_); rintro e w1 ⟨rfl, hb1⟩)
        obtain ⟨hc1, hf1⟩ := bcell hb1
        have hz1 := hb1.size
        try simp only [World.size_alloc, World.size_drew, World.size_setCell] at hz1
        try have hs1 : w.heap.size < w1.heap.size := by omega
        have bl1 : Below w.heap.size w w1 := Below.trans (by go_grown) (hb1.mono (by go_size))
        go_wp2_with fail
        ((with_reducible refine (are1 T0 _ _ (by simp)).mono ?_); rintro e w0 ⟨rfl, rfl⟩)
        clear hc1 hf1 hb1 p0 p1 p2 HD
        go_wp2
        go_loopw [3] (fun i wr => ∃ k : Nat, i = .int .i64 ((k : Int) + 1) ∧ k + 1 ≤ n ∧ Hid (ChkTo L (k + 1)) ∧ Below w.heap.size w wr) (fun i _ => n - (intOf i).toNat)
        case atStart => exact ⟨0, rfl, by omega, Lib.hid (fun j j1 j2 => by omega), (by repeat' (first | (with_reducible exact Below.refl _ _) | (with_reducible assumption) | (with_reducible refine Below.alloc ?_ ?_ _) | (with_reducible refine Below.drew ?_) | (with_reducible refine below_drewN ?_ _) | (with_reducible refine Below.setCell ?_ ?_ _) | go_size))⟩
        case round =>
          obtain ⟨k, rfl, hk, HK, hb⟩ := hrel
          have hgr := Nat.lt_of_lt_of_le hg hb.size
          have hsz := hb.size
          have k0 : (0 : Int) ≤ (k : Int) := by omega
          have k1 : (0 : Int) ≤ (k : Int) + 1 := by omega
          have k3 : (k : Int) < (n : Int) := by omega
          have k4 : (k : Int) + 1 - 1 = k := by omega
          have k5 : ((k : Int) + 1).toNat = k + 1 := by omega
          obtain ⟨f1, hf1⟩ : ∃ t, L.getD k z3 = t := ⟨_, rfl⟩
          obtain ⟨T, B, S⟩ := f1
          obtain ⟨q0, q1, q2⟩ := HL.out.cellAt HN.out hg hb (show k < n by omega) hf1
          have HP := Lib.hid hf1
          clear hf1
          by_cases hlt : k + 1 < n
          · have k2 : (k : Int) + 1 < (n : Int) := by omega
            obtain ⟨f2, hf2⟩ : ∃ t, L.getD (k + 1) z3 = t := ⟨_, rfl⟩
            obtain ⟨x, y, z⟩ := f2
            obtain ⟨r0, r1, r2⟩ := HL.out.cellAt HN.out hg hb hlt hf2
            have HQ := Lib.hid hf2
            clear hf2
            obtain ⟨V, hV⟩ := chk_sy HH.out k HK.out
            rw [HP.out] at hV
            have tb : -1000000 ≤ T ∧ T ≤ 1000000 := ⟨hV.t1, hV.t2⟩
            have bb : 1 ≤ B ∧ B ≤ 1000000 := ⟨hV.b1, hV.b2⟩
            have sb : -1 ≤ S ∧ S ≤ 1 := by have := hV.sign; simp only at this; omega
            have bo := Lib.hid hV.odd
            simp only at tb bb sb bo
            clear hV
            have w2 : IntKind.i64.wrap (k : Int) = (k : Int) := IntWalk.i64_in _ (by omega)
            have w1' : IntKind.i64.wrap ((k : Int) + 1 - 1) = (k : Int) := by rw [k4]; exact IntWalk.i64_in _ (by omega)
            rcases he : endB T with _ | _
            · by_cases hx1 : x = sucT T B
              · have e1 : (x == sucT T B) = true := by rw [beq_iff_eq]; exact hx1
                by_cases hx2 : y = sucB T B
                · have e2 : (y == sucB T B) = true := by rw [beq_iff_eq]; exact hx2
                  by_cases hx3 : z = sucS T B S
                  · have e3 : (z == sucS T B S) = true := by rw [beq_iff_eq]; exact hx3
                    have HC := Lib.hid (chk_yes HP.out HQ.out he ⟨hx1, hx2, hx3⟩)
                    clear hx1 hx2 hx3
                    go_wp2_with fail
                    go_region_held3 (fun w' => (w'.cell? ⟨g, k * 3, none⟩ = some (.int .i64 T) ∧ w'.cell? ⟨g, k * 3 + 1, none⟩ = some (.int .i64 B) ∧ w'.cell? ⟨g, k * 3 + 2, none⟩ = some (.int .i64 S)) ∧ (w'.cell? ⟨g, (k + 1) * 3, none⟩ = some (.int .i64 x) ∧ w'.cell? ⟨g, (k + 1) * 3 + 1, none⟩ = some (.int .i64 y) ∧ w'.cell? ⟨g, (k + 1) * 3 + 2, none⟩ = some (.int .i64 z)) ∧ Below wr.heap.size wr w')
                      (first | exact ⟨⟨q0, q1, q2⟩, ⟨r0, r1, r2⟩, (Below.refl _ _).drew⟩ | (exact keep6 (by assumption) hgr hgr (by assumption)) | go_keep)
                      (first | (go_at_call 47; refine (ends_is _ he).mono ?_; rintro e w' ⟨rfl, hb'⟩) | (go_at_call 48; refine (next_any _ _ _ _ tb.1 tb.2 bb.1 bb.2 bo.out sb.1 sb.2).mono ?_; rintro e w' ⟨rfl, hb'⟩))
                    all_goals
                      rename_i hS9
                      have hb9 := hb.trans (hS9.2.2.mono hsz)
                      clear hS9 w2 w1'
                      go_wp2
                      go_roundw
                      case rel => exact ⟨k + 1, by go_num, by omega, Lib.hid (HK.out.succ HC.out), hb9⟩
                      case measure => simp only [intOf]; omega
                  · have e3 : (z == sucS T B S) = false := by rw [beq_eq_false_iff_ne]; exact hx3
                    have HC := Lib.hid (chk_ne HP.out HQ.out (fun h => hx3 h.2.2))
                    clear hx1 hx2 hx3
                    go_wp2_with fail
                    go_region_held3 (fun w' => (w'.cell? ⟨g, k * 3, none⟩ = some (.int .i64 T) ∧ w'.cell? ⟨g, k * 3 + 1, none⟩ = some (.int .i64 B) ∧ w'.cell? ⟨g, k * 3 + 2, none⟩ = some (.int .i64 S)) ∧ (w'.cell? ⟨g, (k + 1) * 3, none⟩ = some (.int .i64 x) ∧ w'.cell? ⟨g, (k + 1) * 3 + 1, none⟩ = some (.int .i64 y) ∧ w'.cell? ⟨g, (k + 1) * 3 + 2, none⟩ = some (.int .i64 z)) ∧ Below wr.heap.size wr w')
                      (first | exact ⟨⟨q0, q1, q2⟩, ⟨r0, r1, r2⟩, (Below.refl _ _).drew⟩ | (exact keep6 (by assumption) hgr hgr (by assumption)) | go_keep)
                      (first | (go_at_call 47; refine (ends_is _ he).mono ?_; rintro e w' ⟨rfl, hb'⟩) | (go_at_call 48; refine (next_any _ _ _ _ tb.1 tb.2 bb.1 bb.2 bo.out sb.1 sb.2).mono ?_; rintro e w' ⟨rfl, hb'⟩))
                    all_goals
                      rename_i hS9
                      have hb9 := hb.trans (hS9.2.2.mono hsz)
                      clear hS9 w2 w1'
                      have HV := Lib.hid (isRP_chk (L := L) (k := k + 1) (by omega) (by rw [HN.out]; exact hlt) HC.out)
                      go_wp2
                      go_ret
                      exact ⟨by rw [HV.out]; try rfl, hb9⟩
                · have e2 : (y == sucB T B) = false := by rw [beq_eq_false_iff_ne]; exact hx2
                  have HC := Lib.hid (chk_ne HP.out HQ.out (fun h => hx2 h.2.1))
                  clear hx1 hx2
                  go_wp2_with fail
                  go_region_held3 (fun w' => (w'.cell? ⟨g, k * 3, none⟩ = some (.int .i64 T) ∧ w'.cell? ⟨g, k * 3 + 1, none⟩ = some (.int .i64 B) ∧ w'.cell? ⟨g, k * 3 + 2, none⟩ = some (.int .i64 S)) ∧ (w'.cell? ⟨g, (k + 1) * 3, none⟩ = some (.int .i64 x) ∧ w'.cell? ⟨g, (k + 1) * 3 + 1, none⟩ = some (.int .i64 y) ∧ w'.cell? ⟨g, (k + 1) * 3 + 2, none⟩ = some (.int .i64 z)) ∧ Below wr.heap.size wr w')
                    (first | exact ⟨⟨q0, q1, q2⟩, ⟨r0, r1, r2⟩, (Below.refl _ _).drew⟩ | (exact keep6 (by assumption) hgr hgr (by assumption)) | go_keep)
                    (first | (go_at_call 47; refine (ends_is _ he).mono ?_; rintro e w' ⟨rfl, hb'⟩) | (go_at_call 48; refine (next_any _ _ _ _ tb.1 tb.2 bb.1 bb.2 bo.out sb.1 sb.2).mono ?_; rintro e w' ⟨rfl, hb'⟩))
                  all_goals
                    rename_i hS9
                    have hb9 := hb.trans (hS9.2.2.mono hsz)
                    clear hS9 w2 w1'
                    have HV := Lib.hid (isRP_chk (L := L) (k := k + 1) (by omega) (by rw [HN.out]; exact hlt) HC.out)
                    go_wp2
                    go_ret
                    exact ⟨by rw [HV.out]; try rfl, hb9⟩
              · have e1 : (x == sucT T B) = false := by rw [beq_eq_false_iff_ne]; exact hx1
                have HC := Lib.hid (chk_ne HP.out HQ.out (fun h => hx1 h.1))
                clear hx1
                go_wp2_with fail
                go_region_held3 (fun w' => (w'.cell? ⟨g, k * 3, none⟩ = some (.int .i64 T) ∧ w'.cell? ⟨g, k * 3 + 1, none⟩ = some (.int .i64 B) ∧ w'.cell? ⟨g, k * 3 + 2, none⟩ = some (.int .i64 S)) ∧ (w'.cell? ⟨g, (k + 1) * 3, none⟩ = some (.int .i64 x) ∧ w'.cell? ⟨g, (k + 1) * 3 + 1, none⟩ = some (.int .i64 y) ∧ w'.cell? ⟨g, (k + 1) * 3 + 2, none⟩ = some (.int .i64 z)) ∧ Below wr.heap.size wr w')
                  (first | exact ⟨⟨q0, q1, q2⟩, ⟨r0, r1, r2⟩, (Below.refl _ _).drew⟩ | (exact keep6 (by assumption) hgr hgr (by assumption)) | go_keep)
                  (first | (go_at_call 47; refine (ends_is _ he).mono ?_; rintro e w' ⟨rfl, hb'⟩) | (go_at_call 48; refine (next_any _ _ _ _ tb.1 tb.2 bb.1 bb.2 bo.out sb.1 sb.2).mono ?_; rintro e w' ⟨rfl, hb'⟩))
                all_goals
                  rename_i hS9
                  have hb9 := hb.trans (hS9.2.2.mono hsz)
                  clear hS9 w2 w1'
                  have HV := Lib.hid (isRP_chk (L := L) (k := k + 1) (by omega) (by rw [HN.out]; exact hlt) HC.out)
                  go_wp2
                  go_ret
                  exact ⟨by rw [HV.out]; try rfl, hb9⟩
            · have HC := Lib.hid (chk_end HP.out he)
              go_wp2_with fail
              refine wp_region_held_drew (S := (fun w' => (w'.cell? ⟨g, k * 3, none⟩ = some (.int .i64 T) ∧ w'.cell? ⟨g, k * 3 + 1, none⟩ = some (.int .i64 B) ∧ w'.cell? ⟨g, k * 3 + 2, none⟩ = some (.int .i64 S)) ∧ (w'.cell? ⟨g, (k + 1) * 3, none⟩ = some (.int .i64 x) ∧ w'.cell? ⟨g, (k + 1) * 3 + 1, none⟩ = some (.int .i64 y) ∧ w'.cell? ⟨g, (k + 1) * 3 + 2, none⟩ = some (.int .i64 z)) ∧ Below wr.heap.size wr w')) (by kernel_rfl) ?_ (fun hHeld => ?_)
              · exact ⟨⟨q0, q1, q2⟩, ⟨r0, r1, r2⟩, (Below.refl _ _).drew⟩
              refine wpAnyH_take (i := 0) (v := ?vZ0) rfl (by kernel_rfl) (by kernel_rfl) (by kernel_rfl) (fun _ _ _ h => h) (Or.inl ⟨by rfl, ?hZ0⟩) (by assumption) ?_
              case hZ0 => (intro w hSw; (try dsimp only at hSw); go_simp; (try with_reducible rfl))
              (try simp only [Act.put, List.getElem_toArray, List.getElem_cons_zero, List.getElem_cons_succ, List.setIfInBounds_toArray, List.set_cons_zero, List.set_cons_succ])
              refine wpAnyH_take (i := 1) (v := ?vZ1) rfl (by kernel_rfl) (by kernel_rfl) (by kernel_rfl) (fun _ _ _ h => h) (Or.inl ⟨by rfl, ?hZ1⟩) (by assumption) ?_
              case hZ1 => (intro w hSw; (try dsimp only at hSw); go_simp; (try with_reducible rfl))
              (try simp only [Act.put, List.getElem_toArray, List.getElem_cons_zero, List.getElem_cons_succ, List.setIfInBounds_toArray, List.set_cons_zero, List.set_cons_succ])
              refine wpAnyH_take (i := 2) (v := ?vZ2) rfl (by kernel_rfl) (by kernel_rfl) (by kernel_rfl) (fun _ _ _ h => h) (Or.inl ⟨by rfl, ?hZ2⟩) (by assumption) ?_
              case hZ2 => (intro w hSw; (try dsimp only at hSw); go_simp; (try with_reducible rfl))
              (try simp only [Act.put, List.getElem_toArray, List.getElem_cons_zero, List.getElem_cons_succ, List.setIfInBounds_toArray, List.set_cons_zero, List.set_cons_succ])
              refine wpAnyH_take (i := 3) (v := ?vZ3) rfl (by kernel_rfl) (by kernel_rfl) (by kernel_rfl) (fun _ _ _ h => h) (Or.inl ⟨by rfl, ?hZ3⟩) (by assumption) ?_
              case hZ3 => (intro w hSw; (try dsimp only at hSw); go_simp; (try with_reducible rfl))
              (try simp only [Act.put, List.getElem_toArray, List.getElem_cons_zero, List.getElem_cons_succ, List.setIfInBounds_toArray, List.set_cons_zero, List.set_cons_succ])
              refine wpAnyH_take (i := 4) (v := ?vZ4) rfl (by kernel_rfl) (by kernel_rfl) (by kernel_rfl) (fun _ _ _ h => h) (Or.inl ⟨by rfl, ?hZ4⟩) (by assumption) ?_
              case hZ4 => (intro w hSw; (try dsimp only at hSw); go_simp; (try with_reducible rfl))
              (try simp only [Act.put, List.getElem_toArray, List.getElem_cons_zero, List.getElem_cons_succ, List.setIfInBounds_toArray, List.set_cons_zero, List.set_cons_succ])
              refine wpAnyH_ready (rs := [5]) (by kernel_rfl) (by simp) ?_
              refine AllReadyH.cons (o := _) rfl (fun K hK => ?_) AllReadyH.nil
              go_simp
              ((go_at_call 47; refine (ends_any T B S _).mono ?_; rintro e w9 ⟨rfl, hb9⟩))
              simp only [he]
              go_wp2_with fail
              refine hK.out _ _ ?_ (fun hHeld2 => ?_)
              · exact keep6 hHeld hgr hgr hb9
              clear hK K hHeld
              (try simp only [Act.put, List.getElem_toArray, List.getElem_cons_zero, List.getElem_cons_succ, List.setIfInBounds_toArray, List.set_cons_zero, List.set_cons_succ])
              refine wpAnyH_take (i := 6) (v := ?vZ6) rfl (by kernel_rfl) (by kernel_rfl) (by kernel_rfl) (fun _ _ _ h => h) (Or.inl ⟨by rfl, ?hZ6⟩) (by assumption) ?_
              case hZ6 => (intro w hSw; (try dsimp only at hSw); go_simp; (try with_reducible rfl))
              (try simp only [Act.put, List.getElem_toArray, List.getElem_cons_zero, List.getElem_cons_succ, List.setIfInBounds_toArray, List.set_cons_zero, List.set_cons_succ])
              refine wpAnyH_take (i := 7) (v := undef) rfl (by kernel_rfl) (by kernel_rfl) (by kernel_rfl) (fun _ _ _ h => h) (Or.inr ⟨by rfl, rfl⟩) (by assumption) ?_
              (try simp only [Act.put, List.getElem_toArray, List.getElem_cons_zero, List.getElem_cons_succ, List.setIfInBounds_toArray, List.set_cons_zero, List.set_cons_succ])
              refine wpAnyH_take (i := 8) (v := undef) rfl (by kernel_rfl) (by kernel_rfl) (by kernel_rfl) (fun _ _ _ h => h) (Or.inr ⟨by rfl, rfl⟩) (by assumption) ?_
              (try simp only [Act.put, List.getElem_toArray, List.getElem_cons_zero, List.getElem_cons_succ, List.setIfInBounds_toArray, List.set_cons_zero, List.set_cons_succ])
              refine wpAnyH_take (i := 9) (v := undef) rfl (by kernel_rfl) (by kernel_rfl) (by kernel_rfl) (fun _ _ _ h => h) (Or.inr ⟨by rfl, rfl⟩) (by assumption) ?_
              (try simp only [Act.put, List.getElem_toArray, List.getElem_cons_zero, List.getElem_cons_succ, List.setIfInBounds_toArray, List.set_cons_zero, List.set_cons_succ])
              refine wpAnyH_take (i := 10) (v := undef) rfl (by kernel_rfl) (by kernel_rfl) (by kernel_rfl) (fun _ _ _ h => h) (Or.inr ⟨by rfl, rfl⟩) (by assumption) ?_
              (try simp only [Act.put, List.getElem_toArray, List.getElem_cons_zero, List.getElem_cons_succ, List.setIfInBounds_toArray, List.set_cons_zero, List.set_cons_succ])
              refine wpAnyH_take (i := 11) (v := undef) rfl (by kernel_rfl) (by kernel_rfl) (by kernel_rfl) (fun _ _ _ h => h) (Or.inr ⟨by rfl, rfl⟩) (by assumption) ?_
              (try simp only [Act.put, List.getElem_toArray, List.getElem_cons_zero, List.getElem_cons_succ, List.setIfInBounds_toArray, List.set_cons_zero, List.set_cons_succ])
              refine wpAnyH_take (i := 12) (v := undef) rfl (by kernel_rfl) (by kernel_rfl) (by kernel_rfl) (fun _ _ _ h => h) (Or.inr ⟨by rfl, rfl⟩) (by assumption) ?_
              (try simp only [Act.put, List.getElem_toArray, List.getElem_cons_zero, List.getElem_cons_succ, List.setIfInBounds_toArray, List.set_cons_zero, List.set_cons_succ])
              refine wpAnyH_take (i := 13) (v := undef) rfl (by kernel_rfl) (by kernel_rfl) (by kernel_rfl) (fun _ _ _ h => h) (Or.inr ⟨by rfl, rfl⟩) (by assumption) ?_
              (try simp only [Act.put, List.getElem_toArray, List.getElem_cons_zero, List.getElem_cons_succ, List.setIfInBounds_toArray, List.set_cons_zero, List.set_cons_succ])
              refine wpAnyH_take (i := 14) (v := undef) rfl (by kernel_rfl) (by kernel_rfl) (by kernel_rfl) (fun _ _ _ h => h) (Or.inr ⟨by rfl, rfl⟩) (by assumption) ?_
              (try simp only [Act.put, List.getElem_toArray, List.getElem_cons_zero, List.getElem_cons_succ, List.setIfInBounds_toArray, List.set_cons_zero, List.set_cons_succ])
              refine wpAnyH_take (i := 15) (v := undef) rfl (by kernel_rfl) (by kernel_rfl) (by kernel_rfl) (fun _ _ _ h => h) (Or.inr ⟨by rfl, rfl⟩) (by assumption) ?_
              (try simp only [Act.put, List.getElem_toArray, List.getElem_cons_zero, List.getElem_cons_succ, List.setIfInBounds_toArray, List.set_cons_zero, List.set_cons_succ])
              refine wpAnyH_take (i := 16) (v := undef) rfl (by kernel_rfl) (by kernel_rfl) (by kernel_rfl) (fun _ _ _ h => h) (Or.inr ⟨by rfl, rfl⟩) (by assumption) ?_
              (try simp only [Act.put, List.getElem_toArray, List.getElem_cons_zero, List.getElem_cons_succ, List.setIfInBounds_toArray, List.set_cons_zero, List.set_cons_succ])
              refine wpAnyH_take (i := 17) (v := undef) rfl (by kernel_rfl) (by kernel_rfl) (by kernel_rfl) (fun _ _ _ h => h) (Or.inr ⟨by rfl, rfl⟩) (by assumption) ?_
              (try simp only [Act.put, List.getElem_toArray, List.getElem_cons_zero, List.getElem_cons_succ, List.setIfInBounds_toArray, List.set_cons_zero, List.set_cons_succ])
              refine wpAnyH_take (i := 18) (v := ?vZ18) rfl (by kernel_rfl) (by kernel_rfl) (by kernel_rfl) (fun _ _ _ h => h) (Or.inl ⟨by rfl, ?hZ18⟩) (by assumption) ?_
              case hZ18 => (intro w hSw; (try dsimp only at hSw); go_simp; (try with_reducible rfl))
              (try simp only [Act.put, List.getElem_toArray, List.getElem_cons_zero, List.getElem_cons_succ, List.setIfInBounds_toArray, List.set_cons_zero, List.set_cons_succ])
              refine wpAnyH_done (by kernel_rfl) ?_ _
              have HV := Lib.hid (isRP_chk (L := L) (k := k + 1) (by omega) (by rw [HN.out]; exact hlt) HC.out)
              have hb10 := hb.trans (hHeld2.2.2.mono hsz)
              clear hHeld2 w2 w1'
              go_wp2
              go_ret
              exact ⟨by rw [HV.out]; try rfl, hb10⟩
          · have k2 : ¬ (k : Int) + 1 < (n : Int) := by omega
            have hke : k + 1 = n := by omega
            have HV := Lib.hid (show isRP L = endB T by
              rw [isRP_end (by rw [HN.out]; exact n1) HH.out (by rw [HN.out, ← hke]; exact HK.out), HN.out, ← hke, Nat.add_sub_cancel, HP.out])
            have w1' : (n : Int) - 1 = k := by omega
            clear k2 k4 k5 hke
            rw [show ((k : Int) + 1) = (n : Int) by omega]
            go_wp2_with fail
            ((with_reducible refine (ends_any T B S _).mono ?_); rintro e w2 ⟨rfl, hb2⟩)
            go_wp2
            go_ret
            exact ⟨by rw [HV.out]; try rfl, hb.trans (hb2.mono hsz)⟩
  · have s1 : (S0 != 1) = true := by rw [bne_iff_ne]; exact hS
    have HV := Lib.hid (isRP_hd (L := L) (by rw [HD.out, decide_eq_false hS]; rfl))
    clear hS
    go_enter Try.func11, Try.ntmps11
    go_wp2
    go_ret
    exact ⟨by rw [HV.out]; try rfl, (by repeat' (first | (with_reducible exact Below.refl _ _) | (with_reducible assumption) | (with_reducible refine Below.alloc ?_ ?_ _) | (with_reducible refine Below.drew ?_) | (with_reducible refine below_drewN ?_ _) | (with_reducible refine Below.setCell ?_ ?_ _) | go_size))⟩
end Go.Proofs.Ytfpedehpmgcmnaa
