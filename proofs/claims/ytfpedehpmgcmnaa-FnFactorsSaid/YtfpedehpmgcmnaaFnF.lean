/-
  'FnFactors': its law's walk.
-/
import Derived.Test.YtfpedehpmgcmnaaFfP
import Derived.Test.YtfpedehpmgcmnaaDraw
import Derived.Test.YtfpedehpmgcmnaaUp2a
import Derived.Test.YtfpedehpmgcmnaaUp2b
import Derived.Test.YtfpedehpmgcmnaaMob
import Derived.Test.YtfpedehpmgcmnaaBytes
namespace Go.Proofs.Ytfpedehpmgcmnaa
open Go.RowKit
set_option linter.unusedSimpArgs false
set_option linter.unusedVariables false

theorem Lst.cells {w : World} {b g n c : Nat} {L : List Int} (h : Lst w b (.slice (some ⟨g, 0, none⟩) n c) L) : ∀ k, k < L.length → w.cell? ⟨g, k, none⟩ = some (.int .i64 (L.getD k 0)) := by
  rcases h.shape with ⟨_, h⟩ | ⟨g', c', h, _, _, hc, _⟩
  · cases h
  · cases h; exact hc
theorem Lst.addr {w : World} {b : Nat} {v : Value} {L : List Int} (h : Lst w b v L) : ∃ A c, v = .slice A L.length c ∧ (0 < L.length → ∃ g, A = some ⟨g, 0, none⟩) := by
  rcases h.shape with ⟨rfl, rfl⟩ | ⟨g, c, rfl, _⟩
  · exact ⟨_, _, rfl, fun h => by simp at h⟩
  · exact ⟨_, _, rfl, fun _ => ⟨_, rfl⟩⟩
theorem sameInts_same (v1 v2 : Value) (L : List Int) (w : World) {b1 b2 : Nat} (hn : L.length ≤ 1000000000) (h1 : Lst w b1 v1 L) (h2 : Lst w b2 v2 L) :
    Calls Try.prog 27 #[v1, v2] w fun e w' => e = .returned (.bool true) ∧ ∃ k, w' = w.drewN k := by
  by_cases hL : L = []
  · subst hL
    have f1 : ∃ A c, v1 = .slice A 0 c := by rcases h1.shape with ⟨_, rfl⟩ | ⟨g, c, rfl, _⟩ <;> exact ⟨_, _, rfl⟩
    have f2 : ∃ A c, v2 = .slice A 0 c := by rcases h2.shape with ⟨_, rfl⟩ | ⟨g, c, rfl, _⟩ <;> exact ⟨_, _, rfl⟩
    obtain ⟨A, c, rfl⟩ := f1
    obtain ⟨A', c', rfl⟩ := f2
    go_enter Try.func27, Try.ntmps27
    go_wp2
    go_loop [13] (fun s => s = .int .i64 0) (fun _ => 0)
    case atStart => rfl
    case round =>
      obtain rfl := hrel
      go_wp2
      go_ret
      exact ⟨rfl, 0, rfl⟩
  · obtain ⟨g, c, rfl, _, _, hc, _⟩ : ∃ g cap, v1 = .slice (some ⟨g, 0, none⟩) L.length cap ∧ b1 ≤ g ∧ g < w.heap.size ∧ (∀ k, k < L.length → w.cell? ⟨g, k, none⟩ = some (.int .i64 (L.getD k 0))) ∧ (∀ k, w.frozen? ⟨g, k, none⟩ = false) := by
      rcases h1.shape with ⟨h, _⟩ | h
      · exact absurd h hL
      · exact h
    obtain ⟨g', c', rfl, _, _, hc', _⟩ : ∃ g cap, v2 = .slice (some ⟨g, 0, none⟩) L.length cap ∧ b2 ≤ g ∧ g < w.heap.size ∧ (∀ k, k < L.length → w.cell? ⟨g, k, none⟩ = some (.int .i64 (L.getD k 0))) ∧ (∀ k, w.frozen? ⟨g, k, none⟩ = false) := by
      rcases h2.shape with ⟨h, _⟩ | h
      · exact absurd h hL
      · exact h
    clear h1 h2 hL
    go_enter Try.func27, Try.ntmps27
    go_wp2
    go_loopw [13] (fun s wr => ∃ k d : Nat, s = .int .i64 k ∧ k ≤ L.length ∧ wr = w.drewN d) (fun s _ => L.length - (intOf s).toNat)
    case atStart => exact ⟨0, 0, rfl, Nat.zero_le _, rfl⟩
    case round =>
      obtain ⟨k, d, rfl, hk, rfl⟩ := hrel
      by_cases hlt : k < L.length
      · have e1 := hc k hlt
        have e2 := hc' k hlt
        have b1 : (0 : Int) ≤ (k : Int) := by omega
        have b2 : (k : Int) < (L.length : Int) := by omega
        clear hc hc'
        go_wp2
        go_region
        all_goals
          go_wp2
          go_roundw
          case rel => exact ⟨k + 1, d + 1, by go_num, by omega, rfl⟩
          case measure => simp only [intOf]; omega
      · go_wp2
        go_ret
        exact ⟨rfl, d, rfl⟩
theorem pProduct_is {v : Value} {L : List Int} {w : World} {b : Nat} {n : Int} (hn : L.length ≤ 1000000000) (h : Lst w b v L) (hb : ∀ k, 0 ≤ prodI (L.take k) ∧ prodI (L.take k) ≤ 1000000) (hp : prodI L = n) :
    Calls Try.prog 28 #[v] w fun e w' => e = .returned (.int .i64 n) ∧ w = w' := by
  obtain ⟨A, c, rfl, hA⟩ := h.addr
  have HB := Lib.hid hb
  have HP := Lib.hid hp
  clear hb hp
  go_enter Try.func28, Try.ntmps28
  go_wp2
  go_loop [3, 8] (fun s i => ∃ k : Nat, i = .int .i64 k ∧ k ≤ L.length ∧ ∃ x, Hid (prodI (L.take k) = x) ∧ s = .int .i64 x) (fun _ i => L.length - (intOf i).toNat)
  case atStart => exact ⟨0, rfl, Nat.zero_le _, 1, Lib.hid rfl, rfl⟩
  case round =>
    obtain ⟨k, rfl, hk, x, HX, rfl⟩ := hrel
    by_cases hlt : k < L.length
    · obtain ⟨g, rfl⟩ := hA (by omega)
      have hc := h.cells k hlt
      obtain ⟨y, hy⟩ : ∃ y, L.getD k 0 = y := ⟨_, rfl⟩
      rw [hy] at hc
      have hs := prodI_succ hlt
      rw [HX.out, hy] at hs
      have b1 := HB.out (k + 1)
      rw [hs] at b1
      have HS := Lib.hid hs
      have k0 : (0 : Int) ≤ (k : Int) := by omega
      have k1 : (k : Int) < (L.length : Int) := by omega
      clear hs hy hA h
      go_wp2
      go_round
      case rel => exact ⟨k + 1, by go_num, hlt, x * y, HS, rfl⟩
      case measure => simp only [intOf]; omega
    · have hke : k = L.length := by omega
      have he := HX.out
      rw [hke, List.take_length, HP.out] at he
      subst he
      have k1 : ¬ (k : Int) < (L.length : Int) := by omega
      clear hA h hke hlt
      go_wp2
      go_ret
      exact ⟨rfl, rfl⟩
theorem implPF_is {n : Int} {v : Bool} {L : List Int} (w : World) (hv : vPF n = v) (hL : lFor v (ints (fcs 2 n.toNat)) = L) : Calls Try.prog 24 #[.int .i64 n] w (RetS w L v) := by
  subst hv hL; exact implPF_any n w
theorem specPF_is {n : Int} {v : Bool} {L : List Int} (w : World) (hv : vPF n = v) (hL : lFor v (ints (fcs 2 n.toNat)) = L) : Calls Try.prog 25 #[.int .i64 n] w (RetS w L v) := by
  subst hv hL; exact specPF_any n w
theorem implDV_is {n : Int} {L : List Int} (w : World) (n1 : 1 ≤ n) (n2 : n ≤ 1000000) (hL : ints (divs n.natAbs) = L) : Calls Try.prog 26 #[.int .i64 n] w (RetS w L true) := by
  have h := implDV_any n w
  rw [show vDV n = true by simp [vDV]; exact ⟨good_iff.2 (by omega), by omega⟩, lFor_true, hL] at h
  exact h
theorem implIP_is {n : Int} (w : World) (h : (good n && primeB n) = true) : Calls Try.prog 29 #[.int .i64 n] w fun e w' => e = .returned (.bool true) ∧ Below w.heap.size w w' := by
  have := implIsPrime_any n w
  rw [h] at this
  exact this
theorem implMO_is {n m : Int} (w : World) (n1 : 1 ≤ n) (n2 : n ≤ 1000000) (h : mobF (ints (fcs 2 n.toNat)) = m) : Calls Try.prog 30 #[.int .i64 n] w fun e w' => e = .returned (.tuple #[.int .i64 m, .bool true]) ∧ Below w.heap.size w w' := by
  have := implMO_any n w
  rw [show inB 1 1000000 n = true from inB_iff.2 ⟨n1, n2⟩, oFor_true] at this
  subst h
  exact this
theorem implSF_is {n s k : Int} (w : World) (n1 : 1 ≤ n) (n2 : n ≤ 1000000) (hs : sqS n = s) (hk : sqK n = k) : Calls Try.prog 31 #[.int .i64 n] w fun e w' => e = .returned (.tuple #[.int .i64 s, .int .i64 k, .bool true]) ∧ Below w.heap.size w w' := by
  have := implSF_any n w
  rw [show vSF n = true by simp [vSF]; exact ⟨good_iff.2 (by omega), by omega⟩, oFor_true, oFor_true] at this
  subst hs hk
  exact this
set_option maxHeartbeats 6400000 in
set_option maxRecDepth 100000 in
theorem lawc_FnFactors (A1 : Option Addr) (n1 c1 : Nat) (A2 : Option Addr) (n2 c2 : Nat) (w : World) (h1 : Code8 w w.heap.size A1 n1) (h2 : Code8 w w.heap.size A2 n2) (m1 : n1 ≤ maxLen) (m2 : n2 ≤ maxLen) : Calls Try.prog 6 #[.slice A1 n1 c1, .slice A2 n2 c2] w fun e w' => e = .returned (.bool true) ∧ Below w.heap.size w w' := by
  by_cases hbig : n1 + n2 ≤ 1048576
  · have H1 := Lib.hid h1
    clear h1 h2 m1 m2
    go_enter Try.func6, Try.ntmps6
    go_wp2_with fail
    ((with_reducible refine (big_no A1 A2 n1 c1 n2 c2 _ (by omega)).mono ?_); rintro e w0 ⟨rfl, rfl⟩)
    go_wp2_with fail
    ((refine (drawPF_any A1 n1 c1 _ H1.out (by omega)).mono ?_); rintro e w1 ⟨n, rfl, i_n, B1⟩)
    rcases hv : vPF n with _ | _
    · have HV := Lib.hid hv
      clear hv
      go_wp2_with fail
      ((refine (implPF_is _ HV.out (lFor_false _)).mono ?_); rintro e w2 ⟨v2, rfl, l2, b2⟩)
      have B2 := B1.trans (b2.mono B1.size)
      go_wp2_with fail
      ((refine (specPF_is _ HV.out (lFor_false _)).mono ?_); rintro e w3 ⟨v3, rfl, l3, b3⟩)
      have B3 := B2.trans (b3.mono B2.size)
      go_wp2_with fail
      ((refine (implDV_any _ _).mono ?_); rintro e w4 ⟨v4, rfl, l4, b4⟩)
      have B4 := B3.trans (b4.mono B3.size)
      have l2' := (l2.below (Nat.le_refl _) b3).below (Nat.le_refl _) b4
      have l3' := l3.below (Nat.le_refl _) b4
      clear l2 l3 l4 b2 b3 b4 B1 B2 B3
      go_wp2_with fail
      ((refine (sameInts_same _ _ [] _ (by simp) l2' l3').mono ?_); rintro e w5 ⟨rfl, k5, rfl⟩)
      go_wp2
      go_ret
      exact ⟨rfl, below_drewN B4 k5⟩
    · have hn := inB_iff.1 hv
      have HV := Lib.hid hv
      have hF := FF.of hn.1 hn.2
      clear hv
      obtain ⟨F, eF⟩ : ∃ F, ints (fcs 2 n.toNat) = F := ⟨_, rfl⟩
      obtain ⟨D, eE⟩ : ∃ D, ints (divs n.natAbs) = D := ⟨_, rfl⟩
      obtain ⟨S, eS⟩ : ∃ S : Nat → Int, (fun i => muS ((divs n.natAbs).take i)) = S := ⟨_, rfl⟩
      rw [eF, eE, eS] at hF
      have HF := Lib.hid hF
      have EF := Lib.hid eF
      have EE := Lib.hid eE
      clear eF eE eS hF
      go_wp2_with fail
      ((refine (implPF_is _ HV.out EF.out).mono ?_); rintro e w2 ⟨v2, rfl, l2, b2⟩)
      have B2 := B1.trans (b2.mono B1.size)
      go_wp2_with fail
      ((refine (specPF_is _ HV.out EF.out).mono ?_); rintro e w3 ⟨v3, rfl, l3, b3⟩)
      have B3 := B2.trans (b3.mono B2.size)
      go_wp2_with fail
      ((refine (implDV_is _ hn.1 hn.2 EE.out).mono ?_); rintro e w4 ⟨v4, rfl, l4, b4⟩)
      have B4 := B3.trans (b4.mono B3.size)
      have l2' := (l2.below (Nat.le_refl _) b3).below (Nat.le_refl _) b4
      have l3' := l3.below (Nat.le_refl _) b4
      clear l2 l3 b2 b3 b4 B1 B2 B3
      go_wp2_with fail
      ((refine (sameInts_same _ _ _ _ HF.out.fl l2' l3').mono ?_); rintro e w5 ⟨rfl, k5, rfl⟩)
      replace B4 := below_drewN B4 k5
      replace l2' := l2'.drewN k5
      replace l4 := l4.drewN k5
      clear l3'
      generalize w4.drewN k5 = w5 at *
      go_wp2_with fail
      ((refine (pProduct_is HF.out.fl l2' HF.out.pb HF.out.pr).mono ?_); rintro e w0 ⟨rfl, rfl⟩)
      obtain ⟨A, cA, rfl, hA⟩ := l2'.addr
      obtain ⟨Z, cZ, rfl, hZ⟩ := l4.addr
      obtain ⟨z, rfl⟩ := hZ HF.out.el.1
      clear hZ
      have he1 := HF.out.el.1
      have he2 := HF.out.el.2
      have hfl := HF.out.fl
      go_wp2
      go_loopw [66] (fun i wr => ∃ k : Nat, i = .int .i64 k ∧ k ≤ F.length ∧ Below w5.heap.size w5 wr) (fun i _ => F.length - (intOf i).toNat)
      case atStart => exact ⟨0, rfl, Nat.zero_le _, Below.refl _ _⟩
      case round =>
        obtain ⟨k, rfl, hk, BR⟩ := hrel
        by_cases hlt : k < F.length
        · obtain ⟨g, rfl⟩ := hA (by omega)
          have hc := (l2'.below (Nat.le_refl _) BR).cells k hlt
          have hp := HF.out.pp k hlt
          generalize F.getD k 0 = p at hc hp
          have HP := Lib.hid hp
          have k0 : (0 : Int) ≤ (k : Int) := by omega
          have k1 : (k : Int) < (F.length : Int) := by omega
          have L2 := Lib.hid l2'
          have L4 := Lib.hid l4
          clear hp hA l2' l4
          go_wp2_with fail
          ((refine (implIP_is _ HP.out).mono ?_); rintro e w6 ⟨rfl, b6⟩)
          go_wp2
          go_roundw
          case rel => exact ⟨k + 1, by go_num, hlt, BR.trans (b6.mono BR.size)⟩
          case measure => simp only [intOf]; omega
        · have k1 : ¬ (k : Int) < (F.length : Int) := by omega
          have l4r := l4.below (Nat.le_refl _) BR
          have BS := B4.trans (BR.mono B4.size)
          clear l4 l2' hA hlt hk B4 BR
          go_wp2
          go_loopw [14, 76] (fun s i wr' => ∃ k : Nat, i = .int .i64 k ∧ k ≤ D.length ∧ (∃ x, Hid (S k = x) ∧ s = .int .i64 x) ∧ Below wr.heap.size wr wr') (fun _ i _ => D.length - (intOf i).toNat)
          case atStart => exact ⟨0, rfl, Nat.zero_le _, ⟨0, Lib.hid HF.out.s0, rfl⟩, Below.refl _ _⟩
          case round =>
            obtain ⟨i, rfl, hi, ⟨x, HX, rfl⟩, BT⟩ := hrel
            by_cases hli : i < D.length
            · have hcc := (l4r.below (Nat.le_refl _) BT).cells
              have hc := hcc i hli
              have hc2 := hcc (D.length - 1 - i) (by omega)
              have hee := HF.out.ee i hli
              have hep := HF.out.ep i hli
              have hss := HF.out.ss i hli
              have hsb := HF.out.sb (i + 1)
              rw [HX.out] at hss
              generalize D.getD i 0 = y at hc hee hep hss
              generalize D.getD (D.length - 1 - i) 0 = u at hc2 hep
              obtain ⟨m, hm⟩ : ∃ m, mobF (ints (fcs 2 y.toNat)) = m := ⟨_, rfl⟩
              rw [hm] at hss
              rw [hss] at hsb
              have HM := Lib.hid hm
              have HS := Lib.hid hss
              have L4 := Lib.hid l4r
              obtain ⟨y1, y2⟩ := hee
              have i0 : (0 : Int) ≤ (i : Int) := by omega
              have i1 : (i : Int) < (D.length : Int) := by omega
              have i2 : (0 : Int) ≤ (D.length : Int) - 1 - i := by omega
              have i3 : (D.length : Int) - 1 - i < (D.length : Int) := by omega
              have i4 : ((D.length : Int) - 1 - i).toNat = D.length - 1 - i := by omega
              have i5 : ¬ y < 1 := by omega
              have i6 : (y * u != n) = false := by rw [bne_eq_false_iff_eq]; exact hep
              have i7 : 1 ≤ y * u ∧ y * u ≤ 1000000 := by rw [hep]; exact hn
              clear hm hss l4r hcc hep
              go_wp2_with fail
              ((refine (implMO_is _ y1 y2 HM.out).mono ?_); rintro e w6 ⟨rfl, b6⟩)
              go_wp2
              go_roundw
              case rel => exact ⟨i + 1, by go_num, hli, ⟨x + m, HS, rfl⟩, BT.trans (b6.mono BT.size)⟩
              case measure => simp only [intOf]; omega
            · have i1 : ¬ (i : Int) < (D.length : Int) := by omega
              have hx := HX.out
              rw [show i = D.length by omega, HF.out.se] at hx
              have BU := BS.trans (BT.mono BS.size)
              have hq := sq_law hn.1 hn.2
              obtain ⟨s, es⟩ : ∃ s, sqS n = s := ⟨_, rfl⟩
              obtain ⟨t, et⟩ : ∃ t, sqK n = t := ⟨_, rfl⟩
              rw [es, et] at hq
              have ES := Lib.hid es
              have ET := Lib.hid et
              obtain ⟨q1, q2, q3⟩ := hq
              have q4 : (s * t * t == n) = true := by rw [beq_iff_eq]; exact q1
              have q5 : 1 ≤ s * t * t ∧ s * t * t ≤ 1000000 := by rw [q1]; exact hn
              clear l4r BS BT hli hi es et q1
              obtain ⟨na, nb⟩ := hn
              by_cases hone : n = 1
              · rw [if_pos hone] at hx
                subst hx
                have t1 : ¬ 1 < n := by omega
                have t2 : (n == 1) = true := by rw [beq_iff_eq]; exact hone
                clear hone
                go_wp2_with fail
                ((refine (implSF_is _ na nb ES.out ET.out).mono ?_); rintro e w6 ⟨rfl, b6⟩)
                go_wp2
                go_ret
                exact ⟨rfl, BU.trans (b6.mono BU.size)⟩
              · rw [if_neg hone] at hx
                subst hx
                have t1 : 1 < n := by omega
                have t2 : (n == 1) = false := by rw [beq_eq_false_iff_ne]; exact hone
                clear hone
                go_wp2_with fail
                ((refine (implSF_is _ na nb ES.out ET.out).mono ?_); rintro e w6 ⟨rfl, b6⟩)
                go_wp2
                go_ret
                exact ⟨rfl, BU.trans (b6.mono BU.size)⟩
  · clear h1 h2
    go_enter Try.func6, Try.ntmps6
    go_wp2_with fail
    ((with_reducible refine (big_yes A1 A2 n1 c1 n2 c2 _ m1 m2 (by omega)).mono ?_); rintro e w0 ⟨rfl, rfl⟩)
    go_wp2
    go_ret
    exact ⟨rfl, (by repeat' (first | (with_reducible exact Below.refl _ _) | (with_reducible assumption) | (with_reducible refine Below.alloc ?_ ?_ _) | (with_reducible refine Below.drew ?_) | (with_reducible refine below_drewN ?_ _) | (with_reducible refine Below.setCell ?_ ?_ _) | go_size))⟩
theorem law_FnFactors (A1 : Option Addr) (n1 c1 : Nat) (z1 : List Int) (A2 : Option Addr) (n2 c2 : Nat) (z2 : List Int) (w : World) (h1 : IsRow .u8 w A1 n1 c1 z1) (h2 : IsRow .u8 w A2 n2 c2 z2) : Calls Try.prog 6 #[.slice A1 n1 c1, .slice A2 n2 c2] w fun e w' => e = .returned (.bool true) ∧ Below w.heap.size w w' :=
  lawc_FnFactors A1 n1 c1 A2 n2 c2 w (row_code h1).1 (row_code h2).1 (row_code h1).2 (row_code h2).2
end Go.Proofs.Ytfpedehpmgcmnaa
