/-
  'PermutationSign': its contracts and its law's walk.
-/
import Derived.Test.YtfnmdcifjdfocaaPermP
import Derived.Test.YtfnmdcifjdfocaaOdd
import Derived.Test.YtfnmdcifjdfocaaAr
import Derived.Test.YtfnmdcifjdfocaaFrame
namespace Go.Proofs.Ytfnmdcifjdfocaa
open Go.RowKit
set_option linter.unusedSimpArgs false
set_option linter.unusedVariables false

def muM (G : Nat) (w : World) : Nat → Nat
  | 0 => 0
  | n + 1 => muM G w n + (match w.cell? ⟨G, n, none⟩ with | some (.bool false) => 1 | _ => 0)
theorem Marks.mu {w : World} {b g : Nat} {S : List Bool} (h : Marks w b g S) : ∀ n, n ≤ S.length → muM g w n = (S.take n).count false
  | 0, _ => by simp [muM]
  | n + 1, hn => by
    have hc := h.cell (x := n) (by omega)
    rw [muM, Marks.mu h n (by omega), hc, List.take_succ_eq_append_getElem (by omega), List.count_append]
    have e : S.getD n true = S[n] := by simp [List.getD_eq_getElem?_getD, show n < S.length by omega]
    rw [e]
    rcases S[n] with _ | _ <;> simp
theorem Marks.mu' {w : World} {b g M : Nat} {S : List Bool} (h : Marks w b g S) (hM : S.length = M) : muM g w M = S.count false := by
  rw [h.mu M (by omega), ← hM, List.take_length]
theorem Marks.below_set {w wr : World} {g : Nat} {S : List Bool} {x : Nat} (h : Marks wr w.heap.size g S) (hb : Below w.heap.size w wr) : Below w.heap.size w (wr.setCell ⟨g, x, none⟩ (.bool true)) := hb.setCell h.lt.1 _
def vPS (a n : Int) : Bool := (good a && oddM n) && (decide (n ≤ 10000) && decide (Int.gcd a n = 1))
theorem vPS_bad {a n : Int} (h : good a = false ∨ oddM n = false ∨ 10000 < n ∨ ¬ Int.gcd a n = 1) : vPS a n = false := by
  unfold vPS
  rcases h with h | h | h | h
  · simp [h]
  · simp [h]
  · rw [decide_eq_false (show ¬ n ≤ 10000 by omega)]; simp
  · simp [h]
theorem vPS_ok {a n : Int} (h0 : good a = true) (h1 : oddM n = true) (h2 : n ≤ 10000) (h3 : Int.gcd a n = 1) : vPS a n = true := by
  unfold vPS
  rw [h0, h1, decide_eq_true h2, decide_eq_true h3]
  rfl
theorem pms_step {nx : Nat → Nat} {M k c : Nat} {S S' : List Bool} {t u P : Int} (hk : k < M) (h : pms nx (M - k) k S t = P) (hR : cyc nx S k = (S', c)) (hu : u = t * sgc c) : pms nx (M - (k + 1)) (k + 1) S' u = P := by
  rw [show M - k = (M - (k + 1)) + 1 by omega, pms, hR] at h
  rw [hu]
  exact h
theorem gcdP_is {a b : Int} {g : Nat} (w : World) (hg : Int.gcd a b = g) (a1 : -1000000000000 ≤ a) (a2 : a ≤ 1000000000000) (b1 : -1000000000000 ≤ b) (b2 : b ≤ 1000000000000) :
    Calls Try.prog 69 #[.int .i64 a, .int .i64 b] w fun e w' => e = .returned (.int .i64 (g : Int)) ∧ ∃ k, w' = w.drewN k := by
  rw [← hg]; exact gcd_any a b w a1 a2 b1 b2
theorem nuGcdP_is {a b : Int} {g : Nat} (w : World) (hg : Int.gcd a b = g) (a1 : -1000000000000 ≤ a) (a2 : a ≤ 1000000000000) (b1 : -1000000000000 ≤ b) (b2 : b ≤ 1000000000000) :
    Calls Try.prog 66 #[.int .i64 a, .int .i64 b] w fun e w' => e = .returned (.int .i64 (g : Int)) ∧ ∃ k, w' = w.drewN k := by
  rw [← hg]; exact nuGcd_any a b w a1 a2 b1 b2
set_option maxHeartbeats 1600000 in
theorem specPS_any (a n : Int) (w : World) (i1 : In64 n) : Calls Try.prog 38 #[.int .i64 a, .int .i64 n] w fun e w' => e = .returned (.tuple #[.int .i64 (oFor (vPS a n) (psV a n)), .bool (vPS a n)]) ∧ Below w.heap.size w w' := by
  rcases h0 : good a with _ | _
  · rw [show vPS a n = false from vPS_bad (.inl h0), oFor_false]
    go_enter Try.func38, Try.ntmps38
    go_wp2_with fail
    ((with_reducible refine (nuGood_any a _).mono ?_); rintro e w0 ⟨rfl, rfl⟩)
    go_wp2
    go_ret2
    exact ⟨rfl, (by repeat' (first | (with_reducible exact Below.refl _ _) | (with_reducible assumption) | (with_reducible refine Below.alloc ?_ ?_ _) | (with_reducible refine Below.drew ?_) | (with_reducible refine below_drewN ?_ _) | (with_reducible refine Below.setCell ?_ ?_ _) | go_size))⟩
  · rcases h1 : oddM n with _ | _
    · rw [show vPS a n = false from vPS_bad (.inr (.inl h1)), oFor_false]
      go_enter Try.func38, Try.ntmps38
      go_wp2_with fail
      ((with_reducible refine (nuGood_any a _).mono ?_); rintro e w0 ⟨rfl, rfl⟩)
      go_wp2_with fail
      ((with_reducible refine (syOdd_any n _ i1).mono ?_); rintro e w1 ⟨rfl, hb1⟩)
      obtain ⟨hc1, hf1⟩ := bcell hb1
      have hz1 := hb1.size
      try simp only [World.size_alloc, World.size_drew, World.size_setCell] at hz1
      try have hs1 : w.heap.size < w1.heap.size := by omega
      have bl1 : Below w.heap.size w w1 := Below.trans (by go_grown) (hb1.mono (by go_size))
      go_wp2
      go_ret2
      exact ⟨rfl, (by repeat' (first | (with_reducible exact Below.refl _ _) | (with_reducible assumption) | (with_reducible refine Below.alloc ?_ ?_ _) | (with_reducible refine Below.drew ?_) | (with_reducible refine below_drewN ?_ _) | (with_reducible refine Below.setCell ?_ ?_ _) | go_size))⟩
    · obtain ⟨g, hg⟩ : ∃ g : Nat, Int.gcd a n = g := ⟨_, rfl⟩
      have ha := good_iff.1 h0
      have hn := oddM_iff.1 h1
      by_cases h2 : 10000 < n
      · rw [show vPS a n = false from vPS_bad (.inr (.inr (.inl h2))), oFor_false]
        go_enter Try.func38, Try.ntmps38
        go_wp2_with fail
        ((with_reducible refine (nuGood_any a _).mono ?_); rintro e w0 ⟨rfl, rfl⟩)
        go_wp2_with fail
        ((with_reducible refine (syOdd_any n _ i1).mono ?_); rintro e w1 ⟨rfl, hb1⟩)
        obtain ⟨hc1, hf1⟩ := bcell hb1
        have hz1 := hb1.size
        try simp only [World.size_alloc, World.size_drew, World.size_setCell] at hz1
        try have hs1 : w.heap.size < w1.heap.size := by omega
        have bl1 : Below w.heap.size w w1 := Below.trans (by go_grown) (hb1.mono (by go_size))
        go_wp2
        go_ret2
        exact ⟨rfl, (by repeat' (first | (with_reducible exact Below.refl _ _) | (with_reducible assumption) | (with_reducible refine Below.alloc ?_ ?_ _) | (with_reducible refine Below.drew ?_) | (with_reducible refine below_drewN ?_ _) | (with_reducible refine Below.setCell ?_ ?_ _) | go_size))⟩
      · by_cases h3 : Int.gcd a n = 1
        · obtain ⟨M, rfl⟩ : ∃ M : Nat, n = M := ⟨n.toNat, by omega⟩
          rw [vPS_ok h0 h1 (by omega) h3, oFor_true]
          unfold psV
          rw [Int.toNat_natCast]
          have HNX := Lib.hid (fun x : Nat => nxt_int (a := a) (n := (M : Int)) x (by omega))
          have HNL := Lib.hid (fun x : Nat => nxt_lt (a := a) (n := (M : Int)) x (by omega))
          obtain ⟨nx, hnx⟩ : ∃ nx, nxt a (M : Int) = nx := ⟨_, rfl⟩
          rw [hnx] at HNX HNL ⊢
          obtain ⟨P, hP⟩ : ∃ P, pms nx M 0 (List.replicate M false) 1 = P := ⟨_, rfl⟩
          rw [hP]
          have HP := Lib.hid hP
          clear hP hnx
          obtain ⟨ib, hbi, hbz, hbs, hbb⟩ := info_parts Try.infoBool
          have hby : ib.bytes * M ≤ 281474976710656 := by rw [hbb]; omega
          have hg1 : g = 1 := by omega
          subst hg1
          go_enter Try.func38, Try.ntmps38
          go_wp2_with fail
          ((with_reducible refine (nuGood_any a _).mono ?_); rintro e w0 ⟨rfl, rfl⟩)
          go_wp2_with fail
          ((with_reducible refine (syOdd_any _ _ i1).mono ?_); rintro e w1 ⟨rfl, hb1⟩)
          obtain ⟨hc1, hf1⟩ := bcell hb1
          have hz1 := hb1.size
          try simp only [World.size_alloc, World.size_drew, World.size_setCell] at hz1
          try have hs1 : w.heap.size < w1.heap.size := by omega
          have bl1 : Below w.heap.size w w1 := Below.trans (by go_grown) (hb1.mono (by go_size))
          go_wp2_with fail
          ((with_reducible refine (nuGcdP_is _ hg (by omega) (by omega) (by omega) (by omega)).mono ?_); rintro e w0 ⟨rfl, d2, rfl⟩)
          go_wp2_with (at_make; go_loud (refine wpList_make_full _ rfl _ _ 44 rfl w.heap.size 4 ib (.bool false) 1 Try.underlying44 hbi hbz hbs .i64 .i64 M M M rfl rfl rfl rfl hby (by unfold maxLen; omega) (by first | omega | (simp; omega) | go_size) ?rest))
          case rest =>
            intro w3 hown3 hgrow3
            have mk := Marks.made M hown3
            have hb3 : Below w.heap.size w w3 := Below.grown (below_drewN bl1 _) hgrow3 (by first | omega | (simp; omega) | go_size) (fun k hk => by cases hk)
            clear hown3 hgrow3
            obtain ⟨G, hG⟩ : ∃ G, w1.heap.size = G := ⟨_, rfl⟩
            rw [hG] at mk ⊢
            clear hG
            go_wp2
            go_loopw [7, 33] (fun s kk wr => ∃ (k : Nat) (S : List Bool) (t : Int), kk = .int .i64 k ∧ s = .int .i64 t ∧ k ≤ M ∧ Hid (S.length = M) ∧ Marks wr w.heap.size G S ∧ (t = 1 ∨ t = -1) ∧ Hid (pms nx (M - k) k S t = P) ∧ Below w.heap.size w wr) (fun _ kk _ => M - (intOf kk).toNat)
            case atStart => exact ⟨0, List.replicate M false, 1, rfl, rfl, Nat.zero_le _, Lib.hid (by simp), mk, .inl rfl, HP, hb3⟩
            case round =>
              clear mk hb3
              obtain ⟨k, S, t, rfl, rfl, hk, HL, mk, ht, HQ, hb⟩ := hrel
              obtain ⟨wo, rfl⟩ : ∃ wo : World, wo = wr := ⟨_, rfl⟩
              by_cases hlt : k < M
              · obtain ⟨R, hR⟩ : ∃ R, cyc nx S k = R := ⟨_, rfl⟩
                have HW := Lib.hid (hR ▸ OnWay.start nx S k : OnWay nx R S k 0)
                have HR := Lib.hid hR
                clear hR
                have hcnt : S.count false ≤ M := by rw [← HL.out]; exact List.count_le_length
                go_wp2
                go_loopw [9, 10] (fun sl sx ws => ∃ (x c : Nat) (S' : List Bool), sx = .int .i64 x ∧ sl = .int .i64 c ∧ x < M ∧ c + S'.count false ≤ M ∧ Hid (S'.length = M) ∧ Marks ws w.heap.size G S' ∧ Hid (OnWay nx R S' x c) ∧ Below w.heap.size w ws) (fun _ _ ws => muM G ws M)
                case atStart => exact ⟨k, 0, S, rfl, rfl, hlt, by omega, HL, mk, HW, hb⟩
                case round =>
                  clear mk hb hcnt
                  obtain ⟨x, c, S', rfl, rfl, hx, hc, HL', mk', HW', hb'⟩ := hrel
                  have e1 := mk'.cell (x := x) (by rw [HL'.out]; exact hx)
                  rcases hsx : S'.getD x true with _ | _
                  · rw [hsx] at e1
                    have e2 := mk'.frozen x
                    have MK := Lib.hid (mk'.set x)
                    have BK := Lib.hid (mk'.below_set (x := x) hb')
                    have HW2 := Lib.hid (HW'.out.step hsx)
                    have HL2 := Lib.hid (show (S'.set x true).length = M by rw [List.length_set]; exact HL'.out)
                    have hcs := cnt_set S' x hsx
                    have MU1 := Lib.hid (mk'.mu' HL'.out)
                    have MU2 := Lib.hid (MK.out.mu' HL2.out)
                    have hq := mul_le (A := 1000000) (B := 10000) (x := a) (y := x) (by omega) (by omega) ha.1 ha.2 (by omega) (by omega)
                    have hnl := HNL.out x
                    rw [Int.toNat_natCast] at hnl
                    clear hsx mk' hb'
                    go_wp2_with fail
                    ((with_reducible refine (nuMod_any _ _ _ (by omega) (by omega) (by omega) (by omega)).mono ?_); rintro e w0 ⟨rfl, rfl⟩)
                    go_wp2
                    go_roundw
                    case rel => exact ⟨nx x, c + 1, S'.set x true, by rw [HNX.out], by go_num, hnl, by omega, HL2, MK.out, HW2, BK.out⟩
                    case measure => rw [MU1.out, MU2.out]; omega
                  · rw [hsx] at e1
                    have HD := Lib.hid (HW'.out.done hsx)
                    clear hsx
                    by_cases c0 : c = 0
                    · subst c0
                      have HS := Lib.hid (pms_step (u := t) hlt HQ.out (by rw [HR.out, HD.out]) (by rw [sgc_zero]; omega))
                      go_wp2
                      go_roundw
                      case rel => exact ⟨k + 1, S', t, by go_num, rfl, by omega, HL', mk', ht, HS, hb'⟩
                      case measure => simp only [intOf]; omega
                    · by_cases c1 : c % 2 = 0
                      · have HS := Lib.hid (pms_step (u := -t) hlt HQ.out (by rw [HR.out, HD.out]) (by rw [sgc_even c0 c1]; omega))
                        have ci : (c : Int) % 2 = 0 := by omega
                        have cp : (0 : Int) < (c : Int) := by omega
                        clear c1 c0
                        go_wp2
                        go_roundw
                        case rel => exact ⟨k + 1, S', -t, by go_num, by rcases ht with rfl | rfl <;> rfl, by omega, HL', mk', by omega, HS, hb'⟩
                        case measure => simp only [intOf]; omega
                      · have HS := Lib.hid (pms_step (u := t) hlt HQ.out (by rw [HR.out, HD.out]) (by rw [sgc_odd (by omega)]; omega))
                        have ci : (c : Int) % 2 = 1 := by omega
                        have cp : (0 : Int) < (c : Int) := by omega
                        clear c1 c0
                        go_wp2
                        go_roundw
                        case rel => exact ⟨k + 1, S', t, by go_num, rfl, by omega, HL', mk', ht, HS, hb'⟩
                        case measure => simp only [intOf]; omega
              · obtain rfl : k = M := by omega
                have HV := Lib.hid (show t = P by have := HQ.out; rwa [Nat.sub_self, pms] at this)
                clear hlt
                go_wp2
                go_ret2
                exact ⟨by rw [HV.out]; try rfl, hb⟩
        · rw [show vPS a n = false from vPS_bad (.inr (.inr (.inr h3))), oFor_false]
          have hg1 : ((g : Int) != 1) = true := by rw [bne_iff_ne]; omega
          clear h3
          go_enter Try.func38, Try.ntmps38
          go_wp2_with fail
          ((with_reducible refine (nuGood_any a _).mono ?_); rintro e w0 ⟨rfl, rfl⟩)
          go_wp2_with fail
          ((with_reducible refine (syOdd_any n _ i1).mono ?_); rintro e w1 ⟨rfl, hb1⟩)
          obtain ⟨hc1, hf1⟩ := bcell hb1
          have hz1 := hb1.size
          try simp only [World.size_alloc, World.size_drew, World.size_setCell] at hz1
          try have hs1 : w.heap.size < w1.heap.size := by omega
          have bl1 : Below w.heap.size w w1 := Below.trans (by go_grown) (hb1.mono (by go_size))
          go_wp2_with fail
          ((with_reducible refine (nuGcdP_is _ hg (by omega) (by omega) (by omega) (by omega)).mono ?_); rintro e w0 ⟨rfl, d2, rfl⟩)
          go_wp2
          go_ret2
          exact ⟨rfl, (by repeat' (first | (with_reducible exact Below.refl _ _) | (with_reducible assumption) | (with_reducible refine Below.alloc ?_ ?_ _) | (with_reducible refine Below.drew ?_) | (with_reducible refine below_drewN ?_ _) | (with_reducible refine Below.setCell ?_ ?_ _) | go_size))⟩
set_option maxHeartbeats 1600000 in
theorem implPS_any (a n : Int) (w : World) (i1 : In64 n) : Calls Try.prog 39 #[.int .i64 a, .int .i64 n] w fun e w' => e = .returned (.tuple #[.int .i64 (oFor (vPS a n) (psV a n)), .bool (vPS a n)]) ∧ Below w.heap.size w w' := by
  rcases h0 : good a with _ | _
  · rw [show vPS a n = false from vPS_bad (.inl h0), oFor_false]
    go_enter Try.func39, Try.ntmps39
    go_wp2_with fail
    ((with_reducible refine (are1 a _ _ (by simp)).mono ?_); rintro e w0 ⟨rfl, rfl⟩)
    go_wp2
    go_ret2
    exact ⟨rfl, (by repeat' (first | (with_reducible exact Below.refl _ _) | (with_reducible assumption) | (with_reducible refine Below.alloc ?_ ?_ _) | (with_reducible refine Below.drew ?_) | (with_reducible refine below_drewN ?_ _) | (with_reducible refine Below.setCell ?_ ?_ _) | go_size))⟩
  · rcases h1 : oddM n with _ | _
    · rw [show vPS a n = false from vPS_bad (.inr (.inl h1)), oFor_false]
      go_enter Try.func39, Try.ntmps39
      go_wp2_with fail
      ((with_reducible refine (are1 a _ _ (by simp)).mono ?_); rintro e w0 ⟨rfl, rfl⟩)
      go_wp2_with fail
      ((with_reducible refine (isOddModulus_any n _ i1).mono ?_); rintro e w1 ⟨rfl, hb1⟩)
      obtain ⟨hc1, hf1⟩ := bcell hb1
      have hz1 := hb1.size
      try simp only [World.size_alloc, World.size_drew, World.size_setCell] at hz1
      try have hs1 : w.heap.size < w1.heap.size := by omega
      have bl1 : Below w.heap.size w w1 := Below.trans (by go_grown) (hb1.mono (by go_size))
      go_wp2
      go_ret2
      exact ⟨rfl, (by repeat' (first | (with_reducible exact Below.refl _ _) | (with_reducible assumption) | (with_reducible refine Below.alloc ?_ ?_ _) | (with_reducible refine Below.drew ?_) | (with_reducible refine below_drewN ?_ _) | (with_reducible refine Below.setCell ?_ ?_ _) | go_size))⟩
    · obtain ⟨g, hg⟩ : ∃ g : Nat, Int.gcd a n = g := ⟨_, rfl⟩
      have ha := good_iff.1 h0
      have hn := oddM_iff.1 h1
      by_cases h2 : 10000 < n
      · rw [show vPS a n = false from vPS_bad (.inr (.inr (.inl h2))), oFor_false]
        go_enter Try.func39, Try.ntmps39
        go_wp2_with fail
        ((with_reducible refine (are1 a _ _ (by simp)).mono ?_); rintro e w0 ⟨rfl, rfl⟩)
        go_wp2_with fail
        ((with_reducible refine (isOddModulus_any n _ i1).mono ?_); rintro e w1 ⟨rfl, hb1⟩)
        obtain ⟨hc1, hf1⟩ := bcell hb1
        have hz1 := hb1.size
        try simp only [World.size_alloc, World.size_drew, World.size_setCell] at hz1
        try have hs1 : w.heap.size < w1.heap.size := by omega
        have bl1 : Below w.heap.size w w1 := Below.trans (by go_grown) (hb1.mono (by go_size))
        go_wp2
        go_ret2
        exact ⟨rfl, (by repeat' (first | (with_reducible exact Below.refl _ _) | (with_reducible assumption) | (with_reducible refine Below.alloc ?_ ?_ _) | (with_reducible refine Below.drew ?_) | (with_reducible refine below_drewN ?_ _) | (with_reducible refine Below.setCell ?_ ?_ _) | go_size))⟩
      · by_cases h3 : Int.gcd a n = 1
        · obtain ⟨M, rfl⟩ : ∃ M : Nat, n = M := ⟨n.toNat, by omega⟩
          rw [vPS_ok h0 h1 (by omega) h3, oFor_true]
          unfold psV
          rw [Int.toNat_natCast]
          have HNX := Lib.hid (fun x : Nat => nxt_int (a := a) (n := (M : Int)) x (by omega))
          have HNL := Lib.hid (fun x : Nat => nxt_lt (a := a) (n := (M : Int)) x (by omega))
          obtain ⟨nx, hnx⟩ : ∃ nx, nxt a (M : Int) = nx := ⟨_, rfl⟩
          rw [hnx] at HNX HNL ⊢
          obtain ⟨P, hP⟩ : ∃ P, pms nx M 0 (List.replicate M false) 1 = P := ⟨_, rfl⟩
          rw [hP]
          have HP := Lib.hid hP
          clear hP hnx
          obtain ⟨ib, hbi, hbz, hbs, hbb⟩ := info_parts Try.infoBool
          have hby : ib.bytes * M ≤ 281474976710656 := by rw [hbb]; omega
          have hg1 : g = 1 := by omega
          subst hg1
          go_enter Try.func39, Try.ntmps39
          go_wp2_with fail
          ((with_reducible refine (are1 a _ _ (by simp)).mono ?_); rintro e w0 ⟨rfl, rfl⟩)
          go_wp2_with fail
          ((with_reducible refine (isOddModulus_any _ _ i1).mono ?_); rintro e w1 ⟨rfl, hb1⟩)
          obtain ⟨hc1, hf1⟩ := bcell hb1
          have hz1 := hb1.size
          try simp only [World.size_alloc, World.size_drew, World.size_setCell] at hz1
          try have hs1 : w.heap.size < w1.heap.size := by omega
          have bl1 : Below w.heap.size w w1 := Below.trans (by go_grown) (hb1.mono (by go_size))
          go_wp2_with fail
          ((with_reducible refine (gcdP_is _ hg (by omega) (by omega) (by omega) (by omega)).mono ?_); rintro e w0 ⟨rfl, d2, rfl⟩)
          go_wp2_with (at_make; go_loud (refine wpList_make_full _ rfl _ _ 44 rfl w.heap.size 4 ib (.bool false) 1 Try.underlying44 hbi hbz hbs .i64 .i64 M M M rfl rfl rfl rfl hby (by unfold maxLen; omega) (by first | omega | (simp; omega) | go_size) ?rest))
          case rest =>
            intro w3 hown3 hgrow3
            have mk := Marks.made M hown3
            have hb3 : Below w.heap.size w w3 := Below.grown (below_drewN bl1 _) hgrow3 (by first | omega | (simp; omega) | go_size) (fun k hk => by cases hk)
            clear hown3 hgrow3
            obtain ⟨G, hG⟩ : ∃ G, w1.heap.size = G := ⟨_, rfl⟩
            rw [hG] at mk ⊢
            clear hG
            go_wp2
            go_loopw [6, 8] (fun s kk wr => ∃ (k : Nat) (S : List Bool) (t : Int), kk = .int .i64 k ∧ s = .int .i64 t ∧ k ≤ M ∧ Hid (S.length = M) ∧ Marks wr w.heap.size G S ∧ (t = 1 ∨ t = -1) ∧ Hid (pms nx (M - k) k S t = P) ∧ Below w.heap.size w wr) (fun _ kk _ => M - (intOf kk).toNat)
            case atStart => exact ⟨0, List.replicate M false, 1, rfl, rfl, Nat.zero_le _, Lib.hid (by simp), mk, .inl rfl, HP, hb3⟩
            case round =>
              clear mk hb3
              obtain ⟨k, S, t, rfl, rfl, hk, HL, mk, ht, HQ, hb⟩ := hrel
              obtain ⟨wo, rfl⟩ : ∃ wo : World, wo = wr := ⟨_, rfl⟩
              by_cases hlt : k < M
              · obtain ⟨R, hR⟩ : ∃ R, cyc nx S k = R := ⟨_, rfl⟩
                have HW := Lib.hid (hR ▸ OnWay.start nx S k : OnWay nx R S k 0)
                have HR := Lib.hid hR
                clear hR
                have hcnt : S.count false ≤ M := by rw [← HL.out]; exact List.count_le_length
                go_wp2
                go_loopw [6, 9, 10] (fun sl sx sf ws => ∃ (x c : Nat) (S' : List Bool) (u : Int) (b : Bool), sx = .int .i64 x ∧ sl = .int .i64 u ∧ sf = .bool b ∧ x < M ∧ Hid (S'.length = M) ∧ Marks ws w.heap.size G S' ∧ (u = 1 ∨ u = -1) ∧ Hid (u = t * sgc c) ∧ Hid (b = decide (c = 0)) ∧ Hid (OnWay nx R S' x c) ∧ Below w.heap.size w ws) (fun _ _ _ ws => muM G ws M)
                case atStart => exact ⟨k, 0, S, t, true, rfl, rfl, rfl, hlt, HL, mk, ht, Lib.hid (by rw [sgc_zero]; omega), Lib.hid rfl, HW, hb⟩
                case round =>
                  clear mk hb hcnt
                  obtain ⟨x, c, S', u, b, rfl, rfl, rfl, hx, HL', mk', hu, HU, HB, HW', hb'⟩ := hrel
                  have e1 := mk'.cell (x := x) (by rw [HL'.out]; exact hx)
                  rcases hsx : S'.getD x true with _ | _
                  · rw [hsx] at e1
                    have e2 := mk'.frozen x
                    have MK := Lib.hid (mk'.set x)
                    have BK := Lib.hid (mk'.below_set (x := x) hb')
                    have HW2 := Lib.hid (HW'.out.step hsx)
                    have HL2 := Lib.hid (show (S'.set x true).length = M by rw [List.length_set]; exact HL'.out)
                    have hcs := cnt_set S' x hsx
                    have MU1 := Lib.hid (mk'.mu' HL'.out)
                    have MU2 := Lib.hid (MK.out.mu' HL2.out)
                    have hq := mul_le (A := 1000000) (B := 10000) (x := a) (y := x) (by omega) (by omega) ha.1 ha.2 (by omega) (by omega)
                    have hnl := HNL.out x
                    rw [Int.toNat_natCast] at hnl
                    clear hsx mk' hb'
                    rcases b with _ | _
                    · have c0 : c ≠ 0 := by have := HB.out; simpa using this
                      have HU2 := Lib.hid (show -u = t * sgc (c + 1) by rw [sgc_succ c0, HU.out, Int.mul_neg])
                      clear c0
                      go_wp2_with fail
                      ((with_reducible refine (mod_any _ _ _ (by omega) (by omega) (by omega) (by omega)).mono ?_); rintro e w0 ⟨rfl, rfl⟩)
                      go_wp2
                      go_roundw
                      case rel => exact ⟨nx x, c + 1, S'.set x true, -u, false, by rw [HNX.out], by rcases hu with rfl | rfl <;> rfl, rfl, hnl, HL2, MK.out, by omega, HU2, Lib.hid (by simp), HW2, BK.out⟩
                      case measure => rw [MU1.out, MU2.out]; omega
                    · have c0 : c = 0 := by have := HB.out; simpa using this
                      have HU2 := Lib.hid (show u = t * sgc (c + 1) by rw [HU.out, c0, sgc_zero, sgc_one])
                      clear c0
                      go_wp2_with fail
                      ((with_reducible refine (mod_any _ _ _ (by omega) (by omega) (by omega) (by omega)).mono ?_); rintro e w0 ⟨rfl, rfl⟩)
                      go_wp2
                      go_roundw
                      case rel => exact ⟨nx x, c + 1, S'.set x true, u, false, by rw [HNX.out], rfl, rfl, hnl, HL2, MK.out, by omega, HU2, Lib.hid (by simp), HW2, BK.out⟩
                      case measure => rw [MU1.out, MU2.out]; omega
                  · rw [hsx] at e1
                    have HD := Lib.hid (HW'.out.done hsx)
                    have HS := Lib.hid (pms_step hlt HQ.out (by rw [HR.out, HD.out]) HU.out)
                    clear hsx
                    go_wp2
                    go_roundw
                    case rel => exact ⟨k + 1, S', u, by go_num, rfl, by omega, HL', mk', hu, HS, hb'⟩
                    case measure => simp only [intOf]; omega
              · obtain rfl : k = M := by omega
                have HV := Lib.hid (show t = P by have := HQ.out; rwa [Nat.sub_self, pms] at this)
                clear hlt
                go_wp2
                go_ret2
                exact ⟨by rw [HV.out]; try rfl, hb⟩
        · rw [show vPS a n = false from vPS_bad (.inr (.inr (.inr h3))), oFor_false]
          have hg1 : ((g : Int) != 1) = true := by rw [bne_iff_ne]; omega
          clear h3
          go_enter Try.func39, Try.ntmps39
          go_wp2_with fail
          ((with_reducible refine (are1 a _ _ (by simp)).mono ?_); rintro e w0 ⟨rfl, rfl⟩)
          go_wp2_with fail
          ((with_reducible refine (isOddModulus_any n _ i1).mono ?_); rintro e w1 ⟨rfl, hb1⟩)
          obtain ⟨hc1, hf1⟩ := bcell hb1
          have hz1 := hb1.size
          try simp only [World.size_alloc, World.size_drew, World.size_setCell] at hz1
          try have hs1 : w.heap.size < w1.heap.size := by omega
          have bl1 : Below w.heap.size w w1 := Below.trans (by go_grown) (hb1.mono (by go_size))
          go_wp2_with fail
          ((with_reducible refine (gcdP_is _ hg (by omega) (by omega) (by omega) (by omega)).mono ?_); rintro e w0 ⟨rfl, d2, rfl⟩)
          go_wp2
          go_ret2
          exact ⟨rfl, (by repeat' (first | (with_reducible exact Below.refl _ _) | (with_reducible assumption) | (with_reducible refine Below.alloc ?_ ?_ _) | (with_reducible refine Below.drew ?_) | (with_reducible refine below_drewN ?_ _) | (with_reducible refine Below.setCell ?_ ?_ _) | go_size))⟩
theorem law_FnExactPermutationSign (a n : Int) (w : World) (ib_a : In64 a) (ib_n : In64 n) : Calls Try.prog 13 #[.int .i64 a, .int .i64 n] w fun e w' => e = .returned (.bool true) ∧ Below w.heap.size w w' := by
  go_enter Try.func13, Try.ntmps13
  go_wp2_with fail
  ((with_reducible refine (specPS_any _ _ _ ib_n).mono ?_); rintro e w1 ⟨rfl, hb1⟩)
  obtain ⟨hc1, hf1⟩ := bcell hb1
  have hz1 := hb1.size
  try simp only [World.size_alloc, World.size_drew, World.size_setCell] at hz1
  try have hs1 : w.heap.size < w1.heap.size := by omega
  have bl1 : Below w.heap.size w w1 := Below.trans (by go_grown) (hb1.mono (by go_size))
  go_wp2_with fail
  ((with_reducible refine (implPS_any _ _ _ ib_n).mono ?_); rintro e w2 ⟨rfl, hb2⟩)
  obtain ⟨hc2, hf2⟩ := bcell hb2
  have hz2 := hb2.size
  try simp only [World.size_alloc, World.size_drew, World.size_setCell] at hz2
  try have hs2 : w.heap.size < w2.heap.size := by omega
  have bl2 : Below w.heap.size w w2 := Below.trans (by go_grown) (hb2.mono (by go_size))
  go_wp2
  go_ret
  exact ⟨rfl, (by repeat' (first | (with_reducible exact Below.refl _ _) | (with_reducible assumption) | (with_reducible refine Below.alloc ?_ ?_ _) | (with_reducible refine Below.drew ?_) | (with_reducible refine below_drewN ?_ _) | (with_reducible refine Below.setCell ?_ ?_ _) | go_size))⟩
end Go.Proofs.Ytfnmdcifjdfocaa
