/-
  'Bezout': its contracts and its law's walk.
-/
import Derived.Test.YtfpedehpmgcmnaaCr1
namespace Go.Proofs.Ytfpedehpmgcmnaa
open Go.RowKit
set_option linter.unusedSimpArgs false
set_option linter.unusedVariables false

def bzG (a b : Int) : Int := (Int.gcd a b : Nat)
def bzX (a b : Int) : Int := if b = 0 then Int.sign a else inv (a.tdiv (bzG a b)) ((b.natAbs : Int) / bzG a b)
def bzY (a b : Int) : Int := if b = 0 then 0 else (bzG a b - a * bzX a b).tdiv b
def vBZ (a b : Int) : Bool := good a && good b
theorem gcd_tdiv (a b : Int) (hb : b ≠ 0) : Int.gcd (a.tdiv (Int.gcd a b : Nat)) ((b.natAbs : Int) / (Int.gcd a b : Nat)) = 1 := by
  have hg0 : 0 < Int.gcd a b := Int.gcd_pos_iff.2 (.inr hb)
  have h : Nat.gcd (a.natAbs / Nat.gcd a.natAbs b.natAbs) (b.natAbs / Nat.gcd a.natAbs b.natAbs) = 1 := by
    rw [Nat.gcd_div (Nat.gcd_dvd_left ..) (Nat.gcd_dvd_right ..)]
    exact Nat.div_self hg0
  unfold Int.gcd
  rw [Int.natAbs_tdiv, Int.natAbs_ediv_of_dvd (by exact Int.natCast_dvd_natCast.2 (Nat.gcd_dvd_right _ _))]
  exact h
structure Bz (a b g v : Int) : Prop where
  hg : ((Int.gcd a b : Nat) : Int) = g
  hv : inv (a.tdiv g) ((b.natAbs : Int) / g) = v
  g1 : 1 ≤ g ∧ g ≤ 1000000
  p1 : -1000000 ≤ a.tdiv g ∧ a.tdiv g ≤ 1000000
  q1 : 1 ≤ (b.natAbs : Int) / g ∧ (b.natAbs : Int) / g ≤ 1000000
  co : Int.gcd (a.tdiv g) ((b.natAbs : Int) / g) = 1
  v1 : 0 ≤ v ∧ v ≤ 1000000
  av : -1000000000000 ≤ a * v ∧ a * v ≤ 1000000000000
  yb : -1000001000000 ≤ (g - a * v).tdiv b ∧ (g - a * v).tdiv b ≤ 1000001000000
  eG : bzG a b = g
  eX : bzX a b = v
  eY : bzY a b = (g - a * v).tdiv b
theorem bz_of (a b : Int) (ha : -1000000 ≤ a ∧ a ≤ 1000000) (hb : -1000000 ≤ b ∧ b ≤ 1000000) (h0 : ¬ b = 0) : ∃ g v : Int, Bz a b g v := by
  have hg0 : 0 < Int.gcd a b := Int.gcd_pos_iff.2 (.inr h0)
  have hgb : ((Int.gcd a b : Nat) : Int) ∣ b := Int.gcd_dvd_right ..
  have hgn : ((Int.gcd a b : Nat) : Int) ∣ (b.natAbs : Int) := Int.dvd_natAbs.2 hgb
  have hgl : ((Int.gcd a b : Nat) : Int) ≤ (b.natAbs : Int) := Int.le_of_dvd (by omega) hgn
  have en : (b.natAbs : Int) / ((Int.gcd a b : Nat) : Int) * ((Int.gcd a b : Nat) : Int) = (b.natAbs : Int) := Int.ediv_mul_cancel hgn
  have hco := gcd_tdiv a b h0
  obtain ⟨g, hg⟩ : ∃ g : Int, ((Int.gcd a b : Nat) : Int) = g := ⟨_, rfl⟩
  rw [hg] at en hco hgl
  have g0 : 1 ≤ g := by omega
  obtain ⟨v, hv⟩ : ∃ v : Int, inv (a.tdiv g) ((b.natAbs : Int) / g) = v := ⟨_, rfl⟩
  have q1 : 1 ≤ (b.natAbs : Int) / g := by
    rcases Int.lt_or_le ((b.natAbs : Int) / g) 1 with h | h
    · have := Int.mul_le_mul_of_nonneg_right (show (b.natAbs : Int) / g ≤ 0 by omega) (show 0 ≤ g by omega); omega
    · exact h
  have q2 : (b.natAbs : Int) / g ≤ 1000000 := by have := Int.mul_le_mul_of_nonneg_left g0 (show 0 ≤ (b.natAbs : Int) / g by omega); omega
  have p1 := tdiv_ab a (y := g) (B := 1000000) (by omega)
  have v1 := inv_range (a.tdiv g) q1
  rw [hv] at v1
  have av := ab_mul (x := a) (y := v) 1000000 1000000 (by omega) (by omega)
  have yb := tdiv_ab (g - a * v) (y := b) (B := 1000001000000) (by omega)
  have eG : bzG a b = g := hg
  have eX : bzX a b = v := by unfold bzX; rw [if_neg h0, eG, hv]
  exact ⟨g, v, hg, hv, by omega, by omega, by omega, hco, by omega, by omega, by omega, eG, eX, by unfold bzY; rw [if_neg h0, eG, eX]⟩
theorem sign_any (n : Int) (w : World) : Calls Try.prog 66 #[.int .i64 n] w fun e w' => e = .returned (.int .i64 (Int.sign n)) ∧ w = w' := by
  rcases Int.lt_trichotomy n 0 with h | h | h
  · rw [Int.sign_eq_neg_one_of_neg h]
    go_enter Try.func66, Try.ntmps66
    go_wp2
    go_ret
    exact ⟨rfl, rfl⟩
  · subst h
    go_enter Try.func66, Try.ntmps66
    go_wp2
    go_ret
    exact ⟨rfl, rfl⟩
  · rw [Int.sign_eq_one_of_pos h]
    go_enter Try.func66, Try.ntmps66
    go_wp2
    go_ret
    exact ⟨rfl, rfl⟩
theorem l1Sign_any (n : Int) (w : World) : Calls Try.prog 83 #[.int .i64 n] w fun e w' => e = .returned (.int .i64 (Int.sign n)) ∧ w = w' := by
  rcases Int.lt_trichotomy n 0 with h | h | h
  · rw [Int.sign_eq_neg_one_of_neg h]
    go_enter Try.func83, Try.ntmps83
    go_wp2
    go_ret
    exact ⟨rfl, rfl⟩
  · subst h
    go_enter Try.func83, Try.ntmps83
    go_wp2
    go_ret
    exact ⟨rfl, rfl⟩
  · rw [Int.sign_eq_one_of_pos h]
    go_enter Try.func83, Try.ntmps83
    go_wp2
    go_ret
    exact ⟨rfl, rfl⟩

theorem nuBezout_any (a b : Int) (w : World) (ha : -1000000 ≤ a ∧ a ≤ 1000000) (hb : -1000000 ≤ b ∧ b ≤ 1000000) : Calls Try.prog 68 #[.int .i64 a, .int .i64 b] w fun e w' => e = .returned (.tuple #[.int .i64 (bzG a b), .int .i64 (bzX a b), .int .i64 (bzY a b)]) ∧ ∃ k, w' = w.drewN k := by
  by_cases h0 : b = 0
  · obtain ⟨g, hg⟩ : ∃ g : Int, ((Int.gcd a b : Nat) : Int) = g := ⟨_, rfl⟩
    have HG : Hid (bzG a b = g) := Lib.hid hg
    have HX : Hid (bzX a b = Int.sign a) := Lib.hid (by unfold bzX; rw [if_pos h0])
    have HY : Hid (bzY a b = 0) := Lib.hid (by unfold bzY; rw [if_pos h0])
    have hgl : 0 ≤ g := by omega
    have heb : (b == 0) = true := by rw [beq_iff_eq]; exact h0
    clear h0
    go_enter Try.func68, Try.ntmps68
    go_wp2_with fail
    ((with_reducible refine (nuGcd_is _ hg (by omega) (by omega) (by omega) (by omega)).mono ?_); rintro e w0 ⟨rfl, d1, rfl⟩)
    go_wp2_with fail
    ((with_reducible refine (l1Sign_any a _).mono ?_); rintro e w0 ⟨rfl, rfl⟩)
    go_wp2
    go_ret3
    exact ⟨by rw [HG.out, HX.out, HY.out]; try rfl, _, by (first | rfl | (simp only [World.drewN_drewN]; rfl))⟩
  · obtain ⟨g, v, C⟩ := bz_of a b ha hb h0
    obtain ⟨hg, hv, g1, p1, q1, co, v1, av, yb, eG, eX, eY⟩ := C
    have HG := Lib.hid eG
    have HX := Lib.hid eX
    have HY := Lib.hid eY
    have CO := Lib.hid co
    have HV := Lib.hid hv
    clear eG eX eY co hv
    go_enter Try.func68, Try.ntmps68
    go_wp2_with fail
    ((with_reducible refine (nuGcd_is _ hg (by omega) (by omega) (by omega) (by omega)).mono ?_); rintro e w0 ⟨rfl, d1, rfl⟩)
    go_wp2_with fail
    have w0 : g ≠ 0 := by omega
    have w1 : IntKind.i64.wrap (a.tdiv g) = a.tdiv g := IntWalk.i64_in _ (by omega)
    have w2 : (b.natAbs : Int).tdiv g = (b.natAbs : Int) / g := Int.tdiv_eq_ediv_of_nonneg (by omega)
    have w3 : IntKind.i64.wrap ((b.natAbs : Int) / g) = (b.natAbs : Int) / g := IntWalk.i64_in _ (by omega)
    go_quiet (first | (go_at_call 85; exact qadd (l1Abs_any _ _ (by omega) (by omega))) | (go_at_call 85; exact qone (l1Abs_any _ _ (by omega) (by omega))) | (go_at_call 84; exact qadd (nuInverse_is _ CO.out HV.out (by omega) (by omega) (by omega) (by omega))) | (go_at_call 84; exact qone (nuInverse_is _ CO.out HV.out (by omega) (by omega) (by omega) (by omega))))
    clear w0 w1 w2 w3
    go_wp2_with fail
    have w0 : b ≠ 0 := by omega
    have w1 : IntKind.i64.wrap (a * v) = a * v := IntWalk.i64_in _ (by omega)
    have w2 : IntKind.i64.wrap (g - a * v) = g - a * v := IntWalk.i64_in _ (by omega)
    have w3 : IntKind.i64.wrap ((g - a * v).tdiv b) = (g - a * v).tdiv b := IntWalk.i64_in _ (by omega)
    go_quiet (fail)
    clear w0 w1 w2 w3
    go_wp2
    go_ret3
    exact ⟨by rw [HG.out, HX.out, HY.out]; try rfl, _, by (first | rfl | (simp only [World.drewN_drewN]; rfl))⟩

theorem specBZ_any (a b : Int) (w : World) : Calls Try.prog 34 #[.int .i64 a, .int .i64 b] w fun e w' =>
    e = .returned (.tuple #[.int .i64 (oFor (vBZ a b) (bzG a b)), .int .i64 (oFor (vBZ a b) (bzX a b)), .int .i64 (oFor (vBZ a b) (bzY a b)), .bool (vBZ a b)]) ∧ Below w.heap.size w w' := by
  rcases h0 : good a with _ | _
  · rw [show vBZ a b = false from by simp [vBZ, *]]
    simp only [oFor_false]
    go_enter Try.func34, Try.ntmps34
    go_wp2_with fail
    ((with_reducible refine (nuGood_any a _).mono ?_); rintro e w0 ⟨rfl, rfl⟩)
    go_wp2
    go_returns
    exact ⟨rfl, (by repeat' (first | (with_reducible exact Below.refl _ _) | (with_reducible assumption) | (with_reducible refine Below.alloc ?_ ?_ _) | (with_reducible refine Below.drew ?_) | (with_reducible refine below_drewN ?_ _) | (with_reducible refine Below.setCell ?_ ?_ _) | go_size))⟩
  · rcases h1 : good b with _ | _
    · rw [show vBZ a b = false from by simp [vBZ, *]]
      simp only [oFor_false]
      go_enter Try.func34, Try.ntmps34
      go_wp2_with fail
      ((with_reducible refine (nuGood_any a _).mono ?_); rintro e w0 ⟨rfl, rfl⟩)
      go_wp2_with fail
      ((with_reducible refine (nuGood_any b _).mono ?_); rintro e w0 ⟨rfl, rfl⟩)
      go_wp2
      go_returns
      exact ⟨rfl, (by repeat' (first | (with_reducible exact Below.refl _ _) | (with_reducible assumption) | (with_reducible refine Below.alloc ?_ ?_ _) | (with_reducible refine Below.drew ?_) | (with_reducible refine below_drewN ?_ _) | (with_reducible refine Below.setCell ?_ ?_ _) | go_size))⟩
    · have ha := good_iff.1 h0
      have hb := good_iff.1 h1
      rw [show vBZ a b = true from by unfold vBZ; rw [h0, h1]; rfl]
      simp only [oFor_true]
      go_enter Try.func34, Try.ntmps34
      go_wp2_with fail
      ((with_reducible refine (nuGood_any a _).mono ?_); rintro e w0 ⟨rfl, rfl⟩)
      go_wp2_with fail
      ((with_reducible refine (nuGood_any b _).mono ?_); rintro e w0 ⟨rfl, rfl⟩)
      go_wp2_with fail
      ((with_reducible refine (nuBezout_any a b _ ha hb).mono ?_); rintro e w0 ⟨rfl, d1, rfl⟩)
      go_wp2
      go_returns
      exact ⟨rfl, (by repeat' (first | (with_reducible exact Below.refl _ _) | (with_reducible assumption) | (with_reducible refine Below.alloc ?_ ?_ _) | (with_reducible refine Below.drew ?_) | (with_reducible refine below_drewN ?_ _) | (with_reducible refine Below.setCell ?_ ?_ _) | go_size))⟩

theorem implBZ_any (a b : Int) (w : World) : Calls Try.prog 33 #[.int .i64 a, .int .i64 b] w fun e w' =>
    e = .returned (.tuple #[.int .i64 (oFor (vBZ a b) (bzG a b)), .int .i64 (oFor (vBZ a b) (bzX a b)), .int .i64 (oFor (vBZ a b) (bzY a b)), .bool (vBZ a b)]) ∧ Below w.heap.size w w' := by
  rcases h0 : good a with _ | _
  · rw [show vBZ a b = false from by simp [vBZ, *]]
    simp only [oFor_false]
    go_enter Try.func33, Try.ntmps33
    go_wp2_with fail
    ((with_reducible refine (are2 a b _ _ (by simp) (by simp)).mono ?_); rintro e w0 ⟨rfl, rfl⟩)
    go_wp2
    go_returns
    first | exact ⟨rfl, (by repeat' (first | (with_reducible exact Below.refl _ _) | (with_reducible assumption) | (with_reducible refine Below.alloc ?_ ?_ _) | (with_reducible refine Below.drew ?_) | (with_reducible refine below_drewN ?_ _) | (with_reducible refine Below.setCell ?_ ?_ _) | go_size))⟩ | exact ⟨by rw [HG.out, HX.out, HY.out]; try rfl, (by repeat' (first | (with_reducible exact Below.refl _ _) | (with_reducible assumption) | (with_reducible refine Below.alloc ?_ ?_ _) | (with_reducible refine Below.drew ?_) | (with_reducible refine below_drewN ?_ _) | (with_reducible refine Below.setCell ?_ ?_ _) | go_size))⟩
  · rcases h1 : good b with _ | _
    · rw [show vBZ a b = false from by simp [vBZ, *]]
      simp only [oFor_false]
      go_enter Try.func33, Try.ntmps33
      go_wp2_with fail
      ((with_reducible refine (are2 a b _ _ (by simp) (by simp)).mono ?_); rintro e w0 ⟨rfl, rfl⟩)
      go_wp2
      go_returns
      first | exact ⟨rfl, (by repeat' (first | (with_reducible exact Below.refl _ _) | (with_reducible assumption) | (with_reducible refine Below.alloc ?_ ?_ _) | (with_reducible refine Below.drew ?_) | (with_reducible refine below_drewN ?_ _) | (with_reducible refine Below.setCell ?_ ?_ _) | go_size))⟩ | exact ⟨by rw [HG.out, HX.out, HY.out]; try rfl, (by repeat' (first | (with_reducible exact Below.refl _ _) | (with_reducible assumption) | (with_reducible refine Below.alloc ?_ ?_ _) | (with_reducible refine Below.drew ?_) | (with_reducible refine below_drewN ?_ _) | (with_reducible refine Below.setCell ?_ ?_ _) | go_size))⟩
    · by_cases h2 : b = 0
      · have ha := good_iff.1 h0
        have hb := good_iff.1 h1
        rw [show vBZ a b = true from by unfold vBZ; rw [h0, h1]; rfl]
        simp only [oFor_true]
        obtain ⟨g, hg⟩ : ∃ g : Int, ((Int.gcd a b : Nat) : Int) = g := ⟨_, rfl⟩
        have HG : Hid (bzG a b = g) := Lib.hid hg
        have HX : Hid (bzX a b = Int.sign a) := Lib.hid (by unfold bzX; rw [if_pos h2])
        have HY : Hid (bzY a b = 0) := Lib.hid (by unfold bzY; rw [if_pos h2])
        have hgl : 0 ≤ g := by omega
        have he2 : (b == 0) = true := by simpa using h2
        clear h2
        go_enter Try.func33, Try.ntmps33
        go_wp2_with fail
        ((with_reducible refine (are2 a b _ _ (by simp) (by simp)).mono ?_); rintro e w0 ⟨rfl, rfl⟩)
        go_wp2_with fail
        ((with_reducible refine (gcd_is _ hg (by omega) (by omega) (by omega) (by omega)).mono ?_); rintro e w0 ⟨rfl, d1, rfl⟩)
        go_wp2_with fail
        ((with_reducible refine (sign_any a _).mono ?_); rintro e w0 ⟨rfl, rfl⟩)
        go_wp2
        go_returns
        first | exact ⟨rfl, (by repeat' (first | (with_reducible exact Below.refl _ _) | (with_reducible assumption) | (with_reducible refine Below.alloc ?_ ?_ _) | (with_reducible refine Below.drew ?_) | (with_reducible refine below_drewN ?_ _) | (with_reducible refine Below.setCell ?_ ?_ _) | go_size))⟩ | exact ⟨by rw [HG.out, HX.out, HY.out]; try rfl, (by repeat' (first | (with_reducible exact Below.refl _ _) | (with_reducible assumption) | (with_reducible refine Below.alloc ?_ ?_ _) | (with_reducible refine Below.drew ?_) | (with_reducible refine below_drewN ?_ _) | (with_reducible refine Below.setCell ?_ ?_ _) | go_size))⟩
      · have ha := good_iff.1 h0
        have hb := good_iff.1 h1
        rw [show vBZ a b = true from by unfold vBZ; rw [h0, h1]; rfl]
        simp only [oFor_true]
        obtain ⟨g, v, C⟩ := bz_of a b ha hb h2
        obtain ⟨hg, hv, g1, p1, q1, co, v1, av, yb, eG, eX, eY⟩ := C
        have HG := Lib.hid eG
        have HX := Lib.hid eX
        have HY := Lib.hid eY
        have CO := Lib.hid co
        have HV := Lib.hid hv
        clear eG eX eY co hv
        go_enter Try.func33, Try.ntmps33
        go_wp2_with fail
        ((with_reducible refine (are2 a b _ _ (by simp) (by simp)).mono ?_); rintro e w0 ⟨rfl, rfl⟩)
        go_wp2_with fail
        ((with_reducible refine (gcd_is _ hg (by omega) (by omega) (by omega) (by omega)).mono ?_); rintro e w0 ⟨rfl, d1, rfl⟩)
        skip
        go_wp2_with fail
        have w0 : g ≠ 0 := by omega
        have w1 : IntKind.i64.wrap (a.tdiv g) = a.tdiv g := IntWalk.i64_in _ (by omega)
        have w2 : (b.natAbs : Int).tdiv g = (b.natAbs : Int) / g := Int.tdiv_eq_ediv_of_nonneg (by omega)
        have w3 : IntKind.i64.wrap ((b.natAbs : Int) / g) = (b.natAbs : Int) / g := IntWalk.i64_in _ (by omega)
        go_quiet (first | (go_at_call 60; exact qadd (abs_any _ _ (by omega) (by omega))) | (go_at_call 60; exact qone (abs_any _ _ (by omega) (by omega))) | (go_at_call 67; exact qadd (inverse_is _ CO.out HV.out (by omega) (by omega) (by omega) (by omega))) | (go_at_call 67; exact qone (inverse_is _ CO.out HV.out (by omega) (by omega) (by omega) (by omega))))
        clear w0 w1 w2 w3
        go_wp2_with fail
        have w0 : b ≠ 0 := by omega
        have w1 : IntKind.i64.wrap (a * v) = a * v := IntWalk.i64_in _ (by omega)
        have w2 : IntKind.i64.wrap (g - a * v) = g - a * v := IntWalk.i64_in _ (by omega)
        have w3 : IntKind.i64.wrap ((g - a * v).tdiv b) = (g - a * v).tdiv b := IntWalk.i64_in _ (by omega)
        go_quiet (fail)
        clear w0 w1 w2 w3
        go_wp2
        go_returns
        first | exact ⟨rfl, (by repeat' (first | (with_reducible exact Below.refl _ _) | (with_reducible assumption) | (with_reducible refine Below.alloc ?_ ?_ _) | (with_reducible refine Below.drew ?_) | (with_reducible refine below_drewN ?_ _) | (with_reducible refine Below.setCell ?_ ?_ _) | go_size))⟩ | exact ⟨by rw [HG.out, HX.out, HY.out]; try rfl, (by repeat' (first | (with_reducible exact Below.refl _ _) | (with_reducible assumption) | (with_reducible refine Below.alloc ?_ ?_ _) | (with_reducible refine Below.drew ?_) | (with_reducible refine below_drewN ?_ _) | (with_reducible refine Below.setCell ?_ ?_ _) | go_size))⟩

end Go.Proofs.Ytfpedehpmgcmnaa
