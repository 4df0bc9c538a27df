/-
  'RootModuloPrime': its contracts and its law's walk.
-/
import Derived.Test.YtbiaokglmdmopaaJS
import Derived.Test.YtbiaokglmdmopaaUp2a
import Derived.Test.YtbiaokglmdmopaaRmP
namespace Go.Proofs.Ytbiaokglmdmopaa
open Go.RowKit
set_option linter.unusedSimpArgs false
set_option linter.unusedVariables false

theorem rsq1 {x : Nat} (h1 : (x : Int) ≤ 500001) : 0 ≤ (x : Int) * x ∧ (x : Int) * x ≤ 1000000000000 := by
  have : x * x ≤ 1000000 * 1000000 := Nat.mul_le_mul (by omega) (by omega)
  rw [← Int.natCast_mul]
  omega
def NoRt (a p : Int) (x : Nat) : Prop := ∀ y : Nat, y < x → ¬ p ∣ (y : Int) * y - a
theorem NoRt.succ {a p : Int} {x : Nat} (h : NoRt a p x) (hx : ¬ p ∣ (x : Int) * x - a) : NoRt a p (x + 1) := fun y hy => by
  rcases Nat.lt_or_ge y x with h1 | h1
  · exact h y h1
  · have : y = x := by omega
    subst this
    exact hx
def vRM (a p : Int) : Bool := (good a && good p) && (primeB p && rmB a p)
theorem vRM_a {a p : Int} (h : good a = false) : vRM a p = false := by simp [vRM, h]
theorem vRM_p {a p : Int} (h : good p = false) : vRM a p = false := by simp [vRM, h]
theorem vRM_q {a p : Int} (h : (good p && primeB p) = false) : vRM a p = false := by
  unfold vRM
  rcases h1 : good p with _ | _
  · simp
  · rw [h1] at h; simp at h; simp [h]
theorem vRM_pr {a p : Int} (h : primeB p = false) : vRM a p = false := by simp [vRM, h]
theorem vRM_ok {a p : Int} (h0 : good a = true) (h1 : good p = true) (h2 : primeB p = true) : vRM a p = rmB a p ∧ oFor (rmB a p) (rmV a p) = rmV a p := by
  refine ⟨by simp [vRM, h0, h1, h2], ?_⟩
  rcases h : rmB a p with _ | _
  · rw [oFor_false]
    unfold rmB at h
    unfold rmV
    rcases hf : rmO a p with _ | x
    · rfl
    · rw [hf] at h; cases h
  · rfl
theorem prime_odd {p : Int} (h : primeB p = true) (h2 : p ≠ 2) : p % 2 = 1 := by
  obtain ⟨h4, h5⟩ := primeB_iff.1 h
  have h6 : ¬ p % 2 = 0 := fun h7 => h5.2 2 (Nat.le_refl _) (by omega) (by omega)
  omega
theorem prime_two {p : Int} (h : primeB p = true) : 2 ≤ p := (primeB_iff.1 h).1
theorem rootModulo_any (a p : Int) (w : World) (a1 : -1000000 ≤ a) (a2 : a ≤ 1000000) (p2 : p ≤ 1000000) (hp : primeB p = true) :
    Calls Try.prog 50 #[.int .i64 a, .int .i64 p] w fun e w' => e = .returned (.tuple #[.int .i64 (rmV a p), .bool (rmB a p)]) ∧ w = w' := by
  have p1 := prime_two hp
  have r1 := Int.emod_nonneg a (show p ≠ 0 by omega)
  have r2 := Int.emod_lt_of_pos a (show 0 < p by omega)
  by_cases h2 : p = 2
  · have hpp : p ≤ 2 := by omega
    clear h2 hp
    go_enter Try.func50, Try.ntmps50
    go_wp2_with fail
    ((with_reducible refine (mod_any _ _ _ (by omega) (by omega) (by omega) (by omega)).mono ?_); rintro e w0 ⟨rfl, rfl⟩)
    go_wp2
    go_loop [6] (fun s => ∃ x : Nat, s = .int .i64 (x : Int) ∧ (x : Int) ≤ p / 2 + 1 ∧ Hid (NoRt a p x)) (fun s => (p + 1).toNat - (intOf s).toNat)
    case atStart => exact ⟨0, rfl, by omega, Lib.hid (fun y hy => by omega)⟩
    case round =>
      obtain ⟨x, rfl, hx, HN⟩ := hrel
      by_cases hlt : (x : Int) ≤ p / 2
      · have hq := rsq1 (x := x) (by omega)
        by_cases hd : p ∣ (x : Int) * x - a
        · have HV := Lib.hid (rm_hit (by omega) hlt hd HN.out)
          have ht : ((x : Int) * x % p == a % p) = true := by rw [beq_iff_eq]; exact (sq_test (by omega)).2 hd
          clear hd
          go_wp2
          go_ret2
          exact ⟨by rw [HV.out.1, HV.out.2]; try rfl, rfl⟩
        · have HM := Lib.hid (HN.out.succ hd)
          have ht : ((x : Int) * x % p == a % p) = false := by rw [beq_eq_false_iff_ne]; exact fun h' => hd ((sq_test (by omega)).1 h')
          clear hd
          go_wp2
          go_round
          case rel => exact ⟨x + 1, by go_num, by omega, HM⟩
          case measure => simp only [intOf]; omega
      · have HV := Lib.hid (rm_none (a := a) (p := p) (fun y hy => HN.out y (by omega)) (by omega))
        go_wp2
        go_ret2
        exact ⟨by rw [HV.out.1, HV.out.2]; try rfl, rfl⟩
  · have ho := prime_odd hp h2
    have hpp : 2 < p := by omega
    have HJ := Lib.hid (show Jac.J (a % p) p.toNat = Jac.J a p.toNat by have := Jac.J_emod a (n := p.toNat) (by omega); rwa [Int.toNat_of_nonneg (by omega)] at this)
    have hb := J_bd (a % p) p.toNat
    clear h2 hp
    by_cases hj : Jac.J (a % p) p.toNat = -1
    · have HV := Lib.hid (rm_minus (a := a) (p := p) (by omega) ho (by rw [← HJ.out]; exact hj))
      have hj1 : Jac.J (a % p) p.toNat < 0 := by omega
      clear hj
      go_enter Try.func50, Try.ntmps50
      go_wp2_with fail
      ((with_reducible refine (mod_any _ _ _ (by omega) (by omega) (by omega) (by omega)).mono ?_); rintro e w0 ⟨rfl, rfl⟩)
      go_wp2_with fail
      ((with_reducible refine (jacobi_any _ _ _ (by omega) (by omega) (by omega) (by omega) ho).mono ?_); rintro e w0 ⟨rfl, rfl⟩)
      go_wp2
      go_ret2
      exact ⟨by rw [HV.out.1, HV.out.2]; try rfl, rfl⟩
    · have hj1 : 0 ≤ Jac.J (a % p) p.toNat := by omega
      clear hj
      go_enter Try.func50, Try.ntmps50
      go_wp2_with fail
      ((with_reducible refine (mod_any _ _ _ (by omega) (by omega) (by omega) (by omega)).mono ?_); rintro e w0 ⟨rfl, rfl⟩)
      go_wp2_with fail
      ((with_reducible refine (jacobi_any _ _ _ (by omega) (by omega) (by omega) (by omega) ho).mono ?_); rintro e w0 ⟨rfl, rfl⟩)
      go_wp2
      go_loop [6] (fun s => ∃ x : Nat, s = .int .i64 (x : Int) ∧ (x : Int) ≤ p / 2 + 1 ∧ Hid (NoRt a p x)) (fun s => (p + 1).toNat - (intOf s).toNat)
      case atStart => exact ⟨0, rfl, by omega, Lib.hid (fun y hy => by omega)⟩
      case round =>
        obtain ⟨x, rfl, hx, HN⟩ := hrel
        by_cases hlt : (x : Int) ≤ p / 2
        · have hq := rsq1 (x := x) (by omega)
          by_cases hd : p ∣ (x : Int) * x - a
          · have HV := Lib.hid (rm_hit (by omega) hlt hd HN.out)
            have ht : ((x : Int) * x % p == a % p) = true := by rw [beq_iff_eq]; exact (sq_test (by omega)).2 hd
            clear hd
            go_wp2
            go_ret2
            exact ⟨by rw [HV.out.1, HV.out.2]; try rfl, rfl⟩
          · have HM := Lib.hid (HN.out.succ hd)
            have ht : ((x : Int) * x % p == a % p) = false := by rw [beq_eq_false_iff_ne]; exact fun h' => hd ((sq_test (by omega)).1 h')
            clear hd
            go_wp2
            go_round
            case rel => exact ⟨x + 1, by go_num, by omega, HM⟩
            case measure => simp only [intOf]; omega
        · have HV := Lib.hid (rm_none (a := a) (p := p) (fun y hy => HN.out y (by omega)) (by omega))
          go_wp2
          go_ret2
          exact ⟨by rw [HV.out.1, HV.out.2]; try rfl, rfl⟩
theorem implRM_any (a p : Int) (w : World) : Calls Try.prog 18 #[.int .i64 a, .int .i64 p] w fun e w' =>
    e = .returned (.tuple #[.int .i64 (oFor (vRM a p) (rmV a p)), .bool (vRM a p)]) ∧ Below w.heap.size w w' := by
  rcases h0 : good a with _ | _
  · rw [show vRM a p = false from vRM_a h0]
    try simp only [oFor_false]
    go_enter Try.func18, Try.ntmps18
    go_wp2_with fail
    ((with_reducible refine (are1 a _ _ (by simp)).mono ?_); rintro e w0 ⟨rfl, rfl⟩)
    go_wp2
    go_ret2
    exact ⟨rfl, (by repeat' (first | (with_reducible exact Below.refl _ _) | (with_reducible assumption) | (with_reducible refine Below.alloc ?_ ?_ _) | (with_reducible refine Below.drew ?_) | (with_reducible refine below_drewN ?_ _) | (with_reducible refine Below.setCell ?_ ?_ _) | go_size))⟩
  · rcases h1 : (good p && primeB p) with _ | _
    · rw [show vRM a p = false from vRM_q h1]
      try simp only [oFor_false]
      go_enter Try.func18, Try.ntmps18
      go_wp2_with fail
      ((with_reducible refine (are1 a _ _ (by simp)).mono ?_); rintro e w0 ⟨rfl, rfl⟩)
      go_wp2_with fail
      ((with_reducible refine (implIsPrime_any p _).mono ?_); rintro e w1 ⟨rfl, hb1⟩)
      obtain ⟨hc1, hf1⟩ := bcell hb1
      have hz1 := hb1.size
      try simp only [World.size_alloc, World.size_drew, World.size_setCell] at hz1
      try have hs1 : w.heap.size < w1.heap.size := by omega
      have bl1 : Below w.heap.size w w1 := Below.trans (by go_grown) (hb1.mono (by go_size))
      go_wp2
      go_ret2
      exact ⟨rfl, (by repeat' (first | (with_reducible exact Below.refl _ _) | (with_reducible assumption) | (with_reducible refine Below.alloc ?_ ?_ _) | (with_reducible refine Below.drew ?_) | (with_reducible refine below_drewN ?_ _) | (with_reducible refine Below.setCell ?_ ?_ _) | go_size))⟩
    · have hq : good p = true ∧ primeB p = true := by simpa using h1
      have ha := good_iff.1 h0
      have hg := good_iff.1 hq.1
      rw [(vRM_ok h0 hq.1 hq.2).1, (vRM_ok h0 hq.1 hq.2).2]
      go_enter Try.func18, Try.ntmps18
      go_wp2_with fail
      ((with_reducible refine (are1 a _ _ (by simp)).mono ?_); rintro e w0 ⟨rfl, rfl⟩)
      go_wp2_with fail
      ((with_reducible refine (implIsPrime_any p _).mono ?_); rintro e w1 ⟨rfl, hb1⟩)
      obtain ⟨hc1, hf1⟩ := bcell hb1
      have hz1 := hb1.size
      try simp only [World.size_alloc, World.size_drew, World.size_setCell] at hz1
      try have hs1 : w.heap.size < w1.heap.size := by omega
      have bl1 : Below w.heap.size w w1 := Below.trans (by go_grown) (hb1.mono (by go_size))
      go_wp2_with fail
      ((with_reducible refine (rootModulo_any a p _ ha.1 ha.2 hg.2 hq.2).mono ?_); rintro e w0 ⟨rfl, rfl⟩)
      go_wp2
      go_ret2
      exact ⟨rfl, (by repeat' (first | (with_reducible exact Below.refl _ _) | (with_reducible assumption) | (with_reducible refine Below.alloc ?_ ?_ _) | (with_reducible refine Below.drew ?_) | (with_reducible refine below_drewN ?_ _) | (with_reducible refine Below.setCell ?_ ?_ _) | go_size))⟩
theorem specRM_any (a p : Int) (w : World) : Calls Try.prog 17 #[.int .i64 a, .int .i64 p] w fun e w' =>
    e = .returned (.tuple #[.int .i64 (oFor (vRM a p) (rmV a p)), .bool (vRM a p)]) ∧ Below w.heap.size w w' := by
  rcases h0 : good a with _ | _
  · rw [show vRM a p = false from vRM_a h0]
    try simp only [oFor_false]
    go_enter Try.func17, Try.ntmps17
    go_wp2_with fail
    ((with_reducible refine (nuGood_any a _).mono ?_); rintro e w0 ⟨rfl, rfl⟩)
    go_wp2
    go_ret2
    exact ⟨rfl, (by repeat' (first | (with_reducible exact Below.refl _ _) | (with_reducible assumption) | (with_reducible refine Below.alloc ?_ ?_ _) | (with_reducible refine Below.drew ?_) | (with_reducible refine below_drewN ?_ _) | (with_reducible refine Below.setCell ?_ ?_ _) | go_size))⟩
  · rcases h1 : good p with _ | _
    · rw [show vRM a p = false from vRM_p h1]
      try simp only [oFor_false]
      go_enter Try.func17, Try.ntmps17
      go_wp2_with fail
      ((with_reducible refine (nuGood_any a _).mono ?_); rintro e w0 ⟨rfl, rfl⟩)
      go_wp2_with fail
      ((with_reducible refine (nuGood_any p _).mono ?_); rintro e w0 ⟨rfl, rfl⟩)
      go_wp2
      go_ret2
      exact ⟨rfl, (by repeat' (first | (with_reducible exact Below.refl _ _) | (with_reducible assumption) | (with_reducible refine Below.alloc ?_ ?_ _) | (with_reducible refine Below.drew ?_) | (with_reducible refine below_drewN ?_ _) | (with_reducible refine Below.setCell ?_ ?_ _) | go_size))⟩
    · rcases h2 : primeB p with _ | _
      · rw [show vRM a p = false from vRM_pr h2]
        try simp only [oFor_false]
        go_enter Try.func17, Try.ntmps17
        go_wp2_with fail
        ((with_reducible refine (nuGood_any a _).mono ?_); rintro e w0 ⟨rfl, rfl⟩)
        go_wp2_with fail
        ((with_reducible refine (nuGood_any p _).mono ?_); rintro e w0 ⟨rfl, rfl⟩)
        go_wp2_with fail
        ((with_reducible refine (nuPrime_any _ _ (good_hi h1) (by have := good_lo h1; omega)).mono ?_); rintro e w0 ⟨rfl, rfl⟩)
        go_wp2
        go_ret2
        exact ⟨rfl, (by repeat' (first | (with_reducible exact Below.refl _ _) | (with_reducible assumption) | (with_reducible refine Below.alloc ?_ ?_ _) | (with_reducible refine Below.drew ?_) | (with_reducible refine below_drewN ?_ _) | (with_reducible refine Below.setCell ?_ ?_ _) | go_size))⟩
      · have ha := good_iff.1 h0
        have hg := good_iff.1 h1
        have p1 := prime_two h2
        rw [(vRM_ok h0 h1 h2).1, (vRM_ok h0 h1 h2).2]
        go_enter Try.func17, Try.ntmps17
        go_wp2_with fail
        ((with_reducible refine (nuGood_any a _).mono ?_); rintro e w0 ⟨rfl, rfl⟩)
        go_wp2_with fail
        ((with_reducible refine (nuGood_any p _).mono ?_); rintro e w0 ⟨rfl, rfl⟩)
        go_wp2_with fail
        ((with_reducible refine (nuPrime_any _ _ (good_hi h1) (by have := good_lo h1; omega)).mono ?_); rintro e w0 ⟨rfl, rfl⟩)
        go_wp2
        go_loop [6] (fun s => ∃ x : Nat, s = .int .i64 (x : Int) ∧ (x : Int) ≤ p / 2 + 1 ∧ Hid (NoRt a p x)) (fun s => (p + 1).toNat - (intOf s).toNat)
        case atStart => exact ⟨0, rfl, by omega, Lib.hid (fun y hy => by omega)⟩
        case round =>
          obtain ⟨x, rfl, hx, HN⟩ := hrel
          by_cases hlt : (x : Int) ≤ p / 2
          · have hq := rsq1 (x := x) (by omega)
            by_cases hd : p ∣ (x : Int) * x - a
            · have HV := Lib.hid (rm_hit (by omega) hlt hd HN.out)
              have ht : (((x : Int) * x - a).tmod p == 0) = true := by rw [beq_iff_eq]; exact Int.tmod_eq_zero_of_dvd hd
              clear hd
              go_wp2
              go_ret2
              exact ⟨by rw [HV.out.1, HV.out.2]; try rfl, (by repeat' (first | (with_reducible exact Below.refl _ _) | (with_reducible assumption) | (with_reducible refine Below.alloc ?_ ?_ _) | (with_reducible refine Below.drew ?_) | (with_reducible refine below_drewN ?_ _) | (with_reducible refine Below.setCell ?_ ?_ _) | go_size))⟩
            · have HM := Lib.hid (HN.out.succ hd)
              have ht : (((x : Int) * x - a).tmod p == 0) = false := by rw [beq_eq_false_iff_ne]; exact fun h' => hd (Int.dvd_of_tmod_eq_zero h')
              clear hd
              go_wp2
              go_round
              case rel => exact ⟨x + 1, by go_num, by omega, HM⟩
              case measure => simp only [intOf]; omega
          · have HV := Lib.hid (rm_none (a := a) (p := p) (fun y hy => HN.out y (by omega)) (by omega))
            go_wp2
            go_ret2
            exact ⟨by rw [HV.out.1, HV.out.2]; try rfl, (by repeat' (first | (with_reducible exact Below.refl _ _) | (with_reducible assumption) | (with_reducible refine Below.alloc ?_ ?_ _) | (with_reducible refine Below.drew ?_) | (with_reducible refine below_drewN ?_ _) | (with_reducible refine Below.setCell ?_ ?_ _) | go_size))⟩
theorem law_FnExactRootModuloPrime (a p : Int) (w : World) (ib_a : In64 a) (ib_p : In64 p) : Calls Try.prog 4 #[.int .i64 a, .int .i64 p] w fun e w' => e = .returned (.bool true) ∧ Below w.heap.size w w' := by
  go_enter Try.func4, Try.ntmps4
  go_wp2_with fail
  ((with_reducible refine (specRM_any _ _ _).mono ?_); rintro e w1 ⟨rfl, hb1⟩)
  obtain ⟨hc1, hf1⟩ := bcell hb1
  have hz1 := hb1.size
  try simp only [World.size_alloc, World.size_drew, World.size_setCell] at hz1
  try have hs1 : w.heap.size < w1.heap.size := by omega
  have bl1 : Below w.heap.size w w1 := Below.trans (by go_grown) (hb1.mono (by go_size))
  go_wp2_with fail
  ((with_reducible refine (implRM_any _ _ _).mono ?_); rintro e w2 ⟨rfl, hb2⟩)
  obtain ⟨hc2, hf2⟩ := bcell hb2
  have hz2 := hb2.size
  try simp only [World.size_alloc, World.size_drew, World.size_setCell] at hz2
  try have hs2 : w.heap.size < w2.heap.size := by omega
  have bl2 : Below w.heap.size w w2 := Below.trans (by go_grown) (hb2.mono (by go_size))
  go_wp2
  go_ret
  exact ⟨rfl, (by repeat' (first | (with_reducible exact Below.refl _ _) | (with_reducible assumption) | (with_reducible refine Below.alloc ?_ ?_ _) | (with_reducible refine Below.drew ?_) | (with_reducible refine below_drewN ?_ _) | (with_reducible refine Below.setCell ?_ ?_ _) | go_size))⟩
end Go.Proofs.Ytbiaokglmdmopaa
