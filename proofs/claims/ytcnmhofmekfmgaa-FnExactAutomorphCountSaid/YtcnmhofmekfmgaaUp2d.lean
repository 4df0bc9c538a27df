/-
  Contracts of 'AutomorphCount', 'EisensteinCount', 'GaussCount' and their laws' walks.
-/
import Derived.Test.YtcnmhofmekfmgaaUp2a
import Derived.Test.YtcnmhofmekfmgaaIn
namespace Go.Proofs.Ytcnmhofmekfmgaa
open Go.RowKit
set_option linter.unusedSimpArgs false
set_option linter.unusedVariables false

def vAC (d : Int) : Bool := inB (-2000) (-3) d && decide (d % 4 ≤ 1)
def acV (d : Int) : Int := if d = -3 then 6 else if d = -4 then 4 else 2
theorem vAC_ok {d : Int} (h : inB (-2000) (-3) d = true) (h1 : d % 4 ≤ 1) : vAC d = true := by simp [vAC, h, h1]
theorem vAC_bad1 {d : Int} (h : inB (-2000) (-3) d = false) : vAC d = false := by simp [vAC, h]
theorem vAC_bad2 {d : Int} (h1 : ¬ d % 4 ≤ 1) : vAC d = false := by simp [vAC, h1]
theorem vAC_iff {d : Int} (h : vAC d = true) : -2000 ≤ d ∧ d ≤ -3 ∧ d % 4 ≤ 1 := by
  simp [vAC, inB] at h
  omega

def vEC (p q : Int) : Bool := (oddP p && oddP q) && (decide (p ≠ q) && (decide (p ≤ 10000) && decide (q ≤ 10000)))
theorem vEC_bad {p q : Int} (h : oddP p = false ∨ oddP q = false ∨ p = q ∨ 10000 < p ∨ 10000 < q) : vEC p q = false := by
  unfold vEC
  rcases h with h | h | h | h | h
  · simp [h]
  · simp [h]
  · simp [h]
  · simp [show ¬ p ≤ 10000 by omega]
  · simp [show ¬ q ≤ 10000 by omega]
theorem vEC_ok {p q : Int} (h0 : oddP p = true) (h1 : oddP q = true) (h2 : ¬ p = q) (h3 : ¬ 10000 < p) (h4 : ¬ 10000 < q) : vEC p q = true := by
  simp [vEC, h0, h1, h2, show p ≤ 10000 by omega, show q ≤ 10000 by omega]
theorem oddP_lo {p : Int} (h : oddP p = true) : 3 ≤ p := by
  obtain ⟨_, h1, h2⟩ := oddP_iff.1 h
  have := (primeB_iff.1 h1).1
  omega
def eisS (q p : Int) : Nat → Int
  | 0 => 0
  | k + 1 => eisS q p k + ((k : Int) + 1) * q / p
theorem kq_bd {k : Nat} {q : Int} (q0 : 0 ≤ q) (q1 : q ≤ 10000) (hk : k ≤ 9999) : 0 ≤ ((k : Int) + 1) * q ∧ ((k : Int) + 1) * q ≤ 100000000 := by
  obtain ⟨Q, rfl⟩ : ∃ Q : Nat, q = Q := ⟨q.toNat, by omega⟩
  have : (k + 1) * Q ≤ 10000 * 10000 := Nat.mul_le_mul (by omega) (by omega)
  have e : ((k : Int) + 1) * Q = (((k + 1) * Q : Nat) : Int) := by rw [Int.natCast_mul]; rfl
  rw [e]
  omega
theorem eisS_bd (q p : Int) (q0 : 0 ≤ q) (q1 : q ≤ 10000) (p1 : 1 ≤ p) : ∀ k : Nat, k ≤ 10000 → 0 ≤ eisS q p k ∧ eisS q p k ≤ k * 100000000
  | 0, _ => by simp [eisS]
  | k + 1, hk => by
    have h := eisS_bd q p q0 q1 p1 k (by omega)
    have h1 := kq_bd (k := k) q0 q1 (by omega)
    have h2 : 0 ≤ ((k : Int) + 1) * q / p := Int.ediv_nonneg h1.1 (by omega)
    have h3 : ((k : Int) + 1) * q / p ≤ ((k : Int) + 1) * q := Int.ediv_le_self _ h1.1
    simp only [eisS]
    omega

def vGC (a p : Int) : Bool := (good a && oddP p) && (decide (p ≤ 10000) && decide (a % p ≠ 0))
theorem vGC_bad {a p : Int} (h : good a = false ∨ oddP p = false ∨ 10000 < p ∨ a % p = 0) : vGC a p = false := by
  unfold vGC
  rcases h with h | h | h | h
  · simp [h]
  · simp [h]
  · simp [show ¬ p ≤ 10000 by omega]
  · simp [h]
theorem vGC_ok {a p : Int} (h0 : good a = true) (h1 : oddP p = true) (h2 : ¬ 10000 < p) (h3 : ¬ a % p = 0) : vGC a p = true := by
  simp [vGC, h0, h1, show p ≤ 10000 by omega, h3]
def gauS (a p : Int) : Nat → Int
  | 0 => 0
  | k + 1 => gauS a p k + if (p - 1) / 2 < a * ((k : Int) + 1) % p then 1 else 0
theorem gauS_bd (a p : Int) : ∀ k : Nat, 0 ≤ gauS a p k ∧ gauS a p k ≤ k
  | 0 => by simp [gauS]
  | k + 1 => by
    have h := gauS_bd a p k
    simp only [gauS]
    split <;> omega
theorem ak_bd {a : Int} {k : Nat} (ha : good a = true) (hk : k ≤ 10000) : -10001000000 ≤ a * ((k : Int) + 1) ∧ a * ((k : Int) + 1) ≤ 10001000000 := by
  have h1 := good_iff.1 ha
  have h3 : (a * ((k : Int) + 1)).natAbs ≤ 1000000 * 10001 := by rw [Int.natAbs_mul]; exact Nat.mul_le_mul (by omega) (by omega)
  omega
theorem tmod_zero {a p : Int} (hp : 0 < p) : a.tmod p = 0 ↔ a % p = 0 := by
  rw [Int.tmod_eq_emod]
  have h0 := Int.emod_nonneg a (show p ≠ 0 by omega)
  have h1 := Int.emod_lt_of_pos a hp
  split <;> omega

theorem reDisc_any (d : Int) (w : World) (i1 : -9223372036854775808 ≤ d) (i2 : d ≤ 9223372036854775807) : Calls Try.prog 65 #[.int .i64 d] w fun e w' => e = .returned (.bool (vAC d)) ∧ w = w' := by
  have r1 := Int.emod_nonneg d (show (4 : Int) ≠ 0 by omega)
  have r2 := Int.emod_lt_of_pos d (show (0 : Int) < 4 by omega)
  rcases h0 : inB (-2000) (-3) d with _ | _
  · have hv := vAC_bad1 h0
    go_enter Try.func65, Try.ntmps65
    go_wp2_with fail
    ((with_reducible refine (l1In_any _ _ _ _).mono ?_); rintro e w0 ⟨rfl, rfl⟩)
    go_wp2
    go_ret
    first | exact ⟨rfl, rfl⟩ | exact ⟨by rw [hv]; rfl, rfl⟩
  · by_cases h1 : d % 4 ≤ 1
    · have hv := vAC_ok h0 h1
      go_enter Try.func65, Try.ntmps65
      go_wp2_with fail
      ((with_reducible refine (l1In_any _ _ _ _).mono ?_); rintro e w0 ⟨rfl, rfl⟩)
      go_wp2_with fail
      ((with_reducible refine (nuMod_any _ _ _ i1 i2 (by omega) (by omega)).mono ?_); rintro e w0 ⟨rfl, rfl⟩)
      go_wp2
      go_ret
      first | exact ⟨rfl, rfl⟩ | exact ⟨by rw [hv]; rfl, rfl⟩ | exact ⟨by rw [hv]; simp; omega, rfl⟩
    · have hv := vAC_bad2 h1
      have hd : decide (d % 4 < 2) = false := by simp; omega
      go_enter Try.func65, Try.ntmps65
      go_wp2_with fail
      ((with_reducible refine (l1In_any _ _ _ _).mono ?_); rintro e w0 ⟨rfl, rfl⟩)
      go_wp2_with fail
      ((with_reducible refine (nuMod_any _ _ _ i1 i2 (by omega) (by omega)).mono ?_); rintro e w0 ⟨rfl, rfl⟩)
      go_wp2
      go_ret
      first | exact ⟨rfl, rfl⟩ | exact ⟨by rw [hv]; rfl, rfl⟩ | exact ⟨by rw [hv]; simp; omega, rfl⟩
theorem isNegativeDisc_any (d : Int) (w : World) (i1 : -9223372036854775808 ≤ d) (i2 : d ≤ 9223372036854775807) : Calls Try.prog 67 #[.int .i64 d] w fun e w' => e = .returned (.bool (vAC d)) ∧ w = w' := by
  have r1 := Int.emod_nonneg d (show (4 : Int) ≠ 0 by omega)
  have r2 := Int.emod_lt_of_pos d (show (0 : Int) < 4 by omega)
  by_cases h0 : -2000 ≤ d
  · by_cases h1 : d ≤ -3
    · by_cases h2 : d % 4 ≤ 1
      · have hv := vAC_ok (inB_iff.2 ⟨h0, h1⟩) h2
        go_enter Try.func67, Try.ntmps67
        go_wp2_with fail
        ((with_reducible refine (mod_any _ _ _ i1 i2 (by omega) (by omega)).mono ?_); rintro e w0 ⟨rfl, rfl⟩)
        go_wp2
        go_ret
        first | exact ⟨rfl, rfl⟩ | exact ⟨by rw [hv]; rfl, rfl⟩ | exact ⟨by rw [hv]; simp; omega, rfl⟩
      · have hv := vAC_bad2 h2
        have hd : decide (d % 4 ≤ 1) = false := by simp; omega
        go_enter Try.func67, Try.ntmps67
        go_wp2_with fail
        ((with_reducible refine (mod_any _ _ _ i1 i2 (by omega) (by omega)).mono ?_); rintro e w0 ⟨rfl, rfl⟩)
        go_wp2
        go_ret
        first | exact ⟨rfl, rfl⟩ | exact ⟨by rw [hv]; rfl, rfl⟩ | exact ⟨by rw [hv]; simp; omega, rfl⟩
    · have hv : vAC d = false := vAC_bad1 (inB_bad.2 (by omega))
      have hd : decide (d ≤ -3) = false := by simp; omega
      go_enter Try.func67, Try.ntmps67
      go_wp2
      go_ret
      first | exact ⟨rfl, rfl⟩ | exact ⟨by rw [hv]; rfl, rfl⟩
  · have hv : vAC d = false := vAC_bad1 (inB_bad.2 (by omega))
    have hd : decide (-2000 ≤ d) = false := by simp; omega
    go_enter Try.func67, Try.ntmps67
    go_wp2
    go_ret
    first | exact ⟨rfl, rfl⟩ | exact ⟨by rw [hv]; rfl, rfl⟩

theorem specAC_any (d : Int) (w : World) (hi : In64 d) : Calls Try.prog 36 #[.int .i64 d] w fun e w' => e = .returned (.tuple #[.int .i64 (oFor (vAC d) (acV d)), .bool (vAC d)]) ∧ Below w.heap.size w w' := by
  obtain ⟨i1, i2⟩ := hi
  rcases hv : vAC d with _ | _
  · rw [oFor_false]
    go_enter Try.func36, Try.ntmps36
    go_wp2_with fail
    ((with_reducible refine (reDisc_any _ _ i1 i2).mono ?_); rintro e w0 ⟨rfl, rfl⟩)
    go_wp2
    go_ret2
    exact ⟨rfl, (by repeat' (first | (with_reducible exact Below.refl _ _) | (with_reducible assumption) | (with_reducible refine Below.alloc ?_ ?_ _) | (with_reducible refine Below.drew ?_) | (with_reducible refine below_drewN ?_ _) | (with_reducible refine Below.setCell ?_ ?_ _) | go_size))⟩
  · obtain ⟨b1, b2, _⟩ := vAC_iff hv
    rw [oFor_true]
    by_cases h3 : d = -3
    · have ha : acV d = 6 := by simp [acV, h3]
      have t3 : (d == -3) = true := by simp [h3]
      have HA := Lib.hid ha
      clear ha h3
      go_enter Try.func36, Try.ntmps36
      go_wp2_with fail
      ((with_reducible refine (reDisc_any _ _ i1 i2).mono ?_); rintro e w0 ⟨rfl, rfl⟩)
      go_wp2_with go_in
      go_ret2
      exact ⟨by rw [HA.out]; rfl, (by repeat' (first | (with_reducible exact Below.refl _ _) | (with_reducible assumption) | (with_reducible refine Below.alloc ?_ ?_ _) | (with_reducible refine Below.drew ?_) | (with_reducible refine below_drewN ?_ _) | (with_reducible refine Below.setCell ?_ ?_ _) | go_size))⟩
    · have t3 : (d == -3) = false := by simp [h3]
      by_cases h4 : d = -4
      · have ha : acV d = 4 := by simp [acV, h4]
        have t4 : (d == -4) = true := by simp [h4]
        have HA := Lib.hid ha
        clear ha h3 h4
        go_enter Try.func36, Try.ntmps36
        go_wp2_with fail
        ((with_reducible refine (reDisc_any _ _ i1 i2).mono ?_); rintro e w0 ⟨rfl, rfl⟩)
        go_wp2_with go_in
        go_ret2
        exact ⟨by rw [HA.out]; rfl, (by repeat' (first | (with_reducible exact Below.refl _ _) | (with_reducible assumption) | (with_reducible refine Below.alloc ?_ ?_ _) | (with_reducible refine Below.drew ?_) | (with_reducible refine below_drewN ?_ _) | (with_reducible refine Below.setCell ?_ ?_ _) | go_size))⟩
      · have ha : acV d = 2 := by simp [acV, h3, h4]
        have t4 : (d == -4) = false := by simp [h4]
        have HA := Lib.hid ha
        clear ha h3 h4
        go_enter Try.func36, Try.ntmps36
        go_wp2_with fail
        ((with_reducible refine (reDisc_any _ _ i1 i2).mono ?_); rintro e w0 ⟨rfl, rfl⟩)
        go_wp2_with go_in
        go_ret2
        exact ⟨by rw [HA.out]; rfl, (by repeat' (first | (with_reducible exact Below.refl _ _) | (with_reducible assumption) | (with_reducible refine Below.alloc ?_ ?_ _) | (with_reducible refine Below.drew ?_) | (with_reducible refine below_drewN ?_ _) | (with_reducible refine Below.setCell ?_ ?_ _) | go_size))⟩

theorem implAC_any (d : Int) (w : World) (hi : In64 d) : Calls Try.prog 37 #[.int .i64 d] w fun e w' => e = .returned (.tuple #[.int .i64 (oFor (vAC d) (acV d)), .bool (vAC d)]) ∧ Below w.heap.size w w' := by
  obtain ⟨i1, i2⟩ := hi
  rcases hv : vAC d with _ | _
  · rw [oFor_false]
    go_enter Try.func37, Try.ntmps37
    go_wp2_with fail
    ((with_reducible refine (isNegativeDisc_any _ _ i1 i2).mono ?_); rintro e w0 ⟨rfl, rfl⟩)
    go_wp2
    go_ret2
    exact ⟨rfl, (by repeat' (first | (with_reducible exact Below.refl _ _) | (with_reducible assumption) | (with_reducible refine Below.alloc ?_ ?_ _) | (with_reducible refine Below.drew ?_) | (with_reducible refine below_drewN ?_ _) | (with_reducible refine Below.setCell ?_ ?_ _) | go_size))⟩
  · obtain ⟨b1, b2, _⟩ := vAC_iff hv
    rw [oFor_true]
    by_cases h3 : d = -3
    · have ha : acV d = 6 := by simp [acV, h3]
      have t3 : (d == -3) = true := by simp [h3]
      have HA := Lib.hid ha
      clear ha h3
      go_enter Try.func37, Try.ntmps37
      go_wp2_with fail
      ((with_reducible refine (isNegativeDisc_any _ _ i1 i2).mono ?_); rintro e w0 ⟨rfl, rfl⟩)
      go_wp2_with go_in
      go_ret2
      exact ⟨by rw [HA.out]; rfl, (by repeat' (first | (with_reducible exact Below.refl _ _) | (with_reducible assumption) | (with_reducible refine Below.alloc ?_ ?_ _) | (with_reducible refine Below.drew ?_) | (with_reducible refine below_drewN ?_ _) | (with_reducible refine Below.setCell ?_ ?_ _) | go_size))⟩
    · have t3 : (d == -3) = false := by simp [h3]
      by_cases h4 : d = -4
      · have ha : acV d = 4 := by simp [acV, h4]
        have t4 : (d == -4) = true := by simp [h4]
        have HA := Lib.hid ha
        clear ha h3 h4
        go_enter Try.func37, Try.ntmps37
        go_wp2_with fail
        ((with_reducible refine (isNegativeDisc_any _ _ i1 i2).mono ?_); rintro e w0 ⟨rfl, rfl⟩)
        go_wp2_with go_in
        go_ret2
        exact ⟨by rw [HA.out]; rfl, (by repeat' (first | (with_reducible exact Below.refl _ _) | (with_reducible assumption) | (with_reducible refine Below.alloc ?_ ?_ _) | (with_reducible refine Below.drew ?_) | (with_reducible refine below_drewN ?_ _) | (with_reducible refine Below.setCell ?_ ?_ _) | go_size))⟩
      · have ha : acV d = 2 := by simp [acV, h3, h4]
        have t4 : (d == -4) = false := by simp [h4]
        have HA := Lib.hid ha
        clear ha h3 h4
        go_enter Try.func37, Try.ntmps37
        go_wp2_with fail
        ((with_reducible refine (isNegativeDisc_any _ _ i1 i2).mono ?_); rintro e w0 ⟨rfl, rfl⟩)
        go_wp2_with go_in
        go_ret2
        exact ⟨by rw [HA.out]; rfl, (by repeat' (first | (with_reducible exact Below.refl _ _) | (with_reducible assumption) | (with_reducible refine Below.alloc ?_ ?_ _) | (with_reducible refine Below.drew ?_) | (with_reducible refine below_drewN ?_ _) | (with_reducible refine Below.setCell ?_ ?_ _) | go_size))⟩

set_option maxHeartbeats 400000 in
theorem specEC_any (p q : Int) (w : World) (ip : In64 p) (iq : In64 q) : Calls Try.prog 34 #[.int .i64 p, .int .i64 q] w fun e w' =>
    e = .returned (.tuple #[.int .i64 (oFor (vEC p q) (eisS q p ((p - 1) / 2).toNat)), .bool (vEC p q)]) ∧ Below w.heap.size w w' := by
  rcases hp : oddP p with _ | _
  · rw [vEC_bad (by simp [*]), oFor_false]
    go_enter Try.func34, Try.ntmps34
    go_wp2_with fail
    ((with_reducible refine (syOddPrime_any _ _ ip).mono ?_); rintro e w1 ⟨rfl, hb1⟩)
    obtain ⟨hc1, hf1⟩ := bcell hb1
    have hz1 := hb1.size
    try simp only [World.size_alloc, World.size_drew, World.size_setCell] at hz1
    try have hs1 : w.heap.size < w1.heap.size := by omega
    have bl1 : Below w.heap.size w w1 := Below.trans (by go_grown) (hb1.mono (by go_size))
    go_wp2
    go_ret2
    exact ⟨rfl, bl1⟩
  · rcases hq : oddP q with _ | _
    · rw [vEC_bad (by simp [*]), oFor_false]
      go_enter Try.func34, Try.ntmps34
      go_wp2_with fail
      ((with_reducible refine (syOddPrime_any _ _ ip).mono ?_); rintro e w1 ⟨rfl, hb1⟩)
      obtain ⟨hc1, hf1⟩ := bcell hb1
      have hz1 := hb1.size
      try simp only [World.size_alloc, World.size_drew, World.size_setCell] at hz1
      try have hs1 : w.heap.size < w1.heap.size := by omega
      have bl1 : Below w.heap.size w w1 := Below.trans (by go_grown) (hb1.mono (by go_size))
      go_wp2_with fail
      ((with_reducible refine (syOddPrime_any _ _ iq).mono ?_); rintro e w2 ⟨rfl, hb2⟩)
      obtain ⟨hc2, hf2⟩ := bcell hb2
      have hz2 := hb2.size
      try simp only [World.size_alloc, World.size_drew, World.size_setCell] at hz2
      try have hs2 : w.heap.size < w2.heap.size := by omega
      have bl2 : Below w.heap.size w w2 := Below.trans (by go_grown) (hb2.mono (by go_size))
      go_wp2
      go_ret2
      exact ⟨rfl, bl2⟩
    · by_cases he : p = q
      · rw [vEC_bad (by simp [*]), oFor_false]
        have het : (p == q) = true := by simpa using he
        clear he
        go_enter Try.func34, Try.ntmps34
        go_wp2_with fail
        ((with_reducible refine (syOddPrime_any _ _ ip).mono ?_); rintro e w1 ⟨rfl, hb1⟩)
        obtain ⟨hc1, hf1⟩ := bcell hb1
        have hz1 := hb1.size
        try simp only [World.size_alloc, World.size_drew, World.size_setCell] at hz1
        try have hs1 : w.heap.size < w1.heap.size := by omega
        have bl1 : Below w.heap.size w w1 := Below.trans (by go_grown) (hb1.mono (by go_size))
        go_wp2_with fail
        ((with_reducible refine (syOddPrime_any _ _ iq).mono ?_); rintro e w2 ⟨rfl, hb2⟩)
        obtain ⟨hc2, hf2⟩ := bcell hb2
        have hz2 := hb2.size
        try simp only [World.size_alloc, World.size_drew, World.size_setCell] at hz2
        try have hs2 : w.heap.size < w2.heap.size := by omega
        have bl2 : Below w.heap.size w w2 := Below.trans (by go_grown) (hb2.mono (by go_size))
        go_wp2
        go_ret2
        exact ⟨rfl, bl2⟩
      · by_cases hp4 : 10000 < p
        · rw [vEC_bad (by simp [*]), oFor_false]
          go_enter Try.func34, Try.ntmps34
          go_wp2_with fail
          ((with_reducible refine (syOddPrime_any _ _ ip).mono ?_); rintro e w1 ⟨rfl, hb1⟩)
          obtain ⟨hc1, hf1⟩ := bcell hb1
          have hz1 := hb1.size
          try simp only [World.size_alloc, World.size_drew, World.size_setCell] at hz1
          try have hs1 : w.heap.size < w1.heap.size := by omega
          have bl1 : Below w.heap.size w w1 := Below.trans (by go_grown) (hb1.mono (by go_size))
          go_wp2_with fail
          ((with_reducible refine (syOddPrime_any _ _ iq).mono ?_); rintro e w2 ⟨rfl, hb2⟩)
          obtain ⟨hc2, hf2⟩ := bcell hb2
          have hz2 := hb2.size
          try simp only [World.size_alloc, World.size_drew, World.size_setCell] at hz2
          try have hs2 : w.heap.size < w2.heap.size := by omega
          have bl2 : Below w.heap.size w w2 := Below.trans (by go_grown) (hb2.mono (by go_size))
          go_wp2
          go_ret2
          exact ⟨rfl, bl2⟩
        · by_cases hq4 : 10000 < q
          · rw [vEC_bad (by simp [*]), oFor_false]
            go_enter Try.func34, Try.ntmps34
            go_wp2_with fail
            ((with_reducible refine (syOddPrime_any _ _ ip).mono ?_); rintro e w1 ⟨rfl, hb1⟩)
            obtain ⟨hc1, hf1⟩ := bcell hb1
            have hz1 := hb1.size
            try simp only [World.size_alloc, World.size_drew, World.size_setCell] at hz1
            try have hs1 : w.heap.size < w1.heap.size := by omega
            have bl1 : Below w.heap.size w w1 := Below.trans (by go_grown) (hb1.mono (by go_size))
            go_wp2_with fail
            ((with_reducible refine (syOddPrime_any _ _ iq).mono ?_); rintro e w2 ⟨rfl, hb2⟩)
            obtain ⟨hc2, hf2⟩ := bcell hb2
            have hz2 := hb2.size
            try simp only [World.size_alloc, World.size_drew, World.size_setCell] at hz2
            try have hs2 : w.heap.size < w2.heap.size := by omega
            have bl2 : Below w.heap.size w w2 := Below.trans (by go_grown) (hb2.mono (by go_size))
            go_wp2
            go_ret2
            exact ⟨rfl, bl2⟩
          · rw [vEC_ok hp hq he hp4 hq4, oFor_true]
            have p1 := oddP_lo hp
            have q1 := oddP_lo hq
            have heb : (p == q) = false := by simpa using he
            have hpb : decide (10000 < p) = false := by simpa using hp4
            have hqb : decide (10000 < q) = false := by simpa using hq4
            go_enter Try.func34, Try.ntmps34
            go_wp2_with fail
            ((with_reducible refine (syOddPrime_any _ _ ip).mono ?_); rintro e w1 ⟨rfl, hb1⟩)
            obtain ⟨hc1, hf1⟩ := bcell hb1
            have hz1 := hb1.size
            try simp only [World.size_alloc, World.size_drew, World.size_setCell] at hz1
            try have hs1 : w.heap.size < w1.heap.size := by omega
            have bl1 : Below w.heap.size w w1 := Below.trans (by go_grown) (hb1.mono (by go_size))
            go_wp2_with fail
            ((with_reducible refine (syOddPrime_any _ _ iq).mono ?_); rintro e w2 ⟨rfl, hb2⟩)
            obtain ⟨hc2, hf2⟩ := bcell hb2
            have hz2 := hb2.size
            try simp only [World.size_alloc, World.size_drew, World.size_setCell] at hz2
            try have hs2 : w.heap.size < w2.heap.size := by omega
            have bl2 : Below w.heap.size w w2 := Below.trans (by go_grown) (hb2.mono (by go_size))
            go_wp2
            go_loopw [6, 7] (fun s t wr => ∃ k : Nat, s = .int .i64 (eisS q p k) ∧ t = .int .i64 ((k : Int) + 1) ∧ (k : Int) ≤ (p - 1) / 2 ∧ Below w.heap.size w wr) (fun _ t _ => ((p - 1) / 2 + 2 - intOf t).toNat)
            case atStart => exact ⟨0, rfl, rfl, by omega, (by repeat' (first | (with_reducible exact Below.refl _ _) | (with_reducible assumption) | (with_reducible refine Below.alloc ?_ ?_ _) | (with_reducible refine Below.drew ?_) | (with_reducible refine below_drewN ?_ _) | (with_reducible refine Below.setCell ?_ ?_ _) | go_size))⟩
            case round =>
              obtain ⟨k, rfl, rfl, k2, hbl⟩ := hrel
              have e1 := eisS_bd q p (by omega) (by omega) (by omega) k (by omega)
              have e2 := kq_bd (k := k) (q := q) (by omega) (by omega) (by omega)
              have e3 : 0 ≤ ((k : Int) + 1) * q / p := Int.ediv_nonneg e2.1 (by omega)
              have e4 : ((k : Int) + 1) * q / p ≤ ((k : Int) + 1) * q := Int.ediv_le_self _ e2.1
              by_cases hk : (k : Int) + 1 ≤ (p - 1) / 2
              · go_wp2
                go_roundw
                case rel => exact ⟨k + 1, rfl, by go_num, by omega, hbl⟩
                case measure => simp only [intOf]; omega
              · have hf : eisS q p k = eisS q p ((p - 1) / 2).toNat := by congr 1; omega
                have HF := Lib.hid hf
                clear hf
                go_wp2
                go_ret2
                exact ⟨by rw [← HF.out]; rfl, hbl⟩

set_option maxHeartbeats 400000 in
theorem implEC_any (p q : Int) (w : World) (ip : In64 p) (iq : In64 q) : Calls Try.prog 35 #[.int .i64 p, .int .i64 q] w fun e w' =>
    e = .returned (.tuple #[.int .i64 (oFor (vEC p q) (eisS q p ((p - 1) / 2).toNat)), .bool (vEC p q)]) ∧ Below w.heap.size w w' := by
  rcases hp : oddP p with _ | _
  · rw [vEC_bad (by simp [*]), oFor_false]
    go_enter Try.func35, Try.ntmps35
    go_wp2_with fail
    ((with_reducible refine (isOddPrime_any _ _).mono ?_); rintro e w1 ⟨rfl, hb1⟩)
    obtain ⟨hc1, hf1⟩ := bcell hb1
    have hz1 := hb1.size
    try simp only [World.size_alloc, World.size_drew, World.size_setCell] at hz1
    try have hs1 : w.heap.size < w1.heap.size := by omega
    have bl1 : Below w.heap.size w w1 := Below.trans (by go_grown) (hb1.mono (by go_size))
    go_wp2
    go_ret2
    exact ⟨rfl, bl1⟩
  · rcases hq : oddP q with _ | _
    · rw [vEC_bad (by simp [*]), oFor_false]
      go_enter Try.func35, Try.ntmps35
      go_wp2_with fail
      ((with_reducible refine (isOddPrime_any _ _).mono ?_); rintro e w1 ⟨rfl, hb1⟩)
      obtain ⟨hc1, hf1⟩ := bcell hb1
      have hz1 := hb1.size
      try simp only [World.size_alloc, World.size_drew, World.size_setCell] at hz1
      try have hs1 : w.heap.size < w1.heap.size := by omega
      have bl1 : Below w.heap.size w w1 := Below.trans (by go_grown) (hb1.mono (by go_size))
      go_wp2_with fail
      ((with_reducible refine (isOddPrime_any _ _).mono ?_); rintro e w2 ⟨rfl, hb2⟩)
      obtain ⟨hc2, hf2⟩ := bcell hb2
      have hz2 := hb2.size
      try simp only [World.size_alloc, World.size_drew, World.size_setCell] at hz2
      try have hs2 : w.heap.size < w2.heap.size := by omega
      have bl2 : Below w.heap.size w w2 := Below.trans (by go_grown) (hb2.mono (by go_size))
      go_wp2
      go_ret2
      exact ⟨rfl, bl2⟩
    · by_cases hp4 : 10000 < p
      · rw [vEC_bad (by simp [*]), oFor_false]
        go_enter Try.func35, Try.ntmps35
        go_wp2_with fail
        ((with_reducible refine (isOddPrime_any _ _).mono ?_); rintro e w1 ⟨rfl, hb1⟩)
        obtain ⟨hc1, hf1⟩ := bcell hb1
        have hz1 := hb1.size
        try simp only [World.size_alloc, World.size_drew, World.size_setCell] at hz1
        try have hs1 : w.heap.size < w1.heap.size := by omega
        have bl1 : Below w.heap.size w w1 := Below.trans (by go_grown) (hb1.mono (by go_size))
        go_wp2_with fail
        ((with_reducible refine (isOddPrime_any _ _).mono ?_); rintro e w2 ⟨rfl, hb2⟩)
        obtain ⟨hc2, hf2⟩ := bcell hb2
        have hz2 := hb2.size
        try simp only [World.size_alloc, World.size_drew, World.size_setCell] at hz2
        try have hs2 : w.heap.size < w2.heap.size := by omega
        have bl2 : Below w.heap.size w w2 := Below.trans (by go_grown) (hb2.mono (by go_size))
        go_wp2
        go_ret2
        exact ⟨rfl, bl2⟩
      · by_cases hq4 : 10000 < q
        · rw [vEC_bad (by simp [*]), oFor_false]
          go_enter Try.func35, Try.ntmps35
          go_wp2_with fail
          ((with_reducible refine (isOddPrime_any _ _).mono ?_); rintro e w1 ⟨rfl, hb1⟩)
          obtain ⟨hc1, hf1⟩ := bcell hb1
          have hz1 := hb1.size
          try simp only [World.size_alloc, World.size_drew, World.size_setCell] at hz1
          try have hs1 : w.heap.size < w1.heap.size := by omega
          have bl1 : Below w.heap.size w w1 := Below.trans (by go_grown) (hb1.mono (by go_size))
          go_wp2_with fail
          ((with_reducible refine (isOddPrime_any _ _).mono ?_); rintro e w2 ⟨rfl, hb2⟩)
          obtain ⟨hc2, hf2⟩ := bcell hb2
          have hz2 := hb2.size
          try simp only [World.size_alloc, World.size_drew, World.size_setCell] at hz2
          try have hs2 : w.heap.size < w2.heap.size := by omega
          have bl2 : Below w.heap.size w w2 := Below.trans (by go_grown) (hb2.mono (by go_size))
          go_wp2
          go_ret2
          exact ⟨rfl, bl2⟩
        · by_cases he : p = q
          · rw [vEC_bad (by simp [*]), oFor_false]
            have het : (p == q) = true := by simpa using he
            clear he
            go_enter Try.func35, Try.ntmps35
            go_wp2_with fail
            ((with_reducible refine (isOddPrime_any _ _).mono ?_); rintro e w1 ⟨rfl, hb1⟩)
            obtain ⟨hc1, hf1⟩ := bcell hb1
            have hz1 := hb1.size
            try simp only [World.size_alloc, World.size_drew, World.size_setCell] at hz1
            try have hs1 : w.heap.size < w1.heap.size := by omega
            have bl1 : Below w.heap.size w w1 := Below.trans (by go_grown) (hb1.mono (by go_size))
            go_wp2_with fail
            ((with_reducible refine (isOddPrime_any _ _).mono ?_); rintro e w2 ⟨rfl, hb2⟩)
            obtain ⟨hc2, hf2⟩ := bcell hb2
            have hz2 := hb2.size
            try simp only [World.size_alloc, World.size_drew, World.size_setCell] at hz2
            try have hs2 : w.heap.size < w2.heap.size := by omega
            have bl2 : Below w.heap.size w w2 := Below.trans (by go_grown) (hb2.mono (by go_size))
            go_wp2
            go_ret2
            exact ⟨rfl, bl2⟩
          · rw [vEC_ok hp hq he hp4 hq4, oFor_true]
            have p1 := oddP_lo hp
            have q1 := oddP_lo hq
            have heb : (p == q) = false := by simpa using he
            have hpb : decide (10000 < p) = false := by simpa using hp4
            have hqb : decide (10000 < q) = false := by simpa using hq4
            go_enter Try.func35, Try.ntmps35
            go_wp2_with fail
            ((with_reducible refine (isOddPrime_any _ _).mono ?_); rintro e w1 ⟨rfl, hb1⟩)
            obtain ⟨hc1, hf1⟩ := bcell hb1
            have hz1 := hb1.size
            try simp only [World.size_alloc, World.size_drew, World.size_setCell] at hz1
            try have hs1 : w.heap.size < w1.heap.size := by omega
            have bl1 : Below w.heap.size w w1 := Below.trans (by go_grown) (hb1.mono (by go_size))
            go_wp2_with fail
            ((with_reducible refine (isOddPrime_any _ _).mono ?_); rintro e w2 ⟨rfl, hb2⟩)
            obtain ⟨hc2, hf2⟩ := bcell hb2
            have hz2 := hb2.size
            try simp only [World.size_alloc, World.size_drew, World.size_setCell] at hz2
            try have hs2 : w.heap.size < w2.heap.size := by omega
            have bl2 : Below w.heap.size w w2 := Below.trans (by go_grown) (hb2.mono (by go_size))
            go_wp2
            go_loopw [6, 7] (fun s t wr => ∃ k : Nat, s = .int .i64 (eisS q p k) ∧ t = .int .i64 ((k : Int) + 1) ∧ (k : Int) ≤ (p - 1) / 2 ∧ Below w.heap.size w wr) (fun _ t _ => ((p - 1) / 2 + 2 - intOf t).toNat)
            case atStart => exact ⟨0, rfl, rfl, by omega, (by repeat' (first | (with_reducible exact Below.refl _ _) | (with_reducible assumption) | (with_reducible refine Below.alloc ?_ ?_ _) | (with_reducible refine Below.drew ?_) | (with_reducible refine below_drewN ?_ _) | (with_reducible refine Below.setCell ?_ ?_ _) | go_size))⟩
            case round =>
              obtain ⟨k, rfl, rfl, k2, hbl⟩ := hrel
              have e1 := eisS_bd q p (by omega) (by omega) (by omega) k (by omega)
              have e2 := kq_bd (k := k) (q := q) (by omega) (by omega) (by omega)
              have e3 : 0 ≤ ((k : Int) + 1) * q / p := Int.ediv_nonneg e2.1 (by omega)
              have e4 : ((k : Int) + 1) * q / p ≤ ((k : Int) + 1) * q := Int.ediv_le_self _ e2.1
              by_cases hk : (k : Int) + 1 ≤ (p - 1) / 2
              · go_wp2
                go_roundw
                case rel => exact ⟨k + 1, rfl, by go_num, by omega, hbl⟩
                case measure => simp only [intOf]; omega
              · have hf : eisS q p k = eisS q p ((p - 1) / 2).toNat := by congr 1; omega
                have HF := Lib.hid hf
                clear hf
                go_wp2
                go_ret2
                exact ⟨by rw [← HF.out]; rfl, hbl⟩

set_option maxHeartbeats 800000 in
theorem specGC_any (a p : Int) (w : World) (ip : In64 p) : Calls Try.prog 38 #[.int .i64 a, .int .i64 p] w fun e w' =>
    e = .returned (.tuple #[.int .i64 (oFor (vGC a p) (gauS a p ((p - 1) / 2).toNat)), .bool (vGC a p)]) ∧ Below w.heap.size w w' := by
  rcases h0 : good a with _ | _
  · rw [vGC_bad (.inl h0), oFor_false]
    go_enter Try.func38, Try.ntmps38
    go_wp2_with fail
    ((with_reducible refine (nuGood_any a _).mono ?_); rintro e w0 ⟨rfl, rfl⟩)
    go_wp2
    go_ret2
    exact ⟨rfl, (by repeat' (first | (with_reducible exact Below.refl _ _) | (with_reducible assumption) | (with_reducible refine Below.alloc ?_ ?_ _) | (with_reducible refine Below.drew ?_) | (with_reducible refine below_drewN ?_ _) | (with_reducible refine Below.setCell ?_ ?_ _) | go_size))⟩
  · have g0 := good_iff.1 h0
    rcases h1 : oddP p with _ | _
    · rw [vGC_bad (.inr (.inl h1)), oFor_false]
      go_enter Try.func38, Try.ntmps38
      go_wp2_with fail
      ((with_reducible refine (nuGood_any a _).mono ?_); rintro e w0 ⟨rfl, rfl⟩)
      go_wp2_with fail
      ((with_reducible refine (syOddPrime_any _ _ ip).mono ?_); rintro e w1 ⟨rfl, hb1⟩)
      obtain ⟨hc1, hf1⟩ := bcell hb1
      have hz1 := hb1.size
      try simp only [World.size_alloc, World.size_drew, World.size_setCell] at hz1
      try have hs1 : w.heap.size < w1.heap.size := by omega
      have bl1 : Below w.heap.size w w1 := Below.trans (by go_grown) (hb1.mono (by go_size))
      go_wp2
      go_ret2
      exact ⟨rfl, bl1⟩
    · have p3 := oddP_lo h1
      by_cases h2 : 10000 < p
      · rw [vGC_bad (.inr (.inr (.inl h2))), oFor_false]
        go_enter Try.func38, Try.ntmps38
        go_wp2_with fail
        ((with_reducible refine (nuGood_any a _).mono ?_); rintro e w0 ⟨rfl, rfl⟩)
        go_wp2_with fail
        ((with_reducible refine (syOddPrime_any _ _ ip).mono ?_); rintro e w1 ⟨rfl, hb1⟩)
        obtain ⟨hc1, hf1⟩ := bcell hb1
        have hz1 := hb1.size
        try simp only [World.size_alloc, World.size_drew, World.size_setCell] at hz1
        try have hs1 : w.heap.size < w1.heap.size := by omega
        have bl1 : Below w.heap.size w w1 := Below.trans (by go_grown) (hb1.mono (by go_size))
        go_wp2
        go_ret2
        exact ⟨rfl, bl1⟩
      · by_cases h3 : a % p = 0
        · rw [vGC_bad (.inr (.inr (.inr h3))), oFor_false]
          have ht : (a.tmod p == 0) = true := by simpa using (tmod_zero (by omega)).2 h3
          have ht2 : 0 ≤ a → (a % p == 0) = true := fun _ => by simpa using h3
          clear h3
          go_enter Try.func38, Try.ntmps38
          go_wp2_with fail
          ((with_reducible refine (nuGood_any a _).mono ?_); rintro e w0 ⟨rfl, rfl⟩)
          go_wp2_with fail
          ((with_reducible refine (syOddPrime_any _ _ ip).mono ?_); rintro e w1 ⟨rfl, hb1⟩)
          obtain ⟨hc1, hf1⟩ := bcell hb1
          have hz1 := hb1.size
          try simp only [World.size_alloc, World.size_drew, World.size_setCell] at hz1
          try have hs1 : w.heap.size < w1.heap.size := by omega
          have bl1 : Below w.heap.size w w1 := Below.trans (by go_grown) (hb1.mono (by go_size))
          by_cases ha : 0 ≤ a
          · have ht3 := ht2 ha
            clear ht2
            go_wp2
            go_ret2
            exact ⟨rfl, bl1⟩
          · clear ht2
            go_wp2
            go_ret2
            exact ⟨rfl, bl1⟩
        · rw [vGC_ok h0 h1 h2 h3, oFor_true]
          have ht : (a.tmod p == 0) = false := by rw [beq_eq_false_iff_ne]; exact fun h => h3 ((tmod_zero (by omega)).1 h)
          have ht2 : (a % p == 0) = false := by rw [beq_eq_false_iff_ne]; exact h3
          go_enter Try.func38, Try.ntmps38
          go_wp2_with fail
          ((with_reducible refine (nuGood_any a _).mono ?_); rintro e w0 ⟨rfl, rfl⟩)
          go_wp2_with fail
          ((with_reducible refine (syOddPrime_any _ _ ip).mono ?_); rintro e w1 ⟨rfl, hb1⟩)
          obtain ⟨hc1, hf1⟩ := bcell hb1
          have hz1 := hb1.size
          try simp only [World.size_alloc, World.size_drew, World.size_setCell] at hz1
          try have hs1 : w.heap.size < w1.heap.size := by omega
          have bl1 : Below w.heap.size w w1 := Below.trans (by go_grown) (hb1.mono (by go_size))
          go_wp2
          go_loopw [6, 8] (fun s t wr => ∃ k : Nat, s = .int .i64 (gauS a p k) ∧ t = .int .i64 ((k : Int) + 1) ∧ (k : Int) ≤ (p - 1) / 2 ∧ Below w.heap.size w wr) (fun _ t _ => ((p - 1) / 2 + 2 - intOf t).toNat)
          case atStart => exact ⟨0, rfl, rfl, by omega, bl1⟩
          case round =>
            obtain ⟨k, rfl, rfl, k2, hbl⟩ := hrel
            have e1 := gauS_bd a p k
            have e2 := ak_bd (k := k) h0 (by omega)
            by_cases hk : (k : Int) + 1 ≤ (p - 1) / 2
            · by_cases hc : (p - 1) / 2 < a * ((k : Int) + 1) % p
              · have hs : gauS a p k + 1 = gauS a p (k + 1) := by simp [gauS, hc]
                have HS := Lib.hid hs
                clear hs
                go_wp2_with (go_at_call 49; refine (nuMod_any _ _ _ (by omega) (by omega) (by omega) (by omega)).mono ?_; rintro e w' ⟨rfl, rfl⟩)
                go_roundw
                case rel => exact ⟨k + 1, by rw [HS.out], by go_num, by omega, hbl⟩
                case measure => simp only [intOf]; omega
              · have hs : gauS a p k = gauS a p (k + 1) := by simp [gauS, hc]
                have HS := Lib.hid hs
                clear hs
                go_wp2_with (go_at_call 49; refine (nuMod_any _ _ _ (by omega) (by omega) (by omega) (by omega)).mono ?_; rintro e w' ⟨rfl, rfl⟩)
                go_roundw
                case rel => exact ⟨k + 1, by rw [HS.out], by go_num, by omega, hbl⟩
                case measure => simp only [intOf]; omega
            · have hf : gauS a p k = gauS a p ((p - 1) / 2).toNat := by congr 1; omega
              have HF := Lib.hid hf
              clear hf
              go_wp2
              go_ret2
              exact ⟨by rw [← HF.out]; rfl, hbl⟩

set_option maxHeartbeats 800000 in
theorem implGC_any (a p : Int) (w : World) (ip : In64 p) : Calls Try.prog 39 #[.int .i64 a, .int .i64 p] w fun e w' =>
    e = .returned (.tuple #[.int .i64 (oFor (vGC a p) (gauS a p ((p - 1) / 2).toNat)), .bool (vGC a p)]) ∧ Below w.heap.size w w' := by
  rcases h0 : good a with _ | _
  · rw [vGC_bad (.inl h0), oFor_false]
    go_enter Try.func39, Try.ntmps39
    go_wp2_with fail
    ((with_reducible refine (are1 a _ _ (by simp)).mono ?_); rintro e w0 ⟨rfl, rfl⟩)
    go_wp2
    go_ret2
    exact ⟨rfl, (by repeat' (first | (with_reducible exact Below.refl _ _) | (with_reducible assumption) | (with_reducible refine Below.alloc ?_ ?_ _) | (with_reducible refine Below.drew ?_) | (with_reducible refine below_drewN ?_ _) | (with_reducible refine Below.setCell ?_ ?_ _) | go_size))⟩
  · have g0 := good_iff.1 h0
    rcases h1 : oddP p with _ | _
    · rw [vGC_bad (.inr (.inl h1)), oFor_false]
      go_enter Try.func39, Try.ntmps39
      go_wp2_with fail
      ((with_reducible refine (are1 a _ _ (by simp)).mono ?_); rintro e w0 ⟨rfl, rfl⟩)
      go_wp2_with fail
      ((with_reducible refine (isOddPrime_any _ _).mono ?_); rintro e w1 ⟨rfl, hb1⟩)
      obtain ⟨hc1, hf1⟩ := bcell hb1
      have hz1 := hb1.size
      try simp only [World.size_alloc, World.size_drew, World.size_setCell] at hz1
      try have hs1 : w.heap.size < w1.heap.size := by omega
      have bl1 : Below w.heap.size w w1 := Below.trans (by go_grown) (hb1.mono (by go_size))
      go_wp2
      go_ret2
      exact ⟨rfl, bl1⟩
    · have p3 := oddP_lo h1
      by_cases h2 : 10000 < p
      · rw [vGC_bad (.inr (.inr (.inl h2))), oFor_false]
        go_enter Try.func39, Try.ntmps39
        go_wp2_with fail
        ((with_reducible refine (are1 a _ _ (by simp)).mono ?_); rintro e w0 ⟨rfl, rfl⟩)
        go_wp2_with fail
        ((with_reducible refine (isOddPrime_any _ _).mono ?_); rintro e w1 ⟨rfl, hb1⟩)
        obtain ⟨hc1, hf1⟩ := bcell hb1
        have hz1 := hb1.size
        try simp only [World.size_alloc, World.size_drew, World.size_setCell] at hz1
        try have hs1 : w.heap.size < w1.heap.size := by omega
        have bl1 : Below w.heap.size w w1 := Below.trans (by go_grown) (hb1.mono (by go_size))
        go_wp2
        go_ret2
        exact ⟨rfl, bl1⟩
      · by_cases h3 : a % p = 0
        · rw [vGC_bad (.inr (.inr (.inr h3))), oFor_false]
          have ht : (a.tmod p == 0) = true := by simpa using (tmod_zero (by omega)).2 h3
          have ht2 : 0 ≤ a → (a % p == 0) = true := fun _ => by simpa using h3
          clear h3
          go_enter Try.func39, Try.ntmps39
          go_wp2_with fail
          ((with_reducible refine (are1 a _ _ (by simp)).mono ?_); rintro e w0 ⟨rfl, rfl⟩)
          go_wp2_with fail
          ((with_reducible refine (isOddPrime_any _ _).mono ?_); rintro e w1 ⟨rfl, hb1⟩)
          obtain ⟨hc1, hf1⟩ := bcell hb1
          have hz1 := hb1.size
          try simp only [World.size_alloc, World.size_drew, World.size_setCell] at hz1
          try have hs1 : w.heap.size < w1.heap.size := by omega
          have bl1 : Below w.heap.size w w1 := Below.trans (by go_grown) (hb1.mono (by go_size))
          by_cases ha : 0 ≤ a
          · have ht3 := ht2 ha
            clear ht2
            go_wp2
            go_ret2
            exact ⟨rfl, bl1⟩
          · clear ht2
            go_wp2
            go_ret2
            exact ⟨rfl, bl1⟩
        · rw [vGC_ok h0 h1 h2 h3, oFor_true]
          have ht : (a.tmod p == 0) = false := by rw [beq_eq_false_iff_ne]; exact fun h => h3 ((tmod_zero (by omega)).1 h)
          have ht2 : (a % p == 0) = false := by rw [beq_eq_false_iff_ne]; exact h3
          go_enter Try.func39, Try.ntmps39
          go_wp2_with fail
          ((with_reducible refine (are1 a _ _ (by simp)).mono ?_); rintro e w0 ⟨rfl, rfl⟩)
          go_wp2_with fail
          ((with_reducible refine (isOddPrime_any _ _).mono ?_); rintro e w1 ⟨rfl, hb1⟩)
          obtain ⟨hc1, hf1⟩ := bcell hb1
          have hz1 := hb1.size
          try simp only [World.size_alloc, World.size_drew, World.size_setCell] at hz1
          try have hs1 : w.heap.size < w1.heap.size := by omega
          have bl1 : Below w.heap.size w w1 := Below.trans (by go_grown) (hb1.mono (by go_size))
          go_wp2
          go_loopw [6, 7] (fun s t wr => ∃ k : Nat, s = .int .i64 (gauS a p k) ∧ t = .int .i64 ((k : Int) + 1) ∧ (k : Int) ≤ (p - 1) / 2 ∧ Below w.heap.size w wr) (fun _ t _ => ((p - 1) / 2 + 2 - intOf t).toNat)
          case atStart => exact ⟨0, rfl, rfl, by omega, bl1⟩
          case round =>
            obtain ⟨k, rfl, rfl, k2, hbl⟩ := hrel
            have e1 := gauS_bd a p k
            have e2 := ak_bd (k := k) h0 (by omega)
            by_cases hk : (k : Int) + 1 ≤ (p - 1) / 2
            · by_cases hc : (p - 1) / 2 < a * ((k : Int) + 1) % p
              · have hs : gauS a p k + 1 = gauS a p (k + 1) := by simp [gauS, hc]
                have HS := Lib.hid hs
                clear hs
                go_wp2_with (go_at_call 51; refine (mod_any _ _ _ (by omega) (by omega) (by omega) (by omega)).mono ?_; rintro e w' ⟨rfl, rfl⟩)
                go_roundw
                case rel => exact ⟨k + 1, by rw [HS.out], by go_num, by omega, hbl⟩
                case measure => simp only [intOf]; omega
              · have hs : gauS a p k = gauS a p (k + 1) := by simp [gauS, hc]
                have HS := Lib.hid hs
                clear hs
                go_wp2_with (go_at_call 51; refine (mod_any _ _ _ (by omega) (by omega) (by omega) (by omega)).mono ?_; rintro e w' ⟨rfl, rfl⟩)
                go_roundw
                case rel => exact ⟨k + 1, by rw [HS.out], by go_num, by omega, hbl⟩
                case measure => simp only [intOf]; omega
            · have hf : gauS a p k = gauS a p ((p - 1) / 2).toNat := by congr 1; omega
              have HF := Lib.hid hf
              clear hf
              go_wp2
              go_ret2
              exact ⟨by rw [← HF.out]; rfl, hbl⟩

theorem law_FnExactAutomorphCount (d : Int) (w : World) (_ : In64 d) : Calls Try.prog 13 #[.int .i64 d] w fun e w' => e = .returned (.bool true) ∧ Below w.heap.size w w' := by
  go_enter Try.func13, Try.ntmps13
  go_wp2_with fail
  ((with_reducible refine (specAC_any _ _ ‹_›).mono ?_); rintro e w1 ⟨rfl, hb1⟩)
  obtain ⟨hc1, hf1⟩ := bcell hb1
  have hz1 := hb1.size
  try simp only [World.size_alloc, World.size_drew, World.size_setCell] at hz1
  try have hs1 : w.heap.size < w1.heap.size := by omega
  have bl1 : Below w.heap.size w w1 := Below.trans (by go_grown) (hb1.mono (by go_size))
  go_wp2_with fail
  ((with_reducible refine (implAC_any _ _ ‹_›).mono ?_); rintro e w2 ⟨rfl, hb2⟩)
  obtain ⟨hc2, hf2⟩ := bcell hb2
  have hz2 := hb2.size
  try simp only [World.size_alloc, World.size_drew, World.size_setCell] at hz2
  try have hs2 : w.heap.size < w2.heap.size := by omega
  have bl2 : Below w.heap.size w w2 := Below.trans (by go_grown) (hb2.mono (by go_size))
  go_wp2
  go_ret
  exact ⟨rfl, (by repeat' (first | (with_reducible exact Below.refl _ _) | (with_reducible assumption) | (with_reducible refine Below.alloc ?_ ?_ _) | (with_reducible refine Below.drew ?_) | (with_reducible refine below_drewN ?_ _) | (with_reducible refine Below.setCell ?_ ?_ _) | go_size))⟩

theorem law_FnExactEisensteinCount (p q : Int) (w : World) (_ : In64 p) (_ : In64 q) : Calls Try.prog 12 #[.int .i64 p, .int .i64 q] w fun e w' => e = .returned (.bool true) ∧ Below w.heap.size w w' := by
  go_enter Try.func12, Try.ntmps12
  go_wp2_with fail
  ((with_reducible refine (specEC_any _ _ _ ‹In64 p› ‹In64 q›).mono ?_); rintro e w1 ⟨rfl, hb1⟩)
  obtain ⟨hc1, hf1⟩ := bcell hb1
  have hz1 := hb1.size
  try simp only [World.size_alloc, World.size_drew, World.size_setCell] at hz1
  try have hs1 : w.heap.size < w1.heap.size := by omega
  have bl1 : Below w.heap.size w w1 := Below.trans (by go_grown) (hb1.mono (by go_size))
  go_wp2_with fail
  ((with_reducible refine (implEC_any _ _ _ ‹In64 p› ‹In64 q›).mono ?_); rintro e w2 ⟨rfl, hb2⟩)
  obtain ⟨hc2, hf2⟩ := bcell hb2
  have hz2 := hb2.size
  try simp only [World.size_alloc, World.size_drew, World.size_setCell] at hz2
  try have hs2 : w.heap.size < w2.heap.size := by omega
  have bl2 : Below w.heap.size w w2 := Below.trans (by go_grown) (hb2.mono (by go_size))
  go_wp2
  go_ret
  exact ⟨rfl, (by repeat' (first | (with_reducible exact Below.refl _ _) | (with_reducible assumption) | (with_reducible refine Below.alloc ?_ ?_ _) | (with_reducible refine Below.drew ?_) | (with_reducible refine below_drewN ?_ _) | (with_reducible refine Below.setCell ?_ ?_ _) | go_size))⟩

theorem law_FnExactGaussCount (a p : Int) (w : World) (_ : In64 a) (_ : In64 p) : Calls Try.prog 14 #[.int .i64 a, .int .i64 p] w fun e w' => e = .returned (.bool true) ∧ Below w.heap.size w w' := by
  go_enter Try.func14, Try.ntmps14
  go_wp2_with fail
  ((with_reducible refine (specGC_any _ _ _ ‹In64 p›).mono ?_); rintro e w1 ⟨rfl, hb1⟩)
  obtain ⟨hc1, hf1⟩ := bcell hb1
  have hz1 := hb1.size
  try simp only [World.size_alloc, World.size_drew, World.size_setCell] at hz1
  try have hs1 : w.heap.size < w1.heap.size := by omega
  have bl1 : Below w.heap.size w w1 := Below.trans (by go_grown) (hb1.mono (by go_size))
  go_wp2_with fail
  ((with_reducible refine (implGC_any _ _ _ ‹In64 p›).mono ?_); rintro e w2 ⟨rfl, hb2⟩)
  obtain ⟨hc2, hf2⟩ := bcell hb2
  have hz2 := hb2.size
  try simp only [World.size_alloc, World.size_drew, World.size_setCell] at hz2
  try have hs2 : w.heap.size < w2.heap.size := by omega
  have bl2 : Below w.heap.size w w2 := Below.trans (by go_grown) (hb2.mono (by go_size))
  go_wp2
  go_ret
  exact ⟨rfl, (by repeat' (first | (with_reducible exact Below.refl _ _) | (with_reducible assumption) | (with_reducible refine Below.alloc ?_ ?_ _) | (with_reducible refine Below.drew ?_) | (with_reducible refine below_drewN ?_ _) | (with_reducible refine Below.setCell ?_ ?_ _) | go_size))⟩
end Go.Proofs.Ytcnmhofmekfmgaa
