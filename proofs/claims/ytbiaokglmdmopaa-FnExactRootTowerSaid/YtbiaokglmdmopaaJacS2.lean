/-
  Contract: the symbol of Jacobi, of the reference.
-/
import Derived.Test.YtbiaokglmdmopaaJacS
namespace Go.Proofs.Ytbiaokglmdmopaa
open Go.RowKit
set_option linter.unusedSimpArgs false
set_option linter.unusedVariables false

/-- a step (T/B) with sign S, whose value is V -/
structure SyI (V T B S : Int) : Prop where
  t1 : -1000000 ≤ T
  t2 : T ≤ 1000000
  b1 : 1 ≤ B
  b2 : B ≤ 1000000
  odd : B % 2 = 1
  sign : S = 1 ∨ S = -1
  val : S * Jac.J T B.toNat = V
theorem SyI.suc {V T B S : Int} (h : SyI V T B S) (h0 : T ≠ 0) : SyI V (sucT T B) (sucB T B) (sucS T B S) := by
  obtain ⟨t1, t2, b1, b2, odd, sign, val⟩ := h
  obtain ⟨m, rfl⟩ : ∃ m : Nat, B = m := ⟨B.toNat, by omega⟩
  rw [Int.toNat_natCast] at val
  have mo : m % 2 = 1 := by omega
  by_cases hin : 0 ≤ T ∧ T ≤ m - 1
  · obtain ⟨y, rfl⟩ : ∃ y : Nat, T = y := ⟨T.toNat, by omega⟩
    have hs : Sy V S y m := ⟨sign, mo, val⟩
    by_cases he : (y : Int) % 2 = 0
    · obtain ⟨e1, e2, e3⟩ := suc_even S hin he
      have hn := hs.half (by omega)
      rw [e1, e2, e3]
      exact ⟨by omega, by omega, b1, b2, odd, hn.sign, by rw [Int.toNat_natCast]; exact hn.val⟩
    · obtain ⟨e1, e2, e3⟩ := suc_odd S hin (by omega)
      rw [e1, e2, e3]
      by_cases hf : (y : Int) % 4 = 3 ∧ (m : Int) % 4 = 3
      · have hn := hs.swapM (by omega) (by omega)
        rw [if_pos hf]
        exact ⟨by omega, by omega, by omega, by omega, by omega, hn.sign, by rw [Int.toNat_natCast]; exact hn.val⟩
      · have hn := hs.swapP (by omega) (by omega)
        rw [if_neg hf]
        exact ⟨by omega, by omega, by omega, by omega, by omega, hn.sign, by rw [Int.toNat_natCast]; exact hn.val⟩
  · obtain ⟨e1, e2, e3⟩ := suc_out S hin
    rw [e1, e2, e3]
    have r1 := Int.emod_nonneg T (show (m : Int) ≠ 0 by omega)
    have r2 := Int.emod_lt_of_pos T (show 0 < (m : Int) by omega)
    exact ⟨by omega, by omega, b1, b2, odd, sign, by rw [Int.toNat_natCast, Jac.J_emod _ mo]; exact val⟩
theorem SyI.val1 {V S : Int} (h : SyI V 0 1 S) : V = S := by
  have := h.val
  rw [show (1 : Int).toNat = 1 from rfl, Jac.J_one] at this
  simpa using this.symm
theorem SyI.val0 {V B S : Int} (h : SyI V 0 B S) (hB : ¬ B = 1) : V = 0 := by
  have := h.val
  have b1 := h.b1
  rw [Jac.J_zero_left (by omega)] at this
  simpa using this.symm
theorem SyI.top1 {V B S : Int} (h : SyI V 1 B S) : V = S := by
  have := h.val
  have b1 := h.b1
  have o := h.odd
  rw [J_one_left (by omega)] at this
  simpa using this.symm
def stepMu (T B : Int) : Nat := B.toNat * 2000000 + if 0 ≤ T ∧ T ≤ B - 1 then T.toNat else 1000001
theorem mu_lt {V T B S : Int} (h : SyI V T B S) (h0 : T ≠ 0) (h1 : T ≠ 1) : stepMu (sucT T B) (sucB T B) < stepMu T B := by
  obtain ⟨t1, t2, b1, b2, odd, sign, val⟩ := h
  by_cases hin : 0 ≤ T ∧ T ≤ B - 1
  · by_cases he : T % 2 = 0
    · obtain ⟨e1, e2, _⟩ := suc_even S hin he
      rw [e1, e2]
      unfold stepMu
      rw [if_pos hin, if_pos (by omega)]
      omega
    · obtain ⟨e1, e2, _⟩ := suc_odd S hin (by omega)
      rw [e1, e2]
      unfold stepMu
      rw [if_pos hin, if_neg (by omega)]
      omega
  · obtain ⟨e1, e2, _⟩ := suc_out S hin
    have r1 := Int.emod_nonneg T (show B ≠ 0 by omega)
    have r2 := Int.emod_lt_of_pos T (show 0 < B by omega)
    rw [e1, e2]
    unfold stepMu
    rw [if_neg hin, if_pos (by omega)]
    omega
def muAt (H : Nat) (w : World) : Nat :=
  match w.cell? ⟨H, 0, none⟩, w.cell? ⟨H, 1, none⟩ with
  | some (.int _ T), some (.int _ B) => stepMu T B
  | _, _ => 0
/-- a step lies in the block H -/
structure StepAt (w : World) (H : Nat) (T B S : Int) : Prop where
  c0 : w.cell? ⟨H, 0, none⟩ = some (.int .i64 T)
  c1 : w.cell? ⟨H, 1, none⟩ = some (.int .i64 B)
  c2 : w.cell? ⟨H, 2, none⟩ = some (.int .i64 S)
  f0 : w.frozen? ⟨H, 0, none⟩ = false
  f1 : w.frozen? ⟨H, 1, none⟩ = false
  f2 : w.frozen? ⟨H, 2, none⟩ = false
  z : H < w.heap.size
theorem StepAt.mu {w : World} {H : Nat} {T B S : Int} (h : StepAt w H T B S) : muAt H w = stepMu T B := by
  unfold muAt; rw [h.c0, h.c1]
theorem StepAt.below {w w' : World} {H : Nat} {T B S : Int} (h : StepAt w H T B S) (hb : Below w.heap.size w w') : StepAt w' H T B S :=
  ⟨by rw [(bcell hb).1 H 0 h.z]; exact h.c0, by rw [(bcell hb).1 H 1 h.z]; exact h.c1, by rw [(bcell hb).1 H 2 h.z]; exact h.c2, by rw [(bcell hb).2 H 0 h.z]; exact h.f0, by rw [(bcell hb).2 H 1 h.z]; exact h.f1, by rw [(bcell hb).2 H 2 h.z]; exact h.f2, Nat.lt_of_lt_of_le h.z hb.size⟩

theorem StepAt.set {w : World} {H : Nat} {T B S : Int} (c0 : w.cell? ⟨H, 0, none⟩ = some (.int .i64 T)) (c1 : w.cell? ⟨H, 1, none⟩ = some (.int .i64 B)) (c2 : w.cell? ⟨H, 2, none⟩ = some (.int .i64 S))
    (f0 : w.frozen? ⟨H, 0, none⟩ = false) (f1 : w.frozen? ⟨H, 1, none⟩ = false) (f2 : w.frozen? ⟨H, 2, none⟩ = false) (z : H < w.heap.size) (T' B' S' : Int) :
    StepAt (((w.setCell ⟨H, 0, none⟩ (.int .i64 T')).setCell ⟨H, 1, none⟩ (.int .i64 B')).setCell ⟨H, 2, none⟩ (.int .i64 S')) H T' B' S' := by
  refine ⟨by go_simp, by go_simp, by go_simp, ?_, ?_, ?_, by simp [*]⟩
  · rw [World.frozen?_setCell, World.frozen?_setCell, World.frozen?_setCell]; exact f0
  · rw [World.frozen?_setCell, World.frozen?_setCell, World.frozen?_setCell]; exact f1
  · rw [World.frozen?_setCell, World.frozen?_setCell, World.frozen?_setCell]; exact f2

theorem syJac_nat (a : Int) (n : Nat) (w : World) (a1 : -1000000 ≤ a) (a2 : a ≤ 1000000) (n1 : 1 ≤ n) (n2 : n ≤ 1000000) (ho : n % 2 = 1) :
    Calls Try.prog 55 #[.int .i64 a, .int .i64 (n : Int)] w fun e w' => e = .returned (.int .i64 (Jac.J a n)) ∧ Below w.heap.size w w' := by
  have st : SyI (Jac.J a n) a n 1 := ⟨a1, a2, by omega, by omega, by omega, .inl rfl, by rw [Int.toNat_natCast, Int.one_mul]⟩
  have ST := Lib.hid st
  clear st
  go_enter Try.func55, Try.ntmps55
  go_wp2
  go_loopw [11] (fun _ wr => ∃ T B S : Int, StepAt wr w.heap.size T B S ∧ Below w.heap.size w wr ∧ Hid (SyI (Jac.J a n) T B S)) (fun _ wr => muAt w.heap.size wr)
  case atStart => exact ⟨a, n, 1, ⟨by simp, by simp, by simp, by simp, by simp, by simp, by simp⟩, (by go_grown), ST⟩
  case round =>
    obtain ⟨T, B, S, sa, bw, HI⟩ := hrel
    have c0 := sa.c0
    have c1 := sa.c1
    have c2 := sa.c2
    have cz := sa.z
    have bb : 1 ≤ B ∧ B ≤ 1000000 := ⟨HI.out.b1, HI.out.b2⟩
    have tb : -1000000 ≤ T ∧ T ≤ 1000000 := ⟨HI.out.t1, HI.out.t2⟩
    have sb : -1 ≤ S ∧ S ≤ 1 := by have := HI.out.sign; omega
    by_cases h0 : T = 0
    · subst h0
      have he : endB 0 = true := rfl
      by_cases hB : B = 1
      · subst hB
        have HV := Lib.hid HI.out.val1
        go_wp2_with fail
        ((with_reducible refine (syEnd_any _ _ _ _).mono ?_); rintro e w1 ⟨rfl, hb1⟩)
        have sa1 := sa.below hb1
        have bw1 := bw.trans (hb1.mono bw.size)
        clear hb1 sa bw c0 c1 c2 cz
        have c0 := sa1.c0
        have c1 := sa1.c1
        have c2 := sa1.c2
        have cz := sa1.z
        go_wp2
        go_ret
        exact ⟨by rw [HV.out]; try rfl, bw1⟩
      · have HV := Lib.hid (HI.out.val0 hB)
        have hB1 : 1 < B := by omega
        clear hB
        go_wp2_with fail
        ((with_reducible refine (syEnd_any _ _ _ _).mono ?_); rintro e w1 ⟨rfl, hb1⟩)
        have sa1 := sa.below hb1
        have bw1 := bw.trans (hb1.mono bw.size)
        clear hb1 sa bw c0 c1 c2 cz
        have c0 := sa1.c0
        have c1 := sa1.c1
        have c2 := sa1.c2
        have cz := sa1.z
        go_wp2
        go_ret
        exact ⟨by rw [HV.out]; try rfl, bw1⟩
    · by_cases h1 : T = 1
      · subst h1
        have he : endB 1 = true := rfl
        have HV := Lib.hid HI.out.top1
        go_wp2_with fail
        ((with_reducible refine (syEnd_any _ _ _ _).mono ?_); rintro e w1 ⟨rfl, hb1⟩)
        have sa1 := sa.below hb1
        have bw1 := bw.trans (hb1.mono bw.size)
        clear hb1 sa bw c0 c1 c2 cz
        have c0 := sa1.c0
        have c1 := sa1.c1
        have c2 := sa1.c2
        have cz := sa1.z
        go_wp2
        go_ret
        exact ⟨by rw [HV.out]; try rfl, bw1⟩
      · have he : endB T = false := by simp [endB, h0, h1]
        have HN := Lib.hid (HI.out.suc h0)
        have hmu := mu_lt HI.out h0 h1
        have MU := sa.mu
        go_wp2_with fail
        ((with_reducible refine (syEnd_any _ _ _ _).mono ?_); rintro e w1 ⟨rfl, hb1⟩)
        have sa1 := sa.below hb1
        have bw1 := bw.trans (hb1.mono bw.size)
        clear hb1 sa bw c0 c1 c2 cz
        have c0 := sa1.c0
        have c1 := sa1.c1
        have c2 := sa1.c2
        have cz := sa1.z
        go_wp2_with fail
        ((with_reducible refine (sySuc_any _ _ _ _ (by omega) (by omega) (by omega) (by omega) (by omega) (by omega)).mono ?_); rintro e w2 ⟨rfl, hb2⟩)
        have sa2 := sa1.below hb2
        have bw2 := bw1.trans (hb2.mono bw1.size)
        clear hb2 c0 c1 c2 cz
        have c0 := sa2.c0
        have c1 := sa2.c1
        have c2 := sa2.c2
        have f0 := sa2.f0
        have f1 := sa2.f1
        have f2 := sa2.f2
        have cz := sa2.z
        go_wp2
        go_roundw
        case rel => exact ⟨sucT T B, sucB T B, sucS T B S, StepAt.set c0 c1 c2 f0 f1 f2 cz _ _ _, (by go_grown), HN⟩
        case measure => rw [(StepAt.set c0 c1 c2 f0 f1 f2 cz _ _ _).mu, MU]; exact hmu
end Go.Proofs.Ytbiaokglmdmopaa
