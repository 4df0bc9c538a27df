/-
  Contracts: the symbol of two, and the symbol of Jacobi, of the program.
-/
import Derived.Test.YtbiaokglmdmopaaAr
import Derived.Test.YtbiaokglmdmopaaSym
namespace Go.Proofs.Ytbiaokglmdmopaa
open Go.RowKit
set_option linter.unusedSimpArgs false
set_option linter.unusedVariables false

theorem symbolOfTwo_any (n : Int) (w : World) (h1 : -1000000000 ≤ n) (h2 : n ≤ 1000000000) (ho : n % 2 = 1) :
    Calls Try.prog 77 #[.int .i64 n] w fun e w' => e = .returned (.int .i64 (twoS n)) ∧ w = w' := by
  have hc : n % 8 = 1 ∨ n % 8 = 7 ∨ (n % 8 = 3 ∨ n % 8 = 5) := by omega
  clear ho
  rcases hc with h | h | h
  · have hv := twoS_plus (.inl h : n % 8 = 1 ∨ n % 8 = 7)
    have HV := Lib.hid hv
    clear hv
    go_enter Try.func77, Try.ntmps77
    go_wp2_with fail
    ((with_reducible refine (mod_any _ _ _ (by omega) (by omega) (by omega) (by omega)).mono ?_); rintro e w0 ⟨rfl, rfl⟩)
    go_wp2
    go_ret
    exact ⟨by rw [HV.out]; rfl, rfl⟩
  · have hv := twoS_plus (.inr h : n % 8 = 1 ∨ n % 8 = 7)
    have HV := Lib.hid hv
    clear hv
    go_enter Try.func77, Try.ntmps77
    go_wp2_with fail
    ((with_reducible refine (mod_any _ _ _ (by omega) (by omega) (by omega) (by omega)).mono ?_); rintro e w0 ⟨rfl, rfl⟩)
    go_wp2
    go_ret
    exact ⟨by rw [HV.out]; rfl, rfl⟩
  · have hv := twoS_minus h
    have HV := Lib.hid hv
    clear hv
    have t1 : (n % 8 == 1) = false := by rw [beq_eq_false_iff_ne]; omega
    have t2 : (n % 8 == 7) = false := by rw [beq_eq_false_iff_ne]; omega
    clear h
    go_enter Try.func77, Try.ntmps77
    go_wp2_with fail
    ((with_reducible refine (mod_any _ _ _ (by omega) (by omega) (by omega) (by omega)).mono ?_); rintro e w0 ⟨rfl, rfl⟩)
    go_wp2
    go_ret
    exact ⟨by rw [HV.out]; rfl, rfl⟩
theorem jacobi_nat (a : Int) (n : Nat) (w : World) (a1 : -1000000000 ≤ a) (a2 : a ≤ 1000000000) (n1 : 1 ≤ n) (n2 : n ≤ 1000000) (ho : n % 2 = 1) :
    Calls Try.prog 57 #[.int .i64 a, .int .i64 (n : Int)] w fun e w' => e = .returned (.int .i64 (Jac.J a n)) ∧ w = w' := by
  have HS := Lib.hid (Sy.start (a := a) ho)
  have r1 := Int.emod_nonneg a (show (n : Int) ≠ 0 by omega)
  have r2 := Int.emod_lt_of_pos a (show 0 < (n : Int) by omega)
  have r3 : (((a % n).toNat : Nat) : Int) = a % n := by omega
  obtain ⟨x0, hx0⟩ : ∃ x : Nat, (x : Int) = a % n ∧ x = (a % n).toNat := ⟨(a % n).toNat, r3, rfl⟩
  have HX := Lib.hid hx0
  have hx1 : (x0 : Int) < n := by omega
  clear hx0 r3
  go_enter Try.func57, Try.ntmps57
  go_wp2_with fail
  ((with_reducible refine (mod_any _ _ _ (by omega) (by omega) (by omega) (by omega)).mono ?_); rintro e w0 ⟨rfl, rfl⟩)
  go_wp2
  go_loop [0, 1, 5] (fun s0 s1 s5 => ∃ (x m : Nat) (s : Int), s0 = .int .i64 (x : Int) ∧ s1 = .int .i64 (m : Int) ∧ s5 = .int .i64 s ∧ x < m ∧ m ≤ 1000000 ∧ Hid (Sy (Jac.J a n) s x m)) (fun _ s1 _ => (intOf s1).toNat)
  case atStart => exact ⟨x0, n, 1, by rw [HX.out.1], rfl, rfl, by omega, n2, Lib.hid (by rw [HX.out.2]; exact HS.out)⟩
  case round =>
    obtain ⟨x, m, s, rfl, rfl, rfl, hxm, m2, HI⟩ := hrel
    have sb : -1 ≤ s ∧ s ≤ 1 := by have := HI.out.sign; omega
    by_cases hx : x = 0
    · subst hx
      by_cases hm : m = 1
      · subst hm
        have hv := HI.out.one
        have HV := Lib.hid hv
        clear hv
        go_wp2
        go_ret
        exact ⟨by rw [HV.out]; rfl, rfl⟩
      · have hv := HI.out.zero hm
        have HV := Lib.hid hv
        clear hv
        have hm1 : ((m : Int) != 1) = true := by rw [bne_iff_ne]; omega
        go_wp2
        go_ret
        exact ⟨by rw [HV.out]; rfl, rfl⟩
    · have hx1 : ((x : Int) != 0) = true := by rw [bne_iff_ne]; omega
      go_wp2
      go_loop [0, 5] (fun s0 s5 => ∃ (y : Nat) (t : Int), s0 = .int .i64 (y : Int) ∧ s5 = .int .i64 t ∧ 1 ≤ y ∧ y ≤ x ∧ Hid (Sy (Jac.J a n) t y m)) (fun s0 _ => (intOf s0).toNat)
      case atStart => exact ⟨x, s, rfl, rfl, by omega, by omega, HI⟩
      case round =>
        obtain ⟨y, t, rfl, rfl, y1, y2, HJ⟩ := hrel
        have tb : -1 ≤ t ∧ t ≤ 1 := by have := HJ.out.sign; omega
        have mo : m % 2 = 1 := HJ.out.odd
        have moi : (m : Int) % 2 = 1 := by omega
        by_cases hy : y % 2 = 0
        · have hyi : (y : Int) % 2 = 0 := by omega
          have HN := Lib.hid (HJ.out.half hy)
          have pb : -1 ≤ t * twoS m ∧ t * twoS m ≤ 1 := by have := HN.out.sign; omega
          go_wp2_with fail
          ((with_reducible refine (symbolOfTwo_any _ _ (by omega) (by omega) moi).mono ?_); rintro e w0 ⟨rfl, rfl⟩)
          go_wp2
          go_round
          case rel => exact ⟨y / 2, t * twoS m, by go_num, rfl, by omega, by omega, HN⟩
          case measure => simp only [intOf]; omega
        · have ho1 : y % 2 = 1 := by omega
          have hyi : (y : Int) % 2 = 1 := by omega
          by_cases hf : y % 4 = 3 ∧ m % 4 = 3
          · have f1 : (y : Int) % 4 = 3 := by omega
            have f2 : (m : Int) % 4 = 3 := by omega
            have HN := Lib.hid (HJ.out.swapM ho1 hf).mod
            clear hf
            go_wp2
            go_round
            case rel => exact ⟨m % y, y, -t, by go_num, rfl, rfl, Nat.mod_lt _ (by omega), by omega, HN⟩
            case measure => simp only [intOf]; omega
          · have HN := Lib.hid (HJ.out.swapP ho1 hf).mod
            by_cases f1 : y % 4 = 3
            · have f1i : (y : Int) % 4 = 3 := by omega
              have f2 : ((m : Int) % 4 == 3) = false := by rw [beq_eq_false_iff_ne]; omega
              clear hf
              go_wp2
              go_round
              case rel => exact ⟨m % y, y, t, by go_num, rfl, rfl, Nat.mod_lt _ (by omega), by omega, HN⟩
              case measure => simp only [intOf]; omega
            · have f1i : ((y : Int) % 4 == 3) = false := by rw [beq_eq_false_iff_ne]; omega
              clear hf
              go_wp2
              go_round
              case rel => exact ⟨m % y, y, t, by go_num, rfl, rfl, Nat.mod_lt _ (by omega), by omega, HN⟩
              case measure => simp only [intOf]; omega
end Go.Proofs.Ytbiaokglmdmopaa
