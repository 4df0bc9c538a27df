/-
  'NormFromRoot': its contracts and its law's walk.
-/
import Derived.Test.YtfnmdcifjdfocaaEu2
import Derived.Test.YtfnmdcifjdfocaaSq
import Derived.Test.YtfnmdcifjdfocaaForm
import Derived.Test.YtfnmdcifjdfocaaFrame
namespace Go.Proofs.Ytfnmdcifjdfocaa
open Go.RowKit
set_option linter.unusedSimpArgs false
set_option linter.unusedVariables false

/-- The search through Euclid's remainders. -/
def nfr (n m : Int) : List Nat → Option (Int × Int)
  | [] => none
  | x :: t => if m < (x : Int) * x then nfr n m t else if (m - (x : Int) * x) % n = 0 ∧ sqB ((m - (x : Int) * x) / n) = true then some ((x : Int), (isq ((m - (x : Int) * x) / n).toNat : Int)) else none
theorem nfr_big {n m : Int} {x : Nat} {t : List Nat} (h : m < (x : Int) * x) : nfr n m (x :: t) = nfr n m t := by simp [nfr, h]
theorem nfr_no {n m : Int} {x : Nat} {t : List Nat} (h : ¬ m < (x : Int) * x) (h2 : ¬ ((m - (x : Int) * x) % n = 0 ∧ sqB ((m - (x : Int) * x) / n) = true)) : nfr n m (x :: t) = none := by
  rw [nfr, if_neg h, if_neg h2]
theorem nfr_yes {n m : Int} {x : Nat} {t : List Nat} (h : ¬ m < (x : Int) * x) (h2 : (m - (x : Int) * x) % n = 0) (h3 : sqB ((m - (x : Int) * x) / n) = true) : nfr n m (x :: t) = some ((x : Int), (isq ((m - (x : Int) * x) / n).toNat : Int)) := by
  rw [nfr, if_neg h, if_pos ⟨h2, h3⟩]
def vNF (n m r : Int) : Bool := inB 1 1000000 n && (inB 1 1000000 m && (inB 0 m r && decide ((r * r + n) % m = 0)))
theorem vNF_bad {n m r : Int} (h : n < 1 ∨ 1000000 < n ∨ m < 1 ∨ 1000000 < m ∨ r < 0 ∨ m < r ∨ (r * r + n) % m ≠ 0) : vNF n m r = false := by
  unfold vNF
  rcases h with h | h | h | h | h | h | h
  · rw [inB_bad.2 (.inl h)]; simp
  · rw [inB_bad.2 (.inr h)]; simp
  · rw [inB_bad.2 (.inl h : m < 1 ∨ 1000000 < m)]; simp
  · rw [inB_bad.2 (.inr h : m < 1 ∨ 1000000 < m)]; simp
  · rw [inB_bad.2 (.inl h : r < 0 ∨ m < r)]; simp
  · rw [inB_bad.2 (.inr h : r < 0 ∨ m < r)]; simp
  · simp [h]
theorem vNF_ok {n m r : Int} (a1 : 1 ≤ n) (a2 : n ≤ 1000000) (b1 : 1 ≤ m) (b2 : m ≤ 1000000) (c1 : 0 ≤ r) (c2 : r ≤ m) (h : (r * r + n) % m = 0) : vNF n m r = true := by
  unfold vNF
  rw [inB_iff.2 ⟨a1, a2⟩, inB_iff.2 ⟨b1, b2⟩, inB_iff.2 ⟨c1, c2⟩]
  simp [h]
def nfV (n m r : Int) : Option (Int × Int) := if vNF n m r = true then nfr n m (m.toNat :: eur m.toNat r.toNat) else none
def oFst : Option (Int × Int) → Int
  | some p => p.1
  | none => 0
def oSnd : Option (Int × Int) → Int
  | some p => p.2
  | none => 0
def nfB : Option (Int × Int) → Bool
  | some _ => true
  | none => false
def oTup (o : Option (Int × Int)) : Value := .tuple #[.int .i64 (oFst o), .int .i64 (oSnd o), .bool (nfB o)]
theorem nfV_no {n m r : Int} (h : vNF n m r = false) : nfV n m r = none := by simp [nfV, h]
theorem nfV_yes {n m r : Int} (h : vNF n m r = true) : nfV n m r = nfr n m (m.toNat :: eur m.toNat r.toNat) := by simp [nfV, h]
theorem nf_bd {n m : Int} {x : Nat} (n1 : 1 ≤ n) (m2 : m ≤ 1000000) (h : ¬ m < (x : Int) * x) : 0 ≤ m - (x : Int) * x ∧ m - (x : Int) * x ≤ 1000000 ∧ 0 ≤ (m - (x : Int) * x) / n ∧ (m - (x : Int) * x) / n ≤ 1000000 := by
  have h0 : 0 ≤ (x : Int) * x := by rw [← Int.natCast_mul]; omega
  have h1 : 0 ≤ (m - (x : Int) * x) / n := Int.ediv_nonneg (by omega) (by omega)
  have h2 : (m - (x : Int) * x) / n ≤ m - (x : Int) * x := Int.ediv_le_self _ (by omega)
  omega
theorem eur_le : ∀ (r m x : Nat), x ∈ eur m r → x ≤ r := fun r => by
  induction r using Nat.strongRecOn with
  | ind r ih =>
    intro m x hx
    rcases Nat.eq_zero_or_pos r with h | h
    · subst h; rw [eur_zero] at hx; simp at hx
    · rw [eur_pos (by omega)] at hx
      rcases List.mem_cons.1 hx with h1 | h1
      · omega
      · have := Nat.mod_lt m h
        have := ih (m % r) this r x h1
        omega

set_option maxHeartbeats 1600000 in
theorem specNF_any (n m r : Int) (w : World) : Calls Try.prog 36 #[.int .i64 n, .int .i64 m, .int .i64 r] w fun e w' => e = .returned (oTup (nfV n m r)) ∧ Below w.heap.size w w' := by
  rcases h0 : inB 1 1000000 n with _ | _
  · rw [nfV_no (vNF_bad (by have := inB_bad.1 h0; omega))]
    go_enter Try.func36, Try.ntmps36
    go_wp2_with fail
    ((with_reducible refine (l1In_any _ _ _ _).mono ?_); rintro e w0 ⟨rfl, rfl⟩)
    go_wp2
    go_ret3
    exact ⟨rfl, (by repeat' (first | (with_reducible exact Below.refl _ _) | (with_reducible assumption) | (with_reducible refine Below.alloc ?_ ?_ _) | (with_reducible refine Below.drew ?_) | (with_reducible refine below_drewN ?_ _) | (with_reducible refine Below.setCell ?_ ?_ _) | go_size))⟩
  · rcases h1 : inB 1 1000000 m with _ | _
    · rw [nfV_no (vNF_bad (by have := inB_bad.1 h1; omega))]
      go_enter Try.func36, Try.ntmps36
      go_wp2_with fail
      ((with_reducible refine (l1In_any _ _ _ _).mono ?_); rintro e w0 ⟨rfl, rfl⟩)
      go_wp2_with fail
      ((with_reducible refine (l1In_any _ _ _ _).mono ?_); rintro e w0 ⟨rfl, rfl⟩)
      go_wp2
      go_ret3
      exact ⟨rfl, (by repeat' (first | (with_reducible exact Below.refl _ _) | (with_reducible assumption) | (with_reducible refine Below.alloc ?_ ?_ _) | (with_reducible refine Below.drew ?_) | (with_reducible refine below_drewN ?_ _) | (with_reducible refine Below.setCell ?_ ?_ _) | go_size))⟩
    · rcases h2 : inB 0 m r with _ | _
      · rw [nfV_no (vNF_bad (by have := inB_bad.1 h2; omega))]
        go_enter Try.func36, Try.ntmps36
        go_wp2_with fail
        ((with_reducible refine (l1In_any _ _ _ _).mono ?_); rintro e w0 ⟨rfl, rfl⟩)
        go_wp2_with fail
        ((with_reducible refine (l1In_any _ _ _ _).mono ?_); rintro e w0 ⟨rfl, rfl⟩)
        go_wp2_with fail
        ((with_reducible refine (l1In_any _ _ _ _).mono ?_); rintro e w0 ⟨rfl, rfl⟩)
        go_wp2
        go_ret3
        exact ⟨rfl, (by repeat' (first | (with_reducible exact Below.refl _ _) | (with_reducible assumption) | (with_reducible refine Below.alloc ?_ ?_ _) | (with_reducible refine Below.drew ?_) | (with_reducible refine below_drewN ?_ _) | (with_reducible refine Below.setCell ?_ ?_ _) | go_size))⟩
      · have g0 := inB_iff.1 h0
        have g1 := inB_iff.1 h1
        have g2 := inB_iff.1 h2
        have rr := mul_le (A := 1000000) (B := 1000000) (x := r) (y := r) (by omega) (by omega) (by omega) (by omega) (by omega) (by omega)
        have r0 : 0 ≤ r * r := by have := Int.mul_nonneg (a := r) (b := r) (by omega) (by omega); exact this
        by_cases h3 : (r * r + n) % m = 0
        · rw [nfV_yes (vNF_ok g0.1 g0.2 g1.1 g1.2 g2.1 g2.2 h3)]
          have n1 : 1 ≤ n := g0.1
          have m2 : m ≤ 1000000 := g1.2
          obtain ⟨LL, hLL⟩ : ∃ LL, LL = m.toNat :: eur m.toNat r.toNat := ⟨_, rfl⟩
          rw [← hLL]
          have HLL := Lib.hid hLL
          clear hLL
          go_enter Try.func36, Try.ntmps36
          go_wp2_with fail
          ((with_reducible refine (l1In_any _ _ _ _).mono ?_); rintro e w0 ⟨rfl, rfl⟩)
          go_wp2_with fail
          ((with_reducible refine (l1In_any _ _ _ _).mono ?_); rintro e w0 ⟨rfl, rfl⟩)
          go_wp2_with fail
          ((with_reducible refine (l1In_any _ _ _ _).mono ?_); rintro e w0 ⟨rfl, rfl⟩)
          go_wp2_with fail
          refine (euc_int (fun M R hM hR => roEuclid_any M R _ hM hR) (by omega) (by omega) (by omega) (by omega)).mono ?_
          rintro e w1 ⟨v1, rfl, l1, b1⟩
          have hmem : ∀ x ∈ LL, x ≤ 1000000 := fun x hx => by
            rw [HLL.out] at hx
            rcases List.mem_cons.1 hx with h | h
            · omega
            · have := eur_le _ _ _ h
              omega
          have hpos : 0 < LL.length := by rw [HLL.out]; simp
          have hll : LL.length ≤ 1000001 := by
            have := eur_len r.toNat m.toNat
            rw [HLL.out]
            simp only [List.length_cons]
            omega
          rw [← HLL.out] at l1
          clear HLL
          have bW : Below w.heap.size w w1 := Below.trans ((by repeat' (first | (with_reducible exact Below.refl _ _) | (with_reducible assumption) | (with_reducible refine Below.alloc ?_ ?_ _) | (with_reducible refine Below.drew ?_) | (with_reducible refine below_drewN ?_ _) | (with_reducible refine Below.setCell ?_ ?_ _) | go_size))) (b1.mono (by first | exact Nat.le_refl _ | (simp; done) | (simp; omega)))
          clear b1
          obtain ⟨g, c, hv, hcell⟩ : ∃ g c, v1 = .slice (some ⟨g, 0, none⟩) LL.length c ∧ ∀ k, k < LL.length → w1.cell? ⟨g, k, none⟩ = some (.int .i64 (LL.getD k 0 : Nat)) := by
            rcases l1.shape with ⟨h, _⟩ | ⟨g, c, h, _, _, hc, _⟩
            · rw [ints] at h
              have := List.map_eq_nil_iff.1 h
              rw [this] at hpos
              simp at hpos
            · refine ⟨g, c, by rw [h, ints_length], fun k hk => ?_⟩
              rw [hc k (by rw [ints_length]; exact hk)]
              simp [ints, hk]
          subst hv
          have HC := Lib.hid hcell
          have HMEM := Lib.hid hmem
          clear hcell hmem l1 hpos
          go_wp2
          go_loop [40] (fun s => ∃ k : Nat, s = .int .i64 k ∧ k ≤ LL.length ∧ Hid (nfr n m (LL.drop k) = nfr n m LL)) (fun s => LL.length - (intOf s).toNat)
          case atStart => exact ⟨0, rfl, Nat.zero_le _, by show nfr n m (LL.drop 0) = _; rw [List.drop_zero]⟩
          case round =>
            obtain ⟨k, rfl, hk, HR⟩ := hrel
            by_cases hlt : k < LL.length
            · obtain ⟨x, hx⟩ : ∃ x, x = LL.getD k 0 := ⟨_, rfl⟩
              have hc := HC.out k hlt
              rw [← hx] at hc
              have hxm : x ≤ 1000000 := HMEM.out x (by rw [hx]; simp [hlt])
              have hdr : LL.drop k = x :: LL.drop (k + 1) := by rw [List.drop_eq_getElem_cons hlt, hx]; simp [hlt]
              have xx : 0 ≤ (x : Int) * x ∧ (x : Int) * x ≤ 1000000000000 := by
                have : x * x ≤ 1000000 * 1000000 := Nat.mul_le_mul hxm hxm
                rw [← Int.natCast_mul]
                omega
              rw [hdr] at HR
              clear hx hdr
              by_cases hb : m < (x : Int) * x
              · have HN : Hid (nfr n m (LL.drop (k + 1)) = nfr n m LL) := by
                  show _ = _
                  rw [← HR.out, nfr_big hb]
                clear HR
                go_wp2
                go_round
                case rel => exact ⟨k + 1, by go_num, by omega, HN⟩
                case measure => simp only [intOf]; omega
              · obtain ⟨r1, r2, r3, r4⟩ := nf_bd n1 m2 hb
                by_cases hd : (m - (x : Int) * x) % n = 0
                · rcases hs : sqB ((m - (x : Int) * x) / n) with _ | _
                  · have HN : Hid (nfr n m LL = none) := by
                      show _ = _
                      rw [← HR.out, nfr_no hb (by rw [hs]; simp)]
                    clear HR
                    go_wp2_with (first | (go_at_call 61; refine (nuSquare_any _ _ (by omega) (by omega)).mono ?_; rintro e w0 ⟨rfl, rfl⟩))
                    go_ret3
                    exact ⟨by rw [HN.out]; rfl, bW⟩
                  · have HN : Hid (nfr n m LL = some ((x : Int), (isq ((m - (x : Int) * x) / n).toNat : Int))) := by
                      show _ = _
                      rw [← HR.out, nfr_yes hb hd hs]
                    clear HR
                    go_wp2_with (first | (go_at_call 61; refine (nuSquare_any _ _ (by omega) (by omega)).mono ?_; rintro e w0 ⟨rfl, rfl⟩) | (go_at_call 62; refine (nuRoot_any _ _ (by omega) (by omega)).mono ?_; rintro e w0 ⟨rfl, rfl⟩))
                    go_ret3
                    exact ⟨by rw [HN.out]; rfl, bW⟩
                · have HN : Hid (nfr n m LL = none) := by
                    show _ = _
                    rw [← HR.out, nfr_no hb (fun h => hd h.1)]
                  have hdb : ((m - (x : Int) * x) % n != 0) = true := by simp; exact hd
                  clear HR
                  go_wp2
                  go_ret3
                  exact ⟨by rw [HN.out]; rfl, bW⟩
            · obtain rfl : k = LL.length := by omega
              have HN : Hid (nfr n m LL = none) := by
                show _ = _
                rw [← HR.out, List.drop_length]
                rfl
              clear HR
              go_wp2
              go_ret3
              exact ⟨by rw [HN.out]; rfl, bW⟩
        · rw [nfV_no (vNF_bad (by simp only [ne_eq, h3, not_false_eq_true, or_true]))]
          have hmb : ((r * r + n) % m != 0) = true := by simpa using h3
          clear h3
          go_enter Try.func36, Try.ntmps36
          go_wp2_with fail
          ((with_reducible refine (l1In_any _ _ _ _).mono ?_); rintro e w0 ⟨rfl, rfl⟩)
          go_wp2_with fail
          ((with_reducible refine (l1In_any _ _ _ _).mono ?_); rintro e w0 ⟨rfl, rfl⟩)
          go_wp2_with fail
          ((with_reducible refine (l1In_any _ _ _ _).mono ?_); rintro e w0 ⟨rfl, rfl⟩)
          go_wp2
          go_ret3
          exact ⟨rfl, (by repeat' (first | (with_reducible exact Below.refl _ _) | (with_reducible assumption) | (with_reducible refine Below.alloc ?_ ?_ _) | (with_reducible refine Below.drew ?_) | (with_reducible refine below_drewN ?_ _) | (with_reducible refine Below.setCell ?_ ?_ _) | go_size))⟩

set_option maxHeartbeats 1600000 in
theorem implNF_any (n m r : Int) (w : World) : Calls Try.prog 37 #[.int .i64 n, .int .i64 m, .int .i64 r] w fun e w' => e = .returned (oTup (nfV n m r)) ∧ Below w.heap.size w w' := by
  rcases h0 : good n with _ | _
  · rw [nfV_no (vNF_bad (by have := bad_iff.1 h0; omega))]
    go_enter Try.func37, Try.ntmps37
    go_wp2_with fail
    ((with_reducible refine (are2 n m _ _ (by simp) (by simp)).mono ?_); rintro e w0 ⟨rfl, rfl⟩)
    go_wp2
    go_ret3
    exact ⟨rfl, (by repeat' (first | (with_reducible exact Below.refl _ _) | (with_reducible assumption) | (with_reducible refine Below.alloc ?_ ?_ _) | (with_reducible refine Below.drew ?_) | (with_reducible refine below_drewN ?_ _) | (with_reducible refine Below.setCell ?_ ?_ _) | go_size))⟩
  · rcases h1 : good m with _ | _
    · rw [nfV_no (vNF_bad (by have := bad_iff.1 h1; omega))]
      go_enter Try.func37, Try.ntmps37
      go_wp2_with fail
      ((with_reducible refine (are2 n m _ _ (by simp) (by simp)).mono ?_); rintro e w0 ⟨rfl, rfl⟩)
      go_wp2
      go_ret3
      exact ⟨rfl, (by repeat' (first | (with_reducible exact Below.refl _ _) | (with_reducible assumption) | (with_reducible refine Below.alloc ?_ ?_ _) | (with_reducible refine Below.drew ?_) | (with_reducible refine below_drewN ?_ _) | (with_reducible refine Below.setCell ?_ ?_ _) | go_size))⟩
    · by_cases h2 : n < 1
      · rw [nfV_no (vNF_bad (by omega))]
        go_enter Try.func37, Try.ntmps37
        go_wp2_with fail
        ((with_reducible refine (are2 n m _ _ (by simp) (by simp)).mono ?_); rintro e w0 ⟨rfl, rfl⟩)
        go_wp2
        go_ret3
        exact ⟨rfl, (by repeat' (first | (with_reducible exact Below.refl _ _) | (with_reducible assumption) | (with_reducible refine Below.alloc ?_ ?_ _) | (with_reducible refine Below.drew ?_) | (with_reducible refine below_drewN ?_ _) | (with_reducible refine Below.setCell ?_ ?_ _) | go_size))⟩
      · by_cases h3 : m < 1
        · rw [nfV_no (vNF_bad (by omega))]
          go_enter Try.func37, Try.ntmps37
          go_wp2_with fail
          ((with_reducible refine (are2 n m _ _ (by simp) (by simp)).mono ?_); rintro e w0 ⟨rfl, rfl⟩)
          go_wp2
          go_ret3
          exact ⟨rfl, (by repeat' (first | (with_reducible exact Below.refl _ _) | (with_reducible assumption) | (with_reducible refine Below.alloc ?_ ?_ _) | (with_reducible refine Below.drew ?_) | (with_reducible refine below_drewN ?_ _) | (with_reducible refine Below.setCell ?_ ?_ _) | go_size))⟩
        · by_cases h4 : r < 0
          · rw [nfV_no (vNF_bad (by omega))]
            go_enter Try.func37, Try.ntmps37
            go_wp2_with fail
            ((with_reducible refine (are2 n m _ _ (by simp) (by simp)).mono ?_); rintro e w0 ⟨rfl, rfl⟩)
            go_wp2
            go_ret3
            exact ⟨rfl, (by repeat' (first | (with_reducible exact Below.refl _ _) | (with_reducible assumption) | (with_reducible refine Below.alloc ?_ ?_ _) | (with_reducible refine Below.drew ?_) | (with_reducible refine below_drewN ?_ _) | (with_reducible refine Below.setCell ?_ ?_ _) | go_size))⟩
          · by_cases h5 : m < r
            · rw [nfV_no (vNF_bad (by omega))]
              go_enter Try.func37, Try.ntmps37
              go_wp2_with fail
              ((with_reducible refine (are2 n m _ _ (by simp) (by simp)).mono ?_); rintro e w0 ⟨rfl, rfl⟩)
              go_wp2
              go_ret3
              exact ⟨rfl, (by repeat' (first | (with_reducible exact Below.refl _ _) | (with_reducible assumption) | (with_reducible refine Below.alloc ?_ ?_ _) | (with_reducible refine Below.drew ?_) | (with_reducible refine below_drewN ?_ _) | (with_reducible refine Below.setCell ?_ ?_ _) | go_size))⟩
            · have g0 := good_iff.1 h0
              have g1 := good_iff.1 h1
              have rr := mul_le (A := 1000000) (B := 1000000) (x := r) (y := r) (by omega) (by omega) (by omega) (by omega) (by omega) (by omega)
              have r0 : 0 ≤ r * r := by have := Int.mul_nonneg (a := r) (b := r) (by omega) (by omega); exact this
              by_cases h6 : (r * r + n) % m = 0
              · rw [nfV_yes (vNF_ok (by omega) (by omega) (by omega) (by omega) (by omega) (by omega) h6)]
                have n1 : 1 ≤ n := by omega
                have m2 : m ≤ 1000000 := by omega
                obtain ⟨LL, hLL⟩ : ∃ LL, LL = m.toNat :: eur m.toNat r.toNat := ⟨_, rfl⟩
                rw [← hLL]
                have HLL := Lib.hid hLL
                clear hLL
                go_enter Try.func37, Try.ntmps37
                go_wp2_with fail
                ((with_reducible refine (are2 n m _ _ (by simp) (by simp)).mono ?_); rintro e w0 ⟨rfl, rfl⟩)
                go_wp2_with fail
                refine (euc_int (fun M R hM hR => remainders_any M R _ hM hR) (by omega) (by omega) (by omega) (by omega)).mono ?_
                rintro e w1 ⟨v1, rfl, l1, b1⟩
                have hmem : ∀ x ∈ LL, x ≤ 1000000 := fun x hx => by
                  rw [HLL.out] at hx
                  rcases List.mem_cons.1 hx with h | h
                  · omega
                  · have := eur_le _ _ _ h
                    omega
                have hpos : 0 < LL.length := by rw [HLL.out]; simp
                have hll : LL.length ≤ 1000001 := by
                  have := eur_len r.toNat m.toNat
                  rw [HLL.out]
                  simp only [List.length_cons]
                  omega
                rw [← HLL.out] at l1
                clear HLL
                have bW : Below w.heap.size w w1 := Below.trans ((by repeat' (first | (with_reducible exact Below.refl _ _) | (with_reducible assumption) | (with_reducible refine Below.alloc ?_ ?_ _) | (with_reducible refine Below.drew ?_) | (with_reducible refine below_drewN ?_ _) | (with_reducible refine Below.setCell ?_ ?_ _) | go_size))) (b1.mono (by first | exact Nat.le_refl _ | (simp; done) | (simp; omega)))
                clear b1
                obtain ⟨g, c, hv, hcell⟩ : ∃ g c, v1 = .slice (some ⟨g, 0, none⟩) LL.length c ∧ ∀ k, k < LL.length → w1.cell? ⟨g, k, none⟩ = some (.int .i64 (LL.getD k 0 : Nat)) := by
                  rcases l1.shape with ⟨h, _⟩ | ⟨g, c, h, _, _, hc, _⟩
                  · rw [ints] at h
                    have := List.map_eq_nil_iff.1 h
                    rw [this] at hpos
                    simp at hpos
                  · refine ⟨g, c, by rw [h, ints_length], fun k hk => ?_⟩
                    rw [hc k (by rw [ints_length]; exact hk)]
                    simp [ints, hk]
                subst hv
                have HC := Lib.hid hcell
                have HMEM := Lib.hid hmem
                clear hcell hmem l1 hpos
                go_wp2
                go_loop [48] (fun s => ∃ k : Nat, s = .int .i64 k ∧ k ≤ LL.length ∧ Hid (nfr n m (LL.drop k) = nfr n m LL)) (fun s => LL.length - (intOf s).toNat)
                case atStart => exact ⟨0, rfl, Nat.zero_le _, by show nfr n m (LL.drop 0) = _; rw [List.drop_zero]⟩
                case round =>
                  obtain ⟨k, rfl, hk, HR⟩ := hrel
                  by_cases hlt : k < LL.length
                  · obtain ⟨x, hx⟩ : ∃ x, x = LL.getD k 0 := ⟨_, rfl⟩
                    have hc := HC.out k hlt
                    rw [← hx] at hc
                    have hxm : x ≤ 1000000 := HMEM.out x (by rw [hx]; simp [hlt])
                    have hdr : LL.drop k = x :: LL.drop (k + 1) := by rw [List.drop_eq_getElem_cons hlt, hx]; simp [hlt]
                    have xx : 0 ≤ (x : Int) * x ∧ (x : Int) * x ≤ 1000000000000 := by
                      have : x * x ≤ 1000000 * 1000000 := Nat.mul_le_mul hxm hxm
                      rw [← Int.natCast_mul]
                      omega
                    rw [hdr] at HR
                    clear hx hdr
                    by_cases hb : m < (x : Int) * x
                    · have HN : Hid (nfr n m (LL.drop (k + 1)) = nfr n m LL) := by
                        show _ = _
                        rw [← HR.out, nfr_big hb]
                      clear HR
                      go_wp2
                      go_round
                      case rel => exact ⟨k + 1, by go_num, by omega, HN⟩
                      case measure => simp only [intOf]; omega
                    · obtain ⟨r1, r2, r3, r4⟩ := nf_bd n1 m2 hb
                      by_cases hd : (m - (x : Int) * x) % n = 0
                      · rcases hs : sqB ((m - (x : Int) * x) / n) with _ | _
                        · have HN : Hid (nfr n m LL = none) := by
                            show _ = _
                            rw [← HR.out, nfr_no hb (by rw [hs]; simp)]
                          clear HR
                          go_wp2_with (first | (go_at_call 63; refine (isSquare_any _ _ (by omega) (by omega)).mono ?_; rintro e w0 ⟨rfl, rfl⟩))
                          go_ret3
                          exact ⟨by rw [HN.out]; rfl, bW⟩
                        · have HN : Hid (nfr n m LL = some ((x : Int), (isq ((m - (x : Int) * x) / n).toNat : Int))) := by
                            show _ = _
                            rw [← HR.out, nfr_yes hb hd hs]
                          clear HR
                          go_wp2_with (first | (go_at_call 63; refine (isSquare_any _ _ (by omega) (by omega)).mono ?_; rintro e w0 ⟨rfl, rfl⟩) | (go_at_call 64; refine (root_any _ _ (by omega) (by omega)).mono ?_; rintro e w0 ⟨rfl, rfl⟩))
                          go_ret3
                          exact ⟨by rw [HN.out]; rfl, bW⟩
                      · have HN : Hid (nfr n m LL = none) := by
                          show _ = _
                          rw [← HR.out, nfr_no hb (fun h => hd h.1)]
                        have hdb : ((m - (x : Int) * x) % n != 0) = true := by simp; exact hd
                        clear HR
                        go_wp2
                        go_ret3
                        exact ⟨by rw [HN.out]; rfl, bW⟩
                  · obtain rfl : k = LL.length := by omega
                    have HN : Hid (nfr n m LL = none) := by
                      show _ = _
                      rw [← HR.out, List.drop_length]
                      rfl
                    clear HR
                    go_wp2
                    go_ret3
                    exact ⟨by rw [HN.out]; rfl, bW⟩
              · rw [nfV_no (vNF_bad (by simp only [ne_eq, h6, not_false_eq_true, or_true]))]
                have hmb : ((r * r + n) % m != 0) = true := by simpa using h6
                clear h6
                go_enter Try.func37, Try.ntmps37
                go_wp2_with fail
                ((with_reducible refine (are2 n m _ _ (by simp) (by simp)).mono ?_); rintro e w0 ⟨rfl, rfl⟩)
                go_wp2
                go_ret3
                exact ⟨rfl, (by repeat' (first | (with_reducible exact Below.refl _ _) | (with_reducible assumption) | (with_reducible refine Below.alloc ?_ ?_ _) | (with_reducible refine Below.drew ?_) | (with_reducible refine below_drewN ?_ _) | (with_reducible refine Below.setCell ?_ ?_ _) | go_size))⟩

theorem specNF_t (n m r : Int) (w : World) : Calls Try.prog 36 #[.int .i64 n, .int .i64 m, .int .i64 r] w fun e w' => e = .returned (.tuple #[.int .i64 (oFst (nfV n m r)), .int .i64 (oSnd (nfV n m r)), .bool (nfB (nfV n m r))]) ∧ Below w.heap.size w w' := specNF_any n m r w

theorem implNF_t (n m r : Int) (w : World) : Calls Try.prog 37 #[.int .i64 n, .int .i64 m, .int .i64 r] w fun e w' => e = .returned (.tuple #[.int .i64 (oFst (nfV n m r)), .int .i64 (oSnd (nfV n m r)), .bool (nfB (nfV n m r))]) ∧ Below w.heap.size w w' := implNF_any n m r w

theorem law_FnExactNormFromRoot (n m r : Int) (w : World) (_ : In64 n) (_ : In64 m) (_ : In64 r) : Calls Try.prog 12 #[.int .i64 n, .int .i64 m, .int .i64 r] w fun e w' => e = .returned (.bool true) ∧ Below w.heap.size w w' := by
  go_enter Try.func12, Try.ntmps12
  go_wp2_with fail
  ((with_reducible refine (specNF_t _ _ _ _).mono ?_); rintro e w1 ⟨rfl, hb1⟩)
  obtain ⟨hc1, hf1⟩ := bcell hb1
  have hz1 := hb1.size
  try simp only [World.size_alloc, World.size_drew, World.size_setCell] at hz1
  try have hs1 : w.heap.size < w1.heap.size := by omega
  have bl1 : Below w.heap.size w w1 := Below.trans (by go_grown) (hb1.mono (by go_size))
  go_wp2_with fail
  ((with_reducible refine (implNF_t _ _ _ _).mono ?_); rintro e w2 ⟨rfl, hb2⟩)
  obtain ⟨hc2, hf2⟩ := bcell hb2
  have hz2 := hb2.size
  try simp only [World.size_alloc, World.size_drew, World.size_setCell] at hz2
  try have hs2 : w.heap.size < w2.heap.size := by omega
  have bl2 : Below w.heap.size w w2 := Below.trans (by go_grown) (hb2.mono (by go_size))
  go_wp2
  go_ret
  exact ⟨rfl, bl2⟩
end Go.Proofs.Ytfnmdcifjdfocaa
