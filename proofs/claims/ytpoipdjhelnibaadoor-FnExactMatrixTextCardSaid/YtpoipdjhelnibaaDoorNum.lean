/-
  The reference's numerals: l1Num, l1Int, and the texts made of them.
-/
import Derived.Test.YtpoipdjhelnibaaDoorTxt
namespace Go.Proofs.YtpoipdjhelnibaaDoor
open Go.RowKit Go.Sort
set_option linter.unusedSimpArgs false
set_option linter.unusedVariables false

theorem bcell' {W w1 : World} (hb : Below W.heap.size W w1) : (∀ b o, b < W.heap.size → w1.cell? ⟨b, o, none⟩ = W.cell? ⟨b, o, none⟩) :=
  fun b o h => hb.cell (p := ⟨b, o, none⟩) h
/-- a string of one byte -/
theorem one_byte (W : World) (g : Nat) (n : Nat) {c : UInt8} (he : UInt8.ofNat (48 + n) = c) (h : n < 10) (hc : W.cell? ⟨g, 0, none⟩ = some (.int .u8 (48 + (n : Int)))) : (convert 68 9 (.slice (some ⟨g, 0, none⟩) 1 1)).run Tryd.prog W = .ok (.string ⟨#[c]⟩) W := by
  subst he
  have := run_convert_bytes_back (P := Tryd.prog) W 68 9 5 ⟨g, 0, none⟩ 1 [UInt8.ofNat (48 + n)] Tryd.underlying68 Tryd.underlying5 Tryd.underlying9 (fun j hj => by
    have hj0 : j = 0 := by simpa using hj
    subst hj0
    have e : (Addr.add ⟨g, 0, none⟩ 0 : Addr) = ⟨g, 0, none⟩ := rfl
    rw [show ((⟨g, 0, none⟩ : Addr).add 0) = ⟨g, 0, none⟩ from rfl, hc]
    simp
    omega)
  exact this
set_option maxHeartbeats 1600000 in
set_option maxRecDepth 100000 in
theorem l1Num_any (n : Nat) : ∀ (w : World), n ≤ 1000000 → Calls Tryd.prog 41 #[.int .i64 n] w fun e w' => e = .returned (.string ⟨(Lib.decDigits n).toArray⟩) ∧ Below w.heap.size w w' := by
  induction n using Nat.strongRecOn with
  | _ n ih =>
    intro w hn
    by_cases h : n < 10
    · have hb : (48 : Int) + n ≤ 57 := by omega
      rw [dd_small h]
      obtain ⟨c, he⟩ : ∃ c, UInt8.ofNat (48 + n) = c := ⟨_, rfl⟩
      have hcv := one_byte (w.alloc (.cells #[.int .u8 (48 + (n : Int))] 5)) w.heap.size n he h (by simp [World.cell?_alloc_new])
      rw [he]
      clear ih he
      go_enter Tryd.func41, Tryd.ntmps41
      go_wp2
      go_ret
      exact ⟨rfl, by go_grown⟩
    · have hq : n / 10 < n := by omega
      have IH := Lib.hid (ih (n / 10) hq)
      rw [dd_more h]
      have zq := dd_size (n := n / 10) (by omega)
      have e1 : ((n : Int)).tdiv 10 = ((n / 10 : Nat) : Int) := by rw [Int.tdiv_eq_ediv_of_nonneg (by omega)]; omega
      have e2 : ((n : Int)).tmod 10 = ((n % 10 : Nat) : Int) := by rw [Int.tmod_eq_emod_of_nonneg (by omega)]; omega
      have e3 : ((n : Int)) / 10 = ((n / 10 : Nat) : Int) := by omega
      have e4 : ((n : Int)) % 10 = ((n % 10 : Nat) : Int) := by omega
      have hr : n % 10 < 10 := by omega
      have hn10 : ¬ (n : Int) < 10 := by omega
      generalize n / 10 = q at *
      generalize n % 10 = r at *
      obtain ⟨c, he⟩ : ∃ c, UInt8.ofNat (48 + r) = c := ⟨_, rfl⟩
      have hcv := fun W g => one_byte W g r he hr
      rw [he]
      have b0 : (0 : Int) ≤ 48 + r ∧ (48 : Int) + r ≤ 57 := by omega
      obtain ⟨X, hX⟩ : ∃ X : ByteArray, (⟨(Lib.decDigits q).toArray⟩ : ByteArray) = X := ⟨_, rfl⟩
      have hxs : X.size ≤ 20 := by rw [← hX]; simpa [ByteArray.size] using zq
      have hap : (⟨(Lib.decDigits q ++ [c]).toArray⟩ : ByteArray) = X ++ ⟨#[c]⟩ := by rw [← hX, ByteArray.mk_append_mk]
      rw [hap]
      rw [hX] at IH
      have n1 : ¬ 9223372036854775807 < X.size + 1 := by omega
      have y1 : IntKind.i64.wrap (q : Int) = q := IntWalk.i64_in _ (by omega)
      have y2 : IntKind.i64.wrap (48 + (r : Int)) = 48 + r := IntWalk.i64_in _ (by omega)
      have y3 : IntKind.u8.wrap (48 + (r : Int)) = 48 + r := IntWalk.u8_in _ (by omega)
      clear ih hap zq hX hxs he h
      go_enter Tryd.func41, Tryd.ntmps41
      go_wp2_with fail
      go_region_with ((go_at_call 41; with_reducible refine (IH.out _ (by omega)).mono ?_; rintro e w1 ⟨rfl, hb1⟩; have hc1 := bcell' hb1; have hz1 := hb1.size; try simp only [World.size_alloc, World.size_drew, World.size_setCell] at hz1; have bl1 : Below w.heap.size w w1 := Below.trans (by go_grown) (hb1.mono (by go_size))))
      all_goals
        (try go_wp2)
        go_ret
        exact ⟨rfl, (by repeat' (first | (with_reducible exact Below.refl _ _) | (with_reducible assumption) | (with_reducible refine Below.alloc ?_ ?_ _) | (with_reducible refine Below.drew ?_) | (with_reducible refine below_drewN ?_ _) | (with_reducible refine Below.setCell ?_ ?_ _) | go_size))⟩
theorem itS_neg (u : Nat) (h : 1 ≤ u) : itS (-(u : Int)) = ⟨#[45]⟩ ++ ⟨(Lib.decDigits u).toArray⟩ := by
  unfold itS
  rw [Lib.itoa_neg u h]
  have : (⟨#[45]⟩ : ByteArray) = ⟨[(45 : UInt8)].toArray⟩ := rfl
  rw [this, ByteArray.mk_append_mk]
  rfl
theorem l1Int_any (n : Int) (hn : -1000000 ≤ n ∧ n ≤ 1000000) (w : World) : Calls Tryd.prog 31 #[.int .i64 n] w fun e w' => e = .returned (.string (itS n)) ∧ Below w.heap.size w w' := by
  by_cases h : n < 0
  · obtain ⟨u, rfl⟩ : ∃ u : Nat, n = -(u : Int) := ⟨n.natAbs, by omega⟩
    rw [itS_neg u (by omega)]
    have zs := dd_size (n := u) (by omega)
    obtain ⟨X, hX⟩ : ∃ X : ByteArray, (⟨(Lib.decDigits u).toArray⟩ : ByteArray) = X := ⟨_, rfl⟩
    have hxs : X.size ≤ 20 := by rw [← hX]; simpa [ByteArray.size] using zs
    have n1 : ¬ 9223372036854775807 < 1 + X.size := by omega
    have C := Lib.hid (l1Num_any u)
    rw [hX] at C ⊢
    have w1 : IntKind.i64.wrap (u : Int) = u := IntWalk.i64_in _ (by omega)
    clear hxs hX zs
    go_enter Tryd.func31, Tryd.ntmps31
    go_wp2_with fail
    refine (C.out _ (by omega)).mono ?_
    rintro e w1 ⟨rfl, hb1⟩
    go_wp2
    go_ret
    exact ⟨rfl, Below.trans (by go_grown) (hb1.mono (by go_size))⟩
  · obtain ⟨u, rfl⟩ : ∃ u : Nat, n = (u : Int) := ⟨n.natAbs, by omega⟩
    have C := Lib.hid (l1Num_any u)
    unfold itS
    rw [Lib.itoa_nonneg]
    go_enter Tryd.func31, Tryd.ntmps31
    go_wp2_with fail
    refine (C.out _ (by omega)).mono ?_
    rintro e w1 ⟨rfl, hb1⟩
    go_wp2
    go_ret
    exact ⟨rfl, Below.trans (by go_grown) (hb1.mono (by go_size))⟩
set_option maxHeartbeats 1600000 in
set_option maxRecDepth 100000 in
theorem foText_any (a b c : Int) (ha : -1000000 ≤ a ∧ a ≤ 1000000) (hb : -1000000 ≤ b ∧ b ≤ 1000000) (hc : -1000000 ≤ c ∧ c ≤ 1000000) (w : World) : Calls Tryd.prog 24 #[.agg #[.int .i64 a, .int .i64 b, .int .i64 c]] w fun e w' =>
    e = .returned (.string (fTx a b c)) ∧ Below w.heap.size w w' := by
  unfold fTx
  have za := itS_size ha
  have zb := itS_size hb
  have zc := itS_size hc
  have ca : ∀ d os, Calls Tryd.prog 31 #[.int .i64 a] (grow (redrawn (w.alloc (.cells #[.int .i64 a, .int .i64 b, .int .i64 c] 32)) d) os) fun e w'' => e = .returned (.string (itS a)) ∧ ∃ p : Regrown, w'' = grow (redrawn (w.alloc (.cells #[.int .i64 a, .int .i64 b, .int .i64 c] 32)) p.d) p.os := fun d os => Calls.regrown_of (l1Int_any a ha _)
  have cb : ∀ d os, Calls Tryd.prog 31 #[.int .i64 b] (grow (redrawn (w.alloc (.cells #[.int .i64 a, .int .i64 b, .int .i64 c] 32)) d) os) fun e w'' => e = .returned (.string (itS b)) ∧ ∃ p : Regrown, w'' = grow (redrawn (w.alloc (.cells #[.int .i64 a, .int .i64 b, .int .i64 c] 32)) p.d) p.os := fun d os => Calls.regrown_of (l1Int_any b hb _)
  have cc : ∀ d os, Calls Tryd.prog 31 #[.int .i64 c] (grow (redrawn (w.alloc (.cells #[.int .i64 a, .int .i64 b, .int .i64 c] 32)) d) os) fun e w'' => e = .returned (.string (itS c)) ∧ ∃ p : Regrown, w'' = grow (redrawn (w.alloc (.cells #[.int .i64 a, .int .i64 b, .int .i64 c] 32)) p.d) p.os := fun d os => Calls.regrown_of (l1Int_any c hc _)
  have ka : ∀ d os, (grow (redrawn (w.alloc (.cells #[.int .i64 a, .int .i64 b, .int .i64 c] 32)) d) os).cell? ⟨w.heap.size, 0, none⟩ = some (.int .i64 a) := cell_regrown (by simp [World.cell?_alloc_new])
  have kb : ∀ d os, (grow (redrawn (w.alloc (.cells #[.int .i64 a, .int .i64 b, .int .i64 c] 32)) d) os).cell? ⟨w.heap.size, 1, none⟩ = some (.int .i64 b) := cell_regrown (by simp [World.cell?_alloc_new])
  have kc : ∀ d os, (grow (redrawn (w.alloc (.cells #[.int .i64 a, .int .i64 b, .int .i64 c] 32)) d) os).cell? ⟨w.heap.size, 2, none⟩ = some (.int .i64 c) := cell_regrown (by simp [World.cell?_alloc_new])
  generalize itS a = sa at *
  generalize itS b = sb at *
  generalize itS c = sc at *
  have n0 : ¬ 9223372036854775807 < 1 + sa.size := by omega
  have n1 : ¬ 9223372036854775807 < 1 + sa.size + 1 := by omega
  have n2 : ¬ 9223372036854775807 < 1 + sa.size + 1 + sb.size := by omega
  have n3 : ¬ 9223372036854775807 < 1 + sa.size + 1 + sb.size + 1 := by omega
  have n4 : ¬ 9223372036854775807 < 1 + sa.size + 1 + sb.size + 1 + sc.size := by omega
  have n5 : ¬ 9223372036854775807 < 1 + sa.size + 1 + sb.size + 1 + sc.size + 1 := by omega
  clear za zb zc
  go_enter Tryd.func24, Tryd.ntmps24
  go_wp2
  refine wp_region_quiet_below (by kernel_rfl) (by kernel_rfl) ?_
  repeat (quiet_step (first | with_reducible exact ca _ _ | with_reducible exact cb _ _ | with_reducible exact cc _ _))
  refine wpQuiet_nil ?_
  intro _ hw'
  obtain ⟨⟨dq, osq⟩, hw''⟩ := hw'
  subst hw''
  go_wp2
  go_ret
  exact ⟨rfl, Below.trans (by go_grown) ((below_regrown _ dq osq).mono (by simp))⟩
set_option maxHeartbeats 1600000 in
set_option maxRecDepth 100000 in
theorem foMatrixText_any (a b c g : Int) (ha : -1000000 ≤ a ∧ a ≤ 1000000) (hb : -1000000 ≤ b ∧ b ≤ 1000000) (hc : -1000000 ≤ c ∧ c ≤ 1000000) (hg : -1000000 ≤ g ∧ g ≤ 1000000) (w : World) : Calls Tryd.prog 20 #[.agg #[.int .i64 a, .int .i64 b, .int .i64 c, .int .i64 g]] w fun e w' =>
    e = .returned (.string (mTx a b c g)) ∧ Below w.heap.size w w' := by
  unfold mTx
  have za := itS_size ha
  have zb := itS_size hb
  have zc := itS_size hc
  have zg := itS_size hg
  have ca : ∀ d os, Calls Tryd.prog 31 #[.int .i64 a] (grow (redrawn (w.alloc (.cells #[.int .i64 a, .int .i64 b, .int .i64 c, .int .i64 g] 26)) d) os) fun e w'' => e = .returned (.string (itS a)) ∧ ∃ p : Regrown, w'' = grow (redrawn (w.alloc (.cells #[.int .i64 a, .int .i64 b, .int .i64 c, .int .i64 g] 26)) p.d) p.os := fun d os => Calls.regrown_of (l1Int_any a ha _)
  have cb : ∀ d os, Calls Tryd.prog 31 #[.int .i64 b] (grow (redrawn (w.alloc (.cells #[.int .i64 a, .int .i64 b, .int .i64 c, .int .i64 g] 26)) d) os) fun e w'' => e = .returned (.string (itS b)) ∧ ∃ p : Regrown, w'' = grow (redrawn (w.alloc (.cells #[.int .i64 a, .int .i64 b, .int .i64 c, .int .i64 g] 26)) p.d) p.os := fun d os => Calls.regrown_of (l1Int_any b hb _)
  have cc : ∀ d os, Calls Tryd.prog 31 #[.int .i64 c] (grow (redrawn (w.alloc (.cells #[.int .i64 a, .int .i64 b, .int .i64 c, .int .i64 g] 26)) d) os) fun e w'' => e = .returned (.string (itS c)) ∧ ∃ p : Regrown, w'' = grow (redrawn (w.alloc (.cells #[.int .i64 a, .int .i64 b, .int .i64 c, .int .i64 g] 26)) p.d) p.os := fun d os => Calls.regrown_of (l1Int_any c hc _)
  have cg : ∀ d os, Calls Tryd.prog 31 #[.int .i64 g] (grow (redrawn (w.alloc (.cells #[.int .i64 a, .int .i64 b, .int .i64 c, .int .i64 g] 26)) d) os) fun e w'' => e = .returned (.string (itS g)) ∧ ∃ p : Regrown, w'' = grow (redrawn (w.alloc (.cells #[.int .i64 a, .int .i64 b, .int .i64 c, .int .i64 g] 26)) p.d) p.os := fun d os => Calls.regrown_of (l1Int_any g hg _)
  have ka : ∀ d os, (grow (redrawn (w.alloc (.cells #[.int .i64 a, .int .i64 b, .int .i64 c, .int .i64 g] 26)) d) os).cell? ⟨w.heap.size, 0, none⟩ = some (.int .i64 a) := cell_regrown (by simp [World.cell?_alloc_new])
  have kb : ∀ d os, (grow (redrawn (w.alloc (.cells #[.int .i64 a, .int .i64 b, .int .i64 c, .int .i64 g] 26)) d) os).cell? ⟨w.heap.size, 1, none⟩ = some (.int .i64 b) := cell_regrown (by simp [World.cell?_alloc_new])
  have kc : ∀ d os, (grow (redrawn (w.alloc (.cells #[.int .i64 a, .int .i64 b, .int .i64 c, .int .i64 g] 26)) d) os).cell? ⟨w.heap.size, 2, none⟩ = some (.int .i64 c) := cell_regrown (by simp [World.cell?_alloc_new])
  have kg : ∀ d os, (grow (redrawn (w.alloc (.cells #[.int .i64 a, .int .i64 b, .int .i64 c, .int .i64 g] 26)) d) os).cell? ⟨w.heap.size, 3, none⟩ = some (.int .i64 g) := cell_regrown (by simp [World.cell?_alloc_new])
  generalize itS a = sa at *
  generalize itS b = sb at *
  generalize itS c = sc at *
  generalize itS g = sg at *
  have n0 : ¬ 9223372036854775807 < 1 + sa.size := by omega
  have n1 : ¬ 9223372036854775807 < 1 + sa.size + 1 := by omega
  have n2 : ¬ 9223372036854775807 < 1 + sa.size + 1 + sb.size := by omega
  have n3 : ¬ 9223372036854775807 < 1 + sa.size + 1 + sb.size + 1 := by omega
  have n4 : ¬ 9223372036854775807 < 1 + sa.size + 1 + sb.size + 1 + sc.size := by omega
  have n5 : ¬ 9223372036854775807 < 1 + sa.size + 1 + sb.size + 1 + sc.size + 1 := by omega
  have n6 : ¬ 9223372036854775807 < 1 + sa.size + 1 + sb.size + 1 + sc.size + 1 + sg.size := by omega
  have n7 : ¬ 9223372036854775807 < 1 + sa.size + 1 + sb.size + 1 + sc.size + 1 + sg.size + 1 := by omega
  clear za zb zc zg
  go_enter Tryd.func20, Tryd.ntmps20
  go_wp2
  refine wp_region_quiet_below (by kernel_rfl) (by kernel_rfl) ?_
  repeat (quiet_step (first | with_reducible exact ca _ _ | with_reducible exact cb _ _ | with_reducible exact cc _ _ | with_reducible exact cg _ _))
  refine wpQuiet_nil ?_
  intro _ hw'
  obtain ⟨⟨dq, osq⟩, hw''⟩ := hw'
  subst hw''
  go_wp2
  go_ret
  exact ⟨rfl, Below.trans (by go_grown) ((below_regrown _ dq osq).mono (by simp))⟩
end Go.Proofs.YtpoipdjhelnibaaDoor
