/-
  The reference's reading of a number: nuRead, foInt.
-/
import Derived.Test.YtpoipdjhelnibaaDoorRdQ
import Derived.Test.YtpoipdjhelnibaaDoorIn
import Derived.Handy
import Derived.WalkSmall
namespace Go.Proofs.YtpoipdjhelnibaaDoor
open Go.RowKit
set_option linter.unusedSimpArgs false
set_option linter.unusedVariables false

theorem sl_len (s : ByteArray) : s.data.toList.length = s.size := by rw [Array.length_toList]; rfl
theorem sl_at (s : ByteArray) (k : Nat) (h : k < s.size) : s.data.toList[k]'(by rw [sl_len]; exact h) = s[k] := by
  rw [Array.getElem_toList]; rfl
theorem rdNat_no1 {l : List UInt8} (h : l.length < 1 ∨ 10 < l.length) : rdNat l = -1 := by
  unfold rdNat
  rw [if_neg]
  rintro ⟨h1, _⟩
  omega
theorem rdNat_no2 {l : List UInt8} (h : l.head? = some 48) (h1 : 1 < l.length) : rdNat l = -1 := by
  unfold rdNat
  rw [if_neg]
  rintro ⟨_, h2, _⟩
  exact h2 ⟨h, h1⟩
theorem rdNat_no3 {l : List UInt8} {c : UInt8} (h : c ∈ l) (h1 : isDig c = false) : rdNat l = -1 := by
  unfold rdNat
  rw [if_neg]
  rintro ⟨_, _, h2⟩
  rw [List.all_eq_true.1 h2 c h] at h1
  cases h1
theorem rdNat_yes {l : List UInt8} (h : 1 ≤ l.length ∧ l.length ≤ 10) (h1 : ¬ (l.head? = some 48 ∧ 1 < l.length)) (h2 : ∀ c ∈ l, isDig c = true) : rdNat l = valD l := by
  unfold rdNat
  rw [if_pos ⟨h, h1, List.all_eq_true.2 h2⟩]
theorem valD_lt (l : List UInt8) : (∀ c ∈ l, isDig c = true) → valD l < 10 ^ l.length := by
  induction l using snoc_indB with
  | h0 => intro _; simp [valD]
  | hs A c ih =>
    intro h
    have h1 := ih fun x hx => h x (by simp [hx])
    have h2 := isDig_iff.1 (h c (by simp))
    rw [valD_snoc, List.length_append, List.length_singleton, Nat.pow_succ]
    omega

set_option maxHeartbeats 1600000 in
theorem nuRead_any (s : ByteArray) (w : World) (hs : s.size ≤ 1048576) : Calls Tryd.prog 47 #[.string s] w fun e w' => e = .returned (.int .i64 (rdNat s.data.toList)) ∧ w = w' := by
  have hlen := sl_len s
  by_cases h1 : 1 ≤ s.size ∧ s.size ≤ 10
  · have e1 : inB 1 10 (s.size : Int) = true := inB_iff.2 (by omega)
    have h0 : 0 < s.size := by omega
    obtain ⟨c, hc⟩ : ∃ c : UInt8, s[0]'h0 = c := ⟨_, rfl⟩
    have hh : s.data.toList.head? = some c := by
      rw [List.head?_eq_getElem?, List.getElem?_eq_getElem (by rw [hlen]; exact h0), sl_at s 0 h0, hc]
    have main : ¬ (c.toNat = 48 ∧ 1 < s.size) → Calls Tryd.prog 47 #[.string s] w fun e w' => e = .returned (.int .i64 (rdNat s.data.toList)) ∧ w = w' := fun hz => by
      have HZ := Lib.hid (show ¬ (s.data.toList.head? = some 48 ∧ 1 < s.data.toList.length) from fun ⟨a, b⟩ => hz ⟨by rw [hh] at a; injection a with a; rw [a]; rfl, by omega⟩)
      have HL := Lib.hid hlen
      clear hh
      have t1 : ((c.toNat : Int) == 48) = false ∨ ¬ 1 < (s.size : Int) := by
        by_cases h : c.toNat = 48
        · exact .inr (by omega)
        · exact .inl (by rw [beq_eq_false_iff_ne]; omega)
      have key : ∀ X : Int, X = rdNat s.data.toList → Calls Tryd.prog 47 #[.string s] w fun e w' => e = .returned (.int .i64 X) ∧ w = w' := fun X hX => by
        have HX := Lib.hid hX
        clear hX
        rcases hb : ((c.toNat : Int) == 48) with _ | _
        all_goals
          have hsz : ¬ 1 < (s.size : Int) ∨ True := .inr trivial
          clear hsz
          first
          | (have h48 : ¬ (c.toNat : Int) = 48 := by rw [beq_eq_false_iff_ne] at hb; exact hb)
          | (have h48 : (c.toNat : Int) = 48 := by rw [beq_iff_eq] at hb; exact hb
             have hsz : ¬ 1 < (s.size : Int) := by rcases t1 with h | h; (rw [hb] at h; cases h); exact h)
          clear t1 hz hlen
          go_enter Tryd.func47, Tryd.ntmps47
          go_wp2_with fail
          ((with_reducible refine (l1In_any _ _ _ _).mono ?_); rintro e w0 ⟨rfl, rfl⟩)
          rw [e1]
          go_wp2
          go_loop [3, 4] (fun n i => ∃ k : Nat, i = .int .i64 k ∧ k ≤ s.size ∧ (∃ x : Int, n = .int .i64 x ∧ 0 ≤ x ∧ x ≤ 99999999999 ∧ Hid (x = (valD (s.data.toList.take k) : Int)) ∧ Hid (∀ d ∈ s.data.toList.take k, isDig d = true))) (fun _ i => s.size - (intOf i).toNat)
          case atStart => exact ⟨0, rfl, Nat.zero_le _, 0, rfl, by omega, by omega, Lib.hid rfl, Lib.hid (fun d hd => by simp at hd)⟩
          case round =>
            obtain ⟨k, rfl, hk, x, rfl, x0, x1, HV, HD⟩ := hrel
            by_cases hlt : k < s.size
            · obtain ⟨d, hd⟩ : ∃ d : UInt8, s[k]'hlt = d := ⟨_, rfl⟩
              have hdm : d ∈ s.data.toList := by rw [← hd, ← sl_at s k hlt]; exact List.getElem_mem _
              have htk : s.data.toList.take (k + 1) = s.data.toList.take k ++ [d] := by
                rw [List.take_succ_eq_append_getElem (by rw [HL.out]; exact hlt), sl_at s k hlt, hd]
              have k0 : (0 : Int) ≤ (k : Int) := by omega
              have k1 : (k : Int) < (s.size : Int) := by omega
              by_cases hg : isDig d = true
              · have hgi := isDig_iff.1 hg
                have HV2 : Hid (10 * x + ((d.toNat : Int) - 48) = (valD (s.data.toList.take (k + 1)) : Int)) := Lib.hid (by rw [htk, valD_snoc, HV.out]; omega)
                have HD2 : Hid (∀ d ∈ s.data.toList.take (k + 1), isDig d = true) := Lib.hid (fun y hy => by
                  rw [htk] at hy
                  rcases List.mem_append.1 hy with h | h
                  · exact HD.out y h
                  · rw [List.mem_singleton] at h; rw [h]; exact hg)
                have hv := valD_lt _ HD2.out
                have hp : 10 ^ (s.data.toList.take (k + 1)).length ≤ 10 ^ 10 := Nat.pow_le_pow_right (by omega) (by rw [List.length_take]; omega)
                have hn10 : (10 : Nat) ^ 10 = 10000000000 := rfl
                have hb2 : 0 ≤ 10 * x + ((d.toNat : Int) - 48) ∧ 10 * x + ((d.toNat : Int) - 48) ≤ 99999999999 := by rw [HV2.out]; omega
                have d1 : ¬ (d.toNat : Int) < 48 := by omega
                have d2 : ¬ 57 < (d.toNat : Int) := by omega
                have d3 : IntKind.u8.wrap ((d.toNat : Int) - 48) = (d.toNat : Int) - 48 := IntWalk.u8_in _ (by omega)
                have d4 : 0 ≤ (d.toNat : Int) - 48 ∧ (d.toNat : Int) - 48 ≤ 9 := by omega
                clear hv hp hn10 hdm htk hg
                go_wp2
                go_round
                case rel => exact ⟨k + 1, by go_num, hlt, _, rfl, hb2.1, hb2.2, HV2, HD2⟩
                case measure => simp only [intOf]; omega
              · have hgf : isDig d = false := by simpa using hg
                have HR := Lib.hid (rdNat_no3 hdm hgf)
                have hX := HX.out
                rw [HR.out] at hX
                subst hX
                by_cases hd1 : d.toNat < 48
                · have d1 : (d.toNat : Int) < 48 := by omega
                  clear hdm htk hg hgf hd1
                  go_wp2
                  go_ret
                  exact ⟨rfl, rfl⟩
                · have d1 : ¬ (d.toNat : Int) < 48 := by omega
                  have d2 : 57 < (d.toNat : Int) := by
                    rcases Nat.lt_or_ge 57 d.toNat with h | h
                    · omega
                    · exact absurd (isDig_iff.2 ⟨by omega, h⟩) hg
                  clear hdm htk hg hgf hd1
                  go_wp2
                  go_ret
                  exact ⟨rfl, rfl⟩
            · have hke : k = s.size := by omega
              have hv := HV.out
              have hd := HD.out
              rw [hke, ← HL.out, List.take_length] at hv hd
              have hr := rdNat_yes (by rw [HL.out]; omega) HZ.out hd
              have hX := HX.out
              rw [hr, ← hv] at hX
              subst hX
              have k1 : ¬ (k : Int) < (s.size : Int) := by omega
              clear hv hd hr hke
              go_wp2
              go_ret
              exact ⟨rfl, rfl⟩
      exact key _ rfl
    by_cases hz : c.toNat = 48 ∧ 1 < s.size
    · rw [rdNat_no2 (by rw [hh]; congr 1; exact UInt8.toNat_inj.1 hz.1) (by rw [hlen]; exact hz.2)]
      have t1 : (c.toNat : Int) = 48 := by omega
      have t2 : 1 < (s.size : Int) := by omega
      clear main hh
      go_enter Tryd.func47, Tryd.ntmps47
      go_wp2_with fail
      ((with_reducible refine (l1In_any _ _ _ _).mono ?_); rintro e w0 ⟨rfl, rfl⟩)
      rw [e1]
      go_wp2
      go_ret
      exact ⟨rfl, rfl⟩
    · exact main hz
  · have e1 : inB 1 10 (s.size : Int) = false := inB_bad.2 (by omega)
    rw [rdNat_no1 (by omega)]
    go_enter Tryd.func47, Tryd.ntmps47
    go_wp2_with fail
    ((with_reducible refine (l1In_any _ _ _ _).mono ?_); rintro e w0 ⟨rfl, rfl⟩)
    rw [e1]
    go_wp2
    go_ret
    exact ⟨rfl, rfl⟩
end Go.Proofs.YtpoipdjhelnibaaDoor
