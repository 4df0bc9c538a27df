/-
  Contract: a number is put into an ascending list.
-/
import Derived.Test.YtfnmdcifjdfocaaMobP
import Derived.Laws.AppendOwnNone
namespace Go.Proofs.Ytfnmdcifjdfocaa
open Go.RowKit
set_option linter.unusedSimpArgs false
set_option linter.unusedVariables false

def PutR (b : Nat) (L : List Int) (n : Int) (w : World) (e : Ending) (w' : World) : Prop := ∃ v', e = .returned v' ∧ Lst w' b v' (putL L n) ∧ Below w.heap.size w w'
def AllLt (L : List Int) (n : Int) (k : Nat) : Prop := ∀ j, j < k → L.getD j 0 < n
theorem AllLt.succ {L : List Int} {n x : Int} {k : Nat} (h : AllLt L n k) (hx : L.getD k 0 = x) (hn : x < n) : AllLt L n (k + 1) := fun j hj => by
  rcases Nat.lt_or_ge j k with h1 | h1
  · exact h j h1
  · have : j = k := by omega
    subst this
    rw [hx]; exact hn
theorem AllLt.notMem {L : List Int} {n : Int} (h : AllLt L n L.length) : n ∉ L := fun hm => by
  obtain ⟨i, hi, he⟩ := List.mem_iff_getElem.1 hm
  have := h i hi
  simp [List.getD_eq_getElem?_getD, hi, he] at this
theorem putL_new {L : List Int} {n : Int} (h : n ∉ L) : putL L n = L ++ [n] := by unfold putL; rw [if_neg h]
theorem putL_old {L : List Int} {n : Int} (h : n ∈ L) : putL L n = L := by unfold putL; rw [if_pos h]
theorem getD_mem {L : List Int} {k : Nat} {x : Int} (hk : k < L.length) (hx : L.getD k 0 = x) : x ∈ L := by
  rw [← hx]
  simp [List.getD_eq_getElem?_getD, hk]

theorem Lst.some' {w : World} {base : Nat} {v : Value} {L : List Int} (h : Lst w base v L) (h1 : 1 ≤ L.length) : ∃ g cap, v = .slice (some ⟨g, 0, none⟩) L.length cap ∧ base ≤ g ∧ g < w.heap.size ∧ (∀ k, k < L.length → w.cell? ⟨g, k, none⟩ = some (.int .i64 (L.getD k 0))) ∧ (∀ k, w.frozen? ⟨g, k, none⟩ = false) := by
  rcases h.shape with ⟨rfl, _⟩ | h
  · simp at h1
  · exact h
theorem one_news {W : World} {g : Nat} {T : TypeId} {x : Value} (hg : g = W.heap.size) : ∀ j u, [x][j]? = some u → (W.alloc (.cells #[x] T)).cell? ((⟨g, 0, none⟩ : Addr).add j) = some u := by
  subst hg
  intro j u hj
  match j, hj with
  | 0, hj => simp at hj; subst hj; simp [Addr.add]
theorem one_cells (n : Int) : ∀ u ∈ [Value.int .i64 n], u.oneCell' = true := by intro u hu; simp at hu; subst hu; rfl
theorem int_cells (L : List Int) : ∀ u ∈ L.map (Value.int .i64), u.oneCell' = true := by
  intro u hu
  obtain ⟨y, _, rfl⟩ := List.mem_map.1 hu
  rfl
theorem no_news {W : World} {a : Addr} : ∀ (j : Nat) (u : Value), ([] : List Value)[j]? = some u → W.cell? (a.add j) = some u := by
  intro j u hj
  simp at hj
theorem no_cells : ∀ u ∈ ([] : List Value), u.oneCell' = true := by
  intro u hu
  cases hu
theorem l1Put_nil (n : Int) (w : World) : Calls Try.prog 74 #[.slice none 0 0, .int .i64 n] w (PutR w.heap.size [] n w) := by
  obtain ⟨i0, hi, ho0, ho1, ho2⟩ := info_parts Try.infoInt
  go_enter Try.func74, Try.ntmps74
  go_wp2
  go_loop [5] (fun s => s = .int .i64 0) (fun _ => 0)
  case atStart => rfl
  case round =>
    obtain rfl := hrel
    have hl0 : Lst (w.alloc (.cells #[] 3)) w.heap.size (.slice (some ⟨w.heap.size, 0, none⟩) 0 0) [] := Lst.empty w (Nat.le_refl _)
    go_wp2_with (first | (at_builtin; refine wpList_append_own_none rfl _ _ 25 rfl w.heap.size 3 i0 1 Try.underlying25 hi _ _ _ rfl hl0.own rfl ?_) | (at_builtin; refine wpList_append_own _ rfl _ _ 25 rfl w.heap.size 3 i0 (.int .i64 0) 1 8 Try.underlying25 hi ho0 ho1 ho2 rfl (by decide) _ _ _ rfl (hl0.own.alloc _) ⟨w.heap.size + 1, 0, none⟩ 1 1 [.int .i64 n] rfl rfl (one_news (by simp)) (one_cells n) (by simp [maxLen]) (by simp) (by simp; omega) ?_))
    · intro v' w1 hown' hgrow _
      have hl1 : Lst w1 w.heap.size v' [n] := Lst.snoc (L := []) hown'
      have hb1 : Below w.heap.size w w1 := Below.grown (((Below.refl _ _).alloc (Nat.le_refl _) _).alloc (by simp) _) hgrow (by simp; omega) fun k hk => by simp [Value.ownBlock] at hk; omega
      clear hown' hgrow
      go_wp2_with (at_builtin; refine wpList_append_own_none rfl _ _ 25 rfl w.heap.size 3 i0 1 Try.underlying25 hi _ _ _ rfl hl1.own rfl ?_)
      go_ret
      exact ⟨_, rfl, hl1, hb1⟩
theorem l1Put_some (g : Nat) (cap : Nat) (L : List Int) (n : Int) (w : World) {b : Nat} (hl : Lst w b (.slice (some ⟨g, 0, none⟩) L.length cap) L) (hb0 : b ≤ w.heap.size) (h1 : 1 ≤ L.length) (hlen : L.length ≤ 1000000) (hle : ∀ y ∈ L, y ≤ n) :
    Calls Try.prog 74 #[.slice (some ⟨g, 0, none⟩) L.length cap, .int .i64 n] w (PutR b L n w) := by
  obtain ⟨i0, hi, ho0, ho1, ho2⟩ := info_parts Try.infoInt
  obtain ⟨g', cap', hv, _, hg, hcell, _⟩ := hl.some' h1
  simp only [Value.slice.injEq, Option.some.injEq, Addr.mk.injEq] at hv
  obtain ⟨⟨hgg, _⟩, _, hcc⟩ := hv
  subst hgg hcc
  have HC := Lib.hid hcell
  have HLE := Lib.hid hle
  have hcl : ∀ j u, (L.map (Value.int .i64))[j]? = some u → w.cell? ((⟨g, 0, none⟩ : Addr).add j) = some u := World.ownsRow.cells hl.own rfl
  have HCL := Lib.hid hcl
  have hlc : L.length ≤ cap := by
    rcases hl.2 with ⟨h, _⟩ | ⟨g2, cap2, cur, h, _, _, h3, _⟩
    · cases h
    · simp only [Value.slice.injEq] at h
      omega
  clear hcell hle hcl
  have hadd : ∀ j : Nat, ((⟨g, 0, none⟩ : Addr).add j).block = g := fun j => by unfold Addr.add; split <;> rfl
  have HADD := Lib.hid hadd
  clear hadd
  by_cases hcap : cap = L.length
  · subst hcap
    go_enter Try.func74, Try.ntmps74
    go_wp2
    go_loop [5] (fun s => ∃ k : Nat, s = .int .i64 k ∧ k ≤ L.length ∧ Hid (AllLt L n k)) (fun s => L.length - (intOf s).toNat)
    case atStart => exact ⟨0, rfl, Nat.zero_le _, Lib.hid (fun j hj => by omega)⟩
    case round =>
      obtain ⟨k, rfl, hk, HA⟩ := hrel
      by_cases hlt : k < L.length
      · obtain ⟨x, hx⟩ : ∃ x, L.getD k 0 = x := ⟨_, rfl⟩
        have hc := HC.out k hlt
        rw [hx] at hc
        by_cases hxn : x < n
        · have HA2 := Lib.hid (HA.out.succ hx hxn)
          clear hx
          go_wp2
          go_round
          case rel => exact ⟨k + 1, by go_num, by omega, HA2⟩
          case measure => simp only [intOf]; omega
        · have hxe : x = n := by have := HLE.out x (getD_mem hlt hx); omega
          have hmem : n ∈ L := by rw [← hxe]; exact getD_mem hlt hx
          have HM := Lib.hid (putL_old hmem)
          have hq : (x == n) = true := by rw [beq_iff_eq]; exact hxe
          clear hx hxe hmem
          go_wp2
          go_ret
          exact ⟨_, rfl, by rw [HM.out]; exact hl, Below.refl _ _⟩
      · obtain rfl : k = L.length := by omega
        have HM := Lib.hid (putL_new HA.out.notMem)
        have hl0 : Lst (w.alloc (.cells #[] 3)) w.heap.size (.slice (some ⟨w.heap.size, 0, none⟩) 0 0) [] := Lst.empty w (Nat.le_refl _)
        have CN := Lib.hid (fun j u hj => (World.cell?_alloc_lt w (.cells #[] 3) ((⟨g, 0, none⟩ : Addr).add j) (by rw [HADD.out]; exact hg)).trans (HCL.out j u hj))
        clear HA hlt HC HLE
        go_wp2_with (at_builtin; refine wpList_append_own _ rfl _ _ 25 rfl w.heap.size 3 i0 (.int .i64 0) 1 8 Try.underlying25 hi ho0 ho1 ho2 rfl (by decide) _ _ _ rfl hl0.own ⟨g, 0, none⟩ L.length L.length (L.map (Value.int .i64)) rfl (by simp) CN.out (int_cells L) (by unfold maxLen; simp; omega) (by simp; omega) (by simp) ?_)
        · intro v1 w1 hown1 hgrow1 _
          have hl1 : Lst w1 w.heap.size v1 L := by simpa [Lst] using hown1
          have hb1 : Below w.heap.size w w1 := Below.grown ((Below.refl _ _).alloc (Nat.le_refl _) _) hgrow1 (by simp) fun k hk => by simp [Value.ownBlock] at hk; omega
          have hsz1 := hb1.size
          clear hown1 hgrow1 hl0
          go_wp2_with (at_builtin; refine wpList_append_own _ rfl _ _ 25 rfl w.heap.size 3 i0 (.int .i64 0) 1 8 Try.underlying25 hi ho0 ho1 ho2 rfl (by decide) _ _ _ rfl (hl1.own.alloc _) ⟨w1.heap.size, 0, none⟩ 1 1 [.int .i64 n] rfl rfl (one_news rfl) (one_cells n) (by unfold maxLen; omega) (by omega) (by simp; omega) ?_)
          · intro v2 w2 hown2 hgrow2 _
            have hl2 := Lst.snoc hown2
            have hb2 := snoc_below hb1 hl1 hgrow2
            have hsz2 := hb2.size
            clear hown2 hgrow2 hl1 hb1
            go_wp2_with (at_builtin; refine wpList_append_own _ rfl _ _ 25 rfl w.heap.size 3 i0 (.int .i64 0) 1 8 Try.underlying25 hi ho0 ho1 ho2 rfl (by decide) _ _ _ rfl hl2.own _ 0 _ [] rfl rfl no_news no_cells (by unfold maxLen; simp; omega) (by simp; omega) (by omega) ?_)
            · intro v3 w3 hown3 hgrow3 _
              have hl3 : Lst w3 w.heap.size v3 (L ++ [n]) := by simpa [Lst] using hown3
              have hb3 : Below w.heap.size w w3 := Below.grown hb2 hgrow3 (by omega) fun k hk => (World.ownsRow.lt hl2.own k hk).1
              clear hown3 hgrow3
              go_wp2
              go_ret
              exact ⟨_, rfl, by rw [HM.out]; exact hl3.base hb0, hb3⟩
  · go_enter Try.func74, Try.ntmps74
    go_wp2
    go_loop [5] (fun s => ∃ k : Nat, s = .int .i64 k ∧ k ≤ L.length ∧ Hid (AllLt L n k)) (fun s => L.length - (intOf s).toNat)
    case atStart => exact ⟨0, rfl, Nat.zero_le _, Lib.hid (fun j hj => by omega)⟩
    case round =>
      obtain ⟨k, rfl, hk, HA⟩ := hrel
      by_cases hlt : k < L.length
      · obtain ⟨x, hx⟩ : ∃ x, L.getD k 0 = x := ⟨_, rfl⟩
        have hc := HC.out k hlt
        rw [hx] at hc
        by_cases hxn : x < n
        · have HA2 := Lib.hid (HA.out.succ hx hxn)
          clear hx
          go_wp2
          go_round
          case rel => exact ⟨k + 1, by go_num, by omega, HA2⟩
          case measure => simp only [intOf]; omega
        · have hxe : x = n := by have := HLE.out x (getD_mem hlt hx); omega
          have hmem : n ∈ L := by rw [← hxe]; exact getD_mem hlt hx
          have HM := Lib.hid (putL_old hmem)
          have hq : (x == n) = true := by rw [beq_iff_eq]; exact hxe
          clear hx hxe hmem
          go_wp2
          go_ret
          exact ⟨_, rfl, by rw [HM.out]; exact hl, Below.refl _ _⟩
      · obtain rfl : k = L.length := by omega
        have HM := Lib.hid (putL_new HA.out.notMem)
        have hl0 : Lst (w.alloc (.cells #[] 3)) w.heap.size (.slice (some ⟨w.heap.size, 0, none⟩) 0 0) [] := Lst.empty w (Nat.le_refl _)
        have CN := Lib.hid (fun j u hj => (World.cell?_alloc_lt w (.cells #[] 3) ((⟨g, 0, none⟩ : Addr).add j) (by rw [HADD.out]; exact hg)).trans (HCL.out j u hj))
        clear HA hlt HC HLE
        go_wp2_with (at_builtin; refine wpList_append_own _ rfl _ _ 25 rfl w.heap.size 3 i0 (.int .i64 0) 1 8 Try.underlying25 hi ho0 ho1 ho2 rfl (by decide) _ _ _ rfl hl0.own ⟨g, 0, none⟩ L.length cap (L.map (Value.int .i64)) rfl (by simp) CN.out (int_cells L) (by unfold maxLen; simp; omega) (by simp; omega) (by simp) ?_)
        · intro v1 w1 hown1 hgrow1 _
          have hl1 : Lst w1 w.heap.size v1 L := by simpa [Lst] using hown1
          have hb1 : Below w.heap.size w w1 := Below.grown ((Below.refl _ _).alloc (Nat.le_refl _) _) hgrow1 (by simp) fun k hk => by simp [Value.ownBlock] at hk; omega
          have hsz1 := hb1.size
          clear hown1 hgrow1 hl0
          go_wp2_with (at_builtin; refine wpList_append_own _ rfl _ _ 25 rfl w.heap.size 3 i0 (.int .i64 0) 1 8 Try.underlying25 hi ho0 ho1 ho2 rfl (by decide) _ _ _ rfl (hl1.own.alloc _) ⟨w1.heap.size, 0, none⟩ 1 1 [.int .i64 n] rfl rfl (one_news rfl) (one_cells n) (by unfold maxLen; omega) (by omega) (by simp; omega) ?_)
          · intro v2 w2 hown2 hgrow2 _
            have hl2 := Lst.snoc hown2
            have hb2 := snoc_below hb1 hl1 hgrow2
            have hsz2 := hb2.size
            clear hown2 hgrow2 hl1 hb1
            go_wp2_with (at_builtin; refine wpList_append_own _ rfl _ _ 25 rfl w.heap.size 3 i0 (.int .i64 0) 1 8 Try.underlying25 hi ho0 ho1 ho2 rfl (by decide) _ _ _ rfl hl2.own _ 0 _ [] rfl rfl no_news no_cells (by unfold maxLen; simp; omega) (by simp; omega) (by omega) ?_)
            · intro v3 w3 hown3 hgrow3 _
              have hl3 : Lst w3 w.heap.size v3 (L ++ [n]) := by simpa [Lst] using hown3
              have hb3 : Below w.heap.size w w3 := Below.grown hb2 hgrow3 (by omega) fun k hk => (World.ownsRow.lt hl2.own k hk).1
              clear hown3 hgrow3
              go_wp2
              go_ret
              exact ⟨_, rfl, by rw [HM.out]; exact hl3.base hb0, hb3⟩
theorem l1Put_any (v : Value) (L : List Int) (n : Int) (w : World) {b : Nat} (hl : Lst w b v L) (hb0 : b ≤ w.heap.size) (hlen : L.length ≤ 1000000) (hle : ∀ y ∈ L, y ≤ n) (hnil : L = [] → v = .slice none 0 0) :
    Calls Try.prog 74 #[v, .int .i64 n] w (PutR b L n w) := by
  by_cases h : L = []
  · subst h
    rw [hnil rfl]
    exact (l1Put_nil n w).mono fun e w' ⟨v', he, h1, h2⟩ => ⟨v', he, h1.base hb0, h2⟩
  · have h1 : 1 ≤ L.length := by have := List.length_pos_iff.2 h; omega
    obtain ⟨g, cap, rfl, _⟩ := hl.some' h1
    exact l1Put_some g cap L n w hl hb0 h1 hlen hle
end Go.Proofs.Ytfnmdcifjdfocaa
