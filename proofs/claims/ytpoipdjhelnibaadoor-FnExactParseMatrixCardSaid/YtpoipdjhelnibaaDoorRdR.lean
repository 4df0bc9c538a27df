/-
  The reference's reading of forms and matrices: foInside, foRead, foReadMatrix.
-/
import Derived.Test.YtpoipdjhelnibaaDoorRdL
import Derived.Test.YtpoipdjhelnibaaDoorForm
namespace Go.Proofs.YtpoipdjhelnibaaDoor
open Go.RowKit
set_option linter.unusedSimpArgs false
set_option linter.unusedVariables false

set_option maxHeartbeats 1600000 in
set_option maxRecDepth 100000 in
theorem foInside_is {s : ByteArray} {x y : UInt8} {o : Option (List UInt8)} (w : World) (hs : s.size ≤ 1048576) (ho : rdIn x y s.data.toList = o) : Calls Tryd.prog 34 #[.string s, .int .u8 x.toNat, .int .u8 y.toNat] w fun e w' => e = .returned (.tuple #[bsV (o.getD []), .bool o.isSome]) ∧ w = w' := by
  have hlen := sl_len s
  by_cases h2 : 2 ≤ s.size
  · have h0 : 0 < s.size := by omega
    have h9 : s.size - 1 < s.size := by omega
    obtain ⟨c, hc⟩ : ∃ c : UInt8, s[0]'h0 = c := ⟨_, rfl⟩
    obtain ⟨d, hd⟩ : ∃ d : UInt8, s[s.size - 1]'h9 = d := ⟨_, rfl⟩
    have hh : s.data.toList.head? = some c := by
      rw [List.head?_eq_getElem?, List.getElem?_eq_getElem (by rw [hlen]; exact h0), sl_at s 0 h0, hc]
    have hg : s.data.toList.getLast? = some d := by
      rw [List.getLast?_eq_getElem?, List.getElem?_eq_getElem (by rw [hlen]; exact h9)]
      simp only [hlen]
      rw [sl_at s (s.size - 1) h9, hd]
    have e1 : ((s.size : Int) - 1).toNat = s.size - 1 := by omega
    have e2 : ¬ (s.size : Int) < 2 := by omega
    have e3 : (0 : Int) ≤ (s.size : Int) - 1 := by omega
    have e4 : (s.size : Int) - 1 < (s.size : Int) := by omega
    have e5 : (1 : Int) ≤ (s.size : Int) - 1 := by omega
    have e6 : (s.size : Int) - 1 ≤ (s.size : Int) := by omega
    unfold rdIn at ho
    rw [hh, hg, hlen] at ho
    by_cases hx : c = x
    · have x1 : ((c.toNat : Int) != (x.toNat : Int)) = false := by rw [bne_eq_false_iff_eq, hx]
      have x2 : (c.toNat : Int) = (x.toNat : Int) := by rw [hx]
      by_cases hy : d = y
      · have y1 : ((d.toNat : Int) != (y.toNat : Int)) = false := by rw [bne_eq_false_iff_eq, hy]
        have y2 : (d.toNat : Int) = (y.toNat : Int) := by rw [hy]
        rw [if_pos ⟨h2, by rw [hx], by rw [hy]⟩] at ho
        subst ho
        have hx9 := ext_bs s (a := 1) (b := s.size - 1) (by omega)
        rw [show s.size - 1 - 1 = s.size - 2 by omega] at hx9
        generalize (s.data.toList.drop 1).take (s.size - 2) = m at *
        clear hh hg hlen hx hy h2
        go_enter Tryd.func34, Tryd.ntmps34
        go_wp2
        go_ret2
        exact ⟨rfl, rfl⟩
      · have y1 : ((d.toNat : Int) != (y.toNat : Int)) = true := by rw [bne_iff_ne]; exact fun h => hy (UInt8.toNat_inj.1 (by omega))
        have y2 : ¬ (d.toNat : Int) = (y.toNat : Int) := fun h => hy (UInt8.toNat_inj.1 (by omega))
        rw [if_neg (fun h => hy (by have := h.2.2; injection this))] at ho
        subst ho
        clear hh hg hlen hx hy h2
        go_enter Tryd.func34, Tryd.ntmps34
        go_wp2
        go_ret2
        exact ⟨rfl, rfl⟩
    · have x1 : ((c.toNat : Int) != (x.toNat : Int)) = true := by rw [bne_iff_ne]; exact fun h => hx (UInt8.toNat_inj.1 (by omega))
      have x2 : ¬ (c.toNat : Int) = (x.toNat : Int) := fun h => hx (UInt8.toNat_inj.1 (by omega))
      rw [if_neg (fun h => hx (by have := h.2.1; injection this))] at ho
      subst ho
      clear hh hg hlen hx h2
      go_enter Tryd.func34, Tryd.ntmps34
      go_wp2
      go_ret2
      exact ⟨rfl, rfl⟩
  · have e2 : (s.size : Int) < 2 := by omega
    unfold rdIn at ho
    rw [if_neg (fun h => h2 (by rw [← hlen]; exact h.1))] at ho
    subst ho
    clear hlen h2
    go_enter Tryd.func34, Tryd.ntmps34
    go_wp2
    go_ret2
    exact ⟨rfl, rfl⟩
/-- a form that was read, as a result -/
def o3 (o : Option (Int × Int × Int)) : Value := .agg #[.int .i64 (o.getD (0, 0, 0)).1, .int .i64 (o.getD (0, 0, 0)).2.1, .int .i64 (o.getD (0, 0, 0)).2.2]
theorem rdInts_len {b : UInt8} {k : Nat} {l : List UInt8} {L : List Int} (h : rdInts b k l = some L) : L.length = k := by
  unfold rdInts at h
  split at h
  · rename_i hk
    have : ∀ (A : List (List UInt8)) (L : List Int), A.mapM rdInt = some L → L.length = A.length := fun A => by
      induction A with
      | nil => intro L h; simp at h; subst h; rfl
      | cons a A ih =>
        intro L h
        simp only [List.mapM_cons, Option.bind_eq_bind, Option.bind_eq_some_iff, Option.pure_def, Option.some.injEq] at h
        obtain ⟨n, _, L', hL', rfl⟩ := h
        simp [ih L' hL']
    rw [this _ _ h, hk]
  · cases h
theorem rdInts_nil {b : UInt8} {k : Nat} (hk : k ≠ 1) : rdInts b k [] = none := rdInts_none (by simp [splGo]; exact fun h => hk h.symm)

theorem Lst.adr {w : World} {b : Nat} {v : Value} {L : List Int} (h : Lst w b v L) : ∃ A c, v = .slice A L.length c ∧ (0 < L.length → ∃ g, A = some ⟨g, 0, none⟩ ∧ ∀ k, k < L.length → w.cell? ⟨g, k, none⟩ = some (.int .i64 (L.getD k 0))) := by
  rcases h.shape with ⟨rfl, rfl⟩ | ⟨g, c, rfl, _, _, hc, _⟩
  · exact ⟨_, _, rfl, fun h => by simp at h⟩
  · exact ⟨_, _, rfl, fun _ => ⟨_, rfl, hc⟩⟩
set_option maxHeartbeats 1600000 in
set_option maxRecDepth 100000 in
theorem foRead_is {s : ByteArray} {o : Option (Int × Int × Int)} (w : World) (hs : s.size ≤ 1048576) (ho : rdF s.data.toList = o) : Calls Tryd.prog 27 #[.string s] w fun e w' => e = .returned (.tuple #[o3 o, .bool o.isSome]) ∧ Below w.heap.size w w' := by
  obtain ⟨im, him⟩ : ∃ im, rdIn 40 41 s.data.toList = im := ⟨_, rfl⟩
  have hC := fun W => foInside_is (x := 40) (y := 41) (s := s) W hs him
  have e40 : (((40 : UInt8).toNat : Nat) : Int) = 40 := rfl
  have e41 : (((41 : UInt8).toNat : Nat) : Int) = 41 := rfl
  simp only [e40, e41] at hC
  have C := Lib.hid hC
  clear hC e40 e41
  have hz : (im.getD []).length ≤ 1048576 := by
    rcases im with _ | m
    · simp
    · have := rdIn_some.1 him
      have hl := sl_len s
      rw [this] at hl
      simp at hl ⊢
      omega
  unfold rdF at ho
  rw [him] at ho
  clear him
  have D := fun W => foInts_any ⟨(im.getD []).toArray⟩ 3 W (by simpa [ByteArray.size] using hz) (by omega)
  have e3 : ((3 : Nat) : Int) = 3 := rfl
  simp only [e3] at D
  clear hz
  rcases im with _ | m
  · have e0 : (rdInts 44 3 ((none : Option (List UInt8)).getD [])).getD [] = [] := by rw [show (none : Option (List UInt8)).getD [] = [] from rfl, rdInts_nil (by omega)]; rfl
    simp only [e0] at D
    have HD := Lib.hid D
    clear D e0
    have ho2 : o = none := ho.symm
    subst ho2
    clear ho
    go_enter Tryd.func27, Tryd.ntmps27
    go_wp2_with fail
    refine (C.out _).mono ?_
    rintro e w0 ⟨rfl, rfl⟩
    go_wp2_with fail
    refine (HD.out _).mono ?_
    rintro e w1 ⟨v1, rfl, l1, b1⟩
    obtain ⟨hc1, hf1⟩ := bcell b1
    have hz1 := b1.size
    (try simp only [World.size_alloc] at hz1)
    have hs1 : w.heap.size < w1.heap.size := by omega
    have bl1 : Below w.heap.size w w1 := Below.trans (by go_grown) (b1.mono (by go_size))
    have p0 : w1.cell? ⟨w.heap.size, 0, none⟩ = some (.int .i64 0) := by rw [hc1 _ _ (by simp)]; simp [World.cell?_alloc_new]
    have f0 : w1.frozen? ⟨w.heap.size, 0, none⟩ = false := by rw [hf1 _ _ (by simp)]; exact World.frozen?_alloc_new _ _ _ _
    have p1 : w1.cell? ⟨w.heap.size, 1, none⟩ = some (.int .i64 0) := by rw [hc1 _ _ (by simp)]; simp [World.cell?_alloc_new]
    have f1 : w1.frozen? ⟨w.heap.size, 1, none⟩ = false := by rw [hf1 _ _ (by simp)]; exact World.frozen?_alloc_new _ _ _ _
    have p2 : w1.cell? ⟨w.heap.size, 2, none⟩ = some (.int .i64 0) := by rw [hc1 _ _ (by simp)]; simp [World.cell?_alloc_new]
    have f2 : w1.frozen? ⟨w.heap.size, 2, none⟩ = false := by rw [hf1 _ _ (by simp)]; exact World.frozen?_alloc_new _ _ _ _
    clear hc1 hf1
    go_wp2
    exact bodyPost_ret (v := .tuple #[.agg #[.int .i64 0, .int .i64 0, .int .i64 0], .bool false]) (by simp [results, Tryd.results27, go_sem, p0, p1, p2]) rfl ⟨rfl, (by repeat' (first | (with_reducible exact Below.refl _ _) | (with_reducible assumption) | (with_reducible refine Below.alloc ?_ ?_ _) | (with_reducible refine Below.drew ?_) | (with_reducible refine below_drewN ?_ _) | (with_reducible refine Below.setCell ?_ ?_ _) | go_size))⟩
  · rcases hr : rdInts 44 3 m with _ | L
    · have e0 : (rdInts 44 3 ((some m : Option (List UInt8)).getD [])).getD [] = [] := by rw [show (some m : Option (List UInt8)).getD [] = m from rfl, hr]; rfl
      simp only [e0] at D
      have HD := Lib.hid D
      have ho2 : o = none := by rw [← ho, Option.bind_some, hr]
      subst ho2
      clear ho D e0
      go_enter Tryd.func27, Tryd.ntmps27
      go_wp2_with fail
      refine (C.out _).mono ?_
      rintro e w0 ⟨rfl, rfl⟩
      go_wp2_with fail
      refine (HD.out _).mono ?_
      rintro e w1 ⟨v1, rfl, l1, b1⟩
      obtain ⟨A, cA, rfl, hA⟩ := l1.adr
      obtain ⟨hc1, hf1⟩ := bcell b1
      have hz1 := b1.size
      (try simp only [World.size_alloc] at hz1)
      have hs1 : w.heap.size < w1.heap.size := by omega
      have bl1 : Below w.heap.size w w1 := Below.trans (by go_grown) (b1.mono (by go_size))
      have p0 : w1.cell? ⟨w.heap.size, 0, none⟩ = some (.int .i64 0) := by rw [hc1 _ _ (by simp)]; simp [World.cell?_alloc_new]
      have f0 : w1.frozen? ⟨w.heap.size, 0, none⟩ = false := by rw [hf1 _ _ (by simp)]; exact World.frozen?_alloc_new _ _ _ _
      have p1 : w1.cell? ⟨w.heap.size, 1, none⟩ = some (.int .i64 0) := by rw [hc1 _ _ (by simp)]; simp [World.cell?_alloc_new]
      have f1 : w1.frozen? ⟨w.heap.size, 1, none⟩ = false := by rw [hf1 _ _ (by simp)]; exact World.frozen?_alloc_new _ _ _ _
      have p2 : w1.cell? ⟨w.heap.size, 2, none⟩ = some (.int .i64 0) := by rw [hc1 _ _ (by simp)]; simp [World.cell?_alloc_new]
      have f2 : w1.frozen? ⟨w.heap.size, 2, none⟩ = false := by rw [hf1 _ _ (by simp)]; exact World.frozen?_alloc_new _ _ _ _
      clear hc1 hf1
      clear hA l1
      go_wp2
      exact bodyPost_ret (v := .tuple #[.agg #[.int .i64 0, .int .i64 0, .int .i64 0], .bool false]) (by simp [results, Tryd.results27, go_sem, p0, p1, p2]) rfl ⟨rfl, (by repeat' (first | (with_reducible exact Below.refl _ _) | (with_reducible assumption) | (with_reducible refine Below.alloc ?_ ?_ _) | (with_reducible refine Below.drew ?_) | (with_reducible refine below_drewN ?_ _) | (with_reducible refine Below.setCell ?_ ?_ _) | go_size))⟩
    · obtain ⟨a, b, c, rfl⟩ := len3 (rdInts_len hr)
      have e0 : (rdInts 44 3 ((some m : Option (List UInt8)).getD [])).getD [] = [a, b, c] := by rw [show (some m : Option (List UInt8)).getD [] = m from rfl, hr]; rfl
      simp only [e0] at D
      have HD := Lib.hid D
      have ho2 : o = some (a, b, c) := by rw [← ho, Option.bind_some, hr]
      subst ho2
      clear ho D e0
      go_enter Tryd.func27, Tryd.ntmps27
      go_wp2_with fail
      refine (C.out _).mono ?_
      rintro e w0 ⟨rfl, rfl⟩
      go_wp2_with fail
      refine (HD.out _).mono ?_
      rintro e w1 ⟨v1, rfl, l1, b1⟩
      obtain ⟨A, cA, rfl, hA⟩ := l1.adr
      obtain ⟨g, rfl, hcell⟩ := hA (by simp)
      obtain ⟨hc1, hf1⟩ := bcell b1
      have hz1 := b1.size
      (try simp only [World.size_alloc] at hz1)
      have hs1 : w.heap.size < w1.heap.size := by omega
      have bl1 : Below w.heap.size w w1 := Below.trans (by go_grown) (b1.mono (by go_size))
      have p0 : w1.cell? ⟨w.heap.size, 0, none⟩ = some (.int .i64 0) := by rw [hc1 _ _ (by simp)]; simp [World.cell?_alloc_new]
      have f0 : w1.frozen? ⟨w.heap.size, 0, none⟩ = false := by rw [hf1 _ _ (by simp)]; exact World.frozen?_alloc_new _ _ _ _
      have p1 : w1.cell? ⟨w.heap.size, 1, none⟩ = some (.int .i64 0) := by rw [hc1 _ _ (by simp)]; simp [World.cell?_alloc_new]
      have f1 : w1.frozen? ⟨w.heap.size, 1, none⟩ = false := by rw [hf1 _ _ (by simp)]; exact World.frozen?_alloc_new _ _ _ _
      have p2 : w1.cell? ⟨w.heap.size, 2, none⟩ = some (.int .i64 0) := by rw [hc1 _ _ (by simp)]; simp [World.cell?_alloc_new]
      have f2 : w1.frozen? ⟨w.heap.size, 2, none⟩ = false := by rw [hf1 _ _ (by simp)]; exact World.frozen?_alloc_new _ _ _ _
      clear hc1 hf1
      have q0 := hcell 0 (by simp)
      have q1 := hcell 1 (by simp)
      have q2 := hcell 2 (by simp)
      simp at q0 q1 q2
      clear hcell hA l1
      go_wp2
      go_region
      all_goals
        go_wp2
        exact bodyPost_ret (v := .tuple #[.agg #[.int .i64 a, .int .i64 b, .int .i64 c], .bool true]) (by simp [results, Tryd.results27, go_sem, p0, p1, p2]) rfl ⟨rfl, (by repeat' (first | (with_reducible exact Below.refl _ _) | (with_reducible assumption) | (with_reducible refine Below.alloc ?_ ?_ _) | (with_reducible refine Below.drew ?_) | (with_reducible refine below_drewN ?_ _) | (with_reducible refine Below.setCell ?_ ?_ _) | go_size))⟩
end Go.Proofs.YtpoipdjhelnibaaDoor
