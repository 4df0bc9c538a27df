/-
  The reference's reading of a matrix: foReadMatrix, spec.ParseMatrix.
-/
import Derived.Test.YtpoipdjhelnibaaDoorRdR
import Derived.Deep.RegionHeld3
namespace Go.Proofs.YtpoipdjhelnibaaDoor
open Go.RowKit
set_option linter.unusedSimpArgs false
set_option linter.unusedVariables false

/-- a matrix that was read, as a result -/
def o4 (o : Option (Int × Int × Int × Int)) : Value := .agg #[.int .i64 (o.getD (0, 0, 0, 0)).1, .int .i64 (o.getD (0, 0, 0, 0)).2.1, .int .i64 (o.getD (0, 0, 0, 0)).2.2.1, .int .i64 (o.getD (0, 0, 0, 0)).2.2.2]
theorem stl_two {w : World} {base : Nat} {v : Value} {r t : List UInt8} (h : StL w base v [r, t]) : ∃ g cap, v = .slice (some ⟨g, 0, none⟩) 2 cap ∧ base ≤ g ∧ g < w.heap.size ∧ w.cell? ⟨g, 0, none⟩ = some (bsV r) ∧ w.cell? ⟨g, 1, none⟩ = some (bsV t) := by
  obtain ⟨g, cap, rfl, h1, h2, h3⟩ := h.some (by simp)
  exact ⟨g, cap, rfl, h1, h2, h3 0 (by simp), h3 1 (by simp)⟩
theorem stl_len {w : World} {base : Nat} {v : Value} {D : List (List UInt8)} (h : StL w base v D) : ∃ A cap, v = .slice A D.length cap := by
  by_cases h0 : D.length = 0
  · obtain ⟨hl, h⟩ := h
    rcases h with ⟨rfl, h⟩ | ⟨g, cap, cur, rfl, _⟩
    · exact ⟨_, _, by rw [h0]⟩
    · exact ⟨_, _, rfl⟩
  · obtain ⟨g, cap, rfl, _⟩ := h.some (by omega)
    exact ⟨_, _, rfl⟩
theorem lst_cells {w : World} {base g n c : Nat} {L : List Int} (h : Lst w base (.slice (some ⟨g, 0, none⟩) n c) L) : ∀ k, k < L.length → w.cell? ⟨g, k, none⟩ = some (.int .i64 (L.getD k 0)) := by
  rcases h.shape with ⟨rfl, he⟩ | ⟨g', c', he, _, _, hc, _⟩
  · intro k hk; simp at hk
  · simp only [Value.slice.injEq, Option.some.injEq, Addr.mk.injEq, and_true] at he
    obtain ⟨rfl, _⟩ := he
    exact hc
theorem keep2 {w w1 w2 : World} {g : Nat} {x y : Value} (h : (w1.cell? ⟨g, 0, none⟩ = some x ∧ w1.cell? ⟨g, 1, none⟩ = some y) ∧ Below w.heap.size w w1) (hg : g < w.heap.size) (hb : Below w1.heap.size w1 w2) :
    (w2.cell? ⟨g, 0, none⟩ = some x ∧ w2.cell? ⟨g, 1, none⟩ = some y) ∧ Below w.heap.size w w2 := by
  obtain ⟨⟨a1, a2⟩, hl⟩ := h
  have hs := hl.size
  have hc := (bcell hb).1
  refine ⟨⟨?_, ?_⟩, hl.trans (hb.mono hs)⟩ <;> (rw [hc _ _ (by omega)]; assumption)

set_option maxHeartbeats 1600000 in
set_option maxRecDepth 100000 in
/-- outside its brackets, or not in two rows -/
theorem foReadM_no {s : ByteArray} {im : Option (List UInt8)} (w : World) (hs : s.size ≤ 1048576) (him : rdIn 91 93 s.data.toList = im) (hn : im = none ∨ (splGo 59 [] (im.getD [])).length ≠ 2) :
    Calls Tryd.prog 29 #[.string s] w fun e w' => e = .returned (.tuple #[.agg #[.int .i64 0, .int .i64 0, .int .i64 0, .int .i64 0], .bool false]) ∧ Below w.heap.size w w' := by
  have hC := fun W => foInside_is (x := 91) (y := 93) (s := s) W hs him
  have e91 : (((91 : UInt8).toNat : Nat) : Int) = 91 := rfl
  have e93 : (((93 : UInt8).toNat : Nat) : Int) = 93 := rfl
  simp only [e91, e93] at hC
  have C := Lib.hid hC
  clear hC e91 e93
  have hz : (im.getD []).length ≤ 1048576 := by
    rcases im with _ | m
    · simp
    · have := rdIn_some.1 him
      have hl := sl_len s
      rw [this] at hl
      simp at hl ⊢
      omega
  have D := fun W => l1Split_any ⟨(im.getD []).toArray⟩ 59 W (by simpa [ByteArray.size] using hz)
  have e59 : ((59 : UInt8).toNat : Int) = 59 := rfl
  simp only [e59] at D
  have HD := Lib.hid D
  clear D hz him e59
  rcases im with _ | m
  · go_enter Tryd.func29, Tryd.ntmps29
    go_wp2_with fail
    refine (C.out _).mono ?_
    rintro e w0 ⟨rfl, rfl⟩
    go_wp2_with fail
    refine (HD.out _).mono ?_
    rintro e w1 ⟨v1, rfl, l1, b1⟩
    obtain ⟨hc1, hf1⟩ := bcell b1
    have hz1 := b1.size
    (try simp only [World.size_alloc] at hz1)
    have hs1 : w.heap.size < w1.heap.size := by omega
    have bl1 : Below w.heap.size w w1 := Below.trans (by go_grown) (b1.mono (by go_size))
    have p0 : w1.cell? ⟨w.heap.size, 0, none⟩ = some (.int .i64 0) := by rw [hc1 _ _ (by simp)]; simp [World.cell?_alloc_new]
    have f0 : w1.frozen? ⟨w.heap.size, 0, none⟩ = false := by rw [hf1 _ _ (by simp)]; exact World.frozen?_alloc_new _ _ _ _
    have p1 : w1.cell? ⟨w.heap.size, 1, none⟩ = some (.int .i64 0) := by rw [hc1 _ _ (by simp)]; simp [World.cell?_alloc_new]
    have f1 : w1.frozen? ⟨w.heap.size, 1, none⟩ = false := by rw [hf1 _ _ (by simp)]; exact World.frozen?_alloc_new _ _ _ _
    have p2 : w1.cell? ⟨w.heap.size, 2, none⟩ = some (.int .i64 0) := by rw [hc1 _ _ (by simp)]; simp [World.cell?_alloc_new]
    have f2 : w1.frozen? ⟨w.heap.size, 2, none⟩ = false := by rw [hf1 _ _ (by simp)]; exact World.frozen?_alloc_new _ _ _ _
    have p3 : w1.cell? ⟨w.heap.size, 3, none⟩ = some (.int .i64 0) := by rw [hc1 _ _ (by simp)]; simp [World.cell?_alloc_new]
    have f3 : w1.frozen? ⟨w.heap.size, 3, none⟩ = false := by rw [hf1 _ _ (by simp)]; exact World.frozen?_alloc_new _ _ _ _
    clear hc1 hf1
    obtain ⟨A1, c1, rfl⟩ := stl_len l1
    clear l1
    go_wp2
    exact bodyPost_ret (v := .tuple #[.agg #[.int .i64 0, .int .i64 0, .int .i64 0, .int .i64 0], .bool false]) (by simp [results, Tryd.results29, go_sem, p0, p1, p2, p3]) rfl ⟨rfl, (by repeat' (first | (with_reducible exact Below.refl _ _) | (with_reducible assumption) | (with_reducible refine Below.alloc ?_ ?_ _) | (with_reducible refine Below.drew ?_) | (with_reducible refine below_drewN ?_ _) | (with_reducible refine Below.setCell ?_ ?_ _) | go_size))⟩
  · have hn2 : (splGo 59 [] m).length ≠ 2 := by
      rcases hn with h | h
      · cases h
      · exact h
    clear hn
    simp only [Option.getD_some] at C HD
    generalize splGo 59 [] m = D at *
    have n1 : ((D.length : Int) != 2) = true := by rw [bne_iff_ne]; omega
    have n2 : ¬ (D.length : Int) = 2 := by omega
    go_enter Tryd.func29, Tryd.ntmps29
    go_wp2_with fail
    refine (C.out _).mono ?_
    rintro e w0 ⟨rfl, rfl⟩
    go_wp2_with fail
    refine (HD.out _).mono ?_
    rintro e w1 ⟨v1, rfl, l1, b1⟩
    obtain ⟨hc1, hf1⟩ := bcell b1
    have hz1 := b1.size
    (try simp only [World.size_alloc] at hz1)
    have hs1 : w.heap.size < w1.heap.size := by omega
    have bl1 : Below w.heap.size w w1 := Below.trans (by go_grown) (b1.mono (by go_size))
    have p0 : w1.cell? ⟨w.heap.size, 0, none⟩ = some (.int .i64 0) := by rw [hc1 _ _ (by simp)]; simp [World.cell?_alloc_new]
    have f0 : w1.frozen? ⟨w.heap.size, 0, none⟩ = false := by rw [hf1 _ _ (by simp)]; exact World.frozen?_alloc_new _ _ _ _
    have p1 : w1.cell? ⟨w.heap.size, 1, none⟩ = some (.int .i64 0) := by rw [hc1 _ _ (by simp)]; simp [World.cell?_alloc_new]
    have f1 : w1.frozen? ⟨w.heap.size, 1, none⟩ = false := by rw [hf1 _ _ (by simp)]; exact World.frozen?_alloc_new _ _ _ _
    have p2 : w1.cell? ⟨w.heap.size, 2, none⟩ = some (.int .i64 0) := by rw [hc1 _ _ (by simp)]; simp [World.cell?_alloc_new]
    have f2 : w1.frozen? ⟨w.heap.size, 2, none⟩ = false := by rw [hf1 _ _ (by simp)]; exact World.frozen?_alloc_new _ _ _ _
    have p3 : w1.cell? ⟨w.heap.size, 3, none⟩ = some (.int .i64 0) := by rw [hc1 _ _ (by simp)]; simp [World.cell?_alloc_new]
    have f3 : w1.frozen? ⟨w.heap.size, 3, none⟩ = false := by rw [hf1 _ _ (by simp)]; exact World.frozen?_alloc_new _ _ _ _
    clear hc1 hf1
    obtain ⟨A1, c1, rfl⟩ := stl_len l1
    clear l1
    go_wp2
    exact bodyPost_ret (v := .tuple #[.agg #[.int .i64 0, .int .i64 0, .int .i64 0, .int .i64 0], .bool false]) (by simp [results, Tryd.results29, go_sem, p0, p1, p2, p3]) rfl ⟨rfl, (by repeat' (first | (with_reducible exact Below.refl _ _) | (with_reducible assumption) | (with_reducible refine Below.alloc ?_ ?_ _) | (with_reducible refine Below.drew ?_) | (with_reducible refine below_drewN ?_ _) | (with_reducible refine Below.setCell ?_ ?_ _) | go_size))⟩

set_option maxHeartbeats 6400000 in
set_option maxRecDepth 100000 in
/-- in two rows, one of which is no row of two numbers -/
theorem foReadM_bad {s : ByteArray} {m r t : List UInt8} {A B : List Int} (w : World) (hs : s.size ≤ 1048576) (him : rdIn 91 93 s.data.toList = some m) (hsp : splGo 59 [] m = [r, t]) (hA : (rdInts 44 2 r).getD [] = A) (hB : (rdInts 44 2 t).getD [] = B) (hn : A.length ≠ 2 ∨ A.length = 2 ∧ B.length ≠ 2) :
    Calls Tryd.prog 29 #[.string s] w fun e w' => e = .returned (.tuple #[.agg #[.int .i64 0, .int .i64 0, .int .i64 0, .int .i64 0], .bool false]) ∧ Below w.heap.size w w' := by
  have hC := fun W => foInside_is (x := 91) (y := 93) (s := s) W hs him
  have e91 : (((91 : UInt8).toNat : Nat) : Int) = 91 := rfl
  have e93 : (((93 : UInt8).toNat : Nat) : Int) = 93 := rfl
  simp only [e91, e93] at hC
  have C := Lib.hid hC
  clear hC e91 e93
  have hz : m.length ≤ 1048576 := by
    have := rdIn_some.1 him
    have hl := sl_len s
    rw [this] at hl
    simp at hl
    omega
  have D := fun W => l1Split_any ⟨m.toArray⟩ 59 W (by simpa [ByteArray.size] using hz)
  have hpl := spl_len 59 m []
  have e59 : ((59 : UInt8).toNat : Int) = 59 := rfl
  simp only [e59, hsp] at D
  rw [hsp] at hpl
  have zr := hpl r (by simp)
  have zt := hpl t (by simp)
  simp only [List.length_nil, Nat.zero_add] at zr zt
  have HD := Lib.hid D
  have GA := fun W => foInts_any ⟨r.toArray⟩ 2 W (by simp [ByteArray.size]; omega) (by omega)
  have GB := fun W => foInts_any ⟨t.toArray⟩ 2 W (by simp [ByteArray.size]; omega) (by omega)
  have e2 : ((2 : Nat) : Int) = 2 := rfl
  simp only [e2, hA, hB] at GA GB
  have FA : Hid (∀ W, Calls Tryd.prog 35 #[bsV r, .int .u8 44, .int .i64 2] W fun e w' => ∃ v, e = .returned v ∧ Lst w' W.heap.size v A ∧ Below W.heap.size W w') := Lib.hid GA
  have FB : Hid (∀ W, Calls Tryd.prog 35 #[bsV t, .int .u8 44, .int .i64 2] W fun e w' => ∃ v, e = .returned v ∧ Lst w' W.heap.size v B ∧ Below W.heap.size W w') := Lib.hid GB
  clear D hz him hsp e59 hpl zr zt GA GB e2 hA hB
  rcases hn with hn | ⟨hn0, hn⟩
  · have n1 : ((A.length : Int) != 2) = true := by rw [bne_iff_ne]; omega
    have n2 : ¬ (A.length : Int) = 2 := by omega
    go_enter Tryd.func29, Tryd.ntmps29
    go_wp2_with fail
    refine (C.out _).mono ?_
    rintro e w0 ⟨rfl, rfl⟩
    go_wp2_with fail
    refine (HD.out _).mono ?_
    rintro e w1 ⟨v1, rfl, l1, b1⟩
    obtain ⟨hc1, hf1⟩ := bcell b1
    have hz1 := b1.size
    (try simp only [World.size_alloc] at hz1)
    have hs1 : w.heap.size < w1.heap.size := by omega
    have bl1 : Below w.heap.size w w1 := Below.trans (by go_grown) (b1.mono (by go_size))
    have p0 : w1.cell? ⟨w.heap.size, 0, none⟩ = some (.int .i64 0) := by rw [hc1 _ _ (by simp)]; simp [World.cell?_alloc_new]
    have f0 : w1.frozen? ⟨w.heap.size, 0, none⟩ = false := by rw [hf1 _ _ (by simp)]; exact World.frozen?_alloc_new _ _ _ _
    have p1 : w1.cell? ⟨w.heap.size, 1, none⟩ = some (.int .i64 0) := by rw [hc1 _ _ (by simp)]; simp [World.cell?_alloc_new]
    have f1 : w1.frozen? ⟨w.heap.size, 1, none⟩ = false := by rw [hf1 _ _ (by simp)]; exact World.frozen?_alloc_new _ _ _ _
    have p2 : w1.cell? ⟨w.heap.size, 2, none⟩ = some (.int .i64 0) := by rw [hc1 _ _ (by simp)]; simp [World.cell?_alloc_new]
    have f2 : w1.frozen? ⟨w.heap.size, 2, none⟩ = false := by rw [hf1 _ _ (by simp)]; exact World.frozen?_alloc_new _ _ _ _
    have p3 : w1.cell? ⟨w.heap.size, 3, none⟩ = some (.int .i64 0) := by rw [hc1 _ _ (by simp)]; simp [World.cell?_alloc_new]
    have f3 : w1.frozen? ⟨w.heap.size, 3, none⟩ = false := by rw [hf1 _ _ (by simp)]; exact World.frozen?_alloc_new _ _ _ _
    clear hc1 hf1
    obtain ⟨g, cap, rfl, g0, hg, q0, q1⟩ := stl_two l1
    clear l1
    go_wp2_with fail
    go_region_held3 (fun w' => (w'.cell? ⟨g, 0, none⟩ = some (bsV r) ∧ w'.cell? ⟨g, 1, none⟩ = some (bsV t)) ∧ Below w1.heap.size w1 w')
      (first | exact ⟨⟨q0, q1⟩, (Below.refl _ _).drew⟩ | (exact keep2 (by assumption) hg (by assumption)) | go_keep)
      (first | (go_at_call 35; with_reducible refine (FA.out _).mono ?_; rintro e wA ⟨vA, rfl, lA, bA⟩; obtain ⟨AA, cA, rfl, hA⟩ := lA.adr) | (go_at_call 35; with_reducible refine (FB.out _).mono ?_; rintro e wB ⟨vB, rfl, lB, bB⟩; obtain ⟨AB, cB, rfl, hB⟩ := lB.adr))
    all_goals
      rename_i hS9
      obtain ⟨hS8, hbf⟩ := hS9
      clear hS8
      obtain ⟨hcf, hff⟩ := bcell hbf
      have blf := bl1.trans (hbf.mono (Nat.le_of_lt hs1))
      replace p0 := (hcf _ 0 hs1).trans p0
      replace f0 := (hff _ 0 hs1).trans f0
      replace p1 := (hcf _ 1 hs1).trans p1
      replace f1 := (hff _ 1 hs1).trans f1
      replace p2 := (hcf _ 2 hs1).trans p2
      replace f2 := (hff _ 2 hs1).trans f2
      replace p3 := (hcf _ 3 hs1).trans p3
      replace f3 := (hff _ 3 hs1).trans f3
      clear hcf hff bl1
      clear hA hB lA lB bA bB
      go_wp2
      exact bodyPost_ret (v := .tuple #[.agg #[.int .i64 0, .int .i64 0, .int .i64 0, .int .i64 0], .bool false]) (by simp [results, Tryd.results29, go_sem, p0, p1, p2, p3]) rfl ⟨rfl, (by repeat' (first | (with_reducible exact Below.refl _ _) | (with_reducible assumption) | (with_reducible refine Below.alloc ?_ ?_ _) | (with_reducible refine Below.drew ?_) | (with_reducible refine below_drewN ?_ _) | (with_reducible refine Below.setCell ?_ ?_ _) | go_size))⟩
  · have n1 : ((B.length : Int) != 2) = true := by rw [bne_iff_ne]; omega
    have n2 : ¬ (B.length : Int) = 2 := by omega
    have n3 : (A.length : Int) = 2 := by omega
    go_enter Tryd.func29, Tryd.ntmps29
    go_wp2_with fail
    refine (C.out _).mono ?_
    rintro e w0 ⟨rfl, rfl⟩
    go_wp2_with fail
    refine (HD.out _).mono ?_
    rintro e w1 ⟨v1, rfl, l1, b1⟩
    obtain ⟨hc1, hf1⟩ := bcell b1
    have hz1 := b1.size
    (try simp only [World.size_alloc] at hz1)
    have hs1 : w.heap.size < w1.heap.size := by omega
    have bl1 : Below w.heap.size w w1 := Below.trans (by go_grown) (b1.mono (by go_size))
    have p0 : w1.cell? ⟨w.heap.size, 0, none⟩ = some (.int .i64 0) := by rw [hc1 _ _ (by simp)]; simp [World.cell?_alloc_new]
    have f0 : w1.frozen? ⟨w.heap.size, 0, none⟩ = false := by rw [hf1 _ _ (by simp)]; exact World.frozen?_alloc_new _ _ _ _
    have p1 : w1.cell? ⟨w.heap.size, 1, none⟩ = some (.int .i64 0) := by rw [hc1 _ _ (by simp)]; simp [World.cell?_alloc_new]
    have f1 : w1.frozen? ⟨w.heap.size, 1, none⟩ = false := by rw [hf1 _ _ (by simp)]; exact World.frozen?_alloc_new _ _ _ _
    have p2 : w1.cell? ⟨w.heap.size, 2, none⟩ = some (.int .i64 0) := by rw [hc1 _ _ (by simp)]; simp [World.cell?_alloc_new]
    have f2 : w1.frozen? ⟨w.heap.size, 2, none⟩ = false := by rw [hf1 _ _ (by simp)]; exact World.frozen?_alloc_new _ _ _ _
    have p3 : w1.cell? ⟨w.heap.size, 3, none⟩ = some (.int .i64 0) := by rw [hc1 _ _ (by simp)]; simp [World.cell?_alloc_new]
    have f3 : w1.frozen? ⟨w.heap.size, 3, none⟩ = false := by rw [hf1 _ _ (by simp)]; exact World.frozen?_alloc_new _ _ _ _
    clear hc1 hf1
    obtain ⟨g, cap, rfl, g0, hg, q0, q1⟩ := stl_two l1
    clear l1
    go_wp2_with fail
    go_region_held3 (fun w' => (w'.cell? ⟨g, 0, none⟩ = some (bsV r) ∧ w'.cell? ⟨g, 1, none⟩ = some (bsV t)) ∧ Below w1.heap.size w1 w')
      (first | exact ⟨⟨q0, q1⟩, (Below.refl _ _).drew⟩ | (exact keep2 (by assumption) hg (by assumption)) | go_keep)
      (first | (go_at_call 35; with_reducible refine (FA.out _).mono ?_; rintro e wA ⟨vA, rfl, lA, bA⟩; obtain ⟨AA, cA, rfl, hA⟩ := lA.adr) | (go_at_call 35; with_reducible refine (FB.out _).mono ?_; rintro e wB ⟨vB, rfl, lB, bB⟩; obtain ⟨AB, cB, rfl, hB⟩ := lB.adr))
    all_goals
      rename_i hS9
      obtain ⟨hS8, hbf⟩ := hS9
      clear hS8
      obtain ⟨hcf, hff⟩ := bcell hbf
      have blf := bl1.trans (hbf.mono (Nat.le_of_lt hs1))
      replace p0 := (hcf _ 0 hs1).trans p0
      replace f0 := (hff _ 0 hs1).trans f0
      replace p1 := (hcf _ 1 hs1).trans p1
      replace f1 := (hff _ 1 hs1).trans f1
      replace p2 := (hcf _ 2 hs1).trans p2
      replace f2 := (hff _ 2 hs1).trans f2
      replace p3 := (hcf _ 3 hs1).trans p3
      replace f3 := (hff _ 3 hs1).trans f3
      clear hcf hff bl1
      clear hA hB lA lB bA bB
      go_wp2
      exact bodyPost_ret (v := .tuple #[.agg #[.int .i64 0, .int .i64 0, .int .i64 0, .int .i64 0], .bool false]) (by simp [results, Tryd.results29, go_sem, p0, p1, p2, p3]) rfl ⟨rfl, (by repeat' (first | (with_reducible exact Below.refl _ _) | (with_reducible assumption) | (with_reducible refine Below.alloc ?_ ?_ _) | (with_reducible refine Below.drew ?_) | (with_reducible refine below_drewN ?_ _) | (with_reducible refine Below.setCell ?_ ?_ _) | go_size))⟩

set_option maxHeartbeats 6400000 in
set_option maxRecDepth 100000 in
/-- in two rows of two numbers -/
theorem foReadM_yes {s : ByteArray} {m r t : List UInt8} {a b c d : Int} (w : World) (hs : s.size ≤ 1048576) (him : rdIn 91 93 s.data.toList = some m) (hsp : splGo 59 [] m = [r, t]) (hA : (rdInts 44 2 r).getD [] = [a, b]) (hB : (rdInts 44 2 t).getD [] = [c, d]) :
    Calls Tryd.prog 29 #[.string s] w fun e w' => e = .returned (.tuple #[.agg #[.int .i64 a, .int .i64 b, .int .i64 c, .int .i64 d], .bool true]) ∧ Below w.heap.size w w' := by
  have hC := fun W => foInside_is (x := 91) (y := 93) (s := s) W hs him
  have e91 : (((91 : UInt8).toNat : Nat) : Int) = 91 := rfl
  have e93 : (((93 : UInt8).toNat : Nat) : Int) = 93 := rfl
  simp only [e91, e93] at hC
  have C := Lib.hid hC
  clear hC e91 e93
  have hz : m.length ≤ 1048576 := by
    have := rdIn_some.1 him
    have hl := sl_len s
    rw [this] at hl
    simp at hl
    omega
  have D := fun W => l1Split_any ⟨m.toArray⟩ 59 W (by simpa [ByteArray.size] using hz)
  have hpl := spl_len 59 m []
  have e59 : ((59 : UInt8).toNat : Int) = 59 := rfl
  simp only [e59, hsp] at D
  rw [hsp] at hpl
  have zr := hpl r (by simp)
  have zt := hpl t (by simp)
  simp only [List.length_nil, Nat.zero_add] at zr zt
  have HD := Lib.hid D
  have GA := fun W => foInts_any ⟨r.toArray⟩ 2 W (by simp [ByteArray.size]; omega) (by omega)
  have GB := fun W => foInts_any ⟨t.toArray⟩ 2 W (by simp [ByteArray.size]; omega) (by omega)
  have e2 : ((2 : Nat) : Int) = 2 := rfl
  simp only [e2, hA, hB] at GA GB
  have FA : Hid (∀ W, Calls Tryd.prog 35 #[bsV r, .int .u8 44, .int .i64 2] W fun e w' => ∃ v, e = .returned v ∧ Lst w' W.heap.size v [a, b] ∧ Below W.heap.size W w') := Lib.hid GA
  have FB : Hid (∀ W, Calls Tryd.prog 35 #[bsV t, .int .u8 44, .int .i64 2] W fun e w' => ∃ v, e = .returned v ∧ Lst w' W.heap.size v [c, d] ∧ Below W.heap.size W w') := Lib.hid GB
  clear D hz him hsp e59 hpl zr zt GA GB e2 hA hB
  go_enter Tryd.func29, Tryd.ntmps29
  go_wp2_with fail
  refine (C.out _).mono ?_
  rintro e w0 ⟨rfl, rfl⟩
  go_wp2_with fail
  refine (HD.out _).mono ?_
  rintro e w1 ⟨v1, rfl, l1, b1⟩
  obtain ⟨hc1, hf1⟩ := bcell b1
  have hz1 := b1.size
  (try simp only [World.size_alloc] at hz1)
  have hs1 : w.heap.size < w1.heap.size := by omega
  have bl1 : Below w.heap.size w w1 := Below.trans (by go_grown) (b1.mono (by go_size))
  have p0 : w1.cell? ⟨w.heap.size, 0, none⟩ = some (.int .i64 0) := by rw [hc1 _ _ (by simp)]; simp [World.cell?_alloc_new]
  have f0 : w1.frozen? ⟨w.heap.size, 0, none⟩ = false := by rw [hf1 _ _ (by simp)]; exact World.frozen?_alloc_new _ _ _ _
  have p1 : w1.cell? ⟨w.heap.size, 1, none⟩ = some (.int .i64 0) := by rw [hc1 _ _ (by simp)]; simp [World.cell?_alloc_new]
  have f1 : w1.frozen? ⟨w.heap.size, 1, none⟩ = false := by rw [hf1 _ _ (by simp)]; exact World.frozen?_alloc_new _ _ _ _
  have p2 : w1.cell? ⟨w.heap.size, 2, none⟩ = some (.int .i64 0) := by rw [hc1 _ _ (by simp)]; simp [World.cell?_alloc_new]
  have f2 : w1.frozen? ⟨w.heap.size, 2, none⟩ = false := by rw [hf1 _ _ (by simp)]; exact World.frozen?_alloc_new _ _ _ _
  have p3 : w1.cell? ⟨w.heap.size, 3, none⟩ = some (.int .i64 0) := by rw [hc1 _ _ (by simp)]; simp [World.cell?_alloc_new]
  have f3 : w1.frozen? ⟨w.heap.size, 3, none⟩ = false := by rw [hf1 _ _ (by simp)]; exact World.frozen?_alloc_new _ _ _ _
  clear hc1 hf1
  obtain ⟨g, cap, rfl, g0, hg, q0, q1⟩ := stl_two l1
  clear l1
  go_wp2_with fail
  go_region_held3 (fun w' => (w'.cell? ⟨g, 0, none⟩ = some (bsV r) ∧ w'.cell? ⟨g, 1, none⟩ = some (bsV t)) ∧ Below w1.heap.size w1 w')
    (first | exact ⟨⟨q0, q1⟩, (Below.refl _ _).drew⟩ | (exact keep2 (by assumption) hg (by assumption)) | go_keep)
    (first | (go_at_call 35; with_reducible refine (FA.out _).mono ?_; rintro e wA ⟨vA, rfl, lA, bA⟩; obtain ⟨AA, cA, rfl, hA⟩ := lA.adr) | (go_at_call 35; with_reducible refine (FB.out _).mono ?_; rintro e wB ⟨vB, rfl, lB, bB⟩; obtain ⟨AB, cB, rfl, hB⟩ := lB.adr))
  all_goals
    rename_i hS9
    obtain ⟨hS8, hbf⟩ := hS9
    clear hS8
    obtain ⟨hcf, hff⟩ := bcell hbf
    have blf := bl1.trans (hbf.mono (Nat.le_of_lt hs1))
    replace p0 := (hcf _ 0 hs1).trans p0
    replace f0 := (hff _ 0 hs1).trans f0
    replace p1 := (hcf _ 1 hs1).trans p1
    replace f1 := (hff _ 1 hs1).trans f1
    replace p2 := (hcf _ 2 hs1).trans p2
    replace f2 := (hff _ 2 hs1).trans f2
    replace p3 := (hcf _ 3 hs1).trans p3
    replace f3 := (hff _ 3 hs1).trans f3
    clear hcf hff bl1
    obtain ⟨gA, rfl, hA'⟩ := hA (by simp)
    obtain ⟨gB, rfl, hB'⟩ := hB (by simp)
    first
      | (have kA := lst_cells (lA.below (Nat.le_refl _) bB); have kB := lst_cells lB)
      | (have kB := lst_cells (lB.below (Nat.le_refl _) bA); have kA := lst_cells lA)
    have r0 := kA 0 (by simp)
    have r1 := kA 1 (by simp)
    have t0 := kB 0 (by simp)
    have t1 := kB 1 (by simp)
    simp only [List.getD_cons_zero, List.getD_cons_succ] at r0 r1 t0 t1
    clear kA kB hA' hB' hA hB lA lB bA bB
    go_wp2
    go_region
    all_goals
      go_wp2
      exact bodyPost_ret (v := .tuple #[.agg #[.int .i64 a, .int .i64 b, .int .i64 c, .int .i64 d], .bool true]) (by simp [results, Tryd.results29, go_sem, p0, p1, p2, p3]) rfl ⟨rfl, (by repeat' (first | (with_reducible exact Below.refl _ _) | (with_reducible assumption) | (with_reducible refine Below.alloc ?_ ?_ _) | (with_reducible refine Below.drew ?_) | (with_reducible refine below_drewN ?_ _) | (with_reducible refine Below.setCell ?_ ?_ _) | go_size))⟩
theorem foReadM_is {s : ByteArray} {o : Option (Int × Int × Int × Int)} (w : World) (hs : s.size ≤ 1048576) (ho : rdM s.data.toList = o) : Calls Tryd.prog 29 #[.string s] w fun e w' => e = .returned (.tuple #[o4 o, .bool o.isSome]) ∧ Below w.heap.size w w' := by
  have z4 : o4 none = .agg #[.int .i64 0, .int .i64 0, .int .i64 0, .int .i64 0] := rfl
  have hlen : ∀ l, rdInts 44 2 l = none ∨ ∃ x y, rdInts 44 2 l = some [x, y] := fun l => by
    rcases h : rdInts 44 2 l with _ | L
    · exact .inl rfl
    · obtain ⟨x, y, rfl⟩ := len2 (rdInts_len h)
      exact .inr ⟨x, y, rfl⟩
  unfold rdM at ho
  rcases him : rdIn 91 93 s.data.toList with _ | m
  · rw [him] at ho
    subst ho
    simp only [Option.map_none, z4]
    exact foReadM_no w hs him (.inl rfl)
  · rw [him] at ho
    simp only [Option.map_some] at ho
    by_cases hl : (splGo 59 [] m).length = 2
    · obtain ⟨r, t, hp⟩ := len2 hl
      rw [hp] at ho
      simp only at ho
      rcases hlen r with h1 | ⟨a, b, h1⟩
      · rw [h1] at ho
        simp only at ho
        subst ho
        simp only [z4]
        exact foReadM_bad w hs him hp (by rw [h1]; try rfl) rfl (.inl (by simp))
      · rcases hlen t with h2 | ⟨c, d, h2⟩
        · rw [h1, h2] at ho
          simp only at ho
          subst ho
          simp only [z4]
          exact foReadM_bad w hs him hp (by rw [h1]; try rfl) (by rw [h2]; try rfl) (.inr ⟨by simp, by simp⟩)
        · rw [h1, h2] at ho
          simp only at ho
          subst ho
          exact foReadM_yes w hs him hp (by rw [h1]; try rfl) (by rw [h2]; try rfl)
    · have : o = none := by
        rw [← ho]
        split
        · rename_i h; injection h with h; rw [h] at hl; simp at hl
        · rfl
      subst this
      rw [z4]
      exact foReadM_no w hs him (.inr hl)
set_option maxHeartbeats 800000 in
theorem specPaM_is {s : ByteArray} {o : Option (Int × Int × Int × Int)} (w : World) (hs : s.size ≤ 1048576) (ho : rdM s.data.toList = o) : Calls Tryd.prog 16 #[.string s] w fun e w' => e = .returned (.tuple #[o4 o, .bool o.isSome]) ∧ Below w.heap.size w w' := by
  have C := Lib.hid (fun W => foReadM_is (s := s) W hs ho)
  unfold o4 at C ⊢
  generalize (o.getD (0, 0, 0, 0)).1 = a at *
  generalize (o.getD (0, 0, 0, 0)).2.1 = b at *
  generalize (o.getD (0, 0, 0, 0)).2.2.1 = c at *
  generalize (o.getD (0, 0, 0, 0)).2.2.2 = d at *
  generalize o.isSome = v at *
  clear ho
  go_enter Tryd.func16, Tryd.ntmps16
  go_wp2_with fail
  ((with_reducible refine (C.out _).mono ?_); rintro e w1 ⟨rfl, hb1⟩)
  obtain ⟨hc1, hf1⟩ := bcell hb1
  have hz1 := hb1.size
  try simp only [World.size_alloc, World.size_drew, World.size_setCell] at hz1
  try have hs1 : w.heap.size < w1.heap.size := by omega
  have bl1 : Below w.heap.size w w1 := Below.trans (by go_grown) (hb1.mono (by go_size))
  go_wp2
  first
  | (exact bodyPost_ret (v := .tuple #[.agg #[.int .i64 a, .int .i64 b, .int .i64 c, .int .i64 d], .bool v]) (by simp [results, Tryd.results16, go_sem, hc1, hs1]) rfl ⟨rfl, (by repeat' (first | (with_reducible exact Below.refl _ _) | (with_reducible assumption) | (with_reducible refine Below.alloc ?_ ?_ _) | (with_reducible refine Below.drew ?_) | (with_reducible refine below_drewN ?_ _) | (with_reducible refine Below.setCell ?_ ?_ _) | go_size))⟩)
  | (go_ret2; exact ⟨rfl, (by repeat' (first | (with_reducible exact Below.refl _ _) | (with_reducible assumption) | (with_reducible refine Below.alloc ?_ ?_ _) | (with_reducible refine Below.drew ?_) | (with_reducible refine below_drewN ?_ _) | (with_reducible refine Below.setCell ?_ ?_ _) | go_size))⟩)
end Go.Proofs.YtpoipdjhelnibaaDoor
