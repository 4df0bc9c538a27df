/-
  Contracts of the functions on forms: definite forms, values, polar values, the opposite form.
-/
import Derived.Test.YtbhamnkhkbmidaaForm
import Derived.Deep.RegionHeld3
namespace Go.Proofs.Ytbhamnkhkbmidaa
open Go.RowKit
set_option linter.unusedSimpArgs false
set_option linter.unusedVariables false

theorem are4' (a b c d : Int) (g : Nat) (W : World) (h0 : W.cell? ⟨g, 0, none⟩ = some (.int .i64 a)) (h1 : W.cell? ⟨g, 1, none⟩ = some (.int .i64 b)) (h2 : W.cell? ⟨g, 2, none⟩ = some (.int .i64 c)) (h3 : W.cell? ⟨g, 3, none⟩ = some (.int .i64 d)) :
    Calls Try.prog 42 #[.slice (some ⟨g, 0, none⟩) 4 4] W fun e w' => e = .returned (.bool (good4 a b c d)) ∧ W = w' := are4 a b c d g W h0 h1 h2 h3

theorem specValue_any (a b c x y : Int) (w : World) : Calls Try.prog 29 #[.agg #[.int .i64 a, .int .i64 b, .int .i64 c], .int .i64 x, .int .i64 y] w fun e w' =>
    e = .returned (.tuple #[.int .i64 (oFor (good3 a b c && (good x && good y)) (valV a b c x y)), .bool (good3 a b c && (good x && good y))]) ∧ Below w.heap.size w w' := by
  rcases h0 : good3 a b c with _ | _
  · go_enter Try.func29, Try.ntmps29
    go_wp2_with fail
    ((with_reducible refine (foGood_any _ _ _ _).mono ?_); rintro e w1 ⟨rfl, hb1⟩)
    obtain ⟨hc1, hf1⟩ := bcell hb1
    have hz1 := hb1.size
    try simp only [World.size_alloc, World.size_drew, World.size_setCell] at hz1
    try have hs1 : w.heap.size < w1.heap.size := by omega
    have bl1 : Below w.heap.size w w1 := Below.trans (by go_grown) (hb1.mono (by go_size))
    go_wp2
    go_ret2
    exact ⟨rfl, bl1⟩
  · rcases h1 : good x with _ | _
    · go_enter Try.func29, Try.ntmps29
      go_wp2_with fail
      ((with_reducible refine (foGood_any _ _ _ _).mono ?_); rintro e w1 ⟨rfl, hb1⟩)
      obtain ⟨hc1, hf1⟩ := bcell hb1
      have hz1 := hb1.size
      try simp only [World.size_alloc, World.size_drew, World.size_setCell] at hz1
      try have hs1 : w.heap.size < w1.heap.size := by omega
      have bl1 : Below w.heap.size w w1 := Below.trans (by go_grown) (hb1.mono (by go_size))
      go_wp2_with fail
      ((with_reducible refine (nuGood_any _ _).mono ?_); rintro e w0 ⟨rfl, rfl⟩)
      go_wp2
      go_ret2
      exact ⟨rfl, bl1⟩
    · rcases h2 : good y with _ | _
      · go_enter Try.func29, Try.ntmps29
        go_wp2_with fail
        ((with_reducible refine (foGood_any _ _ _ _).mono ?_); rintro e w1 ⟨rfl, hb1⟩)
        obtain ⟨hc1, hf1⟩ := bcell hb1
        have hz1 := hb1.size
        try simp only [World.size_alloc, World.size_drew, World.size_setCell] at hz1
        try have hs1 : w.heap.size < w1.heap.size := by omega
        have bl1 : Below w.heap.size w w1 := Below.trans (by go_grown) (hb1.mono (by go_size))
        go_wp2_with fail
        ((with_reducible refine (nuGood_any _ _).mono ?_); rintro e w0 ⟨rfl, rfl⟩)
        go_wp2_with fail
        ((with_reducible refine (nuGood_any _ _).mono ?_); rintro e w0 ⟨rfl, rfl⟩)
        go_wp2
        go_ret2
        exact ⟨rfl, bl1⟩
      · go_enter Try.func29, Try.ntmps29
        go_wp2_with fail
        ((with_reducible refine (foGood_any _ _ _ _).mono ?_); rintro e w1 ⟨rfl, hb1⟩)
        obtain ⟨hc1, hf1⟩ := bcell hb1
        have hz1 := hb1.size
        try simp only [World.size_alloc, World.size_drew, World.size_setCell] at hz1
        try have hs1 : w.heap.size < w1.heap.size := by omega
        have bl1 : Below w.heap.size w w1 := Below.trans (by go_grown) (hb1.mono (by go_size))
        go_wp2_with fail
        ((with_reducible refine (nuGood_any _ _).mono ?_); rintro e w0 ⟨rfl, rfl⟩)
        go_wp2_with fail
        ((with_reducible refine (nuGood_any _ _).mono ?_); rintro e w0 ⟨rfl, rfl⟩)
        go_wp2_with fail
        ((with_reducible refine (foValue_any _ _ _ _ _ _).mono ?_); rintro e w2 ⟨rfl, hb2⟩)
        obtain ⟨hc2, hf2⟩ := bcell hb2
        have hz2 := hb2.size
        try simp only [World.size_alloc, World.size_drew, World.size_setCell] at hz2
        try have hs2 : w.heap.size < w2.heap.size := by omega
        have bl2 : Below w.heap.size w w2 := Below.trans (by go_grown) (hb2.mono (by go_size))
        go_wp2
        go_ret2
        exact ⟨rfl, bl2⟩

theorem implValue_any (a b c x y : Int) (w : World) : Calls Try.prog 30 #[.agg #[.int .i64 a, .int .i64 b, .int .i64 c], .int .i64 x, .int .i64 y] w fun e w' =>
    e = .returned (.tuple #[.int .i64 (oFor (good3 a b c && (good x && good y)) (valV a b c x y)), .bool (good3 a b c && (good x && good y))]) ∧ Below w.heap.size w w' := by
  rcases h0 : good3 a b c with _ | _
  · go_enter Try.func30, Try.ntmps30
    go_wp2_with fail
    ((with_reducible refine (isForm_any _ _ _ _).mono ?_); rintro e w1 ⟨rfl, hb1⟩)
    obtain ⟨hc1, hf1⟩ := bcell hb1
    have hz1 := hb1.size
    try simp only [World.size_alloc, World.size_drew, World.size_setCell] at hz1
    try have hs1 : w.heap.size < w1.heap.size := by omega
    have bl1 : Below w.heap.size w w1 := Below.trans (by go_grown) (hb1.mono (by go_size))
    go_wp2
    go_ret2
    exact ⟨rfl, bl1⟩
  · rcases hx : good x with _ | _ <;> rcases hy : good y with _ | _
    all_goals
      go_enter Try.func30, Try.ntmps30
      go_wp2_with fail
      ((with_reducible refine (isForm_any _ _ _ _).mono ?_); rintro e w1 ⟨rfl, hb1⟩)
      obtain ⟨hc1, hf1⟩ := bcell hb1
      have hz1 := hb1.size
      try simp only [World.size_alloc, World.size_drew, World.size_setCell] at hz1
      try have hs1 : w.heap.size < w1.heap.size := by omega
      have bl1 : Below w.heap.size w w1 := Below.trans (by go_grown) (hb1.mono (by go_size))
      go_wp2_with fail
      ((with_reducible refine (are2 x y _ _ (by simp) (by simp)).mono ?_); rintro e w0 ⟨rfl, rfl⟩)
    · go_wp2
      go_ret2
      exact ⟨rfl, bl1.trans (by go_grown)⟩
    · go_wp2
      go_ret2
      exact ⟨rfl, bl1.trans (by go_grown)⟩
    · go_wp2
      go_ret2
      exact ⟨rfl, bl1.trans (by go_grown)⟩
    · skip
      go_wp2_with fail
      ((with_reducible refine (at_any _ _ _ _ _ _).mono ?_); rintro e w2 ⟨rfl, hb2⟩)
      obtain ⟨hc2, hf2⟩ := bcell hb2
      have hz2 := hb2.size
      try simp only [World.size_alloc, World.size_drew, World.size_setCell] at hz2
      try have hs2 : w.heap.size < w2.heap.size := by omega
      have bl2 : Below w.heap.size w w2 := Below.trans (by go_grown) (hb2.mono (by go_size))
      go_wp2
      go_ret2
      exact ⟨rfl, bl2⟩

theorem specPolar_any (a b c x y u v : Int) (w : World) : Calls Try.prog 27 #[.agg #[.int .i64 a, .int .i64 b, .int .i64 c], .int .i64 x, .int .i64 y, .int .i64 u, .int .i64 v] w fun e w' =>
    e = .returned (.tuple #[.int .i64 (oFor (good3 a b c && good4 x y u v) (polV a b c x y u v)), .bool (good3 a b c && good4 x y u v)]) ∧ Below w.heap.size w w' := by
  unfold good4
  rcases h0 : good3 a b c with _ | _
  · go_enter Try.func27, Try.ntmps27
    go_wp2_with fail
    ((with_reducible refine (foGood_any _ _ _ _).mono ?_); rintro e w1 ⟨rfl, hb1⟩)
    obtain ⟨hc1, hf1⟩ := bcell hb1
    have hz1 := hb1.size
    try simp only [World.size_alloc, World.size_drew, World.size_setCell] at hz1
    try have hs1 : w.heap.size < w1.heap.size := by omega
    have bl1 : Below w.heap.size w w1 := Below.trans (by go_grown) (hb1.mono (by go_size))
    go_wp2
    go_ret2
    exact ⟨rfl, bl1⟩
  · rcases h1 : good x with _ | _
    · go_enter Try.func27, Try.ntmps27
      go_wp2_with fail
      ((with_reducible refine (foGood_any _ _ _ _).mono ?_); rintro e w1 ⟨rfl, hb1⟩)
      obtain ⟨hc1, hf1⟩ := bcell hb1
      have hz1 := hb1.size
      try simp only [World.size_alloc, World.size_drew, World.size_setCell] at hz1
      try have hs1 : w.heap.size < w1.heap.size := by omega
      have bl1 : Below w.heap.size w w1 := Below.trans (by go_grown) (hb1.mono (by go_size))
      go_wp2_with fail
      ((with_reducible refine (nuGood_any _ _).mono ?_); rintro e w0 ⟨rfl, rfl⟩)
      go_wp2
      go_ret2
      exact ⟨rfl, bl1⟩
    · rcases h2 : good y with _ | _
      · go_enter Try.func27, Try.ntmps27
        go_wp2_with fail
        ((with_reducible refine (foGood_any _ _ _ _).mono ?_); rintro e w1 ⟨rfl, hb1⟩)
        obtain ⟨hc1, hf1⟩ := bcell hb1
        have hz1 := hb1.size
        try simp only [World.size_alloc, World.size_drew, World.size_setCell] at hz1
        try have hs1 : w.heap.size < w1.heap.size := by omega
        have bl1 : Below w.heap.size w w1 := Below.trans (by go_grown) (hb1.mono (by go_size))
        go_wp2_with fail
        ((with_reducible refine (nuGood_any _ _).mono ?_); rintro e w0 ⟨rfl, rfl⟩)
        go_wp2_with fail
        ((with_reducible refine (nuGood_any _ _).mono ?_); rintro e w0 ⟨rfl, rfl⟩)
        go_wp2
        go_ret2
        exact ⟨rfl, bl1⟩
      · rcases h3 : good u with _ | _
        · go_enter Try.func27, Try.ntmps27
          go_wp2_with fail
          ((with_reducible refine (foGood_any _ _ _ _).mono ?_); rintro e w1 ⟨rfl, hb1⟩)
          obtain ⟨hc1, hf1⟩ := bcell hb1
          have hz1 := hb1.size
          try simp only [World.size_alloc, World.size_drew, World.size_setCell] at hz1
          try have hs1 : w.heap.size < w1.heap.size := by omega
          have bl1 : Below w.heap.size w w1 := Below.trans (by go_grown) (hb1.mono (by go_size))
          go_wp2_with fail
          ((with_reducible refine (nuGood_any _ _).mono ?_); rintro e w0 ⟨rfl, rfl⟩)
          go_wp2_with fail
          ((with_reducible refine (nuGood_any _ _).mono ?_); rintro e w0 ⟨rfl, rfl⟩)
          go_wp2_with fail
          ((with_reducible refine (nuGood_any _ _).mono ?_); rintro e w0 ⟨rfl, rfl⟩)
          go_wp2
          go_ret2
          exact ⟨rfl, bl1⟩
        · rcases h4 : good v with _ | _
          · go_enter Try.func27, Try.ntmps27
            go_wp2_with fail
            ((with_reducible refine (foGood_any _ _ _ _).mono ?_); rintro e w1 ⟨rfl, hb1⟩)
            obtain ⟨hc1, hf1⟩ := bcell hb1
            have hz1 := hb1.size
            try simp only [World.size_alloc, World.size_drew, World.size_setCell] at hz1
            try have hs1 : w.heap.size < w1.heap.size := by omega
            have bl1 : Below w.heap.size w w1 := Below.trans (by go_grown) (hb1.mono (by go_size))
            go_wp2_with fail
            ((with_reducible refine (nuGood_any _ _).mono ?_); rintro e w0 ⟨rfl, rfl⟩)
            go_wp2_with fail
            ((with_reducible refine (nuGood_any _ _).mono ?_); rintro e w0 ⟨rfl, rfl⟩)
            go_wp2_with fail
            ((with_reducible refine (nuGood_any _ _).mono ?_); rintro e w0 ⟨rfl, rfl⟩)
            go_wp2_with fail
            ((with_reducible refine (nuGood_any _ _).mono ?_); rintro e w0 ⟨rfl, rfl⟩)
            go_wp2
            go_ret2
            exact ⟨rfl, bl1⟩
          · go_enter Try.func27, Try.ntmps27
            go_wp2_with fail
            ((with_reducible refine (foGood_any _ _ _ _).mono ?_); rintro e w1 ⟨rfl, hb1⟩)
            obtain ⟨hc1, hf1⟩ := bcell hb1
            have hz1 := hb1.size
            try simp only [World.size_alloc, World.size_drew, World.size_setCell] at hz1
            try have hs1 : w.heap.size < w1.heap.size := by omega
            have bl1 : Below w.heap.size w w1 := Below.trans (by go_grown) (hb1.mono (by go_size))
            go_wp2_with fail
            ((with_reducible refine (nuGood_any _ _).mono ?_); rintro e w0 ⟨rfl, rfl⟩)
            go_wp2_with fail
            ((with_reducible refine (nuGood_any _ _).mono ?_); rintro e w0 ⟨rfl, rfl⟩)
            go_wp2_with fail
            ((with_reducible refine (nuGood_any _ _).mono ?_); rintro e w0 ⟨rfl, rfl⟩)
            go_wp2_with fail
            ((with_reducible refine (nuGood_any _ _).mono ?_); rintro e w0 ⟨rfl, rfl⟩)
            go_wp2_with fail
            ((with_reducible refine (foPolar_any _ _ _ _ _ _ _ _).mono ?_); rintro e w2 ⟨rfl, hb2⟩)
            obtain ⟨hc2, hf2⟩ := bcell hb2
            have hz2 := hb2.size
            try simp only [World.size_alloc, World.size_drew, World.size_setCell] at hz2
            try have hs2 : w.heap.size < w2.heap.size := by omega
            have bl2 : Below w.heap.size w w2 := Below.trans (by go_grown) (hb2.mono (by go_size))
            go_wp2
            go_ret2
            exact ⟨rfl, bl2⟩

theorem implPolar_any (a b c x y u v : Int) (w : World) : Calls Try.prog 28 #[.agg #[.int .i64 a, .int .i64 b, .int .i64 c], .int .i64 x, .int .i64 y, .int .i64 u, .int .i64 v] w fun e w' =>
    e = .returned (.tuple #[.int .i64 (oFor (good3 a b c && good4 x y u v) (polV a b c x y u v)), .bool (good3 a b c && good4 x y u v)]) ∧ Below w.heap.size w w' := by
  rcases h0 : good3 a b c with _ | _
  · go_enter Try.func28, Try.ntmps28
    go_wp2_with fail
    ((with_reducible refine (isForm_any _ _ _ _).mono ?_); rintro e w1 ⟨rfl, hb1⟩)
    obtain ⟨hc1, hf1⟩ := bcell hb1
    have hz1 := hb1.size
    try simp only [World.size_alloc, World.size_drew, World.size_setCell] at hz1
    try have hs1 : w.heap.size < w1.heap.size := by omega
    have bl1 : Below w.heap.size w w1 := Below.trans (by go_grown) (hb1.mono (by go_size))
    go_wp2
    go_ret2
    exact ⟨rfl, bl1⟩
  · rcases h4 : good4 x y u v with _ | _
    · go_enter Try.func28, Try.ntmps28
      go_wp2_with fail
      ((with_reducible refine (isForm_any _ _ _ _).mono ?_); rintro e w1 ⟨rfl, hb1⟩)
      obtain ⟨hc1, hf1⟩ := bcell hb1
      have hz1 := hb1.size
      try simp only [World.size_alloc, World.size_drew, World.size_setCell] at hz1
      try have hs1 : w.heap.size < w1.heap.size := by omega
      have bl1 : Below w.heap.size w w1 := Below.trans (by go_grown) (hb1.mono (by go_size))
      go_wp2_with fail
      ((with_reducible refine (are4' x y u v _ _ (by simp) (by simp) (by simp) (by simp)).mono ?_); rintro e w0 ⟨rfl, rfl⟩)
      go_wp2
      go_ret2
      exact ⟨rfl, bl1.trans (by go_grown)⟩
    · go_enter Try.func28, Try.ntmps28
      go_wp2_with fail
      ((with_reducible refine (isForm_any _ _ _ _).mono ?_); rintro e w1 ⟨rfl, hb1⟩)
      obtain ⟨hc1, hf1⟩ := bcell hb1
      have hz1 := hb1.size
      try simp only [World.size_alloc, World.size_drew, World.size_setCell] at hz1
      try have hs1 : w.heap.size < w1.heap.size := by omega
      have bl1 : Below w.heap.size w w1 := Below.trans (by go_grown) (hb1.mono (by go_size))
      go_wp2_with fail
      ((with_reducible refine (are4' x y u v _ _ (by simp) (by simp) (by simp) (by simp)).mono ?_); rintro e w0 ⟨rfl, rfl⟩)
      go_wp2_with fail
      ((with_reducible refine (polar_any _ _ _ _ _ _ _ _).mono ?_); rintro e w2 ⟨rfl, hb2⟩)
      obtain ⟨hc2, hf2⟩ := bcell hb2
      have hz2 := hb2.size
      try simp only [World.size_alloc, World.size_drew, World.size_setCell] at hz2
      try have hs2 : w.heap.size < w2.heap.size := by omega
      have bl2 : Below w.heap.size w w2 := Below.trans (by go_grown) (hb2.mono (by go_size))
      go_wp2
      go_ret2
      exact ⟨rfl, bl2⟩

def defV (a b c : Int) : Bool := good3 a b c && (decide (discV a b c < 0) && decide (0 < a))
theorem defV_bad {a b c : Int} (h : good3 a b c = false) : defV a b c = false := by simp [defV, h]

theorem foDefinite_any (a b c : Int) (w : World) : Calls Try.prog 45 #[.agg #[.int .i64 a, .int .i64 b, .int .i64 c]] w fun e w' =>
    e = .returned (.bool (defV a b c)) ∧ Below w.heap.size w w' := by
  rcases h0 : good3 a b c with _ | _
  · have hd := defV_bad h0
    go_enter Try.func45, Try.ntmps45
    go_wp2_with fail
    ((with_reducible refine (foGood_any _ _ _ _).mono ?_); rintro e w1 ⟨rfl, hb1⟩)
    obtain ⟨hc1, hf1⟩ := bcell hb1
    have hz1 := hb1.size
    try simp only [World.size_alloc, World.size_drew, World.size_setCell] at hz1
    try have hs1 : w.heap.size < w1.heap.size := by omega
    have bl1 : Below w.heap.size w w1 := Below.trans (by go_grown) (hb1.mono (by go_size))
    go_wp2
    go_ret
    first | exact ⟨rfl, bl1⟩ | exact ⟨by rw [hd]; rfl, bl1⟩
  · by_cases h1 : discV a b c < 0
    · by_cases h2 : 0 < a
      · have hd : defV a b c = true := by simp [defV, h0, h1, h2]
        go_enter Try.func45, Try.ntmps45
        go_wp2_with fail
        ((with_reducible refine (foGood_any _ _ _ _).mono ?_); rintro e w1 ⟨rfl, hb1⟩)
        obtain ⟨hc1, hf1⟩ := bcell hb1
        have hz1 := hb1.size
        try simp only [World.size_alloc, World.size_drew, World.size_setCell] at hz1
        try have hs1 : w.heap.size < w1.heap.size := by omega
        have bl1 : Below w.heap.size w w1 := Below.trans (by go_grown) (hb1.mono (by go_size))
        go_wp2_with fail
        ((with_reducible refine (foDisc_any _ _ _ _).mono ?_); rintro e w2 ⟨rfl, hb2⟩)
        obtain ⟨hc2, hf2⟩ := bcell hb2
        have hz2 := hb2.size
        try simp only [World.size_alloc, World.size_drew, World.size_setCell] at hz2
        try have hs2 : w.heap.size < w2.heap.size := by omega
        have bl2 : Below w.heap.size w w2 := Below.trans (by go_grown) (hb2.mono (by go_size))
        go_wp2
        go_ret
        first | exact ⟨rfl, bl2⟩ | exact ⟨by rw [hd]; rfl, bl2⟩
      · have hd : defV a b c = false := by simp [defV, h2]
        have hdd : decide (0 < a) = false := by simp; omega
        go_enter Try.func45, Try.ntmps45
        go_wp2_with fail
        ((with_reducible refine (foGood_any _ _ _ _).mono ?_); rintro e w1 ⟨rfl, hb1⟩)
        obtain ⟨hc1, hf1⟩ := bcell hb1
        have hz1 := hb1.size
        try simp only [World.size_alloc, World.size_drew, World.size_setCell] at hz1
        try have hs1 : w.heap.size < w1.heap.size := by omega
        have bl1 : Below w.heap.size w w1 := Below.trans (by go_grown) (hb1.mono (by go_size))
        go_wp2_with fail
        ((with_reducible refine (foDisc_any _ _ _ _).mono ?_); rintro e w2 ⟨rfl, hb2⟩)
        obtain ⟨hc2, hf2⟩ := bcell hb2
        have hz2 := hb2.size
        try simp only [World.size_alloc, World.size_drew, World.size_setCell] at hz2
        try have hs2 : w.heap.size < w2.heap.size := by omega
        have bl2 : Below w.heap.size w w2 := Below.trans (by go_grown) (hb2.mono (by go_size))
        go_wp2
        go_ret
        first | exact ⟨rfl, bl2⟩ | exact ⟨by rw [hd]; rfl, bl2⟩
    · have hd : defV a b c = false := by simp [defV, h1]
      go_enter Try.func45, Try.ntmps45
      go_wp2_with fail
      ((with_reducible refine (foGood_any _ _ _ _).mono ?_); rintro e w1 ⟨rfl, hb1⟩)
      obtain ⟨hc1, hf1⟩ := bcell hb1
      have hz1 := hb1.size
      try simp only [World.size_alloc, World.size_drew, World.size_setCell] at hz1
      try have hs1 : w.heap.size < w1.heap.size := by omega
      have bl1 : Below w.heap.size w w1 := Below.trans (by go_grown) (hb1.mono (by go_size))
      go_wp2_with fail
      ((with_reducible refine (foDisc_any _ _ _ _).mono ?_); rintro e w2 ⟨rfl, hb2⟩)
      obtain ⟨hc2, hf2⟩ := bcell hb2
      have hz2 := hb2.size
      try simp only [World.size_alloc, World.size_drew, World.size_setCell] at hz2
      try have hs2 : w.heap.size < w2.heap.size := by omega
      have bl2 : Below w.heap.size w w2 := Below.trans (by go_grown) (hb2.mono (by go_size))
      go_wp2
      go_ret
      first | exact ⟨rfl, bl2⟩ | exact ⟨by rw [hd]; rfl, bl2⟩

theorem isDefinite_any (a b c : Int) (w : World) : Calls Try.prog 46 #[.agg #[.int .i64 a, .int .i64 b, .int .i64 c]] w fun e w' =>
    e = .returned (.bool (defV a b c)) ∧ Below w.heap.size w w' := by
  rcases h0 : good3 a b c with _ | _
  · have hd := defV_bad h0
    go_enter Try.func46, Try.ntmps46
    go_wp2_with fail
    ((with_reducible refine (isForm_any _ _ _ _).mono ?_); rintro e w1 ⟨rfl, hb1⟩)
    obtain ⟨hc1, hf1⟩ := bcell hb1
    have hz1 := hb1.size
    try simp only [World.size_alloc, World.size_drew, World.size_setCell] at hz1
    try have hs1 : w.heap.size < w1.heap.size := by omega
    have bl1 : Below w.heap.size w w1 := Below.trans (by go_grown) (hb1.mono (by go_size))
    go_wp2
    go_ret
    first | exact ⟨rfl, bl1⟩ | exact ⟨by rw [hd]; rfl, bl1⟩
  · by_cases h1 : discV a b c < 0
    · by_cases h2 : 0 < a
      · have hd : defV a b c = true := by simp [defV, h0, h1, h2]
        go_enter Try.func46, Try.ntmps46
        go_wp2_with fail
        ((with_reducible refine (isForm_any _ _ _ _).mono ?_); rintro e w1 ⟨rfl, hb1⟩)
        obtain ⟨hc1, hf1⟩ := bcell hb1
        have hz1 := hb1.size
        try simp only [World.size_alloc, World.size_drew, World.size_setCell] at hz1
        try have hs1 : w.heap.size < w1.heap.size := by omega
        have bl1 : Below w.heap.size w w1 := Below.trans (by go_grown) (hb1.mono (by go_size))
        go_wp2_with fail
        ((with_reducible refine (disc_any _ _ _ _).mono ?_); rintro e w2 ⟨rfl, hb2⟩)
        obtain ⟨hc2, hf2⟩ := bcell hb2
        have hz2 := hb2.size
        try simp only [World.size_alloc, World.size_drew, World.size_setCell] at hz2
        try have hs2 : w.heap.size < w2.heap.size := by omega
        have bl2 : Below w.heap.size w w2 := Below.trans (by go_grown) (hb2.mono (by go_size))
        go_wp2
        go_ret
        first | exact ⟨rfl, bl2⟩ | exact ⟨by rw [hd]; rfl, bl2⟩
      · have hd : defV a b c = false := by simp [defV, h2]
        have hdd : decide (0 < a) = false := by simp; omega
        go_enter Try.func46, Try.ntmps46
        go_wp2_with fail
        ((with_reducible refine (isForm_any _ _ _ _).mono ?_); rintro e w1 ⟨rfl, hb1⟩)
        obtain ⟨hc1, hf1⟩ := bcell hb1
        have hz1 := hb1.size
        try simp only [World.size_alloc, World.size_drew, World.size_setCell] at hz1
        try have hs1 : w.heap.size < w1.heap.size := by omega
        have bl1 : Below w.heap.size w w1 := Below.trans (by go_grown) (hb1.mono (by go_size))
        go_wp2_with fail
        ((with_reducible refine (disc_any _ _ _ _).mono ?_); rintro e w2 ⟨rfl, hb2⟩)
        obtain ⟨hc2, hf2⟩ := bcell hb2
        have hz2 := hb2.size
        try simp only [World.size_alloc, World.size_drew, World.size_setCell] at hz2
        try have hs2 : w.heap.size < w2.heap.size := by omega
        have bl2 : Below w.heap.size w w2 := Below.trans (by go_grown) (hb2.mono (by go_size))
        go_wp2
        go_ret
        first | exact ⟨rfl, bl2⟩ | exact ⟨by rw [hd]; rfl, bl2⟩
    · have hd : defV a b c = false := by simp [defV, h1]
      go_enter Try.func46, Try.ntmps46
      go_wp2_with fail
      ((with_reducible refine (isForm_any _ _ _ _).mono ?_); rintro e w1 ⟨rfl, hb1⟩)
      obtain ⟨hc1, hf1⟩ := bcell hb1
      have hz1 := hb1.size
      try simp only [World.size_alloc, World.size_drew, World.size_setCell] at hz1
      try have hs1 : w.heap.size < w1.heap.size := by omega
      have bl1 : Below w.heap.size w w1 := Below.trans (by go_grown) (hb1.mono (by go_size))
      go_wp2_with fail
      ((with_reducible refine (disc_any _ _ _ _).mono ?_); rintro e w2 ⟨rfl, hb2⟩)
      obtain ⟨hc2, hf2⟩ := bcell hb2
      have hz2 := hb2.size
      try simp only [World.size_alloc, World.size_drew, World.size_setCell] at hz2
      try have hs2 : w.heap.size < w2.heap.size := by omega
      have bl2 : Below w.heap.size w w2 := Below.trans (by go_grown) (hb2.mono (by go_size))
      go_wp2
      go_ret
      first | exact ⟨rfl, bl2⟩ | exact ⟨by rw [hd]; rfl, bl2⟩

theorem specDefinite_any (a b c : Int) (w : World) : Calls Try.prog 23 #[.agg #[.int .i64 a, .int .i64 b, .int .i64 c]] w fun e w' =>
    e = .returned (.tuple #[.bool (defV a b c), .bool (good3 a b c)]) ∧ Below w.heap.size w w' := by
  rcases h0 : good3 a b c with _ | _
  · have h1 := defV_bad h0
    go_enter Try.func23, Try.ntmps23
    go_wp2_with fail
    ((with_reducible refine (foGood_any _ _ _ _).mono ?_); rintro e w1 ⟨rfl, hb1⟩)
    obtain ⟨hc1, hf1⟩ := bcell hb1
    have hz1 := hb1.size
    try simp only [World.size_alloc, World.size_drew, World.size_setCell] at hz1
    try have hs1 : w.heap.size < w1.heap.size := by omega
    have bl1 : Below w.heap.size w w1 := Below.trans (by go_grown) (hb1.mono (by go_size))
    go_wp2
    go_ret2
    exact ⟨by simp [h1], bl1⟩
  · go_enter Try.func23, Try.ntmps23
    go_wp2_with fail
    ((with_reducible refine (foGood_any _ _ _ _).mono ?_); rintro e w1 ⟨rfl, hb1⟩)
    obtain ⟨hc1, hf1⟩ := bcell hb1
    have hz1 := hb1.size
    try simp only [World.size_alloc, World.size_drew, World.size_setCell] at hz1
    try have hs1 : w.heap.size < w1.heap.size := by omega
    have bl1 : Below w.heap.size w w1 := Below.trans (by go_grown) (hb1.mono (by go_size))
    go_wp2_with fail
    ((with_reducible refine (foDefinite_any _ _ _ _).mono ?_); rintro e w2 ⟨rfl, hb2⟩)
    obtain ⟨hc2, hf2⟩ := bcell hb2
    have hz2 := hb2.size
    try simp only [World.size_alloc, World.size_drew, World.size_setCell] at hz2
    try have hs2 : w.heap.size < w2.heap.size := by omega
    have bl2 : Below w.heap.size w w2 := Below.trans (by go_grown) (hb2.mono (by go_size))
    go_wp2
    go_ret2
    exact ⟨rfl, bl2⟩

theorem implDefinite_any (a b c : Int) (w : World) : Calls Try.prog 24 #[.agg #[.int .i64 a, .int .i64 b, .int .i64 c]] w fun e w' =>
    e = .returned (.tuple #[.bool (defV a b c), .bool (good3 a b c)]) ∧ Below w.heap.size w w' := by
  go_enter Try.func24, Try.ntmps24
  go_wp2_with fail
  go_region_held3 (fun w' => w'.cell? ⟨w.heap.size, 0, none⟩ = some (.int .i64 a) ∧ w'.cell? ⟨w.heap.size, 1, none⟩ = some (.int .i64 b) ∧ w'.cell? ⟨w.heap.size, 2, none⟩ = some (.int .i64 c)) (go_keep)
    (first
      | (go_at_call 46; refine (isDefinite_any _ _ _ _).mono ?_; rintro e w1 ⟨rfl, hb1⟩; obtain ⟨hc1, hf1⟩ := bcell hb1; have hz1 := hb1.size; simp only [World.size_alloc, World.size_drew] at hz1; have hs1 : w.heap.size < w1.heap.size := by omega)
      | (go_at_call 19; refine (isForm_any _ _ _ _).mono ?_; rintro e w2 ⟨rfl, hb2⟩; obtain ⟨hc2, hf2⟩ := bcell hb2; have hz2 := hb2.size; have hs2 : w.heap.size < w2.heap.size := by omega))
  have bl1 : Below w.heap.size w w1 := Below.trans (by go_grown) (hb1.mono (by go_size))
  have bl2 : Below w.heap.size w w2 := Below.trans (by go_grown) (hb2.mono (by go_size))
  go_wp2
  go_ret2
  exact ⟨rfl, bl2⟩
end Go.Proofs.Ytbhamnkhkbmidaa
