/-
  Plain law: modulo an odd prime p the symbol J is the character of Euler, so it is -1 somewhere in 2..p-1. No program in sight.
-/
import Derived.Test.YtfpedehpmgcmnaaJac
namespace Go.Proofs.Ytfpedehpmgcmnaa
namespace Jac

def Pr (p : Nat) : Prop := 2 ≤ p ∧ ∀ d, 2 ≤ d → d < p → ¬ d ∣ p

theorem Pr.gcd {p : Nat} (hp : Pr p) {x : Nat} (h1 : 1 ≤ x) (h2 : x < p) : Int.gcd (x : Int) (p : Int) = 1 := by
  show Nat.gcd x p = 1
  have ha := Nat.gcd_dvd_right x p
  have hb := Nat.gcd_dvd_left x p
  have hle := Nat.le_of_dvd (by omega) hb
  have hpos : 0 < Nat.gcd x p := Nat.gcd_pos_of_pos_left _ (by omega)
  rcases Nat.lt_or_ge (Nat.gcd x p) 2 with h | h
  · omega
  · exact absurd ha (hp.2 _ h (by omega))

/-- What the program's loop shows: no divisor up to the root. -/
theorem Pr.of_root {p : Nat} (h2 : 2 ≤ p) (H : ∀ d, 2 ≤ d → d * d ≤ p → p % d ≠ 0) : Pr p := by
  refine ⟨h2, fun d d2 dp hd => ?_⟩
  obtain ⟨e, he⟩ := hd
  have e2 : 2 ≤ e := by
    rcases Nat.lt_or_ge e 2 with h | h
    · have : e = 0 ∨ e = 1 := by omega
      rcases this with rfl | rfl <;> simp at he <;> omega
    · exact h
  rcases Nat.le_total d e with h | h
  · exact H d d2 (by rw [he]; exact Nat.mul_le_mul_left d h) (by rw [he]; simp)
  · exact H e e2 (by rw [he]; exact Nat.mul_le_mul_right e h) (by rw [he]; simp)
theorem Pr.root {p : Nat} (hp : Pr p) : ∀ d, 2 ≤ d → d * d ≤ p → p % d ≠ 0 := fun d h1 h2 h3 => by
  refine hp.2 d h1 ?_ (Nat.dvd_of_mod_eq_zero h3)
  have : 2 * d ≤ d * d := Nat.mul_le_mul_right d h1
  omega

def fac (h : Nat) : Int := pr h (fun k => (k : Int))
theorem gcd_fac {p : Nat} (hp : Pr p) : ∀ h, h < p → Int.gcd (fac h) p = 1
  | 0, _ => by simp [fac, pr_zero]
  | h + 1, hh => by
    unfold fac
    rw [pr_succ]
    exact gcd_mul.2 ⟨gcd_fac hp h (by omega), hp.gcd (by omega) hh⟩

theorem pr_dvd {n : Int} {f g : Nat → Int} : ∀ {h : Nat}, (∀ k, 1 ≤ k → k ≤ h → n ∣ f k - g k) → n ∣ pr h f - pr h g
  | 0, _ => by simp [pr_zero]
  | h + 1, H => by
    obtain ⟨c, hc⟩ := pr_dvd (h := h) (fun k a b => H k a (by omega))
    obtain ⟨d, hd⟩ := H (h + 1) (by omega) (by omega)
    rw [pr_succ, pr_succ]
    exact ⟨c * f (h + 1) + pr h g * d, by grind⟩
theorem pr_const_mul (a : Int) (h : Nat) : pr h (fun k => a * k) = a ^ h * fac h := by
  unfold fac
  rw [pr_mul h (fun _ => a) (fun k => (k : Int))]
  congr 1
  induction h with
  | zero => simp [pr_zero]
  | succ h ih => rw [pr_succ, ih, Int.pow_succ]

/-- Euler's criterion, for the symbol that counts signs. -/
theorem euler {p : Nat} (hp : Pr p) (ho : p % 2 = 1) {a : Int} (hc : Int.gcd a p = 1) : (p : Int) ∣ a ^ (p / 2) - J a p := by
  have h1 : (p : Int) ∣ pr (p / 2) (fun k => a * k) - pr (p / 2) (fun k => eps a p k * sig a p k) :=
    pr_dvd fun k k1 k2 => by
      obtain ⟨q, hq, _⟩ := sig_spec ho hc k1 k2
      exact ⟨q, by rw [hq]; omega⟩
  rw [pr_const_mul, pr_mul, pr_sig ho hc (fun k => (k : Int)), ← J_of hc] at h1
  have h2 := hp.1
  refine dvd_of_coprime (gcd_fac hp (p / 2) (by omega)) ?_
  obtain ⟨c, hc'⟩ := h1
  exact ⟨c, by rw [← hc']; unfold fac; grind⟩

/-! ### polynomials, by their degree and their first coefficient -/
inductive Poly : Nat → Int → (Int → Int) → Prop
  | const {c : Int} {f : Int → Int} : (∀ x, f x = c) → Poly 0 c f
  | step {d : Nat} {c b : Int} {f g : Int → Int} : Poly d c g → (∀ x, f x = x * g x + b) → Poly (d + 1) c f

theorem Poly.add {d : Nat} {c : Int} {f : Int → Int} (hf : Poly d c f) : ∀ {c' : Int} {g : Int → Int}, Poly d c' g → Poly d (c + c') (fun x => f x + g x) := by
  induction hf with
  | const h =>
    intro c' g hg
    cases hg with
    | const h' => exact .const fun x => by rw [h, h']
  | step hg he ih =>
    intro c' g hg'
    cases hg' with
    | step hk hk' =>
      rename_i b _ _ b' _
      exact .step (b := b + b') (ih hk) fun x => by rw [he, hk']; grind
theorem Poly.lift {d : Nat} {c : Int} {f : Int → Int} (hf : Poly d c f) : Poly (d + 1) 0 f := by
  induction hf with
  | @const c f h => exact .step (b := c) (g := fun _ => 0) (.const fun _ => rfl) fun x => by rw [h]; simp
  | step _ he ih => exact .step ih he
theorem Poly.diff : ∀ {d : Nat} {c : Int} {f : Int → Int}, Poly (d + 1) c f → Poly d ((d + 1 : Nat) * c) (fun x => f (x + 1) - f x)
  | 0, c, f, .step (.const hg) he => .const fun x => by rw [he, he, hg, hg]; grind
  | d + 1, c, f, .step (g := g) hg he => by
    have h1 := Poly.diff hg
    have h2 : Poly (d + 1) ((d + 1 : Nat) * c) (fun x => x * (g (x + 1) - g x) + 0) := .step h1 fun _ => rfl
    have h3 := (h2.add h1.lift).add hg
    have hc : ((d + 1 : Nat) : Int) * c + 0 + c = ((d + 1 + 1 : Nat) : Int) * c := by
      rw [Int.natCast_add (d + 1) 1]
      grind
    rw [hc] at h3
    have hf : (fun x => x * (g (x + 1) - g x) + 0 + (g (x + 1) - g x) + g x) = fun x => f (x + 1) - f x := by
      funext x
      rw [he, he]
      grind
    rw [hf] at h3
    exact h3

theorem Poly.roots {p : Int} : ∀ {d : Nat} {c : Int} {f : Int → Int}, Poly d c f → ∀ s : Int, (∀ i : Nat, i ≤ d → p ∣ f (s + i)) → p ∣ fac d * c
  | 0, c, f, .const h, s, H => by
    have := H 0 (by omega)
    rw [h] at this
    simpa [fac, pr_zero] using this
  | d + 1, c, f, hf, s, H => by
    have h1 := Poly.roots hf.diff s fun i hi => by
      have a := H (i + 1) (by omega)
      have b := H i (by omega)
      have e : s + ((i + 1 : Nat) : Int) = s + i + 1 := by omega
      rw [e] at a
      exact Int.dvd_sub a b
    unfold fac
    rw [pr_succ, Int.mul_assoc]
    exact h1
theorem Poly.pow : ∀ h : Nat, Poly h 1 (fun x => x ^ h)
  | 0 => .const fun x => by simp
  | h + 1 => .step (b := 0) (Poly.pow h) fun x => by rw [Int.pow_succ]; grind

/-- There is an integer in 2..p-1 whose symbol is -1. -/
theorem exists_minus {p : Nat} (hp : Pr p) (ho : p % 2 = 1) : ∃ a : Nat, 2 ≤ a ∧ a < p ∧ J a p = -1 := by
  have p2 := hp.1
  apply Classical.byContradiction
  intro hno
  have hall : ∀ a : Nat, 1 ≤ a → a < p → J a p = 1 := fun a a1 a2 => by
    have hc := hp.gcd a1 a2
    rcases isSign_J hc with h | h
    · exact h
    · rcases Nat.lt_or_ge a 2 with h3 | h3
      · have : a = 1 := by omega
        subst this
        exact J_sq (a := 1) ho hc
      · exact absurd ⟨a, h3, a2, h⟩ hno
  obtain ⟨h, hh⟩ : ∃ h, p / 2 = h + 1 := ⟨p / 2 - 1, by omega⟩
  have hpoly : Poly (h + 1) 1 (fun x => x ^ (h + 1) - 1) := .step (b := -1) (Poly.pow h) fun x => by rw [Int.pow_succ]; grind
  have hd := hpoly.roots (p := p) 1 fun i hi => by
    have hc := hp.gcd (x := i + 1) (by omega) (by omega)
    have he := euler hp ho hc
    rw [hall (i + 1) (by omega) (by omega), hh] at he
    have e : (1 : Int) + (i : Int) = ((i + 1 : Nat) : Int) := by omega
    rw [e]
    exact he
  have hd' := dvd_of_coprime (gcd_fac hp (h + 1) (by omega)) hd
  have := Int.eq_one_of_dvd_one (by omega) hd'
  omega

/-- A residue of a square has no symbol -1. -/
theorem not_minus {p : Nat} (ho : p % 2 = 1) {a x : Int} (h : (p : Int) ∣ x * x - a) : J a p ≠ -1 := by
  obtain ⟨c, hc⟩ := h
  have ha : a = x * x + p * (-c) := by grind
  rw [ha, J_add ho]
  by_cases hx : Int.gcd x p = 1
  · rw [J_sq ho hx]; decide
  · rw [J_zero (fun h => hx (gcd_mul.1 h).1)]; decide
end Jac
end Go.Proofs.Ytfpedehpmgcmnaa
