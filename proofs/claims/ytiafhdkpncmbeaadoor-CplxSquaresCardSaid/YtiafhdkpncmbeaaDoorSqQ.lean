import Derived.Test.YtiafhdkpncmbeaaDoorSqP
/- Floats, plain: the lesser part, and how far the root is off. -/
namespace Go.Proofs.YtiafhdkpncmbeaaDoor.Flt
open Ieee

/-- the root's lesser part -/
theorem quo_words {wn wt : Nat} {n τ X η : Rat} (hn : Val wn n) (ht : Val wt τ) (hX : 1 ≤ X) (hXb : X ≤ 1048576) (t1 : τ ≤ X + 14 * u * X) (t2 : X ≤ τ + 14 * u * X)
    (hnη : n = 2 * X * η) (g1 : -X ≤ η) (g2 : η ≤ X) :
    ∃ w o, double.mul 0x4000000000000000 wt = some w ∧ double.div wn w = some o ∧ ∃ c, Val o c ∧ c ≤ η + 19 * u * X ∧ η ≤ c + 19 * u * X := by
  have hu := u_pos
  have hus := u_small
  have hes := e_small
  have he := e_pos
  have huu : u * u ≤ 1 / 1000000 * u := Rat.mul_le_mul_of_nonneg_right hus (Rat.le_of_lt hu)
  have huX : u * X ≤ 1 / 1000000 * X := Rat.mul_le_mul_of_nonneg_right hus (by grind)
  have huX0 : u ≤ u * X := by have := Rat.mul_le_mul_of_nonneg_left hX (Rat.le_of_lt hu); grind
  have huuX : u * (u * X) ≤ 1 / 1000000 * (u * X) := Rat.mul_le_mul_of_nonneg_right hus (by grind)
  have hl := small_top (r := 2 * τ) (by grind) (by grind)
  obtain ⟨w, cw, m1, v1, f1⟩ := mul_val val_two ht hl.1 hl.2
  have n1 := f1.near (2 * τ) (by grind) (by grind)
  have hτu : τ * u ≤ 101 / 100 * (u * X) := by have := Rat.mul_le_mul_of_nonneg_right (show τ ≤ 101 / 100 * X by grind) (Rat.le_of_lt hu); grind
  have w1 : cw ≤ 2 * X + 31 * (u * X) := by grind
  have w2 : 2 * X ≤ cw + 31 * (u * X) := by grind
  clear f1 n1 hl
  have hw0 : 199 / 100 * X ≤ cw := by grind
  have hwp : 0 < cw := by grind
  have hXX : 0 ≤ X * X := Rat.mul_nonneg (by grind) (by grind)
  have x1 : 2 * X * η ≤ 2 * (X * X) := by have := Rat.mul_le_mul_of_nonneg_left g2 (show 0 ≤ 2 * X by grind); grind
  have x2 : -(2 * (X * X)) ≤ 2 * X * η := by have := Rat.mul_le_mul_of_nonneg_left g1 (show 0 ≤ 2 * X by grind); grind
  -- η times what the divisor is off
  have y1 : η * (cw - 2 * X) ≤ 31 * (u * X) * X ∧ -(31 * (u * X) * X) ≤ η * (cw - 2 * X) := by
    have hp : 0 ≤ X - η := by grind
    have hq : 0 ≤ X + η := by grind
    have a1 : 0 ≤ 31 * (u * X) - (cw - 2 * X) := by grind
    have a2 : 0 ≤ 31 * (u * X) + (cw - 2 * X) := by grind
    have b1 := Rat.mul_nonneg hp a1
    have b2 := Rat.mul_nonneg hp a2
    have b3 := Rat.mul_nonneg hq a1
    have b4 := Rat.mul_nonneg hq a2
    constructor <;> grind
  have key : ∀ S : Rat, (∀ M, -M ≤ n → n ≤ M → n - M * u ≤ S * cw ∧ S * cw ≤ n + M * u) → S ≤ η + 17 * (u * X) ∧ η ≤ S + 17 * (u * X) := by
    intro S h
    have h3 := h (2 * (X * X)) (by grind) (by grind)
    have hwX := Rat.mul_le_mul_of_nonneg_right hw0 (show 0 ≤ 17 * (u * X) by grind)
    constructor
    · refine le_div hwp ?_
      have e1 : (η + 17 * (u * X)) * cw = 2 * X * η + η * (cw - 2 * X) + cw * (17 * (u * X)) := by grind
      rw [e1]
      have e2 : 2 * (X * X) * u = 2 * ((u * X) * X) := by grind
      have e3 : 199 / 100 * X * (17 * (u * X)) = 3383 / 100 * ((u * X) * X) := by grind
      rw [e2] at h3
      rw [e3] at hwX
      have h0 : 0 ≤ (u * X) * X := Rat.mul_nonneg (by grind) (by grind)
      grind
    · refine le_div hwp ?_
      have e1 : η * cw = 2 * X * η + η * (cw - 2 * X) := by grind
      have e4 : (S + 17 * (u * X)) * cw = S * cw + cw * (17 * (u * X)) := by grind
      rw [e1, e4]
      have e2 : 2 * (X * X) * u = 2 * ((u * X) * X) := by grind
      have e3 : 199 / 100 * X * (17 * (u * X)) = 3383 / 100 * ((u * X) * X) := by grind
      rw [e2] at h3
      rw [e3] at hwX
      have h0 : 0 ≤ (u * X) * X := Rat.mul_nonneg (by grind) (by grind)
      grind
  obtain ⟨o, c, S, m2, v2, f2, k, -⟩ := div_val hn v1 (by grind) (fun S h => by have := key S h; exact small_top (by grind) (by grind))
  have hS := key S k
  have n2 := f2.near (101 / 100 * X) (by grind) (by grind)
  exact ⟨w, o, m1, m2, c, v2, by grind, by grind⟩

/-- how far two near words are off -/
theorem off_words {wa wb : Nat} {a b X k : Rat} (ha : Val wa a) (hb : Val wb b) (hX : 1 ≤ X) (hXb : X ≤ 1048576) (hk : k ≤ 19 * u * X) (h1 : a ≤ b + k) (h2 : b ≤ a + k) :
    ∃ d, double.sub wa wb = some d ∧ ∃ c, Val d c ∧ -(20 * u * X) ≤ c ∧ c ≤ 20 * u * X := by
  have hu := u_pos
  have hus := u_small
  have hes := e_small
  have he := e_pos
  have huu : u * u ≤ 1 / 1000000 * u := Rat.mul_le_mul_of_nonneg_right hus (Rat.le_of_lt hu)
  have huX : u * X ≤ 1 / 1000000 * X := Rat.mul_le_mul_of_nonneg_right hus (by grind)
  have huX0 : u ≤ u * X := by have := Rat.mul_le_mul_of_nonneg_left hX (Rat.le_of_lt hu); grind
  have huuX : u * (u * X) ≤ 1 / 1000000 * (u * X) := Rat.mul_le_mul_of_nonneg_right hus (by grind)
  have hl := small_top (r := a - b) (by grind) (by grind)
  obtain ⟨d, c, m, v, f⟩ := sub_val ha hb hl.1 hl.2
  have n := f.near (19 * u * X) (by grind) (by grind)
  exact ⟨d, m, c, v, by grind, by grind⟩

/-- the magnitude of what it is off -/
theorem off_abs {a h c X : Rat} (h0 : 0 < a) (hX : 1 ≤ X) (ha : a ≤ 20 * u * X) (hh2 : h ≤ 3 / 2) (k1 : c ≤ a * h + (a * h * u + e)) : c ≤ 31 * u * X := by
  have hu := u_pos
  have hus := u_small
  have hes := e_small
  have he := e_pos
  have huu : u * u ≤ 1 / 1000000 * u := Rat.mul_le_mul_of_nonneg_right hus (Rat.le_of_lt hu)
  have huX0 : u ≤ u * X := by have := Rat.mul_le_mul_of_nonneg_left hX (Rat.le_of_lt hu); grind
  have huuX : u * (u * X) ≤ 1 / 1000000 * (u * X) := Rat.mul_le_mul_of_nonneg_right hus (by grind)
  have a1 : a * h ≤ 30 * (u * X) := by
    have e1 := Rat.mul_le_mul_of_nonneg_left hh2 (Rat.le_of_lt h0)
    grind
  have a2 := Rat.mul_le_mul_of_nonneg_right a1 (Rat.le_of_lt hu)
  grind

/-- the magnitude of the number itself, and its part that may be off -/
theorem mag_least {wc : Nat} {a b h c X : Rat} (hc : Val wc c) (h0 : 0 < a) (haX : a = X) (hX : 1 ≤ X) (hXb : X ≤ 1048576) (hb0 : 0 ≤ b) (hh : 0 ≤ h)
    (h2 : a * a + b * b ≤ a * a * (h * h) + 27 * u * (a * a)) (hh2 : h ≤ 3 / 2) (k2 : a * h ≤ c + (a * h * u + e)) (k1 : c ≤ a * h + (a * h * u + e)) :
    ∃ q, double.div wc 0x42e0000000000000 = some q ∧ ∃ v, Val q v ∧ 31 * u * X ≤ v := by
  subst haX
  have hu := u_pos
  have hus := u_small
  have hes := e_small
  have he := e_pos
  have huu : u * u ≤ 1 / 1000000 * u := Rat.mul_le_mul_of_nonneg_right hus (Rat.le_of_lt hu)
  have hua : u * a ≤ 1 / 1000000 * a := Rat.mul_le_mul_of_nonneg_right hus (Rat.le_of_lt h0)
  have hua0 : u ≤ u * a := by have := Rat.mul_le_mul_of_nonneg_left hX (Rat.le_of_lt hu); grind
  have haa : 0 < a * a := Rat.mul_pos h0 h0
  have hhh : 1 - 27 * u ≤ h * h := by
    refine le_div haa ?_
    have : 0 ≤ b * b := Rat.mul_nonneg hb0 hb0
    grind
  have hhl : 99 / 100 ≤ h := sq_le hh (by grind)
  have a1 := Rat.mul_le_mul_of_nonneg_left hhl (Rat.le_of_lt h0)
  have a2 := Rat.mul_le_mul_of_nonneg_left hh2 (Rat.le_of_lt h0)
  have a3 := Rat.mul_le_mul_of_nonneg_right a2 (Rat.le_of_lt hu)
  have hcl : 98 / 100 * a ≤ c := by grind
  have hcu : c ≤ 16 / 10 * a := by grind
  have hp := P2_pos 47
  have hpu : P2 47 * u * 64 = 1 := by
    have h6 : P2 6 = ((64 : Nat) : Rat) := P2_nat 6
    have h64 : ((64 : Nat) : Rat) = 64 := rfl
    rw [← h64, ← h6]
    show P2 47 * P2 (-53) * P2 6 = 1
    rw [← P2_add, ← P2_add]; exact P2_zero
  generalize hPP : P2 47 = P at *
  have key : ∀ S : Rat, (∀ M, -M ≤ c → c ≤ M → c - M * u ≤ S * P ∧ S * P ≤ c + M * u) → 60 * (u * a) ≤ S ∧ S ≤ 200 * (u * a) := by
    intro S h
    have h3 := h c (by grind) (by grind)
    have hcu2 := Rat.mul_le_mul_of_nonneg_right hcu (Rat.le_of_lt hu)
    have e1 : 60 * (u * a) * P = 60 / 64 * a := by
      have : 60 * (u * a) * P = 60 / 64 * a * (P * u * 64) := by grind
      rw [this, hpu]; grind
    have e2 : 200 * (u * a) * P = 200 / 64 * a := by
      have : 200 * (u * a) * P = 200 / 64 * a * (P * u * 64) := by grind
      rw [this, hpu]; grind
    constructor
    · refine le_div hp ?_
      rw [e1]; grind
    · refine le_div hp ?_
      rw [e2]; grind
  have hv47 : Val 0x42e0000000000000 P := by rw [← hPP]; exact val_p47
  obtain ⟨q, v, S, m, hv, f, k, -⟩ := div_val hc hv47 (by grind) (fun S h => by have := key S h; exact small_top (by grind) (by grind))
  have hS := key S k
  have n := f.near (200 * (u * a)) (by grind) (by grind)
  have huua : u * (u * a) ≤ 1 / 1000000 * (u * a) := Rat.mul_le_mul_of_nonneg_right hus (by grind)
  exact ⟨q, m, v, hv, by grind⟩

/-- a word without its sign -/
theorem abs_val {x : Nat} {a : Rat} (hx : Val x a) : ∃ v, Val (x % 2 ^ 63) v ∧ 0 ≤ v ∧ (0 ≤ a → v = a) ∧ (a ≤ 0 → v = -a) := by
  obtain ⟨-, s, m, p, hr, ha⟩ := hx
  have hm := mag_nonneg m p
  refine ⟨m * P2 p, ⟨by omega, false, m, p, ?_, by simp [sg]⟩, hm, ?_, ?_⟩
  · have e1 : double.signWeight = 2 ^ 63 := rfl
    unfold Format.read at hr ⊢
    rw [e1] at hr ⊢
    dsimp only at hr ⊢
    have h1 : x % 2 ^ 63 / 2 ^ 63 % 2 = 0 := by omega
    rw [h1, Nat.mod_mod]
    generalize x % 2 ^ 63 = y at *
    generalize (x / 2 ^ 63 % 2 == 1) = z at *
    have h0 : ((0 : Nat) == 1) = false := rfl
    rw [h0]
    by_cases c1 : y < double.binade
    · rw [if_pos c1] at hr ⊢
      injection hr with r1 r2 r3; rw [r2, r3]
    · rw [if_neg c1] at hr ⊢
      by_cases c2 : y < double.infRung
      · rw [if_pos c2] at hr ⊢
        injection hr with r1 r2 r3; rw [r2, r3]
      · rw [if_neg c2] at hr
        by_cases c3 : y = double.infRung
        · rw [if_pos c3] at hr; cases hr
        · rw [if_neg c3] at hr; cases hr
  · intro h0
    rw [ha] at h0 ⊢
    cases s <;> simp only [sg] at h0 ⊢ <;> grind
  · intro h0
    rw [ha] at h0 ⊢
    cases s <;> simp only [sg] at h0 ⊢ <;> grind
end Go.Proofs.YtiafhdkpncmbeaaDoor.Flt
