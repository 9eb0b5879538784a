import Derived.Test.YtiafhdkpncmbeaaDoorAbsF
/- Floats, plain: the root of a square of whole numbers. -/
namespace Go.Proofs.YtiafhdkpncmbeaaDoor.Flt
open Ieee

theorem val_half : Val 0x3fe0000000000000 (1 / 2) := by
  refine ⟨by decide, false, 2 ^ 52, -53, by decide, ?_⟩
  simp only [sg]
  have h2 : P2 1 = 2 := Rat.zpow_one 2
  have h : P2 1 * (((2 ^ 52 : Nat) : Rat) * P2 (-53)) = 1 := by rw [← P2_nat, ← P2_add, ← P2_add]; exact P2_zero
  rw [h2] at h
  generalize ((2 ^ 52 : Nat) : Rat) * P2 (-53) = z at *
  grind
theorem val_two : Val 0x4000000000000000 2 := by
  refine ⟨by decide, false, 2 ^ 52, -51, by decide, ?_⟩
  simp only [sg]
  have h2 : P2 1 = 2 := Rat.zpow_one 2
  rw [← P2_nat, ← P2_add]; exact h2.symm
theorem val_p47 : Val 0x42e0000000000000 (P2 47) := by
  refine ⟨by decide, false, 2 ^ 52, -5, by decide, ?_⟩
  simp only [sg]
  rw [← P2_nat, ← P2_add]; rfl

theorem small_top {r : Rat} (h1 : -1000000000000000 ≤ r) (h2 : r ≤ 1000000000000000) : -P2 1000 < r ∧ r < P2 1000 := by
  have h : P2 60 ≤ P2 1000 := P2_mono (by decide)
  have h3 : P2 60 = ((1152921504606846976 : Nat) : Rat) := P2_nat 60
  have h4 : ((1152921504606846976 : Nat) : Rat) = 1152921504606846976 := rfl
  rw [h3, h4] at h
  generalize P2 1000 = T at *
  constructor <;> grind

/-- of a magnitude's words to the magnitude -/
theorem abs_near {a b N c h : Rat} (h0 : 0 < a) (hN : 1 ≤ N) (hNN : N * N = a * a + b * b) (hh : 0 ≤ h)
    (h1 : a * a * (h * h) ≤ a * a + b * b + 27 * u * (a * a)) (h2 : a * a + b * b ≤ a * a * (h * h) + 27 * u * (a * a)) (k1 : c ≤ a * h + (a * h * u + e)) (k2 : a * h ≤ c + (a * h * u + e)) :
    c ≤ N + 16 * u * N ∧ N ≤ c + 16 * u * N := by
  have hu := u_pos
  have hus := u_small
  have hes := e_small
  have he := e_pos
  have haN : a * a ≤ N * N := by
    have : 0 ≤ b * b := by
      rcases Rat.le_total (a := 0) (b := b) with hb | hb
      · exact Rat.mul_nonneg hb hb
      · have := Rat.mul_nonneg (show 0 ≤ -b by grind) (show 0 ≤ -b by grind); grind
    grind
  have haNu := Rat.mul_le_mul_of_nonneg_left haN (show 0 ≤ 27 * u by grind)
  have hah : 0 ≤ a * h := Rat.mul_nonneg (Rat.le_of_lt h0) hh
  obtain ⟨n1, n2⟩ := sq_near (t := a * h) (X := N) (k := 27 * u) hah (by grind) (by grind) (by grind) (by grind) (by grind)
  have huN : u * N ≤ 1 / 1000000 * N := Rat.mul_le_mul_of_nonneg_right hus (by grind)
  have huN0 : u ≤ u * N := by have := Rat.mul_le_mul_of_nonneg_left hN (Rat.le_of_lt hu); grind
  have hahb : a * h ≤ 11 / 10 * N := by grind
  have hahu := Rat.mul_le_mul_of_nonneg_right hahb (Rat.le_of_lt hu)
  have huu : u * u ≤ 1 / 1000000 * u := Rat.mul_le_mul_of_nonneg_right hus (Rat.le_of_lt hu)
  constructor <;> grind

/-- the root's greater part -/
theorem half_words {wr wa : Nat} {c A N X : Rat} (hr : Val wr c) (ha : Val wa A) (hA : 0 ≤ A) (hX : 1 ≤ X) (hXb : X ≤ 1048576) (hN : N + A = 2 * (X * X)) (hNA : A ≤ N) (hN1 : 1 ≤ N)
    (c1 : c ≤ N + 16 * u * N) (c2 : N ≤ c + 16 * u * N) :
    ∃ h1 h2 h t, double.mul 0x3fe0000000000000 wr = some h1 ∧ double.mul 0x3fe0000000000000 wa = some h2 ∧ double.add h1 h2 = some h ∧ double.sqrt h = some t ∧
      ∃ τ, Val t τ ∧ 0 < τ ∧ τ ≤ X + 14 * u * X ∧ X ≤ τ + 14 * u * X := by
  have hu := u_pos
  have hus := u_small
  have hes := e_small
  have he := e_pos
  have huu : u * u ≤ 1 / 1000000 * u := Rat.mul_le_mul_of_nonneg_right hus (Rat.le_of_lt hu)
  have hXX : X * X ≤ 1048576 * 1048576 := by
    have f1 := Rat.mul_le_mul_of_nonneg_right hXb (show 0 ≤ X by grind)
    grind
  have hXX1 : 1 ≤ X * X := by
    have f1 := Rat.mul_le_mul_of_nonneg_right hX (show 0 ≤ X by grind)
    grind
  have hNb : N ≤ 2 * (X * X) := by grind
  have huN : u * N ≤ 1 / 1000000 * N := Rat.mul_le_mul_of_nonneg_right hus (by grind)
  have huN1 : u ≤ u * N := by have := Rat.mul_le_mul_of_nonneg_left hN1 (Rat.le_of_lt hu); grind
  have huNX : u * N ≤ 2 * (u * (X * X)) := by have := Rat.mul_le_mul_of_nonneg_left hNb (Rat.le_of_lt hu); grind
  have huX1 : u ≤ u * (X * X) := by have := Rat.mul_le_mul_of_nonneg_left hXX1 (Rat.le_of_lt hu); grind
  have huAN : A * u ≤ u * N := by have := Rat.mul_le_mul_of_nonneg_right hNA (Rat.le_of_lt hu); grind
  have huXX : u * (X * X) ≤ 1 / 1000000 * (X * X) := Rat.mul_le_mul_of_nonneg_right hus (by grind)
  have hc0 : 0 ≤ c := by grind
  have t1 := small_top (r := 1 / 2 * c) (by grind) (by grind)
  obtain ⟨h1, d1, m1, v1, f1⟩ := mul_val val_half hr t1.1 t1.2
  have n1 := f1.near (1 / 2 * c) (by grind) (by grind)
  have p1 := f1.up (by grind)
  have hcu : c * u ≤ 11 / 10 * (u * N) := by have := Rat.mul_le_mul_of_nonneg_right (show c ≤ 11 / 10 * N by grind) (Rat.le_of_lt hu); grind
  have t2 := small_top (r := 1 / 2 * A) (by grind) (by grind)
  obtain ⟨h2, d2, m2, v2, f2⟩ := mul_val val_half ha t2.1 t2.2
  have n2 := f2.near (1 / 2 * A) (by grind) (by grind)
  have p2 := f2.up (by grind)
  clear t1 t2 f1 f2
  have q1 : d1 + d2 ≤ X * X + 97 / 10 * (u * N) := by grind
  have q2 : X * X ≤ d1 + d2 + 97 / 10 * (u * N) := by grind
  have t3 := small_top (r := d1 + d2) (by grind) (by grind)
  obtain ⟨h, d, m3, v3, f3⟩ := add_val v1 v2 t3.1 t3.2
  have n3 := f3.near (d1 + d2) (by grind) (by grind)
  have hdu : (d1 + d2) * u ≤ 101 / 100 * (u * (X * X)) := by
    have := Rat.mul_le_mul_of_nonneg_right (show d1 + d2 ≤ 101 / 100 * (X * X) by grind) (Rat.le_of_lt hu); grind
  have r1 : d ≤ X * X + 21 * (u * (X * X)) := by grind
  have r2 : X * X ≤ d + 21 * (u * (X * X)) := by grind
  clear t3 f3 n1 n2 n3
  have hTop : (10000000000000 : Rat) ≤ P2 1000 := Rat.le_of_lt (small_top (r := 10000000000000) (by grind) (by grind)).2
  obtain ⟨t, τ, S, m4, v4, f4, hS0, g1, g2⟩ := sqrt_val v3 (by clear hTop; grind) (Rat.le_trans (by clear hTop; grind) hTop)
  clear hTop
  have hd2u : d * (2 * u) ≤ 21 / 10 * (u * (X * X)) := by
    have := Rat.mul_le_mul_of_nonneg_right (show d ≤ 21 / 20 * (X * X) by grind) (show 0 ≤ 2 * u by grind); grind
  have s1 : S * S ≤ X * X + 232 / 10 * (u * (X * X)) := by grind
  have s2 : X * X ≤ S * S + 232 / 10 * (u * (X * X)) := by grind
  have hS1 : S ≤ 11 / 10 * X := sq_le (by grind) (by grind)
  have n4 := f4.near S (by grind) (by grind)
  have hτ0 := f4.up hS0
  have huX0 : u ≤ u * X := by have := Rat.mul_le_mul_of_nonneg_left hX (Rat.le_of_lt hu); grind
  have hSu : S * u ≤ 11 / 10 * (u * X) := by have := Rat.mul_le_mul_of_nonneg_right hS1 (Rat.le_of_lt hu); grind
  have k1 : τ ≤ S + 12 / 10 * (u * X) := by grind
  have k2 : S ≤ τ + 12 / 10 * (u * X) := by grind
  have huX : u * X ≤ 1 / 1000000 * X := Rat.mul_le_mul_of_nonneg_right hus (by grind)
  have huXX2 : u * X * X = u * (X * X) := by grind
  have hτ1 : τ ≤ 12 / 10 * X := by grind
  have w1 : τ * τ ≤ S * S + 3 * (u * (X * X)) := by
    have e1 := Rat.mul_le_mul_of_nonneg_right k1 hτ0
    have e2 := Rat.mul_le_mul_of_nonneg_left k1 hS0
    have e3 := Rat.mul_le_mul_of_nonneg_right hτ1 (show 0 ≤ u * X by grind)
    have e4 := Rat.mul_le_mul_of_nonneg_right hS1 (show 0 ≤ u * X by grind)
    grind
  have w2 : S * S ≤ τ * τ + 3 * (u * (X * X)) := by
    have e1 := Rat.mul_le_mul_of_nonneg_right k2 hτ0
    have e2 := Rat.mul_le_mul_of_nonneg_left k2 hS0
    have e3 := Rat.mul_le_mul_of_nonneg_right hτ1 (show 0 ≤ u * X by grind)
    have e4 := Rat.mul_le_mul_of_nonneg_right hS1 (show 0 ≤ u * X by grind)
    grind
  obtain ⟨z1, z2⟩ := sq_near (t := τ) (X := X) (k := 263 / 10 * u) hτ0 (by grind) (by grind) (by grind) (by grind) (by grind)
  refine ⟨h1, h2, h, t, m1, m2, m3, m4, τ, v4, by grind, by grind, by grind⟩
end Go.Proofs.YtiafhdkpncmbeaaDoor.Flt
