/- The magnitude and the root, by what the words are worth. -/
import Derived.Test.YtiafhdkpncmbeaaDoorC3
import Derived.Test.YtiafhdkpncmbeaaDoorSqV
namespace Go.Proofs.YtiafhdkpncmbeaaDoor
open Go.RowKit
open Flt

theorem plain_of {x : Nat} {a : Rat} (hx : Val x a) (h1 : -1000000000000000 ≤ a) (h2 : a ≤ 1000000000000000) : Plain64 x := ⟨hx.1, order_eq hx, order_fin hx h1 h2⟩

/-- what is known of a magnitude -/
def AbsOut (A B c : Rat) : Prop := (A = 0 ∧ B = 0 ∧ c = 0) ∨ ∃ p q h, 0 < p ∧ 0 ≤ q ∧ q ≤ p ∧ p * p + q * q = A * A + B * B ∧ A ≤ p ∧ -A ≤ p ∧ B ≤ p ∧ -B ≤ p ∧ (p = A ∨ p = -A ∨ p = B ∨ p = -B) ∧ 0 ≤ h ∧ 0 ≤ c ∧
  p * p * (h * h) ≤ p * p + q * q + 27 * u * (p * p) ∧ p * p + q * q ≤ p * p * (h * h) + 27 * u * (p * p) ∧ h ≤ 3 / 2 ∧ c ≤ p * h + (p * h * u + e) ∧ p * h ≤ c + (p * h * u + e)

theorem zabs_val {a b : Nat} {A B : Rat} (ha : Val a A) (hb : Val b B) (a1 : -1000000000000000 ≤ A) (a2 : A ≤ 1000000000000000) (b1 : -1000000000000000 ≤ B) (b2 : B ≤ 1000000000000000) :
    ∃ r c, Hid (∀ w, Calls Tryd.prog 7 #[.complex .f64 a b] w fun e w' => e = .returned (.float .f64 r) ∧ w = w') ∧ Val r c ∧ AbsOut A B c := by
  have pa := plain_of ha a1 a2
  have pb := plain_of hb b1 b2
  obtain ⟨VA, va, va0, vau, vad⟩ := abs_val ha
  obtain ⟨VB, vb, vb0, vbu, vbd⟩ := abs_val hb
  have e63 : (2 : Nat) ^ 63 = 9223372036854775808 := by decide
  rw [e63] at va vb
  have ha2 : VA * VA = A * A ∧ A ≤ VA ∧ -A ≤ VA ∧ (VA = A ∨ VA = -A) ∧ VA ≤ 1000000000000000 := by
    rcases Rat.le_total (a := 0) (b := A) with h | h
    · have := vau h; refine ⟨?_, ?_, ?_, .inl this, ?_⟩ <;> rw [this] <;> grind
    · have := vad h; refine ⟨?_, ?_, ?_, .inr this, ?_⟩ <;> rw [this] <;> grind
  have hb2 : VB * VB = B * B ∧ B ≤ VB ∧ -B ≤ VB ∧ (VB = B ∨ VB = -B) ∧ VB ≤ 1000000000000000 := by
    rcases Rat.le_total (a := 0) (b := B) with h | h
    · have := vbu h; refine ⟨?_, ?_, ?_, .inl this, ?_⟩ <;> rw [this] <;> grind
    · have := vbd h; refine ⟨?_, ?_, ?_, .inr this, ?_⟩ <;> rw [this] <;> grind
  obtain ⟨m1, m2, m3, m4, m5⟩ := ha2
  obtain ⟨n1, n2, n3, n4, n5⟩ := hb2
  have ho : FloatKind.f64.format.order (a % 9223372036854775808) (b % 9223372036854775808) = some (if VA < VB then .lt else if VA = VB then .eq else .gt) := order_val va vb
  by_cases hlt : VA < VB
  · have h0 : FloatKind.f64.format.order (b % 9223372036854775808) 0 = some (if VB < 0 then .lt else if VB = 0 then .eq else .gt) := order_val vb val_zero
    rw [if_pos hlt] at ho
    rw [if_neg (by grind), if_neg (by grind)] at h0
    obtain ⟨q, qq, s, t, r, s1, s2, s3, s4, s5, c, h, hr, hh, hc, x1, x2, x3, x4, x5⟩ := abs_words vb va (by grind) va0 (by grind) n5
    refine ⟨r, c, Lib.hid (zabs_lt a b r pa pb (by rw [ho]; rfl) (by rw [h0]; rfl) ⟨q, qq, s, t, s1, s2, s3, s4, s5⟩), hr, .inr ⟨VB, VA, h, by grind, va0, by grind, by grind, by grind, by grind, n2, n3, ?_, hh, hc, x1, x2, x3, x4, x5⟩⟩
    rcases n4 with h | h
    · exact .inr (.inr (.inl h))
    · exact .inr (.inr (.inr h))
  · have hno : (FloatKind.f64.format.order (a % 9223372036854775808) (b % 9223372036854775808) == some .lt) = false := by
      rw [ho, if_neg hlt]; split <;> rfl
    have h0 : FloatKind.f64.format.order (a % 9223372036854775808) 0 = some (if VA < 0 then .lt else if VA = 0 then .eq else .gt) := order_val va val_zero
    rw [if_neg (by grind)] at h0
    by_cases hz : VA = 0
    · rw [if_pos hz] at h0
      refine ⟨0, 0, Lib.hid (zabs_zero a b pa pb hno (by rw [h0]; rfl)), val_zero, .inl ⟨?_, ?_, rfl⟩⟩
      · rcases m4 with h | h <;> grind
      · rcases n4 with h | h <;> grind
    · rw [if_neg hz] at h0
      obtain ⟨q, qq, s, t, r, s1, s2, s3, s4, s5, c, h, hr, hh, hc, x1, x2, x3, x4, x5⟩ := abs_words va vb (by grind) vb0 (by grind) m5
      refine ⟨r, c, Lib.hid (zabs_gt a b r pa pb hno (by rw [h0]; rfl) ⟨q, qq, s, t, s1, s2, s3, s4, s5⟩), hr, .inr ⟨VA, VB, h, by grind, vb0, by grind, by grind, m2, m3, by grind, by grind, ?_, hh, hc, x1, x2, x3, x4, x5⟩⟩
      rcases m4 with h | h
      · exact .inl h
      · exact .inr (.inl h)

/-- THE ROOT OF A SQUARE -/
theorem zsqrt_val {a b : Nat} {x y : Rat} (x1 : 1 ≤ x) (x2 : x ≤ 1048576) (y1 : -1048576 ≤ y) (y2 : y ≤ 1048576) (ha : Val a (x * x - y * y)) (hb : Val b (x * y + y * x)) :
    ∃ rr ri c1 c2 X, Hid (∀ w, Calls Tryd.prog 5 #[.complex .f64 a b] w fun e w' => e = .returned (.tuple #[.complex .f64 rr ri, .int .i64 0]) ∧ w = w') ∧ Val rr c1 ∧ Val ri c2 ∧ x ≤ X ∧ y ≤ X ∧ -y ≤ X ∧ X ≤ 1048576 ∧ (X = x ∨ X = y ∨ X = -y) ∧
      c1 ≤ x + 19 * u * X ∧ x ≤ c1 + 19 * u * X ∧ c2 ≤ y + 19 * u * X ∧ y ≤ c2 + 19 * u * X := by
  have hu := u_pos
  have xx1 : 1 ≤ x * x := by have := Rat.mul_le_mul_of_nonneg_right x1 (show 0 ≤ x by grind); grind
  have xx2 : x * x ≤ 1048576 * 1048576 := by have := Rat.mul_le_mul_of_nonneg_right x2 (show 0 ≤ x by grind); grind
  have yy1 : 0 ≤ y * y := by
    rcases Rat.le_total (a := 0) (b := y) with h | h
    · exact Rat.mul_nonneg h h
    · have := Rat.mul_nonneg (show 0 ≤ -y by grind) (show 0 ≤ -y by grind); grind
  have yy2 : y * y ≤ 1048576 * 1048576 := by
    have h := Rat.mul_nonneg (show 0 ≤ 1048576 - y by grind) (show 0 ≤ 1048576 + y by grind); grind
  have xy1 : x * y ≤ 1048576 * 1048576 := by
    have h1 := Rat.mul_le_mul_of_nonneg_left y2 (show 0 ≤ x by grind); grind
  have xy2 : -(1048576 * 1048576) ≤ x * y := by
    have h1 := Rat.mul_le_mul_of_nonneg_left y1 (show 0 ≤ x by grind); grind
  obtain ⟨r, c, HR, hr, hout⟩ := zabs_val ha hb (by grind) (by grind) (by grind) (by grind)
  have pa := plain_of ha (by grind) (by grind)
  have pb := plain_of hb (by grind) (by grind)
  have hNN : (x * x + y * y) * (x * x + y * y) = (x * x - y * y) * (x * x - y * y) + (x * y + y * x) * (x * y + y * x) := by grind
  have hc : c ≤ (x * x + y * y) + 16 * u * (x * x + y * y) ∧ (x * x + y * y) ≤ c + 16 * u * (x * x + y * y) := by
    rcases hout with ⟨h1, h2, h3⟩ | ⟨p, q, h, p0, q0, qp, hpq, -, -, -, -, -, h0, c0, k1, k2, k3, k4, k5⟩
    · exfalso
      rw [h1, h2] at hNN
      have h4 : (1 : Rat) ≤ x * x + y * y := by grind
      have h5 := Rat.mul_le_mul_of_nonneg_right h4 (show 0 ≤ x * x + y * y by grind)
      grind
    · exact abs_near p0 (by grind) (by rw [hNN, hpq]) h0 k1 k2 k4 k5
  obtain ⟨V, hV, V0, Vu, Vd⟩ := abs_val ha
  obtain ⟨U, hU, U0, Uu, Ud⟩ := abs_val hb
  have e63 : (2 : Nat) ^ 63 = 9223372036854775808 := by decide
  rw [e63] at hV hU
  have oa : FloatKind.f64.format.order a 0 = some (if x * x - y * y < 0 then .lt else if x * x - y * y = 0 then .eq else .gt) := order_val ha val_zero
  have ob : FloatKind.f64.format.order b 0 = some (if x * y + y * x < 0 then .lt else if x * y + y * x = 0 then .eq else .gt) := order_val hb val_zero
  by_cases hxy : y ≤ x ∧ -x ≤ y
  · obtain ⟨hx1, hx2⟩ := hxy
    have hP : 0 ≤ x * x - y * y := by
      have := Rat.mul_nonneg (show 0 ≤ x - y by grind) (show 0 ≤ x + y by grind); grind
    have hVP := Vu hP
    obtain ⟨h1, h2, h, t, m1, m2, m3, m4, τ, hτ, τ0, τ1, τ2⟩ := half_words (N := x * x + y * y) hr hV V0 x1 x2 (by rw [hVP]; grind) (by rw [hVP]; grind) (by grind) hc.1 hc.2
    obtain ⟨w2, o, m5, m6, co, hco, o1, o2⟩ := quo_words (η := y) hb hτ x1 x2 τ1 τ2 (by grind) hx2 hx1
    have hz : (FloatKind.f64.format.order a 0 == some .eq && FloatKind.f64.format.order b 0 == some .eq) = false := by
      rw [oa, ob]
      by_cases h3 : x * x - y * y = 0
      · have h4 : ¬ x * y + y * x = 0 := by
          intro h4
          rw [h3, h4] at hNN
          have h4 : (1 : Rat) ≤ x * x + y * y := by grind
          have h5 := Rat.mul_le_mul_of_nonneg_right h4 (show 0 ≤ x * x + y * y by grind)
          grind
        rw [if_neg (by grind), if_pos h3, if_neg h4]
        split <;> rfl
      · rw [if_neg (by grind), if_neg h3]; rfl
    have hge : (FloatKind.f64.format.order a 0 == some .gt || FloatKind.f64.format.order a 0 == some .eq) = true := by
      rw [oa, if_neg (by grind)]
      split <;> rfl
    refine ⟨t, o, τ, co, x, Lib.hid (zsqrt_up a b r h1 h2 h t w2 o pa pb hz HR m1 m2 m3 m4 m5 m6 hge), hτ, hco, by grind, hx1, by grind, x2, .inl rfl, ?_, ?_, o1, o2⟩
    · have := Rat.mul_nonneg (Rat.le_of_lt hu) (show 0 ≤ x by grind); grind
    · have := Rat.mul_nonneg (Rat.le_of_lt hu) (show 0 ≤ x by grind); grind
  · obtain ⟨Y, hY, hYx, hYy, hYy2, hYb, hYc⟩ : ∃ Y, (Y = y ∧ 0 < y ∨ Y = -y ∧ y < 0) ∧ x < Y ∧ y ≤ Y ∧ -y ≤ Y ∧ Y ≤ 1048576 ∧ Y * Y = y * y := by
      by_cases h : 0 ≤ y
      · exact ⟨y, .inl ⟨rfl, by grind⟩, by grind, by grind, by grind, y2, rfl⟩
      · exact ⟨-y, .inr ⟨rfl, by grind⟩, by grind, by grind, by grind, by grind, by grind⟩
    have hP : x * x - y * y < 0 := by
      have := Rat.mul_pos (show 0 < Y - x by grind) (show 0 < Y + x by grind); grind
    have hVP := Vd (by grind)
    obtain ⟨h1, h2, h, t, m1, m2, m3, m4, τ, hτ, τ0, τ1, τ2⟩ := half_words (N := x * x + y * y) (X := Y) hr hV V0 (by grind) hYb (by rw [hVP]; grind) (by rw [hVP]; grind) (by grind) hc.1 hc.2
    have hUQ : U = 2 * Y * x := by
      rcases hY with ⟨rfl, hy⟩ | ⟨rfl, hy⟩
      · have := Rat.mul_pos hy (show 0 < x by grind)
        rw [Uu (by grind)]; grind
      · have := Rat.mul_pos (show 0 < -y by grind) (show 0 < x by grind)
        rw [Ud (by grind)]; grind
    obtain ⟨w2, o, m5, m6, co, hco, o1, o2⟩ := quo_words (η := x) (X := Y) hU hτ (by grind) hYb τ1 τ2 hUQ (by grind) (by grind)
    have hz : (FloatKind.f64.format.order a 0 == some .eq && FloatKind.f64.format.order b 0 == some .eq) = false := by
      rw [oa, if_pos hP]; rfl
    have hge : (FloatKind.f64.format.order a 0 == some .gt || FloatKind.f64.format.order a 0 == some .eq) = false := by
      rw [oa, if_pos hP]; rfl
    have hs := sign_up hτ τ0
    have hmod : t % 9223372036854775808 = t := by omega
    have huY := Rat.mul_nonneg (Rat.le_of_lt hu) (show 0 ≤ Y by grind)
    have H := zsqrt_down a b r h1 h2 h t w2 o pa pb hτ.1 hz HR m1 m2 m3 m4 m5 m6 hge
    rw [hmod] at H
    rcases hY with ⟨hYe, hy⟩ | ⟨hYe, hy⟩
    · have hb0 := sign_up hb (by have := Rat.mul_pos hy (show 0 < x by grind); grind)
      rw [hb0, Nat.zero_mul, Nat.add_zero] at H
      exact ⟨o, t, co, τ, Y, Lib.hid H, hco, hτ, by grind, hYy, hYy2, hYb, .inr (.inl hYe), o1, o2, by grind, by grind⟩
    · have hb0 := sign_down hb (by have := Rat.mul_pos (show 0 < -y by grind) (show 0 < x by grind); grind)
      rw [hb0] at H
      exact ⟨o, _, co, -τ, Y, Lib.hid H, hco, neg_val hτ hs, by grind, hYy, hYy2, hYb, .inr (.inr hYe), o1, o2, by grind, by grind⟩
end Go.Proofs.YtiafhdkpncmbeaaDoor
