import Derived.Test.YtiafhdkpncmbeaaDoorFlt3
/- Floats, plain: the magnitude by quotient, square, sum, root, product. -/
namespace Go.Proofs.YtiafhdkpncmbeaaDoor.Flt
open Ieee

theorem u_small : u ≤ 1 / 1000000 := by
  have h : P2 (-53) ≤ P2 (-20) := P2_mono (by decide)
  have h2 : P2 (-20) * P2 20 = 1 := by rw [← P2_add]; exact P2_zero
  have h3 : P2 20 = ((1048576 : Nat) : Rat) := P2_nat 20
  have h4 : ((1048576 : Nat) : Rat) = 1048576 := rfl
  rw [h3, h4] at h2
  have h5 : u = P2 (-53) := rfl
  rw [← h5] at h
  grind
theorem e_small : e ≤ u * u := by
  have h : P2 (-1075) ≤ P2 (-53 + -53) := P2_mono (by decide)
  rw [P2_add] at h; exact h
theorem big_top : (1000000 : Rat) ≤ P2 1000 := by
  have h : P2 20 ≤ P2 1000 := P2_mono (by decide)
  have h3 : P2 20 = ((1048576 : Nat) : Rat) := P2_nat 20
  have h4 : ((1048576 : Nat) : Rat) = 1048576 := rfl
  rw [h3, h4] at h
  exact Rat.le_trans (by decide) h
theorem in_top {S T : Rat} (hT : 1000000 ≤ T) (h1 : -1000000 < S) (h2 : S < 1000000) : -T < S ∧ S < T := by constructor <;> grind
theorem le_div {a b c : Rat} (hc : 0 < c) (h : a * c ≤ b * c) : a ≤ b := Rat.le_of_mul_le_mul_right h hc
theorem sq_le {a b : Rat} (hb : 0 ≤ b) (h : a * a ≤ b * b) : a ≤ b := by
  refine Rat.not_lt.mp fun hc => ?_
  have ha : 0 < a := by grind
  have h1 := Rat.mul_lt_mul_of_pos_left hc ha
  have h2 := Rat.mul_le_mul_of_nonneg_right (Rat.le_of_lt hc) hb
  grind

/-- near squares have near roots -/
theorem sq_near {t X k : Rat} (ht : 0 ≤ t) (hX : 0 < X) (hk0 : 0 ≤ k) (hk : k ≤ 1 / 20) (h1 : t * t ≤ X * X + k * (X * X)) (h2 : X * X ≤ t * t + k * (X * X)) :
    19 / 10 * t ≤ 19 / 10 * X + k * X ∧ 19 / 10 * X ≤ 19 / 10 * t + k * X := by
  have hkX : 0 ≤ k * X := Rat.mul_nonneg hk0 (Rat.le_of_lt hX)
  have a2 : X ≤ t + k * X := by
    refine Rat.not_lt.mp fun hc => ?_
    have h3 := Rat.mul_lt_mul_of_pos_right hc hX
    have h4 : t * t ≤ t * X := Rat.mul_le_mul_of_nonneg_left (by grind) ht
    grind
  have hkX2 : k * X ≤ 1 / 20 * X := Rat.mul_le_mul_of_nonneg_right hk (Rat.le_of_lt hX)
  have a3 : 19 / 20 * X ≤ t := by grind
  constructor
  · refine Rat.not_lt.mp fun hc => ?_
    have hpos : 0 < t - X := by grind
    have h3 := Rat.mul_le_mul_of_nonneg_left (show 19 / 10 * X ≤ t + X by grind) (Rat.le_of_lt hpos)
    have h4 := Rat.mul_lt_mul_of_pos_right hc hX
    grind
  · refine Rat.not_lt.mp fun hc => ?_
    have hpos : 0 < X - t := by grind
    have h3 := Rat.mul_le_mul_of_nonneg_left (show 19 / 10 * X ≤ t + X by grind) (Rat.le_of_lt hpos)
    have h4 := Rat.mul_lt_mul_of_pos_right hc hX
    grind

theorem val_one : Val 0x3ff0000000000000 1 := by
  refine ⟨by decide, false, 2 ^ 52, -52, by decide, ?_⟩
  simp only [sg]
  rw [← P2_nat, ← P2_add]; exact P2_zero.symm

/-- THE MAGNITUDE's words: a is the greater part -/
theorem abs_words {xa xb : Nat} {a b : Rat} (ha : Val xa a) (hb : Val xb b) (h0 : 0 < a) (hb0 : 0 ≤ b) (hba : b ≤ a) (hat : a ≤ 1000000000000000) :
    ∃ q qq s t r, double.div xb xa = some q ∧ double.mul q q = some qq ∧ double.add 0x3ff0000000000000 qq = some s ∧ double.sqrt s = some t ∧ double.mul xa t = some r ∧
      ∃ c h, Val r c ∧ 0 ≤ h ∧ 0 ≤ c ∧ a * a * (h * h) ≤ a * a + b * b + 27 * u * (a * a) ∧ a * a + b * b ≤ a * a * (h * h) + 27 * u * (a * a) ∧ h ≤ 3 / 2 ∧ c ≤ a * h + (a * h * u + e) ∧ a * h ≤ c + (a * h * u + e) := by
  have hu := u_pos
  have hus := u_small
  have he := e_pos
  have hes := e_small
  have hT := big_top
  have huu : u * u ≤ 1 / 1000000 * u := Rat.mul_le_mul_of_nonneg_right hus (Rat.le_of_lt hu)
  obtain ⟨ρ, hρ⟩ : ∃ ρ, ρ = b / a := ⟨_, rfl⟩
  have hne : a ≠ 0 := by grind
  have hρb : ρ * a = b := by rw [hρ]; exact Rat.div_mul_cancel hne
  have hρ0 : 0 ≤ ρ := le_div h0 (by grind)
  have hρ1 : ρ ≤ 1 := le_div h0 (by grind)
  have hρu : ρ * u ≤ u := by
    have := Rat.mul_le_mul_of_nonneg_right hρ1 (Rat.le_of_lt hu); grind
  have hρu0 : 0 ≤ ρ * u := Rat.mul_nonneg hρ0 (Rat.le_of_lt hu)
  have hρu1 : ρ * u ≤ ρ := by
    have := Rat.mul_le_mul_of_nonneg_left (show u ≤ 1 by grind) hρ0; grind
  clear hρ
  -- the quotient
  have hS : ∀ S : Rat, (∀ M, -M ≤ b → b ≤ M → b - M * u ≤ S * a ∧ S * a ≤ b + M * u) → ρ - ρ * u ≤ S ∧ S ≤ ρ + ρ * u := by
    intro S h
    have := h b (by grind) (by grind)
    have e1 : (ρ - ρ * u) * a = b - b * u := by rw [← hρb]; grind
    have e2 : (ρ + ρ * u) * a = b + b * u := by rw [← hρb]; grind
    exact ⟨le_div h0 (by grind), le_div h0 (by grind)⟩
  obtain ⟨q, cq, S1, hq, hvq, hfq, hk1, -⟩ := div_val hb ha hne (fun S h => in_top hT (by have := hS S h; grind) (by have := hS S h; grind))
  have hS1 := hS S1 hk1
  have hS10 : 0 ≤ S1 := by grind
  have hn1 := hfq.near S1 (by grind) (by grind)
  have hq0 := hfq.up hS10
  have hSu : S1 * u ≤ 2 * u := Rat.mul_le_mul_of_nonneg_right (by grind) (Rat.le_of_lt hu)
  have hSu2 : S1 * u ≤ ρ * u + ρ * u * u := by
    have := Rat.mul_le_mul_of_nonneg_right hS1.2 (Rat.le_of_lt hu); grind
  have hρuu : ρ * u * u ≤ u * u := Rat.mul_le_mul_of_nonneg_right hρu (Rat.le_of_lt hu)
  have b1 : cq ≤ ρ + 3 * u := by grind
  have b2 : ρ ≤ cq + 3 * u := by grind
  clear hfq hk1 hS hn1
  -- its square
  have c1 : cq * cq ≤ ρ * ρ + 7 * u := by
    have f1 := Rat.mul_le_mul_of_nonneg_right b1 hq0
    have f2 := Rat.mul_le_mul_of_nonneg_left b1 (show 0 ≤ ρ + 3 * u by grind)
    grind
  have c2 : ρ * ρ ≤ cq * cq + 7 * u := by
    have f1 := Rat.mul_le_mul_of_nonneg_right b2 hρ0
    have f2 := Rat.mul_le_mul_of_nonneg_left b2 hq0
    have f3 : cq * u ≤ 1 * u + 3 * u * u := by
      have := Rat.mul_le_mul_of_nonneg_right b1 (Rat.le_of_lt hu)
      grind
    grind
  have hcc0 : 0 ≤ cq * cq := Rat.mul_nonneg hq0 hq0
  have hρρ : ρ * ρ ≤ 1 := by
    have := Rat.mul_le_mul_of_nonneg_right hρ1 hρ0; grind
  have hρρ0 : 0 ≤ ρ * ρ := Rat.mul_nonneg hρ0 hρ0
  have hl2 := in_top (S := cq * cq) hT (by grind) (by grind)
  obtain ⟨qq, cqq, hqq, hvqq, hfqq⟩ := mul_val hvq hvq hl2.1 hl2.2
  have hn2 := hfqq.near (cq * cq) (by grind) (by grind)
  have hqq0 := hfqq.up hcc0
  have hccu : cq * cq * u ≤ 11 / 10 * u := Rat.mul_le_mul_of_nonneg_right (by grind) (Rat.le_of_lt hu)
  have d1 : cqq ≤ ρ * ρ + 9 * u := by grind
  have d2 : ρ * ρ ≤ cqq + 9 * u := by grind
  clear hfqq hn2 hl2
  -- one more
  have hl3 := in_top (S := 1 + cqq) hT (by grind) (by grind)
  obtain ⟨s, cs, hs, hvs, hfs⟩ := add_val val_one hvqq hl3.1 hl3.2
  have hn3 := hfs.near (1 + cqq) (by grind) (by grind)
  have h1u : (1 + cqq) * u ≤ 21 / 10 * u := Rat.mul_le_mul_of_nonneg_right (by grind) (Rat.le_of_lt hu)
  have e1 : cs ≤ 1 + ρ * ρ + 12 * u := by grind
  have e2 : 1 + ρ * ρ ≤ cs + 12 * u := by grind
  clear hfs hn3 hl3
  -- the root
  obtain ⟨t, ct, S2, ht, hvt, hft, hS20, g1, g2⟩ := sqrt_val hvs (by grind) (Rat.le_trans (by grind) hT)
  have hcsu : cs * (2 * u) ≤ 21 / 5 * u := by
    have := Rat.mul_le_mul_of_nonneg_right (show cs ≤ 21 / 10 by grind) (show 0 ≤ 2 * u by grind)
    grind
  have hS2b : S2 ≤ 29 / 20 := sq_le (by grind) (by grind)
  have hn4 := hft.near S2 (by grind) (by grind)
  have hct0 := hft.up hS20
  have hS2u : S2 * u ≤ 29 / 20 * u := Rat.mul_le_mul_of_nonneg_right hS2b (Rat.le_of_lt hu)
  have hd1 : ct ≤ S2 + 3 / 2 * u := by grind
  have hd2 : S2 ≤ ct + 3 / 2 * u := by grind
  have i1 : ct * ct ≤ S2 * S2 + 5 * u := by
    have f1 := Rat.mul_le_mul_of_nonneg_right hd1 hct0
    have f2 := Rat.mul_le_mul_of_nonneg_left hd1 (show 0 ≤ S2 + 3 / 2 * u by grind)
    grind
  have i2 : S2 * S2 ≤ ct * ct + 5 * u := by
    have f1 := Rat.mul_le_mul_of_nonneg_right hd2 hS20
    have f2 := Rat.mul_le_mul_of_nonneg_left hd2 hct0
    have f3 : ct * u ≤ S2 * u + 3 / 2 * u * u := by
      have := Rat.mul_le_mul_of_nonneg_right hd1 (Rat.le_of_lt hu)
      grind
    grind
  have j1 : ct * ct ≤ 1 + ρ * ρ + 27 * u := by grind
  have j2 : 1 + ρ * ρ ≤ ct * ct + 27 * u := by grind
  have hctb : ct ≤ 3 / 2 := by grind
  clear hft hn4
  -- the product
  have hact0 : 0 ≤ a * ct := Rat.mul_nonneg (Rat.le_of_lt h0) hct0
  have hactb : a * ct ≤ 2000000000000000 := by
    have f1 := Rat.mul_le_mul_of_nonneg_left hctb (Rat.le_of_lt h0)
    grind
  have hT2 : (2000000000000001 : Rat) ≤ P2 1000 := by
    have h : P2 60 ≤ P2 1000 := P2_mono (by decide)
    have h3 : P2 60 = ((1152921504606846976 : Nat) : Rat) := P2_nat 60
    have h4 : ((1152921504606846976 : Nat) : Rat) = 1152921504606846976 := rfl
    rw [h3, h4] at h
    exact Rat.le_trans (by decide) h
  have hl5 : -P2 1000 < a * ct ∧ a * ct < P2 1000 := by
    clear hT
    generalize P2 1000 = T at *
    constructor <;> grind
  obtain ⟨r, cr, hr, hvr, hfr⟩ := mul_val ha hvt hl5.1 hl5.2
  have hn5 := hfr.near (a * ct) (by grind) (by grind)
  have haa : 0 ≤ a * a := Rat.mul_nonneg (Rat.le_of_lt h0) (Rat.le_of_lt h0)
  have hbb : b * b = a * a * (ρ * ρ) := by rw [← hρb]; grind
  have k1 := Rat.mul_le_mul_of_nonneg_left j1 haa
  have k2 := Rat.mul_le_mul_of_nonneg_left j2 haa
  refine ⟨q, qq, s, t, r, hq, hqq, hs, ht, hr, cr, ct, hvr, hct0, hfr.up hact0, ?_, ?_, hctb, ?_, ?_⟩
  · rw [hbb]; clear hT hT2 hl5; grind
  · rw [hbb]; clear hT hT2 hl5; grind
  · clear hT hT2 hl5; grind
  · clear hT hT2 hl5; grind
end Go.Proofs.YtiafhdkpncmbeaaDoor.Flt
