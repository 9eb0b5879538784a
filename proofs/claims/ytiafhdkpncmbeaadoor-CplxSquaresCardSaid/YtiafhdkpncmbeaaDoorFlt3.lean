import Derived.Test.YtiafhdkpncmbeaaDoorFlt2
/- Floats, plain: the quotient and the root. -/
namespace Go.Proofs.YtiafhdkpncmbeaaDoor.Flt
open Ieee

theorem one_cast : ((1 : Nat) : Rat) = 1 := rfl
theorem two_cast : ((2 : Nat) : Rat) = 2 := rfl

/-- the digits of a quotient -/
theorem quo_digits (m n : Nat) (hm : m ≠ 0) (hn : n ≠ 0) (more : Nat) (hmore : more = 54 + n.log2 - m.log2) (st : Nat) (hst : st = ((m * 2 ^ more) % n != 0).toNat) :
    2 ^ 53 * ((2 * (m * 2 ^ more / n) + st) * n) ≤ (2 ^ 53 + 1) * (2 * (m * 2 ^ more)) ∧ 2 ^ 53 * (2 * (m * 2 ^ more)) ≤ 2 ^ 53 * ((2 * (m * 2 ^ more / n) + st) * n) + 2 * (m * 2 ^ more) := by
  have hbig : 2 ^ 53 * n ≤ m * 2 ^ more := by
    have h1 : 2 ^ m.log2 ≤ m := Nat.log2_self_le hm
    have h2 : n < 2 ^ (n.log2 + 1) := Nat.lt_log2_self
    have h3 : 2 ^ 53 * 2 ^ (n.log2 + 1) = 2 ^ (54 + n.log2) := by rw [← Nat.pow_add]; congr 1; omega
    have h4 : 2 ^ (54 + n.log2) ≤ 2 ^ (m.log2 + more) := Nat.pow_le_pow_right (by decide) (by omega)
    have h5 : 2 ^ (m.log2 + more) = 2 ^ m.log2 * 2 ^ more := Nat.pow_add _ _ _
    have h6 : 2 ^ m.log2 * 2 ^ more ≤ m * 2 ^ more := Nat.mul_le_mul_right _ h1
    have h7 : 2 ^ 53 * n ≤ 2 ^ 53 * 2 ^ (n.log2 + 1) := Nat.mul_le_mul_left _ (by omega)
    omega
  generalize m * 2 ^ more = D at *
  have he := Nat.div_add_mod D n
  have hl := Nat.mod_lt D (Nat.pos_of_ne_zero hn)
  generalize D / n = q at *
  generalize D % n = r at *
  have e1 : (2 * q + st) * n = 2 * (n * q) + st * n := by rw [Nat.add_mul]; congr 1; rw [Nat.mul_assoc, Nat.mul_comm q n]
  rw [e1]
  by_cases hr : r = 0
  · have : st = 0 := by rw [hst, hr]; rfl
    rw [this]; omega
  · have : st = 1 := by
      rw [hst]
      have : (r != 0) = true := by simp [hr]
      rw [this]; rfl
    rw [this]; omega

/-- THE QUOTIENT: what is rounded is near what it should be -/
theorem div_val {x y : Nat} {a b : Rat} (hx : Val x a) (hy : Val y b) (hb : b ≠ 0) (h1 : ∀ S : Rat, (∀ M, -M ≤ a → a ≤ M → a - M * u ≤ S * b ∧ S * b ≤ a + M * u) → -P2 1000 < S ∧ S < P2 1000) :
    ∃ z c S, double.div x y = some z ∧ Val z c ∧ Fl c S ∧ (∀ M, -M ≤ a → a ≤ M → a - M * u ≤ S * b ∧ S * b ≤ a + M * u) ∧ (a = 0 → S = 0) := by
  obtain ⟨-, s, m, i, hx, ha⟩ := hx
  obtain ⟨-, t, n, j, hy, hbb⟩ := hy
  have hn : n ≠ 0 := by
    rintro rfl
    refine hb ?_
    rw [hbb]
    have : ((0 : Nat) : Rat) = 0 := rfl
    rw [this, Rat.zero_mul]; cases t <;> simp [sg]
  generalize hmore : 54 + n.log2 - m.log2 = more
  generalize hst : ((m * 2 ^ more) % n != 0).toNat = st
  have hdiv : double.div x y = some (double.nearest (s ^^ t) (2 * (m * 2 ^ more / n) + st) (i - j - more - 1)) := by
    unfold Format.div
    rw [hx, hy]
    simp only [Datum.quotient]
    rw [if_neg hn]
    have e1 : double.fractionBits + 2 = 54 := rfl
    rw [e1, hmore, Nat.shiftLeft_eq, hst]
    rfl
  have hS : ∃ S, S = sg (s ^^ t) (((2 * (m * 2 ^ more / n) + st : Nat) : Rat) * P2 (i - j - more - 1)) := ⟨_, rfl⟩
  obtain ⟨S, hS⟩ := hS
  have hmul : S * b = sg s (((2 * (m * 2 ^ more / n) + st : Nat) : Rat) * n * (P2 (i - more - 1))) := by
    have e2 : P2 (i - more - 1) = P2 (i - j - more - 1) * P2 j := by rw [← P2_add]; congr 1; omega
    rw [hS, hbb, ← sg_xor, e2]
    have e3 : ((s ^^ t) ^^ t) = s := by cases s <;> cases t <;> rfl
    rw [e3]; congr 1; grind
  have hav : a = sg s (((2 * (m * 2 ^ more) : Nat) : Rat) * P2 (i - more - 1)) := by
    rw [ha, Rat.natCast_mul, Rat.natCast_mul, ← P2_nat, two_cast]
    congr 1
    have e4 : P2 i = P2 more * (2 * P2 (i - more - 1)) := by
      have e5 : P2 1 = 2 := Rat.zpow_one 2
      rw [← e5, ← P2_add, ← P2_add]; congr 1; omega
    rw [e4]; grind
  have hp := P2_pos (i - more - 1)
  have key : ∀ M, -M ≤ a → a ≤ M → a - M * u ≤ S * b ∧ S * b ≤ a + M * u := by
    intro M hM1 hM2
    rw [hmul]
    by_cases hm : m = 0
    · have h0 : a = 0 := by
        rw [ha, hm]
        have : ((0 : Nat) : Rat) = 0 := rfl
        rw [this, Rat.zero_mul]; cases s <;> simp [sg]
      have hst0 : st = 0 := by rw [← hst, hm]; simp
      have h3 : 2 * (m * 2 ^ more / n) + st = 0 := by rw [hst0, hm]; simp
      rw [h3, h0]
      have : ((0 : Nat) : Rat) = 0 := rfl
      rw [this, Rat.zero_mul, Rat.zero_mul]
      have hM0 : 0 ≤ M := by grind
      have := Rat.mul_nonneg hM0 (Rat.le_of_lt u_pos)
      cases s <;> simp only [sg] <;> constructor <;> grind
    · have H := quo_digits m n hm hn more hmore.symm st hst.symm
      generalize 2 * (m * 2 ^ more / n) + st = Q at *
      generalize 2 * (m * 2 ^ more) = D at *
      generalize P2 (i - more - 1) = U at *
      have H1 := Rat.mul_le_mul_of_nonneg_right (natCast_le H.1) (Rat.le_of_lt hp)
      have H2 := Rat.mul_le_mul_of_nonneg_right (natCast_le H.2) (Rat.le_of_lt hp)
      have hu : ((2 ^ 53 : Nat) : Rat) * u = 1 := by
        rw [← P2_nat]; unfold u; rw [← P2_add]; exact P2_zero
      simp only [Rat.natCast_mul, Rat.natCast_add, one_cast] at H1 H2
      have hD : (D : Rat) * U ≤ M := by
        cases s <;> simp only [sg] at hav <;> grind
      have hDu := Rat.mul_le_mul_of_nonneg_right hD (Rat.le_of_lt u_pos)
      have hu1 := Rat.mul_le_mul_of_nonneg_right H1 (Rat.le_of_lt u_pos)
      have hu2 := Rat.mul_le_mul_of_nonneg_right H2 (Rat.le_of_lt u_pos)
      generalize ((2 ^ 53 : Nat) : Rat) = T at *
      have f1 : T * ((Q : Rat) * n) * U * u = (Q : Rat) * n * U := by
        have : T * ((Q : Rat) * n) * U * u = (T * u) * ((Q : Rat) * n * U) := by grind
        rw [this, hu]; grind
      have f2 : (T + 1) * (D : Rat) * U * u = (D : Rat) * U + D * U * u := by
        have : (T + 1) * (D : Rat) * U * u = (T * u) * (D * U) + D * U * u := by grind
        rw [this, hu]; grind
      have f3 : T * (D : Rat) * U * u = (D : Rat) * U := by
        have : T * (D : Rat) * U * u = (T * u) * (D * U) := by grind
        rw [this, hu]; grind
      have f4 : (T * ((Q : Rat) * n) + D) * U * u = (Q : Rat) * n * U + D * U * u := by
        have : (T * ((Q : Rat) * n) + D) * U * u = (T * u) * ((Q : Rat) * n * U) + D * U * u := by grind
        rw [this, hu]; grind
      rw [f1, f2] at hu1
      rw [f3, f4] at hu2
      clear f1 f2 f3 f4 H1 H2 H
      cases s <;> simp only [sg] at hav ⊢ <;> constructor <;> grind
  have hlim := h1 S key
  obtain ⟨c, hc, hf⟩ := nearest_val _ _ _ S hS hlim.1 hlim.2
  refine ⟨_, c, S, hdiv, hc, hf, key, ?_⟩
  intro h0
  have := key 0 (by rw [h0]; decide) (by rw [h0]; decide)
  rw [h0, Rat.zero_mul] at this
  have h3 : S * b = 0 := by grind
  rcases Rat.mul_eq_zero.mp h3 with h4 | h4
  · exact h4
  · exact absurd h4 hb

theorem rootFrom_ok (n : Nat) : ∀ (todo root : Nat), root * root ≤ n → n < (root + 2 ^ todo) * (root + 2 ^ todo) →
    Datum.rootFrom n todo root * Datum.rootFrom n todo root ≤ n ∧ n < (Datum.rootFrom n todo root + 1) * (Datum.rootFrom n todo root + 1)
  | 0, root, h1, h2 => ⟨h1, h2⟩
  | todo + 1, root, h1, h2 => by
      unfold Datum.rootFrom
      dsimp only
      rw [Nat.one_shiftLeft]
      by_cases h : (root + 2 ^ todo) * (root + 2 ^ todo) ≤ n
      · rw [if_pos h]
        refine rootFrom_ok n todo _ h ?_
        have : root + 2 ^ todo + 2 ^ todo = root + 2 ^ (todo + 1) := by rw [Nat.pow_succ]; omega
        rw [this]; exact h2
      · rw [if_neg h]
        exact rootFrom_ok n todo _ h1 (Nat.lt_of_not_le h)

/-- the digits of a root -/
theorem root_digits (n : Nat) (hn : 2 ^ 108 ≤ n) (w : Nat) (hw : w = Datum.rootFrom n (n.log2 / 2 + 1) 0) (st : Nat) (hst : st = (w * w != n).toNat) :
    2 ^ 52 * ((2 * w + st) * (2 * w + st)) ≤ (2 ^ 52 + 1) * (4 * n) ∧ 2 ^ 52 * (4 * n) ≤ 2 ^ 52 * ((2 * w + st) * (2 * w + st)) + 4 * n := by
  have H := rootFrom_ok n (n.log2 / 2 + 1) 0 (Nat.zero_le _) (by
    rw [Nat.zero_add, ← Nat.pow_add]
    have h2 : n < 2 ^ (n.log2 + 1) := Nat.lt_log2_self
    have h3 : 2 ^ (n.log2 + 1) ≤ 2 ^ (n.log2 / 2 + 1 + (n.log2 / 2 + 1)) := Nat.pow_le_pow_right (by decide) (by omega)
    omega)
  rw [← hw] at H
  obtain ⟨H1, H2⟩ := H
  have hw53 : 2 ^ 53 ≤ w := by
    refine Nat.le_of_not_lt fun hc => ?_
    have h3 : w + 1 ≤ 2 ^ 53 := hc
    have h4 := Nat.mul_le_mul h3 h3
    omega
  have h5 : 2 ^ 53 * w ≤ w * w := Nat.mul_le_mul_right w hw53
  have e0 : (w + 1) * (w + 1) = w * w + 2 * w + 1 := by grind
  rw [e0] at H2
  by_cases h : w * w = n
  · have : st = 0 := by rw [hst]; simp [h]
    rw [this]
    have e1 : (2 * w + 0) * (2 * w + 0) = 4 * (w * w) := by grind
    rw [e1]; omega
  · have : st = 1 := by
      rw [hst]
      have : (w * w != n) = true := by simp [h]
      rw [this]; rfl
    rw [this]
    have e1 : (2 * w + 1) * (2 * w + 1) = 4 * (w * w) + 4 * w + 1 := by grind
    rw [e1]
    generalize w * w = W at *
    omega

/-- THE ROOT of a number above nought -/
theorem sqrt_val {x : Nat} {a : Rat} (hx : Val x a) (ha : 0 < a) (hb : a ≤ P2 1000) :
    ∃ z c S, double.sqrt x = some z ∧ Val z c ∧ Fl c S ∧ 0 ≤ S ∧ S * S ≤ a + a * (2 * u) ∧ a ≤ S * S + a * (2 * u) := by
  obtain ⟨-, s, m, i, hx, hav⟩ := hx
  have hmn := mag_nonneg m i
  have hs : s = false := by
    cases s
    · rfl
    · simp only [sg] at hav; clear hb; grind
  subst hs
  have hm : m ≠ 0 := by
    rintro rfl
    have h0 : ((0 : Nat) : Rat) = 0 := rfl
    rw [h0, Rat.zero_mul] at hav
    have : a = 0 := by simpa [sg] using hav
    clear hb; grind
  generalize hmore0 : 108 - m.log2 = more0
  generalize hmore : more0 + ((i - more0) % 2).toNat = more
  generalize hn : m * 2 ^ more = n
  generalize hw : Datum.rootFrom n (n.log2 / 2 + 1) 0 = w
  generalize hst : (w * w != n).toNat = st
  have hsq : double.sqrt x = some (double.nearest false (2 * w + st) ((i - more) / 2 - 1)) := by
    unfold Format.sqrt
    rw [hx]
    simp only [Datum.root]
    rw [if_neg hm]
    have e1 : 2 * (double.fractionBits + 2) = 108 := rfl
    rw [e1, hmore0, hmore, Nat.shiftLeft_eq, hn, hw, hst]
    rfl
  have hn108 : 2 ^ 108 ≤ n := by
    have h1 : 2 ^ m.log2 ≤ m := Nat.log2_self_le hm
    have h2 : 2 ^ 108 ≤ 2 ^ (m.log2 + more) := Nat.pow_le_pow_right (by decide) (by omega)
    have h3 : 2 ^ (m.log2 + more) = 2 ^ m.log2 * 2 ^ more := Nat.pow_add _ _ _
    have h4 : 2 ^ m.log2 * 2 ^ more ≤ m * 2 ^ more := Nat.mul_le_mul_right _ h1
    omega
  have H := root_digits n hn108 w hw.symm st hst.symm
  generalize hQ : 2 * w + st = Q at *
  obtain ⟨S, hS⟩ : ∃ S, S = (Q : Rat) * P2 ((i - more) / 2 - 1) := ⟨_, rfl⟩
  have hS0 : 0 ≤ S := by rw [hS]; exact mag_nonneg _ _
  have heven : (i - more) / 2 - 1 + ((i - more) / 2 - 1) = i - more - 2 := by omega
  have hSS : S * S = ((Q * Q : Nat) : Rat) * P2 (i - more - 2) := by
    rw [hS, ← heven, P2_add, Rat.natCast_mul]; grind
  have ha4 : a = ((4 * n : Nat) : Rat) * P2 (i - more - 2) := by
    clear hb
    have h4 : a = (m : Rat) * P2 i := by simpa [sg] using hav
    have e5 : P2 2 = ((4 : Nat) : Rat) := P2_nat 2
    rw [h4, Rat.natCast_mul, ← hn, Rat.natCast_mul, ← P2_nat, ← e5]
    have e4 : P2 i = P2 2 * P2 more * P2 (i - more - 2) := by
      rw [← P2_add, ← P2_add]; congr 1; omega
    rw [e4]; grind
  have hp := P2_pos (i - more - 2)
  have key : S * S ≤ a + a * (2 * u) ∧ a ≤ S * S + a * (2 * u) := by
    rw [hSS, ha4]
    clear hb hSS hsq hav
    have H1 := Rat.mul_le_mul_of_nonneg_right (natCast_le H.1) (Rat.le_of_lt hp)
    have H2 := Rat.mul_le_mul_of_nonneg_right (natCast_le H.2) (Rat.le_of_lt hp)
    have hu : ((2 ^ 52 : Nat) : Rat) * (2 * u) = 1 := by
      have e5 : P2 1 = 2 := Rat.zpow_one 2
      rw [← P2_nat, ← e5]; unfold u; rw [← P2_add, ← P2_add]; exact P2_zero
    generalize Q * Q = W at *
    generalize 4 * n = D at *
    generalize P2 (i - more - 2) = U at *
    have h2u : 0 ≤ 2 * u := by have := u_pos; grind
    have H3 := Rat.mul_le_mul_of_nonneg_right H1 h2u
    have H4 := Rat.mul_le_mul_of_nonneg_right H2 h2u
    simp only [Rat.natCast_mul, Rat.natCast_add, one_cast] at H3 H4
    generalize ((2 ^ 52 : Nat) : Rat) = T at *
    generalize 2 * u = v at *
    have f1 : T * (W : Rat) * U * v = (T * v) * (W * U) := by grind
    have f2 : (T + 1) * (D : Rat) * U * v = (T * v) * (D * U) + D * U * v := by grind
    have f3 : T * (D : Rat) * U * v = (T * v) * (D * U) := by grind
    have f4 : (T * (W : Rat) + D) * U * v = (T * v) * (W * U) + D * U * v := by grind
    rw [f1, f2, hu] at H3
    rw [f3, f4, hu] at H4
    constructor <;> grind
  have hlim : S < P2 1000 := by
    refine Rat.not_le.mp fun hc => ?_
    have h4 : 4 ≤ P2 1000 := by
      have e5 : P2 2 = ((4 : Nat) : Rat) := P2_nat 2
      have e6 : ((4 : Nat) : Rat) = 4 := rfl
      rw [← e6, ← e5]; exact P2_mono (by decide)
    have hu2 : 2 * u ≤ 1 := by
      have e5 : P2 1 = 2 := Rat.zpow_one 2
      have : P2 (1 + -53) ≤ P2 0 := P2_mono (by decide)
      rw [P2_add, P2_zero, e5] at this; exact this
    have h5 := Rat.mul_le_mul_of_nonneg_left hu2 (Rat.le_of_lt ha)
    have hS4 : 4 ≤ S := Rat.le_trans h4 hc
    have h6 := Rat.mul_le_mul_of_nonneg_right hS4 hS0
    have h7 := key.1
    have h8 := Rat.le_trans hb hc
    clear hc hb h4 hsq
    generalize a * (2 * u) = z at *
    grind
  have hp0 : -P2 1000 < S := by
    have := P2_pos 1000
    generalize P2 1000 = T at *
    grind
  obtain ⟨c, hc, hf⟩ := nearest_val false Q ((i - more) / 2 - 1) S (by rw [hS]; simp [sg]) hp0 hlim
  exact ⟨_, c, S, hsq, hc, hf, hS0, key.1, key.2⟩
end Go.Proofs.YtiafhdkpncmbeaaDoor.Flt
