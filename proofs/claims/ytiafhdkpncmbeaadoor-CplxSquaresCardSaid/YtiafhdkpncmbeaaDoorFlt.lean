import Ieee.Arith
/- Floats, plain: what a rounded number is worth (Ieee.double), as a rational number. -/
namespace Go.Proofs.YtiafhdkpncmbeaaDoor.Flt
open Ieee

/-- two to a power -/
def P2 (p : Int) : Rat := (2 : Rat) ^ p
theorem P2_pos (p : Int) : 0 < P2 p := Rat.zpow_pos rfl
theorem P2_add (a b : Int) : P2 (a + b) = P2 a * P2 b := Rat.zpow_add (by decide) a b
theorem P2_nat (n : Nat) : P2 (n : Int) = ((2 ^ n : Nat) : Rat) := by unfold P2; rw [Rat.zpow_natCast, Rat.natCast_pow]; rfl
theorem P2_zero : P2 0 = 1 := Rat.zpow_zero 2
theorem P2_mono {a b : Int} (h : a ≤ b) : P2 a ≤ P2 b := by
  have hb : b = a + ((b - a).toNat : Int) := by omega
  rw [hb, P2_add, P2_nat]
  have h1 : (1 : Rat) ≤ ((2 ^ (b - a).toNat : Nat) : Rat) := by
    have h0 : ((1 : Nat) : Rat) ≤ ((2 ^ (b - a).toNat : Nat) : Rat) := Rat.natCast_le_natCast.mpr Nat.one_le_two_pow
    exact h0
  have := Rat.mul_le_mul_of_nonneg_left h1 (Rat.le_of_lt (P2_pos a))
  grind
theorem P2_lt {a b : Int} (h : P2 a < P2 b) : a < b := by
  refine Int.lt_of_not_ge fun hc => ?_
  have := P2_mono hc
  grind
theorem P2_sub_nat {a b : Int} (h : b ≤ a) : P2 a = ((2 ^ (a - b).toNat : Nat) : Rat) * P2 b := by
  have ha : a = ((a - b).toNat : Int) + b := by omega
  conv => lhs; rw [ha]
  rw [P2_add, P2_nat]

/-- what is cut to the nearest is at most half a unit off -/
theorem cut_near (s : Bool) (n d : Nat) : 2 * n ≤ 2 * (Toward.even.cut s n d * 2 ^ d) + 2 ^ d ∧ 2 * (Toward.even.cut s n d * 2 ^ d) ≤ 2 * n + 2 ^ d := by
  unfold Toward.cut
  rw [Nat.one_shiftLeft]
  dsimp only
  by_cases hd : d ≤ n.log2 + 2
  · rw [Nat.min_eq_left hd]
    have hg : 0 < 2 ^ d := Nat.two_pow_pos d
    have he := Nat.div_add_mod n (2 ^ d)
    have hl := Nat.mod_lt n hg
    generalize hG : 2 ^ d = G at *
    generalize hq : n / G = q at he
    generalize hr : n % G = r at he hl
    have hc : G * q = q * G := Nat.mul_comm _ _
    by_cases h1 : G < 2 * r
    · simp only [h1, decide_true, Bool.true_or, Bool.toNat_true]
      rw [Nat.add_mul]; omega
    · by_cases h2 : G = 2 * r
      · have h3 : decide (G < 2 * r) = false := by simp; omega
        have h4 : (G == 2 * r) = true := by simp; omega
        rw [h3, h4]
        simp only [Bool.true_and, Bool.false_or]
        rcases Nat.mod_two_eq_zero_or_one q with h5 | h5
        · simp [h5]; omega
        · simp [h5]; rw [Nat.add_mul]; omega
      · have h3 : decide (G < 2 * r) = false := by simp; omega
        have h4 : (G == 2 * r) = false := by simp; omega
        rw [h3, h4]
        simp; omega
  · have hlt : n < 2 ^ (n.log2 + 1) := Nat.lt_log2_self
    have hm : min d (n.log2 + 2) = n.log2 + 2 := by omega
    rw [hm]
    have hg : 2 ^ (n.log2 + 2) = 2 * 2 ^ (n.log2 + 1) := by rw [Nat.pow_succ]; omega
    have hle : 2 ^ (n.log2 + 2) ≤ 2 ^ d := Nat.pow_le_pow_right (by omega) (by omega)
    generalize hG : 2 ^ (n.log2 + 2) = G at *
    have hnG : n < G := by omega
    rw [Nat.div_eq_of_lt hnG, Nat.mod_eq_of_lt hnG]
    have h3 : decide (G < 2 * n) = false := by simp; omega
    have h4 : (G == 2 * n) = false := by simp; omega
    rw [h3, h4]
    simp; omega

theorem natCast_le {a b : Nat} (h : a ≤ b) : (a : Rat) ≤ (b : Rat) := Rat.natCast_le_natCast.mpr h
theorem natCast_lt {a b : Nat} (h : a < b) : (a : Rat) < (b : Rat) := Rat.natCast_lt_natCast.mpr h

/-- the place of the last digit that is kept -/
def last (mag : Nat) (place : Int) : Int := max (place + mag.log2 - 52) (-1074)
/-- the digits that are kept -/
def kept (neg : Bool) (mag : Nat) (place : Int) : Nat :=
  Toward.even.cut neg (mag <<< (place - last mag place).toNat) (last mag place - place).toNat

theorem nearest_eq (neg : Bool) (mag : Nat) (place : Int) (h : mag ≠ 0) :
    double.nearest neg mag place = double.word neg (min ((last mag place + 1074).toNat * 2 ^ 52 + kept neg mag place) (2047 * 2 ^ 52)) := by
  unfold Format.nearest
  rw [if_neg h]
  rfl

/-- half a unit -/
theorem kept_near (neg : Bool) (mag : Nat) (place : Int) :
    2 * (mag * P2 place) ≤ 2 * (kept neg mag place * P2 (last mag place)) + P2 (last mag place) ∧ 2 * (kept neg mag place * P2 (last mag place)) ≤ 2 * (mag * P2 place) + P2 (last mag place) := by
  unfold kept
  generalize last mag place = l
  have H := cut_near neg (mag <<< (place - l).toNat) (l - place).toNat
  generalize Toward.even.cut neg (mag <<< (place - l).toNat) (l - place).toNat = k at *
  rcases Int.le_total l place with hle | hle
  · have h0 : (l - place).toNat = 0 := by omega
    rw [h0, Nat.shiftLeft_eq] at H
    simp only [Nat.pow_zero, Nat.mul_one] at H
    have hk : k = mag * 2 ^ (place - l).toNat := by omega
    rw [P2_sub_nat hle, hk, Rat.natCast_mul]
    have := P2_pos l
    constructor <;> grind
  · have h0 : (place - l).toNat = 0 := by omega
    rw [h0, Nat.shiftLeft_eq] at H
    simp only [Nat.pow_zero, Nat.mul_one] at H
    rw [P2_sub_nat hle]
    generalize 2 ^ (l - place).toNat = D at *
    have h1 : ((2 * mag : Nat) : Rat) ≤ ((2 * (k * D) + D : Nat) : Rat) := natCast_le H.1
    have h2 : ((2 * (k * D) : Nat) : Rat) ≤ ((2 * mag + D : Nat) : Rat) := natCast_le H.2
    simp only [Rat.natCast_add, Rat.natCast_mul] at h1 h2
    have hp := Rat.le_of_lt (P2_pos place)
    have m1 := Rat.mul_le_mul_of_nonneg_right h1 hp
    have m2 := Rat.mul_le_mul_of_nonneg_right h2 hp
    have e2 : ((2 : Nat) : Rat) = 2 := rfl
    rw [e2] at m1 m2
    constructor <;> grind

/-- reading a rung -/
theorem read_word (neg : Bool) (l : Int) (k : Nat) (hl : -1074 ≤ l) (hl2 : l < 960) (hk : k ≤ 2 ^ 53) (hk2 : l = -1074 ∨ 2 ^ 52 ≤ k) :
    ∃ m p, double.read (double.word neg (min ((l + 1074).toNat * 2 ^ 52 + k) (2047 * 2 ^ 52))) = .number neg m p ∧ (m : Rat) * P2 p = k * P2 l := by
  have hmin : min ((l + 1074).toNat * 2 ^ 52 + k) (2047 * 2 ^ 52) = (l + 1074).toNat * 2 ^ 52 + k := by omega
  rw [hmin]
  generalize hr : (l + 1074).toNat * 2 ^ 52 + k = r
  have hw : double.word neg r = (if neg then 2 ^ 63 + r else r) := rfl
  have hread : double.read (double.word neg r) = (if r < 2 ^ 52 then .number neg r (-1074) else .number neg (2 ^ 52 + r % 2 ^ 52) (-1074 + (r / 2 ^ 52 - 1 : Nat))) := by
    have e1 : double.signWeight = 2 ^ 63 := rfl
    have e2 : double.binade = 2 ^ 52 := rfl
    have e3 : double.infRung = 2047 * 2 ^ 52 := rfl
    have e4 : double.leastPlace = -1074 := rfl
    unfold Format.read
    rw [e1, e2, e3, e4, hw]
    have hlt : r < 2047 * 2 ^ 52 := by omega
    have hs : ((if neg then 2 ^ 63 + r else r) / 2 ^ 63 % 2 == 1) = neg := by
      cases neg
      · simp; omega
      · simp; omega
    have hm : (if neg then 2 ^ 63 + r else r) % 2 ^ 63 = r := by
      cases neg
      · simp; omega
      · simp; omega
    dsimp only
    rw [hs, hm]
    by_cases h1 : r < 2 ^ 52
    · rw [if_pos h1, if_pos h1]
    · rw [if_neg h1, if_neg h1, if_pos hlt]
  rw [hread]
  by_cases h1 : r < 2 ^ 52
  · rw [if_pos h1]
    refine ⟨_, _, rfl, ?_⟩
    have h2 : l = -1074 := by omega
    have h3 : r = k := by omega
    rw [h2, h3]
  · rw [if_neg h1]
    refine ⟨_, _, rfl, ?_⟩
    by_cases h4 : k = 2 ^ 53
    · have h5 : 2 ^ 52 + r % 2 ^ 52 = 2 ^ 52 := by omega
      have h6 : (-1074 + (r / 2 ^ 52 - 1 : Nat) : Int) = l + 1 := by omega
      rw [h5, h6, h4, P2_add]
      have : P2 1 = 2 := Rat.zpow_one 2
      rw [this]
      have e : ((2 ^ 53 : Nat) : Rat) = ((2 ^ 52 : Nat) : Rat) * 2 := by
        have : (2 ^ 53 : Nat) = 2 ^ 52 * 2 := by decide
        rw [this, Rat.natCast_mul]; rfl
      rw [e]; grind
    · have h5 : 2 ^ 52 + r % 2 ^ 52 = k := by omega
      have h6 : (-1074 + (r / 2 ^ 52 - 1 : Nat) : Int) = l := by omega
      rw [h5, h6]

/-- the digits that are kept are as many as a word has -/
theorem kept_most (neg : Bool) (mag : Nat) (place : Int) : kept neg mag place ≤ 2 ^ 53 := by
  have H := (kept_near neg mag place).2
  have hv : (mag : Rat) * P2 place < ((2 ^ 53 : Nat) : Rat) * P2 (last mag place) := by
    have h1 : mag < 2 ^ (mag.log2 + 1) := Nat.lt_log2_self
    have h2 := Rat.mul_lt_mul_of_pos_right (natCast_lt h1) (P2_pos place)
    have h3 : (((2 ^ (mag.log2 + 1) : Nat) : Rat)) * P2 place ≤ ((2 ^ 53 : Nat) : Rat) * P2 (last mag place) := by
      rw [← P2_nat, ← P2_nat, ← P2_add, ← P2_add]
      apply P2_mono
      unfold last; omega
    grind
  refine Nat.le_of_not_lt fun hc => ?_
  have h4 : ((2 ^ 53 + 1 : Nat) : Rat) ≤ (kept neg mag place : Rat) := natCast_le hc
  rw [Rat.natCast_add] at h4
  have h5 := Rat.mul_le_mul_of_nonneg_right h4 (Rat.le_of_lt (P2_pos (last mag place)))
  have h6 := P2_pos (last mag place)
  have h7 : ((1 : Nat) : Rat) = 1 := rfl
  rw [h7] at h5
  grind

theorem kept_least (neg : Bool) (mag : Nat) (place : Int) (h0 : mag ≠ 0) : last mag place = -1074 ∨ 2 ^ 52 ≤ kept neg mag place := by
  by_cases hl : last mag place = -1074
  · exact .inl hl
  refine .inr ?_
  have hle : last mag place = place + mag.log2 - 52 := by unfold last at hl ⊢; omega
  have H := (kept_near neg mag place).1
  have hv : ((2 ^ 52 : Nat) : Rat) * P2 (last mag place) ≤ (mag : Rat) * P2 place := by
    have h1 : 2 ^ mag.log2 ≤ mag := Nat.log2_self_le h0
    have h2 := Rat.mul_le_mul_of_nonneg_right (natCast_le h1) (Rat.le_of_lt (P2_pos place))
    have h3 : ((2 ^ 52 : Nat) : Rat) * P2 (last mag place) = ((2 ^ mag.log2 : Nat) : Rat) * P2 place := by
      rw [← P2_nat, ← P2_nat, ← P2_add, ← P2_add]
      congr 1
      omega
    grind
  refine Nat.le_of_not_lt fun hc => ?_
  have h4 : (kept neg mag place + 1 : Nat) ≤ 2 ^ 52 := hc
  have h5 := natCast_le h4
  rw [Rat.natCast_add] at h5
  have h6 := Rat.mul_le_mul_of_nonneg_right h5 (Rat.le_of_lt (P2_pos (last mag place)))
  have h7 := P2_pos (last mag place)
  have h8 : ((1 : Nat) : Rat) = 1 := rfl
  rw [h8] at h6
  grind

/-- a number that a word can hold -/
def Rep (v : Rat) : Prop := ∃ (k : Nat) (q : Int), k < 2 ^ 53 ∧ -1074 ≤ q ∧ v = k * P2 q
def u : Rat := P2 (-53)
def e : Rat := P2 (-1075)

/-- ROUNDED: the nearest word of a number that is not too great -/
theorem nearest_ok (neg : Bool) (mag : Nat) (place : Int) (hb : (mag : Rat) * P2 place < P2 1000) :
    ∃ m p, double.read (double.nearest neg mag place) = .number neg m p ∧ (m : Rat) * P2 p ≤ mag * P2 place + (mag * P2 place * u + e) ∧ mag * P2 place ≤ (m : Rat) * P2 p + (mag * P2 place * u + e) ∧ (Rep (mag * P2 place) → (m : Rat) * P2 p = mag * P2 place) := by
  by_cases h0 : mag = 0
  · have hz : double.nearest neg mag place = double.word neg (min ((-1074 + 1074 : Int).toNat * 2 ^ 52 + 0) (2047 * 2 ^ 52)) := by
      unfold Format.nearest; rw [if_pos h0]; rfl
    obtain ⟨m, p, h1, h2⟩ := read_word neg (-1074) 0 (by decide) (by decide) (by decide) (.inl rfl)
    have hz0 : ((0 : Nat) : Rat) = 0 := rfl
    have he : 0 < e := P2_pos _
    refine ⟨m, p, by rw [hz]; exact h1, ?_, ?_, fun _ => ?_⟩ <;> rw [h2, h0, hz0] <;> grind
  have hll : -1074 ≤ last mag place := by unfold last; omega
  have hlow : P2 (place + mag.log2) ≤ mag * P2 place := by
    have h1 : 2 ^ mag.log2 ≤ mag := Nat.log2_self_le h0
    have h2 := Rat.mul_le_mul_of_nonneg_right (natCast_le h1) (Rat.le_of_lt (P2_pos place))
    rw [Int.add_comm, P2_add, P2_nat]; exact h2
  have hlt : place + mag.log2 < 1000 := P2_lt (by grind)
  have hhl : last mag place < 960 := by unfold last; omega
  obtain ⟨m, p, h1, h2⟩ := read_word neg (last mag place) (kept neg mag place) hll hhl (kept_most neg mag place) (kept_least neg mag place h0)
  have H := kept_near neg mag place
  refine ⟨m, p, by rw [nearest_eq neg mag place h0]; exact h1, ?_⟩
  rw [h2]
  have hhalf : P2 (last mag place) ≤ 2 * (mag * P2 place * u + e) := by
    have hu : 0 < u := P2_pos _
    have he : 0 < e := P2_pos _
    rcases Int.le_total (place + mag.log2 - 52) (-1074) with hc | hc
    · have : last mag place = 1 + -1075 := by unfold last; omega
      rw [this, P2_add]
      have h3 : P2 1 = 2 := Rat.zpow_one 2
      have h4 : 0 ≤ mag * P2 place * u := by
        have := P2_pos (place + mag.log2)
        exact Rat.mul_nonneg (by grind) (Rat.le_of_lt hu)
      have h5 : P2 (-1075) = e := rfl
      rw [h3, h5]; grind
    · have : last mag place = 1 + ((place + mag.log2) + -53) := by unfold last; omega
      rw [this, P2_add, P2_add]
      have h3 : P2 1 = 2 := Rat.zpow_one 2
      have h5 : P2 (-53) = u := rfl
      have h6 := Rat.mul_le_mul_of_nonneg_right hlow (Rat.le_of_lt hu)
      rw [h3, h5]; grind
  refine ⟨by grind, by grind, ?_⟩
  rintro ⟨k, q, hk, hq, hv⟩
  -- a whole number of units
  have hlq : last mag place ≤ q := by
    rcases Int.le_total (place + mag.log2 - 52) (-1074) with hc | hc
    · unfold last; omega
    · have h3 : P2 (place + mag.log2) < P2 (53 + q) := by
        have h4 := Rat.mul_lt_mul_of_pos_right (natCast_lt hk) (P2_pos q)
        have h6 : ((2 ^ 53 : Nat) : Rat) * P2 q = P2 (53 + q) := by
          rw [P2_add]; rw [← P2_nat]; rfl
        grind
      have := P2_lt h3
      unfold last; omega
  rw [hv]
  rw [hv] at H
  rw [P2_sub_nat hlq] at H ⊢
  generalize hj : 2 ^ (q - last mag place).toNat = j at *
  generalize kept neg mag place = c at *
  have hU := P2_pos (last mag place)
  generalize P2 (last mag place) = U at *
  clear h1 h2 hhalf hlq hhl hll
  have one : ((1 : Nat) : Rat) = 1 := rfl
  have key : c = k * j := by
    rcases Nat.lt_trichotomy c (k * j) with hc | hc | hc
    · have h3 := Rat.mul_le_mul_of_nonneg_right (natCast_le (show c + 1 ≤ k * j from hc)) (Rat.le_of_lt hU)
      rw [Rat.natCast_add, Rat.natCast_mul, one] at h3
      grind
    · exact hc
    · have h3 := Rat.mul_le_mul_of_nonneg_right (natCast_le (show k * j + 1 ≤ c from hc)) (Rat.le_of_lt hU)
      rw [Rat.natCast_add, Rat.natCast_mul, one] at h3
      grind
  rw [key, Rat.natCast_mul]
  grind
end Go.Proofs.YtiafhdkpncmbeaaDoor.Flt
