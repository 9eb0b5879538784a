import Derived.Test.YtiafhdkpncmbeaaDoorSqQ
/- Floats, plain: signs of words; whole numbers; the last comparison. -/
namespace Go.Proofs.YtiafhdkpncmbeaaDoor.Flt
open Ieee

/-- what a word's sign bit tells -/
theorem read_sign {x : Nat} {s : Bool} {m : Nat} {p : Int} (h : double.read x = .number s m p) : (x / 2 ^ 63 % 2 == 1) = s := by
  have e1 : double.signWeight = 2 ^ 63 := rfl
  unfold Format.read at h
  rw [e1] at h
  dsimp only at h
  generalize (x / 2 ^ 63 % 2 == 1) = z at *
  generalize x % 2 ^ 63 = y at *
  by_cases c1 : y < double.binade
  · rw [if_pos c1] at h; injection h
  · rw [if_neg c1] at h
    by_cases c2 : y < double.infRung
    · rw [if_pos c2] at h; injection h
    · rw [if_neg c2] at h
      by_cases c3 : y = double.infRung
      · rw [if_pos c3] at h; cases h
      · rw [if_neg c3] at h; cases h
theorem sign_up {x : Nat} {a : Rat} (hx : Val x a) (ha : 0 < a) : x / 9223372036854775808 = 0 := by
  obtain ⟨hlt, s, m, p, hr, hv⟩ := hx
  have hs := read_sign hr
  have hm := mag_nonneg m p
  cases s
  · have h0 : x / 2 ^ 63 % 2 ≠ 1 := by simpa using hs
    omega
  · simp only [sg] at hv; grind
theorem sign_down {x : Nat} {a : Rat} (hx : Val x a) (ha : a < 0) : x / 9223372036854775808 = 1 := by
  obtain ⟨hlt, s, m, p, hr, hv⟩ := hx
  have hs := read_sign hr
  have hm := mag_nonneg m p
  cases s
  · simp only [sg] at hv; grind
  · have h0 : x / 2 ^ 63 % 2 = 1 := by simpa using hs
    omega
/-- a sign put ahead of a word without one -/
theorem neg_val {x : Nat} {a : Rat} (hx : Val x a) (h0 : x / 9223372036854775808 = 0) : Val (x + 1 * 9223372036854775808) (-a) := by
  obtain ⟨hlt, s, m, p, hr, hv⟩ := hx
  have hs := read_sign hr
  have hs0 : s = false := by
    rw [← hs]
    have : x / 2 ^ 63 % 2 = 0 := by omega
    rw [this]; rfl
  subst hs0
  refine ⟨by omega, true, m, p, ?_, by rw [hv]; simp [sg]⟩
  have e1 : double.signWeight = 2 ^ 63 := rfl
  unfold Format.read at hr ⊢
  rw [e1] at hr ⊢
  dsimp only at hr ⊢
  have h1 : (x + 1 * 9223372036854775808) / 2 ^ 63 % 2 = 1 := by omega
  have h2 : (x + 1 * 9223372036854775808) % 2 ^ 63 = x % 2 ^ 63 := by omega
  rw [h1, h2]
  generalize x % 2 ^ 63 = y at *
  generalize (x / 2 ^ 63 % 2 == 1) = z at *
  have h3 : ((1 : Nat) == 1) = true := rfl
  rw [h3]
  clear hs h0 hlt h1 h2 h3
  by_cases c1 : y < double.binade
  · rw [if_pos c1] at hr ⊢
    injection hr with r1 r2 r3; rw [r2, r3]
  · rw [if_neg c1] at hr ⊢
    by_cases c2 : y < double.infRung
    · rw [if_pos c2] at hr ⊢
      injection hr with r1 r2 r3; rw [r2, r3]
    · rw [if_neg c2] at hr
      by_cases c3 : y = double.infRung
      · rw [if_pos c3] at hr; cases hr
      · rw [if_neg c3] at hr; cases hr

theorem val_zero : Val 0 0 := ⟨by decide, false, 0, -1074, by decide, by simp [sg, Rat.zero_mul]⟩
theorem val_max : Val 9218868437227405311 (9007199254740991 * P2 971) := by
  refine ⟨by decide, false, 9007199254740991, 971, by decide, ?_⟩
  have h : ((9007199254740991 : Nat) : Rat) = 9007199254740991 := rfl
  rw [h]
  generalize P2 971 = T
  simp only [sg, Bool.false_eq_true, if_false]
theorem max_big : (10000000000000000 : Rat) < 9007199254740991 * P2 971 := by
  have h : P2 4 ≤ P2 971 := P2_mono (by decide)
  generalize P2 971 = T at *
  have h3 : P2 4 = ((16 : Nat) : Rat) := P2_nat 4
  have h4 : ((16 : Nat) : Rat) = 16 := rfl
  rw [h3, h4] at h
  grind

theorem order_eq {x : Nat} {a : Rat} (hx : Val x a) : double.order x x = some .eq := by
  rw [order_val hx hx, if_neg (by grind), if_pos rfl]
theorem order_fin {x : Nat} {a : Rat} (hx : Val x a) (h1 : -1000000000000000 ≤ a) (h2 : a ≤ 1000000000000000) : double.order (x % 9223372036854775808) 9218868437227405311 = some .lt := by
  obtain ⟨v, hv, v0, v1, v2⟩ := abs_val hx
  have e : (2 : Nat) ^ 63 = 9223372036854775808 := by decide
  rw [e] at hv
  rw [order_val hv val_max, if_pos]
  have := max_big
  generalize 9007199254740991 * P2 971 = T at *
  rcases Rat.le_total (a := 0) (b := a) with h | h
  · rw [v1 h]; grind
  · rw [v2 h]; grind

theorem rep_int (n : Int) (h1 : -9007199254740992 < n) (h2 : n < 9007199254740992) : Rep (n : Rat) ∨ Rep (-(n : Rat)) := by
  by_cases hn : 0 ≤ n
  · refine .inl ⟨n.toNat, 0, by omega, by decide, ?_⟩
    rw [P2_zero, Rat.mul_one, ← Rat.intCast_natCast]; congr 1; omega
  · refine .inr ⟨(-n).toNat, 0, by omega, by decide, ?_⟩
    rw [P2_zero, Rat.mul_one, ← Rat.intCast_natCast, ← Rat.intCast_neg]; congr 1; omega

theorem int_top (n : Int) (h1 : -9007199254740992 < n) (h2 : n < 9007199254740992) : -P2 1000 < (n : Rat) ∧ (n : Rat) < P2 1000 := by
  have a1 : ((-9007199254740992 : Int) : Rat) < n := Rat.intCast_lt_intCast.mpr h1
  have a2 : (n : Rat) < ((9007199254740992 : Int) : Rat) := Rat.intCast_lt_intCast.mpr h2
  have e1 : ((-9007199254740992 : Int) : Rat) = -9007199254740992 := rfl
  have e2 : ((9007199254740992 : Int) : Rat) = 9007199254740992 := rfl
  rw [e1] at a1
  rw [e2] at a2
  have h : P2 60 ≤ P2 1000 := P2_mono (by decide)
  have h3 : P2 60 = ((1152921504606846976 : Nat) : Rat) := P2_nat 60
  have h4 : ((1152921504606846976 : Nat) : Rat) = 1152921504606846976 := rfl
  rw [h3, h4] at h
  generalize P2 1000 = T at *
  constructor <;> grind

/-- whole numbers are not rounded -/
theorem mul_int {x y : Nat} {a b : Int} (hx : Val x a) (hy : Val y b) (h1 : -9007199254740992 < a * b) (h2 : a * b < 9007199254740992) :
    ∃ z, double.mul x y = some z ∧ Val z ((a * b : Int) : Rat) := by
  have ht := int_top (a * b) h1 h2
  have hr := rep_int (a * b) h1 h2
  rw [Rat.intCast_mul] at ht hr
  obtain ⟨z, c, h, hv, hf⟩ := mul_val hx hy ht.1 ht.2
  refine ⟨z, h, ?_⟩
  rw [Rat.intCast_mul, ← hf.same hr]; exact hv
theorem add_int {x y : Nat} {a b : Int} (hx : Val x a) (hy : Val y b) (h1 : -9007199254740992 < a + b) (h2 : a + b < 9007199254740992) :
    ∃ z, double.add x y = some z ∧ Val z ((a + b : Int) : Rat) := by
  have ht := int_top (a + b) h1 h2
  have hr := rep_int (a + b) h1 h2
  rw [Rat.intCast_add] at ht hr
  obtain ⟨z, c, h, hv, hf⟩ := add_val hx hy ht.1 ht.2
  refine ⟨z, h, ?_⟩
  rw [Rat.intCast_add, ← hf.same hr]; exact hv
theorem sub_int {x y : Nat} {a b : Int} (hx : Val x a) (hy : Val y b) (h1 : -9007199254740992 < a - b) (h2 : a - b < 9007199254740992) :
    ∃ z, double.sub x y = some z ∧ Val z ((a - b : Int) : Rat) := by
  have ht := int_top (a - b) h1 h2
  have hr := rep_int (a - b) h1 h2
  rw [Rat.intCast_sub] at ht hr
  obtain ⟨z, c, h, hv, hf⟩ := sub_val hx hy ht.1 ht.2
  refine ⟨z, h, ?_⟩
  rw [Rat.intCast_sub, ← hf.same hr]; exact hv
end Go.Proofs.YtiafhdkpncmbeaaDoor.Flt
