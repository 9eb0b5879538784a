/- cplx.Abs; math.Copysign; cplx.Sqrt: by the words that come of each step. -/
import Derived.Test.YtiafhdkpncmbeaaDoorC1
namespace Go.Proofs.YtiafhdkpncmbeaaDoor
open Go.RowKit
open Flt

/-- a word that is neither a NaN nor an infinity -/
structure Plain64 (x : Nat) : Prop where
  lt : x < 18446744073709551616
  eq : FloatKind.f64.format.order x x = some .eq
  fin : FloatKind.f64.format.order (x % 9223372036854775808) 9218868437227405311 = some .lt

/-- the words of a magnitude: the greater part p, the lesser part q, the answer r -/
def AbsSteps (p q r : Nat) : Prop := ∃ z zz s t, floatBits .quo .f64 q p = some z ∧ floatBits .mul .f64 z z = some zz ∧ floatBits .add .f64 4607182418800017408 zz = some s ∧ Ieee.double.sqrt s = some t ∧ floatBits .mul .f64 p t = some r

set_option maxRecDepth 100000 in
set_option maxHeartbeats 1000000 in
theorem zabs_gt (a b r : Nat) (ha : Plain64 a) (hb : Plain64 b) (hlt : (FloatKind.f64.format.order (a % 9223372036854775808) (b % 9223372036854775808) == some .lt) = false)
    (h0 : (FloatKind.f64.format.order (a % 9223372036854775808) 0 == some .eq) = false) (hr : AbsSteps (a % 9223372036854775808) (b % 9223372036854775808) r) (w : World) :
    Calls Tryd.prog 7 #[.complex .f64 a b] w fun e w' => e = .returned (.float .f64 r) ∧ w = w' := by
  have HA := Lib.hid (abs_any a ha.lt)
  have HB := Lib.hid (abs_any b hb.lt)
  have HI := Lib.hid (isinf_no (a % 9223372036854775808) (by omega) (by rw [Nat.mod_mod]; exact ha.fin))
  have HJ := Lib.hid (isinf_no (b % 9223372036854775808) (by omega) (by rw [Nat.mod_mod]; exact hb.fin))
  have HN := Lib.hid (nan_no a b ha.eq hb.eq)
  obtain ⟨z, zz, s, t, h1, h2, h3, h4, h5⟩ := hr
  have k1 := fop _ _ _ _ h1
  have k2 := fop _ _ _ _ h2
  have k3 := fop _ _ _ _ h3
  have k5 := fop _ _ _ _ h5
  have HR := Lib.hid (root_any s t h4)
  clear ha hb h1 h2 h3 h4 h5
  generalize a % 9223372036854775808 = p at *
  generalize b % 9223372036854775808 = q at *
  go_enter Tryd.func7, Tryd.ntmps7
  go_wp2_with (first
    | (go_at_call 16; first | (with_reducible refine (HA.out _).mono ?_; rintro _ _ ⟨rfl, rfl⟩) | (with_reducible refine (HB.out _).mono ?_; rintro _ _ ⟨rfl, rfl⟩))
    | (go_at_call 18; first | (with_reducible refine (HI.out _).mono ?_; rintro _ _ ⟨rfl, rfl⟩) | (with_reducible refine (HJ.out _).mono ?_; rintro _ _ ⟨rfl, rfl⟩))
    | (go_at_call 20; with_reducible refine (HN.out _).mono ?_; rintro _ _ ⟨rfl, rfl⟩)
    | (go_at_call 15; with_reducible refine (HR.out _).mono ?_; rintro _ _ ⟨rfl, rfl⟩)
    | simp only [k1, k2, k3, k5])
  go_ret
  exact ⟨rfl, rfl⟩

set_option maxRecDepth 100000 in
set_option maxHeartbeats 1000000 in
theorem zabs_lt (a b r : Nat) (ha : Plain64 a) (hb : Plain64 b) (hlt : (FloatKind.f64.format.order (a % 9223372036854775808) (b % 9223372036854775808) == some .lt) = true)
    (h0 : (FloatKind.f64.format.order (b % 9223372036854775808) 0 == some .eq) = false) (hr : AbsSteps (b % 9223372036854775808) (a % 9223372036854775808) r) (w : World) :
    Calls Tryd.prog 7 #[.complex .f64 a b] w fun e w' => e = .returned (.float .f64 r) ∧ w = w' := by
  have HA := Lib.hid (abs_any a ha.lt)
  have HB := Lib.hid (abs_any b hb.lt)
  have HI := Lib.hid (isinf_no (a % 9223372036854775808) (by omega) (by rw [Nat.mod_mod]; exact ha.fin))
  have HJ := Lib.hid (isinf_no (b % 9223372036854775808) (by omega) (by rw [Nat.mod_mod]; exact hb.fin))
  have HN := Lib.hid (nan_no a b ha.eq hb.eq)
  obtain ⟨z, zz, s, t, h1, h2, h3, h4, h5⟩ := hr
  have k1 := fop _ _ _ _ h1
  have k2 := fop _ _ _ _ h2
  have k3 := fop _ _ _ _ h3
  have k5 := fop _ _ _ _ h5
  have HR := Lib.hid (root_any s t h4)
  clear ha hb h1 h2 h3 h4 h5
  generalize a % 9223372036854775808 = p at *
  generalize b % 9223372036854775808 = q at *
  go_enter Tryd.func7, Tryd.ntmps7
  go_wp2_with (first
    | (go_at_call 16; first | (with_reducible refine (HA.out _).mono ?_; rintro _ _ ⟨rfl, rfl⟩) | (with_reducible refine (HB.out _).mono ?_; rintro _ _ ⟨rfl, rfl⟩))
    | (go_at_call 18; first | (with_reducible refine (HI.out _).mono ?_; rintro _ _ ⟨rfl, rfl⟩) | (with_reducible refine (HJ.out _).mono ?_; rintro _ _ ⟨rfl, rfl⟩))
    | (go_at_call 20; with_reducible refine (HN.out _).mono ?_; rintro _ _ ⟨rfl, rfl⟩)
    | (go_at_call 15; with_reducible refine (HR.out _).mono ?_; rintro _ _ ⟨rfl, rfl⟩)
    | simp only [k1, k2, k3, k5])
  go_ret
  exact ⟨rfl, rfl⟩

set_option maxRecDepth 100000 in
set_option maxHeartbeats 1000000 in
/-- the magnitude of nothing -/
theorem zabs_zero (a b : Nat) (ha : Plain64 a) (hb : Plain64 b) (hlt : (FloatKind.f64.format.order (a % 9223372036854775808) (b % 9223372036854775808) == some .lt) = false)
    (h0 : (FloatKind.f64.format.order (a % 9223372036854775808) 0 == some .eq) = true) (w : World) :
    Calls Tryd.prog 7 #[.complex .f64 a b] w fun e w' => e = .returned (.float .f64 0) ∧ w = w' := by
  have HA := Lib.hid (abs_any a ha.lt)
  have HB := Lib.hid (abs_any b hb.lt)
  have HI := Lib.hid (isinf_no (a % 9223372036854775808) (by omega) (by rw [Nat.mod_mod]; exact ha.fin))
  have HJ := Lib.hid (isinf_no (b % 9223372036854775808) (by omega) (by rw [Nat.mod_mod]; exact hb.fin))
  have HN := Lib.hid (nan_no a b ha.eq hb.eq)
  clear ha hb
  generalize a % 9223372036854775808 = p at *
  generalize b % 9223372036854775808 = q at *
  go_enter Tryd.func7, Tryd.ntmps7
  go_wp2_with (first
    | (go_at_call 16; first | (with_reducible refine (HA.out _).mono ?_; rintro _ _ ⟨rfl, rfl⟩) | (with_reducible refine (HB.out _).mono ?_; rintro _ _ ⟨rfl, rfl⟩))
    | (go_at_call 18; first | (with_reducible refine (HI.out _).mono ?_; rintro _ _ ⟨rfl, rfl⟩) | (with_reducible refine (HJ.out _).mono ?_; rintro _ _ ⟨rfl, rfl⟩))
    | (go_at_call 20; with_reducible refine (HN.out _).mono ?_; rintro _ _ ⟨rfl, rfl⟩))
  go_ret
  exact ⟨rfl, rfl⟩

/-- a sign put to a magnitude -/
theorem copy_bits (x y : Nat) (hx : x < 18446744073709551616) (hy : y < 18446744073709551616) :
    bits .or .u64 ((x % 2 ^ 63 : Nat) : Int) (bits .and .u64 (y : Int) 9223372036854775808) = ((x % 2 ^ 63 + y / 2 ^ 63 * 2 ^ 63 : Nat) : Int) := by
  have h1 := u64_and_nat y 9223372036854775808 hy (by decide)
  have h2 : y &&& 9223372036854775808 = y / 2 ^ 63 * 2 ^ 63 := by
    apply Nat.eq_of_testBit_eq
    intro i
    have e1 : (9223372036854775808 : Nat) = 2 ^ 63 := by decide
    rw [e1, Nat.testBit_and, Nat.testBit_two_pow, Nat.mul_comm (y / 2 ^ 63), Nat.testBit_two_pow_mul]
    by_cases hi : i = 63
    · subst hi
      have : (y / 2 ^ 63).testBit (63 - 63) = y.testBit 63 := by rw [Nat.testBit_div_two_pow]
      rw [this]; simp
    · have hq : y / 2 ^ 63 < 2 := by omega
      by_cases hg : 63 ≤ i
      · have : (y / 2 ^ 63).testBit (i - 63) = false := by
          apply Nat.testBit_lt_two_pow
          have : 2 ^ 1 ≤ 2 ^ (i - 63) := Nat.pow_le_pow_right (by decide) (by omega)
          omega
        rw [this]
        have h3 : ¬ 63 = i := fun h => hi h.symm
        simp [h3]
      · have h3 : ¬ 63 = i := fun h => hi h.symm
        simp [h3, hg]
  have h3 : bits .and .u64 (y : Int) 9223372036854775808 = ((y / 2 ^ 63 * 2 ^ 63 : Nat) : Int) := by rw [← h2]; exact h1
  rw [h3]
  have h4 := u64_or_nat (x % 2 ^ 63) (y / 2 ^ 63 * 2 ^ 63) (by omega) (by omega)
  rw [h4]
  congr 1
  rw [Nat.or_comm, Nat.mul_comm (y / 2 ^ 63), ← Nat.two_pow_add_eq_or_of_lt (by omega : x % 2 ^ 63 < 2 ^ 63)]
  omega

set_option maxRecDepth 100000 in
theorem copysign_any (x y : Nat) (hx : x < 18446744073709551616) (hy : y < 18446744073709551616) (w : World) :
    Calls Tryd.prog 17 #[.float .f64 x, .float .f64 y] w fun e w' => e = .returned (.float .f64 (x % 9223372036854775808 + y / 9223372036854775808 * 9223372036854775808)) ∧ w = w' := by
  have hb := run_bits
  have hf := run_frombits
  have ha := abs_bits x hx
  have hc := copy_bits x y hx hy
  clear hx hy
  have hz : ∃ z, z = bits .and .u64 (y : Int) 9223372036854775808 := ⟨_, rfl⟩
  obtain ⟨z, hz⟩ := hz
  rw [← hz] at hc
  have hz2 := hz.symm
  clear hz
  have e63 : (2 : Nat) ^ 63 = 9223372036854775808 := by decide
  rw [e63] at ha hc
  generalize x % 9223372036854775808 = p at *
  generalize p + y / 9223372036854775808 * 9223372036854775808 = q at *
  go_enter Tryd.func17, Tryd.ntmps17
  go_wp2
  go_ret
  exact ⟨rfl, rfl⟩
end Go.Proofs.YtiafhdkpncmbeaaDoor
