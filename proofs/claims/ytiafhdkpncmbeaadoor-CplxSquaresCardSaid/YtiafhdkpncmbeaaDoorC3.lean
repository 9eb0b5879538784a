/- cplx.Sqrt, by the words that come of each step. -/
import Derived.Test.YtiafhdkpncmbeaaDoorC2
namespace Go.Proofs.YtiafhdkpncmbeaaDoor
open Go.RowKit
open Flt

set_option maxRecDepth 100000 in
set_option maxHeartbeats 1000000 in
theorem zsqrt_up (a b r h1 h2 h t w2 o : Nat) (ha : Plain64 a) (hb : Plain64 b) (hz : (FloatKind.f64.format.order a 0 == some .eq && FloatKind.f64.format.order b 0 == some .eq) = false)
    (HR : Hid (∀ w, Calls Tryd.prog 7 #[.complex .f64 a b] w fun e w' => e = .returned (.float .f64 r) ∧ w = w'))
    (k1 : floatBits .mul .f64 4602678819172646912 r = some h1) (k2 : floatBits .mul .f64 4602678819172646912 (a % 9223372036854775808) = some h2) (k3 : floatBits .add .f64 h1 h2 = some h) (k4 : Ieee.double.sqrt h = some t)
    (k5 : floatBits .mul .f64 4611686018427387904 t = some w2) (k6 : floatBits .quo .f64 b w2 = some o)
    (hge : (FloatKind.f64.format.order a 0 == some .gt || FloatKind.f64.format.order a 0 == some .eq) = true) (w : World) :
    Calls Tryd.prog 5 #[.complex .f64 a b] w fun e w' => e = .returned (.tuple #[.complex .f64 t o, .int .i64 0]) ∧ w = w' := by
  have HF := Lib.hid (finitez_yes a b ha.lt hb.lt ha.eq ha.fin hb.eq hb.fin)
  have HP := Lib.hid (parts_any a b)
  have HA := Lib.hid (abs_any a ha.lt)
  have HQ := Lib.hid (root_any h t k4)
  have m1 := fop _ _ _ _ k1
  have m2 := fop _ _ _ _ k2
  have m3 := fop _ _ _ _ k3
  have m5 := fop _ _ _ _ k5
  have m6 := fop _ _ _ _ k6
  clear ha hb k1 k2 k3 k4 k5 k6
  generalize a % 9223372036854775808 = p at *
  go_enter Tryd.func5, Tryd.ntmps5
  go_wp2_with (first
    | (go_at_call 13; with_reducible refine (HP.out _).mono ?_; rintro _ _ ⟨rfl, rfl⟩)
    | (go_at_call 14; with_reducible refine (HF.out _).mono ?_; rintro _ _ ⟨rfl, rfl⟩)
    | (go_at_call 16; with_reducible refine (HA.out _).mono ?_; rintro _ _ ⟨rfl, rfl⟩)
    | (go_at_call 7; with_reducible refine (HR.out _).mono ?_; rintro _ _ ⟨rfl, rfl⟩)
    | (go_at_call 15; with_reducible refine (HQ.out _).mono ?_; rintro _ _ ⟨rfl, rfl⟩)
    | simp only [m1, m2, m3, m5, m6])
  go_ret2
  exact ⟨rfl, rfl⟩

set_option maxRecDepth 100000 in
set_option maxHeartbeats 1000000 in
theorem zsqrt_down (a b r h1 h2 h t w2 o : Nat) (ha : Plain64 a) (hb : Plain64 b) (ht : t < 18446744073709551616) (hz : (FloatKind.f64.format.order a 0 == some .eq && FloatKind.f64.format.order b 0 == some .eq) = false)
    (HR : Hid (∀ w, Calls Tryd.prog 7 #[.complex .f64 a b] w fun e w' => e = .returned (.float .f64 r) ∧ w = w'))
    (k1 : floatBits .mul .f64 4602678819172646912 r = some h1) (k2 : floatBits .mul .f64 4602678819172646912 (a % 9223372036854775808) = some h2) (k3 : floatBits .add .f64 h1 h2 = some h) (k4 : Ieee.double.sqrt h = some t)
    (k5 : floatBits .mul .f64 4611686018427387904 t = some w2) (k6 : floatBits .quo .f64 (b % 9223372036854775808) w2 = some o)
    (hge : (FloatKind.f64.format.order a 0 == some .gt || FloatKind.f64.format.order a 0 == some .eq) = false) (w : World) :
    Calls Tryd.prog 5 #[.complex .f64 a b] w fun e w' => e = .returned (.tuple #[.complex .f64 o (t % 9223372036854775808 + b / 9223372036854775808 * 9223372036854775808), .int .i64 0]) ∧ w = w' := by
  have HF := Lib.hid (finitez_yes a b ha.lt hb.lt ha.eq ha.fin hb.eq hb.fin)
  have HP := Lib.hid (parts_any a b)
  have HA := Lib.hid (abs_any a ha.lt)
  have HB := Lib.hid (abs_any b hb.lt)
  have HC := Lib.hid (copysign_any t b ht hb.lt)
  have HQ := Lib.hid (root_any h t k4)
  have m1 := fop _ _ _ _ k1
  have m2 := fop _ _ _ _ k2
  have m3 := fop _ _ _ _ k3
  have m5 := fop _ _ _ _ k5
  have m6 := fop _ _ _ _ k6
  clear ha hb ht k1 k2 k3 k4 k5 k6
  generalize t % 9223372036854775808 + b / 9223372036854775808 * 9223372036854775808 = c at *
  generalize a % 9223372036854775808 = p at *
  generalize b % 9223372036854775808 = q at *
  go_enter Tryd.func5, Tryd.ntmps5
  go_wp2_with (first
    | (go_at_call 13; with_reducible refine (HP.out _).mono ?_; rintro _ _ ⟨rfl, rfl⟩)
    | (go_at_call 14; with_reducible refine (HF.out _).mono ?_; rintro _ _ ⟨rfl, rfl⟩)
    | (go_at_call 16; first | (with_reducible refine (HA.out _).mono ?_; rintro _ _ ⟨rfl, rfl⟩) | (with_reducible refine (HB.out _).mono ?_; rintro _ _ ⟨rfl, rfl⟩))
    | (go_at_call 7; with_reducible refine (HR.out _).mono ?_; rintro _ _ ⟨rfl, rfl⟩)
    | (go_at_call 15; with_reducible refine (HQ.out _).mono ?_; rintro _ _ ⟨rfl, rfl⟩)
    | (go_at_call 17; with_reducible refine (HC.out _).mono ?_; rintro _ _ ⟨rfl, rfl⟩)
    | simp only [m1, m2, m3, m5, m6])
  go_ret2
  exact ⟨rfl, rfl⟩
end Go.Proofs.YtiafhdkpncmbeaaDoor
