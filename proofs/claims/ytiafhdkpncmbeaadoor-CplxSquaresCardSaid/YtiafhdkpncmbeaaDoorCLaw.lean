/- law.CplxSquares: of any two whole numbers of 32 bits. -/
import Derived.Test.YtiafhdkpncmbeaaDoorCW
namespace Go.Proofs.YtiafhdkpncmbeaaDoor
open Go.RowKit
open Flt

theorem val_mega : Val 4697254411347427328 1048576 := by
  refine ⟨by decide, false, 2 ^ 52, -32, by decide, ?_⟩
  have h3 : P2 20 = ((1048576 : Nat) : Rat) := P2_nat 20
  have h4 : ((1048576 : Nat) : Rat) = 1048576 := rfl
  simp only [sg]
  rw [← P2_nat, ← P2_add, ← h4, ← h3]; rfl
theorem val_mmega : Val 13920626448202203136 (-1048576) := by
  refine ⟨by decide, true, 2 ^ 52, -32, by decide, ?_⟩
  have h3 : P2 20 = ((1048576 : Nat) : Rat) := P2_nat 20
  have h4 : ((1048576 : Nat) : Rat) = 1048576 := rfl
  simp only [sg]
  rw [← P2_nat, ← P2_add, ← h4, ← h3]; rfl

theorem cast_le {a b : Int} : ((a : Rat) ≤ (b : Rat)) ↔ a ≤ b := Rat.intCast_le_intCast
theorem cast_lt {a b : Int} : ((a : Rat) < (b : Rat)) ↔ a < b := Rat.intCast_lt_intCast
theorem cast_eq {a b : Int} : ((a : Rat) = (b : Rat)) ↔ a = b := Rat.intCast_inj

/-- how the word of a whole number stands to another one's -/
theorem order_int {x y : Nat} {a b : Int} (hx : Val x a) (hy : Val y b) : FloatKind.f64.format.order x y = some (if a < b then .lt else if a = b then .eq else .gt) := by
  have h : FloatKind.f64.format.order x y = some (if (a : Rat) < b then .lt else if (a : Rat) = b then .eq else .gt) := order_val hx hy
  rw [h]
  simp only [cast_lt, cast_eq]

/-- all that the law reckons, where it reckons -/
theorem reckon {wx wy : Nat} {a b : Int} (hx : Val wx a) (hy : Val wy b) (a1 : 1 ≤ a) (a2 : a < 1048576) (b1 : -1048576 < b) (b2 : b < 1048576) :
    ∃ re im rr ri dr di dabs m q, Hid (∀ w, Calls Tryd.prog 6 #[.complex .f64 wx wy, .complex .f64 wx wy] w fun e w' => e = .returned (.complex .f64 re im) ∧ w = w') ∧
      Hid (∀ w, Calls Tryd.prog 5 #[.complex .f64 re im] w fun e w' => e = .returned (.tuple #[.complex .f64 rr ri, .int .i64 0]) ∧ w = w') ∧
      Hid (∀ w, Calls Tryd.prog 8 #[.complex .f64 rr ri, .complex .f64 wx wy] w fun e w' => e = .returned (.complex .f64 dr di) ∧ w = w') ∧
      Hid (∀ w, Calls Tryd.prog 7 #[.complex .f64 dr di] w fun e w' => e = .returned (.float .f64 dabs) ∧ w = w') ∧
      Hid (∀ w, Calls Tryd.prog 7 #[.complex .f64 wx wy] w fun e w' => e = .returned (.float .f64 m) ∧ w = w') ∧
      floatBits .quo .f64 m 4818851601286430720 = some q ∧ (FloatKind.f64.format.order dabs q == some .lt || FloatKind.f64.format.order dabs q == some .eq) = true := by
  have aa : 0 ≤ a * a ∧ a * a ≤ 1099511627776 := ⟨Int.mul_nonneg (by omega) (by omega), Int.le_trans (Int.mul_le_mul (show a ≤ 1048576 by omega) (show a ≤ 1048576 by omega) (by omega) (by omega)) (by decide)⟩
  have bb : 0 ≤ b * b ∧ b * b ≤ 1099511627776 := by
    by_cases h : 0 ≤ b
    · exact ⟨Int.mul_nonneg h h, Int.le_trans (Int.mul_le_mul (show b ≤ 1048576 by omega) (show b ≤ 1048576 by omega) h (by omega)) (by decide)⟩
    · have e1 : b * b = (-b) * (-b) := by grind
      rw [e1]
      exact ⟨Int.mul_nonneg (by omega) (by omega), Int.le_trans (Int.mul_le_mul (show -b ≤ 1048576 by omega) (show -b ≤ 1048576 by omega) (by omega) (by omega)) (by decide)⟩
  have ab : -1099511627776 ≤ a * b ∧ a * b ≤ 1099511627776 := by
    have h1 := Int.mul_le_mul_of_nonneg_left (show b ≤ 1048576 by omega) (show 0 ≤ a by omega)
    have h2 := Int.mul_le_mul_of_nonneg_left (show -1048576 ≤ b by omega) (show 0 ≤ a by omega)
    constructor <;> omega
  have ba : b * a = a * b := Int.mul_comm _ _
  obtain ⟨p, hp, vp⟩ := mul_int hx hx (by omega) (by omega)
  obtain ⟨q, hq, vq⟩ := mul_int hy hy (by omega) (by omega)
  obtain ⟨re, hre, vre⟩ := sub_int vp vq (by omega) (by omega)
  obtain ⟨r, hr, vr⟩ := mul_int hx hy (by omega) (by omega)
  obtain ⟨s, hs, vs⟩ := mul_int hy hx (by omega) (by omega)
  obtain ⟨im, him, vim⟩ := add_int vr vs (by omega) (by omega)
  clear aa bb ab
  rw [Rat.intCast_sub, Rat.intCast_mul, Rat.intCast_mul] at vre
  rw [Rat.intCast_add, Rat.intCast_mul, Rat.intCast_mul] at vim
  have x1 : (1 : Rat) ≤ (a : Rat) := (cast_le (a := 1)).mpr a1
  have x2 : (a : Rat) ≤ 1048576 := (cast_le (b := 1048576)).mpr (by omega)
  have y1 : (-1048576 : Rat) ≤ (b : Rat) := (cast_le (a := -1048576)).mpr (by omega)
  have y2 : (b : Rat) ≤ 1048576 := (cast_le (b := 1048576)).mpr (by omega)
  have HM := Lib.hid (mul_any wx wy wx wy p q r s re im hp hq hre hr hs him)
  clear a1 a2 b1 b2 ba hp hq hre hr hs him vp vq vr vs
  generalize (a : Rat) = x at *
  generalize (b : Rat) = y at *
  obtain ⟨rr, ri, c1, c2, X, HS, v1, v2, X1, X2, X3, X4, X5, n1, n2, n3, n4⟩ := zsqrt_val x1 x2 y1 y2 vre vim
  have hX1 : 1 ≤ X := by grind
  obtain ⟨dr, hdr, e1, vdr, o1, o2⟩ := off_words v1 hx hX1 X4 (k := 19 * u * X) (by grind) n1 n2
  obtain ⟨di, hdi, e2, vdi, o3, o4⟩ := off_words v2 hy hX1 X4 (k := 19 * u * X) (by grind) n3 n4
  have hu := u_pos
  have hus := u_small
  have huX : 20 * u * X ≤ 1000 := by
    have := Rat.mul_le_mul_of_nonneg_right hus (show 0 ≤ X by grind)
    grind
  have huX0 : 0 ≤ u * X := Rat.mul_nonneg (Rat.le_of_lt hu) (by grind)
  obtain ⟨dabs, cd, HD, vd, od⟩ := zabs_val vdr vdi (by grind) (by grind) (by grind) (by grind)
  obtain ⟨m, cm, HA, vm, om⟩ := zabs_val hx hy (by grind) (by grind) (by grind) (by grind)
  have hcd : cd ≤ 31 * u * X := by
    rcases od with ⟨h1, h2, h3⟩ | ⟨p, q, h, p0, q0, qp, hpq, -, -, -, -, hp, h0, c0, k1, k2, k3, k4, k5⟩
    · rw [h3]; grind
    · exact off_abs p0 hX1 (by rcases hp with h | h | h | h <;> rw [h] <;> grind) k3 k4
  rcases om with ⟨h1, h2, h3⟩ | ⟨p, q, h, p0, q0, qp, hpq, w1, w2, w3, w4, hp, h0, c0, k1, k2, k3, k4, k5⟩
  · exfalso; grind
  · have hpX : p = X := by
      have h1 : X ≤ p := by rcases X5 with h | h | h <;> rw [h] <;> assumption
      have h2 : p ≤ X := by rcases hp with h | h | h | h <;> rw [h] <;> grind
      grind
    obtain ⟨qq, hqq, vq, vvq, hle⟩ := mag_least vm p0 hpX hX1 X4 q0 h0 k2 k3 k5 k4
    have ho : FloatKind.f64.format.order dabs qq = some (if cd < vq then .lt else if cd = vq then .eq else .gt) := order_val vd vvq
    refine ⟨re, im, rr, ri, dr, di, dabs, m, qq, HM, HS, Lib.hid (sub_any rr ri wx wy dr di hdr hdi), HD, HA, hqq, ?_⟩
    rw [ho]
    by_cases hlt : cd < vq
    · rw [if_pos hlt]; rfl
    · rw [if_neg hlt, if_pos (by grind)]; rfl

set_option maxRecDepth 100000 in
set_option maxHeartbeats 1000000 in
theorem law_bad1 {w : World} {B : Nat} (ht : Tz B w) (hB : B ≤ w.heap.size) {wx wy : Nat} {a b : Int} (hwx : floatOfInt .f64 a = wx) (hwy : floatOfInt .f64 b = wy)
    (h1 : (FloatKind.f64.format.order wx 0 == some .lt || FloatKind.f64.format.order wx 0 == some .eq) = true) :
    Calls Tryd.prog 3 #[.int .i32 a, .int .i32 b] w fun e w' => e = .returned (.bool true) ∧ Below w.heap.size w w' := by
  have HW := Lib.hid (works_any ht hB)
  clear ht hB
  go_enter Tryd.func3, Tryd.ntmps3
  go_wp2_with (go_at_call 4; with_reducible refine HW.out.mono ?_; rintro _ W1 ⟨rfl, hb1⟩)
  go_ret
  exact ⟨rfl, hb1⟩

set_option maxRecDepth 100000 in
set_option maxHeartbeats 1000000 in
theorem law_bad2 {w : World} {B : Nat} (ht : Tz B w) (hB : B ≤ w.heap.size) {wx wy : Nat} {a b : Int} (hwx : floatOfInt .f64 a = wx) (hwy : floatOfInt .f64 b = wy)
    (h1 : (FloatKind.f64.format.order wx 0 == some .lt || FloatKind.f64.format.order wx 0 == some .eq) = false)
    (h2 : (FloatKind.f64.format.order wx 4697254411347427328 == some .gt || FloatKind.f64.format.order wx 4697254411347427328 == some .eq) = true) :
    Calls Tryd.prog 3 #[.int .i32 a, .int .i32 b] w fun e w' => e = .returned (.bool true) ∧ Below w.heap.size w w' := by
  have HW := Lib.hid (works_any ht hB)
  clear ht hB
  go_enter Tryd.func3, Tryd.ntmps3
  go_wp2_with (go_at_call 4; with_reducible refine HW.out.mono ?_; rintro _ W1 ⟨rfl, hb1⟩)
  go_ret
  exact ⟨rfl, hb1⟩

set_option maxRecDepth 100000 in
set_option maxHeartbeats 1000000 in
theorem law_bad3 {w : World} {B : Nat} (ht : Tz B w) (hB : B ≤ w.heap.size) {wx wy : Nat} {a b : Int} (hwx : floatOfInt .f64 a = wx) (hwy : floatOfInt .f64 b = wy)
    (h1 : (FloatKind.f64.format.order wx 0 == some .lt || FloatKind.f64.format.order wx 0 == some .eq) = false)
    (h2 : (FloatKind.f64.format.order wx 4697254411347427328 == some .gt || FloatKind.f64.format.order wx 4697254411347427328 == some .eq) = false)
    (h3 : (FloatKind.f64.format.order wy 13920626448202203136 == some .lt || FloatKind.f64.format.order wy 13920626448202203136 == some .eq) = true) :
    Calls Tryd.prog 3 #[.int .i32 a, .int .i32 b] w fun e w' => e = .returned (.bool true) ∧ Below w.heap.size w w' := by
  have HW := Lib.hid (works_any ht hB)
  clear ht hB
  go_enter Tryd.func3, Tryd.ntmps3
  go_wp2_with (go_at_call 4; with_reducible refine HW.out.mono ?_; rintro _ W1 ⟨rfl, hb1⟩)
  go_ret
  exact ⟨rfl, hb1⟩

set_option maxRecDepth 100000 in
set_option maxHeartbeats 1000000 in
theorem law_bad4 {w : World} {B : Nat} (ht : Tz B w) (hB : B ≤ w.heap.size) {wx wy : Nat} {a b : Int} (hwx : floatOfInt .f64 a = wx) (hwy : floatOfInt .f64 b = wy)
    (h1 : (FloatKind.f64.format.order wx 0 == some .lt || FloatKind.f64.format.order wx 0 == some .eq) = false)
    (h2 : (FloatKind.f64.format.order wx 4697254411347427328 == some .gt || FloatKind.f64.format.order wx 4697254411347427328 == some .eq) = false)
    (h3 : (FloatKind.f64.format.order wy 13920626448202203136 == some .lt || FloatKind.f64.format.order wy 13920626448202203136 == some .eq) = false)
    (h4 : (FloatKind.f64.format.order wy 4697254411347427328 == some .gt || FloatKind.f64.format.order wy 4697254411347427328 == some .eq) = true) :
    Calls Tryd.prog 3 #[.int .i32 a, .int .i32 b] w fun e w' => e = .returned (.bool true) ∧ Below w.heap.size w w' := by
  have HW := Lib.hid (works_any ht hB)
  clear ht hB
  go_enter Tryd.func3, Tryd.ntmps3
  go_wp2_with (go_at_call 4; with_reducible refine HW.out.mono ?_; rintro _ W1 ⟨rfl, hb1⟩)
  go_ret
  exact ⟨rfl, hb1⟩

set_option maxRecDepth 100000 in
set_option maxHeartbeats 1000000 in
theorem law_good {w : World} {B : Nat} (ht : Tz B w) (hB : B ≤ w.heap.size) {wx wy : Nat} {a b : Int} (hwx : floatOfInt .f64 a = wx) (hwy : floatOfInt .f64 b = wy)
    (h1 : (FloatKind.f64.format.order wx 0 == some .lt || FloatKind.f64.format.order wx 0 == some .eq) = false)
    (h2 : (FloatKind.f64.format.order wx 4697254411347427328 == some .gt || FloatKind.f64.format.order wx 4697254411347427328 == some .eq) = false)
    (h3 : (FloatKind.f64.format.order wy 13920626448202203136 == some .lt || FloatKind.f64.format.order wy 13920626448202203136 == some .eq) = false)
    (h4 : (FloatKind.f64.format.order wy 4697254411347427328 == some .gt || FloatKind.f64.format.order wy 4697254411347427328 == some .eq) = false)
    {re im rr ri dr di dabs m q : Nat} (HM : Hid (∀ w, Calls Tryd.prog 6 #[.complex .f64 wx wy, .complex .f64 wx wy] w fun e w' => e = .returned (.complex .f64 re im) ∧ w = w'))
    (HS : Hid (∀ w, Calls Tryd.prog 5 #[.complex .f64 re im] w fun e w' => e = .returned (.tuple #[.complex .f64 rr ri, .int .i64 0]) ∧ w = w'))
    (HD : Hid (∀ w, Calls Tryd.prog 8 #[.complex .f64 rr ri, .complex .f64 wx wy] w fun e w' => e = .returned (.complex .f64 dr di) ∧ w = w'))
    (H1 : Hid (∀ w, Calls Tryd.prog 7 #[.complex .f64 dr di] w fun e w' => e = .returned (.float .f64 dabs) ∧ w = w'))
    (H2 : Hid (∀ w, Calls Tryd.prog 7 #[.complex .f64 wx wy] w fun e w' => e = .returned (.float .f64 m) ∧ w = w'))
    (hq : floatBits .quo .f64 m 4818851601286430720 = some q) (hle : (FloatKind.f64.format.order dabs q == some .lt || FloatKind.f64.format.order dabs q == some .eq) = true) :
    Calls Tryd.prog 3 #[.int .i32 a, .int .i32 b] w fun e w' => e = .returned (.bool true) ∧ Below w.heap.size w w' := by
  have HW := Lib.hid (works_any ht hB)
  have HN := Lib.hid num_any
  have kq := fop _ _ _ _ hq
  clear ht hB hq
  go_enter Tryd.func3, Tryd.ntmps3
  go_wp2_with (first
    | (go_at_call 4; with_reducible refine HW.out.mono ?_; rintro _ W1 ⟨rfl, hb1⟩)
    | (go_at_call 6; with_reducible refine (HM.out _).mono ?_; rintro _ _ ⟨rfl, rfl⟩)
    | (go_at_call 5; with_reducible refine (HS.out _).mono ?_; rintro _ _ ⟨rfl, rfl⟩)
    | (go_at_call 8; with_reducible refine (HD.out _).mono ?_; rintro _ _ ⟨rfl, rfl⟩)
    | (go_at_call 7; first | (with_reducible refine (H1.out _).mono ?_; rintro _ _ ⟨rfl, rfl⟩) | (with_reducible refine (H2.out _).mono ?_; rintro _ _ ⟨rfl, rfl⟩))
    | (go_at_call 9; with_reducible refine (HN.out _ _).mono ?_; rintro _ _ ⟨rfl, rfl⟩)
    | simp only [kq])
  go_ret
  exact ⟨rfl, hb1⟩

/-- THE LAW -/
theorem squares_law {w : World} {B : Nat} (ht : Tz B w) (hB : B ≤ w.heap.size) {a b : Int} (a1 : -2147483648 ≤ a) (a2 : a ≤ 2147483647) (b1 : -2147483648 ≤ b) (b2 : b ≤ 2147483647) :
    Calls Tryd.prog 3 #[.int .i32 a, .int .i32 b] w fun e w' => e = .returned (.bool true) ∧ Below w.heap.size w w' := by
  obtain ⟨wx, hwx⟩ : ∃ wx, floatOfInt .f64 a = wx := ⟨_, rfl⟩
  obtain ⟨wy, hwy⟩ : ∃ wy, floatOfInt .f64 b = wy := ⟨_, rfl⟩
  have hx : Val wx a := by rw [← hwx]; exact of_int a (by omega) (by omega)
  have hy : Val wy b := by rw [← hwy]; exact of_int b (by omega) (by omega)
  have o1 := order_int (b := 0) hx val_zero
  have o2 := order_int (b := 1048576) hx val_mega
  have o3 := order_int (b := -1048576) hy val_mmega
  have o4 := order_int (b := 1048576) hy val_mega
  by_cases c1 : a ≤ 0
  · refine law_bad1 ht hB hwx hwy ?_
    rw [o1]
    by_cases h : a < 0
    · rw [if_pos h]; rfl
    · rw [if_neg h, if_pos (by omega)]; rfl
  have f1 : (FloatKind.f64.format.order wx 0 == some .lt || FloatKind.f64.format.order wx 0 == some .eq) = false := by
    rw [o1, if_neg (by omega), if_neg (by omega)]; rfl
  by_cases c2 : 1048576 ≤ a
  · refine law_bad2 ht hB hwx hwy f1 ?_
    rw [o2]
    by_cases h : a = 1048576
    · rw [if_neg (by omega), if_pos h]; rfl
    · rw [if_neg (by omega), if_neg h]; rfl
  have f2 : (FloatKind.f64.format.order wx 4697254411347427328 == some .gt || FloatKind.f64.format.order wx 4697254411347427328 == some .eq) = false := by
    rw [o2, if_pos (by omega)]; rfl
  by_cases c3 : b ≤ -1048576
  · refine law_bad3 ht hB hwx hwy f1 f2 ?_
    rw [o3]
    by_cases h : b < -1048576
    · rw [if_pos h]; rfl
    · rw [if_neg h, if_pos (by omega)]; rfl
  have f3 : (FloatKind.f64.format.order wy 13920626448202203136 == some .lt || FloatKind.f64.format.order wy 13920626448202203136 == some .eq) = false := by
    rw [o3, if_neg (by omega), if_neg (by omega)]; rfl
  by_cases c4 : 1048576 ≤ b
  · refine law_bad4 ht hB hwx hwy f1 f2 f3 ?_
    rw [o4]
    by_cases h : b = 1048576
    · rw [if_neg (by omega), if_pos h]; rfl
    · rw [if_neg (by omega), if_neg h]; rfl
  have f4 : (FloatKind.f64.format.order wy 4697254411347427328 == some .gt || FloatKind.f64.format.order wy 4697254411347427328 == some .eq) = false := by
    rw [o4, if_pos (by omega)]; rfl
  obtain ⟨re, im, rr, ri, dr, di, dabs, m, q, HM, HS, HD, H1, H2, hq, hle⟩ := reckon hx hy (by omega) (by omega) (by omega) (by omega)
  exact law_good ht hB hwx hwy f1 f2 f3 f4 HM HS HD H1 H2 hq hle
end Go.Proofs.YtiafhdkpncmbeaaDoor
