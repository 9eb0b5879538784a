/- The leaf functions on floats: bits, magnitude, sign, root, what is finite. -/
import Derived.Test.YtiafhdkpncmbeaaDoorChecked
import Derived.Test.YtiafhdkpncmbeaaDoorKit
import Derived.Test.YtiafhdkpncmbeaaDoorSqQ
import Derived.WalkLawsBesides
import Derived.BigQuiet
namespace Go.Proofs.YtiafhdkpncmbeaaDoor
open Go.RowKit
open Flt

theorem run_frombits (n : Int) (w : World) : (callFunc 28 #[.int .u64 n]).run Tryd.prog w = .ok (.value (.float .f64 n.toNat)) w := by
  rw [run_callFunc_extern Tryd.func28 (by kernel_rfl) (by kernel_rfl) (by kernel_rfl) (e := Extern.MathFloatBits.float64frombits) (by kernel_rfl)]
  rfl
theorem run_bits (n : Nat) (w : World) : (callFunc 29 #[.float .f64 n]).run Tryd.prog w = .ok (.value (.int .u64 (n : Int))) w := by
  rw [run_callFunc_extern Tryd.func29 (by kernel_rfl) (by kernel_rfl) (by kernel_rfl) (e := Extern.MathFloatBits.float64bits) (by kernel_rfl)]
  rfl
theorem run_root (n r : Nat) (w : World) (h : Ieee.double.sqrt n = some r) : (callFunc 27 #[.float .f64 n]).run Tryd.prog w = .ok (.value (.float .f64 r)) w := by
  rw [run_callFunc_extern Tryd.func27 (by kernel_rfl) (by kernel_rfl) (by kernel_rfl) (e := Extern.MathSqrt.sqrt) (by kernel_rfl)]
  have h2 : FloatKind.f64.format.sqrt n = some r := h
  have h3 : Extern.MathSqrt.sqrt #[.float .f64 n] = pure (.float .f64 r) := by
    show (match FloatKind.f64.format.sqrt n with | some r => pure (Value.float .f64 r) | none => (do let z ← choose (Question.nanBits .f64 n n); pure (Value.float .f64 z))) = pure (Value.float .f64 r)
    rw [h2]
  rw [h3]
  rfl

theorem abs_bits (x : Nat) (h : x < 18446744073709551616) : bits .andNot .u64 (x : Int) 9223372036854775808 = ((x % 2 ^ 63 : Nat) : Int) := by
  have h1 := u64_andNot_nat x 9223372036854775808 h (by decide)
  have h2 : x &&& (18446744073709551615 - 9223372036854775808) = x % 2 ^ 63 := Nat.and_two_pow_sub_one_eq_mod x 63
  rw [h2] at h1
  exact h1

theorem ret_f64 {a b : Nat} (h : a = b) : Ending.returned (.float .f64 a) = .returned (.float .f64 b) := by rw [h]

set_option maxRecDepth 100000 in
theorem abs_any (x : Nat) (hx : x < 18446744073709551616) (w : World) :
    Calls Tryd.prog 16 #[.float .f64 x] w fun e w' => e = .returned (.float .f64 (x % 9223372036854775808)) ∧ w = w' := by
  have hb := run_bits
  have hf := run_frombits
  have ha := abs_bits x hx
  clear hx
  go_enter Tryd.func16, Tryd.ntmps16
  go_wp2
  go_ret
  exact ⟨rfl, rfl⟩

/-- a float operation on words -/
theorem fop (op : BinOp) (x y r : Nat) (h : floatBits op .f64 x y = some r) : ∀ (t : TypeId) (w : World), (binOp op t (.float .f64 x) (.float .f64 y)).run Tryd.prog w = .ok (.float .f64 r) w :=
  fun t w => run_float_arith w op t .f64 x y r h

set_option maxRecDepth 100000 in
theorem isinf_no (x : Nat) (hx : x < 18446744073709551616) (h : FloatKind.f64.format.order (x % 9223372036854775808) 9218868437227405311 = some .lt) (w : World) :
    Calls Tryd.prog 18 #[.float .f64 x, .int .i64 0] w fun e w' => e = .returned (.bool false) ∧ w = w' := by
  have HA := Lib.hid (abs_any x hx)
  clear hx
  go_enter Tryd.func18, Tryd.ntmps18
  go_wp2_with ((go_at_call 16; with_reducible refine (HA.out _).mono ?_; rintro _ _ ⟨rfl, rfl⟩))
  go_ret
  exact ⟨rfl, rfl⟩
set_option maxRecDepth 100000 in
theorem isnan_no (x : Nat) (h : FloatKind.f64.format.order x x = some .eq) (w : World) :
    Calls Tryd.prog 33 #[.float .f64 x] w fun e w' => e = .returned (.bool false) ∧ w = w' := by
  go_enter Tryd.func33, Tryd.ntmps33
  go_wp2
  go_ret
  exact ⟨rfl, rfl⟩
set_option maxRecDepth 100000 in
theorem finite_yes (x : Nat) (hx : x < 18446744073709551616) (h1 : FloatKind.f64.format.order x x = some .eq) (h2 : FloatKind.f64.format.order (x % 9223372036854775808) 9218868437227405311 = some .lt) (w : World) :
    Calls Tryd.prog 26 #[.float .f64 x] w fun e w' => e = .returned (.bool true) ∧ w = w' := by
  have H1 := Lib.hid (isnan_no x h1)
  have H2 := Lib.hid (isinf_no x hx h2)
  clear hx h1 h2
  go_enter Tryd.func26, Tryd.ntmps26
  go_wp2_with (first | (go_at_call 33; with_reducible refine (H1.out _).mono ?_; rintro _ _ ⟨rfl, rfl⟩) | (go_at_call 18; with_reducible refine (H2.out _).mono ?_; rintro _ _ ⟨rfl, rfl⟩))
  go_ret
  exact ⟨rfl, rfl⟩
set_option maxRecDepth 100000 in
theorem parts_any (a b : Nat) (w : World) :
    Calls Tryd.prog 13 #[.complex .f64 a b] w fun e w' => e = .returned (.tuple #[.float .f64 a, .float .f64 b]) ∧ w = w' := by
  go_enter Tryd.func13, Tryd.ntmps13
  go_wp2
  go_ret2
  exact ⟨rfl, rfl⟩
set_option maxRecDepth 100000 in
theorem finitez_yes (a b : Nat) (ha : a < 18446744073709551616) (hb : b < 18446744073709551616) (h1 : FloatKind.f64.format.order a a = some .eq) (h2 : FloatKind.f64.format.order (a % 9223372036854775808) 9218868437227405311 = some .lt)
    (h3 : FloatKind.f64.format.order b b = some .eq) (h4 : FloatKind.f64.format.order (b % 9223372036854775808) 9218868437227405311 = some .lt) (w : World) :
    Calls Tryd.prog 14 #[.complex .f64 a b] w fun e w' => e = .returned (.bool true) ∧ w = w' := by
  have H1 := Lib.hid (finite_yes a ha h1 h2)
  have H2 := Lib.hid (finite_yes b hb h3 h4)
  clear ha hb h1 h2 h3 h4
  go_enter Tryd.func14, Tryd.ntmps14
  go_wp2_with (go_at_call 26; first | (with_reducible refine (H1.out _).mono ?_; rintro _ _ ⟨rfl, rfl⟩) | (with_reducible refine (H2.out _).mono ?_; rintro _ _ ⟨rfl, rfl⟩))
  go_ret
  exact ⟨rfl, rfl⟩
set_option maxRecDepth 100000 in
theorem nan_no (a b : Nat) (h1 : FloatKind.f64.format.order a a = some .eq) (h3 : FloatKind.f64.format.order b b = some .eq) (w : World) :
    Calls Tryd.prog 20 #[.complex .f64 a b] w fun e w' => e = .returned (.bool false) ∧ w = w' := by
  have HP := parts_any
  go_enter Tryd.func20, Tryd.ntmps20
  go_wp2_with (go_at_call 13; with_reducible refine (HP _ _ _).mono ?_; rintro _ _ ⟨rfl, rfl⟩)
  go_ret
  exact ⟨rfl, rfl⟩
set_option maxRecDepth 100000 in
theorem root_any (x r : Nat) (h : Ieee.double.sqrt x = some r) (w : World) :
    Calls Tryd.prog 15 #[.float .f64 x] w fun e w' => e = .returned (.float .f64 r) ∧ w = w' := by
  have hr := fun w => run_root x r w h
  go_enter Tryd.func15, Tryd.ntmps15
  go_wp2
  go_ret
  exact ⟨rfl, rfl⟩
set_option maxRecDepth 100000 in
theorem mul_any (a b c d p q r s re im : Nat) (h1 : floatBits .mul .f64 a c = some p) (h2 : floatBits .mul .f64 b d = some q) (h3 : floatBits .sub .f64 p q = some re)
    (h4 : floatBits .mul .f64 a d = some r) (h5 : floatBits .mul .f64 b c = some s) (h6 : floatBits .add .f64 r s = some im) (w : World) :
    Calls Tryd.prog 6 #[.complex .f64 a b, .complex .f64 c d] w fun e w' => e = .returned (.complex .f64 re im) ∧ w = w' := by
  have HP := parts_any
  have k1 := fop _ _ _ _ h1
  have k2 := fop _ _ _ _ h2
  have k3 := fop _ _ _ _ h3
  have k4 := fop _ _ _ _ h4
  have k5 := fop _ _ _ _ h5
  have k6 := fop _ _ _ _ h6
  clear h1 h2 h3 h4 h5 h6
  go_enter Tryd.func6, Tryd.ntmps6
  go_wp2_with (first | (go_at_call 13; with_reducible refine (HP _ _ _).mono ?_; rintro _ _ ⟨rfl, rfl⟩) | simp only [k1, k2, k3, k4, k5, k6])
  go_ret
  exact ⟨rfl, rfl⟩
set_option maxRecDepth 100000 in
theorem sub_any (a b c d re im : Nat) (h1 : floatBits .sub .f64 a c = some re) (h2 : floatBits .sub .f64 b d = some im) (w : World) :
    Calls Tryd.prog 8 #[.complex .f64 a b, .complex .f64 c d] w fun e w' => e = .returned (.complex .f64 re im) ∧ w = w' := by
  have k1 := fop _ _ _ _ h1
  have k2 := fop _ _ _ _ h2
  clear h1 h2
  go_enter Tryd.func8, Tryd.ntmps8
  go_wp2_with (simp only [k1, k2])
  go_ret
  exact ⟨rfl, rfl⟩
set_option maxRecDepth 100000 in
theorem num_any (n : Int) (w : World) : Calls Tryd.prog 9 #[.int .i64 n] w fun e w' => e = .returned (.int .i64 n) ∧ w = w' := by
  go_enter Tryd.func9, Tryd.ntmps9
  go_wp2
  go_ret
  exact ⟨rfl, rfl⟩
end Go.Proofs.YtiafhdkpncmbeaaDoor
