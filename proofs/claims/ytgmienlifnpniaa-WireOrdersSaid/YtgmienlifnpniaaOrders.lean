/- WireOrders: the form of a greater number is longer, or as long and greater byte by byte. For any two numbers of 64 bits; no condition. -/
import Derived.Test.YtgmienlifnpniaaKnown
import Derived.Test.YtgmienlifnpniaaOrder
namespace Go.Proofs.Ytgmienlifnpniaa
open Go.RowKit

set_option maxRecDepth 100000 in
set_option maxHeartbeats 1000000 in
theorem orders_any (a b : Int) (w : World) (a0 : 0 ≤ a) (a1 : a < 18446744073709551616) (b0 : 0 ≤ b) (b1 : b < 18446744073709551616) :
    Calls Try.prog 3 #[.int .u64 a, .int .u64 b] w fun e w' => e = .returned (.bool true) ∧ Below w.heap.size w w' := by
  go_enter Try.func3, Try.ntmps3
  go_wp2_with fail
  refine (num_any a w a0 a1).mono ?_
  rintro e w1 ⟨A1, m1, c1, rfl, ho1, hb1⟩
  go_wp2_with fail
  refine (num_any b w1 b0 b1).mono ?_
  rintro e w2 ⟨A2, m2, c2, rfl, ho2, hb2⟩
  have t1 := (ho1.kept hb2).str0 rfl
  have t2 := ho2.str0 rfl
  have K := Lib.hid fun w => known_any w
  have e1 := ho1.len
  have e2 := ho2.len
  have hb := hb1.up hb2 hb1.size
  have hl := Wire.form_less a.toNat b.toNat
  have he := Wire.form_eq a.toNat b.toNat
  unfold Wire.Ord at hl
  generalize Wire.form a.toNat = fa at *
  generalize Wire.form b.toNat = fb at *
  subst e1 e2
  have Hl := Lib.hid hl
  have He := Lib.hid he
  clear hl he ho1 ho2 hb1 hb2
  have hq : (fa == fb) = (a == b) := by
    rw [Bool.eq_iff_iff, beq_iff_eq, beq_iff_eq, He.out]
    omega
  by_cases h1 : fa.length < fb.length
  · have hab : a < b := by have := Hl.out.1 (.inl h1); omega
    go_wp2_with (go_at_call 10; refine (K.out _).mono ?_; rintro e w3 ⟨rfl, hb3⟩)
    go_ret
    exact ⟨rfl, hb.up hb3 hb.size⟩
  · by_cases h2 : fa.length = fb.length
    · have hle : ((fa.length : Int) == (fb.length : Int)) = true := by rw [h2]; simp
      by_cases h3 : Op.bytesLess fa fb = true
      · have hab : a < b := by have := Hl.out.1 (.inr ⟨h2, h3⟩); omega
        clear h2
        go_wp2_with (go_at_call 10; refine (K.out _).mono ?_; rintro e w3 ⟨rfl, hb3⟩)
        go_ret
        exact ⟨rfl, hb.up hb3 hb.size⟩
      · have h3' : Op.bytesLess fa fb = false := by simpa using h3
        have hab : ¬ a < b := by
          intro h
          have := Hl.out.2 (by omega)
          rcases this with h | h
          · omega
          · exact h3 h.2
        have hab' : decide (a < b) = false := by simpa using hab
        clear h3 h2
        go_wp2_with (go_at_call 10; refine (K.out _).mono ?_; rintro e w3 ⟨rfl, hb3⟩)
        go_ret
        exact ⟨rfl, hb.up hb3 hb.size⟩
    · have hab : ¬ a < b := by
        intro h
        have := Hl.out.2 (by omega)
        rcases this with h | h
        · omega
        · exact h2 h.1
      have hab' : decide (a < b) = false := by simpa using hab
      have hle : ((fa.length : Int) == (fb.length : Int)) = false := by simp; omega
      clear h2
      go_wp2_with (go_at_call 10; refine (K.out _).mono ?_; rintro e w3 ⟨rfl, hb3⟩)
      go_ret
      exact ⟨rfl, hb.up hb3 hb.size⟩
end Go.Proofs.Ytgmienlifnpniaa
