/- traceryref01.PlainFrac, PlainGauss; tracerylaw01.told, spoil. -/
import Derived.Test.YtgmienlifnpniaaGauss
namespace Go.Proofs.Ytgmienlifnpniaa
open Go.RowKit

theorem fracP_of {n1 : Bool} {s1 : ByteArray} {n2 : Bool} {s2 : ByteArray} : Wire.fracP n1 s1 n2 s2 =
    ((Wire.plainW 16384 n1 s1.data.toList && decide (s1.size ≤ 1024)) && ((Wire.plainW 16384 n2 s2.data.toList && decide (s2.size ≤ 1024)) && (!n2 && decide (0 < s2.size)))) := by
  unfold Wire.fracP
  rw [plain_both, plain_both]

set_option maxRecDepth 100000 in
set_option maxHeartbeats 2000000 in
theorem rfrac_any (n1 : Bool) (s1 : ByteArray) (n2 : Bool) (s2 : ByteArray) (w : World) (h1 : s1.size ≤ 140737488355328) (h2 : s2.size ≤ 140737488355328) :
    Calls Try.prog 27 #[.agg #[.bool n1, .string s1, .bool n2, .string s2]] w fun e w' => e = .returned (.bool (Wire.fracP n1 s1 n2 s2)) ∧ Below w.heap.size w w' := by
  have H1 := fun w => rwhole_any n1 s1 w h1
  have H2 := fun w => rwhole_any n2 s2 w h2
  have R := Lib.hid (@fracP_of n1 s1 n2 s2)
  have hb0 : Below w.heap.size w (w.alloc (.cells #[.bool n1, .string s1, .bool n2, .string s2] 30)) := (Below.refl _ _).alloc (Nat.le_refl _) _
  cases hp1 : Wire.plainW 16384 n1 s1.data.toList
  · rw [hp1] at H1
    have K1 := Lib.hid H1
    have P1 := Lib.hid hp1
    clear H1 H2 hp1
    go_enter Try.func27, Try.ntmps27
    go_wp2_with (go_at_call 25; (with_reducible refine (K1.out _).mono ?_); rintro e w1 ⟨rfl, hb1⟩)
    go_ret
    exact ⟨ret_bool (by rw [R.out, P1.out]; rfl), hb0.up hb1 (by simp)⟩
  · rw [hp1] at H1
    have K1 := Lib.hid H1
    have P1 := Lib.hid hp1
    cases hp2 : Wire.plainW 16384 n2 s2.data.toList
    · rw [hp2] at H2
      have K2 := Lib.hid H2
      have P2 := Lib.hid hp2
      clear H1 H2 hp1 hp2
      go_enter Try.func27, Try.ntmps27
      go_wp2_with fail
      refine (K1.out _).mono ?_
      rintro e w1 ⟨rfl, hb1⟩
      have s1' := hb1.size
      have c2 := hb1.cell (p := ⟨w.heap.size, 2, none⟩) (by simp)
      have c3 := hb1.cell (p := ⟨w.heap.size, 3, none⟩) (by simp)
      go_wp2_with (go_at_call 25; (with_reducible refine (K2.out _).mono ?_); rintro e w2 ⟨rfl, hb2⟩)
      go_ret
      exact ⟨ret_bool (by rw [R.out, P1.out, P2.out]; simp), (hb0.up hb1 (by simp)).up hb2 (by rw [World.size_alloc] at s1'; omega)⟩
    · rw [hp2] at H2
      have K2 := Lib.hid H2
      have P2 := Lib.hid hp2
      clear H1 H2 hp1 hp2
      by_cases hl1 : s1.size ≤ 1024
      all_goals by_cases hl2 : s2.size ≤ 1024
      all_goals cases n2
      all_goals by_cases hs : s2.size = 0
      all_goals first
        | have hse := is_empty s2 hs
          have hse2 := isEmpty_of s2 hs
          have R2 := Lib.hid (show decide (0 < s2.size) = false by simp [hs])
        | have hse := ne_empty s2 (by omega)
          have hse2 := isEmpty_ne s2 (by omega)
          have R2 := Lib.hid (show decide (0 < s2.size) = true by simp; omega)
      all_goals clear hs
      all_goals
        go_enter Try.func27, Try.ntmps27
        go_wp2_with fail
        refine (K1.out _).mono ?_
        rintro e w1 ⟨rfl, hb1⟩
        have s1' := hb1.size
        have c1 := hb1.cell (p := ⟨w.heap.size, 1, none⟩) (by simp)
        have c2 := hb1.cell (p := ⟨w.heap.size, 2, none⟩) (by simp)
        have c3 := hb1.cell (p := ⟨w.heap.size, 3, none⟩) (by simp)
        go_wp2_with (go_at_call 25; (with_reducible refine (K2.out _).mono ?_); rintro e w2 ⟨rfl, hb2⟩; have c1' := (hb2.cell (p := ⟨w.heap.size, 1, none⟩) (by simp at s1' ⊢; omega)); have c2' := (hb2.cell (p := ⟨w.heap.size, 2, none⟩) (by simp at s1' ⊢; omega)); have c3' := (hb2.cell (p := ⟨w.heap.size, 3, none⟩) (by simp at s1' ⊢; omega)))
        go_ret
        exact ⟨ret_bool (by rw [R.out, P1.out, P2.out, R2.out]; simp [hl1, hl2]), (hb0.up hb1 (by simp)).up hb2 (by rw [World.size_alloc] at s1'; omega)⟩

set_option maxRecDepth 100000 in
set_option maxHeartbeats 1000000 in
theorem rgauss_any (n1 : Bool) (s1 : ByteArray) (n2 : Bool) (s2 : ByteArray) (n3 : Bool) (s3 : ByteArray) (n4 : Bool) (s4 : ByteArray) (w : World)
    (h1 : s1.size ≤ 140737488355328) (h2 : s2.size ≤ 140737488355328) (h3 : s3.size ≤ 140737488355328) (h4 : s4.size ≤ 140737488355328) :
    Calls Try.prog 29 #[.agg #[.bool n1, .string s1, .bool n2, .string s2, .bool n3, .string s3, .bool n4, .string s4]] w fun e w' => e = .returned (.bool (Wire.fracP n1 s1 n2 s2 && Wire.fracP n3 s3 n4 s4)) ∧ Below w.heap.size w w' := by
  have H1 := fun w => rfrac_any n1 s1 n2 s2 w h1 h2
  have H2 := fun w => rfrac_any n3 s3 n4 s4 w h3 h4
  cases hp1 : Wire.fracP n1 s1 n2 s2
  · rw [hp1] at H1
    have K1 := Lib.hid H1
    clear H1 H2 hp1
    go_enter Try.func29, Try.ntmps29
    go_wp2_with (go_at_call 27; (with_reducible refine (K1.out _).mono ?_); rintro e w1 ⟨rfl, hb1⟩)
    go_ret
    exact ⟨rfl, bA hb1⟩
  · rw [hp1] at H1
    have K1 := Lib.hid H1
    generalize Wire.fracP n3 s3 n4 s4 = q at *
    have K2 := Lib.hid H2
    clear H1 H2 hp1
    cases q
    all_goals
      go_enter Try.func29, Try.ntmps29
      go_wp2_with fail
      refine (K1.out _).mono ?_
      rintro e w1 ⟨rfl, hb1⟩
      have z1 := hb1.size
      rw [World.size_alloc] at z1
      have c4 := hb1.cell (p := ⟨w.heap.size, 4, none⟩) (by simp)
      have c5 := hb1.cell (p := ⟨w.heap.size, 5, none⟩) (by simp)
      have c6 := hb1.cell (p := ⟨w.heap.size, 6, none⟩) (by simp)
      have c7 := hb1.cell (p := ⟨w.heap.size, 7, none⟩) (by simp)
      go_wp2_with (go_at_call 27; (with_reducible refine (K2.out _).mono ?_); rintro e w2 ⟨rfl, hb2⟩)
      go_ret
      exact ⟨rfl, (bA hb1).up hb2 (by omega)⟩
end Go.Proofs.Ytgmienlifnpniaa
