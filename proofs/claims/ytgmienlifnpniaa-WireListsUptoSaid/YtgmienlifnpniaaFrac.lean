/- Fractions and exact complex numbers: plain or not, and their forms; of the program and of the reference. -/
import Derived.Test.YtgmienlifnpniaaFloat
import Derived.Test.YtgmienlifnpniaaRefNum
namespace Go.Proofs.Ytgmienlifnpniaa
open Go.RowKit

namespace Wire
def fracP (n1 : Bool) (s1 : ByteArray) (n2 : Bool) (s2 : ByteArray) : Bool :=
  plainW 1024 n1 s1.data.toList && (plainW 1024 n2 s2.data.toList && (!n2 && decide (0 < s2.size)))
def formF (n1 : Bool) (s1 : ByteArray) (n2 : Bool) (s2 : ByteArray) : List UInt8 := formW n1 s1.data.toList ++ formW n2 s2.data.toList
end Wire

theorem formW_len {n : Bool} {s : ByteArray} (h : s.size ≤ 140737488355318) : (Wire.formW n s.data.toList).length ≤ s.size + 10 := by
  unfold Wire.formW
  have hl : s.data.toList.length = s.size := Array.length_toList
  rw [List.length_append, hl]
  have := Wire.form_len (n := 2 * s.size + n.toNat) (by have := Bool.toNat_le n; omega)
  omega

theorem ne_empty (s : ByteArray) (h : 0 < s.size) : (s.toList == []) = false := by
  have := isEmpty_ne s h
  revert this
  cases s.toList <;> simp
theorem is_empty (s : ByteArray) (h : s.size = 0) : (s.toList == []) = true := by
  have := isEmpty_of s h
  revert this
  cases s.toList <;> simp

set_option maxHeartbeats 400000 in
theorem rwhole_any (neg : Bool) (s : ByteArray) (w : World) (hs : s.size ≤ 140737488355328) :
    Calls Try.prog 25 #[.agg #[.bool neg, .string s]] w fun e w' => e = .returned (.bool (Wire.plainW 16384 neg s.data.toList)) ∧ Below w.heap.size w w' := by
  by_cases h : s.size = 0
  · have h1 := isEmpty_of s h
    have e := Lib.hid (plainW_nil (k := 16384) (neg := neg) h)
    clear h
    go_enter Try.func25, Try.ntmps25
    go_wp2
    go_ret
    exact ⟨ret_bool e.out.symm, (Below.refl _ _).alloc (Nat.le_refl _) _⟩
  · have h0 : 0 < s.size := by omega
    have h1 := isEmpty_ne s h0
    have e := Lib.hid (plainW_ne (k := 16384) (neg := neg) h0)
    clear h
    by_cases h2 : s.size ≤ 16384
    · go_enter Try.func25, Try.ntmps25
      go_wp2
      go_ret
      exact ⟨ret_bool (by rw [e.out]; simp [h2]), (Below.refl _ _).alloc (Nat.le_refl _) _⟩
    · go_enter Try.func25, Try.ntmps25
      go_wp2
      go_ret
      exact ⟨ret_bool (by rw [e.out]; simp [h2]), (Below.refl _ _).alloc (Nat.le_refl _) _⟩

set_option maxRecDepth 100000 in
set_option maxHeartbeats 400000 in
theorem rput_any (neg : Bool) (s : ByteArray) (w : World) (hs : s.size ≤ 140737488355318) :
    Calls Try.prog 26 #[.agg #[.bool neg, .string s]] w fun e w' => ∃ A n' c, e = .returned (.slice A n' c) ∧ OwnB w' w.heap.size (.slice A n' c) (Wire.formW neg s.data.toList) ∧ Below w.heap.size w w' := by
  have hl : s.data.toList.length = s.size := Array.length_toList
  have hf : (Wire.form (2 * s.size + neg.toNat)).length ≤ 10 := Wire.form_len (by have := Bool.toNat_le neg; omega)
  have Hf := Lib.hid hf
  have Hl := Lib.hid hl
  have hn1 : (2 * (s.size : Int)) < 18446744073709551616 := by omega
  have hn2 : (0 : Int) ≤ (2 * (s.size : Int)) := by omega
  clear hf hl
  cases neg
  · have Hn := Lib.hid (show (2 * (s.size : Int)).toNat = 2 * s.size + false.toNat from by show _ = 2 * s.size + 0; omega)
    go_enter Try.func26, Try.ntmps26
    go_wp2_with fail
    go_region_held3 (fun w' => w'.cell? ⟨w.heap.size, 1, none⟩ = some (.string s)) (first | go_keep | (rw [hb.cell (by simp)]; go_keep) | (rw [hg2.cell_far _ (by have := hb.size; simp at this ⊢; omega) (ho.far (by simp)), hb.cell (by simp)]; go_keep))
      (first
        | (go_at_call 12; refine (rnum_any _ _ (by omega) (by omega)).mono ?_; rintro e w1 ⟨A, n', c, rfl, ho, hb⟩)
        | (refine stepB_append_str (by rfl) (.tmp 14) (.tmp 16) (by rfl) w.heap.size _ _ (ho.mono (by simp)) (by rfl) s (by rfl) (by rw [Hn.out]; have := Hf.out; omega) (by have := hb.size; simp at this; omega) ?_; intro A2 n2 c2 w2 ho2 hg2))
    go_wp2
    go_ret
    have hb2 : Below w.heap.size w w2 := ((((Below.refl _ _).alloc (Nat.le_refl _) _).drew).trans (hb.mono (B' := w.heap.size) (by simp))).grown hg2 (by have := hb.size; simp at this; omega) (fun k hk => by
      rcases Nat.lt_or_ge k w.heap.size with h | h
      · exact absurd hk.symm ((ho.mono (B' := w.heap.size) (by simp)).far h)
      · exact h)
    refine ⟨_, _, _, rfl, ?_, hb2⟩
    rw [Hn.out] at ho2
    unfold Wire.formW
    rw [Hl.out]
    exact ho2
  · have Hn := Lib.hid (show (2 * (s.size : Int) + 1).toNat = 2 * s.size + true.toNat from by show _ = 2 * s.size + 1; omega)
    go_enter Try.func26, Try.ntmps26
    go_wp2_with fail
    go_region_held3 (fun w' => w'.cell? ⟨w.heap.size, 1, none⟩ = some (.string s)) (first | go_keep | (rw [hb.cell (by simp)]; go_keep) | (rw [hg2.cell_far _ (by have := hb.size; simp at this ⊢; omega) (ho.far (by simp)), hb.cell (by simp)]; go_keep))
      (first
        | (go_at_call 12; refine (rnum_any _ _ (by omega) (by omega)).mono ?_; rintro e w1 ⟨A, n', c, rfl, ho, hb⟩)
        | (refine stepB_append_str (by rfl) (.tmp 14) (.tmp 16) (by rfl) w.heap.size _ _ (ho.mono (by simp)) (by rfl) s (by rfl) (by rw [Hn.out]; have := Hf.out; omega) (by have := hb.size; simp at this; omega) ?_; intro A2 n2 c2 w2 ho2 hg2))
    go_wp2
    go_ret
    have hb2 : Below w.heap.size w w2 := ((((Below.refl _ _).alloc (Nat.le_refl _) _).drew).trans (hb.mono (B' := w.heap.size) (by simp))).grown hg2 (by have := hb.size; simp at this; omega) (fun k hk => by
      rcases Nat.lt_or_ge k w.heap.size with h | h
      · exact absurd hk.symm ((ho.mono (B' := w.heap.size) (by simp)).far h)
      · exact h)
    refine ⟨_, _, _, rfl, ?_, hb2⟩
    rw [Hn.out] at ho2
    unfold Wire.formW
    rw [Hl.out]
    exact ho2

set_option maxRecDepth 100000 in
set_option maxHeartbeats 1000000 in
theorem frac_any (n1 : Bool) (s1 : ByteArray) (n2 : Bool) (s2 : ByteArray) (w : World) (h1 : s1.size ≤ 140737488355328) (h2 : s2.size ≤ 140737488355328) :
    Calls Try.prog 59 #[.agg #[.bool n1, .string s1, .bool n2, .string s2]] w fun e w' => e = .returned (.bool (Wire.fracP n1 s1 n2 s2)) ∧ Below w.heap.size w w' := by
  have H1 := fun w => whole_any n1 s1 1024 w h1 (by omega) (by omega)
  have H2 := fun w => whole_any n2 s2 1024 w h2 (by omega) (by omega)
  rw [show (1024 : Int).toNat = 1024 from rfl] at H1 H2
  have hb0 : Below w.heap.size w (w.alloc (.cells #[.bool n1, .string s1, .bool n2, .string s2] 30)) := (Below.refl _ _).alloc (Nat.le_refl _) _
  cases hp1 : Wire.plainW 1024 n1 s1.data.toList
  · rw [hp1] at H1
    have K1 := Lib.hid H1
    have R := Lib.hid (show Wire.fracP n1 s1 n2 s2 = false by unfold Wire.fracP; rw [hp1]; rfl)
    clear H1 H2 hp1
    go_enter Try.func59, Try.ntmps59
    go_wp2_with (go_at_call 57; with_reducible refine (K1.out _).mono ?_; rintro e w1 ⟨rfl, hb1⟩)
    go_ret
    exact ⟨ret_bool R.out.symm, hb0.up hb1 (by simp)⟩
  · rw [hp1] at H1
    have K1 := Lib.hid H1
    cases hp2 : Wire.plainW 1024 n2 s2.data.toList
    · rw [hp2] at H2
      have K2 := Lib.hid H2
      have R := Lib.hid (show Wire.fracP n1 s1 n2 s2 = false by unfold Wire.fracP; rw [hp1, hp2]; rfl)
      clear H1 H2 hp1 hp2
      go_enter Try.func59, Try.ntmps59
      go_wp2_with fail
      refine (K1.out _).mono ?_
      rintro e w1 ⟨rfl, hb1⟩
      have s1' := hb1.size
      have c2 := hb1.cell (p := ⟨w.heap.size, 2, none⟩) (by simp)
      have c3 := hb1.cell (p := ⟨w.heap.size, 3, none⟩) (by simp)
      go_wp2_with (go_at_call 57; with_reducible refine (K2.out _).mono ?_; rintro e w2 ⟨rfl, hb2⟩)
      go_ret
      exact ⟨ret_bool R.out.symm, (hb0.up hb1 (by simp)).up hb2 (by rw [World.size_alloc] at s1'; omega)⟩
    · rw [hp2] at H2
      have K2 := Lib.hid H2
      by_cases hs : s2.size = 0
      · have R := Lib.hid (show Wire.fracP n1 s1 n2 s2 = false by unfold Wire.fracP; rw [hp1, hp2]; simp [hs])
        have hse := is_empty s2 hs
        have hse2 := isEmpty_of s2 hs
        clear H1 H2 hp1 hp2 hs
        go_enter Try.func59, Try.ntmps59
        go_wp2_with fail
        refine (K1.out _).mono ?_
        rintro e w1 ⟨rfl, hb1⟩
        have s1' := hb1.size
        have c2 := hb1.cell (p := ⟨w.heap.size, 2, none⟩) (by simp)
        have c3 := hb1.cell (p := ⟨w.heap.size, 3, none⟩) (by simp)
        go_wp2_with (go_at_call 57; with_reducible refine (K2.out _).mono ?_; rintro e w2 ⟨rfl, hb2⟩; have c2' := (hb2.cell (p := ⟨w.heap.size, 2, none⟩) (by simp at s1' ⊢; omega)); have c3' := (hb2.cell (p := ⟨w.heap.size, 3, none⟩) (by simp at s1' ⊢; omega)))
        all_goals
          go_ret
          refine ⟨ret_bool ?_, (hb0.up hb1 (by simp)).up hb2 (by rw [World.size_alloc] at s1'; omega)⟩
          rw [R.out]
          try simp
      · have R := Lib.hid (show Wire.fracP n1 s1 n2 s2 = !n2 by unfold Wire.fracP; rw [hp1, hp2]; simp; omega)
        have hse := ne_empty s2 (by omega)
        have hse2 := isEmpty_ne s2 (by omega)
        clear H1 H2 hp1 hp2 hs
        cases n2
        all_goals
          go_enter Try.func59, Try.ntmps59
          go_wp2_with fail
          refine (K1.out _).mono ?_
          rintro e w1 ⟨rfl, hb1⟩
          have s1' := hb1.size
          have c2 := hb1.cell (p := ⟨w.heap.size, 2, none⟩) (by simp)
          have c3 := hb1.cell (p := ⟨w.heap.size, 3, none⟩) (by simp)
          go_wp2_with (go_at_call 57; with_reducible refine (K2.out _).mono ?_; rintro e w2 ⟨rfl, hb2⟩; have c2' := (hb2.cell (p := ⟨w.heap.size, 2, none⟩) (by simp at s1' ⊢; omega)); have c3' := (hb2.cell (p := ⟨w.heap.size, 3, none⟩) (by simp at s1' ⊢; omega)))
          go_ret
          exact ⟨ret_bool (by rw [R.out]; rfl), (hb0.up hb1 (by simp)).up hb2 (by rw [World.size_alloc] at s1'; omega)⟩
end Go.Proofs.Ytgmienlifnpniaa
