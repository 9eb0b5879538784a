/- The forms of fractions. -/
import Derived.Test.YtgmienlifnpniaaFrac
namespace Go.Proofs.Ytgmienlifnpniaa
open Go.RowKit
theorem formF_len {n1 : Bool} {s1 : ByteArray} {n2 : Bool} {s2 : ByteArray} (hp : Wire.fracP n1 s1 n2 s2 = true) : (Wire.formF n1 s1 n2 s2).length ≤ 2068 := by
  unfold Wire.fracP at hp
  simp only [Bool.and_eq_true] at hp
  have l1 := plain_len hp.1
  have l2 := plain_len hp.2.1
  have f1 := formW_len (n := n1) (s := s1) (by omega)
  have f2 := formW_len (n := n2) (s := s2) (by omega)
  unfold Wire.formF
  rw [List.length_append]
  omega

theorem plain_both {n : Bool} {s : ByteArray} : Wire.plainW 1024 n s.data.toList = (Wire.plainW 16384 n s.data.toList && decide (s.size ≤ 1024)) := by
  rcases Nat.eq_zero_or_pos s.size with h | h
  · rw [plainW_nil h, plainW_nil h]; simp [h]
  · rw [plainW_ne h, plainW_ne h, Bool.eq_iff_iff]
    simp only [Bool.and_eq_true, decide_eq_true_eq]
    constructor
    · intro h; exact ⟨⟨by omega, h.2⟩, h.1⟩
    · intro h; exact ⟨h.2, h.1.2⟩

set_option maxRecDepth 100000 in
set_option maxHeartbeats 1000000 in
theorem fracForm_yes (n1 : Bool) (s1 : ByteArray) (n2 : Bool) (s2 : ByteArray) (w : World) (hp : Wire.fracP n1 s1 n2 s2 = true) :
    Calls Try.prog 22 #[.agg #[.bool n1, .string s1, .bool n2, .string s2]] w fun e w' => ∃ A n' c, e = .returned (.tuple #[.slice A n' c, .int .i64 0]) ∧ OwnB w' w.heap.size (.slice A n' c) (Wire.formF n1 s1 n2 s2) ∧ Below w.heap.size w w' := by
  have hl : s1.size ≤ 1024 ∧ s2.size ≤ 1024 := by
    have h := hp
    unfold Wire.fracP at h
    simp only [Bool.and_eq_true] at h
    exact ⟨plain_len h.1, plain_len h.2.1⟩
  obtain ⟨l1, l2⟩ := hl
  have F := fun w => frac_any n1 s1 n2 s2 w (by omega) (by omega)
  rw [hp] at F
  have HF := Lib.hid F
  have P1 := Lib.hid fun w => put_any n1 s1 w (by omega)
  have P2 := Lib.hid fun w => put_any n2 s2 w (by omega)
  have f1 := formW_len (n := n1) (s := s1) (by omega)
  have f2 := formW_len (n := n2) (s := s2) (by omega)
  clear hp F
  unfold Wire.formF
  generalize Wire.formW n1 s1.data.toList = F1 at *
  generalize Wire.formW n2 s2.data.toList = F2 at *
  go_enter Try.func22, Try.ntmps22
  go_wp2_with (go_at_call 59; refine (HF.out _).mono ?_; rintro e w1 ⟨rfl, hb1⟩; have c0 := hb1.cell (p := ⟨w.heap.size, 0, none⟩) (by simp); have c1 := hb1.cell (p := ⟨w.heap.size, 1, none⟩) (by simp); have c2 := hb1.cell (p := ⟨w.heap.size, 2, none⟩) (by simp); have c3 := hb1.cell (p := ⟨w.heap.size, 3, none⟩) (by simp))
  have s1' := hb1.size
  rw [World.size_alloc] at s1'
  go_region_held3 (fun w' => w'.cell? ⟨w.heap.size, 0, none⟩ = some (.bool n1) ∧ w'.cell? ⟨w.heap.size, 1, none⟩ = some (.string s1) ∧ w'.cell? ⟨w.heap.size, 2, none⟩ = some (.bool n2) ∧ w'.cell? ⟨w.heap.size, 3, none⟩ = some (.string s2))
    (first
      | go_keep
      | (rw [hb2.cell (by simp; omega), hb2.cell (by simp; omega), hb2.cell (by simp; omega), hb2.cell (by simp; omega)]; go_keep)
      | (rw [hg4.cell_far _ (by simp; omega) (ho2.far (by simp; omega)), hg4.cell_far _ (by simp; omega) (ho2.far (by simp; omega)), hg4.cell_far _ (by simp; omega) (ho2.far (by simp; omega)), hg4.cell_far _ (by simp; omega) (ho2.far (by simp; omega))]; go_keep)
      | (rw [hb3.cell (by simp; omega), hb3.cell (by simp; omega), hb3.cell (by simp; omega), hb3.cell (by simp; omega)]; go_keep))
    (first
      | (go_at_call 58; (with_reducible refine (P1.out _).mono ?_); rintro e w2 ⟨A2, m2, d2, rfl, ho2, hb2⟩; have z2 : w1.heap.size ≤ w2.heap.size := hb2.size)
      | (go_at_call 58; (with_reducible refine (P2.out _).mono ?_); rintro e w3 ⟨A3, m3, d3, rfl, ho3, hb3⟩; have z3 : w2.heap.size ≤ w3.heap.size := hb3.size)
      | (refine stepB_append (by rfl) (.tmp 9) (.tmp 12) (by rfl) w.heap.size _ F1 ((ho2.kept hb3).mono (by simp; omega)) (by rfl) _ _ F2 ho3.reads _ _ ho3.len (by rfl) (by omega) (by omega) ?_; intro A4 n4 d4 w4 ho4 hg4 _))
  go_wp2
  go_ret2
  exact ⟨_, _, _, rfl, ho4, ((((bA hb1).drew.up hb2 (by show _ ≤ w1.heap.size; omega)).up hb3 (by omega)).own (by omega) (ho2.mono (B' := w.heap.size) (by show _ ≤ w1.heap.size; omega)) hg4)⟩
end Go.Proofs.Ytgmienlifnpniaa
