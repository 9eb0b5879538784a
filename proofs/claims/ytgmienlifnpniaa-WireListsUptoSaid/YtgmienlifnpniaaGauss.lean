/- The forms of exact complex numbers, of the program and of the reference; texts, signed numbers, complex numbers of floats. -/
import Derived.Test.YtgmienlifnpniaaFrac2
namespace Go.Proofs.Ytgmienlifnpniaa
open Go.RowKit

set_option maxRecDepth 100000 in
theorem fracForm_no (n1 : Bool) (s1 : ByteArray) (n2 : Bool) (s2 : ByteArray) (w : World) (h1 : s1.size ≤ 140737488355328) (h2 : s2.size ≤ 140737488355328) (hp : Wire.fracP n1 s1 n2 s2 = false) :
    Calls Try.prog 22 #[.agg #[.bool n1, .string s1, .bool n2, .string s2]] w fun e w' => e = .returned (.tuple #[.slice none 0 0, .int .i64 2]) ∧ Below w.heap.size w w' := by
  have F := fun w => frac_any n1 s1 n2 s2 w h1 h2
  rw [hp] at F
  have HF := Lib.hid F
  clear hp F
  go_enter Try.func22, Try.ntmps22
  go_wp2_with (go_at_call 59; refine (HF.out _).mono ?_; rintro e w1 ⟨rfl, hb1⟩)
  go_ret2
  exact ⟨rfl, bA hb1⟩

set_option maxRecDepth 100000 in
set_option maxHeartbeats 1000000 in
theorem gaussForm_yes (n1 : Bool) (s1 : ByteArray) (n2 : Bool) (s2 : ByteArray) (n3 : Bool) (s3 : ByteArray) (n4 : Bool) (s4 : ByteArray) (w : World) (hp : Wire.fracP n1 s1 n2 s2 = true) (hq : Wire.fracP n3 s3 n4 s4 = true) :
    Calls Try.prog 23 #[.agg #[.bool n1, .string s1, .bool n2, .string s2, .bool n3, .string s3, .bool n4, .string s4]] w fun e w' => ∃ A n' c, e = .returned (.tuple #[.slice A n' c, .int .i64 0]) ∧ OwnB w' w.heap.size (.slice A n' c) (Wire.formF n1 s1 n2 s2 ++ Wire.formF n3 s3 n4 s4) ∧ Below w.heap.size w w' := by
  have P1 := Lib.hid fun w => fracForm_yes n1 s1 n2 s2 w hp
  have P2 := Lib.hid fun w => fracForm_yes n3 s3 n4 s4 w hq
  have f1 := formF_len hp
  have f2 := formF_len hq
  clear hp hq
  generalize Wire.formF n1 s1 n2 s2 = F1 at *
  generalize Wire.formF n3 s3 n4 s4 = F2 at *
  go_enter Try.func23, Try.ntmps23
  go_wp2_with fail
  refine (P1.out _).mono ?_
  rintro e w1 ⟨A1, m1, d1, rfl, ho1, hb1⟩
  have z1 : w.heap.size < w1.heap.size := by have := hb1.size; rw [World.size_alloc] at this; omega
  have c4 := hb1.cell (p := ⟨w.heap.size, 4, none⟩) (by simp)
  have c5 := hb1.cell (p := ⟨w.heap.size, 5, none⟩) (by simp)
  have c6 := hb1.cell (p := ⟨w.heap.size, 6, none⟩) (by simp)
  have c7 := hb1.cell (p := ⟨w.heap.size, 7, none⟩) (by simp)
  go_wp2_with fail
  refine (P2.out _).mono ?_
  rintro e w2 ⟨A2, m2, d2, rfl, ho2, hb2⟩
  have z2 : w1.heap.size ≤ w2.heap.size := hb2.size
  go_wp2_with (at_builtin; refine wpB_append (by rfl) (.tmp 26) (.tmp 27) (by rfl) w.heap.size _ F1 ((ho1.kept hb2).mono (by simp)) (by rfl) _ _ F2 ho2.reads _ _ ho2.len (by rfl) (by omega) (by omega) ?_; intro A4 n4 d4 w4 ho4 hg4 hnx; clear hnx)
  go_ret2
  exact ⟨_, _, _, rfl, ho4, (((bA hb1).up hb2 (by omega)).own (by omega) (ho1.mono (B' := w.heap.size) (by simp)) hg4)⟩

set_option maxRecDepth 100000 in
set_option maxHeartbeats 1000000 in
theorem gaussForm_no (n1 : Bool) (s1 : ByteArray) (n2 : Bool) (s2 : ByteArray) (n3 : Bool) (s3 : ByteArray) (n4 : Bool) (s4 : ByteArray) (w : World)
    (h1 : s1.size ≤ 140737488355328) (h2 : s2.size ≤ 140737488355328) (h3 : s3.size ≤ 140737488355328) (h4 : s4.size ≤ 140737488355328) (hp : (Wire.fracP n1 s1 n2 s2 && Wire.fracP n3 s3 n4 s4) = false) :
    Calls Try.prog 23 #[.agg #[.bool n1, .string s1, .bool n2, .string s2, .bool n3, .string s3, .bool n4, .string s4]] w fun e w' => e = .returned (.tuple #[.slice none 0 0, .int .i64 2]) ∧ Below w.heap.size w w' := by
  cases hp1 : Wire.fracP n1 s1 n2 s2
  · have P1 := Lib.hid fun w => fracForm_no n1 s1 n2 s2 w h1 h2 hp1
    cases hp2 : Wire.fracP n3 s3 n4 s4
    · have P2 := Lib.hid fun w => fracForm_no n3 s3 n4 s4 w h3 h4 hp2
      clear hp hp1 hp2
      go_enter Try.func23, Try.ntmps23
      go_wp2_with fail
      refine (P1.out _).mono ?_
      rintro e w1 ⟨rfl, hb1⟩
      have z1 : w.heap.size < w1.heap.size := by have := hb1.size; rw [World.size_alloc] at this; omega
      have c4 := hb1.cell (p := ⟨w.heap.size, 4, none⟩) (by simp)
      have c5 := hb1.cell (p := ⟨w.heap.size, 5, none⟩) (by simp)
      have c6 := hb1.cell (p := ⟨w.heap.size, 6, none⟩) (by simp)
      have c7 := hb1.cell (p := ⟨w.heap.size, 7, none⟩) (by simp)
      go_wp2_with fail
      refine (P2.out _).mono ?_
      rintro e w2 ⟨rfl, hb2⟩
      go_wp2
      go_ret2
      exact ⟨rfl, (bA hb1).up hb2 (by omega)⟩
    · have P2 := Lib.hid fun w => fracForm_yes n3 s3 n4 s4 w hp2
      clear hp hp1 hp2
      go_enter Try.func23, Try.ntmps23
      go_wp2_with fail
      refine (P1.out _).mono ?_
      rintro e w1 ⟨rfl, hb1⟩
      have z1 : w.heap.size < w1.heap.size := by have := hb1.size; rw [World.size_alloc] at this; omega
      have c4 := hb1.cell (p := ⟨w.heap.size, 4, none⟩) (by simp)
      have c5 := hb1.cell (p := ⟨w.heap.size, 5, none⟩) (by simp)
      have c6 := hb1.cell (p := ⟨w.heap.size, 6, none⟩) (by simp)
      have c7 := hb1.cell (p := ⟨w.heap.size, 7, none⟩) (by simp)
      go_wp2_with fail
      refine (P2.out _).mono ?_
      rintro e w2 ⟨A2, m2, d2, rfl, ho2, hb2⟩
      go_wp2
      go_ret2
      exact ⟨rfl, (bA hb1).up hb2 (by omega)⟩
  · have P1 := Lib.hid fun w => fracForm_yes n1 s1 n2 s2 w hp1
    have hp2 : Wire.fracP n3 s3 n4 s4 = false := by rw [hp1] at hp; simpa using hp
    have P2 := Lib.hid fun w => fracForm_no n3 s3 n4 s4 w h3 h4 hp2
    clear hp hp1 hp2
    go_enter Try.func23, Try.ntmps23
    go_wp2_with fail
    refine (P1.out _).mono ?_
    rintro e w1 ⟨A1, m1, d1, rfl, ho1, hb1⟩
    have z1 : w.heap.size < w1.heap.size := by have := hb1.size; rw [World.size_alloc] at this; omega
    have c4 := hb1.cell (p := ⟨w.heap.size, 4, none⟩) (by simp)
    have c5 := hb1.cell (p := ⟨w.heap.size, 5, none⟩) (by simp)
    have c6 := hb1.cell (p := ⟨w.heap.size, 6, none⟩) (by simp)
    have c7 := hb1.cell (p := ⟨w.heap.size, 7, none⟩) (by simp)
    go_wp2_with fail
    refine (P2.out _).mono ?_
    rintro e w2 ⟨rfl, hb2⟩
    go_wp2
    go_ret2
    exact ⟨rfl, (bA hb1).up hb2 (by omega)⟩

set_option maxRecDepth 100000 in
theorem textW_any (s : ByteArray) (w : World) (hs : s.size ≤ 140737488355318) :
    Calls Try.prog 18 #[.string s] w fun e w' => ∃ A n' c, e = .returned (.slice A n' c) ∧ OwnB w' w.heap.size (.slice A n' c) (Wire.form s.size ++ s.data.toList) ∧ Below w.heap.size w w' := by
  have H := Lib.hid fun w => num_any (s.size : Int) w (by omega) (by omega)
  have hl := Wire.form_len (n := s.size) (by omega)
  have e0 : ((s.size : Nat) : Int).toNat = s.size := Int.toNat_natCast _
  have E0 := Lib.hid e0
  clear e0
  go_enter Try.func18, Try.ntmps18
  go_wp2_with (first
    | (go_at_call 9; refine (H.out _).mono ?_; rw [E0.out]; rintro e w1 ⟨A1, m1, d1, rfl, ho1, hb1⟩; have z1 := hb1.size)
    | (at_builtin; refine wpB_append_str (by rfl) (.tmp 6) (.tmp 7) (by rfl) w.heap.size _ _ ho1 (by rfl) s (by rfl) (by omega) (by omega) ?_; intro A2 n2 d2 w2 ho2 hg2))
  go_ret
  exact ⟨_, _, _, rfl, ho2, hb1.own z1 ho1 hg2⟩
set_option maxRecDepth 100000 in
theorem rtextW_any (s : ByteArray) (w : World) (hs : s.size ≤ 140737488355318) :
    Calls Try.prog 19 #[.string s] w fun e w' => ∃ A n' c, e = .returned (.slice A n' c) ∧ OwnB w' w.heap.size (.slice A n' c) (Wire.form s.size ++ s.data.toList) ∧ Below w.heap.size w w' := by
  have H := Lib.hid fun w => rnum_any (s.size : Int) w (by omega) (by omega)
  have hl := Wire.form_len (n := s.size) (by omega)
  have e0 : ((s.size : Nat) : Int).toNat = s.size := Int.toNat_natCast _
  have E0 := Lib.hid e0
  clear e0
  go_enter Try.func19, Try.ntmps19
  go_wp2_with (first
    | (go_at_call 12; refine (H.out _).mono ?_; rw [E0.out]; rintro e w1 ⟨A1, m1, d1, rfl, ho1, hb1⟩; have z1 := hb1.size)
    | (at_builtin; refine wpB_append_str (by rfl) (.tmp 6) (.tmp 7) (by rfl) w.heap.size _ _ ho1 (by rfl) s (by rfl) (by omega) (by omega) ?_; intro A2 n2 d2 w2 ho2 hg2))
  go_ret
  exact ⟨_, _, _, rfl, ho2, hb1.own z1 ho1 hg2⟩

set_option maxRecDepth 100000 in
theorem folded_any (n : Int) (w : World) (h0 : -9223372036854775808 ≤ n) (h1 : n < 9223372036854775808) :
    Calls Try.prog 54 #[.int .i64 n] w fun e w' => e = .returned (.int .u64 (Wire.fold n : Int)) ∧ w = w' := by
  by_cases hn : n < 0
  · have R := Lib.hid (show (Wire.fold n : Int) = 2 * (-(n + 1)) + 1 by unfold Wire.fold; rw [if_pos hn]; omega)
    go_enter Try.func54, Try.ntmps54
    go_wp2
    go_ret
    exact ⟨ret_u64 (by rw [R.out]), rfl⟩
  · have R := Lib.hid (show (Wire.fold n : Int) = 2 * n by unfold Wire.fold; rw [if_neg hn]; omega)
    go_enter Try.func54, Try.ntmps54
    go_wp2
    go_ret
    exact ⟨ret_u64 (by rw [R.out]), rfl⟩
set_option maxRecDepth 100000 in
theorem rsigned_any (n : Int) (w : World) (h0 : -9223372036854775808 ≤ n) (h1 : n < 9223372036854775808) :
    Calls Try.prog 14 #[.int .i64 n] w fun e w' => ∃ A n' c, e = .returned (.slice A n' c) ∧ OwnB w' w.heap.size (.slice A n' c) (Wire.form (Wire.fold n)) ∧ Below w.heap.size w w' := by
  have hf := fold_lt n h0 h1
  have H := Lib.hid (folded_any n · h0 h1)
  generalize Wire.fold n = f at *
  go_enter Try.func14, Try.ntmps14
  go_wp2_with (first
    | (go_at_call 54; refine (H.out _).mono ?_; rintro e w1 ⟨rfl, rfl⟩)
    | (go_at_call 12; refine (rnum_any _ _ (by omega) (by omega)).mono ?_; rw [Int.toNat_natCast]; rintro e w1 ⟨A1, m1, d1, rfl, ho1, hb1⟩))
  go_ret
  exact ⟨_, _, _, rfl, ho1, hb1⟩

set_option maxRecDepth 100000 in
set_option maxHeartbeats 1000000 in
theorem complexW_any (x y : Nat) (w : World) (hx : x < 18446744073709551616) (hy : y < 18446744073709551616) :
    Calls Try.prog 17 #[.complex .f64 x y] w fun e w' => ∃ A n' c, e = .returned (.slice A n' c) ∧ OwnB w' w.heap.size (.slice A n' c) (Wire.be8 (Wire.canon x) ++ Wire.be8 (Wire.canon y)) ∧ Below w.heap.size w w' := by
  have P1 := Lib.hid fun w => float_any x w hx
  have P2 := Lib.hid fun w => float_any y w hy
  have f1 := Wire.be8_len (Wire.canon x)
  have f2 := Wire.be8_len (Wire.canon y)
  generalize Wire.be8 (Wire.canon x) = F1 at *
  generalize Wire.be8 (Wire.canon y) = F2 at *
  have g1 : F1.length ≤ 8 := by omega
  have g2 : F2.length ≤ 8 := by omega
  clear f1 f2
  go_enter Try.func17, Try.ntmps17
  go_wp2_with fail
  refine (P1.out _).mono ?_
  rintro e w1 ⟨A1, m1, d1, rfl, ho1, hb1⟩
  have z1 := hb1.size
  go_wp2_with fail
  refine (P2.out _).mono ?_
  rintro e w2 ⟨A2, m2, d2, rfl, ho2, hb2⟩
  have z2 := hb2.size
  go_wp2_with (at_builtin; refine wpB_append (by rfl) (.tmp 5) (.tmp 8) (by rfl) w.heap.size _ F1 (ho1.kept hb2) (by rfl) _ _ F2 ho2.reads _ _ ho2.len (by rfl) (by omega) (by omega) ?_; intro A4 n4 d4 w4 ho4 hg4 hnx; clear hnx)
  go_ret
  exact ⟨_, _, _, rfl, ho4, (hb1.up hb2 z1).own (by omega) ho1 hg4⟩

set_option maxRecDepth 100000 in
set_option maxHeartbeats 1000000 in
theorem rfracForm_any (n1 : Bool) (s1 : ByteArray) (n2 : Bool) (s2 : ByteArray) (w : World) (h1 : s1.size ≤ 1048576) (h2 : s2.size ≤ 1048576) :
    Calls Try.prog 28 #[.agg #[.bool n1, .string s1, .bool n2, .string s2]] w fun e w' => ∃ A n' c, e = .returned (.slice A n' c) ∧ OwnB w' w.heap.size (.slice A n' c) (Wire.formF n1 s1 n2 s2) ∧ Below w.heap.size w w' := by
  have P1 := Lib.hid fun w => rput_any n1 s1 w (by omega)
  have P2 := Lib.hid fun w => rput_any n2 s2 w (by omega)
  have f1 := formW_len (n := n1) (s := s1) (by omega)
  have f2 := formW_len (n := n2) (s := s2) (by omega)
  unfold Wire.formF
  generalize Wire.formW n1 s1.data.toList = F1 at *
  generalize Wire.formW n2 s2.data.toList = F2 at *
  go_enter Try.func28, Try.ntmps28
  go_wp2_with fail
  go_region_held3 (fun w' => w'.cell? ⟨w.heap.size, 0, none⟩ = some (.bool n1) ∧ w'.cell? ⟨w.heap.size, 1, none⟩ = some (.string s1) ∧ w'.cell? ⟨w.heap.size, 2, none⟩ = some (.bool n2) ∧ w'.cell? ⟨w.heap.size, 3, none⟩ = some (.string s2))
    (first
      | go_keep
      | (rw [hb2.cell (by simp), hb2.cell (by simp), hb2.cell (by simp), hb2.cell (by simp)]; go_keep)
      | (rw [hg4.cell_far _ (by simp; omega) (ho2.far (by simp)), hg4.cell_far _ (by simp; omega) (ho2.far (by simp)), hg4.cell_far _ (by simp; omega) (ho2.far (by simp)), hg4.cell_far _ (by simp; omega) (ho2.far (by simp))]; go_keep)
      | (rw [hb3.cell (by simp; omega), hb3.cell (by simp; omega), hb3.cell (by simp; omega), hb3.cell (by simp; omega)]; go_keep))
    (first
      | (go_at_call 26; (with_reducible refine (P1.out _).mono ?_); rintro e w2 ⟨A2, m2, d2, rfl, ho2, hb2⟩; have z2 : w.heap.size < w2.heap.size := by have := hb2.size; simp at this; omega)
      | (go_at_call 26; (with_reducible refine (P2.out _).mono ?_); rintro e w3 ⟨A3, m3, d3, rfl, ho3, hb3⟩; have z3 : w2.heap.size ≤ w3.heap.size := hb3.size)
      | (refine stepB_append (by rfl) (.tmp 5) (.tmp 8) (by rfl) w.heap.size _ F1 ((ho2.kept hb3).mono (by simp)) (by rfl) _ _ F2 ho3.reads _ _ ho3.len (by rfl) (by omega) (by omega) ?_; intro A4 n4 d4 w4 ho4 hg4 _))
  go_wp2
  go_ret
  exact ⟨_, _, _, rfl, ho4, (((((Below.refl _ _).alloc (Nat.le_refl _) _).drew.trans (hb2.mono (B' := w.heap.size) (by simp))).up hb3 (by omega)).own (by omega) (ho2.mono (B' := w.heap.size) (by simp)) hg4)⟩

theorem formF_len2 {n1 : Bool} {s1 : ByteArray} {n2 : Bool} {s2 : ByteArray} (h1 : s1.size ≤ 1048576) (h2 : s2.size ≤ 1048576) : (Wire.formF n1 s1 n2 s2).length ≤ 2097172 := by
  have f1 := formW_len (n := n1) (s := s1) (by omega)
  have f2 := formW_len (n := n2) (s := s2) (by omega)
  unfold Wire.formF
  rw [List.length_append]
  omega

set_option maxRecDepth 100000 in
set_option maxHeartbeats 1000000 in
theorem rgaussForm_any (n1 : Bool) (s1 : ByteArray) (n2 : Bool) (s2 : ByteArray) (n3 : Bool) (s3 : ByteArray) (n4 : Bool) (s4 : ByteArray) (w : World) (h1 : s1.size ≤ 1048576) (h2 : s2.size ≤ 1048576) (h3 : s3.size ≤ 1048576) (h4 : s4.size ≤ 1048576) :
    Calls Try.prog 30 #[.agg #[.bool n1, .string s1, .bool n2, .string s2, .bool n3, .string s3, .bool n4, .string s4]] w fun e w' => ∃ A n' c, e = .returned (.slice A n' c) ∧ OwnB w' w.heap.size (.slice A n' c) (Wire.formF n1 s1 n2 s2 ++ Wire.formF n3 s3 n4 s4) ∧ Below w.heap.size w w' := by
  have P1 := Lib.hid fun w => rfracForm_any n1 s1 n2 s2 w h1 h2
  have P2 := Lib.hid fun w => rfracForm_any n3 s3 n4 s4 w h3 h4
  have f1 := formF_len2 (n1 := n1) (n2 := n2) h1 h2
  have f2 := formF_len2 (n1 := n3) (n2 := n4) h3 h4
  generalize Wire.formF n1 s1 n2 s2 = F1 at *
  generalize Wire.formF n3 s3 n4 s4 = F2 at *
  go_enter Try.func30, Try.ntmps30
  go_wp2_with fail
  go_region_held3 (fun w' => (w'.cell? ⟨w.heap.size, 0, none⟩ = some (.bool n1) ∧ w'.cell? ⟨w.heap.size, 1, none⟩ = some (.string s1) ∧ w'.cell? ⟨w.heap.size, 2, none⟩ = some (.bool n2) ∧ w'.cell? ⟨w.heap.size, 3, none⟩ = some (.string s2)) ∧
      w'.cell? ⟨w.heap.size, 4, none⟩ = some (.bool n3) ∧ w'.cell? ⟨w.heap.size, 5, none⟩ = some (.string s3) ∧ w'.cell? ⟨w.heap.size, 6, none⟩ = some (.bool n4) ∧ w'.cell? ⟨w.heap.size, 7, none⟩ = some (.string s4))
    (first
      | go_keep
      | (rw [hb2.cell (by simp), hb2.cell (by simp), hb2.cell (by simp), hb2.cell (by simp), hb2.cell (by simp), hb2.cell (by simp), hb2.cell (by simp), hb2.cell (by simp)]; go_keep)
      | (rw [hg4.cell_far _ (by simp; omega) (ho2.far (by simp)), hg4.cell_far _ (by simp; omega) (ho2.far (by simp)), hg4.cell_far _ (by simp; omega) (ho2.far (by simp)), hg4.cell_far _ (by simp; omega) (ho2.far (by simp)), hg4.cell_far _ (by simp; omega) (ho2.far (by simp)), hg4.cell_far _ (by simp; omega) (ho2.far (by simp)), hg4.cell_far _ (by simp; omega) (ho2.far (by simp)), hg4.cell_far _ (by simp; omega) (ho2.far (by simp))]; go_keep)
      | (rw [hb3.cell (by simp; omega), hb3.cell (by simp; omega), hb3.cell (by simp; omega), hb3.cell (by simp; omega), hb3.cell (by simp; omega), hb3.cell (by simp; omega), hb3.cell (by simp; omega), hb3.cell (by simp; omega)]; go_keep))
    (first
      | (go_at_call 28; (with_reducible refine (P1.out _).mono ?_); rintro e w2 ⟨A2, m2, d2, rfl, ho2, hb2⟩; have z2 : w.heap.size < w2.heap.size := by have := hb2.size; simp at this; omega)
      | (go_at_call 28; (with_reducible refine (P2.out _).mono ?_); rintro e w3 ⟨A3, m3, d3, rfl, ho3, hb3⟩; have z3 : w2.heap.size ≤ w3.heap.size := hb3.size)
      | (refine stepB_append (by rfl) (.tmp 5) (.tmp 8) (by rfl) w.heap.size _ F1 ((ho2.kept hb3).mono (by simp)) (by rfl) _ _ F2 ho3.reads _ _ ho3.len (by rfl) (by omega) (by omega) ?_; intro A4 n4 d4 w4 ho4 hg4 _))
  go_wp2
  go_ret
  exact ⟨_, _, _, rfl, ho4, (((((Below.refl _ _).alloc (Nat.le_refl _) _).drew.trans (hb2.mono (B' := w.heap.size) (by simp))).up hb3 (by omega)).own (by omega) (ho2.mono (B' := w.heap.size) (by simp)) hg4)⟩
end Go.Proofs.Ytgmienlifnpniaa
