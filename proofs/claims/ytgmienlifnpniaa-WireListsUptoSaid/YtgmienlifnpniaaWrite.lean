/- wire.Signed, whole, put, Whole: what is written. -/
import Derived.Test.YtgmienlifnpniaaNum
import Derived.BigQuiet
import Derived.Deep.RegionHeld3
namespace Go.Proofs.Ytgmienlifnpniaa
open Go.RowKit
namespace Wire
/-- a signed number without its sign -/
def fold (n : Int) : Nat := if n < 0 then (2 * (-(n + 1)) + 1).toNat else (2 * n).toNat
/-- a whole number's form -/
def formW (neg : Bool) (m : List UInt8) : List UInt8 := form (2 * m.length + neg.toNat) ++ m
/-- is it plain, with so many bytes at most? -/
def plainW (most : Nat) (neg : Bool) (m : List UInt8) : Bool :=
  match m with
  | [] => !neg
  | c :: _ => decide (m.length ≤ most) && c != 0
end Wire

theorem num_errno (e : Int) (w : World) : Calls Try.prog 33 #[.int .i64 e] w fun x w' => x = .returned (.int .i64 e) ∧ w = w' := by
  go_enter Try.func33, Try.ntmps33
  go_wp2
  go_ret
  exact ⟨rfl, rfl⟩

theorem xor_ones (a : Nat) (ha : a < 18446744073709551616) : a ^^^ 18446744073709551615 = 18446744073709551615 - a := by
  have h1 : (BitVec.ofNat 64 a ^^^ BitVec.allOnes 64).toNat = (~~~ (BitVec.ofNat 64 a)).toNat := by rw [BitVec.xor_allOnes]
  rw [BitVec.toNat_xor, BitVec.toNat_not, BitVec.toNat_allOnes, BitVec.toNat_ofNat, Nat.mod_eq_of_lt (by omega)] at h1
  exact h1
theorem fold_is (n : Int) (h0 : -9223372036854775808 ≤ n) (h1 : n < 9223372036854775808) :
    bits .xor .u64 (IntKind.u64.wrap (IntKind.u64.wrap n * 2)) (IntKind.u64.wrap (n / 9223372036854775808)) = (Wire.fold n : Int) := by
  simp only [IntKind.wrap_u64]
  unfold Wire.fold
  by_cases hn : n < 0
  · rw [if_pos hn]
    have e1 : n / 9223372036854775808 % 18446744073709551616 = ((18446744073709551615 : Nat) : Int) := by omega
    have e2 : n % 18446744073709551616 * 2 % 18446744073709551616 = (((2 * n + 18446744073709551616).toNat : Nat) : Int) := by omega
    rw [e1, e2, u64_xor_nat _ _ (by omega) (by omega), xor_ones _ (by omega)]
    omega
  · rw [if_neg hn]
    have e1 : n / 9223372036854775808 % 18446744073709551616 = ((0 : Nat) : Int) := by omega
    have e2 : n % 18446744073709551616 * 2 % 18446744073709551616 = (((2 * n).toNat : Nat) : Int) := by omega
    rw [e1, e2, u64_xor_nat _ _ (by omega) (by omega), Nat.xor_zero]
theorem fold_lt (n : Int) (h0 : -9223372036854775808 ≤ n) (h1 : n < 9223372036854775808) : Wire.fold n < 18446744073709551616 := by
  unfold Wire.fold
  split <;> omega

theorem signed_any (n : Int) (w : World) (h0 : -9223372036854775808 ≤ n) (h1 : n < 9223372036854775808) :
    Calls Try.prog 13 #[.int .i64 n] w fun e w' => ∃ A n' c, e = .returned (.slice A n' c) ∧ OwnB w' w.heap.size (.slice A n' c) (Wire.form (Wire.fold n)) ∧ Below w.heap.size w w' := by
  go_enter Try.func13, Try.ntmps13
  go_wp2_with fail
  rw [fold_is n h0 h1]
  refine (num_any _ w (by omega) (by have := fold_lt n h0 h1; omega)).mono ?_
  rintro e w' ⟨A, n', c, rfl, ho, hb⟩
  go_wp2
  go_ret
  exact ⟨_, _, _, rfl, ho, hb⟩

theorem ret_bool {a b : Bool} (h : a = b) : Ending.returned (.bool a) = .returned (.bool b) := by rw [h]
theorem isEmpty_of (s : ByteArray) (h : s.size = 0) : s.toList.isEmpty = true := by
  rw [ByteArray.toList_eq, List.isEmpty_iff]
  exact List.eq_nil_of_length_eq_zero h
theorem isEmpty_ne (s : ByteArray) (h : 0 < s.size) : s.toList.isEmpty = false := by
  rw [ByteArray.toList_eq, List.isEmpty_eq_false_iff]
  intro e
  have : s.data.toList.length = 0 := by rw [e]; rfl
  have h2 : s.data.toList.length = s.size := Array.length_toList
  omega
theorem plainW_nil {k : Nat} {neg : Bool} {s : ByteArray} (h : s.size = 0) : Wire.plainW k neg s.data.toList = !neg := by
  have e : s.data.toList = [] := List.eq_nil_of_length_eq_zero h
  rw [e]; rfl
theorem plainW_ne {k : Nat} {neg : Bool} {s : ByteArray} (h : 0 < s.size) : Wire.plainW k neg s.data.toList = (decide (s.size ≤ k) && ((s[0].toNat : Int) != 0)) := by
  have hl : s.data.toList.length = s.size := Array.length_toList
  have e : s.data.toList = s[0] :: s.data.toList.tail := by
    conv => lhs; rw [← List.cons_head_tail (l := s.data.toList) (fun e => by rw [e] at hl; simp at hl; omega)]
    congr 1
    rw [List.head_eq_getElem]
    rfl
  rw [e]
  unfold Wire.plainW
  simp only
  rw [← e, hl]
  congr 1
  rw [Bool.eq_iff_iff]
  simp only [bne_iff_ne, ne_eq]
  have : (0 : UInt8).toNat = 0 := rfl
  constructor
  · intro h1 h2
    exact h1 (UInt8.toNat_inj.1 (by omega))
  · intro h1 h2
    rw [h2] at h1
    exact h1 rfl

set_option maxHeartbeats 400000 in
theorem whole_any (neg : Bool) (s : ByteArray) (k : Int) (w : World) (hs : s.size ≤ 140737488355328) (hk0 : 0 ≤ k) (hk : k ≤ 16384) :
    Calls Try.prog 57 #[.agg #[.bool neg, .string s], .int .i64 k] w fun e w' => e = .returned (.bool (Wire.plainW k.toNat neg s.data.toList)) ∧ Below w.heap.size w w' := by
  obtain ⟨k, rfl⟩ := Int.eq_ofNat_of_zero_le hk0
  rw [Int.toNat_natCast]
  by_cases h : s.size = 0
  · have h1 := isEmpty_of s h
    have e := Lib.hid (plainW_nil (k := k) (neg := neg) h)
    clear h
    go_enter Try.func57, Try.ntmps57
    go_wp2
    go_ret
    exact ⟨ret_bool e.out.symm, (Below.refl _ _).alloc (Nat.le_refl _) _⟩
  · have h0 : 0 < s.size := by omega
    have h1 := isEmpty_ne s h0
    have e := Lib.hid (plainW_ne (k := k) (neg := neg) h0)
    clear h
    by_cases h2 : s.size ≤ k
    · go_enter Try.func57, Try.ntmps57
      go_wp2
      go_ret
      exact ⟨ret_bool (by rw [e.out]; simp [h2]), (Below.refl _ _).alloc (Nat.le_refl _) _⟩
    · go_enter Try.func57, Try.ntmps57
      go_wp2
      go_ret
      exact ⟨ret_bool (by rw [e.out]; simp [h2]), (Below.refl _ _).alloc (Nat.le_refl _) _⟩

theorem or_one (n : Nat) (h : n ≤ 140737488355328) : bits .or .u64 ((n : Int) * 2) 1 = ((2 * n + 1 : Nat) : Int) := by
  rw [show ((n : Int) * 2) = ((n * 2 : Nat) : Int) from by omega, show (1 : Int) = ((1 : Nat) : Int) from rfl, u64_or_nat _ _ (by omega) (by omega), nat_join 1 _ _ (by omega) (by omega)]
  omega

set_option maxRecDepth 100000 in
set_option maxHeartbeats 400000 in
theorem put_any (neg : Bool) (s : ByteArray) (w : World) (hs : s.size ≤ 140737488355318) :
    Calls Try.prog 58 #[.agg #[.bool neg, .string s]] w fun e w' => ∃ A n' c, e = .returned (.slice A n' c) ∧ OwnB w' w.heap.size (.slice A n' c) (Wire.formW neg s.data.toList) ∧ Below w.heap.size w w' := by
  have hl : s.data.toList.length = s.size := Array.length_toList
  have hf : (Wire.form (2 * s.size + neg.toNat)).length ≤ 10 := Wire.form_len (by have := Bool.toNat_le neg; omega)
  have Hf := Lib.hid hf
  have Hl := Lib.hid hl
  have hn1 : ((s.size : Int) * 2) < 18446744073709551616 := by omega
  have hn2 : (0 : Int) ≤ ((s.size : Int) * 2) := by omega
  clear hf hl
  cases neg
  · have Hn := Lib.hid (show ((s.size : Int) * 2).toNat = 2 * s.size + false.toNat from by show _ = 2 * s.size + 0; omega)
    go_enter Try.func58, Try.ntmps58
    go_wp2_with fail
    go_region_held3 (fun w' => w'.cell? ⟨w.heap.size, 1, none⟩ = some (.string s)) (first | go_keep | (rw [hb.cell (by simp)]; go_keep) | (rw [hg2.cell_far _ (by have := hb.size; simp at this ⊢; omega) (ho.far (by simp)), hb.cell (by simp)]; go_keep))
      (first
        | (go_at_call 9; refine (num_any _ _ (by omega) (by omega)).mono ?_; rintro e w1 ⟨A, n', c, rfl, ho, hb⟩)
        | (refine stepB_append_str (by rfl) (.tmp 14) (.tmp 16) (by rfl) w.heap.size _ _ (ho.mono (by simp)) (by rfl) s (by rfl) (by rw [Hn.out]; have := Hf.out; omega) (by have := hb.size; simp at this; omega) ?_; intro A2 n2 c2 w2 ho2 hg2))
    go_wp2
    go_ret
    have hb2 : Below w.heap.size w w2 := ((((Below.refl _ _).alloc (Nat.le_refl _) _).drew).trans (hb.mono (B' := w.heap.size) (by simp))).grown hg2 (by have := hb.size; simp at this; omega) (fun k hk => by
      rcases Nat.lt_or_ge k w.heap.size with h | h
      · exact absurd hk.symm ((ho.mono (B' := w.heap.size) (by simp)).far h)
      · exact h)
    refine ⟨_, _, _, rfl, ?_, hb2⟩
    rw [Hn.out] at ho2
    unfold Wire.formW
    rw [Hl.out]
    exact ho2
  · have Hn := Lib.hid (show (2 * (s.size : Int) + 1).toNat = 2 * s.size + true.toNat from by show _ = 2 * s.size + 1; omega)
    go_enter Try.func58, Try.ntmps58
    go_wp2_with fail
    rw [or_one s.size (by omega)]
    go_region_held3 (fun w' => w'.cell? ⟨w.heap.size, 1, none⟩ = some (.string s)) (first | go_keep | (rw [hb.cell (by simp)]; go_keep) | (rw [hg2.cell_far _ (by have := hb.size; simp at this ⊢; omega) (ho.far (by simp)), hb.cell (by simp)]; go_keep))
      (first
        | (go_at_call 9; refine (num_any _ _ (by omega) (by omega)).mono ?_; rintro e w1 ⟨A, n', c, rfl, ho, hb⟩)
        | (refine stepB_append_str (by rfl) (.tmp 14) (.tmp 16) (by rfl) w.heap.size _ _ (ho.mono (by simp)) (by rfl) s (by rfl) (by rw [Hn.out]; have := Hf.out; omega) (by have := hb.size; simp at this; omega) ?_; intro A2 n2 c2 w2 ho2 hg2))
    go_wp2
    go_ret
    have hb2 : Below w.heap.size w w2 := ((((Below.refl _ _).alloc (Nat.le_refl _) _).drew).trans (hb.mono (B' := w.heap.size) (by simp))).grown hg2 (by have := hb.size; simp at this; omega) (fun k hk => by
      rcases Nat.lt_or_ge k w.heap.size with h | h
      · exact absurd hk.symm ((ho.mono (B' := w.heap.size) (by simp)).far h)
      · exact h)
    refine ⟨_, _, _, rfl, ?_, hb2⟩
    rw [Hn.out] at ho2
    unfold Wire.formW
    rw [Hl.out]
    exact ho2


theorem plain_len {k : Nat} {neg : Bool} {s : ByteArray} (h : Wire.plainW k neg s.data.toList = true) : s.size ≤ k := by
  rcases Nat.eq_zero_or_pos s.size with h0 | h0
  · omega
  · rw [plainW_ne h0] at h
    simp at h
    exact h.1

set_option maxRecDepth 100000 in
set_option maxHeartbeats 400000 in
theorem wholeW_yes (neg : Bool) (s : ByteArray) (w : World) (hp : Wire.plainW 16384 neg s.data.toList = true) :
    Calls Try.prog 21 #[.agg #[.bool neg, .string s]] w fun e w' => ∃ A n' c, e = .returned (.tuple #[.slice A n' c, .int .i64 0]) ∧ OwnB w' w.heap.size (.slice A n' c) (Wire.formW neg s.data.toList) ∧ Below w.heap.size w w' := by
  have hl := plain_len hp
  have Hp := Lib.hid hp
  clear hp
  have H1 := Lib.hid fun w => whole_any neg s 16384 w (by omega) (by omega) (by omega)
  go_enter Try.func21, Try.ntmps21
  go_wp2_with (first
    | (go_at_call 57; refine (H1.out _).mono ?_; rintro e w1 ⟨rfl, hb1⟩; rw [show (16384 : Int).toNat = 16384 from rfl, Hp.out]; have c0 := hb1.cell (p := ⟨w.heap.size, 0, none⟩) (by simp); have c1 := hb1.cell (p := ⟨w.heap.size, 1, none⟩) (by simp))
    | (go_at_call 58; refine (put_any neg s _ (by omega)).mono ?_; rintro e w2 ⟨A, n', c, rfl, ho, hb2⟩))
  have hs := hb1.size
  rw [World.size_alloc] at hs
  have hb : Below w.heap.size w w2 := (((Below.refl _ _).alloc (Nat.le_refl _) _).trans (hb1.mono (B' := w.heap.size) (by simp))).trans (hb2.mono (B' := w.heap.size) (by omega))
  go_ret2
  exact ⟨_, _, _, rfl, ho.mono (by omega), hb⟩

set_option maxRecDepth 100000 in
set_option maxHeartbeats 400000 in
theorem wholeW_no (neg : Bool) (s : ByteArray) (w : World) (hs : s.size ≤ 140737488355328) (hp : Wire.plainW 16384 neg s.data.toList = false) :
    Calls Try.prog 21 #[.agg #[.bool neg, .string s]] w fun e w' => e = .returned (.tuple #[.slice none 0 0, .int .i64 2]) ∧ Below w.heap.size w w' := by
  have Hp := Lib.hid hp
  clear hp
  have H1 := Lib.hid fun w => whole_any neg s 16384 w (by omega) (by omega) (by omega)
  go_enter Try.func21, Try.ntmps21
  go_wp2_with (first
    | (go_at_call 57; refine (H1.out _).mono ?_; rintro e w1 ⟨rfl, hb1⟩; rw [show (16384 : Int).toNat = 16384 from rfl, Hp.out]; have c0 := hb1.cell (p := ⟨w.heap.size, 0, none⟩) (by simp); have c1 := hb1.cell (p := ⟨w.heap.size, 1, none⟩) (by simp)))
  have hb : Below w.heap.size w w1 := (((Below.refl _ _).alloc (Nat.le_refl _) _).trans (hb1.mono (B' := w.heap.size) (by simp)))
  go_ret2
  exact ⟨rfl, hb⟩
end Go.Proofs.Ytgmienlifnpniaa
