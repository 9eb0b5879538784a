/- WireWrites. -/
import Derived.Test.YtgmienlifnpniaaPlain
import Derived.Test.YtgmienlifnpniaaSpoil
import Derived.Test.YtgmienlifnpniaaHeld
namespace Go.Proofs.Ytgmienlifnpniaa
open Go.RowKit

set_option linter.unusedSimpArgs false

/-- a form and no error, or ErrArg -/
def Told (p : Bool) (F : List UInt8) (B : Nat) (w : World) (A : Option Addr) (n c : Nat) (err : Int) : Prop :=
  (p = true ∧ err = 0 ∧ OwnB w B (.slice A n c) F) ∨ (p = false ∧ err = 2 ∧ A = none ∧ n = 0 ∧ c = 0)
theorem Told.kept {p : Bool} {F : List UInt8} {B : Nat} {w w' : World} {A : Option Addr} {n c : Nat} {err : Int} (h : Told p F B w A n c err) (hb : Below w.heap.size w w') : Told p F B w' A n c err :=
  h.imp (fun ⟨a, b, d⟩ => ⟨a, b, d.kept hb⟩) id

theorem told_any {p : Bool} {F : List UInt8} {B B' : Nat} {w : World} {A A' : Option Addr} {n c n' c' : Nat} {err : Int} (h : Told p F B w A n c err) (h' : OwnB w B' (.slice A' n' c') F) :
    Calls Try.prog 24 #[.slice A n c, .int .i64 err, .bool p, .slice A' n' c'] w fun e w' => e = .returned (.bool true) ∧ w = w' := by
  rcases h with ⟨rfl, rfl, h⟩ | ⟨rfl, rfl, rfl, rfl, rfl⟩
  · have t1 := h.str0 rfl
    have t2 := h'.str0 rfl
    go_enter Try.func24, Try.ntmps24
    go_wp2_with (go_at_call 33; refine (num_errno _ _).mono ?_; rintro e w' ⟨rfl, rfl⟩)
    go_ret
    exact ⟨rfl, rfl⟩
  · go_enter Try.func24, Try.ntmps24
    go_wp2_with (go_at_call 33; refine (num_errno _ _).mono ?_; rintro e w' ⟨rfl, rfl⟩)
    go_ret
    exact ⟨rfl, rfl⟩

theorem wholeT (n1 : Bool) (s1 : ByteArray) (w : World) (h1 : s1.size ≤ 1048576) :
    Calls Try.prog 21 #[.agg #[.bool n1, .string s1]] w fun e w' => ∃ A n c err, e = .returned (.tuple #[.slice A n c, .int .i64 err]) ∧ Told (Wire.plainW 16384 n1 s1.data.toList) (Wire.formW n1 s1.data.toList) w.heap.size w' A n c err ∧ Below w.heap.size w w' := by
  cases hp : Wire.plainW 16384 n1 s1.data.toList
  · exact (wholeW_no n1 s1 w (by omega) hp).mono fun e w' ⟨he, hb⟩ => ⟨_, _, _, _, he, .inr ⟨rfl, rfl, rfl, rfl, rfl⟩, hb⟩
  · exact (wholeW_yes n1 s1 w hp).mono fun e w' ⟨A, n, c, he, ho, hb⟩ => ⟨_, _, _, _, he, .inl ⟨rfl, rfl, ho⟩, hb⟩
theorem fracT (n1 : Bool) (s1 : ByteArray) (n2 : Bool) (s2 : ByteArray) (w : World) (h1 : s1.size ≤ 1048576) (h2 : s2.size ≤ 1048576) :
    Calls Try.prog 22 #[.agg #[.bool n1, .string s1, .bool n2, .string s2]] w fun e w' => ∃ A n c err, e = .returned (.tuple #[.slice A n c, .int .i64 err]) ∧ Told (Wire.fracP n1 s1 n2 s2) (Wire.formF n1 s1 n2 s2) w.heap.size w' A n c err ∧ Below w.heap.size w w' := by
  cases hp : Wire.fracP n1 s1 n2 s2
  · exact (fracForm_no n1 s1 n2 s2 w (by omega) (by omega) hp).mono fun e w' ⟨he, hb⟩ => ⟨_, _, _, _, he, .inr ⟨rfl, rfl, rfl, rfl, rfl⟩, hb⟩
  · exact (fracForm_yes n1 s1 n2 s2 w hp).mono fun e w' ⟨A, n, c, he, ho, hb⟩ => ⟨_, _, _, _, he, .inl ⟨rfl, rfl, ho⟩, hb⟩
theorem gaussT (n1 : Bool) (s1 : ByteArray) (n2 : Bool) (s2 : ByteArray) (n3 : Bool) (s3 : ByteArray) (n4 : Bool) (s4 : ByteArray) (w : World) (h1 : s1.size ≤ 1048576) (h2 : s2.size ≤ 1048576) (h3 : s3.size ≤ 1048576) (h4 : s4.size ≤ 1048576) :
    Calls Try.prog 23 #[.agg #[.bool n1, .string s1, .bool n2, .string s2, .bool n3, .string s3, .bool n4, .string s4]] w fun e w' => ∃ A n c err, e = .returned (.tuple #[.slice A n c, .int .i64 err]) ∧
      Told (Wire.fracP n1 s1 n2 s2 && Wire.fracP n3 s3 n4 s4) (Wire.formF n1 s1 n2 s2 ++ Wire.formF n3 s3 n4 s4) w.heap.size w' A n c err ∧ Below w.heap.size w w' := by
  cases hp : (Wire.fracP n1 s1 n2 s2 && Wire.fracP n3 s3 n4 s4)
  · exact (gaussForm_no n1 s1 n2 s2 n3 s3 n4 s4 w (by omega) (by omega) (by omega) (by omega) hp).mono fun e w' ⟨he, hb⟩ => ⟨_, _, _, _, he, .inr ⟨rfl, rfl, rfl, rfl, rfl⟩, hb⟩
  · have hp' := hp
    rw [Bool.and_eq_true] at hp'
    exact (gaussForm_yes n1 s1 n2 s2 n3 s3 n4 s4 w hp'.1 hp'.2).mono fun e w' ⟨A, n, c, he, ho, hb⟩ => ⟨_, _, _, _, he, .inl ⟨rfl, rfl, ho⟩, hb⟩

set_option maxRecDepth 100000 in
set_option maxHeartbeats 4000000 in
theorem writes_any (N S : Int) (x y : Int) (T : ByteArray) (n1 : Bool) (s1 : ByteArray) (n2 : Bool) (s2 : ByteArray) (n3 : Bool) (s3 : ByteArray) (n4 : Bool) (s4 : ByteArray) (w : World)
    (N0 : 0 ≤ N) (N1 : N < 18446744073709551616) (S0 : -9223372036854775808 ≤ S) (S1 : S < 9223372036854775808) (x0 : 0 ≤ x) (x1 : x < 18446744073709551616) (y0 : 0 ≤ y) (y1 : y < 18446744073709551616)
    (hT : T.size ≤ 1048576) (h1 : s1.size ≤ 1048576) (h2 : s2.size ≤ 1048576) (h3 : s3.size ≤ 1048576) (h4 : s4.size ≤ 1048576) :
    Calls Try.prog 4 #[.agg #[.int .u64 N, .int .i64 S, .int .u64 x, .int .u64 y, .string T, .bool n1, .string s1, .bool n2, .string s2, .bool n3, .string s3, .bool n4, .string s4]] w fun e w' => e = .returned (.bool true) ∧ Below w.heap.size w w' := by
  have hx := run_frombits
  go_enter Try.func4, Try.ntmps4
  go_wp2_with (go_quiet (fail))
  obtain ⟨w0, hw0⟩ : ∃ w0, w0 = (w.alloc (.cells #[.int .u64 N, .int .i64 S, .int .u64 x, .int .u64 y, .string T, .bool n1, .string s1, .bool n2, .string s2, .bool n3, .string s3, .bool n4, .string s4] 34)).drewN nq := ⟨_, rfl⟩
  have hblk : Blk w0 w.heap.size 34 #[.int .u64 N, .int .i64 S, .int .u64 x, .int .u64 y, .string T, .bool n1, .string s1, .bool n2, .string s2, .bool n3, .string s3, .bool n4, .string s4] := by rw [hw0]; exact (Blk.new w 34 _).drewN _
  have hb0 : Below w.heap.size w w0 := by rw [hw0]; exact below_drewN ((Below.refl _ _).alloc (Nat.le_refl _) _) _
  have hz0 : w.heap.size < w0.heap.size := hblk.lt
  rw [← hw0]
  clear hw0
  have Hblk := Lib.hid hblk
  have PN := Lib.hid fun w => num_any N w N0 N1
  have tok : True := trivial
  have q0 := hblk.cell 0
  clear hblk
  go_region_held3 (fun w' => w'.cell? ⟨w.heap.size, 0, none⟩ = some (.int .u64 N))
    (first | go_keep | (rw [hb6.cell (p := ⟨w.heap.size, 0, none⟩) (Nat.lt_of_lt_of_le hz0 z5)]; go_keep) | (rw [hb5.cell (p := ⟨w.heap.size, 0, none⟩) hz0]; go_keep))
    (first
      | (go_at_call 9; have _t := tok; (with_reducible refine (PN.out _).mono ?_); rintro e w5 ⟨A5, m5, d5, rfl, ho5, hb5⟩; have z5 : w0.heap.size ≤ w5.heap.size := hb5.size; clear tok _t)
      | (go_at_call 9; (with_reducible refine (PN.out _).mono ?_); rintro e w6 ⟨A6, m6, d6, rfl, ho6, hb6⟩; have z6 : w5.heap.size ≤ w6.heap.size := hb6.size))
  go_wp2_with fail
  clear q0
  have hb56 : Below w.heap.size w w6 := (hb0.drew.trans (hb5.mono (B' := w.heap.size) (by show _ ≤ w0.heap.size; omega))).up hb6 (by omega)
  have hblk6 := (Hblk.out.drew.below hb5 hz0).below hb6 (Nat.lt_of_lt_of_le hz0 z5)
  have hb7 := Below.refl w6.heap.size w6
  have hz6 : w.heap.size < w6.heap.size := by omega
  have fN := ho6.mono (B' := 0) (Nat.zero_le _)
  have c5 : OwnB w6 w0.heap.size (.slice A5 m5 d5) (Wire.form N.toNat) := ho5.kept hb6
  have hne : (Value.slice A6 m6 d6).ownBlock ≠ (Value.slice A5 m5 d5).ownBlock ∨ (Value.slice A6 m6 d6).ownBlock = none := by
    rcases ho6.2 with ⟨h', _⟩ | ⟨g, cap, cur, h', hg', _⟩
    · rw [h']; exact .inr rfl
    · refine .inl fun e => ?_
      rw [h'] at e
      have := ho5.lt g e.symm
      omega
  have H5 := Lib.hid fun w' (h : Below w6.heap.size w6 w') => c5.kept h
  have H6 := Lib.hid fun w' (h : Below w6.heap.size w6 w') => ho6.kept h
  have HB := Lib.hid fun w' (h : Below w6.heap.size w6 w') => hblk6.below h hz6
  have q0 := fun w' (h : Below w6.heap.size w6 w') => (hblk6.below h hz6).cell 0
  have q1 := fun w' (h : Below w6.heap.size w6 w') => (hblk6.below h hz6).cell 1
  have q4 := fun w' (h : Below w6.heap.size w6 w') => (hblk6.below h hz6).cell 4
  have tA := fun w' (h : Below w6.heap.size w6 w') => (c5.kept h).str0 (rfl : Wire.form N.toNat = _)
  have R20 := Lib.hid fun w h hB => spoil_any A5 m5 d5 (Wire.form N.toNat) w w0.heap.size h (by have := Wire.form_len (n := N.toNat) (by omega); omega) hB
  have R21 := Lib.hid fun w => wholeT n1 s1 w h1
  have R22 := Lib.hid fun w => fracT n1 s1 n2 s2 w h1 h2
  have R23 := Lib.hid fun w => gaussT n1 s1 n2 s2 n3 s3 n4 s4 w h1 h2 h3 h4
  have R25 := Lib.hid fun w => rwhole_any n1 s1 w (by omega)
  have R26 := Lib.hid fun w => rput_any n1 s1 w (by omega)
  have R27 := Lib.hid fun w => rfrac_any n1 s1 n2 s2 w (by omega) (by omega)
  have R28 := Lib.hid fun w => rfracForm_any n1 s1 n2 s2 w h1 h2
  have R29 := Lib.hid fun w => rgauss_any n1 s1 n2 s2 n3 s3 n4 s4 w (by omega) (by omega) (by omega) (by omega)
  have R30 := Lib.hid fun w => rgaussForm_any n1 s1 n2 s2 n3 s3 n4 s4 w h1 h2 h3 h4
  have R10 := Lib.hid fun w => known_any w
  have R12 := Lib.hid fun w => rnum_any N w N0 N1
  have R13 := Lib.hid fun w => signed_any S w S0 S1
  have R14 := Lib.hid fun w => rsigned_any S w S0 S1
  have R15 := Lib.hid fun w => float_any x.toNat w (by omega)
  have R16 := Lib.hid fun w => rfloat_any x.toNat w (by omega)
  have R17 := Lib.hid fun w => complexW_any x.toNat y.toNat w (by omega) (by omega)
  have R16y := Lib.hid fun w => rfloat_any y.toNat w (by omega)
  have R18 := Lib.hid fun w => textW_any T w (by omega)
  have R19 := Lib.hid fun w => rtextW_any T w (by omega)
  have lXY : ¬ 9223372036854775807 < (Wire.be8 (Wire.canon x.toNat)).length + (Wire.be8 (Wire.canon y.toNat)).length := by rw [Wire.be8_len, Wire.be8_len]; omega
  generalize Wire.form N.toNat = FN at *
  generalize Wire.form (Wire.fold S) = FS at *
  generalize Wire.formF n1 s1 n2 s2 ++ Wire.formF n3 s3 n4 s4 = GG at *
  generalize Wire.formF n1 s1 n2 s2 = GF at *
  generalize Wire.formW n1 s1.data.toList = GW at *
  generalize (Wire.fracP n1 s1 n2 s2 && Wire.fracP n3 s3 n4 s4) = pG at *
  generalize Wire.fracP n1 s1 n2 s2 = pF at *
  generalize Wire.plainW 16384 n1 s1.data.toList = pW at *
  generalize Wire.be8 (Wire.canon x.toNat) = FX at *
  generalize Wire.be8 (Wire.canon y.toNat) = FY at *
  generalize Wire.form T.size ++ T.data.toList = FT at *
  have hadd := ByteArray.mk_append_mk FX FY
  clear hblk6 c5 fN ho5 hb5 hb6 hb0 hb7
  refine wp_region_noPanic ?_
  refine wp_region_held_drew (S := fun w' => Below w6.heap.size w6 w') (by kernel_rfl) (Below.refl _ _).drew (fun hHeld => ?_)
  refine wpAnyH_take (i := 0) (oi := Oper.mk (some 25) _ _ _ _ _) (v := ?_) rfl (by kernel_rfl) (by kernel_rfl) (by kernel_rfl) (fun _ _ _ h => h) (Or.inl ⟨by rfl, ?_⟩) (by assumption) ?_
  rotate_left
  · (intro w' hSw; (try dsimp only at hSw); go_simp; try with_reducible rfl)
  try simp only [Act.put, List.setIfInBounds_toArray, List.set_cons_zero, List.set_cons_succ]
  refine wpAnyH_take (i := 1) (oi := Oper.mk (some 26) _ _ _ _ _) (v := ?_) rfl (by kernel_rfl) (by kernel_rfl) (by kernel_rfl) (fun _ _ _ h => h) (Or.inl ⟨by rfl, ?_⟩) (by assumption) ?_
  rotate_left
  · (intro w' hSw; (try dsimp only at hSw); go_simp; try with_reducible rfl)
  try simp only [Act.put, List.setIfInBounds_toArray, List.set_cons_zero, List.set_cons_succ]
  refine wpAnyH_take (i := 2) (oi := Oper.mk (some 27) _ _ _ _ _) (v := ?_) rfl (by kernel_rfl) (by kernel_rfl) (by kernel_rfl) (fun _ _ _ h => h) (Or.inl ⟨by rfl, ?_⟩) (by assumption) ?_
  rotate_left
  · (intro w' hSw; (try dsimp only at hSw); go_simp; try with_reducible rfl)
  try simp only [Act.put, List.setIfInBounds_toArray, List.set_cons_zero, List.set_cons_succ]
  refine wpAnyH_take (i := 3) (oi := Oper.mk (some 28) _ _ _ _ _) (v := ?_) rfl (by kernel_rfl) (by kernel_rfl) (by kernel_rfl) (fun _ _ _ h => h) (Or.inl ⟨by rfl, ?_⟩) (by assumption) ?_
  rotate_left
  · (intro w' hSw; (try dsimp only at hSw); go_simp; try with_reducible rfl)
  try simp only [Act.put, List.setIfInBounds_toArray, List.set_cons_zero, List.set_cons_succ]
  refine wpAnyH_ready (rs := [4]) (by kernel_rfl) (by simp) ?_
  refine AllReadyH.cons (o := Oper.mk (some 29) _ _ _ _ _) rfl (fun K hK => ?_) AllReadyH.nil
  go_simp
  refine (R12.out _).mono ?_
  rintro e w12 ⟨A12, m12, d12, rfl, ho12, hb12⟩
  try simp only []
  replace hb12 := undrew hb12
  replace q0 := fun w' (h : Below w12.heap.size w12 w') => q0 w' (hb12.up h hb12.size)
  replace q1 := fun w' (h : Below w12.heap.size w12 w') => q1 w' (hb12.up h hb12.size)
  replace q4 := fun w' (h : Below w12.heap.size w12 w') => q4 w' (hb12.up h hb12.size)
  replace tA := fun w' (h : Below w12.heap.size w12 w') => tA w' (hb12.up h hb12.size)
  have t12 := fun w' (h : Below w12.heap.size w12 w') => (ho12.kept h).str0 (rfl : FN = _)
  refine hK.out _ _ hb12 (fun _ => ?_)
  clear hK K
  refine wpAnyH_more (S' := fun w' => Below w12.heap.size w12 w') (fun w' h => hb12.up h hb12.size) ?_
  have hHeld := Below.refl w12.heap.size w12
  try simp only [Act.put, List.setIfInBounds_toArray, List.set_cons_zero, List.set_cons_succ]
  refine wpAnyH_take (i := 5) (oi := Oper.mk (some 30) _ _ _ _ _) (v := ?_) rfl (by kernel_rfl) (by kernel_rfl) (by kernel_rfl) (fun _ _ _ h => h) (Or.inl ⟨by rfl, ?_⟩) (by assumption) ?_
  rotate_left
  · (intro w' hSw; (try dsimp only at hSw); go_simp; try with_reducible rfl)
  try simp only [Act.put, List.setIfInBounds_toArray, List.set_cons_zero, List.set_cons_succ]
  refine wpAnyH_take (i := 6) (oi := Oper.mk (some 31) _ _ _ _ _) (v := ?_) rfl (by kernel_rfl) (by kernel_rfl) (by kernel_rfl) (fun _ _ _ h => h) (Or.inl ⟨by rfl, ?_⟩) (by assumption) ?_
  rotate_left
  · (intro w' hSw; (try dsimp only at hSw); go_simp; try with_reducible rfl)
  try simp only [Act.put, List.setIfInBounds_toArray, List.set_cons_zero, List.set_cons_succ]
  refine wpAnyH_take (i := 7) (oi := Oper.mk (some 32) _ _ _ _ _) (v := ?_) rfl (by kernel_rfl) (by kernel_rfl) (by kernel_rfl) (fun _ _ _ h => h) (Or.inl ⟨by rfl, ?_⟩) (by assumption) ?_
  rotate_left
  · (intro w' hSw; (try dsimp only at hSw); go_simp; try with_reducible rfl)
  try simp only [Act.put, List.setIfInBounds_toArray, List.set_cons_zero, List.set_cons_succ]
  refine wpAnyH_take (i := 8) (oi := Oper.mk (some 33) _ _ _ _ _) (v := ?_) rfl (by kernel_rfl) (by kernel_rfl) (by kernel_rfl) (fun _ _ _ h => h) (Or.inl ⟨by rfl, ?_⟩) (by assumption) ?_
  rotate_left
  · (intro w' hSw; (try dsimp only at hSw); go_simp; try with_reducible rfl)
  try simp only [Act.put, List.setIfInBounds_toArray, List.set_cons_zero, List.set_cons_succ]
  refine wpAnyH_take (i := 9) (oi := Oper.mk (some 34) _ _ _ _ _) (v := ?_) rfl (by kernel_rfl) (by kernel_rfl) (by kernel_rfl) (fun _ _ _ h => h) (Or.inl ⟨by rfl, ?_⟩) (by assumption) ?_
  rotate_left
  · (intro w' hSw; (try dsimp only at hSw); go_simp; try with_reducible rfl)
  try simp only [Act.put, List.setIfInBounds_toArray, List.set_cons_zero, List.set_cons_succ]
  refine wpAnyH_take (i := 12) (oi := Oper.mk (some 37) _ _ _ _ _) (v := ?_) rfl (by kernel_rfl) (by kernel_rfl) (by kernel_rfl) (fun _ _ _ h => h) (Or.inl ⟨by rfl, ?_⟩) (by assumption) ?_
  rotate_left
  · (intro w' hSw; (try dsimp only at hSw); go_simp; try with_reducible rfl)
  try simp only [Act.put, List.setIfInBounds_toArray, List.set_cons_zero, List.set_cons_succ]
  refine wpAnyH_take (i := 13) (oi := Oper.mk (some 38) _ _ _ _ _) (v := ?_) rfl (by kernel_rfl) (by kernel_rfl) (by kernel_rfl) (fun _ _ _ h => h) (Or.inl ⟨by rfl, ?_⟩) (by assumption) ?_
  rotate_left
  · (intro w' hSw; (try dsimp only at hSw); go_simp; try with_reducible rfl)
  try simp only [Act.put, List.setIfInBounds_toArray, List.set_cons_zero, List.set_cons_succ]
  refine wpAnyH_ready (rs := [10]) (by kernel_rfl) (by simp) ?_
  refine AllReadyH.cons (o := Oper.mk (some 35) _ _ _ _ _) rfl (fun K hK => ?_) AllReadyH.nil
  go_simp
  refine (R13.out _).mono ?_
  rintro e w13 ⟨A13, m13, d13, rfl, ho13, hb13⟩
  try simp only []
  replace q0 := fun w' (h : Below w13.heap.size w13 w') => q0 w' (hb13.up h hb13.size)
  replace q1 := fun w' (h : Below w13.heap.size w13 w') => q1 w' (hb13.up h hb13.size)
  replace q4 := fun w' (h : Below w13.heap.size w13 w') => q4 w' (hb13.up h hb13.size)
  replace tA := fun w' (h : Below w13.heap.size w13 w') => tA w' (hb13.up h hb13.size)
  replace t12 := fun w' (h : Below w13.heap.size w13 w') => t12 w' (hb13.up h hb13.size)
  have t13 := fun w' (h : Below w13.heap.size w13 w') => (ho13.kept h).str0 (rfl : FS = _)
  refine hK.out _ _ hb13 (fun _ => ?_)
  clear hK K
  refine wpAnyH_more (S' := fun w' => Below w13.heap.size w13 w') (fun w' h => hb13.up h hb13.size) ?_
  have hHeld := Below.refl w13.heap.size w13
  try simp only [Act.put, List.setIfInBounds_toArray, List.set_cons_zero, List.set_cons_succ]
  refine wpAnyH_take (i := 11) (oi := Oper.mk (some 36) _ _ _ _ _) (v := ?_) rfl (by kernel_rfl) (by kernel_rfl) (by kernel_rfl) (fun _ _ _ h => h) (Or.inl ⟨by rfl, ?_⟩) (by assumption) ?_
  rotate_left
  · (intro w' hSw; (try dsimp only at hSw); go_simp; try with_reducible rfl)
  try simp only [Act.put, List.setIfInBounds_toArray, List.set_cons_zero, List.set_cons_succ]
  refine wpAnyH_ready (rs := [14]) (by kernel_rfl) (by simp) ?_
  refine AllReadyH.cons (o := Oper.mk (some 39) _ _ _ _ _) rfl (fun K hK => ?_) AllReadyH.nil
  go_simp
  refine (R14.out _).mono ?_
  rintro e w14 ⟨A14, m14, d14, rfl, ho14, hb14⟩
  try simp only []
  replace q0 := fun w' (h : Below w14.heap.size w14 w') => q0 w' (hb14.up h hb14.size)
  replace q1 := fun w' (h : Below w14.heap.size w14 w') => q1 w' (hb14.up h hb14.size)
  replace q4 := fun w' (h : Below w14.heap.size w14 w') => q4 w' (hb14.up h hb14.size)
  replace tA := fun w' (h : Below w14.heap.size w14 w') => tA w' (hb14.up h hb14.size)
  replace t12 := fun w' (h : Below w14.heap.size w14 w') => t12 w' (hb14.up h hb14.size)
  replace t13 := fun w' (h : Below w14.heap.size w14 w') => t13 w' (hb14.up h hb14.size)
  have t14 := fun w' (h : Below w14.heap.size w14 w') => (ho14.kept h).str0 (rfl : FS = _)
  refine hK.out _ _ hb14 (fun _ => ?_)
  clear hK K
  refine wpAnyH_more (S' := fun w' => Below w14.heap.size w14 w') (fun w' h => hb14.up h hb14.size) ?_
  have hHeld := Below.refl w14.heap.size w14
  try simp only [Act.put, List.setIfInBounds_toArray, List.set_cons_zero, List.set_cons_succ]
  refine wpAnyH_take (i := 15) (oi := Oper.mk (some 40) _ _ _ _ _) (v := ?_) rfl (by kernel_rfl) (by kernel_rfl) (by kernel_rfl) (fun _ _ _ h => h) (Or.inl ⟨by rfl, ?_⟩) (by assumption) ?_
  rotate_left
  · (intro w' hSw; (try dsimp only at hSw); go_simp; try with_reducible rfl)
  try simp only [Act.put, List.setIfInBounds_toArray, List.set_cons_zero, List.set_cons_succ]
  refine wpAnyH_take (i := 16) (oi := Oper.mk (some 41) _ _ _ _ _) (v := ?_) rfl (by kernel_rfl) (by kernel_rfl) (by kernel_rfl) (fun _ _ _ h => h) (Or.inl ⟨by rfl, ?_⟩) (by assumption) ?_
  rotate_left
  · (intro w' hSw; (try dsimp only at hSw); go_simp; try with_reducible rfl)
  try simp only [Act.put, List.setIfInBounds_toArray, List.set_cons_zero, List.set_cons_succ]
  refine wpAnyH_take (i := 17) (oi := Oper.mk (some 42) _ _ _ _ _) (v := ?_) rfl (by kernel_rfl) (by kernel_rfl) (by kernel_rfl) (fun _ _ _ h => h) (Or.inl ⟨by rfl, ?_⟩) (by assumption) ?_
  rotate_left
  · (intro w' hSw; (try dsimp only at hSw); go_simp; try with_reducible rfl)
  try simp only [Act.put, List.setIfInBounds_toArray, List.set_cons_zero, List.set_cons_succ]
  refine wpAnyH_take (i := 18) (oi := Oper.mk (some 43) _ _ _ _ _) (v := ?_) rfl (by kernel_rfl) (by kernel_rfl) (by kernel_rfl) (fun _ _ _ h => h) (Or.inl ⟨by rfl, ?_⟩) (by assumption) ?_
  rotate_left
  · (intro w' hSw; (try dsimp only at hSw); go_simp; try with_reducible rfl)
  try simp only [Act.put, List.setIfInBounds_toArray, List.set_cons_zero, List.set_cons_succ]
  refine wpAnyH_take (i := 19) (oi := Oper.mk (some 44) _ _ _ _ _) (v := ?_) rfl (by kernel_rfl) (by kernel_rfl) (by kernel_rfl) (fun _ _ _ h => h) (Or.inl ⟨by rfl, ?_⟩) (by assumption) ?_
  rotate_left
  · (intro w' hSw; (try dsimp only at hSw); go_simp; try with_reducible rfl)
  try simp only [Act.put, List.setIfInBounds_toArray, List.set_cons_zero, List.set_cons_succ]
  refine wpAnyH_take (i := 22) (oi := Oper.mk (some 47) _ _ _ _ _) (v := ?_) rfl (by kernel_rfl) (by kernel_rfl) (by kernel_rfl) (fun _ _ _ h => h) (Or.inl ⟨by rfl, ?_⟩) (by assumption) ?_
  rotate_left
  · (intro w' hSw; (try dsimp only at hSw); go_simp; try with_reducible rfl)
  try simp only [Act.put, List.setIfInBounds_toArray, List.set_cons_zero, List.set_cons_succ]
  refine wpAnyH_ready (rs := [20]) (by kernel_rfl) (by simp) ?_
  refine AllReadyH.cons (o := Oper.mk (some 45) _ _ _ _ _) rfl (fun K hK => ?_) AllReadyH.nil
  go_simp
  refine (R15.out _).mono ?_
  rintro e w15 ⟨A15, m15, d15, rfl, ho15, hb15⟩
  try simp only []
  replace q0 := fun w' (h : Below w15.heap.size w15 w') => q0 w' (hb15.up h hb15.size)
  replace q1 := fun w' (h : Below w15.heap.size w15 w') => q1 w' (hb15.up h hb15.size)
  replace q4 := fun w' (h : Below w15.heap.size w15 w') => q4 w' (hb15.up h hb15.size)
  replace tA := fun w' (h : Below w15.heap.size w15 w') => tA w' (hb15.up h hb15.size)
  replace t12 := fun w' (h : Below w15.heap.size w15 w') => t12 w' (hb15.up h hb15.size)
  replace t13 := fun w' (h : Below w15.heap.size w15 w') => t13 w' (hb15.up h hb15.size)
  replace t14 := fun w' (h : Below w15.heap.size w15 w') => t14 w' (hb15.up h hb15.size)
  have t15 := fun w' (h : Below w15.heap.size w15 w') => (ho15.kept h).str0 (rfl : FX = _)
  refine hK.out _ _ hb15 (fun _ => ?_)
  clear hK K
  refine wpAnyH_more (S' := fun w' => Below w15.heap.size w15 w') (fun w' h => hb15.up h hb15.size) ?_
  have hHeld := Below.refl w15.heap.size w15
  try simp only [Act.put, List.setIfInBounds_toArray, List.set_cons_zero, List.set_cons_succ]
  refine wpAnyH_take (i := 21) (oi := Oper.mk (some 46) _ _ _ _ _) (v := ?_) rfl (by kernel_rfl) (by kernel_rfl) (by kernel_rfl) (fun _ _ _ h => h) (Or.inl ⟨by rfl, ?_⟩) (by assumption) ?_
  rotate_left
  · (intro w' hSw; (try dsimp only at hSw); go_simp; try with_reducible rfl)
  try simp only [Act.put, List.setIfInBounds_toArray, List.set_cons_zero, List.set_cons_succ]
  refine wpAnyH_ready (rs := [23]) (by kernel_rfl) (by simp) ?_
  refine AllReadyH.cons (o := Oper.mk (some 48) _ _ _ _ _) rfl (fun K hK => ?_) AllReadyH.nil
  go_simp
  refine (R16.out _).mono ?_
  rintro e w16 ⟨A16, m16, d16, rfl, ho16, hb16⟩
  try simp only []
  replace q0 := fun w' (h : Below w16.heap.size w16 w') => q0 w' (hb16.up h hb16.size)
  replace q1 := fun w' (h : Below w16.heap.size w16 w') => q1 w' (hb16.up h hb16.size)
  replace q4 := fun w' (h : Below w16.heap.size w16 w') => q4 w' (hb16.up h hb16.size)
  replace tA := fun w' (h : Below w16.heap.size w16 w') => tA w' (hb16.up h hb16.size)
  replace t12 := fun w' (h : Below w16.heap.size w16 w') => t12 w' (hb16.up h hb16.size)
  replace t13 := fun w' (h : Below w16.heap.size w16 w') => t13 w' (hb16.up h hb16.size)
  replace t14 := fun w' (h : Below w16.heap.size w16 w') => t14 w' (hb16.up h hb16.size)
  replace t15 := fun w' (h : Below w16.heap.size w16 w') => t15 w' (hb16.up h hb16.size)
  have t16 := fun w' (h : Below w16.heap.size w16 w') => (ho16.kept h).str0 (rfl : FX = _)
  refine hK.out _ _ hb16 (fun _ => ?_)
  clear hK K
  refine wpAnyH_more (S' := fun w' => Below w16.heap.size w16 w') (fun w' h => hb16.up h hb16.size) ?_
  have hHeld := Below.refl w16.heap.size w16
  try simp only [Act.put, List.setIfInBounds_toArray, List.set_cons_zero, List.set_cons_succ]
  refine wpAnyH_take (i := 24) (oi := Oper.mk (some 49) _ _ _ _ _) (v := ?_) rfl (by kernel_rfl) (by kernel_rfl) (by kernel_rfl) (fun _ _ _ h => h) (Or.inl ⟨by rfl, ?_⟩) (by assumption) ?_
  rotate_left
  · (intro w' hSw; (try dsimp only at hSw); go_simp; try with_reducible rfl)
  try simp only [Act.put, List.setIfInBounds_toArray, List.set_cons_zero, List.set_cons_succ]
  refine wpAnyH_take (i := 25) (oi := Oper.mk (some 50) _ _ _ _ _) (v := ?_) rfl (by kernel_rfl) (by kernel_rfl) (by kernel_rfl) (fun _ _ _ h => h) (Or.inl ⟨by rfl, ?_⟩) (by assumption) ?_
  rotate_left
  · (intro w' hSw; (try dsimp only at hSw); go_simp; try with_reducible rfl)
  try simp only [Act.put, List.setIfInBounds_toArray, List.set_cons_zero, List.set_cons_succ]
  refine wpAnyH_take (i := 26) (oi := Oper.mk (some 51) _ _ _ _ _) (v := ?_) rfl (by kernel_rfl) (by kernel_rfl) (by kernel_rfl) (fun _ _ _ h => h) (Or.inl ⟨by rfl, ?_⟩) (by assumption) ?_
  rotate_left
  · (intro w' hSw; (try dsimp only at hSw); go_simp; try with_reducible rfl)
  try simp only [Act.put, List.setIfInBounds_toArray, List.set_cons_zero, List.set_cons_succ]
  refine wpAnyH_take (i := 27) (oi := Oper.mk (some 52) _ _ _ _ _) (v := ?_) rfl (by kernel_rfl) (by kernel_rfl) (by kernel_rfl) (fun _ _ _ h => h) (Or.inl ⟨by rfl, ?_⟩) (by assumption) ?_
  rotate_left
  · (intro w' hSw; (try dsimp only at hSw); go_simp; try with_reducible rfl)
  try simp only [Act.put, List.setIfInBounds_toArray, List.set_cons_zero, List.set_cons_succ]
  refine wpAnyH_take (i := 28) (oi := Oper.mk (some 53) _ _ _ _ _) (v := ?_) rfl (by kernel_rfl) (by kernel_rfl) (by kernel_rfl) (fun _ _ _ h => h) (Or.inl ⟨by rfl, ?_⟩) (by assumption) ?_
  rotate_left
  · (intro w' hSw; (try dsimp only at hSw); go_simp; try with_reducible rfl)
  try simp only [Act.put, List.setIfInBounds_toArray, List.set_cons_zero, List.set_cons_succ]
  refine wpAnyH_take (i := 29) (oi := Oper.mk (some 54) _ _ _ _ _) (v := ?_) rfl (by kernel_rfl) (by kernel_rfl) (by kernel_rfl) (fun _ _ _ h => h) (Or.inl ⟨by rfl, ?_⟩) (by assumption) ?_
  rotate_left
  · (intro w' hSw; (try dsimp only at hSw); go_simp; try with_reducible rfl)
  try simp only [Act.put, List.setIfInBounds_toArray, List.set_cons_zero, List.set_cons_succ]
  refine wpAnyH_take (i := 30) (oi := Oper.mk (some 55) _ _ _ _ _) (v := ?_) rfl (by kernel_rfl) (by kernel_rfl) (by kernel_rfl) (fun _ _ _ h => h) (Or.inl ⟨by rfl, ?_⟩) (by assumption) ?_
  rotate_left
  · (intro w' hSw; (try dsimp only at hSw); go_simp; try with_reducible rfl)
  try simp only [Act.put, List.setIfInBounds_toArray, List.set_cons_zero, List.set_cons_succ]
  refine wpAnyH_take (i := 33) (oi := Oper.mk (some 58) _ _ _ _ _) (v := ?_) rfl (by kernel_rfl) (by kernel_rfl) (by kernel_rfl) (fun _ _ _ h => h) (Or.inl ⟨by rfl, ?_⟩) (by assumption) ?_
  rotate_left
  · (intro w' hSw; (try dsimp only at hSw); go_simp; try with_reducible rfl)
  try simp only [Act.put, List.setIfInBounds_toArray, List.set_cons_zero, List.set_cons_succ]
  refine wpAnyH_take (i := 36) (oi := Oper.mk (some 61) _ _ _ _ _) (v := ?_) rfl (by kernel_rfl) (by kernel_rfl) (by kernel_rfl) (fun _ _ _ h => h) (Or.inl ⟨by rfl, ?_⟩) (by assumption) ?_
  rotate_left
  · (intro w' hSw; (try dsimp only at hSw); go_simp; try with_reducible rfl)
  try simp only [Act.put, List.setIfInBounds_toArray, List.set_cons_zero, List.set_cons_succ]
  refine wpAnyH_ready (rs := [31]) (by kernel_rfl) (by simp) ?_
  refine AllReadyH.cons (o := Oper.mk (some 56) _ _ _ _ _) rfl (fun K hK => ?_) AllReadyH.nil
  go_simp
  refine (R17.out _).mono ?_
  rintro e w17 ⟨A17, m17, d17, rfl, ho17, hb17⟩
  try simp only []
  replace q0 := fun w' (h : Below w17.heap.size w17 w') => q0 w' (hb17.up h hb17.size)
  replace q1 := fun w' (h : Below w17.heap.size w17 w') => q1 w' (hb17.up h hb17.size)
  replace q4 := fun w' (h : Below w17.heap.size w17 w') => q4 w' (hb17.up h hb17.size)
  replace tA := fun w' (h : Below w17.heap.size w17 w') => tA w' (hb17.up h hb17.size)
  replace t12 := fun w' (h : Below w17.heap.size w17 w') => t12 w' (hb17.up h hb17.size)
  replace t13 := fun w' (h : Below w17.heap.size w17 w') => t13 w' (hb17.up h hb17.size)
  replace t14 := fun w' (h : Below w17.heap.size w17 w') => t14 w' (hb17.up h hb17.size)
  replace t15 := fun w' (h : Below w17.heap.size w17 w') => t15 w' (hb17.up h hb17.size)
  replace t16 := fun w' (h : Below w17.heap.size w17 w') => t16 w' (hb17.up h hb17.size)
  have t17 := fun w' (h : Below w17.heap.size w17 w') => (ho17.kept h).str0 (rfl : (FX ++ FY) = _)
  refine hK.out _ _ hb17 (fun _ => ?_)
  clear hK K
  refine wpAnyH_more (S' := fun w' => Below w17.heap.size w17 w') (fun w' h => hb17.up h hb17.size) ?_
  have hHeld := Below.refl w17.heap.size w17
  try simp only [Act.put, List.setIfInBounds_toArray, List.set_cons_zero, List.set_cons_succ]
  refine wpAnyH_take (i := 32) (oi := Oper.mk (some 57) _ _ _ _ _) (v := ?_) rfl (by kernel_rfl) (by kernel_rfl) (by kernel_rfl) (fun _ _ _ h => h) (Or.inl ⟨by rfl, ?_⟩) (by assumption) ?_
  rotate_left
  · (intro w' hSw; (try dsimp only at hSw); go_simp; try with_reducible rfl)
  try simp only [Act.put, List.setIfInBounds_toArray, List.set_cons_zero, List.set_cons_succ]
  refine wpAnyH_ready (rs := [34]) (by kernel_rfl) (by simp) ?_
  refine AllReadyH.cons (o := Oper.mk (some 59) _ _ _ _ _) rfl (fun K hK => ?_) AllReadyH.nil
  go_simp
  refine (R16.out _).mono ?_
  rintro e w26 ⟨A26, m26, d26, rfl, ho26, hb26⟩
  try simp only []
  replace q0 := fun w' (h : Below w26.heap.size w26 w') => q0 w' (hb26.up h hb26.size)
  replace q1 := fun w' (h : Below w26.heap.size w26 w') => q1 w' (hb26.up h hb26.size)
  replace q4 := fun w' (h : Below w26.heap.size w26 w') => q4 w' (hb26.up h hb26.size)
  replace tA := fun w' (h : Below w26.heap.size w26 w') => tA w' (hb26.up h hb26.size)
  replace t12 := fun w' (h : Below w26.heap.size w26 w') => t12 w' (hb26.up h hb26.size)
  replace t13 := fun w' (h : Below w26.heap.size w26 w') => t13 w' (hb26.up h hb26.size)
  replace t14 := fun w' (h : Below w26.heap.size w26 w') => t14 w' (hb26.up h hb26.size)
  replace t15 := fun w' (h : Below w26.heap.size w26 w') => t15 w' (hb26.up h hb26.size)
  replace t16 := fun w' (h : Below w26.heap.size w26 w') => t16 w' (hb26.up h hb26.size)
  replace t17 := fun w' (h : Below w26.heap.size w26 w') => t17 w' (hb26.up h hb26.size)
  have t26 := fun w' (h : Below w26.heap.size w26 w') => (ho26.kept h).str0 (rfl : FX = _)
  refine hK.out _ _ hb26 (fun _ => ?_)
  clear hK K
  refine wpAnyH_more (S' := fun w' => Below w26.heap.size w26 w') (fun w' h => hb26.up h hb26.size) ?_
  have hHeld := Below.refl w26.heap.size w26
  try simp only [Act.put, List.setIfInBounds_toArray, List.set_cons_zero, List.set_cons_succ]
  refine wpAnyH_take (i := 35) (oi := Oper.mk (some 60) _ _ _ _ _) (v := ?_) rfl (by kernel_rfl) (by kernel_rfl) (by kernel_rfl) (fun _ _ _ h => h) (Or.inl ⟨by rfl, ?_⟩) (by assumption) ?_
  rotate_left
  · (intro w' hSw; (try dsimp only at hSw); go_simp; try with_reducible rfl)
  try simp only [Act.put, List.setIfInBounds_toArray, List.set_cons_zero, List.set_cons_succ]
  refine wpAnyH_ready (rs := [37]) (by kernel_rfl) (by simp) ?_
  refine AllReadyH.cons (o := Oper.mk (some 62) _ _ _ _ _) rfl (fun K hK => ?_) AllReadyH.nil
  go_simp
  refine (R16y.out _).mono ?_
  rintro e w27 ⟨A27, m27, d27, rfl, ho27, hb27⟩
  try simp only []
  replace q0 := fun w' (h : Below w27.heap.size w27 w') => q0 w' (hb27.up h hb27.size)
  replace q1 := fun w' (h : Below w27.heap.size w27 w') => q1 w' (hb27.up h hb27.size)
  replace q4 := fun w' (h : Below w27.heap.size w27 w') => q4 w' (hb27.up h hb27.size)
  replace tA := fun w' (h : Below w27.heap.size w27 w') => tA w' (hb27.up h hb27.size)
  replace t12 := fun w' (h : Below w27.heap.size w27 w') => t12 w' (hb27.up h hb27.size)
  replace t13 := fun w' (h : Below w27.heap.size w27 w') => t13 w' (hb27.up h hb27.size)
  replace t14 := fun w' (h : Below w27.heap.size w27 w') => t14 w' (hb27.up h hb27.size)
  replace t15 := fun w' (h : Below w27.heap.size w27 w') => t15 w' (hb27.up h hb27.size)
  replace t16 := fun w' (h : Below w27.heap.size w27 w') => t16 w' (hb27.up h hb27.size)
  replace t17 := fun w' (h : Below w27.heap.size w27 w') => t17 w' (hb27.up h hb27.size)
  replace t26 := fun w' (h : Below w27.heap.size w27 w') => t26 w' (hb27.up h hb27.size)
  have t27 := fun w' (h : Below w27.heap.size w27 w') => (ho27.kept h).str0 (rfl : FY = _)
  refine hK.out _ _ hb27 (fun _ => ?_)
  clear hK K
  refine wpAnyH_more (S' := fun w' => Below w27.heap.size w27 w') (fun w' h => hb27.up h hb27.size) ?_
  have hHeld := Below.refl w27.heap.size w27
  try simp only [Act.put, List.setIfInBounds_toArray, List.set_cons_zero, List.set_cons_succ]
  refine wpAnyH_take (i := 38) (oi := Oper.mk (some 63) _ _ _ _ _) (v := ?_) rfl (by kernel_rfl) (by kernel_rfl) (by kernel_rfl) (fun _ _ _ h => h) (Or.inl ⟨by rfl, ?_⟩) (by assumption) ?_
  rotate_left
  · (intro w' hSw; (try dsimp only at hSw); go_simp; try with_reducible rfl)
  try simp only [Act.put, List.setIfInBounds_toArray, List.set_cons_zero, List.set_cons_succ]
  refine wpAnyH_take (i := 39) (oi := Oper.mk (some 64) _ _ _ _ _) (v := ?_) rfl (by kernel_rfl) (by kernel_rfl) (by kernel_rfl) (fun _ _ _ h => h) (Or.inl ⟨by rfl, ?_⟩) (by assumption) ?_
  rotate_left
  · (intro w' hSw; (try dsimp only at hSw); go_simp; try with_reducible rfl)
  try simp only [Act.put, List.setIfInBounds_toArray, List.set_cons_zero, List.set_cons_succ]
  refine wpAnyH_take (i := 40) (oi := Oper.mk (some 65) _ _ _ _ _) (v := ?_) rfl (by kernel_rfl) (by kernel_rfl) (by kernel_rfl) (fun _ _ _ h => h) (Or.inl ⟨by rfl, ?_⟩) (by assumption) ?_
  rotate_left
  · (intro w' hSw; (try dsimp only at hSw); go_simp; try with_reducible rfl)
  try simp only [Act.put, List.setIfInBounds_toArray, List.set_cons_zero, List.set_cons_succ]
  refine wpAnyH_take (i := 41) (oi := Oper.mk (some 66) _ _ _ _ _) (v := ?_) rfl (by kernel_rfl) (by kernel_rfl) (by kernel_rfl) (fun _ _ _ h => h) (Or.inl ⟨by rfl, ?_⟩) (by assumption) ?_
  rotate_left
  · (intro w' hSw; (try dsimp only at hSw); go_simp; try with_reducible rfl)
  try simp only [Act.put, List.setIfInBounds_toArray, List.set_cons_zero, List.set_cons_succ]
  refine wpAnyH_take (i := 42) (oi := Oper.mk (some 67) _ _ _ _ _) (v := ?_) rfl (by kernel_rfl) (by kernel_rfl) (by kernel_rfl) (fun _ _ _ h => h) (Or.inl ⟨by rfl, ?_⟩) (by assumption) ?_
  rotate_left
  · (intro w' hSw; (try dsimp only at hSw); go_simp; try with_reducible rfl)
  try simp only [Act.put, List.setIfInBounds_toArray, List.set_cons_zero, List.set_cons_succ]
  refine wpAnyH_take (i := 43) (oi := Oper.mk (some 68) _ _ _ _ _) (v := ?_) rfl (by kernel_rfl) (by kernel_rfl) (by kernel_rfl) (fun _ _ _ h => h) (Or.inl ⟨by rfl, ?_⟩) (by assumption) ?_
  rotate_left
  · (intro w' hSw; (try dsimp only at hSw); go_simp; try with_reducible rfl)
  try simp only [Act.put, List.setIfInBounds_toArray, List.set_cons_zero, List.set_cons_succ]
  refine wpAnyH_take (i := 44) (oi := Oper.mk (some 69) _ _ _ _ _) (v := ?_) rfl (by kernel_rfl) (by kernel_rfl) (by kernel_rfl) (fun _ _ _ h => h) (Or.inl ⟨by rfl, ?_⟩) (by assumption) ?_
  rotate_left
  · (intro w' hSw; (try dsimp only at hSw); go_simp; try with_reducible rfl)
  try simp only [Act.put, List.setIfInBounds_toArray, List.set_cons_zero, List.set_cons_succ]
  refine wpAnyH_take (i := 47) (oi := Oper.mk (some 72) _ _ _ _ _) (v := ?_) rfl (by kernel_rfl) (by kernel_rfl) (by kernel_rfl) (fun _ _ _ h => h) (Or.inl ⟨by rfl, ?_⟩) (by assumption) ?_
  rotate_left
  · (intro w' hSw; (try dsimp only at hSw); go_simp; try with_reducible rfl)
  try simp only [Act.put, List.setIfInBounds_toArray, List.set_cons_zero, List.set_cons_succ]
  refine wpAnyH_take (i := 48) (oi := Oper.mk (some 73) _ _ _ _ _) (v := ?_) rfl (by kernel_rfl) (by kernel_rfl) (by kernel_rfl) (fun _ _ _ h => h) (Or.inl ⟨by rfl, ?_⟩) (by assumption) ?_
  rotate_left
  · (intro w' hSw; (try dsimp only at hSw); go_simp; try with_reducible rfl)
  try simp only [Act.put, List.setIfInBounds_toArray, List.set_cons_zero, List.set_cons_succ]
  refine wpAnyH_ready (rs := [45]) (by kernel_rfl) (by simp) ?_
  refine AllReadyH.cons (o := Oper.mk (some 70) _ _ _ _ _) rfl (fun K hK => ?_) AllReadyH.nil
  go_simp
  refine (R18.out _).mono ?_
  rintro e w18 ⟨A18, m18, d18, rfl, ho18, hb18⟩
  try simp only []
  replace q0 := fun w' (h : Below w18.heap.size w18 w') => q0 w' (hb18.up h hb18.size)
  replace q1 := fun w' (h : Below w18.heap.size w18 w') => q1 w' (hb18.up h hb18.size)
  replace q4 := fun w' (h : Below w18.heap.size w18 w') => q4 w' (hb18.up h hb18.size)
  replace tA := fun w' (h : Below w18.heap.size w18 w') => tA w' (hb18.up h hb18.size)
  replace t12 := fun w' (h : Below w18.heap.size w18 w') => t12 w' (hb18.up h hb18.size)
  replace t13 := fun w' (h : Below w18.heap.size w18 w') => t13 w' (hb18.up h hb18.size)
  replace t14 := fun w' (h : Below w18.heap.size w18 w') => t14 w' (hb18.up h hb18.size)
  replace t15 := fun w' (h : Below w18.heap.size w18 w') => t15 w' (hb18.up h hb18.size)
  replace t16 := fun w' (h : Below w18.heap.size w18 w') => t16 w' (hb18.up h hb18.size)
  replace t17 := fun w' (h : Below w18.heap.size w18 w') => t17 w' (hb18.up h hb18.size)
  replace t26 := fun w' (h : Below w18.heap.size w18 w') => t26 w' (hb18.up h hb18.size)
  replace t27 := fun w' (h : Below w18.heap.size w18 w') => t27 w' (hb18.up h hb18.size)
  have t18 := fun w' (h : Below w18.heap.size w18 w') => (ho18.kept h).str0 (rfl : FT = _)
  refine hK.out _ _ hb18 (fun _ => ?_)
  clear hK K
  refine wpAnyH_more (S' := fun w' => Below w18.heap.size w18 w') (fun w' h => hb18.up h hb18.size) ?_
  have hHeld := Below.refl w18.heap.size w18
  try simp only [Act.put, List.setIfInBounds_toArray, List.set_cons_zero, List.set_cons_succ]
  refine wpAnyH_take (i := 46) (oi := Oper.mk (some 71) _ _ _ _ _) (v := ?_) rfl (by kernel_rfl) (by kernel_rfl) (by kernel_rfl) (fun _ _ _ h => h) (Or.inl ⟨by rfl, ?_⟩) (by assumption) ?_
  rotate_left
  · (intro w' hSw; (try dsimp only at hSw); go_simp; try with_reducible rfl)
  try simp only [Act.put, List.setIfInBounds_toArray, List.set_cons_zero, List.set_cons_succ]
  refine wpAnyH_ready (rs := [49]) (by kernel_rfl) (by simp) ?_
  refine AllReadyH.cons (o := Oper.mk (some 74) _ _ _ _ _) rfl (fun K hK => ?_) AllReadyH.nil
  go_simp
  refine (R19.out _).mono ?_
  rintro e w19 ⟨A19, m19, d19, rfl, ho19, hb19⟩
  try simp only []
  replace q0 := fun w' (h : Below w19.heap.size w19 w') => q0 w' (hb19.up h hb19.size)
  replace q1 := fun w' (h : Below w19.heap.size w19 w') => q1 w' (hb19.up h hb19.size)
  replace q4 := fun w' (h : Below w19.heap.size w19 w') => q4 w' (hb19.up h hb19.size)
  replace tA := fun w' (h : Below w19.heap.size w19 w') => tA w' (hb19.up h hb19.size)
  replace t12 := fun w' (h : Below w19.heap.size w19 w') => t12 w' (hb19.up h hb19.size)
  replace t13 := fun w' (h : Below w19.heap.size w19 w') => t13 w' (hb19.up h hb19.size)
  replace t14 := fun w' (h : Below w19.heap.size w19 w') => t14 w' (hb19.up h hb19.size)
  replace t15 := fun w' (h : Below w19.heap.size w19 w') => t15 w' (hb19.up h hb19.size)
  replace t16 := fun w' (h : Below w19.heap.size w19 w') => t16 w' (hb19.up h hb19.size)
  replace t17 := fun w' (h : Below w19.heap.size w19 w') => t17 w' (hb19.up h hb19.size)
  replace t26 := fun w' (h : Below w19.heap.size w19 w') => t26 w' (hb19.up h hb19.size)
  replace t27 := fun w' (h : Below w19.heap.size w19 w') => t27 w' (hb19.up h hb19.size)
  replace t18 := fun w' (h : Below w19.heap.size w19 w') => t18 w' (hb19.up h hb19.size)
  have t19 := fun w' (h : Below w19.heap.size w19 w') => (ho19.kept h).str0 (rfl : FT = _)
  refine hK.out _ _ hb19 (fun _ => ?_)
  clear hK K
  refine wpAnyH_more (S' := fun w' => Below w19.heap.size w19 w') (fun w' h => hb19.up h hb19.size) ?_
  have hHeld := Below.refl w19.heap.size w19
  try simp only [Act.put, List.setIfInBounds_toArray, List.set_cons_zero, List.set_cons_succ]
  refine wpAnyH_take (i := 50) (oi := Oper.mk (some 75) _ _ _ _ _) (v := ?_) rfl (by kernel_rfl) (by kernel_rfl) (by kernel_rfl) (fun _ _ _ h => h) (Or.inl ⟨by rfl, ?_⟩) (by assumption) ?_
  rotate_left
  · (intro w' hSw; (try dsimp only at hSw); go_simp; try with_reducible rfl)
  try simp only [Act.put, List.setIfInBounds_toArray, List.set_cons_zero, List.set_cons_succ]
  refine wpAnyH_take (i := 51) (oi := Oper.mk (some 76) _ _ _ _ _) (v := ?_) rfl (by kernel_rfl) (by kernel_rfl) (by kernel_rfl) (fun _ _ _ h => h) (Or.inl ⟨by rfl, ?_⟩) (by assumption) ?_
  rotate_left
  · (intro w' hSw; (try dsimp only at hSw); go_simp; try with_reducible rfl)
  try simp only [Act.put, List.setIfInBounds_toArray, List.set_cons_zero, List.set_cons_succ]
  refine wpAnyH_take (i := 52) (oi := Oper.mk (some 77) _ _ _ _ _) (v := ?_) rfl (by kernel_rfl) (by kernel_rfl) (by kernel_rfl) (fun _ _ _ h => h) (Or.inl ⟨by rfl, ?_⟩) (by assumption) ?_
  rotate_left
  · (intro w' hSw; (try dsimp only at hSw); go_simp; try with_reducible rfl)
  try simp only [Act.put, List.setIfInBounds_toArray, List.set_cons_zero, List.set_cons_succ]
  refine wpAnyH_done (by kernel_rfl) ?_ _
  refine NoPanic.normal ?_
  have b12 := hb12
  have b13 := b12.up hb13 b12.size
  have b14 := b13.up hb14 b13.size
  have b15 := b14.up hb15 b14.size
  have b16 := b15.up hb16 b15.size
  have b17 := b16.up hb17 b16.size
  have b26 := b17.up hb26 b17.size
  have b27 := b26.up hb27 b26.size
  have b18 := b27.up hb18 b27.size
  have b19 := b18.up hb19 b18.size
  have O5 := H5.out w19 b19
  have O6 := H6.out w19 b19
  have HB2 := HB.out w19 b19
  have z19 := b19.size
  clear q0 q1 q4 tA t12 t13 t14 t15 t16 t17 t26 t27 t18 t19 ho12 ho13 ho14 ho15 ho16 ho17 ho26 ho27 ho18 ho19 b12 b13 b14 b15 b16 b17 b26 b27 b18 hb12 hb13 hb14 hb15 hb16 hb17 hb26 hb27 hb18 hb19 hHeld
  go_wp2_with fail
  refine (R20.out _ O5 (by omega)).mono ?_
  rintro e w20 ⟨rfl, hg20⟩
  have z20 := hg20.size
  have HB3 := HB2.grown hg20 (O5.far (by omega))
  have O7 := O6.grown hg20 hne
  have b20 : Below w.heap.size w w20 := (hb56.up b19 (by omega)).own (by omega) (O5.mono (B' := w.heap.size) (by omega)) hg20
  have c5 := HB3.cell 5
  have c6 := HB3.cell 6
  go_wp2_with fail
  refine (R21.out _).mono ?_
  rintro e w21 ⟨A21, m21, d21, e21, rfl, T21, hb21⟩
  have HB4 := HB3.below hb21 (by omega)
  have c7 := HB4.cell 5
  have c8 := HB4.cell 6
  have c9 := HB4.cell 7
  have c10 := HB4.cell 8
  have z21 := hb21.size
  go_wp2_with fail
  refine (R22.out _).mono ?_
  rintro e w22 ⟨A22, m22, d22, e22, rfl, T22, hb22⟩
  have HB5 := HB4.below hb22 (by omega)
  clear c5 c6 c7 c8 c9 c10
  have x5 := HB5.cell 5
  have x6 := HB5.cell 6
  have x7 := HB5.cell 7
  have x8 := HB5.cell 8
  have x9 := HB5.cell 9
  have x10 := HB5.cell 10
  have x11 := HB5.cell 11
  have x12 := HB5.cell 12
  have z22 := hb22.size
  go_wp2_with fail
  refine (R23.out _).mono ?_
  rintro e w23 ⟨A23, m23, d23, e23, rfl, T23, hb23⟩
  have z23 := hb23.size
  have HB6 := HB5.below hb23 (by omega)
  have O8 := ((O7.kept hb21).kept hb22).kept hb23
  have U21 := (T21.kept hb22).kept hb23
  have U22 := T22.kept hb23
  have b23 := ((b20.up hb21 (by omega)).up hb22 (by omega)).up hb23 (by omega)
  have hzw : w.heap.size < w23.heap.size := by omega
  clear x5 x6 x7 x8 x9 x10 x11 x12 T21 T22 HB HB2 HB3 HB4 HB5 H5 H6 O5 O6 O7 hb21 hb22 hb23 hg20 b20 z19 z20 z21 z22 z23 hne
  have y0 := fun w' (h : Below w23.heap.size w23 w') => (HB6.below h hzw).cell 0
  have y5 := fun w' (h : Below w23.heap.size w23 w') => (HB6.below h hzw).cell 5
  have y6 := fun w' (h : Below w23.heap.size w23 w') => (HB6.below h hzw).cell 6
  have y7 := fun w' (h : Below w23.heap.size w23 w') => (HB6.below h hzw).cell 7
  have y8 := fun w' (h : Below w23.heap.size w23 w') => (HB6.below h hzw).cell 8
  have y9 := fun w' (h : Below w23.heap.size w23 w') => (HB6.below h hzw).cell 9
  have y10 := fun w' (h : Below w23.heap.size w23 w') => (HB6.below h hzw).cell 10
  have y11 := fun w' (h : Below w23.heap.size w23 w') => (HB6.below h hzw).cell 11
  have y12 := fun w' (h : Below w23.heap.size w23 w') => (HB6.below h hzw).cell 12
  have tB := fun w' (h : Below w23.heap.size w23 w') => (O8.kept h).str0 (rfl : FN = _)
  have V21 := Lib.hid fun w' (h : Below w23.heap.size w23 w') => U21.kept h
  have V22 := Lib.hid fun w' (h : Below w23.heap.size w23 w') => U22.kept h
  have V23 := Lib.hid fun w' (h : Below w23.heap.size w23 w') => T23.kept h
  clear U21 U22 T23 O8 HB6
  go_wp2_with fail
  refine wp_region_noPanic ?_
  refine wp_region_held_drew (S := fun w' => Below w23.heap.size w23 w') (by kernel_rfl) (Below.refl _ _).drew (fun hHeld => ?_)
  refine wpAnyH_take (i := 0) (oi := Oper.mk (some 101) _ _ _ _ _) (v := ?_) rfl (by kernel_rfl) (by kernel_rfl) (by kernel_rfl) (fun _ _ _ h => h) (Or.inl ⟨by rfl, ?_⟩) (by assumption) ?_
  rotate_left
  · (intro w' hSw; (try dsimp only at hSw); go_simp; try with_reducible rfl)
  try simp only [Act.put, List.setIfInBounds_toArray, List.set_cons_zero, List.set_cons_succ]
  refine wpAnyH_take (i := 1) (oi := Oper.mk (some 102) _ _ _ _ _) (v := ?_) rfl (by kernel_rfl) (by kernel_rfl) (by kernel_rfl) (fun _ _ _ h => h) (Or.inl ⟨by rfl, ?_⟩) (by assumption) ?_
  rotate_left
  · (intro w' hSw; (try dsimp only at hSw); go_simp; try with_reducible rfl)
  try simp only [Act.put, List.setIfInBounds_toArray, List.set_cons_zero, List.set_cons_succ]
  refine wpAnyH_take (i := 2) (oi := Oper.mk (some 103) _ _ _ _ _) (v := ?_) rfl (by kernel_rfl) (by kernel_rfl) (by kernel_rfl) (fun _ _ _ h => h) (Or.inl ⟨by rfl, ?_⟩) (by assumption) ?_
  rotate_left
  · (intro w' hSw; (try dsimp only at hSw); go_simp; try with_reducible rfl)
  try simp only [Act.put, List.setIfInBounds_toArray, List.set_cons_zero, List.set_cons_succ]
  refine wpAnyH_take (i := 3) (oi := Oper.mk (some 104) _ _ _ _ _) (v := ?_) rfl (by kernel_rfl) (by kernel_rfl) (by kernel_rfl) (fun _ _ _ h => h) (Or.inl ⟨by rfl, ?_⟩) (by assumption) ?_
  rotate_left
  · (intro w' hSw; (try dsimp only at hSw); go_simp; try with_reducible rfl)
  try simp only [Act.put, List.setIfInBounds_toArray, List.set_cons_zero, List.set_cons_succ]
  refine wpAnyH_ready (rs := [4]) (by kernel_rfl) (by simp) ?_
  refine AllReadyH.cons (o := Oper.mk (some 105) _ _ _ _ _) rfl (fun K hK => ?_) AllReadyH.nil
  go_simp
  refine (R12.out _).mono ?_
  rintro e w32 ⟨A32, m32, d32, rfl, ho32, hb32⟩
  try simp only []
  replace hb32 := undrew hb32
  have b32 := hb32
  replace y0 := fun w' (h : Below w32.heap.size w32 w') => y0 w' (hb32.up h hb32.size)
  replace y5 := fun w' (h : Below w32.heap.size w32 w') => y5 w' (hb32.up h hb32.size)
  replace y6 := fun w' (h : Below w32.heap.size w32 w') => y6 w' (hb32.up h hb32.size)
  replace y7 := fun w' (h : Below w32.heap.size w32 w') => y7 w' (hb32.up h hb32.size)
  replace y8 := fun w' (h : Below w32.heap.size w32 w') => y8 w' (hb32.up h hb32.size)
  replace y9 := fun w' (h : Below w32.heap.size w32 w') => y9 w' (hb32.up h hb32.size)
  replace y10 := fun w' (h : Below w32.heap.size w32 w') => y10 w' (hb32.up h hb32.size)
  replace y11 := fun w' (h : Below w32.heap.size w32 w') => y11 w' (hb32.up h hb32.size)
  replace y12 := fun w' (h : Below w32.heap.size w32 w') => y12 w' (hb32.up h hb32.size)
  replace tB := fun w' (h : Below w32.heap.size w32 w') => tB w' (hb32.up h hb32.size)
  have t32 := fun w' (h : Below w32.heap.size w32 w') => (ho32.kept h).str0 (rfl : FN = _)
  refine hK.out _ _ hb32 (fun _ => ?_)
  clear hK K
  refine wpAnyH_more (S' := fun w' => Below w32.heap.size w32 w') (fun w' h => hb32.up h hb32.size) ?_
  have hHeld := Below.refl w32.heap.size w32
  try simp only [Act.put, List.setIfInBounds_toArray, List.set_cons_zero, List.set_cons_succ]
  refine wpAnyH_take (i := 5) (oi := Oper.mk (some 106) _ _ _ _ _) (v := ?_) rfl (by kernel_rfl) (by kernel_rfl) (by kernel_rfl) (fun _ _ _ h => h) (Or.inl ⟨by rfl, ?_⟩) (by assumption) ?_
  rotate_left
  · (intro w' hSw; (try dsimp only at hSw); go_simp; try with_reducible rfl)
  try simp only [Act.put, List.setIfInBounds_toArray, List.set_cons_zero, List.set_cons_succ]
  refine wpAnyH_take (i := 6) (oi := Oper.mk (some 107) _ _ _ _ _) (v := ?_) rfl (by kernel_rfl) (by kernel_rfl) (by kernel_rfl) (fun _ _ _ h => h) (Or.inl ⟨by rfl, ?_⟩) (by assumption) ?_
  rotate_left
  · (intro w' hSw; (try dsimp only at hSw); go_simp; try with_reducible rfl)
  try simp only [Act.put, List.setIfInBounds_toArray, List.set_cons_zero, List.set_cons_succ]
  refine wpAnyH_take (i := 7) (oi := Oper.mk (some 108) _ _ _ _ _) (v := ?_) rfl (by kernel_rfl) (by kernel_rfl) (by kernel_rfl) (fun _ _ _ h => h) (Or.inl ⟨by rfl, ?_⟩) (by assumption) ?_
  rotate_left
  · (intro w' hSw; (try dsimp only at hSw); go_simp; try with_reducible rfl)
  try simp only [Act.put, List.setIfInBounds_toArray, List.set_cons_zero, List.set_cons_succ]
  refine wpAnyH_take (i := 8) (oi := Oper.mk (some 109) _ _ _ _ _) (v := ?_) rfl (by kernel_rfl) (by kernel_rfl) (by kernel_rfl) (fun _ _ _ h => h) (Or.inl ⟨by rfl, ?_⟩) (by assumption) ?_
  rotate_left
  · (intro w' hSw; (try dsimp only at hSw); go_simp; try with_reducible rfl)
  try simp only [Act.put, List.setIfInBounds_toArray, List.set_cons_zero, List.set_cons_succ]
  refine wpAnyH_take (i := 9) (oi := Oper.mk (some 110) _ _ _ _ _) (v := ?_) rfl (by kernel_rfl) (by kernel_rfl) (by kernel_rfl) (fun _ _ _ h => h) (Or.inl ⟨by rfl, ?_⟩) (by assumption) ?_
  rotate_left
  · (intro w' hSw; (try dsimp only at hSw); go_simp; try with_reducible rfl)
  try simp only [Act.put, List.setIfInBounds_toArray, List.set_cons_zero, List.set_cons_succ]
  refine wpAnyH_take (i := 10) (oi := Oper.mk (some 111) _ _ _ _ _) (v := ?_) rfl (by kernel_rfl) (by kernel_rfl) (by kernel_rfl) (fun _ _ _ h => h) (Or.inl ⟨by rfl, ?_⟩) (by assumption) ?_
  rotate_left
  · (intro w' hSw; (try dsimp only at hSw); go_simp; try with_reducible rfl)
  try simp only [Act.put, List.setIfInBounds_toArray, List.set_cons_zero, List.set_cons_succ]
  refine wpAnyH_take (i := 11) (oi := Oper.mk (some 112) _ _ _ _ _) (v := ?_) rfl (by kernel_rfl) (by kernel_rfl) (by kernel_rfl) (fun _ _ _ h => h) (Or.inl ⟨by rfl, ?_⟩) (by assumption) ?_
  rotate_left
  · (intro w' hSw; (try dsimp only at hSw); go_simp; try with_reducible rfl)
  try simp only [Act.put, List.setIfInBounds_toArray, List.set_cons_zero, List.set_cons_succ]
  refine wpAnyH_take (i := 12) (oi := Oper.mk (some 113) _ _ _ _ _) (v := ?_) rfl (by kernel_rfl) (by kernel_rfl) (by kernel_rfl) (fun _ _ _ h => h) (Or.inl ⟨by rfl, ?_⟩) (by assumption) ?_
  rotate_left
  · (intro w' hSw; (try dsimp only at hSw); go_simp; try with_reducible rfl)
  try simp only [Act.put, List.setIfInBounds_toArray, List.set_cons_zero, List.set_cons_succ]
  refine wpAnyH_take (i := 13) (oi := Oper.mk (some 114) _ _ _ _ _) (v := ?_) rfl (by kernel_rfl) (by kernel_rfl) (by kernel_rfl) (fun _ _ _ h => h) (Or.inl ⟨by rfl, ?_⟩) (by assumption) ?_
  rotate_left
  · (intro w' hSw; (try dsimp only at hSw); go_simp; try with_reducible rfl)
  try simp only [Act.put, List.setIfInBounds_toArray, List.set_cons_zero, List.set_cons_succ]
  refine wpAnyH_take (i := 15) (oi := Oper.mk (some 116) _ _ _ _ _) (v := ?_) rfl (by kernel_rfl) (by kernel_rfl) (by kernel_rfl) (fun _ _ _ h => h) (Or.inl ⟨by rfl, ?_⟩) (by assumption) ?_
  rotate_left
  · (intro w' hSw; (try dsimp only at hSw); go_simp; try with_reducible rfl)
  try simp only [Act.put, List.setIfInBounds_toArray, List.set_cons_zero, List.set_cons_succ]
  refine wpAnyH_take (i := 16) (oi := Oper.mk (some 117) _ _ _ _ _) (v := ?_) rfl (by kernel_rfl) (by kernel_rfl) (by kernel_rfl) (fun _ _ _ h => h) (Or.inl ⟨by rfl, ?_⟩) (by assumption) ?_
  rotate_left
  · (intro w' hSw; (try dsimp only at hSw); go_simp; try with_reducible rfl)
  try simp only [Act.put, List.setIfInBounds_toArray, List.set_cons_zero, List.set_cons_succ]
  refine wpAnyH_take (i := 17) (oi := Oper.mk (some 118) _ _ _ _ _) (v := ?_) rfl (by kernel_rfl) (by kernel_rfl) (by kernel_rfl) (fun _ _ _ h => h) (Or.inl ⟨by rfl, ?_⟩) (by assumption) ?_
  rotate_left
  · (intro w' hSw; (try dsimp only at hSw); go_simp; try with_reducible rfl)
  try simp only [Act.put, List.setIfInBounds_toArray, List.set_cons_zero, List.set_cons_succ]
  refine wpAnyH_take (i := 18) (oi := Oper.mk (some 119) _ _ _ _ _) (v := ?_) rfl (by kernel_rfl) (by kernel_rfl) (by kernel_rfl) (fun _ _ _ h => h) (Or.inl ⟨by rfl, ?_⟩) (by assumption) ?_
  rotate_left
  · (intro w' hSw; (try dsimp only at hSw); go_simp; try with_reducible rfl)
  try simp only [Act.put, List.setIfInBounds_toArray, List.set_cons_zero, List.set_cons_succ]
  refine wpAnyH_ready (rs := [14]) (by kernel_rfl) (by simp) ?_
  refine AllReadyH.cons (o := Oper.mk (some 115) _ _ _ _ _) rfl (fun K hK => ?_) AllReadyH.nil
  go_simp
  refine (R25.out _).mono ?_
  rintro e w33 ⟨rfl, hb33⟩
  try simp only []
  have b33 := b32.up hb33 b32.size
  replace y0 := fun w' (h : Below w33.heap.size w33 w') => y0 w' (hb33.up h hb33.size)
  replace y5 := fun w' (h : Below w33.heap.size w33 w') => y5 w' (hb33.up h hb33.size)
  replace y6 := fun w' (h : Below w33.heap.size w33 w') => y6 w' (hb33.up h hb33.size)
  replace y7 := fun w' (h : Below w33.heap.size w33 w') => y7 w' (hb33.up h hb33.size)
  replace y8 := fun w' (h : Below w33.heap.size w33 w') => y8 w' (hb33.up h hb33.size)
  replace y9 := fun w' (h : Below w33.heap.size w33 w') => y9 w' (hb33.up h hb33.size)
  replace y10 := fun w' (h : Below w33.heap.size w33 w') => y10 w' (hb33.up h hb33.size)
  replace y11 := fun w' (h : Below w33.heap.size w33 w') => y11 w' (hb33.up h hb33.size)
  replace y12 := fun w' (h : Below w33.heap.size w33 w') => y12 w' (hb33.up h hb33.size)
  replace tB := fun w' (h : Below w33.heap.size w33 w') => tB w' (hb33.up h hb33.size)
  replace t32 := fun w' (h : Below w33.heap.size w33 w') => t32 w' (hb33.up h hb33.size)
  refine hK.out _ _ hb33 (fun _ => ?_)
  clear hK K
  refine wpAnyH_more (S' := fun w' => Below w33.heap.size w33 w') (fun w' h => hb33.up h hb33.size) ?_
  have hHeld := Below.refl w33.heap.size w33
  try simp only [Act.put, List.setIfInBounds_toArray, List.set_cons_zero, List.set_cons_succ]
  refine wpAnyH_ready (rs := [19]) (by kernel_rfl) (by simp) ?_
  refine AllReadyH.cons (o := Oper.mk (some 120) _ _ _ _ _) rfl (fun K hK => ?_) AllReadyH.nil
  go_simp
  refine (R26.out _).mono ?_
  rintro e w34 ⟨A34, m34, d34, rfl, ho34, hb34⟩
  try simp only []
  have b34 := b33.up hb34 b33.size
  replace y0 := fun w' (h : Below w34.heap.size w34 w') => y0 w' (hb34.up h hb34.size)
  replace y5 := fun w' (h : Below w34.heap.size w34 w') => y5 w' (hb34.up h hb34.size)
  replace y6 := fun w' (h : Below w34.heap.size w34 w') => y6 w' (hb34.up h hb34.size)
  replace y7 := fun w' (h : Below w34.heap.size w34 w') => y7 w' (hb34.up h hb34.size)
  replace y8 := fun w' (h : Below w34.heap.size w34 w') => y8 w' (hb34.up h hb34.size)
  replace y9 := fun w' (h : Below w34.heap.size w34 w') => y9 w' (hb34.up h hb34.size)
  replace y10 := fun w' (h : Below w34.heap.size w34 w') => y10 w' (hb34.up h hb34.size)
  replace y11 := fun w' (h : Below w34.heap.size w34 w') => y11 w' (hb34.up h hb34.size)
  replace y12 := fun w' (h : Below w34.heap.size w34 w') => y12 w' (hb34.up h hb34.size)
  replace tB := fun w' (h : Below w34.heap.size w34 w') => tB w' (hb34.up h hb34.size)
  replace t32 := fun w' (h : Below w34.heap.size w34 w') => t32 w' (hb34.up h hb34.size)
  refine hK.out _ _ hb34 (fun _ => ?_)
  clear hK K
  refine wpAnyH_more (S' := fun w' => Below w34.heap.size w34 w') (fun w' h => hb34.up h hb34.size) ?_
  have hHeld := Below.refl w34.heap.size w34
  try simp only [Act.put, List.setIfInBounds_toArray, List.set_cons_zero, List.set_cons_succ]
  refine wpAnyH_ready (rs := [20]) (by kernel_rfl) (by simp) ?_
  refine AllReadyH.cons (o := Oper.mk (some 121) _ _ _ _ _) rfl (fun K hK => ?_) AllReadyH.nil
  go_simp
  refine (told_any (V21.out _ b34) ho34).mono ?_
  rintro e w35 ⟨rfl, rfl⟩
  try simp only []
  refine hK.out _ _ (Below.refl _ _) (fun _ => ?_)
  clear hK K
  try simp only [Act.put, List.setIfInBounds_toArray, List.set_cons_zero, List.set_cons_succ]
  refine wpAnyH_take (i := 21) (oi := Oper.mk (some 122) _ _ _ _ _) (v := ?_) rfl (by kernel_rfl) (by kernel_rfl) (by kernel_rfl) (fun _ _ _ h => h) (Or.inl ⟨by rfl, ?_⟩) (by assumption) ?_
  rotate_left
  · (intro w' hSw; (try dsimp only at hSw); go_simp; try with_reducible rfl)
  try simp only [Act.put, List.setIfInBounds_toArray, List.set_cons_zero, List.set_cons_succ]
  refine wpAnyH_take (i := 22) (oi := Oper.mk (some 123) _ _ _ _ _) (v := ?_) rfl (by kernel_rfl) (by kernel_rfl) (by kernel_rfl) (fun _ _ _ h => h) (Or.inl ⟨by rfl, ?_⟩) (by assumption) ?_
  rotate_left
  · (intro w' hSw; (try dsimp only at hSw); go_simp; try with_reducible rfl)
  try simp only [Act.put, List.setIfInBounds_toArray, List.set_cons_zero, List.set_cons_succ]
  refine wpAnyH_take (i := 23) (oi := Oper.mk (some 124) _ _ _ _ _) (v := ?_) rfl (by kernel_rfl) (by kernel_rfl) (by kernel_rfl) (fun _ _ _ h => h) (Or.inl ⟨by rfl, ?_⟩) (by assumption) ?_
  rotate_left
  · (intro w' hSw; (try dsimp only at hSw); go_simp; try with_reducible rfl)
  try simp only [Act.put, List.setIfInBounds_toArray, List.set_cons_zero, List.set_cons_succ]
  refine wpAnyH_take (i := 24) (oi := Oper.mk (some 125) _ _ _ _ _) (v := ?_) rfl (by kernel_rfl) (by kernel_rfl) (by kernel_rfl) (fun _ _ _ h => h) (Or.inl ⟨by rfl, ?_⟩) (by assumption) ?_
  rotate_left
  · (intro w' hSw; (try dsimp only at hSw); go_simp; try with_reducible rfl)
  try simp only [Act.put, List.setIfInBounds_toArray, List.set_cons_zero, List.set_cons_succ]
  refine wpAnyH_take (i := 25) (oi := Oper.mk (some 126) _ _ _ _ _) (v := ?_) rfl (by kernel_rfl) (by kernel_rfl) (by kernel_rfl) (fun _ _ _ h => h) (Or.inl ⟨by rfl, ?_⟩) (by assumption) ?_
  rotate_left
  · (intro w' hSw; (try dsimp only at hSw); go_simp; try with_reducible rfl)
  try simp only [Act.put, List.setIfInBounds_toArray, List.set_cons_zero, List.set_cons_succ]
  refine wpAnyH_take (i := 26) (oi := Oper.mk (some 127) _ _ _ _ _) (v := ?_) rfl (by kernel_rfl) (by kernel_rfl) (by kernel_rfl) (fun _ _ _ h => h) (Or.inl ⟨by rfl, ?_⟩) (by assumption) ?_
  rotate_left
  · (intro w' hSw; (try dsimp only at hSw); go_simp; try with_reducible rfl)
  try simp only [Act.put, List.setIfInBounds_toArray, List.set_cons_zero, List.set_cons_succ]
  refine wpAnyH_take (i := 27) (oi := Oper.mk (some 128) _ _ _ _ _) (v := ?_) rfl (by kernel_rfl) (by kernel_rfl) (by kernel_rfl) (fun _ _ _ h => h) (Or.inl ⟨by rfl, ?_⟩) (by assumption) ?_
  rotate_left
  · (intro w' hSw; (try dsimp only at hSw); go_simp; try with_reducible rfl)
  try simp only [Act.put, List.setIfInBounds_toArray, List.set_cons_zero, List.set_cons_succ]
  refine wpAnyH_take (i := 29) (oi := Oper.mk (some 130) _ _ _ _ _) (v := ?_) rfl (by kernel_rfl) (by kernel_rfl) (by kernel_rfl) (fun _ _ _ h => h) (Or.inl ⟨by rfl, ?_⟩) (by assumption) ?_
  rotate_left
  · (intro w' hSw; (try dsimp only at hSw); go_simp; try with_reducible rfl)
  try simp only [Act.put, List.setIfInBounds_toArray, List.set_cons_zero, List.set_cons_succ]
  refine wpAnyH_take (i := 30) (oi := Oper.mk (some 131) _ _ _ _ _) (v := ?_) rfl (by kernel_rfl) (by kernel_rfl) (by kernel_rfl) (fun _ _ _ h => h) (Or.inl ⟨by rfl, ?_⟩) (by assumption) ?_
  rotate_left
  · (intro w' hSw; (try dsimp only at hSw); go_simp; try with_reducible rfl)
  try simp only [Act.put, List.setIfInBounds_toArray, List.set_cons_zero, List.set_cons_succ]
  refine wpAnyH_take (i := 31) (oi := Oper.mk (some 132) _ _ _ _ _) (v := ?_) rfl (by kernel_rfl) (by kernel_rfl) (by kernel_rfl) (fun _ _ _ h => h) (Or.inl ⟨by rfl, ?_⟩) (by assumption) ?_
  rotate_left
  · (intro w' hSw; (try dsimp only at hSw); go_simp; try with_reducible rfl)
  try simp only [Act.put, List.setIfInBounds_toArray, List.set_cons_zero, List.set_cons_succ]
  refine wpAnyH_ready (rs := [28]) (by kernel_rfl) (by simp) ?_
  refine AllReadyH.cons (o := Oper.mk (some 129) _ _ _ _ _) rfl (fun K hK => ?_) AllReadyH.nil
  go_simp
  refine (R27.out _).mono ?_
  rintro e w36 ⟨rfl, hb36⟩
  try simp only []
  have b36 := b34.up hb36 b34.size
  replace y0 := fun w' (h : Below w36.heap.size w36 w') => y0 w' (hb36.up h hb36.size)
  replace y5 := fun w' (h : Below w36.heap.size w36 w') => y5 w' (hb36.up h hb36.size)
  replace y6 := fun w' (h : Below w36.heap.size w36 w') => y6 w' (hb36.up h hb36.size)
  replace y7 := fun w' (h : Below w36.heap.size w36 w') => y7 w' (hb36.up h hb36.size)
  replace y8 := fun w' (h : Below w36.heap.size w36 w') => y8 w' (hb36.up h hb36.size)
  replace y9 := fun w' (h : Below w36.heap.size w36 w') => y9 w' (hb36.up h hb36.size)
  replace y10 := fun w' (h : Below w36.heap.size w36 w') => y10 w' (hb36.up h hb36.size)
  replace y11 := fun w' (h : Below w36.heap.size w36 w') => y11 w' (hb36.up h hb36.size)
  replace y12 := fun w' (h : Below w36.heap.size w36 w') => y12 w' (hb36.up h hb36.size)
  replace tB := fun w' (h : Below w36.heap.size w36 w') => tB w' (hb36.up h hb36.size)
  replace t32 := fun w' (h : Below w36.heap.size w36 w') => t32 w' (hb36.up h hb36.size)
  refine hK.out _ _ hb36 (fun _ => ?_)
  clear hK K
  refine wpAnyH_more (S' := fun w' => Below w36.heap.size w36 w') (fun w' h => hb36.up h hb36.size) ?_
  have hHeld := Below.refl w36.heap.size w36
  try simp only [Act.put, List.setIfInBounds_toArray, List.set_cons_zero, List.set_cons_succ]
  refine wpAnyH_ready (rs := [32]) (by kernel_rfl) (by simp) ?_
  refine AllReadyH.cons (o := Oper.mk (some 133) _ _ _ _ _) rfl (fun K hK => ?_) AllReadyH.nil
  go_simp
  refine (R28.out _).mono ?_
  rintro e w37 ⟨A37, m37, d37, rfl, ho37, hb37⟩
  try simp only []
  have b37 := b36.up hb37 b36.size
  replace y0 := fun w' (h : Below w37.heap.size w37 w') => y0 w' (hb37.up h hb37.size)
  replace y5 := fun w' (h : Below w37.heap.size w37 w') => y5 w' (hb37.up h hb37.size)
  replace y6 := fun w' (h : Below w37.heap.size w37 w') => y6 w' (hb37.up h hb37.size)
  replace y7 := fun w' (h : Below w37.heap.size w37 w') => y7 w' (hb37.up h hb37.size)
  replace y8 := fun w' (h : Below w37.heap.size w37 w') => y8 w' (hb37.up h hb37.size)
  replace y9 := fun w' (h : Below w37.heap.size w37 w') => y9 w' (hb37.up h hb37.size)
  replace y10 := fun w' (h : Below w37.heap.size w37 w') => y10 w' (hb37.up h hb37.size)
  replace y11 := fun w' (h : Below w37.heap.size w37 w') => y11 w' (hb37.up h hb37.size)
  replace y12 := fun w' (h : Below w37.heap.size w37 w') => y12 w' (hb37.up h hb37.size)
  replace tB := fun w' (h : Below w37.heap.size w37 w') => tB w' (hb37.up h hb37.size)
  replace t32 := fun w' (h : Below w37.heap.size w37 w') => t32 w' (hb37.up h hb37.size)
  refine hK.out _ _ hb37 (fun _ => ?_)
  clear hK K
  refine wpAnyH_more (S' := fun w' => Below w37.heap.size w37 w') (fun w' h => hb37.up h hb37.size) ?_
  have hHeld := Below.refl w37.heap.size w37
  try simp only [Act.put, List.setIfInBounds_toArray, List.set_cons_zero, List.set_cons_succ]
  refine wpAnyH_ready (rs := [33]) (by kernel_rfl) (by simp) ?_
  refine AllReadyH.cons (o := Oper.mk (some 134) _ _ _ _ _) rfl (fun K hK => ?_) AllReadyH.nil
  go_simp
  refine (told_any (V22.out _ b37) ho37).mono ?_
  rintro e w38 ⟨rfl, rfl⟩
  try simp only []
  refine hK.out _ _ (Below.refl _ _) (fun _ => ?_)
  clear hK K
  try simp only [Act.put, List.setIfInBounds_toArray, List.set_cons_zero, List.set_cons_succ]
  refine wpAnyH_take (i := 34) (oi := Oper.mk (some 135) _ _ _ _ _) (v := ?_) rfl (by kernel_rfl) (by kernel_rfl) (by kernel_rfl) (fun _ _ _ h => h) (Or.inl ⟨by rfl, ?_⟩) (by assumption) ?_
  rotate_left
  · (intro w' hSw; (try dsimp only at hSw); go_simp; try with_reducible rfl)
  try simp only [Act.put, List.setIfInBounds_toArray, List.set_cons_zero, List.set_cons_succ]
  refine wpAnyH_take (i := 35) (oi := Oper.mk (some 136) _ _ _ _ _) (v := ?_) rfl (by kernel_rfl) (by kernel_rfl) (by kernel_rfl) (fun _ _ _ h => h) (Or.inl ⟨by rfl, ?_⟩) (by assumption) ?_
  rotate_left
  · (intro w' hSw; (try dsimp only at hSw); go_simp; try with_reducible rfl)
  try simp only [Act.put, List.setIfInBounds_toArray, List.set_cons_zero, List.set_cons_succ]
  refine wpAnyH_take (i := 36) (oi := Oper.mk (some 137) _ _ _ _ _) (v := ?_) rfl (by kernel_rfl) (by kernel_rfl) (by kernel_rfl) (fun _ _ _ h => h) (Or.inl ⟨by rfl, ?_⟩) (by assumption) ?_
  rotate_left
  · (intro w' hSw; (try dsimp only at hSw); go_simp; try with_reducible rfl)
  try simp only [Act.put, List.setIfInBounds_toArray, List.set_cons_zero, List.set_cons_succ]
  refine wpAnyH_take (i := 37) (oi := Oper.mk (some 138) _ _ _ _ _) (v := ?_) rfl (by kernel_rfl) (by kernel_rfl) (by kernel_rfl) (fun _ _ _ h => h) (Or.inl ⟨by rfl, ?_⟩) (by assumption) ?_
  rotate_left
  · (intro w' hSw; (try dsimp only at hSw); go_simp; try with_reducible rfl)
  try simp only [Act.put, List.setIfInBounds_toArray, List.set_cons_zero, List.set_cons_succ]
  refine wpAnyH_take (i := 38) (oi := Oper.mk (some 139) _ _ _ _ _) (v := ?_) rfl (by kernel_rfl) (by kernel_rfl) (by kernel_rfl) (fun _ _ _ h => h) (Or.inl ⟨by rfl, ?_⟩) (by assumption) ?_
  rotate_left
  · (intro w' hSw; (try dsimp only at hSw); go_simp; try with_reducible rfl)
  try simp only [Act.put, List.setIfInBounds_toArray, List.set_cons_zero, List.set_cons_succ]
  refine wpAnyH_take (i := 39) (oi := Oper.mk (some 140) _ _ _ _ _) (v := ?_) rfl (by kernel_rfl) (by kernel_rfl) (by kernel_rfl) (fun _ _ _ h => h) (Or.inl ⟨by rfl, ?_⟩) (by assumption) ?_
  rotate_left
  · (intro w' hSw; (try dsimp only at hSw); go_simp; try with_reducible rfl)
  try simp only [Act.put, List.setIfInBounds_toArray, List.set_cons_zero, List.set_cons_succ]
  refine wpAnyH_take (i := 41) (oi := Oper.mk (some 142) _ _ _ _ _) (v := ?_) rfl (by kernel_rfl) (by kernel_rfl) (by kernel_rfl) (fun _ _ _ h => h) (Or.inl ⟨by rfl, ?_⟩) (by assumption) ?_
  rotate_left
  · (intro w' hSw; (try dsimp only at hSw); go_simp; try with_reducible rfl)
  try simp only [Act.put, List.setIfInBounds_toArray, List.set_cons_zero, List.set_cons_succ]
  refine wpAnyH_take (i := 42) (oi := Oper.mk (some 143) _ _ _ _ _) (v := ?_) rfl (by kernel_rfl) (by kernel_rfl) (by kernel_rfl) (fun _ _ _ h => h) (Or.inl ⟨by rfl, ?_⟩) (by assumption) ?_
  rotate_left
  · (intro w' hSw; (try dsimp only at hSw); go_simp; try with_reducible rfl)
  try simp only [Act.put, List.setIfInBounds_toArray, List.set_cons_zero, List.set_cons_succ]
  refine wpAnyH_ready (rs := [40]) (by kernel_rfl) (by simp) ?_
  refine AllReadyH.cons (o := Oper.mk (some 141) _ _ _ _ _) rfl (fun K hK => ?_) AllReadyH.nil
  go_simp
  refine (R29.out _).mono ?_
  rintro e w39 ⟨rfl, hb39⟩
  try simp only []
  have b39 := b37.up hb39 b37.size
  replace y0 := fun w' (h : Below w39.heap.size w39 w') => y0 w' (hb39.up h hb39.size)
  replace y5 := fun w' (h : Below w39.heap.size w39 w') => y5 w' (hb39.up h hb39.size)
  replace y6 := fun w' (h : Below w39.heap.size w39 w') => y6 w' (hb39.up h hb39.size)
  replace y7 := fun w' (h : Below w39.heap.size w39 w') => y7 w' (hb39.up h hb39.size)
  replace y8 := fun w' (h : Below w39.heap.size w39 w') => y8 w' (hb39.up h hb39.size)
  replace y9 := fun w' (h : Below w39.heap.size w39 w') => y9 w' (hb39.up h hb39.size)
  replace y10 := fun w' (h : Below w39.heap.size w39 w') => y10 w' (hb39.up h hb39.size)
  replace y11 := fun w' (h : Below w39.heap.size w39 w') => y11 w' (hb39.up h hb39.size)
  replace y12 := fun w' (h : Below w39.heap.size w39 w') => y12 w' (hb39.up h hb39.size)
  replace tB := fun w' (h : Below w39.heap.size w39 w') => tB w' (hb39.up h hb39.size)
  replace t32 := fun w' (h : Below w39.heap.size w39 w') => t32 w' (hb39.up h hb39.size)
  refine hK.out _ _ hb39 (fun _ => ?_)
  clear hK K
  refine wpAnyH_more (S' := fun w' => Below w39.heap.size w39 w') (fun w' h => hb39.up h hb39.size) ?_
  have hHeld := Below.refl w39.heap.size w39
  try simp only [Act.put, List.setIfInBounds_toArray, List.set_cons_zero, List.set_cons_succ]
  refine wpAnyH_ready (rs := [43]) (by kernel_rfl) (by simp) ?_
  refine AllReadyH.cons (o := Oper.mk (some 144) _ _ _ _ _) rfl (fun K hK => ?_) AllReadyH.nil
  go_simp
  refine (R30.out _).mono ?_
  rintro e w40 ⟨A40, m40, d40, rfl, ho40, hb40⟩
  try simp only []
  have b40 := b39.up hb40 b39.size
  replace y0 := fun w' (h : Below w40.heap.size w40 w') => y0 w' (hb40.up h hb40.size)
  replace y5 := fun w' (h : Below w40.heap.size w40 w') => y5 w' (hb40.up h hb40.size)
  replace y6 := fun w' (h : Below w40.heap.size w40 w') => y6 w' (hb40.up h hb40.size)
  replace y7 := fun w' (h : Below w40.heap.size w40 w') => y7 w' (hb40.up h hb40.size)
  replace y8 := fun w' (h : Below w40.heap.size w40 w') => y8 w' (hb40.up h hb40.size)
  replace y9 := fun w' (h : Below w40.heap.size w40 w') => y9 w' (hb40.up h hb40.size)
  replace y10 := fun w' (h : Below w40.heap.size w40 w') => y10 w' (hb40.up h hb40.size)
  replace y11 := fun w' (h : Below w40.heap.size w40 w') => y11 w' (hb40.up h hb40.size)
  replace y12 := fun w' (h : Below w40.heap.size w40 w') => y12 w' (hb40.up h hb40.size)
  replace tB := fun w' (h : Below w40.heap.size w40 w') => tB w' (hb40.up h hb40.size)
  replace t32 := fun w' (h : Below w40.heap.size w40 w') => t32 w' (hb40.up h hb40.size)
  refine hK.out _ _ hb40 (fun _ => ?_)
  clear hK K
  refine wpAnyH_more (S' := fun w' => Below w40.heap.size w40 w') (fun w' h => hb40.up h hb40.size) ?_
  have hHeld := Below.refl w40.heap.size w40
  try simp only [Act.put, List.setIfInBounds_toArray, List.set_cons_zero, List.set_cons_succ]
  refine wpAnyH_ready (rs := [44]) (by kernel_rfl) (by simp) ?_
  refine AllReadyH.cons (o := Oper.mk (some 145) _ _ _ _ _) rfl (fun K hK => ?_) AllReadyH.nil
  go_simp
  refine (told_any (V23.out _ b40) ho40).mono ?_
  rintro e w41 ⟨rfl, rfl⟩
  try simp only []
  refine hK.out _ _ (Below.refl _ _) (fun _ => ?_)
  clear hK K
  try simp only [Act.put, List.setIfInBounds_toArray, List.set_cons_zero, List.set_cons_succ]
  refine wpAnyH_take (i := 45) (oi := Oper.mk (some 146) _ _ _ _ _) (v := ?_) rfl (by kernel_rfl) (by kernel_rfl) (by kernel_rfl) (fun _ _ _ h => h) (Or.inl ⟨by rfl, ?_⟩) (by assumption) ?_
  rotate_left
  · (intro w' hSw; (try dsimp only at hSw); go_simp; try with_reducible rfl)
  try simp only [Act.put, List.setIfInBounds_toArray, List.set_cons_zero, List.set_cons_succ]
  refine wpAnyH_take (i := 46) (oi := Oper.mk (some 147) _ _ _ _ _) (v := ?_) rfl (by kernel_rfl) (by kernel_rfl) (by kernel_rfl) (fun _ _ _ h => h) (Or.inl ⟨by rfl, ?_⟩) (by assumption) ?_
  rotate_left
  · (intro w' hSw; (try dsimp only at hSw); go_simp; try with_reducible rfl)
  try simp only [Act.put, List.setIfInBounds_toArray, List.set_cons_zero, List.set_cons_succ]
  refine wpAnyH_ready (rs := [47]) (by kernel_rfl) (by simp) ?_
  refine AllReadyH.cons (o := Oper.mk (some 148) _ _ _ _ _) rfl (fun K hK => ?_) AllReadyH.nil
  go_simp
  refine (R10.out _).mono ?_
  rintro e w42 ⟨rfl, hb42⟩
  try simp only []
  have b42 := b40.up hb42 b40.size
  replace y0 := fun w' (h : Below w42.heap.size w42 w') => y0 w' (hb42.up h hb42.size)
  replace y5 := fun w' (h : Below w42.heap.size w42 w') => y5 w' (hb42.up h hb42.size)
  replace y6 := fun w' (h : Below w42.heap.size w42 w') => y6 w' (hb42.up h hb42.size)
  replace y7 := fun w' (h : Below w42.heap.size w42 w') => y7 w' (hb42.up h hb42.size)
  replace y8 := fun w' (h : Below w42.heap.size w42 w') => y8 w' (hb42.up h hb42.size)
  replace y9 := fun w' (h : Below w42.heap.size w42 w') => y9 w' (hb42.up h hb42.size)
  replace y10 := fun w' (h : Below w42.heap.size w42 w') => y10 w' (hb42.up h hb42.size)
  replace y11 := fun w' (h : Below w42.heap.size w42 w') => y11 w' (hb42.up h hb42.size)
  replace y12 := fun w' (h : Below w42.heap.size w42 w') => y12 w' (hb42.up h hb42.size)
  replace tB := fun w' (h : Below w42.heap.size w42 w') => tB w' (hb42.up h hb42.size)
  replace t32 := fun w' (h : Below w42.heap.size w42 w') => t32 w' (hb42.up h hb42.size)
  refine hK.out _ _ hb42 (fun _ => ?_)
  clear hK K
  refine wpAnyH_more (S' := fun w' => Below w42.heap.size w42 w') (fun w' h => hb42.up h hb42.size) ?_
  have hHeld := Below.refl w42.heap.size w42
  try simp only [Act.put, List.setIfInBounds_toArray, List.set_cons_zero, List.set_cons_succ]
  refine wpAnyH_take (i := 48) (oi := Oper.mk (some 149) _ _ _ _ _) (v := ?_) rfl (by kernel_rfl) (by kernel_rfl) (by kernel_rfl) (fun _ _ _ h => h) (Or.inl ⟨by rfl, ?_⟩) (by assumption) ?_
  rotate_left
  · (intro w' hSw; (try dsimp only at hSw); go_simp; try with_reducible rfl)
  try simp only [Act.put, List.setIfInBounds_toArray, List.set_cons_zero, List.set_cons_succ]
  refine wpAnyH_take (i := 49) (oi := Oper.mk (some 2) _ _ _ _ _) (v := ?_) rfl (by kernel_rfl) (by kernel_rfl) (by kernel_rfl) (fun _ _ _ h => h) (Or.inl ⟨by rfl, ?_⟩) (by assumption) ?_
  rotate_left
  · (intro w' hSw; (try dsimp only at hSw); go_simp; try with_reducible rfl)
  try simp only [Act.put, List.setIfInBounds_toArray, List.set_cons_zero, List.set_cons_succ]
  refine wpAnyH_done (by kernel_rfl) ?_ _
  refine NoPanic.normal ?_
  go_wp2
  go_ret
  exact ⟨rfl, b23.up b42 b23.size⟩
end Go.Proofs.Ytgmienlifnpniaa
