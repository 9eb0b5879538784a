/- WireBack's walk. -/
import Derived.Test.YtgmienlifnpniaaWritten
import Derived.Test.YtgmienlifnpniaaHeld
namespace Go.Proofs.Ytgmienlifnpniaa
open Go.RowKit
set_option linter.unusedSimpArgs false

theorem like_yes (a b : Nat) (w : World) (h : Wire.canon a = Wire.canon b) :
    Calls Try.prog 43 #[.float .f64 a, .float .f64 b] w fun e w' => e = .returned (.bool true) ∧ w = w' :=
  (like_any a b w).mono fun e w' ⟨he, hw⟩ => ⟨by rw [he, h]; simp, hw⟩
theorem formG_len {x : ((Bool × ByteArray) × (Bool × ByteArray)) × ((Bool × ByteArray) × (Bool × ByteArray))} (h : Wire.gaussP x = true) : (Wire.formG x).length ≤ 100000 := by
  unfold Wire.gaussP at h
  rw [Bool.and_eq_true] at h
  have h1 := formF_len h.1
  have h2 := formF_len h.2
  unfold Wire.formG
  rw [List.length_append]
  omega

def backL (N : Nat) (S : Int) (x y : Nat) (T : ByteArray) (Z : List UInt8) : List UInt8 :=
  Wire.form N ++ Wire.form (Wire.fold S) ++ (Wire.be8 (Wire.canon x) ++ Wire.be8 (Wire.canon y)) ++ (Wire.form T.size ++ T.data.toList) ++ Z ++ Wire.be8 (Wire.canon x)
theorem back_plain (N : Nat) (S : Int) (x y : Nat) (T : ByteArray) (Z : List UInt8) (N1 : N < 18446744073709551616) (S0 : -9223372036854775808 ≤ S) (S1 : S < 9223372036854775808) (x1 : x < 18446744073709551616) (y1 : y < 18446744073709551616) (hT : T.size ≤ 1048576) :
    (Wire.num ((Wire.form N ++ Wire.form (Wire.fold S) ++ (Wire.be8 (Wire.canon x) ++ Wire.be8 (Wire.canon y)) ++ (Wire.form T.size ++ T.data.toList) ++ Z ++ Wire.be8 (Wire.canon x)).drop 0) = .ok N (Wire.form N).length) ∧
    (Wire.num ((Wire.form N ++ Wire.form (Wire.fold S) ++ (Wire.be8 (Wire.canon x) ++ Wire.be8 (Wire.canon y)) ++ (Wire.form T.size ++ T.data.toList) ++ Z ++ Wire.be8 (Wire.canon x)).drop (Wire.form N).length) = .ok (Wire.fold S) (Wire.form (Wire.fold S)).length) ∧
    (Wire.both Wire.flt ((Wire.form N ++ Wire.form (Wire.fold S) ++ (Wire.be8 (Wire.canon x) ++ Wire.be8 (Wire.canon y)) ++ (Wire.form T.size ++ T.data.toList) ++ Z ++ Wire.be8 (Wire.canon x)).drop ((Wire.form N).length + (Wire.form (Wire.fold S)).length)) = .ok (Wire.canon x, Wire.canon y) 16) ∧
    (Wire.text (T.size : Int) ((Wire.form N ++ Wire.form (Wire.fold S) ++ (Wire.be8 (Wire.canon x) ++ Wire.be8 (Wire.canon y)) ++ (Wire.form T.size ++ T.data.toList) ++ Z ++ Wire.be8 (Wire.canon x)).drop ((Wire.form N).length + (Wire.form (Wire.fold S)).length + 16)) = .ok T.data.toList (Wire.form T.size ++ T.data.toList).length) ∧
    (Wire.form N ++ Wire.form (Wire.fold S) ++ (Wire.be8 (Wire.canon x) ++ Wire.be8 (Wire.canon y)) ++ (Wire.form T.size ++ T.data.toList) ++ Z ++ Wire.be8 (Wire.canon x)).drop ((Wire.form N).length + (Wire.form (Wire.fold S)).length + 16 + (Wire.form T.size ++ T.data.toList).length) = Z ++ Wire.be8 (Wire.canon x) ∧
    (Wire.flt ((Wire.form N ++ Wire.form (Wire.fold S) ++ (Wire.be8 (Wire.canon x) ++ Wire.be8 (Wire.canon y)) ++ (Wire.form T.size ++ T.data.toList) ++ Z ++ Wire.be8 (Wire.canon x)).drop ((Wire.form N).length + (Wire.form (Wire.fold S)).length + 16 + (Wire.form T.size ++ T.data.toList).length + Z.length)) = .ok (Wire.canon x) 8) ∧
    (Wire.form N ++ Wire.form (Wire.fold S) ++ (Wire.be8 (Wire.canon x) ++ Wire.be8 (Wire.canon y)) ++ (Wire.form T.size ++ T.data.toList) ++ Z ++ Wire.be8 (Wire.canon x)).length = (Wire.form N).length + (Wire.form (Wire.fold S)).length + 16 + (Wire.form T.size ++ T.data.toList).length + Z.length + 8 := by
  have e1 := Wire.num_form (n := N) N1
  have e2 := Wire.num_form (n := Wire.fold S) (fold_lt S S0 S1)
  have e3 := Wire.both_flt x1 y1
  have hTl : T.data.toList.length = T.size := Array.length_toList
  have e4 := fun t => Wire.text_form T.data.toList t (by rw [hTl]; omega)
  rw [hTl] at e4
  have e5 := Wire.flt_be8 x1 []
  rw [List.append_nil] at e5
  have l8 : (Wire.be8 (Wire.canon x) ++ Wire.be8 (Wire.canon y)).length = 16 := by rw [List.length_append, Wire.be8_len, Wire.be8_len]
  have l9 := Wire.be8_len (Wire.canon x)
  have l10 : (Wire.form T.size).length + T.size = (Wire.form T.size ++ T.data.toList).length := by rw [List.length_append, hTl]
  rw [l10] at e4
  generalize Wire.be8 (Wire.canon x) ++ Wire.be8 (Wire.canon y) = FXY at *
  generalize Wire.form T.size ++ T.data.toList = FT at *
  generalize Wire.be8 (Wire.canon x) = FX at *
  generalize Wire.form N = FN at *
  generalize Wire.form (Wire.fold S) = FS at *
  refine ⟨?_, ?_, ?_, ?_, ?_, ?_, ?_⟩
  · rw [List.drop_zero]; simp only [List.append_assoc]; exact e1 _
  · simp only [List.append_assoc]; rw [List.drop_left]; exact e2 _
  · rw [← l8] at e3 ⊢
    have e : FN ++ FS ++ FXY ++ FT ++ Z ++ FX = (FN ++ FS) ++ (FXY ++ (FT ++ Z ++ FX)) := by simp only [List.append_assoc]
    rw [e, List.drop_left' (by rw [List.length_append])]; exact e3 _
  · have e : FN ++ FS ++ FXY ++ FT ++ Z ++ FX = (FN ++ FS ++ FXY) ++ (FT ++ (Z ++ FX)) := by simp only [List.append_assoc]
    rw [e, List.drop_left' (by simp only [List.length_append]; omega)]; exact e4 _
  · have e : FN ++ FS ++ FXY ++ FT ++ Z ++ FX = (FN ++ FS ++ FXY ++ FT) ++ (Z ++ FX) := by simp only [List.append_assoc]
    rw [e, List.drop_left' (by simp only [List.length_append]; omega)]
  · have e : FN ++ FS ++ FXY ++ FT ++ Z ++ FX = (FN ++ FS ++ FXY ++ FT ++ Z) ++ FX := rfl
    rw [e, List.drop_left' (by simp only [List.length_append]; omega)]; exact e5
  · simp only [List.length_append]; omega

set_option maxRecDepth 100000 in
set_option maxHeartbeats 8000000 in
theorem back_yes (N : Nat) (S : Int) (x y : Nat) (T : ByteArray) (n1 : Bool) (s1 : ByteArray) (n2 : Bool) (s2 : ByteArray) (n3 : Bool) (s3 : ByteArray) (n4 : Bool) (s4 : ByteArray) (Ab : Option Addr) (cb : Nat) (lb : List UInt8) (w : World)
    (N1 : N < 18446744073709551616) (S0 : -9223372036854775808 ≤ S) (S1 : S < 9223372036854775808) (x1 : x < 18446744073709551616) (y1 : y < 18446744073709551616)
    (hT : T.size ≤ 1048576)
    (hr : ReadsB w w.heap.size Ab lb) (hlb : lb.length ≤ 1048576) (hcb : lb.length ≤ cb) (hcb2 : cb ≤ maxLen) (hp : Wire.gaussP (((n1, s1), (n2, s2)), ((n3, s3), (n4, s4))) = true) :
    Calls Try.prog 6 #[.agg #[.int .u64 (N : Int), .int .i64 S, .int .u64 (x : Int), .int .u64 (y : Int), .string T, .bool n1, .string s1, .bool n2, .string s2, .bool n3, .string s3, .bool n4, .string s4], .slice Ab lb.length cb] w fun e w' => e = .returned (.bool true) ∧ Below w.heap.size w w' := by
  have hq := hp
  unfold Wire.gaussP at hq
  rw [Bool.and_eq_true] at hq
  have hgl := formG_len hp
  have R23 := Lib.hid (show ∀ w, Calls Try.prog 23 #[.agg #[.bool n1, .string s1, .bool n2, .string s2, .bool n3, .string s3, .bool n4, .string s4]] w fun e w' => ∃ A n' c, e = .returned (.tuple #[.slice A n' c, .int .i64 0]) ∧ OwnB w' w.heap.size (.slice A n' c) (Wire.formG (((n1, s1), (n2, s2)), ((n3, s3), (n4, s4)))) ∧ Below w.heap.size w w' from fun w => gaussForm_yes n1 s1 n2 s2 n3 s3 n4 s4 w hq.1 hq.2)
  have P1 := Lib.hid (back_plain N S x y T (Wire.formG (((n1, s1), (n2, s2)), ((n3, s3), (n4, s4)))) N1 S0 S1 x1 y1 hT)
  have P2 := Lib.hid (Wire.gauss_form (x := (((n1, s1), (n2, s2)), ((n3, s3), (n4, s4)))) (Wire.be8 (Wire.canon x)) hp)
  have HR := Lib.hid hr
  have hx := run_frombits
  have R9 := Lib.hid fun w => by have h := num_any (N : Int) w (by omega) (by omega); rw [Int.toNat_natCast] at h; exact h
  have R13 := Lib.hid fun w => signed_any S w S0 S1
  have R15 := Lib.hid fun w => float_any x w x1
  have R17 := Lib.hid fun w => complexW_any x y w x1 y1
  have R18 := Lib.hid fun w => textW_any T w (by omega)
  have R10 := Lib.hid fun w => known_any w
  have R46 := Lib.hid fun w' (hb : Below w.heap.size w w') => written_any Ab cb lb w' ((hr.below hb).more hb.size) hlb hcb hcb2
  have l1 := Wire.form_len N1
  have l2 := Wire.form_len (fold_lt S S0 S1)
  have l3 : (Wire.be8 (Wire.canon x) ++ Wire.be8 (Wire.canon y)).length ≤ 16 := by rw [List.length_append, Wire.be8_len, Wire.be8_len]; omega
  have l4 : (Wire.form T.size ++ T.data.toList).length ≤ 1048586 := by
    have := Wire.form_len (n := T.size) (by omega)
    have h : T.data.toList.length = T.size := Array.length_toList
    rw [List.length_append, h]; omega
  have l5 : (Wire.be8 (Wire.canon x)).length ≤ 8 := by rw [Wire.be8_len]; omega
  have LX := Lib.hid fun w => like_yes (Wire.canon x) x w (Wire.canon_canon x)
  have LY := Lib.hid fun w => like_yes (Wire.canon y) y w (Wire.canon_canon y)
  clear hr hp N1 S0 S1 x1 y1
  generalize hFN : Wire.form N = FN at *
  generalize hFS : Wire.form (Wire.fold S) = FS at *
  generalize hFXY : Wire.be8 (Wire.canon x) ++ Wire.be8 (Wire.canon y) = FXY at *
  generalize hFX : Wire.be8 (Wire.canon x) = FX at *
  generalize hFT : Wire.form T.size ++ T.data.toList = FT at *
  generalize hZZ : Wire.formG (((n1, s1), (n2, s2)), ((n3, s3), (n4, s4))) = Z at *
  clear hFN hFS hFXY hFX hFT hZZ
  go_enter Try.func6, Try.ntmps6
  go_wp2_with (go_quiet (fail))
  obtain ⟨w0, hw0⟩ : ∃ w0, w0 = (w.alloc (.cells #[.int .u64 (N : Int), .int .i64 S, .int .u64 (x : Int), .int .u64 (y : Int), .string T, .bool n1, .string s1, .bool n2, .string s2, .bool n3, .string s3, .bool n4, .string s4] 34)).drewN nq := ⟨_, rfl⟩
  have hblk : Blk w0 w.heap.size 34 #[.int .u64 (N : Int), .int .i64 S, .int .u64 (x : Int), .int .u64 (y : Int), .string T, .bool n1, .string s1, .bool n2, .string s2, .bool n3, .string s3, .bool n4, .string s4] := by rw [hw0]; exact (Blk.new w 34 _).drewN _
  have hb0 : Below w.heap.size w w0 := by rw [hw0]; exact below_drewN ((Below.refl _ _).alloc (Nat.le_refl _) _) _
  have hz0 : w.heap.size < w0.heap.size := hblk.lt
  rw [← hw0]
  clear hw0
  have q5 := hblk.cell 5
  have q6 := hblk.cell 6
  have q7 := hblk.cell 7
  have q8 := hblk.cell 8
  have q9 := hblk.cell 9
  have q10 := hblk.cell 10
  have q11 := hblk.cell 11
  have q12 := hblk.cell 12
  go_wp2_with fail
  refine (R23.out _).mono ?_
  rintro e w2 ⟨A2, m2, d2, rfl, hZ, hb2⟩
  obtain rfl := hZ.len
  have hB2 := hblk.below hb2 hz0
  have b02 := hb0.up hb2 (by omega)
  have hz2 : w.heap.size < w2.heap.size := hB2.lt
  clear q5 q6 q7 q8 q9 q10 q11 q12 hblk hb0 hb2
  have q0 := fun w' (h : Below w2.heap.size w2 w') => (hB2.below h hz2).cell 0
  have q1 := fun w' (h : Below w2.heap.size w2 w') => (hB2.below h hz2).cell 1
  have q4 := fun w' (h : Below w2.heap.size w2 w') => (hB2.below h hz2).cell 4
  have HB2 := Lib.hid hB2
  clear hB2
  go_wp2_with fail
  refine wp_region_noPanic ?_
  refine wp_region_held_drew (S := fun w' => Below w2.heap.size w2 w') (by kernel_rfl) (Below.refl _ _).drew (fun hHeld => ?_)
  refine wpAnyH_take (i := 0) (oi := Oper.mk (some 35) _ _ _ _ _) (v := ?_) rfl (by kernel_rfl) (by kernel_rfl) (by kernel_rfl) (fun _ _ _ h => h) (Or.inl ⟨by rfl, ?_⟩) (by assumption) ?_
  rotate_left
  · (intro w' hSw; (try dsimp only at hSw); go_simp; try with_reducible rfl)
  try simp only [Act.put, List.setIfInBounds_toArray, List.set_cons_zero, List.set_cons_succ]
  refine wpAnyH_take (i := 1) (oi := Oper.mk (some 36) _ _ _ _ _) (v := ?_) rfl (by kernel_rfl) (by kernel_rfl) (by kernel_rfl) (fun _ _ _ h => h) (Or.inl ⟨by rfl, ?_⟩) (by assumption) ?_
  rotate_left
  · (intro w' hSw; (try dsimp only at hSw); go_simp; try with_reducible rfl)
  try simp only [Act.put, List.setIfInBounds_toArray, List.set_cons_zero, List.set_cons_succ]
  refine wpAnyH_take (i := 3) (oi := Oper.mk (some 38) _ _ _ _ _) (v := ?_) rfl (by kernel_rfl) (by kernel_rfl) (by kernel_rfl) (fun _ _ _ h => h) (Or.inl ⟨by rfl, ?_⟩) (by assumption) ?_
  rotate_left
  · (intro w' hSw; (try dsimp only at hSw); go_simp; try with_reducible rfl)
  try simp only [Act.put, List.setIfInBounds_toArray, List.set_cons_zero, List.set_cons_succ]
  refine wpAnyH_take (i := 4) (oi := Oper.mk (some 39) _ _ _ _ _) (v := ?_) rfl (by kernel_rfl) (by kernel_rfl) (by kernel_rfl) (fun _ _ _ h => h) (Or.inl ⟨by rfl, ?_⟩) (by assumption) ?_
  rotate_left
  · (intro w' hSw; (try dsimp only at hSw); go_simp; try with_reducible rfl)
  try simp only [Act.put, List.setIfInBounds_toArray, List.set_cons_zero, List.set_cons_succ]
  refine wpAnyH_take (i := 7) (oi := Oper.mk (some 42) _ _ _ _ _) (v := ?_) rfl (by kernel_rfl) (by kernel_rfl) (by kernel_rfl) (fun _ _ _ h => h) (Or.inl ⟨by rfl, ?_⟩) (by assumption) ?_
  rotate_left
  · (intro w' hSw; (try dsimp only at hSw); go_simp; try with_reducible rfl)
  try simp only [Act.put, List.setIfInBounds_toArray, List.set_cons_zero, List.set_cons_succ]
  refine wpAnyH_take (i := 8) (oi := Oper.mk (some 43) _ _ _ _ _) (v := ?_) rfl (by kernel_rfl) (by kernel_rfl) (by kernel_rfl) (fun _ _ _ h => h) (Or.inl ⟨by rfl, ?_⟩) (by assumption) ?_
  rotate_left
  · (intro w' hSw; (try dsimp only at hSw); go_simp; try with_reducible rfl)
  try simp only [Act.put, List.setIfInBounds_toArray, List.set_cons_zero, List.set_cons_succ]
  refine wpAnyH_take (i := 9) (oi := Oper.mk (some 44) _ _ _ _ _) (v := ?_) rfl (by kernel_rfl) (by kernel_rfl) (by kernel_rfl) (fun _ _ _ h => h) (Or.inl ⟨by rfl, ?_⟩) (by assumption) ?_
  rotate_left
  · (intro w' hSw; (try dsimp only at hSw); go_simp; try with_reducible rfl)
  try simp only [Act.put, List.setIfInBounds_toArray, List.set_cons_zero, List.set_cons_succ]
  refine wpAnyH_take (i := 12) (oi := Oper.mk (some 47) _ _ _ _ _) (v := ?_) rfl (by kernel_rfl) (by kernel_rfl) (by kernel_rfl) (fun _ _ _ h => h) (Or.inl ⟨by rfl, ?_⟩) (by assumption) ?_
  rotate_left
  · (intro w' hSw; (try dsimp only at hSw); go_simp; try with_reducible rfl)
  try simp only [Act.put, List.setIfInBounds_toArray, List.set_cons_zero, List.set_cons_succ]
  refine wpAnyH_take (i := 13) (oi := Oper.mk (some 48) _ _ _ _ _) (v := ?_) rfl (by kernel_rfl) (by kernel_rfl) (by kernel_rfl) (fun _ _ _ h => h) (Or.inl ⟨by rfl, ?_⟩) (by assumption) ?_
  rotate_left
  · (intro w' hSw; (try dsimp only at hSw); go_simp; try with_reducible rfl)
  try simp only [Act.put, List.setIfInBounds_toArray, List.set_cons_zero, List.set_cons_succ]
  refine wpAnyH_take (i := 16) (oi := Oper.mk (some 51) _ _ _ _ _) (v := ?_) rfl (by kernel_rfl) (by kernel_rfl) (by kernel_rfl) (fun _ _ _ h => h) (Or.inl ⟨by rfl, ?_⟩) (by assumption) ?_
  rotate_left
  · (intro w' hSw; (try dsimp only at hSw); go_simp; try with_reducible rfl)
  try simp only [Act.put, List.setIfInBounds_toArray, List.set_cons_zero, List.set_cons_succ]
  refine wpAnyH_take (i := 18) (oi := Oper.mk (some 53) _ _ _ _ _) (v := ?_) rfl (by kernel_rfl) (by kernel_rfl) (by kernel_rfl) (fun _ _ _ h => h) (Or.inl ⟨by rfl, ?_⟩) (by assumption) ?_
  rotate_left
  · (intro w' hSw; (try dsimp only at hSw); go_simp; try with_reducible rfl)
  try simp only [Act.put, List.setIfInBounds_toArray, List.set_cons_zero, List.set_cons_succ]
  refine wpAnyH_ready (rs := [2]) (by kernel_rfl) (by simp) ?_
  refine AllReadyH.cons (o := Oper.mk (some 37) _ _ _ _ _) rfl (fun K hK => ?_) AllReadyH.nil
  go_simp
  refine (R9.out _).mono ?_
  rintro e w3 ⟨A3, m3, d3, rfl, ho3, hb3⟩
  try simp only []
  replace hb3 := undrew hb3
  have b3 := hb3
  obtain rfl := ho3.len
  refine hK.out _ _ b3 (fun _ => ?_)
  clear hK K hHeld
  have hHeld := b3
  try simp only [Act.put, List.setIfInBounds_toArray, List.set_cons_zero, List.set_cons_succ]
  refine wpAnyH_ready (rs := [5]) (by kernel_rfl) (by simp) ?_
  refine AllReadyH.cons (o := Oper.mk (some 40) _ _ _ _ _) rfl (fun K hK => ?_) AllReadyH.nil
  go_simp
  refine (R13.out _).mono ?_
  rintro e w4 ⟨A4, m4, d4, rfl, ho4, hb4⟩
  try simp only []
  have c4 := ho3.kept hb4
  have b4 := b3.up hb4 b3.size
  obtain rfl := ho4.len
  refine hK.out _ _ b4 (fun _ => ?_)
  clear hK K hHeld
  have hHeld := b4
  try simp only [Act.put, List.setIfInBounds_toArray, List.set_cons_zero, List.set_cons_succ]
  refine wpAnyH_ready (rs := [6]) (by kernel_rfl) (by simp) ?_
  refine AllReadyH.cons (o := Oper.mk (some 41) _ _ _ _ _) rfl (fun K hK => ?_) AllReadyH.nil
  refine stepB_append (by rfl) (.tmp 37) (.tmp 40) (by rfl) w2.heap.size _ FN c4 (by rfl) _ _ FS ho4.reads _ _ rfl (by rfl) (by (try simp only [List.length_append]); omega) b4.size ?_
  intro A5 m5 d5 w5 ho5 hg5 hnx5
  clear hnx5
  have b5 := b4.own b4.size c4 hg5
  refine hK.out _ _ b5 (fun _ => ?_)
  clear hK K hHeld
  have hHeld := b5
  try simp only [Act.put, List.setIfInBounds_toArray, List.set_cons_zero, List.set_cons_succ]
  refine wpAnyH_ready (rs := [10]) (by kernel_rfl) (by simp) ?_
  refine AllReadyH.cons (o := Oper.mk (some 45) _ _ _ _ _) rfl (fun K hK => ?_) AllReadyH.nil
  go_simp
  refine (R17.out _).mono ?_
  rintro e w6 ⟨A6, m6, d6, rfl, ho6, hb6⟩
  try simp only []
  have c6 := ho5.kept hb6
  have b6 := b5.up hb6 b5.size
  obtain rfl := ho6.len
  refine hK.out _ _ b6 (fun _ => ?_)
  clear hK K hHeld
  have hHeld := b6
  try simp only [Act.put, List.setIfInBounds_toArray, List.set_cons_zero, List.set_cons_succ]
  refine wpAnyH_ready (rs := [11]) (by kernel_rfl) (by simp) ?_
  refine AllReadyH.cons (o := Oper.mk (some 46) _ _ _ _ _) rfl (fun K hK => ?_) AllReadyH.nil
  refine stepB_append (by rfl) (.tmp 41) (.tmp 45) (by rfl) w2.heap.size _ (FN ++ FS) c6 (by rfl) _ _ FXY ho6.reads _ _ rfl (by rfl) (by (try simp only [List.length_append]); omega) b6.size ?_
  intro A7 m7 d7 w7 ho7 hg7 hnx7
  clear hnx7
  have b7 := b6.own b6.size c6 hg7
  refine hK.out _ _ b7 (fun _ => ?_)
  clear hK K hHeld
  have hHeld := b7
  try simp only [Act.put, List.setIfInBounds_toArray, List.set_cons_zero, List.set_cons_succ]
  refine wpAnyH_ready (rs := [14]) (by kernel_rfl) (by simp) ?_
  refine AllReadyH.cons (o := Oper.mk (some 49) _ _ _ _ _) rfl (fun K hK => ?_) AllReadyH.nil
  go_simp
  refine (R18.out _).mono ?_
  rintro e w8 ⟨A8, m8, d8, rfl, ho8, hb8⟩
  try simp only []
  have c8 := ho7.kept hb8
  have b8 := b7.up hb8 b7.size
  obtain rfl := ho8.len
  refine hK.out _ _ b8 (fun _ => ?_)
  clear hK K hHeld
  have hHeld := b8
  try simp only [Act.put, List.setIfInBounds_toArray, List.set_cons_zero, List.set_cons_succ]
  refine wpAnyH_ready (rs := [15]) (by kernel_rfl) (by simp) ?_
  refine AllReadyH.cons (o := Oper.mk (some 50) _ _ _ _ _) rfl (fun K hK => ?_) AllReadyH.nil
  refine stepB_append (by rfl) (.tmp 46) (.tmp 49) (by rfl) w2.heap.size _ (FN ++ FS ++ FXY) c8 (by rfl) _ _ FT ho8.reads _ _ rfl (by rfl) (by (try simp only [List.length_append]); omega) b8.size ?_
  intro A9 m9 d9 w9 ho9 hg9 hnx9
  clear hnx9
  have b9 := b8.own b8.size c8 hg9
  refine hK.out _ _ b9 (fun _ => ?_)
  clear hK K hHeld
  have hHeld := b9
  try simp only [Act.put, List.setIfInBounds_toArray, List.set_cons_zero, List.set_cons_succ]
  refine wpAnyH_ready (rs := [17]) (by kernel_rfl) (by simp) ?_
  refine AllReadyH.cons (o := Oper.mk (some 52) _ _ _ _ _) rfl (fun K hK => ?_) AllReadyH.nil
  have hz9 := hZ.kept (b9)
  refine stepB_append (by rfl) (.tmp 50) (.tmp 51) (by rfl) w2.heap.size _ (FN ++ FS ++ FXY ++ FT) ho9 (by rfl) _ _ Z hz9.reads _ _ rfl (by rfl) (by (try simp only [List.length_append]); omega) b9.size ?_
  intro A10 m10 d10 w10 ho10 hg10 hnx10
  clear hnx10
  have b10 := b9.own b9.size ho9 hg10
  refine hK.out _ _ b10 (fun _ => ?_)
  clear hK K hHeld
  have hHeld := b10
  try simp only [Act.put, List.setIfInBounds_toArray, List.set_cons_zero, List.set_cons_succ]
  refine wpAnyH_ready (rs := [19]) (by kernel_rfl) (by simp) ?_
  refine AllReadyH.cons (o := Oper.mk (some 54) _ _ _ _ _) rfl (fun K hK => ?_) AllReadyH.nil
  go_simp
  refine (R15.out _).mono ?_
  rintro e w11 ⟨A11, m11, d11, rfl, ho11, hb11⟩
  try simp only []
  have c11 := ho10.kept hb11
  have b11 := b10.up hb11 b10.size
  obtain rfl := ho11.len
  refine hK.out _ _ b11 (fun _ => ?_)
  clear hK K hHeld
  have hHeld := b11
  try simp only [Act.put, List.setIfInBounds_toArray, List.set_cons_zero, List.set_cons_succ]
  refine wpAnyH_ready (rs := [20]) (by kernel_rfl) (by simp) ?_
  refine AllReadyH.cons (o := Oper.mk (some 55) _ _ _ _ _) rfl (fun K hK => ?_) AllReadyH.nil
  refine stepB_append (by rfl) (.tmp 52) (.tmp 54) (by rfl) w2.heap.size _ (FN ++ FS ++ FXY ++ FT ++ Z) c11 (by rfl) _ _ FX ho11.reads _ _ rfl (by rfl) (by (try simp only [List.length_append]); omega) b11.size ?_
  intro A12 m12 d12 w12 ho12 hg12 hnx12
  clear hnx12
  have b12 := b11.own b11.size c11 hg12
  refine hK.out _ _ b12 (fun _ => ?_)
  clear hK K hHeld
  have hHeld := b12
  try simp only [Act.put, List.setIfInBounds_toArray, List.set_cons_zero, List.set_cons_succ]
  refine wpAnyH_take (i := 21) (oi := Oper.mk (some 9) _ _ _ _ _) (v := ?_) rfl (by kernel_rfl) (by kernel_rfl) (by kernel_rfl) (fun _ _ _ h => h) (Or.inl ⟨by rfl, ?_⟩) (by assumption) ?_
  rotate_left
  · (intro w' hSw; (try dsimp only at hSw); go_simp; try with_reducible rfl)
  try simp only [Act.put, List.setIfInBounds_toArray, List.set_cons_zero, List.set_cons_succ]
  refine wpAnyH_done (by kernel_rfl) ?_ _
  refine NoPanic.normal ?_
  obtain rfl := ho12.len
  obtain ⟨p1, p2, p3, p4, p5, p6, p7⟩ := P1.out
  clear hHeld q0 q1 q4
  have hLL : (FN ++ FS ++ FXY ++ FT ++ Z ++ FX).length ≤ 2000000 := by rw [p7]; omega
  generalize FN ++ FS ++ FXY ++ FT ++ Z ++ FX = L at *
  have p5' := P2.out
  rw [← p5] at p5'
  have p6' := p6
  have p7' := p7
  have P1 := Lib.hid p1
  have P2 := Lib.hid p2
  have P3 := Lib.hid p3
  have P4 := Lib.hid p4
  have P6 := Lib.hid p6'
  have P7 := Lib.hid p7'
  have P5 := Lib.hid p5'
  clear p5'
  clear p1 p2 p3 p4 p5 p6 p7 p6' p7'
  have hs12 : w.heap.size < w12.heap.size := Nat.lt_of_lt_of_le hz2 b12.size
  have HB12 := Lib.hid (HB2.out.below b12 hz2)
  have HO := Lib.hid (open_any A12 L.length d12 L w12 ho12.reads (by omega) rfl)
  have B12 := Lib.hid (b02.up b12 (by omega))
  clear HB2 ho12 b02 hZ b3 b4 b5 b6 b7 b8 b9 b10 b11 b12
  go_wp2_with fail
  refine HO.out.mono ?_
  rintro e w13 ⟨g, v, rfl, hr13, hb13⟩
  have z13 := hb13.size
  go_wp2_with fail
  refine (number_ok hr13 P1.out).mono ?_
  rintro e w14 ⟨rfl, hr14, hg14⟩
  rw [Nat.zero_add] at hr14
  have hb14 := hb13.rd hr13 z13 hg14
  have z14 := hb14.size
  have R40 : Calls Try.prog 40 #[.pointer (some ⟨g, 0, none⟩)] w14 fun e w' => e = .returned (.tuple #[.int .i64 S, .int .i64 0]) ∧ Rd w' w12.heap.size g v L (FN.length + FS.length) ∧ w14.grownBy w' (some g) :=
    (signed_rd hr14).mono fun e w' hh => by have := reads1_ok' P2.out hh; rwa [Wire.unfold_fold] at this
  go_wp2_with fail
  refine R40.mono ?_
  rintro e w15 ⟨rfl, hr15, hg15⟩
  have hb15 := hb14.rd hr14 z14 hg15
  have z15 := hb15.size
  clear R40 hr13 hr14 hg14 hg15 hb13 hb14
  go_wp2_with fail
  refine ((complex_rd hr15).mono fun e w' hh => reads1_ok' P3.out hh).mono ?_
  rintro e w16 ⟨rfl, hr16, hg16⟩
  have hb16 := hb15.rd hr15 z15 hg16
  have z16 := hb16.size
  have y4 := (HB12.out.below hb16 hs12).cell 4
  have R42 : Calls Try.prog 42 #[.pointer (some ⟨g, 0, none⟩), .int .i64 (T.size : Int)] w16 fun e w' => e = .returned (.tuple #[.string T, .int .i64 0]) ∧ Rd w' w12.heap.size g v L (FN.length + FS.length + 16 + FT.length) ∧ w16.grownBy w' (some g) := by
    exact text_ok hr16 (most := (T.size : Int)) (by omega) P4.out
  have R42 := Lib.hid R42
  clear hr15 hg16 hb15
  go_wp2_with fail
  refine R42.out.mono ?_
  rintro e w17 ⟨rfl, hr17, hg17⟩
  have hb17 := hb16.rd hr16 z16 hg17
  have z17 := hb17.size
  clear y4 R42 hr16 hg17 hb16
  have HB17 := HB12.out.below hb17 hs12
  have y0 := HB17.cell 0
  have y1 := HB17.cell 1
  have y4 := HB17.cell 4
  clear HB17
  go_wp2_with (first
    | (go_at_call 43; (with_reducible refine (LX.out _).mono ?_); rintro e w' ⟨rfl, rfl⟩)
    | (go_at_call 43; (with_reducible refine (LY.out _).mono ?_); rintro e w' ⟨rfl, rfl⟩)
    | (go_at_call 33; (with_reducible refine (num_errno _ _).mono ?_); rintro e w' ⟨rfl, rfl⟩))
  clear y0 y1 y4
  refine ((gauss_rd hr17).mono fun e w' hh => reads1_ok' P5.out hh).mono ?_
  rintro e w18 ⟨rfl, hr18, hg18⟩
  have hb18 := hb17.rd hr17 z17 hg18
  have z18 := hb18.size
  clear hr17 hg18 hb17
  have HB18 := HB12.out.below hb18 hs12
  have y5 := HB18.cell 5
  have y6 := HB18.cell 6
  have y7 := HB18.cell 7
  have y8 := HB18.cell 8
  have y9 := HB18.cell 9
  have y10 := HB18.cell 10
  have y11 := HB18.cell 11
  have y12 := HB18.cell 12
  have hs18 : w.heap.size < w18.heap.size := by omega
  clear HB18
  go_wp2_with (go_at_call 33; (with_reducible refine (num_errno _ _).mono ?_); rintro e w' ⟨rfl, rfl⟩)
  have hr19 := hr18.alloc (.cells #[.bool n1, .string s1, .bool n2, .string s2, .bool n3, .string s3, .bool n4, .string s4] 32)
  have hb19 := hb18.alloc (Nat.le_of_lt_succ (Nat.lt_succ_of_le z18)) (.cells #[.bool n1, .string s1, .bool n2, .string s2, .bool n3, .string s3, .bool n4, .string s4] 32)
  clear y5 y6 y7 y8 y9 y10 y11 y12
  refine ((float_rd hr19).mono fun e w' hh => reads1_ok' P6.out hh).mono ?_
  rintro e w20 ⟨rfl, hr20, hg20⟩
  have hb20 := hb19.rd hr19 hb19.size hg20
  have z20 := hb20.size
  rw [← P7.out] at hr20
  have R38 : Calls Try.prog 38 #[.pointer (some ⟨g, 0, none⟩)] w20 fun e w' => e = .returned (.int .i64 0) ∧ ∃ n, w20.drewN n = w' := (left_any hr20).mono fun e w' ⟨he, hw⟩ => ⟨by rw [he, Nat.sub_self]; rfl, hw⟩
  have R38 := Lib.hid R38
  have R37 := Lib.hid fun n => place_any (hr20.drewN n)
  clear hr19 hg20 hb19
  go_wp2_with (first
    | (go_at_call 43; (with_reducible refine (LX.out _).mono ?_); rintro e w' ⟨rfl, rfl⟩)
    | (go_at_call 38; (with_reducible refine R38.out.mono ?_); rintro e w' ⟨rfl, k38, rfl⟩)
    | (go_at_call 37; (with_reducible refine (R37.out _).mono ?_); rintro e w' ⟨rfl, rfl⟩)
    | (go_at_call 33; (with_reducible refine (num_errno _ _).mono ?_); rintro e w' ⟨rfl, rfl⟩))
  have hB20 := below_drewN (B12.out.up hb20 (by have := B12.out.size; omega)) k38
  refine (R46.out _ hB20).mono ?_
  rintro e w21 ⟨rfl, hb21⟩
  have hB21 := hB20.up hb21 hB20.size
  go_wp2_with fail
  refine (R10.out _).mono ?_
  rintro e w22 ⟨rfl, hb22⟩
  go_wp2
  go_ret
  exact ⟨rfl, hB21.up hb22 hB21.size⟩

set_option maxRecDepth 100000 in
set_option maxHeartbeats 8000000 in
theorem back_no (N : Nat) (S : Int) (x y : Nat) (T : ByteArray) (n1 : Bool) (s1 : ByteArray) (n2 : Bool) (s2 : ByteArray) (n3 : Bool) (s3 : ByteArray) (n4 : Bool) (s4 : ByteArray) (Ab : Option Addr) (cb : Nat) (lb : List UInt8) (w : World)
    (N1 : N < 18446744073709551616) (S0 : -9223372036854775808 ≤ S) (S1 : S < 9223372036854775808) (x1 : x < 18446744073709551616) (y1 : y < 18446744073709551616)
    (hT : T.size ≤ 1048576) (h1 : s1.size ≤ 1048576) (h2 : s2.size ≤ 1048576) (h3 : s3.size ≤ 1048576) (h4 : s4.size ≤ 1048576)
    (hr : ReadsB w w.heap.size Ab lb) (hlb : lb.length ≤ 1048576) (hcb : lb.length ≤ cb) (hcb2 : cb ≤ maxLen) (hp : Wire.gaussP (((n1, s1), (n2, s2)), ((n3, s3), (n4, s4))) = false) :
    Calls Try.prog 6 #[.agg #[.int .u64 (N : Int), .int .i64 S, .int .u64 (x : Int), .int .u64 (y : Int), .string T, .bool n1, .string s1, .bool n2, .string s2, .bool n3, .string s3, .bool n4, .string s4], .slice Ab lb.length cb] w fun e w' => e = .returned (.bool true) ∧ Below w.heap.size w w' := by
  have R23 := Lib.hid fun w => gaussForm_no n1 s1 n2 s2 n3 s3 n4 s4 w (by omega) (by omega) (by omega) (by omega) hp
  have P1 := Lib.hid (back_plain N S x y T [] N1 S0 S1 x1 y1 hT)
  have hgl : ([] : List UInt8).length ≤ 100000 := by decide
  have HR := Lib.hid hr
  have hx := run_frombits
  have R9 := Lib.hid fun w => by have h := num_any (N : Int) w (by omega) (by omega); rw [Int.toNat_natCast] at h; exact h
  have R13 := Lib.hid fun w => signed_any S w S0 S1
  have R15 := Lib.hid fun w => float_any x w x1
  have R17 := Lib.hid fun w => complexW_any x y w x1 y1
  have R18 := Lib.hid fun w => textW_any T w (by omega)
  have R10 := Lib.hid fun w => known_any w
  have R46 := Lib.hid fun w' (hb : Below w.heap.size w w') => written_any Ab cb lb w' ((hr.below hb).more hb.size) hlb hcb hcb2
  have l1 := Wire.form_len N1
  have l2 := Wire.form_len (fold_lt S S0 S1)
  have l3 : (Wire.be8 (Wire.canon x) ++ Wire.be8 (Wire.canon y)).length ≤ 16 := by rw [List.length_append, Wire.be8_len, Wire.be8_len]; omega
  have l4 : (Wire.form T.size ++ T.data.toList).length ≤ 1048586 := by
    have := Wire.form_len (n := T.size) (by omega)
    have h : T.data.toList.length = T.size := Array.length_toList
    rw [List.length_append, h]; omega
  have l5 : (Wire.be8 (Wire.canon x)).length ≤ 8 := by rw [Wire.be8_len]; omega
  have LX := Lib.hid fun w => like_yes (Wire.canon x) x w (Wire.canon_canon x)
  have LY := Lib.hid fun w => like_yes (Wire.canon y) y w (Wire.canon_canon y)
  clear hr hp N1 S0 S1 x1 y1
  generalize hFN : Wire.form N = FN at *
  generalize hFS : Wire.form (Wire.fold S) = FS at *
  generalize hFXY : Wire.be8 (Wire.canon x) ++ Wire.be8 (Wire.canon y) = FXY at *
  generalize hFX : Wire.be8 (Wire.canon x) = FX at *
  generalize hFT : Wire.form T.size ++ T.data.toList = FT at *
  generalize hZZ : ([] : List UInt8) = Z at *
  clear hFN hFS hFXY hFX hFT 
  have HZZ := Lib.hid hZZ
  clear hZZ
  go_enter Try.func6, Try.ntmps6
  go_wp2_with (go_quiet (fail))
  obtain ⟨w0, hw0⟩ : ∃ w0, w0 = (w.alloc (.cells #[.int .u64 (N : Int), .int .i64 S, .int .u64 (x : Int), .int .u64 (y : Int), .string T, .bool n1, .string s1, .bool n2, .string s2, .bool n3, .string s3, .bool n4, .string s4] 34)).drewN nq := ⟨_, rfl⟩
  have hblk : Blk w0 w.heap.size 34 #[.int .u64 (N : Int), .int .i64 S, .int .u64 (x : Int), .int .u64 (y : Int), .string T, .bool n1, .string s1, .bool n2, .string s2, .bool n3, .string s3, .bool n4, .string s4] := by rw [hw0]; exact (Blk.new w 34 _).drewN _
  have hb0 : Below w.heap.size w w0 := by rw [hw0]; exact below_drewN ((Below.refl _ _).alloc (Nat.le_refl _) _) _
  have hz0 : w.heap.size < w0.heap.size := hblk.lt
  rw [← hw0]
  clear hw0
  have q5 := hblk.cell 5
  have q6 := hblk.cell 6
  have q7 := hblk.cell 7
  have q8 := hblk.cell 8
  have q9 := hblk.cell 9
  have q10 := hblk.cell 10
  have q11 := hblk.cell 11
  have q12 := hblk.cell 12
  go_wp2_with fail
  refine (R23.out _).mono ?_
  rintro e w2 ⟨rfl, hb2⟩
  have hZ : OwnB w2 w0.heap.size (.slice none 0 0) Z := by rw [← HZZ.out]; exact OwnB.nil _ _
  have hB2 := hblk.below hb2 hz0
  have b02 := hb0.up hb2 (by omega)
  have hz2 : w.heap.size < w2.heap.size := hB2.lt
  clear q5 q6 q7 q8 q9 q10 q11 q12 hblk hb0 hb2
  have q0 := fun w' (h : Below w2.heap.size w2 w') => (hB2.below h hz2).cell 0
  have q1 := fun w' (h : Below w2.heap.size w2 w') => (hB2.below h hz2).cell 1
  have q4 := fun w' (h : Below w2.heap.size w2 w') => (hB2.below h hz2).cell 4
  have HB2 := Lib.hid hB2
  clear hB2
  go_wp2_with fail
  refine wp_region_noPanic ?_
  refine wp_region_held_drew (S := fun w' => Below w2.heap.size w2 w') (by kernel_rfl) (Below.refl _ _).drew (fun hHeld => ?_)
  refine wpAnyH_take (i := 0) (oi := Oper.mk (some 35) _ _ _ _ _) (v := ?_) rfl (by kernel_rfl) (by kernel_rfl) (by kernel_rfl) (fun _ _ _ h => h) (Or.inl ⟨by rfl, ?_⟩) (by assumption) ?_
  rotate_left
  · (intro w' hSw; (try dsimp only at hSw); go_simp; try with_reducible rfl)
  try simp only [Act.put, List.setIfInBounds_toArray, List.set_cons_zero, List.set_cons_succ]
  refine wpAnyH_take (i := 1) (oi := Oper.mk (some 36) _ _ _ _ _) (v := ?_) rfl (by kernel_rfl) (by kernel_rfl) (by kernel_rfl) (fun _ _ _ h => h) (Or.inl ⟨by rfl, ?_⟩) (by assumption) ?_
  rotate_left
  · (intro w' hSw; (try dsimp only at hSw); go_simp; try with_reducible rfl)
  try simp only [Act.put, List.setIfInBounds_toArray, List.set_cons_zero, List.set_cons_succ]
  refine wpAnyH_take (i := 3) (oi := Oper.mk (some 38) _ _ _ _ _) (v := ?_) rfl (by kernel_rfl) (by kernel_rfl) (by kernel_rfl) (fun _ _ _ h => h) (Or.inl ⟨by rfl, ?_⟩) (by assumption) ?_
  rotate_left
  · (intro w' hSw; (try dsimp only at hSw); go_simp; try with_reducible rfl)
  try simp only [Act.put, List.setIfInBounds_toArray, List.set_cons_zero, List.set_cons_succ]
  refine wpAnyH_take (i := 4) (oi := Oper.mk (some 39) _ _ _ _ _) (v := ?_) rfl (by kernel_rfl) (by kernel_rfl) (by kernel_rfl) (fun _ _ _ h => h) (Or.inl ⟨by rfl, ?_⟩) (by assumption) ?_
  rotate_left
  · (intro w' hSw; (try dsimp only at hSw); go_simp; try with_reducible rfl)
  try simp only [Act.put, List.setIfInBounds_toArray, List.set_cons_zero, List.set_cons_succ]
  refine wpAnyH_take (i := 7) (oi := Oper.mk (some 42) _ _ _ _ _) (v := ?_) rfl (by kernel_rfl) (by kernel_rfl) (by kernel_rfl) (fun _ _ _ h => h) (Or.inl ⟨by rfl, ?_⟩) (by assumption) ?_
  rotate_left
  · (intro w' hSw; (try dsimp only at hSw); go_simp; try with_reducible rfl)
  try simp only [Act.put, List.setIfInBounds_toArray, List.set_cons_zero, List.set_cons_succ]
  refine wpAnyH_take (i := 8) (oi := Oper.mk (some 43) _ _ _ _ _) (v := ?_) rfl (by kernel_rfl) (by kernel_rfl) (by kernel_rfl) (fun _ _ _ h => h) (Or.inl ⟨by rfl, ?_⟩) (by assumption) ?_
  rotate_left
  · (intro w' hSw; (try dsimp only at hSw); go_simp; try with_reducible rfl)
  try simp only [Act.put, List.setIfInBounds_toArray, List.set_cons_zero, List.set_cons_succ]
  refine wpAnyH_take (i := 9) (oi := Oper.mk (some 44) _ _ _ _ _) (v := ?_) rfl (by kernel_rfl) (by kernel_rfl) (by kernel_rfl) (fun _ _ _ h => h) (Or.inl ⟨by rfl, ?_⟩) (by assumption) ?_
  rotate_left
  · (intro w' hSw; (try dsimp only at hSw); go_simp; try with_reducible rfl)
  try simp only [Act.put, List.setIfInBounds_toArray, List.set_cons_zero, List.set_cons_succ]
  refine wpAnyH_take (i := 12) (oi := Oper.mk (some 47) _ _ _ _ _) (v := ?_) rfl (by kernel_rfl) (by kernel_rfl) (by kernel_rfl) (fun _ _ _ h => h) (Or.inl ⟨by rfl, ?_⟩) (by assumption) ?_
  rotate_left
  · (intro w' hSw; (try dsimp only at hSw); go_simp; try with_reducible rfl)
  try simp only [Act.put, List.setIfInBounds_toArray, List.set_cons_zero, List.set_cons_succ]
  refine wpAnyH_take (i := 13) (oi := Oper.mk (some 48) _ _ _ _ _) (v := ?_) rfl (by kernel_rfl) (by kernel_rfl) (by kernel_rfl) (fun _ _ _ h => h) (Or.inl ⟨by rfl, ?_⟩) (by assumption) ?_
  rotate_left
  · (intro w' hSw; (try dsimp only at hSw); go_simp; try with_reducible rfl)
  try simp only [Act.put, List.setIfInBounds_toArray, List.set_cons_zero, List.set_cons_succ]
  refine wpAnyH_take (i := 16) (oi := Oper.mk (some 51) _ _ _ _ _) (v := ?_) rfl (by kernel_rfl) (by kernel_rfl) (by kernel_rfl) (fun _ _ _ h => h) (Or.inl ⟨by rfl, ?_⟩) (by assumption) ?_
  rotate_left
  · (intro w' hSw; (try dsimp only at hSw); go_simp; try with_reducible rfl)
  try simp only [Act.put, List.setIfInBounds_toArray, List.set_cons_zero, List.set_cons_succ]
  refine wpAnyH_take (i := 18) (oi := Oper.mk (some 53) _ _ _ _ _) (v := ?_) rfl (by kernel_rfl) (by kernel_rfl) (by kernel_rfl) (fun _ _ _ h => h) (Or.inl ⟨by rfl, ?_⟩) (by assumption) ?_
  rotate_left
  · (intro w' hSw; (try dsimp only at hSw); go_simp; try with_reducible rfl)
  try simp only [Act.put, List.setIfInBounds_toArray, List.set_cons_zero, List.set_cons_succ]
  refine wpAnyH_ready (rs := [2]) (by kernel_rfl) (by simp) ?_
  refine AllReadyH.cons (o := Oper.mk (some 37) _ _ _ _ _) rfl (fun K hK => ?_) AllReadyH.nil
  go_simp
  refine (R9.out _).mono ?_
  rintro e w3 ⟨A3, m3, d3, rfl, ho3, hb3⟩
  try simp only []
  replace hb3 := undrew hb3
  have b3 := hb3
  obtain rfl := ho3.len
  refine hK.out _ _ b3 (fun _ => ?_)
  clear hK K hHeld
  have hHeld := b3
  try simp only [Act.put, List.setIfInBounds_toArray, List.set_cons_zero, List.set_cons_succ]
  refine wpAnyH_ready (rs := [5]) (by kernel_rfl) (by simp) ?_
  refine AllReadyH.cons (o := Oper.mk (some 40) _ _ _ _ _) rfl (fun K hK => ?_) AllReadyH.nil
  go_simp
  refine (R13.out _).mono ?_
  rintro e w4 ⟨A4, m4, d4, rfl, ho4, hb4⟩
  try simp only []
  have c4 := ho3.kept hb4
  have b4 := b3.up hb4 b3.size
  obtain rfl := ho4.len
  refine hK.out _ _ b4 (fun _ => ?_)
  clear hK K hHeld
  have hHeld := b4
  try simp only [Act.put, List.setIfInBounds_toArray, List.set_cons_zero, List.set_cons_succ]
  refine wpAnyH_ready (rs := [6]) (by kernel_rfl) (by simp) ?_
  refine AllReadyH.cons (o := Oper.mk (some 41) _ _ _ _ _) rfl (fun K hK => ?_) AllReadyH.nil
  refine stepB_append (by rfl) (.tmp 37) (.tmp 40) (by rfl) w2.heap.size _ FN c4 (by rfl) _ _ FS ho4.reads _ _ rfl (by rfl) (by (try simp only [List.length_append]); omega) b4.size ?_
  intro A5 m5 d5 w5 ho5 hg5 hnx5
  clear hnx5
  have b5 := b4.own b4.size c4 hg5
  refine hK.out _ _ b5 (fun _ => ?_)
  clear hK K hHeld
  have hHeld := b5
  try simp only [Act.put, List.setIfInBounds_toArray, List.set_cons_zero, List.set_cons_succ]
  refine wpAnyH_ready (rs := [10]) (by kernel_rfl) (by simp) ?_
  refine AllReadyH.cons (o := Oper.mk (some 45) _ _ _ _ _) rfl (fun K hK => ?_) AllReadyH.nil
  go_simp
  refine (R17.out _).mono ?_
  rintro e w6 ⟨A6, m6, d6, rfl, ho6, hb6⟩
  try simp only []
  have c6 := ho5.kept hb6
  have b6 := b5.up hb6 b5.size
  obtain rfl := ho6.len
  refine hK.out _ _ b6 (fun _ => ?_)
  clear hK K hHeld
  have hHeld := b6
  try simp only [Act.put, List.setIfInBounds_toArray, List.set_cons_zero, List.set_cons_succ]
  refine wpAnyH_ready (rs := [11]) (by kernel_rfl) (by simp) ?_
  refine AllReadyH.cons (o := Oper.mk (some 46) _ _ _ _ _) rfl (fun K hK => ?_) AllReadyH.nil
  refine stepB_append (by rfl) (.tmp 41) (.tmp 45) (by rfl) w2.heap.size _ (FN ++ FS) c6 (by rfl) _ _ FXY ho6.reads _ _ rfl (by rfl) (by (try simp only [List.length_append]); omega) b6.size ?_
  intro A7 m7 d7 w7 ho7 hg7 hnx7
  clear hnx7
  have b7 := b6.own b6.size c6 hg7
  refine hK.out _ _ b7 (fun _ => ?_)
  clear hK K hHeld
  have hHeld := b7
  try simp only [Act.put, List.setIfInBounds_toArray, List.set_cons_zero, List.set_cons_succ]
  refine wpAnyH_ready (rs := [14]) (by kernel_rfl) (by simp) ?_
  refine AllReadyH.cons (o := Oper.mk (some 49) _ _ _ _ _) rfl (fun K hK => ?_) AllReadyH.nil
  go_simp
  refine (R18.out _).mono ?_
  rintro e w8 ⟨A8, m8, d8, rfl, ho8, hb8⟩
  try simp only []
  have c8 := ho7.kept hb8
  have b8 := b7.up hb8 b7.size
  obtain rfl := ho8.len
  refine hK.out _ _ b8 (fun _ => ?_)
  clear hK K hHeld
  have hHeld := b8
  try simp only [Act.put, List.setIfInBounds_toArray, List.set_cons_zero, List.set_cons_succ]
  refine wpAnyH_ready (rs := [15]) (by kernel_rfl) (by simp) ?_
  refine AllReadyH.cons (o := Oper.mk (some 50) _ _ _ _ _) rfl (fun K hK => ?_) AllReadyH.nil
  refine stepB_append (by rfl) (.tmp 46) (.tmp 49) (by rfl) w2.heap.size _ (FN ++ FS ++ FXY) c8 (by rfl) _ _ FT ho8.reads _ _ rfl (by rfl) (by (try simp only [List.length_append]); omega) b8.size ?_
  intro A9 m9 d9 w9 ho9 hg9 hnx9
  clear hnx9
  have b9 := b8.own b8.size c8 hg9
  refine hK.out _ _ b9 (fun _ => ?_)
  clear hK K hHeld
  have hHeld := b9
  try simp only [Act.put, List.setIfInBounds_toArray, List.set_cons_zero, List.set_cons_succ]
  refine wpAnyH_ready (rs := [17]) (by kernel_rfl) (by simp) ?_
  refine AllReadyH.cons (o := Oper.mk (some 52) _ _ _ _ _) rfl (fun K hK => ?_) AllReadyH.nil
  have hz9 := hZ.kept (b9)
  refine stepB_append (by rfl) (.tmp 50) (.tmp 51) (by rfl) w2.heap.size _ (FN ++ FS ++ FXY ++ FT) ho9 (by rfl) _ _ Z hz9.reads 0 0 (by rw [← HZZ.out]; rfl) (by rfl) (by (try simp only [List.length_append]); omega) b9.size ?_
  intro A10 m10 d10 w10 ho10 hg10 hnx10
  clear hnx10
  have b10 := b9.own b9.size ho9 hg10
  refine hK.out _ _ b10 (fun _ => ?_)
  clear hK K hHeld
  have hHeld := b10
  try simp only [Act.put, List.setIfInBounds_toArray, List.set_cons_zero, List.set_cons_succ]
  refine wpAnyH_ready (rs := [19]) (by kernel_rfl) (by simp) ?_
  refine AllReadyH.cons (o := Oper.mk (some 54) _ _ _ _ _) rfl (fun K hK => ?_) AllReadyH.nil
  go_simp
  refine (R15.out _).mono ?_
  rintro e w11 ⟨A11, m11, d11, rfl, ho11, hb11⟩
  try simp only []
  have c11 := ho10.kept hb11
  have b11 := b10.up hb11 b10.size
  obtain rfl := ho11.len
  refine hK.out _ _ b11 (fun _ => ?_)
  clear hK K hHeld
  have hHeld := b11
  try simp only [Act.put, List.setIfInBounds_toArray, List.set_cons_zero, List.set_cons_succ]
  refine wpAnyH_ready (rs := [20]) (by kernel_rfl) (by simp) ?_
  refine AllReadyH.cons (o := Oper.mk (some 55) _ _ _ _ _) rfl (fun K hK => ?_) AllReadyH.nil
  refine stepB_append (by rfl) (.tmp 52) (.tmp 54) (by rfl) w2.heap.size _ (FN ++ FS ++ FXY ++ FT ++ Z) c11 (by rfl) _ _ FX ho11.reads _ _ rfl (by rfl) (by (try simp only [List.length_append]); omega) b11.size ?_
  intro A12 m12 d12 w12 ho12 hg12 hnx12
  clear hnx12
  have b12 := b11.own b11.size c11 hg12
  refine hK.out _ _ b12 (fun _ => ?_)
  clear hK K hHeld
  have hHeld := b12
  try simp only [Act.put, List.setIfInBounds_toArray, List.set_cons_zero, List.set_cons_succ]
  refine wpAnyH_take (i := 21) (oi := Oper.mk (some 9) _ _ _ _ _) (v := ?_) rfl (by kernel_rfl) (by kernel_rfl) (by kernel_rfl) (fun _ _ _ h => h) (Or.inl ⟨by rfl, ?_⟩) (by assumption) ?_
  rotate_left
  · (intro w' hSw; (try dsimp only at hSw); go_simp; try with_reducible rfl)
  try simp only [Act.put, List.setIfInBounds_toArray, List.set_cons_zero, List.set_cons_succ]
  refine wpAnyH_done (by kernel_rfl) ?_ _
  refine NoPanic.normal ?_
  obtain rfl := ho12.len
  obtain ⟨p1, p2, p3, p4, p5, p6, p7⟩ := P1.out
  clear hHeld q0 q1 q4
  have hLL : (FN ++ FS ++ FXY ++ FT ++ Z ++ FX).length ≤ 2000000 := by rw [p7]; omega
  generalize FN ++ FS ++ FXY ++ FT ++ Z ++ FX = L at *
  have hZ0 : Z.length = 0 := by rw [← HZZ.out]; rfl
  have p6' := p6
  have p7' := p7
  rw [hZ0, Nat.add_zero] at p6' p7'
  have P1 := Lib.hid p1
  have P2 := Lib.hid p2
  have P3 := Lib.hid p3
  have P4 := Lib.hid p4
  have P6 := Lib.hid p6'
  have P7 := Lib.hid p7'
  clear p1 p2 p3 p4 p5 p6 p7 p6' p7' hZ0
  have hs12 : w.heap.size < w12.heap.size := Nat.lt_of_lt_of_le hz2 b12.size
  have HB12 := Lib.hid (HB2.out.below b12 hz2)
  have HO := Lib.hid (open_any A12 L.length d12 L w12 ho12.reads (by omega) rfl)
  have B12 := Lib.hid (b02.up b12 (by omega))
  clear HB2 ho12 b02 hZ b3 b4 b5 b6 b7 b8 b9 b10 b11 b12
  go_wp2_with fail
  refine HO.out.mono ?_
  rintro e w13 ⟨g, v, rfl, hr13, hb13⟩
  have z13 := hb13.size
  go_wp2_with fail
  refine (number_ok hr13 P1.out).mono ?_
  rintro e w14 ⟨rfl, hr14, hg14⟩
  rw [Nat.zero_add] at hr14
  have hb14 := hb13.rd hr13 z13 hg14
  have z14 := hb14.size
  have R40 : Calls Try.prog 40 #[.pointer (some ⟨g, 0, none⟩)] w14 fun e w' => e = .returned (.tuple #[.int .i64 S, .int .i64 0]) ∧ Rd w' w12.heap.size g v L (FN.length + FS.length) ∧ w14.grownBy w' (some g) :=
    (signed_rd hr14).mono fun e w' hh => by have := reads1_ok' P2.out hh; rwa [Wire.unfold_fold] at this
  go_wp2_with fail
  refine R40.mono ?_
  rintro e w15 ⟨rfl, hr15, hg15⟩
  have hb15 := hb14.rd hr14 z14 hg15
  have z15 := hb15.size
  clear R40 hr13 hr14 hg14 hg15 hb13 hb14
  go_wp2_with fail
  refine ((complex_rd hr15).mono fun e w' hh => reads1_ok' P3.out hh).mono ?_
  rintro e w16 ⟨rfl, hr16, hg16⟩
  have hb16 := hb15.rd hr15 z15 hg16
  have z16 := hb16.size
  have y4 := (HB12.out.below hb16 hs12).cell 4
  have R42 : Calls Try.prog 42 #[.pointer (some ⟨g, 0, none⟩), .int .i64 (T.size : Int)] w16 fun e w' => e = .returned (.tuple #[.string T, .int .i64 0]) ∧ Rd w' w12.heap.size g v L (FN.length + FS.length + 16 + FT.length) ∧ w16.grownBy w' (some g) := by
    exact text_ok hr16 (most := (T.size : Int)) (by omega) P4.out
  have R42 := Lib.hid R42
  clear hr15 hg16 hb15
  go_wp2_with fail
  refine R42.out.mono ?_
  rintro e w17 ⟨rfl, hr17, hg17⟩
  have hb17 := hb16.rd hr16 z16 hg17
  have z17 := hb17.size
  clear y4 R42 hr16 hg17 hb16
  have HB17 := HB12.out.below hb17 hs12
  have y0 := HB17.cell 0
  have y1 := HB17.cell 1
  have y4 := HB17.cell 4
  clear HB17
  go_wp2_with (first
    | (go_at_call 43; (with_reducible refine (LX.out _).mono ?_); rintro e w' ⟨rfl, rfl⟩)
    | (go_at_call 43; (with_reducible refine (LY.out _).mono ?_); rintro e w' ⟨rfl, rfl⟩)
    | (go_at_call 33; (with_reducible refine (num_errno _ _).mono ?_); rintro e w' ⟨rfl, rfl⟩))
  clear y0 y1 y4
  have hr19 := hr17
  have hb19 := hb17
  refine ((float_rd hr19).mono fun e w' hh => reads1_ok' P6.out hh).mono ?_
  rintro e w20 ⟨rfl, hr20, hg20⟩
  have hb20 := hb19.rd hr19 hb19.size hg20
  have z20 := hb20.size
  rw [← P7.out] at hr20
  have R38 : Calls Try.prog 38 #[.pointer (some ⟨g, 0, none⟩)] w20 fun e w' => e = .returned (.int .i64 0) ∧ ∃ n, w20.drewN n = w' := (left_any hr20).mono fun e w' ⟨he, hw⟩ => ⟨by rw [he, Nat.sub_self]; rfl, hw⟩
  have R38 := Lib.hid R38
  have R37 := Lib.hid fun n => place_any (hr20.drewN n)
  clear hr19 hg20 hb19
  go_wp2_with (first
    | (go_at_call 43; (with_reducible refine (LX.out _).mono ?_); rintro e w' ⟨rfl, rfl⟩)
    | (go_at_call 38; (with_reducible refine R38.out.mono ?_); rintro e w' ⟨rfl, k38, rfl⟩)
    | (go_at_call 37; (with_reducible refine (R37.out _).mono ?_); rintro e w' ⟨rfl, rfl⟩)
    | (go_at_call 33; (with_reducible refine (num_errno _ _).mono ?_); rintro e w' ⟨rfl, rfl⟩))
  have hB20 := below_drewN (B12.out.up hb20 (by have := B12.out.size; omega)) k38
  refine (R46.out _ hB20).mono ?_
  rintro e w21 ⟨rfl, hb21⟩
  have hB21 := hB20.up hb21 hB20.size
  go_wp2_with fail
  refine (R10.out _).mono ?_
  rintro e w22 ⟨rfl, hb22⟩
  go_wp2
  go_ret
  exact ⟨rfl, hB21.up hb22 hB21.size⟩
end Go.Proofs.Ytgmienlifnpniaa
