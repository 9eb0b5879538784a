/- WireNil's walk. -/
import Derived.Test.YtgmienlifnpniaaGone2
import Derived.Test.YtgmienlifnpniaaBackP
import Derived.Test.YtgmienlifnpniaaKnown
namespace Go.Proofs.Ytgmienlifnpniaa
open Go.RowKit
set_option linter.unusedSimpArgs false

theorem put_nofn (w : World) : Calls Try.prog 49 #[.slice none 0 0, .nilFunc] w fun e w' => e = .returned (.tuple #[.slice none 0 0, .int .i64 1]) ∧ w = w' := by
  have hf : ∀ w : World, (binOp .eql 93 .nilFunc .nilFunc).run Try.prog w = .ok (.bool true) w := fun _ => by kernel_rfl
  go_enter Try.func49, Try.ntmps49
  go_wp2
  go_ret2
  exact ⟨rfl, rfl⟩
theorem put_none (w : World) : Calls Try.prog 49 #[.slice none 0 0, .func (.func 50) #[] #[]] w fun e w' => ∃ A n c, e = .returned (.tuple #[.slice A n c, .int .i64 0]) ∧ OwnB w' w.heap.size (.slice A n c) [0] ∧ Below w.heap.size w w' := by
  have hf : ∀ w : World, (binOp .eql 93 (.func (.func 50) #[] #[]) .nilFunc).run Try.prog w = .ok (.bool false) w := fun _ => by kernel_rfl
  have e0 : Wire.form (Int.toNat 0) = [0] := by show Wire.form 0 = _; rw [Wire.form_small (by decide)]; rfl
  have H := num_any 0 w (by decide) (by decide)
  rw [e0] at H
  have H := Lib.hid H
  clear e0
  go_enter Try.func49, Try.ntmps49
  go_wp2_with fail
  refine H.out.mono ?_
  rintro e w1 ⟨A, n, c, rfl, ho, hb⟩
  go_wp2_with fail
  refine wp_loop_rounds 1 ?_
  rw [rounds_succ]
  go_wp2_with fail
  go_ret2
  exact ⟨_, _, _, rfl, ho, hb⟩
theorem take_nofn {w : World} {B g : Nat} {v : Value} {l : List UInt8} {a : Nat} (h : Rd w B g v l a) :
    Calls Try.prog 51 #[.pointer (some ⟨g, 0, none⟩), .int .i64 5, .nilFunc] w fun e w' => e = .returned (.tuple #[.slice none 0 0, .int .i64 1]) ∧ Below w.heap.size w w' := by
  have hf : ∀ w : World, (binOp .eql 136 .nilFunc .nilFunc).run Try.prog w = .ok (.bool true) w := fun _ => by kernel_rfl
  have H := Lib.hid fun o1 o2 o3 => there_any (((h.alloc o1).alloc o2).alloc o3)
  go_enter Try.func51, Try.ntmps51
  go_wp2_with (go_at_call 60; refine (H.out _ _ _).mono ?_; rintro e w' ⟨rfl, rfl⟩)
  go_ret2
  exact ⟨rfl, ((aa _).alloc (by simp) _).alloc (by simp only [World.size_alloc]; omega) _⟩
theorem take_noreader (w : World) :
    Calls Try.prog 35 #[.pointer none, .int .i64 (-1), .func (.func 36) #[] #[]] w fun e w' => e = .returned (.tuple #[.slice none 0 0, .int .i64 1]) ∧ Below w.heap.size w w' := by
  have H := Lib.hid gone_nil.no
  go_enter Try.func35, Try.ntmps35
  go_wp2_with (go_at_call 60; refine (H.out _ trivial).mono ?_; rintro e w' ⟨rfl, rfl⟩)
  go_ret2
  exact ⟨rfl, ((aa _).alloc (by simp) _).alloc (by simp only [World.size_alloc]; omega) _⟩

theorem made_cells : ∃ CS : Array Value, CS.toList = (List.replicate 16383 (0 : UInt8)).map bv ∧ ∀ w : World, (Instr.makeSlice 23 (.int .i64 16383) (.int .i64 16383)).run Try.prog w = .ok (.slice (some ⟨w.heap.size, 0, none⟩) 16383 16383) (w.alloc (.cells CS 5)) := by
  obtain ⟨i0, hi, hz0, hz1, hz2⟩ := info_parts infoB
  refine ⟨madeCells (Value.int .u8 0).cells (16383 * i0.size), ?_, fun w => ?_⟩
  · rw [hz1]
    unfold madeCells
    rw [Array.toList_map, Array.toList_range, List.map_replicate]
    refine List.eq_replicate_iff.2 ⟨by simp, fun b hb => ?_⟩
    simp only [List.mem_map] at hb
    obtain ⟨i, _, rfl⟩ := hb
    have e : i % (Value.int .u8 0).cells.size = 0 := Nat.mod_one i
    rw [e]
    rfl
  · exact run_make_rowN (P := Try.prog) 23 5 i0 (.int .u8 0) Try.underlying23 hi hz0 .i64 .i64 16383 16383 (Nat.le_refl _) (by rw [hz2]; decide) (by decide) w

theorem _root_.Go.RowKit.Below.rd' {w w1 w2 : World} {B g : Nat} {v : Value} {l : List UInt8} {a : Nat} (h : Below B w w1) (hr : Rd w1 B g v l a) (hs : B ≤ w1.heap.size) (hg : w1.grownBy w2 (some g)) : Below B w w2 :=
  h.trans (below_of_only hg hr.base hs)

set_option maxRecDepth 100000 in
set_option maxHeartbeats 4000000 in
theorem nil_any (w : World) : Calls Try.prog 8 #[] w fun e w' => e = .returned (.bool true) ∧ Below w.heap.size w w' := by
  obtain ⟨CS, hCS, hmk⟩ := made_cells
  obtain ⟨S, hS⟩ : ∃ S : ByteArray, S = ⟨(List.replicate 16383 (0 : UInt8)).toArray⟩ := ⟨_, rfl⟩
  have hS1 : S.data.toList = List.replicate 16383 (0 : UInt8) := by rw [hS]
  have hcv : ∀ w : World, (convert 23 9 (.slice (some ⟨w.heap.size, 0, none⟩) 16383 16383)).run Try.prog (w.alloc (.cells CS 5)) = .ok (.string S) (w.alloc (.cells CS 5)) := fun w => by
    rw [hS]
    have hl : (List.replicate 16383 (0 : UInt8)).length = 16383 := List.length_replicate
    exact run_str hl.symm (lit_reads CS _ hCS (by rw [hl]; decide))
  have e1 : ((⟨#[1]⟩ : ByteArray) ++ S).data.toList = 1 :: S.data.toList := by rw [ByteArray.data_append, Array.toList_append]; rfl
  have e2 : ((⟨#[1, 1]⟩ : ByteArray) ++ S).data.toList = 1 :: 1 :: S.data.toList := by rw [ByteArray.data_append, Array.toList_append]; rfl
  have p1 : Wire.plainW 16384 false ((⟨#[1]⟩ : ByteArray) ++ S).data.toList = true := by
    rw [e1, hS1]
    unfold Wire.plainW
    simp only [List.length_cons, List.length_replicate]
    decide
  have p2 : Wire.plainW 16384 false ((⟨#[1, 1]⟩ : ByteArray) ++ S).data.toList = false := by
    rw [e2, hS1]
    unfold Wire.plainW
    simp only [List.length_cons, List.length_replicate]
    decide
  have q2 : ((⟨#[1, 1]⟩ : ByteArray) ++ S).size = 16385 := by
    have : ((⟨#[1, 1]⟩ : ByteArray) ++ S).size = ((⟨#[1, 1]⟩ : ByteArray) ++ S).data.toList.length := Array.length_toList.symm
    rw [this, e2, hS1]
    simp
  have q1 : (Wire.formW false ((⟨#[1]⟩ : ByteArray) ++ S).data.toList).length ≤ 16394 := by
    have h := formW_len (n := false) (s := (⟨#[1]⟩ : ByteArray) ++ S)
    have : ((⟨#[1]⟩ : ByteArray) ++ S).size = 16384 := by
      have : ((⟨#[1]⟩ : ByteArray) ++ S).size = ((⟨#[1]⟩ : ByteArray) ++ S).data.toList.length := Array.length_toList.symm
      rw [this, e1, hS1]
      simp
    have := h (by rw [this]; decide)
    omega
  have W1 := Lib.hid fun w => wholeW_yes false ((⟨#[1]⟩ : ByteArray) ++ S) w p1
  have W2 := Lib.hid fun w => wholeW_no false ((⟨#[1, 1]⟩ : ByteArray) ++ S) w (by rw [q2]; decide) p2
  have hwf := Wire.whole_form (n := false) (m := (⟨#[1]⟩ : ByteArray) ++ S) [] p1
  rw [List.append_nil] at hwf
  generalize Wire.formW false ((⟨#[1]⟩ : ByteArray) ++ S).data.toList = FW at *
  have HWF := Lib.hid hwf
  have N1 := Lib.hid fun w => nothing_any gone_nil w trivial
  have R10 := Lib.hid fun w => known_any w
  have hsz : S.size ≤ 16383 := by
    have : S.size = S.data.toList.length := Array.length_toList.symm
    rw [this, hS1]; simp
  have lX1 : ¬ 9223372036854775807 < 1 + S.size := by omega
  have lX2 : ¬ 9223372036854775807 < 2 + S.size := by omega
  have lX3 : ¬ 9223372036854775807 < (⟨#[1]⟩ : ByteArray).size + S.size := lX1
  have lX4 : ¬ 9223372036854775807 < (⟨#[1, 1]⟩ : ByteArray).size + S.size := lX2
  clear hCS hS1 e1 e2 p1 p2 q2 hwf hS
  go_enter Try.func8, Try.ntmps8
  go_wp2_with fail
  refine (put_nofn _).mono ?_
  rintro e w' ⟨rfl, rfl⟩
  go_wp2_with fail
  refine (put_none _).mono ?_
  rintro e w1 ⟨A1, n1, c1, rfl, ho1, hb1⟩
  obtain rfl := ho1.len
  have z1 := hb1.size
  go_wp2_with fail
  refine (open_any _ _ _ [0] _ (lit_reads _ _ rfl (by decide)) (by decide) rfl).mono ?_
  rintro e w2 ⟨g2, v2, rfl, hr2, hb2⟩
  have b2 := (hb1.alloc z1 _).up hb2 (by rw [World.size_alloc]; omega)
  have ho2 := (ho1.alloc _).kept hb2
  go_wp2_with fail
  refine (take_nofn hr2).mono ?_
  rintro e w3 ⟨rfl, hb3⟩
  have b3 := b2.up hb3 b2.size
  have ho3 := ho2.kept hb3
  clear hr2 ho2 hb2 hb1 ho1
  go_wp2_with fail
  refine (take_noreader _).mono ?_
  rintro e w4 ⟨rfl, hb4⟩
  have b4 := b3.up hb4 b3.size
  have ho4 := ho3.kept hb4
  clear ho3 hb3 hb4 b3
  go_wp2_with fail
  refine (W1.out _).mono ?_
  rintro e w5 ⟨A5, n5, c5, rfl, ho5, hb5⟩
  obtain rfl := ho5.len
  have b5 := (b4.alloc b4.size (.cells CS 5)).up hb5 (by rw [World.size_alloc]; have := b4.size; omega)
  have ho51 := (ho4.alloc _).kept hb5
  go_wp2_with fail
  refine (W2.out _).mono ?_
  rintro e w6 ⟨rfl, hb6⟩
  have b6 := b5.up hb6 b5.size
  have ho6 := ho5.kept hb6
  have ho61 := ho51.kept hb6
  go_wp2_with fail
  refine (open_any _ _ _ FW _ ho6.reads (by omega) rfl).mono ?_
  rintro e w7 ⟨g7, v7, rfl, hr7, hb7⟩
  have b7 := b6.up hb7 b6.size
  have ho71 := ho61.kept hb7
  go_wp2_with fail
  refine ((whole_rd hr7).mono fun e w' hh => reads1_ok' HWF.out hh).mono ?_
  rintro e w8 ⟨rfl, hr8, hg8⟩
  have b78 := hb7.rd' hr7 hb7.size hg8
  have b8 := b6.up b78 b6.size
  have ho81 := ho61.kept b78
  have t2 : (convert 23 9 (.slice A1 1 c1)).run Try.prog (w8.alloc (.cells #[.bool false, .string ((⟨#[1]⟩ : ByteArray) ++ S)] 28)) = .ok (.string ⟨#[0]⟩) (w8.alloc (.cells #[.bool false, .string ((⟨#[1]⟩ : ByteArray) ++ S)] 28)) :=
    (ho81.alloc (.cells #[.bool false, .string ((⟨#[1]⟩ : ByteArray) ++ S)] 28)).str0 rfl
  have bX := b8.alloc b8.size (.cells #[.bool false, .string ((⟨#[1]⟩ : ByteArray) ++ S)] 28)
  clear hmk hcv W1 W2 HWF ho81 ho61 ho71 ho6 ho51 ho5 ho4 hr7 hr8 hg8 b78 hb7 hb6 hb5 b7 b6 b5 b4 b2 z1
  go_wp2_with (first
    | (go_at_call 33; refine (num_errno _ _).mono ?_; rintro e w' ⟨rfl, rfl⟩)
    | (go_at_call 53; (with_reducible refine (N1.out _).mono ?_); rintro e w9 ⟨rfl, hb9⟩; have b9 := bX.up hb9 bX.size)
    | (go_at_call 53; refine (nothing_any (gone_zero w9.heap.size) _ (Blk.new w9 100 _)).mono ?_; rintro e w10 ⟨rfl, hb10⟩; have b10 := (b9.alloc b9.size (.cells #[.slice none 0 0, .int .i64 0] 100)).up hb10 (by rw [World.size_alloc]; have := b9.size; omega))
    | (go_at_call 10; refine (R10.out _).mono ?_; rintro e w11 ⟨rfl, hb11⟩; have b11 := b10.up hb11 b10.size))
  go_ret
  exact ⟨rfl, b11⟩
end Go.Proofs.Ytgmienlifnpniaa
