import Derived.Test.YtpnginnjbdedbaaC8
import Derived.Test.YtpnginnjbdedbaaC10
/- law.WholeDivs (printed by gen_divs.py). -/
namespace Go.Proofs.Ytpnginnjbdedbaa
open Go.RowKit
open Wh
set_option linter.unusedSimpArgs false
set_option linter.unusedVariables false

theorem shift_said {w : World} {na : Bool} {sa : ByteArray} {n z : Int} {s : Bool} {b : ByteArray} (hm : MayL na sa.data.toList) (hn : -9223372036854775808 ≤ n) (hz : shf (num (na, sa)) n = z) (hf : fits z) (he : enc z = .agg #[.bool s, .string b]) :
    Calls Try.prog 22 #[.agg #[.bool na, .string sa], .int .i64 n] w (T2 w s b) :=
  (wshift_any hn).mono fun _ _ h => ans_told h hm hz hf he
section
variable {w : World} {na nb : Bool} {sa sb : ByteArray} {z : Int} {s : Bool} {b : ByteArray} {n : Int}
/-- a division that is refused -/
def T3no (w : World) (cd : Int) (e : Ending) (w' : World) : Prop := e = .returned (.tuple #[.agg #[.bool false, .string ⟨#[]⟩], .agg #[.bool false, .string ⟨#[]⟩], .int .i64 cd]) ∧ Below w.heap.size w w'
theorem div_bad (hm : ¬ May2 (na, sa) (nb, sb)) : Calls Try.prog 21 #[.agg #[.bool na, .string sa], .agg #[.bool nb, .string sb]] w (T3no w 2) := wdiv_any.mono fun _ _ h => ⟨h.1 hm, h.2.2.2⟩
theorem div_nought (hm : May2 (na, sa) (nb, sb)) (h0 : num (nb, sb) = 0) : Calls Try.prog 21 #[.agg #[.bool na, .string sa], .agg #[.bool nb, .string sb]] w (T3no w 5) := wdiv_any.mono fun _ _ h => ⟨h.2.1 hm h0, h.2.2.2⟩
theorem shift_bad (hm : ¬ MayL na sa.data.toList) (hn : -9223372036854775808 ≤ n) : Calls Try.prog 22 #[.agg #[.bool na, .string sa], .int .i64 n] w (T2no w 2) := (wshift_any hn).mono fun _ _ h => ⟨h.2.2.1 hm, h.2.2.2⟩
theorem shift_far (hm : MayL na sa.data.toList) (hn : -9223372036854775808 ≤ n) (hf : ¬ fits (shf (num (na, sa)) n)) : Calls Try.prog 22 #[.agg #[.bool na, .string sa], .int .i64 n] w (T2no w 4) := (wshift_any hn).mono fun _ _ h => ⟨h.2.1 hm hf, h.2.2.2⟩
theorem may_posn {n : Bool} {s : ByteArray} (hm : MayL n s.data.toList) (h : 0 < s.size) : 0 < bval s.data.toList := bval_pos hm.2.2 (by intro h0; have hl : s.data.toList.length = s.size := Array.length_toList; rw [h0] at hl; simp at hl; omega)
theorem num_posn {n : Bool} {s : ByteArray} (hm : MayL n s.data.toList) (h : 0 < s.size) : num (n, s) ≠ 0 := fun h0 => by have := (num_nil (b := (n, s)) hm).1 h0; dsimp only at this; omega
theorem empty_may : MayL false (⟨#[]⟩ : ByteArray).data.toList := ⟨by decide, fun _ => rfl, fun x h => by simp at h⟩
end
set_option maxRecDepth 100000 in
set_option maxHeartbeats 8000000 in
theorem divs_long {w : World} {na nb : Bool} {sa sb : ByteArray} {n : Int} (hl : (isLong (na, sa) || isLong (nb, sb)) = true) :
    Calls Try.prog 4 #[.agg #[.bool na, .string sa], .agg #[.bool nb, .string sb], .int .i64 n] w (fun e w' => e = .returned (.bool true) ∧ Below w.heap.size w w') := by
  have HL := Lib.hid (fun W : World => long_two (w := W) (na := na) (nb := nb) (sa := sa) (sb := sb))
  rw [hl] at HL
  clear hl
  have HW := Lib.hid (fun W : World => works_any (w := W))
  have HN := Lib.hid (fun (W : World) (n : Int) => num_any (w := W) (n := n))
  have E0 := Lib.hid (Env.nil w)
  go_enter Try.func4, Try.ntmps4
  go_upto_region 0 with fail
  go_upto_region 1 with fail
  have E1 : Hid (Env w ((w.alloc (.cells #[.bool na, .string sa] 26)).alloc (.cells #[.bool nb, .string sb] 26)) [(w.heap.size + 1, 26, #[.bool nb, .string sb]), (w.heap.size, 26, #[.bool na, .string sa])]) := Lib.hid (by have h := (Env.new (Env.new E0.out 26 #[.bool na, .string sa]) 26 #[.bool nb, .string sb]); (try simp only [World.size_alloc] at h); exact h)
  generalize ((w.alloc (.cells #[.bool na, .string sa] 26)).alloc (.cells #[.bool nb, .string sb] 26)) = W1 at E1 ⊢
  have q0_0 : W1.cell? ⟨w.heap.size, 0, none⟩ = some (.bool na) := (Env.at_ E1.out 1 rfl).cell 0
  have q0_1 : W1.cell? ⟨w.heap.size, 1, none⟩ = some (.string sa) := (Env.at_ E1.out 1 rfl).cell 1
  have q1_0 : W1.cell? ⟨w.heap.size + 1, 0, none⟩ = some (.bool nb) := (Env.at_ E1.out 0 rfl).cell 0
  have q1_1 : W1.cell? ⟨w.heap.size + 1, 1, none⟩ = some (.string sb) := (Env.at_ E1.out 0 rfl).cell 1
  go_wp2_with fail
  refine (HL.out _).mono ?_
  rintro e w2 ⟨rfl, h2⟩
  have E3 := Lib.hid ((Env.other E1.out (.cells #[.bool na, .string sa, .bool nb, .string sb] 26)).call h2)
  clear q0_0 q0_1 q1_0 q1_1 h2
  go_upto_region 2 with fail
  go_wp2_with fail
  refine (HW.out _).mono ?_
  rintro e w4 ⟨rfl, h4⟩
  have E5 := Lib.hid (E3.out.call h4)
  clear h4
  go_wp2_with fail
  go_ret
  exact ⟨rfl, E5.out.1⟩
set_option maxRecDepth 100000 in
set_option maxHeartbeats 8000000 in
theorem divs_bad {w : World} {nb : Bool} {sb : ByteArray}{na : Bool} {sa : ByteArray} {n : Int} (hl : (isLong (na, sa) || isLong (nb, sb)) = false) (hn1 : -9223372036854775808 ≤ n) (hn2 : n ≤ 9223372036854775807) (hm : ¬ MayL na sa.data.toList) :
    Calls Try.prog 4 #[.agg #[.bool na, .string sa], .agg #[.bool nb, .string sb], .int .i64 n] w (fun e w' => e = .returned (.bool true) ∧ Below w.heap.size w w') := by
  have HL := Lib.hid (fun W : World => long_two (w := W) (na := na) (nb := nb) (sa := sa) (sb := sb))
  rw [hl] at HL
  have HA := Lib.hid (fun W : World => arg_any (w := W))
  have HB1 := Lib.hid (fun W : World => bad_one (w := W) (na := na) (sa := sa))
  rw [show isBad (na, sa) = true from isBad_yes.2 hm] at HB1
  have HB2 := Lib.hid (fun W : World => bad_two (w := W) (na := na) (nb := nb) (sa := sa) (sb := sb))
  rw [show (isBad (na, sa) || isBad (nb, sb)) = true from by rw [show isBad (na, sa) = true from isBad_yes.2 hm]; rfl] at HB2
  have H21 := Lib.hid (fun W : World => div_bad (w := W) (na := na) (sa := sa) (nb := nb) (sb := sb) (fun h => hm h.1))
  have H22 := Lib.hid (fun W : World => shift_bad (w := W) hm hn1)
  clear hl hm
  have HW := Lib.hid (fun W : World => works_any (w := W))
  have HN := Lib.hid (fun (W : World) (n : Int) => num_any (w := W) (n := n))
  have E0 := Lib.hid (Env.nil w)
  go_enter Try.func4, Try.ntmps4
  go_upto_region 0 with fail
  go_upto_region 1 with fail
  have E1 : Hid (Env w ((w.alloc (.cells #[.bool na, .string sa] 26)).alloc (.cells #[.bool nb, .string sb] 26)) [(w.heap.size + 1, 26, #[.bool nb, .string sb]), (w.heap.size, 26, #[.bool na, .string sa])]) := Lib.hid (by have h := (Env.new (Env.new E0.out 26 #[.bool na, .string sa]) 26 #[.bool nb, .string sb]); (try simp only [World.size_alloc] at h); exact h)
  generalize ((w.alloc (.cells #[.bool na, .string sa] 26)).alloc (.cells #[.bool nb, .string sb] 26)) = W1 at E1 ⊢
  have q0_0 : W1.cell? ⟨w.heap.size, 0, none⟩ = some (.bool na) := (Env.at_ E1.out 1 rfl).cell 0
  have q0_1 : W1.cell? ⟨w.heap.size, 1, none⟩ = some (.string sa) := (Env.at_ E1.out 1 rfl).cell 1
  have q1_0 : W1.cell? ⟨w.heap.size + 1, 0, none⟩ = some (.bool nb) := (Env.at_ E1.out 0 rfl).cell 0
  have q1_1 : W1.cell? ⟨w.heap.size + 1, 1, none⟩ = some (.string sb) := (Env.at_ E1.out 0 rfl).cell 1
  go_wp2_with fail
  refine (HL.out _).mono ?_
  rintro e w2 ⟨rfl, h2⟩
  have E3 := Lib.hid ((Env.other E1.out (.cells #[.bool na, .string sa, .bool nb, .string sb] 26)).call h2)
  clear q0_0 q0_1 q1_0 q1_1 h2
  go_upto_region 3 with fail
  have q0_0 : w2.cell? ⟨w.heap.size, 0, none⟩ = some (.bool na) := (Env.at_ E3.out 1 rfl).cell 0
  have q0_1 : w2.cell? ⟨w.heap.size, 1, none⟩ = some (.string sa) := (Env.at_ E3.out 1 rfl).cell 1
  have q1_0 : w2.cell? ⟨w.heap.size + 1, 0, none⟩ = some (.bool nb) := (Env.at_ E3.out 0 rfl).cell 0
  have q1_1 : w2.cell? ⟨w.heap.size + 1, 1, none⟩ = some (.string sb) := (Env.at_ E3.out 0 rfl).cell 1
  go_wp2_with fail
  refine (H21.out _).mono ?_
  rintro e w4 ⟨rfl, h4⟩
  have E5 := Lib.hid (E3.out.call h4)
  clear q0_0 q0_1 q1_0 q1_1 h4
  go_upto_region 4 with fail
  have E6 : Hid (Env w ((w4.alloc (.cells #[.bool false, .string ⟨#[]⟩] 26)).alloc (.cells #[.bool false, .string ⟨#[]⟩] 26)) [(w4.heap.size + 1, 26, #[.bool false, .string ⟨#[]⟩]), (w4.heap.size, 26, #[.bool false, .string ⟨#[]⟩]), (w.heap.size + 1, 26, #[.bool nb, .string sb]), (w.heap.size, 26, #[.bool na, .string sa])]) := Lib.hid (by have h := (Env.new (Env.new E5.out 26 #[.bool false, .string ⟨#[]⟩]) 26 #[.bool false, .string ⟨#[]⟩]); (try simp only [World.size_alloc] at h); exact h)
  generalize ((w4.alloc (.cells #[.bool false, .string ⟨#[]⟩] 26)).alloc (.cells #[.bool false, .string ⟨#[]⟩] 26)) = W6 at E6 ⊢
  have q0_0 : W6.cell? ⟨w.heap.size, 0, none⟩ = some (.bool na) := (Env.at_ E6.out 3 rfl).cell 0
  have q0_1 : W6.cell? ⟨w.heap.size, 1, none⟩ = some (.string sa) := (Env.at_ E6.out 3 rfl).cell 1
  go_wp2_with fail
  refine (H22.out _).mono ?_
  rintro e w7 ⟨rfl, h7⟩
  have E8 := Lib.hid (E6.out.call h7)
  clear q0_0 q0_1 h7
  go_upto_region 5 with fail
  have E9 : Hid (Env w (w7.alloc (.cells #[.bool false, .string ⟨#[]⟩] 26)) [(w7.heap.size, 26, #[.bool false, .string ⟨#[]⟩]), (w4.heap.size + 1, 26, #[.bool false, .string ⟨#[]⟩]), (w4.heap.size, 26, #[.bool false, .string ⟨#[]⟩]), (w.heap.size + 1, 26, #[.bool nb, .string sb]), (w.heap.size, 26, #[.bool na, .string sa])]) := Lib.hid (by have h := (Env.new E8.out 26 #[.bool false, .string ⟨#[]⟩]); (try simp only [World.size_alloc] at h); exact h)
  generalize (w7.alloc (.cells #[.bool false, .string ⟨#[]⟩] 26)) = W9 at E9 ⊢
  have q0_0 : W9.cell? ⟨w.heap.size, 0, none⟩ = some (.bool na) := (Env.at_ E9.out 4 rfl).cell 0
  have q0_1 : W9.cell? ⟨w.heap.size, 1, none⟩ = some (.string sa) := (Env.at_ E9.out 4 rfl).cell 1
  go_wp2_with fail
  refine (HB1.out _).mono ?_
  rintro e w10 ⟨rfl, h10⟩
  have E11 := Lib.hid ((Env.other E9.out (.cells #[.bool na, .string sa] 26)).call h10)
  clear q0_0 q0_1 h10
  go_upto_region 6 with fail
  have q0_0 : w10.cell? ⟨w7.heap.size, 0, none⟩ = some (.bool false) := (Env.at_ E11.out 0 rfl).cell 0
  have q0_1 : w10.cell? ⟨w7.heap.size, 1, none⟩ = some (.string ⟨#[]⟩) := (Env.at_ E11.out 0 rfl).cell 1
  go_wp2_with fail
  refine (HA.out _).mono ?_
  rintro e w12 ⟨rfl, h12⟩
  have E13 := Lib.hid (E11.out.call h12)
  clear q0_0 q0_1 h12
  go_upto_region 16 with fail
  have q0_0 : w12.cell? ⟨w.heap.size, 0, none⟩ = some (.bool na) := (Env.at_ E13.out 4 rfl).cell 0
  have q0_1 : w12.cell? ⟨w.heap.size, 1, none⟩ = some (.string sa) := (Env.at_ E13.out 4 rfl).cell 1
  have q1_0 : w12.cell? ⟨w.heap.size + 1, 0, none⟩ = some (.bool nb) := (Env.at_ E13.out 3 rfl).cell 0
  have q1_1 : w12.cell? ⟨w.heap.size + 1, 1, none⟩ = some (.string sb) := (Env.at_ E13.out 3 rfl).cell 1
  go_wp2_with fail
  refine (HB2.out _).mono ?_
  rintro e w14 ⟨rfl, h14⟩
  have E15 := Lib.hid ((Env.other E13.out (.cells #[.bool na, .string sa, .bool nb, .string sb] 26)).call h14)
  clear q0_0 q0_1 q1_0 q1_1 h14
  go_upto_region 17 with fail
  have q0_0 : w14.cell? ⟨w4.heap.size, 0, none⟩ = some (.bool false) := (Env.at_ E15.out 2 rfl).cell 0
  have q0_1 : w14.cell? ⟨w4.heap.size, 1, none⟩ = some (.string ⟨#[]⟩) := (Env.at_ E15.out 2 rfl).cell 1
  go_wp2_with fail
  refine (HA.out _).mono ?_
  rintro e w16 ⟨rfl, h16⟩
  have E17 := Lib.hid (E15.out.call h16)
  clear q0_0 q0_1 h16
  have q4_0 : w16.cell? ⟨w4.heap.size + 1, 0, none⟩ = some (.bool false) := (Env.at_ E17.out 1 rfl).cell 0
  have q4_1 : w16.cell? ⟨w4.heap.size + 1, 1, none⟩ = some (.string ⟨#[]⟩) := (Env.at_ E17.out 1 rfl).cell 1
  go_wp2_with fail
  refine (HW.out _).mono ?_
  rintro e w18 ⟨rfl, h18⟩
  have E19 := Lib.hid (E17.out.call h18)
  clear q4_0 q4_1 h18
  go_wp2_with fail
  go_ret
  exact ⟨rfl, E19.out.1⟩
set_option maxRecDepth 100000 in
set_option maxHeartbeats 8000000 in
theorem divs_far_bad {w : World} {nb : Bool} {sb : ByteArray}{na : Bool} {sa : ByteArray} {n : Int} (hl : (isLong (na, sa) || isLong (nb, sb)) = false) (hn1 : -9223372036854775808 ≤ n) (hn2 : n ≤ 9223372036854775807) (hm : MayL na sa.data.toList) (h0 : 0 < sa.size) (ha : sa.size ≤ 400) (hnn : 131072 < n) (hk : ¬ MayL nb sb.data.toList) :
    Calls Try.prog 4 #[.agg #[.bool na, .string sa], .agg #[.bool nb, .string sb], .int .i64 n] w (fun e w' => e = .returned (.bool true) ∧ Below w.heap.size w w') := by
  have HL := Lib.hid (fun W : World => long_two (w := W) (na := na) (nb := nb) (sa := sa) (sb := sb))
  rw [hl] at HL
  have HA := Lib.hid (fun W : World => arg_any (w := W))
  have HB1 := Lib.hid (fun W : World => bad_one (w := W) (na := na) (sa := sa))
  rw [show isBad (na, sa) = false from isBad_no.2 hm] at HB1
  have HB2 := Lib.hid (fun W : World => bad_two (w := W) (na := na) (nb := nb) (sa := sa) (sb := sb))
  rw [show (isBad (na, sa) || isBad (nb, sb)) = true from by rw [show isBad (nb, sb) = true from isBad_yes.2 hk, Bool.or_true]] at HB2
  have H21 := Lib.hid (fun W : World => div_bad (w := W) (na := na) (sa := sa) (nb := nb) (sb := sb) (fun h => hk h.2))
  have H22 := Lib.hid (fun W : World => shift_far (w := W) hm hn1 (shf_big (num_posn hm h0) (k := 131072) hnn))
  have hz := str_facts h0
  obtain ⟨z1, z2⟩ := hz
  clear ha h0
  clear hl hm hk
  have HW := Lib.hid (fun W : World => works_any (w := W))
  have HN := Lib.hid (fun (W : World) (n : Int) => num_any (w := W) (n := n))
  have E0 := Lib.hid (Env.nil w)
  go_enter Try.func4, Try.ntmps4
  go_upto_region 0 with fail
  go_upto_region 1 with fail
  have E1 : Hid (Env w ((w.alloc (.cells #[.bool na, .string sa] 26)).alloc (.cells #[.bool nb, .string sb] 26)) [(w.heap.size + 1, 26, #[.bool nb, .string sb]), (w.heap.size, 26, #[.bool na, .string sa])]) := Lib.hid (by have h := (Env.new (Env.new E0.out 26 #[.bool na, .string sa]) 26 #[.bool nb, .string sb]); (try simp only [World.size_alloc] at h); exact h)
  generalize ((w.alloc (.cells #[.bool na, .string sa] 26)).alloc (.cells #[.bool nb, .string sb] 26)) = W1 at E1 ⊢
  have q0_0 : W1.cell? ⟨w.heap.size, 0, none⟩ = some (.bool na) := (Env.at_ E1.out 1 rfl).cell 0
  have q0_1 : W1.cell? ⟨w.heap.size, 1, none⟩ = some (.string sa) := (Env.at_ E1.out 1 rfl).cell 1
  have q1_0 : W1.cell? ⟨w.heap.size + 1, 0, none⟩ = some (.bool nb) := (Env.at_ E1.out 0 rfl).cell 0
  have q1_1 : W1.cell? ⟨w.heap.size + 1, 1, none⟩ = some (.string sb) := (Env.at_ E1.out 0 rfl).cell 1
  go_wp2_with fail
  refine (HL.out _).mono ?_
  rintro e w2 ⟨rfl, h2⟩
  have E3 := Lib.hid ((Env.other E1.out (.cells #[.bool na, .string sa, .bool nb, .string sb] 26)).call h2)
  clear q0_0 q0_1 q1_0 q1_1 h2
  go_upto_region 3 with fail
  have q0_0 : w2.cell? ⟨w.heap.size, 0, none⟩ = some (.bool na) := (Env.at_ E3.out 1 rfl).cell 0
  have q0_1 : w2.cell? ⟨w.heap.size, 1, none⟩ = some (.string sa) := (Env.at_ E3.out 1 rfl).cell 1
  have q1_0 : w2.cell? ⟨w.heap.size + 1, 0, none⟩ = some (.bool nb) := (Env.at_ E3.out 0 rfl).cell 0
  have q1_1 : w2.cell? ⟨w.heap.size + 1, 1, none⟩ = some (.string sb) := (Env.at_ E3.out 0 rfl).cell 1
  go_wp2_with fail
  refine (H21.out _).mono ?_
  rintro e w4 ⟨rfl, h4⟩
  have E5 := Lib.hid (E3.out.call h4)
  clear q0_0 q0_1 q1_0 q1_1 h4
  go_upto_region 4 with fail
  have E6 : Hid (Env w ((w4.alloc (.cells #[.bool false, .string ⟨#[]⟩] 26)).alloc (.cells #[.bool false, .string ⟨#[]⟩] 26)) [(w4.heap.size + 1, 26, #[.bool false, .string ⟨#[]⟩]), (w4.heap.size, 26, #[.bool false, .string ⟨#[]⟩]), (w.heap.size + 1, 26, #[.bool nb, .string sb]), (w.heap.size, 26, #[.bool na, .string sa])]) := Lib.hid (by have h := (Env.new (Env.new E5.out 26 #[.bool false, .string ⟨#[]⟩]) 26 #[.bool false, .string ⟨#[]⟩]); (try simp only [World.size_alloc] at h); exact h)
  generalize ((w4.alloc (.cells #[.bool false, .string ⟨#[]⟩] 26)).alloc (.cells #[.bool false, .string ⟨#[]⟩] 26)) = W6 at E6 ⊢
  have q0_0 : W6.cell? ⟨w.heap.size, 0, none⟩ = some (.bool na) := (Env.at_ E6.out 3 rfl).cell 0
  have q0_1 : W6.cell? ⟨w.heap.size, 1, none⟩ = some (.string sa) := (Env.at_ E6.out 3 rfl).cell 1
  go_wp2_with fail
  refine (H22.out _).mono ?_
  rintro e w7 ⟨rfl, h7⟩
  have E8 := Lib.hid (E6.out.call h7)
  clear q0_0 q0_1 h7
  go_upto_region 5 with fail
  have E9 : Hid (Env w (w7.alloc (.cells #[.bool false, .string ⟨#[]⟩] 26)) [(w7.heap.size, 26, #[.bool false, .string ⟨#[]⟩]), (w4.heap.size + 1, 26, #[.bool false, .string ⟨#[]⟩]), (w4.heap.size, 26, #[.bool false, .string ⟨#[]⟩]), (w.heap.size + 1, 26, #[.bool nb, .string sb]), (w.heap.size, 26, #[.bool na, .string sa])]) := Lib.hid (by have h := (Env.new E8.out 26 #[.bool false, .string ⟨#[]⟩]); (try simp only [World.size_alloc] at h); exact h)
  generalize (w7.alloc (.cells #[.bool false, .string ⟨#[]⟩] 26)) = W9 at E9 ⊢
  have q0_0 : W9.cell? ⟨w.heap.size, 0, none⟩ = some (.bool na) := (Env.at_ E9.out 4 rfl).cell 0
  have q0_1 : W9.cell? ⟨w.heap.size, 1, none⟩ = some (.string sa) := (Env.at_ E9.out 4 rfl).cell 1
  go_wp2_with fail
  refine (HB1.out _).mono ?_
  rintro e w10 ⟨rfl, h10⟩
  have E11 := Lib.hid ((Env.other E9.out (.cells #[.bool na, .string sa] 26)).call h10)
  clear q0_0 q0_1 h10
  go_upto_region 8 with fail
  have q1_1 : w10.cell? ⟨w.heap.size, 1, none⟩ = some (.string sa) := (Env.at_ E11.out 4 rfl).cell 1
  go_upto_region 9 with fail
  clear q1_1
  have q0_0 : w10.cell? ⟨w7.heap.size, 0, none⟩ = some (.bool false) := (Env.at_ E11.out 0 rfl).cell 0
  have q0_1 : w10.cell? ⟨w7.heap.size, 1, none⟩ = some (.string ⟨#[]⟩) := (Env.at_ E11.out 0 rfl).cell 1
  go_wp2_with fail
  refine (HN.out _ 4).mono ?_
  rintro e w12 ⟨rfl, h12⟩
  subst h12
  have E13 := Lib.hid (E11.out)
  clear q0_0 q0_1
  go_upto_region 16 with fail
  have q0_0 : w10.cell? ⟨w.heap.size, 0, none⟩ = some (.bool na) := (Env.at_ E13.out 4 rfl).cell 0
  have q0_1 : w10.cell? ⟨w.heap.size, 1, none⟩ = some (.string sa) := (Env.at_ E13.out 4 rfl).cell 1
  have q1_0 : w10.cell? ⟨w.heap.size + 1, 0, none⟩ = some (.bool nb) := (Env.at_ E13.out 3 rfl).cell 0
  have q1_1 : w10.cell? ⟨w.heap.size + 1, 1, none⟩ = some (.string sb) := (Env.at_ E13.out 3 rfl).cell 1
  go_wp2_with fail
  refine (HB2.out _).mono ?_
  rintro e w14 ⟨rfl, h14⟩
  have E15 := Lib.hid ((Env.other E13.out (.cells #[.bool na, .string sa, .bool nb, .string sb] 26)).call h14)
  clear q0_0 q0_1 q1_0 q1_1 h14
  go_upto_region 17 with fail
  have q0_0 : w14.cell? ⟨w4.heap.size, 0, none⟩ = some (.bool false) := (Env.at_ E15.out 2 rfl).cell 0
  have q0_1 : w14.cell? ⟨w4.heap.size, 1, none⟩ = some (.string ⟨#[]⟩) := (Env.at_ E15.out 2 rfl).cell 1
  go_wp2_with fail
  refine (HA.out _).mono ?_
  rintro e w16 ⟨rfl, h16⟩
  have E17 := Lib.hid (E15.out.call h16)
  clear q0_0 q0_1 h16
  have q4_0 : w16.cell? ⟨w4.heap.size + 1, 0, none⟩ = some (.bool false) := (Env.at_ E17.out 1 rfl).cell 0
  have q4_1 : w16.cell? ⟨w4.heap.size + 1, 1, none⟩ = some (.string ⟨#[]⟩) := (Env.at_ E17.out 1 rfl).cell 1
  go_wp2_with fail
  refine (HW.out _).mono ?_
  rintro e w18 ⟨rfl, h18⟩
  have E19 := Lib.hid (E17.out.call h18)
  clear q4_0 q4_1 h18
  go_wp2_with fail
  go_ret
  exact ⟨rfl, E19.out.1⟩
set_option maxRecDepth 100000 in
set_option maxHeartbeats 8000000 in
theorem divs_far_bzero {w : World} {na : Bool} {sa : ByteArray} {n : Int} (hl : (isLong (na, sa) || isLong (false, ⟨#[]⟩)) = false) (hn1 : -9223372036854775808 ≤ n) (hn2 : n ≤ 9223372036854775807) (hm : MayL na sa.data.toList) (h0 : 0 < sa.size) (ha : sa.size ≤ 400) (hnn : 131072 < n) :
    Calls Try.prog 4 #[.agg #[.bool na, .string sa], .agg #[.bool false, .string ⟨#[]⟩], .int .i64 n] w (fun e w' => e = .returned (.bool true) ∧ Below w.heap.size w w') := by
  have HL := Lib.hid (fun W : World => long_two (w := W) (na := na) (nb := false) (sa := sa) (sb := ⟨#[]⟩))
  rw [hl] at HL
  have HA := Lib.hid (fun W : World => arg_any (w := W))
  have HB1 := Lib.hid (fun W : World => bad_one (w := W) (na := na) (sa := sa))
  rw [show isBad (na, sa) = false from isBad_no.2 hm] at HB1
  have HB2 := Lib.hid (fun W : World => bad_two (w := W) (na := na) (nb := false) (sa := sa) (sb := ⟨#[]⟩))
  rw [show (isBad (na, sa) || isBad (false, ⟨#[]⟩)) = false from Bool.or_eq_false_iff.2 ⟨isBad_no.2 hm, isBad_no.2 empty_may⟩] at HB2
  have H21 := Lib.hid (fun W : World => div_nought (w := W) (na := na) (sa := sa) (And.intro hm empty_may) num_zero)
  have H22 := Lib.hid (fun W : World => shift_far (w := W) hm hn1 (shf_big (num_posn hm h0) (k := 131072) hnn))
  have hz := str_facts h0
  obtain ⟨z1, z2⟩ := hz
  clear ha h0
  clear hl hm
  have HW := Lib.hid (fun W : World => works_any (w := W))
  have HN := Lib.hid (fun (W : World) (n : Int) => num_any (w := W) (n := n))
  have E0 := Lib.hid (Env.nil w)
  go_enter Try.func4, Try.ntmps4
  go_upto_region 0 with fail
  go_upto_region 1 with fail
  have E1 : Hid (Env w ((w.alloc (.cells #[.bool na, .string sa] 26)).alloc (.cells #[.bool false, .string ⟨#[]⟩] 26)) [(w.heap.size + 1, 26, #[.bool false, .string ⟨#[]⟩]), (w.heap.size, 26, #[.bool na, .string sa])]) := Lib.hid (by have h := (Env.new (Env.new E0.out 26 #[.bool na, .string sa]) 26 #[.bool false, .string ⟨#[]⟩]); (try simp only [World.size_alloc] at h); exact h)
  generalize ((w.alloc (.cells #[.bool na, .string sa] 26)).alloc (.cells #[.bool false, .string ⟨#[]⟩] 26)) = W1 at E1 ⊢
  have q0_0 : W1.cell? ⟨w.heap.size, 0, none⟩ = some (.bool na) := (Env.at_ E1.out 1 rfl).cell 0
  have q0_1 : W1.cell? ⟨w.heap.size, 1, none⟩ = some (.string sa) := (Env.at_ E1.out 1 rfl).cell 1
  have q1_0 : W1.cell? ⟨w.heap.size + 1, 0, none⟩ = some (.bool false) := (Env.at_ E1.out 0 rfl).cell 0
  have q1_1 : W1.cell? ⟨w.heap.size + 1, 1, none⟩ = some (.string ⟨#[]⟩) := (Env.at_ E1.out 0 rfl).cell 1
  go_wp2_with fail
  refine (HL.out _).mono ?_
  rintro e w2 ⟨rfl, h2⟩
  have E3 := Lib.hid ((Env.other E1.out (.cells #[.bool na, .string sa, .bool false, .string ⟨#[]⟩] 26)).call h2)
  clear q0_0 q0_1 q1_0 q1_1 h2
  go_upto_region 3 with fail
  have q0_0 : w2.cell? ⟨w.heap.size, 0, none⟩ = some (.bool na) := (Env.at_ E3.out 1 rfl).cell 0
  have q0_1 : w2.cell? ⟨w.heap.size, 1, none⟩ = some (.string sa) := (Env.at_ E3.out 1 rfl).cell 1
  have q1_0 : w2.cell? ⟨w.heap.size + 1, 0, none⟩ = some (.bool false) := (Env.at_ E3.out 0 rfl).cell 0
  have q1_1 : w2.cell? ⟨w.heap.size + 1, 1, none⟩ = some (.string ⟨#[]⟩) := (Env.at_ E3.out 0 rfl).cell 1
  go_wp2_with fail
  refine (H21.out _).mono ?_
  rintro e w4 ⟨rfl, h4⟩
  have E5 := Lib.hid (E3.out.call h4)
  clear q0_0 q0_1 q1_0 q1_1 h4
  go_upto_region 4 with fail
  have E6 : Hid (Env w ((w4.alloc (.cells #[.bool false, .string ⟨#[]⟩] 26)).alloc (.cells #[.bool false, .string ⟨#[]⟩] 26)) [(w4.heap.size + 1, 26, #[.bool false, .string ⟨#[]⟩]), (w4.heap.size, 26, #[.bool false, .string ⟨#[]⟩]), (w.heap.size + 1, 26, #[.bool false, .string ⟨#[]⟩]), (w.heap.size, 26, #[.bool na, .string sa])]) := Lib.hid (by have h := (Env.new (Env.new E5.out 26 #[.bool false, .string ⟨#[]⟩]) 26 #[.bool false, .string ⟨#[]⟩]); (try simp only [World.size_alloc] at h); exact h)
  generalize ((w4.alloc (.cells #[.bool false, .string ⟨#[]⟩] 26)).alloc (.cells #[.bool false, .string ⟨#[]⟩] 26)) = W6 at E6 ⊢
  have q0_0 : W6.cell? ⟨w.heap.size, 0, none⟩ = some (.bool na) := (Env.at_ E6.out 3 rfl).cell 0
  have q0_1 : W6.cell? ⟨w.heap.size, 1, none⟩ = some (.string sa) := (Env.at_ E6.out 3 rfl).cell 1
  go_wp2_with fail
  refine (H22.out _).mono ?_
  rintro e w7 ⟨rfl, h7⟩
  have E8 := Lib.hid (E6.out.call h7)
  clear q0_0 q0_1 h7
  go_upto_region 5 with fail
  have E9 : Hid (Env w (w7.alloc (.cells #[.bool false, .string ⟨#[]⟩] 26)) [(w7.heap.size, 26, #[.bool false, .string ⟨#[]⟩]), (w4.heap.size + 1, 26, #[.bool false, .string ⟨#[]⟩]), (w4.heap.size, 26, #[.bool false, .string ⟨#[]⟩]), (w.heap.size + 1, 26, #[.bool false, .string ⟨#[]⟩]), (w.heap.size, 26, #[.bool na, .string sa])]) := Lib.hid (by have h := (Env.new E8.out 26 #[.bool false, .string ⟨#[]⟩]); (try simp only [World.size_alloc] at h); exact h)
  generalize (w7.alloc (.cells #[.bool false, .string ⟨#[]⟩] 26)) = W9 at E9 ⊢
  have q0_0 : W9.cell? ⟨w.heap.size, 0, none⟩ = some (.bool na) := (Env.at_ E9.out 4 rfl).cell 0
  have q0_1 : W9.cell? ⟨w.heap.size, 1, none⟩ = some (.string sa) := (Env.at_ E9.out 4 rfl).cell 1
  go_wp2_with fail
  refine (HB1.out _).mono ?_
  rintro e w10 ⟨rfl, h10⟩
  have E11 := Lib.hid ((Env.other E9.out (.cells #[.bool na, .string sa] 26)).call h10)
  clear q0_0 q0_1 h10
  go_upto_region 8 with fail
  have q1_1 : w10.cell? ⟨w.heap.size, 1, none⟩ = some (.string sa) := (Env.at_ E11.out 4 rfl).cell 1
  go_upto_region 9 with fail
  clear q1_1
  have q0_0 : w10.cell? ⟨w7.heap.size, 0, none⟩ = some (.bool false) := (Env.at_ E11.out 0 rfl).cell 0
  have q0_1 : w10.cell? ⟨w7.heap.size, 1, none⟩ = some (.string ⟨#[]⟩) := (Env.at_ E11.out 0 rfl).cell 1
  go_wp2_with fail
  refine (HN.out _ 4).mono ?_
  rintro e w12 ⟨rfl, h12⟩
  subst h12
  have E13 := Lib.hid (E11.out)
  clear q0_0 q0_1
  go_upto_region 16 with fail
  have q0_0 : w10.cell? ⟨w.heap.size, 0, none⟩ = some (.bool na) := (Env.at_ E13.out 4 rfl).cell 0
  have q0_1 : w10.cell? ⟨w.heap.size, 1, none⟩ = some (.string sa) := (Env.at_ E13.out 4 rfl).cell 1
  have q1_0 : w10.cell? ⟨w.heap.size + 1, 0, none⟩ = some (.bool false) := (Env.at_ E13.out 3 rfl).cell 0
  have q1_1 : w10.cell? ⟨w.heap.size + 1, 1, none⟩ = some (.string ⟨#[]⟩) := (Env.at_ E13.out 3 rfl).cell 1
  go_wp2_with fail
  refine (HB2.out _).mono ?_
  rintro e w14 ⟨rfl, h14⟩
  have E15 := Lib.hid ((Env.other E13.out (.cells #[.bool na, .string sa, .bool false, .string ⟨#[]⟩] 26)).call h14)
  clear q0_0 q0_1 q1_0 q1_1 h14
  go_upto_region 18 with fail
  have q1_1 : w14.cell? ⟨w.heap.size + 1, 1, none⟩ = some (.string ⟨#[]⟩) := (Env.at_ E15.out 3 rfl).cell 1
  go_upto_region 19 with fail
  clear q1_1
  have q0_0 : w14.cell? ⟨w4.heap.size, 0, none⟩ = some (.bool false) := (Env.at_ E15.out 2 rfl).cell 0
  have q0_1 : w14.cell? ⟨w4.heap.size, 1, none⟩ = some (.string ⟨#[]⟩) := (Env.at_ E15.out 2 rfl).cell 1
  have q4_0 : w14.cell? ⟨w4.heap.size + 1, 0, none⟩ = some (.bool false) := (Env.at_ E15.out 1 rfl).cell 0
  have q4_1 : w14.cell? ⟨w4.heap.size + 1, 1, none⟩ = some (.string ⟨#[]⟩) := (Env.at_ E15.out 1 rfl).cell 1
  go_wp2_with fail
  refine (HN.out _ 5).mono ?_
  rintro e w16 ⟨rfl, h16⟩
  subst h16
  have E17 := Lib.hid (E15.out)
  clear q0_0 q0_1 q4_0 q4_1
  go_wp2_with fail
  refine (HW.out _).mono ?_
  rintro e w18 ⟨rfl, h18⟩
  have E19 := Lib.hid (E17.out.call h18)
  clear h18
  go_wp2_with fail
  go_ret
  exact ⟨rfl, E19.out.1⟩
set_option maxRecDepth 100000 in
set_option maxHeartbeats 8000000 in
theorem divs_far_ok {w : World} {nb : Bool} {sb : ByteArray}{na : Bool} {sa : ByteArray} {n : Int} (hl : (isLong (na, sa) || isLong (nb, sb)) = false) (hn1 : -9223372036854775808 ≤ n) (hn2 : n ≤ 9223372036854775807) (hm : MayL na sa.data.toList) (h0 : 0 < sa.size) (ha : sa.size ≤ 400) (hnn : 131072 < n) (hk : MayL nb sb.data.toList) (h1 : 0 < sb.size) (hb : sb.size ≤ 400) :
    Calls Try.prog 4 #[.agg #[.bool na, .string sa], .agg #[.bool nb, .string sb], .int .i64 n] w (fun e w' => e = .returned (.bool true) ∧ Below w.heap.size w w') := by
  have HL := Lib.hid (fun W : World => long_two (w := W) (na := na) (nb := nb) (sa := sa) (sb := sb))
  rw [hl] at HL
  have HA := Lib.hid (fun W : World => arg_any (w := W))
  have HB1 := Lib.hid (fun W : World => bad_one (w := W) (na := na) (sa := sa))
  rw [show isBad (na, sa) = false from isBad_no.2 hm] at HB1
  have HB2 := Lib.hid (fun W : World => bad_two (w := W) (na := na) (nb := nb) (sa := sa) (sb := sb))
  rw [show (isBad (na, sa) || isBad (nb, sb)) = false from Bool.or_eq_false_iff.2 ⟨isBad_no.2 hm, isBad_no.2 hk⟩] at HB2
  have hy0 := num_posn hk h1
  have Sy := may_sb (n := nb) hb
  have Sx := may_sb (n := na) (s := sa) (k := 400) ha
  have fq : fits (num (na, sa) / num (nb, sb)) := (Sx.le (Int.natAbs_ediv_le_natAbs _ _)).fits (by decide)
  obtain ⟨sq, bq, eq, nq, mq⟩ := enc_form fq
  have fr : fits (num (na, sa) % num (nb, sb)) := (Sy.le (rest_le hy0)).fits (by decide)
  obtain ⟨sr, br, er, nr, mr⟩ := enc_form fr
  have H21 := Lib.hid (fun W : World => div_told (w := W) (And.intro hm hk) hy0 rfl rfl eq er)
  have H25 := Lib.hid (fun W : World => calm_eq (rdivmod_any (w := W) (na := na) (sa := sa) (Fmd.of_may hm) (Fmd.of_may hk) (may_posn hk h1)) (show _ = Value.tuple #[.agg #[.bool sq, .string bq], .agg #[.bool sr, .string br]] by rw [eq, er]))
  have H22 := Lib.hid (fun W : World => shift_far (w := W) hm hn1 (shf_big (num_posn hm h0) (k := 131072) hnn))
  have hz := str_facts h0
  obtain ⟨z1, z2⟩ := hz
  clear ha h0
  have hzb := str_facts h1
  obtain ⟨z3, z4⟩ := hzb
  clear h1 hb
  clear hl hy0 Sy Sx fq eq nq mq fr er nr mr hm hk
  have HW := Lib.hid (fun W : World => works_any (w := W))
  have HN := Lib.hid (fun (W : World) (n : Int) => num_any (w := W) (n := n))
  have E0 := Lib.hid (Env.nil w)
  go_enter Try.func4, Try.ntmps4
  go_upto_region 0 with fail
  go_upto_region 1 with fail
  have E1 : Hid (Env w ((w.alloc (.cells #[.bool na, .string sa] 26)).alloc (.cells #[.bool nb, .string sb] 26)) [(w.heap.size + 1, 26, #[.bool nb, .string sb]), (w.heap.size, 26, #[.bool na, .string sa])]) := Lib.hid (by have h := (Env.new (Env.new E0.out 26 #[.bool na, .string sa]) 26 #[.bool nb, .string sb]); (try simp only [World.size_alloc] at h); exact h)
  generalize ((w.alloc (.cells #[.bool na, .string sa] 26)).alloc (.cells #[.bool nb, .string sb] 26)) = W1 at E1 ⊢
  have q0_0 : W1.cell? ⟨w.heap.size, 0, none⟩ = some (.bool na) := (Env.at_ E1.out 1 rfl).cell 0
  have q0_1 : W1.cell? ⟨w.heap.size, 1, none⟩ = some (.string sa) := (Env.at_ E1.out 1 rfl).cell 1
  have q1_0 : W1.cell? ⟨w.heap.size + 1, 0, none⟩ = some (.bool nb) := (Env.at_ E1.out 0 rfl).cell 0
  have q1_1 : W1.cell? ⟨w.heap.size + 1, 1, none⟩ = some (.string sb) := (Env.at_ E1.out 0 rfl).cell 1
  go_wp2_with fail
  refine (HL.out _).mono ?_
  rintro e w2 ⟨rfl, h2⟩
  have E3 := Lib.hid ((Env.other E1.out (.cells #[.bool na, .string sa, .bool nb, .string sb] 26)).call h2)
  clear q0_0 q0_1 q1_0 q1_1 h2
  go_upto_region 3 with fail
  have q0_0 : w2.cell? ⟨w.heap.size, 0, none⟩ = some (.bool na) := (Env.at_ E3.out 1 rfl).cell 0
  have q0_1 : w2.cell? ⟨w.heap.size, 1, none⟩ = some (.string sa) := (Env.at_ E3.out 1 rfl).cell 1
  have q1_0 : w2.cell? ⟨w.heap.size + 1, 0, none⟩ = some (.bool nb) := (Env.at_ E3.out 0 rfl).cell 0
  have q1_1 : w2.cell? ⟨w.heap.size + 1, 1, none⟩ = some (.string sb) := (Env.at_ E3.out 0 rfl).cell 1
  go_wp2_with fail
  refine (H21.out _).mono ?_
  rintro e w4 ⟨rfl, h4⟩
  have E5 := Lib.hid (E3.out.call h4)
  clear q0_0 q0_1 q1_0 q1_1 h4
  go_upto_region 4 with fail
  have E6 : Hid (Env w ((w4.alloc (.cells #[.bool sq, .string bq] 26)).alloc (.cells #[.bool sr, .string br] 26)) [(w4.heap.size + 1, 26, #[.bool sr, .string br]), (w4.heap.size, 26, #[.bool sq, .string bq]), (w.heap.size + 1, 26, #[.bool nb, .string sb]), (w.heap.size, 26, #[.bool na, .string sa])]) := Lib.hid (by have h := (Env.new (Env.new E5.out 26 #[.bool sq, .string bq]) 26 #[.bool sr, .string br]); (try simp only [World.size_alloc] at h); exact h)
  generalize ((w4.alloc (.cells #[.bool sq, .string bq] 26)).alloc (.cells #[.bool sr, .string br] 26)) = W6 at E6 ⊢
  have q0_0 : W6.cell? ⟨w.heap.size, 0, none⟩ = some (.bool na) := (Env.at_ E6.out 3 rfl).cell 0
  have q0_1 : W6.cell? ⟨w.heap.size, 1, none⟩ = some (.string sa) := (Env.at_ E6.out 3 rfl).cell 1
  go_wp2_with fail
  refine (H22.out _).mono ?_
  rintro e w7 ⟨rfl, h7⟩
  have E8 := Lib.hid (E6.out.call h7)
  clear q0_0 q0_1 h7
  go_upto_region 5 with fail
  have E9 : Hid (Env w (w7.alloc (.cells #[.bool false, .string ⟨#[]⟩] 26)) [(w7.heap.size, 26, #[.bool false, .string ⟨#[]⟩]), (w4.heap.size + 1, 26, #[.bool sr, .string br]), (w4.heap.size, 26, #[.bool sq, .string bq]), (w.heap.size + 1, 26, #[.bool nb, .string sb]), (w.heap.size, 26, #[.bool na, .string sa])]) := Lib.hid (by have h := (Env.new E8.out 26 #[.bool false, .string ⟨#[]⟩]); (try simp only [World.size_alloc] at h); exact h)
  generalize (w7.alloc (.cells #[.bool false, .string ⟨#[]⟩] 26)) = W9 at E9 ⊢
  have q0_0 : W9.cell? ⟨w.heap.size, 0, none⟩ = some (.bool na) := (Env.at_ E9.out 4 rfl).cell 0
  have q0_1 : W9.cell? ⟨w.heap.size, 1, none⟩ = some (.string sa) := (Env.at_ E9.out 4 rfl).cell 1
  go_wp2_with fail
  refine (HB1.out _).mono ?_
  rintro e w10 ⟨rfl, h10⟩
  have E11 := Lib.hid ((Env.other E9.out (.cells #[.bool na, .string sa] 26)).call h10)
  clear q0_0 q0_1 h10
  go_upto_region 8 with fail
  have q1_1 : w10.cell? ⟨w.heap.size, 1, none⟩ = some (.string sa) := (Env.at_ E11.out 4 rfl).cell 1
  go_upto_region 9 with fail
  clear q1_1
  have q0_0 : w10.cell? ⟨w7.heap.size, 0, none⟩ = some (.bool false) := (Env.at_ E11.out 0 rfl).cell 0
  have q0_1 : w10.cell? ⟨w7.heap.size, 1, none⟩ = some (.string ⟨#[]⟩) := (Env.at_ E11.out 0 rfl).cell 1
  go_wp2_with fail
  refine (HN.out _ 4).mono ?_
  rintro e w12 ⟨rfl, h12⟩
  subst h12
  have E13 := Lib.hid (E11.out)
  clear q0_0 q0_1
  go_upto_region 16 with fail
  have q0_0 : w10.cell? ⟨w.heap.size, 0, none⟩ = some (.bool na) := (Env.at_ E13.out 4 rfl).cell 0
  have q0_1 : w10.cell? ⟨w.heap.size, 1, none⟩ = some (.string sa) := (Env.at_ E13.out 4 rfl).cell 1
  have q1_0 : w10.cell? ⟨w.heap.size + 1, 0, none⟩ = some (.bool nb) := (Env.at_ E13.out 3 rfl).cell 0
  have q1_1 : w10.cell? ⟨w.heap.size + 1, 1, none⟩ = some (.string sb) := (Env.at_ E13.out 3 rfl).cell 1
  go_wp2_with fail
  refine (HB2.out _).mono ?_
  rintro e w14 ⟨rfl, h14⟩
  have E15 := Lib.hid ((Env.other E13.out (.cells #[.bool na, .string sa, .bool nb, .string sb] 26)).call h14)
  clear q0_0 q0_1 q1_0 q1_1 h14
  go_upto_region 18 with fail
  have q1_1 : w14.cell? ⟨w.heap.size + 1, 1, none⟩ = some (.string sb) := (Env.at_ E15.out 3 rfl).cell 1
  go_upto_region 20 with fail
  clear q1_1
  have q0_0 : w14.cell? ⟨w.heap.size, 0, none⟩ = some (.bool na) := (Env.at_ E15.out 4 rfl).cell 0
  have q0_1 : w14.cell? ⟨w.heap.size, 1, none⟩ = some (.string sa) := (Env.at_ E15.out 4 rfl).cell 1
  have q1_0 : w14.cell? ⟨w.heap.size + 1, 0, none⟩ = some (.bool nb) := (Env.at_ E15.out 3 rfl).cell 0
  have q1_1 : w14.cell? ⟨w.heap.size + 1, 1, none⟩ = some (.string sb) := (Env.at_ E15.out 3 rfl).cell 1
  go_wp2_with fail
  refine (H25.out _).mono ?_
  rintro e w16 ⟨rfl, h16⟩
  have E17 := Lib.hid (E15.out.call h16)
  clear q0_0 q0_1 q1_0 q1_1 h16
  go_upto_region 21 with fail
  have E18 : Hid (Env w ((w16.alloc (.cells #[.bool sq, .string bq] 26)).alloc (.cells #[.bool sr, .string br] 26)) [(w16.heap.size + 1, 26, #[.bool sr, .string br]), (w16.heap.size, 26, #[.bool sq, .string bq]), (w7.heap.size, 26, #[.bool false, .string ⟨#[]⟩]), (w4.heap.size + 1, 26, #[.bool sr, .string br]), (w4.heap.size, 26, #[.bool sq, .string bq]), (w.heap.size + 1, 26, #[.bool nb, .string sb]), (w.heap.size, 26, #[.bool na, .string sa])]) := Lib.hid (by have h := (Env.new (Env.new E17.out 26 #[.bool sq, .string bq]) 26 #[.bool sr, .string br]); (try simp only [World.size_alloc] at h); exact h)
  generalize ((w16.alloc (.cells #[.bool sq, .string bq] 26)).alloc (.cells #[.bool sr, .string br] 26)) = W18 at E18 ⊢
  have q0_0 : W18.cell? ⟨w4.heap.size, 0, none⟩ = some (.bool sq) := (Env.at_ E18.out 4 rfl).cell 0
  have q0_1 : W18.cell? ⟨w4.heap.size, 1, none⟩ = some (.string bq) := (Env.at_ E18.out 4 rfl).cell 1
  have q1_0 : W18.cell? ⟨w16.heap.size, 0, none⟩ = some (.bool sq) := (Env.at_ E18.out 1 rfl).cell 0
  have q1_1 : W18.cell? ⟨w16.heap.size, 1, none⟩ = some (.string bq) := (Env.at_ E18.out 1 rfl).cell 1
  have q4_0 : W18.cell? ⟨w4.heap.size + 1, 0, none⟩ = some (.bool sr) := (Env.at_ E18.out 3 rfl).cell 0
  have q4_1 : W18.cell? ⟨w4.heap.size + 1, 1, none⟩ = some (.string br) := (Env.at_ E18.out 3 rfl).cell 1
  have q5_0 : W18.cell? ⟨w16.heap.size + 1, 0, none⟩ = some (.bool sr) := (Env.at_ E18.out 0 rfl).cell 0
  have q5_1 : W18.cell? ⟨w16.heap.size + 1, 1, none⟩ = some (.string br) := (Env.at_ E18.out 0 rfl).cell 1
  go_wp2_with fail
  refine (HN.out _ 0).mono ?_
  rintro e w19 ⟨rfl, h19⟩
  subst h19
  have E20 := Lib.hid (E18.out)
  clear q0_0 q0_1 q1_0 q1_1 q4_0 q4_1 q5_0 q5_1
  go_wp2_with fail
  refine (HW.out _).mono ?_
  rintro e w21 ⟨rfl, h21⟩
  have E22 := Lib.hid (E20.out.call h21)
  clear h21
  go_wp2_with fail
  go_ret
  exact ⟨rfl, E22.out.1⟩
set_option maxRecDepth 100000 in
set_option maxHeartbeats 8000000 in
theorem divs_zero_bad {w : World} {nb : Bool} {sb : ByteArray} {n : Int} (hl : (isLong (false, ⟨#[]⟩) || isLong (nb, sb)) = false) (hn1 : -9223372036854775808 ≤ n) (hn2 : n ≤ 9223372036854775807) (hk : ¬ MayL nb sb.data.toList) :
    Calls Try.prog 4 #[.agg #[.bool false, .string ⟨#[]⟩], .agg #[.bool nb, .string sb], .int .i64 n] w (fun e w' => e = .returned (.bool true) ∧ Below w.heap.size w w') := by
  have HL := Lib.hid (fun W : World => long_two (w := W) (na := false) (nb := nb) (sa := ⟨#[]⟩) (sb := sb))
  rw [hl] at HL
  have HA := Lib.hid (fun W : World => arg_any (w := W))
  have HB1 := Lib.hid (fun W : World => bad_one (w := W) (na := false) (sa := ⟨#[]⟩))
  rw [show isBad (false, ⟨#[]⟩) = false from isBad_no.2 empty_may] at HB1
  have HB2 := Lib.hid (fun W : World => bad_two (w := W) (na := false) (nb := nb) (sa := ⟨#[]⟩) (sb := sb))
  rw [show (isBad (false, ⟨#[]⟩) || isBad (nb, sb)) = true from by rw [show isBad (nb, sb) = true from isBad_yes.2 hk, Bool.or_true]] at HB2
  have H21 := Lib.hid (fun W : World => div_bad (w := W) (na := false) (sa := ⟨#[]⟩) (nb := nb) (sb := sb) (fun h => hk h.2))
  have H22 := Lib.hid (fun W : World => shift_said (w := W) (n := n) empty_may hn1 (show _ = (0 : Int) by rw [num_zero]; exact shf_zero n) (fits_small (by decide)) enc_zero)
  clear hl hk
  have HW := Lib.hid (fun W : World => works_any (w := W))
  have HN := Lib.hid (fun (W : World) (n : Int) => num_any (w := W) (n := n))
  have E0 := Lib.hid (Env.nil w)
  go_enter Try.func4, Try.ntmps4
  go_upto_region 0 with fail
  go_upto_region 1 with fail
  have E1 : Hid (Env w ((w.alloc (.cells #[.bool false, .string ⟨#[]⟩] 26)).alloc (.cells #[.bool nb, .string sb] 26)) [(w.heap.size + 1, 26, #[.bool nb, .string sb]), (w.heap.size, 26, #[.bool false, .string ⟨#[]⟩])]) := Lib.hid (by have h := (Env.new (Env.new E0.out 26 #[.bool false, .string ⟨#[]⟩]) 26 #[.bool nb, .string sb]); (try simp only [World.size_alloc] at h); exact h)
  generalize ((w.alloc (.cells #[.bool false, .string ⟨#[]⟩] 26)).alloc (.cells #[.bool nb, .string sb] 26)) = W1 at E1 ⊢
  have q0_0 : W1.cell? ⟨w.heap.size, 0, none⟩ = some (.bool false) := (Env.at_ E1.out 1 rfl).cell 0
  have q0_1 : W1.cell? ⟨w.heap.size, 1, none⟩ = some (.string ⟨#[]⟩) := (Env.at_ E1.out 1 rfl).cell 1
  have q1_0 : W1.cell? ⟨w.heap.size + 1, 0, none⟩ = some (.bool nb) := (Env.at_ E1.out 0 rfl).cell 0
  have q1_1 : W1.cell? ⟨w.heap.size + 1, 1, none⟩ = some (.string sb) := (Env.at_ E1.out 0 rfl).cell 1
  go_wp2_with fail
  refine (HL.out _).mono ?_
  rintro e w2 ⟨rfl, h2⟩
  have E3 := Lib.hid ((Env.other E1.out (.cells #[.bool false, .string ⟨#[]⟩, .bool nb, .string sb] 26)).call h2)
  clear q0_0 q0_1 q1_0 q1_1 h2
  go_upto_region 3 with fail
  have q0_0 : w2.cell? ⟨w.heap.size, 0, none⟩ = some (.bool false) := (Env.at_ E3.out 1 rfl).cell 0
  have q0_1 : w2.cell? ⟨w.heap.size, 1, none⟩ = some (.string ⟨#[]⟩) := (Env.at_ E3.out 1 rfl).cell 1
  have q1_0 : w2.cell? ⟨w.heap.size + 1, 0, none⟩ = some (.bool nb) := (Env.at_ E3.out 0 rfl).cell 0
  have q1_1 : w2.cell? ⟨w.heap.size + 1, 1, none⟩ = some (.string sb) := (Env.at_ E3.out 0 rfl).cell 1
  go_wp2_with fail
  refine (H21.out _).mono ?_
  rintro e w4 ⟨rfl, h4⟩
  have E5 := Lib.hid (E3.out.call h4)
  clear q0_0 q0_1 q1_0 q1_1 h4
  go_upto_region 4 with fail
  have E6 : Hid (Env w ((w4.alloc (.cells #[.bool false, .string ⟨#[]⟩] 26)).alloc (.cells #[.bool false, .string ⟨#[]⟩] 26)) [(w4.heap.size + 1, 26, #[.bool false, .string ⟨#[]⟩]), (w4.heap.size, 26, #[.bool false, .string ⟨#[]⟩]), (w.heap.size + 1, 26, #[.bool nb, .string sb]), (w.heap.size, 26, #[.bool false, .string ⟨#[]⟩])]) := Lib.hid (by have h := (Env.new (Env.new E5.out 26 #[.bool false, .string ⟨#[]⟩]) 26 #[.bool false, .string ⟨#[]⟩]); (try simp only [World.size_alloc] at h); exact h)
  generalize ((w4.alloc (.cells #[.bool false, .string ⟨#[]⟩] 26)).alloc (.cells #[.bool false, .string ⟨#[]⟩] 26)) = W6 at E6 ⊢
  have q0_0 : W6.cell? ⟨w.heap.size, 0, none⟩ = some (.bool false) := (Env.at_ E6.out 3 rfl).cell 0
  have q0_1 : W6.cell? ⟨w.heap.size, 1, none⟩ = some (.string ⟨#[]⟩) := (Env.at_ E6.out 3 rfl).cell 1
  go_wp2_with fail
  refine (H22.out _).mono ?_
  rintro e w7 ⟨rfl, h7⟩
  have E8 := Lib.hid (E6.out.call h7)
  clear q0_0 q0_1 h7
  go_upto_region 5 with fail
  have E9 : Hid (Env w (w7.alloc (.cells #[.bool false, .string ⟨#[]⟩] 26)) [(w7.heap.size, 26, #[.bool false, .string ⟨#[]⟩]), (w4.heap.size + 1, 26, #[.bool false, .string ⟨#[]⟩]), (w4.heap.size, 26, #[.bool false, .string ⟨#[]⟩]), (w.heap.size + 1, 26, #[.bool nb, .string sb]), (w.heap.size, 26, #[.bool false, .string ⟨#[]⟩])]) := Lib.hid (by have h := (Env.new E8.out 26 #[.bool false, .string ⟨#[]⟩]); (try simp only [World.size_alloc] at h); exact h)
  generalize (w7.alloc (.cells #[.bool false, .string ⟨#[]⟩] 26)) = W9 at E9 ⊢
  have q0_0 : W9.cell? ⟨w.heap.size, 0, none⟩ = some (.bool false) := (Env.at_ E9.out 4 rfl).cell 0
  have q0_1 : W9.cell? ⟨w.heap.size, 1, none⟩ = some (.string ⟨#[]⟩) := (Env.at_ E9.out 4 rfl).cell 1
  go_wp2_with fail
  refine (HB1.out _).mono ?_
  rintro e w10 ⟨rfl, h10⟩
  have E11 := Lib.hid ((Env.other E9.out (.cells #[.bool false, .string ⟨#[]⟩] 26)).call h10)
  clear q0_0 q0_1 h10
  go_upto_region 8 with fail
  have q1_1 : w10.cell? ⟨w.heap.size, 1, none⟩ = some (.string ⟨#[]⟩) := (Env.at_ E11.out 4 rfl).cell 1
  go_upto_region 11 with fail
  clear q1_1
  have q1_1 : w10.cell? ⟨w.heap.size, 1, none⟩ = some (.string ⟨#[]⟩) := (Env.at_ E11.out 4 rfl).cell 1
  go_upto_region 12 with fail
  clear q1_1
  have q0_0 : w10.cell? ⟨w7.heap.size, 0, none⟩ = some (.bool false) := (Env.at_ E11.out 0 rfl).cell 0
  have q0_1 : w10.cell? ⟨w7.heap.size, 1, none⟩ = some (.string ⟨#[]⟩) := (Env.at_ E11.out 0 rfl).cell 1
  have q1_0 : w10.cell? ⟨w.heap.size, 0, none⟩ = some (.bool false) := (Env.at_ E11.out 4 rfl).cell 0
  have q1_1 : w10.cell? ⟨w.heap.size, 1, none⟩ = some (.string ⟨#[]⟩) := (Env.at_ E11.out 4 rfl).cell 1
  go_wp2_with fail
  refine (HN.out _ 0).mono ?_
  rintro e w12 ⟨rfl, h12⟩
  subst h12
  have E13 := Lib.hid (E11.out)
  clear q0_0 q0_1 q1_0 q1_1
  go_upto_region 16 with fail
  have q0_0 : w10.cell? ⟨w.heap.size, 0, none⟩ = some (.bool false) := (Env.at_ E13.out 4 rfl).cell 0
  have q0_1 : w10.cell? ⟨w.heap.size, 1, none⟩ = some (.string ⟨#[]⟩) := (Env.at_ E13.out 4 rfl).cell 1
  have q1_0 : w10.cell? ⟨w.heap.size + 1, 0, none⟩ = some (.bool nb) := (Env.at_ E13.out 3 rfl).cell 0
  have q1_1 : w10.cell? ⟨w.heap.size + 1, 1, none⟩ = some (.string sb) := (Env.at_ E13.out 3 rfl).cell 1
  go_wp2_with fail
  refine (HB2.out _).mono ?_
  rintro e w14 ⟨rfl, h14⟩
  have E15 := Lib.hid ((Env.other E13.out (.cells #[.bool false, .string ⟨#[]⟩, .bool nb, .string sb] 26)).call h14)
  clear q0_0 q0_1 q1_0 q1_1 h14
  go_upto_region 17 with fail
  have q0_0 : w14.cell? ⟨w4.heap.size, 0, none⟩ = some (.bool false) := (Env.at_ E15.out 2 rfl).cell 0
  have q0_1 : w14.cell? ⟨w4.heap.size, 1, none⟩ = some (.string ⟨#[]⟩) := (Env.at_ E15.out 2 rfl).cell 1
  go_wp2_with fail
  refine (HA.out _).mono ?_
  rintro e w16 ⟨rfl, h16⟩
  have E17 := Lib.hid (E15.out.call h16)
  clear q0_0 q0_1 h16
  have q4_0 : w16.cell? ⟨w4.heap.size + 1, 0, none⟩ = some (.bool false) := (Env.at_ E17.out 1 rfl).cell 0
  have q4_1 : w16.cell? ⟨w4.heap.size + 1, 1, none⟩ = some (.string ⟨#[]⟩) := (Env.at_ E17.out 1 rfl).cell 1
  go_wp2_with fail
  refine (HW.out _).mono ?_
  rintro e w18 ⟨rfl, h18⟩
  have E19 := Lib.hid (E17.out.call h18)
  clear q4_0 q4_1 h18
  go_wp2_with fail
  go_ret
  exact ⟨rfl, E19.out.1⟩
set_option maxRecDepth 100000 in
set_option maxHeartbeats 8000000 in
theorem divs_zero_bzero {w : World}  {n : Int} (hl : (isLong (false, ⟨#[]⟩) || isLong (false, ⟨#[]⟩)) = false) (hn1 : -9223372036854775808 ≤ n) (hn2 : n ≤ 9223372036854775807) :
    Calls Try.prog 4 #[.agg #[.bool false, .string ⟨#[]⟩], .agg #[.bool false, .string ⟨#[]⟩], .int .i64 n] w (fun e w' => e = .returned (.bool true) ∧ Below w.heap.size w w') := by
  have HL := Lib.hid (fun W : World => long_two (w := W) (na := false) (nb := false) (sa := ⟨#[]⟩) (sb := ⟨#[]⟩))
  rw [hl] at HL
  have HA := Lib.hid (fun W : World => arg_any (w := W))
  have HB1 := Lib.hid (fun W : World => bad_one (w := W) (na := false) (sa := ⟨#[]⟩))
  rw [show isBad (false, ⟨#[]⟩) = false from isBad_no.2 empty_may] at HB1
  have HB2 := Lib.hid (fun W : World => bad_two (w := W) (na := false) (nb := false) (sa := ⟨#[]⟩) (sb := ⟨#[]⟩))
  rw [show (isBad (false, ⟨#[]⟩) || isBad (false, ⟨#[]⟩)) = false from Bool.or_eq_false_iff.2 ⟨isBad_no.2 empty_may, isBad_no.2 empty_may⟩] at HB2
  have H21 := Lib.hid (fun W : World => div_nought (w := W) (na := false) (sa := ⟨#[]⟩) (And.intro empty_may empty_may) num_zero)
  have H22 := Lib.hid (fun W : World => shift_said (w := W) (n := n) empty_may hn1 (show _ = (0 : Int) by rw [num_zero]; exact shf_zero n) (fits_small (by decide)) enc_zero)
  clear hl
  have HW := Lib.hid (fun W : World => works_any (w := W))
  have HN := Lib.hid (fun (W : World) (n : Int) => num_any (w := W) (n := n))
  have E0 := Lib.hid (Env.nil w)
  go_enter Try.func4, Try.ntmps4
  go_upto_region 0 with fail
  go_upto_region 1 with fail
  have E1 : Hid (Env w ((w.alloc (.cells #[.bool false, .string ⟨#[]⟩] 26)).alloc (.cells #[.bool false, .string ⟨#[]⟩] 26)) [(w.heap.size + 1, 26, #[.bool false, .string ⟨#[]⟩]), (w.heap.size, 26, #[.bool false, .string ⟨#[]⟩])]) := Lib.hid (by have h := (Env.new (Env.new E0.out 26 #[.bool false, .string ⟨#[]⟩]) 26 #[.bool false, .string ⟨#[]⟩]); (try simp only [World.size_alloc] at h); exact h)
  generalize ((w.alloc (.cells #[.bool false, .string ⟨#[]⟩] 26)).alloc (.cells #[.bool false, .string ⟨#[]⟩] 26)) = W1 at E1 ⊢
  have q0_0 : W1.cell? ⟨w.heap.size, 0, none⟩ = some (.bool false) := (Env.at_ E1.out 1 rfl).cell 0
  have q0_1 : W1.cell? ⟨w.heap.size, 1, none⟩ = some (.string ⟨#[]⟩) := (Env.at_ E1.out 1 rfl).cell 1
  have q1_0 : W1.cell? ⟨w.heap.size + 1, 0, none⟩ = some (.bool false) := (Env.at_ E1.out 0 rfl).cell 0
  have q1_1 : W1.cell? ⟨w.heap.size + 1, 1, none⟩ = some (.string ⟨#[]⟩) := (Env.at_ E1.out 0 rfl).cell 1
  go_wp2_with fail
  refine (HL.out _).mono ?_
  rintro e w2 ⟨rfl, h2⟩
  have E3 := Lib.hid ((Env.other E1.out (.cells #[.bool false, .string ⟨#[]⟩, .bool false, .string ⟨#[]⟩] 26)).call h2)
  clear q0_0 q0_1 q1_0 q1_1 h2
  go_upto_region 3 with fail
  have q0_0 : w2.cell? ⟨w.heap.size, 0, none⟩ = some (.bool false) := (Env.at_ E3.out 1 rfl).cell 0
  have q0_1 : w2.cell? ⟨w.heap.size, 1, none⟩ = some (.string ⟨#[]⟩) := (Env.at_ E3.out 1 rfl).cell 1
  have q1_0 : w2.cell? ⟨w.heap.size + 1, 0, none⟩ = some (.bool false) := (Env.at_ E3.out 0 rfl).cell 0
  have q1_1 : w2.cell? ⟨w.heap.size + 1, 1, none⟩ = some (.string ⟨#[]⟩) := (Env.at_ E3.out 0 rfl).cell 1
  go_wp2_with fail
  refine (H21.out _).mono ?_
  rintro e w4 ⟨rfl, h4⟩
  have E5 := Lib.hid (E3.out.call h4)
  clear q0_0 q0_1 q1_0 q1_1 h4
  go_upto_region 4 with fail
  have E6 : Hid (Env w ((w4.alloc (.cells #[.bool false, .string ⟨#[]⟩] 26)).alloc (.cells #[.bool false, .string ⟨#[]⟩] 26)) [(w4.heap.size + 1, 26, #[.bool false, .string ⟨#[]⟩]), (w4.heap.size, 26, #[.bool false, .string ⟨#[]⟩]), (w.heap.size + 1, 26, #[.bool false, .string ⟨#[]⟩]), (w.heap.size, 26, #[.bool false, .string ⟨#[]⟩])]) := Lib.hid (by have h := (Env.new (Env.new E5.out 26 #[.bool false, .string ⟨#[]⟩]) 26 #[.bool false, .string ⟨#[]⟩]); (try simp only [World.size_alloc] at h); exact h)
  generalize ((w4.alloc (.cells #[.bool false, .string ⟨#[]⟩] 26)).alloc (.cells #[.bool false, .string ⟨#[]⟩] 26)) = W6 at E6 ⊢
  have q0_0 : W6.cell? ⟨w.heap.size, 0, none⟩ = some (.bool false) := (Env.at_ E6.out 3 rfl).cell 0
  have q0_1 : W6.cell? ⟨w.heap.size, 1, none⟩ = some (.string ⟨#[]⟩) := (Env.at_ E6.out 3 rfl).cell 1
  go_wp2_with fail
  refine (H22.out _).mono ?_
  rintro e w7 ⟨rfl, h7⟩
  have E8 := Lib.hid (E6.out.call h7)
  clear q0_0 q0_1 h7
  go_upto_region 5 with fail
  have E9 : Hid (Env w (w7.alloc (.cells #[.bool false, .string ⟨#[]⟩] 26)) [(w7.heap.size, 26, #[.bool false, .string ⟨#[]⟩]), (w4.heap.size + 1, 26, #[.bool false, .string ⟨#[]⟩]), (w4.heap.size, 26, #[.bool false, .string ⟨#[]⟩]), (w.heap.size + 1, 26, #[.bool false, .string ⟨#[]⟩]), (w.heap.size, 26, #[.bool false, .string ⟨#[]⟩])]) := Lib.hid (by have h := (Env.new E8.out 26 #[.bool false, .string ⟨#[]⟩]); (try simp only [World.size_alloc] at h); exact h)
  generalize (w7.alloc (.cells #[.bool false, .string ⟨#[]⟩] 26)) = W9 at E9 ⊢
  have q0_0 : W9.cell? ⟨w.heap.size, 0, none⟩ = some (.bool false) := (Env.at_ E9.out 4 rfl).cell 0
  have q0_1 : W9.cell? ⟨w.heap.size, 1, none⟩ = some (.string ⟨#[]⟩) := (Env.at_ E9.out 4 rfl).cell 1
  go_wp2_with fail
  refine (HB1.out _).mono ?_
  rintro e w10 ⟨rfl, h10⟩
  have E11 := Lib.hid ((Env.other E9.out (.cells #[.bool false, .string ⟨#[]⟩] 26)).call h10)
  clear q0_0 q0_1 h10
  go_upto_region 8 with fail
  have q1_1 : w10.cell? ⟨w.heap.size, 1, none⟩ = some (.string ⟨#[]⟩) := (Env.at_ E11.out 4 rfl).cell 1
  go_upto_region 11 with fail
  clear q1_1
  have q1_1 : w10.cell? ⟨w.heap.size, 1, none⟩ = some (.string ⟨#[]⟩) := (Env.at_ E11.out 4 rfl).cell 1
  go_upto_region 12 with fail
  clear q1_1
  have q0_0 : w10.cell? ⟨w7.heap.size, 0, none⟩ = some (.bool false) := (Env.at_ E11.out 0 rfl).cell 0
  have q0_1 : w10.cell? ⟨w7.heap.size, 1, none⟩ = some (.string ⟨#[]⟩) := (Env.at_ E11.out 0 rfl).cell 1
  have q1_0 : w10.cell? ⟨w.heap.size, 0, none⟩ = some (.bool false) := (Env.at_ E11.out 4 rfl).cell 0
  have q1_1 : w10.cell? ⟨w.heap.size, 1, none⟩ = some (.string ⟨#[]⟩) := (Env.at_ E11.out 4 rfl).cell 1
  go_wp2_with fail
  refine (HN.out _ 0).mono ?_
  rintro e w12 ⟨rfl, h12⟩
  subst h12
  have E13 := Lib.hid (E11.out)
  clear q0_0 q0_1 q1_0 q1_1
  go_upto_region 16 with fail
  have q0_0 : w10.cell? ⟨w.heap.size, 0, none⟩ = some (.bool false) := (Env.at_ E13.out 4 rfl).cell 0
  have q0_1 : w10.cell? ⟨w.heap.size, 1, none⟩ = some (.string ⟨#[]⟩) := (Env.at_ E13.out 4 rfl).cell 1
  have q1_0 : w10.cell? ⟨w.heap.size + 1, 0, none⟩ = some (.bool false) := (Env.at_ E13.out 3 rfl).cell 0
  have q1_1 : w10.cell? ⟨w.heap.size + 1, 1, none⟩ = some (.string ⟨#[]⟩) := (Env.at_ E13.out 3 rfl).cell 1
  go_wp2_with fail
  refine (HB2.out _).mono ?_
  rintro e w14 ⟨rfl, h14⟩
  have E15 := Lib.hid ((Env.other E13.out (.cells #[.bool false, .string ⟨#[]⟩, .bool false, .string ⟨#[]⟩] 26)).call h14)
  clear q0_0 q0_1 q1_0 q1_1 h14
  go_upto_region 18 with fail
  have q1_1 : w14.cell? ⟨w.heap.size + 1, 1, none⟩ = some (.string ⟨#[]⟩) := (Env.at_ E15.out 3 rfl).cell 1
  go_upto_region 19 with fail
  clear q1_1
  have q0_0 : w14.cell? ⟨w4.heap.size, 0, none⟩ = some (.bool false) := (Env.at_ E15.out 2 rfl).cell 0
  have q0_1 : w14.cell? ⟨w4.heap.size, 1, none⟩ = some (.string ⟨#[]⟩) := (Env.at_ E15.out 2 rfl).cell 1
  have q4_0 : w14.cell? ⟨w4.heap.size + 1, 0, none⟩ = some (.bool false) := (Env.at_ E15.out 1 rfl).cell 0
  have q4_1 : w14.cell? ⟨w4.heap.size + 1, 1, none⟩ = some (.string ⟨#[]⟩) := (Env.at_ E15.out 1 rfl).cell 1
  go_wp2_with fail
  refine (HN.out _ 5).mono ?_
  rintro e w16 ⟨rfl, h16⟩
  subst h16
  have E17 := Lib.hid (E15.out)
  clear q0_0 q0_1 q4_0 q4_1
  go_wp2_with fail
  refine (HW.out _).mono ?_
  rintro e w18 ⟨rfl, h18⟩
  have E19 := Lib.hid (E17.out.call h18)
  clear h18
  go_wp2_with fail
  go_ret
  exact ⟨rfl, E19.out.1⟩
set_option maxRecDepth 100000 in
set_option maxHeartbeats 8000000 in
theorem divs_zero_ok {w : World} {nb : Bool} {sb : ByteArray} {n : Int} (hl : (isLong (false, ⟨#[]⟩) || isLong (nb, sb)) = false) (hn1 : -9223372036854775808 ≤ n) (hn2 : n ≤ 9223372036854775807) (hk : MayL nb sb.data.toList) (h1 : 0 < sb.size) (hb : sb.size ≤ 400) :
    Calls Try.prog 4 #[.agg #[.bool false, .string ⟨#[]⟩], .agg #[.bool nb, .string sb], .int .i64 n] w (fun e w' => e = .returned (.bool true) ∧ Below w.heap.size w w') := by
  have HL := Lib.hid (fun W : World => long_two (w := W) (na := false) (nb := nb) (sa := ⟨#[]⟩) (sb := sb))
  rw [hl] at HL
  have HA := Lib.hid (fun W : World => arg_any (w := W))
  have HB1 := Lib.hid (fun W : World => bad_one (w := W) (na := false) (sa := ⟨#[]⟩))
  rw [show isBad (false, ⟨#[]⟩) = false from isBad_no.2 empty_may] at HB1
  have HB2 := Lib.hid (fun W : World => bad_two (w := W) (na := false) (nb := nb) (sa := ⟨#[]⟩) (sb := sb))
  rw [show (isBad (false, ⟨#[]⟩) || isBad (nb, sb)) = false from Bool.or_eq_false_iff.2 ⟨isBad_no.2 empty_may, isBad_no.2 hk⟩] at HB2
  have hy0 := num_posn hk h1
  have Sy := may_sb (n := nb) hb
  have Sx := may_sb (n := false) (s := ⟨#[]⟩) (k := 400) (by decide)
  have fq : fits (num (false, ⟨#[]⟩) / num (nb, sb)) := (Sx.le (Int.natAbs_ediv_le_natAbs _ _)).fits (by decide)
  obtain ⟨sq, bq, eq, nq, mq⟩ := enc_form fq
  have fr : fits (num (false, ⟨#[]⟩) % num (nb, sb)) := (Sy.le (rest_le hy0)).fits (by decide)
  obtain ⟨sr, br, er, nr, mr⟩ := enc_form fr
  have H21 := Lib.hid (fun W : World => div_told (w := W) (And.intro empty_may hk) hy0 rfl rfl eq er)
  have H25 := Lib.hid (fun W : World => calm_eq (rdivmod_any (w := W) (na := false) (sa := ⟨#[]⟩) (Fmd.of_may empty_may) (Fmd.of_may hk) (may_posn hk h1)) (show _ = Value.tuple #[.agg #[.bool sq, .string bq], .agg #[.bool sr, .string br]] by rw [eq, er]))
  have H22 := Lib.hid (fun W : World => shift_said (w := W) (n := n) empty_may hn1 (show _ = (0 : Int) by rw [num_zero]; exact shf_zero n) (fits_small (by decide)) enc_zero)
  have hzb := str_facts h1
  obtain ⟨z3, z4⟩ := hzb
  clear h1 hb
  clear hl hy0 Sy Sx fq eq nq mq fr er nr mr hk
  have HW := Lib.hid (fun W : World => works_any (w := W))
  have HN := Lib.hid (fun (W : World) (n : Int) => num_any (w := W) (n := n))
  have E0 := Lib.hid (Env.nil w)
  go_enter Try.func4, Try.ntmps4
  go_upto_region 0 with fail
  go_upto_region 1 with fail
  have E1 : Hid (Env w ((w.alloc (.cells #[.bool false, .string ⟨#[]⟩] 26)).alloc (.cells #[.bool nb, .string sb] 26)) [(w.heap.size + 1, 26, #[.bool nb, .string sb]), (w.heap.size, 26, #[.bool false, .string ⟨#[]⟩])]) := Lib.hid (by have h := (Env.new (Env.new E0.out 26 #[.bool false, .string ⟨#[]⟩]) 26 #[.bool nb, .string sb]); (try simp only [World.size_alloc] at h); exact h)
  generalize ((w.alloc (.cells #[.bool false, .string ⟨#[]⟩] 26)).alloc (.cells #[.bool nb, .string sb] 26)) = W1 at E1 ⊢
  have q0_0 : W1.cell? ⟨w.heap.size, 0, none⟩ = some (.bool false) := (Env.at_ E1.out 1 rfl).cell 0
  have q0_1 : W1.cell? ⟨w.heap.size, 1, none⟩ = some (.string ⟨#[]⟩) := (Env.at_ E1.out 1 rfl).cell 1
  have q1_0 : W1.cell? ⟨w.heap.size + 1, 0, none⟩ = some (.bool nb) := (Env.at_ E1.out 0 rfl).cell 0
  have q1_1 : W1.cell? ⟨w.heap.size + 1, 1, none⟩ = some (.string sb) := (Env.at_ E1.out 0 rfl).cell 1
  go_wp2_with fail
  refine (HL.out _).mono ?_
  rintro e w2 ⟨rfl, h2⟩
  have E3 := Lib.hid ((Env.other E1.out (.cells #[.bool false, .string ⟨#[]⟩, .bool nb, .string sb] 26)).call h2)
  clear q0_0 q0_1 q1_0 q1_1 h2
  go_upto_region 3 with fail
  have q0_0 : w2.cell? ⟨w.heap.size, 0, none⟩ = some (.bool false) := (Env.at_ E3.out 1 rfl).cell 0
  have q0_1 : w2.cell? ⟨w.heap.size, 1, none⟩ = some (.string ⟨#[]⟩) := (Env.at_ E3.out 1 rfl).cell 1
  have q1_0 : w2.cell? ⟨w.heap.size + 1, 0, none⟩ = some (.bool nb) := (Env.at_ E3.out 0 rfl).cell 0
  have q1_1 : w2.cell? ⟨w.heap.size + 1, 1, none⟩ = some (.string sb) := (Env.at_ E3.out 0 rfl).cell 1
  go_wp2_with fail
  refine (H21.out _).mono ?_
  rintro e w4 ⟨rfl, h4⟩
  have E5 := Lib.hid (E3.out.call h4)
  clear q0_0 q0_1 q1_0 q1_1 h4
  go_upto_region 4 with fail
  have E6 : Hid (Env w ((w4.alloc (.cells #[.bool sq, .string bq] 26)).alloc (.cells #[.bool sr, .string br] 26)) [(w4.heap.size + 1, 26, #[.bool sr, .string br]), (w4.heap.size, 26, #[.bool sq, .string bq]), (w.heap.size + 1, 26, #[.bool nb, .string sb]), (w.heap.size, 26, #[.bool false, .string ⟨#[]⟩])]) := Lib.hid (by have h := (Env.new (Env.new E5.out 26 #[.bool sq, .string bq]) 26 #[.bool sr, .string br]); (try simp only [World.size_alloc] at h); exact h)
  generalize ((w4.alloc (.cells #[.bool sq, .string bq] 26)).alloc (.cells #[.bool sr, .string br] 26)) = W6 at E6 ⊢
  have q0_0 : W6.cell? ⟨w.heap.size, 0, none⟩ = some (.bool false) := (Env.at_ E6.out 3 rfl).cell 0
  have q0_1 : W6.cell? ⟨w.heap.size, 1, none⟩ = some (.string ⟨#[]⟩) := (Env.at_ E6.out 3 rfl).cell 1
  go_wp2_with fail
  refine (H22.out _).mono ?_
  rintro e w7 ⟨rfl, h7⟩
  have E8 := Lib.hid (E6.out.call h7)
  clear q0_0 q0_1 h7
  go_upto_region 5 with fail
  have E9 : Hid (Env w (w7.alloc (.cells #[.bool false, .string ⟨#[]⟩] 26)) [(w7.heap.size, 26, #[.bool false, .string ⟨#[]⟩]), (w4.heap.size + 1, 26, #[.bool sr, .string br]), (w4.heap.size, 26, #[.bool sq, .string bq]), (w.heap.size + 1, 26, #[.bool nb, .string sb]), (w.heap.size, 26, #[.bool false, .string ⟨#[]⟩])]) := Lib.hid (by have h := (Env.new E8.out 26 #[.bool false, .string ⟨#[]⟩]); (try simp only [World.size_alloc] at h); exact h)
  generalize (w7.alloc (.cells #[.bool false, .string ⟨#[]⟩] 26)) = W9 at E9 ⊢
  have q0_0 : W9.cell? ⟨w.heap.size, 0, none⟩ = some (.bool false) := (Env.at_ E9.out 4 rfl).cell 0
  have q0_1 : W9.cell? ⟨w.heap.size, 1, none⟩ = some (.string ⟨#[]⟩) := (Env.at_ E9.out 4 rfl).cell 1
  go_wp2_with fail
  refine (HB1.out _).mono ?_
  rintro e w10 ⟨rfl, h10⟩
  have E11 := Lib.hid ((Env.other E9.out (.cells #[.bool false, .string ⟨#[]⟩] 26)).call h10)
  clear q0_0 q0_1 h10
  go_upto_region 8 with fail
  have q1_1 : w10.cell? ⟨w.heap.size, 1, none⟩ = some (.string ⟨#[]⟩) := (Env.at_ E11.out 4 rfl).cell 1
  go_upto_region 11 with fail
  clear q1_1
  have q1_1 : w10.cell? ⟨w.heap.size, 1, none⟩ = some (.string ⟨#[]⟩) := (Env.at_ E11.out 4 rfl).cell 1
  go_upto_region 12 with fail
  clear q1_1
  have q0_0 : w10.cell? ⟨w7.heap.size, 0, none⟩ = some (.bool false) := (Env.at_ E11.out 0 rfl).cell 0
  have q0_1 : w10.cell? ⟨w7.heap.size, 1, none⟩ = some (.string ⟨#[]⟩) := (Env.at_ E11.out 0 rfl).cell 1
  have q1_0 : w10.cell? ⟨w.heap.size, 0, none⟩ = some (.bool false) := (Env.at_ E11.out 4 rfl).cell 0
  have q1_1 : w10.cell? ⟨w.heap.size, 1, none⟩ = some (.string ⟨#[]⟩) := (Env.at_ E11.out 4 rfl).cell 1
  go_wp2_with fail
  refine (HN.out _ 0).mono ?_
  rintro e w12 ⟨rfl, h12⟩
  subst h12
  have E13 := Lib.hid (E11.out)
  clear q0_0 q0_1 q1_0 q1_1
  go_upto_region 16 with fail
  have q0_0 : w10.cell? ⟨w.heap.size, 0, none⟩ = some (.bool false) := (Env.at_ E13.out 4 rfl).cell 0
  have q0_1 : w10.cell? ⟨w.heap.size, 1, none⟩ = some (.string ⟨#[]⟩) := (Env.at_ E13.out 4 rfl).cell 1
  have q1_0 : w10.cell? ⟨w.heap.size + 1, 0, none⟩ = some (.bool nb) := (Env.at_ E13.out 3 rfl).cell 0
  have q1_1 : w10.cell? ⟨w.heap.size + 1, 1, none⟩ = some (.string sb) := (Env.at_ E13.out 3 rfl).cell 1
  go_wp2_with fail
  refine (HB2.out _).mono ?_
  rintro e w14 ⟨rfl, h14⟩
  have E15 := Lib.hid ((Env.other E13.out (.cells #[.bool false, .string ⟨#[]⟩, .bool nb, .string sb] 26)).call h14)
  clear q0_0 q0_1 q1_0 q1_1 h14
  go_upto_region 18 with fail
  have q1_1 : w14.cell? ⟨w.heap.size + 1, 1, none⟩ = some (.string sb) := (Env.at_ E15.out 3 rfl).cell 1
  go_upto_region 20 with fail
  clear q1_1
  have q0_0 : w14.cell? ⟨w.heap.size, 0, none⟩ = some (.bool false) := (Env.at_ E15.out 4 rfl).cell 0
  have q0_1 : w14.cell? ⟨w.heap.size, 1, none⟩ = some (.string ⟨#[]⟩) := (Env.at_ E15.out 4 rfl).cell 1
  have q1_0 : w14.cell? ⟨w.heap.size + 1, 0, none⟩ = some (.bool nb) := (Env.at_ E15.out 3 rfl).cell 0
  have q1_1 : w14.cell? ⟨w.heap.size + 1, 1, none⟩ = some (.string sb) := (Env.at_ E15.out 3 rfl).cell 1
  go_wp2_with fail
  refine (H25.out _).mono ?_
  rintro e w16 ⟨rfl, h16⟩
  have E17 := Lib.hid (E15.out.call h16)
  clear q0_0 q0_1 q1_0 q1_1 h16
  go_upto_region 21 with fail
  have E18 : Hid (Env w ((w16.alloc (.cells #[.bool sq, .string bq] 26)).alloc (.cells #[.bool sr, .string br] 26)) [(w16.heap.size + 1, 26, #[.bool sr, .string br]), (w16.heap.size, 26, #[.bool sq, .string bq]), (w7.heap.size, 26, #[.bool false, .string ⟨#[]⟩]), (w4.heap.size + 1, 26, #[.bool sr, .string br]), (w4.heap.size, 26, #[.bool sq, .string bq]), (w.heap.size + 1, 26, #[.bool nb, .string sb]), (w.heap.size, 26, #[.bool false, .string ⟨#[]⟩])]) := Lib.hid (by have h := (Env.new (Env.new E17.out 26 #[.bool sq, .string bq]) 26 #[.bool sr, .string br]); (try simp only [World.size_alloc] at h); exact h)
  generalize ((w16.alloc (.cells #[.bool sq, .string bq] 26)).alloc (.cells #[.bool sr, .string br] 26)) = W18 at E18 ⊢
  have q0_0 : W18.cell? ⟨w4.heap.size, 0, none⟩ = some (.bool sq) := (Env.at_ E18.out 4 rfl).cell 0
  have q0_1 : W18.cell? ⟨w4.heap.size, 1, none⟩ = some (.string bq) := (Env.at_ E18.out 4 rfl).cell 1
  have q1_0 : W18.cell? ⟨w16.heap.size, 0, none⟩ = some (.bool sq) := (Env.at_ E18.out 1 rfl).cell 0
  have q1_1 : W18.cell? ⟨w16.heap.size, 1, none⟩ = some (.string bq) := (Env.at_ E18.out 1 rfl).cell 1
  have q4_0 : W18.cell? ⟨w4.heap.size + 1, 0, none⟩ = some (.bool sr) := (Env.at_ E18.out 3 rfl).cell 0
  have q4_1 : W18.cell? ⟨w4.heap.size + 1, 1, none⟩ = some (.string br) := (Env.at_ E18.out 3 rfl).cell 1
  have q5_0 : W18.cell? ⟨w16.heap.size + 1, 0, none⟩ = some (.bool sr) := (Env.at_ E18.out 0 rfl).cell 0
  have q5_1 : W18.cell? ⟨w16.heap.size + 1, 1, none⟩ = some (.string br) := (Env.at_ E18.out 0 rfl).cell 1
  go_wp2_with fail
  refine (HN.out _ 0).mono ?_
  rintro e w19 ⟨rfl, h19⟩
  subst h19
  have E20 := Lib.hid (E18.out)
  clear q0_0 q0_1 q1_0 q1_1 q4_0 q4_1 q5_0 q5_1
  go_wp2_with fail
  refine (HW.out _).mono ?_
  rintro e w21 ⟨rfl, h21⟩
  have E22 := Lib.hid (E20.out.call h21)
  clear h21
  go_wp2_with fail
  go_ret
  exact ⟨rfl, E22.out.1⟩
set_option maxRecDepth 100000 in
set_option maxHeartbeats 8000000 in
theorem divs_yes_bad {w : World} {nb : Bool} {sb : ByteArray}{na : Bool} {sa : ByteArray} {n : Int} (hl : (isLong (na, sa) || isLong (nb, sb)) = false) (hn1 : -9223372036854775808 ≤ n) (hn2 : n ≤ 9223372036854775807) (hm : MayL na sa.data.toList) (h0 : 0 < sa.size) (ha : sa.size ≤ 400) (hnn : n ≤ 131072) (hf : fits (shf (num (na, sa)) n)) (hk : ¬ MayL nb sb.data.toList) :
    Calls Try.prog 4 #[.agg #[.bool na, .string sa], .agg #[.bool nb, .string sb], .int .i64 n] w (fun e w' => e = .returned (.bool true) ∧ Below w.heap.size w w') := by
  have HL := Lib.hid (fun W : World => long_two (w := W) (na := na) (nb := nb) (sa := sa) (sb := sb))
  rw [hl] at HL
  have HA := Lib.hid (fun W : World => arg_any (w := W))
  have HB1 := Lib.hid (fun W : World => bad_one (w := W) (na := na) (sa := sa))
  rw [show isBad (na, sa) = false from isBad_no.2 hm] at HB1
  have HB2 := Lib.hid (fun W : World => bad_two (w := W) (na := na) (nb := nb) (sa := sa) (sb := sb))
  rw [show (isBad (na, sa) || isBad (nb, sb)) = true from by rw [show isBad (nb, sb) = true from isBad_yes.2 hk, Bool.or_true]] at HB2
  have H21 := Lib.hid (fun W : World => div_bad (w := W) (na := na) (sa := sa) (nb := nb) (sb := sb) (fun h => hk h.2))
  obtain ⟨ss, bs, es, ns, ms⟩ := enc_form hf
  have H22 := Lib.hid (fun W : World => shift_said (w := W) hm hn1 rfl hf es)
  have H20 := Lib.hid (fun W : World => is_yes (w := W) hf es)
  have H24 := Lib.hid (fun W : World => calm_eq (rshift_any (w := W) (na := na) (sa := sa) (Fmd.of_may hm) (by omega) hnn) es)
  have hz := str_facts h0
  obtain ⟨z1, z2⟩ := hz
  clear ha h0
  clear hl ns ms es hf hm hk
  have HW := Lib.hid (fun W : World => works_any (w := W))
  have HN := Lib.hid (fun (W : World) (n : Int) => num_any (w := W) (n := n))
  have E0 := Lib.hid (Env.nil w)
  go_enter Try.func4, Try.ntmps4
  go_upto_region 0 with fail
  go_upto_region 1 with fail
  have E1 : Hid (Env w ((w.alloc (.cells #[.bool na, .string sa] 26)).alloc (.cells #[.bool nb, .string sb] 26)) [(w.heap.size + 1, 26, #[.bool nb, .string sb]), (w.heap.size, 26, #[.bool na, .string sa])]) := Lib.hid (by have h := (Env.new (Env.new E0.out 26 #[.bool na, .string sa]) 26 #[.bool nb, .string sb]); (try simp only [World.size_alloc] at h); exact h)
  generalize ((w.alloc (.cells #[.bool na, .string sa] 26)).alloc (.cells #[.bool nb, .string sb] 26)) = W1 at E1 ⊢
  have q0_0 : W1.cell? ⟨w.heap.size, 0, none⟩ = some (.bool na) := (Env.at_ E1.out 1 rfl).cell 0
  have q0_1 : W1.cell? ⟨w.heap.size, 1, none⟩ = some (.string sa) := (Env.at_ E1.out 1 rfl).cell 1
  have q1_0 : W1.cell? ⟨w.heap.size + 1, 0, none⟩ = some (.bool nb) := (Env.at_ E1.out 0 rfl).cell 0
  have q1_1 : W1.cell? ⟨w.heap.size + 1, 1, none⟩ = some (.string sb) := (Env.at_ E1.out 0 rfl).cell 1
  go_wp2_with fail
  refine (HL.out _).mono ?_
  rintro e w2 ⟨rfl, h2⟩
  have E3 := Lib.hid ((Env.other E1.out (.cells #[.bool na, .string sa, .bool nb, .string sb] 26)).call h2)
  clear q0_0 q0_1 q1_0 q1_1 h2
  go_upto_region 3 with fail
  have q0_0 : w2.cell? ⟨w.heap.size, 0, none⟩ = some (.bool na) := (Env.at_ E3.out 1 rfl).cell 0
  have q0_1 : w2.cell? ⟨w.heap.size, 1, none⟩ = some (.string sa) := (Env.at_ E3.out 1 rfl).cell 1
  have q1_0 : w2.cell? ⟨w.heap.size + 1, 0, none⟩ = some (.bool nb) := (Env.at_ E3.out 0 rfl).cell 0
  have q1_1 : w2.cell? ⟨w.heap.size + 1, 1, none⟩ = some (.string sb) := (Env.at_ E3.out 0 rfl).cell 1
  go_wp2_with fail
  refine (H21.out _).mono ?_
  rintro e w4 ⟨rfl, h4⟩
  have E5 := Lib.hid (E3.out.call h4)
  clear q0_0 q0_1 q1_0 q1_1 h4
  go_upto_region 4 with fail
  have E6 : Hid (Env w ((w4.alloc (.cells #[.bool false, .string ⟨#[]⟩] 26)).alloc (.cells #[.bool false, .string ⟨#[]⟩] 26)) [(w4.heap.size + 1, 26, #[.bool false, .string ⟨#[]⟩]), (w4.heap.size, 26, #[.bool false, .string ⟨#[]⟩]), (w.heap.size + 1, 26, #[.bool nb, .string sb]), (w.heap.size, 26, #[.bool na, .string sa])]) := Lib.hid (by have h := (Env.new (Env.new E5.out 26 #[.bool false, .string ⟨#[]⟩]) 26 #[.bool false, .string ⟨#[]⟩]); (try simp only [World.size_alloc] at h); exact h)
  generalize ((w4.alloc (.cells #[.bool false, .string ⟨#[]⟩] 26)).alloc (.cells #[.bool false, .string ⟨#[]⟩] 26)) = W6 at E6 ⊢
  have q0_0 : W6.cell? ⟨w.heap.size, 0, none⟩ = some (.bool na) := (Env.at_ E6.out 3 rfl).cell 0
  have q0_1 : W6.cell? ⟨w.heap.size, 1, none⟩ = some (.string sa) := (Env.at_ E6.out 3 rfl).cell 1
  go_wp2_with fail
  refine (H22.out _).mono ?_
  rintro e w7 ⟨rfl, h7⟩
  have E8 := Lib.hid (E6.out.call h7)
  clear q0_0 q0_1 h7
  go_upto_region 5 with fail
  have E9 : Hid (Env w (w7.alloc (.cells #[.bool ss, .string bs] 26)) [(w7.heap.size, 26, #[.bool ss, .string bs]), (w4.heap.size + 1, 26, #[.bool false, .string ⟨#[]⟩]), (w4.heap.size, 26, #[.bool false, .string ⟨#[]⟩]), (w.heap.size + 1, 26, #[.bool nb, .string sb]), (w.heap.size, 26, #[.bool na, .string sa])]) := Lib.hid (by have h := (Env.new E8.out 26 #[.bool ss, .string bs]); (try simp only [World.size_alloc] at h); exact h)
  generalize (w7.alloc (.cells #[.bool ss, .string bs] 26)) = W9 at E9 ⊢
  have q0_0 : W9.cell? ⟨w.heap.size, 0, none⟩ = some (.bool na) := (Env.at_ E9.out 4 rfl).cell 0
  have q0_1 : W9.cell? ⟨w.heap.size, 1, none⟩ = some (.string sa) := (Env.at_ E9.out 4 rfl).cell 1
  go_wp2_with fail
  refine (HB1.out _).mono ?_
  rintro e w10 ⟨rfl, h10⟩
  have E11 := Lib.hid ((Env.other E9.out (.cells #[.bool na, .string sa] 26)).call h10)
  clear q0_0 q0_1 h10
  go_upto_region 8 with fail
  have q1_1 : w10.cell? ⟨w.heap.size, 1, none⟩ = some (.string sa) := (Env.at_ E11.out 4 rfl).cell 1
  go_upto_region 11 with fail
  clear q1_1
  have q1_1 : w10.cell? ⟨w.heap.size, 1, none⟩ = some (.string sa) := (Env.at_ E11.out 4 rfl).cell 1
  go_upto_region 14 with fail
  clear q1_1
  skip
  refine wp_region_noPanic ?_
  refine wp_region_held_drew (S := fun w' => Env w w' [(w7.heap.size, 26, #[.bool ss, .string bs]), (w4.heap.size + 1, 26, #[.bool false, .string ⟨#[]⟩]), (w4.heap.size, 26, #[.bool false, .string ⟨#[]⟩]), (w.heap.size + 1, 26, #[.bool nb, .string sb]), (w.heap.size, 26, #[.bool na, .string sa])]) (by kernel_rfl) (Env.drew E11.out) (fun hHeld => ?_)
  refine wpAnyH_take (i := 0) (oi := Oper.mk (some 69) _ _ _ _ _) (v := ?_) rfl (by kernel_rfl) (by kernel_rfl) (by kernel_rfl) (fun _ _ _ h => h) (Or.inl ⟨by rfl, ?_⟩) (by assumption) ?_
  rotate_left
  · (intro w' hSw; (try dsimp only at hSw); have a0 : w'.cell? ⟨w7.heap.size, 0, none⟩ = some (.bool ss) := (Env.at_ hSw 0 rfl).cell 0; have a1 : w'.cell? ⟨w7.heap.size, 1, none⟩ = some (.string bs) := (Env.at_ hSw 0 rfl).cell 1; go_simp; try with_reducible rfl)
  try simp only [Act.put, List.setIfInBounds_toArray, List.set_cons_zero, List.set_cons_succ]
  refine wpAnyH_take (i := 1) (oi := Oper.mk (some 70) _ _ _ _ _) (v := ?_) rfl (by kernel_rfl) (by kernel_rfl) (by kernel_rfl) (fun _ _ _ h => h) (Or.inl ⟨by rfl, ?_⟩) (by assumption) ?_
  rotate_left
  · (intro w' hSw; (try dsimp only at hSw); go_simp; try with_reducible rfl)
  try simp only [Act.put, List.setIfInBounds_toArray, List.set_cons_zero, List.set_cons_succ]
  refine wpAnyH_take (i := 2) (oi := Oper.mk (some 71) _ _ _ _ _) (v := ?_) rfl (by kernel_rfl) (by kernel_rfl) (by kernel_rfl) (fun _ _ _ h => h) (Or.inl ⟨by rfl, ?_⟩) (by assumption) ?_
  rotate_left
  · (intro w' hSw; (try dsimp only at hSw); have a0 : w'.cell? ⟨w.heap.size, 0, none⟩ = some (.bool na) := (Env.at_ hSw 4 rfl).cell 0; have a1 : w'.cell? ⟨w.heap.size, 1, none⟩ = some (.string sa) := (Env.at_ hSw 4 rfl).cell 1; go_simp; try with_reducible rfl)
  try simp only [Act.put, List.setIfInBounds_toArray, List.set_cons_zero, List.set_cons_succ]
  refine wpAnyH_take (i := 3) (oi := Oper.mk (some 72) _ _ _ _ _) (v := ?_) rfl (by kernel_rfl) (by kernel_rfl) (by kernel_rfl) (fun _ _ _ h => h) (Or.inl ⟨by rfl, ?_⟩) (by assumption) ?_
  rotate_left
  · (intro w' hSw; (try dsimp only at hSw); go_simp; try with_reducible rfl)
  try simp only [Act.put, List.setIfInBounds_toArray, List.set_cons_zero, List.set_cons_succ]
  refine wpAnyH_ready (rs := [4]) (by kernel_rfl) (by simp) ?_
  refine AllReadyH.cons (o := Oper.mk (some 73) _ _ _ _ _) rfl (fun K hK => ?_) AllReadyH.nil
  go_simp
  refine (H24.out _).mono ?_
  rintro e w12 ⟨rfl, h12⟩
  have hNext := hHeld.call h12
  refine hK.out _ _ hNext (fun _ => ?_)
  clear hK K hHeld h12
  have hHeld := hNext
  clear hNext
  try simp only [Act.put, List.setIfInBounds_toArray, List.set_cons_zero, List.set_cons_succ]
  refine wpAnyH_ready (rs := [5]) (by kernel_rfl) (by simp) ?_
  refine AllReadyH.cons (o := Oper.mk (some 74) _ _ _ _ _) rfl (fun K hK => ?_) AllReadyH.nil
  go_simp
  refine (H20.out _).mono ?_
  rintro e w13 ⟨rfl, h13⟩
  have hNext := hHeld.call h13
  refine hK.out _ _ hNext (fun _ => ?_)
  clear hK K hHeld h13
  have hHeld := hNext
  clear hNext
  try simp only [Act.put, List.setIfInBounds_toArray, List.set_cons_zero, List.set_cons_succ]
  refine wpAnyH_take (i := 6) (oi := Oper.mk (some 75) _ _ _ _ _) (v := ?_) rfl (by kernel_rfl) (by kernel_rfl) (by kernel_rfl) (fun _ _ _ h => h) (Or.inl ⟨by rfl, ?_⟩) (by assumption) ?_
  rotate_left
  · (intro w' hSw; (try dsimp only at hSw); go_simp; try with_reducible rfl)
  try simp only [Act.put, List.setIfInBounds_toArray, List.set_cons_zero, List.set_cons_succ]
  refine wpAnyH_take (i := 7) (oi := Oper.mk (some 68) _ _ _ _ _) (v := ?_) rfl (by kernel_rfl) (by kernel_rfl) (by kernel_rfl) (fun _ _ _ h => h) (Or.inl ⟨by rfl, ?_⟩) (by assumption) ?_
  rotate_left
  · (intro w' hSw; (try dsimp only at hSw); go_simp; try with_reducible rfl)
  try simp only [Act.put, List.setIfInBounds_toArray, List.set_cons_zero, List.set_cons_succ]
  refine wpAnyH_done (by kernel_rfl) ?_ _
  refine NoPanic.normal ?_
  have E14 := Lib.hid hHeld
  clear hHeld
  go_upto_region 16 with fail
  have q0_0 : w13.cell? ⟨w.heap.size, 0, none⟩ = some (.bool na) := (Env.at_ E14.out 4 rfl).cell 0
  have q0_1 : w13.cell? ⟨w.heap.size, 1, none⟩ = some (.string sa) := (Env.at_ E14.out 4 rfl).cell 1
  have q1_0 : w13.cell? ⟨w.heap.size + 1, 0, none⟩ = some (.bool nb) := (Env.at_ E14.out 3 rfl).cell 0
  have q1_1 : w13.cell? ⟨w.heap.size + 1, 1, none⟩ = some (.string sb) := (Env.at_ E14.out 3 rfl).cell 1
  go_wp2_with fail
  refine (HB2.out _).mono ?_
  rintro e w15 ⟨rfl, h15⟩
  have E16 := Lib.hid ((Env.other E14.out (.cells #[.bool na, .string sa, .bool nb, .string sb] 26)).call h15)
  clear q0_0 q0_1 q1_0 q1_1 h15
  go_upto_region 17 with fail
  have q0_0 : w15.cell? ⟨w4.heap.size, 0, none⟩ = some (.bool false) := (Env.at_ E16.out 2 rfl).cell 0
  have q0_1 : w15.cell? ⟨w4.heap.size, 1, none⟩ = some (.string ⟨#[]⟩) := (Env.at_ E16.out 2 rfl).cell 1
  go_wp2_with fail
  refine (HA.out _).mono ?_
  rintro e w17 ⟨rfl, h17⟩
  have E18 := Lib.hid (E16.out.call h17)
  clear q0_0 q0_1 h17
  have q4_0 : w17.cell? ⟨w4.heap.size + 1, 0, none⟩ = some (.bool false) := (Env.at_ E18.out 1 rfl).cell 0
  have q4_1 : w17.cell? ⟨w4.heap.size + 1, 1, none⟩ = some (.string ⟨#[]⟩) := (Env.at_ E18.out 1 rfl).cell 1
  go_wp2_with fail
  refine (HW.out _).mono ?_
  rintro e w19 ⟨rfl, h19⟩
  have E20 := Lib.hid (E18.out.call h19)
  clear q4_0 q4_1 h19
  go_wp2_with fail
  go_ret
  exact ⟨rfl, E20.out.1⟩
set_option maxRecDepth 100000 in
set_option maxHeartbeats 8000000 in
theorem divs_yes_bzero {w : World} {na : Bool} {sa : ByteArray} {n : Int} (hl : (isLong (na, sa) || isLong (false, ⟨#[]⟩)) = false) (hn1 : -9223372036854775808 ≤ n) (hn2 : n ≤ 9223372036854775807) (hm : MayL na sa.data.toList) (h0 : 0 < sa.size) (ha : sa.size ≤ 400) (hnn : n ≤ 131072) (hf : fits (shf (num (na, sa)) n)) :
    Calls Try.prog 4 #[.agg #[.bool na, .string sa], .agg #[.bool false, .string ⟨#[]⟩], .int .i64 n] w (fun e w' => e = .returned (.bool true) ∧ Below w.heap.size w w') := by
  have HL := Lib.hid (fun W : World => long_two (w := W) (na := na) (nb := false) (sa := sa) (sb := ⟨#[]⟩))
  rw [hl] at HL
  have HA := Lib.hid (fun W : World => arg_any (w := W))
  have HB1 := Lib.hid (fun W : World => bad_one (w := W) (na := na) (sa := sa))
  rw [show isBad (na, sa) = false from isBad_no.2 hm] at HB1
  have HB2 := Lib.hid (fun W : World => bad_two (w := W) (na := na) (nb := false) (sa := sa) (sb := ⟨#[]⟩))
  rw [show (isBad (na, sa) || isBad (false, ⟨#[]⟩)) = false from Bool.or_eq_false_iff.2 ⟨isBad_no.2 hm, isBad_no.2 empty_may⟩] at HB2
  have H21 := Lib.hid (fun W : World => div_nought (w := W) (na := na) (sa := sa) (And.intro hm empty_may) num_zero)
  obtain ⟨ss, bs, es, ns, ms⟩ := enc_form hf
  have H22 := Lib.hid (fun W : World => shift_said (w := W) hm hn1 rfl hf es)
  have H20 := Lib.hid (fun W : World => is_yes (w := W) hf es)
  have H24 := Lib.hid (fun W : World => calm_eq (rshift_any (w := W) (na := na) (sa := sa) (Fmd.of_may hm) (by omega) hnn) es)
  have hz := str_facts h0
  obtain ⟨z1, z2⟩ := hz
  clear ha h0
  clear hl ns ms es hf hm
  have HW := Lib.hid (fun W : World => works_any (w := W))
  have HN := Lib.hid (fun (W : World) (n : Int) => num_any (w := W) (n := n))
  have E0 := Lib.hid (Env.nil w)
  go_enter Try.func4, Try.ntmps4
  go_upto_region 0 with fail
  go_upto_region 1 with fail
  have E1 : Hid (Env w ((w.alloc (.cells #[.bool na, .string sa] 26)).alloc (.cells #[.bool false, .string ⟨#[]⟩] 26)) [(w.heap.size + 1, 26, #[.bool false, .string ⟨#[]⟩]), (w.heap.size, 26, #[.bool na, .string sa])]) := Lib.hid (by have h := (Env.new (Env.new E0.out 26 #[.bool na, .string sa]) 26 #[.bool false, .string ⟨#[]⟩]); (try simp only [World.size_alloc] at h); exact h)
  generalize ((w.alloc (.cells #[.bool na, .string sa] 26)).alloc (.cells #[.bool false, .string ⟨#[]⟩] 26)) = W1 at E1 ⊢
  have q0_0 : W1.cell? ⟨w.heap.size, 0, none⟩ = some (.bool na) := (Env.at_ E1.out 1 rfl).cell 0
  have q0_1 : W1.cell? ⟨w.heap.size, 1, none⟩ = some (.string sa) := (Env.at_ E1.out 1 rfl).cell 1
  have q1_0 : W1.cell? ⟨w.heap.size + 1, 0, none⟩ = some (.bool false) := (Env.at_ E1.out 0 rfl).cell 0
  have q1_1 : W1.cell? ⟨w.heap.size + 1, 1, none⟩ = some (.string ⟨#[]⟩) := (Env.at_ E1.out 0 rfl).cell 1
  go_wp2_with fail
  refine (HL.out _).mono ?_
  rintro e w2 ⟨rfl, h2⟩
  have E3 := Lib.hid ((Env.other E1.out (.cells #[.bool na, .string sa, .bool false, .string ⟨#[]⟩] 26)).call h2)
  clear q0_0 q0_1 q1_0 q1_1 h2
  go_upto_region 3 with fail
  have q0_0 : w2.cell? ⟨w.heap.size, 0, none⟩ = some (.bool na) := (Env.at_ E3.out 1 rfl).cell 0
  have q0_1 : w2.cell? ⟨w.heap.size, 1, none⟩ = some (.string sa) := (Env.at_ E3.out 1 rfl).cell 1
  have q1_0 : w2.cell? ⟨w.heap.size + 1, 0, none⟩ = some (.bool false) := (Env.at_ E3.out 0 rfl).cell 0
  have q1_1 : w2.cell? ⟨w.heap.size + 1, 1, none⟩ = some (.string ⟨#[]⟩) := (Env.at_ E3.out 0 rfl).cell 1
  go_wp2_with fail
  refine (H21.out _).mono ?_
  rintro e w4 ⟨rfl, h4⟩
  have E5 := Lib.hid (E3.out.call h4)
  clear q0_0 q0_1 q1_0 q1_1 h4
  go_upto_region 4 with fail
  have E6 : Hid (Env w ((w4.alloc (.cells #[.bool false, .string ⟨#[]⟩] 26)).alloc (.cells #[.bool false, .string ⟨#[]⟩] 26)) [(w4.heap.size + 1, 26, #[.bool false, .string ⟨#[]⟩]), (w4.heap.size, 26, #[.bool false, .string ⟨#[]⟩]), (w.heap.size + 1, 26, #[.bool false, .string ⟨#[]⟩]), (w.heap.size, 26, #[.bool na, .string sa])]) := Lib.hid (by have h := (Env.new (Env.new E5.out 26 #[.bool false, .string ⟨#[]⟩]) 26 #[.bool false, .string ⟨#[]⟩]); (try simp only [World.size_alloc] at h); exact h)
  generalize ((w4.alloc (.cells #[.bool false, .string ⟨#[]⟩] 26)).alloc (.cells #[.bool false, .string ⟨#[]⟩] 26)) = W6 at E6 ⊢
  have q0_0 : W6.cell? ⟨w.heap.size, 0, none⟩ = some (.bool na) := (Env.at_ E6.out 3 rfl).cell 0
  have q0_1 : W6.cell? ⟨w.heap.size, 1, none⟩ = some (.string sa) := (Env.at_ E6.out 3 rfl).cell 1
  go_wp2_with fail
  refine (H22.out _).mono ?_
  rintro e w7 ⟨rfl, h7⟩
  have E8 := Lib.hid (E6.out.call h7)
  clear q0_0 q0_1 h7
  go_upto_region 5 with fail
  have E9 : Hid (Env w (w7.alloc (.cells #[.bool ss, .string bs] 26)) [(w7.heap.size, 26, #[.bool ss, .string bs]), (w4.heap.size + 1, 26, #[.bool false, .string ⟨#[]⟩]), (w4.heap.size, 26, #[.bool false, .string ⟨#[]⟩]), (w.heap.size + 1, 26, #[.bool false, .string ⟨#[]⟩]), (w.heap.size, 26, #[.bool na, .string sa])]) := Lib.hid (by have h := (Env.new E8.out 26 #[.bool ss, .string bs]); (try simp only [World.size_alloc] at h); exact h)
  generalize (w7.alloc (.cells #[.bool ss, .string bs] 26)) = W9 at E9 ⊢
  have q0_0 : W9.cell? ⟨w.heap.size, 0, none⟩ = some (.bool na) := (Env.at_ E9.out 4 rfl).cell 0
  have q0_1 : W9.cell? ⟨w.heap.size, 1, none⟩ = some (.string sa) := (Env.at_ E9.out 4 rfl).cell 1
  go_wp2_with fail
  refine (HB1.out _).mono ?_
  rintro e w10 ⟨rfl, h10⟩
  have E11 := Lib.hid ((Env.other E9.out (.cells #[.bool na, .string sa] 26)).call h10)
  clear q0_0 q0_1 h10
  go_upto_region 8 with fail
  have q1_1 : w10.cell? ⟨w.heap.size, 1, none⟩ = some (.string sa) := (Env.at_ E11.out 4 rfl).cell 1
  go_upto_region 11 with fail
  clear q1_1
  have q1_1 : w10.cell? ⟨w.heap.size, 1, none⟩ = some (.string sa) := (Env.at_ E11.out 4 rfl).cell 1
  go_upto_region 14 with fail
  clear q1_1
  skip
  refine wp_region_noPanic ?_
  refine wp_region_held_drew (S := fun w' => Env w w' [(w7.heap.size, 26, #[.bool ss, .string bs]), (w4.heap.size + 1, 26, #[.bool false, .string ⟨#[]⟩]), (w4.heap.size, 26, #[.bool false, .string ⟨#[]⟩]), (w.heap.size + 1, 26, #[.bool false, .string ⟨#[]⟩]), (w.heap.size, 26, #[.bool na, .string sa])]) (by kernel_rfl) (Env.drew E11.out) (fun hHeld => ?_)
  refine wpAnyH_take (i := 0) (oi := Oper.mk (some 69) _ _ _ _ _) (v := ?_) rfl (by kernel_rfl) (by kernel_rfl) (by kernel_rfl) (fun _ _ _ h => h) (Or.inl ⟨by rfl, ?_⟩) (by assumption) ?_
  rotate_left
  · (intro w' hSw; (try dsimp only at hSw); have a0 : w'.cell? ⟨w7.heap.size, 0, none⟩ = some (.bool ss) := (Env.at_ hSw 0 rfl).cell 0; have a1 : w'.cell? ⟨w7.heap.size, 1, none⟩ = some (.string bs) := (Env.at_ hSw 0 rfl).cell 1; go_simp; try with_reducible rfl)
  try simp only [Act.put, List.setIfInBounds_toArray, List.set_cons_zero, List.set_cons_succ]
  refine wpAnyH_take (i := 1) (oi := Oper.mk (some 70) _ _ _ _ _) (v := ?_) rfl (by kernel_rfl) (by kernel_rfl) (by kernel_rfl) (fun _ _ _ h => h) (Or.inl ⟨by rfl, ?_⟩) (by assumption) ?_
  rotate_left
  · (intro w' hSw; (try dsimp only at hSw); go_simp; try with_reducible rfl)
  try simp only [Act.put, List.setIfInBounds_toArray, List.set_cons_zero, List.set_cons_succ]
  refine wpAnyH_take (i := 2) (oi := Oper.mk (some 71) _ _ _ _ _) (v := ?_) rfl (by kernel_rfl) (by kernel_rfl) (by kernel_rfl) (fun _ _ _ h => h) (Or.inl ⟨by rfl, ?_⟩) (by assumption) ?_
  rotate_left
  · (intro w' hSw; (try dsimp only at hSw); have a0 : w'.cell? ⟨w.heap.size, 0, none⟩ = some (.bool na) := (Env.at_ hSw 4 rfl).cell 0; have a1 : w'.cell? ⟨w.heap.size, 1, none⟩ = some (.string sa) := (Env.at_ hSw 4 rfl).cell 1; go_simp; try with_reducible rfl)
  try simp only [Act.put, List.setIfInBounds_toArray, List.set_cons_zero, List.set_cons_succ]
  refine wpAnyH_take (i := 3) (oi := Oper.mk (some 72) _ _ _ _ _) (v := ?_) rfl (by kernel_rfl) (by kernel_rfl) (by kernel_rfl) (fun _ _ _ h => h) (Or.inl ⟨by rfl, ?_⟩) (by assumption) ?_
  rotate_left
  · (intro w' hSw; (try dsimp only at hSw); go_simp; try with_reducible rfl)
  try simp only [Act.put, List.setIfInBounds_toArray, List.set_cons_zero, List.set_cons_succ]
  refine wpAnyH_ready (rs := [4]) (by kernel_rfl) (by simp) ?_
  refine AllReadyH.cons (o := Oper.mk (some 73) _ _ _ _ _) rfl (fun K hK => ?_) AllReadyH.nil
  go_simp
  refine (H24.out _).mono ?_
  rintro e w12 ⟨rfl, h12⟩
  have hNext := hHeld.call h12
  refine hK.out _ _ hNext (fun _ => ?_)
  clear hK K hHeld h12
  have hHeld := hNext
  clear hNext
  try simp only [Act.put, List.setIfInBounds_toArray, List.set_cons_zero, List.set_cons_succ]
  refine wpAnyH_ready (rs := [5]) (by kernel_rfl) (by simp) ?_
  refine AllReadyH.cons (o := Oper.mk (some 74) _ _ _ _ _) rfl (fun K hK => ?_) AllReadyH.nil
  go_simp
  refine (H20.out _).mono ?_
  rintro e w13 ⟨rfl, h13⟩
  have hNext := hHeld.call h13
  refine hK.out _ _ hNext (fun _ => ?_)
  clear hK K hHeld h13
  have hHeld := hNext
  clear hNext
  try simp only [Act.put, List.setIfInBounds_toArray, List.set_cons_zero, List.set_cons_succ]
  refine wpAnyH_take (i := 6) (oi := Oper.mk (some 75) _ _ _ _ _) (v := ?_) rfl (by kernel_rfl) (by kernel_rfl) (by kernel_rfl) (fun _ _ _ h => h) (Or.inl ⟨by rfl, ?_⟩) (by assumption) ?_
  rotate_left
  · (intro w' hSw; (try dsimp only at hSw); go_simp; try with_reducible rfl)
  try simp only [Act.put, List.setIfInBounds_toArray, List.set_cons_zero, List.set_cons_succ]
  refine wpAnyH_take (i := 7) (oi := Oper.mk (some 68) _ _ _ _ _) (v := ?_) rfl (by kernel_rfl) (by kernel_rfl) (by kernel_rfl) (fun _ _ _ h => h) (Or.inl ⟨by rfl, ?_⟩) (by assumption) ?_
  rotate_left
  · (intro w' hSw; (try dsimp only at hSw); go_simp; try with_reducible rfl)
  try simp only [Act.put, List.setIfInBounds_toArray, List.set_cons_zero, List.set_cons_succ]
  refine wpAnyH_done (by kernel_rfl) ?_ _
  refine NoPanic.normal ?_
  have E14 := Lib.hid hHeld
  clear hHeld
  go_upto_region 16 with fail
  have q0_0 : w13.cell? ⟨w.heap.size, 0, none⟩ = some (.bool na) := (Env.at_ E14.out 4 rfl).cell 0
  have q0_1 : w13.cell? ⟨w.heap.size, 1, none⟩ = some (.string sa) := (Env.at_ E14.out 4 rfl).cell 1
  have q1_0 : w13.cell? ⟨w.heap.size + 1, 0, none⟩ = some (.bool false) := (Env.at_ E14.out 3 rfl).cell 0
  have q1_1 : w13.cell? ⟨w.heap.size + 1, 1, none⟩ = some (.string ⟨#[]⟩) := (Env.at_ E14.out 3 rfl).cell 1
  go_wp2_with fail
  refine (HB2.out _).mono ?_
  rintro e w15 ⟨rfl, h15⟩
  have E16 := Lib.hid ((Env.other E14.out (.cells #[.bool na, .string sa, .bool false, .string ⟨#[]⟩] 26)).call h15)
  clear q0_0 q0_1 q1_0 q1_1 h15
  go_upto_region 18 with fail
  have q1_1 : w15.cell? ⟨w.heap.size + 1, 1, none⟩ = some (.string ⟨#[]⟩) := (Env.at_ E16.out 3 rfl).cell 1
  go_upto_region 19 with fail
  clear q1_1
  have q0_0 : w15.cell? ⟨w4.heap.size, 0, none⟩ = some (.bool false) := (Env.at_ E16.out 2 rfl).cell 0
  have q0_1 : w15.cell? ⟨w4.heap.size, 1, none⟩ = some (.string ⟨#[]⟩) := (Env.at_ E16.out 2 rfl).cell 1
  have q4_0 : w15.cell? ⟨w4.heap.size + 1, 0, none⟩ = some (.bool false) := (Env.at_ E16.out 1 rfl).cell 0
  have q4_1 : w15.cell? ⟨w4.heap.size + 1, 1, none⟩ = some (.string ⟨#[]⟩) := (Env.at_ E16.out 1 rfl).cell 1
  go_wp2_with fail
  refine (HN.out _ 5).mono ?_
  rintro e w17 ⟨rfl, h17⟩
  subst h17
  have E18 := Lib.hid (E16.out)
  clear q0_0 q0_1 q4_0 q4_1
  go_wp2_with fail
  refine (HW.out _).mono ?_
  rintro e w19 ⟨rfl, h19⟩
  have E20 := Lib.hid (E18.out.call h19)
  clear h19
  go_wp2_with fail
  go_ret
  exact ⟨rfl, E20.out.1⟩
set_option maxRecDepth 100000 in
set_option maxHeartbeats 8000000 in
theorem divs_yes_ok {w : World} {nb : Bool} {sb : ByteArray}{na : Bool} {sa : ByteArray} {n : Int} (hl : (isLong (na, sa) || isLong (nb, sb)) = false) (hn1 : -9223372036854775808 ≤ n) (hn2 : n ≤ 9223372036854775807) (hm : MayL na sa.data.toList) (h0 : 0 < sa.size) (ha : sa.size ≤ 400) (hnn : n ≤ 131072) (hf : fits (shf (num (na, sa)) n)) (hk : MayL nb sb.data.toList) (h1 : 0 < sb.size) (hb : sb.size ≤ 400) :
    Calls Try.prog 4 #[.agg #[.bool na, .string sa], .agg #[.bool nb, .string sb], .int .i64 n] w (fun e w' => e = .returned (.bool true) ∧ Below w.heap.size w w') := by
  have HL := Lib.hid (fun W : World => long_two (w := W) (na := na) (nb := nb) (sa := sa) (sb := sb))
  rw [hl] at HL
  have HA := Lib.hid (fun W : World => arg_any (w := W))
  have HB1 := Lib.hid (fun W : World => bad_one (w := W) (na := na) (sa := sa))
  rw [show isBad (na, sa) = false from isBad_no.2 hm] at HB1
  have HB2 := Lib.hid (fun W : World => bad_two (w := W) (na := na) (nb := nb) (sa := sa) (sb := sb))
  rw [show (isBad (na, sa) || isBad (nb, sb)) = false from Bool.or_eq_false_iff.2 ⟨isBad_no.2 hm, isBad_no.2 hk⟩] at HB2
  have hy0 := num_posn hk h1
  have Sy := may_sb (n := nb) hb
  have Sx := may_sb (n := na) (s := sa) (k := 400) ha
  have fq : fits (num (na, sa) / num (nb, sb)) := (Sx.le (Int.natAbs_ediv_le_natAbs _ _)).fits (by decide)
  obtain ⟨sq, bq, eq, nq, mq⟩ := enc_form fq
  have fr : fits (num (na, sa) % num (nb, sb)) := (Sy.le (rest_le hy0)).fits (by decide)
  obtain ⟨sr, br, er, nr, mr⟩ := enc_form fr
  have H21 := Lib.hid (fun W : World => div_told (w := W) (And.intro hm hk) hy0 rfl rfl eq er)
  have H25 := Lib.hid (fun W : World => calm_eq (rdivmod_any (w := W) (na := na) (sa := sa) (Fmd.of_may hm) (Fmd.of_may hk) (may_posn hk h1)) (show _ = Value.tuple #[.agg #[.bool sq, .string bq], .agg #[.bool sr, .string br]] by rw [eq, er]))
  obtain ⟨ss, bs, es, ns, ms⟩ := enc_form hf
  have H22 := Lib.hid (fun W : World => shift_said (w := W) hm hn1 rfl hf es)
  have H20 := Lib.hid (fun W : World => is_yes (w := W) hf es)
  have H24 := Lib.hid (fun W : World => calm_eq (rshift_any (w := W) (na := na) (sa := sa) (Fmd.of_may hm) (by omega) hnn) es)
  have hz := str_facts h0
  obtain ⟨z1, z2⟩ := hz
  clear ha h0
  have hzb := str_facts h1
  obtain ⟨z3, z4⟩ := hzb
  clear h1 hb
  clear hl hy0 Sy Sx fq eq nq mq fr er nr mr ns ms es hf hm hk
  have HW := Lib.hid (fun W : World => works_any (w := W))
  have HN := Lib.hid (fun (W : World) (n : Int) => num_any (w := W) (n := n))
  have E0 := Lib.hid (Env.nil w)
  go_enter Try.func4, Try.ntmps4
  go_upto_region 0 with fail
  go_upto_region 1 with fail
  have E1 : Hid (Env w ((w.alloc (.cells #[.bool na, .string sa] 26)).alloc (.cells #[.bool nb, .string sb] 26)) [(w.heap.size + 1, 26, #[.bool nb, .string sb]), (w.heap.size, 26, #[.bool na, .string sa])]) := Lib.hid (by have h := (Env.new (Env.new E0.out 26 #[.bool na, .string sa]) 26 #[.bool nb, .string sb]); (try simp only [World.size_alloc] at h); exact h)
  generalize ((w.alloc (.cells #[.bool na, .string sa] 26)).alloc (.cells #[.bool nb, .string sb] 26)) = W1 at E1 ⊢
  have q0_0 : W1.cell? ⟨w.heap.size, 0, none⟩ = some (.bool na) := (Env.at_ E1.out 1 rfl).cell 0
  have q0_1 : W1.cell? ⟨w.heap.size, 1, none⟩ = some (.string sa) := (Env.at_ E1.out 1 rfl).cell 1
  have q1_0 : W1.cell? ⟨w.heap.size + 1, 0, none⟩ = some (.bool nb) := (Env.at_ E1.out 0 rfl).cell 0
  have q1_1 : W1.cell? ⟨w.heap.size + 1, 1, none⟩ = some (.string sb) := (Env.at_ E1.out 0 rfl).cell 1
  go_wp2_with fail
  refine (HL.out _).mono ?_
  rintro e w2 ⟨rfl, h2⟩
  have E3 := Lib.hid ((Env.other E1.out (.cells #[.bool na, .string sa, .bool nb, .string sb] 26)).call h2)
  clear q0_0 q0_1 q1_0 q1_1 h2
  go_upto_region 3 with fail
  have q0_0 : w2.cell? ⟨w.heap.size, 0, none⟩ = some (.bool na) := (Env.at_ E3.out 1 rfl).cell 0
  have q0_1 : w2.cell? ⟨w.heap.size, 1, none⟩ = some (.string sa) := (Env.at_ E3.out 1 rfl).cell 1
  have q1_0 : w2.cell? ⟨w.heap.size + 1, 0, none⟩ = some (.bool nb) := (Env.at_ E3.out 0 rfl).cell 0
  have q1_1 : w2.cell? ⟨w.heap.size + 1, 1, none⟩ = some (.string sb) := (Env.at_ E3.out 0 rfl).cell 1
  go_wp2_with fail
  refine (H21.out _).mono ?_
  rintro e w4 ⟨rfl, h4⟩
  have E5 := Lib.hid (E3.out.call h4)
  clear q0_0 q0_1 q1_0 q1_1 h4
  go_upto_region 4 with fail
  have E6 : Hid (Env w ((w4.alloc (.cells #[.bool sq, .string bq] 26)).alloc (.cells #[.bool sr, .string br] 26)) [(w4.heap.size + 1, 26, #[.bool sr, .string br]), (w4.heap.size, 26, #[.bool sq, .string bq]), (w.heap.size + 1, 26, #[.bool nb, .string sb]), (w.heap.size, 26, #[.bool na, .string sa])]) := Lib.hid (by have h := (Env.new (Env.new E5.out 26 #[.bool sq, .string bq]) 26 #[.bool sr, .string br]); (try simp only [World.size_alloc] at h); exact h)
  generalize ((w4.alloc (.cells #[.bool sq, .string bq] 26)).alloc (.cells #[.bool sr, .string br] 26)) = W6 at E6 ⊢
  have q0_0 : W6.cell? ⟨w.heap.size, 0, none⟩ = some (.bool na) := (Env.at_ E6.out 3 rfl).cell 0
  have q0_1 : W6.cell? ⟨w.heap.size, 1, none⟩ = some (.string sa) := (Env.at_ E6.out 3 rfl).cell 1
  go_wp2_with fail
  refine (H22.out _).mono ?_
  rintro e w7 ⟨rfl, h7⟩
  have E8 := Lib.hid (E6.out.call h7)
  clear q0_0 q0_1 h7
  go_upto_region 5 with fail
  have E9 : Hid (Env w (w7.alloc (.cells #[.bool ss, .string bs] 26)) [(w7.heap.size, 26, #[.bool ss, .string bs]), (w4.heap.size + 1, 26, #[.bool sr, .string br]), (w4.heap.size, 26, #[.bool sq, .string bq]), (w.heap.size + 1, 26, #[.bool nb, .string sb]), (w.heap.size, 26, #[.bool na, .string sa])]) := Lib.hid (by have h := (Env.new E8.out 26 #[.bool ss, .string bs]); (try simp only [World.size_alloc] at h); exact h)
  generalize (w7.alloc (.cells #[.bool ss, .string bs] 26)) = W9 at E9 ⊢
  have q0_0 : W9.cell? ⟨w.heap.size, 0, none⟩ = some (.bool na) := (Env.at_ E9.out 4 rfl).cell 0
  have q0_1 : W9.cell? ⟨w.heap.size, 1, none⟩ = some (.string sa) := (Env.at_ E9.out 4 rfl).cell 1
  go_wp2_with fail
  refine (HB1.out _).mono ?_
  rintro e w10 ⟨rfl, h10⟩
  have E11 := Lib.hid ((Env.other E9.out (.cells #[.bool na, .string sa] 26)).call h10)
  clear q0_0 q0_1 h10
  go_upto_region 8 with fail
  have q1_1 : w10.cell? ⟨w.heap.size, 1, none⟩ = some (.string sa) := (Env.at_ E11.out 4 rfl).cell 1
  go_upto_region 11 with fail
  clear q1_1
  have q1_1 : w10.cell? ⟨w.heap.size, 1, none⟩ = some (.string sa) := (Env.at_ E11.out 4 rfl).cell 1
  go_upto_region 14 with fail
  clear q1_1
  skip
  refine wp_region_noPanic ?_
  refine wp_region_held_drew (S := fun w' => Env w w' [(w7.heap.size, 26, #[.bool ss, .string bs]), (w4.heap.size + 1, 26, #[.bool sr, .string br]), (w4.heap.size, 26, #[.bool sq, .string bq]), (w.heap.size + 1, 26, #[.bool nb, .string sb]), (w.heap.size, 26, #[.bool na, .string sa])]) (by kernel_rfl) (Env.drew E11.out) (fun hHeld => ?_)
  refine wpAnyH_take (i := 0) (oi := Oper.mk (some 69) _ _ _ _ _) (v := ?_) rfl (by kernel_rfl) (by kernel_rfl) (by kernel_rfl) (fun _ _ _ h => h) (Or.inl ⟨by rfl, ?_⟩) (by assumption) ?_
  rotate_left
  · (intro w' hSw; (try dsimp only at hSw); have a0 : w'.cell? ⟨w7.heap.size, 0, none⟩ = some (.bool ss) := (Env.at_ hSw 0 rfl).cell 0; have a1 : w'.cell? ⟨w7.heap.size, 1, none⟩ = some (.string bs) := (Env.at_ hSw 0 rfl).cell 1; go_simp; try with_reducible rfl)
  try simp only [Act.put, List.setIfInBounds_toArray, List.set_cons_zero, List.set_cons_succ]
  refine wpAnyH_take (i := 1) (oi := Oper.mk (some 70) _ _ _ _ _) (v := ?_) rfl (by kernel_rfl) (by kernel_rfl) (by kernel_rfl) (fun _ _ _ h => h) (Or.inl ⟨by rfl, ?_⟩) (by assumption) ?_
  rotate_left
  · (intro w' hSw; (try dsimp only at hSw); go_simp; try with_reducible rfl)
  try simp only [Act.put, List.setIfInBounds_toArray, List.set_cons_zero, List.set_cons_succ]
  refine wpAnyH_take (i := 2) (oi := Oper.mk (some 71) _ _ _ _ _) (v := ?_) rfl (by kernel_rfl) (by kernel_rfl) (by kernel_rfl) (fun _ _ _ h => h) (Or.inl ⟨by rfl, ?_⟩) (by assumption) ?_
  rotate_left
  · (intro w' hSw; (try dsimp only at hSw); have a0 : w'.cell? ⟨w.heap.size, 0, none⟩ = some (.bool na) := (Env.at_ hSw 4 rfl).cell 0; have a1 : w'.cell? ⟨w.heap.size, 1, none⟩ = some (.string sa) := (Env.at_ hSw 4 rfl).cell 1; go_simp; try with_reducible rfl)
  try simp only [Act.put, List.setIfInBounds_toArray, List.set_cons_zero, List.set_cons_succ]
  refine wpAnyH_take (i := 3) (oi := Oper.mk (some 72) _ _ _ _ _) (v := ?_) rfl (by kernel_rfl) (by kernel_rfl) (by kernel_rfl) (fun _ _ _ h => h) (Or.inl ⟨by rfl, ?_⟩) (by assumption) ?_
  rotate_left
  · (intro w' hSw; (try dsimp only at hSw); go_simp; try with_reducible rfl)
  try simp only [Act.put, List.setIfInBounds_toArray, List.set_cons_zero, List.set_cons_succ]
  refine wpAnyH_ready (rs := [4]) (by kernel_rfl) (by simp) ?_
  refine AllReadyH.cons (o := Oper.mk (some 73) _ _ _ _ _) rfl (fun K hK => ?_) AllReadyH.nil
  go_simp
  refine (H24.out _).mono ?_
  rintro e w12 ⟨rfl, h12⟩
  have hNext := hHeld.call h12
  refine hK.out _ _ hNext (fun _ => ?_)
  clear hK K hHeld h12
  have hHeld := hNext
  clear hNext
  try simp only [Act.put, List.setIfInBounds_toArray, List.set_cons_zero, List.set_cons_succ]
  refine wpAnyH_ready (rs := [5]) (by kernel_rfl) (by simp) ?_
  refine AllReadyH.cons (o := Oper.mk (some 74) _ _ _ _ _) rfl (fun K hK => ?_) AllReadyH.nil
  go_simp
  refine (H20.out _).mono ?_
  rintro e w13 ⟨rfl, h13⟩
  have hNext := hHeld.call h13
  refine hK.out _ _ hNext (fun _ => ?_)
  clear hK K hHeld h13
  have hHeld := hNext
  clear hNext
  try simp only [Act.put, List.setIfInBounds_toArray, List.set_cons_zero, List.set_cons_succ]
  refine wpAnyH_take (i := 6) (oi := Oper.mk (some 75) _ _ _ _ _) (v := ?_) rfl (by kernel_rfl) (by kernel_rfl) (by kernel_rfl) (fun _ _ _ h => h) (Or.inl ⟨by rfl, ?_⟩) (by assumption) ?_
  rotate_left
  · (intro w' hSw; (try dsimp only at hSw); go_simp; try with_reducible rfl)
  try simp only [Act.put, List.setIfInBounds_toArray, List.set_cons_zero, List.set_cons_succ]
  refine wpAnyH_take (i := 7) (oi := Oper.mk (some 68) _ _ _ _ _) (v := ?_) rfl (by kernel_rfl) (by kernel_rfl) (by kernel_rfl) (fun _ _ _ h => h) (Or.inl ⟨by rfl, ?_⟩) (by assumption) ?_
  rotate_left
  · (intro w' hSw; (try dsimp only at hSw); go_simp; try with_reducible rfl)
  try simp only [Act.put, List.setIfInBounds_toArray, List.set_cons_zero, List.set_cons_succ]
  refine wpAnyH_done (by kernel_rfl) ?_ _
  refine NoPanic.normal ?_
  have E14 := Lib.hid hHeld
  clear hHeld
  go_upto_region 16 with fail
  have q0_0 : w13.cell? ⟨w.heap.size, 0, none⟩ = some (.bool na) := (Env.at_ E14.out 4 rfl).cell 0
  have q0_1 : w13.cell? ⟨w.heap.size, 1, none⟩ = some (.string sa) := (Env.at_ E14.out 4 rfl).cell 1
  have q1_0 : w13.cell? ⟨w.heap.size + 1, 0, none⟩ = some (.bool nb) := (Env.at_ E14.out 3 rfl).cell 0
  have q1_1 : w13.cell? ⟨w.heap.size + 1, 1, none⟩ = some (.string sb) := (Env.at_ E14.out 3 rfl).cell 1
  go_wp2_with fail
  refine (HB2.out _).mono ?_
  rintro e w15 ⟨rfl, h15⟩
  have E16 := Lib.hid ((Env.other E14.out (.cells #[.bool na, .string sa, .bool nb, .string sb] 26)).call h15)
  clear q0_0 q0_1 q1_0 q1_1 h15
  go_upto_region 18 with fail
  have q1_1 : w15.cell? ⟨w.heap.size + 1, 1, none⟩ = some (.string sb) := (Env.at_ E16.out 3 rfl).cell 1
  go_upto_region 20 with fail
  clear q1_1
  have q0_0 : w15.cell? ⟨w.heap.size, 0, none⟩ = some (.bool na) := (Env.at_ E16.out 4 rfl).cell 0
  have q0_1 : w15.cell? ⟨w.heap.size, 1, none⟩ = some (.string sa) := (Env.at_ E16.out 4 rfl).cell 1
  have q1_0 : w15.cell? ⟨w.heap.size + 1, 0, none⟩ = some (.bool nb) := (Env.at_ E16.out 3 rfl).cell 0
  have q1_1 : w15.cell? ⟨w.heap.size + 1, 1, none⟩ = some (.string sb) := (Env.at_ E16.out 3 rfl).cell 1
  go_wp2_with fail
  refine (H25.out _).mono ?_
  rintro e w17 ⟨rfl, h17⟩
  have E18 := Lib.hid (E16.out.call h17)
  clear q0_0 q0_1 q1_0 q1_1 h17
  go_upto_region 21 with fail
  have E19 : Hid (Env w ((w17.alloc (.cells #[.bool sq, .string bq] 26)).alloc (.cells #[.bool sr, .string br] 26)) [(w17.heap.size + 1, 26, #[.bool sr, .string br]), (w17.heap.size, 26, #[.bool sq, .string bq]), (w7.heap.size, 26, #[.bool ss, .string bs]), (w4.heap.size + 1, 26, #[.bool sr, .string br]), (w4.heap.size, 26, #[.bool sq, .string bq]), (w.heap.size + 1, 26, #[.bool nb, .string sb]), (w.heap.size, 26, #[.bool na, .string sa])]) := Lib.hid (by have h := (Env.new (Env.new E18.out 26 #[.bool sq, .string bq]) 26 #[.bool sr, .string br]); (try simp only [World.size_alloc] at h); exact h)
  generalize ((w17.alloc (.cells #[.bool sq, .string bq] 26)).alloc (.cells #[.bool sr, .string br] 26)) = W19 at E19 ⊢
  have q0_0 : W19.cell? ⟨w4.heap.size, 0, none⟩ = some (.bool sq) := (Env.at_ E19.out 4 rfl).cell 0
  have q0_1 : W19.cell? ⟨w4.heap.size, 1, none⟩ = some (.string bq) := (Env.at_ E19.out 4 rfl).cell 1
  have q1_0 : W19.cell? ⟨w17.heap.size, 0, none⟩ = some (.bool sq) := (Env.at_ E19.out 1 rfl).cell 0
  have q1_1 : W19.cell? ⟨w17.heap.size, 1, none⟩ = some (.string bq) := (Env.at_ E19.out 1 rfl).cell 1
  have q4_0 : W19.cell? ⟨w4.heap.size + 1, 0, none⟩ = some (.bool sr) := (Env.at_ E19.out 3 rfl).cell 0
  have q4_1 : W19.cell? ⟨w4.heap.size + 1, 1, none⟩ = some (.string br) := (Env.at_ E19.out 3 rfl).cell 1
  have q5_0 : W19.cell? ⟨w17.heap.size + 1, 0, none⟩ = some (.bool sr) := (Env.at_ E19.out 0 rfl).cell 0
  have q5_1 : W19.cell? ⟨w17.heap.size + 1, 1, none⟩ = some (.string br) := (Env.at_ E19.out 0 rfl).cell 1
  go_wp2_with fail
  refine (HN.out _ 0).mono ?_
  rintro e w20 ⟨rfl, h20⟩
  subst h20
  have E21 := Lib.hid (E19.out)
  clear q0_0 q0_1 q1_0 q1_1 q4_0 q4_1 q5_0 q5_1
  go_wp2_with fail
  refine (HW.out _).mono ?_
  rintro e w22 ⟨rfl, h22⟩
  have E23 := Lib.hid (E21.out.call h22)
  clear h22
  go_wp2_with fail
  go_ret
  exact ⟨rfl, E23.out.1⟩
set_option maxRecDepth 100000 in
set_option maxHeartbeats 8000000 in
theorem divs_no_bad {w : World} {nb : Bool} {sb : ByteArray}{na : Bool} {sa : ByteArray} {n : Int} (hl : (isLong (na, sa) || isLong (nb, sb)) = false) (hn1 : -9223372036854775808 ≤ n) (hn2 : n ≤ 9223372036854775807) (hm : MayL na sa.data.toList) (h0 : 0 < sa.size) (ha : sa.size ≤ 400) (hnn : n ≤ 131072) (hf : ¬ fits (shf (num (na, sa)) n)) (hk : ¬ MayL nb sb.data.toList) :
    Calls Try.prog 4 #[.agg #[.bool na, .string sa], .agg #[.bool nb, .string sb], .int .i64 n] w (fun e w' => e = .returned (.bool true) ∧ Below w.heap.size w w') := by
  have HL := Lib.hid (fun W : World => long_two (w := W) (na := na) (nb := nb) (sa := sa) (sb := sb))
  rw [hl] at HL
  have HA := Lib.hid (fun W : World => arg_any (w := W))
  have HB1 := Lib.hid (fun W : World => bad_one (w := W) (na := na) (sa := sa))
  rw [show isBad (na, sa) = false from isBad_no.2 hm] at HB1
  have HB2 := Lib.hid (fun W : World => bad_two (w := W) (na := na) (nb := nb) (sa := sa) (sb := sb))
  rw [show (isBad (na, sa) || isBad (nb, sb)) = true from by rw [show isBad (nb, sb) = true from isBad_yes.2 hk, Bool.or_true]] at HB2
  have H21 := Lib.hid (fun W : World => div_bad (w := W) (na := na) (sa := sa) (nb := nb) (sb := sb) (fun h => hk h.2))
  obtain ⟨ss, bs, es⟩ : ∃ s b, enc (shf (num (na, sa)) n) = .agg #[.bool s, .string b] := ⟨_, _, rfl⟩
  have H22 := Lib.hid (fun W : World => shift_far (w := W) hm hn1 hf)
  have H20 := Lib.hid (fun W : World => is_no (w := W) hf es)
  have H24 := Lib.hid (fun W : World => calm_eq (rshift_any (w := W) (na := na) (sa := sa) (Fmd.of_may hm) (by omega) hnn) es)
  have hz := str_facts h0
  obtain ⟨z1, z2⟩ := hz
  clear ha h0
  clear hl es hf hm hk
  have HW := Lib.hid (fun W : World => works_any (w := W))
  have HN := Lib.hid (fun (W : World) (n : Int) => num_any (w := W) (n := n))
  have E0 := Lib.hid (Env.nil w)
  go_enter Try.func4, Try.ntmps4
  go_upto_region 0 with fail
  go_upto_region 1 with fail
  have E1 : Hid (Env w ((w.alloc (.cells #[.bool na, .string sa] 26)).alloc (.cells #[.bool nb, .string sb] 26)) [(w.heap.size + 1, 26, #[.bool nb, .string sb]), (w.heap.size, 26, #[.bool na, .string sa])]) := Lib.hid (by have h := (Env.new (Env.new E0.out 26 #[.bool na, .string sa]) 26 #[.bool nb, .string sb]); (try simp only [World.size_alloc] at h); exact h)
  generalize ((w.alloc (.cells #[.bool na, .string sa] 26)).alloc (.cells #[.bool nb, .string sb] 26)) = W1 at E1 ⊢
  have q0_0 : W1.cell? ⟨w.heap.size, 0, none⟩ = some (.bool na) := (Env.at_ E1.out 1 rfl).cell 0
  have q0_1 : W1.cell? ⟨w.heap.size, 1, none⟩ = some (.string sa) := (Env.at_ E1.out 1 rfl).cell 1
  have q1_0 : W1.cell? ⟨w.heap.size + 1, 0, none⟩ = some (.bool nb) := (Env.at_ E1.out 0 rfl).cell 0
  have q1_1 : W1.cell? ⟨w.heap.size + 1, 1, none⟩ = some (.string sb) := (Env.at_ E1.out 0 rfl).cell 1
  go_wp2_with fail
  refine (HL.out _).mono ?_
  rintro e w2 ⟨rfl, h2⟩
  have E3 := Lib.hid ((Env.other E1.out (.cells #[.bool na, .string sa, .bool nb, .string sb] 26)).call h2)
  clear q0_0 q0_1 q1_0 q1_1 h2
  go_upto_region 3 with fail
  have q0_0 : w2.cell? ⟨w.heap.size, 0, none⟩ = some (.bool na) := (Env.at_ E3.out 1 rfl).cell 0
  have q0_1 : w2.cell? ⟨w.heap.size, 1, none⟩ = some (.string sa) := (Env.at_ E3.out 1 rfl).cell 1
  have q1_0 : w2.cell? ⟨w.heap.size + 1, 0, none⟩ = some (.bool nb) := (Env.at_ E3.out 0 rfl).cell 0
  have q1_1 : w2.cell? ⟨w.heap.size + 1, 1, none⟩ = some (.string sb) := (Env.at_ E3.out 0 rfl).cell 1
  go_wp2_with fail
  refine (H21.out _).mono ?_
  rintro e w4 ⟨rfl, h4⟩
  have E5 := Lib.hid (E3.out.call h4)
  clear q0_0 q0_1 q1_0 q1_1 h4
  go_upto_region 4 with fail
  have E6 : Hid (Env w ((w4.alloc (.cells #[.bool false, .string ⟨#[]⟩] 26)).alloc (.cells #[.bool false, .string ⟨#[]⟩] 26)) [(w4.heap.size + 1, 26, #[.bool false, .string ⟨#[]⟩]), (w4.heap.size, 26, #[.bool false, .string ⟨#[]⟩]), (w.heap.size + 1, 26, #[.bool nb, .string sb]), (w.heap.size, 26, #[.bool na, .string sa])]) := Lib.hid (by have h := (Env.new (Env.new E5.out 26 #[.bool false, .string ⟨#[]⟩]) 26 #[.bool false, .string ⟨#[]⟩]); (try simp only [World.size_alloc] at h); exact h)
  generalize ((w4.alloc (.cells #[.bool false, .string ⟨#[]⟩] 26)).alloc (.cells #[.bool false, .string ⟨#[]⟩] 26)) = W6 at E6 ⊢
  have q0_0 : W6.cell? ⟨w.heap.size, 0, none⟩ = some (.bool na) := (Env.at_ E6.out 3 rfl).cell 0
  have q0_1 : W6.cell? ⟨w.heap.size, 1, none⟩ = some (.string sa) := (Env.at_ E6.out 3 rfl).cell 1
  go_wp2_with fail
  refine (H22.out _).mono ?_
  rintro e w7 ⟨rfl, h7⟩
  have E8 := Lib.hid (E6.out.call h7)
  clear q0_0 q0_1 h7
  go_upto_region 5 with fail
  have E9 : Hid (Env w (w7.alloc (.cells #[.bool false, .string ⟨#[]⟩] 26)) [(w7.heap.size, 26, #[.bool false, .string ⟨#[]⟩]), (w4.heap.size + 1, 26, #[.bool false, .string ⟨#[]⟩]), (w4.heap.size, 26, #[.bool false, .string ⟨#[]⟩]), (w.heap.size + 1, 26, #[.bool nb, .string sb]), (w.heap.size, 26, #[.bool na, .string sa])]) := Lib.hid (by have h := (Env.new E8.out 26 #[.bool false, .string ⟨#[]⟩]); (try simp only [World.size_alloc] at h); exact h)
  generalize (w7.alloc (.cells #[.bool false, .string ⟨#[]⟩] 26)) = W9 at E9 ⊢
  have q0_0 : W9.cell? ⟨w.heap.size, 0, none⟩ = some (.bool na) := (Env.at_ E9.out 4 rfl).cell 0
  have q0_1 : W9.cell? ⟨w.heap.size, 1, none⟩ = some (.string sa) := (Env.at_ E9.out 4 rfl).cell 1
  go_wp2_with fail
  refine (HB1.out _).mono ?_
  rintro e w10 ⟨rfl, h10⟩
  have E11 := Lib.hid ((Env.other E9.out (.cells #[.bool na, .string sa] 26)).call h10)
  clear q0_0 q0_1 h10
  go_upto_region 8 with fail
  have q1_1 : w10.cell? ⟨w.heap.size, 1, none⟩ = some (.string sa) := (Env.at_ E11.out 4 rfl).cell 1
  go_upto_region 11 with fail
  clear q1_1
  have q1_1 : w10.cell? ⟨w.heap.size, 1, none⟩ = some (.string sa) := (Env.at_ E11.out 4 rfl).cell 1
  go_upto_region 14 with fail
  clear q1_1
  skip
  refine wp_region_noPanic ?_
  refine wp_region_held_drew (S := fun w' => Env w w' [(w7.heap.size, 26, #[.bool false, .string ⟨#[]⟩]), (w4.heap.size + 1, 26, #[.bool false, .string ⟨#[]⟩]), (w4.heap.size, 26, #[.bool false, .string ⟨#[]⟩]), (w.heap.size + 1, 26, #[.bool nb, .string sb]), (w.heap.size, 26, #[.bool na, .string sa])]) (by kernel_rfl) (Env.drew E11.out) (fun hHeld => ?_)
  refine wpAnyH_take (i := 0) (oi := Oper.mk (some 69) _ _ _ _ _) (v := ?_) rfl (by kernel_rfl) (by kernel_rfl) (by kernel_rfl) (fun _ _ _ h => h) (Or.inl ⟨by rfl, ?_⟩) (by assumption) ?_
  rotate_left
  · (intro w' hSw; (try dsimp only at hSw); have a0 : w'.cell? ⟨w7.heap.size, 0, none⟩ = some (.bool false) := (Env.at_ hSw 0 rfl).cell 0; have a1 : w'.cell? ⟨w7.heap.size, 1, none⟩ = some (.string ⟨#[]⟩) := (Env.at_ hSw 0 rfl).cell 1; go_simp; try with_reducible rfl)
  try simp only [Act.put, List.setIfInBounds_toArray, List.set_cons_zero, List.set_cons_succ]
  refine wpAnyH_take (i := 1) (oi := Oper.mk (some 70) _ _ _ _ _) (v := ?_) rfl (by kernel_rfl) (by kernel_rfl) (by kernel_rfl) (fun _ _ _ h => h) (Or.inl ⟨by rfl, ?_⟩) (by assumption) ?_
  rotate_left
  · (intro w' hSw; (try dsimp only at hSw); go_simp; try with_reducible rfl)
  try simp only [Act.put, List.setIfInBounds_toArray, List.set_cons_zero, List.set_cons_succ]
  refine wpAnyH_take (i := 2) (oi := Oper.mk (some 71) _ _ _ _ _) (v := ?_) rfl (by kernel_rfl) (by kernel_rfl) (by kernel_rfl) (fun _ _ _ h => h) (Or.inl ⟨by rfl, ?_⟩) (by assumption) ?_
  rotate_left
  · (intro w' hSw; (try dsimp only at hSw); have a0 : w'.cell? ⟨w.heap.size, 0, none⟩ = some (.bool na) := (Env.at_ hSw 4 rfl).cell 0; have a1 : w'.cell? ⟨w.heap.size, 1, none⟩ = some (.string sa) := (Env.at_ hSw 4 rfl).cell 1; go_simp; try with_reducible rfl)
  try simp only [Act.put, List.setIfInBounds_toArray, List.set_cons_zero, List.set_cons_succ]
  refine wpAnyH_take (i := 3) (oi := Oper.mk (some 72) _ _ _ _ _) (v := ?_) rfl (by kernel_rfl) (by kernel_rfl) (by kernel_rfl) (fun _ _ _ h => h) (Or.inl ⟨by rfl, ?_⟩) (by assumption) ?_
  rotate_left
  · (intro w' hSw; (try dsimp only at hSw); go_simp; try with_reducible rfl)
  try simp only [Act.put, List.setIfInBounds_toArray, List.set_cons_zero, List.set_cons_succ]
  refine wpAnyH_ready (rs := [4]) (by kernel_rfl) (by simp) ?_
  refine AllReadyH.cons (o := Oper.mk (some 73) _ _ _ _ _) rfl (fun K hK => ?_) AllReadyH.nil
  go_simp
  refine (H24.out _).mono ?_
  rintro e w12 ⟨rfl, h12⟩
  have hNext := hHeld.call h12
  refine hK.out _ _ hNext (fun _ => ?_)
  clear hK K hHeld h12
  have hHeld := hNext
  clear hNext
  try simp only [Act.put, List.setIfInBounds_toArray, List.set_cons_zero, List.set_cons_succ]
  refine wpAnyH_ready (rs := [5]) (by kernel_rfl) (by simp) ?_
  refine AllReadyH.cons (o := Oper.mk (some 74) _ _ _ _ _) rfl (fun K hK => ?_) AllReadyH.nil
  go_simp
  refine (H20.out _).mono ?_
  rintro e w13 ⟨rfl, h13⟩
  have hNext := hHeld.call h13
  refine hK.out _ _ hNext (fun _ => ?_)
  clear hK K hHeld h13
  have hHeld := hNext
  clear hNext
  try simp only [Act.put, List.setIfInBounds_toArray, List.set_cons_zero, List.set_cons_succ]
  refine wpAnyH_take (i := 6) (oi := Oper.mk (some 75) _ _ _ _ _) (v := ?_) rfl (by kernel_rfl) (by kernel_rfl) (by kernel_rfl) (fun _ _ _ h => h) (Or.inl ⟨by rfl, ?_⟩) (by assumption) ?_
  rotate_left
  · (intro w' hSw; (try dsimp only at hSw); go_simp; try with_reducible rfl)
  try simp only [Act.put, List.setIfInBounds_toArray, List.set_cons_zero, List.set_cons_succ]
  refine wpAnyH_take (i := 7) (oi := Oper.mk (some 68) _ _ _ _ _) (v := ?_) rfl (by kernel_rfl) (by kernel_rfl) (by kernel_rfl) (fun _ _ _ h => h) (Or.inl ⟨by rfl, ?_⟩) (by assumption) ?_
  rotate_left
  · (intro w' hSw; (try dsimp only at hSw); go_simp; try with_reducible rfl)
  try simp only [Act.put, List.setIfInBounds_toArray, List.set_cons_zero, List.set_cons_succ]
  refine wpAnyH_done (by kernel_rfl) ?_ _
  refine NoPanic.normal ?_
  have E14 := Lib.hid hHeld
  clear hHeld
  go_upto_region 16 with fail
  have q0_0 : w13.cell? ⟨w.heap.size, 0, none⟩ = some (.bool na) := (Env.at_ E14.out 4 rfl).cell 0
  have q0_1 : w13.cell? ⟨w.heap.size, 1, none⟩ = some (.string sa) := (Env.at_ E14.out 4 rfl).cell 1
  have q1_0 : w13.cell? ⟨w.heap.size + 1, 0, none⟩ = some (.bool nb) := (Env.at_ E14.out 3 rfl).cell 0
  have q1_1 : w13.cell? ⟨w.heap.size + 1, 1, none⟩ = some (.string sb) := (Env.at_ E14.out 3 rfl).cell 1
  go_wp2_with fail
  refine (HB2.out _).mono ?_
  rintro e w15 ⟨rfl, h15⟩
  have E16 := Lib.hid ((Env.other E14.out (.cells #[.bool na, .string sa, .bool nb, .string sb] 26)).call h15)
  clear q0_0 q0_1 q1_0 q1_1 h15
  go_upto_region 17 with fail
  have q0_0 : w15.cell? ⟨w4.heap.size, 0, none⟩ = some (.bool false) := (Env.at_ E16.out 2 rfl).cell 0
  have q0_1 : w15.cell? ⟨w4.heap.size, 1, none⟩ = some (.string ⟨#[]⟩) := (Env.at_ E16.out 2 rfl).cell 1
  go_wp2_with fail
  refine (HA.out _).mono ?_
  rintro e w17 ⟨rfl, h17⟩
  have E18 := Lib.hid (E16.out.call h17)
  clear q0_0 q0_1 h17
  have q4_0 : w17.cell? ⟨w4.heap.size + 1, 0, none⟩ = some (.bool false) := (Env.at_ E18.out 1 rfl).cell 0
  have q4_1 : w17.cell? ⟨w4.heap.size + 1, 1, none⟩ = some (.string ⟨#[]⟩) := (Env.at_ E18.out 1 rfl).cell 1
  go_wp2_with fail
  refine (HW.out _).mono ?_
  rintro e w19 ⟨rfl, h19⟩
  have E20 := Lib.hid (E18.out.call h19)
  clear q4_0 q4_1 h19
  go_wp2_with fail
  go_ret
  exact ⟨rfl, E20.out.1⟩
set_option maxRecDepth 100000 in
set_option maxHeartbeats 8000000 in
theorem divs_no_bzero {w : World} {na : Bool} {sa : ByteArray} {n : Int} (hl : (isLong (na, sa) || isLong (false, ⟨#[]⟩)) = false) (hn1 : -9223372036854775808 ≤ n) (hn2 : n ≤ 9223372036854775807) (hm : MayL na sa.data.toList) (h0 : 0 < sa.size) (ha : sa.size ≤ 400) (hnn : n ≤ 131072) (hf : ¬ fits (shf (num (na, sa)) n)) :
    Calls Try.prog 4 #[.agg #[.bool na, .string sa], .agg #[.bool false, .string ⟨#[]⟩], .int .i64 n] w (fun e w' => e = .returned (.bool true) ∧ Below w.heap.size w w') := by
  have HL := Lib.hid (fun W : World => long_two (w := W) (na := na) (nb := false) (sa := sa) (sb := ⟨#[]⟩))
  rw [hl] at HL
  have HA := Lib.hid (fun W : World => arg_any (w := W))
  have HB1 := Lib.hid (fun W : World => bad_one (w := W) (na := na) (sa := sa))
  rw [show isBad (na, sa) = false from isBad_no.2 hm] at HB1
  have HB2 := Lib.hid (fun W : World => bad_two (w := W) (na := na) (nb := false) (sa := sa) (sb := ⟨#[]⟩))
  rw [show (isBad (na, sa) || isBad (false, ⟨#[]⟩)) = false from Bool.or_eq_false_iff.2 ⟨isBad_no.2 hm, isBad_no.2 empty_may⟩] at HB2
  have H21 := Lib.hid (fun W : World => div_nought (w := W) (na := na) (sa := sa) (And.intro hm empty_may) num_zero)
  obtain ⟨ss, bs, es⟩ : ∃ s b, enc (shf (num (na, sa)) n) = .agg #[.bool s, .string b] := ⟨_, _, rfl⟩
  have H22 := Lib.hid (fun W : World => shift_far (w := W) hm hn1 hf)
  have H20 := Lib.hid (fun W : World => is_no (w := W) hf es)
  have H24 := Lib.hid (fun W : World => calm_eq (rshift_any (w := W) (na := na) (sa := sa) (Fmd.of_may hm) (by omega) hnn) es)
  have hz := str_facts h0
  obtain ⟨z1, z2⟩ := hz
  clear ha h0
  clear hl es hf hm
  have HW := Lib.hid (fun W : World => works_any (w := W))
  have HN := Lib.hid (fun (W : World) (n : Int) => num_any (w := W) (n := n))
  have E0 := Lib.hid (Env.nil w)
  go_enter Try.func4, Try.ntmps4
  go_upto_region 0 with fail
  go_upto_region 1 with fail
  have E1 : Hid (Env w ((w.alloc (.cells #[.bool na, .string sa] 26)).alloc (.cells #[.bool false, .string ⟨#[]⟩] 26)) [(w.heap.size + 1, 26, #[.bool false, .string ⟨#[]⟩]), (w.heap.size, 26, #[.bool na, .string sa])]) := Lib.hid (by have h := (Env.new (Env.new E0.out 26 #[.bool na, .string sa]) 26 #[.bool false, .string ⟨#[]⟩]); (try simp only [World.size_alloc] at h); exact h)
  generalize ((w.alloc (.cells #[.bool na, .string sa] 26)).alloc (.cells #[.bool false, .string ⟨#[]⟩] 26)) = W1 at E1 ⊢
  have q0_0 : W1.cell? ⟨w.heap.size, 0, none⟩ = some (.bool na) := (Env.at_ E1.out 1 rfl).cell 0
  have q0_1 : W1.cell? ⟨w.heap.size, 1, none⟩ = some (.string sa) := (Env.at_ E1.out 1 rfl).cell 1
  have q1_0 : W1.cell? ⟨w.heap.size + 1, 0, none⟩ = some (.bool false) := (Env.at_ E1.out 0 rfl).cell 0
  have q1_1 : W1.cell? ⟨w.heap.size + 1, 1, none⟩ = some (.string ⟨#[]⟩) := (Env.at_ E1.out 0 rfl).cell 1
  go_wp2_with fail
  refine (HL.out _).mono ?_
  rintro e w2 ⟨rfl, h2⟩
  have E3 := Lib.hid ((Env.other E1.out (.cells #[.bool na, .string sa, .bool false, .string ⟨#[]⟩] 26)).call h2)
  clear q0_0 q0_1 q1_0 q1_1 h2
  go_upto_region 3 with fail
  have q0_0 : w2.cell? ⟨w.heap.size, 0, none⟩ = some (.bool na) := (Env.at_ E3.out 1 rfl).cell 0
  have q0_1 : w2.cell? ⟨w.heap.size, 1, none⟩ = some (.string sa) := (Env.at_ E3.out 1 rfl).cell 1
  have q1_0 : w2.cell? ⟨w.heap.size + 1, 0, none⟩ = some (.bool false) := (Env.at_ E3.out 0 rfl).cell 0
  have q1_1 : w2.cell? ⟨w.heap.size + 1, 1, none⟩ = some (.string ⟨#[]⟩) := (Env.at_ E3.out 0 rfl).cell 1
  go_wp2_with fail
  refine (H21.out _).mono ?_
  rintro e w4 ⟨rfl, h4⟩
  have E5 := Lib.hid (E3.out.call h4)
  clear q0_0 q0_1 q1_0 q1_1 h4
  go_upto_region 4 with fail
  have E6 : Hid (Env w ((w4.alloc (.cells #[.bool false, .string ⟨#[]⟩] 26)).alloc (.cells #[.bool false, .string ⟨#[]⟩] 26)) [(w4.heap.size + 1, 26, #[.bool false, .string ⟨#[]⟩]), (w4.heap.size, 26, #[.bool false, .string ⟨#[]⟩]), (w.heap.size + 1, 26, #[.bool false, .string ⟨#[]⟩]), (w.heap.size, 26, #[.bool na, .string sa])]) := Lib.hid (by have h := (Env.new (Env.new E5.out 26 #[.bool false, .string ⟨#[]⟩]) 26 #[.bool false, .string ⟨#[]⟩]); (try simp only [World.size_alloc] at h); exact h)
  generalize ((w4.alloc (.cells #[.bool false, .string ⟨#[]⟩] 26)).alloc (.cells #[.bool false, .string ⟨#[]⟩] 26)) = W6 at E6 ⊢
  have q0_0 : W6.cell? ⟨w.heap.size, 0, none⟩ = some (.bool na) := (Env.at_ E6.out 3 rfl).cell 0
  have q0_1 : W6.cell? ⟨w.heap.size, 1, none⟩ = some (.string sa) := (Env.at_ E6.out 3 rfl).cell 1
  go_wp2_with fail
  refine (H22.out _).mono ?_
  rintro e w7 ⟨rfl, h7⟩
  have E8 := Lib.hid (E6.out.call h7)
  clear q0_0 q0_1 h7
  go_upto_region 5 with fail
  have E9 : Hid (Env w (w7.alloc (.cells #[.bool false, .string ⟨#[]⟩] 26)) [(w7.heap.size, 26, #[.bool false, .string ⟨#[]⟩]), (w4.heap.size + 1, 26, #[.bool false, .string ⟨#[]⟩]), (w4.heap.size, 26, #[.bool false, .string ⟨#[]⟩]), (w.heap.size + 1, 26, #[.bool false, .string ⟨#[]⟩]), (w.heap.size, 26, #[.bool na, .string sa])]) := Lib.hid (by have h := (Env.new E8.out 26 #[.bool false, .string ⟨#[]⟩]); (try simp only [World.size_alloc] at h); exact h)
  generalize (w7.alloc (.cells #[.bool false, .string ⟨#[]⟩] 26)) = W9 at E9 ⊢
  have q0_0 : W9.cell? ⟨w.heap.size, 0, none⟩ = some (.bool na) := (Env.at_ E9.out 4 rfl).cell 0
  have q0_1 : W9.cell? ⟨w.heap.size, 1, none⟩ = some (.string sa) := (Env.at_ E9.out 4 rfl).cell 1
  go_wp2_with fail
  refine (HB1.out _).mono ?_
  rintro e w10 ⟨rfl, h10⟩
  have E11 := Lib.hid ((Env.other E9.out (.cells #[.bool na, .string sa] 26)).call h10)
  clear q0_0 q0_1 h10
  go_upto_region 8 with fail
  have q1_1 : w10.cell? ⟨w.heap.size, 1, none⟩ = some (.string sa) := (Env.at_ E11.out 4 rfl).cell 1
  go_upto_region 11 with fail
  clear q1_1
  have q1_1 : w10.cell? ⟨w.heap.size, 1, none⟩ = some (.string sa) := (Env.at_ E11.out 4 rfl).cell 1
  go_upto_region 14 with fail
  clear q1_1
  skip
  refine wp_region_noPanic ?_
  refine wp_region_held_drew (S := fun w' => Env w w' [(w7.heap.size, 26, #[.bool false, .string ⟨#[]⟩]), (w4.heap.size + 1, 26, #[.bool false, .string ⟨#[]⟩]), (w4.heap.size, 26, #[.bool false, .string ⟨#[]⟩]), (w.heap.size + 1, 26, #[.bool false, .string ⟨#[]⟩]), (w.heap.size, 26, #[.bool na, .string sa])]) (by kernel_rfl) (Env.drew E11.out) (fun hHeld => ?_)
  refine wpAnyH_take (i := 0) (oi := Oper.mk (some 69) _ _ _ _ _) (v := ?_) rfl (by kernel_rfl) (by kernel_rfl) (by kernel_rfl) (fun _ _ _ h => h) (Or.inl ⟨by rfl, ?_⟩) (by assumption) ?_
  rotate_left
  · (intro w' hSw; (try dsimp only at hSw); have a0 : w'.cell? ⟨w7.heap.size, 0, none⟩ = some (.bool false) := (Env.at_ hSw 0 rfl).cell 0; have a1 : w'.cell? ⟨w7.heap.size, 1, none⟩ = some (.string ⟨#[]⟩) := (Env.at_ hSw 0 rfl).cell 1; go_simp; try with_reducible rfl)
  try simp only [Act.put, List.setIfInBounds_toArray, List.set_cons_zero, List.set_cons_succ]
  refine wpAnyH_take (i := 1) (oi := Oper.mk (some 70) _ _ _ _ _) (v := ?_) rfl (by kernel_rfl) (by kernel_rfl) (by kernel_rfl) (fun _ _ _ h => h) (Or.inl ⟨by rfl, ?_⟩) (by assumption) ?_
  rotate_left
  · (intro w' hSw; (try dsimp only at hSw); go_simp; try with_reducible rfl)
  try simp only [Act.put, List.setIfInBounds_toArray, List.set_cons_zero, List.set_cons_succ]
  refine wpAnyH_take (i := 2) (oi := Oper.mk (some 71) _ _ _ _ _) (v := ?_) rfl (by kernel_rfl) (by kernel_rfl) (by kernel_rfl) (fun _ _ _ h => h) (Or.inl ⟨by rfl, ?_⟩) (by assumption) ?_
  rotate_left
  · (intro w' hSw; (try dsimp only at hSw); have a0 : w'.cell? ⟨w.heap.size, 0, none⟩ = some (.bool na) := (Env.at_ hSw 4 rfl).cell 0; have a1 : w'.cell? ⟨w.heap.size, 1, none⟩ = some (.string sa) := (Env.at_ hSw 4 rfl).cell 1; go_simp; try with_reducible rfl)
  try simp only [Act.put, List.setIfInBounds_toArray, List.set_cons_zero, List.set_cons_succ]
  refine wpAnyH_take (i := 3) (oi := Oper.mk (some 72) _ _ _ _ _) (v := ?_) rfl (by kernel_rfl) (by kernel_rfl) (by kernel_rfl) (fun _ _ _ h => h) (Or.inl ⟨by rfl, ?_⟩) (by assumption) ?_
  rotate_left
  · (intro w' hSw; (try dsimp only at hSw); go_simp; try with_reducible rfl)
  try simp only [Act.put, List.setIfInBounds_toArray, List.set_cons_zero, List.set_cons_succ]
  refine wpAnyH_ready (rs := [4]) (by kernel_rfl) (by simp) ?_
  refine AllReadyH.cons (o := Oper.mk (some 73) _ _ _ _ _) rfl (fun K hK => ?_) AllReadyH.nil
  go_simp
  refine (H24.out _).mono ?_
  rintro e w12 ⟨rfl, h12⟩
  have hNext := hHeld.call h12
  refine hK.out _ _ hNext (fun _ => ?_)
  clear hK K hHeld h12
  have hHeld := hNext
  clear hNext
  try simp only [Act.put, List.setIfInBounds_toArray, List.set_cons_zero, List.set_cons_succ]
  refine wpAnyH_ready (rs := [5]) (by kernel_rfl) (by simp) ?_
  refine AllReadyH.cons (o := Oper.mk (some 74) _ _ _ _ _) rfl (fun K hK => ?_) AllReadyH.nil
  go_simp
  refine (H20.out _).mono ?_
  rintro e w13 ⟨rfl, h13⟩
  have hNext := hHeld.call h13
  refine hK.out _ _ hNext (fun _ => ?_)
  clear hK K hHeld h13
  have hHeld := hNext
  clear hNext
  try simp only [Act.put, List.setIfInBounds_toArray, List.set_cons_zero, List.set_cons_succ]
  refine wpAnyH_take (i := 6) (oi := Oper.mk (some 75) _ _ _ _ _) (v := ?_) rfl (by kernel_rfl) (by kernel_rfl) (by kernel_rfl) (fun _ _ _ h => h) (Or.inl ⟨by rfl, ?_⟩) (by assumption) ?_
  rotate_left
  · (intro w' hSw; (try dsimp only at hSw); go_simp; try with_reducible rfl)
  try simp only [Act.put, List.setIfInBounds_toArray, List.set_cons_zero, List.set_cons_succ]
  refine wpAnyH_take (i := 7) (oi := Oper.mk (some 68) _ _ _ _ _) (v := ?_) rfl (by kernel_rfl) (by kernel_rfl) (by kernel_rfl) (fun _ _ _ h => h) (Or.inl ⟨by rfl, ?_⟩) (by assumption) ?_
  rotate_left
  · (intro w' hSw; (try dsimp only at hSw); go_simp; try with_reducible rfl)
  try simp only [Act.put, List.setIfInBounds_toArray, List.set_cons_zero, List.set_cons_succ]
  refine wpAnyH_done (by kernel_rfl) ?_ _
  refine NoPanic.normal ?_
  have E14 := Lib.hid hHeld
  clear hHeld
  go_upto_region 16 with fail
  have q0_0 : w13.cell? ⟨w.heap.size, 0, none⟩ = some (.bool na) := (Env.at_ E14.out 4 rfl).cell 0
  have q0_1 : w13.cell? ⟨w.heap.size, 1, none⟩ = some (.string sa) := (Env.at_ E14.out 4 rfl).cell 1
  have q1_0 : w13.cell? ⟨w.heap.size + 1, 0, none⟩ = some (.bool false) := (Env.at_ E14.out 3 rfl).cell 0
  have q1_1 : w13.cell? ⟨w.heap.size + 1, 1, none⟩ = some (.string ⟨#[]⟩) := (Env.at_ E14.out 3 rfl).cell 1
  go_wp2_with fail
  refine (HB2.out _).mono ?_
  rintro e w15 ⟨rfl, h15⟩
  have E16 := Lib.hid ((Env.other E14.out (.cells #[.bool na, .string sa, .bool false, .string ⟨#[]⟩] 26)).call h15)
  clear q0_0 q0_1 q1_0 q1_1 h15
  go_upto_region 18 with fail
  have q1_1 : w15.cell? ⟨w.heap.size + 1, 1, none⟩ = some (.string ⟨#[]⟩) := (Env.at_ E16.out 3 rfl).cell 1
  go_upto_region 19 with fail
  clear q1_1
  have q0_0 : w15.cell? ⟨w4.heap.size, 0, none⟩ = some (.bool false) := (Env.at_ E16.out 2 rfl).cell 0
  have q0_1 : w15.cell? ⟨w4.heap.size, 1, none⟩ = some (.string ⟨#[]⟩) := (Env.at_ E16.out 2 rfl).cell 1
  have q4_0 : w15.cell? ⟨w4.heap.size + 1, 0, none⟩ = some (.bool false) := (Env.at_ E16.out 1 rfl).cell 0
  have q4_1 : w15.cell? ⟨w4.heap.size + 1, 1, none⟩ = some (.string ⟨#[]⟩) := (Env.at_ E16.out 1 rfl).cell 1
  go_wp2_with fail
  refine (HN.out _ 5).mono ?_
  rintro e w17 ⟨rfl, h17⟩
  subst h17
  have E18 := Lib.hid (E16.out)
  clear q0_0 q0_1 q4_0 q4_1
  go_wp2_with fail
  refine (HW.out _).mono ?_
  rintro e w19 ⟨rfl, h19⟩
  have E20 := Lib.hid (E18.out.call h19)
  clear h19
  go_wp2_with fail
  go_ret
  exact ⟨rfl, E20.out.1⟩
set_option maxRecDepth 100000 in
set_option maxHeartbeats 8000000 in
theorem divs_no_ok {w : World} {nb : Bool} {sb : ByteArray}{na : Bool} {sa : ByteArray} {n : Int} (hl : (isLong (na, sa) || isLong (nb, sb)) = false) (hn1 : -9223372036854775808 ≤ n) (hn2 : n ≤ 9223372036854775807) (hm : MayL na sa.data.toList) (h0 : 0 < sa.size) (ha : sa.size ≤ 400) (hnn : n ≤ 131072) (hf : ¬ fits (shf (num (na, sa)) n)) (hk : MayL nb sb.data.toList) (h1 : 0 < sb.size) (hb : sb.size ≤ 400) :
    Calls Try.prog 4 #[.agg #[.bool na, .string sa], .agg #[.bool nb, .string sb], .int .i64 n] w (fun e w' => e = .returned (.bool true) ∧ Below w.heap.size w w') := by
  have HL := Lib.hid (fun W : World => long_two (w := W) (na := na) (nb := nb) (sa := sa) (sb := sb))
  rw [hl] at HL
  have HA := Lib.hid (fun W : World => arg_any (w := W))
  have HB1 := Lib.hid (fun W : World => bad_one (w := W) (na := na) (sa := sa))
  rw [show isBad (na, sa) = false from isBad_no.2 hm] at HB1
  have HB2 := Lib.hid (fun W : World => bad_two (w := W) (na := na) (nb := nb) (sa := sa) (sb := sb))
  rw [show (isBad (na, sa) || isBad (nb, sb)) = false from Bool.or_eq_false_iff.2 ⟨isBad_no.2 hm, isBad_no.2 hk⟩] at HB2
  have hy0 := num_posn hk h1
  have Sy := may_sb (n := nb) hb
  have Sx := may_sb (n := na) (s := sa) (k := 400) ha
  have fq : fits (num (na, sa) / num (nb, sb)) := (Sx.le (Int.natAbs_ediv_le_natAbs _ _)).fits (by decide)
  obtain ⟨sq, bq, eq, nq, mq⟩ := enc_form fq
  have fr : fits (num (na, sa) % num (nb, sb)) := (Sy.le (rest_le hy0)).fits (by decide)
  obtain ⟨sr, br, er, nr, mr⟩ := enc_form fr
  have H21 := Lib.hid (fun W : World => div_told (w := W) (And.intro hm hk) hy0 rfl rfl eq er)
  have H25 := Lib.hid (fun W : World => calm_eq (rdivmod_any (w := W) (na := na) (sa := sa) (Fmd.of_may hm) (Fmd.of_may hk) (may_posn hk h1)) (show _ = Value.tuple #[.agg #[.bool sq, .string bq], .agg #[.bool sr, .string br]] by rw [eq, er]))
  obtain ⟨ss, bs, es⟩ : ∃ s b, enc (shf (num (na, sa)) n) = .agg #[.bool s, .string b] := ⟨_, _, rfl⟩
  have H22 := Lib.hid (fun W : World => shift_far (w := W) hm hn1 hf)
  have H20 := Lib.hid (fun W : World => is_no (w := W) hf es)
  have H24 := Lib.hid (fun W : World => calm_eq (rshift_any (w := W) (na := na) (sa := sa) (Fmd.of_may hm) (by omega) hnn) es)
  have hz := str_facts h0
  obtain ⟨z1, z2⟩ := hz
  clear ha h0
  have hzb := str_facts h1
  obtain ⟨z3, z4⟩ := hzb
  clear h1 hb
  clear hl hy0 Sy Sx fq eq nq mq fr er nr mr es hf hm hk
  have HW := Lib.hid (fun W : World => works_any (w := W))
  have HN := Lib.hid (fun (W : World) (n : Int) => num_any (w := W) (n := n))
  have E0 := Lib.hid (Env.nil w)
  go_enter Try.func4, Try.ntmps4
  go_upto_region 0 with fail
  go_upto_region 1 with fail
  have E1 : Hid (Env w ((w.alloc (.cells #[.bool na, .string sa] 26)).alloc (.cells #[.bool nb, .string sb] 26)) [(w.heap.size + 1, 26, #[.bool nb, .string sb]), (w.heap.size, 26, #[.bool na, .string sa])]) := Lib.hid (by have h := (Env.new (Env.new E0.out 26 #[.bool na, .string sa]) 26 #[.bool nb, .string sb]); (try simp only [World.size_alloc] at h); exact h)
  generalize ((w.alloc (.cells #[.bool na, .string sa] 26)).alloc (.cells #[.bool nb, .string sb] 26)) = W1 at E1 ⊢
  have q0_0 : W1.cell? ⟨w.heap.size, 0, none⟩ = some (.bool na) := (Env.at_ E1.out 1 rfl).cell 0
  have q0_1 : W1.cell? ⟨w.heap.size, 1, none⟩ = some (.string sa) := (Env.at_ E1.out 1 rfl).cell 1
  have q1_0 : W1.cell? ⟨w.heap.size + 1, 0, none⟩ = some (.bool nb) := (Env.at_ E1.out 0 rfl).cell 0
  have q1_1 : W1.cell? ⟨w.heap.size + 1, 1, none⟩ = some (.string sb) := (Env.at_ E1.out 0 rfl).cell 1
  go_wp2_with fail
  refine (HL.out _).mono ?_
  rintro e w2 ⟨rfl, h2⟩
  have E3 := Lib.hid ((Env.other E1.out (.cells #[.bool na, .string sa, .bool nb, .string sb] 26)).call h2)
  clear q0_0 q0_1 q1_0 q1_1 h2
  go_upto_region 3 with fail
  have q0_0 : w2.cell? ⟨w.heap.size, 0, none⟩ = some (.bool na) := (Env.at_ E3.out 1 rfl).cell 0
  have q0_1 : w2.cell? ⟨w.heap.size, 1, none⟩ = some (.string sa) := (Env.at_ E3.out 1 rfl).cell 1
  have q1_0 : w2.cell? ⟨w.heap.size + 1, 0, none⟩ = some (.bool nb) := (Env.at_ E3.out 0 rfl).cell 0
  have q1_1 : w2.cell? ⟨w.heap.size + 1, 1, none⟩ = some (.string sb) := (Env.at_ E3.out 0 rfl).cell 1
  go_wp2_with fail
  refine (H21.out _).mono ?_
  rintro e w4 ⟨rfl, h4⟩
  have E5 := Lib.hid (E3.out.call h4)
  clear q0_0 q0_1 q1_0 q1_1 h4
  go_upto_region 4 with fail
  have E6 : Hid (Env w ((w4.alloc (.cells #[.bool sq, .string bq] 26)).alloc (.cells #[.bool sr, .string br] 26)) [(w4.heap.size + 1, 26, #[.bool sr, .string br]), (w4.heap.size, 26, #[.bool sq, .string bq]), (w.heap.size + 1, 26, #[.bool nb, .string sb]), (w.heap.size, 26, #[.bool na, .string sa])]) := Lib.hid (by have h := (Env.new (Env.new E5.out 26 #[.bool sq, .string bq]) 26 #[.bool sr, .string br]); (try simp only [World.size_alloc] at h); exact h)
  generalize ((w4.alloc (.cells #[.bool sq, .string bq] 26)).alloc (.cells #[.bool sr, .string br] 26)) = W6 at E6 ⊢
  have q0_0 : W6.cell? ⟨w.heap.size, 0, none⟩ = some (.bool na) := (Env.at_ E6.out 3 rfl).cell 0
  have q0_1 : W6.cell? ⟨w.heap.size, 1, none⟩ = some (.string sa) := (Env.at_ E6.out 3 rfl).cell 1
  go_wp2_with fail
  refine (H22.out _).mono ?_
  rintro e w7 ⟨rfl, h7⟩
  have E8 := Lib.hid (E6.out.call h7)
  clear q0_0 q0_1 h7
  go_upto_region 5 with fail
  have E9 : Hid (Env w (w7.alloc (.cells #[.bool false, .string ⟨#[]⟩] 26)) [(w7.heap.size, 26, #[.bool false, .string ⟨#[]⟩]), (w4.heap.size + 1, 26, #[.bool sr, .string br]), (w4.heap.size, 26, #[.bool sq, .string bq]), (w.heap.size + 1, 26, #[.bool nb, .string sb]), (w.heap.size, 26, #[.bool na, .string sa])]) := Lib.hid (by have h := (Env.new E8.out 26 #[.bool false, .string ⟨#[]⟩]); (try simp only [World.size_alloc] at h); exact h)
  generalize (w7.alloc (.cells #[.bool false, .string ⟨#[]⟩] 26)) = W9 at E9 ⊢
  have q0_0 : W9.cell? ⟨w.heap.size, 0, none⟩ = some (.bool na) := (Env.at_ E9.out 4 rfl).cell 0
  have q0_1 : W9.cell? ⟨w.heap.size, 1, none⟩ = some (.string sa) := (Env.at_ E9.out 4 rfl).cell 1
  go_wp2_with fail
  refine (HB1.out _).mono ?_
  rintro e w10 ⟨rfl, h10⟩
  have E11 := Lib.hid ((Env.other E9.out (.cells #[.bool na, .string sa] 26)).call h10)
  clear q0_0 q0_1 h10
  go_upto_region 8 with fail
  have q1_1 : w10.cell? ⟨w.heap.size, 1, none⟩ = some (.string sa) := (Env.at_ E11.out 4 rfl).cell 1
  go_upto_region 11 with fail
  clear q1_1
  have q1_1 : w10.cell? ⟨w.heap.size, 1, none⟩ = some (.string sa) := (Env.at_ E11.out 4 rfl).cell 1
  go_upto_region 14 with fail
  clear q1_1
  skip
  refine wp_region_noPanic ?_
  refine wp_region_held_drew (S := fun w' => Env w w' [(w7.heap.size, 26, #[.bool false, .string ⟨#[]⟩]), (w4.heap.size + 1, 26, #[.bool sr, .string br]), (w4.heap.size, 26, #[.bool sq, .string bq]), (w.heap.size + 1, 26, #[.bool nb, .string sb]), (w.heap.size, 26, #[.bool na, .string sa])]) (by kernel_rfl) (Env.drew E11.out) (fun hHeld => ?_)
  refine wpAnyH_take (i := 0) (oi := Oper.mk (some 69) _ _ _ _ _) (v := ?_) rfl (by kernel_rfl) (by kernel_rfl) (by kernel_rfl) (fun _ _ _ h => h) (Or.inl ⟨by rfl, ?_⟩) (by assumption) ?_
  rotate_left
  · (intro w' hSw; (try dsimp only at hSw); have a0 : w'.cell? ⟨w7.heap.size, 0, none⟩ = some (.bool false) := (Env.at_ hSw 0 rfl).cell 0; have a1 : w'.cell? ⟨w7.heap.size, 1, none⟩ = some (.string ⟨#[]⟩) := (Env.at_ hSw 0 rfl).cell 1; go_simp; try with_reducible rfl)
  try simp only [Act.put, List.setIfInBounds_toArray, List.set_cons_zero, List.set_cons_succ]
  refine wpAnyH_take (i := 1) (oi := Oper.mk (some 70) _ _ _ _ _) (v := ?_) rfl (by kernel_rfl) (by kernel_rfl) (by kernel_rfl) (fun _ _ _ h => h) (Or.inl ⟨by rfl, ?_⟩) (by assumption) ?_
  rotate_left
  · (intro w' hSw; (try dsimp only at hSw); go_simp; try with_reducible rfl)
  try simp only [Act.put, List.setIfInBounds_toArray, List.set_cons_zero, List.set_cons_succ]
  refine wpAnyH_take (i := 2) (oi := Oper.mk (some 71) _ _ _ _ _) (v := ?_) rfl (by kernel_rfl) (by kernel_rfl) (by kernel_rfl) (fun _ _ _ h => h) (Or.inl ⟨by rfl, ?_⟩) (by assumption) ?_
  rotate_left
  · (intro w' hSw; (try dsimp only at hSw); have a0 : w'.cell? ⟨w.heap.size, 0, none⟩ = some (.bool na) := (Env.at_ hSw 4 rfl).cell 0; have a1 : w'.cell? ⟨w.heap.size, 1, none⟩ = some (.string sa) := (Env.at_ hSw 4 rfl).cell 1; go_simp; try with_reducible rfl)
  try simp only [Act.put, List.setIfInBounds_toArray, List.set_cons_zero, List.set_cons_succ]
  refine wpAnyH_take (i := 3) (oi := Oper.mk (some 72) _ _ _ _ _) (v := ?_) rfl (by kernel_rfl) (by kernel_rfl) (by kernel_rfl) (fun _ _ _ h => h) (Or.inl ⟨by rfl, ?_⟩) (by assumption) ?_
  rotate_left
  · (intro w' hSw; (try dsimp only at hSw); go_simp; try with_reducible rfl)
  try simp only [Act.put, List.setIfInBounds_toArray, List.set_cons_zero, List.set_cons_succ]
  refine wpAnyH_ready (rs := [4]) (by kernel_rfl) (by simp) ?_
  refine AllReadyH.cons (o := Oper.mk (some 73) _ _ _ _ _) rfl (fun K hK => ?_) AllReadyH.nil
  go_simp
  refine (H24.out _).mono ?_
  rintro e w12 ⟨rfl, h12⟩
  have hNext := hHeld.call h12
  refine hK.out _ _ hNext (fun _ => ?_)
  clear hK K hHeld h12
  have hHeld := hNext
  clear hNext
  try simp only [Act.put, List.setIfInBounds_toArray, List.set_cons_zero, List.set_cons_succ]
  refine wpAnyH_ready (rs := [5]) (by kernel_rfl) (by simp) ?_
  refine AllReadyH.cons (o := Oper.mk (some 74) _ _ _ _ _) rfl (fun K hK => ?_) AllReadyH.nil
  go_simp
  refine (H20.out _).mono ?_
  rintro e w13 ⟨rfl, h13⟩
  have hNext := hHeld.call h13
  refine hK.out _ _ hNext (fun _ => ?_)
  clear hK K hHeld h13
  have hHeld := hNext
  clear hNext
  try simp only [Act.put, List.setIfInBounds_toArray, List.set_cons_zero, List.set_cons_succ]
  refine wpAnyH_take (i := 6) (oi := Oper.mk (some 75) _ _ _ _ _) (v := ?_) rfl (by kernel_rfl) (by kernel_rfl) (by kernel_rfl) (fun _ _ _ h => h) (Or.inl ⟨by rfl, ?_⟩) (by assumption) ?_
  rotate_left
  · (intro w' hSw; (try dsimp only at hSw); go_simp; try with_reducible rfl)
  try simp only [Act.put, List.setIfInBounds_toArray, List.set_cons_zero, List.set_cons_succ]
  refine wpAnyH_take (i := 7) (oi := Oper.mk (some 68) _ _ _ _ _) (v := ?_) rfl (by kernel_rfl) (by kernel_rfl) (by kernel_rfl) (fun _ _ _ h => h) (Or.inl ⟨by rfl, ?_⟩) (by assumption) ?_
  rotate_left
  · (intro w' hSw; (try dsimp only at hSw); go_simp; try with_reducible rfl)
  try simp only [Act.put, List.setIfInBounds_toArray, List.set_cons_zero, List.set_cons_succ]
  refine wpAnyH_done (by kernel_rfl) ?_ _
  refine NoPanic.normal ?_
  have E14 := Lib.hid hHeld
  clear hHeld
  go_upto_region 16 with fail
  have q0_0 : w13.cell? ⟨w.heap.size, 0, none⟩ = some (.bool na) := (Env.at_ E14.out 4 rfl).cell 0
  have q0_1 : w13.cell? ⟨w.heap.size, 1, none⟩ = some (.string sa) := (Env.at_ E14.out 4 rfl).cell 1
  have q1_0 : w13.cell? ⟨w.heap.size + 1, 0, none⟩ = some (.bool nb) := (Env.at_ E14.out 3 rfl).cell 0
  have q1_1 : w13.cell? ⟨w.heap.size + 1, 1, none⟩ = some (.string sb) := (Env.at_ E14.out 3 rfl).cell 1
  go_wp2_with fail
  refine (HB2.out _).mono ?_
  rintro e w15 ⟨rfl, h15⟩
  have E16 := Lib.hid ((Env.other E14.out (.cells #[.bool na, .string sa, .bool nb, .string sb] 26)).call h15)
  clear q0_0 q0_1 q1_0 q1_1 h15
  go_upto_region 18 with fail
  have q1_1 : w15.cell? ⟨w.heap.size + 1, 1, none⟩ = some (.string sb) := (Env.at_ E16.out 3 rfl).cell 1
  go_upto_region 20 with fail
  clear q1_1
  have q0_0 : w15.cell? ⟨w.heap.size, 0, none⟩ = some (.bool na) := (Env.at_ E16.out 4 rfl).cell 0
  have q0_1 : w15.cell? ⟨w.heap.size, 1, none⟩ = some (.string sa) := (Env.at_ E16.out 4 rfl).cell 1
  have q1_0 : w15.cell? ⟨w.heap.size + 1, 0, none⟩ = some (.bool nb) := (Env.at_ E16.out 3 rfl).cell 0
  have q1_1 : w15.cell? ⟨w.heap.size + 1, 1, none⟩ = some (.string sb) := (Env.at_ E16.out 3 rfl).cell 1
  go_wp2_with fail
  refine (H25.out _).mono ?_
  rintro e w17 ⟨rfl, h17⟩
  have E18 := Lib.hid (E16.out.call h17)
  clear q0_0 q0_1 q1_0 q1_1 h17
  go_upto_region 21 with fail
  have E19 : Hid (Env w ((w17.alloc (.cells #[.bool sq, .string bq] 26)).alloc (.cells #[.bool sr, .string br] 26)) [(w17.heap.size + 1, 26, #[.bool sr, .string br]), (w17.heap.size, 26, #[.bool sq, .string bq]), (w7.heap.size, 26, #[.bool false, .string ⟨#[]⟩]), (w4.heap.size + 1, 26, #[.bool sr, .string br]), (w4.heap.size, 26, #[.bool sq, .string bq]), (w.heap.size + 1, 26, #[.bool nb, .string sb]), (w.heap.size, 26, #[.bool na, .string sa])]) := Lib.hid (by have h := (Env.new (Env.new E18.out 26 #[.bool sq, .string bq]) 26 #[.bool sr, .string br]); (try simp only [World.size_alloc] at h); exact h)
  generalize ((w17.alloc (.cells #[.bool sq, .string bq] 26)).alloc (.cells #[.bool sr, .string br] 26)) = W19 at E19 ⊢
  have q0_0 : W19.cell? ⟨w4.heap.size, 0, none⟩ = some (.bool sq) := (Env.at_ E19.out 4 rfl).cell 0
  have q0_1 : W19.cell? ⟨w4.heap.size, 1, none⟩ = some (.string bq) := (Env.at_ E19.out 4 rfl).cell 1
  have q1_0 : W19.cell? ⟨w17.heap.size, 0, none⟩ = some (.bool sq) := (Env.at_ E19.out 1 rfl).cell 0
  have q1_1 : W19.cell? ⟨w17.heap.size, 1, none⟩ = some (.string bq) := (Env.at_ E19.out 1 rfl).cell 1
  have q4_0 : W19.cell? ⟨w4.heap.size + 1, 0, none⟩ = some (.bool sr) := (Env.at_ E19.out 3 rfl).cell 0
  have q4_1 : W19.cell? ⟨w4.heap.size + 1, 1, none⟩ = some (.string br) := (Env.at_ E19.out 3 rfl).cell 1
  have q5_0 : W19.cell? ⟨w17.heap.size + 1, 0, none⟩ = some (.bool sr) := (Env.at_ E19.out 0 rfl).cell 0
  have q5_1 : W19.cell? ⟨w17.heap.size + 1, 1, none⟩ = some (.string br) := (Env.at_ E19.out 0 rfl).cell 1
  go_wp2_with fail
  refine (HN.out _ 0).mono ?_
  rintro e w20 ⟨rfl, h20⟩
  subst h20
  have E21 := Lib.hid (E19.out)
  clear q0_0 q0_1 q1_0 q1_1 q4_0 q4_1 q5_0 q5_1
  go_wp2_with fail
  refine (HW.out _).mono ?_
  rintro e w22 ⟨rfl, h22⟩
  have E23 := Lib.hid (E21.out.call h22)
  clear h22
  go_wp2_with fail
  go_ret
  exact ⟨rfl, E23.out.1⟩
theorem divs_may {w : World} {na nb : Bool} {sa sb : ByteArray} {n : Int} (hl : (isLong (na, sa) || isLong (nb, sb)) = false) (hn1 : -9223372036854775808 ≤ n) (hn2 : n ≤ 9223372036854775807) (hm : MayL na sa.data.toList) :
    Calls Try.prog 4 #[.agg #[.bool na, .string sa], .agg #[.bool nb, .string sb], .int .i64 n] w (fun e w' => e = .returned (.bool true) ∧ Below w.heap.size w w') := by
  obtain ⟨hl1, hl2⟩ := Bool.or_eq_false_iff.1 hl
  have ha := short_of hl1 hm
  dsimp only at ha
  rcases Nat.eq_zero_or_pos sa.size with h0 | h0
  · obtain ⟨rfl, rfl⟩ := may_none hm h0
    by_cases hk : MayL nb sb.data.toList
    · rcases Nat.eq_zero_or_pos sb.size with h1 | h1
      · obtain ⟨rfl, rfl⟩ := may_none hk h1
        exact divs_zero_bzero hl hn1 hn2
      · exact divs_zero_ok hl hn1 hn2 hk h1 (short_of hl2 hk)
    · exact divs_zero_bad hl hn1 hn2 hk
  · by_cases hk : MayL nb sb.data.toList
    · rcases Nat.eq_zero_or_pos sb.size with h1 | h1
      · obtain ⟨rfl, rfl⟩ := may_none hk h1
        rcases Int.lt_or_le 131072 n with h | h
        · exact divs_far_bzero hl hn1 hn2 hm h0 ha h
        · by_cases hf : fits (shf (num (na, sa)) n)
          · exact divs_yes_bzero hl hn1 hn2 hm h0 ha h hf
          · exact divs_no_bzero hl hn1 hn2 hm h0 ha h hf
      · rcases Int.lt_or_le 131072 n with h | h
        · exact divs_far_ok hl hn1 hn2 hm h0 ha h hk h1 (short_of hl2 hk)
        · by_cases hf : fits (shf (num (na, sa)) n)
          · exact divs_yes_ok hl hn1 hn2 hm h0 ha h hf hk h1 (short_of hl2 hk)
          · exact divs_no_ok hl hn1 hn2 hm h0 ha h hf hk h1 (short_of hl2 hk)
    · rcases Int.lt_or_le 131072 n with h | h
      · exact divs_far_bad hl hn1 hn2 hm h0 ha h hk
      · by_cases hf : fits (shf (num (na, sa)) n)
        · exact divs_yes_bad hl hn1 hn2 hm h0 ha h hf hk
        · exact divs_no_bad hl hn1 hn2 hm h0 ha h hf hk
theorem divs_any {w : World} {na nb : Bool} {sa sb : ByteArray} {n : Int} (hn1 : -9223372036854775808 ≤ n) (hn2 : n ≤ 9223372036854775807) :
    Calls Try.prog 4 #[.agg #[.bool na, .string sa], .agg #[.bool nb, .string sb], .int .i64 n] w (fun e w' => e = .returned (.bool true) ∧ Below w.heap.size w w') := by
  by_cases hl : (isLong (na, sa) || isLong (nb, sb)) = true
  · exact divs_long hl
  have hl := Bool.not_eq_true _ ▸ hl
  by_cases hm : MayL na sa.data.toList
  · exact divs_may hl hn1 hn2 hm
  · exact divs_bad hl hn1 hn2 hm
end Go.Proofs.Ytpnginnjbdedbaa
