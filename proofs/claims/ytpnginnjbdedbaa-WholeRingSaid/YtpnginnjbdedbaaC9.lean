import Derived.Test.YtpnginnjbdedbaaC8
import Derived.Test.YtpnginnjbdedbaaC4
import Derived.Test.YtpnginnjbdedbaaC7
import Derived.Test.YtpnginnjbdedbaaC6
import Derived.WalkMore
/- law.three (printed by gen_three.py). -/
namespace Go.Proofs.Ytpnginnjbdedbaa
open Go.RowKit
open Wh
set_option linter.unusedSimpArgs false
set_option linter.unusedVariables false

theorem sg_cmp (x y : Int) : sg (x - y) = cmpI x y := by
  unfold sg cmpI
  by_cases h1 : x < y
  · rw [if_pos h1, if_neg (by omega), if_pos (by omega)]
  · by_cases h2 : x = y
    · subst h2; simp
    · rw [if_neg h1, if_neg (by omega), if_neg (by omega), if_pos (by omega)]
set_option maxRecDepth 100000 in
set_option maxHeartbeats 8000000 in
theorem three_any {w : World} {na nb nc : Bool} {sa sb sc : ByteArray} (ma : MayL na sa.data.toList) (mb : MayL nb sb.data.toList) (mc : MayL nc sc.data.toList) (ha : sa.size ≤ 400) (hb : sb.size ≤ 400) (hc : sc.size ≤ 400) :
    Calls Try.prog 59 #[.agg #[.bool na, .string sa], .agg #[.bool nb, .string sb], .agg #[.bool nc, .string sc]] w (fun e w' => e = .returned (.bool true) ∧ Below w.heap.size w w') := by
  have Sx := may_sb (n := na) ha
  have Sy := may_sb (n := nb) hb
  have Sz := may_sb (n := nc) hc
  have fq : fits (num (na, sa) + num (nb, sb)) := (Sx.add Sy).fits (by decide)
  obtain ⟨sq, bq, eq, nq, mq⟩ := enc_form fq
  have ft : fits (num (nb, sb) + num (nc, sc)) := (Sy.add Sz).fits (by decide)
  obtain ⟨st, bt, et, nt, mt⟩ := enc_form ft
  have fx : fits (num (na, sa) + num (nb, sb) + num (nc, sc)) := ((Sx.add Sy).add (Sz.mono (by decide))).fits (by decide)
  obtain ⟨sx, bx, ex, nx, mx⟩ := enc_form fx
  have fp : fits (num (na, sa) * num (nb, sb)) := (Sx.mul Sy).fits (by decide)
  obtain ⟨sp, bp, ep, np, mp⟩ := enc_form fp
  have fo : fits (num (na, sa) * num (nb, sb) * num (nc, sc)) := ((Sx.mul Sy).mul Sz).fits (by decide)
  obtain ⟨so, bo, eo, no, mo⟩ := enc_form fo
  have fr : fits (num (nb, sb) * num (nc, sc)) := (Sy.mul Sz).fits (by decide)
  obtain ⟨sr, br, er, nr, mr⟩ := enc_form fr
  have fh : fits (num (na, sa) * num (nc, sc)) := (Sx.mul Sz).fits (by decide)
  obtain ⟨sh, bh, eh, nh, mh⟩ := enc_form fh
  have fm : fits (num (na, sa) * num (nc, sc) + num (nb, sb) * num (nc, sc)) := ((Sx.mul Sz).add (Sy.mul Sz)).fits (by decide)
  obtain ⟨sm, bm, em, nm, mm⟩ := enc_form fm
  have fd : fits (num (na, sa) - num (nb, sb)) := (Sx.sub Sy).fits (by decide)
  obtain ⟨sd, bd, ed, nd, md⟩ := enc_form fd
  have H1 := Lib.hid (fun W : World => add_told (w := W) (And.intro ma mb : May2 (na, sa) (nb, sb)) rfl fq eq)
  have H2 := Lib.hid (fun W : World => add_told (w := W) (And.intro mb mc : May2 (nb, sb) (nc, sc)) rfl ft et)
  have H3 := Lib.hid (fun W : World => add_told (w := W) (And.intro mq mc : May2 (sq, bq) (nc, sc)) (show num (sq, bq) + num (nc, sc) = _ by rw [nq]) fx ex)
  have H4 := Lib.hid (fun W : World => add_told (w := W) (And.intro ma mt : May2 (na, sa) (st, bt)) (show num (na, sa) + num (st, bt) = _ by rw [nt, Int.add_assoc]) fx ex)
  have H5 := Lib.hid (fun W : World => sub_told (w := W) (And.intro mq mb : May2 (sq, bq) (nb, sb)) (show num (sq, bq) - num (nb, sb) = num (na, sa) by rw [nq]; omega) (Sx.fits (by decide)) (may_num ma))
  have H6 := Lib.hid (fun W : World => mul_told (w := W) (And.intro ma mb : May2 (na, sa) (nb, sb)) rfl fp ep)
  have H7 := Lib.hid (fun W : World => mul_told (w := W) (And.intro mb ma : May2 (nb, sb) (na, sa)) (Int.mul_comm _ _) fp ep)
  have H8 := Lib.hid (fun W : World => mul_told (w := W) (And.intro mp mc : May2 (sp, bp) (nc, sc)) (show num (sp, bp) * num (nc, sc) = _ by rw [np]) fo eo)
  have H9 := Lib.hid (fun W : World => mul_told (w := W) (And.intro mb mc : May2 (nb, sb) (nc, sc)) rfl fr er)
  have H10 := Lib.hid (fun W : World => mul_told (w := W) (And.intro ma mr : May2 (na, sa) (sr, br)) (show num (na, sa) * num (sr, br) = _ by rw [nr, Int.mul_assoc]) fo eo)
  have H11 := Lib.hid (fun W : World => mul_told (w := W) (And.intro ma mc : May2 (na, sa) (nc, sc)) rfl fh eh)
  have H12 := Lib.hid (fun W : World => add_told (w := W) (And.intro mh mr : May2 (sh, bh) (sr, br)) (show num (sh, bh) + num (sr, br) = _ by rw [nh, nr]) fm em)
  have H13 := Lib.hid (fun W : World => mul_told (w := W) (And.intro mq mc : May2 (sq, bq) (nc, sc)) (show num (sq, bq) * num (nc, sc) = _ by rw [nq, Int.add_mul]) fm em)
  have H14 := Lib.hid (fun W : World => sub_told (w := W) (And.intro ma mb : May2 (na, sa) (nb, sb)) rfl fd ed)
  have H15 := Lib.hid (fun W : World => cmp_told (w := W) (And.intro ma mb : May2 (na, sa) (nb, sb)))
  have H16 := Lib.hid (fun W : World => sign_told (w := W) md)
  rw [nd, sg_cmp] at H16
  generalize cmpI (num (na, sa)) (num (nb, sb)) = zc at *
  clear ma mb mc ha hb hc Sx Sy Sz fq eq nq mq ft et nt mt fx ex nx mx fp ep np mp fo eo no mo fr er nr mr fh eh nh mh fm em nm mm fd ed nd md
  have E0 := Lib.hid (Env.nil w)
  go_enter Try.func59, Try.ntmps59
  go_upto_region 0 with fail
  go_upto_region 1 with fail
  have E1 : Hid (Env w (((w.alloc (.cells #[.bool na, .string sa] 26)).alloc (.cells #[.bool nb, .string sb] 26)).alloc (.cells #[.bool nc, .string sc] 26)) [(w.heap.size + 1 + 1, 26, #[.bool nc, .string sc]), (w.heap.size + 1, 26, #[.bool nb, .string sb]), (w.heap.size, 26, #[.bool na, .string sa])]) := Lib.hid (by have h := (Env.new (Env.new (Env.new E0.out 26 #[.bool na, .string sa]) 26 #[.bool nb, .string sb]) 26 #[.bool nc, .string sc]); (try simp only [World.size_alloc] at h); exact h)
  generalize (((w.alloc (.cells #[.bool na, .string sa] 26)).alloc (.cells #[.bool nb, .string sb] 26)).alloc (.cells #[.bool nc, .string sc] 26)) = W1 at E1 ⊢
  have q0_0 : W1.cell? ⟨w.heap.size, 0, none⟩ = some (.bool na) := (Env.at_ E1.out 2 rfl).cell 0
  have q0_1 : W1.cell? ⟨w.heap.size, 1, none⟩ = some (.string sa) := (Env.at_ E1.out 2 rfl).cell 1
  have q1_0 : W1.cell? ⟨w.heap.size + 1, 0, none⟩ = some (.bool nb) := (Env.at_ E1.out 1 rfl).cell 0
  have q1_1 : W1.cell? ⟨w.heap.size + 1, 1, none⟩ = some (.string sb) := (Env.at_ E1.out 1 rfl).cell 1
  go_wp2_with fail
  refine (H1.out _).mono ?_
  rintro e w2 ⟨rfl, h2⟩
  have E3 := Lib.hid (E1.out.call h2)
  clear q0_0 q0_1 q1_0 q1_1 h2
  go_upto_region 2 with fail
  have E4 : Hid (Env w (w2.alloc (.cells #[.bool sq, .string bq] 26)) [(w2.heap.size, 26, #[.bool sq, .string bq]), (w.heap.size + 1 + 1, 26, #[.bool nc, .string sc]), (w.heap.size + 1, 26, #[.bool nb, .string sb]), (w.heap.size, 26, #[.bool na, .string sa])]) := Lib.hid (by have h := (Env.new E3.out 26 #[.bool sq, .string bq]); (try simp only [World.size_alloc] at h); exact h)
  generalize (w2.alloc (.cells #[.bool sq, .string bq] 26)) = W4 at E4 ⊢
  have q0_0 : W4.cell? ⟨w.heap.size + 1, 0, none⟩ = some (.bool nb) := (Env.at_ E4.out 2 rfl).cell 0
  have q0_1 : W4.cell? ⟨w.heap.size + 1, 1, none⟩ = some (.string sb) := (Env.at_ E4.out 2 rfl).cell 1
  have q1_0 : W4.cell? ⟨w.heap.size + 1 + 1, 0, none⟩ = some (.bool nc) := (Env.at_ E4.out 1 rfl).cell 0
  have q1_1 : W4.cell? ⟨w.heap.size + 1 + 1, 1, none⟩ = some (.string sc) := (Env.at_ E4.out 1 rfl).cell 1
  go_wp2_with fail
  refine (H2.out _).mono ?_
  rintro e w5 ⟨rfl, h5⟩
  have E6 := Lib.hid (E4.out.call h5)
  clear q0_0 q0_1 q1_0 q1_1 h5
  go_upto_region 3 with fail
  have E7 : Hid (Env w (w5.alloc (.cells #[.bool st, .string bt] 26)) [(w5.heap.size, 26, #[.bool st, .string bt]), (w2.heap.size, 26, #[.bool sq, .string bq]), (w.heap.size + 1 + 1, 26, #[.bool nc, .string sc]), (w.heap.size + 1, 26, #[.bool nb, .string sb]), (w.heap.size, 26, #[.bool na, .string sa])]) := Lib.hid (by have h := (Env.new E6.out 26 #[.bool st, .string bt]); (try simp only [World.size_alloc] at h); exact h)
  generalize (w5.alloc (.cells #[.bool st, .string bt] 26)) = W7 at E7 ⊢
  have q0_0 : W7.cell? ⟨w2.heap.size, 0, none⟩ = some (.bool sq) := (Env.at_ E7.out 1 rfl).cell 0
  have q0_1 : W7.cell? ⟨w2.heap.size, 1, none⟩ = some (.string bq) := (Env.at_ E7.out 1 rfl).cell 1
  have q1_0 : W7.cell? ⟨w.heap.size + 1 + 1, 0, none⟩ = some (.bool nc) := (Env.at_ E7.out 2 rfl).cell 0
  have q1_1 : W7.cell? ⟨w.heap.size + 1 + 1, 1, none⟩ = some (.string sc) := (Env.at_ E7.out 2 rfl).cell 1
  go_wp2_with fail
  refine (H3.out _).mono ?_
  rintro e w8 ⟨rfl, h8⟩
  have E9 := Lib.hid (E7.out.call h8)
  clear q0_0 q0_1 q1_0 q1_1 h8
  go_upto_region 4 with fail
  have E10 : Hid (Env w (w8.alloc (.cells #[.bool sx, .string bx] 26)) [(w8.heap.size, 26, #[.bool sx, .string bx]), (w5.heap.size, 26, #[.bool st, .string bt]), (w2.heap.size, 26, #[.bool sq, .string bq]), (w.heap.size + 1 + 1, 26, #[.bool nc, .string sc]), (w.heap.size + 1, 26, #[.bool nb, .string sb]), (w.heap.size, 26, #[.bool na, .string sa])]) := Lib.hid (by have h := (Env.new E9.out 26 #[.bool sx, .string bx]); (try simp only [World.size_alloc] at h); exact h)
  generalize (w8.alloc (.cells #[.bool sx, .string bx] 26)) = W10 at E10 ⊢
  have q0_0 : W10.cell? ⟨w.heap.size, 0, none⟩ = some (.bool na) := (Env.at_ E10.out 5 rfl).cell 0
  have q0_1 : W10.cell? ⟨w.heap.size, 1, none⟩ = some (.string sa) := (Env.at_ E10.out 5 rfl).cell 1
  have q1_0 : W10.cell? ⟨w5.heap.size, 0, none⟩ = some (.bool st) := (Env.at_ E10.out 1 rfl).cell 0
  have q1_1 : W10.cell? ⟨w5.heap.size, 1, none⟩ = some (.string bt) := (Env.at_ E10.out 1 rfl).cell 1
  go_wp2_with fail
  refine (H4.out _).mono ?_
  rintro e w11 ⟨rfl, h11⟩
  have E12 := Lib.hid (E10.out.call h11)
  clear q0_0 q0_1 q1_0 q1_1 h11
  go_upto_region 5 with fail
  have E13 : Hid (Env w (w11.alloc (.cells #[.bool sx, .string bx] 26)) [(w11.heap.size, 26, #[.bool sx, .string bx]), (w8.heap.size, 26, #[.bool sx, .string bx]), (w5.heap.size, 26, #[.bool st, .string bt]), (w2.heap.size, 26, #[.bool sq, .string bq]), (w.heap.size + 1 + 1, 26, #[.bool nc, .string sc]), (w.heap.size + 1, 26, #[.bool nb, .string sb]), (w.heap.size, 26, #[.bool na, .string sa])]) := Lib.hid (by have h := (Env.new E12.out 26 #[.bool sx, .string bx]); (try simp only [World.size_alloc] at h); exact h)
  generalize (w11.alloc (.cells #[.bool sx, .string bx] 26)) = W13 at E13 ⊢
  have q0_0 : W13.cell? ⟨w2.heap.size, 0, none⟩ = some (.bool sq) := (Env.at_ E13.out 3 rfl).cell 0
  have q0_1 : W13.cell? ⟨w2.heap.size, 1, none⟩ = some (.string bq) := (Env.at_ E13.out 3 rfl).cell 1
  have q1_0 : W13.cell? ⟨w.heap.size + 1, 0, none⟩ = some (.bool nb) := (Env.at_ E13.out 5 rfl).cell 0
  have q1_1 : W13.cell? ⟨w.heap.size + 1, 1, none⟩ = some (.string sb) := (Env.at_ E13.out 5 rfl).cell 1
  go_wp2_with fail
  refine (H5.out _).mono ?_
  rintro e w14 ⟨rfl, h14⟩
  have E15 := Lib.hid (E13.out.call h14)
  clear q0_0 q0_1 q1_0 q1_1 h14
  go_upto_region 6 with fail
  have E16 : Hid (Env w (w14.alloc (.cells #[.bool na, .string sa] 26)) [(w14.heap.size, 26, #[.bool na, .string sa]), (w11.heap.size, 26, #[.bool sx, .string bx]), (w8.heap.size, 26, #[.bool sx, .string bx]), (w5.heap.size, 26, #[.bool st, .string bt]), (w2.heap.size, 26, #[.bool sq, .string bq]), (w.heap.size + 1 + 1, 26, #[.bool nc, .string sc]), (w.heap.size + 1, 26, #[.bool nb, .string sb]), (w.heap.size, 26, #[.bool na, .string sa])]) := Lib.hid (by have h := (Env.new E15.out 26 #[.bool na, .string sa]); (try simp only [World.size_alloc] at h); exact h)
  generalize (w14.alloc (.cells #[.bool na, .string sa] 26)) = W16 at E16 ⊢
  have q0_0 : W16.cell? ⟨w.heap.size, 0, none⟩ = some (.bool na) := (Env.at_ E16.out 7 rfl).cell 0
  have q0_1 : W16.cell? ⟨w.heap.size, 1, none⟩ = some (.string sa) := (Env.at_ E16.out 7 rfl).cell 1
  have q1_0 : W16.cell? ⟨w.heap.size + 1, 0, none⟩ = some (.bool nb) := (Env.at_ E16.out 6 rfl).cell 0
  have q1_1 : W16.cell? ⟨w.heap.size + 1, 1, none⟩ = some (.string sb) := (Env.at_ E16.out 6 rfl).cell 1
  go_wp2_with fail
  refine (H6.out _).mono ?_
  rintro e w17 ⟨rfl, h17⟩
  have E18 := Lib.hid (E16.out.call h17)
  clear q0_0 q0_1 q1_0 q1_1 h17
  go_upto_region 7 with fail
  have E19 : Hid (Env w (w17.alloc (.cells #[.bool sp, .string bp] 26)) [(w17.heap.size, 26, #[.bool sp, .string bp]), (w14.heap.size, 26, #[.bool na, .string sa]), (w11.heap.size, 26, #[.bool sx, .string bx]), (w8.heap.size, 26, #[.bool sx, .string bx]), (w5.heap.size, 26, #[.bool st, .string bt]), (w2.heap.size, 26, #[.bool sq, .string bq]), (w.heap.size + 1 + 1, 26, #[.bool nc, .string sc]), (w.heap.size + 1, 26, #[.bool nb, .string sb]), (w.heap.size, 26, #[.bool na, .string sa])]) := Lib.hid (by have h := (Env.new E18.out 26 #[.bool sp, .string bp]); (try simp only [World.size_alloc] at h); exact h)
  generalize (w17.alloc (.cells #[.bool sp, .string bp] 26)) = W19 at E19 ⊢
  have q0_0 : W19.cell? ⟨w.heap.size + 1, 0, none⟩ = some (.bool nb) := (Env.at_ E19.out 7 rfl).cell 0
  have q0_1 : W19.cell? ⟨w.heap.size + 1, 1, none⟩ = some (.string sb) := (Env.at_ E19.out 7 rfl).cell 1
  have q1_0 : W19.cell? ⟨w.heap.size, 0, none⟩ = some (.bool na) := (Env.at_ E19.out 8 rfl).cell 0
  have q1_1 : W19.cell? ⟨w.heap.size, 1, none⟩ = some (.string sa) := (Env.at_ E19.out 8 rfl).cell 1
  go_wp2_with fail
  refine (H7.out _).mono ?_
  rintro e w20 ⟨rfl, h20⟩
  have E21 := Lib.hid (E19.out.call h20)
  clear q0_0 q0_1 q1_0 q1_1 h20
  go_upto_region 8 with fail
  have E22 : Hid (Env w (w20.alloc (.cells #[.bool sp, .string bp] 26)) [(w20.heap.size, 26, #[.bool sp, .string bp]), (w17.heap.size, 26, #[.bool sp, .string bp]), (w14.heap.size, 26, #[.bool na, .string sa]), (w11.heap.size, 26, #[.bool sx, .string bx]), (w8.heap.size, 26, #[.bool sx, .string bx]), (w5.heap.size, 26, #[.bool st, .string bt]), (w2.heap.size, 26, #[.bool sq, .string bq]), (w.heap.size + 1 + 1, 26, #[.bool nc, .string sc]), (w.heap.size + 1, 26, #[.bool nb, .string sb]), (w.heap.size, 26, #[.bool na, .string sa])]) := Lib.hid (by have h := (Env.new E21.out 26 #[.bool sp, .string bp]); (try simp only [World.size_alloc] at h); exact h)
  generalize (w20.alloc (.cells #[.bool sp, .string bp] 26)) = W22 at E22 ⊢
  go_wp2_with fail
  refine (ok_told (n := 7) (by decide)).mono ?_
  rintro e w23 ⟨rfl, h23⟩
  subst h23
  have E24 := Lib.hid ((Env.other E22.out (.cells #[.int .i64 0, .int .i64 0, .int .i64 0, .int .i64 0, .int .i64 0, .int .i64 0, .int .i64 0] 27)))
  have q11_0 : (W22.alloc (.cells #[.int .i64 0, .int .i64 0, .int .i64 0, .int .i64 0, .int .i64 0, .int .i64 0, .int .i64 0] 27)).cell? ⟨w8.heap.size, 0, none⟩ = some (.bool sx) := (Env.at_ E24.out 4 rfl).cell 0
  have q11_1 : (W22.alloc (.cells #[.int .i64 0, .int .i64 0, .int .i64 0, .int .i64 0, .int .i64 0, .int .i64 0, .int .i64 0] 27)).cell? ⟨w8.heap.size, 1, none⟩ = some (.string bx) := (Env.at_ E24.out 4 rfl).cell 1
  have q12_0 : (W22.alloc (.cells #[.int .i64 0, .int .i64 0, .int .i64 0, .int .i64 0, .int .i64 0, .int .i64 0, .int .i64 0] 27)).cell? ⟨w11.heap.size, 0, none⟩ = some (.bool sx) := (Env.at_ E24.out 3 rfl).cell 0
  have q12_1 : (W22.alloc (.cells #[.int .i64 0, .int .i64 0, .int .i64 0, .int .i64 0, .int .i64 0, .int .i64 0, .int .i64 0] 27)).cell? ⟨w11.heap.size, 1, none⟩ = some (.string bx) := (Env.at_ E24.out 3 rfl).cell 1
  have q16_0 : (W22.alloc (.cells #[.int .i64 0, .int .i64 0, .int .i64 0, .int .i64 0, .int .i64 0, .int .i64 0, .int .i64 0] 27)).cell? ⟨w14.heap.size, 0, none⟩ = some (.bool na) := (Env.at_ E24.out 2 rfl).cell 0
  have q16_1 : (W22.alloc (.cells #[.int .i64 0, .int .i64 0, .int .i64 0, .int .i64 0, .int .i64 0, .int .i64 0, .int .i64 0] 27)).cell? ⟨w14.heap.size, 1, none⟩ = some (.string sa) := (Env.at_ E24.out 2 rfl).cell 1
  have q17_0 : (W22.alloc (.cells #[.int .i64 0, .int .i64 0, .int .i64 0, .int .i64 0, .int .i64 0, .int .i64 0, .int .i64 0] 27)).cell? ⟨w.heap.size, 0, none⟩ = some (.bool na) := (Env.at_ E24.out 9 rfl).cell 0
  have q17_1 : (W22.alloc (.cells #[.int .i64 0, .int .i64 0, .int .i64 0, .int .i64 0, .int .i64 0, .int .i64 0, .int .i64 0] 27)).cell? ⟨w.heap.size, 1, none⟩ = some (.string sa) := (Env.at_ E24.out 9 rfl).cell 1
  have q21_0 : (W22.alloc (.cells #[.int .i64 0, .int .i64 0, .int .i64 0, .int .i64 0, .int .i64 0, .int .i64 0, .int .i64 0] 27)).cell? ⟨w17.heap.size, 0, none⟩ = some (.bool sp) := (Env.at_ E24.out 1 rfl).cell 0
  have q21_1 : (W22.alloc (.cells #[.int .i64 0, .int .i64 0, .int .i64 0, .int .i64 0, .int .i64 0, .int .i64 0, .int .i64 0] 27)).cell? ⟨w17.heap.size, 1, none⟩ = some (.string bp) := (Env.at_ E24.out 1 rfl).cell 1
  have q22_0 : (W22.alloc (.cells #[.int .i64 0, .int .i64 0, .int .i64 0, .int .i64 0, .int .i64 0, .int .i64 0, .int .i64 0] 27)).cell? ⟨w20.heap.size, 0, none⟩ = some (.bool sp) := (Env.at_ E24.out 0 rfl).cell 0
  have q22_1 : (W22.alloc (.cells #[.int .i64 0, .int .i64 0, .int .i64 0, .int .i64 0, .int .i64 0, .int .i64 0, .int .i64 0] 27)).cell? ⟨w20.heap.size, 1, none⟩ = some (.string bp) := (Env.at_ E24.out 0 rfl).cell 1
  go_upto_region 10 with fail
  have E25 : Hid (Env w (W22.alloc (.cells #[.int .i64 0, .int .i64 0, .int .i64 0, .int .i64 0, .int .i64 0, .int .i64 0, .int .i64 0] 27)) [(w20.heap.size, 26, #[.bool sp, .string bp]), (w17.heap.size, 26, #[.bool sp, .string bp]), (w14.heap.size, 26, #[.bool na, .string sa]), (w11.heap.size, 26, #[.bool sx, .string bx]), (w8.heap.size, 26, #[.bool sx, .string bx]), (w5.heap.size, 26, #[.bool st, .string bt]), (w2.heap.size, 26, #[.bool sq, .string bq]), (w.heap.size + 1 + 1, 26, #[.bool nc, .string sc]), (w.heap.size + 1, 26, #[.bool nb, .string sb]), (w.heap.size, 26, #[.bool na, .string sa])]) := Lib.hid (by have h := E24.out; (try simp only [World.size_alloc] at h); exact h)
  clear q11_0 q11_1 q12_0 q12_1 q16_0 q16_1 q17_0 q17_1 q21_0 q21_1 q22_0 q22_1
  generalize (W22.alloc (.cells #[.int .i64 0, .int .i64 0, .int .i64 0, .int .i64 0, .int .i64 0, .int .i64 0, .int .i64 0] 27)) = W25 at E25 ⊢
  have q0_0 : W25.cell? ⟨w17.heap.size, 0, none⟩ = some (.bool sp) := (Env.at_ E25.out 1 rfl).cell 0
  have q0_1 : W25.cell? ⟨w17.heap.size, 1, none⟩ = some (.string bp) := (Env.at_ E25.out 1 rfl).cell 1
  have q1_0 : W25.cell? ⟨w.heap.size + 1 + 1, 0, none⟩ = some (.bool nc) := (Env.at_ E25.out 7 rfl).cell 0
  have q1_1 : W25.cell? ⟨w.heap.size + 1 + 1, 1, none⟩ = some (.string sc) := (Env.at_ E25.out 7 rfl).cell 1
  go_wp2_with fail
  refine (H8.out _).mono ?_
  rintro e w26 ⟨rfl, h26⟩
  have E27 := Lib.hid (E25.out.call h26)
  clear q0_0 q0_1 q1_0 q1_1 h26
  go_upto_region 11 with fail
  have E28 : Hid (Env w (w26.alloc (.cells #[.bool so, .string bo] 26)) [(w26.heap.size, 26, #[.bool so, .string bo]), (w20.heap.size, 26, #[.bool sp, .string bp]), (w17.heap.size, 26, #[.bool sp, .string bp]), (w14.heap.size, 26, #[.bool na, .string sa]), (w11.heap.size, 26, #[.bool sx, .string bx]), (w8.heap.size, 26, #[.bool sx, .string bx]), (w5.heap.size, 26, #[.bool st, .string bt]), (w2.heap.size, 26, #[.bool sq, .string bq]), (w.heap.size + 1 + 1, 26, #[.bool nc, .string sc]), (w.heap.size + 1, 26, #[.bool nb, .string sb]), (w.heap.size, 26, #[.bool na, .string sa])]) := Lib.hid (by have h := (Env.new E27.out 26 #[.bool so, .string bo]); (try simp only [World.size_alloc] at h); exact h)
  generalize (w26.alloc (.cells #[.bool so, .string bo] 26)) = W28 at E28 ⊢
  have q0_0 : W28.cell? ⟨w.heap.size + 1, 0, none⟩ = some (.bool nb) := (Env.at_ E28.out 9 rfl).cell 0
  have q0_1 : W28.cell? ⟨w.heap.size + 1, 1, none⟩ = some (.string sb) := (Env.at_ E28.out 9 rfl).cell 1
  have q1_0 : W28.cell? ⟨w.heap.size + 1 + 1, 0, none⟩ = some (.bool nc) := (Env.at_ E28.out 8 rfl).cell 0
  have q1_1 : W28.cell? ⟨w.heap.size + 1 + 1, 1, none⟩ = some (.string sc) := (Env.at_ E28.out 8 rfl).cell 1
  go_wp2_with fail
  refine (H9.out _).mono ?_
  rintro e w29 ⟨rfl, h29⟩
  have E30 := Lib.hid (E28.out.call h29)
  clear q0_0 q0_1 q1_0 q1_1 h29
  go_upto_region 12 with fail
  have E31 : Hid (Env w (w29.alloc (.cells #[.bool sr, .string br] 26)) [(w29.heap.size, 26, #[.bool sr, .string br]), (w26.heap.size, 26, #[.bool so, .string bo]), (w20.heap.size, 26, #[.bool sp, .string bp]), (w17.heap.size, 26, #[.bool sp, .string bp]), (w14.heap.size, 26, #[.bool na, .string sa]), (w11.heap.size, 26, #[.bool sx, .string bx]), (w8.heap.size, 26, #[.bool sx, .string bx]), (w5.heap.size, 26, #[.bool st, .string bt]), (w2.heap.size, 26, #[.bool sq, .string bq]), (w.heap.size + 1 + 1, 26, #[.bool nc, .string sc]), (w.heap.size + 1, 26, #[.bool nb, .string sb]), (w.heap.size, 26, #[.bool na, .string sa])]) := Lib.hid (by have h := (Env.new E30.out 26 #[.bool sr, .string br]); (try simp only [World.size_alloc] at h); exact h)
  generalize (w29.alloc (.cells #[.bool sr, .string br] 26)) = W31 at E31 ⊢
  have q0_0 : W31.cell? ⟨w.heap.size, 0, none⟩ = some (.bool na) := (Env.at_ E31.out 11 rfl).cell 0
  have q0_1 : W31.cell? ⟨w.heap.size, 1, none⟩ = some (.string sa) := (Env.at_ E31.out 11 rfl).cell 1
  have q1_0 : W31.cell? ⟨w29.heap.size, 0, none⟩ = some (.bool sr) := (Env.at_ E31.out 0 rfl).cell 0
  have q1_1 : W31.cell? ⟨w29.heap.size, 1, none⟩ = some (.string br) := (Env.at_ E31.out 0 rfl).cell 1
  go_wp2_with fail
  refine (H10.out _).mono ?_
  rintro e w32 ⟨rfl, h32⟩
  have E33 := Lib.hid (E31.out.call h32)
  clear q0_0 q0_1 q1_0 q1_1 h32
  go_upto_region 13 with fail
  have E34 : Hid (Env w (w32.alloc (.cells #[.bool so, .string bo] 26)) [(w32.heap.size, 26, #[.bool so, .string bo]), (w29.heap.size, 26, #[.bool sr, .string br]), (w26.heap.size, 26, #[.bool so, .string bo]), (w20.heap.size, 26, #[.bool sp, .string bp]), (w17.heap.size, 26, #[.bool sp, .string bp]), (w14.heap.size, 26, #[.bool na, .string sa]), (w11.heap.size, 26, #[.bool sx, .string bx]), (w8.heap.size, 26, #[.bool sx, .string bx]), (w5.heap.size, 26, #[.bool st, .string bt]), (w2.heap.size, 26, #[.bool sq, .string bq]), (w.heap.size + 1 + 1, 26, #[.bool nc, .string sc]), (w.heap.size + 1, 26, #[.bool nb, .string sb]), (w.heap.size, 26, #[.bool na, .string sa])]) := Lib.hid (by have h := (Env.new E33.out 26 #[.bool so, .string bo]); (try simp only [World.size_alloc] at h); exact h)
  generalize (w32.alloc (.cells #[.bool so, .string bo] 26)) = W34 at E34 ⊢
  have q0_0 : W34.cell? ⟨w.heap.size, 0, none⟩ = some (.bool na) := (Env.at_ E34.out 12 rfl).cell 0
  have q0_1 : W34.cell? ⟨w.heap.size, 1, none⟩ = some (.string sa) := (Env.at_ E34.out 12 rfl).cell 1
  have q1_0 : W34.cell? ⟨w.heap.size + 1 + 1, 0, none⟩ = some (.bool nc) := (Env.at_ E34.out 10 rfl).cell 0
  have q1_1 : W34.cell? ⟨w.heap.size + 1 + 1, 1, none⟩ = some (.string sc) := (Env.at_ E34.out 10 rfl).cell 1
  go_wp2_with fail
  refine (H11.out _).mono ?_
  rintro e w35 ⟨rfl, h35⟩
  have E36 := Lib.hid (E34.out.call h35)
  clear q0_0 q0_1 q1_0 q1_1 h35
  go_upto_region 14 with fail
  have E37 : Hid (Env w (w35.alloc (.cells #[.bool sh, .string bh] 26)) [(w35.heap.size, 26, #[.bool sh, .string bh]), (w32.heap.size, 26, #[.bool so, .string bo]), (w29.heap.size, 26, #[.bool sr, .string br]), (w26.heap.size, 26, #[.bool so, .string bo]), (w20.heap.size, 26, #[.bool sp, .string bp]), (w17.heap.size, 26, #[.bool sp, .string bp]), (w14.heap.size, 26, #[.bool na, .string sa]), (w11.heap.size, 26, #[.bool sx, .string bx]), (w8.heap.size, 26, #[.bool sx, .string bx]), (w5.heap.size, 26, #[.bool st, .string bt]), (w2.heap.size, 26, #[.bool sq, .string bq]), (w.heap.size + 1 + 1, 26, #[.bool nc, .string sc]), (w.heap.size + 1, 26, #[.bool nb, .string sb]), (w.heap.size, 26, #[.bool na, .string sa])]) := Lib.hid (by have h := (Env.new E36.out 26 #[.bool sh, .string bh]); (try simp only [World.size_alloc] at h); exact h)
  generalize (w35.alloc (.cells #[.bool sh, .string bh] 26)) = W37 at E37 ⊢
  have q0_0 : W37.cell? ⟨w35.heap.size, 0, none⟩ = some (.bool sh) := (Env.at_ E37.out 0 rfl).cell 0
  have q0_1 : W37.cell? ⟨w35.heap.size, 1, none⟩ = some (.string bh) := (Env.at_ E37.out 0 rfl).cell 1
  have q1_0 : W37.cell? ⟨w29.heap.size, 0, none⟩ = some (.bool sr) := (Env.at_ E37.out 2 rfl).cell 0
  have q1_1 : W37.cell? ⟨w29.heap.size, 1, none⟩ = some (.string br) := (Env.at_ E37.out 2 rfl).cell 1
  go_wp2_with fail
  refine (H12.out _).mono ?_
  rintro e w38 ⟨rfl, h38⟩
  have E39 := Lib.hid (E37.out.call h38)
  clear q0_0 q0_1 q1_0 q1_1 h38
  go_upto_region 15 with fail
  have E40 : Hid (Env w (w38.alloc (.cells #[.bool sm, .string bm] 26)) [(w38.heap.size, 26, #[.bool sm, .string bm]), (w35.heap.size, 26, #[.bool sh, .string bh]), (w32.heap.size, 26, #[.bool so, .string bo]), (w29.heap.size, 26, #[.bool sr, .string br]), (w26.heap.size, 26, #[.bool so, .string bo]), (w20.heap.size, 26, #[.bool sp, .string bp]), (w17.heap.size, 26, #[.bool sp, .string bp]), (w14.heap.size, 26, #[.bool na, .string sa]), (w11.heap.size, 26, #[.bool sx, .string bx]), (w8.heap.size, 26, #[.bool sx, .string bx]), (w5.heap.size, 26, #[.bool st, .string bt]), (w2.heap.size, 26, #[.bool sq, .string bq]), (w.heap.size + 1 + 1, 26, #[.bool nc, .string sc]), (w.heap.size + 1, 26, #[.bool nb, .string sb]), (w.heap.size, 26, #[.bool na, .string sa])]) := Lib.hid (by have h := (Env.new E39.out 26 #[.bool sm, .string bm]); (try simp only [World.size_alloc] at h); exact h)
  generalize (w38.alloc (.cells #[.bool sm, .string bm] 26)) = W40 at E40 ⊢
  have q0_0 : W40.cell? ⟨w2.heap.size, 0, none⟩ = some (.bool sq) := (Env.at_ E40.out 11 rfl).cell 0
  have q0_1 : W40.cell? ⟨w2.heap.size, 1, none⟩ = some (.string bq) := (Env.at_ E40.out 11 rfl).cell 1
  have q1_0 : W40.cell? ⟨w.heap.size + 1 + 1, 0, none⟩ = some (.bool nc) := (Env.at_ E40.out 12 rfl).cell 0
  have q1_1 : W40.cell? ⟨w.heap.size + 1 + 1, 1, none⟩ = some (.string sc) := (Env.at_ E40.out 12 rfl).cell 1
  go_wp2_with fail
  refine (H13.out _).mono ?_
  rintro e w41 ⟨rfl, h41⟩
  have E42 := Lib.hid (E40.out.call h41)
  clear q0_0 q0_1 q1_0 q1_1 h41
  go_upto_region 16 with fail
  have E43 : Hid (Env w (w41.alloc (.cells #[.bool sm, .string bm] 26)) [(w41.heap.size, 26, #[.bool sm, .string bm]), (w38.heap.size, 26, #[.bool sm, .string bm]), (w35.heap.size, 26, #[.bool sh, .string bh]), (w32.heap.size, 26, #[.bool so, .string bo]), (w29.heap.size, 26, #[.bool sr, .string br]), (w26.heap.size, 26, #[.bool so, .string bo]), (w20.heap.size, 26, #[.bool sp, .string bp]), (w17.heap.size, 26, #[.bool sp, .string bp]), (w14.heap.size, 26, #[.bool na, .string sa]), (w11.heap.size, 26, #[.bool sx, .string bx]), (w8.heap.size, 26, #[.bool sx, .string bx]), (w5.heap.size, 26, #[.bool st, .string bt]), (w2.heap.size, 26, #[.bool sq, .string bq]), (w.heap.size + 1 + 1, 26, #[.bool nc, .string sc]), (w.heap.size + 1, 26, #[.bool nb, .string sb]), (w.heap.size, 26, #[.bool na, .string sa])]) := Lib.hid (by have h := (Env.new E42.out 26 #[.bool sm, .string bm]); (try simp only [World.size_alloc] at h); exact h)
  generalize (w41.alloc (.cells #[.bool sm, .string bm] 26)) = W43 at E43 ⊢
  have q0_0 : W43.cell? ⟨w.heap.size, 0, none⟩ = some (.bool na) := (Env.at_ E43.out 15 rfl).cell 0
  have q0_1 : W43.cell? ⟨w.heap.size, 1, none⟩ = some (.string sa) := (Env.at_ E43.out 15 rfl).cell 1
  have q1_0 : W43.cell? ⟨w.heap.size + 1, 0, none⟩ = some (.bool nb) := (Env.at_ E43.out 14 rfl).cell 0
  have q1_1 : W43.cell? ⟨w.heap.size + 1, 1, none⟩ = some (.string sb) := (Env.at_ E43.out 14 rfl).cell 1
  go_wp2_with fail
  refine (H14.out _).mono ?_
  rintro e w44 ⟨rfl, h44⟩
  have E45 := Lib.hid (E43.out.call h44)
  clear q0_0 q0_1 q1_0 q1_1 h44
  go_upto_region 17 with fail
  have E46 : Hid (Env w (w44.alloc (.cells #[.bool sd, .string bd] 26)) [(w44.heap.size, 26, #[.bool sd, .string bd]), (w41.heap.size, 26, #[.bool sm, .string bm]), (w38.heap.size, 26, #[.bool sm, .string bm]), (w35.heap.size, 26, #[.bool sh, .string bh]), (w32.heap.size, 26, #[.bool so, .string bo]), (w29.heap.size, 26, #[.bool sr, .string br]), (w26.heap.size, 26, #[.bool so, .string bo]), (w20.heap.size, 26, #[.bool sp, .string bp]), (w17.heap.size, 26, #[.bool sp, .string bp]), (w14.heap.size, 26, #[.bool na, .string sa]), (w11.heap.size, 26, #[.bool sx, .string bx]), (w8.heap.size, 26, #[.bool sx, .string bx]), (w5.heap.size, 26, #[.bool st, .string bt]), (w2.heap.size, 26, #[.bool sq, .string bq]), (w.heap.size + 1 + 1, 26, #[.bool nc, .string sc]), (w.heap.size + 1, 26, #[.bool nb, .string sb]), (w.heap.size, 26, #[.bool na, .string sa])]) := Lib.hid (by have h := (Env.new E45.out 26 #[.bool sd, .string bd]); (try simp only [World.size_alloc] at h); exact h)
  generalize (w44.alloc (.cells #[.bool sd, .string bd] 26)) = W46 at E46 ⊢
  have q0_0 : W46.cell? ⟨w.heap.size, 0, none⟩ = some (.bool na) := (Env.at_ E46.out 16 rfl).cell 0
  have q0_1 : W46.cell? ⟨w.heap.size, 1, none⟩ = some (.string sa) := (Env.at_ E46.out 16 rfl).cell 1
  have q1_0 : W46.cell? ⟨w.heap.size + 1, 0, none⟩ = some (.bool nb) := (Env.at_ E46.out 15 rfl).cell 0
  have q1_1 : W46.cell? ⟨w.heap.size + 1, 1, none⟩ = some (.string sb) := (Env.at_ E46.out 15 rfl).cell 1
  go_wp2_with fail
  refine (H15.out _).mono ?_
  rintro e w47 ⟨rfl, h47⟩
  have E48 := Lib.hid (E46.out.call h47)
  clear q0_0 q0_1 q1_0 q1_1 h47
  go_upto_region 18 with fail
  go_wp2_with fail
  refine (ok_told (n := 8) (by decide)).mono ?_
  rintro e w49 ⟨rfl, h49⟩
  subst h49
  have E50 := Lib.hid ((Env.other E48.out (.cells #[.int .i64 0, .int .i64 0, .int .i64 0, .int .i64 0, .int .i64 0, .int .i64 0, .int .i64 0, .int .i64 0] 27)))
  have q11_0 : (w47.alloc (.cells #[.int .i64 0, .int .i64 0, .int .i64 0, .int .i64 0, .int .i64 0, .int .i64 0, .int .i64 0, .int .i64 0] 27)).cell? ⟨w26.heap.size, 0, none⟩ = some (.bool so) := (Env.at_ E50.out 6 rfl).cell 0
  have q11_1 : (w47.alloc (.cells #[.int .i64 0, .int .i64 0, .int .i64 0, .int .i64 0, .int .i64 0, .int .i64 0, .int .i64 0, .int .i64 0] 27)).cell? ⟨w26.heap.size, 1, none⟩ = some (.string bo) := (Env.at_ E50.out 6 rfl).cell 1
  have q12_0 : (w47.alloc (.cells #[.int .i64 0, .int .i64 0, .int .i64 0, .int .i64 0, .int .i64 0, .int .i64 0, .int .i64 0, .int .i64 0] 27)).cell? ⟨w32.heap.size, 0, none⟩ = some (.bool so) := (Env.at_ E50.out 4 rfl).cell 0
  have q12_1 : (w47.alloc (.cells #[.int .i64 0, .int .i64 0, .int .i64 0, .int .i64 0, .int .i64 0, .int .i64 0, .int .i64 0, .int .i64 0] 27)).cell? ⟨w32.heap.size, 1, none⟩ = some (.string bo) := (Env.at_ E50.out 4 rfl).cell 1
  have q16_0 : (w47.alloc (.cells #[.int .i64 0, .int .i64 0, .int .i64 0, .int .i64 0, .int .i64 0, .int .i64 0, .int .i64 0, .int .i64 0] 27)).cell? ⟨w38.heap.size, 0, none⟩ = some (.bool sm) := (Env.at_ E50.out 2 rfl).cell 0
  have q16_1 : (w47.alloc (.cells #[.int .i64 0, .int .i64 0, .int .i64 0, .int .i64 0, .int .i64 0, .int .i64 0, .int .i64 0, .int .i64 0] 27)).cell? ⟨w38.heap.size, 1, none⟩ = some (.string bm) := (Env.at_ E50.out 2 rfl).cell 1
  have q17_0 : (w47.alloc (.cells #[.int .i64 0, .int .i64 0, .int .i64 0, .int .i64 0, .int .i64 0, .int .i64 0, .int .i64 0, .int .i64 0] 27)).cell? ⟨w41.heap.size, 0, none⟩ = some (.bool sm) := (Env.at_ E50.out 1 rfl).cell 0
  have q17_1 : (w47.alloc (.cells #[.int .i64 0, .int .i64 0, .int .i64 0, .int .i64 0, .int .i64 0, .int .i64 0, .int .i64 0, .int .i64 0] 27)).cell? ⟨w41.heap.size, 1, none⟩ = some (.string bm) := (Env.at_ E50.out 1 rfl).cell 1
  have q21_0 : (w47.alloc (.cells #[.int .i64 0, .int .i64 0, .int .i64 0, .int .i64 0, .int .i64 0, .int .i64 0, .int .i64 0, .int .i64 0] 27)).cell? ⟨w44.heap.size, 0, none⟩ = some (.bool sd) := (Env.at_ E50.out 0 rfl).cell 0
  have q21_1 : (w47.alloc (.cells #[.int .i64 0, .int .i64 0, .int .i64 0, .int .i64 0, .int .i64 0, .int .i64 0, .int .i64 0, .int .i64 0] 27)).cell? ⟨w44.heap.size, 1, none⟩ = some (.string bd) := (Env.at_ E50.out 0 rfl).cell 1
  go_wp2_with fail
  refine (H16.out _).mono ?_
  rintro e w51 ⟨rfl, h51⟩
  have E52 := Lib.hid (E50.out.call h51)
  clear q11_0 q11_1 q12_0 q12_1 q16_0 q16_1 q17_0 q17_1 q21_0 q21_1 h51
  go_wp2_with fail
  go_ret
  exact ⟨rfl, E52.out.1⟩
end Go.Proofs.Ytpnginnjbdedbaa

/- Decimal texts read: plain, no Go in sight. -/
namespace Go.Proofs.Ytpnginnjbdedbaa
namespace Wh

/-- what digits say -/
def dv (l : List UInt8) : Nat := l.foldl (fun a b => 10 * a + (b.toNat - 48)) 0
def IsDig (b : UInt8) : Prop := 48 ≤ b.toNat ∧ b.toNat ≤ 57
def AllDig (l : List UInt8) : Prop := ∀ b ∈ l, IsDig b
theorem dv_nil : dv [] = 0 := rfl
theorem dv_snoc (l : List UInt8) (b : UInt8) : dv (l ++ [b]) = 10 * dv l + (b.toNat - 48) := by
  unfold dv; rw [List.foldl_append]; rfl
theorem dv_app (l : List UInt8) : ∀ (k : Nat) (m : List UInt8), m.length = k → dv (l ++ m) = dv l * 10 ^ k + dv m
  | 0, m, h => by
    obtain rfl := List.eq_nil_of_length_eq_zero h
    rw [List.append_nil, Nat.pow_zero, Nat.mul_one, dv_nil, Nat.add_zero]
  | k + 1, m, h => by
    have hne : m ≠ [] := by intro h0; rw [h0] at h; simp at h
    obtain ⟨m', b, rfl⟩ : ∃ m' b, m = m' ++ [b] := ⟨m.dropLast, m.getLast hne, (List.dropLast_concat_getLast hne).symm⟩
    rw [List.length_append] at h
    simp only [List.length_cons, List.length_nil] at h
    rw [← List.append_assoc, dv_snoc, dv_app l k m' (by omega), dv_snoc, Nat.pow_succ]
    rw [show dv l * (10 ^ k * 10) = 10 * (dv l * 10 ^ k) by ac_rfl]
    omega
theorem allDig_app {l m : List UInt8} : AllDig (l ++ m) ↔ AllDig l ∧ AllDig m :=
  ⟨fun h => ⟨fun b hb => h b (List.mem_append_left _ hb), fun b hb => h b (List.mem_append_right _ hb)⟩, fun h b hb => (List.mem_append.1 hb).elim (h.1 b) (h.2 b)⟩
theorem dv_lt : ∀ (k : Nat) (l : List UInt8), l.length = k → AllDig l → dv l < 10 ^ k
  | 0, l, h, _ => by
    obtain rfl := List.eq_nil_of_length_eq_zero h
    exact Nat.one_pos
  | k + 1, m, h, hd => by
    have hne : m ≠ [] := by intro h0; rw [h0] at h; simp at h
    obtain ⟨m', b, rfl⟩ : ∃ m' b, m = m' ++ [b] := ⟨m.dropLast, m.getLast hne, (List.dropLast_concat_getLast hne).symm⟩
    rw [List.length_append] at h
    simp only [List.length_cons, List.length_nil] at h
    have h1 := dv_lt k m' (by omega) (allDig_app.1 hd).1
    have h2 := hd b (by simp)
    unfold IsDig at h2
    rw [dv_snoc, Nat.pow_succ]
    omega
theorem allDig_cons {b : UInt8} {l : List UInt8} : AllDig (b :: l) ↔ IsDig b ∧ AllDig l :=
  ⟨fun h => ⟨h b List.mem_cons_self, fun x hx => h x (List.mem_cons_of_mem _ hx)⟩, fun h x hx => by
    rcases List.mem_cons.1 hx with rfl | hx
    · exact h.1
    · exact h.2 x hx⟩
/-- one step over the digits of a chunk -/
theorem dv_take {l : List UInt8} {i : Nat} (h : i < l.length) : dv (l.take (i + 1)) = 10 * dv (l.take i) + (l[i].toNat - 48) := by
  rw [List.take_succ_eq_append_getElem h, dv_snoc]
theorem allDig_take {l : List UInt8} {i : Nat} (h : i < l.length) (h1 : AllDig (l.take i)) (h2 : IsDig l[i]) : AllDig (l.take (i + 1)) := by
  rw [List.take_succ_eq_append_getElem h]
  exact allDig_app.2 ⟨h1, allDig_cons.2 ⟨h2, fun b hb => by cases hb⟩⟩
/-- one word of a number times a power of ten, and more -/
theorem mul_step {o a add x by_ add0 P : Nat} (h : o + P * add = a * by_ + add0) : o + P * ((add + x * by_) % 4294967296) + P * 4294967296 * ((add + x * by_) / 4294967296) = (a + P * x) * by_ + add0 := by
  have h1 := Nat.mod_add_div (add + x * by_) 4294967296
  have h2 : P * ((add + x * by_) % 4294967296) + P * 4294967296 * ((add + x * by_) / 4294967296) = P * add + P * x * by_ := by
    rw [Nat.mul_assoc P, ← Nat.mul_add, h1, Nat.mul_add, Nat.mul_assoc]
  rw [Nat.add_mul]
  omega
theorem mul_bounds {add x by_ : Nat} (h1 : add ≤ 999999999) (h2 : x < 4294967296) (h3 : by_ ≤ 1000000000) : add + x * by_ ≤ 4294967295999999999 ∧ (add + x * by_) / 4294967296 ≤ 999999999 := by
  have h4 : x * by_ ≤ 4294967295 * 1000000000 := Nat.mul_le_mul (by omega) h3
  omega
theorem ten_le {n : Nat} (h : n ≤ 9) : 10 ^ n ≤ 1000000000 := Nat.le_trans (Nat.pow_le_pow_right (by decide) h) (by decide)
end Wh
end Go.Proofs.Ytpnginnjbdedbaa

/- *big.Int: SetString (printed by gen_setstr.py). -/
namespace Go.Proofs.Ytpnginnjbdedbaa
open Go.RowKit
open Wh
set_option linter.unusedSimpArgs false
set_option linter.unusedVariables false

theorem OwnW.set_ {w : World} {B n c i : Nat} {A : Option Addr} {l : List Nat} (h : OwnW w B (.slice A n c) l) (hi : i < l.length) :
    ∃ g, A = some ⟨g, 0, none⟩ ∧ B ≤ g ∧ g < w.heap.size ∧ w.cell? ⟨g, i, none⟩ = some (.int .u32 ((l[i] : Nat) : Int)) ∧ w.frozen? ⟨g, i, none⟩ = false ∧ ∀ y : Nat, OwnW (w.setCell ⟨g, i, none⟩ (.int .u32 (y : Int))) B (.slice A n c) (l.set i y) := by
  rcases h.2 with ⟨_, h0⟩ | ⟨g, cap, cur, hv, hb, hh, hc, hm, hs, ht⟩
  · omega
  · injection hv with e1 e2 e3
    subst e1 e2 e3
    have hk : Blk w g 98 cur := hh
    rw [Nat.mul_one] at ht
    have hcur : cur.toList[i]? = some (wv l[i]) := by
      have h1 : (cur.toList.take l.length)[i]? = (l.map wv)[i]? := by rw [ht]
      rwa [List.getElem?_take, if_pos hi, List.getElem?_map, List.getElem?_eq_getElem hi] at h1
    refine ⟨g, rfl, hb, hk.lt, ?_, hk.frozen i, fun y => ⟨by rw [List.length_map, List.length_set, Nat.mul_one], .inr ⟨g, c, cur.setIfInBounds i (wv y), by rw [List.length_set], hb, ?_, ?_, hm, ?_, ?_⟩⟩⟩
    · rw [hk.cell i, ← Array.getElem?_toList, hcur]; rfl
    · exact hk.set_ i (wv y)
    · rw [List.length_set]; exact hc
    · rw [Array.size_setIfInBounds]; exact hs
    · rw [Nat.mul_one, List.length_set, Array.toList_setIfInBounds, List.take_set, ht, List.map_set]
theorem OwnW.kept' {w w' : World} {B : Nat} {v : Value} {l : List Nat} (h : OwnW w B v l) (hb : Below w.heap.size w w') : OwnW w' B v l := by
  refine ⟨h.1, ?_⟩
  rcases h.2 with h1 | ⟨g, cap, cur, hv, hg, hh, hr⟩
  · exact .inl h1
  · exact .inr ⟨g, cap, cur, hv, hg, (hb.block g (Array.getElem?_eq_some_iff.1 hh).1).trans hh, hr⟩
theorem grown_of {w wr w' : World} {g : Nat} (h : Below w.heap.size w wr) (hg : wr.grownBy w' (some g)) : w.grownBy w' (some g) := by
  refine ⟨hg.os.trans h.os, hg.tape.trans h.tape, hg.output.trans h.output, Nat.le_trans h.size hg.size, fun i hi hne => ?_⟩
  exact (hg.block i (Nat.lt_of_lt_of_le hi h.size) hne).trans (h.block i hi)
theorem grown_below {w w' : World} {g : Nat} (h : Below w.heap.size w w') : w.grownBy w' (some g) := ⟨h.os, h.tape, h.output, h.size, fun i hi _ => h.block i hi⟩
/-- what digits are made -/
def StrSet (w : World) (g : Nat) (neg : Bool) (t : List UInt8) (e : Ending) (w' : World) : Prop :=
  ∃ p b, e = .returned (.tuple #[.pointer p, .bool b]) ∧ w.grownBy w' (some g) ∧ (AllDig t → p = some ⟨g, 0, none⟩ ∧ b = true ∧ IntB w' g (sgn neg (dv t)))
theorem drop_bytes (t : ByteArray) (k : Nat) (hk : k ≤ t.size) : (t.extract k t.size).data.toList = t.data.toList.drop k ∧ (t.extract k t.size).size = t.size - k := by
  refine ⟨?_, by rw [ByteArray.size_extract]; omega⟩
  rw [ByteArray.data_extract, Array.toList_extract, List.extract_eq_take_drop]
  rw [List.take_of_length_le]
  rw [List.length_drop, show t.data.toList.length = t.size from Array.length_toList]
  exact Nat.le_refl _
theorem take_bytes (t : ByteArray) (k : Nat) (hk : k ≤ t.size) : (t.extract 0 k).data.toList = t.data.toList.take k ∧ (t.extract 0 k).size = k := by
  refine ⟨?_, by rw [ByteArray.size_extract]; omega⟩
  rw [ByteArray.data_extract, Array.toList_extract, List.extract_eq_take_drop, List.drop_zero]
  rfl
set_option maxRecDepth 100000 in
set_option maxHeartbeats 2000000 in
theorem setstr_core {w : World} {g : Nat} {s : ByteArray} {neg : Bool} {v u3 u4 u5 u6 u7 u9 u10 u11 u12 u13 u14 u15 u16 u17 u18 u19 u20 u21 u22 u23 u24 u25 u26 u27 u28 u29 u30 u31 u32 u33 u34 u35 u36 u37 u38 u39 u40 u41 u42 u43 u44 u45 u46 u47 u48 u49 u50 u51 u52 u53 u54 u55 u56 u57 u58 u59 u60 u61 u62 u63 u64 u65 u66 u67 u68 u69 u70 u71 u72 u73 u74 u75 u76 u77 u78 u79 u80 u81 u82 u83 u84 u85 u86 u87 u88 u89 u90 u91 u92 u93 u94 u95 u96 u97 u98 u99 u100 u101 u102 : Value} {Q : Ending → World → Prop} (hz : IntS w g) (hl : s.size ≤ 100000000) (hQ0 : ∀ e w', StrSet w g neg s.data.toList e w' → Q e w') :
    (codeRest 4 (bodyOf Try.f85)).wp Try.prog (bodyPost Try.prog Try.f85 Q) ⟨#[.pointer (some ⟨g, 0, none⟩), .string s, v, u3, u4, u5, u6, u7, .bool neg, u9, u10, u11, u12, u13, u14, u15, u16, u17, u18, u19, u20, u21, u22, u23, u24, u25, u26, u27, u28, u29, u30, u31, u32, u33, u34, u35, u36, u37, u38, u39, u40, u41, u42, u43, u44, u45, u46, u47, u48, u49, u50, u51, u52, u53, u54, u55, u56, u57, u58, u59, u60, u61, u62, u63, u64, u65, u66, u67, u68, u69, u70, u71, u72, u73, u74, u75, u76, u77, u78, u79, u80, u81, u82, u83, u84, u85, u86, u87, u88, u89, u90, u91, u92, u93, u94, u95, u96, u97, u98, u99, u100, u101, u102], []⟩ w := by
  conv => enter [2]; dsimp only [codeRest, bodyOf, Try.f85, Option.getD_some]
  obtain ⟨l, hle⟩ : ∃ l, l = s.data.toList := ⟨_, rfl⟩
  have hll : l.length = s.size := by rw [hle]; exact Array.length_toList
  rw [← hle] at hQ0
  have hQ := Lib.hid hQ0
  clear hQ0
  have kc := fun (W : World) (s : ByteArray) => Lib.run_convert_string_bytes (P := Try.prog) W 9 107 5 s Try.underlying9 Try.underlying107 Try.underlying5
  have Hl := Lib.hid (And.intro hll hz)
  have Hll := Lib.hid hl
  clear hll hz
  go_wp2_with fail
  go_loopg [1, 9] s.size (fun k sv lv wr => ∃ (T : ByteArray) (A : Option Addr) (n c j tn : Nat) (L : List Nat), sv = .string T ∧ lv = .slice A n c ∧ T.size = tn ∧ tn ≤ 100000000 ∧ Hid (k = tn) ∧ Hid (tn = l.length - j ∧ j ≤ l.length ∧ T.data.toList = l.drop j) ∧ Hid (OwnW wr w.heap.size (.slice A n c) L) ∧ Hid (Below w.heap.size w wr) ∧ n ≤ 100000000 ∧ Hid (AllDig (l.take j) ∧ Wd L ∧ val L = dv (l.take j) ∧ L.length ≤ j))
  case atStart => exact ⟨s, none, 0, 0, 0, s.size, [], rfl, rfl, rfl, hl, Lib.hid rfl, Lib.hid ⟨by rw [Hl.out.1]; rfl, Nat.zero_le _, by rw [List.drop_zero, hle]⟩, Lib.hid (OwnW.nil _ _), Lib.hid (Below.refl _ _), by omega, Lib.hid ⟨fun b hb => (by simp at hb), wd_nil, rfl, Nat.le_refl _⟩⟩
  case round =>
    obtain ⟨T, A, n, c, j, tn, L, rfl, rfl, htn, htl, Hk, HT, Ho, Hb, hnl, HL⟩ := hrel
    have Htn := Lib.hid htn
    clear hle hl
    rcases Nat.eq_zero_or_pos tn with h0 | h0
    case inl =>
      subst h0
      have hj : j = l.length := by have := HT.out; omega
      subst hj
      have hi := is_any neg (Hl.out.2.below Hb.out) Ho.out.reads (Nat.le_refl _) Ho.out.len.1 Ho.out.len.2.1 Ho.out.len.2.2 HL.out.2.1
      rw [HL.out.2.2.1, List.take_length] at hi
      have HI := Lib.hid hi
      clear hi
      go_wp2_with fail
      refine HI.out.mono ?_
      rintro e W' ⟨rfl, hi2, hg2⟩
      go_wp2_with fail
      exact hQ.out _ _ ⟨some ⟨g, 0, none⟩, true, rfl, grown_of Hb.out hg2, fun _ => ⟨rfl, rfl, hi2⟩⟩
    case inr =>
      obtain ⟨N, hN⟩ : ∃ N : Nat, N = if tn < 9 then tn else 9 := ⟨_, rfl⟩
      have hN9 : N ≤ 9 := by rw [hN]; split <;> omega
      have hNt : N ≤ tn := by rw [hN]; split <;> omega
      have hN0 : 0 < N := by rw [hN]; split <;> omega
      have qN : (if (tn : Int) < 9 then (tn : Int) else 9) = (N : Int) := by rw [hN]; split <;> split <;> omega
      obtain ⟨C, hC⟩ : ∃ C, T.extract 0 N = C := ⟨_, rfl⟩
      obtain ⟨T', hT'⟩ : ∃ T', T.extract N tn = T' := ⟨_, rfl⟩
      have hCb := take_bytes T N (by omega)
      have hTb := drop_bytes T N (by omega)
      rw [htn, hT'] at hTb
      rw [hC] at hCb
      obtain ⟨cs, hcs⟩ : ∃ cs, cs = (l.drop j).take N := ⟨_, rfl⟩
      rw [HT.out.2.2, ← hcs] at hCb
      rw [HT.out.2.2, List.drop_drop] at hTb
      have hcl : cs.length = N := by rw [hcs, List.length_take, List.length_drop]; have := HT.out; omega
      have hCs := hCb.2
      have HC := Lib.hid (And.intro hCb.1 (And.intro hTb (And.intro hcs hcl)))
      have Hh := Lib.hid (And.intro hN9 (And.intro hNt hN0))
      clear hCb hTb hcs hcl hN
      go_wp2_with fail
      have Hb1 := Lib.hid (Hb.out.trans ((bytes_below wr C).mono Hb.out.size))
      have Ho1 := Lib.hid (Ho.out.kept' (bytes_below wr C))
      have hrd := bytes_reads wr C
      rw [HC.out.1] at hrd
      have Hrd := Lib.hid hrd
      clear hrd hC Ho Hb kc hCs qN
      generalize Lib.bytesWorld wr 5 C = W1 at *
      go_loopg [11, 12, 48] N (fun k bv av iv wi => ∃ (i P D : Nat), bv = .int .u64 (P : Int) ∧ av = .int .u64 (D : Int) ∧ iv = .int .i64 (i : Int) ∧ Hid (k = N - i) ∧ i ≤ N ∧ P ≤ 1000000000 ∧ D ≤ 999999999 ∧ Hid (P = 10 ^ i ∧ D = dv (cs.take i) ∧ AllDig (cs.take i)) ∧ W1 = wi)
      case atStart => exact ⟨0, 1, 0, rfl, rfl, rfl, Lib.hid rfl, Nat.zero_le _, by omega, by omega, Lib.hid ⟨rfl, rfl, fun b hb => (by simp at hb)⟩, rfl⟩
      case round =>
        obtain ⟨i, P, D, rfl, rfl, rfl, Hki, hiN, hP, hD, HP, rfl⟩ := hrel
        by_cases hin : i < N
        · have hil : i < cs.length := by rw [HC.out.2.2.2]; exact hin
          obtain ⟨ad, e, _, c1⟩ := ReadsB.at_ Hrd.out hil
          injection e with e
          subst e
          rw [Addr.add_lit, Nat.zero_add] at c1
          have hmem : cs[i] ∈ cs := List.getElem_mem hil
          have hsub : ∀ b, b ∈ cs → b ∈ l := fun b hb => by
            rw [HC.out.2.2.1] at hb
            exact List.mem_of_mem_drop (List.mem_of_mem_take hb)
          have hadl : AllDig l → IsDig cs[i] := fun h => h _ (hsub _ hmem)
          have Hd1 := Lib.hid (And.intro (dv_take hil) (And.intro (fun h => allDig_take hil HP.out.2.2 h) hadl))
          clear hmem hadl hsub
          have Hpl := Lib.hid (fun h : IsDig cs[i] => dv_lt (i + 1) (cs.take (i + 1)) (by rw [List.length_take]; omega) (allDig_take hil HP.out.2.2 h))
          have hten := ten_le (n := i + 1) (by omega)
          have Hten := Lib.hid hten
          have hu8 := UInt8.toNat_lt cs[i]
          unfold IsDig at Hd1 Hpl
          generalize cs[i].toNat = y at *
          have hini : (i : Int) < (N : Int) := by omega
          clear hten hil
          by_cases hdg : 48 ≤ y ∧ y ≤ 57
          · have Hdg := Lib.hid hdg
            obtain ⟨g1, g2⟩ := hdg
            have g3 : (48 : Int) ≤ (y : Int) := by omega
            have g4 : (y : Int) ≤ 57 := by omega
            go_wp2_with fail
            go_roundg (N - (i + 1))
            case measure => have := Hki.out; omega
            case rel =>
              refine ⟨i + 1, P * 10, 10 * D + (y - 48), by simp, ?_, rfl, Lib.hid rfl, by omega, ?_, ?_, Lib.hid ⟨by rw [HP.out.1, Nat.pow_succ], by rw [Hd1.out.1, HP.out.2.1], Hd1.out.2.1 Hdg.out⟩, rfl⟩
              · congr 1; omega
              · rw [HP.out.1, ← Nat.pow_succ]; exact Hten.out
              · have h1 := Hpl.out Hdg.out
                rw [Hd1.out.1, ← HP.out.2.1] at h1
                have := Hten.out
                omega
          · have Hdg := Lib.hid hdg
            rcases Nat.lt_or_ge y 48 with g1 | g1
            · have g3 : (y : Int) < 48 := by omega
              clear hdg
              go_wp2_with fail
              exact hQ.out _ _ ⟨none, false, rfl, grown_below Hb1.out, fun h => absurd (Hd1.out.2.2 h) Hdg.out⟩
            · have g3 : (48 : Int) ≤ (y : Int) := by omega
              have g4 : (57 : Int) < (y : Int) := by omega
              clear hdg
              go_wp2_with fail
              exact hQ.out _ _ ⟨none, false, rfl, grown_below Hb1.out, fun h => absurd (Hd1.out.2.2 h) Hdg.out⟩
        · have hiN' : i = N := by omega
          subst hiN'
          have hiq : (i : Int) ≤ (i : Int) := by omega
          have Hdl := Lib.hid (show P = 10 ^ i ∧ D = dv cs ∧ AllDig cs by
            have h1 := HP.out
            rw [List.take_of_length_le (by rw [HC.out.2.2.2]; exact Nat.le_refl _)] at h1
            exact h1)
          have hnL := Ho1.out.len.1
          have HnL := Lib.hid hnL
          clear HP Hrd hin hiN hnL
          go_wp2_with fail
          go_loopg [12, 15, 69] n (fun k av xv iv wi => ∃ (q add : Nat) (L2 : List Nat), av = .int .u64 (add : Int) ∧ iv = .int .i64 (q : Int) ∧ Hid (k = n - q) ∧ q ≤ n ∧ add ≤ 999999999 ∧ Hid (OwnW wi w.heap.size (.slice A n c) L2) ∧ Hid (Below w.heap.size w wi) ∧ Hid (L2.length = L.length ∧ Wd L2 ∧ val (L2.take q) + 4294967296 ^ q * add = val (L.take q) * P + D ∧ ∀ t, q ≤ t → L2[t]? = L[t]?))
          case atStart => exact ⟨0, D, L, rfl, rfl, Lib.hid rfl, Nat.zero_le _, hD, Ho1, Hb1, Lib.hid ⟨rfl, HL.out.2.1, by simp [val_nil], fun t _ => rfl⟩⟩
          case round =>
            obtain ⟨q, add, L2, rfl, rfl, Hkq, hqn, hadd, Ho2, Hb2, HL2⟩ := hrel
            by_cases hqn2 : q < n
            · have hqL : q < L.length := by rw [← HnL.out]; exact hqn2
              have hq2 : q < L2.length := by rw [HL2.out.1]; exact hqL
              obtain ⟨gg, rfl, hgB, hgl, c1, f1, hset⟩ := Ho2.out.set_ hq2
              have hx : L2[q] = L[q] := by
                have := HL2.out.2.2.2 q (Nat.le_refl _)
                rw [List.getElem?_eq_getElem hq2, List.getElem?_eq_getElem hqL] at this
                injection this
              have E1 := Lib.hid (val_take_succ hqL)
              have w1 := wd_get HL.out.2.1 _ hqL
              rw [hx] at c1
              generalize L[q] = x at *
              obtain ⟨hb1', hb2'⟩ := mul_bounds (add := add) (x := x) (by_ := P) hadd w1 hP
              have e1 : ((add : Int) + (x : Int) * (P : Int)) = ((add + x * P : Nat) : Int) := by rw [Int.natCast_add, Int.natCast_mul]
              have hxp : x * P ≤ 4294967295999999999 := by omega
              have e0 : (x : Int) * (P : Int) = ((x * P : Nat) : Int) := (Int.natCast_mul x P).symm
              have e2 : IntKind.u64.wrap ((x : Int) * (P : Int)) = (x : Int) * (P : Int) := by rw [e0]; exact IntWalk.u64_in _ (by omega)
              have e3 : IntKind.u64.wrap ((add : Int) + (x : Int) * (P : Int)) = (((add + x * P : Nat)) : Int) := by rw [e1]; exact IntWalk.u64_in _ (by omega)
              obtain ⟨Z, hZ⟩ : ∃ Z, Z = add + x * P := ⟨_, rfl⟩
              have e4 : (add : Int) + (x : Int) * (P : Int) = (Z : Int) := by rw [hZ]; exact e1
              rw [← hZ] at hb1' hb2' e3
              have HZ := Lib.hid (And.intro hZ hset)
              have Hqq := Lib.hid (And.intro hqL hq2)
              have hqi : (q : Int) < (n : Int) := by omega
              clear e0 e1 hxp hZ hset hx hqL hq2 hqn2
              go_wp2_with fail
              rw [show (Z : Int) / 4294967296 = ((Z / 4294967296 : Nat) : Int) by omega, show (Z : Int) % 4294967296 = ((Z % 4294967296 : Nat) : Int) by omega]
              go_roundg (n - (q + 1))
              case measure => have := Hkq.out; omega
              case rel =>
                refine ⟨q + 1, Z / 4294967296, L2.set q (Z % 4294967296), rfl, rfl, Lib.hid rfl, by omega, hb2', Lib.hid (HZ.out.2 _), Lib.hid (Hb2.out.setCell hgB _), Lib.hid ⟨by rw [List.length_set]; exact HL2.out.1, wd_set HL2.out.2.1 _ _ (Nat.mod_lt _ (by decide)), ?_, fun t ht => ?_⟩⟩
                · rw [val_take_set Hqq.out.2, E1.out, HZ.out.1, Nat.pow_succ]
                  exact mul_step HL2.out.2.2.1
                · rw [List.getElem?_set_ne (by omega)]
                  exact HL2.out.2.2.2 t (by omega)
            · have hqn' : q = n := by omega
              subst hqn'
              have hfin : val L2 + 4294967296 ^ L2.length * add = dv (l.take (j + i)) := by
                have h1 := HL2.out.2.2.1
                rw [List.take_of_length_le (by rw [HL2.out.1, HnL.out]; exact Nat.le_refl _), List.take_of_length_le (by rw [HnL.out]; exact Nat.le_refl _), HL.out.2.2.1, Hdl.out.1, Hdl.out.2.1] at h1
                rw [HL2.out.1, ← HnL.out, h1, ← dv_app _ i cs HC.out.2.2.2, HC.out.2.2.1, ← List.take_add]
              have hdig : AllDig (l.take (j + i)) := by
                rw [List.take_add, ← HC.out.2.2.1]
                exact allDig_app.2 ⟨HL.out.1, Hdl.out.2.2⟩
              have Hfin := Lib.hid (And.intro hfin hdig)
              have HT' : Hid (tn - i = l.length - (j + i) ∧ j + i ≤ l.length ∧ T'.data.toList = l.drop (j + i) ∧ T'.size = tn - i) := by
                refine Lib.hid ⟨?_, ?_, ?_, ?_⟩
                · have := HT.out; omega
                · have := HT.out; omega
                · rw [HC.out.2.1.1]
                · exact HC.out.2.1.2
              clear hfin hdig hqn hqn2
              rcases Nat.eq_zero_or_pos add with ha | ha
              · subst ha
                go_wp2_with fail
                go_roundg (tn - i)
                case measure => have := Hk.out; omega
                case rel => exact ⟨T', A, q, c, j + i, tn - i, L2, rfl, rfl, HT'.out.2.2.2, by omega, Lib.hid rfl, Lib.hid ⟨HT'.out.1, HT'.out.2.1, HT'.out.2.2.1⟩, Ho2, Hb2, hnl, Lib.hid ⟨Hfin.out.2, HL2.out.2.1, by have := Hfin.out.1; rwa [Nat.mul_zero, Nat.add_zero] at this, by have := HL2.out.1; have := HL.out.2.2.2; omega⟩⟩
              · have hai : (0 : Int) < (add : Int) := by omega
                have Ha := Lib.hid ha
                have hL2l : L2.length ≤ 100000000 := by rw [HL2.out.1, ← HnL.out]; exact hnl
                have hgle : w.heap.size ≤ wr.heap.size := Hb2.out.size
                clear ha
                go_wp2_with (at_builtin; refine wpW_push rfl (.tmp 91) (.tmp 94) rfl w.heap.size _ L2 Ho2.out rfl (y := add) rfl rfl (by omega) hgle ?_; intro A3 n3 c3 W3 ho3 hkeep _; have Ho3 := Lib.hid ho3; have Hb3 := Lib.hid (hkeep w Hb2.out); clear ho3 hkeep)
                go_roundg (tn - i)
                case measure => have := Hk.out; omega
                case rel =>
                  refine ⟨T', A3, n3, c3, j + i, tn - i, L2 ++ [add], rfl, rfl, HT'.out.2.2.2, by omega, Lib.hid rfl, Lib.hid ⟨HT'.out.1, HT'.out.2.1, HT'.out.2.2.1⟩, Ho3, Hb3, ?_, Lib.hid ⟨Hfin.out.2, wd_append.2 ⟨HL2.out.2.1, wd_cons.2 ⟨by omega, wd_nil⟩⟩, by rw [val_snoc]; exact Hfin.out.1, ?_⟩⟩
                  · have h1 := Ho3.out.len.1
                    rw [List.length_append] at h1
                    have h2 := HL2.out.1
                    have h3 := HL.out.2.2.2
                    have h4 := HT.out
                    have h5 := Hl.out.1
                    have h6 := Hll.out
                    simp only [List.length_cons, List.length_nil] at h1
                    omega
                  · rw [List.length_append]
                    have h2 := HL2.out.1
                    have h3 := HL.out.2.2.2
                    have h4 := Hh.out.2.2
                    simp only [List.length_cons, List.length_nil]
                    omega
def signOf (l : List UInt8) : Bool := l.head? == some 45
def bodyOfText (l : List UInt8) : List UInt8 := if l.head? = some 45 ∨ l.head? = some 43 then l.tail else l
/-- what a text is made -/
def TextSet (w : World) (g : Nat) (l : List UInt8) (e : Ending) (w' : World) : Prop :=
  ∃ p b, e = .returned (.tuple #[.pointer p, .bool b]) ∧ w.grownBy w' (some g) ∧ (bodyOfText l ≠ [] → AllDig (bodyOfText l) → p = some ⟨g, 0, none⟩ ∧ b = true ∧ IntB w' g (sgn (signOf l) (dv (bodyOfText l))))
theorem head_of {s : ByteArray} (h : 0 < s.size) : s.data.toList.head? = some s[0] := by
  have hl : s.data.toList.length = s.size := Array.length_toList
  rw [List.head?_eq_getElem?, List.getElem?_eq_getElem (by omega)]
  rfl
set_option maxRecDepth 100000 in
set_option maxHeartbeats 1000000 in
theorem setstr_neg {w : World} {g : Nat} {s : ByteArray} {v : Value} (hz : IntS w g) (hl : s.size ≤ 100000000) (h0 : 0 < s.size) (hc : s[0] = 45) :
    Calls Try.prog 85 #[.pointer (some ⟨g, 0, none⟩), .string s, v] w (TextSet w g s.data.toList) := by
  have hb := drop_bytes s 1 (by omega)
  have hd : s[0].toNat = 45 := by rw [hc]; rfl
  have hh := head_of h0
  rw [hc] at hh
  obtain ⟨t, ht⟩ : ∃ t, s.extract 1 s.size = t := ⟨_, rfl⟩
  rw [ht] at hb
  have htl : t.size ≤ 100000000 := by omega
  have HB := Lib.hid (show signOf s.data.toList = true ∧ bodyOfText s.data.toList = t.data.toList by
    unfold signOf bodyOfText
    rw [hh, hb.1, List.drop_one]
    exact ⟨rfl, if_pos (.inl rfl)⟩)
  obtain ⟨q1, q2⟩ := str_facts h0
  clear hb hc hh
  go_enter Try.func85, Try.ntmps85
  go_upto_if 36 with fail
  go_cut [] (fun wx => w = wx)
  case first =>
    by_cases h9 : t.size = 0
    · rw [(str_none h9).1]
      go_wp2_with fail
      refine bodyPost_ret (v := .tuple #[.pointer none, .bool false]) (by simp [results, Try.results85, go_sem]) rfl ?_
      exact ⟨none, false, rfl, grown_below (Below.refl _ _), fun h => absurd (by rw [HB.out.2]; exact List.eq_nil_of_length_eq_zero (by rw [show t.data.toList.length = t.size from Array.length_toList]; exact h9)) h⟩
    · rw [(str_facts (Nat.pos_of_ne_zero h9)).1]
      go_wp2_with fail
      go_meet
      case rel => rfl
  case rest =>
    go_step
    subst hcut
    refine setstr_core (neg := true) (s := t) hz (by omega) ?_
    rintro e w' ⟨p, b, he, hg, hok⟩
    exact ⟨p, b, he, hg, by rw [HB.out.1, HB.out.2]; exact fun _ => hok⟩
set_option maxRecDepth 100000 in
set_option maxHeartbeats 1000000 in
theorem setstr_plus {w : World} {g : Nat} {s : ByteArray} {v : Value} (hz : IntS w g) (hl : s.size ≤ 100000000) (h0 : 0 < s.size) (hc : s[0] = 43) :
    Calls Try.prog 85 #[.pointer (some ⟨g, 0, none⟩), .string s, v] w (TextSet w g s.data.toList) := by
  have hb := drop_bytes s 1 (by omega)
  have hd : s[0].toNat = 43 := by rw [hc]; rfl
  have hh := head_of h0
  rw [hc] at hh
  obtain ⟨t, ht⟩ : ∃ t, s.extract 1 s.size = t := ⟨_, rfl⟩
  rw [ht] at hb
  have htl : t.size ≤ 100000000 := by omega
  have HB := Lib.hid (show signOf s.data.toList = false ∧ bodyOfText s.data.toList = t.data.toList by
    unfold signOf bodyOfText
    rw [hh, hb.1, List.drop_one]
    exact ⟨rfl, if_pos (.inr rfl)⟩)
  obtain ⟨q1, q2⟩ := str_facts h0
  clear hb hc hh
  go_enter Try.func85, Try.ntmps85
  go_upto_if 36 with fail
  go_cut [] (fun wx => w = wx)
  case first =>
    by_cases h9 : t.size = 0
    · rw [(str_none h9).1]
      go_wp2_with fail
      refine bodyPost_ret (v := .tuple #[.pointer none, .bool false]) (by simp [results, Try.results85, go_sem]) rfl ?_
      exact ⟨none, false, rfl, grown_below (Below.refl _ _), fun h => absurd (by rw [HB.out.2]; exact List.eq_nil_of_length_eq_zero (by rw [show t.data.toList.length = t.size from Array.length_toList]; exact h9)) h⟩
    · rw [(str_facts (Nat.pos_of_ne_zero h9)).1]
      go_wp2_with fail
      go_meet
      case rel => rfl
  case rest =>
    go_step
    subst hcut
    refine setstr_core (neg := false) (s := t) hz (by omega) ?_
    rintro e w' ⟨p, b, he, hg, hok⟩
    exact ⟨p, b, he, hg, by rw [HB.out.1, HB.out.2]; exact fun _ => hok⟩
set_option maxRecDepth 100000 in
set_option maxHeartbeats 1000000 in
theorem setstr_bare {w : World} {g : Nat} {s : ByteArray} {v : Value} (hz : IntS w g) (hl : s.size ≤ 100000000) (h0 : 0 < s.size) (hc : s[0] ≠ 45) (hc2 : s[0] ≠ 43) :
    Calls Try.prog 85 #[.pointer (some ⟨g, 0, none⟩), .string s, v] w (TextSet w g s.data.toList) := by
  have hh := head_of h0
  have HB := Lib.hid (show signOf s.data.toList = false ∧ bodyOfText s.data.toList = s.data.toList by
    unfold signOf bodyOfText
    rw [hh]
    refine ⟨beq_eq_false_iff_ne.2 (fun h => hc (by injection h)), if_neg (fun h => ?_)⟩
    rcases h with h | h
    · exact hc (by injection h)
    · exact hc2 (by injection h))
  obtain ⟨q1, q2⟩ := str_facts h0
  have hy1 : s[0].toNat ≠ 45 := fun h => hc (UInt8.toNat_inj.1 h)
  have hy2 : s[0].toNat ≠ 43 := fun h => hc2 (UInt8.toNat_inj.1 h)
  generalize hy : s[0].toNat = y at *
  have z1 : ((y : Int) == 45) = false := beq_eq_false_iff_ne.2 (by omega)
  have z2 : ((y : Int) == 43) = false := beq_eq_false_iff_ne.2 (by omega)
  clear hc hc2 hh
  go_enter Try.func85, Try.ntmps85
  go_upto_if 36 with fail
  go_cut [] (fun wx => w = wx)
  case first =>
    by_cases h9 : s.size = 0
    · exact absurd h9 (by omega)
    · go_wp2_with fail
      go_meet
      case rel => rfl
  case rest =>
    go_step
    subst hcut
    refine setstr_core (neg := false) (s := s) hz (by omega) ?_
    rintro e w' ⟨p, b, he, hg, hok⟩
    exact ⟨p, b, he, hg, by rw [HB.out.1, HB.out.2]; exact fun _ => hok⟩
theorem setstr_none {w : World} {g : Nat} {v : Value} :
    Calls Try.prog 85 #[.pointer (some ⟨g, 0, none⟩), .string ⟨#[]⟩, v] w (TextSet w g [] ) := by
  go_enter Try.func85, Try.ntmps85
  go_wp2_with fail
  refine bodyPost_ret (v := .tuple #[.pointer none, .bool false]) (by simp [results, Try.results85, go_sem]) rfl ?_
  exact ⟨none, false, rfl, grown_below (Below.refl _ _), fun h => absurd rfl h⟩
theorem setstr_any {w : World} {g : Nat} {s : ByteArray} {v : Value} (hz : IntS w g) (hl : s.size ≤ 100000000) :
    Calls Try.prog 85 #[.pointer (some ⟨g, 0, none⟩), .string s, v] w (TextSet w g s.data.toList) := by
  rcases Nat.eq_zero_or_pos s.size with h | h
  · have hl : s.data.toList.length = s.size := Array.length_toList
    obtain rfl := str_empty (List.eq_nil_of_length_eq_zero (show s.data.toList.length = 0 by omega))
    exact setstr_none
  · by_cases h1 : s[0] = 45
    · exact setstr_neg hz hl h h1
    · by_cases h2 : s[0] = 43
      · exact setstr_plus hz hl h h2
      · exact setstr_bare hz hl h h1 h2
end Go.Proofs.Ytpnginnjbdedbaa

/- whole.Shift (printed by gen_shift.py). -/
namespace Go.Proofs.Ytpnginnjbdedbaa
open Go.RowKit
open Wh
set_option linter.unusedSimpArgs false

/-- a number shifted -/
def shf (x n : Int) : Int := if 0 ≤ n then x * 2 ^ n.toNat else x / 2 ^ (-n).toNat
theorem shf_zero (n : Int) : shf 0 n = 0 := by
  unfold shf
  by_cases h : 0 ≤ n
  · rw [if_pos h, Int.zero_mul]
  · rw [if_neg h, Int.zero_ediv]
theorem shr_far {x : Int} {a n : Nat} (h : x.natAbs < 2 ^ a) (hn : a ≤ n) : x / 2 ^ n = if x < 0 then -1 else 0 := by
  have h1 : (2 : Nat) ^ a ≤ 2 ^ n := Nat.pow_le_pow_right (by decide) hn
  have hp := pow2_pos n
  have hc := pow2_cast n
  generalize (2 : Int) ^ n = P at *
  generalize (2 : Nat) ^ n = Q at *
  by_cases h0 : x < 0
  · rw [if_pos h0]
    exact ((Int.ediv_emod_unique (r := x + P) hp).2 ⟨by omega, by omega, by omega⟩).1
  · rw [if_neg h0]
    exact Int.ediv_eq_zero_of_lt (by omega) (by omega)
theorem bl_shl {m n k : Nat} (h : bl m ≤ k) : bl (m * 2 ^ n) ≤ k + n := by
  refine bl_lt.2 ?_
  rw [Nat.pow_add]
  exact Nat.mul_lt_mul_of_pos_right (bl_lt.1 h) (Nat.two_pow_pos n)
theorem bl_shl_ge {m n k : Nat} (h0 : 0 < m) (h : bl (m * 2 ^ n) ≤ k) : n < k := by
  have h1 := bl_lt.1 h
  have h2 : (2 : Nat) ^ n ≤ m * 2 ^ n := Nat.le_mul_of_pos_left _ h0
  exact (Nat.pow_lt_pow_iff_right (by decide)).1 (Nat.lt_of_le_of_lt h2 h1)
theorem shl_abs (x : Int) (n : Nat) : (x * 2 ^ n).natAbs = x.natAbs * 2 ^ n := by rw [Int.natAbs_mul, pow2_abs]
theorem shf_big {x n : Int} {k : Nat} (h0 : x ≠ 0) (hn : (k : Int) < n) : ¬ bl (shf x n).natAbs ≤ k := by
  intro h
  unfold shf at h
  rw [if_pos (by omega), shl_abs] at h
  have := bl_shl_ge (by omega) h
  omega
theorem shf_far {x n : Int} {k a : Nat} (hx : bl x.natAbs ≤ k) (hn : n < -(a : Int)) (ha : k ≤ a) : x / 2 ^ a = shf x n := by
  unfold shf
  rw [if_neg (by omega), shr_far (bl_lt.1 hx) ha, shr_far (bl_lt.1 hx) (show k ≤ (-n).toNat by omega)]
set_option maxRecDepth 100000 in
set_option maxHeartbeats 4000000 in
theorem wshift_bad {w : World} {na : Bool} {sa : ByteArray} {n : Int} (hm : ¬ MayL na sa.data.toList) :
    Calls Try.prog 22 #[.agg #[.bool na, .string sa], .int .i64 n] w (Ans w (MayL na sa.data.toList) (shf (num (na, sa)) n)) := by
  have hb1 := new_below w (.cells #[.bool na, .string sa] 26)
  have hb2 := hb1.alloc (by simp) (.cells #[.bool false, .string ⟨#[]⟩] 26)
  have k1 := (Blk.new w 26 #[.bool na, .string sa]).alloc (.cells #[.bool false, .string ⟨#[]⟩] 26)
  have k2 := Blk.new (w.alloc (.cells #[.bool na, .string sa] 26)) 26 #[.bool false, .string ⟨#[]⟩]
  have hO := of_one (w := (w.alloc (.cells #[.bool na, .string sa] 26)).alloc (.cells #[.bool false, .string ⟨#[]⟩] 26)) (na := na) (sa := sa)
  rw [World.size_alloc, World.size_alloc] at hO
  rw [World.size_alloc] at k2
  have HO := Lib.hid hO
  have Hb := Lib.hid (And.intro hb2 (And.intro k1 k2))
  have Hm := Lib.hid hm
  clear hm
  clear hO hb1 hb2 k1 k2
  go_enter Try.func22, Try.ntmps22
  go_wp2_with fail
  refine HO.out.mono ?_
  rintro e w5 ⟨h1, h2, hb5⟩
  have hb05 := Hb.out.1.trans (hb5.mono (by simp <;> omega))
  have m1 := Hb.out.2.1.below hb5 (by simp <;> omega)
  have m2 := Hb.out.2.2.below hb5 (by simp)
  have c0 : w5.cell? ⟨w.heap.size, 0, none⟩ = some (.bool na) := m1.cell 0
  have c1 : w5.cell? ⟨w.heap.size, 1, none⟩ = some (.string sa) := m1.cell 1
  have d0 : w5.cell? ⟨w.heap.size + 1, 0, none⟩ = some (.bool false) := m2.cell 0
  have d1 : w5.cell? ⟨w.heap.size + 1, 1, none⟩ = some (.string ⟨#[]⟩) := m2.cell 1
  have d2 := m2.frozen 0
  have d3 := m2.frozen 1
  have H5 := Lib.hid (And.intro hb05 m2)
  have Hsz := Lib.hid (show w.heap.size + 1 + 1 ≤ w5.heap.size by have := hb5.size; simp at this; omega)
  clear hb5 hb05 m1 m2
  obtain ⟨A5, n5, c5, rfl⟩ := h2 Hm.out
  clear h1 h2
  go_wp2_with fail
  refine bodyPost_ret (v := .tuple #[.agg #[.bool false, .string ⟨#[]⟩], .int .i64 2]) (by simp [results, Try.results22, go_sem, d0, d1]) rfl ?_
  exact ⟨fun h => absurd h Hm.out, fun h => absurd h Hm.out, fun _ => rfl, ((H5.out.1.setCell (by show w.heap.size ≤ w.heap.size + 1; omega) _).setCell (by show w.heap.size ≤ w.heap.size + 1; omega) _)⟩
set_option maxRecDepth 100000 in
set_option maxHeartbeats 4000000 in
theorem wshift_zero {w : World} {na : Bool} {sa : ByteArray} {n : Int} (hm : MayL na sa.data.toList) (h0 : num (na, sa) = 0) :
    Calls Try.prog 22 #[.agg #[.bool na, .string sa], .int .i64 n] w (Ans w (MayL na sa.data.toList) (shf (num (na, sa)) n)) := by
  have hb1 := new_below w (.cells #[.bool na, .string sa] 26)
  have hb2 := hb1.alloc (by simp) (.cells #[.bool false, .string ⟨#[]⟩] 26)
  have k1 := (Blk.new w 26 #[.bool na, .string sa]).alloc (.cells #[.bool false, .string ⟨#[]⟩] 26)
  have k2 := Blk.new (w.alloc (.cells #[.bool na, .string sa] 26)) 26 #[.bool false, .string ⟨#[]⟩]
  have hO := of_one (w := (w.alloc (.cells #[.bool na, .string sa] 26)).alloc (.cells #[.bool false, .string ⟨#[]⟩] 26)) (na := na) (sa := sa)
  rw [World.size_alloc, World.size_alloc] at hO
  rw [World.size_alloc] at k2
  have HO := Lib.hid hO
  have Hb := Lib.hid (And.intro hb2 (And.intro k1 k2))
  have Hm := Lib.hid (And.intro hm h0)
  clear hm h0
  clear hO hb1 hb2 k1 k2
  go_enter Try.func22, Try.ntmps22
  go_wp2_with fail
  refine HO.out.mono ?_
  rintro e w5 ⟨h1, h2, hb5⟩
  have hb05 := Hb.out.1.trans (hb5.mono (by simp <;> omega))
  have m1 := Hb.out.2.1.below hb5 (by simp <;> omega)
  have m2 := Hb.out.2.2.below hb5 (by simp)
  have c0 : w5.cell? ⟨w.heap.size, 0, none⟩ = some (.bool na) := m1.cell 0
  have c1 : w5.cell? ⟨w.heap.size, 1, none⟩ = some (.string sa) := m1.cell 1
  have d0 : w5.cell? ⟨w.heap.size + 1, 0, none⟩ = some (.bool false) := m2.cell 0
  have d1 : w5.cell? ⟨w.heap.size + 1, 1, none⟩ = some (.string ⟨#[]⟩) := m2.cell 1
  have d2 := m2.frozen 0
  have d3 := m2.frozen 1
  have H5 := Lib.hid (And.intro hb05 m2)
  have Hsz := Lib.hid (show w.heap.size + 1 + 1 ≤ w5.heap.size by have := hb5.size; simp at this; omega)
  clear hb5 hb05 m1 m2
  obtain ⟨ad, c, g1, rfl, hadb, p0, hx, hg1⟩ := h1 Hm.out.1
  clear h1 h2 hx hg1
  have hsz := (num_nil Hm.out.1).1 Hm.out.2
  have hl : sa.data.toList.length = sa.size := Array.length_toList
  dsimp only at hsz
  have he := List.eq_nil_of_length_eq_zero (show sa.data.toList.length = 0 by omega)
  obtain rfl := str_empty he
  obtain rfl := Hm.out.1.2.1 he
  clear hsz hl he
  go_wp2_with fail
  refine bodyPost_ret (v := .tuple #[.agg #[.bool false, .string ⟨#[]⟩], .int .i64 0]) (by simp [results, Try.results22, go_sem, d0, d1]) rfl ?_
  exact ⟨fun _ _ => by rw [num_zero, shf_zero, enc_zero], fun _ h => absurd (show fits (shf (num (false, ⟨#[]⟩)) n) by rw [num_zero, shf_zero]; exact Nat.zero_le _) h, fun h => absurd Hm.out.1 h, ((H5.out.1.setCell (by show w.heap.size ≤ w.heap.size + 1; omega) _).setCell (by show w.heap.size ≤ w.heap.size + 1; omega) _)⟩
set_option maxRecDepth 100000 in
set_option maxHeartbeats 4000000 in
theorem wshift_big {w : World} {na : Bool} {sa : ByteArray} {n : Int} (hm : MayL na sa.data.toList) (h0 : num (na, sa) ≠ 0) (hn : 131072 < n) :
    Calls Try.prog 22 #[.agg #[.bool na, .string sa], .int .i64 n] w (Ans w (MayL na sa.data.toList) (shf (num (na, sa)) n)) := by
  have hb1 := new_below w (.cells #[.bool na, .string sa] 26)
  have hb2 := hb1.alloc (by simp) (.cells #[.bool false, .string ⟨#[]⟩] 26)
  have k1 := (Blk.new w 26 #[.bool na, .string sa]).alloc (.cells #[.bool false, .string ⟨#[]⟩] 26)
  have k2 := Blk.new (w.alloc (.cells #[.bool na, .string sa] 26)) 26 #[.bool false, .string ⟨#[]⟩]
  have hO := of_one (w := (w.alloc (.cells #[.bool na, .string sa] 26)).alloc (.cells #[.bool false, .string ⟨#[]⟩] 26)) (na := na) (sa := sa)
  rw [World.size_alloc, World.size_alloc] at hO
  rw [World.size_alloc] at k2
  have HO := Lib.hid hO
  have Hb := Lib.hid (And.intro hb2 (And.intro k1 k2))
  have Hm := Lib.hid (And.intro hm h0)
  clear hm h0
  clear hO hb1 hb2 k1 k2
  go_enter Try.func22, Try.ntmps22
  go_wp2_with fail
  refine HO.out.mono ?_
  rintro e w5 ⟨h1, h2, hb5⟩
  have hb05 := Hb.out.1.trans (hb5.mono (by simp <;> omega))
  have m1 := Hb.out.2.1.below hb5 (by simp <;> omega)
  have m2 := Hb.out.2.2.below hb5 (by simp)
  have c0 : w5.cell? ⟨w.heap.size, 0, none⟩ = some (.bool na) := m1.cell 0
  have c1 : w5.cell? ⟨w.heap.size, 1, none⟩ = some (.string sa) := m1.cell 1
  have d0 : w5.cell? ⟨w.heap.size + 1, 0, none⟩ = some (.bool false) := m2.cell 0
  have d1 : w5.cell? ⟨w.heap.size + 1, 1, none⟩ = some (.string ⟨#[]⟩) := m2.cell 1
  have d2 := m2.frozen 0
  have d3 := m2.frozen 1
  have H5 := Lib.hid (And.intro hb05 m2)
  have Hsz := Lib.hid (show w.heap.size + 1 + 1 ≤ w5.heap.size by have := hb5.size; simp at this; omega)
  clear hb5 hb05 m1 m2
  obtain ⟨ad, c, g1, rfl, hadb, p0, hx, hg1⟩ := h1 Hm.out.1
  clear h1 h2
  have hl : 0 < sa.size := by
    rcases Nat.eq_zero_or_pos sa.size with h | h
    · exact absurd ((num_nil Hm.out.1).2 h) Hm.out.2
    · exact h
  obtain ⟨q1, q2⟩ := str_facts hl
  clear hl
  clear hx hg1
  go_wp2_with fail
  refine bodyPost_ret (v := .tuple #[.agg #[.bool false, .string ⟨#[]⟩], .int .i64 4]) (by simp [results, Try.results22, go_sem, d0, d1]) rfl ?_
  exact ⟨fun _ h => absurd h (shf_big Hm.out.2 (k := 131072) hn), fun _ _ => rfl, fun h => absurd Hm.out.1 h, ((H5.out.1.setCell (by show w.heap.size ≤ w.heap.size + 1; omega) _).setCell (by show w.heap.size ≤ w.heap.size + 1; omega) _)⟩
theorem tells_form {W w5 : World} {z : Int} {e : Ending} (h : Tells W z e w5) : ∃ (sn : Bool) (bn : ByteArray) (cd : Int), e = .returned (.tuple #[.agg #[.bool sn, .string bn], .int .i64 cd]) ∧ Below W.heap.size W w5 ∧ ∀ w w' (ok : Prop), ok → Below w.heap.size w w' → Ans w ok z (.returned (.tuple #[.agg #[.bool sn, .string bn], .int .i64 cd])) w' := by
  obtain ⟨t1, t2, hb⟩ := h
  by_cases hf : fits z
  · exact ⟨_, _, 0, t1 hf, hb, fun w w' ok hok hb => ⟨fun _ _ => rfl, fun _ h => absurd hf h, fun h => absurd hok h, hb⟩⟩
  · exact ⟨_, _, 4, t2 hf, hb, fun w w' ok hok hb => ⟨fun _ h => absurd h hf, fun _ _ => rfl, fun h => absurd hok h, hb⟩⟩
set_option maxRecDepth 100000 in
set_option maxHeartbeats 4000000 in
theorem wshift_up {w : World} {na : Bool} {sa : ByteArray} {n : Int} (hm : MayL na sa.data.toList) (h0 : num (na, sa) ≠ 0) (hn0 : 0 ≤ n) (hn : n ≤ 131072) :
    Calls Try.prog 22 #[.agg #[.bool na, .string sa], .int .i64 n] w (Ans w (MayL na sa.data.toList) (shf (num (na, sa)) n)) := by
  have hb1 := new_below w (.cells #[.bool na, .string sa] 26)
  have hb2 := hb1.alloc (by simp) (.cells #[.bool false, .string ⟨#[]⟩] 26)
  have k1 := (Blk.new w 26 #[.bool na, .string sa]).alloc (.cells #[.bool false, .string ⟨#[]⟩] 26)
  have k2 := Blk.new (w.alloc (.cells #[.bool na, .string sa] 26)) 26 #[.bool false, .string ⟨#[]⟩]
  have hO := of_one (w := (w.alloc (.cells #[.bool na, .string sa] 26)).alloc (.cells #[.bool false, .string ⟨#[]⟩] 26)) (na := na) (sa := sa)
  rw [World.size_alloc, World.size_alloc] at hO
  rw [World.size_alloc] at k2
  have HO := Lib.hid hO
  have Hb := Lib.hid (And.intro hb2 (And.intro k1 k2))
  have Hm := Lib.hid (And.intro hm h0)
  clear hm h0
  clear hO hb1 hb2 k1 k2
  go_enter Try.func22, Try.ntmps22
  go_wp2_with fail
  refine HO.out.mono ?_
  rintro e w5 ⟨h1, h2, hb5⟩
  have hb05 := Hb.out.1.trans (hb5.mono (by simp <;> omega))
  have m1 := Hb.out.2.1.below hb5 (by simp <;> omega)
  have m2 := Hb.out.2.2.below hb5 (by simp)
  have c0 : w5.cell? ⟨w.heap.size, 0, none⟩ = some (.bool na) := m1.cell 0
  have c1 : w5.cell? ⟨w.heap.size, 1, none⟩ = some (.string sa) := m1.cell 1
  have d0 : w5.cell? ⟨w.heap.size + 1, 0, none⟩ = some (.bool false) := m2.cell 0
  have d1 : w5.cell? ⟨w.heap.size + 1, 1, none⟩ = some (.string ⟨#[]⟩) := m2.cell 1
  have d2 := m2.frozen 0
  have d3 := m2.frozen 1
  have H5 := Lib.hid (And.intro hb05 m2)
  have Hsz := Lib.hid (show w.heap.size + 1 + 1 ≤ w5.heap.size by have := hb5.size; simp at this; omega)
  clear hb5 hb05 m1 m2
  obtain ⟨ad, c, g1, rfl, hadb, p0, hx, hg1⟩ := h1 Hm.out.1
  clear h1 h2
  have hl : 0 < sa.size := by
    rcases Nat.eq_zero_or_pos sa.size with h | h
    · exact absurd ((num_nil Hm.out.1).2 h) Hm.out.2
    · exact h
  obtain ⟨q1, q2⟩ := str_facts hl
  clear hl
  have hz : num (na, sa) * 2 ^ n.toNat = shf (num (na, sa)) n := by unfold shf; rw [if_pos hn0]
  have hlb := bl_shl (n := n.toNat) (fits_num (a := (na, sa)) Hm.out.1)
  rw [← shl_abs] at hlb
  have Hl := Lib.hid (show (wds (num (na, sa) * 2 ^ n.toNat).natAbs).length ≤ 100000000 from Nat.le_trans (len_bl (k := 8192) (by omega)) (by omega))
  have l1 := len_num (a := (na, sa)) Hm.out.1
  have hC := lsh_any (n := n.toNat) (hx.drewN 1).slot (hx.drewN 1) (by omega) (by omega)
  rw [show ((n.toNat : Nat) : Int) = n by omega] at hC
  rw [hz] at hC Hl
  have HC := Lib.hid hC
  have Hg := Lib.hid (show w.heap.size + 1 + 1 ≤ g1 by simp at hg1; omega)
  have q3 : IntKind.u64.wrap n = n := IntWalk.u64_in _ (by omega)
  clear hC hlb hz l1 hx hg1
  go_wp2_with fail
  refine wp_region_noPanic ?_
  refine wp_region_HK (fun w' => w'.cell? ad = some (.pointer (some ⟨g1, 0, none⟩))) 8 (by kernel_rfl) p0 (fun hHeld => ?_)
  refine wpHK_take (i := 0) (oi := Oper.mk (some 30) _ _ _ _ _) (v := ?_) rfl (by kernel_rfl) (by kernel_rfl) (by kernel_rfl) (by kernel_rfl) (fun _ _ _ h => h) (Or.inl ⟨by rfl, ?_⟩) (by assumption) ?_
  rotate_left
  · (intro w' hSw; (try dsimp only at hSw); (obtain s1 := hSw); go_simp; try with_reducible rfl)
  try simp only [Act.put, List.setIfInBounds_toArray, List.set_cons_zero, List.set_cons_succ]
  refine wpHK_take (i := 1) (oi := Oper.mk (some 31) _ _ _ _ _) (v := ?_) rfl (by kernel_rfl) (by kernel_rfl) (by kernel_rfl) (by kernel_rfl) (fun _ _ _ h => h) (Or.inl ⟨by rfl, ?_⟩) (by assumption) ?_
  rotate_left
  · (intro w' hSw; (try dsimp only at hSw); (obtain s1 := hSw); go_simp; try with_reducible rfl)
  try simp only [Act.put, List.setIfInBounds_toArray, List.set_cons_zero, List.set_cons_succ]
  refine wpHK_take (i := 2) (oi := Oper.mk (some 32) _ _ _ _ _) (v := ?_) rfl (by kernel_rfl) (by kernel_rfl) (by kernel_rfl) (by kernel_rfl) (fun _ _ _ h => h) (Or.inl ⟨by rfl, ?_⟩) (by assumption) ?_
  rotate_left
  · (intro w' hSw; (try dsimp only at hSw); (obtain s1 := hSw); go_simp; try with_reducible rfl)
  try simp only [Act.put, List.setIfInBounds_toArray, List.set_cons_zero, List.set_cons_succ]
  refine wpHK_take (i := 3) (oi := Oper.mk (some 33) _ _ _ _ _) (v := ?_) rfl (by kernel_rfl) (by kernel_rfl) (by kernel_rfl) (by kernel_rfl) (fun _ _ _ h => h) (Or.inl ⟨by rfl, ?_⟩) (by assumption) ?_
  rotate_left
  · (intro w' hSw; (try dsimp only at hSw); (obtain s1 := hSw); go_simp; try with_reducible rfl)
  try simp only [Act.put, List.setIfInBounds_toArray, List.set_cons_zero, List.set_cons_succ]
  refine wpHK_take (i := 4) (oi := Oper.mk (some 34) _ _ _ _ _) (v := ?_) rfl (by kernel_rfl) (by kernel_rfl) (by kernel_rfl) (by kernel_rfl) (fun _ _ _ h => h) (Or.inl ⟨by rfl, ?_⟩) (by assumption) ?_
  rotate_left
  · (intro w' hSw; (try dsimp only at hSw); (obtain s1 := hSw); go_simp; try with_reducible rfl)
  try simp only [Act.put, List.setIfInBounds_toArray, List.set_cons_zero, List.set_cons_succ]
  refine wpHK_take (i := 5) (oi := Oper.mk (some 35) _ _ _ _ _) (v := ?_) rfl (by kernel_rfl) (by kernel_rfl) (by kernel_rfl) (by kernel_rfl) (fun _ _ _ h => h) (Or.inl ⟨by rfl, ?_⟩) (by assumption) ?_
  rotate_left
  · (intro w' hSw; (try dsimp only at hSw); (obtain s1 := hSw); go_simp; try with_reducible rfl)
  try simp only [Act.put, List.setIfInBounds_toArray, List.set_cons_zero, List.set_cons_succ]
  refine wpHK_take (i := 6) (oi := Oper.mk (some 36) _ _ _ _ _) (v := ?_) rfl (by kernel_rfl) (by kernel_rfl) (by kernel_rfl) (by kernel_rfl) (fun _ _ _ h => h) (Or.inl ⟨by rfl, ?_⟩) (by assumption) ?_
  rotate_left
  · (intro w' hSw; (try dsimp only at hSw); (obtain s1 := hSw); go_simp; try with_reducible rfl)
  try simp only [Act.put, List.setIfInBounds_toArray, List.set_cons_zero, List.set_cons_succ]
  refine wpHK_take (i := 7) (oi := Oper.mk (some 37) _ _ _ _ _) (v := ?_) rfl (by kernel_rfl) (by kernel_rfl) (by kernel_rfl) (by kernel_rfl) (fun _ _ _ h => h) (Or.inl ⟨by rfl, ?_⟩) (by assumption) ?_
  rotate_left
  · (intro w' hSw; (try dsimp only at hSw); (obtain s1 := hSw); go_simp; try with_reducible rfl)
  try simp only [Act.put, List.setIfInBounds_toArray, List.set_cons_zero, List.set_cons_succ]
  refine wpHK_tail (j := 8) (o := Oper.mk (some 38) _ _ _ _ _) rfl (by kernel_rfl) (by decide) (fun K hK => ?_)
  go_simp
  refine HC.out.mono ?_
  rintro e w6 ⟨rfl, hi6, hg6⟩
  have HT := Lib.hid (told_any hi6 Hl.out)
  have hb6 : Below (w.heap.size + 1 + 1) w5 w6 := up_row (Below.refl _ _).drew hg6 Hsz.out Hg.out
  have mb := H5.out.2.below hb6 (by omega)
  have hb06 := H5.out.1.trans (hb6.mono (by omega))
  have hw6s : w.heap.size + 1 < w6.heap.size := by have := hb6.size; have := Hsz.out; omega
  clear hi6 hg6 hb6
  refine hK.out _ _ ?_
  clear hK K
  try simp only [Act.put, List.setIfInBounds_toArray, List.set_cons_zero, List.set_cons_succ]
  refine wpHK_tail (j := 9) (o := Oper.mk (some 39) _ _ _ _ _) rfl (by kernel_rfl) (by decide) (fun K hK => ?_)
  go_simp
  refine HT.out.mono ?_
  intro e w7 hT
  obtain ⟨sn, bn, cd, rfl, hb7, hfin⟩ := tells_form hT
  clear hT
  have n2 := mb.below hb7 hw6s
  have y0 : w7.cell? ⟨w.heap.size + 1, 0, none⟩ = some (.bool false) := n2.cell 0
  have y1 : w7.cell? ⟨w.heap.size + 1, 1, none⟩ = some (.string ⟨#[]⟩) := n2.cell 1
  have y2 := n2.frozen 0
  have y3 := n2.frozen 1
  have hb07 := Lib.hid (hb06.trans (hb7.mono hb06.size))
  clear n2 hb7
  refine hK.out _ _ ?_
  clear hK K
  try simp only [Act.put, List.setIfInBounds_toArray, List.set_cons_zero, List.set_cons_succ]
  refine wpHK_pure (i := 10) (oi := Oper.mk (some 40) _ _ _ _ _) (v := ?_) rfl (by kernel_rfl) (by kernel_rfl) (by kernel_rfl) (fun _ _ _ h => h) (Or.inl ⟨by rfl, ?_⟩) ?_
  rotate_left
  · (intro w' _; go_simp; try with_reducible rfl)
  try simp only [Act.put, List.setIfInBounds_toArray, List.set_cons_zero, List.set_cons_succ]
  refine wpHK_pure (i := 11) (oi := Oper.mk (some 41) _ _ _ _ _) (v := ?_) rfl (by kernel_rfl) (by kernel_rfl) (by kernel_rfl) (fun _ _ _ h => h) (Or.inl ⟨by rfl, ?_⟩) ?_
  rotate_left
  · (intro w' _; go_simp; try with_reducible rfl)
  try simp only [Act.put, List.setIfInBounds_toArray, List.set_cons_zero, List.set_cons_succ]
  refine wpHK_tail (j := 12) (o := Oper.mk (none) _ _ _ _ _) rfl (by kernel_rfl) (by decide) (fun K hK => ?_)
  go_simp
  refine hK.out _ _ ?_
  clear hK K
  try simp only [Act.put, List.setIfInBounds_toArray, List.set_cons_zero, List.set_cons_succ]
  refine wpHK_pure (i := 13) (oi := Oper.mk (some 5) _ _ _ _ _) (v := ?_) rfl (by kernel_rfl) (by kernel_rfl) (by kernel_rfl) (fun _ _ _ h => h) (Or.inl ⟨by rfl, ?_⟩) ?_
  rotate_left
  · (intro w' _; go_simp; try with_reducible rfl)
  try simp only [Act.put, List.setIfInBounds_toArray, List.set_cons_zero, List.set_cons_succ]
  refine wpHK_done (by kernel_rfl) ?_ _
  refine NoPanic.normal ?_
  go_wp2_with fail
  refine bodyPost_ret (v := .tuple #[.agg #[.bool sn, .string bn], .int .i64 cd]) (by simp [results, Try.results22, go_sem, y0, y1]) rfl ?_
  exact hfin _ _ _ Hm.out.1 ((hb07.out.setCell (by show w.heap.size ≤ w.heap.size + 1; omega) _).setCell (by show w.heap.size ≤ w.heap.size + 1; omega) _)
set_option maxRecDepth 100000 in
set_option maxHeartbeats 800000 in
theorem wshift_down {w : World} {na : Bool} {sa : ByteArray} {n : Int} (hm : MayL na sa.data.toList) (h0 : num (na, sa) ≠ 0) (hn0 : n < 0) (hnb : -9223372036854775808 ≤ n) :
    Calls Try.prog 22 #[.agg #[.bool na, .string sa], .int .i64 n] w (Ans w (MayL na sa.data.toList) (shf (num (na, sa)) n)) := by
  have hb1 := new_below w (.cells #[.bool na, .string sa] 26)
  have hb2 := hb1.alloc (by simp) (.cells #[.bool false, .string ⟨#[]⟩] 26)
  have k1 := (Blk.new w 26 #[.bool na, .string sa]).alloc (.cells #[.bool false, .string ⟨#[]⟩] 26)
  have k2 := Blk.new (w.alloc (.cells #[.bool na, .string sa] 26)) 26 #[.bool false, .string ⟨#[]⟩]
  have hO := of_one (w := (w.alloc (.cells #[.bool na, .string sa] 26)).alloc (.cells #[.bool false, .string ⟨#[]⟩] 26)) (na := na) (sa := sa)
  rw [World.size_alloc, World.size_alloc] at hO
  rw [World.size_alloc] at k2
  have HO := Lib.hid hO
  have Hb := Lib.hid (And.intro hb2 (And.intro k1 k2))
  have Hm := Lib.hid (And.intro hm h0)
  clear hm h0
  clear hO hb1 hb2 k1 k2
  go_enter Try.func22, Try.ntmps22
  go_wp2_with fail
  refine HO.out.mono ?_
  rintro e w5 ⟨h1, h2, hb5⟩
  have hb05 := Hb.out.1.trans (hb5.mono (by simp <;> omega))
  have m1 := Hb.out.2.1.below hb5 (by simp <;> omega)
  have m2 := Hb.out.2.2.below hb5 (by simp)
  have c0 : w5.cell? ⟨w.heap.size, 0, none⟩ = some (.bool na) := m1.cell 0
  have c1 : w5.cell? ⟨w.heap.size, 1, none⟩ = some (.string sa) := m1.cell 1
  have d0 : w5.cell? ⟨w.heap.size + 1, 0, none⟩ = some (.bool false) := m2.cell 0
  have d1 : w5.cell? ⟨w.heap.size + 1, 1, none⟩ = some (.string ⟨#[]⟩) := m2.cell 1
  have d2 := m2.frozen 0
  have d3 := m2.frozen 1
  have H5 := Lib.hid (And.intro hb05 m2)
  have Hsz := Lib.hid (show w.heap.size + 1 + 1 ≤ w5.heap.size by have := hb5.size; simp at this; omega)
  clear hb5 hb05 m1 m2
  obtain ⟨ad, c, g1, rfl, hadb, p0, hx, hg1⟩ := h1 Hm.out.1
  clear h1 h2
  have hl : 0 < sa.size := by
    rcases Nat.eq_zero_or_pos sa.size with h | h
    · exact absurd ((num_nil Hm.out.1).2 h) Hm.out.2
    · exact h
  obtain ⟨q1, q2⟩ := str_facts hl
  clear hl
  obtain ⟨M, hM⟩ : ∃ M : Int, M = if n < -131073 then -131073 else n := ⟨_, rfl⟩
  obtain ⟨K, hK⟩ : ∃ K : Nat, (K : Int) = -M := ⟨(-M).toNat, by omega⟩
  have hz : num (na, sa) / 2 ^ K = shf (num (na, sa)) n := by
    rcases Int.lt_or_le n (-131073) with h | h
    · exact shf_far (k := 131072) (a := K) (fits_num (a := (na, sa)) Hm.out.1) (by omega) (by omega)
    · unfold shf; rw [if_neg (by omega), show (-n).toNat = K by omega]
  have hl2 : (num (na, sa) / 2 ^ K).natAbs ≤ (num (na, sa)).natAbs := Int.natAbs_ediv_le_natAbs _ _
  have l1 := len_num (a := (na, sa)) Hm.out.1
  have Hl := Lib.hid (show (wds (num (na, sa) / 2 ^ K).natAbs).length ≤ 100000000 from Nat.le_trans (len_mono hl2) (by omega))
  have hC := rsh_any (n := K) (hx.drewN 1).slot (hx.drewN 1) (by omega) (by omega)
  rw [hz] at hC Hl
  have HC := Lib.hid hC
  have Hg := Lib.hid (show w.heap.size + 1 + 1 ≤ g1 by simp at hg1; omega)
  have q3 : IntKind.u64.wrap (K : Int) = (K : Int) := IntWalk.u64_in _ (by omega)
  have q4 : IntKind.i64.wrap (-M) = (K : Int) := by rw [← hK]; exact IntWalk.i64_in _ (by omega)
  have q5 : (if n < -131073 then -131073 else n) = M := hM.symm
  have q6 : decide (131072 < n) = false := decide_eq_false (by omega)
  have q7 : decide (0 ≤ n) = false := decide_eq_false (by omega)
  clear hC hl2 hz l1 hx hg1 hM hK
  go_wp2_with fail
  refine wp_region_noPanic ?_
  refine wp_region_HK (fun w' => w'.cell? ad = some (.pointer (some ⟨g1, 0, none⟩))) 10 (by kernel_rfl) p0 (fun hHeld => ?_)
  refine wpHK_take (i := 0) (oi := Oper.mk (some 42) _ _ _ _ _) (v := ?_) rfl (by kernel_rfl) (by kernel_rfl) (by kernel_rfl) (by kernel_rfl) (fun _ _ _ h => h) (Or.inl ⟨by rfl, ?_⟩) (by assumption) ?_
  rotate_left
  · (intro w' hSw; (try dsimp only at hSw); (obtain s1 := hSw); go_simp; try with_reducible rfl)
  try simp only [Act.put, List.setIfInBounds_toArray, List.set_cons_zero, List.set_cons_succ]
  refine wpHK_take (i := 1) (oi := Oper.mk (some 43) _ _ _ _ _) (v := ?_) rfl (by kernel_rfl) (by kernel_rfl) (by kernel_rfl) (by kernel_rfl) (fun _ _ _ h => h) (Or.inl ⟨by rfl, ?_⟩) (by assumption) ?_
  rotate_left
  · (intro w' hSw; (try dsimp only at hSw); (obtain s1 := hSw); go_simp; try with_reducible rfl)
  try simp only [Act.put, List.setIfInBounds_toArray, List.set_cons_zero, List.set_cons_succ]
  refine wpHK_take (i := 2) (oi := Oper.mk (some 44) _ _ _ _ _) (v := ?_) rfl (by kernel_rfl) (by kernel_rfl) (by kernel_rfl) (by kernel_rfl) (fun _ _ _ h => h) (Or.inl ⟨by rfl, ?_⟩) (by assumption) ?_
  rotate_left
  · (intro w' hSw; (try dsimp only at hSw); (obtain s1 := hSw); go_simp; try with_reducible rfl)
  try simp only [Act.put, List.setIfInBounds_toArray, List.set_cons_zero, List.set_cons_succ]
  refine wpHK_take (i := 3) (oi := Oper.mk (some 45) _ _ _ _ _) (v := ?_) rfl (by kernel_rfl) (by kernel_rfl) (by kernel_rfl) (by kernel_rfl) (fun _ _ _ h => h) (Or.inl ⟨by rfl, ?_⟩) (by assumption) ?_
  rotate_left
  · (intro w' hSw; (try dsimp only at hSw); (obtain s1 := hSw); go_simp; try with_reducible rfl)
  try simp only [Act.put, List.setIfInBounds_toArray, List.set_cons_zero, List.set_cons_succ]
  refine wpHK_take (i := 4) (oi := Oper.mk (some 46) _ _ _ _ _) (v := ?_) rfl (by kernel_rfl) (by kernel_rfl) (by kernel_rfl) (by kernel_rfl) (fun _ _ _ h => h) (Or.inl ⟨by rfl, ?_⟩) (by assumption) ?_
  rotate_left
  · (intro w' hSw; (try dsimp only at hSw); (obtain s1 := hSw); go_simp; try with_reducible rfl)
  try simp only [Act.put, List.setIfInBounds_toArray, List.set_cons_zero, List.set_cons_succ]
  refine wpHK_take (i := 5) (oi := Oper.mk (some 47) _ _ _ _ _) (v := ?_) rfl (by kernel_rfl) (by kernel_rfl) (by kernel_rfl) (by kernel_rfl) (fun _ _ _ h => h) (Or.inl ⟨by rfl, ?_⟩) (by assumption) ?_
  rotate_left
  · (intro w' hSw; (try dsimp only at hSw); (obtain s1 := hSw); go_simp; try with_reducible rfl)
  try simp only [Act.put, List.setIfInBounds_toArray, List.set_cons_zero, List.set_cons_succ]
  refine wpHK_take (i := 6) (oi := Oper.mk (some 48) _ _ _ _ _) (v := ?_) rfl (by kernel_rfl) (by kernel_rfl) (by kernel_rfl) (by kernel_rfl) (fun _ _ _ h => h) (Or.inl ⟨by rfl, ?_⟩) (by assumption) ?_
  rotate_left
  · (intro w' hSw; (try dsimp only at hSw); (obtain s1 := hSw); go_simp; try with_reducible rfl)
  try simp only [Act.put, List.setIfInBounds_toArray, List.set_cons_zero, List.set_cons_succ]
  refine wpHK_one (j := 7) (o := Oper.mk (some 49) _ _ _ _ _) rfl (by kernel_rfl) (fun K hK => ?_)
  go_simp
  refine hK.out _ _ p0 (fun _ => ?_)
  clear hK K hHeld
  have hHeld := p0
  try simp only [Act.put, List.setIfInBounds_toArray, List.set_cons_zero, List.set_cons_succ]
  refine wpHK_take (i := 8) (oi := Oper.mk (some 50) _ _ _ _ _) (v := ?_) rfl (by kernel_rfl) (by kernel_rfl) (by kernel_rfl) (by kernel_rfl) (fun _ _ _ h => h) (Or.inl ⟨by rfl, ?_⟩) (by assumption) ?_
  rotate_left
  · (intro w' hSw; (try dsimp only at hSw); (obtain s1 := hSw); go_simp; try with_reducible rfl)
  try simp only [Act.put, List.setIfInBounds_toArray, List.set_cons_zero, List.set_cons_succ]
  refine wpHK_take (i := 9) (oi := Oper.mk (some 51) _ _ _ _ _) (v := ?_) rfl (by kernel_rfl) (by kernel_rfl) (by kernel_rfl) (by kernel_rfl) (fun _ _ _ h => h) (Or.inl ⟨by rfl, ?_⟩) (by assumption) ?_
  rotate_left
  · (intro w' hSw; (try dsimp only at hSw); (obtain s1 := hSw); go_simp; try with_reducible rfl)
  try simp only [Act.put, List.setIfInBounds_toArray, List.set_cons_zero, List.set_cons_succ]
  refine wpHK_tail (j := 10) (o := Oper.mk (some 52) _ _ _ _ _) rfl (by kernel_rfl) (by decide) (fun K hK => ?_)
  go_simp
  refine HC.out.mono ?_
  rintro e w6 ⟨rfl, hi6, hg6⟩
  have HT := Lib.hid (told_any hi6 Hl.out)
  have hb6 : Below (w.heap.size + 1 + 1) w5 w6 := up_row (Below.refl _ _).drew hg6 Hsz.out Hg.out
  have mb := H5.out.2.below hb6 (by omega)
  have hb06 := H5.out.1.trans (hb6.mono (by omega))
  have hw6s : w.heap.size + 1 < w6.heap.size := by have := hb6.size; have := Hsz.out; omega
  clear hi6 hg6 hb6
  refine hK.out _ _ ?_
  clear hK K
  try simp only [Act.put, List.setIfInBounds_toArray, List.set_cons_zero, List.set_cons_succ]
  refine wpHK_tail (j := 11) (o := Oper.mk (some 53) _ _ _ _ _) rfl (by kernel_rfl) (by decide) (fun K hK => ?_)
  go_simp
  refine HT.out.mono ?_
  intro e w7 hT
  obtain ⟨sn, bn, cd, rfl, hb7, hfin⟩ := tells_form hT
  clear hT
  have n2 := mb.below hb7 hw6s
  have y0 : w7.cell? ⟨w.heap.size + 1, 0, none⟩ = some (.bool false) := n2.cell 0
  have y1 : w7.cell? ⟨w.heap.size + 1, 1, none⟩ = some (.string ⟨#[]⟩) := n2.cell 1
  have y2 := n2.frozen 0
  have y3 := n2.frozen 1
  have hb07 := Lib.hid (hb06.trans (hb7.mono hb06.size))
  clear n2 hb7
  refine hK.out _ _ ?_
  clear hK K
  try simp only [Act.put, List.setIfInBounds_toArray, List.set_cons_zero, List.set_cons_succ]
  refine wpHK_pure (i := 12) (oi := Oper.mk (some 54) _ _ _ _ _) (v := ?_) rfl (by kernel_rfl) (by kernel_rfl) (by kernel_rfl) (fun _ _ _ h => h) (Or.inl ⟨by rfl, ?_⟩) ?_
  rotate_left
  · (intro w' _; go_simp; try with_reducible rfl)
  try simp only [Act.put, List.setIfInBounds_toArray, List.set_cons_zero, List.set_cons_succ]
  refine wpHK_pure (i := 13) (oi := Oper.mk (some 55) _ _ _ _ _) (v := ?_) rfl (by kernel_rfl) (by kernel_rfl) (by kernel_rfl) (fun _ _ _ h => h) (Or.inl ⟨by rfl, ?_⟩) ?_
  rotate_left
  · (intro w' _; go_simp; try with_reducible rfl)
  try simp only [Act.put, List.setIfInBounds_toArray, List.set_cons_zero, List.set_cons_succ]
  refine wpHK_tail (j := 14) (o := Oper.mk (none) _ _ _ _ _) rfl (by kernel_rfl) (by decide) (fun K hK => ?_)
  go_simp
  refine hK.out _ _ ?_
  clear hK K
  try simp only [Act.put, List.setIfInBounds_toArray, List.set_cons_zero, List.set_cons_succ]
  refine wpHK_pure (i := 15) (oi := Oper.mk (some 5) _ _ _ _ _) (v := ?_) rfl (by kernel_rfl) (by kernel_rfl) (by kernel_rfl) (fun _ _ _ h => h) (Or.inl ⟨by rfl, ?_⟩) ?_
  rotate_left
  · (intro w' _; go_simp; try with_reducible rfl)
  try simp only [Act.put, List.setIfInBounds_toArray, List.set_cons_zero, List.set_cons_succ]
  refine wpHK_done (by kernel_rfl) ?_ _
  refine NoPanic.normal ?_
  go_wp2_with fail
  refine bodyPost_ret (v := .tuple #[.agg #[.bool sn, .string bn], .int .i64 cd]) (by simp [results, Try.results22, go_sem, y0, y1]) rfl ?_
  exact hfin _ _ _ Hm.out.1 ((hb07.out.setCell (by show w.heap.size ≤ w.heap.size + 1; omega) _).setCell (by show w.heap.size ≤ w.heap.size + 1; omega) _)
theorem wshift_any {w : World} {na : Bool} {sa : ByteArray} {n : Int} (hn1 : -9223372036854775808 ≤ n) :
    Calls Try.prog 22 #[.agg #[.bool na, .string sa], .int .i64 n] w (Ans w (MayL na sa.data.toList) (shf (num (na, sa)) n)) := by
  by_cases hm : MayL na sa.data.toList
  · by_cases h0 : num (na, sa) = 0
    · exact wshift_zero hm h0
    · rcases Int.lt_or_le 131072 n with h | h
      · exact wshift_big hm h0 h
      · rcases Int.lt_or_le n 0 with h1 | h1
        · exact wshift_down hm h0 h1 hn1
        · exact wshift_up hm h0 h1 h
  · exact wshift_bad hm
end Go.Proofs.Ytpnginnjbdedbaa

/- whole.Read (printed by gen_read.py). -/
namespace Go.Proofs.Ytpnginnjbdedbaa
open Go.RowKit
open Wh
set_option linter.unusedSimpArgs false
set_option linter.unusedVariables false

/-- is it a number's text, behind its sign? -/
def GoodAt (l : List UInt8) (F : Nat) : Prop := (∀ j b, F ≤ j → l[j]? = some b → IsDig b) ∧ F < l.length ∧ (l[F]? = some 48 → l.length ≤ 1)
def rfirst (l : List UInt8) : Nat := if signOf l then 1 else 0
def Good (l : List UInt8) : Prop := GoodAt l (rfirst l)
def rval (l : List UInt8) : Int := sgn (signOf l) (dv (l.drop (rfirst l)))
theorem good_dig {l : List UInt8} {F : Nat} (h : GoodAt l F) : AllDig (l.drop F) ∧ l.drop F ≠ [] := by
  refine ⟨fun b hb => ?_, fun h0 => ?_⟩
  · obtain ⟨j, hj⟩ := List.mem_iff_getElem?.1 hb
    rw [List.getElem?_drop] at hj
    exact h.1 _ b (Nat.le_add_right F j) hj
  · have h1 := List.length_drop (i := F) (l := l)
    rw [h0] at h1
    have h2 := h.2.1
    simp only [List.length_nil] at h1
    omega
theorem good_body {l : List UInt8} (h : Good l) : bodyOfText l = l.drop (rfirst l) := by
  unfold bodyOfText rfirst
  unfold Good rfirst at h
  by_cases hs : signOf l = true
  · have h1 : l.head? = some 45 := by unfold signOf at hs; exact beq_iff_eq.1 hs
    rw [if_pos (.inl h1), if_pos hs, List.drop_one]
  · have h1 : ¬ l.head? = some 45 := fun h0 => hs (by unfold signOf; rw [h0]; rfl)
    have h2 : ¬ l.head? = some 43 := fun h0 => by
      rw [if_neg hs] at h
      have h3 := h.1 0 43 (Nat.le_refl _) (by rw [← List.head?_eq_getElem?]; exact h0)
      unfold IsDig at h3
      exact absurd h3.1 (by decide)
    rw [if_neg (fun h0 => h0.elim h1 h2), if_neg hs, List.drop_zero]
/-- what Read tells -/
def Readd (w : World) (l : List UInt8) (e : Ending) (w' : World) : Prop :=
  (40000 < l.length → e = .returned (.tuple #[none_, .int .i64 3])) ∧ (l.length ≤ 40000 → ¬ Good l → e = .returned (.tuple #[none_, .int .i64 120])) ∧
  (l.length ≤ 40000 → Good l → fits (rval l) → e = .returned (.tuple #[enc (rval l), .int .i64 0])) ∧ (l.length ≤ 40000 → Good l → ¬ fits (rval l) → e = .returned (.tuple #[none_, .int .i64 4])) ∧ Below w.heap.size w w'
theorem dv_len {l : List UInt8} (h : AllDig l) (hl : l.length ≤ 40000) : (wds (dv l)).length ≤ 40000 := by
  refine Nat.le_trans (len_wds (k := l.length) ?_) hl
  exact Nat.lt_of_lt_of_le (dv_lt _ l rfl h) (Nat.pow_le_pow_left (by decide) _)
theorem grown_w {w w' : World} {o o' : Obj} (hg : ((w.alloc o).alloc o').grownBy w' (some (w.heap.size + 1))) : Below (w.heap.size + 1) (w.alloc o) w' :=
  (((Below.refl (w.heap.size + 1) (w.alloc o)).alloc (by simp) o')).grown hg (by simp) (fun k hk => by injection hk with hk; omega)
set_option maxRecDepth 100000 in
theorem wread_long {w : World} {s : ByteArray} (h : 40000 < s.size) : Calls Try.prog 34 #[.string s] w (Readd w s.data.toList) := by
  have hl : s.data.toList.length = s.size := Array.length_toList
  have hi : (40000 : Int) < (s.size : Int) := by omega
  have Hl := Lib.hid (And.intro hl h)
  clear hl h
  go_enter Try.func34, Try.ntmps34
  go_wp2_with fail
  go_step3
  go_wp2_with fail
  rw [Exit.noGoto_ret]
  refine bodyPost_ret (v := .tuple #[.agg #[.bool false, .string ⟨#[]⟩], .int .i64 3]) (by simp [results, Try.results34, go_sem]) rfl ?_
  have hb := new_below w (.cells #[.bool false, .string ⟨#[]⟩] 26)
  exact ⟨fun _ => rfl, fun h => absurd h (by have := Hl.out; omega), fun h => absurd h (by have := Hl.out; omega), fun h => absurd h (by have := Hl.out; omega), hb⟩
set_option maxRecDepth 100000 in
set_option maxHeartbeats 2000000 in
theorem wread_neg {w : World} {s : ByteArray} (hs : s.size ≤ 40000) (h0 : 0 < s.size) (hc : s[0] = 45) : Calls Try.prog 34 #[.string s] w (Readd w s.data.toList) := by
  have hF : rfirst s.data.toList = 1 := by
    unfold rfirst signOf
    rw [head_of h0, hc]; rfl
  have hd0 : s[0].toNat = 45 := by rw [hc]; rfl
  obtain ⟨q1, q2⟩ := str_facts h0
  clear hc
  obtain ⟨l, hle⟩ : ∃ l, l = s.data.toList := ⟨_, rfl⟩
  have hl : l.length = s.size := by rw [hle]; exact Array.length_toList
  have hget : ∀ j (h : j < s.size) (h' : j < l.length), s[j] = l[j] := by subst hle; intro j h h'; rfl
  rw [← hle] at hF ⊢
  have HF := Lib.hid hF
  have hb := new_below w (.cells #[.bool false, .string ⟨#[]⟩] 26)
  have k2 := Blk.new w 26 #[.bool false, .string ⟨#[]⟩]
  have Hb := Lib.hid (And.intro hb k2)
  have hz : IntS ((w.alloc (.cells #[.bool false, .string ⟨#[]⟩] 26)).alloc (.cells #[.bool false, .slice none 0 0] 82)) (w.heap.size + 1) := by
    have := zslot (w.alloc (.cells #[.bool false, .string ⟨#[]⟩] 26))
    rw [World.size_alloc] at this
    exact this
  have Hz := Lib.hid hz
  have Hn := Lib.hid (And.intro (show l.length ≤ 40000 by omega) (And.intro hl (And.intro hget hle)))
  have hsi : (s.size : Int) ≤ 40000 := by omega
  clear hb k2 hz hl hget hle hF
  go_enter Try.func34, Try.ntmps34
  go_wp2_with fail
  go_step3
  go_wp2_with fail
  go_step3
  go_wp2_with fail
  go_loopg [4, 6] (s.size - 1) (fun k av cv wr => ∃ i : Nat, av = .int .i64 (i : Int) ∧ Hid (k = s.size - i) ∧ 1 ≤ i ∧ i ≤ s.size ∧ Hid ((∀ j b, 1 ≤ j → j < i → l[j]? = some b → IsDig b) ∧ (1 < i → l[1]? = some 48 → l.length ≤ 1)) ∧ w.alloc (.cells #[.bool false, .string ⟨#[]⟩] 26) = wr)
  case atStart => exact ⟨1, rfl, Lib.hid rfl, Nat.le_refl _, by omega, Lib.hid ⟨fun j b h1 h2 => by omega, fun h => by omega⟩, rfl⟩
  case round =>
    obtain ⟨i, rfl, Hk, hFi, hin, HI, rfl⟩ := hrel
    have hz := Hz.out
    by_cases hi : i < s.size
    · have hil : i < l.length := by have := Hn.out.2.1; omega
      have hyi : s[i] = l[i] := Hn.out.2.2.1 i hi hil
      have hli : l[i]? = some l[i] := List.getElem?_eq_getElem hil
      obtain ⟨y, hy⟩ : ∃ y, y = l[i] := ⟨_, rfl⟩
      rw [← hy] at hyi hli
      have hyn : s[i].toNat = y.toNat := by rw [hyi]
      have Hli := Lib.hid hli
      have hy8 := UInt8.toNat_lt y
      have hii : (i : Int) < (s.size : Int) := by omega
      clear hy hyi hli hil
      by_cases hd : IsDig y
      · have Hd := Lib.hid hd
        obtain ⟨g1, g2⟩ := hd
        have g3 : (48 : Int) ≤ (y.toNat : Int) := by omega
        have g4 : (y.toNat : Int) ≤ 57 := by omega
        by_cases hlead : y.toNat = 48 ∧ i = 1 ∧ 1 < s.size
        · obtain ⟨e1, rfl, e3⟩ := hlead
          have e4 : (1 : Int) < (s.size : Int) := by omega
          have Hno := Lib.hid (show ¬ Good l by
            unfold Good
            rw [HF.out]
            intro h
            have h1 := h.2.2 (by rw [Hli.out]; congr 1; exact UInt8.toNat_inj.1 e1)
            have := Hn.out.2.1
            omega)
          rw [e1] at hyn
          have HS := Lib.hid (setstr_any (w := (w.alloc (.cells #[.bool false, .string ⟨#[]⟩] 26)).alloc (.cells #[.bool false, .slice none 0 0] 82)) (g := w.heap.size + 1) (s := s) (v := .int .i64 10) hz (by omega))
          go_wp2_with fail
          refine HS.out.mono ?_
          rintro e w6 ⟨p, b, rfl, hg, hok⟩
          have hb6 := grown_w hg
          have m2 := Hb.out.2.below hb6 (Nat.lt_succ_self _)
          have d0 : w6.cell? ⟨w.heap.size, 0, none⟩ = some (.bool false) := m2.cell 0
          have d1 : w6.cell? ⟨w.heap.size, 1, none⟩ = some (.string ⟨#[]⟩) := m2.cell 1
          have d2 := m2.frozen 0
          have d3 := m2.frozen 1
          have hb06 := Lib.hid (Hb.out.1.trans (hb6.mono (by omega)))
          clear hb6 m2 HS
          go_wp2_with fail
          rw [Exit.noGoto_ret]
          refine bodyPost_ret (v := .tuple #[.agg #[.bool false, .string ⟨#[]⟩], .int .i64 120]) (by simp [results, Try.results34, go_sem, d0, d1]) rfl ?_
          exact ⟨fun h => absurd Hn.out.1 (by omega), fun _ _ => rfl, fun _ h => absurd h Hno.out, fun _ h => absurd h Hno.out, (hb06.out.setCell (Nat.le_refl w.heap.size) _).setCell (Nat.le_refl w.heap.size) _⟩
        · have hl0 : ((y.toNat : Int) == 48 && ((i : Int) == 1) && decide ((1 : Int) < (s.size : Int))) = false := by
            rw [Bool.and_eq_false_iff, Bool.and_eq_false_iff]
            by_cases e1 : y.toNat = 48
            · by_cases e2 : i = 1
              · exact .inr (decide_eq_false (by omega))
              · exact .inl (.inr (beq_eq_false_iff_ne.2 (by omega)))
            · exact .inl (.inl (beq_eq_false_iff_ne.2 (by omega)))
          have Hlead := Lib.hid hlead
          clear hlead
          have hcase : (y.toNat : Int) ≠ 48 ∨ (i : Int) ≠ 1 ∨ (s.size : Int) ≤ 1 := by
            have := Hlead.out
            omega
          have HX : Hid ((∀ j b, 1 ≤ j → j < i + 1 → l[j]? = some b → IsDig b) ∧ (1 < i + 1 → l[1]? = some 48 → l.length ≤ 1)) := by
            refine Lib.hid ⟨fun j b h1 h2 h3 => ?_, fun h1 h2 => ?_⟩
            · rcases Nat.lt_or_ge j i with h4 | h4
              · exact HI.out.1 j b h1 h4 h3
              · obtain rfl : j = i := by omega
                rw [Hli.out] at h3
                injection h3 with h3
                subst h3
                exact Hd.out
            · rcases Nat.lt_or_ge 1 i with h4 | h4
              · exact HI.out.2 h4 h2
              · obtain rfl : i = 1 := by omega
                rw [Hli.out] at h2
                injection h2 with h2
                have h5 : ¬ 1 < s.size := fun h => Hlead.out ⟨by rw [h2]; rfl, rfl, h⟩
                have := Hn.out.2.1
                omega
          rcases hcase with hc | hc | hc
          · have hc2 : ((y.toNat : Int) == 48) = false := beq_eq_false_iff_ne.2 hc
            clear hl0 hc
            go_wp2_with fail
            go_roundg (s.size - (i + 1))
            case measure => have := Hk.out; omega
            case rel => exact ⟨i + 1, rfl, Lib.hid rfl, by omega, by omega, HX, rfl⟩
          · have hc2 : ((i : Int) == 1) = false := beq_eq_false_iff_ne.2 hc
            have hc21 : (i == 1) = false := beq_eq_false_iff_ne.2 (by omega)
            have hc22 : ¬ i = 1 := by omega
            clear hl0
            by_cases hc3 : y.toNat = 48
            · rw [hc3] at hyn
              go_wp2_with fail
              go_roundg (s.size - (i + 1))
              case measure => have := Hk.out; omega
              case rel => exact ⟨i + 1, rfl, Lib.hid rfl, by omega, by omega, HX, rfl⟩
            · have hc4 : ((y.toNat : Int) == 48) = false := beq_eq_false_iff_ne.2 (by omega)
              go_wp2_with fail
              go_roundg (s.size - (i + 1))
              case measure => have := Hk.out; omega
              case rel => exact ⟨i + 1, rfl, Lib.hid rfl, by omega, by omega, HX, rfl⟩
          · exfalso
            omega
      · have Hno := Lib.hid (show ¬ Good l by
          unfold Good
          rw [HF.out]
          intro h
          exact hd (h.1 i y hFi Hli.out))
        have Hd := Lib.hid hd
        rcases Nat.lt_or_ge y.toNat 48 with g1 | g1
        · have g3 : (y.toNat : Int) < 48 := by omega
          clear hd
          have HS := Lib.hid (setstr_any (w := (w.alloc (.cells #[.bool false, .string ⟨#[]⟩] 26)).alloc (.cells #[.bool false, .slice none 0 0] 82)) (g := w.heap.size + 1) (s := s) (v := .int .i64 10) hz (by omega))
          go_wp2_with fail
          refine HS.out.mono ?_
          rintro e w6 ⟨p, b, rfl, hg, hok⟩
          have hb6 := grown_w hg
          have m2 := Hb.out.2.below hb6 (Nat.lt_succ_self _)
          have d0 : w6.cell? ⟨w.heap.size, 0, none⟩ = some (.bool false) := m2.cell 0
          have d1 : w6.cell? ⟨w.heap.size, 1, none⟩ = some (.string ⟨#[]⟩) := m2.cell 1
          have d2 := m2.frozen 0
          have d3 := m2.frozen 1
          have hb06 := Lib.hid (Hb.out.1.trans (hb6.mono (by omega)))
          clear hb6 m2 HS
          go_wp2_with fail
          rw [Exit.noGoto_ret]
          refine bodyPost_ret (v := .tuple #[.agg #[.bool false, .string ⟨#[]⟩], .int .i64 120]) (by simp [results, Try.results34, go_sem, d0, d1]) rfl ?_
          exact ⟨fun h => absurd Hn.out.1 (by omega), fun _ _ => rfl, fun _ h => absurd h Hno.out, fun _ h => absurd h Hno.out, (hb06.out.setCell (Nat.le_refl w.heap.size) _).setCell (Nat.le_refl w.heap.size) _⟩
        · have g3 : (48 : Int) ≤ (y.toNat : Int) := by omega
          have g4 : (57 : Int) < (y.toNat : Int) := by
            have := Hd.out
            unfold IsDig at this
            omega
          clear hd
          have HS := Lib.hid (setstr_any (w := (w.alloc (.cells #[.bool false, .string ⟨#[]⟩] 26)).alloc (.cells #[.bool false, .slice none 0 0] 82)) (g := w.heap.size + 1) (s := s) (v := .int .i64 10) hz (by omega))
          go_wp2_with fail
          refine HS.out.mono ?_
          rintro e w6 ⟨p, b, rfl, hg, hok⟩
          have hb6 := grown_w hg
          have m2 := Hb.out.2.below hb6 (Nat.lt_succ_self _)
          have d0 : w6.cell? ⟨w.heap.size, 0, none⟩ = some (.bool false) := m2.cell 0
          have d1 : w6.cell? ⟨w.heap.size, 1, none⟩ = some (.string ⟨#[]⟩) := m2.cell 1
          have d2 := m2.frozen 0
          have d3 := m2.frozen 1
          have hb06 := Lib.hid (Hb.out.1.trans (hb6.mono (by omega)))
          clear hb6 m2 HS
          go_wp2_with fail
          rw [Exit.noGoto_ret]
          refine bodyPost_ret (v := .tuple #[.agg #[.bool false, .string ⟨#[]⟩], .int .i64 120]) (by simp [results, Try.results34, go_sem, d0, d1]) rfl ?_
          exact ⟨fun h => absurd Hn.out.1 (by omega), fun _ _ => rfl, fun _ h => absurd h Hno.out, fun _ h => absurd h Hno.out, (hb06.out.setCell (Nat.le_refl w.heap.size) _).setCell (Nat.le_refl w.heap.size) _⟩
    · have hin2 : i = s.size := by omega
      subst hin2
      have hlt : ∀ j b, l[j]? = some b → j < s.size := fun j b h => by
        rcases Nat.lt_or_ge j l.length with h1 | h1
        · have := Hn.out.2.1; omega
        · rw [List.getElem?_eq_none h1] at h; cases h
      have Hlt := Lib.hid hlt
      clear hlt hi
      by_cases hnF : s.size = 1
      · have hnb : ((s.size : Int) == 1) = true := beq_iff_eq.2 (by omega)
        have hn0 : (s.size : Int) = 1 := by omega
        have Hno := Lib.hid (show ¬ Good l by
          unfold Good
          rw [HF.out]
          intro h
          have h1 := h.2.1
          have := Hn.out.2.1
          omega)
        clear hnF
        have HS := Lib.hid (setstr_any (w := (w.alloc (.cells #[.bool false, .string ⟨#[]⟩] 26)).alloc (.cells #[.bool false, .slice none 0 0] 82)) (g := w.heap.size + 1) (s := s) (v := .int .i64 10) hz (by omega))
        go_wp2_with fail
        refine HS.out.mono ?_
        rintro e w6 ⟨p, b, rfl, hg, hok⟩
        have hb6 := grown_w hg
        have m2 := Hb.out.2.below hb6 (Nat.lt_succ_self _)
        have d0 : w6.cell? ⟨w.heap.size, 0, none⟩ = some (.bool false) := m2.cell 0
        have d1 : w6.cell? ⟨w.heap.size, 1, none⟩ = some (.string ⟨#[]⟩) := m2.cell 1
        have d2 := m2.frozen 0
        have d3 := m2.frozen 1
        have hb06 := Lib.hid (Hb.out.1.trans (hb6.mono (by omega)))
        clear hb6 m2 HS
        go_wp2_with fail
        rw [Exit.noGoto_ret]
        refine bodyPost_ret (v := .tuple #[.agg #[.bool false, .string ⟨#[]⟩], .int .i64 120]) (by simp [results, Try.results34, go_sem, d0, d1]) rfl ?_
        exact ⟨fun h => absurd Hn.out.1 (by omega), fun _ _ => rfl, fun _ h => absurd h Hno.out, fun _ h => absurd h Hno.out, (hb06.out.setCell (Nat.le_refl w.heap.size) _).setCell (Nat.le_refl w.heap.size) _⟩
      · have hnb : ((s.size : Int) == 1) = false := beq_eq_false_iff_ne.2 (by omega)
        have hnb1 : (s.size == 1) = false := beq_eq_false_iff_ne.2 hnF
        have hnb2 : ¬ s.size = 1 := hnF
        have hnb3 : ¬ s = ByteArray.empty := fun h => by rw [h] at h0; exact absurd h0 (by decide)
        have HG := Lib.hid (show Good l by
          unfold Good
          rw [HF.out]
          exact ⟨fun j b h1 h2 => HI.out.1 j b h1 (Hlt.out j b h2) h2, by have := Hn.out.2.1; omega, fun h => HI.out.2 (by omega) h⟩)
        clear hnF
        have HS := Lib.hid (setstr_any (w := (w.alloc (.cells #[.bool false, .string ⟨#[]⟩] 26)).alloc (.cells #[.bool false, .slice none 0 0] 82)) (g := w.heap.size + 1) (s := s) (v := .int .i64 10) hz (by omega))
        go_wp2_with fail
        refine HS.out.mono ?_
        rintro e w6 ⟨p, b, rfl, hg, hok⟩
        have hb6 := grown_w hg
        have m2 := Hb.out.2.below hb6 (Nat.lt_succ_self _)
        have d0 : w6.cell? ⟨w.heap.size, 0, none⟩ = some (.bool false) := m2.cell 0
        have d1 : w6.cell? ⟨w.heap.size, 1, none⟩ = some (.string ⟨#[]⟩) := m2.cell 1
        have d2 := m2.frozen 0
        have d3 := m2.frozen 1
        have hb06 := Lib.hid (Hb.out.1.trans (hb6.mono (by omega)))
        clear hb6 m2 HS
        rw [← Hn.out.2.2.2, good_body HG.out] at hok
        obtain ⟨rfl, rfl, hi6⟩ := hok (good_dig HG.out).2 (good_dig HG.out).1
        have hlen : (wds (rval l).natAbs).length ≤ 40000 := by
          unfold rval
          rw [sgn_abs]
          exact dv_len (good_dig HG.out).1 (Nat.le_trans (by rw [List.length_drop]; omega) Hn.out.1)
        have HT := Lib.hid (told_any (z := rval l) hi6 (Nat.le_trans hlen (by decide)))
        have Hm6 := Lib.hid (show Blk w6 w.heap.size 26 #[.bool false, .string ⟨#[]⟩] from Hb.out.2.below (grown_w hg) (Nat.lt_succ_self _))
        clear hi6 hg hlen
        go_wp2_with fail
        refine HT.out.mono ?_
        intro e w7 hT
        obtain ⟨sn, bn, cd, rfl, hb7, hfin⟩ := tells_form hT
        have m3 := Hm6.out.below hb7 Hm6.out.lt
        have y0 : w7.cell? ⟨w.heap.size, 0, none⟩ = some (.bool false) := m3.cell 0
        have y1 : w7.cell? ⟨w.heap.size, 1, none⟩ = some (.string ⟨#[]⟩) := m3.cell 1
        have y2 := m3.frozen 0
        have y3 := m3.frozen 1
        have hb07 := Lib.hid (hb06.out.trans (hb7.mono hb06.out.size))
        clear hT m3 hb7 d0 d1 d2 d3
        go_wp2_with fail
        rw [Exit.noGoto_ret]
        refine bodyPost_ret (v := .tuple #[.agg #[.bool sn, .string bn], .int .i64 cd]) (by simp [results, Try.results34, go_sem, y0, y1]) rfl ?_
        have hA := hfin w _ True trivial ((hb07.out.setCell (p := ⟨w.heap.size, 0, none⟩) (Nat.le_refl w.heap.size) (.bool sn)).setCell (p := ⟨w.heap.size, 1, none⟩) (Nat.le_refl w.heap.size) (.string bn))
        exact ⟨fun h => absurd Hn.out.1 (by omega), fun _ h => absurd HG.out h, fun _ _ hf => hA.1 trivial hf, fun _ _ hf => hA.2.1 trivial hf, hA.2.2.2⟩
set_option maxRecDepth 100000 in
set_option maxHeartbeats 2000000 in
theorem wread_bare {w : World} {s : ByteArray} (hs : s.size ≤ 40000) (h0 : 0 < s.size) (hc : s[0] ≠ 45) : Calls Try.prog 34 #[.string s] w (Readd w s.data.toList) := by
  have hF : rfirst s.data.toList = 0 := by
    unfold rfirst signOf
    rw [head_of h0, if_neg]
    intro h
    have h1 := beq_iff_eq.1 h
    injection h1 with h1
    exact hc h1
  have hd0 : s[0].toNat ≠ 45 := fun h => hc (UInt8.toNat_inj.1 h)
  have hd1 : ((s[0].toNat : Int) == 45) = false := beq_eq_false_iff_ne.2 (by omega)
  obtain ⟨q1, q2⟩ := str_facts h0
  clear hc
  obtain ⟨l, hle⟩ : ∃ l, l = s.data.toList := ⟨_, rfl⟩
  have hl : l.length = s.size := by rw [hle]; exact Array.length_toList
  have hget : ∀ j (h : j < s.size) (h' : j < l.length), s[j] = l[j] := by subst hle; intro j h h'; rfl
  rw [← hle] at hF ⊢
  have HF := Lib.hid hF
  have hb := new_below w (.cells #[.bool false, .string ⟨#[]⟩] 26)
  have k2 := Blk.new w 26 #[.bool false, .string ⟨#[]⟩]
  have Hb := Lib.hid (And.intro hb k2)
  have hz : IntS ((w.alloc (.cells #[.bool false, .string ⟨#[]⟩] 26)).alloc (.cells #[.bool false, .slice none 0 0] 82)) (w.heap.size + 1) := by
    have := zslot (w.alloc (.cells #[.bool false, .string ⟨#[]⟩] 26))
    rw [World.size_alloc] at this
    exact this
  have Hz := Lib.hid hz
  have Hn := Lib.hid (And.intro (show l.length ≤ 40000 by omega) (And.intro hl (And.intro hget hle)))
  have hsi : (s.size : Int) ≤ 40000 := by omega
  clear hb k2 hz hl hget hle hF
  go_enter Try.func34, Try.ntmps34
  go_wp2_with fail
  go_step3
  go_wp2_with fail
  go_step3
  go_wp2_with fail
  go_loopg [4, 6] (s.size - 0) (fun k av cv wr => ∃ i : Nat, av = .int .i64 (i : Int) ∧ Hid (k = s.size - i) ∧ 0 ≤ i ∧ i ≤ s.size ∧ Hid ((∀ j b, 0 ≤ j → j < i → l[j]? = some b → IsDig b) ∧ (0 < i → l[0]? = some 48 → l.length ≤ 1)) ∧ w.alloc (.cells #[.bool false, .string ⟨#[]⟩] 26) = wr)
  case atStart => exact ⟨0, rfl, Lib.hid rfl, Nat.le_refl _, by omega, Lib.hid ⟨fun j b h1 h2 => by omega, fun h => by omega⟩, rfl⟩
  case round =>
    obtain ⟨i, rfl, Hk, hFi, hin, HI, rfl⟩ := hrel
    have hz := Hz.out
    by_cases hi : i < s.size
    · have hil : i < l.length := by have := Hn.out.2.1; omega
      have hyi : s[i] = l[i] := Hn.out.2.2.1 i hi hil
      have hli : l[i]? = some l[i] := List.getElem?_eq_getElem hil
      obtain ⟨y, hy⟩ : ∃ y, y = l[i] := ⟨_, rfl⟩
      rw [← hy] at hyi hli
      have hyn : s[i].toNat = y.toNat := by rw [hyi]
      have Hli := Lib.hid hli
      have hy8 := UInt8.toNat_lt y
      have hii : (i : Int) < (s.size : Int) := by omega
      clear hy hyi hli hil
      by_cases hd : IsDig y
      · have Hd := Lib.hid hd
        obtain ⟨g1, g2⟩ := hd
        have g3 : (48 : Int) ≤ (y.toNat : Int) := by omega
        have g4 : (y.toNat : Int) ≤ 57 := by omega
        by_cases hlead : y.toNat = 48 ∧ i = 0 ∧ 1 < s.size
        · obtain ⟨e1, rfl, e3⟩ := hlead
          have e4 : (1 : Int) < (s.size : Int) := by omega
          have Hno := Lib.hid (show ¬ Good l by
            unfold Good
            rw [HF.out]
            intro h
            have h1 := h.2.2 (by rw [Hli.out]; congr 1; exact UInt8.toNat_inj.1 e1)
            have := Hn.out.2.1
            omega)
          rw [e1] at hyn
          have HS := Lib.hid (setstr_any (w := (w.alloc (.cells #[.bool false, .string ⟨#[]⟩] 26)).alloc (.cells #[.bool false, .slice none 0 0] 82)) (g := w.heap.size + 1) (s := s) (v := .int .i64 10) hz (by omega))
          go_wp2_with fail
          refine HS.out.mono ?_
          rintro e w6 ⟨p, b, rfl, hg, hok⟩
          have hb6 := grown_w hg
          have m2 := Hb.out.2.below hb6 (Nat.lt_succ_self _)
          have d0 : w6.cell? ⟨w.heap.size, 0, none⟩ = some (.bool false) := m2.cell 0
          have d1 : w6.cell? ⟨w.heap.size, 1, none⟩ = some (.string ⟨#[]⟩) := m2.cell 1
          have d2 := m2.frozen 0
          have d3 := m2.frozen 1
          have hb06 := Lib.hid (Hb.out.1.trans (hb6.mono (by omega)))
          clear hb6 m2 HS
          go_wp2_with fail
          rw [Exit.noGoto_ret]
          refine bodyPost_ret (v := .tuple #[.agg #[.bool false, .string ⟨#[]⟩], .int .i64 120]) (by simp [results, Try.results34, go_sem, d0, d1]) rfl ?_
          exact ⟨fun h => absurd Hn.out.1 (by omega), fun _ _ => rfl, fun _ h => absurd h Hno.out, fun _ h => absurd h Hno.out, (hb06.out.setCell (Nat.le_refl w.heap.size) _).setCell (Nat.le_refl w.heap.size) _⟩
        · have hl0 : ((y.toNat : Int) == 48 && ((i : Int) == 0) && decide ((1 : Int) < (s.size : Int))) = false := by
            rw [Bool.and_eq_false_iff, Bool.and_eq_false_iff]
            by_cases e1 : y.toNat = 48
            · by_cases e2 : i = 0
              · exact .inr (decide_eq_false (by omega))
              · exact .inl (.inr (beq_eq_false_iff_ne.2 (by omega)))
            · exact .inl (.inl (beq_eq_false_iff_ne.2 (by omega)))
          have Hlead := Lib.hid hlead
          clear hlead
          have hcase : (y.toNat : Int) ≠ 48 ∨ (i : Int) ≠ 0 ∨ (s.size : Int) ≤ 1 := by
            have := Hlead.out
            omega
          have HX : Hid ((∀ j b, 0 ≤ j → j < i + 1 → l[j]? = some b → IsDig b) ∧ (0 < i + 1 → l[0]? = some 48 → l.length ≤ 1)) := by
            refine Lib.hid ⟨fun j b h1 h2 h3 => ?_, fun h1 h2 => ?_⟩
            · rcases Nat.lt_or_ge j i with h4 | h4
              · exact HI.out.1 j b h1 h4 h3
              · obtain rfl : j = i := by omega
                rw [Hli.out] at h3
                injection h3 with h3
                subst h3
                exact Hd.out
            · rcases Nat.lt_or_ge 0 i with h4 | h4
              · exact HI.out.2 h4 h2
              · obtain rfl : i = 0 := by omega
                rw [Hli.out] at h2
                injection h2 with h2
                have h5 : ¬ 1 < s.size := fun h => Hlead.out ⟨by rw [h2]; rfl, rfl, h⟩
                have := Hn.out.2.1
                omega
          rcases hcase with hc | hc | hc
          · have hc2 : ((y.toNat : Int) == 48) = false := beq_eq_false_iff_ne.2 hc
            clear hl0 hc
            go_wp2_with fail
            go_roundg (s.size - (i + 1))
            case measure => have := Hk.out; omega
            case rel => exact ⟨i + 1, rfl, Lib.hid rfl, by omega, by omega, HX, rfl⟩
          · have hc2 : ((i : Int) == 0) = false := beq_eq_false_iff_ne.2 hc
            have hc21 : (i == 0) = false := beq_eq_false_iff_ne.2 (by omega)
            have hc22 : ¬ i = 0 := by omega
            clear hl0
            by_cases hc3 : y.toNat = 48
            · rw [hc3] at hyn
              go_wp2_with fail
              go_roundg (s.size - (i + 1))
              case measure => have := Hk.out; omega
              case rel => exact ⟨i + 1, rfl, Lib.hid rfl, by omega, by omega, HX, rfl⟩
            · have hc4 : ((y.toNat : Int) == 48) = false := beq_eq_false_iff_ne.2 (by omega)
              go_wp2_with fail
              go_roundg (s.size - (i + 1))
              case measure => have := Hk.out; omega
              case rel => exact ⟨i + 1, rfl, Lib.hid rfl, by omega, by omega, HX, rfl⟩
          · clear hl0
            have hc7 : decide ((1 : Int) < (s.size : Int)) = false := decide_eq_false (by omega)
            have hc8 : ¬ 1 < s.size := by omega
            have hc9 : decide (1 < s.size) = false := decide_eq_false hc8
            by_cases hc3 : y.toNat = 48
            · rw [hc3] at hyn
              by_cases hc5 : i = 0
              · have hc6 : ((i : Int) == 0) = true := beq_iff_eq.2 (by omega)
                have hc61 : (i == 0) = true := beq_iff_eq.2 (by omega)
                have hyn0 : s[0].toNat = 48 := by subst hc5; exact hyn
                go_wp2_with fail
                go_roundg (s.size - (i + 1))
                case measure => have := Hk.out; omega
                case rel => exact ⟨i + 1, by subst hc5; rfl, Lib.hid rfl, by omega, by omega, HX, rfl⟩
              · have hc6 : ((i : Int) == 0) = false := beq_eq_false_iff_ne.2 (by omega)
                have hc61 : (i == 0) = false := beq_eq_false_iff_ne.2 (by omega)
                go_wp2_with fail
                go_roundg (s.size - (i + 1))
                case measure => have := Hk.out; omega
                case rel => exact ⟨i + 1, rfl, Lib.hid rfl, by omega, by omega, HX, rfl⟩
            · have hc4 : ((y.toNat : Int) == 48) = false := beq_eq_false_iff_ne.2 (by omega)
              go_wp2_with fail
              go_roundg (s.size - (i + 1))
              case measure => have := Hk.out; omega
              case rel => exact ⟨i + 1, rfl, Lib.hid rfl, by omega, by omega, HX, rfl⟩
      · have Hno := Lib.hid (show ¬ Good l by
          unfold Good
          rw [HF.out]
          intro h
          exact hd (h.1 i y hFi Hli.out))
        have Hd := Lib.hid hd
        rcases Nat.lt_or_ge y.toNat 48 with g1 | g1
        · have g3 : (y.toNat : Int) < 48 := by omega
          clear hd
          have HS := Lib.hid (setstr_any (w := (w.alloc (.cells #[.bool false, .string ⟨#[]⟩] 26)).alloc (.cells #[.bool false, .slice none 0 0] 82)) (g := w.heap.size + 1) (s := s) (v := .int .i64 10) hz (by omega))
          go_wp2_with fail
          refine HS.out.mono ?_
          rintro e w6 ⟨p, b, rfl, hg, hok⟩
          have hb6 := grown_w hg
          have m2 := Hb.out.2.below hb6 (Nat.lt_succ_self _)
          have d0 : w6.cell? ⟨w.heap.size, 0, none⟩ = some (.bool false) := m2.cell 0
          have d1 : w6.cell? ⟨w.heap.size, 1, none⟩ = some (.string ⟨#[]⟩) := m2.cell 1
          have d2 := m2.frozen 0
          have d3 := m2.frozen 1
          have hb06 := Lib.hid (Hb.out.1.trans (hb6.mono (by omega)))
          clear hb6 m2 HS
          go_wp2_with fail
          rw [Exit.noGoto_ret]
          refine bodyPost_ret (v := .tuple #[.agg #[.bool false, .string ⟨#[]⟩], .int .i64 120]) (by simp [results, Try.results34, go_sem, d0, d1]) rfl ?_
          exact ⟨fun h => absurd Hn.out.1 (by omega), fun _ _ => rfl, fun _ h => absurd h Hno.out, fun _ h => absurd h Hno.out, (hb06.out.setCell (Nat.le_refl w.heap.size) _).setCell (Nat.le_refl w.heap.size) _⟩
        · have g3 : (48 : Int) ≤ (y.toNat : Int) := by omega
          have g4 : (57 : Int) < (y.toNat : Int) := by
            have := Hd.out
            unfold IsDig at this
            omega
          clear hd
          have HS := Lib.hid (setstr_any (w := (w.alloc (.cells #[.bool false, .string ⟨#[]⟩] 26)).alloc (.cells #[.bool false, .slice none 0 0] 82)) (g := w.heap.size + 1) (s := s) (v := .int .i64 10) hz (by omega))
          go_wp2_with fail
          refine HS.out.mono ?_
          rintro e w6 ⟨p, b, rfl, hg, hok⟩
          have hb6 := grown_w hg
          have m2 := Hb.out.2.below hb6 (Nat.lt_succ_self _)
          have d0 : w6.cell? ⟨w.heap.size, 0, none⟩ = some (.bool false) := m2.cell 0
          have d1 : w6.cell? ⟨w.heap.size, 1, none⟩ = some (.string ⟨#[]⟩) := m2.cell 1
          have d2 := m2.frozen 0
          have d3 := m2.frozen 1
          have hb06 := Lib.hid (Hb.out.1.trans (hb6.mono (by omega)))
          clear hb6 m2 HS
          go_wp2_with fail
          rw [Exit.noGoto_ret]
          refine bodyPost_ret (v := .tuple #[.agg #[.bool false, .string ⟨#[]⟩], .int .i64 120]) (by simp [results, Try.results34, go_sem, d0, d1]) rfl ?_
          exact ⟨fun h => absurd Hn.out.1 (by omega), fun _ _ => rfl, fun _ h => absurd h Hno.out, fun _ h => absurd h Hno.out, (hb06.out.setCell (Nat.le_refl w.heap.size) _).setCell (Nat.le_refl w.heap.size) _⟩
    · have hin2 : i = s.size := by omega
      subst hin2
      have hlt : ∀ j b, l[j]? = some b → j < s.size := fun j b h => by
        rcases Nat.lt_or_ge j l.length with h1 | h1
        · have := Hn.out.2.1; omega
        · rw [List.getElem?_eq_none h1] at h; cases h
      have Hlt := Lib.hid hlt
      clear hlt hi
      by_cases hnF : s.size = 0
      · exact absurd hnF (by omega)
      · have hnb : ((s.size : Int) == 0) = false := beq_eq_false_iff_ne.2 (by omega)
        have hnb1 : (s.size == 0) = false := beq_eq_false_iff_ne.2 hnF
        have hnb2 : ¬ s.size = 0 := hnF
        have hnb3 : ¬ s = ByteArray.empty := fun h => by rw [h] at h0; exact absurd h0 (by decide)
        have HG := Lib.hid (show Good l by
          unfold Good
          rw [HF.out]
          exact ⟨fun j b h1 h2 => HI.out.1 j b h1 (Hlt.out j b h2) h2, by have := Hn.out.2.1; omega, fun h => HI.out.2 (by omega) h⟩)
        clear hnF
        have HS := Lib.hid (setstr_any (w := (w.alloc (.cells #[.bool false, .string ⟨#[]⟩] 26)).alloc (.cells #[.bool false, .slice none 0 0] 82)) (g := w.heap.size + 1) (s := s) (v := .int .i64 10) hz (by omega))
        go_wp2_with fail
        refine HS.out.mono ?_
        rintro e w6 ⟨p, b, rfl, hg, hok⟩
        have hb6 := grown_w hg
        have m2 := Hb.out.2.below hb6 (Nat.lt_succ_self _)
        have d0 : w6.cell? ⟨w.heap.size, 0, none⟩ = some (.bool false) := m2.cell 0
        have d1 : w6.cell? ⟨w.heap.size, 1, none⟩ = some (.string ⟨#[]⟩) := m2.cell 1
        have d2 := m2.frozen 0
        have d3 := m2.frozen 1
        have hb06 := Lib.hid (Hb.out.1.trans (hb6.mono (by omega)))
        clear hb6 m2 HS
        rw [← Hn.out.2.2.2, good_body HG.out] at hok
        obtain ⟨rfl, rfl, hi6⟩ := hok (good_dig HG.out).2 (good_dig HG.out).1
        have hlen : (wds (rval l).natAbs).length ≤ 40000 := by
          unfold rval
          rw [sgn_abs]
          exact dv_len (good_dig HG.out).1 (Nat.le_trans (by rw [List.length_drop]; omega) Hn.out.1)
        have HT := Lib.hid (told_any (z := rval l) hi6 (Nat.le_trans hlen (by decide)))
        have Hm6 := Lib.hid (show Blk w6 w.heap.size 26 #[.bool false, .string ⟨#[]⟩] from Hb.out.2.below (grown_w hg) (Nat.lt_succ_self _))
        clear hi6 hg hlen
        go_wp2_with fail
        refine HT.out.mono ?_
        intro e w7 hT
        obtain ⟨sn, bn, cd, rfl, hb7, hfin⟩ := tells_form hT
        have m3 := Hm6.out.below hb7 Hm6.out.lt
        have y0 : w7.cell? ⟨w.heap.size, 0, none⟩ = some (.bool false) := m3.cell 0
        have y1 : w7.cell? ⟨w.heap.size, 1, none⟩ = some (.string ⟨#[]⟩) := m3.cell 1
        have y2 := m3.frozen 0
        have y3 := m3.frozen 1
        have hb07 := Lib.hid (hb06.out.trans (hb7.mono hb06.out.size))
        clear hT m3 hb7 d0 d1 d2 d3
        go_wp2_with fail
        rw [Exit.noGoto_ret]
        refine bodyPost_ret (v := .tuple #[.agg #[.bool sn, .string bn], .int .i64 cd]) (by simp [results, Try.results34, go_sem, y0, y1]) rfl ?_
        have hA := hfin w _ True trivial ((hb07.out.setCell (p := ⟨w.heap.size, 0, none⟩) (Nat.le_refl w.heap.size) (.bool sn)).setCell (p := ⟨w.heap.size, 1, none⟩) (Nat.le_refl w.heap.size) (.string bn))
        exact ⟨fun h => absurd Hn.out.1 (by omega), fun _ h => absurd HG.out h, fun _ _ hf => hA.1 trivial hf, fun _ _ hf => hA.2.1 trivial hf, hA.2.2.2⟩
theorem wread_none {w : World} : Calls Try.prog 34 #[.string ⟨#[]⟩] w (Readd w []) := by
  have hb := new_below w (.cells #[.bool false, .string ⟨#[]⟩] 26)
  have k2 := Blk.new w 26 #[.bool false, .string ⟨#[]⟩]
  have Hb := Lib.hid (And.intro hb k2)
  have hz : IntS ((w.alloc (.cells #[.bool false, .string ⟨#[]⟩] 26)).alloc (.cells #[.bool false, .slice none 0 0] 82)) (w.heap.size + 1) := by
    have := zslot (w.alloc (.cells #[.bool false, .string ⟨#[]⟩] 26))
    rw [World.size_alloc] at this
    exact this
  have HS := Lib.hid (setstr_any (w := (w.alloc (.cells #[.bool false, .string ⟨#[]⟩] 26)).alloc (.cells #[.bool false, .slice none 0 0] 82)) (g := w.heap.size + 1) (s := ⟨#[]⟩) (v := .int .i64 10) hz (by decide))
  have Hno := Lib.hid (show ¬ Good [] from fun h => absurd h.2.1 (by simp))
  clear hb k2 hz
  go_enter Try.func34, Try.ntmps34
  go_wp2_with fail
  go_step3
  go_wp2_with fail
  go_step3
  go_wp2_with fail
  go_loopg [4, 6] 0 (fun k av cv wr => av = .int .i64 0 ∧ w.alloc (.cells #[.bool false, .string ⟨#[]⟩] 26) = wr)
  case atStart => exact ⟨rfl, rfl⟩
  case round =>
    obtain ⟨rfl, rfl⟩ := hrel
    go_wp2_with fail
    refine HS.out.mono ?_
    rintro e w6 ⟨p, b, rfl, hg, hok⟩
    have hb6 := grown_w hg
    have m2 := Hb.out.2.below hb6 (Nat.lt_succ_self _)
    have d0 : w6.cell? ⟨w.heap.size, 0, none⟩ = some (.bool false) := m2.cell 0
    have d1 : w6.cell? ⟨w.heap.size, 1, none⟩ = some (.string ⟨#[]⟩) := m2.cell 1
    have d2 := m2.frozen 0
    have d3 := m2.frozen 1
    have hb06 := Lib.hid (Hb.out.1.trans (hb6.mono (by omega)))
    clear hb6 m2 HS
    go_wp2_with fail
    rw [Exit.noGoto_ret]
    refine bodyPost_ret (v := .tuple #[.agg #[.bool false, .string ⟨#[]⟩], .int .i64 120]) (by simp [results, Try.results34, go_sem, d0, d1]) rfl ?_
    exact ⟨fun h => absurd h (by decide), fun _ _ => rfl, fun _ h => absurd h Hno.out, fun _ h => absurd h Hno.out, (hb06.out.setCell (Nat.le_refl w.heap.size) _).setCell (Nat.le_refl w.heap.size) _⟩
theorem wread_any {w : World} {s : ByteArray} : Calls Try.prog 34 #[.string s] w (Readd w s.data.toList) := by
  rcases Nat.lt_or_ge 40000 s.size with h | h
  · exact wread_long h
  · rcases Nat.eq_zero_or_pos s.size with h0 | h0
    · have hl : s.data.toList.length = s.size := Array.length_toList
      obtain rfl := str_empty (List.eq_nil_of_length_eq_zero (show s.data.toList.length = 0 by omega))
      exact wread_none
    · by_cases h1 : s[0] = 45
      · exact wread_neg h h0 h1
      · exact wread_bare h h0 h1
end Go.Proofs.Ytpnginnjbdedbaa
