import Derived.Test.YtpnginnjbdedbaaC8
import Derived.Test.YtpnginnjbdedbaaRows
import Derived.Test.YtpnginnjbdedbaaC1
import Derived.WalkKit
import Derived.ProofKit
import Derived.OpenShut
import Derived.Carry
import Derived.JoinedCond
import Derived.ChangeSlices
/- law.WholeTells (printed by gen_tells.py). -/
namespace Go.Proofs.Ytpnginnjbdedbaa
open Go.RowKit
open Wh
set_option linter.unusedSimpArgs false

set_option maxRecDepth 100000 in
set_option maxHeartbeats 8000000 in
theorem tells_bad {w : World} {na : Bool} {sa : ByteArray} {i n : Int} (hi : i ≤ 9223372036854775807) (hn1 : -9223372036854775808 ≤ n) (hn2 : n ≤ 9223372036854775807) (hb : isBad (na, sa) = true) (hm : ¬ MayL na sa.data.toList) :
    Calls Try.prog 7 #[.agg #[.bool na, .string sa], .int .i64 i, .int .i64 n] w (fun e w' => e = .returned (.bool true) ∧ Below w.heap.size w w') := by
  obtain ⟨so, bo, eo⟩ : ∃ s b, enc n = .agg #[.bool s, .string b] := ⟨_, _, rfl⟩
  have HO := Lib.hid (fun W : World => calm_eq (of64_any (w := W) hn1 hn2) eo)
  have RO := Lib.hid (fun W : World => calm_eq (rOf_any (w := W) hn1 hn2) eo)
  clear hn1 hn2 eo
  have HB := Lib.hid (fun W : World => bad_one (w := W) (na := na) (sa := sa))
  rw [hb] at HB
  clear hb
  have H37 := Lib.hid (fun W : World => neg_bad (w := W) hm)
  have H38 := Lib.hid (fun W : World => abs_bad (w := W) hm)
  have H39 := Lib.hid (fun W : World => small_bad (w := W) hm)
  have H40 := Lib.hid (fun W : World => bit_no (w := W) hi (fun h => hm h.1))
  have H43 := Lib.hid (fun W : World => check_no (w := W) hm)
  have H44 := Lib.hid (fun W : World => sign_bad (w := W) hm)
  have H45 := Lib.hid (fun W : World => bits_bad (w := W) hm)
  have HA := Lib.hid (fun W : World => arg_any (w := W))
  clear hm hi
  have HW := Lib.hid (fun W : World => works_any (w := W))
  have HN := Lib.hid (fun (W : World) (n : Int) => num_any (w := W) (n := n))
  have E0 := Lib.hid (Env.nil w)
  go_enter Try.func7, Try.ntmps7
  go_upto_region 0 with fail
  go_upto_region 1 with fail
  have E1 : Hid (Env w (w.alloc (.cells #[.bool na, .string sa] 26)) [(w.heap.size, 26, #[.bool na, .string sa])]) := Lib.hid (by have h := (Env.new E0.out 26 #[.bool na, .string sa]); (try simp only [World.size_alloc] at h); exact h)
  generalize (w.alloc (.cells #[.bool na, .string sa] 26)) = W1 at E1 ⊢
  have q0_0 : W1.cell? ⟨w.heap.size, 0, none⟩ = some (.bool na) := (Env.at_ E1.out 0 rfl).cell 0
  have q0_1 : W1.cell? ⟨w.heap.size, 1, none⟩ = some (.string sa) := (Env.at_ E1.out 0 rfl).cell 1
  go_wp2_with fail
  refine (H37.out _).mono ?_
  rintro e w2 ⟨rfl, h2⟩
  have E3 := Lib.hid (E1.out.call h2)
  clear q0_0 q0_1 h2
  go_upto_region 2 with fail
  have E4 : Hid (Env w (w2.alloc (.cells #[.bool false, .string ⟨#[]⟩] 26)) [(w2.heap.size, 26, #[.bool false, .string ⟨#[]⟩]), (w.heap.size, 26, #[.bool na, .string sa])]) := Lib.hid (by have h := (Env.new E3.out 26 #[.bool false, .string ⟨#[]⟩]); (try simp only [World.size_alloc] at h); exact h)
  generalize (w2.alloc (.cells #[.bool false, .string ⟨#[]⟩] 26)) = W4 at E4 ⊢
  have q0_0 : W4.cell? ⟨w.heap.size, 0, none⟩ = some (.bool na) := (Env.at_ E4.out 1 rfl).cell 0
  have q0_1 : W4.cell? ⟨w.heap.size, 1, none⟩ = some (.string sa) := (Env.at_ E4.out 1 rfl).cell 1
  go_wp2_with fail
  refine (H38.out _).mono ?_
  rintro e w5 ⟨rfl, h5⟩
  have E6 := Lib.hid (E4.out.call h5)
  clear q0_0 q0_1 h5
  go_upto_region 3 with fail
  have E7 : Hid (Env w (w5.alloc (.cells #[.bool false, .string ⟨#[]⟩] 26)) [(w5.heap.size, 26, #[.bool false, .string ⟨#[]⟩]), (w2.heap.size, 26, #[.bool false, .string ⟨#[]⟩]), (w.heap.size, 26, #[.bool na, .string sa])]) := Lib.hid (by have h := (Env.new E6.out 26 #[.bool false, .string ⟨#[]⟩]); (try simp only [World.size_alloc] at h); exact h)
  generalize (w5.alloc (.cells #[.bool false, .string ⟨#[]⟩] 26)) = W7 at E7 ⊢
  have q0_0 : W7.cell? ⟨w.heap.size, 0, none⟩ = some (.bool na) := (Env.at_ E7.out 2 rfl).cell 0
  have q0_1 : W7.cell? ⟨w.heap.size, 1, none⟩ = some (.string sa) := (Env.at_ E7.out 2 rfl).cell 1
  go_wp2_with fail
  refine (H39.out _).mono ?_
  rintro e w8 ⟨rfl, h8⟩
  have E9 := Lib.hid (E7.out.call h8)
  clear q0_0 q0_1 h8
  go_upto_region 4 with fail
  have q0_0 : w8.cell? ⟨w.heap.size, 0, none⟩ = some (.bool na) := (Env.at_ E9.out 2 rfl).cell 0
  have q0_1 : w8.cell? ⟨w.heap.size, 1, none⟩ = some (.string sa) := (Env.at_ E9.out 2 rfl).cell 1
  go_wp2_with fail
  refine (H40.out _).mono ?_
  rintro e w10 ⟨rfl, h10⟩
  have E11 := Lib.hid (E9.out.call h10)
  clear q0_0 q0_1 h10
  go_upto_region 5 with fail
  go_wp2_with fail
  refine (HO.out _).mono ?_
  rintro e w12 ⟨rfl, h12⟩
  have E13 := Lib.hid (E11.out.call h12)
  clear h12
  go_wp2_with fail
  refine (RO.out _).mono ?_
  rintro e w14 ⟨rfl, h14⟩
  have E15 := Lib.hid (E13.out.call h14)
  clear h14
  go_upto_region 7 with fail
  have q0_0 : w14.cell? ⟨w.heap.size, 0, none⟩ = some (.bool na) := (Env.at_ E15.out 2 rfl).cell 0
  have q0_1 : w14.cell? ⟨w.heap.size, 1, none⟩ = some (.string sa) := (Env.at_ E15.out 2 rfl).cell 1
  go_wp2_with fail
  refine (HB.out _).mono ?_
  rintro e w16 ⟨rfl, h16⟩
  have E17 := Lib.hid ((Env.other E15.out (.cells #[.bool na, .string sa] 26)).call h16)
  clear q0_0 q0_1 h16
  go_upto_region 8 with fail
  have q0_0 : w16.cell? ⟨w.heap.size, 0, none⟩ = some (.bool na) := (Env.at_ E17.out 2 rfl).cell 0
  have q0_1 : w16.cell? ⟨w.heap.size, 1, none⟩ = some (.string sa) := (Env.at_ E17.out 2 rfl).cell 1
  go_wp2_with fail
  refine (H43.out _).mono ?_
  rintro e w18 ⟨rfl, h18⟩
  have E19 := Lib.hid (E17.out.call h18)
  clear q0_0 q0_1 h18
  go_wp2_with fail
  refine (HN.out _ 2).mono ?_
  rintro e w20 ⟨rfl, h20⟩
  subst h20
  have E21 := Lib.hid (E19.out)
  have q5_0 : w18.cell? ⟨w2.heap.size, 0, none⟩ = some (.bool false) := (Env.at_ E21.out 1 rfl).cell 0
  have q5_1 : w18.cell? ⟨w2.heap.size, 1, none⟩ = some (.string ⟨#[]⟩) := (Env.at_ E21.out 1 rfl).cell 1
  go_wp2_with fail
  refine (HA.out _).mono ?_
  rintro e w22 ⟨rfl, h22⟩
  have E23 := Lib.hid (E21.out.call h22)
  clear q5_0 q5_1 h22
  have q10_0 : w22.cell? ⟨w5.heap.size, 0, none⟩ = some (.bool false) := (Env.at_ E23.out 0 rfl).cell 0
  have q10_1 : w22.cell? ⟨w5.heap.size, 1, none⟩ = some (.string ⟨#[]⟩) := (Env.at_ E23.out 0 rfl).cell 1
  go_wp2_with fail
  refine (HA.out _).mono ?_
  rintro e w24 ⟨rfl, h24⟩
  have E25 := Lib.hid (E23.out.call h24)
  clear q10_0 q10_1 h24
  go_wp2_with fail
  refine (HN.out _ 2).mono ?_
  rintro e w26 ⟨rfl, h26⟩
  subst h26
  have E27 := Lib.hid (E25.out)
  have q32_0 : w24.cell? ⟨w.heap.size, 0, none⟩ = some (.bool na) := (Env.at_ E27.out 2 rfl).cell 0
  have q32_1 : w24.cell? ⟨w.heap.size, 1, none⟩ = some (.string sa) := (Env.at_ E27.out 2 rfl).cell 1
  go_wp2_with fail
  refine (H44.out _).mono ?_
  rintro e w28 ⟨rfl, h28⟩
  have E29 := Lib.hid (E27.out.call h28)
  clear q32_0 q32_1 h28
  have q37_0 : w28.cell? ⟨w.heap.size, 0, none⟩ = some (.bool na) := (Env.at_ E29.out 2 rfl).cell 0
  have q37_1 : w28.cell? ⟨w.heap.size, 1, none⟩ = some (.string sa) := (Env.at_ E29.out 2 rfl).cell 1
  go_wp2_with fail
  refine (H45.out _).mono ?_
  rintro e w30 ⟨rfl, h30⟩
  have E31 := Lib.hid (E29.out.call h30)
  clear q37_0 q37_1 h30
  go_wp2_with fail
  refine (HW.out _).mono ?_
  rintro e w32 ⟨rfl, h32⟩
  have E33 := Lib.hid (E31.out.call h32)
  clear h32
  go_wp2_with fail
  go_ret
  exact ⟨rfl, E33.out.1⟩
set_option maxRecDepth 100000 in
set_option maxHeartbeats 8000000 in
theorem tells_in_neg {w : World} {na : Bool} {sa : ByteArray} {i n : Int} (hi : i ≤ 9223372036854775807) (hi0 : i < 0) (hb : isBad (na, sa) = false) (hm : MayL na sa.data.toList) (hr : Ranged (num (na, sa))) (hn1 : -9223372036854775808 ≤ n) (hn2 : n ≤ 9223372036854775807) :
    Calls Try.prog 7 #[.agg #[.bool na, .string sa], .int .i64 i, .int .i64 n] w (fun e w' => e = .returned (.bool true) ∧ Below w.heap.size w w') := by
  obtain ⟨so, bo, eo⟩ : ∃ s b, enc n = .agg #[.bool s, .string b] := ⟨_, _, rfl⟩
  have HO := Lib.hid (fun W : World => calm_eq (of64_any (w := W) hn1 hn2) eo)
  have RO := Lib.hid (fun W : World => calm_eq (rOf_any (w := W) hn1 hn2) eo)
  clear hn1 hn2 eo
  have HB := Lib.hid (fun W : World => bad_one (w := W) (na := na) (sa := sa))
  rw [hb] at HB
  clear hb
  have Fa := Fmd.of_may hm
  have Sx : SB 131072 (num (na, sa)) := by have h := may_sb (n := na) (s := sa) (k := 16384) (by have hl : sa.data.toList.length = sa.size := Array.length_toList; have := hm.1; omega); exact h
  have fk : fits (-num (na, sa)) := Sx.neg.fits (Nat.le_refl _)
  obtain ⟨sk, bk, ek, nk, mk⟩ := enc_form fk
  have fc : fits (((num (na, sa)).natAbs : Int)) := (Sx.le (by rw [Int.natAbs_natCast]; exact Nat.le_refl _)).fits (Nat.le_refl _)
  obtain ⟨sc, bc, ec, nc, mc⟩ := enc_form fc
  have H37 := Lib.hid (fun W : World => neg_told (w := W) hm rfl fk ek)
  have H38 := Lib.hid (fun W : World => abs_told (w := W) hm rfl fc ec)
  have H39 := Lib.hid (fun W : World => small_in (w := W) hm hr)
  have H40 := Lib.hid (fun W : World => bit_no (w := W) (na := na) (sa := sa) hi (fun h => by omega))
  have H43 := Lib.hid (fun W : World => check_ok (w := W) hm)
  have R46 := Lib.hid (fun W : World => rsmall_in (w := W) (na := na) Fa hr)
  have R47 := Lib.hid (fun W : World => calm_eq (rneg_any (w := W) (n := na) Fa) ek)
  have R48 := Lib.hid (fun W : World => calm_eq (rabs_any (w := W) (n := na) Fa) ec)
  have H44 := Lib.hid (fun W : World => sign_told (w := W) hm)
  have R49 := Lib.hid (fun W : World => rsign_any (w := W) (n := na) Fa)
  have H45 := Lib.hid (fun W : World => bits_told (w := W) hm)
  have R50 := Lib.hid (fun W : World => rBits_any (w := W) (na := na) Fa)
  generalize ((bl (num (na, sa)).natAbs : Nat) : Int) = zl at H45 R50
  generalize sg (num (na, sa)) = zs at H44 R49
  generalize hzz : num (na, sa) = zx at H39 R46
  clear hm hr Fa Sx fk ek nk mk fc ec nc mc hzz
  have hdi : decide (i < 0) = true := decide_eq_true hi0
  have HW := Lib.hid (fun W : World => works_any (w := W))
  have HN := Lib.hid (fun (W : World) (n : Int) => num_any (w := W) (n := n))
  have E0 := Lib.hid (Env.nil w)
  go_enter Try.func7, Try.ntmps7
  go_upto_region 0 with fail
  go_upto_region 1 with fail
  have E1 : Hid (Env w (w.alloc (.cells #[.bool na, .string sa] 26)) [(w.heap.size, 26, #[.bool na, .string sa])]) := Lib.hid (by have h := (Env.new E0.out 26 #[.bool na, .string sa]); (try simp only [World.size_alloc] at h); exact h)
  generalize (w.alloc (.cells #[.bool na, .string sa] 26)) = W1 at E1 ⊢
  have q0_0 : W1.cell? ⟨w.heap.size, 0, none⟩ = some (.bool na) := (Env.at_ E1.out 0 rfl).cell 0
  have q0_1 : W1.cell? ⟨w.heap.size, 1, none⟩ = some (.string sa) := (Env.at_ E1.out 0 rfl).cell 1
  go_wp2_with fail
  refine (H37.out _).mono ?_
  rintro e w2 ⟨rfl, h2⟩
  have E3 := Lib.hid (E1.out.call h2)
  clear q0_0 q0_1 h2
  go_upto_region 2 with fail
  have E4 : Hid (Env w (w2.alloc (.cells #[.bool sk, .string bk] 26)) [(w2.heap.size, 26, #[.bool sk, .string bk]), (w.heap.size, 26, #[.bool na, .string sa])]) := Lib.hid (by have h := (Env.new E3.out 26 #[.bool sk, .string bk]); (try simp only [World.size_alloc] at h); exact h)
  generalize (w2.alloc (.cells #[.bool sk, .string bk] 26)) = W4 at E4 ⊢
  have q0_0 : W4.cell? ⟨w.heap.size, 0, none⟩ = some (.bool na) := (Env.at_ E4.out 1 rfl).cell 0
  have q0_1 : W4.cell? ⟨w.heap.size, 1, none⟩ = some (.string sa) := (Env.at_ E4.out 1 rfl).cell 1
  go_wp2_with fail
  refine (H38.out _).mono ?_
  rintro e w5 ⟨rfl, h5⟩
  have E6 := Lib.hid (E4.out.call h5)
  clear q0_0 q0_1 h5
  go_upto_region 3 with fail
  have E7 : Hid (Env w (w5.alloc (.cells #[.bool sc, .string bc] 26)) [(w5.heap.size, 26, #[.bool sc, .string bc]), (w2.heap.size, 26, #[.bool sk, .string bk]), (w.heap.size, 26, #[.bool na, .string sa])]) := Lib.hid (by have h := (Env.new E6.out 26 #[.bool sc, .string bc]); (try simp only [World.size_alloc] at h); exact h)
  generalize (w5.alloc (.cells #[.bool sc, .string bc] 26)) = W7 at E7 ⊢
  have q0_0 : W7.cell? ⟨w.heap.size, 0, none⟩ = some (.bool na) := (Env.at_ E7.out 2 rfl).cell 0
  have q0_1 : W7.cell? ⟨w.heap.size, 1, none⟩ = some (.string sa) := (Env.at_ E7.out 2 rfl).cell 1
  go_wp2_with fail
  refine (H39.out _).mono ?_
  rintro e w8 ⟨rfl, h8⟩
  have E9 := Lib.hid (E7.out.call h8)
  clear q0_0 q0_1 h8
  go_upto_region 4 with fail
  have q0_0 : w8.cell? ⟨w.heap.size, 0, none⟩ = some (.bool na) := (Env.at_ E9.out 2 rfl).cell 0
  have q0_1 : w8.cell? ⟨w.heap.size, 1, none⟩ = some (.string sa) := (Env.at_ E9.out 2 rfl).cell 1
  go_wp2_with fail
  refine (H40.out _).mono ?_
  rintro e w10 ⟨rfl, h10⟩
  have E11 := Lib.hid (E9.out.call h10)
  clear q0_0 q0_1 h10
  go_upto_region 5 with fail
  go_wp2_with fail
  refine (HO.out _).mono ?_
  rintro e w12 ⟨rfl, h12⟩
  have E13 := Lib.hid (E11.out.call h12)
  clear h12
  go_wp2_with fail
  refine (RO.out _).mono ?_
  rintro e w14 ⟨rfl, h14⟩
  have E15 := Lib.hid (E13.out.call h14)
  clear h14
  go_upto_region 7 with fail
  have q0_0 : w14.cell? ⟨w.heap.size, 0, none⟩ = some (.bool na) := (Env.at_ E15.out 2 rfl).cell 0
  have q0_1 : w14.cell? ⟨w.heap.size, 1, none⟩ = some (.string sa) := (Env.at_ E15.out 2 rfl).cell 1
  go_wp2_with fail
  refine (HB.out _).mono ?_
  rintro e w16 ⟨rfl, h16⟩
  have E17 := Lib.hid ((Env.other E15.out (.cells #[.bool na, .string sa] 26)).call h16)
  clear q0_0 q0_1 h16
  go_upto_region 9 with fail
  have q0_0 : w16.cell? ⟨w.heap.size, 0, none⟩ = some (.bool na) := (Env.at_ E17.out 2 rfl).cell 0
  have q0_1 : w16.cell? ⟨w.heap.size, 1, none⟩ = some (.string sa) := (Env.at_ E17.out 2 rfl).cell 1
  go_wp2_with fail
  refine (R46.out _).mono ?_
  rintro e w18 ⟨rfl, h18⟩
  have E19 := Lib.hid (E17.out.call h18)
  clear q0_0 q0_1 h18
  go_upto_region 12 with fail
  skip
  refine wp_region_noPanic ?_
  refine wp_region_held_drew (S := fun w' => Env w w' [(w5.heap.size, 26, #[.bool sc, .string bc]), (w2.heap.size, 26, #[.bool sk, .string bk]), (w.heap.size, 26, #[.bool na, .string sa])]) (by kernel_rfl) (Env.drew E19.out) (fun hHeld => ?_)
  refine wpAnyH_take (i := 0) (oi := Oper.mk (some 97) _ _ _ _ _) (v := ?_) rfl (by kernel_rfl) (by kernel_rfl) (by kernel_rfl) (fun _ _ _ h => h) (Or.inl ⟨by rfl, ?_⟩) (by assumption) ?_
  rotate_left
  · (intro w' hSw; (try dsimp only at hSw); have a0 : w'.cell? ⟨w.heap.size, 0, none⟩ = some (.bool na) := (Env.at_ hSw 2 rfl).cell 0; have a1 : w'.cell? ⟨w.heap.size, 1, none⟩ = some (.string sa) := (Env.at_ hSw 2 rfl).cell 1; go_simp; try with_reducible rfl)
  try simp only [Act.put, List.setIfInBounds_toArray, List.set_cons_zero, List.set_cons_succ]
  refine wpAnyH_ready (rs := [1]) (by kernel_rfl) (by simp) ?_
  refine AllReadyH.cons (o := Oper.mk (some 98) _ _ _ _ _) rfl (fun K hK => ?_) AllReadyH.nil
  go_simp
  refine (H43.out _).mono ?_
  rintro e w20 ⟨rfl, h20⟩
  have hNext := hHeld.call h20
  refine hK.out _ _ hNext (fun _ => ?_)
  clear hK K hHeld h20
  have hHeld := hNext
  clear hNext
  try simp only [Act.put, List.setIfInBounds_toArray, List.set_cons_zero, List.set_cons_succ]
  refine wpAnyH_ready (rs := [2]) (by kernel_rfl) (by simp) ?_
  refine AllReadyH.cons (o := Oper.mk (some 99) _ _ _ _ _) rfl (fun K hK => ?_) AllReadyH.nil
  go_simp
  refine (HN.out _ 0).mono ?_
  rintro e w21 ⟨rfl, h21⟩
  subst h21
  have hNext := hHeld
  refine hK.out _ _ hNext (fun _ => ?_)
  clear hK K hHeld
  have hHeld := hNext
  clear hNext
  try simp only [Act.put, List.setIfInBounds_toArray, List.set_cons_zero, List.set_cons_succ]
  refine wpAnyH_take (i := 3) (oi := Oper.mk (some 100) _ _ _ _ _) (v := ?_) rfl (by kernel_rfl) (by kernel_rfl) (by kernel_rfl) (fun _ _ _ h => h) (Or.inl ⟨by rfl, ?_⟩) (by assumption) ?_
  rotate_left
  · (intro w' hSw; (try dsimp only at hSw); go_simp; try with_reducible rfl)
  try simp only [Act.put, List.setIfInBounds_toArray, List.set_cons_zero, List.set_cons_succ]
  refine wpAnyH_take (i := 4) (oi := Oper.mk (some 101) _ _ _ _ _) (v := ?_) rfl (by kernel_rfl) (by kernel_rfl) (by kernel_rfl) (fun _ _ _ h => h) (Or.inl ⟨by rfl, ?_⟩) (by assumption) ?_
  rotate_left
  · (intro w' hSw; (try dsimp only at hSw); go_simp; try with_reducible rfl)
  try simp only [Act.put, List.setIfInBounds_toArray, List.set_cons_zero, List.set_cons_succ]
  refine wpAnyH_take (i := 5) (oi := Oper.mk (some 102) _ _ _ _ _) (v := ?_) rfl (by kernel_rfl) (by kernel_rfl) (by kernel_rfl) (fun _ _ _ h => h) (Or.inl ⟨by rfl, ?_⟩) (by assumption) ?_
  rotate_left
  · (intro w' hSw; (try dsimp only at hSw); have a0 : w'.cell? ⟨w2.heap.size, 0, none⟩ = some (.bool sk) := (Env.at_ hSw 1 rfl).cell 0; have a1 : w'.cell? ⟨w2.heap.size, 1, none⟩ = some (.string bk) := (Env.at_ hSw 1 rfl).cell 1; go_simp; try with_reducible rfl)
  try simp only [Act.put, List.setIfInBounds_toArray, List.set_cons_zero, List.set_cons_succ]
  refine wpAnyH_take (i := 6) (oi := Oper.mk (some 103) _ _ _ _ _) (v := ?_) rfl (by kernel_rfl) (by kernel_rfl) (by kernel_rfl) (fun _ _ _ h => h) (Or.inl ⟨by rfl, ?_⟩) (by assumption) ?_
  rotate_left
  · (intro w' hSw; (try dsimp only at hSw); have a0 : w'.cell? ⟨w.heap.size, 0, none⟩ = some (.bool na) := (Env.at_ hSw 2 rfl).cell 0; have a1 : w'.cell? ⟨w.heap.size, 1, none⟩ = some (.string sa) := (Env.at_ hSw 2 rfl).cell 1; go_simp; try with_reducible rfl)
  try simp only [Act.put, List.setIfInBounds_toArray, List.set_cons_zero, List.set_cons_succ]
  refine wpAnyH_ready (rs := [7]) (by kernel_rfl) (by simp) ?_
  refine AllReadyH.cons (o := Oper.mk (some 104) _ _ _ _ _) rfl (fun K hK => ?_) AllReadyH.nil
  go_simp
  refine (R47.out _).mono ?_
  rintro e w22 ⟨rfl, h22⟩
  have hNext := hHeld.call h22
  refine hK.out _ _ hNext (fun _ => ?_)
  clear hK K hHeld h22
  have hHeld := hNext
  clear hNext
  try simp only [Act.put, List.setIfInBounds_toArray, List.set_cons_zero, List.set_cons_succ]
  refine wpAnyH_take (i := 8) (oi := Oper.mk (some 105) _ _ _ _ _) (v := ?_) rfl (by kernel_rfl) (by kernel_rfl) (by kernel_rfl) (fun _ _ _ h => h) (Or.inl ⟨by rfl, ?_⟩) (by assumption) ?_
  rotate_left
  · (intro w' hSw; (try dsimp only at hSw); go_simp; try with_reducible rfl)
  try simp only [Act.put, List.setIfInBounds_toArray, List.set_cons_zero, List.set_cons_succ]
  refine wpAnyH_take (i := 9) (oi := Oper.mk (some 106) _ _ _ _ _) (v := ?_) rfl (by kernel_rfl) (by kernel_rfl) (by kernel_rfl) (fun _ _ _ h => h) (Or.inl ⟨by rfl, ?_⟩) (by assumption) ?_
  rotate_left
  · (intro w' hSw; (try dsimp only at hSw); go_simp; try with_reducible rfl)
  try simp only [Act.put, List.setIfInBounds_toArray, List.set_cons_zero, List.set_cons_succ]
  refine wpAnyH_take (i := 10) (oi := Oper.mk (some 107) _ _ _ _ _) (v := ?_) rfl (by kernel_rfl) (by kernel_rfl) (by kernel_rfl) (fun _ _ _ h => h) (Or.inl ⟨by rfl, ?_⟩) (by assumption) ?_
  rotate_left
  · (intro w' hSw; (try dsimp only at hSw); go_simp; try with_reducible rfl)
  try simp only [Act.put, List.setIfInBounds_toArray, List.set_cons_zero, List.set_cons_succ]
  refine wpAnyH_take (i := 11) (oi := Oper.mk (some 108) _ _ _ _ _) (v := ?_) rfl (by kernel_rfl) (by kernel_rfl) (by kernel_rfl) (fun _ _ _ h => h) (Or.inl ⟨by rfl, ?_⟩) (by assumption) ?_
  rotate_left
  · (intro w' hSw; (try dsimp only at hSw); go_simp; try with_reducible rfl)
  try simp only [Act.put, List.setIfInBounds_toArray, List.set_cons_zero, List.set_cons_succ]
  refine wpAnyH_ready (rs := [12]) (by kernel_rfl) (by simp) ?_
  refine AllReadyH.cons (o := Oper.mk (some 109) _ _ _ _ _) rfl (fun K hK => ?_) AllReadyH.nil
  go_simp
  refine (HN.out _ 0).mono ?_
  rintro e w23 ⟨rfl, h23⟩
  subst h23
  have hNext := hHeld
  refine hK.out _ _ hNext (fun _ => ?_)
  clear hK K hHeld
  have hHeld := hNext
  clear hNext
  try simp only [Act.put, List.setIfInBounds_toArray, List.set_cons_zero, List.set_cons_succ]
  refine wpAnyH_take (i := 13) (oi := Oper.mk (some 110) _ _ _ _ _) (v := ?_) rfl (by kernel_rfl) (by kernel_rfl) (by kernel_rfl) (fun _ _ _ h => h) (Or.inl ⟨by rfl, ?_⟩) (by assumption) ?_
  rotate_left
  · (intro w' hSw; (try dsimp only at hSw); go_simp; try with_reducible rfl)
  try simp only [Act.put, List.setIfInBounds_toArray, List.set_cons_zero, List.set_cons_succ]
  refine wpAnyH_take (i := 14) (oi := Oper.mk (some 111) _ _ _ _ _) (v := ?_) rfl (by kernel_rfl) (by kernel_rfl) (by kernel_rfl) (fun _ _ _ h => h) (Or.inl ⟨by rfl, ?_⟩) (by assumption) ?_
  rotate_left
  · (intro w' hSw; (try dsimp only at hSw); go_simp; try with_reducible rfl)
  try simp only [Act.put, List.setIfInBounds_toArray, List.set_cons_zero, List.set_cons_succ]
  refine wpAnyH_take (i := 15) (oi := Oper.mk (some 112) _ _ _ _ _) (v := ?_) rfl (by kernel_rfl) (by kernel_rfl) (by kernel_rfl) (fun _ _ _ h => h) (Or.inl ⟨by rfl, ?_⟩) (by assumption) ?_
  rotate_left
  · (intro w' hSw; (try dsimp only at hSw); go_simp; try with_reducible rfl)
  try simp only [Act.put, List.setIfInBounds_toArray, List.set_cons_zero, List.set_cons_succ]
  refine wpAnyH_take (i := 16) (oi := Oper.mk (some 113) _ _ _ _ _) (v := ?_) rfl (by kernel_rfl) (by kernel_rfl) (by kernel_rfl) (fun _ _ _ h => h) (Or.inl ⟨by rfl, ?_⟩) (by assumption) ?_
  rotate_left
  · (intro w' hSw; (try dsimp only at hSw); have a0 : w'.cell? ⟨w5.heap.size, 0, none⟩ = some (.bool sc) := (Env.at_ hSw 0 rfl).cell 0; have a1 : w'.cell? ⟨w5.heap.size, 1, none⟩ = some (.string bc) := (Env.at_ hSw 0 rfl).cell 1; go_simp; try with_reducible rfl)
  try simp only [Act.put, List.setIfInBounds_toArray, List.set_cons_zero, List.set_cons_succ]
  refine wpAnyH_take (i := 17) (oi := Oper.mk (some 114) _ _ _ _ _) (v := ?_) rfl (by kernel_rfl) (by kernel_rfl) (by kernel_rfl) (fun _ _ _ h => h) (Or.inl ⟨by rfl, ?_⟩) (by assumption) ?_
  rotate_left
  · (intro w' hSw; (try dsimp only at hSw); have a0 : w'.cell? ⟨w.heap.size, 0, none⟩ = some (.bool na) := (Env.at_ hSw 2 rfl).cell 0; have a1 : w'.cell? ⟨w.heap.size, 1, none⟩ = some (.string sa) := (Env.at_ hSw 2 rfl).cell 1; go_simp; try with_reducible rfl)
  try simp only [Act.put, List.setIfInBounds_toArray, List.set_cons_zero, List.set_cons_succ]
  refine wpAnyH_ready (rs := [18]) (by kernel_rfl) (by simp) ?_
  refine AllReadyH.cons (o := Oper.mk (some 115) _ _ _ _ _) rfl (fun K hK => ?_) AllReadyH.nil
  go_simp
  refine (R48.out _).mono ?_
  rintro e w24 ⟨rfl, h24⟩
  have hNext := hHeld.call h24
  refine hK.out _ _ hNext (fun _ => ?_)
  clear hK K hHeld h24
  have hHeld := hNext
  clear hNext
  try simp only [Act.put, List.setIfInBounds_toArray, List.set_cons_zero, List.set_cons_succ]
  refine wpAnyH_take (i := 19) (oi := Oper.mk (some 116) _ _ _ _ _) (v := ?_) rfl (by kernel_rfl) (by kernel_rfl) (by kernel_rfl) (fun _ _ _ h => h) (Or.inl ⟨by rfl, ?_⟩) (by assumption) ?_
  rotate_left
  · (intro w' hSw; (try dsimp only at hSw); go_simp; try with_reducible rfl)
  try simp only [Act.put, List.setIfInBounds_toArray, List.set_cons_zero, List.set_cons_succ]
  refine wpAnyH_take (i := 20) (oi := Oper.mk (some 117) _ _ _ _ _) (v := ?_) rfl (by kernel_rfl) (by kernel_rfl) (by kernel_rfl) (fun _ _ _ h => h) (Or.inl ⟨by rfl, ?_⟩) (by assumption) ?_
  rotate_left
  · (intro w' hSw; (try dsimp only at hSw); go_simp; try with_reducible rfl)
  try simp only [Act.put, List.setIfInBounds_toArray, List.set_cons_zero, List.set_cons_succ]
  refine wpAnyH_take (i := 21) (oi := Oper.mk (some 118) _ _ _ _ _) (v := ?_) rfl (by kernel_rfl) (by kernel_rfl) (by kernel_rfl) (fun _ _ _ h => h) (Or.inl ⟨by rfl, ?_⟩) (by assumption) ?_
  rotate_left
  · (intro w' hSw; (try dsimp only at hSw); go_simp; try with_reducible rfl)
  try simp only [Act.put, List.setIfInBounds_toArray, List.set_cons_zero, List.set_cons_succ]
  refine wpAnyH_take (i := 22) (oi := Oper.mk (some 119) _ _ _ _ _) (v := ?_) rfl (by kernel_rfl) (by kernel_rfl) (by kernel_rfl) (fun _ _ _ h => h) (Or.inl ⟨by rfl, ?_⟩) (by assumption) ?_
  rotate_left
  · (intro w' hSw; (try dsimp only at hSw); go_simp; try with_reducible rfl)
  try simp only [Act.put, List.setIfInBounds_toArray, List.set_cons_zero, List.set_cons_succ]
  refine wpAnyH_ready (rs := [23]) (by kernel_rfl) (by simp) ?_
  refine AllReadyH.cons (o := Oper.mk (some 120) _ _ _ _ _) rfl (fun K hK => ?_) AllReadyH.nil
  go_simp
  refine (HN.out _ 0).mono ?_
  rintro e w25 ⟨rfl, h25⟩
  subst h25
  have hNext := hHeld
  refine hK.out _ _ hNext (fun _ => ?_)
  clear hK K hHeld
  have hHeld := hNext
  clear hNext
  try simp only [Act.put, List.setIfInBounds_toArray, List.set_cons_zero, List.set_cons_succ]
  refine wpAnyH_take (i := 24) (oi := Oper.mk (some 121) _ _ _ _ _) (v := ?_) rfl (by kernel_rfl) (by kernel_rfl) (by kernel_rfl) (fun _ _ _ h => h) (Or.inl ⟨by rfl, ?_⟩) (by assumption) ?_
  rotate_left
  · (intro w' hSw; (try dsimp only at hSw); go_simp; try with_reducible rfl)
  try simp only [Act.put, List.setIfInBounds_toArray, List.set_cons_zero, List.set_cons_succ]
  refine wpAnyH_take (i := 25) (oi := Oper.mk (some 122) _ _ _ _ _) (v := ?_) rfl (by kernel_rfl) (by kernel_rfl) (by kernel_rfl) (fun _ _ _ h => h) (Or.inl ⟨by rfl, ?_⟩) (by assumption) ?_
  rotate_left
  · (intro w' hSw; (try dsimp only at hSw); go_simp; try with_reducible rfl)
  try simp only [Act.put, List.setIfInBounds_toArray, List.set_cons_zero, List.set_cons_succ]
  refine wpAnyH_take (i := 26) (oi := Oper.mk (some 123) _ _ _ _ _) (v := ?_) rfl (by kernel_rfl) (by kernel_rfl) (by kernel_rfl) (fun _ _ _ h => h) (Or.inl ⟨by rfl, ?_⟩) (by assumption) ?_
  rotate_left
  · (intro w' hSw; (try dsimp only at hSw); go_simp; try with_reducible rfl)
  try simp only [Act.put, List.setIfInBounds_toArray, List.set_cons_zero, List.set_cons_succ]
  refine wpAnyH_take (i := 27) (oi := Oper.mk (some 124) _ _ _ _ _) (v := ?_) rfl (by kernel_rfl) (by kernel_rfl) (by kernel_rfl) (fun _ _ _ h => h) (Or.inl ⟨by rfl, ?_⟩) (by assumption) ?_
  rotate_left
  · (intro w' hSw; (try dsimp only at hSw); go_simp; try with_reducible rfl)
  try simp only [Act.put, List.setIfInBounds_toArray, List.set_cons_zero, List.set_cons_succ]
  refine wpAnyH_take (i := 28) (oi := Oper.mk (some 125) _ _ _ _ _) (v := ?_) rfl (by kernel_rfl) (by kernel_rfl) (by kernel_rfl) (fun _ _ _ h => h) (Or.inl ⟨by rfl, ?_⟩) (by assumption) ?_
  rotate_left
  · (intro w' hSw; (try dsimp only at hSw); go_simp; try with_reducible rfl)
  try simp only [Act.put, List.setIfInBounds_toArray, List.set_cons_zero, List.set_cons_succ]
  refine wpAnyH_take (i := 29) (oi := Oper.mk (some 126) _ _ _ _ _) (v := ?_) rfl (by kernel_rfl) (by kernel_rfl) (by kernel_rfl) (fun _ _ _ h => h) (Or.inl ⟨by rfl, ?_⟩) (by assumption) ?_
  rotate_left
  · (intro w' hSw; (try dsimp only at hSw); go_simp; try with_reducible rfl)
  try simp only [Act.put, List.setIfInBounds_toArray, List.set_cons_zero, List.set_cons_succ]
  refine wpAnyH_take (i := 30) (oi := Oper.mk (some 127) _ _ _ _ _) (v := ?_) rfl (by kernel_rfl) (by kernel_rfl) (by kernel_rfl) (fun _ _ _ h => h) (Or.inl ⟨by rfl, ?_⟩) (by assumption) ?_
  rotate_left
  · (intro w' hSw; (try dsimp only at hSw); go_simp; try with_reducible rfl)
  try simp only [Act.put, List.setIfInBounds_toArray, List.set_cons_zero, List.set_cons_succ]
  refine wpAnyH_take (i := 31) (oi := Oper.mk (some 128) _ _ _ _ _) (v := ?_) rfl (by kernel_rfl) (by kernel_rfl) (by kernel_rfl) (fun _ _ _ h => h) (Or.inl ⟨by rfl, ?_⟩) (by assumption) ?_
  rotate_left
  · (intro w' hSw; (try dsimp only at hSw); go_simp; try with_reducible rfl)
  try simp only [Act.put, List.setIfInBounds_toArray, List.set_cons_zero, List.set_cons_succ]
  refine wpAnyH_take (i := 32) (oi := Oper.mk (some 129) _ _ _ _ _) (v := ?_) rfl (by kernel_rfl) (by kernel_rfl) (by kernel_rfl) (fun _ _ _ h => h) (Or.inl ⟨by rfl, ?_⟩) (by assumption) ?_
  rotate_left
  · (intro w' hSw; (try dsimp only at hSw); go_simp; try with_reducible rfl)
  try simp only [Act.put, List.setIfInBounds_toArray, List.set_cons_zero, List.set_cons_succ]
  refine wpAnyH_take (i := 33) (oi := Oper.mk (some 130) _ _ _ _ _) (v := ?_) rfl (by kernel_rfl) (by kernel_rfl) (by kernel_rfl) (fun _ _ _ h => h) (Or.inl ⟨by rfl, ?_⟩) (by assumption) ?_
  rotate_left
  · (intro w' hSw; (try dsimp only at hSw); go_simp; try with_reducible rfl)
  try simp only [Act.put, List.setIfInBounds_toArray, List.set_cons_zero, List.set_cons_succ]
  refine wpAnyH_take (i := 34) (oi := Oper.mk (some 131) _ _ _ _ _) (v := ?_) rfl (by kernel_rfl) (by kernel_rfl) (by kernel_rfl) (fun _ _ _ h => h) (Or.inl ⟨by rfl, ?_⟩) (by assumption) ?_
  rotate_left
  · (intro w' hSw; (try dsimp only at hSw); go_simp; try with_reducible rfl)
  try simp only [Act.put, List.setIfInBounds_toArray, List.set_cons_zero, List.set_cons_succ]
  refine wpAnyH_take (i := 35) (oi := Oper.mk (some 132) _ _ _ _ _) (v := ?_) rfl (by kernel_rfl) (by kernel_rfl) (by kernel_rfl) (fun _ _ _ h => h) (Or.inl ⟨by rfl, ?_⟩) (by assumption) ?_
  rotate_left
  · (intro w' hSw; (try dsimp only at hSw); go_simp; try with_reducible rfl)
  try simp only [Act.put, List.setIfInBounds_toArray, List.set_cons_zero, List.set_cons_succ]
  refine wpAnyH_take (i := 36) (oi := Oper.mk (some 133) _ _ _ _ _) (v := ?_) rfl (by kernel_rfl) (by kernel_rfl) (by kernel_rfl) (fun _ _ _ h => h) (Or.inl ⟨by rfl, ?_⟩) (by assumption) ?_
  rotate_left
  · (intro w' hSw; (try dsimp only at hSw); go_simp; try with_reducible rfl)
  try simp only [Act.put, List.setIfInBounds_toArray, List.set_cons_zero, List.set_cons_succ]
  refine wpAnyH_take (i := 37) (oi := Oper.mk (some 134) _ _ _ _ _) (v := ?_) rfl (by kernel_rfl) (by kernel_rfl) (by kernel_rfl) (fun _ _ _ h => h) (Or.inl ⟨by rfl, ?_⟩) (by assumption) ?_
  rotate_left
  · (intro w' hSw; (try dsimp only at hSw); have a0 : w'.cell? ⟨w.heap.size, 0, none⟩ = some (.bool na) := (Env.at_ hSw 2 rfl).cell 0; have a1 : w'.cell? ⟨w.heap.size, 1, none⟩ = some (.string sa) := (Env.at_ hSw 2 rfl).cell 1; go_simp; try with_reducible rfl)
  try simp only [Act.put, List.setIfInBounds_toArray, List.set_cons_zero, List.set_cons_succ]
  refine wpAnyH_take (i := 39) (oi := Oper.mk (some 136) _ _ _ _ _) (v := ?_) rfl (by kernel_rfl) (by kernel_rfl) (by kernel_rfl) (fun _ _ _ h => h) (Or.inl ⟨by rfl, ?_⟩) (by assumption) ?_
  rotate_left
  · (intro w' hSw; (try dsimp only at hSw); have a0 : w'.cell? ⟨w.heap.size, 0, none⟩ = some (.bool na) := (Env.at_ hSw 2 rfl).cell 0; have a1 : w'.cell? ⟨w.heap.size, 1, none⟩ = some (.string sa) := (Env.at_ hSw 2 rfl).cell 1; go_simp; try with_reducible rfl)
  try simp only [Act.put, List.setIfInBounds_toArray, List.set_cons_zero, List.set_cons_succ]
  refine wpAnyH_ready (rs := [38]) (by kernel_rfl) (by simp) ?_
  refine AllReadyH.cons (o := Oper.mk (some 135) _ _ _ _ _) rfl (fun K hK => ?_) AllReadyH.nil
  go_simp
  refine (H44.out _).mono ?_
  rintro e w26 ⟨rfl, h26⟩
  have hNext := hHeld.call h26
  refine hK.out _ _ hNext (fun _ => ?_)
  clear hK K hHeld h26
  have hHeld := hNext
  clear hNext
  try simp only [Act.put, List.setIfInBounds_toArray, List.set_cons_zero, List.set_cons_succ]
  refine wpAnyH_ready (rs := [40]) (by kernel_rfl) (by simp) ?_
  refine AllReadyH.cons (o := Oper.mk (some 137) _ _ _ _ _) rfl (fun K hK => ?_) AllReadyH.nil
  go_simp
  refine (R49.out _).mono ?_
  rintro e w27 ⟨rfl, h27⟩
  have hNext := hHeld.call h27
  refine hK.out _ _ hNext (fun _ => ?_)
  clear hK K hHeld h27
  have hHeld := hNext
  clear hNext
  try simp only [Act.put, List.setIfInBounds_toArray, List.set_cons_zero, List.set_cons_succ]
  refine wpAnyH_take (i := 41) (oi := Oper.mk (some 138) _ _ _ _ _) (v := ?_) rfl (by kernel_rfl) (by kernel_rfl) (by kernel_rfl) (fun _ _ _ h => h) (Or.inl ⟨by rfl, ?_⟩) (by assumption) ?_
  rotate_left
  · (intro w' hSw; (try dsimp only at hSw); go_simp; try with_reducible rfl)
  try simp only [Act.put, List.setIfInBounds_toArray, List.set_cons_zero, List.set_cons_succ]
  refine wpAnyH_take (i := 42) (oi := Oper.mk (some 139) _ _ _ _ _) (v := ?_) rfl (by kernel_rfl) (by kernel_rfl) (by kernel_rfl) (fun _ _ _ h => h) (Or.inl ⟨by rfl, ?_⟩) (by assumption) ?_
  rotate_left
  · (intro w' hSw; (try dsimp only at hSw); go_simp; try with_reducible rfl)
  try simp only [Act.put, List.setIfInBounds_toArray, List.set_cons_zero, List.set_cons_succ]
  refine wpAnyH_take (i := 43) (oi := Oper.mk (some 140) _ _ _ _ _) (v := ?_) rfl (by kernel_rfl) (by kernel_rfl) (by kernel_rfl) (fun _ _ _ h => h) (Or.inl ⟨by rfl, ?_⟩) (by assumption) ?_
  rotate_left
  · (intro w' hSw; (try dsimp only at hSw); go_simp; try with_reducible rfl)
  try simp only [Act.put, List.setIfInBounds_toArray, List.set_cons_zero, List.set_cons_succ]
  refine wpAnyH_take (i := 44) (oi := Oper.mk (some 141) _ _ _ _ _) (v := ?_) rfl (by kernel_rfl) (by kernel_rfl) (by kernel_rfl) (fun _ _ _ h => h) (Or.inl ⟨by rfl, ?_⟩) (by assumption) ?_
  rotate_left
  · (intro w' hSw; (try dsimp only at hSw); have a0 : w'.cell? ⟨w.heap.size, 0, none⟩ = some (.bool na) := (Env.at_ hSw 2 rfl).cell 0; have a1 : w'.cell? ⟨w.heap.size, 1, none⟩ = some (.string sa) := (Env.at_ hSw 2 rfl).cell 1; go_simp; try with_reducible rfl)
  try simp only [Act.put, List.setIfInBounds_toArray, List.set_cons_zero, List.set_cons_succ]
  refine wpAnyH_take (i := 46) (oi := Oper.mk (some 143) _ _ _ _ _) (v := ?_) rfl (by kernel_rfl) (by kernel_rfl) (by kernel_rfl) (fun _ _ _ h => h) (Or.inl ⟨by rfl, ?_⟩) (by assumption) ?_
  rotate_left
  · (intro w' hSw; (try dsimp only at hSw); have a0 : w'.cell? ⟨w.heap.size, 0, none⟩ = some (.bool na) := (Env.at_ hSw 2 rfl).cell 0; have a1 : w'.cell? ⟨w.heap.size, 1, none⟩ = some (.string sa) := (Env.at_ hSw 2 rfl).cell 1; go_simp; try with_reducible rfl)
  try simp only [Act.put, List.setIfInBounds_toArray, List.set_cons_zero, List.set_cons_succ]
  refine wpAnyH_ready (rs := [45]) (by kernel_rfl) (by simp) ?_
  refine AllReadyH.cons (o := Oper.mk (some 142) _ _ _ _ _) rfl (fun K hK => ?_) AllReadyH.nil
  go_simp
  refine (H45.out _).mono ?_
  rintro e w28 ⟨rfl, h28⟩
  have hNext := hHeld.call h28
  refine hK.out _ _ hNext (fun _ => ?_)
  clear hK K hHeld h28
  have hHeld := hNext
  clear hNext
  try simp only [Act.put, List.setIfInBounds_toArray, List.set_cons_zero, List.set_cons_succ]
  refine wpAnyH_ready (rs := [47]) (by kernel_rfl) (by simp) ?_
  refine AllReadyH.cons (o := Oper.mk (some 144) _ _ _ _ _) rfl (fun K hK => ?_) AllReadyH.nil
  go_simp
  refine (R50.out _).mono ?_
  rintro e w29 ⟨rfl, h29⟩
  have hNext := hHeld.call h29
  refine hK.out _ _ hNext (fun _ => ?_)
  clear hK K hHeld h29
  have hHeld := hNext
  clear hNext
  try simp only [Act.put, List.setIfInBounds_toArray, List.set_cons_zero, List.set_cons_succ]
  refine wpAnyH_take (i := 48) (oi := Oper.mk (some 145) _ _ _ _ _) (v := ?_) rfl (by kernel_rfl) (by kernel_rfl) (by kernel_rfl) (fun _ _ _ h => h) (Or.inl ⟨by rfl, ?_⟩) (by assumption) ?_
  rotate_left
  · (intro w' hSw; (try dsimp only at hSw); go_simp; try with_reducible rfl)
  try simp only [Act.put, List.setIfInBounds_toArray, List.set_cons_zero, List.set_cons_succ]
  refine wpAnyH_take (i := 49) (oi := Oper.mk (some 146) _ _ _ _ _) (v := ?_) rfl (by kernel_rfl) (by kernel_rfl) (by kernel_rfl) (fun _ _ _ h => h) (Or.inl ⟨by rfl, ?_⟩) (by assumption) ?_
  rotate_left
  · (intro w' hSw; (try dsimp only at hSw); go_simp; try with_reducible rfl)
  try simp only [Act.put, List.setIfInBounds_toArray, List.set_cons_zero, List.set_cons_succ]
  refine wpAnyH_done (by kernel_rfl) ?_ _
  refine NoPanic.normal ?_
  have E30 := Lib.hid hHeld
  clear hHeld
  go_upto_region 15 with fail
  go_wp2_with fail
  refine (HN.out _ 2).mono ?_
  rintro e w31 ⟨rfl, h31⟩
  subst h31
  have E32 := Lib.hid (E30.out)
  go_wp2_with fail
  refine (HW.out _).mono ?_
  rintro e w33 ⟨rfl, h33⟩
  have E34 := Lib.hid (E32.out.call h33)
  clear h33
  go_wp2_with fail
  go_ret
  exact ⟨rfl, E34.out.1⟩
set_option maxRecDepth 100000 in
set_option maxHeartbeats 8000000 in
theorem tells_in_pos {w : World} {na : Bool} {sa : ByteArray} {i : Nat} {n : Int} (hi : i ≤ 9223372036854775807) (hb : isBad (na, sa) = false) (hm : MayL na sa.data.toList) (hr : Ranged (num (na, sa))) (hn1 : -9223372036854775808 ≤ n) (hn2 : n ≤ 9223372036854775807) :
    Calls Try.prog 7 #[.agg #[.bool na, .string sa], .int .i64 (i : Int), .int .i64 n] w (fun e w' => e = .returned (.bool true) ∧ Below w.heap.size w w') := by
  obtain ⟨so, bo, eo⟩ : ∃ s b, enc n = .agg #[.bool s, .string b] := ⟨_, _, rfl⟩
  have HO := Lib.hid (fun W : World => calm_eq (of64_any (w := W) hn1 hn2) eo)
  have RO := Lib.hid (fun W : World => calm_eq (rOf_any (w := W) hn1 hn2) eo)
  clear hn1 hn2 eo
  have HB := Lib.hid (fun W : World => bad_one (w := W) (na := na) (sa := sa))
  rw [hb] at HB
  clear hb
  have Fa := Fmd.of_may hm
  have Sx : SB 131072 (num (na, sa)) := by have h := may_sb (n := na) (s := sa) (k := 16384) (by have hl : sa.data.toList.length = sa.size := Array.length_toList; have := hm.1; omega); exact h
  have fk : fits (-num (na, sa)) := Sx.neg.fits (Nat.le_refl _)
  obtain ⟨sk, bk, ek, nk, mk⟩ := enc_form fk
  have fc : fits (((num (na, sa)).natAbs : Int)) := (Sx.le (by rw [Int.natAbs_natCast]; exact Nat.le_refl _)).fits (Nat.le_refl _)
  obtain ⟨sc, bc, ec, nc, mc⟩ := enc_form fc
  have H37 := Lib.hid (fun W : World => neg_told (w := W) hm rfl fk ek)
  have H38 := Lib.hid (fun W : World => abs_told (w := W) hm rfl fc ec)
  have H39 := Lib.hid (fun W : World => small_in (w := W) hm hr)
  have H40 := Lib.hid (fun W : World => bit_told (w := W) (i := i) hi hm)
  have H43 := Lib.hid (fun W : World => check_ok (w := W) hm)
  have R46 := Lib.hid (fun W : World => rsmall_in (w := W) (na := na) Fa hr)
  have R47 := Lib.hid (fun W : World => calm_eq (rneg_any (w := W) (n := na) Fa) ek)
  have R48 := Lib.hid (fun W : World => calm_eq (rabs_any (w := W) (n := na) Fa) ec)
  have H44 := Lib.hid (fun W : World => sign_told (w := W) hm)
  have R49 := Lib.hid (fun W : World => rsign_any (w := W) (n := na) Fa)
  have H45 := Lib.hid (fun W : World => bits_told (w := W) hm)
  have R50 := Lib.hid (fun W : World => rBits_any (w := W) (na := na) Fa)
  have R51 := Lib.hid (fun W : World => rBit_any (w := W) (na := na) (i := i) Fa hi)
  generalize ((bl (num (na, sa)).natAbs : Nat) : Int) = zl at H45 R50
  generalize sg (num (na, sa)) = zs at H44 R49
  generalize (((num (na, sa)).natAbs / 2 ^ i % 2 : Nat) : Int) = zb at H40 R51
  generalize hzz : num (na, sa) = zx at H39 R46
  clear hm hr Fa Sx fk ek nk mk fc ec nc mc hzz
  have HW := Lib.hid (fun W : World => works_any (w := W))
  have HN := Lib.hid (fun (W : World) (n : Int) => num_any (w := W) (n := n))
  have E0 := Lib.hid (Env.nil w)
  go_enter Try.func7, Try.ntmps7
  go_upto_region 0 with fail
  go_upto_region 1 with fail
  have E1 : Hid (Env w (w.alloc (.cells #[.bool na, .string sa] 26)) [(w.heap.size, 26, #[.bool na, .string sa])]) := Lib.hid (by have h := (Env.new E0.out 26 #[.bool na, .string sa]); (try simp only [World.size_alloc] at h); exact h)
  generalize (w.alloc (.cells #[.bool na, .string sa] 26)) = W1 at E1 ⊢
  have q0_0 : W1.cell? ⟨w.heap.size, 0, none⟩ = some (.bool na) := (Env.at_ E1.out 0 rfl).cell 0
  have q0_1 : W1.cell? ⟨w.heap.size, 1, none⟩ = some (.string sa) := (Env.at_ E1.out 0 rfl).cell 1
  go_wp2_with fail
  refine (H37.out _).mono ?_
  rintro e w2 ⟨rfl, h2⟩
  have E3 := Lib.hid (E1.out.call h2)
  clear q0_0 q0_1 h2
  go_upto_region 2 with fail
  have E4 : Hid (Env w (w2.alloc (.cells #[.bool sk, .string bk] 26)) [(w2.heap.size, 26, #[.bool sk, .string bk]), (w.heap.size, 26, #[.bool na, .string sa])]) := Lib.hid (by have h := (Env.new E3.out 26 #[.bool sk, .string bk]); (try simp only [World.size_alloc] at h); exact h)
  generalize (w2.alloc (.cells #[.bool sk, .string bk] 26)) = W4 at E4 ⊢
  have q0_0 : W4.cell? ⟨w.heap.size, 0, none⟩ = some (.bool na) := (Env.at_ E4.out 1 rfl).cell 0
  have q0_1 : W4.cell? ⟨w.heap.size, 1, none⟩ = some (.string sa) := (Env.at_ E4.out 1 rfl).cell 1
  go_wp2_with fail
  refine (H38.out _).mono ?_
  rintro e w5 ⟨rfl, h5⟩
  have E6 := Lib.hid (E4.out.call h5)
  clear q0_0 q0_1 h5
  go_upto_region 3 with fail
  have E7 : Hid (Env w (w5.alloc (.cells #[.bool sc, .string bc] 26)) [(w5.heap.size, 26, #[.bool sc, .string bc]), (w2.heap.size, 26, #[.bool sk, .string bk]), (w.heap.size, 26, #[.bool na, .string sa])]) := Lib.hid (by have h := (Env.new E6.out 26 #[.bool sc, .string bc]); (try simp only [World.size_alloc] at h); exact h)
  generalize (w5.alloc (.cells #[.bool sc, .string bc] 26)) = W7 at E7 ⊢
  have q0_0 : W7.cell? ⟨w.heap.size, 0, none⟩ = some (.bool na) := (Env.at_ E7.out 2 rfl).cell 0
  have q0_1 : W7.cell? ⟨w.heap.size, 1, none⟩ = some (.string sa) := (Env.at_ E7.out 2 rfl).cell 1
  go_wp2_with fail
  refine (H39.out _).mono ?_
  rintro e w8 ⟨rfl, h8⟩
  have E9 := Lib.hid (E7.out.call h8)
  clear q0_0 q0_1 h8
  go_upto_region 4 with fail
  have q0_0 : w8.cell? ⟨w.heap.size, 0, none⟩ = some (.bool na) := (Env.at_ E9.out 2 rfl).cell 0
  have q0_1 : w8.cell? ⟨w.heap.size, 1, none⟩ = some (.string sa) := (Env.at_ E9.out 2 rfl).cell 1
  go_wp2_with fail
  refine (H40.out _).mono ?_
  rintro e w10 ⟨rfl, h10⟩
  have E11 := Lib.hid (E9.out.call h10)
  clear q0_0 q0_1 h10
  go_upto_region 5 with fail
  go_wp2_with fail
  refine (HO.out _).mono ?_
  rintro e w12 ⟨rfl, h12⟩
  have E13 := Lib.hid (E11.out.call h12)
  clear h12
  go_wp2_with fail
  refine (RO.out _).mono ?_
  rintro e w14 ⟨rfl, h14⟩
  have E15 := Lib.hid (E13.out.call h14)
  clear h14
  go_upto_region 7 with fail
  have q0_0 : w14.cell? ⟨w.heap.size, 0, none⟩ = some (.bool na) := (Env.at_ E15.out 2 rfl).cell 0
  have q0_1 : w14.cell? ⟨w.heap.size, 1, none⟩ = some (.string sa) := (Env.at_ E15.out 2 rfl).cell 1
  go_wp2_with fail
  refine (HB.out _).mono ?_
  rintro e w16 ⟨rfl, h16⟩
  have E17 := Lib.hid ((Env.other E15.out (.cells #[.bool na, .string sa] 26)).call h16)
  clear q0_0 q0_1 h16
  go_upto_region 9 with fail
  have q0_0 : w16.cell? ⟨w.heap.size, 0, none⟩ = some (.bool na) := (Env.at_ E17.out 2 rfl).cell 0
  have q0_1 : w16.cell? ⟨w.heap.size, 1, none⟩ = some (.string sa) := (Env.at_ E17.out 2 rfl).cell 1
  go_wp2_with fail
  refine (R46.out _).mono ?_
  rintro e w18 ⟨rfl, h18⟩
  have E19 := Lib.hid (E17.out.call h18)
  clear q0_0 q0_1 h18
  go_upto_region 12 with fail
  skip
  refine wp_region_noPanic ?_
  refine wp_region_held_drew (S := fun w' => Env w w' [(w5.heap.size, 26, #[.bool sc, .string bc]), (w2.heap.size, 26, #[.bool sk, .string bk]), (w.heap.size, 26, #[.bool na, .string sa])]) (by kernel_rfl) (Env.drew E19.out) (fun hHeld => ?_)
  refine wpAnyH_take (i := 0) (oi := Oper.mk (some 97) _ _ _ _ _) (v := ?_) rfl (by kernel_rfl) (by kernel_rfl) (by kernel_rfl) (fun _ _ _ h => h) (Or.inl ⟨by rfl, ?_⟩) (by assumption) ?_
  rotate_left
  · (intro w' hSw; (try dsimp only at hSw); have a0 : w'.cell? ⟨w.heap.size, 0, none⟩ = some (.bool na) := (Env.at_ hSw 2 rfl).cell 0; have a1 : w'.cell? ⟨w.heap.size, 1, none⟩ = some (.string sa) := (Env.at_ hSw 2 rfl).cell 1; go_simp; try with_reducible rfl)
  try simp only [Act.put, List.setIfInBounds_toArray, List.set_cons_zero, List.set_cons_succ]
  refine wpAnyH_ready (rs := [1]) (by kernel_rfl) (by simp) ?_
  refine AllReadyH.cons (o := Oper.mk (some 98) _ _ _ _ _) rfl (fun K hK => ?_) AllReadyH.nil
  go_simp
  refine (H43.out _).mono ?_
  rintro e w20 ⟨rfl, h20⟩
  have hNext := hHeld.call h20
  refine hK.out _ _ hNext (fun _ => ?_)
  clear hK K hHeld h20
  have hHeld := hNext
  clear hNext
  try simp only [Act.put, List.setIfInBounds_toArray, List.set_cons_zero, List.set_cons_succ]
  refine wpAnyH_ready (rs := [2]) (by kernel_rfl) (by simp) ?_
  refine AllReadyH.cons (o := Oper.mk (some 99) _ _ _ _ _) rfl (fun K hK => ?_) AllReadyH.nil
  go_simp
  refine (HN.out _ 0).mono ?_
  rintro e w21 ⟨rfl, h21⟩
  subst h21
  have hNext := hHeld
  refine hK.out _ _ hNext (fun _ => ?_)
  clear hK K hHeld
  have hHeld := hNext
  clear hNext
  try simp only [Act.put, List.setIfInBounds_toArray, List.set_cons_zero, List.set_cons_succ]
  refine wpAnyH_take (i := 3) (oi := Oper.mk (some 100) _ _ _ _ _) (v := ?_) rfl (by kernel_rfl) (by kernel_rfl) (by kernel_rfl) (fun _ _ _ h => h) (Or.inl ⟨by rfl, ?_⟩) (by assumption) ?_
  rotate_left
  · (intro w' hSw; (try dsimp only at hSw); go_simp; try with_reducible rfl)
  try simp only [Act.put, List.setIfInBounds_toArray, List.set_cons_zero, List.set_cons_succ]
  refine wpAnyH_take (i := 4) (oi := Oper.mk (some 101) _ _ _ _ _) (v := ?_) rfl (by kernel_rfl) (by kernel_rfl) (by kernel_rfl) (fun _ _ _ h => h) (Or.inl ⟨by rfl, ?_⟩) (by assumption) ?_
  rotate_left
  · (intro w' hSw; (try dsimp only at hSw); go_simp; try with_reducible rfl)
  try simp only [Act.put, List.setIfInBounds_toArray, List.set_cons_zero, List.set_cons_succ]
  refine wpAnyH_take (i := 5) (oi := Oper.mk (some 102) _ _ _ _ _) (v := ?_) rfl (by kernel_rfl) (by kernel_rfl) (by kernel_rfl) (fun _ _ _ h => h) (Or.inl ⟨by rfl, ?_⟩) (by assumption) ?_
  rotate_left
  · (intro w' hSw; (try dsimp only at hSw); have a0 : w'.cell? ⟨w2.heap.size, 0, none⟩ = some (.bool sk) := (Env.at_ hSw 1 rfl).cell 0; have a1 : w'.cell? ⟨w2.heap.size, 1, none⟩ = some (.string bk) := (Env.at_ hSw 1 rfl).cell 1; go_simp; try with_reducible rfl)
  try simp only [Act.put, List.setIfInBounds_toArray, List.set_cons_zero, List.set_cons_succ]
  refine wpAnyH_take (i := 6) (oi := Oper.mk (some 103) _ _ _ _ _) (v := ?_) rfl (by kernel_rfl) (by kernel_rfl) (by kernel_rfl) (fun _ _ _ h => h) (Or.inl ⟨by rfl, ?_⟩) (by assumption) ?_
  rotate_left
  · (intro w' hSw; (try dsimp only at hSw); have a0 : w'.cell? ⟨w.heap.size, 0, none⟩ = some (.bool na) := (Env.at_ hSw 2 rfl).cell 0; have a1 : w'.cell? ⟨w.heap.size, 1, none⟩ = some (.string sa) := (Env.at_ hSw 2 rfl).cell 1; go_simp; try with_reducible rfl)
  try simp only [Act.put, List.setIfInBounds_toArray, List.set_cons_zero, List.set_cons_succ]
  refine wpAnyH_ready (rs := [7]) (by kernel_rfl) (by simp) ?_
  refine AllReadyH.cons (o := Oper.mk (some 104) _ _ _ _ _) rfl (fun K hK => ?_) AllReadyH.nil
  go_simp
  refine (R47.out _).mono ?_
  rintro e w22 ⟨rfl, h22⟩
  have hNext := hHeld.call h22
  refine hK.out _ _ hNext (fun _ => ?_)
  clear hK K hHeld h22
  have hHeld := hNext
  clear hNext
  try simp only [Act.put, List.setIfInBounds_toArray, List.set_cons_zero, List.set_cons_succ]
  refine wpAnyH_take (i := 8) (oi := Oper.mk (some 105) _ _ _ _ _) (v := ?_) rfl (by kernel_rfl) (by kernel_rfl) (by kernel_rfl) (fun _ _ _ h => h) (Or.inl ⟨by rfl, ?_⟩) (by assumption) ?_
  rotate_left
  · (intro w' hSw; (try dsimp only at hSw); go_simp; try with_reducible rfl)
  try simp only [Act.put, List.setIfInBounds_toArray, List.set_cons_zero, List.set_cons_succ]
  refine wpAnyH_take (i := 9) (oi := Oper.mk (some 106) _ _ _ _ _) (v := ?_) rfl (by kernel_rfl) (by kernel_rfl) (by kernel_rfl) (fun _ _ _ h => h) (Or.inl ⟨by rfl, ?_⟩) (by assumption) ?_
  rotate_left
  · (intro w' hSw; (try dsimp only at hSw); go_simp; try with_reducible rfl)
  try simp only [Act.put, List.setIfInBounds_toArray, List.set_cons_zero, List.set_cons_succ]
  refine wpAnyH_take (i := 10) (oi := Oper.mk (some 107) _ _ _ _ _) (v := ?_) rfl (by kernel_rfl) (by kernel_rfl) (by kernel_rfl) (fun _ _ _ h => h) (Or.inl ⟨by rfl, ?_⟩) (by assumption) ?_
  rotate_left
  · (intro w' hSw; (try dsimp only at hSw); go_simp; try with_reducible rfl)
  try simp only [Act.put, List.setIfInBounds_toArray, List.set_cons_zero, List.set_cons_succ]
  refine wpAnyH_take (i := 11) (oi := Oper.mk (some 108) _ _ _ _ _) (v := ?_) rfl (by kernel_rfl) (by kernel_rfl) (by kernel_rfl) (fun _ _ _ h => h) (Or.inl ⟨by rfl, ?_⟩) (by assumption) ?_
  rotate_left
  · (intro w' hSw; (try dsimp only at hSw); go_simp; try with_reducible rfl)
  try simp only [Act.put, List.setIfInBounds_toArray, List.set_cons_zero, List.set_cons_succ]
  refine wpAnyH_ready (rs := [12]) (by kernel_rfl) (by simp) ?_
  refine AllReadyH.cons (o := Oper.mk (some 109) _ _ _ _ _) rfl (fun K hK => ?_) AllReadyH.nil
  go_simp
  refine (HN.out _ 0).mono ?_
  rintro e w23 ⟨rfl, h23⟩
  subst h23
  have hNext := hHeld
  refine hK.out _ _ hNext (fun _ => ?_)
  clear hK K hHeld
  have hHeld := hNext
  clear hNext
  try simp only [Act.put, List.setIfInBounds_toArray, List.set_cons_zero, List.set_cons_succ]
  refine wpAnyH_take (i := 13) (oi := Oper.mk (some 110) _ _ _ _ _) (v := ?_) rfl (by kernel_rfl) (by kernel_rfl) (by kernel_rfl) (fun _ _ _ h => h) (Or.inl ⟨by rfl, ?_⟩) (by assumption) ?_
  rotate_left
  · (intro w' hSw; (try dsimp only at hSw); go_simp; try with_reducible rfl)
  try simp only [Act.put, List.setIfInBounds_toArray, List.set_cons_zero, List.set_cons_succ]
  refine wpAnyH_take (i := 14) (oi := Oper.mk (some 111) _ _ _ _ _) (v := ?_) rfl (by kernel_rfl) (by kernel_rfl) (by kernel_rfl) (fun _ _ _ h => h) (Or.inl ⟨by rfl, ?_⟩) (by assumption) ?_
  rotate_left
  · (intro w' hSw; (try dsimp only at hSw); go_simp; try with_reducible rfl)
  try simp only [Act.put, List.setIfInBounds_toArray, List.set_cons_zero, List.set_cons_succ]
  refine wpAnyH_take (i := 15) (oi := Oper.mk (some 112) _ _ _ _ _) (v := ?_) rfl (by kernel_rfl) (by kernel_rfl) (by kernel_rfl) (fun _ _ _ h => h) (Or.inl ⟨by rfl, ?_⟩) (by assumption) ?_
  rotate_left
  · (intro w' hSw; (try dsimp only at hSw); go_simp; try with_reducible rfl)
  try simp only [Act.put, List.setIfInBounds_toArray, List.set_cons_zero, List.set_cons_succ]
  refine wpAnyH_take (i := 16) (oi := Oper.mk (some 113) _ _ _ _ _) (v := ?_) rfl (by kernel_rfl) (by kernel_rfl) (by kernel_rfl) (fun _ _ _ h => h) (Or.inl ⟨by rfl, ?_⟩) (by assumption) ?_
  rotate_left
  · (intro w' hSw; (try dsimp only at hSw); have a0 : w'.cell? ⟨w5.heap.size, 0, none⟩ = some (.bool sc) := (Env.at_ hSw 0 rfl).cell 0; have a1 : w'.cell? ⟨w5.heap.size, 1, none⟩ = some (.string bc) := (Env.at_ hSw 0 rfl).cell 1; go_simp; try with_reducible rfl)
  try simp only [Act.put, List.setIfInBounds_toArray, List.set_cons_zero, List.set_cons_succ]
  refine wpAnyH_take (i := 17) (oi := Oper.mk (some 114) _ _ _ _ _) (v := ?_) rfl (by kernel_rfl) (by kernel_rfl) (by kernel_rfl) (fun _ _ _ h => h) (Or.inl ⟨by rfl, ?_⟩) (by assumption) ?_
  rotate_left
  · (intro w' hSw; (try dsimp only at hSw); have a0 : w'.cell? ⟨w.heap.size, 0, none⟩ = some (.bool na) := (Env.at_ hSw 2 rfl).cell 0; have a1 : w'.cell? ⟨w.heap.size, 1, none⟩ = some (.string sa) := (Env.at_ hSw 2 rfl).cell 1; go_simp; try with_reducible rfl)
  try simp only [Act.put, List.setIfInBounds_toArray, List.set_cons_zero, List.set_cons_succ]
  refine wpAnyH_ready (rs := [18]) (by kernel_rfl) (by simp) ?_
  refine AllReadyH.cons (o := Oper.mk (some 115) _ _ _ _ _) rfl (fun K hK => ?_) AllReadyH.nil
  go_simp
  refine (R48.out _).mono ?_
  rintro e w24 ⟨rfl, h24⟩
  have hNext := hHeld.call h24
  refine hK.out _ _ hNext (fun _ => ?_)
  clear hK K hHeld h24
  have hHeld := hNext
  clear hNext
  try simp only [Act.put, List.setIfInBounds_toArray, List.set_cons_zero, List.set_cons_succ]
  refine wpAnyH_take (i := 19) (oi := Oper.mk (some 116) _ _ _ _ _) (v := ?_) rfl (by kernel_rfl) (by kernel_rfl) (by kernel_rfl) (fun _ _ _ h => h) (Or.inl ⟨by rfl, ?_⟩) (by assumption) ?_
  rotate_left
  · (intro w' hSw; (try dsimp only at hSw); go_simp; try with_reducible rfl)
  try simp only [Act.put, List.setIfInBounds_toArray, List.set_cons_zero, List.set_cons_succ]
  refine wpAnyH_take (i := 20) (oi := Oper.mk (some 117) _ _ _ _ _) (v := ?_) rfl (by kernel_rfl) (by kernel_rfl) (by kernel_rfl) (fun _ _ _ h => h) (Or.inl ⟨by rfl, ?_⟩) (by assumption) ?_
  rotate_left
  · (intro w' hSw; (try dsimp only at hSw); go_simp; try with_reducible rfl)
  try simp only [Act.put, List.setIfInBounds_toArray, List.set_cons_zero, List.set_cons_succ]
  refine wpAnyH_take (i := 21) (oi := Oper.mk (some 118) _ _ _ _ _) (v := ?_) rfl (by kernel_rfl) (by kernel_rfl) (by kernel_rfl) (fun _ _ _ h => h) (Or.inl ⟨by rfl, ?_⟩) (by assumption) ?_
  rotate_left
  · (intro w' hSw; (try dsimp only at hSw); go_simp; try with_reducible rfl)
  try simp only [Act.put, List.setIfInBounds_toArray, List.set_cons_zero, List.set_cons_succ]
  refine wpAnyH_take (i := 22) (oi := Oper.mk (some 119) _ _ _ _ _) (v := ?_) rfl (by kernel_rfl) (by kernel_rfl) (by kernel_rfl) (fun _ _ _ h => h) (Or.inl ⟨by rfl, ?_⟩) (by assumption) ?_
  rotate_left
  · (intro w' hSw; (try dsimp only at hSw); go_simp; try with_reducible rfl)
  try simp only [Act.put, List.setIfInBounds_toArray, List.set_cons_zero, List.set_cons_succ]
  refine wpAnyH_ready (rs := [23]) (by kernel_rfl) (by simp) ?_
  refine AllReadyH.cons (o := Oper.mk (some 120) _ _ _ _ _) rfl (fun K hK => ?_) AllReadyH.nil
  go_simp
  refine (HN.out _ 0).mono ?_
  rintro e w25 ⟨rfl, h25⟩
  subst h25
  have hNext := hHeld
  refine hK.out _ _ hNext (fun _ => ?_)
  clear hK K hHeld
  have hHeld := hNext
  clear hNext
  try simp only [Act.put, List.setIfInBounds_toArray, List.set_cons_zero, List.set_cons_succ]
  refine wpAnyH_take (i := 24) (oi := Oper.mk (some 121) _ _ _ _ _) (v := ?_) rfl (by kernel_rfl) (by kernel_rfl) (by kernel_rfl) (fun _ _ _ h => h) (Or.inl ⟨by rfl, ?_⟩) (by assumption) ?_
  rotate_left
  · (intro w' hSw; (try dsimp only at hSw); go_simp; try with_reducible rfl)
  try simp only [Act.put, List.setIfInBounds_toArray, List.set_cons_zero, List.set_cons_succ]
  refine wpAnyH_take (i := 25) (oi := Oper.mk (some 122) _ _ _ _ _) (v := ?_) rfl (by kernel_rfl) (by kernel_rfl) (by kernel_rfl) (fun _ _ _ h => h) (Or.inl ⟨by rfl, ?_⟩) (by assumption) ?_
  rotate_left
  · (intro w' hSw; (try dsimp only at hSw); go_simp; try with_reducible rfl)
  try simp only [Act.put, List.setIfInBounds_toArray, List.set_cons_zero, List.set_cons_succ]
  refine wpAnyH_take (i := 26) (oi := Oper.mk (some 123) _ _ _ _ _) (v := ?_) rfl (by kernel_rfl) (by kernel_rfl) (by kernel_rfl) (fun _ _ _ h => h) (Or.inl ⟨by rfl, ?_⟩) (by assumption) ?_
  rotate_left
  · (intro w' hSw; (try dsimp only at hSw); go_simp; try with_reducible rfl)
  try simp only [Act.put, List.setIfInBounds_toArray, List.set_cons_zero, List.set_cons_succ]
  refine wpAnyH_take (i := 27) (oi := Oper.mk (some 124) _ _ _ _ _) (v := ?_) rfl (by kernel_rfl) (by kernel_rfl) (by kernel_rfl) (fun _ _ _ h => h) (Or.inl ⟨by rfl, ?_⟩) (by assumption) ?_
  rotate_left
  · (intro w' hSw; (try dsimp only at hSw); go_simp; try with_reducible rfl)
  try simp only [Act.put, List.setIfInBounds_toArray, List.set_cons_zero, List.set_cons_succ]
  refine wpAnyH_take (i := 28) (oi := Oper.mk (some 125) _ _ _ _ _) (v := ?_) rfl (by kernel_rfl) (by kernel_rfl) (by kernel_rfl) (fun _ _ _ h => h) (Or.inl ⟨by rfl, ?_⟩) (by assumption) ?_
  rotate_left
  · (intro w' hSw; (try dsimp only at hSw); go_simp; try with_reducible rfl)
  try simp only [Act.put, List.setIfInBounds_toArray, List.set_cons_zero, List.set_cons_succ]
  refine wpAnyH_take (i := 29) (oi := Oper.mk (some 126) _ _ _ _ _) (v := ?_) rfl (by kernel_rfl) (by kernel_rfl) (by kernel_rfl) (fun _ _ _ h => h) (Or.inl ⟨by rfl, ?_⟩) (by assumption) ?_
  rotate_left
  · (intro w' hSw; (try dsimp only at hSw); go_simp; try with_reducible rfl)
  try simp only [Act.put, List.setIfInBounds_toArray, List.set_cons_zero, List.set_cons_succ]
  refine wpAnyH_take (i := 30) (oi := Oper.mk (some 127) _ _ _ _ _) (v := ?_) rfl (by kernel_rfl) (by kernel_rfl) (by kernel_rfl) (fun _ _ _ h => h) (Or.inl ⟨by rfl, ?_⟩) (by assumption) ?_
  rotate_left
  · (intro w' hSw; (try dsimp only at hSw); go_simp; try with_reducible rfl)
  try simp only [Act.put, List.setIfInBounds_toArray, List.set_cons_zero, List.set_cons_succ]
  refine wpAnyH_take (i := 31) (oi := Oper.mk (some 128) _ _ _ _ _) (v := ?_) rfl (by kernel_rfl) (by kernel_rfl) (by kernel_rfl) (fun _ _ _ h => h) (Or.inl ⟨by rfl, ?_⟩) (by assumption) ?_
  rotate_left
  · (intro w' hSw; (try dsimp only at hSw); go_simp; try with_reducible rfl)
  try simp only [Act.put, List.setIfInBounds_toArray, List.set_cons_zero, List.set_cons_succ]
  refine wpAnyH_take (i := 32) (oi := Oper.mk (some 129) _ _ _ _ _) (v := ?_) rfl (by kernel_rfl) (by kernel_rfl) (by kernel_rfl) (fun _ _ _ h => h) (Or.inl ⟨by rfl, ?_⟩) (by assumption) ?_
  rotate_left
  · (intro w' hSw; (try dsimp only at hSw); go_simp; try with_reducible rfl)
  try simp only [Act.put, List.setIfInBounds_toArray, List.set_cons_zero, List.set_cons_succ]
  refine wpAnyH_take (i := 33) (oi := Oper.mk (some 130) _ _ _ _ _) (v := ?_) rfl (by kernel_rfl) (by kernel_rfl) (by kernel_rfl) (fun _ _ _ h => h) (Or.inl ⟨by rfl, ?_⟩) (by assumption) ?_
  rotate_left
  · (intro w' hSw; (try dsimp only at hSw); go_simp; try with_reducible rfl)
  try simp only [Act.put, List.setIfInBounds_toArray, List.set_cons_zero, List.set_cons_succ]
  refine wpAnyH_take (i := 34) (oi := Oper.mk (some 131) _ _ _ _ _) (v := ?_) rfl (by kernel_rfl) (by kernel_rfl) (by kernel_rfl) (fun _ _ _ h => h) (Or.inl ⟨by rfl, ?_⟩) (by assumption) ?_
  rotate_left
  · (intro w' hSw; (try dsimp only at hSw); go_simp; try with_reducible rfl)
  try simp only [Act.put, List.setIfInBounds_toArray, List.set_cons_zero, List.set_cons_succ]
  refine wpAnyH_take (i := 35) (oi := Oper.mk (some 132) _ _ _ _ _) (v := ?_) rfl (by kernel_rfl) (by kernel_rfl) (by kernel_rfl) (fun _ _ _ h => h) (Or.inl ⟨by rfl, ?_⟩) (by assumption) ?_
  rotate_left
  · (intro w' hSw; (try dsimp only at hSw); go_simp; try with_reducible rfl)
  try simp only [Act.put, List.setIfInBounds_toArray, List.set_cons_zero, List.set_cons_succ]
  refine wpAnyH_take (i := 36) (oi := Oper.mk (some 133) _ _ _ _ _) (v := ?_) rfl (by kernel_rfl) (by kernel_rfl) (by kernel_rfl) (fun _ _ _ h => h) (Or.inl ⟨by rfl, ?_⟩) (by assumption) ?_
  rotate_left
  · (intro w' hSw; (try dsimp only at hSw); go_simp; try with_reducible rfl)
  try simp only [Act.put, List.setIfInBounds_toArray, List.set_cons_zero, List.set_cons_succ]
  refine wpAnyH_take (i := 37) (oi := Oper.mk (some 134) _ _ _ _ _) (v := ?_) rfl (by kernel_rfl) (by kernel_rfl) (by kernel_rfl) (fun _ _ _ h => h) (Or.inl ⟨by rfl, ?_⟩) (by assumption) ?_
  rotate_left
  · (intro w' hSw; (try dsimp only at hSw); have a0 : w'.cell? ⟨w.heap.size, 0, none⟩ = some (.bool na) := (Env.at_ hSw 2 rfl).cell 0; have a1 : w'.cell? ⟨w.heap.size, 1, none⟩ = some (.string sa) := (Env.at_ hSw 2 rfl).cell 1; go_simp; try with_reducible rfl)
  try simp only [Act.put, List.setIfInBounds_toArray, List.set_cons_zero, List.set_cons_succ]
  refine wpAnyH_take (i := 39) (oi := Oper.mk (some 136) _ _ _ _ _) (v := ?_) rfl (by kernel_rfl) (by kernel_rfl) (by kernel_rfl) (fun _ _ _ h => h) (Or.inl ⟨by rfl, ?_⟩) (by assumption) ?_
  rotate_left
  · (intro w' hSw; (try dsimp only at hSw); have a0 : w'.cell? ⟨w.heap.size, 0, none⟩ = some (.bool na) := (Env.at_ hSw 2 rfl).cell 0; have a1 : w'.cell? ⟨w.heap.size, 1, none⟩ = some (.string sa) := (Env.at_ hSw 2 rfl).cell 1; go_simp; try with_reducible rfl)
  try simp only [Act.put, List.setIfInBounds_toArray, List.set_cons_zero, List.set_cons_succ]
  refine wpAnyH_ready (rs := [38]) (by kernel_rfl) (by simp) ?_
  refine AllReadyH.cons (o := Oper.mk (some 135) _ _ _ _ _) rfl (fun K hK => ?_) AllReadyH.nil
  go_simp
  refine (H44.out _).mono ?_
  rintro e w26 ⟨rfl, h26⟩
  have hNext := hHeld.call h26
  refine hK.out _ _ hNext (fun _ => ?_)
  clear hK K hHeld h26
  have hHeld := hNext
  clear hNext
  try simp only [Act.put, List.setIfInBounds_toArray, List.set_cons_zero, List.set_cons_succ]
  refine wpAnyH_ready (rs := [40]) (by kernel_rfl) (by simp) ?_
  refine AllReadyH.cons (o := Oper.mk (some 137) _ _ _ _ _) rfl (fun K hK => ?_) AllReadyH.nil
  go_simp
  refine (R49.out _).mono ?_
  rintro e w27 ⟨rfl, h27⟩
  have hNext := hHeld.call h27
  refine hK.out _ _ hNext (fun _ => ?_)
  clear hK K hHeld h27
  have hHeld := hNext
  clear hNext
  try simp only [Act.put, List.setIfInBounds_toArray, List.set_cons_zero, List.set_cons_succ]
  refine wpAnyH_take (i := 41) (oi := Oper.mk (some 138) _ _ _ _ _) (v := ?_) rfl (by kernel_rfl) (by kernel_rfl) (by kernel_rfl) (fun _ _ _ h => h) (Or.inl ⟨by rfl, ?_⟩) (by assumption) ?_
  rotate_left
  · (intro w' hSw; (try dsimp only at hSw); go_simp; try with_reducible rfl)
  try simp only [Act.put, List.setIfInBounds_toArray, List.set_cons_zero, List.set_cons_succ]
  refine wpAnyH_take (i := 42) (oi := Oper.mk (some 139) _ _ _ _ _) (v := ?_) rfl (by kernel_rfl) (by kernel_rfl) (by kernel_rfl) (fun _ _ _ h => h) (Or.inl ⟨by rfl, ?_⟩) (by assumption) ?_
  rotate_left
  · (intro w' hSw; (try dsimp only at hSw); go_simp; try with_reducible rfl)
  try simp only [Act.put, List.setIfInBounds_toArray, List.set_cons_zero, List.set_cons_succ]
  refine wpAnyH_take (i := 43) (oi := Oper.mk (some 140) _ _ _ _ _) (v := ?_) rfl (by kernel_rfl) (by kernel_rfl) (by kernel_rfl) (fun _ _ _ h => h) (Or.inl ⟨by rfl, ?_⟩) (by assumption) ?_
  rotate_left
  · (intro w' hSw; (try dsimp only at hSw); go_simp; try with_reducible rfl)
  try simp only [Act.put, List.setIfInBounds_toArray, List.set_cons_zero, List.set_cons_succ]
  refine wpAnyH_take (i := 44) (oi := Oper.mk (some 141) _ _ _ _ _) (v := ?_) rfl (by kernel_rfl) (by kernel_rfl) (by kernel_rfl) (fun _ _ _ h => h) (Or.inl ⟨by rfl, ?_⟩) (by assumption) ?_
  rotate_left
  · (intro w' hSw; (try dsimp only at hSw); have a0 : w'.cell? ⟨w.heap.size, 0, none⟩ = some (.bool na) := (Env.at_ hSw 2 rfl).cell 0; have a1 : w'.cell? ⟨w.heap.size, 1, none⟩ = some (.string sa) := (Env.at_ hSw 2 rfl).cell 1; go_simp; try with_reducible rfl)
  try simp only [Act.put, List.setIfInBounds_toArray, List.set_cons_zero, List.set_cons_succ]
  refine wpAnyH_take (i := 46) (oi := Oper.mk (some 143) _ _ _ _ _) (v := ?_) rfl (by kernel_rfl) (by kernel_rfl) (by kernel_rfl) (fun _ _ _ h => h) (Or.inl ⟨by rfl, ?_⟩) (by assumption) ?_
  rotate_left
  · (intro w' hSw; (try dsimp only at hSw); have a0 : w'.cell? ⟨w.heap.size, 0, none⟩ = some (.bool na) := (Env.at_ hSw 2 rfl).cell 0; have a1 : w'.cell? ⟨w.heap.size, 1, none⟩ = some (.string sa) := (Env.at_ hSw 2 rfl).cell 1; go_simp; try with_reducible rfl)
  try simp only [Act.put, List.setIfInBounds_toArray, List.set_cons_zero, List.set_cons_succ]
  refine wpAnyH_ready (rs := [45]) (by kernel_rfl) (by simp) ?_
  refine AllReadyH.cons (o := Oper.mk (some 142) _ _ _ _ _) rfl (fun K hK => ?_) AllReadyH.nil
  go_simp
  refine (H45.out _).mono ?_
  rintro e w28 ⟨rfl, h28⟩
  have hNext := hHeld.call h28
  refine hK.out _ _ hNext (fun _ => ?_)
  clear hK K hHeld h28
  have hHeld := hNext
  clear hNext
  try simp only [Act.put, List.setIfInBounds_toArray, List.set_cons_zero, List.set_cons_succ]
  refine wpAnyH_ready (rs := [47]) (by kernel_rfl) (by simp) ?_
  refine AllReadyH.cons (o := Oper.mk (some 144) _ _ _ _ _) rfl (fun K hK => ?_) AllReadyH.nil
  go_simp
  refine (R50.out _).mono ?_
  rintro e w29 ⟨rfl, h29⟩
  have hNext := hHeld.call h29
  refine hK.out _ _ hNext (fun _ => ?_)
  clear hK K hHeld h29
  have hHeld := hNext
  clear hNext
  try simp only [Act.put, List.setIfInBounds_toArray, List.set_cons_zero, List.set_cons_succ]
  refine wpAnyH_take (i := 48) (oi := Oper.mk (some 145) _ _ _ _ _) (v := ?_) rfl (by kernel_rfl) (by kernel_rfl) (by kernel_rfl) (fun _ _ _ h => h) (Or.inl ⟨by rfl, ?_⟩) (by assumption) ?_
  rotate_left
  · (intro w' hSw; (try dsimp only at hSw); go_simp; try with_reducible rfl)
  try simp only [Act.put, List.setIfInBounds_toArray, List.set_cons_zero, List.set_cons_succ]
  refine wpAnyH_take (i := 49) (oi := Oper.mk (some 146) _ _ _ _ _) (v := ?_) rfl (by kernel_rfl) (by kernel_rfl) (by kernel_rfl) (fun _ _ _ h => h) (Or.inl ⟨by rfl, ?_⟩) (by assumption) ?_
  rotate_left
  · (intro w' hSw; (try dsimp only at hSw); go_simp; try with_reducible rfl)
  try simp only [Act.put, List.setIfInBounds_toArray, List.set_cons_zero, List.set_cons_succ]
  refine wpAnyH_done (by kernel_rfl) ?_ _
  refine NoPanic.normal ?_
  have E30 := Lib.hid hHeld
  clear hHeld
  go_upto_region 16 with fail
  have q1_0 : w29.cell? ⟨w.heap.size, 0, none⟩ = some (.bool na) := (Env.at_ E30.out 2 rfl).cell 0
  have q1_1 : w29.cell? ⟨w.heap.size, 1, none⟩ = some (.string sa) := (Env.at_ E30.out 2 rfl).cell 1
  go_wp2_with fail
  refine (R51.out _).mono ?_
  rintro e w31 ⟨rfl, h31⟩
  have E32 := Lib.hid (E30.out.call h31)
  clear q1_0 q1_1 h31
  go_wp2_with fail
  refine (HN.out _ 0).mono ?_
  rintro e w33 ⟨rfl, h33⟩
  subst h33
  have E34 := Lib.hid (E32.out)
  go_wp2_with fail
  refine (HW.out _).mono ?_
  rintro e w35 ⟨rfl, h35⟩
  have E36 := Lib.hid (E34.out.call h35)
  clear h35
  go_wp2_with fail
  go_ret
  exact ⟨rfl, E36.out.1⟩
set_option maxRecDepth 100000 in
set_option maxHeartbeats 8000000 in
theorem tells_out_neg {w : World} {na : Bool} {sa : ByteArray} {i n : Int} (hi : i ≤ 9223372036854775807) (hi0 : i < 0) (hb : isBad (na, sa) = false) (hm : MayL na sa.data.toList) (hr : ¬ Ranged (num (na, sa))) (hn1 : -9223372036854775808 ≤ n) (hn2 : n ≤ 9223372036854775807) :
    Calls Try.prog 7 #[.agg #[.bool na, .string sa], .int .i64 i, .int .i64 n] w (fun e w' => e = .returned (.bool true) ∧ Below w.heap.size w w') := by
  obtain ⟨so, bo, eo⟩ : ∃ s b, enc n = .agg #[.bool s, .string b] := ⟨_, _, rfl⟩
  have HO := Lib.hid (fun W : World => calm_eq (of64_any (w := W) hn1 hn2) eo)
  have RO := Lib.hid (fun W : World => calm_eq (rOf_any (w := W) hn1 hn2) eo)
  clear hn1 hn2 eo
  have HB := Lib.hid (fun W : World => bad_one (w := W) (na := na) (sa := sa))
  rw [hb] at HB
  clear hb
  have Fa := Fmd.of_may hm
  have Sx : SB 131072 (num (na, sa)) := by have h := may_sb (n := na) (s := sa) (k := 16384) (by have hl : sa.data.toList.length = sa.size := Array.length_toList; have := hm.1; omega); exact h
  have fk : fits (-num (na, sa)) := Sx.neg.fits (Nat.le_refl _)
  obtain ⟨sk, bk, ek, nk, mk⟩ := enc_form fk
  have fc : fits (((num (na, sa)).natAbs : Int)) := (Sx.le (by rw [Int.natAbs_natCast]; exact Nat.le_refl _)).fits (Nat.le_refl _)
  obtain ⟨sc, bc, ec, nc, mc⟩ := enc_form fc
  have H37 := Lib.hid (fun W : World => neg_told (w := W) hm rfl fk ek)
  have H38 := Lib.hid (fun W : World => abs_told (w := W) hm rfl fc ec)
  have H39 := Lib.hid (fun W : World => small_out (w := W) hm hr)
  have H40 := Lib.hid (fun W : World => bit_no (w := W) (na := na) (sa := sa) hi (fun h => by omega))
  have H43 := Lib.hid (fun W : World => check_ok (w := W) hm)
  have R46 := Lib.hid (fun W : World => rsmall_out (w := W) (na := na) Fa hr)
  have R47 := Lib.hid (fun W : World => calm_eq (rneg_any (w := W) (n := na) Fa) ek)
  have R48 := Lib.hid (fun W : World => calm_eq (rabs_any (w := W) (n := na) Fa) ec)
  have H44 := Lib.hid (fun W : World => sign_told (w := W) hm)
  have R49 := Lib.hid (fun W : World => rsign_any (w := W) (n := na) Fa)
  have H45 := Lib.hid (fun W : World => bits_told (w := W) hm)
  have R50 := Lib.hid (fun W : World => rBits_any (w := W) (na := na) Fa)
  generalize ((bl (num (na, sa)).natAbs : Nat) : Int) = zl at H45 R50
  generalize sg (num (na, sa)) = zs at H44 R49
  clear hm hr Fa Sx fk ek nk mk fc ec nc mc
  have hdi : decide (i < 0) = true := decide_eq_true hi0
  have HW := Lib.hid (fun W : World => works_any (w := W))
  have HN := Lib.hid (fun (W : World) (n : Int) => num_any (w := W) (n := n))
  have E0 := Lib.hid (Env.nil w)
  go_enter Try.func7, Try.ntmps7
  go_upto_region 0 with fail
  go_upto_region 1 with fail
  have E1 : Hid (Env w (w.alloc (.cells #[.bool na, .string sa] 26)) [(w.heap.size, 26, #[.bool na, .string sa])]) := Lib.hid (by have h := (Env.new E0.out 26 #[.bool na, .string sa]); (try simp only [World.size_alloc] at h); exact h)
  generalize (w.alloc (.cells #[.bool na, .string sa] 26)) = W1 at E1 ⊢
  have q0_0 : W1.cell? ⟨w.heap.size, 0, none⟩ = some (.bool na) := (Env.at_ E1.out 0 rfl).cell 0
  have q0_1 : W1.cell? ⟨w.heap.size, 1, none⟩ = some (.string sa) := (Env.at_ E1.out 0 rfl).cell 1
  go_wp2_with fail
  refine (H37.out _).mono ?_
  rintro e w2 ⟨rfl, h2⟩
  have E3 := Lib.hid (E1.out.call h2)
  clear q0_0 q0_1 h2
  go_upto_region 2 with fail
  have E4 : Hid (Env w (w2.alloc (.cells #[.bool sk, .string bk] 26)) [(w2.heap.size, 26, #[.bool sk, .string bk]), (w.heap.size, 26, #[.bool na, .string sa])]) := Lib.hid (by have h := (Env.new E3.out 26 #[.bool sk, .string bk]); (try simp only [World.size_alloc] at h); exact h)
  generalize (w2.alloc (.cells #[.bool sk, .string bk] 26)) = W4 at E4 ⊢
  have q0_0 : W4.cell? ⟨w.heap.size, 0, none⟩ = some (.bool na) := (Env.at_ E4.out 1 rfl).cell 0
  have q0_1 : W4.cell? ⟨w.heap.size, 1, none⟩ = some (.string sa) := (Env.at_ E4.out 1 rfl).cell 1
  go_wp2_with fail
  refine (H38.out _).mono ?_
  rintro e w5 ⟨rfl, h5⟩
  have E6 := Lib.hid (E4.out.call h5)
  clear q0_0 q0_1 h5
  go_upto_region 3 with fail
  have E7 : Hid (Env w (w5.alloc (.cells #[.bool sc, .string bc] 26)) [(w5.heap.size, 26, #[.bool sc, .string bc]), (w2.heap.size, 26, #[.bool sk, .string bk]), (w.heap.size, 26, #[.bool na, .string sa])]) := Lib.hid (by have h := (Env.new E6.out 26 #[.bool sc, .string bc]); (try simp only [World.size_alloc] at h); exact h)
  generalize (w5.alloc (.cells #[.bool sc, .string bc] 26)) = W7 at E7 ⊢
  have q0_0 : W7.cell? ⟨w.heap.size, 0, none⟩ = some (.bool na) := (Env.at_ E7.out 2 rfl).cell 0
  have q0_1 : W7.cell? ⟨w.heap.size, 1, none⟩ = some (.string sa) := (Env.at_ E7.out 2 rfl).cell 1
  go_wp2_with fail
  refine (H39.out _).mono ?_
  rintro e w8 ⟨rfl, h8⟩
  have E9 := Lib.hid (E7.out.call h8)
  clear q0_0 q0_1 h8
  go_upto_region 4 with fail
  have q0_0 : w8.cell? ⟨w.heap.size, 0, none⟩ = some (.bool na) := (Env.at_ E9.out 2 rfl).cell 0
  have q0_1 : w8.cell? ⟨w.heap.size, 1, none⟩ = some (.string sa) := (Env.at_ E9.out 2 rfl).cell 1
  go_wp2_with fail
  refine (H40.out _).mono ?_
  rintro e w10 ⟨rfl, h10⟩
  have E11 := Lib.hid (E9.out.call h10)
  clear q0_0 q0_1 h10
  go_upto_region 5 with fail
  go_wp2_with fail
  refine (HO.out _).mono ?_
  rintro e w12 ⟨rfl, h12⟩
  have E13 := Lib.hid (E11.out.call h12)
  clear h12
  go_wp2_with fail
  refine (RO.out _).mono ?_
  rintro e w14 ⟨rfl, h14⟩
  have E15 := Lib.hid (E13.out.call h14)
  clear h14
  go_upto_region 7 with fail
  have q0_0 : w14.cell? ⟨w.heap.size, 0, none⟩ = some (.bool na) := (Env.at_ E15.out 2 rfl).cell 0
  have q0_1 : w14.cell? ⟨w.heap.size, 1, none⟩ = some (.string sa) := (Env.at_ E15.out 2 rfl).cell 1
  go_wp2_with fail
  refine (HB.out _).mono ?_
  rintro e w16 ⟨rfl, h16⟩
  have E17 := Lib.hid ((Env.other E15.out (.cells #[.bool na, .string sa] 26)).call h16)
  clear q0_0 q0_1 h16
  go_upto_region 9 with fail
  have q0_0 : w16.cell? ⟨w.heap.size, 0, none⟩ = some (.bool na) := (Env.at_ E17.out 2 rfl).cell 0
  have q0_1 : w16.cell? ⟨w.heap.size, 1, none⟩ = some (.string sa) := (Env.at_ E17.out 2 rfl).cell 1
  go_wp2_with fail
  refine (R46.out _).mono ?_
  rintro e w18 ⟨y, rfl, h18⟩
  have E19 := Lib.hid (E17.out.call h18)
  clear q0_0 q0_1 h18
  go_upto_region 12 with fail
  skip
  refine wp_region_noPanic ?_
  refine wp_region_held_drew (S := fun w' => Env w w' [(w5.heap.size, 26, #[.bool sc, .string bc]), (w2.heap.size, 26, #[.bool sk, .string bk]), (w.heap.size, 26, #[.bool na, .string sa])]) (by kernel_rfl) (Env.drew E19.out) (fun hHeld => ?_)
  refine wpAnyH_take (i := 0) (oi := Oper.mk (some 97) _ _ _ _ _) (v := ?_) rfl (by kernel_rfl) (by kernel_rfl) (by kernel_rfl) (fun _ _ _ h => h) (Or.inl ⟨by rfl, ?_⟩) (by assumption) ?_
  rotate_left
  · (intro w' hSw; (try dsimp only at hSw); have a0 : w'.cell? ⟨w.heap.size, 0, none⟩ = some (.bool na) := (Env.at_ hSw 2 rfl).cell 0; have a1 : w'.cell? ⟨w.heap.size, 1, none⟩ = some (.string sa) := (Env.at_ hSw 2 rfl).cell 1; go_simp; try with_reducible rfl)
  try simp only [Act.put, List.setIfInBounds_toArray, List.set_cons_zero, List.set_cons_succ]
  refine wpAnyH_ready (rs := [1]) (by kernel_rfl) (by simp) ?_
  refine AllReadyH.cons (o := Oper.mk (some 98) _ _ _ _ _) rfl (fun K hK => ?_) AllReadyH.nil
  go_simp
  refine (H43.out _).mono ?_
  rintro e w20 ⟨rfl, h20⟩
  have hNext := hHeld.call h20
  refine hK.out _ _ hNext (fun _ => ?_)
  clear hK K hHeld h20
  have hHeld := hNext
  clear hNext
  try simp only [Act.put, List.setIfInBounds_toArray, List.set_cons_zero, List.set_cons_succ]
  refine wpAnyH_ready (rs := [2]) (by kernel_rfl) (by simp) ?_
  refine AllReadyH.cons (o := Oper.mk (some 99) _ _ _ _ _) rfl (fun K hK => ?_) AllReadyH.nil
  go_simp
  refine (HN.out _ 0).mono ?_
  rintro e w21 ⟨rfl, h21⟩
  subst h21
  have hNext := hHeld
  refine hK.out _ _ hNext (fun _ => ?_)
  clear hK K hHeld
  have hHeld := hNext
  clear hNext
  try simp only [Act.put, List.setIfInBounds_toArray, List.set_cons_zero, List.set_cons_succ]
  refine wpAnyH_take (i := 3) (oi := Oper.mk (some 100) _ _ _ _ _) (v := ?_) rfl (by kernel_rfl) (by kernel_rfl) (by kernel_rfl) (fun _ _ _ h => h) (Or.inl ⟨by rfl, ?_⟩) (by assumption) ?_
  rotate_left
  · (intro w' hSw; (try dsimp only at hSw); go_simp; try with_reducible rfl)
  try simp only [Act.put, List.setIfInBounds_toArray, List.set_cons_zero, List.set_cons_succ]
  refine wpAnyH_take (i := 4) (oi := Oper.mk (some 101) _ _ _ _ _) (v := ?_) rfl (by kernel_rfl) (by kernel_rfl) (by kernel_rfl) (fun _ _ _ h => h) (Or.inl ⟨by rfl, ?_⟩) (by assumption) ?_
  rotate_left
  · (intro w' hSw; (try dsimp only at hSw); go_simp; try with_reducible rfl)
  try simp only [Act.put, List.setIfInBounds_toArray, List.set_cons_zero, List.set_cons_succ]
  refine wpAnyH_take (i := 5) (oi := Oper.mk (some 102) _ _ _ _ _) (v := ?_) rfl (by kernel_rfl) (by kernel_rfl) (by kernel_rfl) (fun _ _ _ h => h) (Or.inl ⟨by rfl, ?_⟩) (by assumption) ?_
  rotate_left
  · (intro w' hSw; (try dsimp only at hSw); have a0 : w'.cell? ⟨w2.heap.size, 0, none⟩ = some (.bool sk) := (Env.at_ hSw 1 rfl).cell 0; have a1 : w'.cell? ⟨w2.heap.size, 1, none⟩ = some (.string bk) := (Env.at_ hSw 1 rfl).cell 1; go_simp; try with_reducible rfl)
  try simp only [Act.put, List.setIfInBounds_toArray, List.set_cons_zero, List.set_cons_succ]
  refine wpAnyH_take (i := 6) (oi := Oper.mk (some 103) _ _ _ _ _) (v := ?_) rfl (by kernel_rfl) (by kernel_rfl) (by kernel_rfl) (fun _ _ _ h => h) (Or.inl ⟨by rfl, ?_⟩) (by assumption) ?_
  rotate_left
  · (intro w' hSw; (try dsimp only at hSw); have a0 : w'.cell? ⟨w.heap.size, 0, none⟩ = some (.bool na) := (Env.at_ hSw 2 rfl).cell 0; have a1 : w'.cell? ⟨w.heap.size, 1, none⟩ = some (.string sa) := (Env.at_ hSw 2 rfl).cell 1; go_simp; try with_reducible rfl)
  try simp only [Act.put, List.setIfInBounds_toArray, List.set_cons_zero, List.set_cons_succ]
  refine wpAnyH_ready (rs := [7]) (by kernel_rfl) (by simp) ?_
  refine AllReadyH.cons (o := Oper.mk (some 104) _ _ _ _ _) rfl (fun K hK => ?_) AllReadyH.nil
  go_simp
  refine (R47.out _).mono ?_
  rintro e w22 ⟨rfl, h22⟩
  have hNext := hHeld.call h22
  refine hK.out _ _ hNext (fun _ => ?_)
  clear hK K hHeld h22
  have hHeld := hNext
  clear hNext
  try simp only [Act.put, List.setIfInBounds_toArray, List.set_cons_zero, List.set_cons_succ]
  refine wpAnyH_take (i := 8) (oi := Oper.mk (some 105) _ _ _ _ _) (v := ?_) rfl (by kernel_rfl) (by kernel_rfl) (by kernel_rfl) (fun _ _ _ h => h) (Or.inl ⟨by rfl, ?_⟩) (by assumption) ?_
  rotate_left
  · (intro w' hSw; (try dsimp only at hSw); go_simp; try with_reducible rfl)
  try simp only [Act.put, List.setIfInBounds_toArray, List.set_cons_zero, List.set_cons_succ]
  refine wpAnyH_take (i := 9) (oi := Oper.mk (some 106) _ _ _ _ _) (v := ?_) rfl (by kernel_rfl) (by kernel_rfl) (by kernel_rfl) (fun _ _ _ h => h) (Or.inl ⟨by rfl, ?_⟩) (by assumption) ?_
  rotate_left
  · (intro w' hSw; (try dsimp only at hSw); go_simp; try with_reducible rfl)
  try simp only [Act.put, List.setIfInBounds_toArray, List.set_cons_zero, List.set_cons_succ]
  refine wpAnyH_take (i := 10) (oi := Oper.mk (some 107) _ _ _ _ _) (v := ?_) rfl (by kernel_rfl) (by kernel_rfl) (by kernel_rfl) (fun _ _ _ h => h) (Or.inl ⟨by rfl, ?_⟩) (by assumption) ?_
  rotate_left
  · (intro w' hSw; (try dsimp only at hSw); go_simp; try with_reducible rfl)
  try simp only [Act.put, List.setIfInBounds_toArray, List.set_cons_zero, List.set_cons_succ]
  refine wpAnyH_take (i := 11) (oi := Oper.mk (some 108) _ _ _ _ _) (v := ?_) rfl (by kernel_rfl) (by kernel_rfl) (by kernel_rfl) (fun _ _ _ h => h) (Or.inl ⟨by rfl, ?_⟩) (by assumption) ?_
  rotate_left
  · (intro w' hSw; (try dsimp only at hSw); go_simp; try with_reducible rfl)
  try simp only [Act.put, List.setIfInBounds_toArray, List.set_cons_zero, List.set_cons_succ]
  refine wpAnyH_ready (rs := [12]) (by kernel_rfl) (by simp) ?_
  refine AllReadyH.cons (o := Oper.mk (some 109) _ _ _ _ _) rfl (fun K hK => ?_) AllReadyH.nil
  go_simp
  refine (HN.out _ 0).mono ?_
  rintro e w23 ⟨rfl, h23⟩
  subst h23
  have hNext := hHeld
  refine hK.out _ _ hNext (fun _ => ?_)
  clear hK K hHeld
  have hHeld := hNext
  clear hNext
  try simp only [Act.put, List.setIfInBounds_toArray, List.set_cons_zero, List.set_cons_succ]
  refine wpAnyH_take (i := 13) (oi := Oper.mk (some 110) _ _ _ _ _) (v := ?_) rfl (by kernel_rfl) (by kernel_rfl) (by kernel_rfl) (fun _ _ _ h => h) (Or.inl ⟨by rfl, ?_⟩) (by assumption) ?_
  rotate_left
  · (intro w' hSw; (try dsimp only at hSw); go_simp; try with_reducible rfl)
  try simp only [Act.put, List.setIfInBounds_toArray, List.set_cons_zero, List.set_cons_succ]
  refine wpAnyH_take (i := 14) (oi := Oper.mk (some 111) _ _ _ _ _) (v := ?_) rfl (by kernel_rfl) (by kernel_rfl) (by kernel_rfl) (fun _ _ _ h => h) (Or.inl ⟨by rfl, ?_⟩) (by assumption) ?_
  rotate_left
  · (intro w' hSw; (try dsimp only at hSw); go_simp; try with_reducible rfl)
  try simp only [Act.put, List.setIfInBounds_toArray, List.set_cons_zero, List.set_cons_succ]
  refine wpAnyH_take (i := 15) (oi := Oper.mk (some 112) _ _ _ _ _) (v := ?_) rfl (by kernel_rfl) (by kernel_rfl) (by kernel_rfl) (fun _ _ _ h => h) (Or.inl ⟨by rfl, ?_⟩) (by assumption) ?_
  rotate_left
  · (intro w' hSw; (try dsimp only at hSw); go_simp; try with_reducible rfl)
  try simp only [Act.put, List.setIfInBounds_toArray, List.set_cons_zero, List.set_cons_succ]
  refine wpAnyH_take (i := 16) (oi := Oper.mk (some 113) _ _ _ _ _) (v := ?_) rfl (by kernel_rfl) (by kernel_rfl) (by kernel_rfl) (fun _ _ _ h => h) (Or.inl ⟨by rfl, ?_⟩) (by assumption) ?_
  rotate_left
  · (intro w' hSw; (try dsimp only at hSw); have a0 : w'.cell? ⟨w5.heap.size, 0, none⟩ = some (.bool sc) := (Env.at_ hSw 0 rfl).cell 0; have a1 : w'.cell? ⟨w5.heap.size, 1, none⟩ = some (.string bc) := (Env.at_ hSw 0 rfl).cell 1; go_simp; try with_reducible rfl)
  try simp only [Act.put, List.setIfInBounds_toArray, List.set_cons_zero, List.set_cons_succ]
  refine wpAnyH_take (i := 17) (oi := Oper.mk (some 114) _ _ _ _ _) (v := ?_) rfl (by kernel_rfl) (by kernel_rfl) (by kernel_rfl) (fun _ _ _ h => h) (Or.inl ⟨by rfl, ?_⟩) (by assumption) ?_
  rotate_left
  · (intro w' hSw; (try dsimp only at hSw); have a0 : w'.cell? ⟨w.heap.size, 0, none⟩ = some (.bool na) := (Env.at_ hSw 2 rfl).cell 0; have a1 : w'.cell? ⟨w.heap.size, 1, none⟩ = some (.string sa) := (Env.at_ hSw 2 rfl).cell 1; go_simp; try with_reducible rfl)
  try simp only [Act.put, List.setIfInBounds_toArray, List.set_cons_zero, List.set_cons_succ]
  refine wpAnyH_ready (rs := [18]) (by kernel_rfl) (by simp) ?_
  refine AllReadyH.cons (o := Oper.mk (some 115) _ _ _ _ _) rfl (fun K hK => ?_) AllReadyH.nil
  go_simp
  refine (R48.out _).mono ?_
  rintro e w24 ⟨rfl, h24⟩
  have hNext := hHeld.call h24
  refine hK.out _ _ hNext (fun _ => ?_)
  clear hK K hHeld h24
  have hHeld := hNext
  clear hNext
  try simp only [Act.put, List.setIfInBounds_toArray, List.set_cons_zero, List.set_cons_succ]
  refine wpAnyH_take (i := 19) (oi := Oper.mk (some 116) _ _ _ _ _) (v := ?_) rfl (by kernel_rfl) (by kernel_rfl) (by kernel_rfl) (fun _ _ _ h => h) (Or.inl ⟨by rfl, ?_⟩) (by assumption) ?_
  rotate_left
  · (intro w' hSw; (try dsimp only at hSw); go_simp; try with_reducible rfl)
  try simp only [Act.put, List.setIfInBounds_toArray, List.set_cons_zero, List.set_cons_succ]
  refine wpAnyH_take (i := 20) (oi := Oper.mk (some 117) _ _ _ _ _) (v := ?_) rfl (by kernel_rfl) (by kernel_rfl) (by kernel_rfl) (fun _ _ _ h => h) (Or.inl ⟨by rfl, ?_⟩) (by assumption) ?_
  rotate_left
  · (intro w' hSw; (try dsimp only at hSw); go_simp; try with_reducible rfl)
  try simp only [Act.put, List.setIfInBounds_toArray, List.set_cons_zero, List.set_cons_succ]
  refine wpAnyH_take (i := 21) (oi := Oper.mk (some 118) _ _ _ _ _) (v := ?_) rfl (by kernel_rfl) (by kernel_rfl) (by kernel_rfl) (fun _ _ _ h => h) (Or.inl ⟨by rfl, ?_⟩) (by assumption) ?_
  rotate_left
  · (intro w' hSw; (try dsimp only at hSw); go_simp; try with_reducible rfl)
  try simp only [Act.put, List.setIfInBounds_toArray, List.set_cons_zero, List.set_cons_succ]
  refine wpAnyH_take (i := 22) (oi := Oper.mk (some 119) _ _ _ _ _) (v := ?_) rfl (by kernel_rfl) (by kernel_rfl) (by kernel_rfl) (fun _ _ _ h => h) (Or.inl ⟨by rfl, ?_⟩) (by assumption) ?_
  rotate_left
  · (intro w' hSw; (try dsimp only at hSw); go_simp; try with_reducible rfl)
  try simp only [Act.put, List.setIfInBounds_toArray, List.set_cons_zero, List.set_cons_succ]
  refine wpAnyH_ready (rs := [23]) (by kernel_rfl) (by simp) ?_
  refine AllReadyH.cons (o := Oper.mk (some 120) _ _ _ _ _) rfl (fun K hK => ?_) AllReadyH.nil
  go_simp
  refine (HN.out _ 0).mono ?_
  rintro e w25 ⟨rfl, h25⟩
  subst h25
  have hNext := hHeld
  refine hK.out _ _ hNext (fun _ => ?_)
  clear hK K hHeld
  have hHeld := hNext
  clear hNext
  try simp only [Act.put, List.setIfInBounds_toArray, List.set_cons_zero, List.set_cons_succ]
  refine wpAnyH_take (i := 24) (oi := Oper.mk (some 121) _ _ _ _ _) (v := ?_) rfl (by kernel_rfl) (by kernel_rfl) (by kernel_rfl) (fun _ _ _ h => h) (Or.inl ⟨by rfl, ?_⟩) (by assumption) ?_
  rotate_left
  · (intro w' hSw; (try dsimp only at hSw); go_simp; try with_reducible rfl)
  try simp only [Act.put, List.setIfInBounds_toArray, List.set_cons_zero, List.set_cons_succ]
  refine wpAnyH_take (i := 25) (oi := Oper.mk (some 122) _ _ _ _ _) (v := ?_) rfl (by kernel_rfl) (by kernel_rfl) (by kernel_rfl) (fun _ _ _ h => h) (Or.inl ⟨by rfl, ?_⟩) (by assumption) ?_
  rotate_left
  · (intro w' hSw; (try dsimp only at hSw); go_simp; try with_reducible rfl)
  try simp only [Act.put, List.setIfInBounds_toArray, List.set_cons_zero, List.set_cons_succ]
  refine wpAnyH_take (i := 26) (oi := Oper.mk (some 123) _ _ _ _ _) (v := ?_) rfl (by kernel_rfl) (by kernel_rfl) (by kernel_rfl) (fun _ _ _ h => h) (Or.inl ⟨by rfl, ?_⟩) (by assumption) ?_
  rotate_left
  · (intro w' hSw; (try dsimp only at hSw); go_simp; try with_reducible rfl)
  try simp only [Act.put, List.setIfInBounds_toArray, List.set_cons_zero, List.set_cons_succ]
  refine wpAnyH_take (i := 27) (oi := Oper.mk (some 124) _ _ _ _ _) (v := ?_) rfl (by kernel_rfl) (by kernel_rfl) (by kernel_rfl) (fun _ _ _ h => h) (Or.inl ⟨by rfl, ?_⟩) (by assumption) ?_
  rotate_left
  · (intro w' hSw; (try dsimp only at hSw); go_simp; try with_reducible rfl)
  try simp only [Act.put, List.setIfInBounds_toArray, List.set_cons_zero, List.set_cons_succ]
  refine wpAnyH_take (i := 28) (oi := Oper.mk (some 125) _ _ _ _ _) (v := ?_) rfl (by kernel_rfl) (by kernel_rfl) (by kernel_rfl) (fun _ _ _ h => h) (Or.inl ⟨by rfl, ?_⟩) (by assumption) ?_
  rotate_left
  · (intro w' hSw; (try dsimp only at hSw); go_simp; try with_reducible rfl)
  try simp only [Act.put, List.setIfInBounds_toArray, List.set_cons_zero, List.set_cons_succ]
  refine wpAnyH_take (i := 29) (oi := Oper.mk (some 126) _ _ _ _ _) (v := ?_) rfl (by kernel_rfl) (by kernel_rfl) (by kernel_rfl) (fun _ _ _ h => h) (Or.inl ⟨by rfl, ?_⟩) (by assumption) ?_
  rotate_left
  · (intro w' hSw; (try dsimp only at hSw); go_simp; try with_reducible rfl)
  try simp only [Act.put, List.setIfInBounds_toArray, List.set_cons_zero, List.set_cons_succ]
  refine wpAnyH_take (i := 30) (oi := Oper.mk (some 127) _ _ _ _ _) (v := ?_) rfl (by kernel_rfl) (by kernel_rfl) (by kernel_rfl) (fun _ _ _ h => h) (Or.inl ⟨by rfl, ?_⟩) (by assumption) ?_
  rotate_left
  · (intro w' hSw; (try dsimp only at hSw); go_simp; try with_reducible rfl)
  try simp only [Act.put, List.setIfInBounds_toArray, List.set_cons_zero, List.set_cons_succ]
  refine wpAnyH_take (i := 31) (oi := Oper.mk (some 128) _ _ _ _ _) (v := ?_) rfl (by kernel_rfl) (by kernel_rfl) (by kernel_rfl) (fun _ _ _ h => h) (Or.inl ⟨by rfl, ?_⟩) (by assumption) ?_
  rotate_left
  · (intro w' hSw; (try dsimp only at hSw); go_simp; try with_reducible rfl)
  try simp only [Act.put, List.setIfInBounds_toArray, List.set_cons_zero, List.set_cons_succ]
  refine wpAnyH_take (i := 32) (oi := Oper.mk (some 129) _ _ _ _ _) (v := ?_) rfl (by kernel_rfl) (by kernel_rfl) (by kernel_rfl) (fun _ _ _ h => h) (Or.inl ⟨by rfl, ?_⟩) (by assumption) ?_
  rotate_left
  · (intro w' hSw; (try dsimp only at hSw); go_simp; try with_reducible rfl)
  try simp only [Act.put, List.setIfInBounds_toArray, List.set_cons_zero, List.set_cons_succ]
  refine wpAnyH_take (i := 33) (oi := Oper.mk (some 130) _ _ _ _ _) (v := ?_) rfl (by kernel_rfl) (by kernel_rfl) (by kernel_rfl) (fun _ _ _ h => h) (Or.inl ⟨by rfl, ?_⟩) (by assumption) ?_
  rotate_left
  · (intro w' hSw; (try dsimp only at hSw); go_simp; try with_reducible rfl)
  try simp only [Act.put, List.setIfInBounds_toArray, List.set_cons_zero, List.set_cons_succ]
  refine wpAnyH_take (i := 34) (oi := Oper.mk (some 131) _ _ _ _ _) (v := ?_) rfl (by kernel_rfl) (by kernel_rfl) (by kernel_rfl) (fun _ _ _ h => h) (Or.inl ⟨by rfl, ?_⟩) (by assumption) ?_
  rotate_left
  · (intro w' hSw; (try dsimp only at hSw); go_simp; try with_reducible rfl)
  try simp only [Act.put, List.setIfInBounds_toArray, List.set_cons_zero, List.set_cons_succ]
  refine wpAnyH_take (i := 35) (oi := Oper.mk (some 132) _ _ _ _ _) (v := ?_) rfl (by kernel_rfl) (by kernel_rfl) (by kernel_rfl) (fun _ _ _ h => h) (Or.inl ⟨by rfl, ?_⟩) (by assumption) ?_
  rotate_left
  · (intro w' hSw; (try dsimp only at hSw); go_simp; try with_reducible rfl)
  try simp only [Act.put, List.setIfInBounds_toArray, List.set_cons_zero, List.set_cons_succ]
  refine wpAnyH_take (i := 36) (oi := Oper.mk (some 133) _ _ _ _ _) (v := ?_) rfl (by kernel_rfl) (by kernel_rfl) (by kernel_rfl) (fun _ _ _ h => h) (Or.inl ⟨by rfl, ?_⟩) (by assumption) ?_
  rotate_left
  · (intro w' hSw; (try dsimp only at hSw); go_simp; try with_reducible rfl)
  try simp only [Act.put, List.setIfInBounds_toArray, List.set_cons_zero, List.set_cons_succ]
  refine wpAnyH_take (i := 37) (oi := Oper.mk (some 134) _ _ _ _ _) (v := ?_) rfl (by kernel_rfl) (by kernel_rfl) (by kernel_rfl) (fun _ _ _ h => h) (Or.inl ⟨by rfl, ?_⟩) (by assumption) ?_
  rotate_left
  · (intro w' hSw; (try dsimp only at hSw); have a0 : w'.cell? ⟨w.heap.size, 0, none⟩ = some (.bool na) := (Env.at_ hSw 2 rfl).cell 0; have a1 : w'.cell? ⟨w.heap.size, 1, none⟩ = some (.string sa) := (Env.at_ hSw 2 rfl).cell 1; go_simp; try with_reducible rfl)
  try simp only [Act.put, List.setIfInBounds_toArray, List.set_cons_zero, List.set_cons_succ]
  refine wpAnyH_take (i := 39) (oi := Oper.mk (some 136) _ _ _ _ _) (v := ?_) rfl (by kernel_rfl) (by kernel_rfl) (by kernel_rfl) (fun _ _ _ h => h) (Or.inl ⟨by rfl, ?_⟩) (by assumption) ?_
  rotate_left
  · (intro w' hSw; (try dsimp only at hSw); have a0 : w'.cell? ⟨w.heap.size, 0, none⟩ = some (.bool na) := (Env.at_ hSw 2 rfl).cell 0; have a1 : w'.cell? ⟨w.heap.size, 1, none⟩ = some (.string sa) := (Env.at_ hSw 2 rfl).cell 1; go_simp; try with_reducible rfl)
  try simp only [Act.put, List.setIfInBounds_toArray, List.set_cons_zero, List.set_cons_succ]
  refine wpAnyH_ready (rs := [38]) (by kernel_rfl) (by simp) ?_
  refine AllReadyH.cons (o := Oper.mk (some 135) _ _ _ _ _) rfl (fun K hK => ?_) AllReadyH.nil
  go_simp
  refine (H44.out _).mono ?_
  rintro e w26 ⟨rfl, h26⟩
  have hNext := hHeld.call h26
  refine hK.out _ _ hNext (fun _ => ?_)
  clear hK K hHeld h26
  have hHeld := hNext
  clear hNext
  try simp only [Act.put, List.setIfInBounds_toArray, List.set_cons_zero, List.set_cons_succ]
  refine wpAnyH_ready (rs := [40]) (by kernel_rfl) (by simp) ?_
  refine AllReadyH.cons (o := Oper.mk (some 137) _ _ _ _ _) rfl (fun K hK => ?_) AllReadyH.nil
  go_simp
  refine (R49.out _).mono ?_
  rintro e w27 ⟨rfl, h27⟩
  have hNext := hHeld.call h27
  refine hK.out _ _ hNext (fun _ => ?_)
  clear hK K hHeld h27
  have hHeld := hNext
  clear hNext
  try simp only [Act.put, List.setIfInBounds_toArray, List.set_cons_zero, List.set_cons_succ]
  refine wpAnyH_take (i := 41) (oi := Oper.mk (some 138) _ _ _ _ _) (v := ?_) rfl (by kernel_rfl) (by kernel_rfl) (by kernel_rfl) (fun _ _ _ h => h) (Or.inl ⟨by rfl, ?_⟩) (by assumption) ?_
  rotate_left
  · (intro w' hSw; (try dsimp only at hSw); go_simp; try with_reducible rfl)
  try simp only [Act.put, List.setIfInBounds_toArray, List.set_cons_zero, List.set_cons_succ]
  refine wpAnyH_take (i := 42) (oi := Oper.mk (some 139) _ _ _ _ _) (v := ?_) rfl (by kernel_rfl) (by kernel_rfl) (by kernel_rfl) (fun _ _ _ h => h) (Or.inl ⟨by rfl, ?_⟩) (by assumption) ?_
  rotate_left
  · (intro w' hSw; (try dsimp only at hSw); go_simp; try with_reducible rfl)
  try simp only [Act.put, List.setIfInBounds_toArray, List.set_cons_zero, List.set_cons_succ]
  refine wpAnyH_take (i := 43) (oi := Oper.mk (some 140) _ _ _ _ _) (v := ?_) rfl (by kernel_rfl) (by kernel_rfl) (by kernel_rfl) (fun _ _ _ h => h) (Or.inl ⟨by rfl, ?_⟩) (by assumption) ?_
  rotate_left
  · (intro w' hSw; (try dsimp only at hSw); go_simp; try with_reducible rfl)
  try simp only [Act.put, List.setIfInBounds_toArray, List.set_cons_zero, List.set_cons_succ]
  refine wpAnyH_take (i := 44) (oi := Oper.mk (some 141) _ _ _ _ _) (v := ?_) rfl (by kernel_rfl) (by kernel_rfl) (by kernel_rfl) (fun _ _ _ h => h) (Or.inl ⟨by rfl, ?_⟩) (by assumption) ?_
  rotate_left
  · (intro w' hSw; (try dsimp only at hSw); have a0 : w'.cell? ⟨w.heap.size, 0, none⟩ = some (.bool na) := (Env.at_ hSw 2 rfl).cell 0; have a1 : w'.cell? ⟨w.heap.size, 1, none⟩ = some (.string sa) := (Env.at_ hSw 2 rfl).cell 1; go_simp; try with_reducible rfl)
  try simp only [Act.put, List.setIfInBounds_toArray, List.set_cons_zero, List.set_cons_succ]
  refine wpAnyH_take (i := 46) (oi := Oper.mk (some 143) _ _ _ _ _) (v := ?_) rfl (by kernel_rfl) (by kernel_rfl) (by kernel_rfl) (fun _ _ _ h => h) (Or.inl ⟨by rfl, ?_⟩) (by assumption) ?_
  rotate_left
  · (intro w' hSw; (try dsimp only at hSw); have a0 : w'.cell? ⟨w.heap.size, 0, none⟩ = some (.bool na) := (Env.at_ hSw 2 rfl).cell 0; have a1 : w'.cell? ⟨w.heap.size, 1, none⟩ = some (.string sa) := (Env.at_ hSw 2 rfl).cell 1; go_simp; try with_reducible rfl)
  try simp only [Act.put, List.setIfInBounds_toArray, List.set_cons_zero, List.set_cons_succ]
  refine wpAnyH_ready (rs := [45]) (by kernel_rfl) (by simp) ?_
  refine AllReadyH.cons (o := Oper.mk (some 142) _ _ _ _ _) rfl (fun K hK => ?_) AllReadyH.nil
  go_simp
  refine (H45.out _).mono ?_
  rintro e w28 ⟨rfl, h28⟩
  have hNext := hHeld.call h28
  refine hK.out _ _ hNext (fun _ => ?_)
  clear hK K hHeld h28
  have hHeld := hNext
  clear hNext
  try simp only [Act.put, List.setIfInBounds_toArray, List.set_cons_zero, List.set_cons_succ]
  refine wpAnyH_ready (rs := [47]) (by kernel_rfl) (by simp) ?_
  refine AllReadyH.cons (o := Oper.mk (some 144) _ _ _ _ _) rfl (fun K hK => ?_) AllReadyH.nil
  go_simp
  refine (R50.out _).mono ?_
  rintro e w29 ⟨rfl, h29⟩
  have hNext := hHeld.call h29
  refine hK.out _ _ hNext (fun _ => ?_)
  clear hK K hHeld h29
  have hHeld := hNext
  clear hNext
  try simp only [Act.put, List.setIfInBounds_toArray, List.set_cons_zero, List.set_cons_succ]
  refine wpAnyH_take (i := 48) (oi := Oper.mk (some 145) _ _ _ _ _) (v := ?_) rfl (by kernel_rfl) (by kernel_rfl) (by kernel_rfl) (fun _ _ _ h => h) (Or.inl ⟨by rfl, ?_⟩) (by assumption) ?_
  rotate_left
  · (intro w' hSw; (try dsimp only at hSw); go_simp; try with_reducible rfl)
  try simp only [Act.put, List.setIfInBounds_toArray, List.set_cons_zero, List.set_cons_succ]
  refine wpAnyH_take (i := 49) (oi := Oper.mk (some 146) _ _ _ _ _) (v := ?_) rfl (by kernel_rfl) (by kernel_rfl) (by kernel_rfl) (fun _ _ _ h => h) (Or.inl ⟨by rfl, ?_⟩) (by assumption) ?_
  rotate_left
  · (intro w' hSw; (try dsimp only at hSw); go_simp; try with_reducible rfl)
  try simp only [Act.put, List.setIfInBounds_toArray, List.set_cons_zero, List.set_cons_succ]
  refine wpAnyH_done (by kernel_rfl) ?_ _
  refine NoPanic.normal ?_
  have E30 := Lib.hid hHeld
  clear hHeld
  go_upto_region 15 with fail
  go_wp2_with fail
  refine (HN.out _ 2).mono ?_
  rintro e w31 ⟨rfl, h31⟩
  subst h31
  have E32 := Lib.hid (E30.out)
  go_wp2_with fail
  refine (HW.out _).mono ?_
  rintro e w33 ⟨rfl, h33⟩
  have E34 := Lib.hid (E32.out.call h33)
  clear h33
  go_wp2_with fail
  go_ret
  exact ⟨rfl, E34.out.1⟩
set_option maxRecDepth 100000 in
set_option maxHeartbeats 8000000 in
theorem tells_out_pos {w : World} {na : Bool} {sa : ByteArray} {i : Nat} {n : Int} (hi : i ≤ 9223372036854775807) (hb : isBad (na, sa) = false) (hm : MayL na sa.data.toList) (hr : ¬ Ranged (num (na, sa))) (hn1 : -9223372036854775808 ≤ n) (hn2 : n ≤ 9223372036854775807) :
    Calls Try.prog 7 #[.agg #[.bool na, .string sa], .int .i64 (i : Int), .int .i64 n] w (fun e w' => e = .returned (.bool true) ∧ Below w.heap.size w w') := by
  obtain ⟨so, bo, eo⟩ : ∃ s b, enc n = .agg #[.bool s, .string b] := ⟨_, _, rfl⟩
  have HO := Lib.hid (fun W : World => calm_eq (of64_any (w := W) hn1 hn2) eo)
  have RO := Lib.hid (fun W : World => calm_eq (rOf_any (w := W) hn1 hn2) eo)
  clear hn1 hn2 eo
  have HB := Lib.hid (fun W : World => bad_one (w := W) (na := na) (sa := sa))
  rw [hb] at HB
  clear hb
  have Fa := Fmd.of_may hm
  have Sx : SB 131072 (num (na, sa)) := by have h := may_sb (n := na) (s := sa) (k := 16384) (by have hl : sa.data.toList.length = sa.size := Array.length_toList; have := hm.1; omega); exact h
  have fk : fits (-num (na, sa)) := Sx.neg.fits (Nat.le_refl _)
  obtain ⟨sk, bk, ek, nk, mk⟩ := enc_form fk
  have fc : fits (((num (na, sa)).natAbs : Int)) := (Sx.le (by rw [Int.natAbs_natCast]; exact Nat.le_refl _)).fits (Nat.le_refl _)
  obtain ⟨sc, bc, ec, nc, mc⟩ := enc_form fc
  have H37 := Lib.hid (fun W : World => neg_told (w := W) hm rfl fk ek)
  have H38 := Lib.hid (fun W : World => abs_told (w := W) hm rfl fc ec)
  have H39 := Lib.hid (fun W : World => small_out (w := W) hm hr)
  have H40 := Lib.hid (fun W : World => bit_told (w := W) (i := i) hi hm)
  have H43 := Lib.hid (fun W : World => check_ok (w := W) hm)
  have R46 := Lib.hid (fun W : World => rsmall_out (w := W) (na := na) Fa hr)
  have R47 := Lib.hid (fun W : World => calm_eq (rneg_any (w := W) (n := na) Fa) ek)
  have R48 := Lib.hid (fun W : World => calm_eq (rabs_any (w := W) (n := na) Fa) ec)
  have H44 := Lib.hid (fun W : World => sign_told (w := W) hm)
  have R49 := Lib.hid (fun W : World => rsign_any (w := W) (n := na) Fa)
  have H45 := Lib.hid (fun W : World => bits_told (w := W) hm)
  have R50 := Lib.hid (fun W : World => rBits_any (w := W) (na := na) Fa)
  have R51 := Lib.hid (fun W : World => rBit_any (w := W) (na := na) (i := i) Fa hi)
  generalize ((bl (num (na, sa)).natAbs : Nat) : Int) = zl at H45 R50
  generalize sg (num (na, sa)) = zs at H44 R49
  generalize (((num (na, sa)).natAbs / 2 ^ i % 2 : Nat) : Int) = zb at H40 R51
  clear hm hr Fa Sx fk ek nk mk fc ec nc mc
  have HW := Lib.hid (fun W : World => works_any (w := W))
  have HN := Lib.hid (fun (W : World) (n : Int) => num_any (w := W) (n := n))
  have E0 := Lib.hid (Env.nil w)
  go_enter Try.func7, Try.ntmps7
  go_upto_region 0 with fail
  go_upto_region 1 with fail
  have E1 : Hid (Env w (w.alloc (.cells #[.bool na, .string sa] 26)) [(w.heap.size, 26, #[.bool na, .string sa])]) := Lib.hid (by have h := (Env.new E0.out 26 #[.bool na, .string sa]); (try simp only [World.size_alloc] at h); exact h)
  generalize (w.alloc (.cells #[.bool na, .string sa] 26)) = W1 at E1 ⊢
  have q0_0 : W1.cell? ⟨w.heap.size, 0, none⟩ = some (.bool na) := (Env.at_ E1.out 0 rfl).cell 0
  have q0_1 : W1.cell? ⟨w.heap.size, 1, none⟩ = some (.string sa) := (Env.at_ E1.out 0 rfl).cell 1
  go_wp2_with fail
  refine (H37.out _).mono ?_
  rintro e w2 ⟨rfl, h2⟩
  have E3 := Lib.hid (E1.out.call h2)
  clear q0_0 q0_1 h2
  go_upto_region 2 with fail
  have E4 : Hid (Env w (w2.alloc (.cells #[.bool sk, .string bk] 26)) [(w2.heap.size, 26, #[.bool sk, .string bk]), (w.heap.size, 26, #[.bool na, .string sa])]) := Lib.hid (by have h := (Env.new E3.out 26 #[.bool sk, .string bk]); (try simp only [World.size_alloc] at h); exact h)
  generalize (w2.alloc (.cells #[.bool sk, .string bk] 26)) = W4 at E4 ⊢
  have q0_0 : W4.cell? ⟨w.heap.size, 0, none⟩ = some (.bool na) := (Env.at_ E4.out 1 rfl).cell 0
  have q0_1 : W4.cell? ⟨w.heap.size, 1, none⟩ = some (.string sa) := (Env.at_ E4.out 1 rfl).cell 1
  go_wp2_with fail
  refine (H38.out _).mono ?_
  rintro e w5 ⟨rfl, h5⟩
  have E6 := Lib.hid (E4.out.call h5)
  clear q0_0 q0_1 h5
  go_upto_region 3 with fail
  have E7 : Hid (Env w (w5.alloc (.cells #[.bool sc, .string bc] 26)) [(w5.heap.size, 26, #[.bool sc, .string bc]), (w2.heap.size, 26, #[.bool sk, .string bk]), (w.heap.size, 26, #[.bool na, .string sa])]) := Lib.hid (by have h := (Env.new E6.out 26 #[.bool sc, .string bc]); (try simp only [World.size_alloc] at h); exact h)
  generalize (w5.alloc (.cells #[.bool sc, .string bc] 26)) = W7 at E7 ⊢
  have q0_0 : W7.cell? ⟨w.heap.size, 0, none⟩ = some (.bool na) := (Env.at_ E7.out 2 rfl).cell 0
  have q0_1 : W7.cell? ⟨w.heap.size, 1, none⟩ = some (.string sa) := (Env.at_ E7.out 2 rfl).cell 1
  go_wp2_with fail
  refine (H39.out _).mono ?_
  rintro e w8 ⟨rfl, h8⟩
  have E9 := Lib.hid (E7.out.call h8)
  clear q0_0 q0_1 h8
  go_upto_region 4 with fail
  have q0_0 : w8.cell? ⟨w.heap.size, 0, none⟩ = some (.bool na) := (Env.at_ E9.out 2 rfl).cell 0
  have q0_1 : w8.cell? ⟨w.heap.size, 1, none⟩ = some (.string sa) := (Env.at_ E9.out 2 rfl).cell 1
  go_wp2_with fail
  refine (H40.out _).mono ?_
  rintro e w10 ⟨rfl, h10⟩
  have E11 := Lib.hid (E9.out.call h10)
  clear q0_0 q0_1 h10
  go_upto_region 5 with fail
  go_wp2_with fail
  refine (HO.out _).mono ?_
  rintro e w12 ⟨rfl, h12⟩
  have E13 := Lib.hid (E11.out.call h12)
  clear h12
  go_wp2_with fail
  refine (RO.out _).mono ?_
  rintro e w14 ⟨rfl, h14⟩
  have E15 := Lib.hid (E13.out.call h14)
  clear h14
  go_upto_region 7 with fail
  have q0_0 : w14.cell? ⟨w.heap.size, 0, none⟩ = some (.bool na) := (Env.at_ E15.out 2 rfl).cell 0
  have q0_1 : w14.cell? ⟨w.heap.size, 1, none⟩ = some (.string sa) := (Env.at_ E15.out 2 rfl).cell 1
  go_wp2_with fail
  refine (HB.out _).mono ?_
  rintro e w16 ⟨rfl, h16⟩
  have E17 := Lib.hid ((Env.other E15.out (.cells #[.bool na, .string sa] 26)).call h16)
  clear q0_0 q0_1 h16
  go_upto_region 9 with fail
  have q0_0 : w16.cell? ⟨w.heap.size, 0, none⟩ = some (.bool na) := (Env.at_ E17.out 2 rfl).cell 0
  have q0_1 : w16.cell? ⟨w.heap.size, 1, none⟩ = some (.string sa) := (Env.at_ E17.out 2 rfl).cell 1
  go_wp2_with fail
  refine (R46.out _).mono ?_
  rintro e w18 ⟨y, rfl, h18⟩
  have E19 := Lib.hid (E17.out.call h18)
  clear q0_0 q0_1 h18
  go_upto_region 12 with fail
  skip
  refine wp_region_noPanic ?_
  refine wp_region_held_drew (S := fun w' => Env w w' [(w5.heap.size, 26, #[.bool sc, .string bc]), (w2.heap.size, 26, #[.bool sk, .string bk]), (w.heap.size, 26, #[.bool na, .string sa])]) (by kernel_rfl) (Env.drew E19.out) (fun hHeld => ?_)
  refine wpAnyH_take (i := 0) (oi := Oper.mk (some 97) _ _ _ _ _) (v := ?_) rfl (by kernel_rfl) (by kernel_rfl) (by kernel_rfl) (fun _ _ _ h => h) (Or.inl ⟨by rfl, ?_⟩) (by assumption) ?_
  rotate_left
  · (intro w' hSw; (try dsimp only at hSw); have a0 : w'.cell? ⟨w.heap.size, 0, none⟩ = some (.bool na) := (Env.at_ hSw 2 rfl).cell 0; have a1 : w'.cell? ⟨w.heap.size, 1, none⟩ = some (.string sa) := (Env.at_ hSw 2 rfl).cell 1; go_simp; try with_reducible rfl)
  try simp only [Act.put, List.setIfInBounds_toArray, List.set_cons_zero, List.set_cons_succ]
  refine wpAnyH_ready (rs := [1]) (by kernel_rfl) (by simp) ?_
  refine AllReadyH.cons (o := Oper.mk (some 98) _ _ _ _ _) rfl (fun K hK => ?_) AllReadyH.nil
  go_simp
  refine (H43.out _).mono ?_
  rintro e w20 ⟨rfl, h20⟩
  have hNext := hHeld.call h20
  refine hK.out _ _ hNext (fun _ => ?_)
  clear hK K hHeld h20
  have hHeld := hNext
  clear hNext
  try simp only [Act.put, List.setIfInBounds_toArray, List.set_cons_zero, List.set_cons_succ]
  refine wpAnyH_ready (rs := [2]) (by kernel_rfl) (by simp) ?_
  refine AllReadyH.cons (o := Oper.mk (some 99) _ _ _ _ _) rfl (fun K hK => ?_) AllReadyH.nil
  go_simp
  refine (HN.out _ 0).mono ?_
  rintro e w21 ⟨rfl, h21⟩
  subst h21
  have hNext := hHeld
  refine hK.out _ _ hNext (fun _ => ?_)
  clear hK K hHeld
  have hHeld := hNext
  clear hNext
  try simp only [Act.put, List.setIfInBounds_toArray, List.set_cons_zero, List.set_cons_succ]
  refine wpAnyH_take (i := 3) (oi := Oper.mk (some 100) _ _ _ _ _) (v := ?_) rfl (by kernel_rfl) (by kernel_rfl) (by kernel_rfl) (fun _ _ _ h => h) (Or.inl ⟨by rfl, ?_⟩) (by assumption) ?_
  rotate_left
  · (intro w' hSw; (try dsimp only at hSw); go_simp; try with_reducible rfl)
  try simp only [Act.put, List.setIfInBounds_toArray, List.set_cons_zero, List.set_cons_succ]
  refine wpAnyH_take (i := 4) (oi := Oper.mk (some 101) _ _ _ _ _) (v := ?_) rfl (by kernel_rfl) (by kernel_rfl) (by kernel_rfl) (fun _ _ _ h => h) (Or.inl ⟨by rfl, ?_⟩) (by assumption) ?_
  rotate_left
  · (intro w' hSw; (try dsimp only at hSw); go_simp; try with_reducible rfl)
  try simp only [Act.put, List.setIfInBounds_toArray, List.set_cons_zero, List.set_cons_succ]
  refine wpAnyH_take (i := 5) (oi := Oper.mk (some 102) _ _ _ _ _) (v := ?_) rfl (by kernel_rfl) (by kernel_rfl) (by kernel_rfl) (fun _ _ _ h => h) (Or.inl ⟨by rfl, ?_⟩) (by assumption) ?_
  rotate_left
  · (intro w' hSw; (try dsimp only at hSw); have a0 : w'.cell? ⟨w2.heap.size, 0, none⟩ = some (.bool sk) := (Env.at_ hSw 1 rfl).cell 0; have a1 : w'.cell? ⟨w2.heap.size, 1, none⟩ = some (.string bk) := (Env.at_ hSw 1 rfl).cell 1; go_simp; try with_reducible rfl)
  try simp only [Act.put, List.setIfInBounds_toArray, List.set_cons_zero, List.set_cons_succ]
  refine wpAnyH_take (i := 6) (oi := Oper.mk (some 103) _ _ _ _ _) (v := ?_) rfl (by kernel_rfl) (by kernel_rfl) (by kernel_rfl) (fun _ _ _ h => h) (Or.inl ⟨by rfl, ?_⟩) (by assumption) ?_
  rotate_left
  · (intro w' hSw; (try dsimp only at hSw); have a0 : w'.cell? ⟨w.heap.size, 0, none⟩ = some (.bool na) := (Env.at_ hSw 2 rfl).cell 0; have a1 : w'.cell? ⟨w.heap.size, 1, none⟩ = some (.string sa) := (Env.at_ hSw 2 rfl).cell 1; go_simp; try with_reducible rfl)
  try simp only [Act.put, List.setIfInBounds_toArray, List.set_cons_zero, List.set_cons_succ]
  refine wpAnyH_ready (rs := [7]) (by kernel_rfl) (by simp) ?_
  refine AllReadyH.cons (o := Oper.mk (some 104) _ _ _ _ _) rfl (fun K hK => ?_) AllReadyH.nil
  go_simp
  refine (R47.out _).mono ?_
  rintro e w22 ⟨rfl, h22⟩
  have hNext := hHeld.call h22
  refine hK.out _ _ hNext (fun _ => ?_)
  clear hK K hHeld h22
  have hHeld := hNext
  clear hNext
  try simp only [Act.put, List.setIfInBounds_toArray, List.set_cons_zero, List.set_cons_succ]
  refine wpAnyH_take (i := 8) (oi := Oper.mk (some 105) _ _ _ _ _) (v := ?_) rfl (by kernel_rfl) (by kernel_rfl) (by kernel_rfl) (fun _ _ _ h => h) (Or.inl ⟨by rfl, ?_⟩) (by assumption) ?_
  rotate_left
  · (intro w' hSw; (try dsimp only at hSw); go_simp; try with_reducible rfl)
  try simp only [Act.put, List.setIfInBounds_toArray, List.set_cons_zero, List.set_cons_succ]
  refine wpAnyH_take (i := 9) (oi := Oper.mk (some 106) _ _ _ _ _) (v := ?_) rfl (by kernel_rfl) (by kernel_rfl) (by kernel_rfl) (fun _ _ _ h => h) (Or.inl ⟨by rfl, ?_⟩) (by assumption) ?_
  rotate_left
  · (intro w' hSw; (try dsimp only at hSw); go_simp; try with_reducible rfl)
  try simp only [Act.put, List.setIfInBounds_toArray, List.set_cons_zero, List.set_cons_succ]
  refine wpAnyH_take (i := 10) (oi := Oper.mk (some 107) _ _ _ _ _) (v := ?_) rfl (by kernel_rfl) (by kernel_rfl) (by kernel_rfl) (fun _ _ _ h => h) (Or.inl ⟨by rfl, ?_⟩) (by assumption) ?_
  rotate_left
  · (intro w' hSw; (try dsimp only at hSw); go_simp; try with_reducible rfl)
  try simp only [Act.put, List.setIfInBounds_toArray, List.set_cons_zero, List.set_cons_succ]
  refine wpAnyH_take (i := 11) (oi := Oper.mk (some 108) _ _ _ _ _) (v := ?_) rfl (by kernel_rfl) (by kernel_rfl) (by kernel_rfl) (fun _ _ _ h => h) (Or.inl ⟨by rfl, ?_⟩) (by assumption) ?_
  rotate_left
  · (intro w' hSw; (try dsimp only at hSw); go_simp; try with_reducible rfl)
  try simp only [Act.put, List.setIfInBounds_toArray, List.set_cons_zero, List.set_cons_succ]
  refine wpAnyH_ready (rs := [12]) (by kernel_rfl) (by simp) ?_
  refine AllReadyH.cons (o := Oper.mk (some 109) _ _ _ _ _) rfl (fun K hK => ?_) AllReadyH.nil
  go_simp
  refine (HN.out _ 0).mono ?_
  rintro e w23 ⟨rfl, h23⟩
  subst h23
  have hNext := hHeld
  refine hK.out _ _ hNext (fun _ => ?_)
  clear hK K hHeld
  have hHeld := hNext
  clear hNext
  try simp only [Act.put, List.setIfInBounds_toArray, List.set_cons_zero, List.set_cons_succ]
  refine wpAnyH_take (i := 13) (oi := Oper.mk (some 110) _ _ _ _ _) (v := ?_) rfl (by kernel_rfl) (by kernel_rfl) (by kernel_rfl) (fun _ _ _ h => h) (Or.inl ⟨by rfl, ?_⟩) (by assumption) ?_
  rotate_left
  · (intro w' hSw; (try dsimp only at hSw); go_simp; try with_reducible rfl)
  try simp only [Act.put, List.setIfInBounds_toArray, List.set_cons_zero, List.set_cons_succ]
  refine wpAnyH_take (i := 14) (oi := Oper.mk (some 111) _ _ _ _ _) (v := ?_) rfl (by kernel_rfl) (by kernel_rfl) (by kernel_rfl) (fun _ _ _ h => h) (Or.inl ⟨by rfl, ?_⟩) (by assumption) ?_
  rotate_left
  · (intro w' hSw; (try dsimp only at hSw); go_simp; try with_reducible rfl)
  try simp only [Act.put, List.setIfInBounds_toArray, List.set_cons_zero, List.set_cons_succ]
  refine wpAnyH_take (i := 15) (oi := Oper.mk (some 112) _ _ _ _ _) (v := ?_) rfl (by kernel_rfl) (by kernel_rfl) (by kernel_rfl) (fun _ _ _ h => h) (Or.inl ⟨by rfl, ?_⟩) (by assumption) ?_
  rotate_left
  · (intro w' hSw; (try dsimp only at hSw); go_simp; try with_reducible rfl)
  try simp only [Act.put, List.setIfInBounds_toArray, List.set_cons_zero, List.set_cons_succ]
  refine wpAnyH_take (i := 16) (oi := Oper.mk (some 113) _ _ _ _ _) (v := ?_) rfl (by kernel_rfl) (by kernel_rfl) (by kernel_rfl) (fun _ _ _ h => h) (Or.inl ⟨by rfl, ?_⟩) (by assumption) ?_
  rotate_left
  · (intro w' hSw; (try dsimp only at hSw); have a0 : w'.cell? ⟨w5.heap.size, 0, none⟩ = some (.bool sc) := (Env.at_ hSw 0 rfl).cell 0; have a1 : w'.cell? ⟨w5.heap.size, 1, none⟩ = some (.string bc) := (Env.at_ hSw 0 rfl).cell 1; go_simp; try with_reducible rfl)
  try simp only [Act.put, List.setIfInBounds_toArray, List.set_cons_zero, List.set_cons_succ]
  refine wpAnyH_take (i := 17) (oi := Oper.mk (some 114) _ _ _ _ _) (v := ?_) rfl (by kernel_rfl) (by kernel_rfl) (by kernel_rfl) (fun _ _ _ h => h) (Or.inl ⟨by rfl, ?_⟩) (by assumption) ?_
  rotate_left
  · (intro w' hSw; (try dsimp only at hSw); have a0 : w'.cell? ⟨w.heap.size, 0, none⟩ = some (.bool na) := (Env.at_ hSw 2 rfl).cell 0; have a1 : w'.cell? ⟨w.heap.size, 1, none⟩ = some (.string sa) := (Env.at_ hSw 2 rfl).cell 1; go_simp; try with_reducible rfl)
  try simp only [Act.put, List.setIfInBounds_toArray, List.set_cons_zero, List.set_cons_succ]
  refine wpAnyH_ready (rs := [18]) (by kernel_rfl) (by simp) ?_
  refine AllReadyH.cons (o := Oper.mk (some 115) _ _ _ _ _) rfl (fun K hK => ?_) AllReadyH.nil
  go_simp
  refine (R48.out _).mono ?_
  rintro e w24 ⟨rfl, h24⟩
  have hNext := hHeld.call h24
  refine hK.out _ _ hNext (fun _ => ?_)
  clear hK K hHeld h24
  have hHeld := hNext
  clear hNext
  try simp only [Act.put, List.setIfInBounds_toArray, List.set_cons_zero, List.set_cons_succ]
  refine wpAnyH_take (i := 19) (oi := Oper.mk (some 116) _ _ _ _ _) (v := ?_) rfl (by kernel_rfl) (by kernel_rfl) (by kernel_rfl) (fun _ _ _ h => h) (Or.inl ⟨by rfl, ?_⟩) (by assumption) ?_
  rotate_left
  · (intro w' hSw; (try dsimp only at hSw); go_simp; try with_reducible rfl)
  try simp only [Act.put, List.setIfInBounds_toArray, List.set_cons_zero, List.set_cons_succ]
  refine wpAnyH_take (i := 20) (oi := Oper.mk (some 117) _ _ _ _ _) (v := ?_) rfl (by kernel_rfl) (by kernel_rfl) (by kernel_rfl) (fun _ _ _ h => h) (Or.inl ⟨by rfl, ?_⟩) (by assumption) ?_
  rotate_left
  · (intro w' hSw; (try dsimp only at hSw); go_simp; try with_reducible rfl)
  try simp only [Act.put, List.setIfInBounds_toArray, List.set_cons_zero, List.set_cons_succ]
  refine wpAnyH_take (i := 21) (oi := Oper.mk (some 118) _ _ _ _ _) (v := ?_) rfl (by kernel_rfl) (by kernel_rfl) (by kernel_rfl) (fun _ _ _ h => h) (Or.inl ⟨by rfl, ?_⟩) (by assumption) ?_
  rotate_left
  · (intro w' hSw; (try dsimp only at hSw); go_simp; try with_reducible rfl)
  try simp only [Act.put, List.setIfInBounds_toArray, List.set_cons_zero, List.set_cons_succ]
  refine wpAnyH_take (i := 22) (oi := Oper.mk (some 119) _ _ _ _ _) (v := ?_) rfl (by kernel_rfl) (by kernel_rfl) (by kernel_rfl) (fun _ _ _ h => h) (Or.inl ⟨by rfl, ?_⟩) (by assumption) ?_
  rotate_left
  · (intro w' hSw; (try dsimp only at hSw); go_simp; try with_reducible rfl)
  try simp only [Act.put, List.setIfInBounds_toArray, List.set_cons_zero, List.set_cons_succ]
  refine wpAnyH_ready (rs := [23]) (by kernel_rfl) (by simp) ?_
  refine AllReadyH.cons (o := Oper.mk (some 120) _ _ _ _ _) rfl (fun K hK => ?_) AllReadyH.nil
  go_simp
  refine (HN.out _ 0).mono ?_
  rintro e w25 ⟨rfl, h25⟩
  subst h25
  have hNext := hHeld
  refine hK.out _ _ hNext (fun _ => ?_)
  clear hK K hHeld
  have hHeld := hNext
  clear hNext
  try simp only [Act.put, List.setIfInBounds_toArray, List.set_cons_zero, List.set_cons_succ]
  refine wpAnyH_take (i := 24) (oi := Oper.mk (some 121) _ _ _ _ _) (v := ?_) rfl (by kernel_rfl) (by kernel_rfl) (by kernel_rfl) (fun _ _ _ h => h) (Or.inl ⟨by rfl, ?_⟩) (by assumption) ?_
  rotate_left
  · (intro w' hSw; (try dsimp only at hSw); go_simp; try with_reducible rfl)
  try simp only [Act.put, List.setIfInBounds_toArray, List.set_cons_zero, List.set_cons_succ]
  refine wpAnyH_take (i := 25) (oi := Oper.mk (some 122) _ _ _ _ _) (v := ?_) rfl (by kernel_rfl) (by kernel_rfl) (by kernel_rfl) (fun _ _ _ h => h) (Or.inl ⟨by rfl, ?_⟩) (by assumption) ?_
  rotate_left
  · (intro w' hSw; (try dsimp only at hSw); go_simp; try with_reducible rfl)
  try simp only [Act.put, List.setIfInBounds_toArray, List.set_cons_zero, List.set_cons_succ]
  refine wpAnyH_take (i := 26) (oi := Oper.mk (some 123) _ _ _ _ _) (v := ?_) rfl (by kernel_rfl) (by kernel_rfl) (by kernel_rfl) (fun _ _ _ h => h) (Or.inl ⟨by rfl, ?_⟩) (by assumption) ?_
  rotate_left
  · (intro w' hSw; (try dsimp only at hSw); go_simp; try with_reducible rfl)
  try simp only [Act.put, List.setIfInBounds_toArray, List.set_cons_zero, List.set_cons_succ]
  refine wpAnyH_take (i := 27) (oi := Oper.mk (some 124) _ _ _ _ _) (v := ?_) rfl (by kernel_rfl) (by kernel_rfl) (by kernel_rfl) (fun _ _ _ h => h) (Or.inl ⟨by rfl, ?_⟩) (by assumption) ?_
  rotate_left
  · (intro w' hSw; (try dsimp only at hSw); go_simp; try with_reducible rfl)
  try simp only [Act.put, List.setIfInBounds_toArray, List.set_cons_zero, List.set_cons_succ]
  refine wpAnyH_take (i := 28) (oi := Oper.mk (some 125) _ _ _ _ _) (v := ?_) rfl (by kernel_rfl) (by kernel_rfl) (by kernel_rfl) (fun _ _ _ h => h) (Or.inl ⟨by rfl, ?_⟩) (by assumption) ?_
  rotate_left
  · (intro w' hSw; (try dsimp only at hSw); go_simp; try with_reducible rfl)
  try simp only [Act.put, List.setIfInBounds_toArray, List.set_cons_zero, List.set_cons_succ]
  refine wpAnyH_take (i := 29) (oi := Oper.mk (some 126) _ _ _ _ _) (v := ?_) rfl (by kernel_rfl) (by kernel_rfl) (by kernel_rfl) (fun _ _ _ h => h) (Or.inl ⟨by rfl, ?_⟩) (by assumption) ?_
  rotate_left
  · (intro w' hSw; (try dsimp only at hSw); go_simp; try with_reducible rfl)
  try simp only [Act.put, List.setIfInBounds_toArray, List.set_cons_zero, List.set_cons_succ]
  refine wpAnyH_take (i := 30) (oi := Oper.mk (some 127) _ _ _ _ _) (v := ?_) rfl (by kernel_rfl) (by kernel_rfl) (by kernel_rfl) (fun _ _ _ h => h) (Or.inl ⟨by rfl, ?_⟩) (by assumption) ?_
  rotate_left
  · (intro w' hSw; (try dsimp only at hSw); go_simp; try with_reducible rfl)
  try simp only [Act.put, List.setIfInBounds_toArray, List.set_cons_zero, List.set_cons_succ]
  refine wpAnyH_take (i := 31) (oi := Oper.mk (some 128) _ _ _ _ _) (v := ?_) rfl (by kernel_rfl) (by kernel_rfl) (by kernel_rfl) (fun _ _ _ h => h) (Or.inl ⟨by rfl, ?_⟩) (by assumption) ?_
  rotate_left
  · (intro w' hSw; (try dsimp only at hSw); go_simp; try with_reducible rfl)
  try simp only [Act.put, List.setIfInBounds_toArray, List.set_cons_zero, List.set_cons_succ]
  refine wpAnyH_take (i := 32) (oi := Oper.mk (some 129) _ _ _ _ _) (v := ?_) rfl (by kernel_rfl) (by kernel_rfl) (by kernel_rfl) (fun _ _ _ h => h) (Or.inl ⟨by rfl, ?_⟩) (by assumption) ?_
  rotate_left
  · (intro w' hSw; (try dsimp only at hSw); go_simp; try with_reducible rfl)
  try simp only [Act.put, List.setIfInBounds_toArray, List.set_cons_zero, List.set_cons_succ]
  refine wpAnyH_take (i := 33) (oi := Oper.mk (some 130) _ _ _ _ _) (v := ?_) rfl (by kernel_rfl) (by kernel_rfl) (by kernel_rfl) (fun _ _ _ h => h) (Or.inl ⟨by rfl, ?_⟩) (by assumption) ?_
  rotate_left
  · (intro w' hSw; (try dsimp only at hSw); go_simp; try with_reducible rfl)
  try simp only [Act.put, List.setIfInBounds_toArray, List.set_cons_zero, List.set_cons_succ]
  refine wpAnyH_take (i := 34) (oi := Oper.mk (some 131) _ _ _ _ _) (v := ?_) rfl (by kernel_rfl) (by kernel_rfl) (by kernel_rfl) (fun _ _ _ h => h) (Or.inl ⟨by rfl, ?_⟩) (by assumption) ?_
  rotate_left
  · (intro w' hSw; (try dsimp only at hSw); go_simp; try with_reducible rfl)
  try simp only [Act.put, List.setIfInBounds_toArray, List.set_cons_zero, List.set_cons_succ]
  refine wpAnyH_take (i := 35) (oi := Oper.mk (some 132) _ _ _ _ _) (v := ?_) rfl (by kernel_rfl) (by kernel_rfl) (by kernel_rfl) (fun _ _ _ h => h) (Or.inl ⟨by rfl, ?_⟩) (by assumption) ?_
  rotate_left
  · (intro w' hSw; (try dsimp only at hSw); go_simp; try with_reducible rfl)
  try simp only [Act.put, List.setIfInBounds_toArray, List.set_cons_zero, List.set_cons_succ]
  refine wpAnyH_take (i := 36) (oi := Oper.mk (some 133) _ _ _ _ _) (v := ?_) rfl (by kernel_rfl) (by kernel_rfl) (by kernel_rfl) (fun _ _ _ h => h) (Or.inl ⟨by rfl, ?_⟩) (by assumption) ?_
  rotate_left
  · (intro w' hSw; (try dsimp only at hSw); go_simp; try with_reducible rfl)
  try simp only [Act.put, List.setIfInBounds_toArray, List.set_cons_zero, List.set_cons_succ]
  refine wpAnyH_take (i := 37) (oi := Oper.mk (some 134) _ _ _ _ _) (v := ?_) rfl (by kernel_rfl) (by kernel_rfl) (by kernel_rfl) (fun _ _ _ h => h) (Or.inl ⟨by rfl, ?_⟩) (by assumption) ?_
  rotate_left
  · (intro w' hSw; (try dsimp only at hSw); have a0 : w'.cell? ⟨w.heap.size, 0, none⟩ = some (.bool na) := (Env.at_ hSw 2 rfl).cell 0; have a1 : w'.cell? ⟨w.heap.size, 1, none⟩ = some (.string sa) := (Env.at_ hSw 2 rfl).cell 1; go_simp; try with_reducible rfl)
  try simp only [Act.put, List.setIfInBounds_toArray, List.set_cons_zero, List.set_cons_succ]
  refine wpAnyH_take (i := 39) (oi := Oper.mk (some 136) _ _ _ _ _) (v := ?_) rfl (by kernel_rfl) (by kernel_rfl) (by kernel_rfl) (fun _ _ _ h => h) (Or.inl ⟨by rfl, ?_⟩) (by assumption) ?_
  rotate_left
  · (intro w' hSw; (try dsimp only at hSw); have a0 : w'.cell? ⟨w.heap.size, 0, none⟩ = some (.bool na) := (Env.at_ hSw 2 rfl).cell 0; have a1 : w'.cell? ⟨w.heap.size, 1, none⟩ = some (.string sa) := (Env.at_ hSw 2 rfl).cell 1; go_simp; try with_reducible rfl)
  try simp only [Act.put, List.setIfInBounds_toArray, List.set_cons_zero, List.set_cons_succ]
  refine wpAnyH_ready (rs := [38]) (by kernel_rfl) (by simp) ?_
  refine AllReadyH.cons (o := Oper.mk (some 135) _ _ _ _ _) rfl (fun K hK => ?_) AllReadyH.nil
  go_simp
  refine (H44.out _).mono ?_
  rintro e w26 ⟨rfl, h26⟩
  have hNext := hHeld.call h26
  refine hK.out _ _ hNext (fun _ => ?_)
  clear hK K hHeld h26
  have hHeld := hNext
  clear hNext
  try simp only [Act.put, List.setIfInBounds_toArray, List.set_cons_zero, List.set_cons_succ]
  refine wpAnyH_ready (rs := [40]) (by kernel_rfl) (by simp) ?_
  refine AllReadyH.cons (o := Oper.mk (some 137) _ _ _ _ _) rfl (fun K hK => ?_) AllReadyH.nil
  go_simp
  refine (R49.out _).mono ?_
  rintro e w27 ⟨rfl, h27⟩
  have hNext := hHeld.call h27
  refine hK.out _ _ hNext (fun _ => ?_)
  clear hK K hHeld h27
  have hHeld := hNext
  clear hNext
  try simp only [Act.put, List.setIfInBounds_toArray, List.set_cons_zero, List.set_cons_succ]
  refine wpAnyH_take (i := 41) (oi := Oper.mk (some 138) _ _ _ _ _) (v := ?_) rfl (by kernel_rfl) (by kernel_rfl) (by kernel_rfl) (fun _ _ _ h => h) (Or.inl ⟨by rfl, ?_⟩) (by assumption) ?_
  rotate_left
  · (intro w' hSw; (try dsimp only at hSw); go_simp; try with_reducible rfl)
  try simp only [Act.put, List.setIfInBounds_toArray, List.set_cons_zero, List.set_cons_succ]
  refine wpAnyH_take (i := 42) (oi := Oper.mk (some 139) _ _ _ _ _) (v := ?_) rfl (by kernel_rfl) (by kernel_rfl) (by kernel_rfl) (fun _ _ _ h => h) (Or.inl ⟨by rfl, ?_⟩) (by assumption) ?_
  rotate_left
  · (intro w' hSw; (try dsimp only at hSw); go_simp; try with_reducible rfl)
  try simp only [Act.put, List.setIfInBounds_toArray, List.set_cons_zero, List.set_cons_succ]
  refine wpAnyH_take (i := 43) (oi := Oper.mk (some 140) _ _ _ _ _) (v := ?_) rfl (by kernel_rfl) (by kernel_rfl) (by kernel_rfl) (fun _ _ _ h => h) (Or.inl ⟨by rfl, ?_⟩) (by assumption) ?_
  rotate_left
  · (intro w' hSw; (try dsimp only at hSw); go_simp; try with_reducible rfl)
  try simp only [Act.put, List.setIfInBounds_toArray, List.set_cons_zero, List.set_cons_succ]
  refine wpAnyH_take (i := 44) (oi := Oper.mk (some 141) _ _ _ _ _) (v := ?_) rfl (by kernel_rfl) (by kernel_rfl) (by kernel_rfl) (fun _ _ _ h => h) (Or.inl ⟨by rfl, ?_⟩) (by assumption) ?_
  rotate_left
  · (intro w' hSw; (try dsimp only at hSw); have a0 : w'.cell? ⟨w.heap.size, 0, none⟩ = some (.bool na) := (Env.at_ hSw 2 rfl).cell 0; have a1 : w'.cell? ⟨w.heap.size, 1, none⟩ = some (.string sa) := (Env.at_ hSw 2 rfl).cell 1; go_simp; try with_reducible rfl)
  try simp only [Act.put, List.setIfInBounds_toArray, List.set_cons_zero, List.set_cons_succ]
  refine wpAnyH_take (i := 46) (oi := Oper.mk (some 143) _ _ _ _ _) (v := ?_) rfl (by kernel_rfl) (by kernel_rfl) (by kernel_rfl) (fun _ _ _ h => h) (Or.inl ⟨by rfl, ?_⟩) (by assumption) ?_
  rotate_left
  · (intro w' hSw; (try dsimp only at hSw); have a0 : w'.cell? ⟨w.heap.size, 0, none⟩ = some (.bool na) := (Env.at_ hSw 2 rfl).cell 0; have a1 : w'.cell? ⟨w.heap.size, 1, none⟩ = some (.string sa) := (Env.at_ hSw 2 rfl).cell 1; go_simp; try with_reducible rfl)
  try simp only [Act.put, List.setIfInBounds_toArray, List.set_cons_zero, List.set_cons_succ]
  refine wpAnyH_ready (rs := [45]) (by kernel_rfl) (by simp) ?_
  refine AllReadyH.cons (o := Oper.mk (some 142) _ _ _ _ _) rfl (fun K hK => ?_) AllReadyH.nil
  go_simp
  refine (H45.out _).mono ?_
  rintro e w28 ⟨rfl, h28⟩
  have hNext := hHeld.call h28
  refine hK.out _ _ hNext (fun _ => ?_)
  clear hK K hHeld h28
  have hHeld := hNext
  clear hNext
  try simp only [Act.put, List.setIfInBounds_toArray, List.set_cons_zero, List.set_cons_succ]
  refine wpAnyH_ready (rs := [47]) (by kernel_rfl) (by simp) ?_
  refine AllReadyH.cons (o := Oper.mk (some 144) _ _ _ _ _) rfl (fun K hK => ?_) AllReadyH.nil
  go_simp
  refine (R50.out _).mono ?_
  rintro e w29 ⟨rfl, h29⟩
  have hNext := hHeld.call h29
  refine hK.out _ _ hNext (fun _ => ?_)
  clear hK K hHeld h29
  have hHeld := hNext
  clear hNext
  try simp only [Act.put, List.setIfInBounds_toArray, List.set_cons_zero, List.set_cons_succ]
  refine wpAnyH_take (i := 48) (oi := Oper.mk (some 145) _ _ _ _ _) (v := ?_) rfl (by kernel_rfl) (by kernel_rfl) (by kernel_rfl) (fun _ _ _ h => h) (Or.inl ⟨by rfl, ?_⟩) (by assumption) ?_
  rotate_left
  · (intro w' hSw; (try dsimp only at hSw); go_simp; try with_reducible rfl)
  try simp only [Act.put, List.setIfInBounds_toArray, List.set_cons_zero, List.set_cons_succ]
  refine wpAnyH_take (i := 49) (oi := Oper.mk (some 146) _ _ _ _ _) (v := ?_) rfl (by kernel_rfl) (by kernel_rfl) (by kernel_rfl) (fun _ _ _ h => h) (Or.inl ⟨by rfl, ?_⟩) (by assumption) ?_
  rotate_left
  · (intro w' hSw; (try dsimp only at hSw); go_simp; try with_reducible rfl)
  try simp only [Act.put, List.setIfInBounds_toArray, List.set_cons_zero, List.set_cons_succ]
  refine wpAnyH_done (by kernel_rfl) ?_ _
  refine NoPanic.normal ?_
  have E30 := Lib.hid hHeld
  clear hHeld
  go_upto_region 16 with fail
  have q1_0 : w29.cell? ⟨w.heap.size, 0, none⟩ = some (.bool na) := (Env.at_ E30.out 2 rfl).cell 0
  have q1_1 : w29.cell? ⟨w.heap.size, 1, none⟩ = some (.string sa) := (Env.at_ E30.out 2 rfl).cell 1
  go_wp2_with fail
  refine (R51.out _).mono ?_
  rintro e w31 ⟨rfl, h31⟩
  have E32 := Lib.hid (E30.out.call h31)
  clear q1_0 q1_1 h31
  go_wp2_with fail
  refine (HN.out _ 0).mono ?_
  rintro e w33 ⟨rfl, h33⟩
  subst h33
  have E34 := Lib.hid (E32.out)
  go_wp2_with fail
  refine (HW.out _).mono ?_
  rintro e w35 ⟨rfl, h35⟩
  have E36 := Lib.hid (E34.out.call h35)
  clear h35
  go_wp2_with fail
  go_ret
  exact ⟨rfl, E36.out.1⟩
theorem tells_any {w : World} {na : Bool} {sa : ByteArray} {i n : Int} (hi1 : -9223372036854775808 ≤ i) (hi : i ≤ 9223372036854775807) (hn1 : -9223372036854775808 ≤ n) (hn2 : n ≤ 9223372036854775807) :
    Calls Try.prog 7 #[.agg #[.bool na, .string sa], .int .i64 i, .int .i64 n] w (fun e w' => e = .returned (.bool true) ∧ Below w.heap.size w w') := by
  by_cases hb : isBad (na, sa) = true
  · exact tells_bad hi hn1 hn2 hb (isBad_yes.1 hb)
  have hb := Bool.not_eq_true _ ▸ hb
  have hm := isBad_no.1 hb
  rcases Int.lt_or_le i 0 with h0 | h0
  · by_cases hr : Ranged (num (na, sa))
    · exact tells_in_neg hi h0 hb hm hr hn1 hn2
    · exact tells_out_neg hi h0 hb hm hr hn1 hn2
  · obtain ⟨j, rfl⟩ := Int.eq_ofNat_of_zero_le h0
    by_cases hr : Ranged (num (na, sa))
    · exact tells_in_pos (by omega) hb hm hr hn1 hn2
    · exact tells_out_pos (by omega) hb hm hr hn1 hn2
end Go.Proofs.Ytpnginnjbdedbaa

/- The frame of a law's row: what came in reads as it did. -/
namespace Go.Proofs.Ytpnginnjbdedbaa
open Go.ChangeShapes Go.WideShapes Go.ChangeAt Go.RowKit

theorem own : ownKnob Try.prog.godebug = none := by kernel_rfl

theorem trodAll_keep {H : Type} {enc : TypeId × Value → H} {P : Program} (hl : laidOutB P = true) {W W' : World} (hb : Below W.heap.size W W') {sp : Nat → Bool} :
    ∀ (ts : List TypeId) (vs : List Value) (ds : List (DataW H)) (ps : List MemPlace), DataW.TrodAll enc P W 0 (fun _ => true) true ts vs ds ps → (∀ t ∈ ts, P.readableRec t = true ∧ t < P.types.size) →
      (∀ x ∈ ps, x.block < W.heap.size) → (∀ x ∈ ps, sp x.block = true) → DataW.TrodAll enc P W' 0 sp true ts vs ds ps
  | [], vs, ds, ps, h, _, _, _ => by
    obtain ⟨rfl, rfl, rfl⟩ := trodAll_nil h
    exact trodAll_mk0
  | t :: ts, vs, ds, ps, h, ht, hlt, hsp => by
    obtain ⟨v, vs', d, ds', p, q, rfl, rfl, rfl, h0, h1⟩ := trodAll_cons h
    refine trodAll_cons_mk ?_ (trodAll_keep hl hb ts vs' ds' q h1 (fun t' h' => ht t' (List.mem_cons_of_mem _ h')) (fun x hx => hlt x (List.mem_append_right _ hx)) (fun x hx => hsp x (List.mem_append_right _ hx)))
    obtain ⟨hr, hrow⟩ := ht t List.mem_cons_self
    exact WideElems.Trod_stays hl hr hrow h0 (fun x hx => hb.same (hlt x (List.mem_append_left _ hx))) (fun x hx => hsp x (List.mem_append_left _ hx))

theorem laidOut : laidOutB Try.prog = true := by kernel_rfl

set_option maxRecDepth 100000 in
/-- the post of a law that has returned true and written nothing that was there -/
theorem law_post {H : Type} {enc : TypeId × Value → H} {f : Func} {s : ChangeSpec} {W W' : World} {args : Array Value} {ds gs : List (DataW H)} {before : List MemPlace} {bt : TypeId}
    (hW : DataW.Whole enc Try.prog f.params.toList s.vars false W args.toList ds gs before) (hb : Below W.heap.size W W') (hv : s.vars = []) (hrt : f.resultTypes = #[bt]) (hbt : Try.prog.underlying bt = some .bool)
    (hpar : ∀ t ∈ f.params.toList, Try.prog.readableRec t = true ∧ t < Try.prog.types.size)
    (hres : (s.fn H (ds ++ gs)).results = [.lit (.bool true)]) (hargs : (s.fn H (ds ++ gs)).args = ds) (hvs : (s.fn H (ds ++ gs)).vars = []) :
    s.post enc Try.prog f false true false false W args (.bool true) W' := by
  have hlt : ∀ p ∈ before, p.block < W.heap.size := fun p hp => hW.lt p hp
  have hW' := hW
  obtain ⟨p, q, hA, hV, rfl, hfz, hnd⟩ := hW
  have hq : q = [] := by
    rw [hv] at hV
    exact (trodVars_none hV).2
  subst hq
  refine post_of_below (pa := p) (pv := []) hW' (fun _ _ _ => ?_) (fun sp hsp => ?_) (fun sp hsp => ?_) rfl hb ?_
  · rw [hres, hrt]
    exact trodAll_cons_mk (shut_bool hbt _) trodAll_mk0
  · rw [hargs]
    exact trodAll_keep laidOut hb _ _ _ _ hA hpar (fun x hx => hlt x (List.mem_append_left _ hx)) (fun x hx => hsp x (List.mem_append_left _ hx))
  · rw [hv, hvs]
    rfl
  · exact ok_one hrt rfl (okWide_bool_mk hbt _)
end Go.Proofs.Ytpnginnjbdedbaa

/- Arguments opened: a whole number. -/
namespace Go.Proofs.Ytpnginnjbdedbaa.Opened
open Go.ChangeShapes Go.WideShapes Go.ChangeAt Go.RowKit

section
variable {H : Type} {enc : TypeId × Value → H} {w : World} {base fuel : Nat} {spare : Nat → Bool} {held : Bool}
theorem c26 : Try.prog.cellsOf 26 = 2 := by kernel_rfl
theorem c9 : Try.prog.cellsOf 9 = 1 := by kernel_rfl
theorem c4 : Try.prog.cellsOf 4 = 1 := by kernel_rfl
set_option maxRecDepth 100000 in
theorem open_whole {cs : List Value} {x : DataW H × List MemPlace} (h : DataW.trod enc Try.prog w base spare held fuel 26 cs = some x) :
    ∃ (b : Bool) (s : ByteArray), cs = [.bool b, .string s] ∧ x.1 = .agg [.lit (.bool b), .lit (.string s.data.toList)] := by
  obtain ⟨xs, n, _, rfl, hl, hx, hf⟩ := DataW.trod_struct Try.underlying26 h
  rw [c26] at hl
  match cs, hl, xs, hx with
  | [d0, d1], _, [x0, x1], _ =>
    have h0 : DataW.trod enc Try.prog w base spare held n 4 ((List.drop 0 [d0, d1]).take (Try.prog.cellsOf 4)) = some x0 := hf 0 _ rfl
    have h1 : DataW.trod enc Try.prog w base spare held n 9 ((List.drop 1 [d0, d1]).take (Try.prog.cellsOf 9)) = some x1 := hf 1 _ rfl
    rw [c4] at h0
    rw [c9] at h1
    obtain ⟨b, hb, hx0⟩ := DataW.trod_bool Try.underlying4 h0
    obtain ⟨s, hs, hx1, _⟩ := DataW.trod_string Try.underlying9 h1
    simp only [List.drop, List.take, List.cons.injEq, and_true] at hb hs
    subst hb hs hx0 hx1
    exact ⟨b, s, rfl, rfl⟩
set_option maxRecDepth 100000 in
/-- an argument that is a whole number -/
theorem open_arg {W : World} {b0 : Nat} {v : Value} {d : DataW H} {p : List MemPlace} {P0 : Nat → Bool} (hval : Value.okWide Try.prog W .any b0 26 v) (h : DataW.Trod enc Try.prog W 0 P0 true 26 v d p) :
    ∃ (b : Bool) (s : ByteArray), v = .agg #[.bool b, .string s] ∧ d = .agg [.lit (.bool b), .lit (.string s.data.toList)] := by
  obtain ⟨cs, rfl, hsz⟩ := okWide_struct Try.underlying26 hval
  obtain ⟨fuel, hf⟩ := h
  obtain ⟨b, s, hcs, hd⟩ := open_whole hf
  have ecs : cs = #[.bool b, .string s] := by
    have : cs.toList = _ := hcs
    rw [← Array.toArray_toList (xs := cs), this]
  exact ⟨b, s, by rw [ecs], hd⟩
end
end Go.Proofs.Ytpnginnjbdedbaa.Opened
