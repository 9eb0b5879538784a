import Derived.Test.YtpnginnjbdedbaaC2
import Derived.BigQuiet
/- *big.Int: Set, add, Mul, Lsh (printed by gen_int.py). -/
namespace Go.Proofs.Ytpnginnjbdedbaa
open Go.RowKit
open Wh
set_option linter.unusedSimpArgs false

theorem IntB.opened {w : World} {g : Nat} {z : Int} (h : IntB w g z) : ∃ s A n c, w.cell? ⟨g, 0, none⟩ = some (.bool s) ∧ w.cell? ⟨g, 1, none⟩ = some (.slice A n c) ∧ Hid (s = decide (z < 0) ∧ n = (wds z.natAbs).length) ∧ n ≤ c ∧ c ≤ 9223372036854775807 ∧ ReadsW w w.heap.size A (wds z.natAbs) := by
  obtain ⟨s, A, n, c, hb, h1, h2, h3, hr⟩ := h
  exact ⟨s, A, n, c, hb.cell 0, hb.cell 1, h1, h2, h3, hr⟩
theorem undrew {w w' : World} (h : Below w.drew.heap.size w.drew w') : Below w.heap.size w w' := ⟨h.os, h.tape, h.output, h.size, h.block⟩
theorem sgn_mul (x y : Int) : sgn (decide (x < 0) != decide (y < 0)) (x.natAbs * y.natAbs) = x * y := by
  unfold sgn
  have hx : x = x.natAbs ∨ x = -(x.natAbs : Int) := Int.natAbs_eq x
  have hy : y = y.natAbs ∨ y = -(y.natAbs : Int) := Int.natAbs_eq y
  by_cases h1 : x < 0 <;> by_cases h2 : y < 0
  · have e1 : x = -(x.natAbs : Int) := by omega
    have e2 : y = -(y.natAbs : Int) := by omega
    simp only [h1, h2, decide_true, bne_self_eq_false, Bool.false_eq_true, if_false]
    conv => rhs; rw [e1, e2, Int.neg_mul_neg]
    rw [Int.natCast_mul]
  · have e1 : x = -(x.natAbs : Int) := by omega
    have e2 : y = (y.natAbs : Int) := by omega
    simp only [h1, h2, decide_true, decide_false, Bool.bne_false, if_true]
    conv => rhs; rw [e1, e2, Int.neg_mul]
    rw [Int.natCast_mul]
  · have e1 : x = (x.natAbs : Int) := by omega
    have e2 : y = -(y.natAbs : Int) := by omega
    simp only [h1, h2, decide_true, decide_false, Bool.false_bne, if_true]
    conv => rhs; rw [e1, e2, Int.mul_neg]
    rw [Int.natCast_mul]
  · have e1 : x = (x.natAbs : Int) := by omega
    have e2 : y = (y.natAbs : Int) := by omega
    simp only [h1, h2, decide_false, bne_self_eq_false, Bool.false_eq_true, if_false]
    conv => rhs; rw [e1, e2]
    rw [Int.natCast_mul]

set_option maxRecDepth 100000 in
set_option maxHeartbeats 4000000 in
theorem mul_any {w : World} {g gx gy : Nat} {x y : Int} (hz : IntS w g) (hx : IntB w gx x) (hy : IntB w gy y) (hxl : (wds x.natAbs).length ≤ 900000000) (hyl : (wds y.natAbs).length ≤ 900000000) :
    Calls Try.prog 82 #[.pointer (some ⟨g, 0, none⟩), .pointer (some ⟨gx, 0, none⟩), .pointer (some ⟨gy, 0, none⟩)] w (Puts w g (x * y)) := by
  obtain ⟨sx, Ax, nx, cx, x0, x1, Hx, hxc, hxcl, rx⟩ := hx.opened
  obtain ⟨sy, Ay, ny, cy, y0, y1, Hy, hyc, hycl, ry⟩ := hy.opened
  have glx := hx.lt
  have gly := hy.lt
  have Hp := Lib.hid (product_any (c := cx) (d := cy) (rx.drewN 1) (ry.drewN 1) (Nat.le_refl _) Hx.out.2 Hy.out.2 (by have := Hx.out.2; omega) (by have := Hy.out.2; omega) (wd_w _) (wd_w _))
  clear rx ry hxl hyl
  go_enter Try.func82, Try.ntmps82
  go_wp2_with fail
  refine wp_region_noPanic ?_
  refine wp_region_HK (fun w' => (w'.cell? ⟨gx, 0, none⟩ = some (.bool sx) ∧ w'.cell? ⟨gx, 1, none⟩ = some (.slice Ax nx cx)) ∧ (w'.cell? ⟨gy, 0, none⟩ = some (.bool sy) ∧ w'.cell? ⟨gy, 1, none⟩ = some (.slice Ay ny cy))) 19 (by kernel_rfl) ⟨⟨x0, x1⟩, ⟨y0, y1⟩⟩ (fun hHeld => ?_)
  refine wpHK_take (i := 0) (oi := Oper.mk (some 7) _ _ _ _ _) (v := ?_) rfl (by kernel_rfl) (by kernel_rfl) (by kernel_rfl) (by kernel_rfl) (fun _ _ _ h => h) (Or.inl ⟨by rfl, ?_⟩) (by assumption) ?_
  rotate_left
  · (intro w' hSw; (try dsimp only at hSw); (obtain ⟨⟨s1, s2⟩, ⟨s3, s4⟩⟩ := hSw); go_simp; try with_reducible rfl)
  try simp only [Act.put, List.setIfInBounds_toArray, List.set_cons_zero, List.set_cons_succ]
  refine wpHK_take (i := 1) (oi := Oper.mk (some 8) _ _ _ _ _) (v := ?_) rfl (by kernel_rfl) (by kernel_rfl) (by kernel_rfl) (by kernel_rfl) (fun _ _ _ h => h) (Or.inl ⟨by rfl, ?_⟩) (by assumption) ?_
  rotate_left
  · (intro w' hSw; (try dsimp only at hSw); (obtain ⟨⟨s1, s2⟩, ⟨s3, s4⟩⟩ := hSw); go_simp; try with_reducible rfl)
  try simp only [Act.put, List.setIfInBounds_toArray, List.set_cons_zero, List.set_cons_succ]
  refine wpHK_take (i := 2) (oi := Oper.mk (some 9) _ _ _ _ _) (v := ?_) rfl (by kernel_rfl) (by kernel_rfl) (by kernel_rfl) (by kernel_rfl) (fun _ _ _ h => h) (Or.inl ⟨by rfl, ?_⟩) (by assumption) ?_
  rotate_left
  · (intro w' hSw; (try dsimp only at hSw); (obtain ⟨⟨s1, s2⟩, ⟨s3, s4⟩⟩ := hSw); go_simp; try with_reducible rfl)
  try simp only [Act.put, List.setIfInBounds_toArray, List.set_cons_zero, List.set_cons_succ]
  refine wpHK_take (i := 3) (oi := Oper.mk (some 10) _ _ _ _ _) (v := ?_) rfl (by kernel_rfl) (by kernel_rfl) (by kernel_rfl) (by kernel_rfl) (fun _ _ _ h => h) (Or.inl ⟨by rfl, ?_⟩) (by assumption) ?_
  rotate_left
  · (intro w' hSw; (try dsimp only at hSw); (obtain ⟨⟨s1, s2⟩, ⟨s3, s4⟩⟩ := hSw); go_simp; try with_reducible rfl)
  try simp only [Act.put, List.setIfInBounds_toArray, List.set_cons_zero, List.set_cons_succ]
  refine wpHK_take (i := 4) (oi := Oper.mk (some 11) _ _ _ _ _) (v := ?_) rfl (by kernel_rfl) (by kernel_rfl) (by kernel_rfl) (by kernel_rfl) (fun _ _ _ h => h) (Or.inl ⟨by rfl, ?_⟩) (by assumption) ?_
  rotate_left
  · (intro w' hSw; (try dsimp only at hSw); (obtain ⟨⟨s1, s2⟩, ⟨s3, s4⟩⟩ := hSw); go_simp; try with_reducible rfl)
  try simp only [Act.put, List.setIfInBounds_toArray, List.set_cons_zero, List.set_cons_succ]
  refine wpHK_take (i := 5) (oi := Oper.mk (some 12) _ _ _ _ _) (v := ?_) rfl (by kernel_rfl) (by kernel_rfl) (by kernel_rfl) (by kernel_rfl) (fun _ _ _ h => h) (Or.inl ⟨by rfl, ?_⟩) (by assumption) ?_
  rotate_left
  · (intro w' hSw; (try dsimp only at hSw); (obtain ⟨⟨s1, s2⟩, ⟨s3, s4⟩⟩ := hSw); go_simp; try with_reducible rfl)
  try simp only [Act.put, List.setIfInBounds_toArray, List.set_cons_zero, List.set_cons_succ]
  refine wpHK_take (i := 6) (oi := Oper.mk (some 13) _ _ _ _ _) (v := ?_) rfl (by kernel_rfl) (by kernel_rfl) (by kernel_rfl) (by kernel_rfl) (fun _ _ _ h => h) (Or.inl ⟨by rfl, ?_⟩) (by assumption) ?_
  rotate_left
  · (intro w' hSw; (try dsimp only at hSw); (obtain ⟨⟨s1, s2⟩, ⟨s3, s4⟩⟩ := hSw); go_simp; try with_reducible rfl)
  try simp only [Act.put, List.setIfInBounds_toArray, List.set_cons_zero, List.set_cons_succ]
  refine wpHK_take (i := 7) (oi := Oper.mk (some 14) _ _ _ _ _) (v := ?_) rfl (by kernel_rfl) (by kernel_rfl) (by kernel_rfl) (by kernel_rfl) (fun _ _ _ h => h) (Or.inl ⟨by rfl, ?_⟩) (by assumption) ?_
  rotate_left
  · (intro w' hSw; (try dsimp only at hSw); (obtain ⟨⟨s1, s2⟩, ⟨s3, s4⟩⟩ := hSw); go_simp; try with_reducible rfl)
  try simp only [Act.put, List.setIfInBounds_toArray, List.set_cons_zero, List.set_cons_succ]
  refine wpHK_take (i := 8) (oi := Oper.mk (some 15) _ _ _ _ _) (v := ?_) rfl (by kernel_rfl) (by kernel_rfl) (by kernel_rfl) (by kernel_rfl) (fun _ _ _ h => h) (Or.inl ⟨by rfl, ?_⟩) (by assumption) ?_
  rotate_left
  · (intro w' hSw; (try dsimp only at hSw); (obtain ⟨⟨s1, s2⟩, ⟨s3, s4⟩⟩ := hSw); go_simp; try with_reducible rfl)
  try simp only [Act.put, List.setIfInBounds_toArray, List.set_cons_zero, List.set_cons_succ]
  refine wpHK_take (i := 9) (oi := Oper.mk (some 16) _ _ _ _ _) (v := ?_) rfl (by kernel_rfl) (by kernel_rfl) (by kernel_rfl) (by kernel_rfl) (fun _ _ _ h => h) (Or.inl ⟨by rfl, ?_⟩) (by assumption) ?_
  rotate_left
  · (intro w' hSw; (try dsimp only at hSw); (obtain ⟨⟨s1, s2⟩, ⟨s3, s4⟩⟩ := hSw); go_simp; try with_reducible rfl)
  try simp only [Act.put, List.setIfInBounds_toArray, List.set_cons_zero, List.set_cons_succ]
  refine wpHK_take (i := 10) (oi := Oper.mk (some 17) _ _ _ _ _) (v := ?_) rfl (by kernel_rfl) (by kernel_rfl) (by kernel_rfl) (by kernel_rfl) (fun _ _ _ h => h) (Or.inl ⟨by rfl, ?_⟩) (by assumption) ?_
  rotate_left
  · (intro w' hSw; (try dsimp only at hSw); (obtain ⟨⟨s1, s2⟩, ⟨s3, s4⟩⟩ := hSw); go_simp; try with_reducible rfl)
  try simp only [Act.put, List.setIfInBounds_toArray, List.set_cons_zero, List.set_cons_succ]
  refine wpHK_take (i := 11) (oi := Oper.mk (some 18) _ _ _ _ _) (v := ?_) rfl (by kernel_rfl) (by kernel_rfl) (by kernel_rfl) (by kernel_rfl) (fun _ _ _ h => h) (Or.inl ⟨by rfl, ?_⟩) (by assumption) ?_
  rotate_left
  · (intro w' hSw; (try dsimp only at hSw); (obtain ⟨⟨s1, s2⟩, ⟨s3, s4⟩⟩ := hSw); go_simp; try with_reducible rfl)
  try simp only [Act.put, List.setIfInBounds_toArray, List.set_cons_zero, List.set_cons_succ]
  refine wpHK_take (i := 12) (oi := Oper.mk (some 19) _ _ _ _ _) (v := ?_) rfl (by kernel_rfl) (by kernel_rfl) (by kernel_rfl) (by kernel_rfl) (fun _ _ _ h => h) (Or.inl ⟨by rfl, ?_⟩) (by assumption) ?_
  rotate_left
  · (intro w' hSw; (try dsimp only at hSw); (obtain ⟨⟨s1, s2⟩, ⟨s3, s4⟩⟩ := hSw); go_simp; try with_reducible rfl)
  try simp only [Act.put, List.setIfInBounds_toArray, List.set_cons_zero, List.set_cons_succ]
  refine wpHK_take (i := 13) (oi := Oper.mk (some 20) _ _ _ _ _) (v := ?_) rfl (by kernel_rfl) (by kernel_rfl) (by kernel_rfl) (by kernel_rfl) (fun _ _ _ h => h) (Or.inl ⟨by rfl, ?_⟩) (by assumption) ?_
  rotate_left
  · (intro w' hSw; (try dsimp only at hSw); (obtain ⟨⟨s1, s2⟩, ⟨s3, s4⟩⟩ := hSw); go_simp; try with_reducible rfl)
  try simp only [Act.put, List.setIfInBounds_toArray, List.set_cons_zero, List.set_cons_succ]
  refine wpHK_take (i := 14) (oi := Oper.mk (some 21) _ _ _ _ _) (v := ?_) rfl (by kernel_rfl) (by kernel_rfl) (by kernel_rfl) (by kernel_rfl) (fun _ _ _ h => h) (Or.inl ⟨by rfl, ?_⟩) (by assumption) ?_
  rotate_left
  · (intro w' hSw; (try dsimp only at hSw); (obtain ⟨⟨s1, s2⟩, ⟨s3, s4⟩⟩ := hSw); go_simp; try with_reducible rfl)
  try simp only [Act.put, List.setIfInBounds_toArray, List.set_cons_zero, List.set_cons_succ]
  refine wpHK_take (i := 15) (oi := Oper.mk (some 22) _ _ _ _ _) (v := ?_) rfl (by kernel_rfl) (by kernel_rfl) (by kernel_rfl) (by kernel_rfl) (fun _ _ _ h => h) (Or.inl ⟨by rfl, ?_⟩) (by assumption) ?_
  rotate_left
  · (intro w' hSw; (try dsimp only at hSw); (obtain ⟨⟨s1, s2⟩, ⟨s3, s4⟩⟩ := hSw); go_simp; try with_reducible rfl)
  try simp only [Act.put, List.setIfInBounds_toArray, List.set_cons_zero, List.set_cons_succ]
  refine wpHK_take (i := 16) (oi := Oper.mk (some 23) _ _ _ _ _) (v := ?_) rfl (by kernel_rfl) (by kernel_rfl) (by kernel_rfl) (by kernel_rfl) (fun _ _ _ h => h) (Or.inl ⟨by rfl, ?_⟩) (by assumption) ?_
  rotate_left
  · (intro w' hSw; (try dsimp only at hSw); (obtain ⟨⟨s1, s2⟩, ⟨s3, s4⟩⟩ := hSw); go_simp; try with_reducible rfl)
  try simp only [Act.put, List.setIfInBounds_toArray, List.set_cons_zero, List.set_cons_succ]
  refine wpHK_take (i := 17) (oi := Oper.mk (some 24) _ _ _ _ _) (v := ?_) rfl (by kernel_rfl) (by kernel_rfl) (by kernel_rfl) (by kernel_rfl) (fun _ _ _ h => h) (Or.inl ⟨by rfl, ?_⟩) (by assumption) ?_
  rotate_left
  · (intro w' hSw; (try dsimp only at hSw); (obtain ⟨⟨s1, s2⟩, ⟨s3, s4⟩⟩ := hSw); go_simp; try with_reducible rfl)
  try simp only [Act.put, List.setIfInBounds_toArray, List.set_cons_zero, List.set_cons_succ]
  refine wpHK_one (j := 18) (o := Oper.mk (some 25) _ _ _ _ _) rfl (by kernel_rfl) (fun K hK => ?_)
  go_simp
  refine (Hp.out).mono ?_
  rintro e w5 ⟨A5, l5, rfl, hw5, hv5, hr5, hb5, hcl5⟩
  try simp only []
  have hb5' : Below w.heap.size w w5 := undrew hb5
  have bcell5 : ∀ {b o : Nat}, b < w.heap.size → w5.cell? ⟨b, o, none⟩ = w.cell? ⟨b, o, none⟩ := fun {b o} h => hb5'.cell (p := ⟨b, o, none⟩) h
  have hz5 := hz.below hb5'
  have hC5 : (w5.cell? ⟨gx, 0, none⟩ = some (.bool sx) ∧ w5.cell? ⟨gx, 1, none⟩ = some (.slice Ax nx cx)) ∧ (w5.cell? ⟨gy, 0, none⟩ = some (.bool sy) ∧ w5.cell? ⟨gy, 1, none⟩ = some (.slice Ay ny cy)) := ⟨⟨(bcell5 glx).trans x0, (bcell5 glx).trans x1⟩, ⟨(bcell5 gly).trans y0, (bcell5 gly).trans y1⟩⟩
  refine hK.out _ _ hC5 (fun _ => ?_)
  clear hK K hHeld
  have hHeld := hC5
  try simp only [Act.put, List.setIfInBounds_toArray, List.set_cons_zero, List.set_cons_succ]
  refine wpHK_tail (j := 19) (o := Oper.mk (some 26) _ _ _ _ _) rfl (by kernel_rfl) (by decide) (fun K hK => ?_)
  go_simp
  refine (is_any _ hz5 hr5 (Nat.le_refl _) rfl (Nat.le_refl _) hcl5 hw5).mono ?_
  rintro e w6 ⟨rfl, hi6, hg6⟩
  try simp only []
  refine hK.out _ _ ?_
  clear hK K
  try simp only [Act.put, List.setIfInBounds_toArray, List.set_cons_zero, List.set_cons_succ]
  refine wpHK_assign (j := 20) (o := Oper.mk (some 6) _ _ _ _ _) rfl (by kernel_rfl) (by decide) rfl rfl ?_
  try simp only [Act.put, List.setIfInBounds_toArray, List.set_cons_zero, List.set_cons_succ]
  refine wpHK_done (by kernel_rfl) ?_ _
  refine NoPanic.normal ?_
  go_wp2_with fail
  go_ret
  refine ⟨rfl, ?_, grown_lift hb5' hg6⟩
  have e : sgn (!(decide (x < 0) == decide (y < 0))) (x.natAbs * y.natAbs) = x * y := sgn_mul x y
  rw [hv5, val_w, val_w, Hx.out.1, Hy.out.1, e] at hi6
  exact hi6
theorem add_s (x : Int) (n : Nat) : sgn (decide (x < 0)) (x.natAbs + n) = x + sgn (decide (x < 0)) n := by
  unfold sgn
  by_cases h : x < 0 <;> simp [h] <;> omega
theorem add_g (x : Int) (n : Nat) (neg : Bool) (h : neg ≠ decide (x < 0)) (hle : n ≤ x.natAbs) : sgn (decide (x < 0)) (x.natAbs - n) = x + sgn neg n := by
  unfold sgn
  by_cases h1 : x < 0
  · cases neg <;> simp [h1] at h ⊢; omega
  · cases neg <;> simp [h1] at h ⊢; omega
theorem add_l (x : Int) (n : Nat) (neg : Bool) (h : neg ≠ decide (x < 0)) (hle : x.natAbs ≤ n) : sgn neg (n - x.natAbs) = x + sgn neg n := by
  unfold sgn
  by_cases h1 : x < 0
  · cases neg <;> simp [h1] at h ⊢; omega
  · cases neg <;> simp [h1] at h ⊢; omega

set_option maxRecDepth 100000 in
set_option maxHeartbeats 4000000 in
theorem add_same {w : World} {g gx gy : Nat} {x y : Int} {neg : Bool} (hz : IntS w g) (hx : IntB w gx x) (hy : IntB w gy y) (hxl : (wds x.natAbs).length ≤ 900000000) (hyl : (wds y.natAbs).length ≤ 900000000) (hn : neg = decide (x < 0)) :
    Calls Try.prog 100 #[.pointer (some ⟨g, 0, none⟩), .pointer (some ⟨gx, 0, none⟩), .pointer (some ⟨gy, 0, none⟩), .bool neg] w (Puts w g (x + sgn neg y.natAbs)) := by
  obtain ⟨sx, Ax, nx, cx, x0, x1, Hx, hxc, hxcl, rx⟩ := hx.opened
  obtain ⟨sy, Ay, ny, cy, y0, y1, Hy, hyc, hycl, ry⟩ := hy.opened
  have glx := hx.lt
  have gly := hy.lt
  have Hp := Lib.hid (more_any (c := cx) (d := cy) (rx.drewN 1) (ry.drewN 1) (Nat.le_refl _) Hx.out.2 Hy.out.2 (by have := Hx.out.2; omega) (by have := Hy.out.2; omega) (wd_w _) (wd_w _))
  obtain rfl : sx = neg := by rw [hn]; exact Hx.out.1
  have Hn := Lib.hid hn
  clear rx ry hxl hyl hn
  go_enter Try.func100, Try.ntmps100
  go_wp2_with fail
  refine wp_region_noPanic ?_
  refine wp_region_HK (fun w' => (w'.cell? ⟨gx, 0, none⟩ = some (.bool sx) ∧ w'.cell? ⟨gx, 1, none⟩ = some (.slice Ax nx cx)) ∧ (w'.cell? ⟨gy, 0, none⟩ = some (.bool sy) ∧ w'.cell? ⟨gy, 1, none⟩ = some (.slice Ay ny cy))) 11 (by kernel_rfl) ⟨⟨x0, x1⟩, ⟨y0, y1⟩⟩ (fun hHeld => ?_)
  refine wpHK_take (i := 0) (oi := Oper.mk (some 16) _ _ _ _ _) (v := ?_) rfl (by kernel_rfl) (by kernel_rfl) (by kernel_rfl) (by kernel_rfl) (fun _ _ _ h => h) (Or.inl ⟨by rfl, ?_⟩) (by assumption) ?_
  rotate_left
  · (intro w' hSw; (try dsimp only at hSw); (obtain ⟨⟨s1, s2⟩, ⟨s3, s4⟩⟩ := hSw); go_simp; try with_reducible rfl)
  try simp only [Act.put, List.setIfInBounds_toArray, List.set_cons_zero, List.set_cons_succ]
  refine wpHK_take (i := 1) (oi := Oper.mk (some 17) _ _ _ _ _) (v := ?_) rfl (by kernel_rfl) (by kernel_rfl) (by kernel_rfl) (by kernel_rfl) (fun _ _ _ h => h) (Or.inl ⟨by rfl, ?_⟩) (by assumption) ?_
  rotate_left
  · (intro w' hSw; (try dsimp only at hSw); (obtain ⟨⟨s1, s2⟩, ⟨s3, s4⟩⟩ := hSw); go_simp; try with_reducible rfl)
  try simp only [Act.put, List.setIfInBounds_toArray, List.set_cons_zero, List.set_cons_succ]
  refine wpHK_take (i := 2) (oi := Oper.mk (some 18) _ _ _ _ _) (v := ?_) rfl (by kernel_rfl) (by kernel_rfl) (by kernel_rfl) (by kernel_rfl) (fun _ _ _ h => h) (Or.inl ⟨by rfl, ?_⟩) (by assumption) ?_
  rotate_left
  · (intro w' hSw; (try dsimp only at hSw); (obtain ⟨⟨s1, s2⟩, ⟨s3, s4⟩⟩ := hSw); go_simp; try with_reducible rfl)
  try simp only [Act.put, List.setIfInBounds_toArray, List.set_cons_zero, List.set_cons_succ]
  refine wpHK_take (i := 3) (oi := Oper.mk (some 19) _ _ _ _ _) (v := ?_) rfl (by kernel_rfl) (by kernel_rfl) (by kernel_rfl) (by kernel_rfl) (fun _ _ _ h => h) (Or.inl ⟨by rfl, ?_⟩) (by assumption) ?_
  rotate_left
  · (intro w' hSw; (try dsimp only at hSw); (obtain ⟨⟨s1, s2⟩, ⟨s3, s4⟩⟩ := hSw); go_simp; try with_reducible rfl)
  try simp only [Act.put, List.setIfInBounds_toArray, List.set_cons_zero, List.set_cons_succ]
  refine wpHK_take (i := 4) (oi := Oper.mk (some 20) _ _ _ _ _) (v := ?_) rfl (by kernel_rfl) (by kernel_rfl) (by kernel_rfl) (by kernel_rfl) (fun _ _ _ h => h) (Or.inl ⟨by rfl, ?_⟩) (by assumption) ?_
  rotate_left
  · (intro w' hSw; (try dsimp only at hSw); (obtain ⟨⟨s1, s2⟩, ⟨s3, s4⟩⟩ := hSw); go_simp; try with_reducible rfl)
  try simp only [Act.put, List.setIfInBounds_toArray, List.set_cons_zero, List.set_cons_succ]
  refine wpHK_take (i := 5) (oi := Oper.mk (some 21) _ _ _ _ _) (v := ?_) rfl (by kernel_rfl) (by kernel_rfl) (by kernel_rfl) (by kernel_rfl) (fun _ _ _ h => h) (Or.inl ⟨by rfl, ?_⟩) (by assumption) ?_
  rotate_left
  · (intro w' hSw; (try dsimp only at hSw); (obtain ⟨⟨s1, s2⟩, ⟨s3, s4⟩⟩ := hSw); go_simp; try with_reducible rfl)
  try simp only [Act.put, List.setIfInBounds_toArray, List.set_cons_zero, List.set_cons_succ]
  refine wpHK_take (i := 6) (oi := Oper.mk (some 22) _ _ _ _ _) (v := ?_) rfl (by kernel_rfl) (by kernel_rfl) (by kernel_rfl) (by kernel_rfl) (fun _ _ _ h => h) (Or.inl ⟨by rfl, ?_⟩) (by assumption) ?_
  rotate_left
  · (intro w' hSw; (try dsimp only at hSw); (obtain ⟨⟨s1, s2⟩, ⟨s3, s4⟩⟩ := hSw); go_simp; try with_reducible rfl)
  try simp only [Act.put, List.setIfInBounds_toArray, List.set_cons_zero, List.set_cons_succ]
  refine wpHK_take (i := 7) (oi := Oper.mk (some 23) _ _ _ _ _) (v := ?_) rfl (by kernel_rfl) (by kernel_rfl) (by kernel_rfl) (by kernel_rfl) (fun _ _ _ h => h) (Or.inl ⟨by rfl, ?_⟩) (by assumption) ?_
  rotate_left
  · (intro w' hSw; (try dsimp only at hSw); (obtain ⟨⟨s1, s2⟩, ⟨s3, s4⟩⟩ := hSw); go_simp; try with_reducible rfl)
  try simp only [Act.put, List.setIfInBounds_toArray, List.set_cons_zero, List.set_cons_succ]
  refine wpHK_take (i := 8) (oi := Oper.mk (some 24) _ _ _ _ _) (v := ?_) rfl (by kernel_rfl) (by kernel_rfl) (by kernel_rfl) (by kernel_rfl) (fun _ _ _ h => h) (Or.inl ⟨by rfl, ?_⟩) (by assumption) ?_
  rotate_left
  · (intro w' hSw; (try dsimp only at hSw); (obtain ⟨⟨s1, s2⟩, ⟨s3, s4⟩⟩ := hSw); go_simp; try with_reducible rfl)
  try simp only [Act.put, List.setIfInBounds_toArray, List.set_cons_zero, List.set_cons_succ]
  refine wpHK_take (i := 9) (oi := Oper.mk (some 25) _ _ _ _ _) (v := ?_) rfl (by kernel_rfl) (by kernel_rfl) (by kernel_rfl) (by kernel_rfl) (fun _ _ _ h => h) (Or.inl ⟨by rfl, ?_⟩) (by assumption) ?_
  rotate_left
  · (intro w' hSw; (try dsimp only at hSw); (obtain ⟨⟨s1, s2⟩, ⟨s3, s4⟩⟩ := hSw); go_simp; try with_reducible rfl)
  try simp only [Act.put, List.setIfInBounds_toArray, List.set_cons_zero, List.set_cons_succ]
  refine wpHK_one (j := 10) (o := Oper.mk (some 26) _ _ _ _ _) rfl (by kernel_rfl) (fun K hK => ?_)
  go_simp
  refine (Hp.out).mono ?_
  rintro e w5 ⟨A5, l5, rfl, hw5, hv5, hr5, hb5, hcl5⟩
  try simp only []
  have hb5' : Below w.heap.size w w5 := undrew hb5
  have bcell5 : ∀ {b o : Nat}, b < w.heap.size → w5.cell? ⟨b, o, none⟩ = w.cell? ⟨b, o, none⟩ := fun {b o} h => hb5'.cell (p := ⟨b, o, none⟩) h
  have hz5 := hz.below hb5'
  have hC5 : (w5.cell? ⟨gx, 0, none⟩ = some (.bool sx) ∧ w5.cell? ⟨gx, 1, none⟩ = some (.slice Ax nx cx)) ∧ (w5.cell? ⟨gy, 0, none⟩ = some (.bool sy) ∧ w5.cell? ⟨gy, 1, none⟩ = some (.slice Ay ny cy)) := ⟨⟨(bcell5 glx).trans x0, (bcell5 glx).trans x1⟩, ⟨(bcell5 gly).trans y0, (bcell5 gly).trans y1⟩⟩
  refine hK.out _ _ hC5 (fun _ => ?_)
  clear hK K hHeld
  have hHeld := hC5
  try simp only [Act.put, List.setIfInBounds_toArray, List.set_cons_zero, List.set_cons_succ]
  refine wpHK_tail (j := 11) (o := Oper.mk (some 27) _ _ _ _ _) rfl (by kernel_rfl) (by decide) (fun K hK => ?_)
  go_simp
  refine (is_any _ hz5 hr5 (Nat.le_refl _) rfl (Nat.le_refl _) hcl5 hw5).mono ?_
  rintro e w6 ⟨rfl, hi6, hg6⟩
  try simp only []
  refine hK.out _ _ ?_
  clear hK K
  try simp only [Act.put, List.setIfInBounds_toArray, List.set_cons_zero, List.set_cons_succ]
  refine wpHK_assign (j := 12) (o := Oper.mk (some 8) _ _ _ _ _) rfl (by kernel_rfl) (by decide) rfl rfl ?_
  try simp only [Act.put, List.setIfInBounds_toArray, List.set_cons_zero, List.set_cons_succ]
  refine wpHK_done (by kernel_rfl) ?_ _
  refine NoPanic.normal ?_
  go_wp2_with fail
  go_ret
  refine ⟨rfl, ?_, grown_lift hb5' hg6⟩
  rw [hv5, val_w, val_w, Hx.out.1, add_s] at hi6
  rw [Hx.out.1]
  exact hi6

set_option maxRecDepth 100000 in
set_option maxHeartbeats 4000000 in
theorem add_ge {w : World} {g gx gy : Nat} {x y : Int} {neg : Bool} (hz : IntS w g) (hx : IntB w gx x) (hy : IntB w gy y) (hxl : (wds x.natAbs).length ≤ 900000000) (hyl : (wds y.natAbs).length ≤ 900000000) (hn : neg ≠ decide (x < 0)) (hle : y.natAbs ≤ x.natAbs) :
    Calls Try.prog 100 #[.pointer (some ⟨g, 0, none⟩), .pointer (some ⟨gx, 0, none⟩), .pointer (some ⟨gy, 0, none⟩), .bool neg] w (Puts w g (x + sgn neg y.natAbs)) := by
  obtain ⟨sx, Ax, nx, cx, x0, x1, Hx, hxc, hxcl, rx⟩ := hx.opened
  obtain ⟨sy, Ay, ny, cy, y0, y1, Hy, hyc, hycl, ry⟩ := hy.opened
  have glx := hx.lt
  have gly := hy.lt
  obtain ⟨v, hv, hv0⟩ : ∃ v : Int, cmpN x.natAbs y.natAbs = v ∧ 0 ≤ v := by
    rcases Nat.lt_or_ge y.natAbs x.natAbs with h | h
    · exact ⟨1, cmpN_gt h, by omega⟩
    · exact ⟨0, cmpN_eq (by omega), by omega⟩
  have HU : Hid (∀ q, Calls Try.prog 110 #[.slice Ax nx cx, .slice Ay ny cy] (w.drewN q) (fun e w' => e = .returned (.int .i64 v) ∧ ∃ m, w' = (w.drewN q).drewN m)) := by
    intro q
    refine (under_any (rx.drewN q) (ry.drewN q) (c := cx) (d := cy) Hx.out.2 Hy.out.2 (by have := Hx.out.2; omega) (by have := Hy.out.2; omega)).mono ?_
    rintro e w' ⟨m, he, hw⟩
    exact ⟨by rw [he, hv], m, hw⟩
  have hsn : (sx == neg) = false := by
    have h1 := Hx.out.1
    rw [← h1] at hn
    cases sx <;> cases neg <;> first | rfl | exact absurd rfl hn
  have Hl := Lib.hid (And.intro hxl (And.intro hyl (And.intro hn hle)))
  have Hr := Lib.hid (And.intro rx ry)
  clear rx ry hxl hyl hn hv hle
  go_enter Try.func100, Try.ntmps100
  go_wp2_with fail
  go_quiet ((go_at_call 110; exact Calls.quiet_of (HU.out _)))
  go_wp2_with fail
  have Hp := Lib.hid (less_any (w := (w.drewN nq).drew) (B := w.heap.size) (c := cx) (d := cy) (show ReadsW ((w.drewN nq).drew) w.heap.size _ _ from Hr.out.1) (show ReadsW ((w.drewN nq).drew) w.heap.size _ _ from Hr.out.2) (Nat.le_refl _) Hx.out.2 Hy.out.2 (by have := Hx.out.2; have := Hl.out.1; omega) (by rw [Hx.out.2, Hy.out.2]; exact len_mono Hl.out.2.2.2) (by rw [val_w, val_w]; exact Hl.out.2.2.2) (wd_w _) (wd_w _))
  refine wp_region_noPanic ?_
  refine wp_region_HK (fun w' => (w'.cell? ⟨gx, 0, none⟩ = some (.bool sx) ∧ w'.cell? ⟨gx, 1, none⟩ = some (.slice Ax nx cx)) ∧ (w'.cell? ⟨gy, 0, none⟩ = some (.bool sy) ∧ w'.cell? ⟨gy, 1, none⟩ = some (.slice Ay ny cy))) 14 (by kernel_rfl) ⟨⟨x0, x1⟩, ⟨y0, y1⟩⟩ (fun hHeld => ?_)
  refine wpHK_take (i := 0) (oi := Oper.mk (some 39) _ _ _ _ _) (v := ?_) rfl (by kernel_rfl) (by kernel_rfl) (by kernel_rfl) (by kernel_rfl) (fun _ _ _ h => h) (Or.inl ⟨by rfl, ?_⟩) (by assumption) ?_
  rotate_left
  · (intro w' hSw; (try dsimp only at hSw); (obtain ⟨⟨s1, s2⟩, ⟨s3, s4⟩⟩ := hSw); go_simp; try with_reducible rfl)
  try simp only [Act.put, List.setIfInBounds_toArray, List.set_cons_zero, List.set_cons_succ]
  refine wpHK_take (i := 1) (oi := Oper.mk (some 40) _ _ _ _ _) (v := ?_) rfl (by kernel_rfl) (by kernel_rfl) (by kernel_rfl) (by kernel_rfl) (fun _ _ _ h => h) (Or.inl ⟨by rfl, ?_⟩) (by assumption) ?_
  rotate_left
  · (intro w' hSw; (try dsimp only at hSw); (obtain ⟨⟨s1, s2⟩, ⟨s3, s4⟩⟩ := hSw); go_simp; try with_reducible rfl)
  try simp only [Act.put, List.setIfInBounds_toArray, List.set_cons_zero, List.set_cons_succ]
  refine wpHK_take (i := 2) (oi := Oper.mk (some 41) _ _ _ _ _) (v := ?_) rfl (by kernel_rfl) (by kernel_rfl) (by kernel_rfl) (by kernel_rfl) (fun _ _ _ h => h) (Or.inl ⟨by rfl, ?_⟩) (by assumption) ?_
  rotate_left
  · (intro w' hSw; (try dsimp only at hSw); (obtain ⟨⟨s1, s2⟩, ⟨s3, s4⟩⟩ := hSw); go_simp; try with_reducible rfl)
  try simp only [Act.put, List.setIfInBounds_toArray, List.set_cons_zero, List.set_cons_succ]
  refine wpHK_take (i := 3) (oi := Oper.mk (some 42) _ _ _ _ _) (v := ?_) rfl (by kernel_rfl) (by kernel_rfl) (by kernel_rfl) (by kernel_rfl) (fun _ _ _ h => h) (Or.inl ⟨by rfl, ?_⟩) (by assumption) ?_
  rotate_left
  · (intro w' hSw; (try dsimp only at hSw); (obtain ⟨⟨s1, s2⟩, ⟨s3, s4⟩⟩ := hSw); go_simp; try with_reducible rfl)
  try simp only [Act.put, List.setIfInBounds_toArray, List.set_cons_zero, List.set_cons_succ]
  refine wpHK_take (i := 4) (oi := Oper.mk (some 43) _ _ _ _ _) (v := ?_) rfl (by kernel_rfl) (by kernel_rfl) (by kernel_rfl) (by kernel_rfl) (fun _ _ _ h => h) (Or.inl ⟨by rfl, ?_⟩) (by assumption) ?_
  rotate_left
  · (intro w' hSw; (try dsimp only at hSw); (obtain ⟨⟨s1, s2⟩, ⟨s3, s4⟩⟩ := hSw); go_simp; try with_reducible rfl)
  try simp only [Act.put, List.setIfInBounds_toArray, List.set_cons_zero, List.set_cons_succ]
  refine wpHK_take (i := 5) (oi := Oper.mk (some 44) _ _ _ _ _) (v := ?_) rfl (by kernel_rfl) (by kernel_rfl) (by kernel_rfl) (by kernel_rfl) (fun _ _ _ h => h) (Or.inl ⟨by rfl, ?_⟩) (by assumption) ?_
  rotate_left
  · (intro w' hSw; (try dsimp only at hSw); (obtain ⟨⟨s1, s2⟩, ⟨s3, s4⟩⟩ := hSw); go_simp; try with_reducible rfl)
  try simp only [Act.put, List.setIfInBounds_toArray, List.set_cons_zero, List.set_cons_succ]
  refine wpHK_take (i := 6) (oi := Oper.mk (some 45) _ _ _ _ _) (v := ?_) rfl (by kernel_rfl) (by kernel_rfl) (by kernel_rfl) (by kernel_rfl) (fun _ _ _ h => h) (Or.inl ⟨by rfl, ?_⟩) (by assumption) ?_
  rotate_left
  · (intro w' hSw; (try dsimp only at hSw); (obtain ⟨⟨s1, s2⟩, ⟨s3, s4⟩⟩ := hSw); go_simp; try with_reducible rfl)
  try simp only [Act.put, List.setIfInBounds_toArray, List.set_cons_zero, List.set_cons_succ]
  refine wpHK_take (i := 7) (oi := Oper.mk (some 46) _ _ _ _ _) (v := ?_) rfl (by kernel_rfl) (by kernel_rfl) (by kernel_rfl) (by kernel_rfl) (fun _ _ _ h => h) (Or.inl ⟨by rfl, ?_⟩) (by assumption) ?_
  rotate_left
  · (intro w' hSw; (try dsimp only at hSw); (obtain ⟨⟨s1, s2⟩, ⟨s3, s4⟩⟩ := hSw); go_simp; try with_reducible rfl)
  try simp only [Act.put, List.setIfInBounds_toArray, List.set_cons_zero, List.set_cons_succ]
  refine wpHK_take (i := 8) (oi := Oper.mk (some 47) _ _ _ _ _) (v := ?_) rfl (by kernel_rfl) (by kernel_rfl) (by kernel_rfl) (by kernel_rfl) (fun _ _ _ h => h) (Or.inl ⟨by rfl, ?_⟩) (by assumption) ?_
  rotate_left
  · (intro w' hSw; (try dsimp only at hSw); (obtain ⟨⟨s1, s2⟩, ⟨s3, s4⟩⟩ := hSw); go_simp; try with_reducible rfl)
  try simp only [Act.put, List.setIfInBounds_toArray, List.set_cons_zero, List.set_cons_succ]
  refine wpHK_take (i := 9) (oi := Oper.mk (some 48) _ _ _ _ _) (v := ?_) rfl (by kernel_rfl) (by kernel_rfl) (by kernel_rfl) (by kernel_rfl) (fun _ _ _ h => h) (Or.inl ⟨by rfl, ?_⟩) (by assumption) ?_
  rotate_left
  · (intro w' hSw; (try dsimp only at hSw); (obtain ⟨⟨s1, s2⟩, ⟨s3, s4⟩⟩ := hSw); go_simp; try with_reducible rfl)
  try simp only [Act.put, List.setIfInBounds_toArray, List.set_cons_zero, List.set_cons_succ]
  refine wpHK_take (i := 10) (oi := Oper.mk (some 49) _ _ _ _ _) (v := ?_) rfl (by kernel_rfl) (by kernel_rfl) (by kernel_rfl) (by kernel_rfl) (fun _ _ _ h => h) (Or.inl ⟨by rfl, ?_⟩) (by assumption) ?_
  rotate_left
  · (intro w' hSw; (try dsimp only at hSw); (obtain ⟨⟨s1, s2⟩, ⟨s3, s4⟩⟩ := hSw); go_simp; try with_reducible rfl)
  try simp only [Act.put, List.setIfInBounds_toArray, List.set_cons_zero, List.set_cons_succ]
  refine wpHK_take (i := 11) (oi := Oper.mk (some 50) _ _ _ _ _) (v := ?_) rfl (by kernel_rfl) (by kernel_rfl) (by kernel_rfl) (by kernel_rfl) (fun _ _ _ h => h) (Or.inl ⟨by rfl, ?_⟩) (by assumption) ?_
  rotate_left
  · (intro w' hSw; (try dsimp only at hSw); (obtain ⟨⟨s1, s2⟩, ⟨s3, s4⟩⟩ := hSw); go_simp; try with_reducible rfl)
  try simp only [Act.put, List.setIfInBounds_toArray, List.set_cons_zero, List.set_cons_succ]
  refine wpHK_take (i := 12) (oi := Oper.mk (some 51) _ _ _ _ _) (v := ?_) rfl (by kernel_rfl) (by kernel_rfl) (by kernel_rfl) (by kernel_rfl) (fun _ _ _ h => h) (Or.inl ⟨by rfl, ?_⟩) (by assumption) ?_
  rotate_left
  · (intro w' hSw; (try dsimp only at hSw); (obtain ⟨⟨s1, s2⟩, ⟨s3, s4⟩⟩ := hSw); go_simp; try with_reducible rfl)
  try simp only [Act.put, List.setIfInBounds_toArray, List.set_cons_zero, List.set_cons_succ]
  refine wpHK_one (j := 13) (o := Oper.mk (some 52) _ _ _ _ _) rfl (by kernel_rfl) (fun K hK => ?_)
  go_simp
  refine (Hp.out).mono ?_
  rintro e w5 ⟨A5, l5, rfl, hw5, hv5, hr5, hb5, hcl5⟩
  try simp only []
  have hb5' : Below w.heap.size w w5 := undrewN (undrew hb5)
  have bcell5 : ∀ {b o : Nat}, b < w.heap.size → w5.cell? ⟨b, o, none⟩ = w.cell? ⟨b, o, none⟩ := fun {b o} h => hb5'.cell (p := ⟨b, o, none⟩) h
  have hz5 := hz.below hb5'
  have hC5 : (w5.cell? ⟨gx, 0, none⟩ = some (.bool sx) ∧ w5.cell? ⟨gx, 1, none⟩ = some (.slice Ax nx cx)) ∧ (w5.cell? ⟨gy, 0, none⟩ = some (.bool sy) ∧ w5.cell? ⟨gy, 1, none⟩ = some (.slice Ay ny cy)) := ⟨⟨(bcell5 glx).trans x0, (bcell5 glx).trans x1⟩, ⟨(bcell5 gly).trans y0, (bcell5 gly).trans y1⟩⟩
  refine hK.out _ _ hC5 (fun _ => ?_)
  clear hK K hHeld
  have hHeld := hC5
  try simp only [Act.put, List.setIfInBounds_toArray, List.set_cons_zero, List.set_cons_succ]
  refine wpHK_tail (j := 14) (o := Oper.mk (some 53) _ _ _ _ _) rfl (by kernel_rfl) (by decide) (fun K hK => ?_)
  go_simp
  refine (is_any _ hz5 hr5 (Nat.le_refl _) rfl (Nat.le_refl _) hcl5 hw5).mono ?_
  rintro e w6 ⟨rfl, hi6, hg6⟩
  try simp only []
  refine hK.out _ _ ?_
  clear hK K
  try simp only [Act.put, List.setIfInBounds_toArray, List.set_cons_zero, List.set_cons_succ]
  refine wpHK_assign (j := 15) (o := Oper.mk (some 8) _ _ _ _ _) rfl (by kernel_rfl) (by decide) rfl rfl ?_
  try simp only [Act.put, List.setIfInBounds_toArray, List.set_cons_zero, List.set_cons_succ]
  refine wpHK_done (by kernel_rfl) ?_ _
  refine NoPanic.normal ?_
  go_wp2_with fail
  go_ret
  refine ⟨rfl, ?_, grown_lift hb5' hg6⟩
  rw [hv5, val_w, val_w, Hx.out.1, add_g x y.natAbs neg Hl.out.2.2.1 Hl.out.2.2.2] at hi6
  exact hi6

set_option maxRecDepth 100000 in
set_option maxHeartbeats 4000000 in
theorem add_lt {w : World} {g gx gy : Nat} {x y : Int} {neg : Bool} (hz : IntS w g) (hx : IntB w gx x) (hy : IntB w gy y) (hxl : (wds x.natAbs).length ≤ 900000000) (hyl : (wds y.natAbs).length ≤ 900000000) (hn : neg ≠ decide (x < 0)) (hle : x.natAbs < y.natAbs) :
    Calls Try.prog 100 #[.pointer (some ⟨g, 0, none⟩), .pointer (some ⟨gx, 0, none⟩), .pointer (some ⟨gy, 0, none⟩), .bool neg] w (Puts w g (x + sgn neg y.natAbs)) := by
  obtain ⟨sx, Ax, nx, cx, x0, x1, Hx, hxc, hxcl, rx⟩ := hx.opened
  obtain ⟨sy, Ay, ny, cy, y0, y1, Hy, hyc, hycl, ry⟩ := hy.opened
  have glx := hx.lt
  have gly := hy.lt
  obtain ⟨v, hv, hv0⟩ : ∃ v : Int, cmpN x.natAbs y.natAbs = v ∧ v < 0 := by
    exact ⟨-1, cmpN_lt hle, by omega⟩
  have HU : Hid (∀ q, Calls Try.prog 110 #[.slice Ax nx cx, .slice Ay ny cy] (w.drewN q) (fun e w' => e = .returned (.int .i64 v) ∧ ∃ m, w' = (w.drewN q).drewN m)) := by
    intro q
    refine (under_any (rx.drewN q) (ry.drewN q) (c := cx) (d := cy) Hx.out.2 Hy.out.2 (by have := Hx.out.2; omega) (by have := Hy.out.2; omega)).mono ?_
    rintro e w' ⟨m, he, hw⟩
    exact ⟨by rw [he, hv], m, hw⟩
  have hsn : (sx == neg) = false := by
    have h1 := Hx.out.1
    rw [← h1] at hn
    cases sx <;> cases neg <;> first | rfl | exact absurd rfl hn
  have Hl := Lib.hid (And.intro hxl (And.intro hyl (And.intro hn hle)))
  have Hr := Lib.hid (And.intro rx ry)
  clear rx ry hxl hyl hn hv hle
  go_enter Try.func100, Try.ntmps100
  go_wp2_with fail
  go_quiet ((go_at_call 110; exact Calls.quiet_of (HU.out _)))
  go_wp2_with fail
  have Hp := Lib.hid (less_any (w := (w.drewN nq).drew) (B := w.heap.size) (c := cy) (d := cx) (show ReadsW ((w.drewN nq).drew) w.heap.size _ _ from Hr.out.2) (show ReadsW ((w.drewN nq).drew) w.heap.size _ _ from Hr.out.1) (Nat.le_refl _) Hy.out.2 Hx.out.2 (by have := Hy.out.2; have := Hl.out.2.1; omega) (by rw [Hx.out.2, Hy.out.2]; exact len_mono (Nat.le_of_lt Hl.out.2.2.2)) (by rw [val_w, val_w]; exact Nat.le_of_lt Hl.out.2.2.2) (wd_w _) (wd_w _))
  refine wp_region_noPanic ?_
  refine wp_region_HK (fun w' => (w'.cell? ⟨gx, 0, none⟩ = some (.bool sx) ∧ w'.cell? ⟨gx, 1, none⟩ = some (.slice Ax nx cx)) ∧ (w'.cell? ⟨gy, 0, none⟩ = some (.bool sy) ∧ w'.cell? ⟨gy, 1, none⟩ = some (.slice Ay ny cy))) 11 (by kernel_rfl) ⟨⟨x0, x1⟩, ⟨y0, y1⟩⟩ (fun hHeld => ?_)
  refine wpHK_take (i := 0) (oi := Oper.mk (some 54) _ _ _ _ _) (v := ?_) rfl (by kernel_rfl) (by kernel_rfl) (by kernel_rfl) (by kernel_rfl) (fun _ _ _ h => h) (Or.inl ⟨by rfl, ?_⟩) (by assumption) ?_
  rotate_left
  · (intro w' hSw; (try dsimp only at hSw); (obtain ⟨⟨s1, s2⟩, ⟨s3, s4⟩⟩ := hSw); go_simp; try with_reducible rfl)
  try simp only [Act.put, List.setIfInBounds_toArray, List.set_cons_zero, List.set_cons_succ]
  refine wpHK_take (i := 1) (oi := Oper.mk (some 55) _ _ _ _ _) (v := ?_) rfl (by kernel_rfl) (by kernel_rfl) (by kernel_rfl) (by kernel_rfl) (fun _ _ _ h => h) (Or.inl ⟨by rfl, ?_⟩) (by assumption) ?_
  rotate_left
  · (intro w' hSw; (try dsimp only at hSw); (obtain ⟨⟨s1, s2⟩, ⟨s3, s4⟩⟩ := hSw); go_simp; try with_reducible rfl)
  try simp only [Act.put, List.setIfInBounds_toArray, List.set_cons_zero, List.set_cons_succ]
  refine wpHK_take (i := 2) (oi := Oper.mk (some 56) _ _ _ _ _) (v := ?_) rfl (by kernel_rfl) (by kernel_rfl) (by kernel_rfl) (by kernel_rfl) (fun _ _ _ h => h) (Or.inl ⟨by rfl, ?_⟩) (by assumption) ?_
  rotate_left
  · (intro w' hSw; (try dsimp only at hSw); (obtain ⟨⟨s1, s2⟩, ⟨s3, s4⟩⟩ := hSw); go_simp; try with_reducible rfl)
  try simp only [Act.put, List.setIfInBounds_toArray, List.set_cons_zero, List.set_cons_succ]
  refine wpHK_take (i := 3) (oi := Oper.mk (some 57) _ _ _ _ _) (v := ?_) rfl (by kernel_rfl) (by kernel_rfl) (by kernel_rfl) (by kernel_rfl) (fun _ _ _ h => h) (Or.inl ⟨by rfl, ?_⟩) (by assumption) ?_
  rotate_left
  · (intro w' hSw; (try dsimp only at hSw); (obtain ⟨⟨s1, s2⟩, ⟨s3, s4⟩⟩ := hSw); go_simp; try with_reducible rfl)
  try simp only [Act.put, List.setIfInBounds_toArray, List.set_cons_zero, List.set_cons_succ]
  refine wpHK_take (i := 4) (oi := Oper.mk (some 58) _ _ _ _ _) (v := ?_) rfl (by kernel_rfl) (by kernel_rfl) (by kernel_rfl) (by kernel_rfl) (fun _ _ _ h => h) (Or.inl ⟨by rfl, ?_⟩) (by assumption) ?_
  rotate_left
  · (intro w' hSw; (try dsimp only at hSw); (obtain ⟨⟨s1, s2⟩, ⟨s3, s4⟩⟩ := hSw); go_simp; try with_reducible rfl)
  try simp only [Act.put, List.setIfInBounds_toArray, List.set_cons_zero, List.set_cons_succ]
  refine wpHK_take (i := 5) (oi := Oper.mk (some 59) _ _ _ _ _) (v := ?_) rfl (by kernel_rfl) (by kernel_rfl) (by kernel_rfl) (by kernel_rfl) (fun _ _ _ h => h) (Or.inl ⟨by rfl, ?_⟩) (by assumption) ?_
  rotate_left
  · (intro w' hSw; (try dsimp only at hSw); (obtain ⟨⟨s1, s2⟩, ⟨s3, s4⟩⟩ := hSw); go_simp; try with_reducible rfl)
  try simp only [Act.put, List.setIfInBounds_toArray, List.set_cons_zero, List.set_cons_succ]
  refine wpHK_take (i := 6) (oi := Oper.mk (some 60) _ _ _ _ _) (v := ?_) rfl (by kernel_rfl) (by kernel_rfl) (by kernel_rfl) (by kernel_rfl) (fun _ _ _ h => h) (Or.inl ⟨by rfl, ?_⟩) (by assumption) ?_
  rotate_left
  · (intro w' hSw; (try dsimp only at hSw); (obtain ⟨⟨s1, s2⟩, ⟨s3, s4⟩⟩ := hSw); go_simp; try with_reducible rfl)
  try simp only [Act.put, List.setIfInBounds_toArray, List.set_cons_zero, List.set_cons_succ]
  refine wpHK_take (i := 7) (oi := Oper.mk (some 61) _ _ _ _ _) (v := ?_) rfl (by kernel_rfl) (by kernel_rfl) (by kernel_rfl) (by kernel_rfl) (fun _ _ _ h => h) (Or.inl ⟨by rfl, ?_⟩) (by assumption) ?_
  rotate_left
  · (intro w' hSw; (try dsimp only at hSw); (obtain ⟨⟨s1, s2⟩, ⟨s3, s4⟩⟩ := hSw); go_simp; try with_reducible rfl)
  try simp only [Act.put, List.setIfInBounds_toArray, List.set_cons_zero, List.set_cons_succ]
  refine wpHK_take (i := 8) (oi := Oper.mk (some 62) _ _ _ _ _) (v := ?_) rfl (by kernel_rfl) (by kernel_rfl) (by kernel_rfl) (by kernel_rfl) (fun _ _ _ h => h) (Or.inl ⟨by rfl, ?_⟩) (by assumption) ?_
  rotate_left
  · (intro w' hSw; (try dsimp only at hSw); (obtain ⟨⟨s1, s2⟩, ⟨s3, s4⟩⟩ := hSw); go_simp; try with_reducible rfl)
  try simp only [Act.put, List.setIfInBounds_toArray, List.set_cons_zero, List.set_cons_succ]
  refine wpHK_take (i := 9) (oi := Oper.mk (some 63) _ _ _ _ _) (v := ?_) rfl (by kernel_rfl) (by kernel_rfl) (by kernel_rfl) (by kernel_rfl) (fun _ _ _ h => h) (Or.inl ⟨by rfl, ?_⟩) (by assumption) ?_
  rotate_left
  · (intro w' hSw; (try dsimp only at hSw); (obtain ⟨⟨s1, s2⟩, ⟨s3, s4⟩⟩ := hSw); go_simp; try with_reducible rfl)
  try simp only [Act.put, List.setIfInBounds_toArray, List.set_cons_zero, List.set_cons_succ]
  refine wpHK_one (j := 10) (o := Oper.mk (some 64) _ _ _ _ _) rfl (by kernel_rfl) (fun K hK => ?_)
  go_simp
  refine (Hp.out).mono ?_
  rintro e w5 ⟨A5, l5, rfl, hw5, hv5, hr5, hb5, hcl5⟩
  try simp only []
  have hb5' : Below w.heap.size w w5 := undrewN (undrew hb5)
  have bcell5 : ∀ {b o : Nat}, b < w.heap.size → w5.cell? ⟨b, o, none⟩ = w.cell? ⟨b, o, none⟩ := fun {b o} h => hb5'.cell (p := ⟨b, o, none⟩) h
  have hz5 := hz.below hb5'
  have hC5 : (w5.cell? ⟨gx, 0, none⟩ = some (.bool sx) ∧ w5.cell? ⟨gx, 1, none⟩ = some (.slice Ax nx cx)) ∧ (w5.cell? ⟨gy, 0, none⟩ = some (.bool sy) ∧ w5.cell? ⟨gy, 1, none⟩ = some (.slice Ay ny cy)) := ⟨⟨(bcell5 glx).trans x0, (bcell5 glx).trans x1⟩, ⟨(bcell5 gly).trans y0, (bcell5 gly).trans y1⟩⟩
  refine hK.out _ _ hC5 (fun _ => ?_)
  clear hK K hHeld
  have hHeld := hC5
  try simp only [Act.put, List.setIfInBounds_toArray, List.set_cons_zero, List.set_cons_succ]
  refine wpHK_tail (j := 11) (o := Oper.mk (some 65) _ _ _ _ _) rfl (by kernel_rfl) (by decide) (fun K hK => ?_)
  go_simp
  refine (is_any _ hz5 hr5 (Nat.le_refl _) rfl (Nat.le_refl _) hcl5 hw5).mono ?_
  rintro e w6 ⟨rfl, hi6, hg6⟩
  try simp only []
  refine hK.out _ _ ?_
  clear hK K
  try simp only [Act.put, List.setIfInBounds_toArray, List.set_cons_zero, List.set_cons_succ]
  refine wpHK_assign (j := 12) (o := Oper.mk (some 8) _ _ _ _ _) rfl (by kernel_rfl) (by decide) rfl rfl ?_
  try simp only [Act.put, List.setIfInBounds_toArray, List.set_cons_zero, List.set_cons_succ]
  refine wpHK_done (by kernel_rfl) ?_ _
  refine NoPanic.normal ?_
  go_wp2_with fail
  go_ret
  refine ⟨rfl, ?_, grown_lift hb5' hg6⟩
  rw [hv5, val_w, val_w, add_l x y.natAbs neg Hl.out.2.2.1 (Nat.le_of_lt Hl.out.2.2.2)] at hi6
  exact hi6
theorem add_any {w : World} {g gx gy : Nat} {x y : Int} {neg : Bool} (hz : IntS w g) (hx : IntB w gx x) (hy : IntB w gy y) (hxl : (wds x.natAbs).length ≤ 900000000) (hyl : (wds y.natAbs).length ≤ 900000000) :
    Calls Try.prog 100 #[.pointer (some ⟨g, 0, none⟩), .pointer (some ⟨gx, 0, none⟩), .pointer (some ⟨gy, 0, none⟩), .bool neg] w (Puts w g (x + sgn neg y.natAbs)) := by
  by_cases hn : neg = decide (x < 0)
  · exact add_same hz hx hy hxl hyl hn
  · rcases Nat.lt_or_ge x.natAbs y.natAbs with h | h
    · exact add_lt hz hx hy hxl hyl hn h
    · exact add_ge hz hx hy hxl hyl hn h
end Go.Proofs.Ytpnginnjbdedbaa

/- *big.Int: Set, Lsh, Neg, Abs, Add, Sub, SetInt64, NewInt (printed by gen_int2.py). -/
namespace Go.Proofs.Ytpnginnjbdedbaa
open Go.RowKit
open Wh
set_option linter.unusedSimpArgs false

theorem stepW_append {w : World} {ops : Array Oper} {o : Oper} {a : Act} {K : Act → World → Prop} {Q : Exit → Act → World → Prop} {E : Prop} (hgd : o.guard = none) (s x : Operand)
    (ho : o.op = .call { callee := .builtin .append, args := #[s, x], argTypes := #[80, 80] }) (B : Nat) (v : Value) (l : List Nat) (hown : OwnW w B v l) (hs : a.eval s = v)
    (B' : Nat) (A : Option Addr) (news : List Nat) (hr : ReadsW w B' A news) (m c : Nat) (hm : m = news.length) (hx : a.eval x = .slice A m c) (hlen : l.length + news.length ≤ 35184372088830) (hbase : B ≤ w.heap.size)
    (h : ∀ A' n' c' w', OwnW w' B (.slice A' n' c') (l ++ news) → w.grownBy w' v.ownBlock → K (a.put o.dst (.slice A' n' c')) w') :
    if Region.wanted o (yielded ops a.tmps) = true then Oper.wp Try.prog o a w K Q else E := by
  have hw : Region.wanted o (yielded ops a.tmps) = true := by simp [Region.wanted, hgd]
  rw [if_pos hw]
  obtain ⟨i0, hi, hz0, hz1, hz2⟩ := info_parts infoW
  subst hm
  refine wp_append_any w s x 80 ho B 98 i0 (.int .u32 0) 1 4 Try.underlying80 hi hz0 hz1 hz2 rfl (by decide) v l.length (l.map wv) hs hown B' A news.length c (news.map wv) hx hr.1 (wv_one _) (by unfold maxLen; omega) (by omega) hbase ?_
  intro v' w' h1 h2 h3
  have h4 : OwnW w' B v' (l ++ news) := by
    unfold OwnW
    rw [List.length_append, List.map_append]
    exact h1
  obtain ⟨A', c', rfl, _⟩ := h4.form
  exact h A' _ c' w' h4 h2
theorem below_of_grown {w w' : World} (h : w.grownBy w' none) : Below w.heap.size w w' := ⟨h.os, h.tape, h.output, h.size, fun i hi => h.block i hi (by simp)⟩
theorem below_new {w w1 : World} {o : Obj} (h : (w.alloc o).grownBy w1 (some w.heap.size)) : Below w.heap.size w w1 := ((Below.refl _ _).alloc (Nat.le_refl _) o).grown h (by simp) (fun k hk => by injection hk with hk; omega)
theorem abs_dec (x : Int) : false = decide ((x.natAbs : Int) < 0) := by
  have : ¬ ((x.natAbs : Int) < 0) := by omega
  simp [this]
theorem puts_self {w w' : World} {g : Nat} {z z' : Int} {e : Ending} (h : Puts w g z e w') (he : z = z') : Puts w g z' e w' := he ▸ h

set_option maxRecDepth 100000 in
set_option maxHeartbeats 4000000 in
theorem set_any {w : World} {g gx : Nat} {x : Int} (hz : IntS w g) (hx : IntB w gx x) (hxl : (wds x.natAbs).length ≤ 900000000) :
    Calls Try.prog 105 #[.pointer (some ⟨g, 0, none⟩), .pointer (some ⟨gx, 0, none⟩)] w (Puts w g x) := by
  obtain ⟨sx, Ax, nx, cx, x0, x1, Hx, hxc, hxcl, rx⟩ := hx.opened
  have glx := hx.lt
  have Hr := Lib.hid (And.intro rx hxl)
  clear rx hxl
  go_enter Try.func105, Try.ntmps105
  go_wp2_with fail
  refine wp_region_noPanic ?_
  refine wp_region_HK (fun w' => (w'.cell? ⟨gx, 0, none⟩ = some (.bool sx) ∧ w'.cell? ⟨gx, 1, none⟩ = some (.slice Ax nx cx))) 10 (by kernel_rfl) ⟨x0, x1⟩ (fun hHeld => ?_)
  refine wpHK_take (i := 0) (oi := Oper.mk (some 5) _ _ _ _ _) (v := ?_) rfl (by kernel_rfl) (by kernel_rfl) (by kernel_rfl) (by kernel_rfl) (fun _ _ _ h => h) (Or.inl ⟨by rfl, ?_⟩) (by assumption) ?_
  rotate_left
  · (intro w' hSw; (try dsimp only at hSw); (obtain ⟨s1, s2⟩ := hSw); go_simp; try with_reducible rfl)
  try simp only [Act.put, List.setIfInBounds_toArray, List.set_cons_zero, List.set_cons_succ]
  refine wpHK_take (i := 1) (oi := Oper.mk (some 6) _ _ _ _ _) (v := ?_) rfl (by kernel_rfl) (by kernel_rfl) (by kernel_rfl) (by kernel_rfl) (fun _ _ _ h => h) (Or.inl ⟨by rfl, ?_⟩) (by assumption) ?_
  rotate_left
  · (intro w' hSw; (try dsimp only at hSw); (obtain ⟨s1, s2⟩ := hSw); go_simp; try with_reducible rfl)
  try simp only [Act.put, List.setIfInBounds_toArray, List.set_cons_zero, List.set_cons_succ]
  refine wpHK_take (i := 2) (oi := Oper.mk (some 7) _ _ _ _ _) (v := ?_) rfl (by kernel_rfl) (by kernel_rfl) (by kernel_rfl) (by kernel_rfl) (fun _ _ _ h => h) (Or.inl ⟨by rfl, ?_⟩) (by assumption) ?_
  rotate_left
  · (intro w' hSw; (try dsimp only at hSw); (obtain ⟨s1, s2⟩ := hSw); go_simp; try with_reducible rfl)
  try simp only [Act.put, List.setIfInBounds_toArray, List.set_cons_zero, List.set_cons_succ]
  refine wpHK_take (i := 3) (oi := Oper.mk (some 8) _ _ _ _ _) (v := ?_) rfl (by kernel_rfl) (by kernel_rfl) (by kernel_rfl) (by kernel_rfl) (fun _ _ _ h => h) (Or.inl ⟨by rfl, ?_⟩) (by assumption) ?_
  rotate_left
  · (intro w' hSw; (try dsimp only at hSw); (obtain ⟨s1, s2⟩ := hSw); go_simp; try with_reducible rfl)
  try simp only [Act.put, List.setIfInBounds_toArray, List.set_cons_zero, List.set_cons_succ]
  refine wpHK_take (i := 4) (oi := Oper.mk (some 9) _ _ _ _ _) (v := ?_) rfl (by kernel_rfl) (by kernel_rfl) (by kernel_rfl) (by kernel_rfl) (fun _ _ _ h => h) (Or.inl ⟨by rfl, ?_⟩) (by assumption) ?_
  rotate_left
  · (intro w' hSw; (try dsimp only at hSw); (obtain ⟨s1, s2⟩ := hSw); go_simp; try with_reducible rfl)
  try simp only [Act.put, List.setIfInBounds_toArray, List.set_cons_zero, List.set_cons_succ]
  refine wpHK_take (i := 5) (oi := Oper.mk (some 10) _ _ _ _ _) (v := ?_) rfl (by kernel_rfl) (by kernel_rfl) (by kernel_rfl) (by kernel_rfl) (fun _ _ _ h => h) (Or.inl ⟨by rfl, ?_⟩) (by assumption) ?_
  rotate_left
  · (intro w' hSw; (try dsimp only at hSw); (obtain ⟨s1, s2⟩ := hSw); go_simp; try with_reducible rfl)
  try simp only [Act.put, List.setIfInBounds_toArray, List.set_cons_zero, List.set_cons_succ]
  refine wpHK_take (i := 6) (oi := Oper.mk (some 11) _ _ _ _ _) (v := ?_) rfl (by kernel_rfl) (by kernel_rfl) (by kernel_rfl) (by kernel_rfl) (fun _ _ _ h => h) (Or.inl ⟨by rfl, ?_⟩) (by assumption) ?_
  rotate_left
  · (intro w' hSw; (try dsimp only at hSw); (obtain ⟨s1, s2⟩ := hSw); go_simp; try with_reducible rfl)
  try simp only [Act.put, List.setIfInBounds_toArray, List.set_cons_zero, List.set_cons_succ]
  refine wpHK_take (i := 7) (oi := Oper.mk (some 12) _ _ _ _ _) (v := ?_) rfl (by kernel_rfl) (by kernel_rfl) (by kernel_rfl) (by kernel_rfl) (fun _ _ _ h => h) (Or.inl ⟨by rfl, ?_⟩) (by assumption) ?_
  rotate_left
  · (intro w' hSw; (try dsimp only at hSw); (obtain ⟨s1, s2⟩ := hSw); go_simp; try with_reducible rfl)
  try simp only [Act.put, List.setIfInBounds_toArray, List.set_cons_zero, List.set_cons_succ]
  refine wpHK_take (i := 8) (oi := Oper.mk (some 13) _ _ _ _ _) (v := ?_) rfl (by kernel_rfl) (by kernel_rfl) (by kernel_rfl) (by kernel_rfl) (fun _ _ _ h => h) (Or.inl ⟨by rfl, ?_⟩) (by assumption) ?_
  rotate_left
  · (intro w' hSw; (try dsimp only at hSw); (obtain ⟨s1, s2⟩ := hSw); go_simp; try with_reducible rfl)
  try simp only [Act.put, List.setIfInBounds_toArray, List.set_cons_zero, List.set_cons_succ]
  refine wpHK_one (j := 9) (o := Oper.mk (some 14) _ _ _ _ _) rfl (by kernel_rfl) (fun K hK => ?_)
  refine stepW_append (by rfl) (.const (.slice none 0 0)) (.tmp 13) (by rfl) w.heap.size _ [] (OwnW.nil _ _) (by rfl) _ _ (wds x.natAbs) (Hr.out.1.drewN 1) nx cx Hx.out.2 (by rfl) (by have := Hr.out.2; simp only [List.length_nil]; omega) (Nat.le_refl _) ?_
  intro A5 n5 c5 w5 ho5 hg5
  rw [List.nil_append] at ho5
  have hb5 := below_of_grown hg5
  have hb5' : Below w.heap.size w w5 := undrew hb5
  have bcell5 : ∀ {b o : Nat}, b < w.heap.size → w5.cell? ⟨b, o, none⟩ = w.cell? ⟨b, o, none⟩ := fun {b o} h => hb5'.cell (p := ⟨b, o, none⟩) h
  have hz5 := hz.below hb5'
  have hC5 : (w5.cell? ⟨gx, 0, none⟩ = some (.bool sx) ∧ w5.cell? ⟨gx, 1, none⟩ = some (.slice Ax nx cx)) := ⟨(bcell5 glx).trans x0, (bcell5 glx).trans x1⟩
  refine hK.out _ _ hC5 (fun _ => ?_)
  clear hK K hHeld
  have hHeld := hC5
  try simp only [Act.put, List.setIfInBounds_toArray, List.set_cons_zero, List.set_cons_succ]
  refine wpHK_tail (j := 10) (o := Oper.mk (some 15) _ _ _ _ _) rfl (by kernel_rfl) (by decide) (fun K hK => ?_)
  go_simp
  refine (is_any _ hz5 ho5.reads (Nat.le_refl _) ho5.len.1 ho5.len.2.1 ho5.len.2.2 (wd_w _)).mono ?_
  rintro e w6 ⟨rfl, hi6, hg6⟩
  try simp only []
  refine hK.out _ _ ?_
  clear hK K
  try simp only [Act.put, List.setIfInBounds_toArray, List.set_cons_zero, List.set_cons_succ]
  refine wpHK_assign (j := 11) (o := Oper.mk (some 4) _ _ _ _ _) rfl (by kernel_rfl) (by decide) rfl rfl ?_
  try simp only [Act.put, List.setIfInBounds_toArray, List.set_cons_zero, List.set_cons_succ]
  refine wpHK_done (by kernel_rfl) ?_ _
  refine NoPanic.normal ?_
  go_wp2_with fail
  go_ret
  refine ⟨rfl, ?_, grown_lift hb5' hg6⟩
  rw [val_w, Hx.out.1, sgn_of] at hi6
  exact hi6
theorem sgn_shl (x : Int) (n : Nat) : sgn (decide (x < 0)) (x.natAbs * 2 ^ n) = x * 2 ^ n := by
  have h := sgn_mul x (2 ^ n)
  have hp : ¬ ((2 : Int) ^ n < 0) := by have : (0 : Int) ≤ 2 ^ n := Int.pow_nonneg (by decide); omega
  have ha : ((2 : Int) ^ n).natAbs = 2 ^ n := by rw [Int.natAbs_pow]; rfl
  rw [ha] at h
  simp only [hp, decide_false, Bool.bne_false] at h
  exact h

set_option maxRecDepth 100000 in
set_option maxHeartbeats 4000000 in
theorem lsh_any {w : World} {g gx n : Nat} {x : Int} (hz : IntS w g) (hx : IntB w gx x) (hxl : (wds x.natAbs).length ≤ 900000000) (hn : n ≤ 900000000) :
    Calls Try.prog 75 #[.pointer (some ⟨g, 0, none⟩), .pointer (some ⟨gx, 0, none⟩), .int .u64 (n : Int)] w (Puts w g (x * 2 ^ n)) := by
  obtain ⟨sx, Ax, nx, cx, x0, x1, Hx, hxc, hxcl, rx⟩ := hx.opened
  have glx := hx.lt
  have Hp := Lib.hid (left_any (c := cx) (n := n) (rx.drewN 1) (Nat.le_refl _) Hx.out.2 (by have := Hx.out.2; omega) (by omega) (wd_w _))
  clear rx hxl
  go_enter Try.func75, Try.ntmps75
  go_wp2_with fail
  have hq1 : IntKind.i64.wrap (n : Int) = (n : Int) := IntWalk.i64_in _ (by omega)
  refine wp_region_noPanic ?_
  refine wp_region_HK (fun w' => (w'.cell? ⟨gx, 0, none⟩ = some (.bool sx) ∧ w'.cell? ⟨gx, 1, none⟩ = some (.slice Ax nx cx))) 12 (by kernel_rfl) ⟨x0, x1⟩ (fun hHeld => ?_)
  refine wpHK_take (i := 0) (oi := Oper.mk (some 7) _ _ _ _ _) (v := ?_) rfl (by kernel_rfl) (by kernel_rfl) (by kernel_rfl) (by kernel_rfl) (fun _ _ _ h => h) (Or.inl ⟨by rfl, ?_⟩) (by assumption) ?_
  rotate_left
  · (intro w' hSw; (try dsimp only at hSw); (obtain ⟨s1, s2⟩ := hSw); go_simp; try with_reducible rfl)
  try simp only [Act.put, List.setIfInBounds_toArray, List.set_cons_zero, List.set_cons_succ]
  refine wpHK_take (i := 1) (oi := Oper.mk (some 8) _ _ _ _ _) (v := ?_) rfl (by kernel_rfl) (by kernel_rfl) (by kernel_rfl) (by kernel_rfl) (fun _ _ _ h => h) (Or.inl ⟨by rfl, ?_⟩) (by assumption) ?_
  rotate_left
  · (intro w' hSw; (try dsimp only at hSw); (obtain ⟨s1, s2⟩ := hSw); go_simp; try with_reducible rfl)
  try simp only [Act.put, List.setIfInBounds_toArray, List.set_cons_zero, List.set_cons_succ]
  refine wpHK_take (i := 2) (oi := Oper.mk (some 9) _ _ _ _ _) (v := ?_) rfl (by kernel_rfl) (by kernel_rfl) (by kernel_rfl) (by kernel_rfl) (fun _ _ _ h => h) (Or.inl ⟨by rfl, ?_⟩) (by assumption) ?_
  rotate_left
  · (intro w' hSw; (try dsimp only at hSw); (obtain ⟨s1, s2⟩ := hSw); go_simp; try with_reducible rfl)
  try simp only [Act.put, List.setIfInBounds_toArray, List.set_cons_zero, List.set_cons_succ]
  refine wpHK_take (i := 3) (oi := Oper.mk (some 10) _ _ _ _ _) (v := ?_) rfl (by kernel_rfl) (by kernel_rfl) (by kernel_rfl) (by kernel_rfl) (fun _ _ _ h => h) (Or.inl ⟨by rfl, ?_⟩) (by assumption) ?_
  rotate_left
  · (intro w' hSw; (try dsimp only at hSw); (obtain ⟨s1, s2⟩ := hSw); go_simp; try with_reducible rfl)
  try simp only [Act.put, List.setIfInBounds_toArray, List.set_cons_zero, List.set_cons_succ]
  refine wpHK_take (i := 4) (oi := Oper.mk (some 11) _ _ _ _ _) (v := ?_) rfl (by kernel_rfl) (by kernel_rfl) (by kernel_rfl) (by kernel_rfl) (fun _ _ _ h => h) (Or.inl ⟨by rfl, ?_⟩) (by assumption) ?_
  rotate_left
  · (intro w' hSw; (try dsimp only at hSw); (obtain ⟨s1, s2⟩ := hSw); go_simp; try with_reducible rfl)
  try simp only [Act.put, List.setIfInBounds_toArray, List.set_cons_zero, List.set_cons_succ]
  refine wpHK_take (i := 5) (oi := Oper.mk (some 12) _ _ _ _ _) (v := ?_) rfl (by kernel_rfl) (by kernel_rfl) (by kernel_rfl) (by kernel_rfl) (fun _ _ _ h => h) (Or.inl ⟨by rfl, ?_⟩) (by assumption) ?_
  rotate_left
  · (intro w' hSw; (try dsimp only at hSw); (obtain ⟨s1, s2⟩ := hSw); go_simp; try with_reducible rfl)
  try simp only [Act.put, List.setIfInBounds_toArray, List.set_cons_zero, List.set_cons_succ]
  refine wpHK_take (i := 6) (oi := Oper.mk (some 13) _ _ _ _ _) (v := ?_) rfl (by kernel_rfl) (by kernel_rfl) (by kernel_rfl) (by kernel_rfl) (fun _ _ _ h => h) (Or.inl ⟨by rfl, ?_⟩) (by assumption) ?_
  rotate_left
  · (intro w' hSw; (try dsimp only at hSw); (obtain ⟨s1, s2⟩ := hSw); go_simp; try with_reducible rfl)
  try simp only [Act.put, List.setIfInBounds_toArray, List.set_cons_zero, List.set_cons_succ]
  refine wpHK_take (i := 7) (oi := Oper.mk (some 14) _ _ _ _ _) (v := ?_) rfl (by kernel_rfl) (by kernel_rfl) (by kernel_rfl) (by kernel_rfl) (fun _ _ _ h => h) (Or.inl ⟨by rfl, ?_⟩) (by assumption) ?_
  rotate_left
  · (intro w' hSw; (try dsimp only at hSw); (obtain ⟨s1, s2⟩ := hSw); go_simp; try with_reducible rfl)
  try simp only [Act.put, List.setIfInBounds_toArray, List.set_cons_zero, List.set_cons_succ]
  refine wpHK_take (i := 8) (oi := Oper.mk (some 15) _ _ _ _ _) (v := ?_) rfl (by kernel_rfl) (by kernel_rfl) (by kernel_rfl) (by kernel_rfl) (fun _ _ _ h => h) (Or.inl ⟨by rfl, ?_⟩) (by assumption) ?_
  rotate_left
  · (intro w' hSw; (try dsimp only at hSw); (obtain ⟨s1, s2⟩ := hSw); go_simp; try with_reducible rfl)
  try simp only [Act.put, List.setIfInBounds_toArray, List.set_cons_zero, List.set_cons_succ]
  refine wpHK_take (i := 9) (oi := Oper.mk (some 16) _ _ _ _ _) (v := ?_) rfl (by kernel_rfl) (by kernel_rfl) (by kernel_rfl) (by kernel_rfl) (fun _ _ _ h => h) (Or.inl ⟨by rfl, ?_⟩) (by assumption) ?_
  rotate_left
  · (intro w' hSw; (try dsimp only at hSw); (obtain ⟨s1, s2⟩ := hSw); go_simp; try with_reducible rfl)
  try simp only [Act.put, List.setIfInBounds_toArray, List.set_cons_zero, List.set_cons_succ]
  refine wpHK_take (i := 10) (oi := Oper.mk (some 17) _ _ _ _ _) (v := ?_) rfl (by kernel_rfl) (by kernel_rfl) (by kernel_rfl) (by kernel_rfl) (fun _ _ _ h => h) (Or.inl ⟨by rfl, ?_⟩) (by assumption) ?_
  rotate_left
  · (intro w' hSw; (try dsimp only at hSw); (obtain ⟨s1, s2⟩ := hSw); go_simp; try with_reducible rfl)
  try simp only [Act.put, List.setIfInBounds_toArray, List.set_cons_zero, List.set_cons_succ]
  refine wpHK_one (j := 11) (o := Oper.mk (some 18) _ _ _ _ _) rfl (by kernel_rfl) (fun K hK => ?_)
  go_simp
  refine (Hp.out).mono ?_
  rintro e w5 ⟨A5, m5, c5, rfl, hm5, hc5, hcl5, hr5, hb5⟩
  try simp only []
  have hb5' : Below w.heap.size w w5 := undrew hb5
  have bcell5 : ∀ {b o : Nat}, b < w.heap.size → w5.cell? ⟨b, o, none⟩ = w.cell? ⟨b, o, none⟩ := fun {b o} h => hb5'.cell (p := ⟨b, o, none⟩) h
  have hz5 := hz.below hb5'
  have hC5 : (w5.cell? ⟨gx, 0, none⟩ = some (.bool sx) ∧ w5.cell? ⟨gx, 1, none⟩ = some (.slice Ax nx cx)) := ⟨(bcell5 glx).trans x0, (bcell5 glx).trans x1⟩
  refine hK.out _ _ hC5 (fun _ => ?_)
  clear hK K hHeld
  have hHeld := hC5
  try simp only [Act.put, List.setIfInBounds_toArray, List.set_cons_zero, List.set_cons_succ]
  refine wpHK_tail (j := 12) (o := Oper.mk (some 19) _ _ _ _ _) rfl (by kernel_rfl) (by decide) (fun K hK => ?_)
  go_simp
  refine (is_any _ hz5 hr5 (Nat.le_refl _) hm5.out hc5 hcl5 (wd_w _)).mono ?_
  rintro e w6 ⟨rfl, hi6, hg6⟩
  try simp only []
  refine hK.out _ _ ?_
  clear hK K
  try simp only [Act.put, List.setIfInBounds_toArray, List.set_cons_zero, List.set_cons_succ]
  refine wpHK_assign (j := 13) (o := Oper.mk (some 6) _ _ _ _ _) rfl (by kernel_rfl) (by decide) rfl rfl ?_
  try simp only [Act.put, List.setIfInBounds_toArray, List.set_cons_zero, List.set_cons_succ]
  refine wpHK_done (by kernel_rfl) ?_ _
  refine NoPanic.normal ?_
  go_wp2_with fail
  go_ret
  refine ⟨rfl, ?_, grown_lift hb5' hg6⟩
  rw [val_w, val_w, Hx.out.1, sgn_shl] at hi6
  exact hi6

set_option maxRecDepth 100000 in
set_option maxHeartbeats 4000000 in
theorem neg_any {w : World} {g gx : Nat} {x : Int} (hz : IntS w g) (hx : IntB w gx x) (hxl : (wds x.natAbs).length ≤ 900000000) :
    Calls Try.prog 99 #[.pointer (some ⟨g, 0, none⟩), .pointer (some ⟨gx, 0, none⟩)] w (Puts w g (-x)) := by
  have HS := Lib.hid (set_any hz hx hxl)
  have hlt := hz.lt
  have fin : ∀ (w1 : World) (s s' : Bool) (A : Option Addr) (n c : Nat), Blk w1 g 82 (icells s A n c) → Hid (s = decide (x < 0) ∧ n = (wds x.natAbs).length) → n ≤ c → c ≤ 9223372036854775807 → ReadsW w1 w1.heap.size A (wds x.natAbs) → w.grownBy w1 (some g) → s' = (!s && decide (0 < n)) → Puts w g (-x) (.returned (.pointer (some ⟨g, 0, none⟩))) (w1.setCell ⟨g, 0, none⟩ (.bool s')) := fun w1 s s' A n c hb hh h1 h2 hr hg he => by
    have hg2 : w1.grownBy (w1.setCell ⟨g, 0, none⟩ (.bool s')) (some g) := only_setCell (p := ⟨g, 0, none⟩) (World.grownBy.refl w1 (some g)) (.inl rfl) _
    refine ⟨rfl, ⟨s', A, n, c, hb.set_ 0 _, ⟨?_, by rw [Int.natAbs_neg]; exact hh.out.2⟩, h1, h2, ?_⟩, ?_⟩
    · rw [he, hh.out.1, hh.out.2]
      by_cases h0 : x = 0
      · subst h0; simp [wds_zero]
      · have hp : 0 < x.natAbs := by omega
        rw [wds_pos hp]
        by_cases h3 : x < 0
        · simp [h3]; omega
        · simp [h3]; omega
    · rw [Int.natAbs_neg]
      exact (hr.off ⟨_, _, _, _, hb⟩ hg2 (Nat.le_refl _)).more hg2.size
    · exact only_setCell (p := ⟨g, 0, none⟩) hg (.inl rfl) _
  have Fin := Lib.hid fin
  clear hz hx hxl fin
  go_enter Try.func99, Try.ntmps99
  go_wp2_with fail
  refine HS.out.mono ?_
  rintro e w1 ⟨rfl, hi1, hg1⟩
  obtain ⟨s, A, n, c, hb, hh, h1, h2, hr⟩ := hi1
  have hc0 : w1.cell? ⟨g, 0, none⟩ = some (.bool s) := hb.cell 0
  have hc1 : w1.cell? ⟨g, 1, none⟩ = some (.slice A n c) := hb.cell 1
  have hf0 := hb.frozen 0
  have Hb := Lib.hid (And.intro hb (And.intro hr hg1))
  clear hb hr hg1
  cases s
  · by_cases h0 : 0 < n
    · have h0i : (0 : Int) < (n : Int) := by omega
      go_wp2_with fail
      go_ret
      exact Fin.out _ _ _ _ _ _ Hb.out.1 hh h1 h2 Hb.out.2.1 Hb.out.2.2 (by simp [h0])
    · have h3 : n = 0 := by omega
      subst h3
      go_wp2_with fail
      go_ret
      exact Fin.out _ _ _ _ _ _ Hb.out.1 hh h1 h2 Hb.out.2.1 Hb.out.2.2 (by simp)
  · go_wp2_with fail
    go_ret
    exact Fin.out _ _ _ _ _ _ Hb.out.1 hh h1 h2 Hb.out.2.1 Hb.out.2.2 (by simp)

set_option maxRecDepth 100000 in
set_option maxHeartbeats 4000000 in
theorem abs_any {w : World} {g gx : Nat} {x : Int} (hz : IntS w g) (hx : IntB w gx x) (hxl : (wds x.natAbs).length ≤ 900000000) :
    Calls Try.prog 66 #[.pointer (some ⟨g, 0, none⟩), .pointer (some ⟨gx, 0, none⟩)] w (Puts w g (x.natAbs : Int)) := by
  have HS := Lib.hid (set_any hz hx hxl)
  clear hz hx hxl
  go_enter Try.func66, Try.ntmps66
  go_wp2_with fail
  refine HS.out.mono ?_
  rintro e w1 ⟨rfl, hi1, hg1⟩
  obtain ⟨s, A, n, c, hb, hh, h1, h2, hr⟩ := hi1
  have hc0 : w1.cell? ⟨g, 0, none⟩ = some (.bool s) := hb.cell 0
  have hf0 := hb.frozen 0
  have Hb := Lib.hid (And.intro hb (And.intro hr hg1))
  clear hb hr hg1
  go_wp2_with fail
  go_ret
  have hg2 : w1.grownBy (w1.setCell ⟨g, 0, none⟩ (.bool false)) (some g) := only_setCell (p := ⟨g, 0, none⟩) (World.grownBy.refl w1 (some g)) (.inl rfl) _
  refine ⟨rfl, ⟨false, A, n, c, Hb.out.1.set_ 0 _, ⟨abs_dec x, by rw [Int.natAbs_natCast]; exact hh.out.2⟩, h1, h2, ?_⟩, only_setCell (p := ⟨g, 0, none⟩) Hb.out.2.2 (.inl rfl) _⟩
  rw [Int.natAbs_natCast]
  exact (Hb.out.2.1.off ⟨_, _, _, _, Hb.out.1⟩ hg2 (Nat.le_refl _)).more hg2.size

set_option maxRecDepth 100000 in
set_option maxHeartbeats 4000000 in
theorem add2_any {w : World} {g gx gy : Nat} {x y : Int} (hz : IntS w g) (hx : IntB w gx x) (hy : IntB w gy y) (hxl : (wds x.natAbs).length ≤ 900000000) (hyl : (wds y.natAbs).length ≤ 900000000) :
    Calls Try.prog 63 #[.pointer (some ⟨g, 0, none⟩), .pointer (some ⟨gx, 0, none⟩), .pointer (some ⟨gy, 0, none⟩)] w (Puts w g (x + y)) := by
  obtain ⟨sy, Ay, ny, cy, y0, y1, Hy, hyc, hycl, ry⟩ := hy.opened
  have HA := Lib.hid (add_any (neg := sy) hz hx hy hxl hyl)
  clear hz hx hy hxl hyl ry
  go_enter Try.func63, Try.ntmps63
  go_wp2_with fail
  refine HA.out.mono ?_
  rintro e w1 ⟨rfl, hi1, hg1⟩
  rw [Hy.out.1, sgn_of] at hi1
  go_wp2_with fail
  go_ret
  exact ⟨rfl, hi1, hg1⟩
theorem sgn_not (y : Int) : sgn (!decide (y < 0)) y.natAbs = -y := by
  unfold sgn
  by_cases h : y < 0 <;> simp [h] <;> omega

set_option maxRecDepth 100000 in
set_option maxHeartbeats 4000000 in
theorem sub2_any {w : World} {g gx gy : Nat} {x y : Int} (hz : IntS w g) (hx : IntB w gx x) (hy : IntB w gy y) (hxl : (wds x.natAbs).length ≤ 900000000) (hyl : (wds y.natAbs).length ≤ 900000000) :
    Calls Try.prog 81 #[.pointer (some ⟨g, 0, none⟩), .pointer (some ⟨gx, 0, none⟩), .pointer (some ⟨gy, 0, none⟩)] w (Puts w g (x - y)) := by
  obtain ⟨sy, Ay, ny, cy, y0, y1, Hy, hyc, hycl, ry⟩ := hy.opened
  have HA := Lib.hid (add_any (neg := (!sy)) hz hx hy hxl hyl)
  clear hz hx hy hxl hyl ry
  go_enter Try.func81, Try.ntmps81
  go_wp2_with fail
  refine HA.out.mono ?_
  rintro e w1 ⟨rfl, hi1, hg1⟩
  rw [Hy.out.1, sgn_not] at hi1
  go_wp2_with fail
  go_ret
  exact ⟨rfl, hi1, hg1⟩

set_option maxRecDepth 100000 in
set_option maxHeartbeats 4000000 in
theorem setint_any {w : World} {g : Nat} {n : Int} (hz : IntS w g) (h1 : -9223372036854775808 ≤ n) (h2 : n ≤ 9223372036854775807) :
    Calls Try.prog 115 #[.pointer (some ⟨g, 0, none⟩), .int .i64 n] w (Puts w g n) := by
  by_cases hn : n < 0
  · obtain ⟨m, rfl⟩ : ∃ m : Nat, n = -(m : Int) := ⟨n.natAbs, by omega⟩
    have HO := Lib.hid (of_any (w := w) (N := m) (by omega))
    have hu1 : IntKind.u64.wrap (-IntKind.u64.wrap (-(m : Int))) = (m : Int) := by rw [IntKind.wrap_u64, IntKind.wrap_u64]; omega
    have Hm := Lib.hid hn
    have hm1 : (0 : Int) < (m : Int) := by omega
    go_enter Try.func115, Try.ntmps115
    go_wp2_with fail
    refine HO.out.mono ?_
    rintro e w5 ⟨A5, m5, c5, rfl, hm5, hc5, hc52, hr5, hb5⟩
    have hz5 := hz.below hb5
    have HI := Lib.hid (is_any true hz5 hr5 (Nat.le_refl _) hm5 hc5 (by omega) (wd_w _))
    clear hm5
    have Hb5 := Lib.hid hb5
    clear hb5
    go_wp2_with fail
    refine HI.out.mono ?_
    rintro e w6 ⟨rfl, hi6, hg6⟩
    rw [val_w] at hi6
    go_wp2_with fail
    go_ret
    exact ⟨rfl, hi6, grown_lift Hb5.out hg6⟩
  · obtain ⟨m, rfl⟩ : ∃ m : Nat, n = (m : Int) := ⟨n.natAbs, by omega⟩
    have HO := Lib.hid (of_any (w := w) (N := m) (by omega))
    have hdec : decide ((m : Int) < 0) = false := by simp
    clear hn
    go_enter Try.func115, Try.ntmps115
    go_wp2_with fail
    refine HO.out.mono ?_
    rintro e w5 ⟨A5, m5, c5, rfl, hm5, hc5, hc52, hr5, hb5⟩
    have hz5 := hz.below hb5
    have HI := Lib.hid (is_any false hz5 hr5 (Nat.le_refl _) hm5 hc5 (by omega) (wd_w _))
    clear hm5
    have Hb5 := Lib.hid hb5
    clear hb5
    go_wp2_with fail
    refine HI.out.mono ?_
    rintro e w6 ⟨rfl, hi6, hg6⟩
    rw [val_w] at hi6
    go_wp2_with fail
    go_ret
    exact ⟨rfl, hi6, grown_lift Hb5.out hg6⟩

set_option maxRecDepth 100000 in
set_option maxHeartbeats 4000000 in
theorem newint_any {w : World} {n : Int} (h1 : -9223372036854775808 ≤ n) (h2 : n ≤ 9223372036854775807) :
    Calls Try.prog 91 #[.int .i64 n] w (fun e w' => e = .returned (.pointer (some ⟨w.heap.size, 0, none⟩)) ∧ IntB w' w.heap.size n ∧ Below w.heap.size w w') := by
  have hs := setint_any (IntB.zero w).slot h1 h2
  have HS := Lib.hid hs
  clear hs h1 h2
  go_enter Try.func91, Try.ntmps91
  go_wp2_with fail
  refine HS.out.mono ?_
  rintro e w1 ⟨rfl, hi1, hg1⟩
  go_wp2_with fail
  go_ret
  exact ⟨rfl, hi1, below_new hg1⟩
end Go.Proofs.Ytpnginnjbdedbaa

/- *big.Int: Sign, low, Int64, IsInt64, BitLen, Bit, Cmp. -/
namespace Go.Proofs.Ytpnginnjbdedbaa
open Go.RowKit
open Wh
set_option linter.unusedSimpArgs false

def sg (x : Int) : Int := if x = 0 then 0 else if x < 0 then -1 else 1
theorem len_pos {x : Int} : 0 < (wds x.natAbs).length ↔ x ≠ 0 := by
  constructor
  · intro h h0; subst h0; simp [wds_zero] at h
  · intro h; rw [wds_pos (by omega)]; simp

set_option maxRecDepth 100000 in
set_option maxHeartbeats 1000000 in
theorem sign_any {w : World} {gx : Nat} {x : Int} (hx : IntB w gx x) :
    Calls Try.prog 101 #[.pointer (some ⟨gx, 0, none⟩)] w (fun e w' => e = .returned (.int .i64 (sg x)) ∧ w = w') := by
  obtain ⟨sx, Ax, nx, cx, x0, x1, Hx, hxc, hxcl, rx⟩ := hx.opened
  clear rx hx
  by_cases h0 : x = 0
  · have hn : nx = 0 := by have := Hx.out.2; rw [h0] at this; simpa [wds_zero] using this
    have Hv := Lib.hid (show sg x = 0 by unfold sg; rw [if_pos h0])
    subst hn
    clear h0
    go_enter Try.func101, Try.ntmps101
    go_wp2
    go_ret
    exact ⟨by rw [Hv.out]; rfl, rfl⟩
  · have hn : 0 < nx := by have := Hx.out.2; rw [this]; exact len_pos.2 h0
    have hne : ¬ nx = 0 := by omega
    have hni : ((nx : Int) == 0) = false := by simp; omega
    by_cases h1 : x < 0
    · have hs : sx = true := by rw [Hx.out.1]; simp [h1]
      have Hv := Lib.hid (show sg x = -1 by unfold sg; rw [if_neg h0, if_pos h1])
      subst hs
      clear h0 h1
      go_enter Try.func101, Try.ntmps101
      go_wp2
      go_ret
      exact ⟨by rw [Hv.out]; rfl, rfl⟩
    · have hs : sx = false := by rw [Hx.out.1]; simp [h1]
      have Hv := Lib.hid (show sg x = 1 by unfold sg; rw [if_neg h0, if_neg h1])
      subst hs
      clear h0 h1
      go_enter Try.func101, Try.ntmps101
      go_wp2
      go_ret
      exact ⟨by rw [Hv.out]; rfl, rfl⟩

theorem mod_two {m : Nat} (h : 2 ≤ (wds m).length) : m % 18446744073709551616 = at_ (wds m) 1 * 4294967296 + at_ (wds m) 0 := by
  have e := val_split (wds m) 2 h
  rw [val_w, val_take_at, val_take_at, List.take_zero, val_nil, Nat.pow_zero, Nat.pow_one, Nat.one_mul, Nat.zero_add] at e
  have h0 := at_lt (wd_w m) 0
  have h1 := at_lt (wd_w m) 1
  generalize at_ (wds m) 0 = a at *
  generalize at_ (wds m) 1 = b at *
  generalize val ((wds m).drop 2) = c at *
  omega
set_option maxRecDepth 100000 in
set_option maxHeartbeats 1000000 in
theorem low_any {w : World} {gx : Nat} {x : Int} (hx : IntB w gx x) :
    Calls Try.prog 114 #[.pointer (some ⟨gx, 0, none⟩)] w (fun e w' => e = .returned (.int .u64 ((x.natAbs % 18446744073709551616 : Nat) : Int)) ∧ w = w') := by
  obtain ⟨sx, Ax, nx, cx, x0, x1, Hx, hxc, hxcl, rx⟩ := hx.opened
  clear hx
  have hn := Hx.out.2
  generalize hm : x.natAbs = m at *
  obtain ⟨v, hv⟩ : ∃ v, v = m % 18446744073709551616 := ⟨_, rfl⟩
  rw [← hv]
  rcases (show (wds m).length = 0 ∨ (wds m).length = 1 ∨ 2 ≤ (wds m).length by omega) with h | h | h
  · have h0 : m = 0 := by
      rcases Nat.eq_zero_or_pos m with h0 | h0
      · exact h0
      · rw [wds_pos h0] at h; simp at h
    have hn0 : nx = 0 := by omega
    have hv0 : v = 0 := by rw [hv, h0]
    subst hn0 hv0
    clear hv hm hn h h0 Hx rx
    go_enter Try.func114, Try.ntmps114
    go_wp2
    go_ret
    exact ⟨rfl, rfl⟩
  · have hn0 : nx = 1 := by omega
    obtain ⟨ad, rfl, hb1, c1⟩ := rx.at_ (k := 0) (by omega)
    have hlt : m < 4294967296 := by have := lt_of_len (n := m) (k := 1) (by omega); omega
    have hp : 0 < m := by
      rcases Nat.eq_zero_or_pos m with h0 | h0
      · rw [h0, wds_zero] at h; cases h
      · exact h0
    have he : (wds m)[0] = v := by
      have e : wds m = [m] := by rw [wds_pos hp, Nat.mod_eq_of_lt hlt, Nat.div_eq_of_lt hlt, wds_zero]
      simp only [e, List.getElem_cons_zero]
      rw [hv, Nat.mod_eq_of_lt (by omega)]
    rw [he, Addr.add_zero'] at c1
    have hvl : v ≤ 4294967295 := by rw [hv, Nat.mod_eq_of_lt (by omega)]; omega
    have hor : bits .or .u64 (0 : Int) (v : Int) = (v : Int) := by
      rw [show (0 : Int) = ((0 : Nat) : Int) from rfl, u64_or_nat _ _ (by omega) (by omega), Nat.zero_or]
    subst hn0
    clear hv hm hn h he Hx rx hlt hp
    go_enter Try.func114, Try.ntmps114
    go_wp2
    go_ret
    exact ⟨rfl, rfl⟩
  · obtain ⟨ad, rfl, hb1, c0⟩ := rx.at_ (k := 0) (by omega)
    obtain ⟨ad', e', _, c1⟩ := rx.at_ (k := 1) (by omega)
    injection e' with e'
    subst e'
    have hm2 := mod_two h
    rw [← at_get] at c0 c1
    have b0 := at_lt (wd_w m) 0
    have b1 := at_lt (wd_w m) 1
    rw [Addr.add_zero'] at c0
    rw [add_pos (by decide)] at c1
    have hso := shl_or b1 b0
    rw [← hm2, ← hv] at hso
    have hv2 : v ≤ 18446744073709551615 := by rw [hv]; omega
    have Hn := Lib.hid hn
    have hn2 : 2 ≤ nx := by omega
    have hn3 : (1 : Int) < (nx : Int) := by omega
    have hn4 : (0 : Int) < (nx : Int) := by omega
    generalize at_ (wds m) 0 = u0 at *
    generalize at_ (wds m) 1 = u1 at *
    clear hv hm hn h Hx rx hm2
    go_enter Try.func114, Try.ntmps114
    go_wp2
    go_ret
    exact ⟨rfl, rfl⟩

set_option maxRecDepth 100000 in
set_option maxHeartbeats 1000000 in
theorem int64_any {w : World} {gx : Nat} {x : Int} (hx : IntB w gx x) (h1 : -9223372036854775808 ≤ x) (h2 : x ≤ 9223372036854775807) :
    Calls Try.prog 89 #[.pointer (some ⟨gx, 0, none⟩)] w (fun e w' => e = .returned (.int .i64 x) ∧ w = w') := by
  have hlow := low_any hx
  obtain ⟨sx, Ax, nx, cx, x0, x1, Hx, hxc, hxcl, rx⟩ := hx.opened
  rw [Nat.mod_eq_of_lt (by omega)] at hlow
  clear rx hx x1
  by_cases hn : x < 0
  · obtain ⟨m, rfl⟩ : ∃ m : Nat, x = -(m : Int) := ⟨x.natAbs, by omega⟩
    have hs : sx = true := by rw [Hx.out.1]; simp; omega
    have e : (-(m : Int)).natAbs = m := by omega
    rw [e] at hlow
    have HL := Lib.hid hlow
    have HQ := Lib.hid (show wrap64 (-wrap64 (m : Int)) = -(m : Int) by unfold wrap64; omega)
    subst hs
    clear hlow e Hx hn h1 h2
    go_enter Try.func89, Try.ntmps89
    go_wp2_with (go_at_call 114; refine HL.out.mono ?_; rintro e w' ⟨rfl, rfl⟩)
    go_ret
    exact ⟨by rw [← HQ.out]; rfl, rfl⟩
  · obtain ⟨m, rfl⟩ : ∃ m : Nat, x = (m : Int) := ⟨x.natAbs, by omega⟩
    have hs : sx = false := by rw [Hx.out.1]; simp
    rw [Int.natAbs_natCast] at hlow
    have HL := Lib.hid hlow
    subst hs
    clear hlow Hx hn h1
    go_enter Try.func89, Try.ntmps89
    go_wp2_with (go_at_call 114; refine HL.out.mono ?_; rintro e w' ⟨rfl, rfl⟩)
    go_ret
    exact ⟨rfl, rfl⟩
theorem len_two {m : Nat} : (wds m).length ≤ 2 ↔ m < 18446744073709551616 := by
  constructor
  · intro h
    have := lt_of_len (n := m) (k := 2) h
    omega
  · intro h
    exact len_wds (k := 2) (by omega)
set_option maxRecDepth 100000 in
set_option maxHeartbeats 1000000 in
theorem isint64_any {w : World} {gx : Nat} {x : Int} (hx : IntB w gx x) :
    Calls Try.prog 88 #[.pointer (some ⟨gx, 0, none⟩)] w (fun e w' => e = .returned (.bool (decide (-9223372036854775808 ≤ x ∧ x ≤ 9223372036854775807))) ∧ w = w') := by
  have hlow := low_any hx
  obtain ⟨sx, Ax, nx, cx, x0, x1, Hx, hxc, hxcl, rx⟩ := hx.opened
  clear rx hx
  have hn := Hx.out.2
  have hs := Hx.out.1
  have hl2 := @len_two x.natAbs
  by_cases hlen : nx ≤ 2
  · have hm : x.natAbs < 18446744073709551616 := hl2.1 (by omega)
    rw [Nat.mod_eq_of_lt hm] at hlow
    obtain ⟨m, hmm⟩ : ∃ m, m = x.natAbs := ⟨_, rfl⟩
    rw [← hmm] at hlow
    have HL := Lib.hid hlow
    have hni : (nx : Int) ≤ 2 := by omega
    rcases (show m < 9223372036854775808 ∨ m = 9223372036854775808 ∨ 9223372036854775809 ≤ m by omega) with h | h | h
    · have hv : decide (-9223372036854775808 ≤ x ∧ x ≤ 9223372036854775807) = true := by simp; omega
      rw [hv]
      have hd : decide ((m : Int) < 9223372036854775808) = true := by simp; omega
      clear hlow hm hmm hn hs hl2 Hx hv h
      go_enter Try.func88, Try.ntmps88
      go_wp2_with (go_at_call 114; refine HL.out.mono ?_; rintro e w' ⟨rfl, rfl⟩)
      go_ret
      exact ⟨rfl, rfl⟩
    · have hv : decide (-9223372036854775808 ≤ x ∧ x ≤ 9223372036854775807) = sx := by
        rw [hs]
        by_cases hneg : x < 0
        · simp [hneg]; omega
        · simp [hneg]; omega
      rw [hv]
      subst h
      clear hlow hm hmm hn hs hl2 Hx hv
      cases sx
      · go_enter Try.func88, Try.ntmps88
        go_wp2_with (go_at_call 114; refine HL.out.mono ?_; rintro e w' ⟨rfl, rfl⟩)
        go_ret
        exact ⟨rfl, rfl⟩
      · go_enter Try.func88, Try.ntmps88
        go_wp2_with (go_at_call 114; refine HL.out.mono ?_; rintro e w' ⟨rfl, rfl⟩)
        go_ret
        exact ⟨rfl, rfl⟩
    · have hv : decide (-9223372036854775808 ≤ x ∧ x ≤ 9223372036854775807) = false := by simp; omega
      rw [hv]
      have hd : decide ((m : Int) < 9223372036854775808) = false := by simp; omega
      have hd2 : ((m : Int) == 9223372036854775808) = false := by simp; omega
      clear hlow hm hmm hn hs hl2 Hx hv h
      cases sx
      · go_enter Try.func88, Try.ntmps88
        go_wp2_with (go_at_call 114; refine HL.out.mono ?_; rintro e w' ⟨rfl, rfl⟩)
        go_ret
        exact ⟨rfl, rfl⟩
      · go_enter Try.func88, Try.ntmps88
        go_wp2_with (go_at_call 114; refine HL.out.mono ?_; rintro e w' ⟨rfl, rfl⟩)
        go_ret
        exact ⟨rfl, rfl⟩
  · have hv : decide (-9223372036854775808 ≤ x ∧ x ≤ 9223372036854775807) = false := by
      have hge : 18446744073709551616 ≤ x.natAbs := by
        rcases Nat.lt_or_ge x.natAbs 18446744073709551616 with h | h
        · have := hl2.2 h; omega
        · exact h
      simp; omega
    rw [hv]
    have HL := Lib.hid hlow
    have hni : (2 : Int) < (nx : Int) := by omega
    clear hlow hn hs hl2 Hx hv hlen
    go_enter Try.func88, Try.ntmps88
    go_wp2_with (go_at_call 114; refine HL.out.mono ?_; rintro e w' ⟨rfl, rfl⟩)
    go_ret
    exact ⟨rfl, rfl⟩
end Go.Proofs.Ytpnginnjbdedbaa

/- *big.Int: BitLen, Bit, Cmp. -/
namespace Go.Proofs.Ytpnginnjbdedbaa
open Go.RowKit
open Wh
set_option linter.unusedSimpArgs false

theorem up_word {t y : Nat} (h1 : 2147483648 ≤ t * 2 ^ y) (h2 : t * 2 ^ y < 4294967296) : y ≤ 31 ∧ (t + 1) * 2 ^ y ≤ 4294967296 := by
  have ht : 0 < t := by
    rcases Nat.eq_zero_or_pos t with h | h
    · rw [h, Nat.zero_mul] at h1; omega
    · exact h
  have hyy : y ≤ 31 := by
    rcases Nat.lt_or_ge 31 y with h | h
    · exfalso
      have h7 : (2 : Nat) ^ 32 ≤ 2 ^ y := Nat.pow_le_pow_right (by decide) h
      have h9 : 1 * 2 ^ y ≤ t * 2 ^ y := Nat.mul_le_mul_right _ ht
      omega
    · exact h
  refine ⟨hyy, ?_⟩
  obtain ⟨z, hz⟩ : ∃ z, y + z = 32 := ⟨32 - y, by omega⟩
  have h7 : 2 ^ y * 2 ^ z = 4294967296 := by rw [← Nat.pow_add, hz]
  rw [← h7, Nat.mul_comm] at h2
  have h8 : t < 2 ^ z := Nat.lt_of_mul_lt_mul_left h2
  have h9 : 2 ^ y * (t + 1) ≤ 2 ^ y * 2 ^ z := Nat.mul_le_mul_left _ h8
  rw [h7, Nat.mul_comm] at h9
  exact h9
theorem bl_words {m p t y : Nat} (hl : (wds m).length = p + 1) (ht : at_ (wds m) p = t) (h1 : 2147483648 ≤ t * 2 ^ y) (h2 : t * 2 ^ y < 4294967296) : bl m + y = 32 * (p + 1) := by
  obtain ⟨hy, h3⟩ := up_word h1 h2
  have e := top_one (l := wds m) (p := p) hl
  rw [at_get (by omega)] at ht
  rw [val_w, ht] at e
  have hlo := low_lt (wd_w m) (p := p) (by omega)
  have hB : (4294967296 : Nat) ^ p = 2 ^ (32 * p) := by rw [show (4294967296 : Nat) = 2 ^ 32 by decide, ← Nat.pow_mul]
  rw [hB] at e hlo
  have hb := bl_eq (m := m) (L := 32 * (p + 1) - y - 1) ?_ ?_
  · omega
  · refine Nat.le_of_mul_le_mul_right (c := 2 ^ y) ?_ (Nat.two_pow_pos y)
    rw [← Nat.pow_add, show 32 * (p + 1) - y - 1 + y = 31 + 32 * p by omega, Nat.pow_add]
    have h4 : 2 ^ 31 * 2 ^ (32 * p) ≤ t * 2 ^ y * 2 ^ (32 * p) := Nat.mul_le_mul_right _ h1
    have h5 : t * 2 ^ y * 2 ^ (32 * p) = t * 2 ^ (32 * p) * 2 ^ y := by ac_rfl
    have h6 : t * 2 ^ (32 * p) * 2 ^ y ≤ m * 2 ^ y := Nat.mul_le_mul_right _ (by omega)
    omega
  · refine Nat.lt_of_mul_lt_mul_right (a := 2 ^ y) ?_
    rw [← Nat.pow_add, show 32 * (p + 1) - y - 1 + 1 + y = 32 + 32 * p by omega, Nat.pow_add]
    have h4 : m < (t + 1) * 2 ^ (32 * p) := by rw [Nat.add_mul, Nat.one_mul]; omega
    have h5 : m * 2 ^ y < (t + 1) * 2 ^ (32 * p) * 2 ^ y := Nat.mul_lt_mul_of_pos_right h4 (Nat.two_pow_pos y)
    have h6 : (t + 1) * 2 ^ (32 * p) * 2 ^ y = (t + 1) * 2 ^ y * 2 ^ (32 * p) := by ac_rfl
    have h7 : (t + 1) * 2 ^ y * 2 ^ (32 * p) ≤ 2 ^ 32 * 2 ^ (32 * p) := Nat.mul_le_mul_right _ h3
    omega
theorem last_pos {m p : Nat} (hl : (wds m).length = p + 1) : 0 < at_ (wds m) p := by
  rw [at_get (by omega)]
  have h0 : (wds m).getLast? = some ((wds m)[p]'(by omega)) := by
    rw [List.getLast?_eq_getElem?, ← List.getElem?_eq_getElem]
    congr 1
    omega
  have := wds_last m m (Nat.le_refl _) _ h0
  omega

def Bitted (w : World) (m : Nat) (e : Ending) (w' : World) : Prop := ∃ q, e = .returned (.int .i64 ((bl m : Nat) : Int)) ∧ w' = w.drewN q
set_option maxRecDepth 100000 in
set_option maxHeartbeats 1000000 in
theorem bitlen_any {w : World} {gx : Nat} {x : Int} (hx : IntB w gx x) (hxl : (wds x.natAbs).length ≤ 900000000) :
    Calls Try.prog 92 #[.pointer (some ⟨gx, 0, none⟩)] w (Bitted w x.natAbs) := by
  obtain ⟨sx, Ax, nx, cx, x0, x1, Hx, hxc, hxcl, rx⟩ := hx.opened
  clear hx
  have hn := Hx.out.2
  obtain ⟨m, hm⟩ : ∃ m, m = x.natAbs := ⟨_, rfl⟩
  rw [← hm] at hn rx hxl
  rw [← hm]
  have hnl : nx ≤ 900000000 := by omega
  rcases Nat.eq_zero_or_pos nx with h0 | h0
  · subst h0
    have hm0 : m = 0 := by
      rcases Nat.eq_zero_or_pos m with h | h
      · exact h
      · rw [wds_pos h] at hn; simp at hn
    have Hb := Lib.hid (show bl m = 0 by rw [hm0]; rfl)
    clear hm hn Hx rx hm0 hxl
    go_enter Try.func92, Try.ntmps92
    go_wp2
    go_ret
    exact ⟨0, by rw [Hb.out]; rfl, rfl⟩
  · obtain ⟨p, rfl⟩ : ∃ p, nx = p + 1 := ⟨nx - 1, by omega⟩
    obtain ⟨ad, rfl, hb1, c1⟩ := rx.at_ (k := p) (by omega)
    rw [← at_get] at c1
    have htp := last_pos hn.symm
    have htl := at_lt (wd_w m) p
    have Hbl := Lib.hid (fun (y : Nat) => bl_words (m := m) (p := p) (y := y) hn.symm rfl)
    generalize at_ (wds m) p = t0 at *
    have r1 : IntKind.i64.wrap ((p : Int) + 1 - 1) = (p : Int) := by rw [show (p : Int) + 1 - 1 = (p : Int) by omega]; exact IntWalk.i64_in _ (by omega)
    have hpi : (p : Int) < (p : Int) + 1 := by omega
    clear hm hn Hx rx hxl
    go_enter Try.func92, Try.ntmps92
    go_wp2_with fail
    go_quiet (fail)
    go_wp2_with fail
    go_loopg [3, 4] 32 (fun k nv tv wr => ∃ (y t : Nat), nv = .int .i64 (32 * ((p : Int) + 1) - (y : Int)) ∧ tv = .int .u32 (t : Int) ∧ wr = w.drewN nq ∧ k = 32 - y ∧ y ≤ 31 ∧ t ≤ 4294967295 ∧ Hid (t = t0 * 2 ^ y))
    case atStart => exact ⟨0, t0, by first | rfl | (congr 1; omega), rfl, rfl, by omega, by omega, by omega, by show t0 = t0 * 2 ^ 0; rw [Nat.pow_zero, Nat.mul_one]⟩
    case round =>
      obtain ⟨y, t, rfl, rfl, rfl, hk, hy, ht, hT⟩ := hrel
      have Hk := Lib.hid hk
      clear hk
      have hty : 2 ^ y ≤ t := by rw [hT.out]; exact Nat.le_mul_of_pos_left _ htp
      by_cases hlt : t < 2147483648
      · have hy31 : y < 31 := by
          rcases Nat.lt_or_ge y 31 with h | h
          · exact h
          · have : (2 : Nat) ^ 31 ≤ 2 ^ y := Nat.pow_le_pow_right (by decide) h
            omega
        clear hty
        go_wp2
        rw [show ((t : Int) * 2) = ((t * 2 : Nat) : Int) by omega]
        go_roundg (32 - (y + 1))
        case measure => have := Hk.out; omega
        case rel => exact ⟨y + 1, t * 2, by congr 1; omega, rfl, rfl, rfl, by omega, by omega, by show _ = _; rw [hT.out, Nat.pow_succ, Nat.mul_assoc]⟩
      · have hb := Hbl.out y (by rw [← hT.out]; omega) (by rw [← hT.out]; omega)
        have Hb := Lib.hid hb
        clear hb hty
        go_wp2
        go_ret
        refine ⟨nq, ?_, rfl⟩
        have h5 := Hb.out
        exact congrArg (fun v => Ending.returned (.int .i64 v)) (show 32 * ((p : Int) + 1) - (y : Int) = ((bl m : Nat) : Int) by omega)
theorem bit_word {m i : Nat} : m / 2 ^ i % 2 = at_ (wds m) (i / 32) / 2 ^ (i % 32) % 2 := by
  rcases Nat.lt_or_ge (i / 32) (wds m).length with h | h
  · have e := div_words (wd_w m) (n := i) (by omega)
    rw [val_w] at e
    rw [e, val_drop h, ← at_get h]
    generalize val ((wds m).drop (i / 32 + 1)) = r
    generalize at_ (wds m) (i / 32) = u
    have hs : i % 32 < 32 := Nat.mod_lt _ (by decide)
    obtain ⟨z, hz⟩ : ∃ z, i % 32 + (z + 1) = 32 := ⟨31 - i % 32, by omega⟩
    have hp : 2 ^ (i % 32) * (2 ^ z * 2) = 4294967296 := by rw [← Nat.pow_succ, ← Nat.pow_add, hz]
    rw [← hp, Nat.mul_assoc, Nat.add_mul_div_left _ _ (Nat.two_pow_pos _)]
    rw [show 2 ^ z * 2 * r = 2 * (2 ^ z * r) by ac_rfl, Nat.add_mul_mod_self_left]
  · rw [at_end h, Nat.zero_div]
    have h1 : m < 2 ^ i := by
      have h2 := lt_of_len (n := m) (k := i / 32) h
      rw [show (4294967296 : Nat) = 2 ^ 32 by decide, ← Nat.pow_mul] at h2
      exact Nat.lt_of_lt_of_le h2 (Nat.pow_le_pow_right (by decide) (by omega))
    rw [Nat.div_eq_of_lt h1]

theorem bit_and {u s : Nat} (hu : u < 4294967296) : bits .and .u32 ((u : Int) / 2 ^ s) 1 = ((u / 2 ^ s % 2 : Nat) : Int) := by
  have h1 : u / 2 ^ s ≤ u := Nat.div_le_self _ _
  have e : ((u : Int) / 2 ^ s) = ((u / 2 ^ s : Nat) : Int) := by rw [Int.natCast_ediv, Int.natCast_pow]; rfl
  rw [e, show (1 : Int) = ((1 : Nat) : Int) from rfl, u32_and_nat _ _ (by omega) (by omega), Nat.and_one_is_mod]
set_option maxRecDepth 100000 in
set_option maxHeartbeats 1000000 in
theorem bit_any {w : World} {gx i : Nat} {x : Int} (hx : IntB w gx x) (hxl : (wds x.natAbs).length ≤ 900000000) (hi : i ≤ 9223372036854775807) :
    Calls Try.prog 90 #[.pointer (some ⟨gx, 0, none⟩), .int .i64 (i : Int)] w (fun e w' => e = .returned (.int .u64 ((x.natAbs / 2 ^ i % 2 : Nat) : Int)) ∧ w = w') := by
  obtain ⟨sx, Ax, nx, cx, x0, x1, Hx, hxc, hxcl, rx⟩ := hx.opened
  clear hx
  have hn := Hx.out.2
  obtain ⟨m, hm⟩ : ∃ m, m = x.natAbs := ⟨_, rfl⟩
  rw [← hm] at hn rx hxl
  rw [← hm, bit_word]
  have hnl : nx ≤ 900000000 := by omega
  rcases Nat.lt_or_ge (i / 32) nx with h | h
  · obtain ⟨ad, rfl, hb1, c1⟩ := rx.at_ (k := i / 32) (by omega)
    rw [← at_get] at c1
    have hu := at_lt (wd_w m) (i / 32)
    have hba := bit_and (s := i % 32) hu
    obtain ⟨v, hv⟩ : ∃ v, v = at_ (wds m) (i / 32) / 2 ^ (i % 32) % 2 := ⟨_, rfl⟩
    rw [← hv] at hba
    rw [← hv]
    have hv1 : v ≤ 1 := by omega
    generalize at_ (wds m) (i / 32) = u at *
    have hii : (i : Int) / 32 < (nx : Int) := by omega
    clear hm hn Hx rx hxl hv
    go_enter Try.func90, Try.ntmps90
    go_wp2
    go_ret
    exact ⟨rfl, rfl⟩
  · obtain ⟨v, hv⟩ : ∃ v, v = at_ (wds m) (i / 32) / 2 ^ (i % 32) % 2 := ⟨_, rfl⟩
    have hv0 : v = 0 := by rw [hv, at_end (by omega), Nat.zero_div]
    rw [← hv, hv0]
    have hii : (nx : Int) ≤ (i : Int) / 32 := by omega
    clear hm hn Hx rx hxl hv hv0
    go_enter Try.func90, Try.ntmps90
    go_wp2
    go_ret
    exact ⟨rfl, rfl⟩

def cmpI (x y : Int) : Int := if x < y then -1 else if y < x then 1 else 0
def Cmped (w : World) (v : Int) (e : Ending) (w' : World) : Prop := ∃ q, e = .returned (.int .i64 v) ∧ w' = w.drewN q
theorem cmp_pp {x y : Int} (hx : ¬ x < 0) (hy : ¬ y < 0) : cmpN x.natAbs y.natAbs = cmpI x y := by
  unfold cmpN cmpI
  by_cases h1 : x < y
  · rw [if_pos h1, if_pos (by omega)]
  · rw [if_neg h1, if_neg (by omega)]
    by_cases h2 : y < x
    · rw [if_pos h2, if_pos (by omega)]
    · rw [if_neg h2, if_neg (by omega)]
theorem cmp_nn {x y : Int} (hx : x < 0) (hy : y < 0) : cmpN y.natAbs x.natAbs = cmpI x y := by
  unfold cmpN cmpI
  by_cases h1 : x < y
  · rw [if_pos h1, if_pos (by omega)]
  · rw [if_neg h1, if_neg (by omega)]
    by_cases h2 : y < x
    · rw [if_pos h2, if_pos (by omega)]
    · rw [if_neg h2, if_neg (by omega)]
theorem cmp_np {x y : Int} (hx : x < 0) (hy : ¬ y < 0) : cmpI x y = -1 := by unfold cmpI; rw [if_pos (by omega)]
theorem cmp_pn {x y : Int} (hx : ¬ x < 0) (hy : y < 0) : cmpI x y = 1 := by unfold cmpI; rw [if_neg (by omega), if_pos (by omega)]
set_option maxRecDepth 100000 in
set_option maxHeartbeats 1000000 in
theorem cmp_any {w : World} {gx gy : Nat} {x y : Int} (hx : IntB w gx x) (hy : IntB w gy y) (hxl : (wds x.natAbs).length ≤ 900000000) (hyl : (wds y.natAbs).length ≤ 900000000) :
    Calls Try.prog 79 #[.pointer (some ⟨gx, 0, none⟩), .pointer (some ⟨gy, 0, none⟩)] w (Cmped w (cmpI x y)) := by
  obtain ⟨sx, Ax, nx, cx, x0, x1, Hx, hxc, hxcl, rx⟩ := hx.opened
  obtain ⟨sy, Ay, ny, cy, y0, y1, Hy, hyc, hycl, ry⟩ := hy.opened
  have HU : ∀ (v : Int), cmpN x.natAbs y.natAbs = v → Hid (∀ q, Calls Try.prog 110 #[.slice Ax nx cx, .slice Ay ny cy] (w.drewN q) (fun e w' => e = .returned (.int .i64 v) ∧ ∃ m, w' = (w.drewN q).drewN m)) := by
    intro v hv q
    refine (under_any (rx.drewN q) (ry.drewN q) (c := cx) (d := cy) Hx.out.2 Hy.out.2 (by have := Hx.out.2; omega) (by have := Hy.out.2; omega)).mono ?_
    rintro e w' ⟨m, he, hw⟩
    exact ⟨by rw [he, hv], m, hw⟩
  have HV : ∀ (v : Int), cmpN y.natAbs x.natAbs = v → Hid (∀ q, Calls Try.prog 110 #[.slice Ay ny cy, .slice Ax nx cx] (w.drewN q) (fun e w' => e = .returned (.int .i64 v) ∧ ∃ m, w' = (w.drewN q).drewN m)) := by
    intro v hv q
    refine (under_any (ry.drewN q) (rx.drewN q) (c := cy) (d := cx) Hy.out.2 Hx.out.2 (by have := Hy.out.2; omega) (by have := Hx.out.2; omega)).mono ?_
    rintro e w' ⟨m, he, hw⟩
    exact ⟨by rw [he, hv], m, hw⟩
  have hs := Hx.out.1
  have ht := Hy.out.1
  by_cases hxn : x < 0 <;> by_cases hyn : y < 0
  · have H := HV _ (cmp_nn hxn hyn)
    obtain rfl : sx = true := by rw [hs]; simp [hxn]
    obtain rfl : sy = true := by rw [ht]; simp [hyn]
    generalize cmpI x y = v at *
    clear HU HV hs ht hxn hyn hxl hyl rx ry hx hy Hx Hy
    go_enter Try.func79, Try.ntmps79
    go_wp2_with fail
    go_quiet ((go_at_call 110; exact Calls.quiet_of (H.out _)))
    go_wp2_with fail
    go_ret
    exact ⟨_, rfl, rfl⟩
  · have Hv := Lib.hid (cmp_np hxn hyn)
    obtain rfl : sx = true := by rw [hs]; simp [hxn]
    obtain rfl : sy = false := by rw [ht]; simp [hyn]
    generalize cmpI x y = v at *
    clear HU HV hs ht hxn hyn hxl hyl rx ry hx hy Hx Hy
    go_enter Try.func79, Try.ntmps79
    go_wp2_with fail
    go_ret
    exact ⟨0, by rw [Hv.out]; rfl, rfl⟩
  · have Hv := Lib.hid (cmp_pn hxn hyn)
    obtain rfl : sx = false := by rw [hs]; simp [hxn]
    obtain rfl : sy = true := by rw [ht]; simp [hyn]
    generalize cmpI x y = v at *
    clear HU HV hs ht hxn hyn hxl hyl rx ry hx hy Hx Hy
    go_enter Try.func79, Try.ntmps79
    go_wp2_with fail
    go_ret
    exact ⟨0, by rw [Hv.out]; rfl, rfl⟩
  · have H := HU _ (cmp_pp hxn hyn)
    obtain rfl : sx = false := by rw [hs]; simp [hxn]
    obtain rfl : sy = false := by rw [ht]; simp [hyn]
    generalize cmpI x y = v at *
    clear HU HV hs ht hxn hyn hxl hyl rx ry hx hy Hx Hy
    go_enter Try.func79, Try.ntmps79
    go_wp2_with fail
    go_quiet ((go_at_call 110; exact Calls.quiet_of (H.out _)))
    go_wp2_with fail
    go_ret
    exact ⟨_, rfl, rfl⟩
end Go.Proofs.Ytpnginnjbdedbaa

/- *big.Int: QuoRem, Quo, DivMod (printed by gen_int3.py). -/
namespace Go.Proofs.Ytpnginnjbdedbaa
open Go.RowKit
open Wh
set_option linter.unusedSimpArgs false

theorem wpW_append {w : World} {ops : Array Oper} {rest : List Oper} {o : Oper} {a : Act} {Q : Exit → Act → World → Prop} (hgd : o.guard = none) (s x : Operand)
    (ho : o.op = .call { callee := .builtin .append, args := #[s, x], argTypes := #[80, 80] }) (B : Nat) (v : Value) (l : List Nat) (hown : OwnW w B v l) (hs : a.eval s = v)
    (B' : Nat) (A : Option Addr) (news : List Nat) (hr : ReadsW w B' A news) (m c : Nat) (hm : m = news.length) (hx : a.eval x = .slice A m c) (hlen : l.length + news.length ≤ 35184372088830) (hbase : B ≤ w.heap.size)
    (h : ∀ A' n' c' w', OwnW w' B (.slice A' n' c') (l ++ news) → w.grownBy w' v.ownBlock → wpList Try.prog ops Q rest (a.put o.dst (.slice A' n' c')) w') :
    wpList Try.prog ops Q (o :: rest) a w := by
  obtain ⟨i0, hi, hz0, hz1, hz2⟩ := info_parts infoW
  subst hm
  refine wpList_append_any w hgd s x 80 ho B 98 i0 (.int .u32 0) 1 4 Try.underlying80 hi hz0 hz1 hz2 rfl (by decide) v l.length (l.map wv) hs hown B' A news.length c (news.map wv) hx hr.1 (wv_one _) (by unfold maxLen; omega) (by omega) hbase ?_
  intro v' w' h1 h2 h3
  have h4 : OwnW w' B v' (l ++ news) := by
    unfold OwnW
    rw [List.length_append, List.map_append]
    exact h1
  obtain ⟨A', c', rfl, _⟩ := h4.form
  exact h A' _ c' w' h4 h2
theorem sgn_tdiv (x y : Int) : sgn (!(decide (x < 0) == decide (y < 0))) (x.natAbs / y.natAbs) = x.tdiv y := by
  have key : ∀ a b : Nat, ((a : Int)).tdiv (b : Int) = ((a / b : Nat) : Int) := fun a b => rfl
  unfold sgn
  by_cases h1 : x < 0 <;> by_cases h2 : y < 0
  · have e1 : x = -(x.natAbs : Int) := by omega
    have e2 : y = -(y.natAbs : Int) := by omega
    simp only [h1, h2, decide_true, beq_self_eq_true, Bool.not_true, Bool.false_eq_true, if_false]
    conv => rhs; rw [e1, e2, Int.neg_tdiv, Int.tdiv_neg, Int.neg_neg, key]
  · have e1 : x = -(x.natAbs : Int) := by omega
    have e2 : y = (y.natAbs : Int) := by omega
    simp only [h1, h2, decide_true, decide_false]
    conv => rhs; rw [e1, e2, Int.neg_tdiv, key]
    exact if_pos rfl
  · have e1 : x = (x.natAbs : Int) := by omega
    have e2 : y = -(y.natAbs : Int) := by omega
    simp only [h1, h2, decide_true, decide_false]
    conv => rhs; rw [e1, e2, Int.tdiv_neg, key]
    exact if_pos rfl
  · have e1 : x = (x.natAbs : Int) := by omega
    have e2 : y = (y.natAbs : Int) := by omega
    simp only [h1, h2, decide_false, beq_self_eq_true, Bool.not_true, Bool.false_eq_true, if_false]
    conv => rhs; rw [e1, e2, key]
theorem sgn_tmod (x y : Int) : sgn (decide (x < 0)) (x.natAbs % y.natAbs) = x.tmod y := by
  have key : ∀ a b : Nat, ((a : Int)).tmod (b : Int) = ((a % b : Nat) : Int) := fun a b => rfl
  have k2 : ∀ a : Nat, (a : Int).tmod y = ((a % y.natAbs : Nat) : Int) := fun a => by
    by_cases h2 : y < 0
    · have e2 : y = -(y.natAbs : Int) := by omega
      conv => lhs; rw [e2, Int.tmod_neg, key]
    · have e2 : y = (y.natAbs : Int) := by omega
      conv => lhs; rw [e2, key]
  unfold sgn
  by_cases h1 : x < 0
  · have e1 : x = -(x.natAbs : Int) := by omega
    simp only [h1, decide_true, if_true]
    conv => rhs; rw [e1, Int.neg_tmod, k2]
  · have e1 : x = (x.natAbs : Int) := by omega
    simp only [h1, decide_false, Bool.false_eq_true, if_false]
    conv => rhs; rw [e1, k2]

/-- two numbers are put, r first -/
def Puts2 (w : World) (g gr : Nat) (q r : Int) (e : Ending) (w' : World) : Prop := ∃ wm, e = .returned (.tuple #[.pointer (some ⟨g, 0, none⟩), .pointer (some ⟨gr, 0, none⟩)]) ∧ IntB w' g q ∧ IntB w' gr r ∧ w.grownBy wm (some gr) ∧ wm.grownBy w' (some g)

set_option maxRecDepth 100000 in
set_option maxHeartbeats 4000000 in
theorem quorem_any {w : World} {g gr gx gy : Nat} {x y : Int} (hz : IntS w g) (hr : IntS w gr) (hne : g ≠ gr) (hx : IntB w gx x) (hy : IntB w gy y) (hxl : (wds x.natAbs).length ≤ 900000000) (hyl : (wds y.natAbs).length ≤ 900000000) (hy0 : y ≠ 0) :
    Calls Try.prog 107 #[.pointer (some ⟨g, 0, none⟩), .pointer (some ⟨gx, 0, none⟩), .pointer (some ⟨gy, 0, none⟩), .pointer (some ⟨gr, 0, none⟩)] w (Puts2 w g gr (x.tdiv y) (x.tmod y)) := by
  obtain ⟨sx, Ax, nx, cx, x0, x1, Hx, hxc, hxcl, rx⟩ := hx.opened
  obtain ⟨sy, Ay, ny, cy, y0, y1, Hy, hyc, hycl, ry⟩ := hy.opened
  have glx := hx.lt
  have gly := hy.lt
  have Hp := Lib.hid (divide_any (c := cx) (d := cy) (rx.drewN 1) (ry.drewN 1) (Nat.le_refl _) Hx.out.2 Hy.out.2 (by have := Hx.out.2; omega) (by have := Hy.out.2; omega) hxc hxcl hyc hycl (by omega))
  have Hl := Lib.hid (And.intro hxl hne)
  clear rx ry hxl hyl hy0 hne
  go_enter Try.func107, Try.ntmps107
  go_wp2_with fail
  refine wp_region_noPanic ?_
  refine wp_region_HK (fun w' => (w'.cell? ⟨gx, 0, none⟩ = some (.bool sx) ∧ w'.cell? ⟨gx, 1, none⟩ = some (.slice Ax nx cx)) ∧ (w'.cell? ⟨gy, 0, none⟩ = some (.bool sy) ∧ w'.cell? ⟨gy, 1, none⟩ = some (.slice Ay ny cy))) 14 (by kernel_rfl) ⟨⟨x0, x1⟩, ⟨y0, y1⟩⟩ (fun hHeld => ?_)
  refine wpHK_take (i := 0) (oi := Oper.mk (some 15) _ _ _ _ _) (v := ?_) rfl (by kernel_rfl) (by kernel_rfl) (by kernel_rfl) (by kernel_rfl) (fun _ _ _ h => h) (Or.inl ⟨by rfl, ?_⟩) (by assumption) ?_
  rotate_left
  · (intro w' hSw; (try dsimp only at hSw); (obtain ⟨⟨s1, s2⟩, ⟨s3, s4⟩⟩ := hSw); go_simp; try with_reducible rfl)
  try simp only [Act.put, List.setIfInBounds_toArray, List.set_cons_zero, List.set_cons_succ]
  refine wpHK_take (i := 1) (oi := Oper.mk (some 16) _ _ _ _ _) (v := ?_) rfl (by kernel_rfl) (by kernel_rfl) (by kernel_rfl) (by kernel_rfl) (fun _ _ _ h => h) (Or.inl ⟨by rfl, ?_⟩) (by assumption) ?_
  rotate_left
  · (intro w' hSw; (try dsimp only at hSw); (obtain ⟨⟨s1, s2⟩, ⟨s3, s4⟩⟩ := hSw); go_simp; try with_reducible rfl)
  try simp only [Act.put, List.setIfInBounds_toArray, List.set_cons_zero, List.set_cons_succ]
  refine wpHK_take (i := 2) (oi := Oper.mk (some 17) _ _ _ _ _) (v := ?_) rfl (by kernel_rfl) (by kernel_rfl) (by kernel_rfl) (by kernel_rfl) (fun _ _ _ h => h) (Or.inl ⟨by rfl, ?_⟩) (by assumption) ?_
  rotate_left
  · (intro w' hSw; (try dsimp only at hSw); (obtain ⟨⟨s1, s2⟩, ⟨s3, s4⟩⟩ := hSw); go_simp; try with_reducible rfl)
  try simp only [Act.put, List.setIfInBounds_toArray, List.set_cons_zero, List.set_cons_succ]
  refine wpHK_take (i := 3) (oi := Oper.mk (some 18) _ _ _ _ _) (v := ?_) rfl (by kernel_rfl) (by kernel_rfl) (by kernel_rfl) (by kernel_rfl) (fun _ _ _ h => h) (Or.inl ⟨by rfl, ?_⟩) (by assumption) ?_
  rotate_left
  · (intro w' hSw; (try dsimp only at hSw); (obtain ⟨⟨s1, s2⟩, ⟨s3, s4⟩⟩ := hSw); go_simp; try with_reducible rfl)
  try simp only [Act.put, List.setIfInBounds_toArray, List.set_cons_zero, List.set_cons_succ]
  refine wpHK_take (i := 4) (oi := Oper.mk (some 19) _ _ _ _ _) (v := ?_) rfl (by kernel_rfl) (by kernel_rfl) (by kernel_rfl) (by kernel_rfl) (fun _ _ _ h => h) (Or.inl ⟨by rfl, ?_⟩) (by assumption) ?_
  rotate_left
  · (intro w' hSw; (try dsimp only at hSw); (obtain ⟨⟨s1, s2⟩, ⟨s3, s4⟩⟩ := hSw); go_simp; try with_reducible rfl)
  try simp only [Act.put, List.setIfInBounds_toArray, List.set_cons_zero, List.set_cons_succ]
  refine wpHK_take (i := 5) (oi := Oper.mk (some 20) _ _ _ _ _) (v := ?_) rfl (by kernel_rfl) (by kernel_rfl) (by kernel_rfl) (by kernel_rfl) (fun _ _ _ h => h) (Or.inl ⟨by rfl, ?_⟩) (by assumption) ?_
  rotate_left
  · (intro w' hSw; (try dsimp only at hSw); (obtain ⟨⟨s1, s2⟩, ⟨s3, s4⟩⟩ := hSw); go_simp; try with_reducible rfl)
  try simp only [Act.put, List.setIfInBounds_toArray, List.set_cons_zero, List.set_cons_succ]
  refine wpHK_take (i := 6) (oi := Oper.mk (some 21) _ _ _ _ _) (v := ?_) rfl (by kernel_rfl) (by kernel_rfl) (by kernel_rfl) (by kernel_rfl) (fun _ _ _ h => h) (Or.inl ⟨by rfl, ?_⟩) (by assumption) ?_
  rotate_left
  · (intro w' hSw; (try dsimp only at hSw); (obtain ⟨⟨s1, s2⟩, ⟨s3, s4⟩⟩ := hSw); go_simp; try with_reducible rfl)
  try simp only [Act.put, List.setIfInBounds_toArray, List.set_cons_zero, List.set_cons_succ]
  refine wpHK_take (i := 7) (oi := Oper.mk (some 22) _ _ _ _ _) (v := ?_) rfl (by kernel_rfl) (by kernel_rfl) (by kernel_rfl) (by kernel_rfl) (fun _ _ _ h => h) (Or.inl ⟨by rfl, ?_⟩) (by assumption) ?_
  rotate_left
  · (intro w' hSw; (try dsimp only at hSw); (obtain ⟨⟨s1, s2⟩, ⟨s3, s4⟩⟩ := hSw); go_simp; try with_reducible rfl)
  try simp only [Act.put, List.setIfInBounds_toArray, List.set_cons_zero, List.set_cons_succ]
  refine wpHK_one (j := 8) (o := Oper.mk (some 23) _ _ _ _ _) rfl (by kernel_rfl) (fun K hK => ?_)
  go_simp
  refine (Hp.out).mono ?_
  rintro e w5 ⟨A5, m5, c5, A6, m6, c6, rfl, hm5, hc5, hc6, hcl5, hcl6, hr5, hr6, hb5⟩
  try simp only []
  have hb5' : Below w.heap.size w w5 := undrew hb5
  have bcell5 : ∀ {b o : Nat}, b < w.heap.size → w5.cell? ⟨b, o, none⟩ = w.cell? ⟨b, o, none⟩ := fun {b o} h => hb5'.cell (p := ⟨b, o, none⟩) h
  have hz5 := hz.below hb5'
  have hr5' := hr.below hb5'
  have hC5 : (w5.cell? ⟨gx, 0, none⟩ = some (.bool sx) ∧ w5.cell? ⟨gx, 1, none⟩ = some (.slice Ax nx cx)) ∧ (w5.cell? ⟨gy, 0, none⟩ = some (.bool sy) ∧ w5.cell? ⟨gy, 1, none⟩ = some (.slice Ay ny cy)) := ⟨⟨(bcell5 glx).trans x0, (bcell5 glx).trans x1⟩, ⟨(bcell5 gly).trans y0, (bcell5 gly).trans y1⟩⟩
  refine hK.out _ _ hC5 (fun _ => ?_)
  clear hK K hHeld
  have hHeld := hC5
  try simp only [Act.put, List.setIfInBounds_toArray, List.set_cons_zero, List.set_cons_succ]
  refine wpHK_take (i := 9) (oi := Oper.mk (some 14) _ _ _ _ _) (v := ?_) rfl (by kernel_rfl) (by kernel_rfl) (by kernel_rfl) (by kernel_rfl) (fun _ _ _ h => h) (Or.inl ⟨by rfl, ?_⟩) (by assumption) ?_
  rotate_left
  · (intro w' hSw; (try dsimp only at hSw); (obtain ⟨⟨s1, s2⟩, ⟨s3, s4⟩⟩ := hSw); go_simp; try with_reducible rfl)
  try simp only [Act.put, List.setIfInBounds_toArray, List.set_cons_zero, List.set_cons_succ]
  refine wpHK_take (i := 10) (oi := Oper.mk (some 24) _ _ _ _ _) (v := ?_) rfl (by kernel_rfl) (by kernel_rfl) (by kernel_rfl) (by kernel_rfl) (fun _ _ _ h => h) (Or.inl ⟨by rfl, ?_⟩) (by assumption) ?_
  rotate_left
  · (intro w' hSw; (try dsimp only at hSw); (obtain ⟨⟨s1, s2⟩, ⟨s3, s4⟩⟩ := hSw); go_simp; try with_reducible rfl)
  try simp only [Act.put, List.setIfInBounds_toArray, List.set_cons_zero, List.set_cons_succ]
  refine wpHK_take (i := 11) (oi := Oper.mk (some 25) _ _ _ _ _) (v := ?_) rfl (by kernel_rfl) (by kernel_rfl) (by kernel_rfl) (by kernel_rfl) (fun _ _ _ h => h) (Or.inl ⟨by rfl, ?_⟩) (by assumption) ?_
  rotate_left
  · (intro w' hSw; (try dsimp only at hSw); (obtain ⟨⟨s1, s2⟩, ⟨s3, s4⟩⟩ := hSw); go_simp; try with_reducible rfl)
  try simp only [Act.put, List.setIfInBounds_toArray, List.set_cons_zero, List.set_cons_succ]
  refine wpHK_take (i := 12) (oi := Oper.mk (some 10) _ _ _ _ _) (v := ?_) rfl (by kernel_rfl) (by kernel_rfl) (by kernel_rfl) (by kernel_rfl) (fun _ _ _ h => h) (Or.inl ⟨by rfl, ?_⟩) (by assumption) ?_
  rotate_left
  · (intro w' hSw; (try dsimp only at hSw); (obtain ⟨⟨s1, s2⟩, ⟨s3, s4⟩⟩ := hSw); go_simp; try with_reducible rfl)
  try simp only [Act.put, List.setIfInBounds_toArray, List.set_cons_zero, List.set_cons_succ]
  refine wpHK_take (i := 13) (oi := Oper.mk (some 11) _ _ _ _ _) (v := ?_) rfl (by kernel_rfl) (by kernel_rfl) (by kernel_rfl) (by kernel_rfl) (fun _ _ _ h => h) (Or.inl ⟨by rfl, ?_⟩) (by assumption) ?_
  rotate_left
  · (intro w' hSw; (try dsimp only at hSw); (obtain ⟨⟨s1, s2⟩, ⟨s3, s4⟩⟩ := hSw); go_simp; try with_reducible rfl)
  try simp only [Act.put, List.setIfInBounds_toArray, List.set_cons_zero, List.set_cons_succ]
  refine wpHK_done (by kernel_rfl) ?_ _
  refine NoPanic.normal ?_
  obtain ⟨⟨u0, u1⟩, ⟨v0, v1⟩⟩ := hHeld
  have Hb5 := Lib.hid (And.intro hb5' (And.intro hr5 (And.intro hr6 hm5)))
  have Hz := Lib.hid (And.intro hz5 hr5')
  have hm6l : (wds (x.natAbs % y.natAbs)).length ≤ 900000000 := Nat.le_trans (len_mono (Nat.mod_le _ _)) Hl.out.1
  clear x0 x1 y0 y1 bcell5 hb5 hb5' hr5 hr6 hm5 hz hr hz5 hr5' hx hy hC5
  go_wp2_with fail
  go_quiet (fail)
  have Hap := Lib.hid (Hb5.out.2.2.1.drewN nq)
  have Hm6 := Lib.hid hm6l
  clear hm6l
  go_wp2_with (at_builtin; refine wpW_append rfl (.const (.slice none 0 0)) (.tmp 41) rfl w5.heap.size _ [] (OwnW.nil _ _) rfl _ _ (wds (x.natAbs % y.natAbs)) Hap.out m6 c6 Hb5.out.2.2.2.out.2 rfl (by have := Hm6.out; simp only [List.length_nil]; omega) (Nat.le_refl _) ?_; intro A7 n7 c7 w7 ho7 hg7; rw [List.nil_append] at ho7; have Ho7 := Lib.hid (And.intro ho7 hg7); clear ho7 hg7)
  have hb7 : Below w5.heap.size w5 w7 := undrewN (below_of_grown Ho7.out.2)
  have hz7 := Hz.out.1.below hb7
  have hr7 := Hz.out.2.below hb7
  have HI := Lib.hid (is_any sx hr7 Ho7.out.1.reads (Nat.le_refl _) Ho7.out.1.len.1 Ho7.out.1.len.2.1 Ho7.out.1.len.2.2 (wd_w _))
  have hw7 := (Hb5.out.2.1.below hb7).more hb7.size
  have Hb7 := Lib.hid (And.intro hb7 (And.intro hz7 (And.intro hw7 hr7)))
  clear hb7 hz7 hr7 hw7
  go_wp2_with fail
  refine HI.out.mono ?_
  rintro e w8 ⟨rfl, hi8, hg8⟩
  rw [val_w, Hx.out.1, sgn_tmod] at hi8
  have hz8 := Hb7.out.2.1.off hg8 Hl.out.2
  have hw8 := (Hb7.out.2.2.1.off Hb7.out.2.2.2 hg8 (Nat.le_refl _)).more hg8.size
  have HI2 := Lib.hid (is_any (!(sx == sy)) hz8 hw8 (Nat.le_refl _) Hb5.out.2.2.2.out.1 hc5 hcl5 (wd_w _))
  have H8 := Lib.hid (And.intro hi8 (And.intro hg8 hz8))
  clear hz8 hw8 hi8 hg8
  go_wp2_with fail
  refine HI2.out.mono ?_
  rintro e w9 ⟨rfl, hi9, hg9⟩
  rw [val_w, Hx.out.1, Hy.out.1, sgn_tdiv] at hi9
  have H9 := Lib.hid (And.intro hi9 hg9)
  clear hi9 hg9
  go_wp2_with fail
  go_ret2
  exact ⟨w8, rfl, H9.out.1, H8.out.1.off H8.out.2.2 H9.out.2 (fun h => Hl.out.2 h.symm), grown_lift (Hb5.out.1.trans (Hb7.out.1.mono Hb5.out.1.size)) H8.out.2.1, H9.out.2⟩
end Go.Proofs.Ytpnginnjbdedbaa

/- *big.Int: Quo, DivMod (printed by gen_int4.py). -/
namespace Go.Proofs.Ytpnginnjbdedbaa
open Go.RowKit
open Wh
set_option linter.unusedSimpArgs false

theorem grown_two {w w1 wm w' : World} {g gr : Nat} (hb : Below w.heap.size w w1) (h1 : w1.grownBy wm (some gr)) (h2 : wm.grownBy w' (some g)) (hgr : w.heap.size ≤ gr) : w.grownBy w' (some g) :=
  grown_lift (hb.grown h1 hb.size (fun k hk => by injection hk with hk; omega)) h2
theorem new_below (w : World) (o : Obj) : Below w.heap.size w (w.alloc o) := (Below.refl _ _).alloc (Nat.le_refl _) _
theorem len_tdiv {x y : Int} (h : (wds x.natAbs).length ≤ 900000000) : (wds (x.tdiv y).natAbs).length ≤ 900000000 :=
  Nat.le_trans (len_mono (by rw [Int.natAbs_tdiv]; exact Nat.div_le_self _ _)) h
theorem len_tmod {x y : Int} (h : (wds x.natAbs).length ≤ 900000000) : (wds (x.tmod y).natAbs).length ≤ 900000000 :=
  Nat.le_trans (len_mono (by rw [Int.natAbs_tmod]; exact Nat.mod_le _ _)) h
theorem len_one : (wds (1 : Int).natAbs).length ≤ 900000000 := by
  show (wds 1).length ≤ 900000000
  rw [wds_pos (by decide), show 1 / 4294967296 = 0 by decide, wds_zero]
  simp
theorem euclid_pos {x y : Int} (hy : y ≠ 0) (h : 0 ≤ x.tmod y) : x / y = x.tdiv y ∧ x % y = x.tmod y := by
  have e := Int.mul_tdiv_add_tmod x y
  have hl : (x.tmod y).natAbs < y.natAbs := by rw [Int.natAbs_tmod]; exact Nat.mod_lt _ (by omega)
  rcases Int.lt_or_gt_of_ne hy with h0 | h0
  · exact (Int.ediv_emod_unique' h0).2 ⟨by omega, h, by omega⟩
  · exact (Int.ediv_emod_unique h0).2 ⟨by omega, h, by omega⟩
theorem euclid_neg {x y : Int} (h : x.tmod y < 0) (hy : y < 0) : x / y = x.tdiv y + 1 ∧ x % y = x.tmod y + (y.natAbs : Int) := by
  have e := Int.mul_tdiv_add_tmod x y
  have hl : (x.tmod y).natAbs < y.natAbs := by rw [Int.natAbs_tmod]; exact Nat.mod_lt _ (by omega)
  exact (Int.ediv_emod_unique' hy).2 ⟨by rw [Int.mul_add, Int.mul_one]; omega, by omega, by omega⟩
theorem euclid_neg2 {x y : Int} (h : x.tmod y < 0) (hy : 0 < y) : x / y = x.tdiv y - 1 ∧ x % y = x.tmod y + (y.natAbs : Int) := by
  have e := Int.mul_tdiv_add_tmod x y
  have hl : (x.tmod y).natAbs < y.natAbs := by rw [Int.natAbs_tmod]; exact Nat.mod_lt _ (by omega)
  exact (Int.ediv_emod_unique hy).2 ⟨by rw [Int.mul_sub, Int.mul_one]; omega, by omega, by omega⟩

set_option maxRecDepth 100000 in
set_option maxHeartbeats 4000000 in
theorem quo_any {w : World} {g gx gy : Nat} {x y : Int} (hz : IntS w g) (hx : IntB w gx x) (hy : IntB w gy y) (hxl : (wds x.natAbs).length ≤ 900000000) (hyl : (wds y.natAbs).length ≤ 900000000) (hy0 : y ≠ 0) :
    Calls Try.prog 116 #[.pointer (some ⟨g, 0, none⟩), .pointer (some ⟨gx, 0, none⟩), .pointer (some ⟨gy, 0, none⟩)] w (Puts w g (x.tdiv y)) := by
  have hb := new_below w (.cells #[.bool false, .slice none 0 0] 82)
  have hne : g ≠ w.heap.size := by have := hz.lt; omega
  have HQ := Lib.hid (quorem_any (hz.below hb) (IntB.zero w).slot hne (hx.below hb) (hy.below hb) hxl hyl hy0)
  clear hz hx hy hxl hyl hy0 hne
  go_enter Try.func116, Try.ntmps116
  go_wp2_with fail
  refine HQ.out.mono ?_
  rintro e w2 ⟨wm, rfl, hiq, hir, hgm, hg2⟩
  go_wp2_with fail
  go_ret
  exact ⟨rfl, hiq, grown_two hb hgm hg2 (Nat.le_refl _)⟩
/-- quotient and rest are put -/
def PutsD (w : World) (g gr : Nat) (q r : Int) (e : Ending) (w' : World) : Prop := e = .returned (.tuple #[.pointer (some ⟨g, 0, none⟩), .pointer (some ⟨gr, 0, none⟩)]) ∧ IntB w' g q ∧ IntB w' gr r ∧
  ∀ (B : Nat) (w0 : World), Below B w0 w → B ≤ g → B ≤ gr → B ≤ w.heap.size → Below B w0 w'
theorem up_row {B : Nat} {w0 w w' : World} {g : Nat} (h : Below B w0 w) (hg : w.grownBy w' (some g)) (h1 : B ≤ w.heap.size) (h2 : B ≤ g) : Below B w0 w' := h.grown hg h1 (fun k hk => by injection hk with hk; omega)

set_option maxRecDepth 100000 in
set_option maxHeartbeats 4000000 in
theorem divmod_pos {w : World} {g gr gx gy : Nat} {x y : Int} (hz : IntS w g) (hr : IntS w gr) (hne : g ≠ gr) (hx : IntB w gx x) (hy : IntB w gy y) (hxl : (wds x.natAbs).length ≤ 900000000) (hyl : (wds y.natAbs).length ≤ 900000000) (hy0 : y ≠ 0) (h0 : 0 ≤ x.tmod y) :
    Calls Try.prog 74 #[.pointer (some ⟨g, 0, none⟩), .pointer (some ⟨gx, 0, none⟩), .pointer (some ⟨gy, 0, none⟩), .pointer (some ⟨gr, 0, none⟩)] w (PutsD w g gr (x / y) (x % y)) := by
  rw [(euclid_pos hy0 h0).1, (euclid_pos hy0 h0).2]
  have hb := new_below w (.cells #[.bool false, .slice none 0 0] 82)
  have hgl := hz.lt
  have hrl := hr.lt
  have HS := Lib.hid (set_any (IntB.zero w).slot (hy.below hb) hyl)
  go_enter Try.func74, Try.ntmps74
  go_wp2_with fail
  refine HS.out.mono ?_
  rintro e w1 ⟨rfl, hd1, hg1⟩
  have hb1 := below_new hg1
  have hz1 := hz.below hb1
  have hr1 := hr.below hb1
  have HQ := Lib.hid (quorem_any hz1 hr1 hne (hx.below hb1) (hy.below hb1) hxl hyl hy0)
  go_wp2_with fail
  refine HQ.out.mono ?_
  rintro e w2 ⟨wm, rfl, hiq, hir, hgm, hg2⟩
  have hzm := hz1.off hgm hne
  have hd2 := (hd1.off hr1 hgm (by omega)).off hzm hg2 (by omega)
  have hs2 : w.heap.size ≤ w2.heap.size := Nat.le_trans hb1.size (Nat.le_trans hgm.size hg2.size)
  have hb2 : ∀ (B : Nat) (w0 : World), Below B w0 w → B ≤ g → B ≤ gr → B ≤ w.heap.size → Below B w0 w2 := fun B w0 h h1 h2 h3 =>
    up_row (up_row (h.trans (hb1.mono h3)) hgm (Nat.le_trans h3 hb1.size) h2) hg2 (Nat.le_trans h3 (Nat.le_trans hb1.size hgm.size)) h1
  obtain ⟨s, A, n, c, m0, m1, Hm, _, _, _⟩ := hir.opened
  have Hb2 := Lib.hid hb2
  clear hb2 hz hr hx hy HS HQ
  obtain rfl : s = false := by have := Hm.out.1; rw [this]; simp; exact h0
  have Hn := Lib.hid (And.intro hne (And.intro h0 hy0))
  clear hne h0 hy0
  go_wp2_with fail
  go_ret2
  exact ⟨rfl, hiq, hir, Hb2.out⟩

set_option maxRecDepth 100000 in
set_option maxHeartbeats 4000000 in
theorem divmod_nn {w : World} {g gr gx gy : Nat} {x y : Int} (hz : IntS w g) (hr : IntS w gr) (hne : g ≠ gr) (hx : IntB w gx x) (hy : IntB w gy y) (hxl : (wds x.natAbs).length ≤ 900000000) (hyl : (wds y.natAbs).length ≤ 900000000) (hy0 : y ≠ 0) (h0 : x.tmod y < 0) (h1 : y < 0) :
    Calls Try.prog 74 #[.pointer (some ⟨g, 0, none⟩), .pointer (some ⟨gx, 0, none⟩), .pointer (some ⟨gy, 0, none⟩), .pointer (some ⟨gr, 0, none⟩)] w (PutsD w g gr (x / y) (x % y)) := by
  rw [(euclid_neg h0 h1).1, (euclid_neg h0 h1).2]
  have hb := new_below w (.cells #[.bool false, .slice none 0 0] 82)
  have hgl := hz.lt
  have hrl := hr.lt
  have HS := Lib.hid (set_any (IntB.zero w).slot (hy.below hb) hyl)
  go_enter Try.func74, Try.ntmps74
  go_wp2_with fail
  refine HS.out.mono ?_
  rintro e w1 ⟨rfl, hd1, hg1⟩
  have hb1 := below_new hg1
  have hz1 := hz.below hb1
  have hr1 := hr.below hb1
  have HQ := Lib.hid (quorem_any hz1 hr1 hne (hx.below hb1) (hy.below hb1) hxl hyl hy0)
  go_wp2_with fail
  refine HQ.out.mono ?_
  rintro e w2 ⟨wm, rfl, hiq, hir, hgm, hg2⟩
  have hzm := hz1.off hgm hne
  have hd2 := (hd1.off hr1 hgm (by omega)).off hzm hg2 (by omega)
  have hs2 : w.heap.size ≤ w2.heap.size := Nat.le_trans hb1.size (Nat.le_trans hgm.size hg2.size)
  have hb2 : ∀ (B : Nat) (w0 : World), Below B w0 w → B ≤ g → B ≤ gr → B ≤ w.heap.size → Below B w0 w2 := fun B w0 h h1 h2 h3 =>
    up_row (up_row (h.trans (hb1.mono h3)) hgm (Nat.le_trans h3 hb1.size) h2) hg2 (Nat.le_trans h3 (Nat.le_trans hb1.size hgm.size)) h1
  obtain ⟨s, A, n, c, m0, m1, Hm, _, _, _⟩ := hir.opened
  have Hb2 := Lib.hid hb2
  clear hb2 hz hr hx hy HS HQ
  obtain rfl : s = true := by have := Hm.out.1; rw [this]; simp; exact h0
  obtain ⟨sd, Ad, nd, cd, d0, d1, Hd, _, _, _⟩ := hd2.opened
  obtain rfl : sd = true := by have := Hd.out.1; rw [this]; simp; omega
  have Hn := Lib.hid (And.intro hne (And.intro h0 (And.intro hy0 h1)))
  have HN := Lib.hid (newint_any (w := w2) (n := 1) (by decide) (by decide))
  clear hne h0 hy0 h1
  go_wp2_with fail
  refine HN.out.mono ?_
  rintro e w3 ⟨rfl, hone, hb3⟩
  have hq3 := hiq.below hb3
  have hr3 := hir.below hb3
  have hd3 := hd2.below hb3
  have HA := Lib.hid (add2_any hq3.slot hq3 hone (len_tdiv hxl) len_one)
  clear hiq hir hd2 m0 m1 d0 d1
  go_wp2_with fail
  refine HA.out.mono ?_
  rintro e w4 ⟨rfl, hq4, hg4⟩
  have hr4 := hr3.off hq3.slot hg4 (fun h => Hn.out.1 h.symm)
  have hd4 := hd3.off hq3.slot hg4 (by omega)
  have hbn := new_below w4 (.cells #[.bool false, .slice none 0 0] 82)
  have HB := Lib.hid (abs_any (IntB.zero w4).slot (hd4.below hbn) hyl)
  have hz4 := hg4.size
  have hz3 := hb3.size
  clear hq3 hr3 hd3
  go_wp2_with fail
  refine HB.out.mono ?_
  rintro e w5 ⟨rfl, ha5, hg5⟩
  have hb5 := below_new hg5
  have hr5 := hr4.below hb5
  have hq5 := hq4.below hb5
  have HC := Lib.hid (add2_any hr5.slot hr5 ha5 (len_tmod hxl) (by rw [Int.natAbs_natCast]; exact hyl))
  clear hr4 hd4 hq4
  go_wp2_with fail
  refine HC.out.mono ?_
  rintro e w6 ⟨rfl, hr6, hg6⟩
  have hq6 := hq5.off hr5.slot hg6 Hn.out.1
  have hz5 := hb5.size
  clear hr5 hq5
  go_wp2_with fail
  go_ret2
  refine ⟨rfl, hq6, hr6, fun B w0 h h1 h2 h3 => ?_⟩
  exact up_row ((up_row ((Hb2.out B w0 h h1 h2 h3).trans (hb3.mono (by omega))) hg4 (by omega) h1).trans (hb5.mono (by omega))) hg6 (by omega) h2

set_option maxRecDepth 100000 in
set_option maxHeartbeats 4000000 in
theorem divmod_np {w : World} {g gr gx gy : Nat} {x y : Int} (hz : IntS w g) (hr : IntS w gr) (hne : g ≠ gr) (hx : IntB w gx x) (hy : IntB w gy y) (hxl : (wds x.natAbs).length ≤ 900000000) (hyl : (wds y.natAbs).length ≤ 900000000) (hy0 : y ≠ 0) (h0 : x.tmod y < 0) (h1 : 0 < y) :
    Calls Try.prog 74 #[.pointer (some ⟨g, 0, none⟩), .pointer (some ⟨gx, 0, none⟩), .pointer (some ⟨gy, 0, none⟩), .pointer (some ⟨gr, 0, none⟩)] w (PutsD w g gr (x / y) (x % y)) := by
  rw [(euclid_neg2 h0 h1).1, (euclid_neg2 h0 h1).2]
  have hb := new_below w (.cells #[.bool false, .slice none 0 0] 82)
  have hgl := hz.lt
  have hrl := hr.lt
  have HS := Lib.hid (set_any (IntB.zero w).slot (hy.below hb) hyl)
  go_enter Try.func74, Try.ntmps74
  go_wp2_with fail
  refine HS.out.mono ?_
  rintro e w1 ⟨rfl, hd1, hg1⟩
  have hb1 := below_new hg1
  have hz1 := hz.below hb1
  have hr1 := hr.below hb1
  have HQ := Lib.hid (quorem_any hz1 hr1 hne (hx.below hb1) (hy.below hb1) hxl hyl hy0)
  go_wp2_with fail
  refine HQ.out.mono ?_
  rintro e w2 ⟨wm, rfl, hiq, hir, hgm, hg2⟩
  have hzm := hz1.off hgm hne
  have hd2 := (hd1.off hr1 hgm (by omega)).off hzm hg2 (by omega)
  have hs2 : w.heap.size ≤ w2.heap.size := Nat.le_trans hb1.size (Nat.le_trans hgm.size hg2.size)
  have hb2 : ∀ (B : Nat) (w0 : World), Below B w0 w → B ≤ g → B ≤ gr → B ≤ w.heap.size → Below B w0 w2 := fun B w0 h h1 h2 h3 =>
    up_row (up_row (h.trans (hb1.mono h3)) hgm (Nat.le_trans h3 hb1.size) h2) hg2 (Nat.le_trans h3 (Nat.le_trans hb1.size hgm.size)) h1
  obtain ⟨s, A, n, c, m0, m1, Hm, _, _, _⟩ := hir.opened
  have Hb2 := Lib.hid hb2
  clear hb2 hz hr hx hy HS HQ
  obtain rfl : s = true := by have := Hm.out.1; rw [this]; simp; exact h0
  obtain ⟨sd, Ad, nd, cd, d0, d1, Hd, _, _, _⟩ := hd2.opened
  obtain rfl : sd = false := by have := Hd.out.1; rw [this]; simp; omega
  have Hn := Lib.hid (And.intro hne (And.intro h0 (And.intro hy0 h1)))
  have HN := Lib.hid (newint_any (w := w2) (n := 1) (by decide) (by decide))
  clear hne h0 hy0 h1
  go_wp2_with fail
  refine HN.out.mono ?_
  rintro e w3 ⟨rfl, hone, hb3⟩
  have hq3 := hiq.below hb3
  have hr3 := hir.below hb3
  have hd3 := hd2.below hb3
  have HA := Lib.hid (sub2_any hq3.slot hq3 hone (len_tdiv hxl) len_one)
  clear hiq hir hd2 m0 m1 d0 d1
  go_wp2_with fail
  refine HA.out.mono ?_
  rintro e w4 ⟨rfl, hq4, hg4⟩
  have hr4 := hr3.off hq3.slot hg4 (fun h => Hn.out.1 h.symm)
  have hd4 := hd3.off hq3.slot hg4 (by omega)
  have hbn := new_below w4 (.cells #[.bool false, .slice none 0 0] 82)
  have HB := Lib.hid (abs_any (IntB.zero w4).slot (hd4.below hbn) hyl)
  have hz4 := hg4.size
  have hz3 := hb3.size
  clear hq3 hr3 hd3
  go_wp2_with fail
  refine HB.out.mono ?_
  rintro e w5 ⟨rfl, ha5, hg5⟩
  have hb5 := below_new hg5
  have hr5 := hr4.below hb5
  have hq5 := hq4.below hb5
  have HC := Lib.hid (add2_any hr5.slot hr5 ha5 (len_tmod hxl) (by rw [Int.natAbs_natCast]; exact hyl))
  clear hr4 hd4 hq4
  go_wp2_with fail
  refine HC.out.mono ?_
  rintro e w6 ⟨rfl, hr6, hg6⟩
  have hq6 := hq5.off hr5.slot hg6 Hn.out.1
  have hz5 := hb5.size
  clear hr5 hq5
  go_wp2_with fail
  go_ret2
  refine ⟨rfl, hq6, hr6, fun B w0 h h1 h2 h3 => ?_⟩
  exact up_row ((up_row ((Hb2.out B w0 h h1 h2 h3).trans (hb3.mono (by omega))) hg4 (by omega) h1).trans (hb5.mono (by omega))) hg6 (by omega) h2
theorem divmod_any {w : World} {g gr gx gy : Nat} {x y : Int} (hz : IntS w g) (hr : IntS w gr) (hne : g ≠ gr) (hx : IntB w gx x) (hy : IntB w gy y) (hxl : (wds x.natAbs).length ≤ 900000000) (hyl : (wds y.natAbs).length ≤ 900000000) (hy0 : y ≠ 0) :
    Calls Try.prog 74 #[.pointer (some ⟨g, 0, none⟩), .pointer (some ⟨gx, 0, none⟩), .pointer (some ⟨gy, 0, none⟩), .pointer (some ⟨gr, 0, none⟩)] w (PutsD w g gr (x / y) (x % y)) := by
  by_cases h : x.tmod y < 0
  · rcases Int.lt_or_gt_of_ne hy0 with h0 | h0
    · exact divmod_nn hz hr hne hx hy hxl hyl hy0 h h0
    · exact divmod_np hz hr hne hx hy hxl hyl hy0 h h0
  · exact divmod_pos hz hr hne hx hy hxl hyl hy0 (by omega)
end Go.Proofs.Ytpnginnjbdedbaa
