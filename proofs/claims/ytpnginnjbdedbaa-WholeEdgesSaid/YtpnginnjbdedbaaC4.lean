import Derived.Test.YtpnginnjbdedbaaC3
import Derived.Test.YtpnginnjbdedbaaProg
import Derived.Test.YtpnginnjbdedbaaC1
import Derived.WalkKit
import Derived.WalkLawsBesides
import Derived.WalkSpells
import Derived.Handy
import Derived.Deep.LoopGhost
import Derived.Lib.AppendStr
import Derived.Laws.BytesArg
/- *big.Int: Rsh, GCD (printed by gen_int5.py). -/
namespace Go.Proofs.Ytpnginnjbdedbaa
open Go.RowKit
open Wh
set_option linter.unusedSimpArgs false

theorem pow2_abs (n : Nat) : ((2 : Int) ^ n).natAbs = 2 ^ n := by rw [Int.natAbs_pow]; rfl
theorem pow2_pos (n : Nat) : (0 : Int) < 2 ^ n := by have := Int.pow_pos (n := 2) (m := n) (by decide); exact this
theorem pow2_cast (n : Nat) : (2 : Int) ^ n = ((2 ^ n : Nat) : Int) := by rw [Int.natCast_pow]; rfl
theorem shr_pos {x : Int} {n : Nat} (h : ¬ x < 0) : sgn false (x.natAbs / 2 ^ n) = x / 2 ^ n := by
  obtain ⟨m, rfl⟩ : ∃ m : Nat, x = (m : Int) := ⟨x.natAbs, by omega⟩
  rw [pow2_cast, ← Int.natCast_ediv]
  rfl
theorem shr_even {x : Int} {n : Nat} (h : x < 0) (he : x.natAbs / 2 ^ n * 2 ^ n = x.natAbs) : sgn true (x.natAbs / 2 ^ n) = x / 2 ^ n := by
  refine ((Int.ediv_emod_unique (r := 0) (pow2_pos n)).2 ⟨?_, Int.le_refl _, pow2_pos n⟩).1.symm
  rw [pow2_cast]
  show 0 + ((2 ^ n : Nat) : Int) * -((x.natAbs / 2 ^ n : Nat) : Int) = x
  rw [Int.mul_neg, ← Int.natCast_mul, Nat.mul_comm, he]
  omega
theorem shr_odd {x : Int} {n : Nat} (h : x < 0) (he : x.natAbs / 2 ^ n * 2 ^ n < x.natAbs) : sgn true (x.natAbs / 2 ^ n + 1) = x / 2 ^ n := by
  have hp := Nat.two_pow_pos n
  have hl : x.natAbs < (x.natAbs / 2 ^ n + 1) * 2 ^ n := by
    have := Nat.lt_div_mul_add (a := x.natAbs) hp
    rw [Nat.add_mul, Nat.one_mul]
    exact this
  refine ((Int.ediv_emod_unique (r := (((x.natAbs / 2 ^ n + 1) * 2 ^ n - x.natAbs : Nat) : Int)) (pow2_pos n)).2 ⟨?_, by omega, ?_⟩).1.symm
  · rw [pow2_cast]
    show _ + ((2 ^ n : Nat) : Int) * -((x.natAbs / 2 ^ n + 1 : Nat) : Int) = x
    rw [Int.mul_neg, ← Int.natCast_mul, Nat.mul_comm (2 ^ n)]
    omega
  · rw [pow2_cast]
    rw [Nat.add_mul, Nat.one_mul] at hl ⊢
    omega

set_option maxRecDepth 100000 in
set_option maxHeartbeats 4000000 in
theorem rsh_pos {w : World} {g gx n : Nat} {x : Int} (hz : IntS w g) (hx : IntB w gx x) (hxl : (wds x.natAbs).length ≤ 800000000) (hn : n ≤ 900000000) (h0 : ¬ x < 0) :
    Calls Try.prog 76 #[.pointer (some ⟨g, 0, none⟩), .pointer (some ⟨gx, 0, none⟩), .int .u64 (n : Int)] w (Puts w g (x / 2 ^ n)) := by
  obtain ⟨sx, Ax, nx, cx, x0, x1, Hx, hxc, hxcl, rx⟩ := hx.opened
  have glx := hx.lt
  have hp := right_any (c := cx) (n := n) rx (Nat.le_refl _) Hx.out.2 hxc (by have := Hx.out.2; omega) (by omega) (wd_w _)
  rw [val_w] at hp
  obtain ⟨q, hq⟩ : ∃ q, q = x.natAbs / 2 ^ n := ⟨_, rfl⟩
  rw [← hq] at hp
  obtain ⟨v, hv⟩ : ∃ v : Int, v = x / 2 ^ n := ⟨_, rfl⟩
  rw [← hv]
  have hqx : q ≤ x.natAbs := by rw [hq]; exact Nat.div_le_self _ _
  have hql : (wds q).length ≤ 800000000 := Nat.le_trans (len_mono hqx) hxl
  have Hp := Lib.hid hp
  have Hq := Lib.hid (And.intro hq (And.intro hv (And.intro hql hxl)))
  obtain rfl : sx = false := by rw [Hx.out.1]; simp [h0]
  have Hres := Lib.hid (show sgn false q = v by rw [hq, hv]; exact shr_pos h0)
  clear hp rx hxl hq hv hqx hql h0
  go_enter Try.func76, Try.ntmps76
  go_wp2_with fail
  refine Hp.out.mono ?_
  rintro e w5 ⟨A5, m5, c5, rfl, hm5, hc5, hcl5, hr5, hb5⟩
  have u0 := (hb5.cell (p := ⟨gx, 0, none⟩) glx).trans x0
  have u1 := (hb5.cell (p := ⟨gx, 1, none⟩) glx).trans x1
  have hz5 := hz.below hb5
  clear x0 x1 hx hz
  go_wp2_with fail
  go_quiet (fail)
  have HI := Lib.hid (is_any (w := w5.drewN nq) false hz5 (hr5.drewN nq) (Nat.le_refl _) hm5.out hc5 hcl5 (wd_w _))
  go_wp2_with fail
  refine HI.out.mono ?_
  rintro e w6 ⟨rfl, hi6, hg6⟩
  rw [val_w, Hres.out] at hi6
  go_wp2_with fail
  go_ret
  exact ⟨rfl, hi6, grown_lift (below_drewN hb5 nq) hg6⟩

set_option maxRecDepth 100000 in
set_option maxHeartbeats 4000000 in
theorem rsh_even {w : World} {g gx n : Nat} {x : Int} (hz : IntS w g) (hx : IntB w gx x) (hxl : (wds x.natAbs).length ≤ 800000000) (hn : n ≤ 900000000) (h0 : x < 0) (he : x.natAbs / 2 ^ n * 2 ^ n = x.natAbs) :
    Calls Try.prog 76 #[.pointer (some ⟨g, 0, none⟩), .pointer (some ⟨gx, 0, none⟩), .int .u64 (n : Int)] w (Puts w g (x / 2 ^ n)) := by
  obtain ⟨sx, Ax, nx, cx, x0, x1, Hx, hxc, hxcl, rx⟩ := hx.opened
  have glx := hx.lt
  have hp := right_any (c := cx) (n := n) rx (Nat.le_refl _) Hx.out.2 hxc (by have := Hx.out.2; omega) (by omega) (wd_w _)
  rw [val_w] at hp
  obtain ⟨q, hq⟩ : ∃ q, q = x.natAbs / 2 ^ n := ⟨_, rfl⟩
  rw [← hq] at hp
  obtain ⟨v, hv⟩ : ∃ v : Int, v = x / 2 ^ n := ⟨_, rfl⟩
  rw [← hv]
  have hqx : q ≤ x.natAbs := by rw [hq]; exact Nat.div_le_self _ _
  have hql : (wds q).length ≤ 800000000 := Nat.le_trans (len_mono hqx) hxl
  have Hp := Lib.hid hp
  have Hq := Lib.hid (And.intro hq (And.intro hv (And.intro hql hxl)))
  obtain rfl : sx = true := by rw [Hx.out.1]; simp [h0]
  obtain ⟨cv, hcv, hcvv⟩ : ∃ cv : Int, cmpN (q * 2 ^ n) x.natAbs = cv ∧ cv = 0 := ⟨_, cmpN_eq (by rw [hq]; exact he), rfl⟩
  have Hres := Lib.hid (show sgn true q = v by rw [hq, hv]; exact shr_even h0 he)
  have hu := Lib.hid (And.intro hcv hcvv)
  have hlx : (wds (q * 2 ^ n)).length ≤ 800000000 := Nat.le_trans (len_mono (by rw [hq]; exact Nat.div_mul_le_self _ _)) hxl
  have Hlx := Lib.hid hlx
  have Rx := Lib.hid rx
  clear hp rx hxl hq hv hqx hql h0 he hcv hcvv hlx
  go_enter Try.func76, Try.ntmps76
  go_wp2_with fail
  refine Hp.out.mono ?_
  rintro e w4 ⟨A4, m4, c4, rfl, hm4, hc4, hcl4, hr4, hb4⟩
  have u0 := (hb4.cell (p := ⟨gx, 0, none⟩) glx).trans x0
  have u1 := (hb4.cell (p := ⟨gx, 1, none⟩) glx).trans x1
  have hz4 := hz.below hb4
  have rx4 := (Rx.out.below hb4).more hb4.size
  have gl4 : gx < w4.heap.size := Nat.lt_of_lt_of_le glx hb4.size
  have hl1 := left_any (w := w4.drew) (c := c4) (n := n) (hr4.drewN 1) (Nat.le_refl _) hm4.out (by have := hm4.out; have := Hq.out.2.2.1; omega) (by omega) (wd_w _)
  rw [val_w] at hl1
  have HL := Lib.hid hl1
  have hq1 : IntKind.i64.wrap (n : Int) = (n : Int) := IntWalk.i64_in _ (by omega)
  clear x0 x1 hx hz hl1
  go_wp2_with fail
  refine wp_region_noPanic ?_
  refine wp_region_HK (fun w' => (w'.cell? ⟨gx, 0, none⟩ = some (.bool true) ∧ w'.cell? ⟨gx, 1, none⟩ = some (.slice Ax nx cx)) ∧ ReadsW w' w'.heap.size Ax (wds x.natAbs)) 16 (by kernel_rfl) ⟨⟨u0, u1⟩, rx4.drewN 1⟩ (fun hHeld => ?_)
  refine wpHK_take (i := 0) (oi := Oper.mk (some 15) _ _ _ _ _) (v := ?_) rfl (by kernel_rfl) (by kernel_rfl) (by kernel_rfl) (by kernel_rfl) (fun _ _ _ h => h) (Or.inl ⟨by rfl, ?_⟩) (by assumption) ?_
  rotate_left
  · (intro w' hSw; (try dsimp only at hSw); (obtain ⟨⟨s1, s2⟩, _⟩ := hSw); go_simp; try with_reducible rfl)
  try simp only [Act.put, List.setIfInBounds_toArray, List.set_cons_zero, List.set_cons_succ]
  refine wpHK_take (i := 1) (oi := Oper.mk (some 16) _ _ _ _ _) (v := ?_) rfl (by kernel_rfl) (by kernel_rfl) (by kernel_rfl) (by kernel_rfl) (fun _ _ _ h => h) (Or.inl ⟨by rfl, ?_⟩) (by assumption) ?_
  rotate_left
  · (intro w' hSw; (try dsimp only at hSw); (obtain ⟨⟨s1, s2⟩, _⟩ := hSw); go_simp; try with_reducible rfl)
  try simp only [Act.put, List.setIfInBounds_toArray, List.set_cons_zero, List.set_cons_succ]
  refine wpHK_take (i := 2) (oi := Oper.mk (some 17) _ _ _ _ _) (v := ?_) rfl (by kernel_rfl) (by kernel_rfl) (by kernel_rfl) (by kernel_rfl) (fun _ _ _ h => h) (Or.inl ⟨by rfl, ?_⟩) (by assumption) ?_
  rotate_left
  · (intro w' hSw; (try dsimp only at hSw); (obtain ⟨⟨s1, s2⟩, _⟩ := hSw); go_simp; try with_reducible rfl)
  try simp only [Act.put, List.setIfInBounds_toArray, List.set_cons_zero, List.set_cons_succ]
  refine wpHK_take (i := 3) (oi := Oper.mk (some 18) _ _ _ _ _) (v := ?_) rfl (by kernel_rfl) (by kernel_rfl) (by kernel_rfl) (by kernel_rfl) (fun _ _ _ h => h) (Or.inl ⟨by rfl, ?_⟩) (by assumption) ?_
  rotate_left
  · (intro w' hSw; (try dsimp only at hSw); (obtain ⟨⟨s1, s2⟩, _⟩ := hSw); go_simp; try with_reducible rfl)
  try simp only [Act.put, List.setIfInBounds_toArray, List.set_cons_zero, List.set_cons_succ]
  refine wpHK_take (i := 4) (oi := Oper.mk (some 19) _ _ _ _ _) (v := ?_) rfl (by kernel_rfl) (by kernel_rfl) (by kernel_rfl) (by kernel_rfl) (fun _ _ _ h => h) (Or.inl ⟨by rfl, ?_⟩) (by assumption) ?_
  rotate_left
  · (intro w' hSw; (try dsimp only at hSw); (obtain ⟨⟨s1, s2⟩, _⟩ := hSw); go_simp; try with_reducible rfl)
  try simp only [Act.put, List.setIfInBounds_toArray, List.set_cons_zero, List.set_cons_succ]
  refine wpHK_take (i := 5) (oi := Oper.mk (some 20) _ _ _ _ _) (v := ?_) rfl (by kernel_rfl) (by kernel_rfl) (by kernel_rfl) (by kernel_rfl) (fun _ _ _ h => h) (Or.inl ⟨by rfl, ?_⟩) (by assumption) ?_
  rotate_left
  · (intro w' hSw; (try dsimp only at hSw); (obtain ⟨⟨s1, s2⟩, _⟩ := hSw); go_simp; try with_reducible rfl)
  try simp only [Act.put, List.setIfInBounds_toArray, List.set_cons_zero, List.set_cons_succ]
  refine wpHK_take (i := 6) (oi := Oper.mk (some 21) _ _ _ _ _) (v := ?_) rfl (by kernel_rfl) (by kernel_rfl) (by kernel_rfl) (by kernel_rfl) (fun _ _ _ h => h) (Or.inl ⟨by rfl, ?_⟩) (by assumption) ?_
  rotate_left
  · (intro w' hSw; (try dsimp only at hSw); (obtain ⟨⟨s1, s2⟩, _⟩ := hSw); go_simp; try with_reducible rfl)
  try simp only [Act.put, List.setIfInBounds_toArray, List.set_cons_zero, List.set_cons_succ]
  refine wpHK_take (i := 7) (oi := Oper.mk (some 22) _ _ _ _ _) (v := ?_) rfl (by kernel_rfl) (by kernel_rfl) (by kernel_rfl) (by kernel_rfl) (fun _ _ _ h => h) (Or.inl ⟨by rfl, ?_⟩) (by assumption) ?_
  rotate_left
  · (intro w' hSw; (try dsimp only at hSw); (obtain ⟨⟨s1, s2⟩, _⟩ := hSw); go_simp; try with_reducible rfl)
  try simp only [Act.put, List.setIfInBounds_toArray, List.set_cons_zero, List.set_cons_succ]
  refine wpHK_take (i := 9) (oi := Oper.mk (some 24) _ _ _ _ _) (v := ?_) rfl (by kernel_rfl) (by kernel_rfl) (by kernel_rfl) (by kernel_rfl) (fun _ _ _ h => h) (Or.inl ⟨by rfl, ?_⟩) (by assumption) ?_
  rotate_left
  · (intro w' hSw; (try dsimp only at hSw); (obtain ⟨⟨s1, s2⟩, _⟩ := hSw); go_simp; try with_reducible rfl)
  try simp only [Act.put, List.setIfInBounds_toArray, List.set_cons_zero, List.set_cons_succ]
  refine wpHK_take (i := 10) (oi := Oper.mk (some 25) _ _ _ _ _) (v := ?_) rfl (by kernel_rfl) (by kernel_rfl) (by kernel_rfl) (by kernel_rfl) (fun _ _ _ h => h) (Or.inl ⟨by rfl, ?_⟩) (by assumption) ?_
  rotate_left
  · (intro w' hSw; (try dsimp only at hSw); (obtain ⟨⟨s1, s2⟩, _⟩ := hSw); go_simp; try with_reducible rfl)
  try simp only [Act.put, List.setIfInBounds_toArray, List.set_cons_zero, List.set_cons_succ]
  refine wpHK_take (i := 11) (oi := Oper.mk (some 26) _ _ _ _ _) (v := ?_) rfl (by kernel_rfl) (by kernel_rfl) (by kernel_rfl) (by kernel_rfl) (fun _ _ _ h => h) (Or.inl ⟨by rfl, ?_⟩) (by assumption) ?_
  rotate_left
  · (intro w' hSw; (try dsimp only at hSw); (obtain ⟨⟨s1, s2⟩, _⟩ := hSw); go_simp; try with_reducible rfl)
  try simp only [Act.put, List.setIfInBounds_toArray, List.set_cons_zero, List.set_cons_succ]
  refine wpHK_take (i := 12) (oi := Oper.mk (some 27) _ _ _ _ _) (v := ?_) rfl (by kernel_rfl) (by kernel_rfl) (by kernel_rfl) (by kernel_rfl) (fun _ _ _ h => h) (Or.inl ⟨by rfl, ?_⟩) (by assumption) ?_
  rotate_left
  · (intro w' hSw; (try dsimp only at hSw); (obtain ⟨⟨s1, s2⟩, _⟩ := hSw); go_simp; try with_reducible rfl)
  try simp only [Act.put, List.setIfInBounds_toArray, List.set_cons_zero, List.set_cons_succ]
  refine wpHK_one (j := 8) (o := Oper.mk (some 23) _ _ _ _ _) rfl (by kernel_rfl) (fun K hK => ?_)
  go_simp
  refine (HL.out).mono ?_
  rintro e w5 ⟨A5, m5, c5, rfl, hm5, hc5, hcl5, hr5, hb5⟩
  try simp only []
  have hb5' : Below w4.heap.size w4 w5 := undrew hb5
  have rx5 := (rx4.below hb5').more hb5'.size
  have hC5 : (w5.cell? ⟨gx, 0, none⟩ = some (.bool true) ∧ w5.cell? ⟨gx, 1, none⟩ = some (.slice Ax nx cx)) ∧ ReadsW w5 w5.heap.size Ax (wds x.natAbs) := ⟨⟨(hb5'.cell (p := ⟨gx, 0, none⟩) gl4).trans u0, (hb5'.cell (p := ⟨gx, 1, none⟩) gl4).trans u1⟩, rx5⟩
  have hun := under_any (c := c5) (d := cx) hr5 rx5 hm5.out Hx.out.2 (by have := hm5.out; have := Hlx.out; omega) (by have := Hx.out.2; have := Hq.out.2.2.2; omega)
  rw [hu.out.1] at hun
  have HUN := Lib.hid hun
  clear hun
  refine hK.out _ _ hC5 (fun _ => ?_)
  clear hK K hHeld
  have hHeld := hC5
  try simp only [Act.put, List.setIfInBounds_toArray, List.set_cons_zero, List.set_cons_succ]
  refine wpHK_one (j := 13) (o := Oper.mk (some 28) _ _ _ _ _) rfl (by kernel_rfl) (fun K hK => ?_)
  go_simp
  refine HUN.out.mono ?_
  rintro e w6 ⟨q6, rfl, rfl⟩
  try simp only []
  have hC6 : ((w5.drewN q6).cell? ⟨gx, 0, none⟩ = some (.bool true) ∧ (w5.drewN q6).cell? ⟨gx, 1, none⟩ = some (.slice Ax nx cx)) ∧ ReadsW (w5.drewN q6) (w5.drewN q6).heap.size Ax (wds x.natAbs) := hC5
  refine hK.out _ _ hC6 (fun _ => ?_)
  clear hK K hHeld
  have hHeld := hC6
  try simp only [Act.put, List.setIfInBounds_toArray, List.set_cons_zero, List.set_cons_succ]
  refine wpHK_take (i := 14) (oi := Oper.mk (some 29) _ _ _ _ _) (v := ?_) rfl (by kernel_rfl) (by kernel_rfl) (by kernel_rfl) (by kernel_rfl) (fun _ _ _ h => h) (Or.inl ⟨by rfl, ?_⟩) (by assumption) ?_
  rotate_left
  · (intro w' hSw; (try dsimp only at hSw); (obtain ⟨⟨s1, s2⟩, _⟩ := hSw); go_simp; try with_reducible rfl)
  try simp only [Act.put, List.setIfInBounds_toArray, List.set_cons_zero, List.set_cons_succ]
  refine wpHK_take (i := 15) (oi := Oper.mk (some 30) _ _ _ _ _) (v := ?_) rfl (by kernel_rfl) (by kernel_rfl) (by kernel_rfl) (by kernel_rfl) (fun _ _ _ h => h) (Or.inl ⟨by rfl, ?_⟩) (by assumption) ?_
  rotate_left
  · (intro w' hSw; (try dsimp only at hSw); (obtain ⟨⟨s1, s2⟩, _⟩ := hSw); go_simp; try with_reducible rfl)
  try simp only [Act.put, List.setIfInBounds_toArray, List.set_cons_zero, List.set_cons_succ]
  refine wpHK_done (by kernel_rfl) ?_ _
  refine NoPanic.normal ?_
  have hr4' := ((hr4.below hb5').more hb5'.size).drewN q6
  have hb45 : Below w.heap.size w (w5.drewN q6) := below_drewN (hb4.trans (hb5'.mono hb4.size)) q6
  have hz5 : IntS (w5.drewN q6) g := (hz4.below hb5' : IntS w5 g)
  obtain ⟨⟨t0, t1⟩, _⟩ := hC6
  obtain rfl := hu.out.2
  have HI := Lib.hid (is_any (w := w5.drewN q6) true hz5 hr4' (Nat.le_refl _) hm4.out hc4 hcl4 (wd_w _))
  clear u0 u1 hHeld hC5
  go_wp2_with fail
  refine HI.out.mono ?_
  rintro e w7 ⟨rfl, hi7, hg7⟩
  rw [val_w, Hres.out] at hi7
  go_wp2_with fail
  go_ret
  exact ⟨rfl, hi7, grown_lift hb45 hg7⟩

set_option maxRecDepth 100000 in
set_option maxHeartbeats 4000000 in
theorem rsh_odd {w : World} {g gx n : Nat} {x : Int} (hz : IntS w g) (hx : IntB w gx x) (hxl : (wds x.natAbs).length ≤ 800000000) (hn : n ≤ 900000000) (h0 : x < 0) (he : x.natAbs / 2 ^ n * 2 ^ n < x.natAbs) :
    Calls Try.prog 76 #[.pointer (some ⟨g, 0, none⟩), .pointer (some ⟨gx, 0, none⟩), .int .u64 (n : Int)] w (Puts w g (x / 2 ^ n)) := by
  obtain ⟨sx, Ax, nx, cx, x0, x1, Hx, hxc, hxcl, rx⟩ := hx.opened
  have glx := hx.lt
  have hp := right_any (c := cx) (n := n) rx (Nat.le_refl _) Hx.out.2 hxc (by have := Hx.out.2; omega) (by omega) (wd_w _)
  rw [val_w] at hp
  obtain ⟨q, hq⟩ : ∃ q, q = x.natAbs / 2 ^ n := ⟨_, rfl⟩
  rw [← hq] at hp
  obtain ⟨v, hv⟩ : ∃ v : Int, v = x / 2 ^ n := ⟨_, rfl⟩
  rw [← hv]
  have hqx : q ≤ x.natAbs := by rw [hq]; exact Nat.div_le_self _ _
  have hql : (wds q).length ≤ 800000000 := Nat.le_trans (len_mono hqx) hxl
  have Hp := Lib.hid hp
  have Hq := Lib.hid (And.intro hq (And.intro hv (And.intro hql hxl)))
  obtain rfl : sx = true := by rw [Hx.out.1]; simp [h0]
  obtain ⟨cv, hcv, hcvv⟩ : ∃ cv : Int, cmpN (q * 2 ^ n) x.natAbs = cv ∧ cv = (-1) := ⟨_, cmpN_lt (by rw [hq]; exact he), rfl⟩
  have Hres := Lib.hid (show sgn true (q + 1) = v by rw [hq, hv]; exact shr_odd h0 he)
  have hu := Lib.hid (And.intro hcv hcvv)
  have hlx : (wds (q * 2 ^ n)).length ≤ 800000000 := Nat.le_trans (len_mono (by rw [hq]; exact Nat.div_mul_le_self _ _)) hxl
  have Hlx := Lib.hid hlx
  have Rx := Lib.hid rx
  clear hp rx hxl hq hv hqx hql h0 he hcv hcvv hlx
  go_enter Try.func76, Try.ntmps76
  go_wp2_with fail
  refine Hp.out.mono ?_
  rintro e w4 ⟨A4, m4, c4, rfl, hm4, hc4, hcl4, hr4, hb4⟩
  have u0 := (hb4.cell (p := ⟨gx, 0, none⟩) glx).trans x0
  have u1 := (hb4.cell (p := ⟨gx, 1, none⟩) glx).trans x1
  have hz4 := hz.below hb4
  have rx4 := (Rx.out.below hb4).more hb4.size
  have gl4 : gx < w4.heap.size := Nat.lt_of_lt_of_le glx hb4.size
  have hl1 := left_any (w := w4.drew) (c := c4) (n := n) (hr4.drewN 1) (Nat.le_refl _) hm4.out (by have := hm4.out; have := Hq.out.2.2.1; omega) (by omega) (wd_w _)
  rw [val_w] at hl1
  have HL := Lib.hid hl1
  have hq1 : IntKind.i64.wrap (n : Int) = (n : Int) := IntWalk.i64_in _ (by omega)
  clear x0 x1 hx hz hl1
  go_wp2_with fail
  refine wp_region_noPanic ?_
  refine wp_region_HK (fun w' => (w'.cell? ⟨gx, 0, none⟩ = some (.bool true) ∧ w'.cell? ⟨gx, 1, none⟩ = some (.slice Ax nx cx)) ∧ ReadsW w' w'.heap.size Ax (wds x.natAbs)) 16 (by kernel_rfl) ⟨⟨u0, u1⟩, rx4.drewN 1⟩ (fun hHeld => ?_)
  refine wpHK_take (i := 0) (oi := Oper.mk (some 15) _ _ _ _ _) (v := ?_) rfl (by kernel_rfl) (by kernel_rfl) (by kernel_rfl) (by kernel_rfl) (fun _ _ _ h => h) (Or.inl ⟨by rfl, ?_⟩) (by assumption) ?_
  rotate_left
  · (intro w' hSw; (try dsimp only at hSw); (obtain ⟨⟨s1, s2⟩, _⟩ := hSw); go_simp; try with_reducible rfl)
  try simp only [Act.put, List.setIfInBounds_toArray, List.set_cons_zero, List.set_cons_succ]
  refine wpHK_take (i := 1) (oi := Oper.mk (some 16) _ _ _ _ _) (v := ?_) rfl (by kernel_rfl) (by kernel_rfl) (by kernel_rfl) (by kernel_rfl) (fun _ _ _ h => h) (Or.inl ⟨by rfl, ?_⟩) (by assumption) ?_
  rotate_left
  · (intro w' hSw; (try dsimp only at hSw); (obtain ⟨⟨s1, s2⟩, _⟩ := hSw); go_simp; try with_reducible rfl)
  try simp only [Act.put, List.setIfInBounds_toArray, List.set_cons_zero, List.set_cons_succ]
  refine wpHK_take (i := 2) (oi := Oper.mk (some 17) _ _ _ _ _) (v := ?_) rfl (by kernel_rfl) (by kernel_rfl) (by kernel_rfl) (by kernel_rfl) (fun _ _ _ h => h) (Or.inl ⟨by rfl, ?_⟩) (by assumption) ?_
  rotate_left
  · (intro w' hSw; (try dsimp only at hSw); (obtain ⟨⟨s1, s2⟩, _⟩ := hSw); go_simp; try with_reducible rfl)
  try simp only [Act.put, List.setIfInBounds_toArray, List.set_cons_zero, List.set_cons_succ]
  refine wpHK_take (i := 3) (oi := Oper.mk (some 18) _ _ _ _ _) (v := ?_) rfl (by kernel_rfl) (by kernel_rfl) (by kernel_rfl) (by kernel_rfl) (fun _ _ _ h => h) (Or.inl ⟨by rfl, ?_⟩) (by assumption) ?_
  rotate_left
  · (intro w' hSw; (try dsimp only at hSw); (obtain ⟨⟨s1, s2⟩, _⟩ := hSw); go_simp; try with_reducible rfl)
  try simp only [Act.put, List.setIfInBounds_toArray, List.set_cons_zero, List.set_cons_succ]
  refine wpHK_take (i := 4) (oi := Oper.mk (some 19) _ _ _ _ _) (v := ?_) rfl (by kernel_rfl) (by kernel_rfl) (by kernel_rfl) (by kernel_rfl) (fun _ _ _ h => h) (Or.inl ⟨by rfl, ?_⟩) (by assumption) ?_
  rotate_left
  · (intro w' hSw; (try dsimp only at hSw); (obtain ⟨⟨s1, s2⟩, _⟩ := hSw); go_simp; try with_reducible rfl)
  try simp only [Act.put, List.setIfInBounds_toArray, List.set_cons_zero, List.set_cons_succ]
  refine wpHK_take (i := 5) (oi := Oper.mk (some 20) _ _ _ _ _) (v := ?_) rfl (by kernel_rfl) (by kernel_rfl) (by kernel_rfl) (by kernel_rfl) (fun _ _ _ h => h) (Or.inl ⟨by rfl, ?_⟩) (by assumption) ?_
  rotate_left
  · (intro w' hSw; (try dsimp only at hSw); (obtain ⟨⟨s1, s2⟩, _⟩ := hSw); go_simp; try with_reducible rfl)
  try simp only [Act.put, List.setIfInBounds_toArray, List.set_cons_zero, List.set_cons_succ]
  refine wpHK_take (i := 6) (oi := Oper.mk (some 21) _ _ _ _ _) (v := ?_) rfl (by kernel_rfl) (by kernel_rfl) (by kernel_rfl) (by kernel_rfl) (fun _ _ _ h => h) (Or.inl ⟨by rfl, ?_⟩) (by assumption) ?_
  rotate_left
  · (intro w' hSw; (try dsimp only at hSw); (obtain ⟨⟨s1, s2⟩, _⟩ := hSw); go_simp; try with_reducible rfl)
  try simp only [Act.put, List.setIfInBounds_toArray, List.set_cons_zero, List.set_cons_succ]
  refine wpHK_take (i := 7) (oi := Oper.mk (some 22) _ _ _ _ _) (v := ?_) rfl (by kernel_rfl) (by kernel_rfl) (by kernel_rfl) (by kernel_rfl) (fun _ _ _ h => h) (Or.inl ⟨by rfl, ?_⟩) (by assumption) ?_
  rotate_left
  · (intro w' hSw; (try dsimp only at hSw); (obtain ⟨⟨s1, s2⟩, _⟩ := hSw); go_simp; try with_reducible rfl)
  try simp only [Act.put, List.setIfInBounds_toArray, List.set_cons_zero, List.set_cons_succ]
  refine wpHK_take (i := 9) (oi := Oper.mk (some 24) _ _ _ _ _) (v := ?_) rfl (by kernel_rfl) (by kernel_rfl) (by kernel_rfl) (by kernel_rfl) (fun _ _ _ h => h) (Or.inl ⟨by rfl, ?_⟩) (by assumption) ?_
  rotate_left
  · (intro w' hSw; (try dsimp only at hSw); (obtain ⟨⟨s1, s2⟩, _⟩ := hSw); go_simp; try with_reducible rfl)
  try simp only [Act.put, List.setIfInBounds_toArray, List.set_cons_zero, List.set_cons_succ]
  refine wpHK_take (i := 10) (oi := Oper.mk (some 25) _ _ _ _ _) (v := ?_) rfl (by kernel_rfl) (by kernel_rfl) (by kernel_rfl) (by kernel_rfl) (fun _ _ _ h => h) (Or.inl ⟨by rfl, ?_⟩) (by assumption) ?_
  rotate_left
  · (intro w' hSw; (try dsimp only at hSw); (obtain ⟨⟨s1, s2⟩, _⟩ := hSw); go_simp; try with_reducible rfl)
  try simp only [Act.put, List.setIfInBounds_toArray, List.set_cons_zero, List.set_cons_succ]
  refine wpHK_take (i := 11) (oi := Oper.mk (some 26) _ _ _ _ _) (v := ?_) rfl (by kernel_rfl) (by kernel_rfl) (by kernel_rfl) (by kernel_rfl) (fun _ _ _ h => h) (Or.inl ⟨by rfl, ?_⟩) (by assumption) ?_
  rotate_left
  · (intro w' hSw; (try dsimp only at hSw); (obtain ⟨⟨s1, s2⟩, _⟩ := hSw); go_simp; try with_reducible rfl)
  try simp only [Act.put, List.setIfInBounds_toArray, List.set_cons_zero, List.set_cons_succ]
  refine wpHK_take (i := 12) (oi := Oper.mk (some 27) _ _ _ _ _) (v := ?_) rfl (by kernel_rfl) (by kernel_rfl) (by kernel_rfl) (by kernel_rfl) (fun _ _ _ h => h) (Or.inl ⟨by rfl, ?_⟩) (by assumption) ?_
  rotate_left
  · (intro w' hSw; (try dsimp only at hSw); (obtain ⟨⟨s1, s2⟩, _⟩ := hSw); go_simp; try with_reducible rfl)
  try simp only [Act.put, List.setIfInBounds_toArray, List.set_cons_zero, List.set_cons_succ]
  refine wpHK_one (j := 8) (o := Oper.mk (some 23) _ _ _ _ _) rfl (by kernel_rfl) (fun K hK => ?_)
  go_simp
  refine (HL.out).mono ?_
  rintro e w5 ⟨A5, m5, c5, rfl, hm5, hc5, hcl5, hr5, hb5⟩
  try simp only []
  have hb5' : Below w4.heap.size w4 w5 := undrew hb5
  have rx5 := (rx4.below hb5').more hb5'.size
  have hC5 : (w5.cell? ⟨gx, 0, none⟩ = some (.bool true) ∧ w5.cell? ⟨gx, 1, none⟩ = some (.slice Ax nx cx)) ∧ ReadsW w5 w5.heap.size Ax (wds x.natAbs) := ⟨⟨(hb5'.cell (p := ⟨gx, 0, none⟩) gl4).trans u0, (hb5'.cell (p := ⟨gx, 1, none⟩) gl4).trans u1⟩, rx5⟩
  have hun := under_any (c := c5) (d := cx) hr5 rx5 hm5.out Hx.out.2 (by have := hm5.out; have := Hlx.out; omega) (by have := Hx.out.2; have := Hq.out.2.2.2; omega)
  rw [hu.out.1] at hun
  have HUN := Lib.hid hun
  clear hun
  refine hK.out _ _ hC5 (fun _ => ?_)
  clear hK K hHeld
  have hHeld := hC5
  try simp only [Act.put, List.setIfInBounds_toArray, List.set_cons_zero, List.set_cons_succ]
  refine wpHK_one (j := 13) (o := Oper.mk (some 28) _ _ _ _ _) rfl (by kernel_rfl) (fun K hK => ?_)
  go_simp
  refine HUN.out.mono ?_
  rintro e w6 ⟨q6, rfl, rfl⟩
  try simp only []
  have hC6 : ((w5.drewN q6).cell? ⟨gx, 0, none⟩ = some (.bool true) ∧ (w5.drewN q6).cell? ⟨gx, 1, none⟩ = some (.slice Ax nx cx)) ∧ ReadsW (w5.drewN q6) (w5.drewN q6).heap.size Ax (wds x.natAbs) := hC5
  refine hK.out _ _ hC6 (fun _ => ?_)
  clear hK K hHeld
  have hHeld := hC6
  try simp only [Act.put, List.setIfInBounds_toArray, List.set_cons_zero, List.set_cons_succ]
  refine wpHK_take (i := 14) (oi := Oper.mk (some 29) _ _ _ _ _) (v := ?_) rfl (by kernel_rfl) (by kernel_rfl) (by kernel_rfl) (by kernel_rfl) (fun _ _ _ h => h) (Or.inl ⟨by rfl, ?_⟩) (by assumption) ?_
  rotate_left
  · (intro w' hSw; (try dsimp only at hSw); (obtain ⟨⟨s1, s2⟩, _⟩ := hSw); go_simp; try with_reducible rfl)
  try simp only [Act.put, List.setIfInBounds_toArray, List.set_cons_zero, List.set_cons_succ]
  refine wpHK_take (i := 15) (oi := Oper.mk (some 30) _ _ _ _ _) (v := ?_) rfl (by kernel_rfl) (by kernel_rfl) (by kernel_rfl) (by kernel_rfl) (fun _ _ _ h => h) (Or.inl ⟨by rfl, ?_⟩) (by assumption) ?_
  rotate_left
  · (intro w' hSw; (try dsimp only at hSw); (obtain ⟨⟨s1, s2⟩, _⟩ := hSw); go_simp; try with_reducible rfl)
  try simp only [Act.put, List.setIfInBounds_toArray, List.set_cons_zero, List.set_cons_succ]
  refine wpHK_done (by kernel_rfl) ?_ _
  refine NoPanic.normal ?_
  have hr4' := ((hr4.below hb5').more hb5'.size).drewN q6
  have hb45 : Below w.heap.size w (w5.drewN q6) := below_drewN (hb4.trans (hb5'.mono hb4.size)) q6
  have hz5 : IntS (w5.drewN q6) g := (hz4.below hb5' : IntS w5 g)
  obtain ⟨⟨t0, t1⟩, _⟩ := hC6
  obtain rfl := hu.out.2
  have hbk := Blk.new (w5.drewN q6) 98 (wcells [1])
  have hmo := more_any (c := c4) (d := 1) (m := 1) (la := wds q) (lb := [1]) ((hr4'.alloc (Nat.le_refl _) (.cells (wcells [1]) 98)).more (by simp)) (reads_blk hbk hbk.lt) (Nat.le_refl _) hm4.out rfl (by have := hm4.out; have := Hq.out.2.2.1; omega) (by omega) (wd_w _) (wd_cons.2 ⟨by decide, wd_nil⟩)
  rw [val_w, show val [1] = 1 from rfl] at hmo
  have HM := Lib.hid hmo
  have hbn := new_below (w5.drewN q6) (.cells (wcells [1]) 98)
  have hz6 := hz5.below hbn
  have t0' := (hbn.cell (p := ⟨gx, 0, none⟩) (Nat.lt_of_lt_of_le gl4 hb5'.size)).trans t0
  have g6 : gx < ((w5.drewN q6).alloc (.cells (wcells [1]) 98)).heap.size := by have := hb5'.size; simp; omega
  have Hb45 := Lib.hid (And.intro hb45 hbn)
  clear u0 u1 hHeld hC5 hmo hbk t1 hb45 hbn
  go_wp2_with fail
  refine HM.out.mono ?_
  rintro e w7 ⟨A7, l7, rfl, hw7, hv7, hr7, hb7, hcl7⟩
  have t7 := (hb7.cell (p := ⟨gx, 0, none⟩) g6).trans t0'
  have hz7 := hz6.below hb7
  have HI := Lib.hid (is_any true hz7 hr7 (Nat.le_refl _) rfl (Nat.le_refl _) hcl7 hw7)
  clear t0 t0'
  go_wp2_with fail
  refine HI.out.mono ?_
  rintro e w8 ⟨rfl, hi8, hg8⟩
  rw [hv7, Hres.out] at hi8
  go_wp2_with fail
  go_ret
  exact ⟨rfl, hi8, grown_lift (Hb45.out.1.trans ((Hb45.out.2.trans (hb7.mono (by simp))).mono Hb45.out.1.size)) hg8⟩
theorem rsh_any {w : World} {g gx n : Nat} {x : Int} (hz : IntS w g) (hx : IntB w gx x) (hxl : (wds x.natAbs).length ≤ 800000000) (hn : n ≤ 900000000) :
    Calls Try.prog 76 #[.pointer (some ⟨g, 0, none⟩), .pointer (some ⟨gx, 0, none⟩), .int .u64 (n : Int)] w (Puts w g (x / 2 ^ n)) := by
  by_cases h0 : x < 0
  · rcases Nat.lt_or_ge (x.natAbs / 2 ^ n * 2 ^ n) x.natAbs with h | h
    · exact rsh_odd hz hx hxl hn h0 h
    · exact rsh_even hz hx hxl hn h0 (Nat.le_antisymm (Nat.div_mul_le_self _ _) h)
  · exact rsh_pos hz hx hxl hn h0
end Go.Proofs.Ytpnginnjbdedbaa

/- *big.Int: GCD, Sqrt, Exp. -/
namespace Go.Proofs.Ytpnginnjbdedbaa
open Go.RowKit
open Wh
set_option linter.unusedSimpArgs false

theorem len_zero {m : Nat} : (wds m).length = 0 ↔ m = 0 := by
  constructor
  · intro h
    rcases Nat.eq_zero_or_pos m with h0 | h0
    · exact h0
    · rw [wds_pos h0] at h; simp at h
  · rintro rfl; rw [wds_zero]; rfl
/-- a slice that is the words of a value -/
def SlW (w : World) (B : Nat) (A : Option Addr) (n c m : Nat) : Prop := Hid (n = (wds m).length) ∧ n ≤ c ∧ c ≤ 9223372036854775807 ∧ ReadsW w B A (wds m)

set_option maxRecDepth 100000 in
set_option maxHeartbeats 4000000 in
theorem gcd_any {w : World} {g gx gy : Nat} {x y : Int} (hz : IntS w g) (hx : IntB w gx x) (hy : IntB w gy y) (hxl : (wds x.natAbs).length ≤ 900000000) (hyl : (wds y.natAbs).length ≤ 900000000) :
    Calls Try.prog 65 #[.pointer (some ⟨g, 0, none⟩), .pointer none, .pointer none, .pointer (some ⟨gx, 0, none⟩), .pointer (some ⟨gy, 0, none⟩)] w (Puts w g (Nat.gcd x.natAbs y.natAbs : Int)) := by
  obtain ⟨sx, Ax, nx, cx, x0, x1, Hx, hxc, hxcl, rx⟩ := hx.opened
  obtain ⟨sy, Ay, ny, cy, y0, y1, Hy, hyc, hycl, ry⟩ := hy.opened
  obtain ⟨G, hG⟩ : ∃ G : Nat, G = Nat.gcd x.natAbs y.natAbs := ⟨_, rfl⟩
  rw [← hG]
  have Hr := Lib.hid (And.intro hG (And.intro rx (And.intro ry (And.intro hxl hyl))))
  clear hG rx ry hxl hyl hx hy
  go_enter Try.func65, Try.ntmps65
  go_wp2_with fail
  go_quiet (fail)
  go_wp2_with fail
  go_loopg [11, 12] y.natAbs (fun k xv yv wr => ∃ (A C : Option Addr) (n c m d u : Nat), xv = .slice A n c ∧ yv = .slice C m d ∧ SlW wr wr.heap.size A n c u ∧ SlW wr wr.heap.size C m d k ∧ Below w.heap.size w wr ∧
    Hid (Nat.gcd u k = G ∧ (wds u).length ≤ 900000000 ∧ (wds k).length ≤ 900000000))
  case atStart => exact ⟨_, _, _, _, _, _, _, rfl, rfl, ⟨Hx.out.2, hxc, hxcl, Hr.out.2.1.drewN nq⟩, ⟨Hy.out.2, hyc, hycl, Hr.out.2.2.1.drewN nq⟩, below_drewN (Below.refl _ _) nq, Hr.out.1.symm, Hr.out.2.2.2.1, Hr.out.2.2.2.2⟩
  case round =>
    obtain ⟨A, C, n, c, m, d, u, rfl, rfl, ⟨hn, hnc, hcl, rn⟩, ⟨hm, hmd, hdl, rm⟩, hbel, hg⟩ := hrel
    by_cases h0 : 0 < gk
    · have hD := divide_any (c := c) (d := d) rn rm (Nat.le_refl _) hn.out hm.out (by have := hn.out; have := hg.out.2.1; omega) (by have := hm.out; have := hg.out.2.2; omega) hnc hcl hmd hdl h0
      have hmp : 0 < m := by
        have := hm.out
        rw [wds_pos h0] at this
        simp at this
        omega
      have hmi : (0 : Int) < (m : Int) := by omega
      have HD := Lib.hid hD
      have Rm := Lib.hid (And.intro rm h0)
      clear hD rn rm h0
      go_wp2_with fail
      refine HD.out.mono ?_
      rintro e w5 ⟨A5, m5, c5, A6, m6, c6, rfl, hm5, hc5, hc6, hcl5, hcl6, hr5, hr6, hb5⟩
      go_wp2_with fail
      go_roundg (u % gk)
      case measure => exact Nat.mod_lt _ Rm.out.2
      case rel =>
        refine ⟨_, _, _, _, _, _, gk, rfl, rfl, ⟨hm, hmd, hdl, (Rm.out.1.below hb5).more hb5.size⟩, ⟨hm5.out.2, hc6, hcl6, hr6⟩, hbel.trans (hb5.mono hbel.size), ?_, hg.out.2.2, ?_⟩
        · rw [← hg.out.1, Nat.gcd_comm u gk, Nat.gcd_rec gk u, Nat.gcd_comm]
        · exact Nat.le_trans (len_mono (Nat.mod_le _ _)) hg.out.2.1
    · have hk0 : gk = 0 := by omega
      subst hk0
      have hm0 : m = 0 := by have := hm.out; rw [wds_zero] at this; exact this
      subst hm0
      have hgu : u = G := by have := hg.out.1; rwa [Nat.gcd_zero_right] at this
      have Rn := Lib.hid (And.intro rn (And.intro hgu hz))
      clear rn rm h0 hgu hz
      go_wp2_with (at_builtin; refine wpW_append rfl (.const (.slice none 0 0)) (.tmp 35) rfl wr.heap.size _ [] (OwnW.nil _ _) rfl _ _ (wds u) Rn.out.1 n c hn.out rfl (by have := hg.out.2.1; simp only [List.length_nil]; omega) (Nat.le_refl _) ?_; intro A7 n7 c7 w7 ho7 hg7; rw [List.nil_append] at ho7; have Ho7 := Lib.hid (And.intro ho7 hg7); clear ho7 hg7)
      have hb7 : Below wr.heap.size wr w7 := below_of_grown Ho7.out.2
      have hz7 := (Rn.out.2.2.below hbel).below hb7
      have HI := Lib.hid (is_any false hz7 Ho7.out.1.reads (Nat.le_refl _) Ho7.out.1.len.1 Ho7.out.1.len.2.1 Ho7.out.1.len.2.2 (wd_w _))
      go_wp2_with fail
      refine HI.out.mono ?_
      rintro e w8 ⟨rfl, hi8, hg8⟩
      rw [val_w, Rn.out.2.1] at hi8
      go_wp2_with fail
      go_ret
      exact ⟨rfl, hi8, grown_lift (hbel.trans (hb7.mono hbel.size)) hg8⟩
end Go.Proofs.Ytpnginnjbdedbaa

/- *big.Int: Sqrt, Exp. -/
namespace Go.Proofs.Ytpnginnjbdedbaa
open Go.RowKit
open Wh
set_option linter.unusedSimpArgs false

theorem len_mul {a b p q : Nat} (ha : (wds a).length ≤ p) (hb : (wds b).length ≤ q) : (wds (a * b)).length ≤ p + q := by
  refine len_wds ?_
  rw [Nat.pow_add]
  exact Nat.mul_lt_mul'' (lt_of_len ha) (lt_of_len hb)
theorem len_small {a : Nat} (h : a < 4294967296) : (wds a).length ≤ 1 := len_wds (k := 1) (by omega)
/-- the first guess of a root -/
theorem first_root {x : Nat} (h : 0 < x) : x < (2 ^ (bl x / 2 + 1) + 1) * (2 ^ (bl x / 2 + 1) + 1) ∧ 2 ^ (bl x / 2 + 1) ≤ 2 * x := by
  have h1 := lt_bl x
  have h2 := bl_le h
  have h0 : 0 < bl x := by
    rcases Nat.eq_zero_or_pos (bl x) with h0 | h0
    · rw [h0] at h1; omega
    · exact h0
  constructor
  · have h3 : (2 : Nat) ^ bl x ≤ 2 ^ ((bl x / 2 + 1) + (bl x / 2 + 1)) := Nat.pow_le_pow_right (by decide) (by omega)
    rw [Nat.pow_add] at h3
    have h4 : 2 ^ (bl x / 2 + 1) * 2 ^ (bl x / 2 + 1) ≤ (2 ^ (bl x / 2 + 1) + 1) * (2 ^ (bl x / 2 + 1) + 1) := Nat.mul_le_mul (Nat.le_succ _) (Nat.le_succ _)
    omega
  · have h3 : (2 : Nat) ^ (bl x / 2 + 1) ≤ 2 ^ ((bl x - 1) + 1) := Nat.pow_le_pow_right (by decide) (by omega)
    rw [Nat.pow_succ 2 (bl x - 1)] at h3
    omega
theorem bl_len (m : Nat) : bl m ≤ 32 * (wds m).length := by
  refine bl_lt.2 ?_
  have h := lt_of_len (Nat.le_refl (wds m).length)
  rwa [show (4294967296 : Nat) = 2 ^ 32 by decide, ← Nat.pow_mul] at h
theorem tdiv_nat (a b : Nat) : (a : Int).tdiv (b : Int) = ((a / b : Nat) : Int) := rfl
theorem half_nat (a : Nat) : (a : Int) / 2 ^ 1 = ((a / 2 : Nat) : Int) := by
  rw [Int.natCast_ediv]; rfl

/-- a root is put -/
def Roots (w : World) (g m : Nat) (e : Ending) (w' : World) : Prop := ∃ r : Nat, r * r ≤ m ∧ m < (r + 1) * (r + 1) ∧ Puts w g (r : Int) e w'
set_option maxRecDepth 100000 in
set_option maxHeartbeats 4000000 in
theorem sqrt_any {w : World} {g gx m : Nat} (hz : IntS w g) (hx : IntB w gx (m : Int)) (hxl : (wds m).length ≤ 50000000) :
    Calls Try.prog 95 #[.pointer (some ⟨g, 0, none⟩), .pointer (some ⟨gx, 0, none⟩)] w (Roots w g m) := by
  have HS := Lib.hid (sign_any hx)
  rcases Nat.eq_zero_or_pos m with h0 | h0
  · subst h0
    have hI := is_any (B := 0) (n := 0) (c := 0) false hz (ReadsW.none_ w 0 none) (by omega) rfl (by omega) (by omega) wd_nil
    have HI := Lib.hid hI
    have Hs := Lib.hid (show sg ((0 : Nat) : Int) = 0 from rfl)
    have HS2 : Hid (Calls Try.prog 101 #[.pointer (some ⟨gx, 0, none⟩)] w (fun e w' => e = .returned (.int .i64 0) ∧ w = w')) := HS.out
    clear hI hz hx hxl HS
    go_enter Try.func95, Try.ntmps95
    go_wp2_with fail
    refine HS2.out.mono ?_
    rintro e w' ⟨rfl, rfl⟩
    go_wp2_with fail
    refine HI.out.mono ?_
    rintro e w6 ⟨rfl, hi6, hg6⟩
    go_wp2_with fail
    go_ret
    exact ⟨0, by omega, by omega, rfl, hi6, hg6⟩
  · have hsg : sg (m : Int) = 1 := by unfold sg; rw [if_neg (by omega), if_neg (by omega)]
    have HS2 : Hid (Calls Try.prog 101 #[.pointer (some ⟨gx, 0, none⟩)] w (fun e w' => e = .returned (.int .i64 1) ∧ w = w')) := by rw [← hsg]; exact HS.out
    have hb1 := new_below w (.cells #[.bool false, .slice none 0 0] 82)
    have H0 := Lib.hid (And.intro hx (And.intro hz hxl))
    have HN := Lib.hid (newint_any (w := w.alloc (.cells #[.bool false, .slice none 0 0] 82)) (n := 1) (by decide) (by decide))
    have Hfr := Lib.hid (first_root h0)
    have hbll : bl m ≤ 1600000000 := by have := bl_len m; omega
    clear HS hsg
    go_enter Try.func95, Try.ntmps95
    go_wp2_with fail
    refine HS2.out.mono ?_
    rintro e w' ⟨rfl, rfl⟩
    go_wp2_with fail
    refine HN.out.mono ?_
    rintro e w2 ⟨rfl, hone, hb2⟩
    have hone' : IntB w2 (w.heap.size + 1) 1 := by simpa using hone
    have hx2 := (hx.below hb1).below hb2
    have hz2 := (hz.below hb1).below hb2
    have hr2 := (IntB.zero w).slot.below hb2
    have hb12 : Below w.heap.size w w2 := hb1.trans (hb2.mono (by simp))
    have HBL := Lib.hid (bitlen_any hx2 (by rw [Int.natAbs_natCast]; omega))
    rw [Int.natAbs_natCast] at HBL
    have h1w : w.heap.size < w2.heap.size := hr2.lt
    go_wp2_with fail
    refine HBL.out.mono ?_
    rintro e w3 ⟨q3, rfl, rfl⟩
    have HL := Lib.hid (lsh_any (w := w2.drewN q3) (g := w.heap.size) (gx := w.heap.size + 1) (n := bl m / 2 + 1) hr2 (hone'.drewN q3) len_one (by omega))
    have H2 := Lib.hid (And.intro hx2 (And.intro hz2 hb12))
    generalize hbm : bl m = b at *
    have HX := Lib.hid (And.intro hbm (And.intro h0 hxl))
    clear hx hz hx2 hz2 hr2 hb12 hone hone' hbm h0 hxl
    go_wp2_with fail
    rw [show ((b : Int) / 2 + 1) = ((b / 2 + 1 : Nat) : Int) by omega]
    refine HL.out.mono ?_
    rintro e w4 ⟨rfl, hr4, hg4⟩
    rw [Int.one_mul, pow2_cast] at hr4
    have hs4 := hg4.size
    have hb4 : Below w.heap.size w w4 := up_row (below_drewN H2.out.2.2 q3) hg4 (Nat.le_of_lt h1w) (Nat.le_refl _)
    have Hst := Lib.hid (And.intro hr4 hb4)
    clear hr4 hb4 hg4 hs4 hb1 hb2 h1w
    go_wp2_with fail
    go_loopg [5] (2 ^ (b / 2 + 1)) (fun k rv wr => ∃ (gr : Nat), rv = .pointer (some ⟨gr, 0, none⟩) ∧ IntB wr gr ((k : Nat) : Int) ∧ w.heap.size ≤ gr ∧ Below w.heap.size w wr ∧ Hid (0 < k ∧ m < (k + 1) * (k + 1) ∧ k ≤ 2 * m))
    case atStart => exact ⟨_, rfl, Hst.out.1, Nat.le_refl _, Hst.out.2, Nat.two_pow_pos _, Hfr.out.1, Hfr.out.2⟩
    case round =>
      obtain ⟨gr, rfl, hr, hgr, hbel, hk⟩ := hrel
      obtain ⟨r, rfl⟩ : ∃ r : Nat, r = gk := ⟨gk, rfl⟩
      have hx1 := H0.out.1.below hbel
      have hbn := new_below wr (.cells #[.bool false, .slice none 0 0] 82)
      have hgrl := hr.lt
      have hl1 : (wds m).length ≤ 50000000 := H0.out.2.2
      have hlr : (wds r).length ≤ 50000001 := Nat.le_trans (len_mono hk.out.2.2) (Nat.le_trans (len_mul (p := 1) (q := 50000000) (len_small (by decide)) hl1) (by omega))
      have hlr' : (wds ((r : Nat) : Int).natAbs).length ≤ 50000001 := by rw [Int.natAbs_natCast]; exact hlr
      have hlm' : (wds ((m : Nat) : Int).natAbs).length ≤ 50000000 := by rw [Int.natAbs_natCast]; exact hl1
      have hq := quo_any (IntB.zero wr).slot (hx1.below hbn) (hr.below hbn) (by omega) (by omega) (by have := hk.out.1; omega)
      rw [tdiv_nat] at hq
      obtain ⟨d, hd⟩ : ∃ d, d = m / r := ⟨_, rfl⟩
      obtain ⟨s, hs⟩ : ∃ s, s = (d + r) / 2 := ⟨_, rfl⟩
      rw [← hd] at hq
      have hdl : (wds ((d : Nat) : Int).natAbs).length ≤ 50000000 := by rw [Int.natAbs_natCast, hd]; exact Nat.le_trans (len_mono (Nat.div_le_self _ _)) hl1
      have hdrl : (wds ((d : Int) + (r : Int)).natAbs).length ≤ 200000000 := by
        rw [show ((d : Int) + (r : Int)).natAbs = d + r by omega]
        rw [Int.natAbs_natCast] at hdl
        have h5 := len_mul (a := 2) (b := max d r) (p := 1) (q := 50000001) (len_small (a := 2) (by decide)) (by
          rcases Nat.le_total d r with h | h
          · rw [Nat.max_eq_right h]; exact hlr
          · rw [Nat.max_eq_left h]; omega)
        exact Nat.le_trans (len_mono (show d + r ≤ 2 * max d r by omega)) (by omega)
      have hsl : (wds ((s : Nat) : Int).natAbs).length ≤ 200000000 := by
        rw [Int.natAbs_natCast, hs]
        rw [show ((d : Int) + (r : Int)).natAbs = d + r by omega] at hdrl
        exact Nat.le_trans (len_mono (Nat.div_le_self _ _)) hdrl
      have hge := newton_ge (x := m) (r := r) (s := s) hk.out.1 (by rw [hs, hd])
      have hend := newton_end (x := m) (r := r) (s := s) (by rw [hs, hd])
      have HQ := Lib.hid hq
      have HS := Lib.hid (And.intro hs (And.intro hge hend))
      have Hl := Lib.hid (And.intro hlr' (And.intro hdl (And.intro hdrl hsl)))
      clear hq hd hs hge hend hlr hlr' hlm' hdl hdrl hsl hl1 hx1
      go_wp2_with fail
      refine HQ.out.mono ?_
      rintro e w5 ⟨rfl, hs5, hg5⟩
      have hb5 : Below wr.heap.size wr w5 := below_new hg5
      have hr5 := hr.below hb5
      have HA := Lib.hid (add2_any hs5.slot hs5 hr5 (by have := Hl.out.2.1; omega) (by have := Hl.out.1; omega))
      clear hr hbn hg5
      go_wp2_with fail
      refine HA.out.mono ?_
      rintro e w6 ⟨rfl, hs6, hg6⟩
      have hr6 := hr5.off hs5.slot hg6 (by omega)
      have hsz5 := hb5.size
      have hR := rsh_any (n := 1) hs6.slot hs6 (by have := Hl.out.2.2.1; omega) (by omega)
      rw [show ((d : Int) + (r : Int)) / 2 ^ 1 = ((s : Nat) : Int) by rw [HS.out.1, ← half_nat]; rfl] at hR
      have HR : Hid (Calls Try.prog 76 #[.pointer (some ⟨wr.heap.size, 0, none⟩), .pointer (some ⟨wr.heap.size, 0, none⟩), .int .u64 1] w6 (Puts w6 wr.heap.size ((s : Nat) : Int))) := hR
      have hb6 := up_row hb5 hg6 hb5.size (Nat.le_refl _)
      clear hr5 hR hs5 hg6
      go_wp2_with fail
      refine HR.out.mono ?_
      rintro e w7 ⟨rfl, hs7, hg7⟩
      have hr7 := hr6.off hs6.slot hg7 (by omega)
      have hb7 := up_row hb6 hg7 hb6.size (Nat.le_refl _)
      have hsz7 := hb7.size
      have hC := cmp_any hs7 hr7 (by have := Hl.out.2.2.2; omega) (by have := Hl.out.1; omega)
      clear hr6 hs6 hg7
      by_cases hsr : s < r
      · rw [show cmpI (s : Int) (r : Int) = -1 by unfold cmpI; rw [if_pos (by omega)]] at hC
        obtain ⟨v, hv⟩ : ∃ v : Int, v = -1 := ⟨_, rfl⟩
        rw [← hv] at hC
        have hv0 : v < 0 := by omega
        have HC := Lib.hid hC
        have Hsr := Lib.hid hsr
        clear hC hv hsr
        go_wp2_with fail
        refine HC.out.mono ?_
        rintro e w8 ⟨q8, rfl, rfl⟩
        go_wp2_with fail
        go_roundg s
        case measure => exact Hsr.out
        case rel =>
          refine ⟨_, rfl, hs7.drewN q8, by have := hbel.size; omega, below_drewN (hbel.trans (hb7.mono hbel.size)) q8, ?_, HS.out.2.1, ?_⟩
          · rcases Nat.eq_zero_or_pos s with h | h
            · have := HS.out.2.1
              rw [h] at this
              have := HX.out.2.1
              omega
            · exact h
          · have := hk.out.2.2
            have := Hsr.out
            omega
      · obtain ⟨v, hv, hv0⟩ : ∃ v : Int, cmpI (s : Int) (r : Int) = v ∧ 0 ≤ v := ⟨cmpI (s : Int) (r : Int), rfl, by
          unfold cmpI
          rw [if_neg (by omega)]
          split <;> omega⟩
        rw [hv] at hC
        have HC := Lib.hid hC
        have Hsr := Lib.hid hsr
        clear hC hv hsr
        go_wp2_with fail
        refine HC.out.mono ?_
        rintro e w8 ⟨q8, rfl, rfl⟩
        have hz8 : IntS (w7.drewN q8) g := ((H0.out.2.1.below hbel).below hb7 : IntS w7 g)
        have HT := Lib.hid (set_any (w := w7.drewN q8) hz8 (hr7.drewN q8) (by have := Hl.out.1; omega))
        go_wp2_with fail
        refine HT.out.mono ?_
        rintro e w9 ⟨rfl, hi9, hg9⟩
        go_wp2_with fail
        go_ret
        exact ⟨r, HS.out.2.2 (by have := Hsr.out; omega), hk.out.2.1, rfl, hi9, grown_lift (below_drewN (hbel.trans (hb7.mono hbel.size)) q8) hg9⟩
end Go.Proofs.Ytpnginnjbdedbaa

/- *big.Int: Exp (printed by gen_exp.py). -/
namespace Go.Proofs.Ytpnginnjbdedbaa
open Go.RowKit
open Wh
set_option linter.unusedSimpArgs false

theorem pow_plus (x : Int) (a b : Nat) : x ^ (a + b) = x ^ a * x ^ b := by
  induction b with
  | zero => rw [Nat.add_zero, Int.pow_zero, Int.mul_one]
  | succ b ih => rw [← Nat.add_assoc, Int.pow_succ, Int.pow_succ, ih, Int.mul_assoc]
theorem pow_len {m k e K : Nat} (hk : k ≤ e) (h : (wds (m ^ e)).length ≤ K) : (wds (m ^ k)).length ≤ K + 1 := by
  rcases Nat.eq_zero_or_pos m with h0 | h0
  · subst h0
    rcases Nat.eq_zero_or_pos k with h1 | h1
    · subst h1
      exact Nat.le_trans (len_small (by decide)) (by omega)
    · rw [Nat.zero_pow h1, wds_zero]
      simp
  · exact Nat.le_trans (len_mono (Nat.pow_le_pow_right h0 hk)) (by omega)
theorem bit_one {x : Int} {e i : Nat} (h : e / 2 ^ i % 2 = 1) : x ^ (e % 2 ^ i) * x ^ (2 ^ i) = x ^ (e % 2 ^ (i + 1)) := by
  rw [Nat.mod_pow_succ, h, Nat.mul_one, pow_plus]
theorem bit_none {x : Int} {e i : Nat} (h : e / 2 ^ i % 2 = 0) : x ^ (e % 2 ^ i) = x ^ (e % 2 ^ (i + 1)) := by
  rw [Nat.mod_pow_succ, h, Nat.mul_zero, Nat.add_zero]
theorem sq_up {x : Int} {i : Nat} : x ^ (2 ^ i) * x ^ (2 ^ i) = x ^ (2 ^ (i + 1)) := by
  rw [← pow_plus, Nat.pow_succ, Nat.mul_two]
theorem bl_top {e i : Nat} (h : i < bl e) : 2 ^ i ≤ e := by
  have h0 : 0 < e := by
    rcases Nat.eq_zero_or_pos e with h0 | h0
    · subst h0; rw [bl_zero] at h; omega
    · exact h0
  exact Nat.le_trans (Nat.pow_le_pow_right (by decide) (by omega)) (bl_le h0)

set_option maxRecDepth 100000 in
set_option maxHeartbeats 8000000 in
theorem exp_any {w : World} {g gx gy e : Nat} {x : Int} (hz : IntS w g) (hx : IntB w gx x) (hy : IntB w gy (e : Int)) (hxl : (wds (x.natAbs ^ e)).length ≤ 100000000) (hxl2 : (wds x.natAbs).length ≤ 100000000) (hel : (wds e).length ≤ 1000) :
    Calls Try.prog 96 #[.pointer (some ⟨g, 0, none⟩), .pointer (some ⟨gx, 0, none⟩), .pointer (some ⟨gy, 0, none⟩), .pointer none] w (Puts w g (x ^ e)) := by
  have HN := Lib.hid (newint_any (w := w) (n := 1) (by decide) (by decide))
  have H0 := Lib.hid (And.intro hx (And.intro hy (And.intro hz (And.intro hxl hel))))
  have hgl := hz.lt
  have hxg := hx.lt
  have hyg := hy.lt
  go_enter Try.func96, Try.ntmps96
  go_wp2_with fail
  refine HN.out.mono ?_
  rintro e1 w1 ⟨rfl, hone, hb1⟩
  have hbn := new_below w1 (.cells #[.bool false, .slice none 0 0] 82)
  have HS := Lib.hid (set_any (IntB.zero w1).slot ((hx.below hb1).below hbn) (by omega))
  have hol := hone.lt
  go_wp2_with fail
  refine HS.out.mono ?_
  rintro e2 w2 ⟨rfl, hs2, hg2⟩
  have hb2 : Below w1.heap.size w1 w2 := below_new hg2
  have ho2 := hone.below hb2
  have hb12 := hb1.trans (hb2.mono hb1.size)
  have hy2 := hy.below hb12
  have hsl := hs2.lt
  have HB := Lib.hid (bitlen_any hy2 (by rw [Int.natAbs_natCast]; omega))
  rw [Int.natAbs_natCast] at HB
  obtain ⟨b, hb⟩ : ∃ b, b = bl e := ⟨_, rfl⟩
  unfold Bitted at HB
  rw [← hb] at HB
  have hbl : b ≤ 32000 := by rw [hb]; have := bl_len e; omega
  have Hbb := Lib.hid (And.intro hb (And.intro ho2 (And.intro hs2 hb12)))
  have hos : w.heap.size < w1.heap.size := hol
  clear hb hx hy hz hxl hxl2 hel hone hs2 ho2 hb12 hb1 hbn hb2 hg2 hy2
  go_wp2_with fail
  refine HB.out.mono ?_
  rintro e3 w3 ⟨q3, rfl, rfl⟩
  go_wp2_with fail
  go_loopg [12] b (fun k iv wr => ∃ (i : Nat), iv = .int .i64 (i : Int) ∧ k = b - i ∧ i ≤ b ∧ IntB wr w.heap.size (x ^ (e % 2 ^ i)) ∧ IntB wr w1.heap.size (x ^ (2 ^ (min i (b - 1)))) ∧ Below w.heap.size w wr)
  case atStart => exact ⟨0, rfl, by omega, by omega, by rw [Nat.pow_zero, Nat.mod_one, Int.pow_zero]; exact Hbb.out.2.1.drewN q3, by rw [Nat.zero_min, Nat.pow_zero, Int.pow_succ, Int.pow_zero, Int.one_mul]; exact Hbb.out.2.2.1.drewN q3, below_drewN Hbb.out.2.2.2 q3⟩
  case round =>
    obtain ⟨i, rfl, hk, hi, ho, hs, hbel⟩ := hrel
    have Hk := Lib.hid hk
    clear hk
    have hyr := H0.out.2.1.below hbel
    have hop := hyr.opened
    obtain ⟨sy, Ay, ny, cy, y0, _, Hy, _, _, _⟩ := hop
    obtain rfl : sy = false := by rw [Hy.out.1]; simp
    by_cases hib : i < b
    · have hii : (i : Int) < (b : Int) := by omega
      have hmin : min i (b - 1) = i := by omega
      rw [hmin] at hs
      have htop := bl_top (e := e) (i := i) (by rw [← Hbb.out.1]; exact hib)
      have hl1 : (wds (x ^ (e % 2 ^ i)).natAbs).length ≤ 100000001 := by rw [Int.natAbs_pow]; exact pow_len (Nat.mod_le _ _) H0.out.2.2.2.1
      have hl2 : (wds (x ^ (2 ^ i)).natAbs).length ≤ 100000001 := by rw [Int.natAbs_pow]; exact pow_len htop H0.out.2.2.2.1
      have HBit := Lib.hid (bit_any (i := i) hyr (by rw [Int.natAbs_natCast]; have := H0.out.2.2.2.2; omega) (by omega))
      rw [Int.natAbs_natCast] at HBit
      have Hl := Lib.hid (And.intro hl1 (And.intro hl2 hmin))
      obtain ⟨v, hv⟩ : ∃ v, v = e / 2 ^ i % 2 := ⟨_, rfl⟩
      rw [← hv] at HBit
      have hv2 : v = 0 ∨ v = 1 := by omega
      have Hv := Lib.hid hv
      clear hyr htop hmin hl1 hl2 hv
      rcases hv2 with rfl | rfl
      · have Hh := Lib.hid Hv.out
        rw [bit_none Hv.out.symm] at ho
        go_wp2_with fail
        refine HBit.out.mono ?_
        rintro e5 w5 ⟨rfl, rfl⟩
        by_cases hi1 : i + 1 < b
        · have hii1 : (i : Int) + 1 < (b : Int) := by omega
          have HM2 := Lib.hid (mul_any hs.slot hs hs (by have := Hl.out.2.1; omega) (by have := Hl.out.2.1; omega))
          go_wp2_with fail
          refine HM2.out.mono ?_
          rintro e7 w7 ⟨rfl, hs7, hg7⟩
          have ho7 := ho.off hs.slot hg7 (by omega)
          go_wp2_with fail
          go_roundg (b - (i + 1))
          case measure => have := Hk.out; omega
          case rel =>
            refine ⟨i + 1, rfl, rfl, by omega, ?_, ?_, up_row hbel hg7 hbel.size (by omega)⟩
            · exact ho7
            · rw [show min (i + 1) (b - 1) = i + 1 by omega, ← sq_up]; exact hs7
        · have hii1 : (b : Int) ≤ (i : Int) + 1 := by omega
          go_wp2_with fail
          go_roundg (b - (i + 1))
          case measure => have := Hk.out; omega
          case rel =>
            refine ⟨i + 1, rfl, rfl, by omega, ?_, ?_, hbel⟩
            · exact ho
            · rw [show min (i + 1) (b - 1) = i by omega]; exact hs
      · have HM := Lib.hid (mul_any ho.slot ho hs (by have := Hl.out.1; omega) (by have := Hl.out.2.1; omega))
        go_wp2_with fail
        refine HBit.out.mono ?_
        rintro e5 w5 ⟨rfl, rfl⟩
        go_wp2_with fail
        refine HM.out.mono ?_
        rintro e6 w6 ⟨rfl, ho6, hg6⟩
        rw [bit_one Hv.out.symm] at ho6
        have hs6 := hs.off ho.slot hg6 (by omega)
        have hbel6 := up_row hbel hg6 hbel.size (Nat.le_refl _)
        clear ho hs y0
        by_cases hi1 : i + 1 < b
        · have hii1 : (i : Int) + 1 < (b : Int) := by omega
          have HM2 := Lib.hid (mul_any hs6.slot hs6 hs6 (by have := Hl.out.2.1; omega) (by have := Hl.out.2.1; omega))
          go_wp2_with fail
          refine HM2.out.mono ?_
          rintro e7 w7 ⟨rfl, hs7, hg7⟩
          have ho7 := ho6.off hs6.slot hg7 (by omega)
          go_wp2_with fail
          go_roundg (b - (i + 1))
          case measure => have := Hk.out; omega
          case rel =>
            refine ⟨i + 1, rfl, rfl, by omega, ?_, ?_, up_row hbel6 hg7 hbel6.size (by omega)⟩
            · exact ho7
            · rw [show min (i + 1) (b - 1) = i + 1 by omega, ← sq_up]; exact hs7
        · have hii1 : (b : Int) ≤ (i : Int) + 1 := by omega
          go_wp2_with fail
          go_roundg (b - (i + 1))
          case measure => have := Hk.out; omega
          case rel =>
            refine ⟨i + 1, rfl, rfl, by omega, ?_, ?_, hbel6⟩
            · exact ho6
            · rw [show min (i + 1) (b - 1) = i by omega]; exact hs6
    · have hi' : i = b := by omega
      have hlt : e % 2 ^ i = e := Nat.mod_eq_of_lt (by rw [hi', Hbb.out.1]; exact lt_bl e)
      rw [hlt] at ho
      have hii : (b : Int) ≤ (i : Int) := by omega
      have HZ := Lib.hid (set_any (H0.out.2.2.1.below hbel) ho (by rw [Int.natAbs_pow]; have := H0.out.2.2.2.1; omega))
      clear hlt hi' hyr
      go_wp2_with fail
      refine HZ.out.mono ?_
      rintro e9 w9 ⟨rfl, hi9, hg9⟩
      go_wp2_with fail
      go_ret
      exact ⟨rfl, hi9, grown_lift hbel hg9⟩
end Go.Proofs.Ytpnginnjbdedbaa

/- Byte slices: new bytes (OwnB), bytes that are read (ReadsB); append of bytes and of a string; a string made of bytes. -/
namespace Go.Proofs.Ytpnginnjbdedbaa
open Go.RowKit

/-- a byte as a value -/
def bv (b : UInt8) : Value := .int .u8 (b.toNat : Int)

theorem bv_one (l : List UInt8) : ∀ u ∈ l.map bv, u.oneCell' = true := by
  intro u hu
  obtain ⟨b, _, rfl⟩ := List.mem_map.1 hu
  rfl

/-- new bytes -/
def OwnB (w : World) (B : Nat) (v : Value) (l : List UInt8) : Prop := w.ownsRow B 5 1 v l.length (l.map bv)

/-- a slice's address, and the bytes that it reads, below block B -/
def ReadsB (w : World) (B : Nat) (A : Option Addr) (l : List UInt8) : Prop := Reads w B 1 A l.length (l.map bv)

theorem infoB : (Try.prog.info? 5).map (fun i => (i.zero, i.size, i.bytes)) = some (some (.int .u8 0), 1, 1) := by kernel_rfl

theorem OwnB.form {w : World} {B : Nat} {v : Value} {l : List UInt8} (h : OwnB w B v l) : ∃ A c, v = .slice A l.length c ∧ l.length ≤ c := by
  rcases h.2 with ⟨rfl, h0⟩ | ⟨g, cap, cur, rfl, _, _, hc, _⟩
  · exact ⟨none, 0, by rw [h0], by omega⟩
  · exact ⟨_, cap, rfl, hc⟩
theorem OwnB.len {w : World} {B n c : Nat} {A : Option Addr} {l : List UInt8} (h : OwnB w B (.slice A n c) l) : n = l.length := by
  obtain ⟨A', c', e, _⟩ := h.form
  injection e
theorem own_nil {w : World} {B : Nat} {v : Value} {l : List UInt8} (h : OwnB w B v l) (hv : v.ownBlock = none) : v = .slice none 0 0 := by
  rcases h.2 with ⟨rfl, _⟩ | ⟨g, cap, cur, rfl, _⟩
  · rfl
  · cases hv
theorem OwnB.far {w : World} {B g : Nat} {v : Value} {l : List UInt8} (h : OwnB w B v l) (hg : g < B) : some g ≠ v.ownBlock := by
  rcases h.2 with ⟨rfl, _⟩ | ⟨g', cap, cur, rfl, hb, _⟩
  · intro e; cases e
  · intro e
    have : g = g' := Option.some.inj e
    omega
theorem OwnB.grown {w w' : World} {B : Nat} {v : Value} {l : List UInt8} {r : Option Nat} (h : OwnB w B v l) (hg : w.grownBy w' r) (hr : v.ownBlock ≠ r ∨ v.ownBlock = none) : OwnB w' B v l := World.ownsRow.kept h hg hr.symm
theorem OwnB.reads {w : World} {B n c : Nat} {A : Option Addr} {l : List UInt8} (h : OwnB w B (.slice A n c) l) : ReadsB w w.heap.size A l := by
  obtain rfl := h.len
  exact Reads.of_own h
theorem OwnB.mono {w : World} {B B' : Nat} {v : Value} {l : List UInt8} (h : OwnB w B v l) (hB : B' ≤ B) : OwnB w B' v l := by
  refine ⟨h.1, ?_⟩
  rcases h.2 with h' | ⟨g, cap, cur, hv, hg, r⟩
  · exact .inl h'
  · exact .inr ⟨g, cap, cur, hv, by omega, r⟩
theorem OwnB.kept {w w' : World} {B : Nat} {v : Value} {l : List UInt8} (h : OwnB w B v l) (hb : Below w.heap.size w w') : OwnB w' B v l := by
  refine ⟨h.1, ?_⟩
  rcases h.2 with h' | ⟨g, cap, cur, hv, hg, hh, r⟩
  · exact .inl h'
  · exact .inr ⟨g, cap, cur, hv, hg, (hb.block g (lt_of_block hh)).trans hh, r⟩
theorem OwnB.alloc {w : World} {B : Nat} {v : Value} {l : List UInt8} (h : OwnB w B v l) (o : Obj) : OwnB (w.alloc o) B v l := World.ownsRow.alloc h o
theorem OwnB.drew {w : World} {B : Nat} {v : Value} {l : List UInt8} (h : OwnB w B v l) : OwnB w.drew B v l := h
theorem OwnB.drewN {w : World} {B : Nat} {v : Value} {l : List UInt8} (h : OwnB w B v l) (n : Nat) : OwnB (w.drewN n) B v l := h
theorem OwnB.nil (w : World) (B : Nat) : OwnB w B (.slice none 0 0) [] := World.ownsRow_nil w B _ 1

theorem OwnB.lit (w : World) (B : Nat) (l : List UInt8) (cs : Array Value) (n : Nat) (hcs : cs.toList = l.map bv) (hn : n = l.length) (hB : B ≤ w.heap.size) (hl : l.length ≤ 140737488355328) :
    OwnB (w.alloc (.cells cs 5)) B (.slice (some ⟨w.heap.size, 0, none⟩) n n) l := by
  subst hn
  have hs : cs.size = l.length := by rw [← Array.length_toList, hcs, List.length_map]
  exact ⟨by simp, .inr ⟨_, l.length, cs, rfl, hB, heap_alloc_new w _, Nat.le_refl _, by unfold maxLen; omega, by omega, by rw [hcs, Nat.mul_one, List.take_of_length_le (by simp)]⟩⟩
theorem ReadsB.alloc {w : World} {B : Nat} {A : Option Addr} {l : List UInt8} (h : ReadsB w B A l) (hB : B ≤ w.heap.size) (o : Obj) : ReadsB (w.alloc o) B A l := Reads.alloc h hB o

theorem wpB_append {w : World} {ops : Array Oper} {rest : List Oper} {o : Oper} {a : Act} {Q : Exit → Act → World → Prop} (hgd : o.guard = none) (s x : Operand)
    (ho : o.op = .call { callee := .builtin .append, args := #[s, x], argTypes := #[107, 107] }) (B : Nat) (v : Value) (l : List UInt8) (hown : OwnB w B v l) (hs : a.eval s = v)
    (B' : Nat) (A : Option Addr) (news : List UInt8) (hr : ReadsB w B' A news) (m c : Nat) (hm : m = news.length) (hx : a.eval x = .slice A m c) (hlen : l.length + news.length ≤ 140737488355328) (hbase : B ≤ w.heap.size)
    (h : ∀ A' n' c' w', OwnB w' B (.slice A' n' c') (l ++ news) → w.grownBy w' v.ownBlock → (v ≠ .slice none 0 0 → A' ≠ none) → wpList Try.prog ops Q rest (a.put o.dst (.slice A' n' c')) w') :
    wpList Try.prog ops Q (o :: rest) a w := by
  obtain ⟨i0, hi, hz0, hz1, hz2⟩ := info_parts infoB
  subst hm
  refine wpList_append_any w hgd s x 107 ho B 5 i0 (.int .u8 0) 1 1 Try.underlying107 hi hz0 hz1 hz2 rfl (by decide) v l.length (l.map bv) hs hown B' A news.length c (news.map bv) hx hr (bv_one _) (by unfold maxLen; omega) (by omega) hbase ?_
  intro v' w' h1 h2 h3
  have h4 : OwnB w' B v' (l ++ news) := by
    unfold OwnB
    rw [List.length_append, List.map_append]
    exact h1
  obtain ⟨A', c', rfl, _⟩ := h4.form
  refine h A' _ c' w' h4 h2 (fun hv => ?_)
  rintro rfl
  rcases h3 with h3 | h3
  · exact hv (own_nil hown h3.symm)
  · cases h3

theorem wpB_append_str {w : World} {ops : Array Oper} {rest : List Oper} {o : Oper} {a : Act} {Q : Exit → Act → World → Prop} (hgd : o.guard = none) (s x : Operand)
    (ho : o.op = .call { callee := .builtin .append, args := #[s, x], argTypes := #[107, 9] }) (B : Nat) (v : Value) (l : List UInt8) (hown : OwnB w B v l) (hs : a.eval s = v)
    (t : ByteArray) (hx : a.eval x = .string t) (hlen : l.length + t.size ≤ 140737488355328) (hbase : B ≤ w.heap.size)
    (h : ∀ A' n' c' w', OwnB w' B (.slice A' n' c') (l ++ t.data.toList) → w.grownBy w' v.ownBlock → wpList Try.prog ops Q rest (a.put o.dst (.slice A' n' c')) w') :
    wpList Try.prog ops Q (o :: rest) a w := by
  obtain ⟨i0, hi, hz0, hz1, hz2⟩ := info_parts infoB
  refine Lib.wpList_append_own_string w hgd s x 107 9 ho B 5 i0 Try.underlying107 Try.underlying9 hi hz0 hz1 hz2 v l.length (l.map bv) hs hown t hx (by unfold maxLen; omega) (by omega) hbase ?_
  intro v' w' h1 h2 _
  have h4 : OwnB w' B v' (l ++ t.data.toList) := by
    unfold OwnB
    rw [List.length_append, List.map_append]
    have e : t.data.toList.length = t.size := Array.length_toList
    rw [e]
    exact h1
  obtain ⟨A', c', rfl, _⟩ := h4.form
  exact h A' _ c' w' h4 h2

theorem stepB_append {w : World} {ops : Array Oper} {o : Oper} {a : Act} {K : Act → World → Prop} {Q : Exit → Act → World → Prop} {E : Prop} (hgd : o.guard = none) (s x : Operand)
    (ho : o.op = .call { callee := .builtin .append, args := #[s, x], argTypes := #[107, 107] }) (B : Nat) (v : Value) (l : List UInt8) (hown : OwnB w B v l) (hs : a.eval s = v)
    (B' : Nat) (A : Option Addr) (news : List UInt8) (hr : ReadsB w B' A news) (m c : Nat) (hm : m = news.length) (hx : a.eval x = .slice A m c) (hlen : l.length + news.length ≤ 140737488355328) (hbase : B ≤ w.heap.size)
    (h : ∀ A' n' c' w', OwnB w' B (.slice A' n' c') (l ++ news) → w.grownBy w' v.ownBlock → (v ≠ .slice none 0 0 → A' ≠ none) → K (a.put o.dst (.slice A' n' c')) w') :
    if Region.wanted o (yielded ops a.tmps) = true then Oper.wp Try.prog o a w K Q else E := by
  have hw : Region.wanted o (yielded ops a.tmps) = true := by simp [Region.wanted, hgd]
  rw [if_pos hw]
  obtain ⟨i0, hi, hz0, hz1, hz2⟩ := info_parts infoB
  subst hm
  refine wp_append_any w s x 107 ho B 5 i0 (.int .u8 0) 1 1 Try.underlying107 hi hz0 hz1 hz2 rfl (by decide) v l.length (l.map bv) hs hown B' A news.length c (news.map bv) hx hr (bv_one _) (by unfold maxLen; omega) (by omega) hbase ?_
  intro v' w' h1 h2 h3
  have h4 : OwnB w' B v' (l ++ news) := by
    unfold OwnB
    rw [List.length_append, List.map_append]
    exact h1
  obtain ⟨A', c', rfl, _⟩ := h4.form
  refine h A' _ c' w' h4 h2 (fun hv => ?_)
  rintro rfl
  rcases h3 with h3 | h3
  · exact hv (own_nil hown h3.symm)
  · cases h3

theorem stepB_append_str {w : World} {ops : Array Oper} {o : Oper} {a : Act} {K : Act → World → Prop} {Q : Exit → Act → World → Prop} {E : Prop} (hgd : o.guard = none) (s x : Operand)
    (ho : o.op = .call { callee := .builtin .append, args := #[s, x], argTypes := #[107, 9] }) (B : Nat) (v : Value) (l : List UInt8) (hown : OwnB w B v l) (hs : a.eval s = v)
    (t : ByteArray) (hx : a.eval x = .string t) (hlen : l.length + t.size ≤ 140737488355328) (hbase : B ≤ w.heap.size)
    (h : ∀ A' n' c' w', OwnB w' B (.slice A' n' c') (l ++ t.data.toList) → w.grownBy w' v.ownBlock → K (a.put o.dst (.slice A' n' c')) w') :
    if Region.wanted o (yielded ops a.tmps) = true then Oper.wp Try.prog o a w K Q else E := by
  have hw : Region.wanted o (yielded ops a.tmps) = true := by simp [Region.wanted, hgd]
  rw [if_pos hw]
  obtain ⟨i0, hi, hz0, hz1, hz2⟩ := info_parts infoB
  obtain ⟨v', w', hr, h1, h2, _⟩ := Lib.run_append_own_string (P := Try.prog) w B 107 9 o.type 5 i0 Try.underlying107 Try.underlying9 hi hz0 hz1 hz2 v l.length (l.map bv) hown t (by unfold maxLen; omega) (by omega) hbase
  have h4 : OwnB w' B v' (l ++ t.data.toList) := by
    unfold OwnB
    rw [List.length_append, List.map_append]
    have e : t.data.toList.length = t.size := Array.length_toList
    rw [e]
    exact h1
  obtain ⟨A', c', rfl, _⟩ := h4.form
  unfold Oper.wp execOp
  simp only [ho, resolve, invoke, builtin, Sem.run_bind, Sem.run_pure, Result.andThen_ok, List.map_toArray, List.map_cons, List.map_nil, hs, hx, hr]
  exact h A' _ c' w' h4 h2

theorem wpB_make {w : World} {ops : Array Oper} {rest : List Oper} {o : Oper} {a : Act} {Q : Exit → Act → World → Prop} (hgd : o.guard = none) (s x : Operand)
    (ho : o.op = .makeSlice 107 s x) (B : Nat) (kl kc : IntKind) (C : Int) (n : Nat) (hs : a.eval s = .int kl 0) (hx : a.eval x = .int kc C) (hC : C = (n : Int)) (hlen : n ≤ 281474976710656) (hbase : B ≤ w.heap.size)
    (h : ∀ w', OwnB w' B (.slice (some ⟨w.heap.size, 0, none⟩) 0 n) [] → w.grownBy w' none → wpList Try.prog ops Q rest (a.put o.dst (.slice (some ⟨w.heap.size, 0, none⟩) 0 n)) w') :
    wpList Try.prog ops Q (o :: rest) a w := by
  obtain ⟨i0, hi, hz0, hz1, hz2⟩ := info_parts infoB
  exact wpList_make_own w hgd s x 107 ho B 5 i0 (.int .u8 0) 1 Try.underlying107 hi hz0 hz1 kl kc C n hs hx hC (by rw [hz2]; omega) (by unfold maxLen; omega) hbase h

/-- string(b) -/
theorem run_str {w : World} {B n c : Nat} {A : Option Addr} {l : List UInt8} (hn : n = l.length) (hr : ReadsB w B A l) : (convert 107 9 (.slice A n c)).run Try.prog w = .ok (.string ⟨l.toArray⟩) w := by
  subst hn
  rw [run_convert_bytes_string w 107 9 5 A _ c Try.underlying107 Try.underlying5 Try.underlying9]
  rcases A with _ | ad
  · have hl : l = [] := by
      rcases Nat.eq_zero_or_pos l.length with h0 | h0
      · exact List.eq_nil_of_length_eq_zero h0
      · obtain ⟨_, h, _⟩ := hr.2 h0
        cases h
    subst hl
    simp [Conv.bytesToString]
    rfl
  · have e : l.map bv = (l.map fun b => (b.toNat : Int)).map (Value.int .u8) := by rw [List.map_map]; rfl
    have hc : ∀ (j : Nat) (u : Value), (l.map bv)[j]? = some u → w.cell? (ad.add j) = some u := by
      intro j u hu
      have h0 : 0 < l.length := by
        rcases Nat.eq_zero_or_pos l.length with h0 | h0
        · have hl := List.eq_nil_of_length_eq_zero h0
          subst hl
          simp at hu
        · exact h0
      obtain ⟨ad', h, _, hc⟩ := hr.2 h0
      injection h with h
      subst h
      exact hc j u hu
    have hl := run_loadCells_list (P := Try.prog) w ad (l.map bv) hc
    rw [List.length_map, e] at hl
    rw [run_bytesToString w ad l.length c _ hl, foldl_push_bytes]
    simp [ByteArray.empty, ByteArray.emptyWithCapacity]
    show [] ++ _ = l
    rw [List.nil_append]
    conv => rhs; rw [← List.map_id l]
    refine List.map_congr_left fun b _ => ?_
    simp

end Go.Proofs.Ytpnginnjbdedbaa

/- *big.Int: SetBytes, Bytes (printed by gen_bytes.py). -/
namespace Go.Proofs.Ytpnginnjbdedbaa
open Go.RowKit
open Wh
set_option linter.unusedSimpArgs false

theorem ReadsB.at_ {w : World} {B : Nat} {A : Option Addr} {l : List UInt8} (h : ReadsB w B A l) {k : Nat} (hk : k < l.length) : ∃ ad, A = some ad ∧ ad.block < B ∧ w.cell? (ad.add k) = some (.int .u8 ((l[k].toNat : Nat) : Int)) := by
  obtain ⟨ad, u, e, hb, hu, hc⟩ := Reads.at_ h hk
  refine ⟨ad, e, hb, ?_⟩
  rw [hc]
  rw [List.getElem?_map, List.getElem?_eq_getElem hk] at hu
  exact hu.symm
theorem pow256 (s : Nat) : (256 : Nat) ^ s = 2 ^ (s * 8) := by rw [show (256 : Nat) = 2 ^ 8 by decide, ← Nat.pow_mul, Nat.mul_comm]
theorem or_byte {x b s : Nat} (hs : s < 4) (hx : x < 256 ^ s) (hb : b < 256) : bits .or .u32 (x : Int) (IntKind.u32.wrap ((b : Int) * 2 ^ (s * 8))) = ((x + b * 256 ^ s : Nat) : Int) ∧ x + b * 256 ^ s < 4294967296 := by
  have h1 : (256 : Nat) ^ s ≤ 256 ^ 3 := Nat.pow_le_pow_right (by decide) (by omega)
  have h2 : (b + 1) * 256 ^ s ≤ 256 * 256 ^ s := Nat.mul_le_mul_right _ hb
  rw [Nat.add_mul, Nat.one_mul] at h2
  have h3 : b * 256 ^ s + 256 ^ s ≤ 4294967296 := by omega
  have e1 : ((b : Int) * 2 ^ (s * 8)) = ((b * 256 ^ s : Nat) : Int) := by rw [pow256, Int.natCast_mul, Int.natCast_pow]; rfl
  refine ⟨?_, by omega⟩
  rw [e1, show IntKind.u32.wrap ((b * 256 ^ s : Nat) : Int) = ((b * 256 ^ s : Nat) : Int) by rw [IntKind.wrap_u32]; omega, u32_or_nat _ _ (by omega) (by omega), Nat.or_comm]
  rw [pow256] at hx ⊢
  have := Nat.two_pow_add_eq_or_of_lt hx b
  rw [Nat.mul_comm] at this
  rw [← this, Nat.add_comm]
theorem bval_drop {l : List UInt8} {k : Nat} (h : k < l.length) : bval (l.drop k) = l[k].toNat * 256 ^ (l.length - (k + 1)) + bval (l.drop (k + 1)) := by
  rw [List.drop_eq_getElem_cons h, bval_cons, List.length_drop]

set_option maxRecDepth 100000 in
set_option maxHeartbeats 4000000 in
theorem setbytes_any {w : World} {g B n c : Nat} {A : Option Addr} {l : List UInt8} (hz : IntS w g) (hr : ReadsB w B A l) (hB : B ≤ w.heap.size) (hn : n = l.length) (hnl : n ≤ 1000000000) :
    Calls Try.prog 98 #[.pointer (some ⟨g, 0, none⟩), .slice A n c] w (Puts w g ((bval l : Nat) : Int)) := by
  have Hn := Lib.hid hn
  have hmk : ∀ w : World, (Instr.makeSlice 80 (.int .i64 (((n : Int) + 3) / 4)) (.int .i64 (((n : Int) + 3) / 4))).run Try.prog w = .ok (.slice (some ⟨w.heap.size, 0, none⟩) ((n + 3) / 4) ((n + 3) / 4)) (w.alloc (.cells (wcells (List.replicate ((n + 3) / 4) 0)) 98)) := fun w => by
    have := run_makeW ((n + 3) / 4) (by omega) w
    rw [← this, show (((n + 3) / 4 : Nat) : Int) = ((n : Int) + 3) / 4 by omega]
  have hgl := hz.lt
  clear hn
  go_enter Try.func98, Try.ntmps98
  go_wp2
  go_loopg [15] n (fun k iv wr => ∃ (i : Nat) (L : List Nat), iv = .int .i64 (i : Int) ∧ k = n - i ∧ i ≤ n ∧ Blk wr w.heap.size 98 (wcells L) ∧ Below w.heap.size w wr ∧
    Hid (L.length = (n + 3) / 4 ∧ Wd L ∧ val L = bval (l.drop (n - i))))
  case atStart => exact ⟨0, List.replicate ((n + 3) / 4) 0, rfl, by omega, by omega, Blk.new _ _ _, (Below.refl _ _).alloc (Nat.le_refl _) _, by simp, wd_zeros _, by rw [val_zeros, List.drop_of_length_le (by rw [← Hn.out]; omega)]; rfl⟩
  case round =>
    obtain ⟨i, L, rfl, hk, hi, hblk, hbel, hL⟩ := hrel
    have Hk := Lib.hid hk
    clear hk
    by_cases hin : i < n
    · obtain ⟨j, hj⟩ : ∃ j, n = i + 1 + j := ⟨n - (i + 1), by omega⟩
      have hjl : j < l.length := by rw [← Hn.out]; omega
      have hr' := hr.below (hbel.mono hB)
      obtain ⟨ad, rfl, hb1, c1⟩ := ReadsB.at_ hr' hjl
      have hiL : i / 4 < L.length := by have := hL.out.1; omega
      have hout : wr.cell? ⟨w.heap.size, i / 4, none⟩ = some (.int .u32 ((L[i / 4] : Nat) : Int)) := by rw [hblk.cell, wcells_get, List.getElem?_eq_getElem hiL]; rfl
      have hfz := hblk.frozen (i / 4)
      have hvl : val L < 256 ^ i := by
        rw [hL.out.2.2]
        have := bval_lt (l.drop (n - i))
        rw [List.length_drop, ← Hn.out, show n - (n - i) = i by omega] at this
        exact this
      have hws := word_small hvl hiL
      have hbt := UInt8.toNat_lt l[j]
      have hor := or_byte (Nat.mod_lt i (by decide)) hws hbt
      have hbs := byte_step (b := l[j].toNat) hiL
      have hbd : bval (l.drop j) = l[j].toNat * 256 ^ i + bval (l.drop (j + 1)) := by
        rw [bval_drop hjl, ← Hn.out, show n - (j + 1) = i by omega]
      obtain ⟨T, hT⟩ : ∃ T, T = L[i / 4] + l[j].toNat * 256 ^ (i % 4) := ⟨_, rfl⟩
      rw [← hT] at hor hbs
      have Hbs := Lib.hid (And.intro hbs hbd)
      have wx := wd_get hL.out.2.1 _ hiL
      obtain ⟨hor1, hor2⟩ := hor
      have hT2 : T ≤ 4294967295 := by omega
      generalize hx : L[i / 4] = x at *
      generalize hy : l[j].toNat = y at *
      have Hj := Lib.hid hj
      clear hx hy hws hvl hbs hbd hT hor2 hr' hr hj
      have hii : (i : Int) < (n : Int) := by omega
      obtain ⟨S, hS⟩ : ∃ S, S = i % 4 * 8 := ⟨_, rfl⟩
      rw [← hS] at hor1
      have q1 : IntKind.i64.wrap ((i : Int) / 4) = (i : Int) / 4 := IntWalk.i64_in _ (by omega)
      have q2 : (0 : Int) ≤ (i : Int) / 4 := by omega
      have q3 : (i : Int) / 4 < ((n : Int) + 3) / 4 := by omega
      have q4 : ((i : Int) / 4).toNat = i / 4 := by omega
      have q5 : IntKind.i64.wrap ((i : Int).tmod 4 * 8) = (S : Int) := by
        rw [show (i : Int).tmod 4 = ((i % 4 : Nat) : Int) from rfl, IntWalk.i64_in _ (by omega)]
        omega
      have hS31 : S ≤ 24 := by omega
      clear hS
      have q6 : IntKind.u32.wrap (y : Int) = (y : Int) := by rw [IntKind.wrap_u32]; omega
      have q7 : (j : Int) < (n : Int) := by have := Hj.out; omega
      go_wp2_with fail
      rw [show (n : Int) - 1 - (i : Int) = (j : Int) by have := Hj.out; omega]
      refine wp_region_noPanic ?_
      refine wp_region_HK (fun w' => w'.cell? ⟨w.heap.size, i / 4, none⟩ = some (.int .u32 (x : Int)) ∧ w'.cell? (ad.add j) = some (.int .u8 (y : Int))) 16 (by kernel_rfl) ⟨hout, c1⟩ (fun hHeld => ?_)
      refine wpHK_take (i := 0) (oi := Oper.mk (some 23) _ _ _ _ _) (v := ?_) rfl (by kernel_rfl) (by kernel_rfl) (by kernel_rfl) (by kernel_rfl) (fun _ _ _ h => h) (Or.inl ⟨by rfl, ?_⟩) (by assumption) ?_
      rotate_left
      · (intro w' hSw; (try dsimp only at hSw); (obtain ⟨s1, s2⟩ := hSw); go_simp; try with_reducible rfl)
      try simp only [Act.put, List.setIfInBounds_toArray, List.set_cons_zero, List.set_cons_succ]
      refine wpHK_take (i := 1) (oi := Oper.mk (some 24) _ _ _ _ _) (v := ?_) rfl (by kernel_rfl) (by kernel_rfl) (by kernel_rfl) (by kernel_rfl) (fun _ _ _ h => h) (Or.inl ⟨by rfl, ?_⟩) (by assumption) ?_
      rotate_left
      · (intro w' hSw; (try dsimp only at hSw); (obtain ⟨s1, s2⟩ := hSw); go_simp; try with_reducible rfl)
      try simp only [Act.put, List.setIfInBounds_toArray, List.set_cons_zero, List.set_cons_succ]
      refine wpHK_take (i := 2) (oi := Oper.mk (some 25) _ _ _ _ _) (v := ?_) rfl (by kernel_rfl) (by kernel_rfl) (by kernel_rfl) (by kernel_rfl) (fun _ _ _ h => h) (Or.inl ⟨by rfl, ?_⟩) (by assumption) ?_
      rotate_left
      · (intro w' hSw; (try dsimp only at hSw); (obtain ⟨s1, s2⟩ := hSw); go_simp; try with_reducible rfl)
      try simp only [Act.put, List.setIfInBounds_toArray, List.set_cons_zero, List.set_cons_succ]
      refine wpHK_take (i := 3) (oi := Oper.mk (some 26) _ _ _ _ _) (v := ?_) rfl (by kernel_rfl) (by kernel_rfl) (by kernel_rfl) (by kernel_rfl) (fun _ _ _ h => h) (Or.inl ⟨by rfl, ?_⟩) (by assumption) ?_
      rotate_left
      · (intro w' hSw; (try dsimp only at hSw); (obtain ⟨s1, s2⟩ := hSw); go_simp; try with_reducible rfl)
      try simp only [Act.put, List.setIfInBounds_toArray, List.set_cons_zero, List.set_cons_succ]
      refine wpHK_take (i := 4) (oi := Oper.mk (some 27) _ _ _ _ _) (v := ?_) rfl (by kernel_rfl) (by kernel_rfl) (by kernel_rfl) (by kernel_rfl) (fun _ _ _ h => h) (Or.inl ⟨by rfl, ?_⟩) (by assumption) ?_
      rotate_left
      · (intro w' hSw; (try dsimp only at hSw); (obtain ⟨s1, s2⟩ := hSw); go_simp; try with_reducible rfl)
      try simp only [Act.put, List.setIfInBounds_toArray, List.set_cons_zero, List.set_cons_succ]
      refine wpHK_take (i := 5) (oi := Oper.mk (some 28) _ _ _ _ _) (v := ?_) rfl (by kernel_rfl) (by kernel_rfl) (by kernel_rfl) (by kernel_rfl) (fun _ _ _ h => h) (Or.inl ⟨by rfl, ?_⟩) (by assumption) ?_
      rotate_left
      · (intro w' hSw; (try dsimp only at hSw); (obtain ⟨s1, s2⟩ := hSw); go_simp; try with_reducible rfl)
      try simp only [Act.put, List.setIfInBounds_toArray, List.set_cons_zero, List.set_cons_succ]
      refine wpHK_take (i := 6) (oi := Oper.mk (some 29) _ _ _ _ _) (v := ?_) rfl (by kernel_rfl) (by kernel_rfl) (by kernel_rfl) (by kernel_rfl) (fun _ _ _ h => h) (Or.inl ⟨by rfl, ?_⟩) (by assumption) ?_
      rotate_left
      · (intro w' hSw; (try dsimp only at hSw); (obtain ⟨s1, s2⟩ := hSw); go_simp; try with_reducible rfl)
      try simp only [Act.put, List.setIfInBounds_toArray, List.set_cons_zero, List.set_cons_succ]
      refine wpHK_take (i := 7) (oi := Oper.mk (some 30) _ _ _ _ _) (v := ?_) rfl (by kernel_rfl) (by kernel_rfl) (by kernel_rfl) (by kernel_rfl) (fun _ _ _ h => h) (Or.inl ⟨by rfl, ?_⟩) (by assumption) ?_
      rotate_left
      · (intro w' hSw; (try dsimp only at hSw); (obtain ⟨s1, s2⟩ := hSw); go_simp; try with_reducible rfl)
      try simp only [Act.put, List.setIfInBounds_toArray, List.set_cons_zero, List.set_cons_succ]
      refine wpHK_take (i := 8) (oi := Oper.mk (some 31) _ _ _ _ _) (v := ?_) rfl (by kernel_rfl) (by kernel_rfl) (by kernel_rfl) (by kernel_rfl) (fun _ _ _ h => h) (Or.inl ⟨by rfl, ?_⟩) (by assumption) ?_
      rotate_left
      · (intro w' hSw; (try dsimp only at hSw); (obtain ⟨s1, s2⟩ := hSw); go_simp; try with_reducible rfl)
      try simp only [Act.put, List.setIfInBounds_toArray, List.set_cons_zero, List.set_cons_succ]
      refine wpHK_take (i := 9) (oi := Oper.mk (some 32) _ _ _ _ _) (v := ?_) rfl (by kernel_rfl) (by kernel_rfl) (by kernel_rfl) (by kernel_rfl) (fun _ _ _ h => h) (Or.inl ⟨by rfl, ?_⟩) (by assumption) ?_
      rotate_left
      · (intro w' hSw; (try dsimp only at hSw); (obtain ⟨s1, s2⟩ := hSw); go_simp; try with_reducible rfl)
      try simp only [Act.put, List.setIfInBounds_toArray, List.set_cons_zero, List.set_cons_succ]
      refine wpHK_take (i := 10) (oi := Oper.mk (some 33) _ _ _ _ _) (v := ?_) rfl (by kernel_rfl) (by kernel_rfl) (by kernel_rfl) (by kernel_rfl) (fun _ _ _ h => h) (Or.inl ⟨by rfl, ?_⟩) (by assumption) ?_
      rotate_left
      · (intro w' hSw; (try dsimp only at hSw); (obtain ⟨s1, s2⟩ := hSw); go_simp; try with_reducible rfl)
      try simp only [Act.put, List.setIfInBounds_toArray, List.set_cons_zero, List.set_cons_succ]
      refine wpHK_take (i := 11) (oi := Oper.mk (some 34) _ _ _ _ _) (v := ?_) rfl (by kernel_rfl) (by kernel_rfl) (by kernel_rfl) (by kernel_rfl) (fun _ _ _ h => h) (Or.inl ⟨by rfl, ?_⟩) (by assumption) ?_
      rotate_left
      · (intro w' hSw; (try dsimp only at hSw); (obtain ⟨s1, s2⟩ := hSw); go_simp; try with_reducible rfl)
      try simp only [Act.put, List.setIfInBounds_toArray, List.set_cons_zero, List.set_cons_succ]
      refine wpHK_take (i := 12) (oi := Oper.mk (some 35) _ _ _ _ _) (v := ?_) rfl (by kernel_rfl) (by kernel_rfl) (by kernel_rfl) (by kernel_rfl) (fun _ _ _ h => h) (Or.inl ⟨by rfl, ?_⟩) (by assumption) ?_
      rotate_left
      · (intro w' hSw; (try dsimp only at hSw); (obtain ⟨s1, s2⟩ := hSw); go_simp; try with_reducible rfl)
      try simp only [Act.put, List.setIfInBounds_toArray, List.set_cons_zero, List.set_cons_succ]
      refine wpHK_take (i := 13) (oi := Oper.mk (some 36) _ _ _ _ _) (v := ?_) rfl (by kernel_rfl) (by kernel_rfl) (by kernel_rfl) (by kernel_rfl) (fun _ _ _ h => h) (Or.inl ⟨by rfl, ?_⟩) (by assumption) ?_
      rotate_left
      · (intro w' hSw; (try dsimp only at hSw); (obtain ⟨s1, s2⟩ := hSw); go_simp; try with_reducible rfl)
      try simp only [Act.put, List.setIfInBounds_toArray, List.set_cons_zero, List.set_cons_succ]
      refine wpHK_take (i := 14) (oi := Oper.mk (some 37) _ _ _ _ _) (v := ?_) rfl (by kernel_rfl) (by kernel_rfl) (by kernel_rfl) (by kernel_rfl) (fun _ _ _ h => h) (Or.inl ⟨by rfl, ?_⟩) (by assumption) ?_
      rotate_left
      · (intro w' hSw; (try dsimp only at hSw); (obtain ⟨s1, s2⟩ := hSw); go_simp; try with_reducible rfl)
      try simp only [Act.put, List.setIfInBounds_toArray, List.set_cons_zero, List.set_cons_succ]
      refine wpHK_take (i := 15) (oi := Oper.mk (some 38) _ _ _ _ _) (v := ?_) rfl (by kernel_rfl) (by kernel_rfl) (by kernel_rfl) (by kernel_rfl) (fun _ _ _ h => h) (Or.inl ⟨by rfl, ?_⟩) (by assumption) ?_
      rotate_left
      · (intro w' hSw; (try dsimp only at hSw); (obtain ⟨s1, s2⟩ := hSw); go_simp; try with_reducible rfl)
      try simp only [Act.put, List.setIfInBounds_toArray, List.set_cons_zero, List.set_cons_succ]
      refine wpHK_tail (j := 16) (o := Oper.mk (none) _ _ _ _ _) rfl (by kernel_rfl) (by decide) (fun K hK => ?_)
      go_simp
      refine hK.out _ _ ?_
      clear hK K
      try simp only [Act.put, List.setIfInBounds_toArray, List.set_cons_zero, List.set_cons_succ]
      refine wpHK_done (by kernel_rfl) ?_ _
      refine NoPanic.normal ?_
      clear q1 q2 q3 q4 q5 q6 q7
      go_wp2_with fail
      go_roundg (n - (i + 1))
      case measure => have := Hk.out; omega
      case rel =>
        refine ⟨i + 1, L.set (i / 4) T, rfl, rfl, by omega, ?_, ?_, ?_⟩
        · have := hblk.set_ (i / 4) (.int .u32 (T : Int))
          rw [wcells_set] at this
          exact this
        · exact (hbel.setCell (by show w.heap.size ≤ w.heap.size; omega) _).drew
        · refine ⟨by rw [List.length_set]; exact hL.out.1, wd_set hL.out.2.1 _ _ (by omega), ?_⟩
          have h5 := Hbs.out.1
          rw [hL.out.2.2, show n - i = j + 1 by have := Hj.out; omega] at h5
          rw [show n - (i + 1) = j by have := Hj.out; omega, Hbs.out.2, h5, Nat.mul_comm, Nat.add_comm]
    · have hi' : i = n := by omega
      have hii : (n : Int) ≤ (i : Int) := by omega
      have hLl := hL.out.1
      have hv := hL.out.2.2
      rw [show n - i = 0 by omega, List.drop_zero] at hv
      have HI := Lib.hid (is_any false (hz.below hbel) (reads_blk hblk hblk.lt) (Nat.le_refl _) hLl.symm (Nat.le_refl _) (by omega) hL.out.2.1)
      have Hv := Lib.hid hv
      clear hi' hLl hv hr
      go_wp2_with fail
      refine HI.out.mono ?_
      rintro e w6 ⟨rfl, hi6, hg6⟩
      rw [Hv.out] at hi6
      go_wp2_with fail
      go_ret
      exact ⟨rfl, hi6, grown_lift hbel hg6⟩

theorem byte_word {m i : Nat} : m / 256 ^ i % 256 = at_ (wds m) (i / 4) / 256 ^ (i % 4) % 256 := by
  rcases Nat.lt_or_ge (i / 4) (wds m).length with h | h
  · have e := div_words (wd_w m) (n := 8 * i) (by omega)
    rw [val_w, show 8 * i / 32 = i / 4 by omega, show 8 * i % 32 = 8 * (i % 4) by omega] at e
    rw [show (256 : Nat) = 2 ^ 8 by decide, ← Nat.pow_mul, ← Nat.pow_mul, e, val_drop h, ← at_get h]
    generalize val ((wds m).drop (i / 4 + 1)) = r
    generalize at_ (wds m) (i / 4) = u
    have hs : i % 4 < 4 := Nat.mod_lt _ (by decide)
    obtain ⟨z, hz⟩ : ∃ z, 8 * (i % 4) + (z + 8) = 32 := ⟨24 - 8 * (i % 4), by omega⟩
    have hp : 2 ^ (8 * (i % 4)) * (2 ^ z * 2 ^ 8) = 4294967296 := by rw [← Nat.pow_add 2 z, ← Nat.pow_add, hz]
    rw [← hp, Nat.mul_assoc, Nat.add_mul_div_left _ _ (Nat.two_pow_pos _)]
    rw [show 2 ^ z * 2 ^ 8 * r = 2 ^ 8 * (2 ^ z * r) by ac_rfl, Nat.add_mul_mod_self_left]
  · rw [at_end h, Nat.zero_div]
    have h1 : m < 256 ^ i := by
      have h2 := lt_of_len (n := m) (k := i / 4) h
      rw [show (4294967296 : Nat) = 256 ^ 4 by decide, ← Nat.pow_mul] at h2
      exact Nat.lt_of_lt_of_le h2 (Nat.pow_le_pow_right (by decide) (by omega))
    rw [Nat.div_eq_of_lt h1]
/-- the cells of bytes -/
def bcells (l : List UInt8) : Array Value := (l.map bv).toArray
theorem bcells_get (l : List UInt8) (i : Nat) : (bcells l)[i]? = l[i]?.map bv := by unfold bcells; rw [List.getElem?_toArray, List.getElem?_map]
theorem bcells_set (l : List UInt8) (i : Nat) (x : UInt8) : (bcells l).setIfInBounds i (.int .u8 (x.toNat : Int)) = bcells (l.set i x) := by
  unfold bcells
  rw [List.setIfInBounds_toArray, List.map_set]
  rfl
theorem madeB (n : Nat) : madeCells (Value.cells (.int .u8 0)) (n * 1) = bcells (List.replicate n 0) := by
  unfold bcells
  rw [List.map_replicate, Nat.mul_one]
  have h : (madeCells (Value.cells (.int .u8 0)) n).toList = List.replicate n (bv 0) := by
    unfold madeCells
    rw [Array.toList_map, Array.toList_range]
    refine List.eq_replicate_iff.2 ⟨by simp, fun b hb => ?_⟩
    simp only [List.mem_map] at hb
    obtain ⟨i, _, rfl⟩ := hb
    have e : i % (Value.int .u8 0).cells.size = 0 := Nat.mod_one i
    rw [e]
    rfl
  rw [← h]
theorem run_makeB (n : Nat) (hn : n ≤ 70368744177664) (w : World) :
    (Instr.makeSlice 107 (.int .i64 (n : Int)) (.int .i64 (n : Int))).run Try.prog w = .ok (.slice (some ⟨w.heap.size, 0, none⟩) n n) (w.alloc (.cells (bcells (List.replicate n 0)) 5)) := by
  obtain ⟨i0, hi, hz0, hz1, hz2⟩ := info_parts infoB
  have h := run_make_rowN (P := Try.prog) 107 5 i0 (.int .u8 0) Try.underlying107 hi hz0 .i64 .i64 n n (Nat.le_refl _) (by rw [hz2]; omega) (by omega) w
  rw [hz1, madeB] at h
  exact h
theorem readsb_blk {w : World} {g B : Nat} {l : List UInt8} (h : Blk w g 5 (bcells l)) (hB : g < B) : ReadsB w B (some ⟨g, 0, none⟩) l := by
  refine ⟨by simp, fun _ => ⟨_, rfl, hB, fun j u hu => ?_⟩⟩
  have := h.cell j
  rw [bcells_get] at this
  rw [List.getElem?_map] at hu
  rw [hu] at this
  rw [← this]
  unfold Addr.add
  split
  · rename_i h0; subst h0; rfl
  · simp
theorem bytes_len (m : Nat) : m < 256 ^ ((bl m + 7) / 8) ∧ (0 < m → 256 ^ ((bl m + 7) / 8 - 1) ≤ m ∧ 0 < (bl m + 7) / 8) := by
  constructor
  · have h := lt_bl m
    rw [show (256 : Nat) = 2 ^ 8 by decide, ← Nat.pow_mul]
    exact Nat.lt_of_lt_of_le h (Nat.pow_le_pow_right (by decide) (by omega))
  · intro hm
    have h := bl_le hm
    have h0 : 0 < bl m := by
      rcases Nat.eq_zero_or_pos (bl m) with h0 | h0
      · have := lt_bl m; rw [h0] at this; omega
      · exact h0
    refine ⟨?_, by omega⟩
    rw [show (256 : Nat) = 2 ^ 8 by decide, ← Nat.pow_mul]
    exact Nat.le_trans (Nat.pow_le_pow_right (by decide) (by omega)) h
theorem bys_of {L : List UInt8} {m : Nat} (hl : L.length = (bl m + 7) / 8) (hv : bval L = m) : bys m = L := by
  have hf : Formed L := by
    intro x hx h0
    cases L with
    | nil => cases hx
    | cons y r =>
      have hy : y = x := by simpa using hx
      subst hy
      rw [bval_cons, h0] at hv
      have h1 := bval_lt r
      have hm : 0 < m := by
        rcases Nat.eq_zero_or_pos m with h | h
        · subst h; rw [bl_zero] at hl; simp at hl
        · exact h
      have h2 := ((bytes_len m).2 hm).1
      rw [← hl, List.length_cons, Nat.add_sub_cancel] at h2
      simp at hv
      omega
  rw [← hv]
  exact bys_bval _ L rfl hf

/-- bytes that are read -/
def BytesW (w : World) (l : List UInt8) (e : Ending) (w' : World) : Prop := ∃ A n, e = .returned (.slice A n n) ∧ Hid (n = l.length) ∧ ReadsB w' w'.heap.size A l ∧ Below w.heap.size w w'
set_option maxRecDepth 100000 in
set_option maxHeartbeats 4000000 in
theorem bytes_any {w : World} {gx m : Nat} (z : Int) (hm : z.natAbs = m) (hx : IntB w gx z) (hxl : (wds m).length ≤ 100000000) :
    Calls Try.prog 102 #[.pointer (some ⟨gx, 0, none⟩)] w (BytesW w (bys m)) := by
  have HB := Lib.hid (bitlen_any hx (by rw [hm]; omega))
  rw [hm] at HB
  unfold Bitted at HB
  obtain ⟨b, hb⟩ : ∃ b, b = bl m := ⟨_, rfl⟩
  rw [← hb] at HB
  have hbl : b ≤ 3200000000 := by rw [hb]; have := bl_len m; omega
  obtain ⟨n, hn⟩ : ∃ n, n = (b + 7) / 8 := ⟨_, rfl⟩
  have hnl : n ≤ 400000001 := by omega
  have hmk : ∀ w : World, (Instr.makeSlice 107 (.int .i64 (((b : Int) + 7) / 8)) (.int .i64 (((b : Int) + 7) / 8))).run Try.prog w = .ok (.slice (some ⟨w.heap.size, 0, none⟩) n n) (w.alloc (.cells (bcells (List.replicate n 0)) 5)) := fun w => by
    have := run_makeB n (by omega) w
    rw [← this, show ((n : Nat) : Int) = ((b : Int) + 7) / 8 by omega]
  have Hn := Lib.hid (And.intro hn hb)
  have Hx := Lib.hid (And.intro hx hm)
  have hgl := hx.lt
  clear hx hm hb hn
  go_enter Try.func102, Try.ntmps102
  go_wp2_with fail
  refine HB.out.mono ?_
  rintro e w1 ⟨q, rfl, rfl⟩
  go_wp2_with fail
  rw [show ((b : Int) + 7) / 8 = (n : Int) by have := Hn.out.1; omega]
  clear hmk
  go_loopg [14] n (fun k iv wr => ∃ (i : Nat) (L : List UInt8), iv = .int .i64 (i : Int) ∧ k = n - i ∧ i ≤ n ∧ Blk wr w.heap.size 5 (bcells L) ∧ Below w.heap.size w wr ∧
    Hid (L.length = n ∧ bval (L.drop (n - i)) = m % 256 ^ i))
  case atStart => exact ⟨0, List.replicate n 0, rfl, by omega, by omega, Blk.new _ _ _, (below_drewN (Below.refl _ _) q).alloc (Nat.le_refl _) _, by simp, by rw [List.drop_of_length_le (by simp), Nat.pow_zero, Nat.mod_one]; rfl⟩
  case round =>
    obtain ⟨i, L, rfl, hk, hi, hblk, hbel, hL⟩ := hrel
    have Hk := Lib.hid hk
    clear hk
    by_cases hin : i < n
    · have hxr := Hx.out.1.below hbel
      obtain ⟨sx, Ax, nx, cx, _, x1, Hxx, _, _, rx⟩ := hxr.opened
      rw [Hx.out.2] at rx
      have hnx := Hxx.out.2
      rw [Hx.out.2] at hnx
      have hi4 : i / 4 < (wds m).length := by
        rcases Nat.lt_or_ge (i / 4) (wds m).length with h | h
        · exact h
        · exfalso
          have h2 := bl_len m
          have h3 := Hn.out.1
          have h4 := Hn.out.2
          omega
      obtain ⟨ad, rfl, hb1, c1⟩ := rx.at_ hi4
      rw [← at_get] at c1
      have hbw := byte_word (m := m) (i := i)
      have hu := at_lt (wd_w m) (i / 4)
      have hni : (i : Int) / 4 < (nx : Int) := by omega
      have hjL : n - 1 - i < L.length := by have := hL.out.1; omega
      have hout : wr.cell? ⟨w.heap.size, n - 1 - i, none⟩ = some (.int .u8 ((L[n - 1 - i].toNat : Nat) : Int)) := by rw [hblk.cell, bcells_get, List.getElem?_eq_getElem hjL]; rfl
      have hfz := hblk.frozen (n - 1 - i)
      obtain ⟨S, hS⟩ : ∃ S, S = i % 4 * 8 := ⟨_, rfl⟩
      have hS31 : S ≤ 24 := by omega
      generalize at_ (wds m) (i / 4) = u at *
      generalize L[n - 1 - i].toNat = y0 at *
      have hii : (i : Int) < (n : Int) := by omega
      have Hbw := Lib.hid (And.intro hbw (And.intro hS hnx))
      clear hbw hnx hi4 rx hxr hjL
      clear hS
      go_wp2_with fail
      obtain ⟨X, hX⟩ : ∃ X : UInt8, X = UInt8.ofNat (m / 256 ^ i % 256) := ⟨_, rfl⟩
      have hXn : X.toNat = m / 256 ^ i % 256 := by rw [hX, byte_nat]
      have hval : (u : Int) / 2 ^ (i % 4 * 8) % 256 = (X.toNat : Int) := by
        rw [hXn, Hbw.out.1, pow256, Int.natCast_emod, Int.natCast_ediv, Int.natCast_pow]; rfl
      rw [hval]
      go_roundg (n - (i + 1))
      case measure => have := Hk.out; omega
      case rel =>
        refine ⟨i + 1, L.set (n - 1 - i) X, rfl, rfl, by omega, ?_, hbel.setCell (by show w.heap.size ≤ w.heap.size; omega) _, by rw [List.length_set]; exact hL.out.1, ?_⟩
        · have := hblk.set_ (n - 1 - i) (.int .u8 (X.toNat : Int))
          rwa [bcells_set] at this
        · have hjl : n - (i + 1) < (L.set (n - 1 - i) X).length := by rw [List.length_set, hL.out.1]; omega
          rw [bval_drop hjl, List.length_set, hL.out.1]
          have e1 : (L.set (n - 1 - i) X)[n - (i + 1)] = X := by
            simp only [show n - (i + 1) = n - 1 - i by omega, List.getElem_set_self]
          rw [e1, show n - (i + 1) + 1 = n - i by omega, List.drop_set_of_lt (by omega), hL.out.2, Nat.mod_pow_succ, hXn, show n - (n - i) = i by omega]
          rw [Nat.mul_comm, Nat.add_comm]
    · have hi' : i = n := by omega
      have hii : (n : Int) ≤ (i : Int) := by omega
      have hv := hL.out.2
      rw [show n - i = 0 by omega, List.drop_zero, hi', Nat.mod_eq_of_lt (by rw [Hn.out.1, Hn.out.2]; exact (bytes_len m).1)] at hv
      have hb := bys_of (L := L) (m := m) (by rw [hL.out.1, Hn.out.1, Hn.out.2]) hv
      have Hb := Lib.hid hb
      clear hv hb hi'
      go_wp2_with fail
      go_ret
      exact ⟨_, n, rfl, by rw [Hb.out]; exact hL.out.1.symm, by rw [Hb.out]; exact readsb_blk hblk hblk.lt, hbel⟩
end Go.Proofs.Ytpnginnjbdedbaa

/- Decimal digits: plain, no Go in sight. -/
namespace Go.Proofs.Ytpnginnjbdedbaa
namespace Wh

def dig (n : Nat) : UInt8 := UInt8.ofNat (48 + n % 10)
theorem dig_nat (n : Nat) : (dig n).toNat = 48 + n % 10 := by unfold dig; rw [UInt8.toNat_ofNat']; omega
/-- the lowest digits, the lowest first -/
def dl (m : Nat) : Nat → List UInt8
  | 0 => []
  | L + 1 => dig m :: dl (m / 10) L
theorem dl_len : ∀ (L m : Nat), (dl m L).length = L
  | 0, _ => rfl
  | L + 1, m => by rw [dl, List.length_cons, dl_len L]
theorem dl_snoc : ∀ (L m : Nat), dl m (L + 1) = dl m L ++ [dig (m / 10 ^ L)]
  | 0, m => by rw [Nat.pow_zero, Nat.div_one]; rfl
  | L + 1, m => by
    rw [dl, dl_snoc L (m / 10), dl, Nat.div_div_eq_div_mul, Nat.pow_succ, Nat.mul_comm 10]
    rfl
/-- the digits of a number, the highest first; none of 0 -/
def dec (n : Nat) : List UInt8 := if _h : n = 0 then [] else dec (n / 10) ++ [dig n]
theorem dec_zero : dec 0 = [] := by rw [dec]; simp
theorem dec_pos {n : Nat} (h : 0 < n) : dec n = dec (n / 10) ++ [dig n] := by rw [dec, dif_neg (by omega)]
theorem dl_dec : ∀ (L m : Nat), m / 10 ^ L = 0 → (L = 0 ∨ 0 < m / 10 ^ (L - 1)) → (dl m L).reverse = dec m
  | 0, m, h, _ => by
    rw [Nat.pow_zero, Nat.div_one] at h
    subst h
    rw [dec_zero]; rfl
  | L + 1, m, h, h2 => by
    have h3 : 0 < m / 10 ^ L := by
      rcases h2 with h2 | h2
      · cases h2
      · exact h2
    have hm : 0 < m := by
      rcases Nat.eq_zero_or_pos m with h0 | h0
      · subst h0; simp at h3
      · exact h0
    rw [dl, List.reverse_cons, dec_pos hm, dl_dec L (m / 10)]
    · rw [Nat.div_div_eq_div_mul, Nat.mul_comm, ← Nat.pow_succ]; exact h
    · rcases Nat.eq_zero_or_pos L with h0 | h0
      · exact .inl h0
      · refine .inr ?_
        rw [Nat.div_div_eq_div_mul, Nat.mul_comm, ← Nat.pow_succ, Nat.succ_eq_add_one, Nat.sub_add_cancel h0]
        exact h3
theorem dec_len : ∀ (k n : Nat), n < 10 ^ k → (dec n).length ≤ k
  | 0, n, h => by
    rw [Nat.pow_zero] at h
    have : n = 0 := by omega
    subst this
    rw [dec_zero]; exact Nat.le_refl _
  | k + 1, n, h => by
    rcases Nat.eq_zero_or_pos n with h0 | h0
    · subst h0; rw [dec_zero]; simp
    · rw [dec_pos h0, List.length_append]
      have := dec_len k (n / 10) ((Nat.div_lt_iff_lt_mul (by decide)).2 (by rw [← Nat.pow_succ]; exact h))
      simp only [List.length_cons, List.length_nil]
      omega
/-- a list whose ends have changed places up to i -/
def Turned (D E : List UInt8) (i : Nat) : Prop := E.length = D.length ∧ ∀ t, t < D.length → E[t]? = if t < i ∨ D.length ≤ t + i then D[D.length - 1 - t]? else D[t]?
theorem turned_start (D : List UInt8) : Turned D D 0 := ⟨rfl, fun t ht => by rw [if_neg (by omega)]⟩
theorem turned_step {D E : List UInt8} {i k : Nat} (h : Turned D E i) (hk : i + k + 1 = D.length) (hik : i < k) (x y : UInt8) (hx : E[i]? = some x) (hy : E[k]? = some y) : Turned D ((E.set i y).set k x) (i + 1) := by
  obtain ⟨h1, h2⟩ := h
  refine ⟨by rw [List.length_set, List.length_set, h1], fun t ht => ?_⟩
  have ei := h2 i (by omega)
  have ek := h2 k (by omega)
  rw [if_neg (by omega)] at ei ek
  by_cases htk : t = k
  · subst htk
    rw [List.getElem?_set_self (by rw [List.length_set]; omega), if_pos (by omega), show D.length - 1 - t = i by omega, ← ei, hx]
  · rw [List.getElem?_set_ne (Ne.symm htk)]
    by_cases hti : t = i
    · subst hti
      rw [List.getElem?_set_self (by omega), if_pos (by omega), show D.length - 1 - t = k by omega, ← ek, hy]
    · rw [List.getElem?_set_ne (Ne.symm hti), h2 t ht]
      by_cases hc : t < i ∨ D.length ≤ t + i
      · rw [if_pos hc, if_pos (by omega)]
      · rw [if_neg hc, if_neg (by omega)]
theorem turned_end {D E : List UInt8} {i : Nat} (h : Turned D E i) (hi : D.length ≤ 2 * i + 1) : E = D.reverse := by
  obtain ⟨h1, h2⟩ := h
  apply List.ext_getElem?
  intro t
  rcases Nat.lt_or_ge t D.length with ht | ht
  · rw [h2 t ht, List.getElem?_reverse ht]
    by_cases hc : t < i ∨ D.length ≤ t + i
    · rw [if_pos hc]
    · rw [if_neg hc]
      congr 1
      omega
  · rw [List.getElem?_eq_none (by omega), List.getElem?_eq_none (by rw [List.length_reverse]; omega)]
end Wh
end Go.Proofs.Ytpnginnjbdedbaa

/- *big.Int: String (printed by gen_str.py). -/
namespace Go.Proofs.Ytpnginnjbdedbaa
open Go.RowKit
open Wh
set_option linter.unusedSimpArgs false

/-- words that do not lie in a value's own block -/
def Away (w : World) (v : Value) (A : Option Addr) (l : List Nat) : Prop := ReadsW w w.heap.size A l ∧ (0 < l.length → ∀ ad, A = some ad → v.ownBlock ≠ some ad.block)
theorem wpB_push {w : World} {ops : Array Oper} {rest : List Oper} {o : Oper} {a : Act} {Q : Exit → Act → World → Prop} (hgd : o.guard = none) (s x : Operand)
    (ho : o.op = .call { callee := .builtin .append, args := #[s, x], argTypes := #[107, 107] }) (B : Nat) (v : Value) (l : List UInt8) (hown : OwnB w B v l) (hs : a.eval s = v)
    {X : Int} {y : UInt8} (hX : X = (y.toNat : Int)) (hx : a.eval x = .slice (some ⟨w.heap.size, 0, none⟩) 1 1) (hlen : l.length ≤ 140737488355327) (hbase : B ≤ w.heap.size)
    (h : ∀ A' n' c' w', OwnB w' B (.slice A' n' c') (l ++ [y]) → (∀ w0, Below B w0 w → Below B w0 w') → (∀ A2 l2, Away w v A2 l2 → Away w' (.slice A' n' c') A2 l2) → wpList Try.prog ops Q rest (a.put o.dst (.slice A' n' c')) w') :
    wpList Try.prog ops Q (o :: rest) a (w.alloc (.cells #[.int .u8 X] 5)) := by
  obtain ⟨i0, hi, hz0, hz1, hz2⟩ := info_parts infoB
  subst hX
  have hr : ReadsB (w.alloc (.cells #[.int .u8 (y.toNat : Int)] 5)) (w.heap.size + 1) (some ⟨w.heap.size, 0, none⟩) [y] :=
    readsb_blk (w := w.alloc (.cells #[.int .u8 (y.toNat : Int)] 5)) (l := [y]) (Blk.new w 5 (bcells [y])) (by omega)
  refine wpList_append_any _ hgd s x 107 ho B 5 i0 (.int .u8 0) 1 1 Try.underlying107 hi hz0 hz1 hz2 rfl (by decide) v l.length (l.map bv) hs (hown.alloc _) _ _ 1 1 ([y].map bv) hx hr (bv_one _) (by unfold maxLen; omega) (by omega) (by simp; omega) ?_
  intro v' w' h1 h2 h3
  have h4 : OwnB w' B v' (l ++ [y]) := by
    unfold OwnB
    rw [List.length_append, List.map_append]
    exact h1
  have hlt : ∀ k, v.ownBlock = some k → B ≤ k ∧ k < w.heap.size := fun k hk => World.ownsRow.lt hown k hk
  obtain ⟨A', c', rfl, _⟩ := h4.form
  have hsz := h2.size
  simp only [World.size_alloc] at hsz
  refine h A' _ c' w' h4 (fun w0 hb => (hb.alloc hbase _).grown h2 (by simp; omega) (fun k hk => (hlt k hk).1)) (fun A2 l2 haw => ?_)
  obtain ⟨hr2, hne⟩ := haw
  have key : 0 < l2.length → ∃ ad, A2 = some ad ∧ ad.block < w.heap.size ∧ v.ownBlock ≠ some ad.block := fun hl => by
    obtain ⟨ad, _, _, e, hb, _⟩ := hr2.addr hl
    exact ⟨ad, e, hb, hne hl ad e⟩
  refine ⟨(hr2.same (w' := w') fun i hi hw => ?_).more (by omega), fun hl ad e => ?_⟩
  · refine (h2.block i (by simp; omega) fun hh => ?_).trans (Below.heap_alloc w _ i hi)
    obtain ⟨cs, fz, hh2⟩ := hw
    rcases hown.2 with ⟨rfl, _⟩ | ⟨g, cap, cur, rfl, _, hh3, _⟩
    · cases hh
    · injection hh with hh
      simp only at hh
      subst hh
      rw [hh2] at hh3
      injection hh3 with hh3
      injection hh3 with _ h6
      exact absurd h6 (by decide)
  · obtain ⟨ad', e', hb, hne'⟩ := key hl
    rw [e] at e'
    injection e' with e'
    subst e'
    rcases h3 with h3 | h3
    · rw [h3]; exact hne'
    · rw [h3]
      intro hh
      injection hh with hh
      simp at hh
      omega
theorem push_len {w : World} {B n c : Nat} {A : Option Addr} {l : List UInt8} {y : UInt8} (h : OwnB w B (.slice A n c) (l ++ [y])) (hl : l.length ≤ 1000000001) : n ≤ 1000000002 ∧ 0 < n := by
  have := h.len
  rw [List.length_append] at this
  simp only [List.length_cons, List.length_nil] at this
  omega
theorem dl_bound {m L : Nat} (h : 0 < m / 10 ^ L) : L ≤ 10 * (wds m).length := by
  rcases Nat.lt_or_ge (10 * (wds m).length) L with h1 | h1
  · exfalso
    have h2 := lt_of_len (Nat.le_refl (wds m).length)
    have h3 : (4294967296 : Nat) ^ (wds m).length ≤ (10 ^ 10) ^ (wds m).length := Nat.pow_le_pow_left (by decide) _
    rw [← Nat.pow_mul] at h3
    have h4 : (10 : Nat) ^ (10 * (wds m).length) ≤ 10 ^ L := Nat.pow_le_pow_right (by decide) (by omega)
    rw [Nat.div_eq_of_lt (by omega)] at h
    omega
  · exact h1
/-- bytes at the head of a block -/
def BMid (w : World) (g : Nat) (E : List UInt8) (S : List Value) : Prop := Blk w g 5 ((E.map bv ++ S).toArray)
theorem own_blk {w : World} {B n c : Nat} {A : Option Addr} {l : List UInt8} (h : OwnB w B (.slice A n c) l) (hl : 0 < l.length) : ∃ g S, A = some ⟨g, 0, none⟩ ∧ n = l.length ∧ B ≤ g ∧ BMid w g l S ∧ n ≤ c := by
  rcases h.2 with ⟨_, h0⟩ | ⟨g, cap, cur, hv, hb, hh, hc, hm, hs, ht⟩
  · omega
  · injection hv with e1 e2 e3
    subst e1 e2 e3
    refine ⟨g, cur.toList.drop l.length, rfl, rfl, hb, ?_, hc⟩
    unfold BMid
    rw [Nat.mul_one] at ht
    rw [← ht, List.take_append_drop]
    exact hh
section
variable {w : World} {g t : Nat} {E : List UInt8} {S : List Value}
theorem BMid.cell (h : BMid w g E S) (ht : t < E.length) : w.cell? ⟨g, t, none⟩ = some (.int .u8 ((E[t].toNat : Nat) : Int)) := by
  rw [Blk.cell h, List.getElem?_toArray, List.getElem?_append_left (by rw [List.length_map]; exact ht), List.getElem?_map, List.getElem?_eq_getElem ht]
  rfl
theorem BMid.set_ (h : BMid w g E S) (ht : t < E.length) (y : UInt8) : BMid (w.setCell ⟨g, t, none⟩ (.int .u8 (y.toNat : Int))) g (E.set t y) S := by
  have := Blk.set_ h t (.int .u8 (y.toNat : Int))
  unfold BMid
  rw [List.map_set, ← List.set_append_left (h := by rw [List.length_map]; exact ht), ← List.setIfInBounds_toArray]
  exact this
theorem BMid.reads (h : BMid w g E S) : ReadsB w w.heap.size (some ⟨g, 0, none⟩) E := by
  refine ⟨by simp, fun _ => ⟨_, rfl, Blk.lt h, fun j u hu => ?_⟩⟩
  have hj : j < E.length := by
    rcases Nat.lt_or_ge j E.length with h1 | h1
    · exact h1
    · rw [List.getElem?_map, List.getElem?_eq_none h1] at hu; cases hu
  have e : (⟨g, 0, none⟩ : Addr).add j = ⟨g, j, none⟩ := by rw [Addr.add_lit, Nat.zero_add]
  rw [e, h.cell hj, ← hu, List.getElem?_map, List.getElem?_eq_getElem hj]
  rfl
end
/-- the text of a number -/
def txt (x : Int) : List UInt8 := if x = 0 then [48] else (if x < 0 then [45] else []) ++ dec x.natAbs
def Texted (w : World) (t : List UInt8) (e : Ending) (w' : World) : Prop := e = .returned (.string ⟨t.toArray⟩) ∧ Below w.heap.size w w'
theorem digit_down {v r m L j : Nat} (h : v * 10 ^ (j + 1) + r = m / 10 ^ L) : v * 10 ^ j + r / 10 = m / 10 ^ (L + 1) ∧ m / 10 ^ L % 10 = r % 10 := by
  rw [Nat.pow_succ 10 L, ← Nat.div_div_eq_div_mul, ← h, Nat.pow_succ]
  rw [show v * (10 ^ j * 10) = 10 * (v * 10 ^ j) by ac_rfl]
  generalize v * 10 ^ j = q
  omega
set_option maxRecDepth 100000 in
set_option maxHeartbeats 8000000 in
theorem string_any {w : World} {gx : Nat} {x : Int} (hx : IntB w gx x) (hxl : (wds x.natAbs).length ≤ 100000000) :
    Calls Try.prog 84 #[.pointer (some ⟨gx, 0, none⟩)] w (Texted w (txt x)) := by
  obtain ⟨sx, Ax, nx, cx, x0, x1, Hx, hxc, hxcl, rx⟩ := hx.opened
  by_cases h0 : x = 0
  · have hn : nx = 0 := by have := Hx.out.2; rw [h0] at this; simpa [wds_zero] using this
    have Ht := Lib.hid (show txt x = [48] by unfold txt; rw [if_pos h0])
    subst hn
    clear h0 rx hx hxl Hx
    go_enter Try.func84, Try.ntmps84
    go_wp2
    go_ret
    rw [Ht.out]
    exact ⟨rfl, Below.refl _ _⟩
  · have hn : 0 < nx := by have := Hx.out.2; rw [this]; exact len_pos.2 h0
    have hni : ((nx : Int) == 0) = false := by simp; omega
    obtain ⟨m, hm⟩ : ∃ m, m = x.natAbs := ⟨_, rfl⟩
    have hmp : 0 < m := by omega
    have Ht := Lib.hid (show txt x = (if sx = true then [45] else []) ++ dec m by
      unfold txt
      rw [if_neg h0, hm, Hx.out.1]
      by_cases h1 : x < 0
      · simp [h1]
      · simp [h1])
    have hnx := Hx.out.2
    rw [← hm] at rx hnx hxl
    have Hr := Lib.hid (And.intro rx (And.intro hnx (And.intro hxl (And.intro hx hmp))))
    have hgl := hx.lt
    clear h0 rx hx hxl hm hnx hmp
    go_enter Try.func84, Try.ntmps84
    go_wp2_with fail
    go_loopg [3, 4] m (fun k bq lq wr => ∃ (A' A : Option Addr) (n' c' n c L : Nat), bq = .slice A' n' c' ∧ lq = .slice A n c ∧ OwnB wr w.heap.size (.slice A' n' c') (dl m L) ∧ SlW wr wr.heap.size A n c k ∧ Below w.heap.size w wr ∧ Hid (k = m / 10 ^ L ∧ (L = 0 ∨ 0 < m / 10 ^ (L - 1))))
    case atStart => exact ⟨none, Ax, 0, 0, nx, cx, 0, rfl, rfl, OwnB.nil _ _, ⟨Hr.out.2.1, hxc, hxcl, Hr.out.1⟩, Below.refl _ _, by rw [Nat.pow_zero, Nat.div_one], .inl rfl⟩
    case round =>
      obtain ⟨A', A, n', c', n, c, L, rfl, rfl, hown, ⟨hnl, hnc, hcl, rl⟩, hbel, hL⟩ := hrel
      by_cases hk0 : 0 < gk
      · have hnp : 0 < n := by
          have := hnl.out
          rw [wds_pos hk0] at this
          simp at this
          omega
        have hnpi : (0 : Int) < (n : Int) := by omega
        have hkl : (wds gk).length ≤ 100000000 := Nat.le_trans (len_mono (by rw [hL.out.1]; exact Nat.div_le_self _ _)) Hr.out.2.2.1
        have hS := short_any (d := 1000000000) (c := c) rl (Nat.le_refl _) hnl.out (by have := hnl.out; omega) (wd_w gk) (by decide) (by decide)
        rw [val_w] at hS
        obtain ⟨r0, hr0⟩ : ∃ r, r = gk % 1000000000 := ⟨_, rfl⟩
        obtain ⟨v, hv⟩ : ∃ v, v = gk / 1000000000 := ⟨_, rfl⟩
        rw [← hr0, ← hv] at hS
        have hr0l : r0 ≤ 999999999 := by omega
        have HS := Lib.hid hS
        have Hv := Lib.hid (And.intro hk0 (And.intro hr0 hv))
        clear hS hr0 hv hkl hk0 rl
        go_wp2_with fail
        refine HS.out.mono ?_
        rintro e w5 ⟨A5, m5, c5, rfl, hm5, hc5, hcn5, hr5, hb5, hnew5⟩
        have haw5 : Away w5 (.slice A' n' c') A5 (wds v) := ⟨hr5, fun _ ad e hh => by have h6 := hnew5 ad e; have h7 := (World.ownsRow.lt hown _ hh).2; omega⟩
        have Hm5 := Lib.hid hm5
        have hown5 := hown.kept (hb5)
        have hbel5 := hbel.trans (hb5.mono hbel.size)
        clear hm5
        obtain ⟨w6, rfl⟩ : ∃ w6, w6 = w5 := ⟨_, rfl⟩
        go_wp2_with fail
        have hst : v * 10 ^ 9 + r0 = m / 10 ^ L := by rw [← hL.out.1, Hv.out.2.1, Hv.out.2.2]; omega
        have Hst := Lib.hid hst
        clear hst
        go_loopg [3, 5, 6] 9 (fun k bq rq kq wi => ∃ (A' : Option Addr) (n' c' L r j : Nat), bq = .slice A' n' c' ∧ rq = .int .u32 (r : Int) ∧ kq = .int .i64 (j : Int) ∧ j + k = 9 ∧ r ≤ 999999999 ∧ OwnB wi w.heap.size (.slice A' n' c') (dl m L) ∧ Away wi (.slice A' n' c') A5 (wds v) ∧ Below w.heap.size w wi ∧
          Hid (v * 10 ^ k + r = m / 10 ^ L ∧ r < 10 ^ k ∧ (L = 0 ∨ 0 < m / 10 ^ (L - 1))))
        case atStart => exact ⟨A', n', c', L, r0, 0, rfl, rfl, rfl, rfl, hr0l, hown5, haw5, hbel5, Hst.out, by omega, hL.out.2⟩
        case round =>
          obtain ⟨A2, n2, c2, L2, r, j, rfl, rfl, rfl, hjk, hrl, hown2, hr2, hbel2, hL2⟩ := hrel
          have Hjk := Lib.hid hjk
          clear hown hown5 hr5 haw5 hnew5
          have hexit : r = 0 → (gk = 0 ∨ v = 0) → v = m / 10 ^ L2 := fun h1 h2 => by
            have h3 := hL2.out.1
            rw [h1, Nat.add_zero] at h3
            rcases h2 with h2 | h2
            · rw [h2, Nat.pow_zero, Nat.mul_one] at h3; exact h3
            · rw [h2, Nat.zero_mul] at h3; omega
          have Hexit := Lib.hid hexit
          clear hexit
          by_cases hj9 : j < 9
          · have hji : (j : Int) < 9 := by omega
            obtain ⟨k1, rfl⟩ : ∃ k1, gk = k1 + 1 := ⟨gk - 1, by omega⟩
            clear hjk
            by_cases hgo : r = 0 ∧ v = 0
            · obtain ⟨h1, h2⟩ := hgo
              have hm0 : m5 = 0 := by have := Hm5.out; rw [h2, wds_zero] at this; exact this
              subst hm0
              subst h1
              have Hve := Lib.hid (And.intro h2 (Hexit.out rfl (.inr h2)))
              clear h2
              go_wp2_with fail
              go_roundg v
              case measure => have h5 := Hv.out; omega
              case rel => exact ⟨A2, A5, n2, c2, _, c5, L2, rfl, rfl, hown2, ⟨Hm5.out, hc5, by have := hcn5; omega, hr2.1⟩, hbel2, Hve.out.2, hL2.out.2.2⟩
            · have hR : 0 < v * 10 ^ (k1 + 1) + r := by
                rcases Nat.eq_zero_or_pos r with h | h
                · have hv : 0 < v := by omega
                  have : 0 < v * 10 ^ (k1 + 1) := Nat.mul_pos hv (Nat.pow_pos (by decide))
                  omega
                · omega
              rw [hL2.out.1] at hR
              have hLb := dl_bound hR
              have hdd := digit_down hL2.out.1
              have hsn := dl_snoc L2 m
              have hdig : (dig (m / 10 ^ L2)).toNat = 48 + r % 10 := by rw [dig_nat, hdd.2]
              have hLl : (dl m L2).length ≤ 1000000000 := by rw [dl_len]; have := Hr.out.2.2.1; omega
              have hr10 : r / 10 < 10 ^ k1 := by
                have h5 := hL2.out.2.1
                rw [Nat.pow_succ] at h5
                exact (Nat.div_lt_iff_lt_mul (by decide)).2 h5
              have Hd := Lib.hid (And.intro hR (And.intro hdd (And.intro hsn (And.intro hr10 hdig))))
              have hgle : w.heap.size ≤ wr.heap.size := hbel2.size
              have hpsh : (48 : Int) + (r : Int) % 10 = ((dig (m / 10 ^ L2)).toNat : Int) := by rw [Hd.out.2.2.2.2]; omega
              have Hpsh := Lib.hid hpsh
              clear hR hdd hsn hr10 hpsh hLb hdig
              by_cases hr0 : 0 < r
              · have hri : (0 : Int) < (r : Int) := by omega
                clear hgo
                go_wp2_with (at_builtin; refine wpB_push rfl (.tmp 40) (.tmp 45) rfl w.heap.size _ (dl m L2) hown2 rfl (y := dig (m / 10 ^ L2)) Hpsh.out rfl (by omega) hgle ?_; intro A3 n3 c3 w3 ho3 hkeep haw3; have Hk3 := Lib.hid (And.intro ho3 (And.intro (hkeep w hbel2) (haw3 _ _ hr2))); clear ho3 hkeep haw3)
                go_roundg k1
                case measure => omega
                case rel =>
                  refine ⟨A3, n3, c3, L2 + 1, r / 10, j + 1, rfl, by rw [Int.natCast_ediv]; rfl, rfl, by have := Hjk.out; omega, by omega, by rw [dl_snoc]; exact Hk3.out.1, Hk3.out.2.2, Hk3.out.2.1, Hd.out.2.1.1, Hd.out.2.2.2.1, .inr ?_⟩
                  rw [Nat.add_sub_cancel]
                  exact Hd.out.1
              · have hr00 : r = 0 := by omega
                have hv0 : 0 < v := by omega
                have hm50 : 0 < m5 := by
                  have := Hm5.out
                  rw [wds_pos hv0] at this
                  simp at this
                  omega
                have hm5i : (0 : Int) < (m5 : Int) := by omega
                have Hp0 := Lib.hid (show (48 : Int) = ((dig (m / 10 ^ L2)).toNat : Int) by rw [Hd.out.2.2.2.2, hr00]; rfl)
                subst hr00
                clear hgo hr0
                go_wp2_with (at_builtin; refine wpB_push rfl (.tmp 40) (.tmp 45) rfl w.heap.size _ (dl m L2) hown2 rfl (y := dig (m / 10 ^ L2)) Hp0.out rfl (by omega) hgle ?_; intro A3 n3 c3 w3 ho3 hkeep haw3; have Hk3 := Lib.hid (And.intro ho3 (And.intro (hkeep w hbel2) (haw3 _ _ hr2))); clear ho3 hkeep haw3)
                go_roundg k1
                case measure => omega
                case rel =>
                  refine ⟨A3, n3, c3, L2 + 1, 0, j + 1, rfl, rfl, rfl, by have := Hjk.out; omega, by omega, by rw [dl_snoc]; exact Hk3.out.1, Hk3.out.2.2, Hk3.out.2.1, Hd.out.2.1.1, Hd.out.2.2.2.1, .inr ?_⟩
                  rw [Nat.add_sub_cancel]
                  exact Hd.out.1
          · have hj : j = 9 := by omega
            have hk0 : gk = 0 := by omega
            subst hk0
            have hr0 : r = 0 := by have := hL2.out.2.1; rw [Nat.pow_zero] at this; omega
            have Hve := Lib.hid (Hexit.out hr0 (.inl rfl))
            subst hj
            subst hr0
            go_wp2_with fail
            go_roundg v
            case measure => have h5 := Hv.out; omega
            case rel => exact ⟨A2, A5, n2, c2, _, c5, L2, rfl, rfl, hown2, ⟨Hm5.out, hc5, by have := hcn5; omega, hr2.1⟩, hbel2, Hve.out, hL2.out.2.2⟩
      · have hgk : gk = 0 := by omega
        subst hgk
        have hn0 : n = 0 := by have := hnl.out; rw [wds_zero] at this; exact this
        subst hn0
        have hLp : 0 < L := by
          rcases Nat.eq_zero_or_pos L with h | h
          · subst h
            have h5 := hL.out.1
            rw [Nat.pow_zero, Nat.div_one] at h5
            have := Hr.out.2.2.2.2
            omega
          · exact h
        have hdec := dl_dec L m hL.out.1.symm hL.out.2
        have u0 := (hbel.cell (p := ⟨gx, 0, none⟩) hgl).trans x0
        have hLl : (dl m L).length ≤ 1000000001 := by
          rw [dl_len]
          rcases hL.out.2 with h | h
          · omega
          · have h5 := dl_bound h
            have := Hr.out.2.2.1
            omega
        have hDp : 0 < (dl m L).length := by rw [dl_len]; exact hLp
        have Hdec := Lib.hid (And.intro hdec (And.intro hDp hLl))
        have hgle : w.heap.size ≤ wr.heap.size := hbel.size
        clear hdec hLp hk0 hDp hLl x0 x1
        cases sx
        · obtain ⟨D, hD⟩ : ∃ D, D = dl m L := ⟨_, rfl⟩
          rw [← hD] at hown Hdec
          have hres := Lib.hid (show txt x = D.reverse by rw [Ht.out, Hdec.out.1]; rfl)
          obtain ⟨g, S, rfl, hN, hgB, hmid, hNc⟩ := own_blk hown Hdec.out.2.1
          have hNl : n' ≤ 1000000002 := by have := Hdec.out.2.2; omega
          have hNp : 0 < n' := by have := Hdec.out.2.1; omega
          have HN := Lib.hid hN
          have hw5 : ∃ w5, w5 = wr := ⟨_, rfl⟩
          obtain ⟨w5, hw5⟩ := hw5
          subst hw5
          clear hD hown hN
          go_wp2_with fail
          go_loopg [7, 8] n' (fun k iq kq wi => ∃ (i : Nat) (E : List UInt8), iq = .int .i64 (i : Int) ∧ kq = .int .i64 ((n' : Int) - 1 - (i : Int)) ∧ k + i = n' ∧ 2 * i ≤ n' ∧ BMid wi g E S ∧ Below w.heap.size w wi ∧ Hid (Turned D E i))
          case atStart => exact ⟨0, D, rfl, by congr 1; omega, by omega, by omega, hmid, hbel, turned_start D⟩
          case round =>
            obtain ⟨i, E, rfl, rfl, hki, hi2, hmi, hbi, hT⟩ := hrel
            have Hki := Lib.hid hki
            have hEl := hT.out.1
            have hEn : E.length = n' := by rw [hEl, HN.out]
            have HEn := Lib.hid hEn
            clear hki hEl hEn
            by_cases hgo : 2 * i + 1 < n'
            · obtain ⟨j, hj⟩ : ∃ j, n' = i + 1 + j := ⟨n' - 1 - i, by omega⟩
              have hij : i < j := by omega
              have hiE : i < E.length := by rw [HEn.out]; omega
              have hjE : j < E.length := by rw [HEn.out]; omega
              have c1 := hmi.cell hiE
              have c2 := hmi.cell hjE
              have f1 := Blk.frozen hmi i
              have f2 := Blk.frozen hmi j
              have ex := List.getElem?_eq_getElem hiE
              have ey := List.getElem?_eq_getElem hjE
              generalize E[i] = p at *
              generalize E[j] = q at *
              have hp := UInt8.toNat_lt p
              have hq := UInt8.toNat_lt q
              have Hx := Lib.hid (And.intro ex (And.intro ey hj))
              rw [show (n' : Int) - 1 - (i : Int) = (j : Int) by omega]
              have hii : (i : Int) < (j : Int) := by omega
              have hin : (i : Int) < (n' : Int) := by omega
              have hjn : (j : Int) < (n' : Int) := by omega
              clear ex ey hj hi2 hgo
              go_wp2_with fail
              refine wp_region_noPanic ?_
              refine wp_region_HK (fun w' => w'.cell? ⟨g, i, none⟩ = some (.int .u8 (p.toNat : Int)) ∧ w'.cell? ⟨g, j, none⟩ = some (.int .u8 (q.toNat : Int))) 13 (by kernel_rfl) ⟨c1, c2⟩ (fun hHeld => ?_)
              refine wpHK_pure (i := 0) (oi := Oper.mk (some 66) _ _ _ _ _) (v := ?_) rfl (by kernel_rfl) (by kernel_rfl) (by kernel_rfl) (fun _ _ _ h => h) (Or.inl ⟨by rfl, ?_⟩) ?_
              rotate_left
              · (intro w' _; go_simp; try with_reducible rfl)
              try simp only [Act.put, List.setIfInBounds_toArray, List.set_cons_zero, List.set_cons_succ]
              refine wpHK_pure (i := 1) (oi := Oper.mk (some 67) _ _ _ _ _) (v := ?_) rfl (by kernel_rfl) (by kernel_rfl) (by kernel_rfl) (fun _ _ _ h => h) (Or.inl ⟨by rfl, ?_⟩) ?_
              rotate_left
              · (intro w' _; go_simp; try with_reducible rfl)
              try simp only [Act.put, List.setIfInBounds_toArray, List.set_cons_zero, List.set_cons_succ]
              refine wpHK_pure (i := 2) (oi := Oper.mk (some 68) _ _ _ _ _) (v := ?_) rfl (by kernel_rfl) (by kernel_rfl) (by kernel_rfl) (fun _ _ _ h => h) (Or.inl ⟨by rfl, ?_⟩) ?_
              rotate_left
              · (intro w' _; go_simp; try with_reducible rfl)
              try simp only [Act.put, List.setIfInBounds_toArray, List.set_cons_zero, List.set_cons_succ]
              refine wpHK_pure (i := 3) (oi := Oper.mk (some 69) _ _ _ _ _) (v := ?_) rfl (by kernel_rfl) (by kernel_rfl) (by kernel_rfl) (fun _ _ _ h => h) (Or.inl ⟨by rfl, ?_⟩) ?_
              rotate_left
              · (intro w' _; go_simp; try with_reducible rfl)
              try simp only [Act.put, List.setIfInBounds_toArray, List.set_cons_zero, List.set_cons_succ]
              refine wpHK_pure (i := 4) (oi := Oper.mk (some 70) _ _ _ _ _) (v := ?_) rfl (by kernel_rfl) (by kernel_rfl) (by kernel_rfl) (fun _ _ _ h => h) (Or.inl ⟨by rfl, ?_⟩) ?_
              rotate_left
              · (intro w' _; go_simp; try with_reducible rfl)
              try simp only [Act.put, List.setIfInBounds_toArray, List.set_cons_zero, List.set_cons_succ]
              refine wpHK_pure (i := 5) (oi := Oper.mk (some 71) _ _ _ _ _) (v := ?_) rfl (by kernel_rfl) (by kernel_rfl) (by kernel_rfl) (fun _ _ _ h => h) (Or.inl ⟨by rfl, ?_⟩) ?_
              rotate_left
              · (intro w' _; go_simp; try with_reducible rfl)
              try simp only [Act.put, List.setIfInBounds_toArray, List.set_cons_zero, List.set_cons_succ]
              refine wpHK_pure (i := 6) (oi := Oper.mk (some 72) _ _ _ _ _) (v := ?_) rfl (by kernel_rfl) (by kernel_rfl) (by kernel_rfl) (fun _ _ _ h => h) (Or.inl ⟨by rfl, ?_⟩) ?_
              rotate_left
              · (intro w' _; go_simp; try with_reducible rfl)
              try simp only [Act.put, List.setIfInBounds_toArray, List.set_cons_zero, List.set_cons_succ]
              refine wpHK_pure (i := 8) (oi := Oper.mk (some 74) _ _ _ _ _) (v := ?_) rfl (by kernel_rfl) (by kernel_rfl) (by kernel_rfl) (fun _ _ _ h => h) (Or.inl ⟨by rfl, ?_⟩) ?_
              rotate_left
              · (intro w' _; go_simp; try with_reducible rfl)
              try simp only [Act.put, List.setIfInBounds_toArray, List.set_cons_zero, List.set_cons_succ]
              refine wpHK_pure (i := 9) (oi := Oper.mk (some 75) _ _ _ _ _) (v := ?_) rfl (by kernel_rfl) (by kernel_rfl) (by kernel_rfl) (fun _ _ _ h => h) (Or.inl ⟨by rfl, ?_⟩) ?_
              rotate_left
              · (intro w' _; go_simp; try with_reducible rfl)
              try simp only [Act.put, List.setIfInBounds_toArray, List.set_cons_zero, List.set_cons_succ]
              refine wpHK_pure (i := 10) (oi := Oper.mk (some 76) _ _ _ _ _) (v := ?_) rfl (by kernel_rfl) (by kernel_rfl) (by kernel_rfl) (fun _ _ _ h => h) (Or.inl ⟨by rfl, ?_⟩) ?_
              rotate_left
              · (intro w' _; go_simp; try with_reducible rfl)
              try simp only [Act.put, List.setIfInBounds_toArray, List.set_cons_zero, List.set_cons_succ]
              refine wpHK_take (i := 7) (oi := Oper.mk (some 73) _ _ _ _ _) (v := ?_) rfl (by kernel_rfl) (by kernel_rfl) (by kernel_rfl) (by kernel_rfl) (fun _ _ _ h => h) (Or.inl ⟨by rfl, ?_⟩) (by assumption) ?_
              rotate_left
              · (intro w' hSw; (try dsimp only at hSw); (obtain ⟨s1, s2⟩ := hSw); go_simp; try with_reducible rfl)
              try simp only [Act.put, List.setIfInBounds_toArray, List.set_cons_zero, List.set_cons_succ]
              refine wpHK_take (i := 11) (oi := Oper.mk (some 77) _ _ _ _ _) (v := ?_) rfl (by kernel_rfl) (by kernel_rfl) (by kernel_rfl) (by kernel_rfl) (fun _ _ _ h => h) (Or.inl ⟨by rfl, ?_⟩) (by assumption) ?_
              rotate_left
              · (intro w' hSw; (try dsimp only at hSw); (obtain ⟨s1, s2⟩ := hSw); go_simp; try with_reducible rfl)
              try simp only [Act.put, List.setIfInBounds_toArray, List.set_cons_zero, List.set_cons_succ]
              refine wpHK_pure (i := 12) (oi := Oper.mk (some 78) _ _ _ _ _) (v := ?_) rfl (by kernel_rfl) (by kernel_rfl) (by kernel_rfl) (fun _ _ _ h => h) (Or.inl ⟨by rfl, ?_⟩) ?_
              rotate_left
              · (intro w' _; go_simp; try with_reducible rfl)
              try simp only [Act.put, List.setIfInBounds_toArray, List.set_cons_zero, List.set_cons_succ]
              refine wpHK_tail (j := 13) (o := Oper.mk (none) _ _ _ _ _) rfl (by kernel_rfl) (by decide) (fun K hK => ?_)
              go_simp
              refine hK.out _ _ ?_
              clear hK K
              try simp only [Act.put, List.setIfInBounds_toArray, List.set_cons_zero, List.set_cons_succ]
              refine wpHK_pure (i := 14) (oi := Oper.mk (some 79) _ _ _ _ _) (v := ?_) rfl (by kernel_rfl) (by kernel_rfl) (by kernel_rfl) (fun _ _ _ h => h) (Or.inl ⟨by rfl, ?_⟩) ?_
              rotate_left
              · (intro w' _; go_simp; try with_reducible rfl)
              try simp only [Act.put, List.setIfInBounds_toArray, List.set_cons_zero, List.set_cons_succ]
              refine wpHK_tail (j := 15) (o := Oper.mk (none) _ _ _ _ _) rfl (by kernel_rfl) (by decide) (fun K hK => ?_)
              go_simp
              refine hK.out _ _ ?_
              clear hK K
              try simp only [Act.put, List.setIfInBounds_toArray, List.set_cons_zero, List.set_cons_succ]
              refine wpHK_done (by kernel_rfl) ?_ _
              refine NoPanic.normal ?_
              go_wp2_with fail
              go_roundg (n' - (i + 1))
              case measure => have := Hki.out; omega
              case rel =>
                have h5 := Hx.out.2.2
                exact ⟨i + 1, (E.set i q).set j p, rfl, by congr 1; omega, by omega, by omega, (hmi.set_ hiE q).set_ (by rw [List.length_set]; exact hjE) p, ((hbi.setCell (by show w.heap.size ≤ g; omega) _).setCell (by show w.heap.size ≤ g; omega) _).drew, turned_step hT.out (by rw [← HN.out]; omega) hij p q Hx.out.1 Hx.out.2.1⟩
            · have hrev := turned_end hT.out (by rw [← HN.out]; omega)
              have hstr := run_str (c := c') HEn.out.symm hmi.reads
              have Hrev := Lib.hid hrev
              have hii : (n' : Int) - 1 - (i : Int) ≤ (i : Int) := by omega
              clear hrev hgo
              go_wp2_with fail
              go_ret
              exact ⟨by rw [hres.out, ← Hrev.out]; rfl, hbi⟩
        · have hD45 := Lib.hid (show txt x = (dl m L ++ [45]).reverse by rw [Ht.out, List.reverse_append, Hdec.out.1]; rfl)
          have hw45 : (45 : Int) = (((45 : UInt8).toNat : Nat) : Int) := rfl
          have Hw45 := Lib.hid hw45
          have Hle := Lib.hid (show (dl m L).length ≤ 140737488355327 by have := Hdec.out.2.2; omega)
          clear hw45
          go_wp2_with (at_builtin; refine wpB_push rfl (.tmp 53) (.tmp 54) rfl w.heap.size _ (dl m L) hown rfl (y := 45) Hw45.out rfl Hle.out hgle ?_; intro A3 n3 c3 w3 ho3 hkeep _; have hNl := (push_len ho3 Hdec.out.2.2).1; have hNp := (push_len ho3 Hdec.out.2.2).2; have Hk3 := Lib.hid (And.intro ho3 (hkeep w hbel)); clear ho3 hkeep)
          obtain ⟨D, hD⟩ : ∃ D, D = dl m L ++ [45] := ⟨_, rfl⟩
          have hown3 := Hk3.out.1
          rw [← hD] at hown3 hD45
          have hres := Lib.hid (show txt x = D.reverse from hD45.out)
          have hDl : D.length = (dl m L).length + 1 := by rw [hD, List.length_append]; rfl
          obtain ⟨g, S, rfl, hN, hgB, hmid, hNc⟩ := own_blk hown3 (by rw [hDl]; omega)
          have HN := Lib.hid hN
          have hbel3 := Hk3.out.2
          clear hD hown3 hN hDl
          go_loopg [7, 8] n3 (fun k iq kq wi => ∃ (i : Nat) (E : List UInt8), iq = .int .i64 (i : Int) ∧ kq = .int .i64 ((n3 : Int) - 1 - (i : Int)) ∧ k + i = n3 ∧ 2 * i ≤ n3 ∧ BMid wi g E S ∧ Below w.heap.size w wi ∧ Hid (Turned D E i))
          case atStart => exact ⟨0, D, rfl, by congr 1; omega, by omega, by omega, hmid, hbel3, turned_start D⟩
          case round =>
            obtain ⟨i, E, rfl, rfl, hki, hi2, hmi, hbi, hT⟩ := hrel
            have Hki := Lib.hid hki
            have hEl := hT.out.1
            have hEn : E.length = n3 := by rw [hEl, HN.out]
            have HEn := Lib.hid hEn
            clear hki hEl hEn
            by_cases hgo : 2 * i + 1 < n3
            · obtain ⟨j, hj⟩ : ∃ j, n3 = i + 1 + j := ⟨n3 - 1 - i, by omega⟩
              have hij : i < j := by omega
              have hiE : i < E.length := by rw [HEn.out]; omega
              have hjE : j < E.length := by rw [HEn.out]; omega
              have c1 := hmi.cell hiE
              have c2 := hmi.cell hjE
              have f1 := Blk.frozen hmi i
              have f2 := Blk.frozen hmi j
              have ex := List.getElem?_eq_getElem hiE
              have ey := List.getElem?_eq_getElem hjE
              generalize E[i] = p at *
              generalize E[j] = q at *
              have hp := UInt8.toNat_lt p
              have hq := UInt8.toNat_lt q
              have Hx := Lib.hid (And.intro ex (And.intro ey hj))
              rw [show (n3 : Int) - 1 - (i : Int) = (j : Int) by omega]
              have hii : (i : Int) < (j : Int) := by omega
              have hin : (i : Int) < (n3 : Int) := by omega
              have hjn : (j : Int) < (n3 : Int) := by omega
              clear ex ey hj hi2 hgo
              go_wp2_with fail
              refine wp_region_noPanic ?_
              refine wp_region_HK (fun w' => w'.cell? ⟨g, i, none⟩ = some (.int .u8 (p.toNat : Int)) ∧ w'.cell? ⟨g, j, none⟩ = some (.int .u8 (q.toNat : Int))) 13 (by kernel_rfl) ⟨c1, c2⟩ (fun hHeld => ?_)
              refine wpHK_pure (i := 0) (oi := Oper.mk (some 66) _ _ _ _ _) (v := ?_) rfl (by kernel_rfl) (by kernel_rfl) (by kernel_rfl) (fun _ _ _ h => h) (Or.inl ⟨by rfl, ?_⟩) ?_
              rotate_left
              · (intro w' _; go_simp; try with_reducible rfl)
              try simp only [Act.put, List.setIfInBounds_toArray, List.set_cons_zero, List.set_cons_succ]
              refine wpHK_pure (i := 1) (oi := Oper.mk (some 67) _ _ _ _ _) (v := ?_) rfl (by kernel_rfl) (by kernel_rfl) (by kernel_rfl) (fun _ _ _ h => h) (Or.inl ⟨by rfl, ?_⟩) ?_
              rotate_left
              · (intro w' _; go_simp; try with_reducible rfl)
              try simp only [Act.put, List.setIfInBounds_toArray, List.set_cons_zero, List.set_cons_succ]
              refine wpHK_pure (i := 2) (oi := Oper.mk (some 68) _ _ _ _ _) (v := ?_) rfl (by kernel_rfl) (by kernel_rfl) (by kernel_rfl) (fun _ _ _ h => h) (Or.inl ⟨by rfl, ?_⟩) ?_
              rotate_left
              · (intro w' _; go_simp; try with_reducible rfl)
              try simp only [Act.put, List.setIfInBounds_toArray, List.set_cons_zero, List.set_cons_succ]
              refine wpHK_pure (i := 3) (oi := Oper.mk (some 69) _ _ _ _ _) (v := ?_) rfl (by kernel_rfl) (by kernel_rfl) (by kernel_rfl) (fun _ _ _ h => h) (Or.inl ⟨by rfl, ?_⟩) ?_
              rotate_left
              · (intro w' _; go_simp; try with_reducible rfl)
              try simp only [Act.put, List.setIfInBounds_toArray, List.set_cons_zero, List.set_cons_succ]
              refine wpHK_pure (i := 4) (oi := Oper.mk (some 70) _ _ _ _ _) (v := ?_) rfl (by kernel_rfl) (by kernel_rfl) (by kernel_rfl) (fun _ _ _ h => h) (Or.inl ⟨by rfl, ?_⟩) ?_
              rotate_left
              · (intro w' _; go_simp; try with_reducible rfl)
              try simp only [Act.put, List.setIfInBounds_toArray, List.set_cons_zero, List.set_cons_succ]
              refine wpHK_pure (i := 5) (oi := Oper.mk (some 71) _ _ _ _ _) (v := ?_) rfl (by kernel_rfl) (by kernel_rfl) (by kernel_rfl) (fun _ _ _ h => h) (Or.inl ⟨by rfl, ?_⟩) ?_
              rotate_left
              · (intro w' _; go_simp; try with_reducible rfl)
              try simp only [Act.put, List.setIfInBounds_toArray, List.set_cons_zero, List.set_cons_succ]
              refine wpHK_pure (i := 6) (oi := Oper.mk (some 72) _ _ _ _ _) (v := ?_) rfl (by kernel_rfl) (by kernel_rfl) (by kernel_rfl) (fun _ _ _ h => h) (Or.inl ⟨by rfl, ?_⟩) ?_
              rotate_left
              · (intro w' _; go_simp; try with_reducible rfl)
              try simp only [Act.put, List.setIfInBounds_toArray, List.set_cons_zero, List.set_cons_succ]
              refine wpHK_pure (i := 8) (oi := Oper.mk (some 74) _ _ _ _ _) (v := ?_) rfl (by kernel_rfl) (by kernel_rfl) (by kernel_rfl) (fun _ _ _ h => h) (Or.inl ⟨by rfl, ?_⟩) ?_
              rotate_left
              · (intro w' _; go_simp; try with_reducible rfl)
              try simp only [Act.put, List.setIfInBounds_toArray, List.set_cons_zero, List.set_cons_succ]
              refine wpHK_pure (i := 9) (oi := Oper.mk (some 75) _ _ _ _ _) (v := ?_) rfl (by kernel_rfl) (by kernel_rfl) (by kernel_rfl) (fun _ _ _ h => h) (Or.inl ⟨by rfl, ?_⟩) ?_
              rotate_left
              · (intro w' _; go_simp; try with_reducible rfl)
              try simp only [Act.put, List.setIfInBounds_toArray, List.set_cons_zero, List.set_cons_succ]
              refine wpHK_pure (i := 10) (oi := Oper.mk (some 76) _ _ _ _ _) (v := ?_) rfl (by kernel_rfl) (by kernel_rfl) (by kernel_rfl) (fun _ _ _ h => h) (Or.inl ⟨by rfl, ?_⟩) ?_
              rotate_left
              · (intro w' _; go_simp; try with_reducible rfl)
              try simp only [Act.put, List.setIfInBounds_toArray, List.set_cons_zero, List.set_cons_succ]
              refine wpHK_take (i := 7) (oi := Oper.mk (some 73) _ _ _ _ _) (v := ?_) rfl (by kernel_rfl) (by kernel_rfl) (by kernel_rfl) (by kernel_rfl) (fun _ _ _ h => h) (Or.inl ⟨by rfl, ?_⟩) (by assumption) ?_
              rotate_left
              · (intro w' hSw; (try dsimp only at hSw); (obtain ⟨s1, s2⟩ := hSw); go_simp; try with_reducible rfl)
              try simp only [Act.put, List.setIfInBounds_toArray, List.set_cons_zero, List.set_cons_succ]
              refine wpHK_take (i := 11) (oi := Oper.mk (some 77) _ _ _ _ _) (v := ?_) rfl (by kernel_rfl) (by kernel_rfl) (by kernel_rfl) (by kernel_rfl) (fun _ _ _ h => h) (Or.inl ⟨by rfl, ?_⟩) (by assumption) ?_
              rotate_left
              · (intro w' hSw; (try dsimp only at hSw); (obtain ⟨s1, s2⟩ := hSw); go_simp; try with_reducible rfl)
              try simp only [Act.put, List.setIfInBounds_toArray, List.set_cons_zero, List.set_cons_succ]
              refine wpHK_pure (i := 12) (oi := Oper.mk (some 78) _ _ _ _ _) (v := ?_) rfl (by kernel_rfl) (by kernel_rfl) (by kernel_rfl) (fun _ _ _ h => h) (Or.inl ⟨by rfl, ?_⟩) ?_
              rotate_left
              · (intro w' _; go_simp; try with_reducible rfl)
              try simp only [Act.put, List.setIfInBounds_toArray, List.set_cons_zero, List.set_cons_succ]
              refine wpHK_tail (j := 13) (o := Oper.mk (none) _ _ _ _ _) rfl (by kernel_rfl) (by decide) (fun K hK => ?_)
              go_simp
              refine hK.out _ _ ?_
              clear hK K
              try simp only [Act.put, List.setIfInBounds_toArray, List.set_cons_zero, List.set_cons_succ]
              refine wpHK_pure (i := 14) (oi := Oper.mk (some 79) _ _ _ _ _) (v := ?_) rfl (by kernel_rfl) (by kernel_rfl) (by kernel_rfl) (fun _ _ _ h => h) (Or.inl ⟨by rfl, ?_⟩) ?_
              rotate_left
              · (intro w' _; go_simp; try with_reducible rfl)
              try simp only [Act.put, List.setIfInBounds_toArray, List.set_cons_zero, List.set_cons_succ]
              refine wpHK_tail (j := 15) (o := Oper.mk (none) _ _ _ _ _) rfl (by kernel_rfl) (by decide) (fun K hK => ?_)
              go_simp
              refine hK.out _ _ ?_
              clear hK K
              try simp only [Act.put, List.setIfInBounds_toArray, List.set_cons_zero, List.set_cons_succ]
              refine wpHK_done (by kernel_rfl) ?_ _
              refine NoPanic.normal ?_
              go_wp2_with fail
              go_roundg (n3 - (i + 1))
              case measure => have := Hki.out; omega
              case rel =>
                have h5 := Hx.out.2.2
                exact ⟨i + 1, (E.set i q).set j p, rfl, by congr 1; omega, by omega, by omega, (hmi.set_ hiE q).set_ (by rw [List.length_set]; exact hjE) p, ((hbi.setCell (by show w.heap.size ≤ g; omega) _).setCell (by show w.heap.size ≤ g; omega) _).drew, turned_step hT.out (by rw [← HN.out]; omega) hij p q Hx.out.1 Hx.out.2.1⟩
            · have hrev := turned_end hT.out (by rw [← HN.out]; omega)
              have hstr := run_str (c := c3) HEn.out.symm hmi.reads
              have Hrev := Lib.hid hrev
              have hii : (n3 : Int) - 1 - (i : Int) ≤ (i : Int) := by omega
              clear hrev hgo
              go_wp2_with fail
              go_ret
              exact ⟨by rw [hres.out, ← Hrev.out]; rfl, hbi⟩
end Go.Proofs.Ytpnginnjbdedbaa
