import Derived.Test.YtebpggfccljagaaGreatC3
import Derived.Test.YtebpggfccljagaaGreatC5
import Derived.Test.YtebpggfccljagaaGreatC2
import Derived.Test.YtebpggfccljagaaGreatC4
import Derived.LoopN
namespace Go.Proofs.YtebpggfccljagaaGreat
open Go.RowKit
open Wh
set_option linter.unusedSimpArgs false
set_option maxRecDepth 100000 in
set_option maxHeartbeats 4000000 in
theorem number_any {w : World} {ng : Bool} {s : ByteArray} (hm : s.data.toList.length ≤ 16384) :
  Calls Tryz.prog 112 #[.agg #[.bool ng, .string s]] w (NewI w (num (ng, s))) := by
 have kc := fun (W : World) (s : ByteArray) => Lib.run_convert_string_bytes (P := Tryz.prog) W 9 130 5 s Tryz.underlying9 Tryz.underlying130 Tryz.underlying5
 have hsl : s.data.toList.length = s.size := Array.length_toList
 have hsz : s.size ≤ 16384 := by omega
 have Hm := Lib.hid hm
 clear hm
 have hbk := Blk.new w 23 #[.bool ng, .string s]
 have e0 : (w.alloc (.cells #[.bool ng, .string s] 23)).cell? ⟨w.heap.size, 0, none⟩ = some (.bool ng) := hbk.cell 0
 have hb1 : Below w.heap.size w (w.alloc (.cells #[.bool ng, .string s] 23)) := new_below _ _
 have hsz1 : (w.alloc (.cells #[.bool ng, .string s] 23)).heap.size = w.heap.size + 1 := by simp
 obtain ⟨W1, hW1⟩ : ∃ W1, W1 = w.alloc (.cells #[.bool ng, .string s] 23) := ⟨_, rfl⟩
 rw [← hW1] at e0 hb1 hsz1
 have hrd := bytes_reads (W1.alloc (.cells #[.bool false, .slice none 0 0] 151)) s
 rw [World.size_alloc] at hrd
 have hbb := bytes_below (W1.alloc (.cells #[.bool false, .slice none 0 0] 151)) s
 have HS : Hid (Calls Tryz.prog 124 #[.pointer (some ⟨W1.heap.size, 0, none⟩), .slice (some ⟨W1.heap.size + 1, 0, none⟩) s.size (grownCap (W1.alloc (.cells #[.bool false, .slice none 0 0] 151)) s.size 0 5)] (Lib.bytesWorld (W1.alloc (.cells #[.bool false, .slice none 0 0] 151)) 5 s) (fun e w3 => e = .returned (.pointer (some ⟨W1.heap.size, 0, none⟩)) ∧ IntB w3 W1.heap.size ((bval s.data.toList : Nat) : Int) ∧ Below w.heap.size w w3 ∧ w3.cell? ⟨w.heap.size, 0, none⟩ = some (.bool ng))) := by
  refine Lib.hid ((setbytes_any (c := grownCap (W1.alloc (.cells #[.bool false, .slice none 0 0] 151)) s.size 0 5) ((IntB.zero W1).slot.below hbb) hrd (Nat.le_refl _) hsl.symm (by omega)).mono ?_)
  rintro e w3 ⟨rfl, hi3, hg3⟩
  have hb13 : Below W1.heap.size W1 w3 := ((new_below W1 _).trans (hbb.mono (by simp))).grown hg3 (by rw [Lib.bytesWorld_size]; simp; omega) (fun k hk => by injection hk with hk; omega)
  exact ⟨rfl, hi3, hb1.trans (hb13.mono hb1.size), (hb13.cell (p := ⟨w.heap.size, 0, none⟩) (by show w.heap.size < _; omega)).trans e0⟩
 have hlen := len_mag Hm.out
 subst hW1
 rw [World.size_alloc] at HS
 clear hrd hbb e0 hb1 hsz1 hbk hsl
 cases ng
 ·go_enter Tryz.func112, Tryz.ntmps112
  go_wp2_with (go_at_call 124; (refine HS.out.mono ?_); rintro _ w3 ⟨rfl, hi3, hb3, d0⟩)
  go_ret
  exact ⟨_, rfl, by simp, hi3, hb3⟩
 ·go_enter Tryz.func112, Tryz.ntmps112
  go_wp2_with (first | (go_at_call 124; (refine HS.out.mono ?_); rintro _ w3 ⟨rfl, hi3, hb3, d0⟩; have HN := Lib.hid (neg_any hi3.slot hi3 (by rw [Int.natAbs_natCast]; omega))) | (go_at_call 119; (refine HN.out.mono ?_); rintro _ w4 ⟨rfl, hi4, hg4⟩))
  go_ret
  exact ⟨_, rfl, by simp, hi4, up_row hb3 hg4 hb3.size (by omega)⟩
set_option maxRecDepth 100000 in
set_option maxHeartbeats 1000000 in
theorem cmp_any {w : World} {gx gy : Nat} {x y : Int} (hx : IntB w gx x) (hy : IntB w gy y) (hxl : (wds x.natAbs).length ≤ 900000000) (hyl : (wds y.natAbs).length ≤ 900000000) :
  Calls Tryz.prog 114 #[.pointer (some ⟨gx, 0, none⟩), .pointer (some ⟨gy, 0, none⟩)] w (Cmped w (cmpI x y)) := by
 obtain ⟨sx, Ax, nx, cx, x0, x1, Hx, hxc, hxcl, rx⟩ := hx.opened
 obtain ⟨sy, Ay, ny, cy, y0, y1, Hy, hyc, hycl, ry⟩ := hy.opened
 have HU : ∀ (v : Int), cmpN x.natAbs y.natAbs = v → Hid (∀ q, Calls Tryz.prog 127 #[.slice Ax nx cx, .slice Ay ny cy] (w.drewN q) (fun e w' => e = .returned (.int .i64 v) ∧ ∃ m, w' = (w.drewN q).drewN m)) := by
  intro v hv q
  refine (under_any (rx.drewN q) (ry.drewN q) (c := cx) (d := cy) Hx.out.2 Hy.out.2 (by have := Hx.out.2; omega) (by have := Hy.out.2; omega)).mono ?_
  rintro e w' ⟨m, he, hw⟩
  exact ⟨by rw [he, hv], m, hw⟩
 have HV : ∀ (v : Int), cmpN y.natAbs x.natAbs = v → Hid (∀ q, Calls Tryz.prog 127 #[.slice Ay ny cy, .slice Ax nx cx] (w.drewN q) (fun e w' => e = .returned (.int .i64 v) ∧ ∃ m, w' = (w.drewN q).drewN m)) := by
  intro v hv q
  refine (under_any (ry.drewN q) (rx.drewN q) (c := cy) (d := cx) Hy.out.2 Hx.out.2 (by have := Hy.out.2; omega) (by have := Hx.out.2; omega)).mono ?_
  rintro e w' ⟨m, he, hw⟩
  exact ⟨by rw [he, hv], m, hw⟩
 have hs := Hx.out.1
 have ht := Hy.out.1
 by_cases hxn : x < 0 <;> by_cases hyn : y < 0
 ·have H := HV _ (cmp_nn hxn hyn)
  obtain rfl : sx = true := by rw [hs]; simp [hxn]
  obtain rfl : sy = true := by rw [ht]; simp [hyn]
  generalize cmpI x y = v at *
  clear HU HV hs ht hxn hyn hxl hyl rx ry hx hy Hx Hy
  go_enter Tryz.func114, Tryz.ntmps114
  go_wp2_with fail
  go_quiet ((go_at_call 127; exact Calls.quiet_of (H.out _)))
  go_wp2_with fail
  go_ret
  exact ⟨_, rfl, rfl⟩
 ·have Hv := Lib.hid (cmp_np hxn hyn)
  obtain rfl : sx = true := by rw [hs]; simp [hxn]
  obtain rfl : sy = false := by rw [ht]; simp [hyn]
  generalize cmpI x y = v at *
  clear HU HV hs ht hxn hyn hxl hyl rx ry hx hy Hx Hy
  go_enter Tryz.func114, Tryz.ntmps114
  go_wp2_with fail
  go_ret
  exact ⟨0, by rw [Hv.out]; rfl, rfl⟩
 ·have Hv := Lib.hid (cmp_pn hxn hyn)
  obtain rfl : sx = false := by rw [hs]; simp [hxn]
  obtain rfl : sy = true := by rw [ht]; simp [hyn]
  generalize cmpI x y = v at *
  clear HU HV hs ht hxn hyn hxl hyl rx ry hx hy Hx Hy
  go_enter Tryz.func114, Tryz.ntmps114
  go_wp2_with fail
  go_ret
  exact ⟨0, by rw [Hv.out]; rfl, rfl⟩
 ·have H := HU _ (cmp_pp hxn hyn)
  obtain rfl : sx = false := by rw [hs]; simp [hxn]
  obtain rfl : sy = false := by rw [ht]; simp [hyn]
  generalize cmpI x y = v at *
  clear HU HV hs ht hxn hyn hxl hyl rx ry hx hy Hx Hy
  go_enter Tryz.func114, Tryz.ntmps114
  go_wp2_with fail
  go_quiet ((go_at_call 127; exact Calls.quiet_of (H.out _)))
  go_wp2_with fail
  go_ret
  exact ⟨_, rfl, rfl⟩
end Go.Proofs.YtebpggfccljagaaGreat
namespace Go.Proofs.YtebpggfccljagaaGreat
open Go.RowKit
open Wh
set_option linter.unusedSimpArgs false
set_option linter.unusedVariables false
theorem grow_trans {a b c : World} {r : Option Nat} (h : a.grownBy b r) (h2 : b.grownBy c r) : a.grownBy c r :=
 ⟨h2.os.trans h.os, h2.tape.trans h.tape, h2.output.trans h.output, Nat.le_trans h.size h2.size, fun i hi hne => (h2.block i (Nat.lt_of_lt_of_le hi h.size) hne).trans (h.block i hi hne)⟩
theorem grown_of_below {a b : World} {r : Option Nat} (h : Below a.heap.size a b) : a.grownBy b r := ⟨h.os, h.tape, h.output, h.size, fun i hi _ => h.block i hi⟩
set_option maxRecDepth 100000 in
set_option maxHeartbeats 4000000 in
theorem ratint_any {w : World} {g gx : Nat} {x : Int} (hz : RatS w g) (hx : IntB w gx x) (hgx : gx ≠ g) (hxl : (wds x.natAbs).length ≤ 900000000) :
  Calls Tryz.prog 123 #[.pointer (some ⟨g, 0, none⟩), .pointer (some ⟨gx, 0, none⟩)] w (fun e w' => e = .returned (.pointer (some ⟨g, 0, none⟩)) ∧ RatB w' g x 1 ∧ w.grownBy w' (some g)) := by
 have HA := Lib.hid (And.intro hz (And.intro hx hgx))
 have HL := Lib.hid hxl
 have hgl := hz.lt
 clear hz hx hgx hxl
 go_enter Tryz.func123, Tryz.ntmps123
 go_wp2_with fail
 refine wp_region_noPanic ?_
 refine wp_region_held_drew (S := fun w' => World.grownBy (w) w' (some g)) (by kernel_rfl) (grown_of_below (r := some g) (Below.refl w.heap.size w).drew) (fun hHeld => ?_)
 refine wpAnyH_take (i := 0) (oi := Oper.mk (some 5) _ _ _ _ _) (v := ?_) rfl (by kernel_rfl) (by kernel_rfl) (by kernel_rfl) (fun _ _ _ h => h) (Or.inl ⟨by rfl, ?_⟩) (by assumption) ?_
 rotate_left
 ·(intro w' hSw; (try dsimp only at hSw); go_simp; try with_reducible rfl)
 try simp only [Act.put, List.setIfInBounds_toArray, List.set_cons_zero, List.set_cons_succ]
 refine wpAnyH_take (i := 1) (oi := Oper.mk (some 6) _ _ _ _ _) (v := ?_) rfl (by kernel_rfl) (by kernel_rfl) (by kernel_rfl) (fun _ _ _ h => h) (Or.inl ⟨by rfl, ?_⟩) (by assumption) ?_
 rotate_left
 ·(intro w' hSw; (try dsimp only at hSw); go_simp; try with_reducible rfl)
 try simp only [Act.put, List.setIfInBounds_toArray, List.set_cons_zero, List.set_cons_succ]
 refine wpAnyH_take (i := 3) (oi := Oper.mk (some 8) _ _ _ _ _) (v := ?_) rfl (by kernel_rfl) (by kernel_rfl) (by kernel_rfl) (fun _ _ _ h => h) (Or.inl ⟨by rfl, ?_⟩) (by assumption) ?_
 rotate_left
 ·(intro w' hSw; (try dsimp only at hSw); go_simp; try with_reducible rfl)
 try simp only [Act.put, List.setIfInBounds_toArray, List.set_cons_zero, List.set_cons_succ]
 refine wpAnyH_ready (rs := [2]) (by kernel_rfl) (by simp) ?_
 refine AllReadyH.cons (o := Oper.mk (some 7) _ _ _ _ _) rfl (fun K hK => ?_) AllReadyH.nil
 go_simp
 refine hK.out _ _ (grown_of_below (r := some g) ((Below.refl w.heap.size w).alloc (Nat.le_refl _) _).drew) (fun _ => ?_)
 clear hK K hHeld
 have hHeld := (grown_of_below (r := some g) ((Below.refl w.heap.size w).alloc (Nat.le_refl _) (.cells #[.bool false, .slice none 0 0] 151)).drew)
 try simp only [Act.put, List.setIfInBounds_toArray, List.set_cons_zero, List.set_cons_succ]
 refine wpAnyH_ready (rs := [4]) (by kernel_rfl) (by simp) ?_
 refine AllReadyH.cons (o := Oper.mk (some 9) _ _ _ _ _) rfl (fun K hK => ?_) AllReadyH.nil
 go_simp
 have hz7 : IntS (w.alloc (.cells #[.bool false, .slice none 0 0] 151)) w.heap.size := (IntB.zero w).slot
 refine (set_any (w := (w.alloc (.cells #[.bool false, .slice none 0 0] 151)).drew) hz7 (HA.out.2.1.below (new_below _ _).drew) HL.out).mono ?_
 rintro _ W1 ⟨rfl, hi1, hg1⟩
 have hg1z : World.grownBy (w.alloc (.cells #[.bool false, .slice none 0 0] 151)) W1 (some w.heap.size) := ⟨hg1.os, hg1.tape, hg1.output, hg1.size, hg1.block⟩
 have hb1 : Below w.heap.size w W1 := below_new hg1z
 obtain ⟨s1, A1, n1, c1, p0, p1, Hp, hp1, hp2, hpr⟩ := hi1.opened
 have hl1 := hi1.lt
 have hne1 : w.heap.size ≠ g := by omega
 refine hK.out _ _ (grown_of_below (r := some g) hb1) (fun _ => ?_)
 clear hK K hHeld
 refine wpAnyH_more (S' := fun w' => World.grownBy (W1) w' (some g)) (fun w' h => grow_trans ((grown_of_below (r := some g) hb1)) h) ?_
 have hHeld := (World.grownBy.refl W1 (some g))
 try simp only [Act.put, List.setIfInBounds_toArray, List.set_cons_zero, List.set_cons_succ]
 refine wpAnyH_take (i := 5) (oi := Oper.mk (some 10) _ _ _ _ _) (v := ?_) rfl (by kernel_rfl) (by kernel_rfl) (by kernel_rfl) (fun _ _ _ h => h) (Or.inl ⟨by rfl, ?_⟩) (by assumption) ?_
 rotate_left
 ·(intro w' hSw; (try dsimp only at hSw); go_simp; try with_reducible rfl)
 try simp only [Act.put, List.setIfInBounds_toArray, List.set_cons_zero, List.set_cons_succ]
 refine wpAnyH_take (i := 6) (oi := Oper.mk (some 11) _ _ _ _ _) (v := ?_) rfl (by kernel_rfl) (by kernel_rfl) (by kernel_rfl) (fun _ _ _ h => h) (Or.inl ⟨by rfl, ?_⟩) (by assumption) ?_
 rotate_left
 ·(intro w' hSw; (try dsimp only at hSw); have t0 := (grown_cell hSw hl1 hne1 (o := 0)).trans p0; have t1 := (grown_cell hSw hl1 hne1 (o := 1)).trans p1; go_simp; try with_reducible rfl)
 try simp only [Act.put, List.setIfInBounds_toArray, List.set_cons_zero, List.set_cons_succ]
 refine wpAnyH_ready (rs := [7]) (by kernel_rfl) (by simp) ?_
 refine AllReadyH.cons (o := Oper.mk (some 12) _ _ _ _ _) rfl (fun K hK => ?_) AllReadyH.nil
 go_simp
 refine (newint_any (w := W1) (n := 1) (by decide) (by decide)).mono ?_
 rintro _ W2 ⟨rfl, hi2, hb2⟩
 obtain ⟨s2, A2, n2, c2, q0, q1, Hq, hq1, hq2, hqr⟩ := hi2.opened
 have hne2 : W1.heap.size ≠ g := by have := hb1.size; omega
 have hl2 := hi2.lt
 have hz2 := (HA.out.1.below (hb1)).below hb2
 have Hz2 := Lib.hid hz2
 obtain ⟨cs, hk, hcs⟩ := hz2
 obtain ⟨z0, e0⟩ : ∃ z, W2.cell? ⟨g, 0, none⟩ = some z := ⟨cs[0]'(by omega), by rw [hk.cell]; exact Array.getElem?_eq_getElem (by omega)⟩
 obtain ⟨z1, e1⟩ : ∃ z, W2.cell? ⟨g, 1, none⟩ = some z := ⟨cs[1]'(by omega), by rw [hk.cell]; exact Array.getElem?_eq_getElem (by omega)⟩
 obtain ⟨z2, e2⟩ : ∃ z, W2.cell? ⟨g, 2, none⟩ = some z := ⟨cs[2]'(by omega), by rw [hk.cell]; exact Array.getElem?_eq_getElem (by omega)⟩
 obtain ⟨z3, e3⟩ : ∃ z, W2.cell? ⟨g, 3, none⟩ = some z := ⟨cs[3]'(by omega), by rw [hk.cell]; exact Array.getElem?_eq_getElem (by omega)⟩
 have f0 := hk.frozen 0
 have f1 := hk.frozen 1
 have f2 := hk.frozen 2
 have f3 := hk.frozen 3
 refine hK.out _ _ (grown_of_below (r := some g) hb2) (fun _ => ?_)
 clear hK K hHeld
 refine wpAnyH_more (S' := fun w' => World.grownBy (W2) w' (some g)) (fun w' h => grow_trans ((grown_of_below (r := some g) hb2)) h) ?_
 have hHeld := (World.grownBy.refl W2 (some g))
 try simp only [Act.put, List.setIfInBounds_toArray, List.set_cons_zero, List.set_cons_succ]
 refine wpAnyH_take (i := 8) (oi := Oper.mk (some 13) _ _ _ _ _) (v := ?_) rfl (by kernel_rfl) (by kernel_rfl) (by kernel_rfl) (fun _ _ _ h => h) (Or.inl ⟨by rfl, ?_⟩) (by assumption) ?_
 rotate_left
 ·(intro w' hSw; (try dsimp only at hSw); go_simp; try with_reducible rfl)
 try simp only [Act.put, List.setIfInBounds_toArray, List.set_cons_zero, List.set_cons_succ]
 refine wpAnyH_take (i := 9) (oi := Oper.mk (some 14) _ _ _ _ _) (v := ?_) rfl (by kernel_rfl) (by kernel_rfl) (by kernel_rfl) (fun _ _ _ h => h) (Or.inl ⟨by rfl, ?_⟩) (by assumption) ?_
 rotate_left
 ·(intro w' hSw; (try dsimp only at hSw); have t0 := (grown_cell hSw hl2 hne2 (o := 0)).trans q0; have t1 := (grown_cell hSw hl2 hne2 (o := 1)).trans q1; go_simp; try with_reducible rfl)
 try simp only [Act.put, List.setIfInBounds_toArray, List.set_cons_zero, List.set_cons_succ]
 refine wpAnyH_take (i := 10) (oi := Oper.mk (some 15) _ _ _ _ _) (v := ?_) rfl (by kernel_rfl) (by kernel_rfl) (by kernel_rfl) (fun _ _ _ h => h) (Or.inl ⟨by rfl, ?_⟩) (by assumption) ?_
 rotate_left
 ·(intro w' hSw; (try dsimp only at hSw); go_simp; try with_reducible rfl)
 try simp only [Act.put, List.setIfInBounds_toArray, List.set_cons_zero, List.set_cons_succ]
 refine wpAnyH_take (i := 11) (oi := Oper.mk (some 16) _ _ _ _ _) (v := ?_) rfl (by kernel_rfl) (by kernel_rfl) (by kernel_rfl) (fun _ _ _ h => h) (Or.inl ⟨by rfl, ?_⟩) (by assumption) ?_
 rotate_left
 ·(intro w' hSw; (try dsimp only at hSw); go_simp; try with_reducible rfl)
 try simp only [Act.put, List.setIfInBounds_toArray, List.set_cons_zero, List.set_cons_succ]
 refine wpAnyH_ready (rs := [12]) (by kernel_rfl) (by simp) ?_
 refine AllReadyH.cons (o := Oper.mk (none) _ _ _ _ _) rfl (fun K hK => ?_) AllReadyH.nil
 go_simp
 refine hK.out _ _ (only_setCell (p := ⟨g, 1, none⟩) (only_setCell (p := ⟨g, 0, none⟩) (World.grownBy.refl W2 (some g)) (.inl rfl) _) (.inl rfl) _) (fun _ => ?_)
 clear hK K hHeld
 refine wpAnyH_more (S' := fun w' => World.grownBy (((W2.setCell ⟨g, 0, none⟩ (.bool s1)).setCell ⟨g, 1, none⟩ (.slice A1 n1 c1))) w' (some g)) (fun w' h => grow_trans ((only_setCell (p := ⟨g, 1, none⟩) (only_setCell (p := ⟨g, 0, none⟩) (World.grownBy.refl W2 (some g)) (.inl rfl) _) (.inl rfl) _)) h) ?_
 have hHeld := (World.grownBy.refl ((W2.setCell ⟨g, 0, none⟩ (.bool s1)).setCell ⟨g, 1, none⟩ (.slice A1 n1 c1)) (some g))
 try simp only [Act.put, List.setIfInBounds_toArray, List.set_cons_zero, List.set_cons_succ]
 refine wpAnyH_take (i := 13) (oi := Oper.mk (some 17) _ _ _ _ _) (v := ?_) rfl (by kernel_rfl) (by kernel_rfl) (by kernel_rfl) (fun _ _ _ h => h) (Or.inl ⟨by rfl, ?_⟩) (by assumption) ?_
 rotate_left
 ·(intro w' hSw; (try dsimp only at hSw); go_simp; try with_reducible rfl)
 try simp only [Act.put, List.setIfInBounds_toArray, List.set_cons_zero, List.set_cons_succ]
 refine wpAnyH_take (i := 14) (oi := Oper.mk (some 18) _ _ _ _ _) (v := ?_) rfl (by kernel_rfl) (by kernel_rfl) (by kernel_rfl) (fun _ _ _ h => h) (Or.inl ⟨by rfl, ?_⟩) (by assumption) ?_
 rotate_left
 ·(intro w' hSw; (try dsimp only at hSw); go_simp; try with_reducible rfl)
 try simp only [Act.put, List.setIfInBounds_toArray, List.set_cons_zero, List.set_cons_succ]
 refine wpAnyH_ready (rs := [15]) (by kernel_rfl) (by simp) ?_
 refine AllReadyH.cons (o := Oper.mk (none) _ _ _ _ _) rfl (fun K hK => ?_) AllReadyH.nil
 go_simp
 refine hK.out _ _ (only_setCell (p := ⟨g, 3, none⟩) (only_setCell (p := ⟨g, 2, none⟩) (World.grownBy.refl ((W2.setCell ⟨g, 0, none⟩ (.bool s1)).setCell ⟨g, 1, none⟩ (.slice A1 n1 c1)) (some g)) (.inl rfl) _) (.inl rfl) _) (fun _ => ?_)
 clear hK K hHeld
 have hHeld := (only_setCell (p := ⟨g, 3, none⟩) (only_setCell (p := ⟨g, 2, none⟩) (World.grownBy.refl ((W2.setCell ⟨g, 0, none⟩ (.bool s1)).setCell ⟨g, 1, none⟩ (.slice A1 n1 c1)) (some g)) (.inl rfl) (.bool s2)) (.inl rfl) (.slice A2 n2 c2))
 try simp only [Act.put, List.setIfInBounds_toArray, List.set_cons_zero, List.set_cons_succ]
 refine wpAnyH_done (by kernel_rfl) ?_ _
 refine NoPanic.normal ?_
 go_wp2_with fail
 go_ret
 obtain ⟨r1, r2⟩ := rat_made Hz2.out Hp hp1 hp2 ((hpr.below hb2).more hb2.size) Hq hq1 hq2 hqr (by decide)
 exact ⟨rfl, r1, grow_trans (grown_of_below (r := some g) (hb1.trans (hb2.mono hb1.size))) r2⟩
set_option maxRecDepth 100000 in
theorem ratint64_any {w : World} {g : Nat} {x : Int} (hz : RatS w g) (h1 : -9223372036854775808 ≤ x) (h2 : x ≤ 9223372036854775807) (hx : (wds x.natAbs).length ≤ 900000000) :
  Calls Tryz.prog 108 #[.pointer (some ⟨g, 0, none⟩), .int .i64 x] w (fun e w' => e = .returned (.pointer (some ⟨g, 0, none⟩)) ∧ RatB w' g x 1 ∧ w.grownBy w' (some g)) := by
 have HN := Lib.hid (newint_any (w := w) h1 h2)
 have HX := Lib.hid hx
 have hgl := hz.lt
 have HZ := Lib.hid hz
 clear hz
 go_enter Tryz.func108, Tryz.ntmps108
 go_wp2_with (first
  | (go_at_call 115; (with_reducible refine HN.out.mono ?_); rintro _ W1 ⟨rfl, hi, hb⟩; have hgx : w.heap.size ≠ g := (by omega))
  | (go_at_call 123; (with_reducible refine (ratint_any (HZ.out.below hb) hi hgx HX.out).mono ?_); rintro _ W2 ⟨rfl, hr, hg⟩))
 go_ret
 exact ⟨rfl, hr, grow_trans (grown_of_below hb) hg⟩
def Box (w0 w : World) (t : TypeId) (cs : Array Value) : Prop := Blk w w0.heap.size t cs ∧ Below w0.heap.size w0 w
theorem Box.new (w0 : World) (t : TypeId) (cs : Array Value) : Box w0 (w0.alloc (.cells cs t)) t cs := ⟨Blk.new w0 t cs, new_below _ _⟩
theorem Box.next {w0 w w' : World} {t : TypeId} {cs : Array Value} (h : Box w0 w t cs) (hb : Below w.heap.size w w') : Box w0 w' t cs := ⟨h.1.below hb h.1.lt, h.2.trans (hb.mono h.2.size)⟩
theorem len_oneG : (wds (1 : Int).natAbs).length ≤ 100000000 := by
 show (wds 1).length ≤ 100000000
 rw [wds_pos (by decide), show 1 / 4294967296 = 0 by decide, wds_zero]
 simp
set_option maxRecDepth 100000 in
set_option maxHeartbeats 2000000 in
theorem fint_any {w : World} {x : Int} (hx : x.natAbs < 2 ^ 8) :
  Calls Tryz.prog 78 #[.int .i64 x] w (fun e w' => e = .returned (encF x 1) ∧ Below w.heap.size w w') := by
 have hl : (wds x.natAbs).length ≤ 100000000 := Nat.le_trans (len_sz (n := 8) (by omega) (by omega)) (by omega)
 have h0 := ratint64_any (x := x) (RatS.zero (w.alloc (.cells #[.bool false, .string ⟨#[]⟩, .bool false, .string ⟨#[]⟩] 25))) (by omega) (by omega) (by omega)
 have hN := new_below (w.alloc (.cells #[.bool false, .string ⟨#[]⟩, .bool false, .string ⟨#[]⟩] 25)) (.cells #[.bool false, .slice none 0 0, .bool false, .slice none 0 0] 153)
 rw [World.size_alloc] at h0
 have H0 := Lib.hid h0
 have HN := Lib.hid hN
 obtain ⟨b0, s0, b1, s1, he⟩ : ∃ b0 s0 b1 s1, encF x 1 = .agg #[.bool b0, .string s0, .bool b1, .string s1] := ⟨_, _, _, _, rfl⟩
 have HT : Hid (∀ W g, RatB W g x 1 → Calls Tryz.prog 107 #[.pointer (some ⟨g, 0, none⟩)] W (fun e w' => e = .returned (.agg #[.bool b0, .string s0, .bool b1, .string s1]) ∧ Below W.heap.size W w')) :=
  Lib.hid fun W g h => by
   have := toldf_any h hl len_oneG
   rw [he] at this
   exact this
 rw [he]
 have hbx := Box.new w 25 #[.bool false, .string ⟨#[]⟩, .bool false, .string ⟨#[]⟩]
 clear h0 hN he hx
 go_enter Tryz.func78, Tryz.ntmps78
 go_wp2_with (first
  | (go_at_call 108; (refine H0.out.mono ?_); rintro _ W1 ⟨rfl, hr, hg⟩; have hbx := hbx.next (HN.out.grown hg (by simp) (fun k hk => by injection hk with hk; simp at hk ⊢; omega)))
  | (go_at_call 107; (refine (HT.out _ _ hr).mono ?_); rintro _ W2 ⟨rfl, hb2⟩; have hbx := hbx.next hb2; have c0 := hbx.1.cell 0; have c1 := hbx.1.cell 1; have c2 := hbx.1.cell 2; have c3 := hbx.1.cell 3; have f0 := hbx.1.frozen 0; have f1 := hbx.1.frozen 1; have f2 := hbx.1.frozen 2; have f3 := hbx.1.frozen 3))
 refine bodyPost_ret (v := .agg #[.bool b0, .string s0, .bool b1, .string s1]) (by simp [results, Tryz.results78, go_sem, c0, c1, c2, c3]) rfl ?_
 exact ⟨rfl, (((hbx.2.setCell (Nat.le_refl _) _).setCell (Nat.le_refl _) _).setCell (Nat.le_refl _) _).setCell (Nat.le_refl _) _⟩
end Go.Proofs.YtebpggfccljagaaGreat
namespace Go.Proofs.YtebpggfccljagaaGreat
open Go.RowKit
open Wh
set_option linter.unusedSimpArgs false
def NoV : World → Nat → Prop := fun _ _ => False
theorem noV_vgs : Vgs NoV := ⟨fun h => h.elim, fun h => h.elim, fun h => h.elim⟩
theorem nov {b : Bool} {S : Value → World → Prop} (h : ∀ v w w', S v w → Below w.heap.size w w' → S v w') : Steady NoV b S := ⟨h _ _ _, fun _ h => h.elim⟩
def IsInt (z : Int) : Value → World → Prop := fun v w => ∃ g, v = ptr g ∧ IntB w g z
theorem IsInt.below {z : Int} {v : Value} {w w' : World} (h : IsInt z v w) (hb : Below w.heap.size w w') : IsInt z v w' := by
 obtain ⟨g, rfl, h⟩ := h
 exact ⟨g, rfl, h.below hb⟩
structure Wv (b : Bool) (s : ByteArray) (z : Int) : Prop where
 neg : b = decide (z < 0)
 mag : s = ⟨(bys z.natAbs).toArray⟩
theorem Wv.num {b : Bool} {s : ByteArray} {z : Int} (h : Wv b s z) : num (b, s) = z := by
 unfold Go.Proofs.YtebpggfccljagaaGreat.num
 rw [h.neg, h.mag]
 simp only [List.toList_toArray]
 rw [bval_b, sgn_of]
theorem Wv.len {b : Bool} {s : ByteArray} {z : Int} (h : Wv b s z) : s.size = (bys z.natAbs).length := by
 rw [h.mag]
 simp [ByteArray.size]
theorem Wv.may {b : Bool} {s : ByteArray} {z : Int} (h : Wv b s z) : (s.data.toList = [] → b = false) ∧ Formed s.data.toList := by
 have e : s.data.toList = bys z.natAbs := by rw [h.mag]
 rw [e]
 refine ⟨fun h0 => ?_, formed_b _⟩
 have : z.natAbs = 0 := by
  have := bval_b z.natAbs
  rw [h0] at this
  simpa [bval] using this.symm
 rw [h.neg]
 simp
 omega
theorem whole_any {w : World} {b : Bool} {s : ByteArray} {z : Int} (h : Wv b s z) (hl : s.size ≤ 16384) : Calls Tryz.prog 112 #[.agg #[.bool b, .string s]] w (Ret w (IsInt z)) := by
 have := number_any (w := w) (ng := b) (s := s) (by rw [Array.length_toList]; exact hl)
 rw [h.num] at this
 refine this.mono ?_
 rintro _ w' ⟨g, rfl, _, hi, hb⟩
 exact ⟨_, rfl, ⟨g, rfl, hi⟩, hb⟩
set_option maxRecDepth 100000 in
set_option maxHeartbeats 1000000 in
theorem formed_any {w : World} {b : Bool} {s : ByteArray} (h2 : s.data.toList = [] → b = false) (h3 : Formed s.data.toList) :
  Calls Tryz.prog 111 #[.agg #[.bool b, .string s]] w (fun e w' => e = .returned (.bool true) ∧ Below w.heap.size w w') := by
 have hl : s.data.toList.length = s.size := Array.length_toList
 rcases Nat.eq_zero_or_pos s.size with h0 | h0
 ·have he : s.data.toList = [] := List.eq_nil_of_length_eq_zero (by omega)
  obtain rfl := str_empty he
  obtain rfl := h2 he
  clear h2 h3 hl h0 he
  go_enter Tryz.func111, Tryz.ntmps111
  go_wp2
  go_ret
  exact ⟨rfl, (Below.refl _ _).alloc (Nat.le_refl _) _⟩
 ·obtain ⟨e1, e2⟩ := str_facts h0
  have hi0 : (0 : Int) < (s.size : Int) := by omega
  have hne : ¬ s[0].toNat = 0 := fun hh => h3 s[0] (str_head h0) (by rw [← UInt8.toNat_inj]; exact hh)
  have hb0 : ((s[0].toNat : Int) == 0) = false := by simp; omega
  have hb1 : ((s[0].toNat : Int) != 0) = true := by simp; omega
  clear h2 h3 hl
  go_enter Tryz.func111, Tryz.ntmps111
  go_wp2
  go_ret
  exact ⟨rfl, (Below.refl _ _).alloc (Nat.le_refl _) _⟩
theorem cmp_same {w : World} {gx gy : Nat} {x : Int} (hx : IntB w gx x) (hy : IntB w gy x) (hl : (wds x.natAbs).length ≤ 900000000) :
  Calls Tryz.prog 114 #[.pointer (some ⟨gx, 0, none⟩), .pointer (some ⟨gy, 0, none⟩)] w (fun e w' => e = .returned (.int .i64 0) ∧ Below w.heap.size w w') := by
 refine (cmp_any hx hy hl hl).mono ?_
 rintro _ w' ⟨q, rfl, rfl⟩
 refine ⟨?_, below_drewN (Below.refl _ _) _⟩
 unfold cmpI
 rw [if_neg (by omega), if_neg (by omega)]
set_option maxRecDepth 100000 in
set_option maxHeartbeats 4000000 in
theorem exrat_any {w : World} {b0 b1 : Bool} {s0 s1 : ByteArray} {q : Rat} {n : Nat} (h0 : Wv b0 s0 q.num) (h1 : Wv b1 s1 (q.den : Int)) (hs : Sz q n) (hn : n ≤ 10000000) (hl0 : s0.size ≤ 1024) (hl1 : s1.size ≤ 1024) :
  Calls Tryz.prog 86 #[.agg #[.bool b0, .string s0, .bool b1, .string s1]] w (Ret w (IsRat q n)) := by
 have hq := q.den_pos
 have hlx := hs.lens hn
 have hb1 : b1 = false := by rw [h1.neg]; exact decide_eq_false (by omega)
 subst hb1
 have hp1 : 0 < s1.size := by
  rw [h1.len]
  rcases hh : bys (q.den : Int).natAbs with _ | ⟨x, l⟩
  ·have := bval_b (q.den : Int).natAbs
   rw [hh] at this
   simp [bval] at this
   omega
  ·simp
 have HF0 := Lib.hid (fun W => formed_any (w := W) h0.may.1 h0.may.2)
 have HF1 := Lib.hid (fun W => formed_any (w := W) h1.may.1 h1.may.2)
 have HI0 := Lib.hid (fun W => whole_any (w := W) h0 (by omega))
 have HI1 := Lib.hid (fun W => whole_any (w := W) h1 (by omega))
 have HQ := Lib.hid (And.intro hs (And.intro hlx hq))
 obtain ⟨e1, e2⟩ := str_facts hp1
 have hd0 : decide ((1024 : Int) < (s0.size : Int)) = false := by simp; omega
 have hd1 : decide ((1024 : Int) < (s1.size : Int)) = false := by simp; omega
 have hbx := Box.new w 25 #[.bool b0, .string s0, .bool false, .string s1]
 have c0 := hbx.1.cell 0
 have c1 := hbx.1.cell 1
 have c2 := hbx.1.cell 2
 have c3 := hbx.1.cell 3
 clear h0 h1 hq hs hp1 hl0 hl1
 go_enter Tryz.func86, Tryz.ntmps86
 go_wp2_with (go_at_call 111; (first | (with_reducible refine (HF0.out _).mono ?_) | (with_reducible refine (HF1.out _).mono ?_)); rintro _ W1 ⟨rfl, hb⟩; have hbx := hbx.next hb; have c0 := hbx.1.cell 0; have c1 := hbx.1.cell 1; have c2 := hbx.1.cell 2; have c3 := hbx.1.cell 3; clear hb)
 have hb0 := hbx.2
 have k0 := hbx.1
 clear c0 c1 c2 c3 HF0 HF1
 generalize hW : W1 = W at *
 clear hW
 refine wp_region_noPanic ?_
 refine wp_region_list (mk := ?mk) noV_vgs [Is (ptr w.heap.size), Is (.agg #[(.bool b0), (.string s0)]), IsInt q.num, Is (.pointer (some ⟨w.heap.size, 2, none⟩)), Is (.agg #[(.bool false), (.string s1)]), IsInt (q.den : Int), IsInt q.num, IsInt (q.den : Int)] [.plain, .plain, .plain, .plain, .plain, .plain, .plain, .plain] 8 0 (fun w' => Blk w' (w.heap.size) 25 #[.bool b0, .string s0, .bool false, .string s1] ∧ True) ⟨is_steady _ _ _, is_steady _ _ _, nov fun _ _ _ h => h.below, is_steady _ _ _, is_steady _ _ _, nov fun _ _ _ h => h.below, nov fun _ _ _ h => h.below, nov fun _ _ _ h => h.below, trivial⟩ (by kernel_rfl) (by kernel_rfl) (by kernel_rfl) (by kernel_rfl) (by kernel_rfl) (by kernel_rfl) ?hmk (fun w' hB => ⟨k0.below hB k0.lt, trivial⟩)
  (steps_all (steps_cons ?_ (steps_cons ?_ (steps_cons ?_ (steps_cons ?_ (steps_cons ?_ (steps_cons ?_ (steps_cons ?_ (steps_cons ?_ steps_nil))))))))) ?_
 case hmk =>
  intro u
  simp only [mkFrom, mkL, dstOf, List.range, List.range.loop, Act.put, List.setIfInBounds_toArray, List.set_cons_zero, List.set_cons_succ, List.getElem?_toArray, List.getElem?_cons_zero, List.getElem?_cons_succ, Option.bind_some]
  rfl
 ·refine step_is (o := Oper.mk (some 41) _ _ _ _ _) rfl rfl rfl rfl (fun u ws hc hd => ?_)
  go_simp
 ·refine step_is (o := Oper.mk (some 42) _ _ _ _ _) rfl rfl rfl rfl (fun u ws hc hd => ?_)
  obtain ⟨k0, _⟩ := hc
  have d0 : u 0 = _ := hd 0 (by kernel_rfl) (by decide)
  exact run_load_part 23 (.tmp 41) rfl (w.heap.size) 0 d0 #[(.bool b0), (.string s0)] _ k0 rfl Tryz.underlying23 rfl (by kernel_rfl)
 ·refine step_call (o := Oper.mk (some 43) _ _ _ _ _) rfl rfl rfl (fun u ws hc hd => ?_)
  obtain ⟨k0, _⟩ := hc
  have d1 : u 1 = _ := hd 1 (by kernel_rfl) (by decide)
  have HC := Lib.hid (HI0.out ws)
  refine ⟨112, #[(.agg #[(.bool b0), (.string s0)])], ?_, HC.out⟩
  ·clear HC; go_simp
 ·refine step_is (o := Oper.mk (some 44) _ _ _ _ _) rfl rfl rfl rfl (fun u ws hc hd => ?_)
  go_simp
 ·refine step_is (o := Oper.mk (some 45) _ _ _ _ _) rfl rfl rfl rfl (fun u ws hc hd => ?_)
  obtain ⟨k0, _⟩ := hc
  have d3 : u 3 = _ := hd 3 (by kernel_rfl) (by decide)
  exact run_load_part 23 (.tmp 44) rfl (w.heap.size) 2 d3 #[(.bool false), (.string s1)] _ k0 rfl Tryz.underlying23 rfl (by kernel_rfl)
 ·refine step_call (o := Oper.mk (some 46) _ _ _ _ _) rfl rfl rfl (fun u ws hc hd => ?_)
  obtain ⟨k0, _⟩ := hc
  have d4 : u 4 = _ := hd 4 (by kernel_rfl) (by decide)
  have HC := Lib.hid (HI1.out ws)
  refine ⟨112, #[(.agg #[(.bool false), (.string s1)])], ?_, HC.out⟩
  ·clear HC; go_simp
 ·refine step_val (o := Oper.mk (some 3) _ _ _ _ _) rfl rfl rfl (fun u ws hc hd => ⟨u 2, ?_, (hd 2 (by kernel_rfl) (by decide) : IsInt q.num (u 2) ws)⟩)
  go_simp
 ·refine step_val (o := Oper.mk (some 4) _ _ _ _ _) rfl rfl rfl (fun u ws hc hd => ⟨u 5, ?_, (hd 5 (by kernel_rfl) (by decide) : IsInt (q.den : Int) (u 5) ws)⟩)
  go_simp
 ·intro u w1 hb1 hf hn1
  obtain ⟨ga, ea, hia⟩ : IsInt _ (u 6) w1 := hf 6 (by decide) (by decide)
  obtain ⟨gb, eb, hib⟩ : IsInt _ (u 7) w1 := hf 7 (by decide) (by decide)
  have hn0 := new_below w1 (.cells #[.bool false, .slice none 0 0, .bool false, .slice none 0 0] 153)
  have HS := Lib.hid (setfrac_any (RatS.zero w1) (hia.below hn0).inC (hib.below hn0).inC HQ.out.2.1.1 HQ.out.2.1.2 (by have := HQ.out.2.2; omega))
  have HA := Lib.hid (And.intro hia (And.intro hib (hb0.trans (hb1.mono hb0.size))))
  refine wpAny_end (by kernel_rfl) ?_
  refine NoPanic.normal ?_
  rw [ea, eb]
  clear hf hn1 hia hib hn0 hb1 hb0 k0 ea eb
  go_wp2_with fail
  refine HS.out.mono ?_
  rintro _ w2 ⟨rfl, hr, hg⟩
  rw [Rat.num_divInt_den] at hr
  have hb2 := below_new hg
  have HB2 := Lib.hid (HA.out.2.2.trans (hb2.mono HA.out.2.2.size))
  have HN := Lib.hid (num_new hr HQ.out.2.1.1)
  have HR := Lib.hid (And.intro hr (And.intro (HA.out.1.below hb2) (HA.out.2.1.below hb2)))
  clear hr hg hb2
  go_wp2_with fail
  refine HN.out.mono ?_
  rintro _ w3 ⟨g3, rfl, _, hi3, hb3⟩
  have HC := Lib.hid (cmp_same hi3 (HR.out.2.1.below hb3) HQ.out.2.1.1)
  have H3 := Lib.hid hb3
  clear hi3 hb3
  go_wp2_with fail
  refine HC.out.mono ?_
  rintro _ w4 ⟨rfl, hb4⟩
  have h24 := H3.out.trans (hb4.mono H3.out.size)
  have HD := Lib.hid (denom_new (HR.out.1.below h24) HQ.out.2.1.2)
  have H4 := Lib.hid h24
  clear hb4 h24
  go_wp2_with fail
  refine HD.out.mono ?_
  rintro _ w5 ⟨g5, rfl, _, hi5, hb5⟩
  have h25 := H4.out.trans (hb5.mono H4.out.size)
  have HE := Lib.hid (cmp_same hi5 (HR.out.2.2.below h25) HQ.out.2.1.2)
  have H5 := Lib.hid h25
  clear hi5 hb5 h25
  go_wp2_with fail
  refine HE.out.mono ?_
  rintro _ w6 ⟨rfl, hb6⟩
  have h26 := H5.out.trans (hb6.mono H5.out.size)
  have H6 := Lib.hid (And.intro (HB2.out.trans (h26.mono HB2.out.size)) (HR.out.1.below h26))
  clear hb6 h26
  go_wp2_with fail
  go_ret
  exact ⟨_, rfl, ⟨_, rfl, ⟨H6.out.2.num, H6.out.2.den, H6.out.2.pos⟩, HQ.out.1⟩, H6.out.1⟩
structure Fv (b0 : Bool) (s0 : ByteArray) (b1 : Bool) (s1 : ByteArray) (q : Rat) (n : Nat) : Prop where
 num : Wv b0 s0 q.num
 den : Wv b1 s1 (q.den : Int)
 sz : Sz q n
 l0 : s0.size ≤ 1024
 l1 : s1.size ≤ 1024
def IsFrac (q : Rat) (n : Nat) (v : Value) : Prop := ∃ b0 s0 b1 s1, v = .agg #[.bool b0, .string s0, .bool b1, .string s1] ∧ Fv b0 s0 b1 s1 q n
def IsGauss (z : Cx) (n : Nat) (v : Value) : Prop := ∃ b0 s0 b1 s1 b2 s2 b3 s3, v = .agg #[.bool b0, .string s0, .bool b1, .string s1, .bool b2, .string s2, .bool b3, .string s3] ∧ Fv b0 s0 b1 s1 z.re n ∧ Fv b2 s2 b3 s3 z.im n
theorem Wv.same {b b' : Bool} {s s' : ByteArray} {z : Int} (h : Wv b s z) (h' : Wv b' s' z) : b = b' ∧ s = s' := ⟨by rw [h.neg, h'.neg], by rw [h.mag, h'.mag]⟩
theorem IsFrac.same {q : Rat} {n m : Nat} {v v' : Value} (h : IsFrac q n v) (h' : IsFrac q m v') : v = v' := by
 obtain ⟨b0, s0, b1, s1, rfl, h⟩ := h
 obtain ⟨c0, t0, c1, t1, rfl, h'⟩ := h'
 obtain ⟨rfl, rfl⟩ := h.num.same h'.num
 obtain ⟨rfl, rfl⟩ := h.den.same h'.den
 rfl
theorem lt_256pow {n a b : Nat} (h : 8 * a = b) (hn : n < 2 ^ b) : n < 256 ^ a := by
 rw [← h, Nat.pow_mul] at hn
 exact hn
theorem Sz.bytes {q : Rat} {n : Nat} (h : Sz q n) (hn : n ≤ 8192) : (bys q.num.natAbs).length ≤ 1024 ∧ (bys (q.den : Int).natAbs).length ≤ 1024 := by
 have h1 := (h.up hn)
 refine ⟨bys_len (lt_256pow (a := 1024) (b := 8192) (by decide) h1.num), bys_len ?_⟩
 rw [Int.natAbs_natCast]
 exact lt_256pow (a := 1024) (b := 8192) (by decide) h1.den
theorem Wv.of (z : Int) : Wv (decide (z < 0)) ⟨(bys z.natAbs).toArray⟩ z := ⟨rfl, rfl⟩
theorem Fv.of {q : Rat} {n : Nat} (h : Sz q n) (hn : n ≤ 8192) : Fv (decide (q.num < 0)) ⟨(bys q.num.natAbs).toArray⟩ false ⟨(bys (q.den : Int).natAbs).toArray⟩ q n where
 num := Wv.of _
 den := ⟨(decide_eq_false (by omega)).symm, rfl⟩
 sz := h
 l0 := by have := (h.bytes hn).1; simpa [ByteArray.size] using this
 l1 := by have := (h.bytes hn).2; simpa [ByteArray.size] using this
def RetE (w : World) (S : Value → World → Prop) (e : Ending) (w' : World) : Prop := ∃ v, e = .returned (.tuple #[v, .int .i64 0]) ∧ S v w' ∧ Below w.heap.size w w'
def RetB (w : World) (S : Value → World → Prop) (b : Bool) (e : Ending) (w' : World) : Prop := ∃ v, e = .returned (.tuple #[v, .bool b]) ∧ S v w' ∧ Below w.heap.size w w'
theorem isR {P : Program} {f : Nat} {args : Array Value} {w : World} {c : Value} (h : Calls P f args w (fun e w' => e = .returned c ∧ w = w')) : Calls P f args w (Ret w (Is c)) := by
 refine h.mono ?_
 rintro _ _ ⟨rfl, rfl⟩
 exact ⟨_, rfl, rfl, Below.refl _ _⟩
set_option maxRecDepth 100000 in
set_option maxHeartbeats 4000000 in
theorem exof_any {w : World} {v : Value} {z : Cx} {n : Nat} (h : IsGauss z n v) (hn : n ≤ 1000000) :
  Calls Tryz.prog 49 #[v] w (RetB w (IsNum z n) true) := by
 obtain ⟨b0, s0, b1, s1, b2, s2, b3, s3, rfl, h1, h2⟩ := h
 have h1 := Lib.hid h1
 have h2 := Lib.hid h2
 go_enter Tryz.func49, Tryz.ntmps49
 go_wp2_with fail
 have hbw : Below w.heap.size w ((w.alloc (Obj.cells #[.bool b0, .string s0, .bool b1, .string s1, .bool b2, .string s2, .bool b3, .string s3] 27)).alloc (Obj.cells #[.pointer none, .pointer none] 83)) := (((Below.refl _ _).alloc (Nat.le_refl _) _).alloc (by simp <;> omega) _)
 have k0 : Blk ((w.alloc (Obj.cells #[.bool b0, .string s0, .bool b1, .string s1, .bool b2, .string s2, .bool b3, .string s3] 27)).alloc (Obj.cells #[.pointer none, .pointer none] 83)) (w.heap.size) 27 #[.bool b0, .string s0, .bool b1, .string s1, .bool b2, .string s2, .bool b3, .string s3] := (((Blk.new w 27 #[.bool b0, .string s0, .bool b1, .string s1, .bool b2, .string s2, .bool b3, .string s3]).alloc (Obj.cells #[.pointer none, .pointer none] 83))).cast (by simp)
 have k1 : Blk ((w.alloc (Obj.cells #[.bool b0, .string s0, .bool b1, .string s1, .bool b2, .string s2, .bool b3, .string s3] 27)).alloc (Obj.cells #[.pointer none, .pointer none] 83)) (w.heap.size + 1) 83 #[.pointer none, .pointer none] := ((Blk.new (w.alloc (Obj.cells #[.bool b0, .string s0, .bool b1, .string s1, .bool b2, .string s2, .bool b3, .string s3] 27)) 83 #[.pointer none, .pointer none])).cast (by simp)
 generalize hW : ((w.alloc (Obj.cells #[.bool b0, .string s0, .bool b1, .string s1, .bool b2, .string s2, .bool b3, .string s3] 27)).alloc (Obj.cells #[.pointer none, .pointer none] 83)) = W at *
 clear hW
 refine wp_region_noPanic ?_
 refine wp_region_list (mk := ?mk) ratZ_vgs [Is (ptr w.heap.size), Is (.agg #[(.bool b0), (.string s0), (.bool b1), (.string s1)]), IsRat z.re n, Is (.pointer (some ⟨w.heap.size, 4, none⟩)), Is (.agg #[(.bool b2), (.string s2), (.bool b3), (.string s3)]), IsRat z.im n, IsRat z.re n, IsRat z.im n] [.plain, .plain, .plain, .plain, .plain, .plain, .plain, .plain] 8 0 (fun w' => Blk w' (w.heap.size) 27 #[.bool b0, .string s0, .bool b1, .string s1, .bool b2, .string s2, .bool b3, .string s3] ∧ True) ⟨is_steady _ _ _, is_steady _ _ _, isRat_steady _ _ _, is_steady _ _ _, is_steady _ _ _, isRat_steady _ _ _, isRat_steady _ _ _, isRat_steady _ _ _, trivial⟩ (by kernel_rfl) (by kernel_rfl) (by kernel_rfl) (by kernel_rfl) (by kernel_rfl) (by kernel_rfl) ?hmk (fun w' hB => ⟨k0.below hB k0.lt, trivial⟩)
  (steps_all (steps_cons ?_ (steps_cons ?_ (steps_cons ?_ (steps_cons ?_ (steps_cons ?_ (steps_cons ?_ (steps_cons ?_ (steps_cons ?_ steps_nil))))))))) ?_
 case hmk =>
  intro u
  simp only [mkFrom, mkL, dstOf, List.range, List.range.loop, Act.put, List.setIfInBounds_toArray, List.set_cons_zero, List.set_cons_succ, List.getElem?_toArray, List.getElem?_cons_zero, List.getElem?_cons_succ, Option.bind_some]
  rfl
 ·refine step_is (o := Oper.mk (some 6) _ _ _ _ _) rfl rfl rfl rfl (fun u ws hc hd => ?_)
  go_simp
 ·refine step_is (o := Oper.mk (some 7) _ _ _ _ _) rfl rfl rfl rfl (fun u ws hc hd => ?_)
  obtain ⟨k0, _⟩ := hc
  have d0 : u 0 = _ := hd 0 (by kernel_rfl) (by decide)
  exact run_load_part 25 (.tmp 6) rfl (w.heap.size) 0 d0 #[(.bool b0), (.string s0), (.bool b1), (.string s1)] _ k0 rfl Tryz.underlying25 rfl (by kernel_rfl)
 ·refine step_call (o := Oper.mk (some 8) _ _ _ _ _) rfl rfl rfl (fun u ws hc hd => ?_)
  obtain ⟨k0, _⟩ := hc
  have d1 : u 1 = _ := hd 1 (by kernel_rfl) (by decide)
  have HC := Lib.hid (exrat_any (w := ws) h1.out.num h1.out.den h1.out.sz (by omega) h1.out.l0 h1.out.l1)
  refine ⟨86, #[(.agg #[(.bool b0), (.string s0), (.bool b1), (.string s1)])], ?_, HC.out⟩
  ·clear HC; go_simp
 ·refine step_is (o := Oper.mk (some 9) _ _ _ _ _) rfl rfl rfl rfl (fun u ws hc hd => ?_)
  go_simp
 ·refine step_is (o := Oper.mk (some 10) _ _ _ _ _) rfl rfl rfl rfl (fun u ws hc hd => ?_)
  obtain ⟨k0, _⟩ := hc
  have d3 : u 3 = _ := hd 3 (by kernel_rfl) (by decide)
  exact run_load_part 25 (.tmp 9) rfl (w.heap.size) 4 d3 #[(.bool b2), (.string s2), (.bool b3), (.string s3)] _ k0 rfl Tryz.underlying25 rfl (by kernel_rfl)
 ·refine step_call (o := Oper.mk (some 11) _ _ _ _ _) rfl rfl rfl (fun u ws hc hd => ?_)
  obtain ⟨k0, _⟩ := hc
  have d4 : u 4 = _ := hd 4 (by kernel_rfl) (by decide)
  have HC := Lib.hid (exrat_any (w := ws) h2.out.num h2.out.den h2.out.sz (by omega) h2.out.l0 h2.out.l1)
  refine ⟨86, #[(.agg #[(.bool b2), (.string s2), (.bool b3), (.string s3)])], ?_, HC.out⟩
  ·clear HC; go_simp
 ·refine step_val (o := Oper.mk (some 4) _ _ _ _ _) rfl rfl rfl (fun u ws hc hd => ⟨u 2, ?_, (hd 2 (by kernel_rfl) (by decide) : IsRat z.re n (u 2) ws)⟩)
  go_simp
 ·refine step_val (o := Oper.mk (some 5) _ _ _ _ _) rfl rfl rfl (fun u ws hc hd => ⟨u 5, ?_, (hd 5 (by kernel_rfl) (by decide) : IsRat z.im n (u 5) ws)⟩)
  go_simp
 ·intro u w1 hb1 hf hn1
  have fa : IsRat _ _ (u 6) w1 := hf 6 (by decide) (by decide)
  have fb : IsRat _ _ (u 7) w1 := hf 7 (by decide) (by decide)
  obtain ⟨ga, ea⟩ := fa.ptr
  obtain ⟨gb, eb⟩ := fb.ptr
  rw [ea] at fa
  rw [eb] at fb
  have kr := k1.below hb1 k1.lt
  clear hf hn1
  refine wpAny_end (by kernel_rfl) ?_
  refine NoPanic.normal ?_
  rw [ea, eb]
  go_wp2_with (refine wpList_store_part (by rfl) 83 (.tmp 2) (.tmp 14) (by rfl) (w.heap.size + 1) 0 #[ptr ga, ptr gb] (by rfl) (by rfl) 83 #[.pointer none, .pointer none] #[ptr ga, ptr gb] kr (by simp) (by rfl) (by kernel_rfl) (by simp [Value.oneCell', ptr]) ?_; intro w9 k9 hg9 hs9)
  refine bodyPost_ret (results_row_tmp rfl _ _ _ _ _ (by rfl) k9 Tryz.underlying83 rfl (by kernel_rfl)) rfl ?_
  exact ⟨_, rfl, ⟨_, _, rfl, fa.far kr (by decide) (by simp) hg9, fb.far kr (by decide) (by simp) hg9⟩, own_set hbw hb1 (by omega) hg9⟩
set_option maxRecDepth 100000 in
set_option maxHeartbeats 4000000 in
theorem exfrac_any {w : World} {v : Value} {q : Rat} {n : Nat} (h : IsRat q n v w) (hn : n ≤ 8192) :
  Calls Tryz.prog 28 #[v] w (RetE w (fun v _ => IsFrac q n v)) := by
 obtain ⟨g, rfl, hr, hs⟩ := h
 have hlx := hs.lens (by omega)
 have hby := hs.bytes hn
 have HI := Lib.hid (fun W => rat_id W g)
 obtain ⟨sv, hsv⟩ : ∃ sv, sv = sg q.num := ⟨_, rfl⟩
 have HS : Hid (∀ W, RatV W g q → Calls Tryz.prog 50 #[ptr g] W (fun e w' => e = .returned (.int .i64 sv) ∧ W = w')) := Lib.hid fun W h => by rw [hsv]; exact ratsign_any h
 have HV : Hid (decide (sv < 0) = decide (q.num < 0)) := Lib.hid (by rw [hsv, sg_neg])
 clear hsv
 go_enter Tryz.func28, Tryz.ntmps28
 have hbw := new_below w (.cells #[.bool false, .string ⟨#[]⟩, .bool false, .string ⟨#[]⟩] 25)
 have k0 := Blk.new w 25 #[.bool false, .string ⟨#[]⟩, .bool false, .string ⟨#[]⟩]
 have hr0 := hr.below hbw
 have HN := Lib.hid (num_new ⟨hr0.num, hr0.den, hr0.pos⟩ hlx.1)
 have HB := Lib.hid (And.intro k0 (And.intro hbw hr0))
 clear k0 hbw hr0 hr
 go_wp2_with (go_at_call 63; (with_reducible refine (HI.out _).mono ?_); rintro _ _ ⟨rfl, rfl⟩)
 refine HN.out.mono ?_
 rintro _ W3 ⟨g3, rfl, _, hi3, hb3⟩
 have HY := Lib.hid (bytes_any (m := q.num.natAbs) q.num rfl hi3 (Nat.le_trans (len_sz hs.num (by omega)) (by omega)))
 have H3 := Lib.hid hb3
 clear hi3 hb3
 go_wp2_with fail
 refine HY.out.mono ?_
 rintro _ W4 ⟨A4, n4, rfl, e4, r4, hb4⟩
 have hb4' := H3.out.trans (hb4.mono H3.out.size)
 have hr4 := HB.out.2.2.below hb4'
 have HD := Lib.hid (denom_new ⟨hr4.num, hr4.den, hr4.pos⟩ hlx.2)
 have H4 := Lib.hid (And.intro hb4' (And.intro e4.out r4))
 clear hb4 hb4' hr4 e4 r4
 go_wp2_with (go_at_call 63; (with_reducible refine (HI.out _).mono ?_); rintro _ _ ⟨rfl, rfl⟩)
 refine HD.out.mono ?_
 rintro _ W5 ⟨g5, rfl, _, hi5, hb5⟩
 have HZ := Lib.hid (bytes_any (m := (q.den : Int).natAbs) (q.den : Int) rfl hi5 (Nat.le_trans (len_sz (n := n) (by simpa using hs.den) (by omega)) (by omega)))
 have H5 := Lib.hid (And.intro hb5 (Reads.more (Reads.below H4.out.2.2 hb5) hb5.size))
 clear hi5 hb5
 go_wp2_with fail
 refine HZ.out.mono ?_
 rintro _ W6 ⟨A6, n6, rfl, e6, r6, hb6⟩
 have hb6' := H4.out.1.trans ((H5.out.1.trans (hb6.mono H5.out.1.size)).mono H4.out.1.size)
 have H6 := Lib.hid (And.intro (HB.out.2.2.below hb6') (And.intro hb6' (And.intro (And.intro H4.out.2.1 (Reads.more (Reads.below H5.out.2 hb6) hb6.size)) (And.intro e6.out r6))))
 have hn4 : (n4 : Int) ≤ 1024 := by have := H4.out.2.1; omega
 have hn6 : (n6 : Int) ≤ 1024 := by have := e6.out; omega
 have d4 : decide ((1024 : Int) < (n4 : Int)) = false := by simp; omega
 have d6 : decide ((1024 : Int) < (n6 : Int)) = false := by simp; omega
 clear hb6 hb6' e6 r6
 go_wp2_with fail
 refine wp_region_noPanic ?_
 refine wp_region_list (mk := ?mk) ratZ_vgs [Is (ptr g), Is (.int .i64 sv), Is (.bool (decide (sv < 0))), Is (.slice A4 n4 n4), Is (.string ⟨(bys q.num.natAbs).toArray⟩), Is (.agg #[(.bool (decide (sv < 0))), (.string ⟨(bys q.num.natAbs).toArray⟩)]), Is (.slice A6 n6 n6), Is (.string ⟨(bys (q.den : Int).natAbs).toArray⟩), Is (.agg #[.bool false, (.string ⟨(bys (q.den : Int).natAbs).toArray⟩)]), Is (.agg #[(.bool (decide (sv < 0))), (.string ⟨(bys q.num.natAbs).toArray⟩), .bool false, (.string ⟨(bys (q.den : Int).natAbs).toArray⟩)])] [.plain, .plain, .plain, .plain, .plain, .plain, .plain, .plain, .plain, .plain] 10 2 (fun w' => RatV w' g q ∧ (n4 = (bys q.num.natAbs).length ∧ ReadsB w' W6.heap.size A4 (bys q.num.natAbs)) ∧ (n6 = (bys (q.den : Int).natAbs).length ∧ ReadsB w' W6.heap.size A6 (bys (q.den : Int).natAbs)) ∧ True) ⟨is_steady _ _ _, is_steady _ _ _, is_steady _ _ _, is_steady _ _ _, is_steady _ _ _, is_steady _ _ _, is_steady _ _ _, is_steady _ _ _, is_steady _ _ _, is_steady _ _ _, trivial⟩ (by kernel_rfl) (by kernel_rfl) (by kernel_rfl) (by kernel_rfl) (by kernel_rfl) (by kernel_rfl) ?hmk (fun w' hB => ⟨H6.out.1.below hB, ⟨H6.out.2.2.1.1, Reads.below H6.out.2.2.1.2 hB⟩, ⟨H6.out.2.2.2.1, Reads.below H6.out.2.2.2.2 hB⟩, trivial⟩)
  (steps_all (steps_cons ?_ (steps_cons ?_ (steps_cons ?_ (steps_cons ?_ (steps_cons ?_ (steps_cons ?_ (steps_cons ?_ (steps_cons ?_ (steps_cons ?_ (steps_cons ?_ steps_nil))))))))))) ?_
 case hmk =>
  intro u
  simp only [mkFrom, mkL, dstOf, List.range, List.range.loop, Act.put, List.setIfInBounds_toArray, List.set_cons_zero, List.set_cons_succ, List.getElem?_toArray, List.getElem?_cons_zero, List.getElem?_cons_succ, Option.bind_some]
  rfl
 ·refine step_is (o := Oper.mk (some 23) _ _ _ _ _) rfl rfl rfl rfl (fun u ws hc hd => ?_)
  go_simp
 ·refine step_call (o := Oper.mk (some 24) _ _ _ _ _) rfl rfl rfl (fun u ws hc hd => ?_)
  obtain ⟨hr, h4, h6, _⟩ := hc
  have d0 : u 0 = _ := hd 0 (by kernel_rfl) (by decide)
  have HC := Lib.hid (isR (HS.out ws hr))
  refine ⟨50, #[(ptr g)], ?_, HC.out⟩
  ·clear HC; go_simp
 ·refine step_is (o := Oper.mk (some 25) _ _ _ _ _) rfl rfl rfl rfl (fun u ws hc hd => ?_)
  have d1 : u 1 = _ := hd 1 (by kernel_rfl) (by decide)
  go_simp
 ·refine step_is (o := Oper.mk (some 26) _ _ _ _ _) rfl rfl rfl rfl (fun u ws hc hd => ?_)
  go_simp
 ·refine step_is (o := Oper.mk (some 27) _ _ _ _ _) rfl rfl rfl rfl (fun u ws hc hd => ?_)
  obtain ⟨hr, h4, h6, _⟩ := hc
  have d3 : u 3 = _ := hd 3 (by kernel_rfl) (by decide)
  have hstr := run_str (c := n4) h4.1 h4.2
  clear h4
  go_simp
 ·refine step_is (o := Oper.mk (some 28) _ _ _ _ _) rfl rfl rfl rfl (fun u ws hc hd => ?_)
  have d2 : u 2 = _ := hd 2 (by kernel_rfl) (by decide)
  have d4 : u 4 = _ := hd 4 (by kernel_rfl) (by decide)
  go_simp
 ·refine step_is (o := Oper.mk (some 29) _ _ _ _ _) rfl rfl rfl rfl (fun u ws hc hd => ?_)
  go_simp
 ·refine step_is (o := Oper.mk (some 30) _ _ _ _ _) rfl rfl rfl rfl (fun u ws hc hd => ?_)
  obtain ⟨hr, h4, h6, _⟩ := hc
  have d6 : u 6 = _ := hd 6 (by kernel_rfl) (by decide)
  have hstr := run_str (c := n6) h6.1 h6.2
  clear h6
  go_simp
 ·refine step_is (o := Oper.mk (some 31) _ _ _ _ _) rfl rfl rfl rfl (fun u ws hc hd => ?_)
  have d7 : u 7 = _ := hd 7 (by kernel_rfl) (by decide)
  go_simp
 ·refine step_is (o := Oper.mk (some 32) _ _ _ _ _) rfl rfl rfl rfl (fun u ws hc hd => ?_)
  have d5 : u 5 = _ := hd 5 (by kernel_rfl) (by decide)
  have d8 : u 8 = _ := hd 8 (by kernel_rfl) (by decide)
  go_simp
 ·intro u w1 hb1 hf hn1
  have f9 : u 9 = _ := hf 9 (by decide) (by decide)
  have k6 := (HB.out.1.below H6.out.2.1 (by simp)).below hb1 (Nat.lt_of_lt_of_le (by simp) H6.out.2.1.size)
  have hbw := HB.out.2.1.trans (H6.out.2.1.mono HB.out.2.1.size)
  clear hf hn1
  rw [f9]
  refine wpAny_store (j := 10) (o := Oper.mk none _ _ _ _ _) rfl (by kernel_rfl) rfl 25 (.tmp 2) (.tmp 32) rfl w.heap.size 0 #[.bool (decide (sv < 0)), .string ⟨(bys q.num.natAbs).toArray⟩, .bool false, .string ⟨(bys (q.den : Int).natAbs).toArray⟩] rfl rfl #[.bool (decide (sv < 0)), .string ⟨(bys q.num.natAbs).toArray⟩, .bool false, .string ⟨(bys (q.den : Int).natAbs).toArray⟩] k6 (by simp) rfl (by kernel_rfl) (by simp [Value.oneCell']) (fun w2 k9 hg9 hs9 => ?_)
  refine wpAny_tail (j := 11) (o := Oper.mk (some 3) _ _ _ _ _) rfl (by kernel_rfl) (fun K hK => ?_)
  go_simp
  refine hK.out _ _ ?_
  clear hK K
  refine wpAny_end (by kernel_rfl) ?_
  refine NoPanic.normal ?_
  go_wp2_with fail
  refine bodyPost_ret (results_row_tmp rfl _ _ _ _ _ (by rfl) k9 Tryz.underlying25 rfl (by kernel_rfl)) rfl ?_
  refine ⟨_, rfl, ?_, own_set hbw hb1 (Nat.le_refl _) hg9⟩
  rw [HV.out]
  exact ⟨_, _, _, _, rfl, Fv.of hs hn⟩
set_option maxRecDepth 100000 in
set_option maxHeartbeats 4000000 in
theorem numtold_any {w : World} {v : Value} {z : Cx} {n : Nat} (h : IsNum z n v w) (hn : n ≤ 8192) :
  Calls Tryz.prog 85 #[v] w (RetE w (fun v _ => IsGauss z n v)) := by
 obtain ⟨_, _, rfl, pa, pb⟩ := h
 obtain ⟨a, rfl⟩ := pa.ptr
 obtain ⟨b, rfl⟩ := pb.ptr
 go_enter Tryz.func85, Tryz.ntmps85
 go_wp2_with fail
 have hbw : Below w.heap.size w ((w.alloc (Obj.cells #[ptr a, ptr b] 83)).alloc (Obj.cells #[.bool false, .string ⟨#[]⟩, .bool false, .string ⟨#[]⟩, .bool false, .string ⟨#[]⟩, .bool false, .string ⟨#[]⟩] 27)) := (((Below.refl _ _).alloc (Nat.le_refl _) _).alloc (by simp <;> omega) _)
 have k0 : Blk ((w.alloc (Obj.cells #[ptr a, ptr b] 83)).alloc (Obj.cells #[.bool false, .string ⟨#[]⟩, .bool false, .string ⟨#[]⟩, .bool false, .string ⟨#[]⟩, .bool false, .string ⟨#[]⟩] 27)) (w.heap.size) 83 #[ptr a, ptr b] := (((Blk.new w 83 #[ptr a, ptr b]).alloc (Obj.cells #[.bool false, .string ⟨#[]⟩, .bool false, .string ⟨#[]⟩, .bool false, .string ⟨#[]⟩, .bool false, .string ⟨#[]⟩] 27))).cast (by simp)
 have k1 : Blk ((w.alloc (Obj.cells #[ptr a, ptr b] 83)).alloc (Obj.cells #[.bool false, .string ⟨#[]⟩, .bool false, .string ⟨#[]⟩, .bool false, .string ⟨#[]⟩, .bool false, .string ⟨#[]⟩] 27)) (w.heap.size + 1) 27 #[.bool false, .string ⟨#[]⟩, .bool false, .string ⟨#[]⟩, .bool false, .string ⟨#[]⟩, .bool false, .string ⟨#[]⟩] := ((Blk.new (w.alloc (Obj.cells #[ptr a, ptr b] 83)) 27 #[.bool false, .string ⟨#[]⟩, .bool false, .string ⟨#[]⟩, .bool false, .string ⟨#[]⟩, .bool false, .string ⟨#[]⟩])).cast (by simp)
 generalize hW : ((w.alloc (Obj.cells #[ptr a, ptr b] 83)).alloc (Obj.cells #[.bool false, .string ⟨#[]⟩, .bool false, .string ⟨#[]⟩, .bool false, .string ⟨#[]⟩, .bool false, .string ⟨#[]⟩] 27)) = W at *
 clear hW
 have pa := pa.below hbw
 have pb := pb.below hbw
 refine (exfrac_any pa hn).mono ?_
 rintro _ w2 ⟨_, rfl, ⟨b0, s0, b1, s1, rfl, F1⟩, hb2⟩
 go_wp2_with (refine wpList_store_part (by rfl) 25 (.tmp 4) (.tmp 12) (by rfl) w2.heap.size 0 #[.bool b0, .string s0, .bool b1, .string s1] (by rfl) (by rfl) 25 #[.bool false, .string ⟨#[]⟩, .bool false, .string ⟨#[]⟩] #[.bool b0, .string s0, .bool b1, .string s1] (Blk.new w2 25 _) (by simp) (by rfl) (by kernel_rfl) (by simp [Value.oneCell']) ?_; intro w3 k3 hg3 hs3; have hb3 := hb2.trans ((below_new hg3).mono hb2.size); have d0 := (k0.below hb3 k0.lt).cell 1)
 refine (exfrac_any (pb.below hb3) hn).mono ?_
 rintro _ w4 ⟨_, rfl, ⟨b2, s2, b3, s3, rfl, F2⟩, hb4⟩
 clear d0
 go_wp2_with (first
  | (refine wpList_store_part (by rfl) 25 (.tmp 6) (.tmp 18) (by rfl) w4.heap.size 0 #[.bool b2, .string s2, .bool b3, .string s3] (by rfl) (by rfl) 25 #[.bool false, .string ⟨#[]⟩, .bool false, .string ⟨#[]⟩] #[.bool b2, .string s2, .bool b3, .string s3] (Blk.new w4 25 _) (by simp) (by rfl) (by kernel_rfl) (by simp [Value.oneCell']) ?_; intro w5 k5 hg5 hs5; have hb5 := hb4.trans ((below_new hg5).mono hb4.size); have k35 := k3.below hb5 k3.lt; have k15 := k1.below (hb3.trans (hb5.mono hb3.size)) k1.lt; have e0 := k35.cell 0; have e1 := k35.cell 1; have e2 := k35.cell 2; have e3 := k35.cell 3; have g0 := k5.cell 0; have g1 := k5.cell 1; have g2 := k5.cell 2; have g3 := k5.cell 3)
  | (refine wpList_store_part (by rfl) 27 (.tmp 2) (.tmp 29) (by rfl) (w.heap.size + 1) 0 #[.bool b0, .string s0, .bool b1, .string s1, .bool b2, .string s2, .bool b3, .string s3] (by rfl) (by rfl) 27 #[.bool false, .string ⟨#[]⟩, .bool false, .string ⟨#[]⟩, .bool false, .string ⟨#[]⟩, .bool false, .string ⟨#[]⟩] #[.bool b0, .string s0, .bool b1, .string s1, .bool b2, .string s2, .bool b3, .string s3] k15 (by simp) (by rfl) (by kernel_rfl) (by simp [Value.oneCell']) ?_; intro w9 k9 hg9 hs9))
 refine bodyPost_ret (results_row_tmp rfl _ _ _ _ _ (by rfl) k9 Tryz.underlying27 rfl (by kernel_rfl)) rfl ?_
 exact ⟨_, rfl, ⟨_, _, _, _, _, _, _, _, rfl, F1, F2⟩, own_set hbw (hb3.trans (hb5.mono hb3.size)) (by omega) hg9⟩
set_option maxRecDepth 100000 in
set_option maxHeartbeats 4000000 in
theorem fracint_any {w : World} {x : Int} (hx : x.natAbs < 2 ^ 8) : Calls Tryz.prog 78 #[.int .i64 x] w (Ret w (fun v _ => IsFrac (x : Rat) 8 v)) := by
 refine (fint_any hx).mono ?_
 rintro _ w' ⟨rfl, hb⟩
 have hs := Sz.int hx (by omega)
 have hl := hs.bytes (by omega)
 rw [Rat.num_intCast, Rat.den_intCast] at hl
 refine ⟨_, rfl, ⟨_, _, _, _, rfl, ?_⟩, hb⟩
 exact ⟨by rw [Rat.num_intCast]; exact Wv.of _, by rw [Rat.den_intCast]; exact Wv.of _, hs, by simpa [ByteArray.size] using hl.1, by simpa [ByteArray.size] using hl.2⟩
set_option maxRecDepth 100000 in
set_option maxHeartbeats 4000000 in
theorem gaussint_any {w : World} {re im : Int} (h1 : re.natAbs < 2 ^ 8) (h2 : im.natAbs < 2 ^ 8) :
  Calls Tryz.prog 38 #[.int .i64 re, .int .i64 im] w (Ret w (fun v _ => IsGauss ⟨(re : Rat), (im : Rat)⟩ 8 v)) := by
 go_enter Tryz.func38, Tryz.ntmps38
 go_wp2_with fail
 have hbw : Below w.heap.size w (w.alloc (Obj.cells #[.bool false, .string ⟨#[]⟩, .bool false, .string ⟨#[]⟩, .bool false, .string ⟨#[]⟩, .bool false, .string ⟨#[]⟩] 27)) := ((Below.refl _ _).alloc (Nat.le_refl _) _)
 have k0 : Blk (w.alloc (Obj.cells #[.bool false, .string ⟨#[]⟩, .bool false, .string ⟨#[]⟩, .bool false, .string ⟨#[]⟩, .bool false, .string ⟨#[]⟩] 27)) (w.heap.size) 27 #[.bool false, .string ⟨#[]⟩, .bool false, .string ⟨#[]⟩, .bool false, .string ⟨#[]⟩, .bool false, .string ⟨#[]⟩] := ((Blk.new w 27 #[.bool false, .string ⟨#[]⟩, .bool false, .string ⟨#[]⟩, .bool false, .string ⟨#[]⟩, .bool false, .string ⟨#[]⟩])).cast (by simp)
 generalize hW : (w.alloc (Obj.cells #[.bool false, .string ⟨#[]⟩, .bool false, .string ⟨#[]⟩, .bool false, .string ⟨#[]⟩, .bool false, .string ⟨#[]⟩] 27)) = W at *
 clear hW
 refine (fracint_any h1).mono ?_
 rintro _ w2 ⟨v2, rfl, ⟨b0, s0, b1, s1, rfl, F1⟩, hb2⟩
 go_wp2_with fail
 refine (fracint_any h2).mono ?_
 rintro _ w3 ⟨v3, rfl, ⟨b2, s2, b3, s3, rfl, F2⟩, hb3⟩
 have k3 := (k0.below hb2 k0.lt).below hb3 (k0.below hb2 k0.lt).lt
 go_wp2_with (refine wpList_store_part (by rfl) 27 (.tmp 4) (.tmp 9) (by rfl) w.heap.size 0 #[.bool b0, .string s0, .bool b1, .string s1, .bool b2, .string s2, .bool b3, .string s3] (by rfl) (by rfl) 27 #[.bool false, .string ⟨#[]⟩, .bool false, .string ⟨#[]⟩, .bool false, .string ⟨#[]⟩, .bool false, .string ⟨#[]⟩] #[.bool b0, .string s0, .bool b1, .string s1, .bool b2, .string s2, .bool b3, .string s3] k3 (by simp) (by rfl) (by kernel_rfl) (by simp [Value.oneCell']) ?_; intro w9 k9 hg9 hs9)
 refine bodyPost_ret (results_row1 rfl _ _ _ _ _ (by rfl) k9 Tryz.underlying27 rfl (by kernel_rfl)) rfl ?_
 exact ⟨_, rfl, ⟨_, _, _, _, _, _, _, _, rfl, F1, F2⟩, own_set hbw (hb2.trans (hb3.mono hb2.size)) (by omega) hg9⟩
end Go.Proofs.YtebpggfccljagaaGreat
namespace Go.Proofs.YtebpggfccljagaaGreat
open Go Go.RowKit
structure Stb (F : World → Prop) : Prop where
 below : ∀ {w w'}, F w → Below w.heap.size w w' → F w'
 far : ∀ {w w' r t cs}, F w → Blk w r t cs → t ≠ 115 → (∀ A n c, cs[1]? ≠ some (.slice A n c)) → w.grownBy w' (some r) → F w'
theorem Stb.true_ : Stb fun _ => True := ⟨fun _ _ => trivial, fun _ _ _ _ _ => trivial⟩
theorem Stb.and {F G : World → Prop} (hF : Stb F) (hG : Stb G) : Stb fun w => F w ∧ G w := ⟨fun h hb => ⟨hF.below h.1 hb, hG.below h.2 hb⟩, fun h a b c d => ⟨hF.far h.1 a b c d, hG.far h.2 a b c d⟩⟩
theorem Stb.rat (q : Rat) (n : Nat) (v : Value) : Stb (IsRat q n v) := ⟨fun h hb => h.below hb, fun h a b c d => h.far a b c d⟩
theorem Stb.num (q : Cx) (n : Nat) (v : Value) : Stb (IsNum q n v) := ⟨fun h hb => h.below hb, fun h a b c d => h.far a b c d⟩
def Own (t : TypeId) (cs : Array Value) : Prop := t ≠ 115 ∧ ∀ A n c, cs[1]? ≠ some (.slice A n c)
structure St (w0 W : World) (l : List (Nat × TypeId × Array Value)) (F : World → Prop) : Prop where
 bel : Below w0.heap.size w0 W
 blk : ∀ x ∈ l, Blk W x.1 x.2.1 x.2.2
 old : ∀ x ∈ l, w0.heap.size ≤ x.1
 ord : l.Pairwise fun x y => y.1 ≠ x.1
 fact : F W
 stb : Stb F
section
variable {w0 W W' : World} {l : List (Nat × TypeId × Array Value)} {F : World → Prop}
theorem St.get (h : St w0 W l F) (k : Nat) {g : Nat} {t : TypeId} {cs : Array Value} (hk : l[k]? = some (g, t, cs)) : Blk W g t cs := h.blk _ (List.mem_of_getElem? hk)
theorem St.start (w : World) : St w w [] fun _ => True := ⟨Below.refl _ _, by simp, by simp, List.Pairwise.nil, trivial, Stb.true_⟩
theorem St.call (h : St w0 W l F) (hb : Below W.heap.size W W') : St w0 W' l F :=
 ⟨h.bel.trans (hb.mono h.bel.size), fun x hx => (h.blk x hx).below hb (h.blk x hx).lt, h.old, h.ord, h.stb.below h.fact hb, h.stb⟩
theorem St.add (h : St w0 W l F) {G : World → Prop} (hg : Stb G) (hG : G W) : St w0 W l (fun w => G w ∧ F w) := ⟨h.bel, h.blk, h.old, h.ord, ⟨hG, h.fact⟩, hg.and h.stb⟩
theorem St.rest (h : St w0 W l F) {G : World → Prop} (hg : Stb G) (hG : G W) : St w0 W l G := ⟨h.bel, h.blk, h.old, h.ord, hG, hg⟩
theorem St.new (h : St w0 W l F) (t : TypeId) (cs : Array Value) : St w0 (W.alloc (.cells cs t)) ((W.heap.size, t, cs) :: l) F where
 bel := h.bel.alloc h.bel.size _
 blk := by
  intro x hx
  rcases List.mem_cons.1 hx with rfl | hx
  ·exact Blk.new W t cs
  ·exact (h.blk x hx).alloc _
 old := by
  intro x hx
  rcases List.mem_cons.1 hx with rfl | hx
  ·exact h.bel.size
  ·exact h.old x hx
 ord := List.Pairwise.cons (fun y hy => Nat.ne_of_lt (h.blk y hy).lt) h.ord
 fact := h.stb.below h.fact (new_below _ _)
 stb := h.stb
theorem pw_lt {l : List (Nat × TypeId × Array Value)} (h : l.Pairwise fun x y => y.1 ≠ x.1) {k : Nat} {x : Nat × TypeId × Array Value} (hk : l[k]? = some x) {y : Nat × TypeId × Array Value} {j : Nat} (hj : l[j]? = some y) (hne : j ≠ k) : y.1 ≠ x.1 := by
 obtain ⟨hk1, rfl⟩ := List.getElem?_eq_some_iff.1 hk
 obtain ⟨hj1, rfl⟩ := List.getElem?_eq_some_iff.1 hj
 rw [List.pairwise_iff_getElem] at h
 rcases Nat.lt_or_gt_of_ne hne with h1 | h1
 ·exact (h j k hj1 hk1 h1).symm
 ·exact h k j hk1 hj1 h1
theorem St.put (h : St w0 W l F) (k : Nat) {g : Nat} {t : TypeId} {cs cs' : Array Value} (hk : l[k]? = some (g, t, cs)) (ho : Own t cs) (hb : Blk W' g t cs') (hg : W.grownBy W' (some g)) : St w0 W' (l.set k (g, t, cs')) F where
 bel := h.bel.grown hg h.bel.size (fun r hr => by injection hr with hr; have := h.old _ (List.mem_of_getElem? hk); simp at this; omega)
 blk := by
  intro x hx
  obtain ⟨j, hj⟩ := List.mem_iff_getElem?.1 hx
  rw [List.getElem?_set] at hj
  split at hj
  ·split at hj
   ·injection hj with hj
    subst hj
    exact hb
   ·cases hj
  ·rename_i hne
   have hne' := pw_lt h.ord hk hj (fun e => hne e.symm)
   exact (h.blk x (List.mem_of_getElem? hj)).grown hg (by intro e; injection e with e; exact hne' e)
 old := by
  intro x hx
  rcases List.mem_or_eq_of_mem_set hx with hx | rfl
  ·exact h.old x hx
  ·exact (show w0.heap.size ≤ g from h.old (g, t, cs) (List.mem_of_getElem? hk))
 ord := by
  rw [List.pairwise_iff_getElem]
  intro i j hi hj hij
  have hh := h.ord
  rw [List.pairwise_iff_getElem] at hh
  have hlt := hh i j (by simpa using hi) (by simpa using hj) hij
  obtain ⟨hk1, hke⟩ := List.getElem?_eq_some_iff.1 hk
  have e1 : ∀ i (hi : i < (l.set k (g, t, cs')).length), ((l.set k (g, t, cs'))[i]).1 = (l[i]'(by simpa using hi)).1 := by
   intro i hi
   rw [List.getElem_set]
   split
   ·rename_i e
    subst e
    rw [hke]
   ·rfl
  rw [e1 i hi, e1 j hj]
  exact hlt
 fact := h.stb.far h.fact (h.get k hk) ho.1 ho.2 hg
 stb := h.stb
theorem St.more (h : St w0 W l F) {g : Nat} {t : TypeId} {cs : Array Value} (hg : Blk W g t cs) (ho : w0.heap.size ≤ g) (hn : ∀ x ∈ l, x.1 ≠ g) : St w0 W ((g, t, cs) :: l) F where
 bel := h.bel
 blk := by
  intro x hx
  rcases List.mem_cons.1 hx with rfl | hx
  ·exact hg
  ·exact h.blk x hx
 old := by
  intro x hx
  rcases List.mem_cons.1 hx with rfl | hx
  ·exact ho
  ·exact h.old x hx
 ord := List.Pairwise.cons hn h.ord
 fact := h.fact
 stb := h.stb
theorem St.lts (h : St w0 W l F) : ∀ x ∈ l, x.1 < W.heap.size := fun x hx => (h.blk x hx).lt
def NumZ (w : World) (g : Nat) : Prop := Blk w g 83 #[.pointer none, .pointer none]
theorem numZ_vgs : Vgs NumZ where
 lt := fun h => Blk.lt h
 below := fun h hb => Blk.below h hb (Blk.lt h)
 off := fun h hne hg => Blk.grown h hg (by intro e; injection e with e; exact hne e)
def IsBlk (t : TypeId) (cs : Array Value) : Value → World → Prop := fun v w => ∃ g, v = ptr g ∧ Blk w g t cs
theorem isBlk_steady (cs : Array Value) : Steady NumZ true (IsBlk 83 cs) where
 below := by
  rintro v w w' ⟨g, rfl, h⟩ hb
  exact ⟨g, rfl, h.below hb h.lt⟩
 off := by
  rintro v w w' r ⟨g, rfl, h⟩ hv hne hg
  exact ⟨g, rfl, h.grown hg (by intro e; injection e with e; exact hne rfl (by rw [e]))⟩
theorem wp_store_blk {P : Program} {o : Oper} {a : Act} {w : World} {K : Act → World → Prop} {Q : Exit → Act → World → Prop} (ty : TypeId) (x y : Operand) (hop : o.op = .store ty x y) {b : Nat} (cells : Array Value) (hx : a.eval x = .pointer (some ⟨b, 0, none⟩)) (hy : a.eval y = .agg cells) {t : TypeId} {cs : Array Value} (hb : Blk w b t cs)
  (hle : cells.size = cs.size) (hi : (P.info? ty).map (·.size) = some cells.size) (h1 : cells.all (·.oneCell') = true)
  (h : ∀ w', Blk w' b t cells → w.grownBy w' (some b) → K (a.put o.dst undef) w') : Oper.wp P o a w K Q := by
 refine wp_store_mid ty x y hop b 0 cells hx hy ?_ hi h1 (h _ ?_ (only_setCells (World.grownBy.refl w _) _ _))
 ·intro j hj
  refine ⟨?_, hb.frozen _⟩
  rw [hb.cell, Array.getElem?_eq_getElem (by omega)]
  rfl
 ·have := blk_setCells cells.toList 0 w cs hb (by simp [hle])
  have e : (List.take 0 cs.toList ++ cells.toList ++ List.drop (0 + cells.toList.length) cs.toList).toArray = cells := by
   rw [List.drop_of_length_le (by simp [hle])]
   simp
  rw [e] at this
  exact this
theorem run_index_row {P : Program} {w : World} (ty e : TypeId) (len : Nat) (cells cs' : Array Value) (k : Nat) (d : TypeDesc) (hu : P.underlying ty = some (.array len e)) (hk : k < len) (he : P.underlying e = some d) (hd : d.isRow = true)
  (hi : (P.info? e).map (·.size) = some cs'.size) (hcs : (cells.extract (k * cs'.size) (k * cs'.size + cs'.size)).toList = cs'.toList) : (Instr.index ty (.agg cells) (.int .i64 (k : Int))).run P w = .ok (.agg cs') w := by
 cases hq : P.info? e with
 | none => simp [hq] at hi
 | some i =>
  have hs : i.size = cs'.size := by simpa [hq] using hi
  have hagg : (isAgg e).run P w = .ok true w := by
   unfold isAgg
   rw [Sem.run_bind, run_underlying he w]
   cases d <;> simp_all
  have hu' := run_underlying hu w
  unfold Instr.index
  simp [asIntOf, Sem.run_bind, hu', hk, sizeOf, typeInfo, hq, hs, part, hagg]
  exact Array.toList_inj.1 hcs
theorem wpList_index_row {P : Program} {ops : Array Oper} {rest : List Oper} {op : Oper} {a : Act} {w : World} {Q : Exit → Act → World → Prop} (hgd : op.guard = none) (ty : TypeId) (x y : Operand) (ho : op.op = .index ty x y) (e : TypeId) (len : Nat)
  {cells : Array Value} (hx : a.eval x = .agg cells) (k : Nat) (hy : a.eval y = .int .i64 (k : Int)) (cs' : Array Value) (d : TypeDesc) (hu : P.underlying ty = some (.array len e)) (hk : k < len) (he : P.underlying e = some d) (hd : d.isRow = true)
  (hi : (P.info? e).map (·.size) = some cs'.size) (hcs : (cells.extract (k * cs'.size) (k * cs'.size + cs'.size)).toList = cs'.toList)
  (h : wpList P ops Q rest (a.put op.dst (.agg cs')) w) : wpList P ops Q (op :: rest) a w :=
 wpList_plain hgd fun _ hK => by
  unfold Oper.wp execOp
  simp only [ho, hx, hy, Sem.run_bind, run_index_row ty e len cells cs' k d hu hk he hd hi hcs, Result.andThen_ok, Sem.run_pure]
  exact hK _ _ h
theorem wpList_load_all {P : Program} {ops : Array Oper} {rest : List Oper} {op : Oper} {a : Act} {w : World} {Q : Exit → Act → World → Prop} (hgd : op.guard = none) (ty : TypeId) (x : Operand) (ho : op.op = .load ty x)
  {b : Nat} (hx : a.eval x = .pointer (some ⟨b, 0, none⟩)) {t : TypeId} {cs : Array Value} (d : TypeDesc) (hb : Blk w b t cs)
  (hu : P.underlying ty = some d) (hd : d.isRow = true) (hi : (P.info? ty).map (·.size) = some cs.size)
  (h : wpList P ops Q rest (a.put op.dst (.agg cs)) w) : wpList P ops Q (op :: rest) a w :=
 wpList_load_part hgd ty x ho b 0 hx t cs cs d hb (by simp) hu hd hi h
theorem wpList_store_all {P : Program} {ops : Array Oper} {rest : List Oper} {op : Oper} {a : Act} {w : World} {Q : Exit → Act → World → Prop} (hgd : op.guard = none) (ty : TypeId) (x y : Operand) (ho : op.op = .store ty x y)
  {b : Nat} (cells : Array Value) (hx : a.eval x = .pointer (some ⟨b, 0, none⟩)) (hy : a.eval y = .agg cells) {t : TypeId} {cs : Array Value} (hb : Blk w b t cs)
  (hle : cells.size = cs.size) (hi : (P.info? ty).map (·.size) = some cells.size) (h1 : cells.all (·.oneCell') = true)
  (h : ∀ w', Blk w' b t cells → w.grownBy w' (some b) → wpList P ops Q rest (a.put op.dst undef) w') : wpList P ops Q (op :: rest) a w :=
 wpList_store_part hgd ty x y ho b 0 cells hx hy t cs cells hb (by omega) (by simp [hle]) hi h1 fun w' h1 h2 _ => h w' h1 h2
end
end Go.Proofs.YtebpggfccljagaaGreat
namespace Go.Proofs.YtebpggfccljagaaGreat
open Go.RowKit
open Wh
set_option linter.unusedSimpArgs false
def IsMx (m : Mx) (n : Nat) : Value → World → Prop := fun v w => ∃ a b c d e f g h : Nat, v = .agg #[ptr a, ptr b, ptr c, ptr d, ptr e, ptr f, ptr g, ptr h, .bool m.turns] ∧
 IsRat m.a.re n (ptr a) w ∧ IsRat m.a.im n (ptr b) w ∧ IsRat m.b.re n (ptr c) w ∧ IsRat m.b.im n (ptr d) w ∧ IsRat m.c.re n (ptr e) w ∧ IsRat m.c.im n (ptr f) w ∧ IsRat m.d.re n (ptr g) w ∧ IsRat m.d.im n (ptr h) w
theorem IsMx.below {m : Mx} {n : Nat} {v : Value} {w w' : World} (h : IsMx m n v w) (hb : Below w.heap.size w w') : IsMx m n v w' := by
 obtain ⟨a, b, c, d, e, f, g, i, rfl, h1, h2, h3, h4, h5, h6, h7, h8⟩ := h
 exact ⟨a, b, c, d, e, f, g, i, rfl, h1.below hb, h2.below hb, h3.below hb, h4.below hb, h5.below hb, h6.below hb, h7.below hb, h8.below hb⟩
theorem IsMx.far {m : Mx} {n : Nat} {v : Value} {w w' : World} {r : Nat} {t : TypeId} {cs : Array Value} (h : IsMx m n v w) (hk : Blk w r t cs) (ht : t ≠ 115) (hn : ∀ A n c, cs[1]? ≠ some (.slice A n c)) (hg : w.grownBy w' (some r)) : IsMx m n v w' := by
 obtain ⟨a, b, c, d, e, f, g, i, rfl, h1, h2, h3, h4, h5, h6, h7, h8⟩ := h
 exact ⟨a, b, c, d, e, f, g, i, rfl, h1.far hk ht hn hg, h2.far hk ht hn hg, h3.far hk ht hn hg, h4.far hk ht hn hg, h5.far hk ht hn hg, h6.far hk ht hn hg, h7.far hk ht hn hg, h8.far hk ht hn hg⟩
theorem Stb.mx (q : Mx) (n : Nat) (v : Value) : Stb (IsMx q n v) := ⟨fun h hb => h.below hb, fun h a b c d => h.far a b c d⟩
set_option maxRecDepth 100000 in
set_option maxHeartbeats 4000000 in
theorem det_any {w : World} {v : Value} {m : Mx} {n : Nat} (h1 : IsMx m n v w) (hn : n ≤ 100000) :
  Calls Tryz.prog 57 #[v] w (Ret w (IsNum m.det (8 * n + 3))) := by
 obtain ⟨a, b, c, d, e, f, g, h, rfl, xa, xb, xc, xd, xe, xf, xg, xh⟩ := h1
 go_enter Tryz.func57, Tryz.ntmps57
 go_wp2_with fail
 have hbw : Below w.heap.size w ((w.alloc (Obj.cells #[ptr a, ptr b, ptr c, ptr d, ptr e, ptr f, ptr g, ptr h, .bool m.turns] 93)).alloc (Obj.cells #[.pointer none, .pointer none] 83)) := (((Below.refl _ _).alloc (Nat.le_refl _) _).alloc (by simp <;> omega) _)
 have k0 : Blk ((w.alloc (Obj.cells #[ptr a, ptr b, ptr c, ptr d, ptr e, ptr f, ptr g, ptr h, .bool m.turns] 93)).alloc (Obj.cells #[.pointer none, .pointer none] 83)) (w.heap.size) 93 #[ptr a, ptr b, ptr c, ptr d, ptr e, ptr f, ptr g, ptr h, .bool m.turns] := (((Blk.new w 93 #[ptr a, ptr b, ptr c, ptr d, ptr e, ptr f, ptr g, ptr h, .bool m.turns]).alloc (Obj.cells #[.pointer none, .pointer none] 83))).cast (by simp)
 have k1 : Blk ((w.alloc (Obj.cells #[ptr a, ptr b, ptr c, ptr d, ptr e, ptr f, ptr g, ptr h, .bool m.turns] 93)).alloc (Obj.cells #[.pointer none, .pointer none] 83)) (w.heap.size + 1) 83 #[.pointer none, .pointer none] := ((Blk.new (w.alloc (Obj.cells #[ptr a, ptr b, ptr c, ptr d, ptr e, ptr f, ptr g, ptr h, .bool m.turns] 93)) 83 #[.pointer none, .pointer none])).cast (by simp)
 generalize hW : ((w.alloc (Obj.cells #[ptr a, ptr b, ptr c, ptr d, ptr e, ptr f, ptr g, ptr h, .bool m.turns] 93)).alloc (Obj.cells #[.pointer none, .pointer none] 83)) = W at *
 clear hW
 have xa := xa.below hbw
 have xb := xb.below hbw
 have xc := xc.below hbw
 have xd := xd.below hbw
 have xe := xe.below hbw
 have xf := xf.below hbw
 have xg := xg.below hbw
 have xh := xh.below hbw
 refine wp_region_noPanic ?_
 refine wp_region_list (mk := ?mk) ratZ_vgs [Is (ptr w.heap.size), Is (.agg #[(ptr a), (ptr b)]), Is (.pointer (some ⟨w.heap.size, 6, none⟩)), Is (.agg #[(ptr g), (ptr h)]), IsNum (m.a.mul m.d) (4 * n + 1), Is (.pointer (some ⟨w.heap.size, 2, none⟩)), Is (.agg #[(ptr c), (ptr d)]), Is (.pointer (some ⟨w.heap.size, 4, none⟩)), Is (.agg #[(ptr e), (ptr f)]), IsNum (m.b.mul m.c) (4 * n + 1), IsNum ((m.a.mul m.d).sub (m.b.mul m.c)) (8 * n + 3)] [.plain, .plain, .plain, .plain, .plain, .plain, .plain, .plain, .plain, .plain, .plain] 11 1 (fun w' => Blk w' (w.heap.size) 93 #[ptr a, ptr b, ptr c, ptr d, ptr e, ptr f, ptr g, ptr h, .bool m.turns] ∧ IsRat m.a.re n (ptr a) w' ∧ IsRat m.a.im n (ptr b) w' ∧ IsRat m.b.re n (ptr c) w' ∧ IsRat m.b.im n (ptr d) w' ∧ IsRat m.c.re n (ptr e) w' ∧ IsRat m.c.im n (ptr f) w' ∧ IsRat m.d.re n (ptr g) w' ∧ IsRat m.d.im n (ptr h) w' ∧ True) ⟨is_steady _ _ _, is_steady _ _ _, is_steady _ _ _, is_steady _ _ _, isNum_steady _ _ _, is_steady _ _ _, is_steady _ _ _, is_steady _ _ _, is_steady _ _ _, isNum_steady _ _ _, isNum_steady _ _ _, trivial⟩ (by kernel_rfl) (by kernel_rfl) (by kernel_rfl) (by kernel_rfl) (by kernel_rfl) (by kernel_rfl) ?hmk (fun w' hB => ⟨k0.below hB k0.lt, xa.below hB, xb.below hB, xc.below hB, xd.below hB, xe.below hB, xf.below hB, xg.below hB, xh.below hB, trivial⟩)
  (steps_all (steps_cons ?_ (steps_cons ?_ (steps_cons ?_ (steps_cons ?_ (steps_cons ?_ (steps_cons ?_ (steps_cons ?_ (steps_cons ?_ (steps_cons ?_ (steps_cons ?_ (steps_cons ?_ steps_nil)))))))))))) ?_
 case hmk =>
  intro u
  simp only [mkFrom, mkL, dstOf, List.range, List.range.loop, Act.put, List.setIfInBounds_toArray, List.set_cons_zero, List.set_cons_succ, List.getElem?_toArray, List.getElem?_cons_zero, List.getElem?_cons_succ, Option.bind_some]
  rfl
 ·refine step_is (o := Oper.mk (some 3) _ _ _ _ _) rfl rfl rfl rfl (fun u ws hc hd => ?_)
  go_simp
 ·refine step_is (o := Oper.mk (some 4) _ _ _ _ _) rfl rfl rfl rfl (fun u ws hc hd => ?_)
  obtain ⟨k0, xa, xb, xc, xd, xe, xf, xg, xh, _⟩ := hc
  have d0 : u 0 = _ := hd 0 (by kernel_rfl) (by decide)
  exact run_load_part 83 (.tmp 3) rfl (w.heap.size) 0 d0 #[(ptr a), (ptr b)] _ k0 rfl Tryz.underlying83 rfl (by kernel_rfl)
 ·refine step_is (o := Oper.mk (some 5) _ _ _ _ _) rfl rfl rfl rfl (fun u ws hc hd => ?_)
  go_simp
 ·refine step_is (o := Oper.mk (some 6) _ _ _ _ _) rfl rfl rfl rfl (fun u ws hc hd => ?_)
  obtain ⟨k0, xa, xb, xc, xd, xe, xf, xg, xh, _⟩ := hc
  have d2 : u 2 = _ := hd 2 (by kernel_rfl) (by decide)
  exact run_load_part 83 (.tmp 5) rfl (w.heap.size) 6 d2 #[(ptr g), (ptr h)] _ k0 rfl Tryz.underlying83 rfl (by kernel_rfl)
 ·refine step_call (o := Oper.mk (some 7) _ _ _ _ _) rfl rfl rfl (fun u ws hc hd => ?_)
  obtain ⟨k0, xa, xb, xc, xd, xe, xf, xg, xh, _⟩ := hc
  have d1 : u 1 = _ := hd 1 (by kernel_rfl) (by decide)
  have d3 : u 3 = _ := hd 3 (by kernel_rfl) (by decide)
  have HC := Lib.hid (upN (m := (4 * n + 1)) (mul_any (⟨_, _, rfl, xa, xb⟩ : IsNum m.a n _ _) (⟨_, _, rfl, xg, xh⟩ : IsNum m.d n _ _) (by omega)) (by omega))
  refine ⟨82, #[(.agg #[(ptr a), (ptr b)]), (.agg #[(ptr g), (ptr h)])], ?_, HC.out⟩
  ·clear HC; go_simp
 ·refine step_is (o := Oper.mk (some 8) _ _ _ _ _) rfl rfl rfl rfl (fun u ws hc hd => ?_)
  go_simp
 ·refine step_is (o := Oper.mk (some 9) _ _ _ _ _) rfl rfl rfl rfl (fun u ws hc hd => ?_)
  obtain ⟨k0, xa, xb, xc, xd, xe, xf, xg, xh, _⟩ := hc
  have d5 : u 5 = _ := hd 5 (by kernel_rfl) (by decide)
  exact run_load_part 83 (.tmp 8) rfl (w.heap.size) 2 d5 #[(ptr c), (ptr d)] _ k0 rfl Tryz.underlying83 rfl (by kernel_rfl)
 ·refine step_is (o := Oper.mk (some 10) _ _ _ _ _) rfl rfl rfl rfl (fun u ws hc hd => ?_)
  go_simp
 ·refine step_is (o := Oper.mk (some 11) _ _ _ _ _) rfl rfl rfl rfl (fun u ws hc hd => ?_)
  obtain ⟨k0, xa, xb, xc, xd, xe, xf, xg, xh, _⟩ := hc
  have d7 : u 7 = _ := hd 7 (by kernel_rfl) (by decide)
  exact run_load_part 83 (.tmp 10) rfl (w.heap.size) 4 d7 #[(ptr e), (ptr f)] _ k0 rfl Tryz.underlying83 rfl (by kernel_rfl)
 ·refine step_call (o := Oper.mk (some 12) _ _ _ _ _) rfl rfl rfl (fun u ws hc hd => ?_)
  obtain ⟨k0, xa, xb, xc, xd, xe, xf, xg, xh, _⟩ := hc
  have d6 : u 6 = _ := hd 6 (by kernel_rfl) (by decide)
  have d8 : u 8 = _ := hd 8 (by kernel_rfl) (by decide)
  have HC := Lib.hid (upN (m := (4 * n + 1)) (mul_any (⟨_, _, rfl, xc, xd⟩ : IsNum m.b n _ _) (⟨_, _, rfl, xe, xf⟩ : IsNum m.c n _ _) (by omega)) (by omega))
  refine ⟨82, #[(.agg #[(ptr c), (ptr d)]), (.agg #[(ptr e), (ptr f)])], ?_, HC.out⟩
  ·clear HC; go_simp
 ·refine step_call (o := Oper.mk (some 13) _ _ _ _ _) rfl rfl rfl (fun u ws hc hd => ?_)
  obtain ⟨k0, xa, xb, xc, xd, xe, xf, xg, xh, _⟩ := hc
  have HC := Lib.hid (upN (m := (8 * n + 3)) (sub_any (hd 4 (by kernel_rfl) (by decide) : IsNum (m.a.mul m.d) (4 * n + 1) (u 4) ws) (hd 9 (by kernel_rfl) (by decide) : IsNum (m.b.mul m.c) (4 * n + 1) (u 9) ws) (by omega)) (by omega))
  refine ⟨68, #[u 4, u 9], ?_, HC.out⟩
  ·clear HC; go_simp
 ·intro u w1 hb1 hf hn1
  obtain ⟨_, _, e10, fa, fb⟩ : IsNum _ _ (u 10) w1 := hf 10 (by decide) (by decide)
  obtain ⟨ga, rfl⟩ := fa.ptr
  obtain ⟨gb, rfl⟩ := fb.ptr
  have kr := k1.below hb1 k1.lt
  clear hf hn1
  rw [e10]
  refine wpAny_store (j := 11) (o := Oper.mk none _ _ _ _ _) rfl (by kernel_rfl) rfl 83 (.tmp 2) (.tmp 13) rfl (w.heap.size + 1) 0 #[ptr ga, ptr gb] rfl rfl #[ptr ga, ptr gb] kr (by simp) rfl (by kernel_rfl) (by simp [Value.oneCell', ptr]) (fun w2 k9 hg9 hs9 => ?_)
  refine wpAny_end (by kernel_rfl) ?_
  refine NoPanic.normal ?_
  go_wp2_with fail
  refine bodyPost_ret (results_row1 rfl _ _ _ _ _ (by rfl) k9 Tryz.underlying83 rfl (by kernel_rfl)) rfl ?_
  exact ⟨_, rfl, ⟨_, _, rfl, fa.far kr (by decide) (by simp) hg9, fb.far kr (by decide) (by simp) hg9⟩, own_set hbw hb1 (by omega) hg9⟩
def IsPlace (o : Option Cx) (n : Nat) (v : Value) (w : World) : Prop := match o with
 | none => v = .agg #[.bool true, .pointer none, .pointer none]
 | some z => ∃ x y : Nat, v = .agg #[.bool false, ptr x, ptr y] ∧ IsRat z.re n (ptr x) w ∧ IsRat z.im n (ptr y) w
set_option maxRecDepth 100000 in
set_option maxHeartbeats 8000000 in
theorem send_false {w : World} {ma mb mc md z : Cx} {n a b c d e f g j x y : Nat} (xa : IsRat ma.re n (ptr a) w) (xb : IsRat ma.im n (ptr b) w) (xc : IsRat mb.re n (ptr c) w) (xd : IsRat mb.im n (ptr d) w) (xe : IsRat mc.re n (ptr e) w) (xf : IsRat mc.im n (ptr f) w) (xg : IsRat md.re n (ptr g) w) (xj : IsRat md.im n (ptr j) w) (px : IsRat z.re n (ptr x) w) (py : IsRat z.im n (ptr y) w) (hn : n ≤ 10000) :
  Calls Tryz.prog 42 #[.agg #[ptr a, ptr b, ptr c, ptr d, ptr e, ptr f, ptr g, ptr j, .bool false], .agg #[.bool false, ptr x, ptr y]] w (Ret w (IsPlace (Mx.send ⟨ma, mb, mc, md, false⟩ z) (64 * n + 26))) := by
 go_enter Tryz.func42, Tryz.ntmps42
 go_wp2_with fail
 have h := ((((St.start w).new 93 #[ptr a, ptr b, ptr c, ptr d, ptr e, ptr f, ptr g, ptr j, .bool false]).new 97 #[.bool false, ptr x, ptr y]).new 97 #[.bool false, .pointer none, .pointer none])
 simp only [size_alloc] at h
 have xa := xa.below h.bel
 have xb := xb.below h.bel
 have xc := xc.below h.bel
 have xd := xd.below h.bel
 have xe := xe.below h.bel
 have xf := xf.below h.bel
 have xg := xg.below h.bel
 have xj := xj.below h.bel
 have px := px.below h.bel
 have py := py.below h.bel
 have h := h.rest (G := fun w => IsRat ma.re n (ptr a) w ∧ IsRat ma.im n (ptr b) w ∧ IsRat mb.re n (ptr c) w ∧ IsRat mb.im n (ptr d) w ∧ IsRat mc.re n (ptr e) w ∧ IsRat mc.im n (ptr f) w ∧ IsRat md.re n (ptr g) w ∧ IsRat md.im n (ptr j) w ∧ IsRat z.re n (ptr x) w ∧ IsRat z.im n (ptr y) w) ((Stb.rat _ _ _).and ((Stb.rat _ _ _).and ((Stb.rat _ _ _).and ((Stb.rat _ _ _).and ((Stb.rat _ _ _).and ((Stb.rat _ _ _).and ((Stb.rat _ _ _).and ((Stb.rat _ _ _).and ((Stb.rat _ _ _).and (Stb.rat _ _ _)))))))))) ⟨xa, xb, xc, xd, xe, xf, xg, xj, px, py⟩
 generalize hW : (((w.alloc (Obj.cells #[ptr a, ptr b, ptr c, ptr d, ptr e, ptr f, ptr g, ptr j, .bool false] 93)).alloc (Obj.cells #[.bool false, ptr x, ptr y] 97)).alloc (Obj.cells #[.bool false, .pointer none, .pointer none] 97)) = W at h ⊢
 clear hW
 obtain ⟨xa, xb, xc, xd, xe, xf, xg, xj, px, py⟩ := h.fact
 have k2 := h.get 0 rfl
 have k1 := h.get 1 rfl
 have k0 := h.get 2 rfl
 refine wp_region_noPanic ?_
 refine wp_region_list2 (mk := ?mk) numZ_vgs [Is (ptr w.heap.size), Is (.agg #[(ptr a), (ptr b)]), Is (.pointer (some ⟨w.heap.size, 4, none⟩)), Is (.agg #[(ptr e), (ptr f)]), Is undef, Is undef, IsBlk 83 #[(ptr a), (ptr b)], IsBlk 83 #[(ptr e), (ptr f)]] [.plain, .plain, .plain, .plain, .fresh, .fresh, .fills 4, .fills 5] 8 0 (fun w' => Blk w' (w.heap.size) 93 #[ptr a, ptr b, ptr c, ptr d, ptr e, ptr f, ptr g, ptr j, .bool false] ∧ True) ⟨is_steady _ _ _, is_steady _ _ _, is_steady _ _ _, is_steady _ _ _, is_steady _ _ _, is_steady _ _ _, isBlk_steady _, isBlk_steady _, trivial⟩ (by kernel_rfl) (by kernel_rfl) (by kernel_rfl) (by kernel_rfl) (by kernel_rfl) (by kernel_rfl) ?hmk (fun w' hB => ⟨k0.below hB k0.lt, trivial⟩)
  (steps_all (steps_cons ?_ (steps_cons ?_ (steps_cons ?_ (steps_cons ?_ (steps_cons ?_ (steps_cons ?_ (steps_cons ?_ (steps_cons ?_ steps_nil))))))))) ?_
 case hmk =>
  intro u
  simp only [mkFrom, mkL, dstOf, List.range, List.range.loop, Act.put, List.setIfInBounds_toArray, List.set_cons_zero, List.set_cons_succ, List.getElem?_toArray, List.getElem?_cons_zero, List.getElem?_cons_succ, Option.bind_some]
  rfl
 ·refine step_is (o := Oper.mk (some 8) _ _ _ _ _) rfl rfl rfl rfl (fun u ws hc hd => ?_)
  go_simp
 ·refine step_is (o := Oper.mk (some 9) _ _ _ _ _) rfl rfl rfl rfl (fun u ws hc hd => ?_)
  obtain ⟨k0, _⟩ := hc
  have d0 : u 0 = _ := hd 0 (by kernel_rfl) (by decide)
  exact run_load_part 83 (.tmp 8) rfl (w.heap.size) 0 d0 #[(ptr a), (ptr b)] _ k0 rfl Tryz.underlying83 rfl (by kernel_rfl)
 ·refine step_is (o := Oper.mk (some 10) _ _ _ _ _) rfl rfl rfl rfl (fun u ws hc hd => ?_)
  go_simp
 ·refine step_is (o := Oper.mk (some 11) _ _ _ _ _) rfl rfl rfl rfl (fun u ws hc hd => ?_)
  obtain ⟨k0, _⟩ := hc
  have d2 : u 2 = _ := hd 2 (by kernel_rfl) (by decide)
  exact run_load_part 83 (.tmp 10) rfl (w.heap.size) 4 d2 #[(ptr e), (ptr f)] _ k0 rfl Tryz.underlying83 rfl (by kernel_rfl)
 ·refine step_new (o := Oper.mk (some 5) _ _ _ _ _) rfl rfl rfl (fun u ws hc => ⟨.cells #[.pointer none, .pointer none] 83, ?_, Blk.new ws 83 _⟩)
  go_simp
 ·refine step_new (o := Oper.mk (some 6) _ _ _ _ _) rfl rfl rfl (fun u ws hc => ⟨.cells #[.pointer none, .pointer none] 83, ?_, Blk.new ws 83 _⟩)
  go_simp
 ·refine step_store (a := 4) (o := Oper.mk none _ _ _ _ _) rfl rfl rfl rfl (fun u ws g1 hc hd h0 hlo hv K hK => ?_)
  have d1 : u 1 = _ := hd 1 (by kernel_rfl) (by decide)
  refine wp_store_blk 83 (.tmp 5) (.tmp 9) rfl #[(ptr a), (ptr b)] h0 d1 hv (by simp) (by kernel_rfl) (by simp [Value.oneCell', ptr]) (fun w9 k9 hg9 => ?_)
  exact hK w9 ⟨g1, rfl, k9⟩ hg9
 ·refine step_store (a := 5) (o := Oper.mk none _ _ _ _ _) rfl rfl rfl rfl (fun u ws g1 hc hd h0 hlo hv K hK => ?_)
  have d3 : u 3 = _ := hd 3 (by kernel_rfl) (by decide)
  refine wp_store_blk 83 (.tmp 6) (.tmp 11) rfl #[(ptr e), (ptr f)] h0 d3 hv (by simp) (by kernel_rfl) (by simp [Value.oneCell', ptr]) (fun w9 k9 hg9 => ?_)
  exact hK w9 ⟨g1, rfl, k9⟩ hg9
 ·intro u w1 hb1 hf hn1 hap hfl hlo
  have f1 : u 1 = _ := hf 1 (by decide) (by decide)
  have f3 : u 3 = _ := hf 3 (by decide) (by decide)
  obtain ⟨g5, e5, k5⟩ : IsBlk _ _ (u 6) w1 := hf 6 (by decide) (by decide)
  obtain ⟨g6, e6, k6⟩ : IsBlk _ _ (u 7) w1 := hf 7 (by decide) (by decide)
  have n5 := hfl 6 (by decide) 4 rfl
  have n6 := hfl 7 (by decide) 5 rfl
  rw [e5] at n5
  rw [e6] at n6
  have hne : g5 ≠ g6 := fun e => hap 4 (by decide) 5 (by decide) (by decide) (by decide) (by decide) (by rw [← n5, ← n6, e])
  obtain ⟨l5, l6⟩ := (And.intro (hlo 4 (by decide) (by decide) g5 n5.symm) (hlo 5 (by decide) (by decide) g6 n6.symm))
  have hlt := h.lts
  have hle := h.bel.size
  have h := (h.call hb1).more k5 (Nat.le_trans hle l5) (fun x hx => by have := hlt x hx; omega)
  have h := h.more k6 (Nat.le_trans hle l6) (fun x hx => by rcases List.mem_cons.1 hx with rfl | hx; exact hne; have := hlt x hx; omega)
  rw [f1, f3, ← n5, ← n6]
  clear hf hn1 hap hfl hlo hlt hle k5 k6 k0 k1 k2 hb1 f1 f3 e5 e6 n5 n6
  refine wpAny_end (by kernel_rfl) ?_
  refine NoPanic.normal ?_
  have c0 := (h.get 3 rfl).cell 0
  have c1 := (h.get 3 rfl).cell 1
  have c2 := (h.get 3 rfl).cell 2
  go_wp2_with (have h := h.new 83 #[.pointer none, .pointer none]; refine wpList_store_all (by rfl) 83 (.tmp 7) (.tmp 16) (by rfl) #[ptr x, ptr y] (by rfl) (by rfl) (h.get 0 rfl) (by simp) (by kernel_rfl) (by simp [Value.oneCell', ptr]) ?_; intro w9 k9 hg9; have h := h.put 0 rfl ⟨by decide, by simp⟩ k9 hg9; try clear k9 hg9; have c8 := (h.get 5 rfl).cell 8; have d0 := (h.get 0 rfl).cell 0; have d1 := (h.get 0 rfl).cell 1)
  obtain ⟨xa, xb, xc, xd, xe, xf, xg, xj, px, py⟩ := h.fact
  have k0 := h.get 5 rfl
  have k7 := h.get 0 rfl
  generalize hg7 : w1.heap.size = g7 at *
  refine wp_region_noPanic ?_
  refine wp_region_list (mk := ?mk2) ratZ_vgs [Is (ptr w.heap.size), Is (.agg #[(ptr a), (ptr b)]), Is (.agg #[(ptr x), (ptr y)]), IsNum (ma.mul z) (4 * n + 1), Is (.pointer (some ⟨w.heap.size, 2, none⟩)), Is (.agg #[(ptr c), (ptr d)]), IsNum ((ma.mul z).add mb) (8 * n + 3), Is (.pointer (some ⟨w.heap.size, 4, none⟩)), Is (.agg #[(ptr e), (ptr f)]), Is (.agg #[(ptr x), (ptr y)]), IsNum (mc.mul z) (4 * n + 1), Is (.pointer (some ⟨w.heap.size, 6, none⟩)), Is (.agg #[(ptr g), (ptr j)]), IsNum ((mc.mul z).add md) (8 * n + 3)] [.plain, .plain, .plain, .plain, .plain, .plain, .plain, .plain, .plain, .plain, .plain, .plain, .plain, .plain] 14 2 (fun w' => Blk w' (w.heap.size) 93 #[ptr a, ptr b, ptr c, ptr d, ptr e, ptr f, ptr g, ptr j, .bool false] ∧ Blk w' (g7) 83 #[ptr x, ptr y] ∧ IsRat ma.re n (ptr a) w' ∧ IsRat ma.im n (ptr b) w' ∧ IsRat mb.re n (ptr c) w' ∧ IsRat mb.im n (ptr d) w' ∧ IsRat mc.re n (ptr e) w' ∧ IsRat mc.im n (ptr f) w' ∧ IsRat md.re n (ptr g) w' ∧ IsRat md.im n (ptr j) w' ∧ IsRat z.re n (ptr x) w' ∧ IsRat z.im n (ptr y) w' ∧ True) ⟨is_steady _ _ _, is_steady _ _ _, is_steady _ _ _, isNum_steady _ _ _, is_steady _ _ _, is_steady _ _ _, isNum_steady _ _ _, is_steady _ _ _, is_steady _ _ _, is_steady _ _ _, isNum_steady _ _ _, is_steady _ _ _, is_steady _ _ _, isNum_steady _ _ _, trivial⟩ (by kernel_rfl) (by kernel_rfl) (by kernel_rfl) (by kernel_rfl) (by kernel_rfl) (by kernel_rfl) ?hmk2 (fun w' hB => ⟨k0.below hB k0.lt, k7.below hB k7.lt, xa.below hB, xb.below hB, xc.below hB, xd.below hB, xe.below hB, xf.below hB, xg.below hB, xj.below hB, px.below hB, py.below hB, trivial⟩)
   (steps_all (steps_cons ?_ (steps_cons ?_ (steps_cons ?_ (steps_cons ?_ (steps_cons ?_ (steps_cons ?_ (steps_cons ?_ (steps_cons ?_ (steps_cons ?_ (steps_cons ?_ (steps_cons ?_ (steps_cons ?_ (steps_cons ?_ (steps_cons ?_ steps_nil))))))))))))))) ?_
  case hmk2 =>
   intro u
   simp only [mkFrom, mkL, dstOf, List.range, List.range.loop, Act.put, List.setIfInBounds_toArray, List.set_cons_zero, List.set_cons_succ, List.getElem?_toArray, List.getElem?_cons_zero, List.getElem?_cons_succ, Option.bind_some]
   rfl
  ·refine step_is (o := Oper.mk (some 21) _ _ _ _ _) rfl rfl rfl rfl (fun u ws hc hd => ?_)
   go_simp
  ·refine step_is (o := Oper.mk (some 22) _ _ _ _ _) rfl rfl rfl rfl (fun u ws hc hd => ?_)
   obtain ⟨k0, k7, xa, xb, xc, xd, xe, xf, xg, xj, px, py, _⟩ := hc
   have d0 : u 0 = _ := hd 0 (by kernel_rfl) (by decide)
   exact run_load_part 83 (.tmp 21) rfl (w.heap.size) 0 d0 #[(ptr a), (ptr b)] _ k0 rfl Tryz.underlying83 rfl (by kernel_rfl)
  ·refine step_is (o := Oper.mk (some 23) _ _ _ _ _) rfl rfl rfl rfl (fun u ws hc hd => ?_)
   obtain ⟨k0, k7, xa, xb, xc, xd, xe, xf, xg, xj, px, py, _⟩ := hc
   exact run_load_part 83 (.tmp 7) rfl (g7) 0 rfl #[(ptr x), (ptr y)] _ k7 rfl Tryz.underlying83 rfl (by kernel_rfl)
  ·refine step_call (o := Oper.mk (some 24) _ _ _ _ _) rfl rfl rfl (fun u ws hc hd => ?_)
   obtain ⟨k0, k7, xa, xb, xc, xd, xe, xf, xg, xj, px, py, _⟩ := hc
   have d1 : u 1 = _ := hd 1 (by kernel_rfl) (by decide)
   have d2 : u 2 = _ := hd 2 (by kernel_rfl) (by decide)
   have HC := Lib.hid (upN (m := (4 * n + 1)) (mul_any (⟨_, _, rfl, xa, xb⟩ : IsNum ma n _ _) (⟨_, _, rfl, px, py⟩ : IsNum z n _ _) (by omega)) (by omega))
   refine ⟨82, #[(.agg #[(ptr a), (ptr b)]), (.agg #[(ptr x), (ptr y)])], ?_, HC.out⟩
   ·clear HC; go_simp
  ·refine step_is (o := Oper.mk (some 25) _ _ _ _ _) rfl rfl rfl rfl (fun u ws hc hd => ?_)
   go_simp
  ·refine step_is (o := Oper.mk (some 26) _ _ _ _ _) rfl rfl rfl rfl (fun u ws hc hd => ?_)
   obtain ⟨k0, k7, xa, xb, xc, xd, xe, xf, xg, xj, px, py, _⟩ := hc
   have d4 : u 4 = _ := hd 4 (by kernel_rfl) (by decide)
   exact run_load_part 83 (.tmp 25) rfl (w.heap.size) 2 d4 #[(ptr c), (ptr d)] _ k0 rfl Tryz.underlying83 rfl (by kernel_rfl)
  ·refine step_call (o := Oper.mk (some 27) _ _ _ _ _) rfl rfl rfl (fun u ws hc hd => ?_)
   obtain ⟨k0, k7, xa, xb, xc, xd, xe, xf, xg, xj, px, py, _⟩ := hc
   have d5 : u 5 = _ := hd 5 (by kernel_rfl) (by decide)
   have HC := Lib.hid (upN (m := (8 * n + 3)) (add_any (hd 3 (by kernel_rfl) (by decide) : IsNum (ma.mul z) (4 * n + 1) (u 3) ws) (IsNum.up (⟨_, _, rfl, xc, xd⟩ : IsNum mb n _ _) (by omega)) (by omega)) (by omega))
   refine ⟨83, #[u 3, (.agg #[(ptr c), (ptr d)])], ?_, HC.out⟩
   ·clear HC; go_simp
  ·refine step_is (o := Oper.mk (some 28) _ _ _ _ _) rfl rfl rfl rfl (fun u ws hc hd => ?_)
   go_simp
  ·refine step_is (o := Oper.mk (some 29) _ _ _ _ _) rfl rfl rfl rfl (fun u ws hc hd => ?_)
   obtain ⟨k0, k7, xa, xb, xc, xd, xe, xf, xg, xj, px, py, _⟩ := hc
   have d7 : u 7 = _ := hd 7 (by kernel_rfl) (by decide)
   exact run_load_part 83 (.tmp 28) rfl (w.heap.size) 4 d7 #[(ptr e), (ptr f)] _ k0 rfl Tryz.underlying83 rfl (by kernel_rfl)
  ·refine step_is (o := Oper.mk (some 30) _ _ _ _ _) rfl rfl rfl rfl (fun u ws hc hd => ?_)
   obtain ⟨k0, k7, xa, xb, xc, xd, xe, xf, xg, xj, px, py, _⟩ := hc
   exact run_load_part 83 (.tmp 7) rfl (g7) 0 rfl #[(ptr x), (ptr y)] _ k7 rfl Tryz.underlying83 rfl (by kernel_rfl)
  ·refine step_call (o := Oper.mk (some 31) _ _ _ _ _) rfl rfl rfl (fun u ws hc hd => ?_)
   obtain ⟨k0, k7, xa, xb, xc, xd, xe, xf, xg, xj, px, py, _⟩ := hc
   have d8 : u 8 = _ := hd 8 (by kernel_rfl) (by decide)
   have d9 : u 9 = _ := hd 9 (by kernel_rfl) (by decide)
   have HC := Lib.hid (upN (m := (4 * n + 1)) (mul_any (⟨_, _, rfl, xe, xf⟩ : IsNum mc n _ _) (⟨_, _, rfl, px, py⟩ : IsNum z n _ _) (by omega)) (by omega))
   refine ⟨82, #[(.agg #[(ptr e), (ptr f)]), (.agg #[(ptr x), (ptr y)])], ?_, HC.out⟩
   ·clear HC; go_simp
  ·refine step_is (o := Oper.mk (some 32) _ _ _ _ _) rfl rfl rfl rfl (fun u ws hc hd => ?_)
   go_simp
  ·refine step_is (o := Oper.mk (some 33) _ _ _ _ _) rfl rfl rfl rfl (fun u ws hc hd => ?_)
   obtain ⟨k0, k7, xa, xb, xc, xd, xe, xf, xg, xj, px, py, _⟩ := hc
   have d11 : u 11 = _ := hd 11 (by kernel_rfl) (by decide)
   exact run_load_part 83 (.tmp 32) rfl (w.heap.size) 6 d11 #[(ptr g), (ptr j)] _ k0 rfl Tryz.underlying83 rfl (by kernel_rfl)
  ·refine step_call (o := Oper.mk (some 34) _ _ _ _ _) rfl rfl rfl (fun u ws hc hd => ?_)
   obtain ⟨k0, k7, xa, xb, xc, xd, xe, xf, xg, xj, px, py, _⟩ := hc
   have d12 : u 12 = _ := hd 12 (by kernel_rfl) (by decide)
   have HC := Lib.hid (upN (m := (8 * n + 3)) (add_any (hd 10 (by kernel_rfl) (by decide) : IsNum (mc.mul z) (4 * n + 1) (u 10) ws) (IsNum.up (⟨_, _, rfl, xg, xj⟩ : IsNum md n _ _) (by omega)) (by omega)) (by omega))
   refine ⟨83, #[u 10, (.agg #[(ptr g), (ptr j)])], ?_, HC.out⟩
   ·clear HC; go_simp
  ·intro u w6 hb6 hf hn1
   obtain ⟨_, _, e6, fa, fb⟩ : IsNum _ _ (u 6) w6 := hf 6 (by decide) (by decide)
   obtain ⟨_, _, e13, fc, fd⟩ : IsNum _ _ (u 13) w6 := hf 13 (by decide) (by decide)
   obtain ⟨p, rfl⟩ := fa.ptr
   obtain ⟨q, rfl⟩ := fb.ptr
   obtain ⟨r, rfl⟩ := fc.ptr
   obtain ⟨s, rfl⟩ := fd.ptr
   have h := (h.call hb6).rest (G := fun w => IsNum ((ma.mul z).add mb) (8 * n + 3) (.agg #[ptr p, ptr q]) w ∧ IsNum ((mc.mul z).add md) (8 * n + 3) (.agg #[ptr r, ptr s]) w) ((Stb.num _ _ _).and (Stb.num _ _ _)) ⟨⟨_, _, rfl, fa, fb⟩, ⟨_, _, rfl, fc, fd⟩⟩
   rw [e6, e13]
   clear hf hn1 e6 e13 fa fb fc fd k0 k7 xa xb xc xd xe xf xg xj px py
   refine wpAny_store (j := 14) (o := Oper.mk none _ _ _ _ _) rfl (by kernel_rfl) rfl 83 (.tmp 5) (.tmp 27) rfl g5 0 #[ptr p, ptr q] rfl rfl #[ptr p, ptr q] (h.get 2 rfl) (by simp) rfl (by kernel_rfl) (by simp [Value.oneCell', ptr]) (fun w7 k9 hg9 hs9 => ?_)
   have h := h.put 2 rfl ⟨by decide, by simp⟩ k9 hg9
   clear k9 hg9 hs9
   refine wpAny_store (j := 15) (o := Oper.mk none _ _ _ _ _) rfl (by kernel_rfl) rfl 83 (.tmp 6) (.tmp 34) rfl g6 0 #[ptr r, ptr s] rfl rfl #[ptr r, ptr s] (h.get 1 rfl) (by simp) rfl (by kernel_rfl) (by simp [Value.oneCell', ptr]) (fun w8 k9 hg9 hs9 => ?_)
   have h := h.put 1 rfl ⟨by decide, by simp⟩ k9 hg9
   clear k9 hg9 hs9
   refine wpAny_end (by kernel_rfl) ?_
   refine NoPanic.normal ?_
   have d0 := (h.get 1 rfl).cell 0
   have d1 := (h.get 1 rfl).cell 1
   obtain ⟨fu, fl⟩ := h.fact
   have HZ := Lib.hid (zero_any fl)
   by_cases hz : (((mc.mul z).add md)).Zero
   ·rw [decide_eq_true hz] at HZ
    have Hs : Hid (Mx.send ⟨ma, mb, mc, md, false⟩ z = none) := Lib.hid (if_pos hz)
    clear hz fu fl
    go_wp2_with (first | (go_at_call 58; refine HZ.out.mono ?_; rintro _ w10 ⟨v10, rfl, hv10, hb10⟩; subst hv10; have h := h.call hb10) | (refine wpList_store_all (by rfl) 97 (.tmp 4) (.tmp 37) (by rfl) #[.bool true, .pointer none, .pointer none] (by rfl) (by rfl) (h.get 3 rfl) (by simp) (by kernel_rfl) (by simp [Value.oneCell', ptr]) ?_; intro w9 k9 hg9; have h := h.put 3 rfl ⟨by decide, by simp⟩ k9 hg9; try clear k9 hg9))
    refine bodyPost_ret (results_row1 rfl _ _ _ _ _ (by rfl) (h.get 3 rfl) Tryz.underlying97 rfl (by kernel_rfl)) rfl ?_
    rw [Hs.out]
    exact ⟨_, rfl, rfl, h.bel⟩
   ·have hz' := hz
    rw [decide_eq_false hz] at HZ
    have Hs : Hid (Mx.send ⟨ma, mb, mc, md, false⟩ z = some (((ma.mul z).add mb).div ((mc.mul z).add md))) := Lib.hid (if_neg hz)
    have Hz := Lib.hid hz
    clear hz hz' fu fl
    go_wp2_with (first | (go_at_call 58; refine HZ.out.mono ?_; rintro _ w10 ⟨v10, rfl, hv10, hb10⟩; subst hv10; have h := h.call hb10; have d0 := (h.get 1 rfl).cell 0; have d1 := (h.get 1 rfl).cell 1; have d2 := (h.get 2 rfl).cell 0; have d3 := (h.get 2 rfl).cell 1) | (go_at_call 84; refine (div_any h.fact.1 h.fact.2 Hz.out (by omega)).mono ?_; rintro _ w11 ⟨_, rfl, ⟨_, _, rfl, qx, qy⟩, hb11⟩; obtain ⟨x11, rfl⟩ := qx.ptr; obtain ⟨y11, rfl⟩ := qy.ptr; have h := (h.call hb11).rest (G := fun w => IsRat _ _ (ptr x11) w ∧ IsRat _ _ (ptr y11) w) ((Stb.rat _ _ _).and (Stb.rat _ _ _)) ⟨qx, qy⟩) | (refine wpList_store_all (by rfl) 97 (.tmp 4) (.tmp 41) (by rfl) #[.bool false, ptr x11, ptr y11] (by rfl) (by rfl) (h.get 3 rfl) (by simp) (by kernel_rfl) (by simp [Value.oneCell', ptr]) ?_; intro w9 k9 hg9; have h := h.put 3 rfl ⟨by decide, by simp⟩ k9 hg9; try clear k9 hg9))
    refine bodyPost_ret (results_row1 rfl _ _ _ _ _ (by rfl) (h.get 3 rfl) Tryz.underlying97 rfl (by kernel_rfl)) rfl ?_
    rw [Hs.out]
    exact ⟨_, rfl, ⟨_, _, rfl, h.fact.1.up (by omega), h.fact.2.up (by omega)⟩, h.bel⟩
set_option maxRecDepth 100000 in
set_option maxHeartbeats 8000000 in
theorem send_true {w : World} {ma mb mc md z : Cx} {n a b c d e f g j x y : Nat} (xa : IsRat ma.re n (ptr a) w) (xb : IsRat ma.im n (ptr b) w) (xc : IsRat mb.re n (ptr c) w) (xd : IsRat mb.im n (ptr d) w) (xe : IsRat mc.re n (ptr e) w) (xf : IsRat mc.im n (ptr f) w) (xg : IsRat md.re n (ptr g) w) (xj : IsRat md.im n (ptr j) w) (px : IsRat z.re n (ptr x) w) (py : IsRat z.im n (ptr y) w) (hn : n ≤ 10000) :
  Calls Tryz.prog 42 #[.agg #[ptr a, ptr b, ptr c, ptr d, ptr e, ptr f, ptr g, ptr j, .bool true], .agg #[.bool false, ptr x, ptr y]] w (Ret w (IsPlace (Mx.send ⟨ma, mb, mc, md, true⟩ z) (64 * n + 26))) := by
 go_enter Tryz.func42, Tryz.ntmps42
 go_wp2_with fail
 have h := ((((St.start w).new 93 #[ptr a, ptr b, ptr c, ptr d, ptr e, ptr f, ptr g, ptr j, .bool true]).new 97 #[.bool false, ptr x, ptr y]).new 97 #[.bool false, .pointer none, .pointer none])
 simp only [size_alloc] at h
 have xa := xa.below h.bel
 have xb := xb.below h.bel
 have xc := xc.below h.bel
 have xd := xd.below h.bel
 have xe := xe.below h.bel
 have xf := xf.below h.bel
 have xg := xg.below h.bel
 have xj := xj.below h.bel
 have px := px.below h.bel
 have py := py.below h.bel
 have h := h.rest (G := fun w => IsRat ma.re n (ptr a) w ∧ IsRat ma.im n (ptr b) w ∧ IsRat mb.re n (ptr c) w ∧ IsRat mb.im n (ptr d) w ∧ IsRat mc.re n (ptr e) w ∧ IsRat mc.im n (ptr f) w ∧ IsRat md.re n (ptr g) w ∧ IsRat md.im n (ptr j) w ∧ IsRat z.re n (ptr x) w ∧ IsRat z.im n (ptr y) w) ((Stb.rat _ _ _).and ((Stb.rat _ _ _).and ((Stb.rat _ _ _).and ((Stb.rat _ _ _).and ((Stb.rat _ _ _).and ((Stb.rat _ _ _).and ((Stb.rat _ _ _).and ((Stb.rat _ _ _).and ((Stb.rat _ _ _).and (Stb.rat _ _ _)))))))))) ⟨xa, xb, xc, xd, xe, xf, xg, xj, px, py⟩
 generalize hW : (((w.alloc (Obj.cells #[ptr a, ptr b, ptr c, ptr d, ptr e, ptr f, ptr g, ptr j, .bool true] 93)).alloc (Obj.cells #[.bool false, ptr x, ptr y] 97)).alloc (Obj.cells #[.bool false, .pointer none, .pointer none] 97)) = W at h ⊢
 clear hW
 obtain ⟨xa, xb, xc, xd, xe, xf, xg, xj, px, py⟩ := h.fact
 have k2 := h.get 0 rfl
 have k1 := h.get 1 rfl
 have k0 := h.get 2 rfl
 refine wp_region_noPanic ?_
 refine wp_region_list2 (mk := ?mk) numZ_vgs [Is (ptr w.heap.size), Is (.agg #[(ptr a), (ptr b)]), Is (.pointer (some ⟨w.heap.size, 4, none⟩)), Is (.agg #[(ptr e), (ptr f)]), Is undef, Is undef, IsBlk 83 #[(ptr a), (ptr b)], IsBlk 83 #[(ptr e), (ptr f)]] [.plain, .plain, .plain, .plain, .fresh, .fresh, .fills 4, .fills 5] 8 0 (fun w' => Blk w' (w.heap.size) 93 #[ptr a, ptr b, ptr c, ptr d, ptr e, ptr f, ptr g, ptr j, .bool true] ∧ True) ⟨is_steady _ _ _, is_steady _ _ _, is_steady _ _ _, is_steady _ _ _, is_steady _ _ _, is_steady _ _ _, isBlk_steady _, isBlk_steady _, trivial⟩ (by kernel_rfl) (by kernel_rfl) (by kernel_rfl) (by kernel_rfl) (by kernel_rfl) (by kernel_rfl) ?hmk (fun w' hB => ⟨k0.below hB k0.lt, trivial⟩)
  (steps_all (steps_cons ?_ (steps_cons ?_ (steps_cons ?_ (steps_cons ?_ (steps_cons ?_ (steps_cons ?_ (steps_cons ?_ (steps_cons ?_ steps_nil))))))))) ?_
 case hmk =>
  intro u
  simp only [mkFrom, mkL, dstOf, List.range, List.range.loop, Act.put, List.setIfInBounds_toArray, List.set_cons_zero, List.set_cons_succ, List.getElem?_toArray, List.getElem?_cons_zero, List.getElem?_cons_succ, Option.bind_some]
  rfl
 ·refine step_is (o := Oper.mk (some 8) _ _ _ _ _) rfl rfl rfl rfl (fun u ws hc hd => ?_)
  go_simp
 ·refine step_is (o := Oper.mk (some 9) _ _ _ _ _) rfl rfl rfl rfl (fun u ws hc hd => ?_)
  obtain ⟨k0, _⟩ := hc
  have d0 : u 0 = _ := hd 0 (by kernel_rfl) (by decide)
  exact run_load_part 83 (.tmp 8) rfl (w.heap.size) 0 d0 #[(ptr a), (ptr b)] _ k0 rfl Tryz.underlying83 rfl (by kernel_rfl)
 ·refine step_is (o := Oper.mk (some 10) _ _ _ _ _) rfl rfl rfl rfl (fun u ws hc hd => ?_)
  go_simp
 ·refine step_is (o := Oper.mk (some 11) _ _ _ _ _) rfl rfl rfl rfl (fun u ws hc hd => ?_)
  obtain ⟨k0, _⟩ := hc
  have d2 : u 2 = _ := hd 2 (by kernel_rfl) (by decide)
  exact run_load_part 83 (.tmp 10) rfl (w.heap.size) 4 d2 #[(ptr e), (ptr f)] _ k0 rfl Tryz.underlying83 rfl (by kernel_rfl)
 ·refine step_new (o := Oper.mk (some 5) _ _ _ _ _) rfl rfl rfl (fun u ws hc => ⟨.cells #[.pointer none, .pointer none] 83, ?_, Blk.new ws 83 _⟩)
  go_simp
 ·refine step_new (o := Oper.mk (some 6) _ _ _ _ _) rfl rfl rfl (fun u ws hc => ⟨.cells #[.pointer none, .pointer none] 83, ?_, Blk.new ws 83 _⟩)
  go_simp
 ·refine step_store (a := 4) (o := Oper.mk none _ _ _ _ _) rfl rfl rfl rfl (fun u ws g1 hc hd h0 hlo hv K hK => ?_)
  have d1 : u 1 = _ := hd 1 (by kernel_rfl) (by decide)
  refine wp_store_blk 83 (.tmp 5) (.tmp 9) rfl #[(ptr a), (ptr b)] h0 d1 hv (by simp) (by kernel_rfl) (by simp [Value.oneCell', ptr]) (fun w9 k9 hg9 => ?_)
  exact hK w9 ⟨g1, rfl, k9⟩ hg9
 ·refine step_store (a := 5) (o := Oper.mk none _ _ _ _ _) rfl rfl rfl rfl (fun u ws g1 hc hd h0 hlo hv K hK => ?_)
  have d3 : u 3 = _ := hd 3 (by kernel_rfl) (by decide)
  refine wp_store_blk 83 (.tmp 6) (.tmp 11) rfl #[(ptr e), (ptr f)] h0 d3 hv (by simp) (by kernel_rfl) (by simp [Value.oneCell', ptr]) (fun w9 k9 hg9 => ?_)
  exact hK w9 ⟨g1, rfl, k9⟩ hg9
 ·intro u w1 hb1 hf hn1 hap hfl hlo
  have f1 : u 1 = _ := hf 1 (by decide) (by decide)
  have f3 : u 3 = _ := hf 3 (by decide) (by decide)
  obtain ⟨g5, e5, k5⟩ : IsBlk _ _ (u 6) w1 := hf 6 (by decide) (by decide)
  obtain ⟨g6, e6, k6⟩ : IsBlk _ _ (u 7) w1 := hf 7 (by decide) (by decide)
  have n5 := hfl 6 (by decide) 4 rfl
  have n6 := hfl 7 (by decide) 5 rfl
  rw [e5] at n5
  rw [e6] at n6
  have hne : g5 ≠ g6 := fun e => hap 4 (by decide) 5 (by decide) (by decide) (by decide) (by decide) (by rw [← n5, ← n6, e])
  obtain ⟨l5, l6⟩ := (And.intro (hlo 4 (by decide) (by decide) g5 n5.symm) (hlo 5 (by decide) (by decide) g6 n6.symm))
  have hlt := h.lts
  have hle := h.bel.size
  have h := (h.call hb1).more k5 (Nat.le_trans hle l5) (fun x hx => by have := hlt x hx; omega)
  have h := h.more k6 (Nat.le_trans hle l6) (fun x hx => by rcases List.mem_cons.1 hx with rfl | hx; exact hne; have := hlt x hx; omega)
  rw [f1, f3, ← n5, ← n6]
  clear hf hn1 hap hfl hlo hlt hle k5 k6 k0 k1 k2 hb1 f1 f3 e5 e6 n5 n6
  refine wpAny_end (by kernel_rfl) ?_
  refine NoPanic.normal ?_
  have c0 := (h.get 3 rfl).cell 0
  have c1 := (h.get 3 rfl).cell 1
  have c2 := (h.get 3 rfl).cell 2
  go_wp2_with (have h := h.new 83 #[.pointer none, .pointer none]; refine wpList_store_all (by rfl) 83 (.tmp 7) (.tmp 16) (by rfl) #[ptr x, ptr y] (by rfl) (by rfl) (h.get 0 rfl) (by simp) (by kernel_rfl) (by simp [Value.oneCell', ptr]) ?_; intro w9 k9 hg9; have h := h.put 0 rfl ⟨by decide, by simp⟩ k9 hg9; try clear k9 hg9; have c8 := (h.get 5 rfl).cell 8; have d0 := (h.get 0 rfl).cell 0; have d1 := (h.get 0 rfl).cell 1)
  obtain ⟨xa, xb, xc, xd, xe, xf, xg, xj, px, py⟩ := h.fact
  refine (conj_any ⟨_, _, rfl, px, py⟩ (by omega)).mono ?_
  rintro _ w5 ⟨_, rfl, ⟨_, _, rfl, qx, qy⟩, hb5⟩
  obtain ⟨x5, rfl⟩ := qx.ptr
  obtain ⟨y5, rfl⟩ := qy.ptr
  have h := ((h.call hb5).add (Stb.rat _ _ _) qy).add (Stb.rat _ _ _) qx
  clear qx qy hb5 xa xb xc xd xe xf xg xj px py
  go_wp2_with (refine wpList_store_all (by rfl) 83 (.tmp 7) (.tmp 20) (by rfl) #[ptr x5, ptr y5] (by rfl) (by rfl) (h.get 0 rfl) (by simp) (by kernel_rfl) (by simp [Value.oneCell', ptr]) ?_; intro w9 k9 hg9; have h := h.put 0 rfl ⟨by decide, by simp⟩ k9 hg9; try clear k9 hg9)
  obtain ⟨qx, qy, xa, xb, xc, xd, xe, xf, xg, xj, px, py⟩ := h.fact
  have k0 := h.get 5 rfl
  have k7 := h.get 0 rfl
  generalize hg7 : w1.heap.size = g7 at *
  refine wp_region_noPanic ?_
  refine wp_region_list (mk := ?mk2) ratZ_vgs [Is (ptr w.heap.size), Is (.agg #[(ptr a), (ptr b)]), Is (.agg #[(ptr x5), (ptr y5)]), IsNum (ma.mul z.conj) (4 * n + 1), Is (.pointer (some ⟨w.heap.size, 2, none⟩)), Is (.agg #[(ptr c), (ptr d)]), IsNum ((ma.mul z.conj).add mb) (8 * n + 3), Is (.pointer (some ⟨w.heap.size, 4, none⟩)), Is (.agg #[(ptr e), (ptr f)]), Is (.agg #[(ptr x5), (ptr y5)]), IsNum (mc.mul z.conj) (4 * n + 1), Is (.pointer (some ⟨w.heap.size, 6, none⟩)), Is (.agg #[(ptr g), (ptr j)]), IsNum ((mc.mul z.conj).add md) (8 * n + 3)] [.plain, .plain, .plain, .plain, .plain, .plain, .plain, .plain, .plain, .plain, .plain, .plain, .plain, .plain] 14 2 (fun w' => Blk w' (w.heap.size) 93 #[ptr a, ptr b, ptr c, ptr d, ptr e, ptr f, ptr g, ptr j, .bool true] ∧ Blk w' (g7) 83 #[ptr x5, ptr y5] ∧ IsRat ma.re n (ptr a) w' ∧ IsRat ma.im n (ptr b) w' ∧ IsRat mb.re n (ptr c) w' ∧ IsRat mb.im n (ptr d) w' ∧ IsRat mc.re n (ptr e) w' ∧ IsRat mc.im n (ptr f) w' ∧ IsRat md.re n (ptr g) w' ∧ IsRat md.im n (ptr j) w' ∧ IsRat z.conj.re n (ptr x5) w' ∧ IsRat z.conj.im n (ptr y5) w' ∧ True) ⟨is_steady _ _ _, is_steady _ _ _, is_steady _ _ _, isNum_steady _ _ _, is_steady _ _ _, is_steady _ _ _, isNum_steady _ _ _, is_steady _ _ _, is_steady _ _ _, is_steady _ _ _, isNum_steady _ _ _, is_steady _ _ _, is_steady _ _ _, isNum_steady _ _ _, trivial⟩ (by kernel_rfl) (by kernel_rfl) (by kernel_rfl) (by kernel_rfl) (by kernel_rfl) (by kernel_rfl) ?hmk2 (fun w' hB => ⟨k0.below hB k0.lt, k7.below hB k7.lt, xa.below hB, xb.below hB, xc.below hB, xd.below hB, xe.below hB, xf.below hB, xg.below hB, xj.below hB, qx.below hB, qy.below hB, trivial⟩)
   (steps_all (steps_cons ?_ (steps_cons ?_ (steps_cons ?_ (steps_cons ?_ (steps_cons ?_ (steps_cons ?_ (steps_cons ?_ (steps_cons ?_ (steps_cons ?_ (steps_cons ?_ (steps_cons ?_ (steps_cons ?_ (steps_cons ?_ (steps_cons ?_ steps_nil))))))))))))))) ?_
  case hmk2 =>
   intro u
   simp only [mkFrom, mkL, dstOf, List.range, List.range.loop, Act.put, List.setIfInBounds_toArray, List.set_cons_zero, List.set_cons_succ, List.getElem?_toArray, List.getElem?_cons_zero, List.getElem?_cons_succ, Option.bind_some]
   rfl
  ·refine step_is (o := Oper.mk (some 21) _ _ _ _ _) rfl rfl rfl rfl (fun u ws hc hd => ?_)
   go_simp
  ·refine step_is (o := Oper.mk (some 22) _ _ _ _ _) rfl rfl rfl rfl (fun u ws hc hd => ?_)
   obtain ⟨k0, k7, xa, xb, xc, xd, xe, xf, xg, xj, qx, qy, _⟩ := hc
   have d0 : u 0 = _ := hd 0 (by kernel_rfl) (by decide)
   exact run_load_part 83 (.tmp 21) rfl (w.heap.size) 0 d0 #[(ptr a), (ptr b)] _ k0 rfl Tryz.underlying83 rfl (by kernel_rfl)
  ·refine step_is (o := Oper.mk (some 23) _ _ _ _ _) rfl rfl rfl rfl (fun u ws hc hd => ?_)
   obtain ⟨k0, k7, xa, xb, xc, xd, xe, xf, xg, xj, qx, qy, _⟩ := hc
   exact run_load_part 83 (.tmp 7) rfl (g7) 0 rfl #[(ptr x5), (ptr y5)] _ k7 rfl Tryz.underlying83 rfl (by kernel_rfl)
  ·refine step_call (o := Oper.mk (some 24) _ _ _ _ _) rfl rfl rfl (fun u ws hc hd => ?_)
   obtain ⟨k0, k7, xa, xb, xc, xd, xe, xf, xg, xj, qx, qy, _⟩ := hc
   have d1 : u 1 = _ := hd 1 (by kernel_rfl) (by decide)
   have d2 : u 2 = _ := hd 2 (by kernel_rfl) (by decide)
   have HC := Lib.hid (upN (m := (4 * n + 1)) (mul_any (⟨_, _, rfl, xa, xb⟩ : IsNum ma n _ _) (⟨_, _, rfl, qx, qy⟩ : IsNum z.conj n _ _) (by omega)) (by omega))
   refine ⟨82, #[(.agg #[(ptr a), (ptr b)]), (.agg #[(ptr x5), (ptr y5)])], ?_, HC.out⟩
   ·clear HC; go_simp
  ·refine step_is (o := Oper.mk (some 25) _ _ _ _ _) rfl rfl rfl rfl (fun u ws hc hd => ?_)
   go_simp
  ·refine step_is (o := Oper.mk (some 26) _ _ _ _ _) rfl rfl rfl rfl (fun u ws hc hd => ?_)
   obtain ⟨k0, k7, xa, xb, xc, xd, xe, xf, xg, xj, qx, qy, _⟩ := hc
   have d4 : u 4 = _ := hd 4 (by kernel_rfl) (by decide)
   exact run_load_part 83 (.tmp 25) rfl (w.heap.size) 2 d4 #[(ptr c), (ptr d)] _ k0 rfl Tryz.underlying83 rfl (by kernel_rfl)
  ·refine step_call (o := Oper.mk (some 27) _ _ _ _ _) rfl rfl rfl (fun u ws hc hd => ?_)
   obtain ⟨k0, k7, xa, xb, xc, xd, xe, xf, xg, xj, qx, qy, _⟩ := hc
   have d5 : u 5 = _ := hd 5 (by kernel_rfl) (by decide)
   have HC := Lib.hid (upN (m := (8 * n + 3)) (add_any (hd 3 (by kernel_rfl) (by decide) : IsNum (ma.mul z.conj) (4 * n + 1) (u 3) ws) (IsNum.up (⟨_, _, rfl, xc, xd⟩ : IsNum mb n _ _) (by omega)) (by omega)) (by omega))
   refine ⟨83, #[u 3, (.agg #[(ptr c), (ptr d)])], ?_, HC.out⟩
   ·clear HC; go_simp
  ·refine step_is (o := Oper.mk (some 28) _ _ _ _ _) rfl rfl rfl rfl (fun u ws hc hd => ?_)
   go_simp
  ·refine step_is (o := Oper.mk (some 29) _ _ _ _ _) rfl rfl rfl rfl (fun u ws hc hd => ?_)
   obtain ⟨k0, k7, xa, xb, xc, xd, xe, xf, xg, xj, qx, qy, _⟩ := hc
   have d7 : u 7 = _ := hd 7 (by kernel_rfl) (by decide)
   exact run_load_part 83 (.tmp 28) rfl (w.heap.size) 4 d7 #[(ptr e), (ptr f)] _ k0 rfl Tryz.underlying83 rfl (by kernel_rfl)
  ·refine step_is (o := Oper.mk (some 30) _ _ _ _ _) rfl rfl rfl rfl (fun u ws hc hd => ?_)
   obtain ⟨k0, k7, xa, xb, xc, xd, xe, xf, xg, xj, qx, qy, _⟩ := hc
   exact run_load_part 83 (.tmp 7) rfl (g7) 0 rfl #[(ptr x5), (ptr y5)] _ k7 rfl Tryz.underlying83 rfl (by kernel_rfl)
  ·refine step_call (o := Oper.mk (some 31) _ _ _ _ _) rfl rfl rfl (fun u ws hc hd => ?_)
   obtain ⟨k0, k7, xa, xb, xc, xd, xe, xf, xg, xj, qx, qy, _⟩ := hc
   have d8 : u 8 = _ := hd 8 (by kernel_rfl) (by decide)
   have d9 : u 9 = _ := hd 9 (by kernel_rfl) (by decide)
   have HC := Lib.hid (upN (m := (4 * n + 1)) (mul_any (⟨_, _, rfl, xe, xf⟩ : IsNum mc n _ _) (⟨_, _, rfl, qx, qy⟩ : IsNum z.conj n _ _) (by omega)) (by omega))
   refine ⟨82, #[(.agg #[(ptr e), (ptr f)]), (.agg #[(ptr x5), (ptr y5)])], ?_, HC.out⟩
   ·clear HC; go_simp
  ·refine step_is (o := Oper.mk (some 32) _ _ _ _ _) rfl rfl rfl rfl (fun u ws hc hd => ?_)
   go_simp
  ·refine step_is (o := Oper.mk (some 33) _ _ _ _ _) rfl rfl rfl rfl (fun u ws hc hd => ?_)
   obtain ⟨k0, k7, xa, xb, xc, xd, xe, xf, xg, xj, qx, qy, _⟩ := hc
   have d11 : u 11 = _ := hd 11 (by kernel_rfl) (by decide)
   exact run_load_part 83 (.tmp 32) rfl (w.heap.size) 6 d11 #[(ptr g), (ptr j)] _ k0 rfl Tryz.underlying83 rfl (by kernel_rfl)
  ·refine step_call (o := Oper.mk (some 34) _ _ _ _ _) rfl rfl rfl (fun u ws hc hd => ?_)
   obtain ⟨k0, k7, xa, xb, xc, xd, xe, xf, xg, xj, qx, qy, _⟩ := hc
   have d12 : u 12 = _ := hd 12 (by kernel_rfl) (by decide)
   have HC := Lib.hid (upN (m := (8 * n + 3)) (add_any (hd 10 (by kernel_rfl) (by decide) : IsNum (mc.mul z.conj) (4 * n + 1) (u 10) ws) (IsNum.up (⟨_, _, rfl, xg, xj⟩ : IsNum md n _ _) (by omega)) (by omega)) (by omega))
   refine ⟨83, #[u 10, (.agg #[(ptr g), (ptr j)])], ?_, HC.out⟩
   ·clear HC; go_simp
  ·intro u w6 hb6 hf hn1
   obtain ⟨_, _, e6, fa, fb⟩ : IsNum _ _ (u 6) w6 := hf 6 (by decide) (by decide)
   obtain ⟨_, _, e13, fc, fd⟩ : IsNum _ _ (u 13) w6 := hf 13 (by decide) (by decide)
   obtain ⟨p, rfl⟩ := fa.ptr
   obtain ⟨q, rfl⟩ := fb.ptr
   obtain ⟨r, rfl⟩ := fc.ptr
   obtain ⟨s, rfl⟩ := fd.ptr
   have h := (h.call hb6).rest (G := fun w => IsNum ((ma.mul z.conj).add mb) (8 * n + 3) (.agg #[ptr p, ptr q]) w ∧ IsNum ((mc.mul z.conj).add md) (8 * n + 3) (.agg #[ptr r, ptr s]) w) ((Stb.num _ _ _).and (Stb.num _ _ _)) ⟨⟨_, _, rfl, fa, fb⟩, ⟨_, _, rfl, fc, fd⟩⟩
   rw [e6, e13]
   clear hf hn1 e6 e13 fa fb fc fd k0 k7 xa xb xc xd xe xf xg xj qx qy px py
   refine wpAny_store (j := 14) (o := Oper.mk none _ _ _ _ _) rfl (by kernel_rfl) rfl 83 (.tmp 5) (.tmp 27) rfl g5 0 #[ptr p, ptr q] rfl rfl #[ptr p, ptr q] (h.get 2 rfl) (by simp) rfl (by kernel_rfl) (by simp [Value.oneCell', ptr]) (fun w7 k9 hg9 hs9 => ?_)
   have h := h.put 2 rfl ⟨by decide, by simp⟩ k9 hg9
   clear k9 hg9 hs9
   refine wpAny_store (j := 15) (o := Oper.mk none _ _ _ _ _) rfl (by kernel_rfl) rfl 83 (.tmp 6) (.tmp 34) rfl g6 0 #[ptr r, ptr s] rfl rfl #[ptr r, ptr s] (h.get 1 rfl) (by simp) rfl (by kernel_rfl) (by simp [Value.oneCell', ptr]) (fun w8 k9 hg9 hs9 => ?_)
   have h := h.put 1 rfl ⟨by decide, by simp⟩ k9 hg9
   clear k9 hg9 hs9
   refine wpAny_end (by kernel_rfl) ?_
   refine NoPanic.normal ?_
   have d0 := (h.get 1 rfl).cell 0
   have d1 := (h.get 1 rfl).cell 1
   obtain ⟨fu, fl⟩ := h.fact
   have HZ := Lib.hid (zero_any fl)
   by_cases hz : (((mc.mul z.conj).add md)).Zero
   ·rw [decide_eq_true hz] at HZ
    have Hs : Hid (Mx.send ⟨ma, mb, mc, md, true⟩ z = none) := Lib.hid (if_pos hz)
    clear hz fu fl
    go_wp2_with (first | (go_at_call 58; refine HZ.out.mono ?_; rintro _ w10 ⟨v10, rfl, hv10, hb10⟩; subst hv10; have h := h.call hb10) | (refine wpList_store_all (by rfl) 97 (.tmp 4) (.tmp 37) (by rfl) #[.bool true, .pointer none, .pointer none] (by rfl) (by rfl) (h.get 3 rfl) (by simp) (by kernel_rfl) (by simp [Value.oneCell', ptr]) ?_; intro w9 k9 hg9; have h := h.put 3 rfl ⟨by decide, by simp⟩ k9 hg9; try clear k9 hg9))
    refine bodyPost_ret (results_row1 rfl _ _ _ _ _ (by rfl) (h.get 3 rfl) Tryz.underlying97 rfl (by kernel_rfl)) rfl ?_
    rw [Hs.out]
    exact ⟨_, rfl, rfl, h.bel⟩
   ·have hz' := hz
    rw [decide_eq_false hz] at HZ
    have Hs : Hid (Mx.send ⟨ma, mb, mc, md, true⟩ z = some (((ma.mul z.conj).add mb).div ((mc.mul z.conj).add md))) := Lib.hid (if_neg hz)
    have Hz := Lib.hid hz
    clear hz hz' fu fl
    go_wp2_with (first | (go_at_call 58; refine HZ.out.mono ?_; rintro _ w10 ⟨v10, rfl, hv10, hb10⟩; subst hv10; have h := h.call hb10; have d0 := (h.get 1 rfl).cell 0; have d1 := (h.get 1 rfl).cell 1; have d2 := (h.get 2 rfl).cell 0; have d3 := (h.get 2 rfl).cell 1) | (go_at_call 84; refine (div_any h.fact.1 h.fact.2 Hz.out (by omega)).mono ?_; rintro _ w11 ⟨_, rfl, ⟨_, _, rfl, qx, qy⟩, hb11⟩; obtain ⟨x11, rfl⟩ := qx.ptr; obtain ⟨y11, rfl⟩ := qy.ptr; have h := (h.call hb11).rest (G := fun w => IsRat _ _ (ptr x11) w ∧ IsRat _ _ (ptr y11) w) ((Stb.rat _ _ _).and (Stb.rat _ _ _)) ⟨qx, qy⟩) | (refine wpList_store_all (by rfl) 97 (.tmp 4) (.tmp 41) (by rfl) #[.bool false, ptr x11, ptr y11] (by rfl) (by rfl) (h.get 3 rfl) (by simp) (by kernel_rfl) (by simp [Value.oneCell', ptr]) ?_; intro w9 k9 hg9; have h := h.put 3 rfl ⟨by decide, by simp⟩ k9 hg9; try clear k9 hg9))
    refine bodyPost_ret (results_row1 rfl _ _ _ _ _ (by rfl) (h.get 3 rfl) Tryz.underlying97 rfl (by kernel_rfl)) rfl ?_
    rw [Hs.out]
    exact ⟨_, rfl, ⟨_, _, rfl, h.fact.1.up (by omega), h.fact.2.up (by omega)⟩, h.bel⟩
theorem send_any {w : World} {v1 v2 : Value} {m : Mx} {z : Cx} {n : Nat} (h1 : IsMx m n v1 w) (h2 : IsPlace (some z) n v2 w) (hn : n ≤ 10000) :
  Calls Tryz.prog 42 #[v1, v2] w (Ret w (IsPlace (m.send z) (64 * n + 26))) := by
 obtain ⟨a, b, c, d, e, f, g, h, rfl, xa, xb, xc, xd, xe, xf, xg, xh⟩ := h1
 obtain ⟨x, y, rfl, px, py⟩ := h2
 obtain ⟨ma, mb, mc, md, t⟩ := m
 cases t
 ·exact send_false xa xb xc xd xe xf xg xh px py hn
 ·exact send_true xa xb xc xd xe xf xg xh px py hn
def IsPt (z : Cx) (n : Nat) (v : Value) : Prop := ∃ b0 s0 b1 s1 b2 s2 b3 s3, v = .agg #[.bool false, .bool b0, .string s0, .bool b1, .string s1, .bool b2, .string s2, .bool b3, .string s3] ∧ Fv b0 s0 b1 s1 z.re n ∧ Fv b2 s2 b3 s3 z.im n
set_option maxRecDepth 100000 in
set_option maxHeartbeats 4000000 in
theorem spot_any {w : World} {v : Value} {z : Cx} {n : Nat} (hv : IsPt z n v) (hn : n ≤ 1000000) :
  Calls Tryz.prog 41 #[v] w (RetB w (IsPlace (some z) n) true) := by
 obtain ⟨b0, s0, b1, s1, b2, s2, b3, s3, rfl, f1, f2⟩ := hv
 have h := ((St.start w).new 56 #[.bool false, .bool b0, .string s0, .bool b1, .string s1, .bool b2, .string s2, .bool b3, .string s3]).new 97 #[.bool false, .pointer none, .pointer none]
 simp only [size_alloc] at h
 have HO := Lib.hid (fun W => exof_any (w := W) ⟨_, _, _, _, _, _, _, _, rfl, f1, f2⟩ hn)
 clear f1 f2
 go_enter Tryz.func41, Tryz.ntmps41
 go_wp2_with fail
 refine (HO.out _).mono ?_
 rintro _ w2 ⟨_, rfl, ⟨_, _, rfl, px, py⟩, hb2⟩
 obtain ⟨x, rfl⟩ := px.ptr
 obtain ⟨y, rfl⟩ := py.ptr
 have h := ((h.call hb2).add (Stb.rat _ _ _) py).add (Stb.rat _ _ _) px
 clear px py hb2
 go_wp2_with (first | (have h := h.new 83 #[.pointer none, .pointer none]; refine wpList_store_all (by rfl) 83 (.tmp 4) (.tmp 16) (by rfl) #[ptr x, ptr y] (by rfl) (by rfl) (h.get 0 rfl) (by simp) (by kernel_rfl) (by simp [Value.oneCell', ptr]) ?_; intro w9 k9 hg9; have h := h.put 0 rfl ⟨by decide, by simp⟩ k9 hg9; try clear k9 hg9; have d0 := (h.get 0 rfl).cell 0; have d1 := (h.get 0 rfl).cell 1) | (refine wpList_store_all (by rfl) 97 (.tmp 2) (.tmp 19) (by rfl) #[.bool false, ptr x, ptr y] (by rfl) (by rfl) (h.get 1 rfl) (by simp) (by kernel_rfl) (by simp [Value.oneCell', ptr]) ?_; intro w9 k9 hg9; have h := h.put 1 rfl ⟨by decide, by simp⟩ k9 hg9; try clear k9 hg9))
 refine bodyPost_ret (results_row_tmp rfl _ _ _ _ _ (by rfl) (h.get 1 rfl) Tryz.underlying97 rfl (by kernel_rfl)) rfl ?_
 exact ⟨_, rfl, ⟨_, _, rfl, h.fact.1, h.fact.2.1⟩, h.bel⟩
set_option maxRecDepth 100000 in
set_option maxHeartbeats 4000000 in
theorem placetold_any {w : World} {v : Value} {z : Cx} {n : Nat} (hv : IsPlace (some z) n v w) (hn : n ≤ 8192) :
  Calls Tryz.prog 43 #[v] w (RetE w (fun v _ => IsPt z n v)) := by
 obtain ⟨x, y, rfl, px, py⟩ := hv
 have h := ((St.start w).new 97 #[.bool false, ptr x, ptr y]).new 56 #[.bool false, .bool false, .string ⟨#[]⟩, .bool false, .string ⟨#[]⟩, .bool false, .string ⟨#[]⟩, .bool false, .string ⟨#[]⟩]
 simp only [size_alloc] at h
 have HO := Lib.hid (numtold_any ⟨_, _, rfl, px.below h.bel, py.below h.bel⟩ hn)
 clear px py
 go_enter Tryz.func43, Tryz.ntmps43
 go_wp2_with fail
 refine HO.out.mono ?_
 rintro _ w2 ⟨_, rfl, ⟨b0, s0, b1, s1, b2, s2, b3, s3, rfl, f1, f2⟩, hb2⟩
 have h := h.call hb2
 have Hf := Lib.hid (And.intro f1 f2)
 clear hb2 f1 f2 HO
 go_wp2_with (first | (have h := h.new 27 #[.bool false, .string ⟨#[]⟩, .bool false, .string ⟨#[]⟩, .bool false, .string ⟨#[]⟩, .bool false, .string ⟨#[]⟩]; refine wpList_store_all (by rfl) 27 (.tmp 4) (.tmp 13) (by rfl) #[.bool b0, .string s0, .bool b1, .string s1, .bool b2, .string s2, .bool b3, .string s3] (by rfl) (by rfl) (h.get 0 rfl) (by simp) (by kernel_rfl) (by simp [Value.oneCell', ptr]) ?_; intro w9 k9 hg9; have h := h.put 0 rfl ⟨by decide, by simp⟩ k9 hg9; try clear k9 hg9; have d0 := (h.get 0 rfl).cell 0; have d1 := (h.get 0 rfl).cell 1; have d2 := (h.get 0 rfl).cell 2; have d3 := (h.get 0 rfl).cell 3; have d4 := (h.get 0 rfl).cell 4; have d5 := (h.get 0 rfl).cell 5; have d6 := (h.get 0 rfl).cell 6; have d7 := (h.get 0 rfl).cell 7) | (refine wpList_store_all (by rfl) 56 (.tmp 2) (.tmp 16) (by rfl) #[.bool false, .bool b0, .string s0, .bool b1, .string s1, .bool b2, .string s2, .bool b3, .string s3] (by rfl) (by rfl) (h.get 1 rfl) (by simp) (by kernel_rfl) (by simp [Value.oneCell', ptr]) ?_; intro w9 k9 hg9; have h := h.put 1 rfl ⟨by decide, by simp⟩ k9 hg9; try clear k9 hg9))
 refine bodyPost_ret (results_row_tmp rfl _ _ _ _ _ (by rfl) (h.get 1 rfl) Tryz.underlying56 rfl (by kernel_rfl)) rfl ?_
 exact ⟨_, rfl, ⟨_, _, _, _, _, _, _, _, rfl, Hf.out.1, Hf.out.2⟩, h.bel⟩
end Go.Proofs.YtebpggfccljagaaGreat
