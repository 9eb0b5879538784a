import Derived.Test.YtebpggfccljagaaGreatC2
import Derived.Test.YtebpggfccljagaaGreatC1
import Derived.BigQuiet
import Derived.Deep.DeepCutAuto
import Derived.Deep.RegionHeld3
import Derived.Deep.CutRange
import Derived.Deep.CutBlock
import Derived.BigRegion
import Derived.Deep.RegionWith
namespace Go.Proofs.YtebpggfccljagaaGreat
open Go.RowKit
open Wh
set_option linter.unusedSimpArgs false
def IntC (w : World) (g o : Nat) (z : Int) : Prop := ∃ s A n c, w.cell? ⟨g, o, none⟩ = some (.bool s) ∧ w.cell? ⟨g, o + 1, none⟩ = some (.slice A n c) ∧ Hid (s = decide (z < 0) ∧ n = (wds z.natAbs).length) ∧ n ≤ c ∧ c ≤ 9223372036854775807 ∧ ReadsW w w.heap.size A (wds z.natAbs)
theorem IntC.opened {w : World} {g o : Nat} {z : Int} (h : IntC w g o z) : ∃ s A n c, w.cell? ⟨g, o, none⟩ = some (.bool s) ∧ w.cell? ⟨g, o + 1, none⟩ = some (.slice A n c) ∧ Hid (s = decide (z < 0) ∧ n = (wds z.natAbs).length) ∧ n ≤ c ∧ c ≤ 9223372036854775807 ∧ ReadsW w w.heap.size A (wds z.natAbs) := h
theorem IntC.lt' {w : World} {g o : Nat} {z : Int} (h : IntC w g o z) : g < w.heap.size := by
 obtain ⟨s, A, n, c, h0, _⟩ := h
 exact block_lt_of_cell h0
theorem IntC.below {w w' : World} {g o : Nat} {z : Int} (h : IntC w g o z) (hb : Below w.heap.size w w') : IntC w' g o z := by
 have hlt := h.lt'
 obtain ⟨s, A, n, c, h0, h1, h2, h3, h4, hr⟩ := h
 exact ⟨s, A, n, c, (hb.cell (p := ⟨g, o, none⟩) hlt).trans h0, (hb.cell (p := ⟨g, o + 1, none⟩) hlt).trans h1, h2, h3, h4, (hr.below hb).more hb.size⟩
theorem IntB.inC {w : World} {g : Nat} {z : Int} (h : IntB w g z) : IntC w g 0 z := h.opened
structure RatB (w : World) (g : Nat) (a b : Int) : Prop where
 num : IntC w g 0 a
 den : IntC w g 2 b
 pos : 0 < b
theorem RatB.below {w w' : World} {g : Nat} {a b : Int} (h : RatB w g a b) (hb : Below w.heap.size w w') : RatB w' g a b := ⟨h.num.below hb, h.den.below hb, h.pos⟩
set_option maxRecDepth 100000 in
set_option maxHeartbeats 4000000 in
theorem setc0_any {w : World} {g gx : Nat} {x : Int} (hz : IntS w g) (hx : IntC w gx 0 x) (hxl : (wds x.natAbs).length ≤ 900000000) :
  Calls Tryz.prog 97 #[.pointer (some ⟨g, 0, none⟩), .pointer (some ⟨gx, 0, none⟩)] w (Puts w g x) := by
 obtain ⟨sx, Ax, nx, cx, x0, x1, Hx, hxc, hxcl, rx⟩ := hx.opened
 have glx := hx.lt'
 have Hr := Lib.hid (And.intro rx hxl)
 clear rx hxl
 go_enter Tryz.func97, Tryz.ntmps97
 go_wp2_with fail
 refine wp_region_noPanic ?_
 refine wp_region_HK (fun w' => (w'.cell? ⟨gx, 0, none⟩ = some (.bool sx) ∧ w'.cell? ⟨gx, 1, none⟩ = some (.slice Ax nx cx))) 10 (by kernel_rfl) ⟨x0, x1⟩ (fun hHeld => ?_)
 refine wpHK_take (i := 0) (oi := Oper.mk (some 5) _ _ _ _ _) (v := ?_) rfl (by kernel_rfl) (by kernel_rfl) (by kernel_rfl) (by kernel_rfl) (fun _ _ _ h => h) (Or.inl ⟨by rfl, ?_⟩) (by assumption) ?_
 rotate_left
 ·(intro w' hSw; (try dsimp only at hSw); (obtain ⟨s1, s2⟩ := hSw); go_simp; try with_reducible rfl)
 try simp only [Act.put, List.setIfInBounds_toArray, List.set_cons_zero, List.set_cons_succ]
 refine wpHK_take (i := 1) (oi := Oper.mk (some 6) _ _ _ _ _) (v := ?_) rfl (by kernel_rfl) (by kernel_rfl) (by kernel_rfl) (by kernel_rfl) (fun _ _ _ h => h) (Or.inl ⟨by rfl, ?_⟩) (by assumption) ?_
 rotate_left
 ·(intro w' hSw; (try dsimp only at hSw); (obtain ⟨s1, s2⟩ := hSw); go_simp; try with_reducible rfl)
 try simp only [Act.put, List.setIfInBounds_toArray, List.set_cons_zero, List.set_cons_succ]
 refine wpHK_take (i := 2) (oi := Oper.mk (some 7) _ _ _ _ _) (v := ?_) rfl (by kernel_rfl) (by kernel_rfl) (by kernel_rfl) (by kernel_rfl) (fun _ _ _ h => h) (Or.inl ⟨by rfl, ?_⟩) (by assumption) ?_
 rotate_left
 ·(intro w' hSw; (try dsimp only at hSw); (obtain ⟨s1, s2⟩ := hSw); go_simp; try with_reducible rfl)
 try simp only [Act.put, List.setIfInBounds_toArray, List.set_cons_zero, List.set_cons_succ]
 refine wpHK_take (i := 3) (oi := Oper.mk (some 8) _ _ _ _ _) (v := ?_) rfl (by kernel_rfl) (by kernel_rfl) (by kernel_rfl) (by kernel_rfl) (fun _ _ _ h => h) (Or.inl ⟨by rfl, ?_⟩) (by assumption) ?_
 rotate_left
 ·(intro w' hSw; (try dsimp only at hSw); (obtain ⟨s1, s2⟩ := hSw); go_simp; try with_reducible rfl)
 try simp only [Act.put, List.setIfInBounds_toArray, List.set_cons_zero, List.set_cons_succ]
 refine wpHK_take (i := 4) (oi := Oper.mk (some 9) _ _ _ _ _) (v := ?_) rfl (by kernel_rfl) (by kernel_rfl) (by kernel_rfl) (by kernel_rfl) (fun _ _ _ h => h) (Or.inl ⟨by rfl, ?_⟩) (by assumption) ?_
 rotate_left
 ·(intro w' hSw; (try dsimp only at hSw); (obtain ⟨s1, s2⟩ := hSw); go_simp; try with_reducible rfl)
 try simp only [Act.put, List.setIfInBounds_toArray, List.set_cons_zero, List.set_cons_succ]
 refine wpHK_take (i := 5) (oi := Oper.mk (some 10) _ _ _ _ _) (v := ?_) rfl (by kernel_rfl) (by kernel_rfl) (by kernel_rfl) (by kernel_rfl) (fun _ _ _ h => h) (Or.inl ⟨by rfl, ?_⟩) (by assumption) ?_
 rotate_left
 ·(intro w' hSw; (try dsimp only at hSw); (obtain ⟨s1, s2⟩ := hSw); go_simp; try with_reducible rfl)
 try simp only [Act.put, List.setIfInBounds_toArray, List.set_cons_zero, List.set_cons_succ]
 refine wpHK_take (i := 6) (oi := Oper.mk (some 11) _ _ _ _ _) (v := ?_) rfl (by kernel_rfl) (by kernel_rfl) (by kernel_rfl) (by kernel_rfl) (fun _ _ _ h => h) (Or.inl ⟨by rfl, ?_⟩) (by assumption) ?_
 rotate_left
 ·(intro w' hSw; (try dsimp only at hSw); (obtain ⟨s1, s2⟩ := hSw); go_simp; try with_reducible rfl)
 try simp only [Act.put, List.setIfInBounds_toArray, List.set_cons_zero, List.set_cons_succ]
 refine wpHK_take (i := 7) (oi := Oper.mk (some 12) _ _ _ _ _) (v := ?_) rfl (by kernel_rfl) (by kernel_rfl) (by kernel_rfl) (by kernel_rfl) (fun _ _ _ h => h) (Or.inl ⟨by rfl, ?_⟩) (by assumption) ?_
 rotate_left
 ·(intro w' hSw; (try dsimp only at hSw); (obtain ⟨s1, s2⟩ := hSw); go_simp; try with_reducible rfl)
 try simp only [Act.put, List.setIfInBounds_toArray, List.set_cons_zero, List.set_cons_succ]
 refine wpHK_take (i := 8) (oi := Oper.mk (some 13) _ _ _ _ _) (v := ?_) rfl (by kernel_rfl) (by kernel_rfl) (by kernel_rfl) (by kernel_rfl) (fun _ _ _ h => h) (Or.inl ⟨by rfl, ?_⟩) (by assumption) ?_
 rotate_left
 ·(intro w' hSw; (try dsimp only at hSw); (obtain ⟨s1, s2⟩ := hSw); go_simp; try with_reducible rfl)
 try simp only [Act.put, List.setIfInBounds_toArray, List.set_cons_zero, List.set_cons_succ]
 refine wpHK_one (j := 9) (o := Oper.mk (some 14) _ _ _ _ _) rfl (by kernel_rfl) (fun K hK => ?_)
 refine stepW_append (by rfl) (.const (.slice none 0 0)) (.tmp 13) (by rfl) w.heap.size _ [] (OwnW.nil _ _) (by rfl) _ _ (wds x.natAbs) (Hr.out.1.drewN 1) nx cx Hx.out.2 (by rfl) (by have := Hr.out.2; simp only [List.length_nil]; omega) (Nat.le_refl _) ?_
 intro A5 n5 c5 w5 ho5 hg5
 rw [List.nil_append] at ho5
 have hb5 := below_of_grown hg5
 have hb5' : Below w.heap.size w w5 := undrew hb5
 have bcell5 : ∀ {b o : Nat}, b < w.heap.size → w5.cell? ⟨b, o, none⟩ = w.cell? ⟨b, o, none⟩ := fun {b o} h => hb5'.cell (p := ⟨b, o, none⟩) h
 have hz5 := hz.below hb5'
 have hC5 : (w5.cell? ⟨gx, 0, none⟩ = some (.bool sx) ∧ w5.cell? ⟨gx, 1, none⟩ = some (.slice Ax nx cx)) := ⟨(bcell5 glx).trans x0, (bcell5 glx).trans x1⟩
 refine hK.out _ _ hC5 (fun _ => ?_)
 clear hK K hHeld
 have hHeld := hC5
 try simp only [Act.put, List.setIfInBounds_toArray, List.set_cons_zero, List.set_cons_succ]
 refine wpHK_tail (j := 10) (o := Oper.mk (some 15) _ _ _ _ _) rfl (by kernel_rfl) (by decide) (fun K hK => ?_)
 go_simp
 refine (is_any _ hz5 ho5.reads (Nat.le_refl _) ho5.len.1 ho5.len.2.1 ho5.len.2.2 (wd_w _)).mono ?_
 rintro e w6 ⟨rfl, hi6, hg6⟩
 try simp only []
 refine hK.out _ _ ?_
 clear hK K
 try simp only [Act.put, List.setIfInBounds_toArray, List.set_cons_zero, List.set_cons_succ]
 refine wpHK_assign (j := 11) (o := Oper.mk (some 4) _ _ _ _ _) rfl (by kernel_rfl) (by decide) rfl rfl ?_
 try simp only [Act.put, List.setIfInBounds_toArray, List.set_cons_zero, List.set_cons_succ]
 refine wpHK_done (by kernel_rfl) ?_ _
 refine NoPanic.normal ?_
 go_wp2_with fail
 go_ret
 refine ⟨rfl, ?_, grown_lift hb5' hg6⟩
 rw [val_w, Hx.out.1, sgn_of] at hi6
 exact hi6
set_option maxRecDepth 100000 in
set_option maxHeartbeats 4000000 in
theorem setc2_any {w : World} {g gx : Nat} {x : Int} (hz : IntS w g) (hx : IntC w gx 2 x) (hxl : (wds x.natAbs).length ≤ 900000000) :
  Calls Tryz.prog 97 #[.pointer (some ⟨g, 0, none⟩), .pointer (some ⟨gx, 2, none⟩)] w (Puts w g x) := by
 obtain ⟨sx, Ax, nx, cx, x0, x1, Hx, hxc, hxcl, rx⟩ := hx.opened
 have glx := hx.lt'
 have Hr := Lib.hid (And.intro rx hxl)
 clear rx hxl
 go_enter Tryz.func97, Tryz.ntmps97
 go_wp2_with fail
 refine wp_region_noPanic ?_
 refine wp_region_HK (fun w' => (w'.cell? ⟨gx, 2, none⟩ = some (.bool sx) ∧ w'.cell? ⟨gx, 3, none⟩ = some (.slice Ax nx cx))) 10 (by kernel_rfl) ⟨x0, x1⟩ (fun hHeld => ?_)
 refine wpHK_take (i := 0) (oi := Oper.mk (some 5) _ _ _ _ _) (v := ?_) rfl (by kernel_rfl) (by kernel_rfl) (by kernel_rfl) (by kernel_rfl) (fun _ _ _ h => h) (Or.inl ⟨by rfl, ?_⟩) (by assumption) ?_
 rotate_left
 ·(intro w' hSw; (try dsimp only at hSw); (obtain ⟨s1, s2⟩ := hSw); go_simp; try with_reducible rfl)
 try simp only [Act.put, List.setIfInBounds_toArray, List.set_cons_zero, List.set_cons_succ]
 refine wpHK_take (i := 1) (oi := Oper.mk (some 6) _ _ _ _ _) (v := ?_) rfl (by kernel_rfl) (by kernel_rfl) (by kernel_rfl) (by kernel_rfl) (fun _ _ _ h => h) (Or.inl ⟨by rfl, ?_⟩) (by assumption) ?_
 rotate_left
 ·(intro w' hSw; (try dsimp only at hSw); (obtain ⟨s1, s2⟩ := hSw); go_simp; try with_reducible rfl)
 try simp only [Act.put, List.setIfInBounds_toArray, List.set_cons_zero, List.set_cons_succ]
 refine wpHK_take (i := 2) (oi := Oper.mk (some 7) _ _ _ _ _) (v := ?_) rfl (by kernel_rfl) (by kernel_rfl) (by kernel_rfl) (by kernel_rfl) (fun _ _ _ h => h) (Or.inl ⟨by rfl, ?_⟩) (by assumption) ?_
 rotate_left
 ·(intro w' hSw; (try dsimp only at hSw); (obtain ⟨s1, s2⟩ := hSw); go_simp; try with_reducible rfl)
 try simp only [Act.put, List.setIfInBounds_toArray, List.set_cons_zero, List.set_cons_succ]
 refine wpHK_take (i := 3) (oi := Oper.mk (some 8) _ _ _ _ _) (v := ?_) rfl (by kernel_rfl) (by kernel_rfl) (by kernel_rfl) (by kernel_rfl) (fun _ _ _ h => h) (Or.inl ⟨by rfl, ?_⟩) (by assumption) ?_
 rotate_left
 ·(intro w' hSw; (try dsimp only at hSw); (obtain ⟨s1, s2⟩ := hSw); go_simp; try with_reducible rfl)
 try simp only [Act.put, List.setIfInBounds_toArray, List.set_cons_zero, List.set_cons_succ]
 refine wpHK_take (i := 4) (oi := Oper.mk (some 9) _ _ _ _ _) (v := ?_) rfl (by kernel_rfl) (by kernel_rfl) (by kernel_rfl) (by kernel_rfl) (fun _ _ _ h => h) (Or.inl ⟨by rfl, ?_⟩) (by assumption) ?_
 rotate_left
 ·(intro w' hSw; (try dsimp only at hSw); (obtain ⟨s1, s2⟩ := hSw); go_simp; try with_reducible rfl)
 try simp only [Act.put, List.setIfInBounds_toArray, List.set_cons_zero, List.set_cons_succ]
 refine wpHK_take (i := 5) (oi := Oper.mk (some 10) _ _ _ _ _) (v := ?_) rfl (by kernel_rfl) (by kernel_rfl) (by kernel_rfl) (by kernel_rfl) (fun _ _ _ h => h) (Or.inl ⟨by rfl, ?_⟩) (by assumption) ?_
 rotate_left
 ·(intro w' hSw; (try dsimp only at hSw); (obtain ⟨s1, s2⟩ := hSw); go_simp; try with_reducible rfl)
 try simp only [Act.put, List.setIfInBounds_toArray, List.set_cons_zero, List.set_cons_succ]
 refine wpHK_take (i := 6) (oi := Oper.mk (some 11) _ _ _ _ _) (v := ?_) rfl (by kernel_rfl) (by kernel_rfl) (by kernel_rfl) (by kernel_rfl) (fun _ _ _ h => h) (Or.inl ⟨by rfl, ?_⟩) (by assumption) ?_
 rotate_left
 ·(intro w' hSw; (try dsimp only at hSw); (obtain ⟨s1, s2⟩ := hSw); go_simp; try with_reducible rfl)
 try simp only [Act.put, List.setIfInBounds_toArray, List.set_cons_zero, List.set_cons_succ]
 refine wpHK_take (i := 7) (oi := Oper.mk (some 12) _ _ _ _ _) (v := ?_) rfl (by kernel_rfl) (by kernel_rfl) (by kernel_rfl) (by kernel_rfl) (fun _ _ _ h => h) (Or.inl ⟨by rfl, ?_⟩) (by assumption) ?_
 rotate_left
 ·(intro w' hSw; (try dsimp only at hSw); (obtain ⟨s1, s2⟩ := hSw); go_simp; try with_reducible rfl)
 try simp only [Act.put, List.setIfInBounds_toArray, List.set_cons_zero, List.set_cons_succ]
 refine wpHK_take (i := 8) (oi := Oper.mk (some 13) _ _ _ _ _) (v := ?_) rfl (by kernel_rfl) (by kernel_rfl) (by kernel_rfl) (by kernel_rfl) (fun _ _ _ h => h) (Or.inl ⟨by rfl, ?_⟩) (by assumption) ?_
 rotate_left
 ·(intro w' hSw; (try dsimp only at hSw); (obtain ⟨s1, s2⟩ := hSw); go_simp; try with_reducible rfl)
 try simp only [Act.put, List.setIfInBounds_toArray, List.set_cons_zero, List.set_cons_succ]
 refine wpHK_one (j := 9) (o := Oper.mk (some 14) _ _ _ _ _) rfl (by kernel_rfl) (fun K hK => ?_)
 refine stepW_append (by rfl) (.const (.slice none 0 0)) (.tmp 13) (by rfl) w.heap.size _ [] (OwnW.nil _ _) (by rfl) _ _ (wds x.natAbs) (Hr.out.1.drewN 1) nx cx Hx.out.2 (by rfl) (by have := Hr.out.2; simp only [List.length_nil]; omega) (Nat.le_refl _) ?_
 intro A5 n5 c5 w5 ho5 hg5
 rw [List.nil_append] at ho5
 have hb5 := below_of_grown hg5
 have hb5' : Below w.heap.size w w5 := undrew hb5
 have bcell5 : ∀ {b o : Nat}, b < w.heap.size → w5.cell? ⟨b, o, none⟩ = w.cell? ⟨b, o, none⟩ := fun {b o} h => hb5'.cell (p := ⟨b, o, none⟩) h
 have hz5 := hz.below hb5'
 have hC5 : (w5.cell? ⟨gx, 2, none⟩ = some (.bool sx) ∧ w5.cell? ⟨gx, 3, none⟩ = some (.slice Ax nx cx)) := ⟨(bcell5 glx).trans x0, (bcell5 glx).trans x1⟩
 refine hK.out _ _ hC5 (fun _ => ?_)
 clear hK K hHeld
 have hHeld := hC5
 try simp only [Act.put, List.setIfInBounds_toArray, List.set_cons_zero, List.set_cons_succ]
 refine wpHK_tail (j := 10) (o := Oper.mk (some 15) _ _ _ _ _) rfl (by kernel_rfl) (by decide) (fun K hK => ?_)
 go_simp
 refine (is_any _ hz5 ho5.reads (Nat.le_refl _) ho5.len.1 ho5.len.2.1 ho5.len.2.2 (wd_w _)).mono ?_
 rintro e w6 ⟨rfl, hi6, hg6⟩
 try simp only []
 refine hK.out _ _ ?_
 clear hK K
 try simp only [Act.put, List.setIfInBounds_toArray, List.set_cons_zero, List.set_cons_succ]
 refine wpHK_assign (j := 11) (o := Oper.mk (some 4) _ _ _ _ _) rfl (by kernel_rfl) (by decide) rfl rfl ?_
 try simp only [Act.put, List.setIfInBounds_toArray, List.set_cons_zero, List.set_cons_succ]
 refine wpHK_done (by kernel_rfl) ?_ _
 refine NoPanic.normal ?_
 go_wp2_with fail
 go_ret
 refine ⟨rfl, ?_, grown_lift hb5' hg6⟩
 rw [val_w, Hx.out.1, sgn_of] at hi6
 exact hi6
def NewI (w : World) (z : Int) (e : Ending) (w' : World) : Prop := ∃ g, e = .returned (.pointer (some ⟨g, 0, none⟩)) ∧ w.heap.size ≤ g ∧ IntB w' g z ∧ Below w.heap.size w w'
set_option maxRecDepth 100000 in
theorem den_any {w : World} {g : Nat} {a b : Int} (h : RatB w g a b) :
  Calls Tryz.prog 99 #[.pointer (some ⟨g, 0, none⟩)] w fun e w' => e = .returned (.pointer (some ⟨g, 2, none⟩)) ∧ w = w' := by
 obtain ⟨s, A, n, c, c0, c1, Hn, hnc, hcl, hr⟩ := h.den
 have hn0 : ¬ (n : Int) = 0 := by
  have h1 := Hn.out.2
  have h2 := (len_pos (x := b)).2 (by have := h.pos; omega)
  omega
 have hn1 : ((n : Int) == 0) = false := by simpa using hn0
 clear h hr Hn
 go_enter Tryz.func99, Tryz.ntmps99
 go_wp2_with fail
 go_ret
 exact ⟨rfl, rfl⟩
set_option maxRecDepth 100000 in
theorem num_new {w : World} {g : Nat} {a b : Int} (h : RatB w g a b) (hl : (wds a.natAbs).length ≤ 900000000) :
  Calls Tryz.prog 64 #[.pointer (some ⟨g, 0, none⟩)] w (NewI w a) := by
 have H := Lib.hid (setc0_any (IntB.zero w).slot (h.num.below ((Below.refl _ _).alloc (Nat.le_refl _) _)) hl)
 clear h hl
 go_enter Tryz.func64, Tryz.ntmps64
 go_wp2_with (go_at_call 97; (with_reducible refine H.out.mono ?_); rintro _ W1 ⟨rfl, hi, hg⟩)
 go_ret
 exact ⟨_, rfl, Nat.le_refl _, hi, below_new hg⟩
set_option maxRecDepth 100000 in
theorem denom_new {w : World} {g : Nat} {a b : Int} (h : RatB w g a b) (hl : (wds b.natAbs).length ≤ 900000000) :
  Calls Tryz.prog 66 #[.pointer (some ⟨g, 0, none⟩)] w (NewI w b) := by
 have H := Lib.hid (setc2_any (IntB.zero w).slot (h.den.below ((Below.refl _ _).alloc (Nat.le_refl _) _)) hl)
 have HD := Lib.hid (den_any (h.below ((Below.refl _ _).alloc (Nat.le_refl _) (.cells #[.bool false, .slice none 0 0] 151))))
 clear h hl
 go_enter Tryz.func66, Tryz.ntmps66
 go_wp2_with (first | (go_at_call 99; (with_reducible refine HD.out.mono ?_); rintro _ _ ⟨rfl, rfl⟩) | (go_at_call 97; (with_reducible refine H.out.mono ?_); rintro _ W1 ⟨rfl, hi, hg⟩))
 go_ret
 exact ⟨_, rfl, Nat.le_refl _, hi, below_new hg⟩
set_option maxRecDepth 100000 in
set_option maxHeartbeats 4000000 in
theorem mulC {w : World} {g gx gy ox oy : Nat} {x y : Int} (hz : IntS w g) (hx : IntC w gx ox x) (hy : IntC w gy oy y) (hxl : (wds x.natAbs).length ≤ 900000000) (hyl : (wds y.natAbs).length ≤ 900000000) :
  Calls Tryz.prog 116 #[.pointer (some ⟨g, 0, none⟩), .pointer (some ⟨gx, ox, none⟩), .pointer (some ⟨gy, oy, none⟩)] w (Puts w g (x * y)) := by
 obtain ⟨sx, Ax, nx, cx, x0, x1, Hx, hxc, hxcl, rx⟩ := hx.opened
 obtain ⟨sy, Ay, ny, cy, y0, y1, Hy, hyc, hycl, ry⟩ := hy.opened
 have glx := hx.lt'
 have gly := hy.lt'
 have Hp := Lib.hid (product_any (c := cx) (d := cy) (rx.drewN 1) (ry.drewN 1) (Nat.le_refl _) Hx.out.2 Hy.out.2 (by have := Hx.out.2; omega) (by have := Hy.out.2; omega) (wd_w _) (wd_w _))
 clear rx ry hxl hyl
 go_enter Tryz.func116, Tryz.ntmps116
 go_wp2_with fail
 refine wp_region_noPanic ?_
 refine wp_region_HK (fun w' => (w'.cell? ⟨gx, ox, none⟩ = some (.bool sx) ∧ w'.cell? ⟨gx, ox + 1, none⟩ = some (.slice Ax nx cx)) ∧ (w'.cell? ⟨gy, oy, none⟩ = some (.bool sy) ∧ w'.cell? ⟨gy, oy + 1, none⟩ = some (.slice Ay ny cy))) 19 (by kernel_rfl) ⟨⟨x0, x1⟩, ⟨y0, y1⟩⟩ (fun hHeld => ?_)
 refine wpHK_take (i := 0) (oi := Oper.mk (some 7) _ _ _ _ _) (v := ?_) rfl (by kernel_rfl) (by kernel_rfl) (by kernel_rfl) (by kernel_rfl) (fun _ _ _ h => h) (Or.inl ⟨by rfl, ?_⟩) (by assumption) ?_
 rotate_left
 ·(intro w' hSw; (try dsimp only at hSw); (obtain ⟨⟨s1, s2⟩, ⟨s3, s4⟩⟩ := hSw); go_simp; try with_reducible rfl)
 try simp only [Act.put, List.setIfInBounds_toArray, List.set_cons_zero, List.set_cons_succ]
 refine wpHK_take (i := 1) (oi := Oper.mk (some 8) _ _ _ _ _) (v := ?_) rfl (by kernel_rfl) (by kernel_rfl) (by kernel_rfl) (by kernel_rfl) (fun _ _ _ h => h) (Or.inl ⟨by rfl, ?_⟩) (by assumption) ?_
 rotate_left
 ·(intro w' hSw; (try dsimp only at hSw); (obtain ⟨⟨s1, s2⟩, ⟨s3, s4⟩⟩ := hSw); go_simp; try with_reducible rfl)
 try simp only [Act.put, List.setIfInBounds_toArray, List.set_cons_zero, List.set_cons_succ]
 refine wpHK_take (i := 2) (oi := Oper.mk (some 9) _ _ _ _ _) (v := ?_) rfl (by kernel_rfl) (by kernel_rfl) (by kernel_rfl) (by kernel_rfl) (fun _ _ _ h => h) (Or.inl ⟨by rfl, ?_⟩) (by assumption) ?_
 rotate_left
 ·(intro w' hSw; (try dsimp only at hSw); (obtain ⟨⟨s1, s2⟩, ⟨s3, s4⟩⟩ := hSw); go_simp; try with_reducible rfl)
 try simp only [Act.put, List.setIfInBounds_toArray, List.set_cons_zero, List.set_cons_succ]
 refine wpHK_take (i := 3) (oi := Oper.mk (some 10) _ _ _ _ _) (v := ?_) rfl (by kernel_rfl) (by kernel_rfl) (by kernel_rfl) (by kernel_rfl) (fun _ _ _ h => h) (Or.inl ⟨by rfl, ?_⟩) (by assumption) ?_
 rotate_left
 ·(intro w' hSw; (try dsimp only at hSw); (obtain ⟨⟨s1, s2⟩, ⟨s3, s4⟩⟩ := hSw); go_simp; try with_reducible rfl)
 try simp only [Act.put, List.setIfInBounds_toArray, List.set_cons_zero, List.set_cons_succ]
 refine wpHK_take (i := 4) (oi := Oper.mk (some 11) _ _ _ _ _) (v := ?_) rfl (by kernel_rfl) (by kernel_rfl) (by kernel_rfl) (by kernel_rfl) (fun _ _ _ h => h) (Or.inl ⟨by rfl, ?_⟩) (by assumption) ?_
 rotate_left
 ·(intro w' hSw; (try dsimp only at hSw); (obtain ⟨⟨s1, s2⟩, ⟨s3, s4⟩⟩ := hSw); go_simp; try with_reducible rfl)
 try simp only [Act.put, List.setIfInBounds_toArray, List.set_cons_zero, List.set_cons_succ]
 refine wpHK_take (i := 5) (oi := Oper.mk (some 12) _ _ _ _ _) (v := ?_) rfl (by kernel_rfl) (by kernel_rfl) (by kernel_rfl) (by kernel_rfl) (fun _ _ _ h => h) (Or.inl ⟨by rfl, ?_⟩) (by assumption) ?_
 rotate_left
 ·(intro w' hSw; (try dsimp only at hSw); (obtain ⟨⟨s1, s2⟩, ⟨s3, s4⟩⟩ := hSw); go_simp; try with_reducible rfl)
 try simp only [Act.put, List.setIfInBounds_toArray, List.set_cons_zero, List.set_cons_succ]
 refine wpHK_take (i := 6) (oi := Oper.mk (some 13) _ _ _ _ _) (v := ?_) rfl (by kernel_rfl) (by kernel_rfl) (by kernel_rfl) (by kernel_rfl) (fun _ _ _ h => h) (Or.inl ⟨by rfl, ?_⟩) (by assumption) ?_
 rotate_left
 ·(intro w' hSw; (try dsimp only at hSw); (obtain ⟨⟨s1, s2⟩, ⟨s3, s4⟩⟩ := hSw); go_simp; try with_reducible rfl)
 try simp only [Act.put, List.setIfInBounds_toArray, List.set_cons_zero, List.set_cons_succ]
 refine wpHK_take (i := 7) (oi := Oper.mk (some 14) _ _ _ _ _) (v := ?_) rfl (by kernel_rfl) (by kernel_rfl) (by kernel_rfl) (by kernel_rfl) (fun _ _ _ h => h) (Or.inl ⟨by rfl, ?_⟩) (by assumption) ?_
 rotate_left
 ·(intro w' hSw; (try dsimp only at hSw); (obtain ⟨⟨s1, s2⟩, ⟨s3, s4⟩⟩ := hSw); go_simp; try with_reducible rfl)
 try simp only [Act.put, List.setIfInBounds_toArray, List.set_cons_zero, List.set_cons_succ]
 refine wpHK_take (i := 8) (oi := Oper.mk (some 15) _ _ _ _ _) (v := ?_) rfl (by kernel_rfl) (by kernel_rfl) (by kernel_rfl) (by kernel_rfl) (fun _ _ _ h => h) (Or.inl ⟨by rfl, ?_⟩) (by assumption) ?_
 rotate_left
 ·(intro w' hSw; (try dsimp only at hSw); (obtain ⟨⟨s1, s2⟩, ⟨s3, s4⟩⟩ := hSw); go_simp; try with_reducible rfl)
 try simp only [Act.put, List.setIfInBounds_toArray, List.set_cons_zero, List.set_cons_succ]
 refine wpHK_take (i := 9) (oi := Oper.mk (some 16) _ _ _ _ _) (v := ?_) rfl (by kernel_rfl) (by kernel_rfl) (by kernel_rfl) (by kernel_rfl) (fun _ _ _ h => h) (Or.inl ⟨by rfl, ?_⟩) (by assumption) ?_
 rotate_left
 ·(intro w' hSw; (try dsimp only at hSw); (obtain ⟨⟨s1, s2⟩, ⟨s3, s4⟩⟩ := hSw); go_simp; try with_reducible rfl)
 try simp only [Act.put, List.setIfInBounds_toArray, List.set_cons_zero, List.set_cons_succ]
 refine wpHK_take (i := 10) (oi := Oper.mk (some 17) _ _ _ _ _) (v := ?_) rfl (by kernel_rfl) (by kernel_rfl) (by kernel_rfl) (by kernel_rfl) (fun _ _ _ h => h) (Or.inl ⟨by rfl, ?_⟩) (by assumption) ?_
 rotate_left
 ·(intro w' hSw; (try dsimp only at hSw); (obtain ⟨⟨s1, s2⟩, ⟨s3, s4⟩⟩ := hSw); go_simp; try with_reducible rfl)
 try simp only [Act.put, List.setIfInBounds_toArray, List.set_cons_zero, List.set_cons_succ]
 refine wpHK_take (i := 11) (oi := Oper.mk (some 18) _ _ _ _ _) (v := ?_) rfl (by kernel_rfl) (by kernel_rfl) (by kernel_rfl) (by kernel_rfl) (fun _ _ _ h => h) (Or.inl ⟨by rfl, ?_⟩) (by assumption) ?_
 rotate_left
 ·(intro w' hSw; (try dsimp only at hSw); (obtain ⟨⟨s1, s2⟩, ⟨s3, s4⟩⟩ := hSw); go_simp; try with_reducible rfl)
 try simp only [Act.put, List.setIfInBounds_toArray, List.set_cons_zero, List.set_cons_succ]
 refine wpHK_take (i := 12) (oi := Oper.mk (some 19) _ _ _ _ _) (v := ?_) rfl (by kernel_rfl) (by kernel_rfl) (by kernel_rfl) (by kernel_rfl) (fun _ _ _ h => h) (Or.inl ⟨by rfl, ?_⟩) (by assumption) ?_
 rotate_left
 ·(intro w' hSw; (try dsimp only at hSw); (obtain ⟨⟨s1, s2⟩, ⟨s3, s4⟩⟩ := hSw); go_simp; try with_reducible rfl)
 try simp only [Act.put, List.setIfInBounds_toArray, List.set_cons_zero, List.set_cons_succ]
 refine wpHK_take (i := 13) (oi := Oper.mk (some 20) _ _ _ _ _) (v := ?_) rfl (by kernel_rfl) (by kernel_rfl) (by kernel_rfl) (by kernel_rfl) (fun _ _ _ h => h) (Or.inl ⟨by rfl, ?_⟩) (by assumption) ?_
 rotate_left
 ·(intro w' hSw; (try dsimp only at hSw); (obtain ⟨⟨s1, s2⟩, ⟨s3, s4⟩⟩ := hSw); go_simp; try with_reducible rfl)
 try simp only [Act.put, List.setIfInBounds_toArray, List.set_cons_zero, List.set_cons_succ]
 refine wpHK_take (i := 14) (oi := Oper.mk (some 21) _ _ _ _ _) (v := ?_) rfl (by kernel_rfl) (by kernel_rfl) (by kernel_rfl) (by kernel_rfl) (fun _ _ _ h => h) (Or.inl ⟨by rfl, ?_⟩) (by assumption) ?_
 rotate_left
 ·(intro w' hSw; (try dsimp only at hSw); (obtain ⟨⟨s1, s2⟩, ⟨s3, s4⟩⟩ := hSw); go_simp; try with_reducible rfl)
 try simp only [Act.put, List.setIfInBounds_toArray, List.set_cons_zero, List.set_cons_succ]
 refine wpHK_take (i := 15) (oi := Oper.mk (some 22) _ _ _ _ _) (v := ?_) rfl (by kernel_rfl) (by kernel_rfl) (by kernel_rfl) (by kernel_rfl) (fun _ _ _ h => h) (Or.inl ⟨by rfl, ?_⟩) (by assumption) ?_
 rotate_left
 ·(intro w' hSw; (try dsimp only at hSw); (obtain ⟨⟨s1, s2⟩, ⟨s3, s4⟩⟩ := hSw); go_simp; try with_reducible rfl)
 try simp only [Act.put, List.setIfInBounds_toArray, List.set_cons_zero, List.set_cons_succ]
 refine wpHK_take (i := 16) (oi := Oper.mk (some 23) _ _ _ _ _) (v := ?_) rfl (by kernel_rfl) (by kernel_rfl) (by kernel_rfl) (by kernel_rfl) (fun _ _ _ h => h) (Or.inl ⟨by rfl, ?_⟩) (by assumption) ?_
 rotate_left
 ·(intro w' hSw; (try dsimp only at hSw); (obtain ⟨⟨s1, s2⟩, ⟨s3, s4⟩⟩ := hSw); go_simp; try with_reducible rfl)
 try simp only [Act.put, List.setIfInBounds_toArray, List.set_cons_zero, List.set_cons_succ]
 refine wpHK_take (i := 17) (oi := Oper.mk (some 24) _ _ _ _ _) (v := ?_) rfl (by kernel_rfl) (by kernel_rfl) (by kernel_rfl) (by kernel_rfl) (fun _ _ _ h => h) (Or.inl ⟨by rfl, ?_⟩) (by assumption) ?_
 rotate_left
 ·(intro w' hSw; (try dsimp only at hSw); (obtain ⟨⟨s1, s2⟩, ⟨s3, s4⟩⟩ := hSw); go_simp; try with_reducible rfl)
 try simp only [Act.put, List.setIfInBounds_toArray, List.set_cons_zero, List.set_cons_succ]
 refine wpHK_one (j := 18) (o := Oper.mk (some 25) _ _ _ _ _) rfl (by kernel_rfl) (fun K hK => ?_)
 go_simp
 refine (Hp.out).mono ?_
 rintro e w5 ⟨A5, l5, rfl, hw5, hv5, hr5, hb5, hcl5⟩
 try simp only []
 have hb5' : Below w.heap.size w w5 := undrew hb5
 have bcell5 : ∀ {b o : Nat}, b < w.heap.size → w5.cell? ⟨b, o, none⟩ = w.cell? ⟨b, o, none⟩ := fun {b o} h => hb5'.cell (p := ⟨b, o, none⟩) h
 have hz5 := hz.below hb5'
 have hC5 : (w5.cell? ⟨gx, ox, none⟩ = some (.bool sx) ∧ w5.cell? ⟨gx, ox + 1, none⟩ = some (.slice Ax nx cx)) ∧ (w5.cell? ⟨gy, oy, none⟩ = some (.bool sy) ∧ w5.cell? ⟨gy, oy + 1, none⟩ = some (.slice Ay ny cy)) := ⟨⟨(bcell5 glx).trans x0, (bcell5 glx).trans x1⟩, ⟨(bcell5 gly).trans y0, (bcell5 gly).trans y1⟩⟩
 refine hK.out _ _ hC5 (fun _ => ?_)
 clear hK K hHeld
 have hHeld := hC5
 try simp only [Act.put, List.setIfInBounds_toArray, List.set_cons_zero, List.set_cons_succ]
 refine wpHK_tail (j := 19) (o := Oper.mk (some 26) _ _ _ _ _) rfl (by kernel_rfl) (by decide) (fun K hK => ?_)
 go_simp
 refine (is_any _ hz5 hr5 (Nat.le_refl _) rfl (Nat.le_refl _) hcl5 hw5).mono ?_
 rintro e w6 ⟨rfl, hi6, hg6⟩
 try simp only []
 refine hK.out _ _ ?_
 clear hK K
 try simp only [Act.put, List.setIfInBounds_toArray, List.set_cons_zero, List.set_cons_succ]
 refine wpHK_assign (j := 20) (o := Oper.mk (some 6) _ _ _ _ _) rfl (by kernel_rfl) (by decide) rfl rfl ?_
 try simp only [Act.put, List.setIfInBounds_toArray, List.set_cons_zero, List.set_cons_succ]
 refine wpHK_done (by kernel_rfl) ?_ _
 refine NoPanic.normal ?_
 go_wp2_with fail
 go_ret
 refine ⟨rfl, ?_, grown_lift hb5' hg6⟩
 have e : sgn (!(decide (x < 0) == decide (y < 0))) (x.natAbs * y.natAbs) = x * y := sgn_mul x y
 rw [hv5, val_w, val_w, Hx.out.1, Hy.out.1, e] at hi6
 exact hi6
set_option maxRecDepth 100000 in
set_option maxHeartbeats 4000000 in
theorem addC_same {w : World} {g gx gy ox oy : Nat} {x y : Int} {neg : Bool} (hz : IntS w g) (hx : IntC w gx ox x) (hy : IntC w gy oy y) (hxl : (wds x.natAbs).length ≤ 900000000) (hyl : (wds y.natAbs).length ≤ 900000000) (hn : neg = decide (x < 0)) :
  Calls Tryz.prog 130 #[.pointer (some ⟨g, 0, none⟩), .pointer (some ⟨gx, ox, none⟩), .pointer (some ⟨gy, oy, none⟩), .bool neg] w (Puts w g (x + sgn neg y.natAbs)) := by
 obtain ⟨sx, Ax, nx, cx, x0, x1, Hx, hxc, hxcl, rx⟩ := hx.opened
 obtain ⟨sy, Ay, ny, cy, y0, y1, Hy, hyc, hycl, ry⟩ := hy.opened
 have glx := hx.lt'
 have gly := hy.lt'
 have Hp := Lib.hid (more_any (c := cx) (d := cy) (rx.drewN 1) (ry.drewN 1) (Nat.le_refl _) Hx.out.2 Hy.out.2 (by have := Hx.out.2; omega) (by have := Hy.out.2; omega) (wd_w _) (wd_w _))
 obtain rfl : sx = neg := by rw [hn]; exact Hx.out.1
 have Hn := Lib.hid hn
 clear rx ry hxl hyl hn
 go_enter Tryz.func130, Tryz.ntmps130
 go_wp2_with fail
 refine wp_region_noPanic ?_
 refine wp_region_HK (fun w' => (w'.cell? ⟨gx, ox, none⟩ = some (.bool sx) ∧ w'.cell? ⟨gx, ox + 1, none⟩ = some (.slice Ax nx cx)) ∧ (w'.cell? ⟨gy, oy, none⟩ = some (.bool sy) ∧ w'.cell? ⟨gy, oy + 1, none⟩ = some (.slice Ay ny cy))) 11 (by kernel_rfl) ⟨⟨x0, x1⟩, ⟨y0, y1⟩⟩ (fun hHeld => ?_)
 refine wpHK_take (i := 0) (oi := Oper.mk (some 16) _ _ _ _ _) (v := ?_) rfl (by kernel_rfl) (by kernel_rfl) (by kernel_rfl) (by kernel_rfl) (fun _ _ _ h => h) (Or.inl ⟨by rfl, ?_⟩) (by assumption) ?_
 rotate_left
 ·(intro w' hSw; (try dsimp only at hSw); (obtain ⟨⟨s1, s2⟩, ⟨s3, s4⟩⟩ := hSw); go_simp; try with_reducible rfl)
 try simp only [Act.put, List.setIfInBounds_toArray, List.set_cons_zero, List.set_cons_succ]
 refine wpHK_take (i := 1) (oi := Oper.mk (some 17) _ _ _ _ _) (v := ?_) rfl (by kernel_rfl) (by kernel_rfl) (by kernel_rfl) (by kernel_rfl) (fun _ _ _ h => h) (Or.inl ⟨by rfl, ?_⟩) (by assumption) ?_
 rotate_left
 ·(intro w' hSw; (try dsimp only at hSw); (obtain ⟨⟨s1, s2⟩, ⟨s3, s4⟩⟩ := hSw); go_simp; try with_reducible rfl)
 try simp only [Act.put, List.setIfInBounds_toArray, List.set_cons_zero, List.set_cons_succ]
 refine wpHK_take (i := 2) (oi := Oper.mk (some 18) _ _ _ _ _) (v := ?_) rfl (by kernel_rfl) (by kernel_rfl) (by kernel_rfl) (by kernel_rfl) (fun _ _ _ h => h) (Or.inl ⟨by rfl, ?_⟩) (by assumption) ?_
 rotate_left
 ·(intro w' hSw; (try dsimp only at hSw); (obtain ⟨⟨s1, s2⟩, ⟨s3, s4⟩⟩ := hSw); go_simp; try with_reducible rfl)
 try simp only [Act.put, List.setIfInBounds_toArray, List.set_cons_zero, List.set_cons_succ]
 refine wpHK_take (i := 3) (oi := Oper.mk (some 19) _ _ _ _ _) (v := ?_) rfl (by kernel_rfl) (by kernel_rfl) (by kernel_rfl) (by kernel_rfl) (fun _ _ _ h => h) (Or.inl ⟨by rfl, ?_⟩) (by assumption) ?_
 rotate_left
 ·(intro w' hSw; (try dsimp only at hSw); (obtain ⟨⟨s1, s2⟩, ⟨s3, s4⟩⟩ := hSw); go_simp; try with_reducible rfl)
 try simp only [Act.put, List.setIfInBounds_toArray, List.set_cons_zero, List.set_cons_succ]
 refine wpHK_take (i := 4) (oi := Oper.mk (some 20) _ _ _ _ _) (v := ?_) rfl (by kernel_rfl) (by kernel_rfl) (by kernel_rfl) (by kernel_rfl) (fun _ _ _ h => h) (Or.inl ⟨by rfl, ?_⟩) (by assumption) ?_
 rotate_left
 ·(intro w' hSw; (try dsimp only at hSw); (obtain ⟨⟨s1, s2⟩, ⟨s3, s4⟩⟩ := hSw); go_simp; try with_reducible rfl)
 try simp only [Act.put, List.setIfInBounds_toArray, List.set_cons_zero, List.set_cons_succ]
 refine wpHK_take (i := 5) (oi := Oper.mk (some 21) _ _ _ _ _) (v := ?_) rfl (by kernel_rfl) (by kernel_rfl) (by kernel_rfl) (by kernel_rfl) (fun _ _ _ h => h) (Or.inl ⟨by rfl, ?_⟩) (by assumption) ?_
 rotate_left
 ·(intro w' hSw; (try dsimp only at hSw); (obtain ⟨⟨s1, s2⟩, ⟨s3, s4⟩⟩ := hSw); go_simp; try with_reducible rfl)
 try simp only [Act.put, List.setIfInBounds_toArray, List.set_cons_zero, List.set_cons_succ]
 refine wpHK_take (i := 6) (oi := Oper.mk (some 22) _ _ _ _ _) (v := ?_) rfl (by kernel_rfl) (by kernel_rfl) (by kernel_rfl) (by kernel_rfl) (fun _ _ _ h => h) (Or.inl ⟨by rfl, ?_⟩) (by assumption) ?_
 rotate_left
 ·(intro w' hSw; (try dsimp only at hSw); (obtain ⟨⟨s1, s2⟩, ⟨s3, s4⟩⟩ := hSw); go_simp; try with_reducible rfl)
 try simp only [Act.put, List.setIfInBounds_toArray, List.set_cons_zero, List.set_cons_succ]
 refine wpHK_take (i := 7) (oi := Oper.mk (some 23) _ _ _ _ _) (v := ?_) rfl (by kernel_rfl) (by kernel_rfl) (by kernel_rfl) (by kernel_rfl) (fun _ _ _ h => h) (Or.inl ⟨by rfl, ?_⟩) (by assumption) ?_
 rotate_left
 ·(intro w' hSw; (try dsimp only at hSw); (obtain ⟨⟨s1, s2⟩, ⟨s3, s4⟩⟩ := hSw); go_simp; try with_reducible rfl)
 try simp only [Act.put, List.setIfInBounds_toArray, List.set_cons_zero, List.set_cons_succ]
 refine wpHK_take (i := 8) (oi := Oper.mk (some 24) _ _ _ _ _) (v := ?_) rfl (by kernel_rfl) (by kernel_rfl) (by kernel_rfl) (by kernel_rfl) (fun _ _ _ h => h) (Or.inl ⟨by rfl, ?_⟩) (by assumption) ?_
 rotate_left
 ·(intro w' hSw; (try dsimp only at hSw); (obtain ⟨⟨s1, s2⟩, ⟨s3, s4⟩⟩ := hSw); go_simp; try with_reducible rfl)
 try simp only [Act.put, List.setIfInBounds_toArray, List.set_cons_zero, List.set_cons_succ]
 refine wpHK_take (i := 9) (oi := Oper.mk (some 25) _ _ _ _ _) (v := ?_) rfl (by kernel_rfl) (by kernel_rfl) (by kernel_rfl) (by kernel_rfl) (fun _ _ _ h => h) (Or.inl ⟨by rfl, ?_⟩) (by assumption) ?_
 rotate_left
 ·(intro w' hSw; (try dsimp only at hSw); (obtain ⟨⟨s1, s2⟩, ⟨s3, s4⟩⟩ := hSw); go_simp; try with_reducible rfl)
 try simp only [Act.put, List.setIfInBounds_toArray, List.set_cons_zero, List.set_cons_succ]
 refine wpHK_one (j := 10) (o := Oper.mk (some 26) _ _ _ _ _) rfl (by kernel_rfl) (fun K hK => ?_)
 go_simp
 refine (Hp.out).mono ?_
 rintro e w5 ⟨A5, l5, rfl, hw5, hv5, hr5, hb5, hcl5⟩
 try simp only []
 have hb5' : Below w.heap.size w w5 := undrew hb5
 have bcell5 : ∀ {b o : Nat}, b < w.heap.size → w5.cell? ⟨b, o, none⟩ = w.cell? ⟨b, o, none⟩ := fun {b o} h => hb5'.cell (p := ⟨b, o, none⟩) h
 have hz5 := hz.below hb5'
 have hC5 : (w5.cell? ⟨gx, ox, none⟩ = some (.bool sx) ∧ w5.cell? ⟨gx, ox + 1, none⟩ = some (.slice Ax nx cx)) ∧ (w5.cell? ⟨gy, oy, none⟩ = some (.bool sy) ∧ w5.cell? ⟨gy, oy + 1, none⟩ = some (.slice Ay ny cy)) := ⟨⟨(bcell5 glx).trans x0, (bcell5 glx).trans x1⟩, ⟨(bcell5 gly).trans y0, (bcell5 gly).trans y1⟩⟩
 refine hK.out _ _ hC5 (fun _ => ?_)
 clear hK K hHeld
 have hHeld := hC5
 try simp only [Act.put, List.setIfInBounds_toArray, List.set_cons_zero, List.set_cons_succ]
 refine wpHK_tail (j := 11) (o := Oper.mk (some 27) _ _ _ _ _) rfl (by kernel_rfl) (by decide) (fun K hK => ?_)
 go_simp
 refine (is_any _ hz5 hr5 (Nat.le_refl _) rfl (Nat.le_refl _) hcl5 hw5).mono ?_
 rintro e w6 ⟨rfl, hi6, hg6⟩
 try simp only []
 refine hK.out _ _ ?_
 clear hK K
 try simp only [Act.put, List.setIfInBounds_toArray, List.set_cons_zero, List.set_cons_succ]
 refine wpHK_assign (j := 12) (o := Oper.mk (some 8) _ _ _ _ _) rfl (by kernel_rfl) (by decide) rfl rfl ?_
 try simp only [Act.put, List.setIfInBounds_toArray, List.set_cons_zero, List.set_cons_succ]
 refine wpHK_done (by kernel_rfl) ?_ _
 refine NoPanic.normal ?_
 go_wp2_with fail
 go_ret
 refine ⟨rfl, ?_, grown_lift hb5' hg6⟩
 rw [hv5, val_w, val_w, Hx.out.1, add_s] at hi6
 rw [Hx.out.1]
 exact hi6
set_option maxRecDepth 100000 in
set_option maxHeartbeats 4000000 in
theorem addC_ge {w : World} {g gx gy ox oy : Nat} {x y : Int} {neg : Bool} (hz : IntS w g) (hx : IntC w gx ox x) (hy : IntC w gy oy y) (hxl : (wds x.natAbs).length ≤ 900000000) (hyl : (wds y.natAbs).length ≤ 900000000) (hn : neg ≠ decide (x < 0)) (hle : y.natAbs ≤ x.natAbs) :
  Calls Tryz.prog 130 #[.pointer (some ⟨g, 0, none⟩), .pointer (some ⟨gx, ox, none⟩), .pointer (some ⟨gy, oy, none⟩), .bool neg] w (Puts w g (x + sgn neg y.natAbs)) := by
 obtain ⟨sx, Ax, nx, cx, x0, x1, Hx, hxc, hxcl, rx⟩ := hx.opened
 obtain ⟨sy, Ay, ny, cy, y0, y1, Hy, hyc, hycl, ry⟩ := hy.opened
 have glx := hx.lt'
 have gly := hy.lt'
 obtain ⟨v, hv, hv0⟩ : ∃ v : Int, cmpN x.natAbs y.natAbs = v ∧ 0 ≤ v := by
  rcases Nat.lt_or_ge y.natAbs x.natAbs with h | h
  ·exact ⟨1, cmpN_gt h, by omega⟩
  ·exact ⟨0, cmpN_eq (by omega), by omega⟩
 have HU : Hid (∀ q, Calls Tryz.prog 127 #[.slice Ax nx cx, .slice Ay ny cy] (w.drewN q) (fun e w' => e = .returned (.int .i64 v) ∧ ∃ m, w' = (w.drewN q).drewN m)) := by
  intro q
  refine (under_any (rx.drewN q) (ry.drewN q) (c := cx) (d := cy) Hx.out.2 Hy.out.2 (by have := Hx.out.2; omega) (by have := Hy.out.2; omega)).mono ?_
  rintro e w' ⟨m, he, hw⟩
  exact ⟨by rw [he, hv], m, hw⟩
 have hsn : (sx == neg) = false := by
  have h1 := Hx.out.1
  rw [← h1] at hn
  cases sx <;> cases neg <;> first | rfl | exact absurd rfl hn
 have Hl := Lib.hid (And.intro hxl (And.intro hyl (And.intro hn hle)))
 have Hr := Lib.hid (And.intro rx ry)
 clear rx ry hxl hyl hn hv hle
 go_enter Tryz.func130, Tryz.ntmps130
 go_wp2_with fail
 go_quiet ((go_at_call 127; exact Calls.quiet_of (HU.out _)))
 go_wp2_with fail
 have Hp := Lib.hid (less_any (w := (w.drewN nq).drew) (B := w.heap.size) (c := cx) (d := cy) (show ReadsW ((w.drewN nq).drew) w.heap.size _ _ from Hr.out.1) (show ReadsW ((w.drewN nq).drew) w.heap.size _ _ from Hr.out.2) (Nat.le_refl _) Hx.out.2 Hy.out.2 (by have := Hx.out.2; have := Hl.out.1; omega) (by rw [Hx.out.2, Hy.out.2]; exact len_mono Hl.out.2.2.2) (by rw [val_w, val_w]; exact Hl.out.2.2.2) (wd_w _) (wd_w _))
 refine wp_region_noPanic ?_
 refine wp_region_HK (fun w' => (w'.cell? ⟨gx, ox, none⟩ = some (.bool sx) ∧ w'.cell? ⟨gx, ox + 1, none⟩ = some (.slice Ax nx cx)) ∧ (w'.cell? ⟨gy, oy, none⟩ = some (.bool sy) ∧ w'.cell? ⟨gy, oy + 1, none⟩ = some (.slice Ay ny cy))) 14 (by kernel_rfl) ⟨⟨x0, x1⟩, ⟨y0, y1⟩⟩ (fun hHeld => ?_)
 refine wpHK_take (i := 0) (oi := Oper.mk (some 39) _ _ _ _ _) (v := ?_) rfl (by kernel_rfl) (by kernel_rfl) (by kernel_rfl) (by kernel_rfl) (fun _ _ _ h => h) (Or.inl ⟨by rfl, ?_⟩) (by assumption) ?_
 rotate_left
 ·(intro w' hSw; (try dsimp only at hSw); (obtain ⟨⟨s1, s2⟩, ⟨s3, s4⟩⟩ := hSw); go_simp; try with_reducible rfl)
 try simp only [Act.put, List.setIfInBounds_toArray, List.set_cons_zero, List.set_cons_succ]
 refine wpHK_take (i := 1) (oi := Oper.mk (some 40) _ _ _ _ _) (v := ?_) rfl (by kernel_rfl) (by kernel_rfl) (by kernel_rfl) (by kernel_rfl) (fun _ _ _ h => h) (Or.inl ⟨by rfl, ?_⟩) (by assumption) ?_
 rotate_left
 ·(intro w' hSw; (try dsimp only at hSw); (obtain ⟨⟨s1, s2⟩, ⟨s3, s4⟩⟩ := hSw); go_simp; try with_reducible rfl)
 try simp only [Act.put, List.setIfInBounds_toArray, List.set_cons_zero, List.set_cons_succ]
 refine wpHK_take (i := 2) (oi := Oper.mk (some 41) _ _ _ _ _) (v := ?_) rfl (by kernel_rfl) (by kernel_rfl) (by kernel_rfl) (by kernel_rfl) (fun _ _ _ h => h) (Or.inl ⟨by rfl, ?_⟩) (by assumption) ?_
 rotate_left
 ·(intro w' hSw; (try dsimp only at hSw); (obtain ⟨⟨s1, s2⟩, ⟨s3, s4⟩⟩ := hSw); go_simp; try with_reducible rfl)
 try simp only [Act.put, List.setIfInBounds_toArray, List.set_cons_zero, List.set_cons_succ]
 refine wpHK_take (i := 3) (oi := Oper.mk (some 42) _ _ _ _ _) (v := ?_) rfl (by kernel_rfl) (by kernel_rfl) (by kernel_rfl) (by kernel_rfl) (fun _ _ _ h => h) (Or.inl ⟨by rfl, ?_⟩) (by assumption) ?_
 rotate_left
 ·(intro w' hSw; (try dsimp only at hSw); (obtain ⟨⟨s1, s2⟩, ⟨s3, s4⟩⟩ := hSw); go_simp; try with_reducible rfl)
 try simp only [Act.put, List.setIfInBounds_toArray, List.set_cons_zero, List.set_cons_succ]
 refine wpHK_take (i := 4) (oi := Oper.mk (some 43) _ _ _ _ _) (v := ?_) rfl (by kernel_rfl) (by kernel_rfl) (by kernel_rfl) (by kernel_rfl) (fun _ _ _ h => h) (Or.inl ⟨by rfl, ?_⟩) (by assumption) ?_
 rotate_left
 ·(intro w' hSw; (try dsimp only at hSw); (obtain ⟨⟨s1, s2⟩, ⟨s3, s4⟩⟩ := hSw); go_simp; try with_reducible rfl)
 try simp only [Act.put, List.setIfInBounds_toArray, List.set_cons_zero, List.set_cons_succ]
 refine wpHK_take (i := 5) (oi := Oper.mk (some 44) _ _ _ _ _) (v := ?_) rfl (by kernel_rfl) (by kernel_rfl) (by kernel_rfl) (by kernel_rfl) (fun _ _ _ h => h) (Or.inl ⟨by rfl, ?_⟩) (by assumption) ?_
 rotate_left
 ·(intro w' hSw; (try dsimp only at hSw); (obtain ⟨⟨s1, s2⟩, ⟨s3, s4⟩⟩ := hSw); go_simp; try with_reducible rfl)
 try simp only [Act.put, List.setIfInBounds_toArray, List.set_cons_zero, List.set_cons_succ]
 refine wpHK_take (i := 6) (oi := Oper.mk (some 45) _ _ _ _ _) (v := ?_) rfl (by kernel_rfl) (by kernel_rfl) (by kernel_rfl) (by kernel_rfl) (fun _ _ _ h => h) (Or.inl ⟨by rfl, ?_⟩) (by assumption) ?_
 rotate_left
 ·(intro w' hSw; (try dsimp only at hSw); (obtain ⟨⟨s1, s2⟩, ⟨s3, s4⟩⟩ := hSw); go_simp; try with_reducible rfl)
 try simp only [Act.put, List.setIfInBounds_toArray, List.set_cons_zero, List.set_cons_succ]
 refine wpHK_take (i := 7) (oi := Oper.mk (some 46) _ _ _ _ _) (v := ?_) rfl (by kernel_rfl) (by kernel_rfl) (by kernel_rfl) (by kernel_rfl) (fun _ _ _ h => h) (Or.inl ⟨by rfl, ?_⟩) (by assumption) ?_
 rotate_left
 ·(intro w' hSw; (try dsimp only at hSw); (obtain ⟨⟨s1, s2⟩, ⟨s3, s4⟩⟩ := hSw); go_simp; try with_reducible rfl)
 try simp only [Act.put, List.setIfInBounds_toArray, List.set_cons_zero, List.set_cons_succ]
 refine wpHK_take (i := 8) (oi := Oper.mk (some 47) _ _ _ _ _) (v := ?_) rfl (by kernel_rfl) (by kernel_rfl) (by kernel_rfl) (by kernel_rfl) (fun _ _ _ h => h) (Or.inl ⟨by rfl, ?_⟩) (by assumption) ?_
 rotate_left
 ·(intro w' hSw; (try dsimp only at hSw); (obtain ⟨⟨s1, s2⟩, ⟨s3, s4⟩⟩ := hSw); go_simp; try with_reducible rfl)
 try simp only [Act.put, List.setIfInBounds_toArray, List.set_cons_zero, List.set_cons_succ]
 refine wpHK_take (i := 9) (oi := Oper.mk (some 48) _ _ _ _ _) (v := ?_) rfl (by kernel_rfl) (by kernel_rfl) (by kernel_rfl) (by kernel_rfl) (fun _ _ _ h => h) (Or.inl ⟨by rfl, ?_⟩) (by assumption) ?_
 rotate_left
 ·(intro w' hSw; (try dsimp only at hSw); (obtain ⟨⟨s1, s2⟩, ⟨s3, s4⟩⟩ := hSw); go_simp; try with_reducible rfl)
 try simp only [Act.put, List.setIfInBounds_toArray, List.set_cons_zero, List.set_cons_succ]
 refine wpHK_take (i := 10) (oi := Oper.mk (some 49) _ _ _ _ _) (v := ?_) rfl (by kernel_rfl) (by kernel_rfl) (by kernel_rfl) (by kernel_rfl) (fun _ _ _ h => h) (Or.inl ⟨by rfl, ?_⟩) (by assumption) ?_
 rotate_left
 ·(intro w' hSw; (try dsimp only at hSw); (obtain ⟨⟨s1, s2⟩, ⟨s3, s4⟩⟩ := hSw); go_simp; try with_reducible rfl)
 try simp only [Act.put, List.setIfInBounds_toArray, List.set_cons_zero, List.set_cons_succ]
 refine wpHK_take (i := 11) (oi := Oper.mk (some 50) _ _ _ _ _) (v := ?_) rfl (by kernel_rfl) (by kernel_rfl) (by kernel_rfl) (by kernel_rfl) (fun _ _ _ h => h) (Or.inl ⟨by rfl, ?_⟩) (by assumption) ?_
 rotate_left
 ·(intro w' hSw; (try dsimp only at hSw); (obtain ⟨⟨s1, s2⟩, ⟨s3, s4⟩⟩ := hSw); go_simp; try with_reducible rfl)
 try simp only [Act.put, List.setIfInBounds_toArray, List.set_cons_zero, List.set_cons_succ]
 refine wpHK_take (i := 12) (oi := Oper.mk (some 51) _ _ _ _ _) (v := ?_) rfl (by kernel_rfl) (by kernel_rfl) (by kernel_rfl) (by kernel_rfl) (fun _ _ _ h => h) (Or.inl ⟨by rfl, ?_⟩) (by assumption) ?_
 rotate_left
 ·(intro w' hSw; (try dsimp only at hSw); (obtain ⟨⟨s1, s2⟩, ⟨s3, s4⟩⟩ := hSw); go_simp; try with_reducible rfl)
 try simp only [Act.put, List.setIfInBounds_toArray, List.set_cons_zero, List.set_cons_succ]
 refine wpHK_one (j := 13) (o := Oper.mk (some 52) _ _ _ _ _) rfl (by kernel_rfl) (fun K hK => ?_)
 go_simp
 refine (Hp.out).mono ?_
 rintro e w5 ⟨A5, l5, rfl, hw5, hv5, hr5, hb5, hcl5⟩
 try simp only []
 have hb5' : Below w.heap.size w w5 := undrewN (undrew hb5)
 have bcell5 : ∀ {b o : Nat}, b < w.heap.size → w5.cell? ⟨b, o, none⟩ = w.cell? ⟨b, o, none⟩ := fun {b o} h => hb5'.cell (p := ⟨b, o, none⟩) h
 have hz5 := hz.below hb5'
 have hC5 : (w5.cell? ⟨gx, ox, none⟩ = some (.bool sx) ∧ w5.cell? ⟨gx, ox + 1, none⟩ = some (.slice Ax nx cx)) ∧ (w5.cell? ⟨gy, oy, none⟩ = some (.bool sy) ∧ w5.cell? ⟨gy, oy + 1, none⟩ = some (.slice Ay ny cy)) := ⟨⟨(bcell5 glx).trans x0, (bcell5 glx).trans x1⟩, ⟨(bcell5 gly).trans y0, (bcell5 gly).trans y1⟩⟩
 refine hK.out _ _ hC5 (fun _ => ?_)
 clear hK K hHeld
 have hHeld := hC5
 try simp only [Act.put, List.setIfInBounds_toArray, List.set_cons_zero, List.set_cons_succ]
 refine wpHK_tail (j := 14) (o := Oper.mk (some 53) _ _ _ _ _) rfl (by kernel_rfl) (by decide) (fun K hK => ?_)
 go_simp
 refine (is_any _ hz5 hr5 (Nat.le_refl _) rfl (Nat.le_refl _) hcl5 hw5).mono ?_
 rintro e w6 ⟨rfl, hi6, hg6⟩
 try simp only []
 refine hK.out _ _ ?_
 clear hK K
 try simp only [Act.put, List.setIfInBounds_toArray, List.set_cons_zero, List.set_cons_succ]
 refine wpHK_assign (j := 15) (o := Oper.mk (some 8) _ _ _ _ _) rfl (by kernel_rfl) (by decide) rfl rfl ?_
 try simp only [Act.put, List.setIfInBounds_toArray, List.set_cons_zero, List.set_cons_succ]
 refine wpHK_done (by kernel_rfl) ?_ _
 refine NoPanic.normal ?_
 go_wp2_with fail
 go_ret
 refine ⟨rfl, ?_, grown_lift hb5' hg6⟩
 rw [hv5, val_w, val_w, Hx.out.1, add_g x y.natAbs neg Hl.out.2.2.1 Hl.out.2.2.2] at hi6
 exact hi6
set_option maxRecDepth 100000 in
set_option maxHeartbeats 4000000 in
theorem addC_lt {w : World} {g gx gy ox oy : Nat} {x y : Int} {neg : Bool} (hz : IntS w g) (hx : IntC w gx ox x) (hy : IntC w gy oy y) (hxl : (wds x.natAbs).length ≤ 900000000) (hyl : (wds y.natAbs).length ≤ 900000000) (hn : neg ≠ decide (x < 0)) (hle : x.natAbs < y.natAbs) :
  Calls Tryz.prog 130 #[.pointer (some ⟨g, 0, none⟩), .pointer (some ⟨gx, ox, none⟩), .pointer (some ⟨gy, oy, none⟩), .bool neg] w (Puts w g (x + sgn neg y.natAbs)) := by
 obtain ⟨sx, Ax, nx, cx, x0, x1, Hx, hxc, hxcl, rx⟩ := hx.opened
 obtain ⟨sy, Ay, ny, cy, y0, y1, Hy, hyc, hycl, ry⟩ := hy.opened
 have glx := hx.lt'
 have gly := hy.lt'
 obtain ⟨v, hv, hv0⟩ : ∃ v : Int, cmpN x.natAbs y.natAbs = v ∧ v < 0 := by
  exact ⟨-1, cmpN_lt hle, by omega⟩
 have HU : Hid (∀ q, Calls Tryz.prog 127 #[.slice Ax nx cx, .slice Ay ny cy] (w.drewN q) (fun e w' => e = .returned (.int .i64 v) ∧ ∃ m, w' = (w.drewN q).drewN m)) := by
  intro q
  refine (under_any (rx.drewN q) (ry.drewN q) (c := cx) (d := cy) Hx.out.2 Hy.out.2 (by have := Hx.out.2; omega) (by have := Hy.out.2; omega)).mono ?_
  rintro e w' ⟨m, he, hw⟩
  exact ⟨by rw [he, hv], m, hw⟩
 have hsn : (sx == neg) = false := by
  have h1 := Hx.out.1
  rw [← h1] at hn
  cases sx <;> cases neg <;> first | rfl | exact absurd rfl hn
 have Hl := Lib.hid (And.intro hxl (And.intro hyl (And.intro hn hle)))
 have Hr := Lib.hid (And.intro rx ry)
 clear rx ry hxl hyl hn hv hle
 go_enter Tryz.func130, Tryz.ntmps130
 go_wp2_with fail
 go_quiet ((go_at_call 127; exact Calls.quiet_of (HU.out _)))
 go_wp2_with fail
 have Hp := Lib.hid (less_any (w := (w.drewN nq).drew) (B := w.heap.size) (c := cy) (d := cx) (show ReadsW ((w.drewN nq).drew) w.heap.size _ _ from Hr.out.2) (show ReadsW ((w.drewN nq).drew) w.heap.size _ _ from Hr.out.1) (Nat.le_refl _) Hy.out.2 Hx.out.2 (by have := Hy.out.2; have := Hl.out.2.1; omega) (by rw [Hx.out.2, Hy.out.2]; exact len_mono (Nat.le_of_lt Hl.out.2.2.2)) (by rw [val_w, val_w]; exact Nat.le_of_lt Hl.out.2.2.2) (wd_w _) (wd_w _))
 refine wp_region_noPanic ?_
 refine wp_region_HK (fun w' => (w'.cell? ⟨gx, ox, none⟩ = some (.bool sx) ∧ w'.cell? ⟨gx, ox + 1, none⟩ = some (.slice Ax nx cx)) ∧ (w'.cell? ⟨gy, oy, none⟩ = some (.bool sy) ∧ w'.cell? ⟨gy, oy + 1, none⟩ = some (.slice Ay ny cy))) 11 (by kernel_rfl) ⟨⟨x0, x1⟩, ⟨y0, y1⟩⟩ (fun hHeld => ?_)
 refine wpHK_take (i := 0) (oi := Oper.mk (some 54) _ _ _ _ _) (v := ?_) rfl (by kernel_rfl) (by kernel_rfl) (by kernel_rfl) (by kernel_rfl) (fun _ _ _ h => h) (Or.inl ⟨by rfl, ?_⟩) (by assumption) ?_
 rotate_left
 ·(intro w' hSw; (try dsimp only at hSw); (obtain ⟨⟨s1, s2⟩, ⟨s3, s4⟩⟩ := hSw); go_simp; try with_reducible rfl)
 try simp only [Act.put, List.setIfInBounds_toArray, List.set_cons_zero, List.set_cons_succ]
 refine wpHK_take (i := 1) (oi := Oper.mk (some 55) _ _ _ _ _) (v := ?_) rfl (by kernel_rfl) (by kernel_rfl) (by kernel_rfl) (by kernel_rfl) (fun _ _ _ h => h) (Or.inl ⟨by rfl, ?_⟩) (by assumption) ?_
 rotate_left
 ·(intro w' hSw; (try dsimp only at hSw); (obtain ⟨⟨s1, s2⟩, ⟨s3, s4⟩⟩ := hSw); go_simp; try with_reducible rfl)
 try simp only [Act.put, List.setIfInBounds_toArray, List.set_cons_zero, List.set_cons_succ]
 refine wpHK_take (i := 2) (oi := Oper.mk (some 56) _ _ _ _ _) (v := ?_) rfl (by kernel_rfl) (by kernel_rfl) (by kernel_rfl) (by kernel_rfl) (fun _ _ _ h => h) (Or.inl ⟨by rfl, ?_⟩) (by assumption) ?_
 rotate_left
 ·(intro w' hSw; (try dsimp only at hSw); (obtain ⟨⟨s1, s2⟩, ⟨s3, s4⟩⟩ := hSw); go_simp; try with_reducible rfl)
 try simp only [Act.put, List.setIfInBounds_toArray, List.set_cons_zero, List.set_cons_succ]
 refine wpHK_take (i := 3) (oi := Oper.mk (some 57) _ _ _ _ _) (v := ?_) rfl (by kernel_rfl) (by kernel_rfl) (by kernel_rfl) (by kernel_rfl) (fun _ _ _ h => h) (Or.inl ⟨by rfl, ?_⟩) (by assumption) ?_
 rotate_left
 ·(intro w' hSw; (try dsimp only at hSw); (obtain ⟨⟨s1, s2⟩, ⟨s3, s4⟩⟩ := hSw); go_simp; try with_reducible rfl)
 try simp only [Act.put, List.setIfInBounds_toArray, List.set_cons_zero, List.set_cons_succ]
 refine wpHK_take (i := 4) (oi := Oper.mk (some 58) _ _ _ _ _) (v := ?_) rfl (by kernel_rfl) (by kernel_rfl) (by kernel_rfl) (by kernel_rfl) (fun _ _ _ h => h) (Or.inl ⟨by rfl, ?_⟩) (by assumption) ?_
 rotate_left
 ·(intro w' hSw; (try dsimp only at hSw); (obtain ⟨⟨s1, s2⟩, ⟨s3, s4⟩⟩ := hSw); go_simp; try with_reducible rfl)
 try simp only [Act.put, List.setIfInBounds_toArray, List.set_cons_zero, List.set_cons_succ]
 refine wpHK_take (i := 5) (oi := Oper.mk (some 59) _ _ _ _ _) (v := ?_) rfl (by kernel_rfl) (by kernel_rfl) (by kernel_rfl) (by kernel_rfl) (fun _ _ _ h => h) (Or.inl ⟨by rfl, ?_⟩) (by assumption) ?_
 rotate_left
 ·(intro w' hSw; (try dsimp only at hSw); (obtain ⟨⟨s1, s2⟩, ⟨s3, s4⟩⟩ := hSw); go_simp; try with_reducible rfl)
 try simp only [Act.put, List.setIfInBounds_toArray, List.set_cons_zero, List.set_cons_succ]
 refine wpHK_take (i := 6) (oi := Oper.mk (some 60) _ _ _ _ _) (v := ?_) rfl (by kernel_rfl) (by kernel_rfl) (by kernel_rfl) (by kernel_rfl) (fun _ _ _ h => h) (Or.inl ⟨by rfl, ?_⟩) (by assumption) ?_
 rotate_left
 ·(intro w' hSw; (try dsimp only at hSw); (obtain ⟨⟨s1, s2⟩, ⟨s3, s4⟩⟩ := hSw); go_simp; try with_reducible rfl)
 try simp only [Act.put, List.setIfInBounds_toArray, List.set_cons_zero, List.set_cons_succ]
 refine wpHK_take (i := 7) (oi := Oper.mk (some 61) _ _ _ _ _) (v := ?_) rfl (by kernel_rfl) (by kernel_rfl) (by kernel_rfl) (by kernel_rfl) (fun _ _ _ h => h) (Or.inl ⟨by rfl, ?_⟩) (by assumption) ?_
 rotate_left
 ·(intro w' hSw; (try dsimp only at hSw); (obtain ⟨⟨s1, s2⟩, ⟨s3, s4⟩⟩ := hSw); go_simp; try with_reducible rfl)
 try simp only [Act.put, List.setIfInBounds_toArray, List.set_cons_zero, List.set_cons_succ]
 refine wpHK_take (i := 8) (oi := Oper.mk (some 62) _ _ _ _ _) (v := ?_) rfl (by kernel_rfl) (by kernel_rfl) (by kernel_rfl) (by kernel_rfl) (fun _ _ _ h => h) (Or.inl ⟨by rfl, ?_⟩) (by assumption) ?_
 rotate_left
 ·(intro w' hSw; (try dsimp only at hSw); (obtain ⟨⟨s1, s2⟩, ⟨s3, s4⟩⟩ := hSw); go_simp; try with_reducible rfl)
 try simp only [Act.put, List.setIfInBounds_toArray, List.set_cons_zero, List.set_cons_succ]
 refine wpHK_take (i := 9) (oi := Oper.mk (some 63) _ _ _ _ _) (v := ?_) rfl (by kernel_rfl) (by kernel_rfl) (by kernel_rfl) (by kernel_rfl) (fun _ _ _ h => h) (Or.inl ⟨by rfl, ?_⟩) (by assumption) ?_
 rotate_left
 ·(intro w' hSw; (try dsimp only at hSw); (obtain ⟨⟨s1, s2⟩, ⟨s3, s4⟩⟩ := hSw); go_simp; try with_reducible rfl)
 try simp only [Act.put, List.setIfInBounds_toArray, List.set_cons_zero, List.set_cons_succ]
 refine wpHK_one (j := 10) (o := Oper.mk (some 64) _ _ _ _ _) rfl (by kernel_rfl) (fun K hK => ?_)
 go_simp
 refine (Hp.out).mono ?_
 rintro e w5 ⟨A5, l5, rfl, hw5, hv5, hr5, hb5, hcl5⟩
 try simp only []
 have hb5' : Below w.heap.size w w5 := undrewN (undrew hb5)
 have bcell5 : ∀ {b o : Nat}, b < w.heap.size → w5.cell? ⟨b, o, none⟩ = w.cell? ⟨b, o, none⟩ := fun {b o} h => hb5'.cell (p := ⟨b, o, none⟩) h
 have hz5 := hz.below hb5'
 have hC5 : (w5.cell? ⟨gx, ox, none⟩ = some (.bool sx) ∧ w5.cell? ⟨gx, ox + 1, none⟩ = some (.slice Ax nx cx)) ∧ (w5.cell? ⟨gy, oy, none⟩ = some (.bool sy) ∧ w5.cell? ⟨gy, oy + 1, none⟩ = some (.slice Ay ny cy)) := ⟨⟨(bcell5 glx).trans x0, (bcell5 glx).trans x1⟩, ⟨(bcell5 gly).trans y0, (bcell5 gly).trans y1⟩⟩
 refine hK.out _ _ hC5 (fun _ => ?_)
 clear hK K hHeld
 have hHeld := hC5
 try simp only [Act.put, List.setIfInBounds_toArray, List.set_cons_zero, List.set_cons_succ]
 refine wpHK_tail (j := 11) (o := Oper.mk (some 65) _ _ _ _ _) rfl (by kernel_rfl) (by decide) (fun K hK => ?_)
 go_simp
 refine (is_any _ hz5 hr5 (Nat.le_refl _) rfl (Nat.le_refl _) hcl5 hw5).mono ?_
 rintro e w6 ⟨rfl, hi6, hg6⟩
 try simp only []
 refine hK.out _ _ ?_
 clear hK K
 try simp only [Act.put, List.setIfInBounds_toArray, List.set_cons_zero, List.set_cons_succ]
 refine wpHK_assign (j := 12) (o := Oper.mk (some 8) _ _ _ _ _) rfl (by kernel_rfl) (by decide) rfl rfl ?_
 try simp only [Act.put, List.setIfInBounds_toArray, List.set_cons_zero, List.set_cons_succ]
 refine wpHK_done (by kernel_rfl) ?_ _
 refine NoPanic.normal ?_
 go_wp2_with fail
 go_ret
 refine ⟨rfl, ?_, grown_lift hb5' hg6⟩
 rw [hv5, val_w, val_w, add_l x y.natAbs neg Hl.out.2.2.1 (Nat.le_of_lt Hl.out.2.2.2)] at hi6
 exact hi6
theorem addC_any {w : World} {g gx gy ox oy : Nat} {x y : Int} {neg : Bool} (hz : IntS w g) (hx : IntC w gx ox x) (hy : IntC w gy oy y) (hxl : (wds x.natAbs).length ≤ 900000000) (hyl : (wds y.natAbs).length ≤ 900000000) :
  Calls Tryz.prog 130 #[.pointer (some ⟨g, 0, none⟩), .pointer (some ⟨gx, ox, none⟩), .pointer (some ⟨gy, oy, none⟩), .bool neg] w (Puts w g (x + sgn neg y.natAbs)) := by
 by_cases hn : neg = decide (x < 0)
 ·exact addC_same hz hx hy hxl hyl hn
 ·rcases Nat.lt_or_ge x.natAbs y.natAbs with h | h
  ·exact addC_lt hz hx hy hxl hyl hn h
  ·exact addC_ge hz hx hy hxl hyl hn h
set_option maxRecDepth 100000 in
set_option maxHeartbeats 4000000 in
theorem addC {w : World} {g gx gy ox oy : Nat} {x y : Int} (hz : IntS w g) (hx : IntC w gx ox x) (hy : IntC w gy oy y) (hxl : (wds x.natAbs).length ≤ 900000000) (hyl : (wds y.natAbs).length ≤ 900000000) :
  Calls Tryz.prog 117 #[.pointer (some ⟨g, 0, none⟩), .pointer (some ⟨gx, ox, none⟩), .pointer (some ⟨gy, oy, none⟩)] w (Puts w g (x + y)) := by
 obtain ⟨sy, Ay, ny, cy, y0, y1, Hy, hyc, hycl, ry⟩ := hy.opened
 have HA := Lib.hid (addC_any (neg := sy) hz hx hy hxl hyl)
 clear hz hx hy hxl hyl ry
 go_enter Tryz.func117, Tryz.ntmps117
 go_wp2_with fail
 refine HA.out.mono ?_
 rintro e w1 ⟨rfl, hi1, hg1⟩
 rw [Hy.out.1, sgn_of] at hi1
 go_wp2_with fail
 go_ret
 exact ⟨rfl, hi1, hg1⟩
set_option maxRecDepth 100000 in
set_option maxHeartbeats 4000000 in
theorem subC {w : World} {g gx gy ox oy : Nat} {x y : Int} (hz : IntS w g) (hx : IntC w gx ox x) (hy : IntC w gy oy y) (hxl : (wds x.natAbs).length ≤ 900000000) (hyl : (wds y.natAbs).length ≤ 900000000) :
  Calls Tryz.prog 121 #[.pointer (some ⟨g, 0, none⟩), .pointer (some ⟨gx, ox, none⟩), .pointer (some ⟨gy, oy, none⟩)] w (Puts w g (x - y)) := by
 obtain ⟨sy, Ay, ny, cy, y0, y1, Hy, hyc, hycl, ry⟩ := hy.opened
 have HA := Lib.hid (addC_any (neg := (!sy)) hz hx hy hxl hyl)
 clear hz hx hy hxl hyl ry
 go_enter Tryz.func121, Tryz.ntmps121
 go_wp2_with fail
 refine HA.out.mono ?_
 rintro e w1 ⟨rfl, hi1, hg1⟩
 rw [Hy.out.1, sgn_not] at hi1
 go_wp2_with fail
 go_ret
 exact ⟨rfl, hi1, hg1⟩
set_option maxRecDepth 100000 in
set_option maxHeartbeats 4000000 in
theorem setC {w : World} {g gx ox : Nat} {x : Int} (hz : IntS w g) (hx : IntC w gx ox x) (hxl : (wds x.natAbs).length ≤ 900000000) :
  Calls Tryz.prog 97 #[.pointer (some ⟨g, 0, none⟩), .pointer (some ⟨gx, ox, none⟩)] w (Puts w g x) := by
 obtain ⟨sx, Ax, nx, cx, x0, x1, Hx, hxc, hxcl, rx⟩ := hx.opened
 have glx := hx.lt'
 have Hr := Lib.hid (And.intro rx hxl)
 clear rx hxl
 go_enter Tryz.func97, Tryz.ntmps97
 go_wp2_with fail
 refine wp_region_noPanic ?_
 refine wp_region_HK (fun w' => (w'.cell? ⟨gx, ox, none⟩ = some (.bool sx) ∧ w'.cell? ⟨gx, ox + 1, none⟩ = some (.slice Ax nx cx))) 10 (by kernel_rfl) ⟨x0, x1⟩ (fun hHeld => ?_)
 refine wpHK_take (i := 0) (oi := Oper.mk (some 5) _ _ _ _ _) (v := ?_) rfl (by kernel_rfl) (by kernel_rfl) (by kernel_rfl) (by kernel_rfl) (fun _ _ _ h => h) (Or.inl ⟨by rfl, ?_⟩) (by assumption) ?_
 rotate_left
 ·(intro w' hSw; (try dsimp only at hSw); (obtain ⟨s1, s2⟩ := hSw); go_simp; try with_reducible rfl)
 try simp only [Act.put, List.setIfInBounds_toArray, List.set_cons_zero, List.set_cons_succ]
 refine wpHK_take (i := 1) (oi := Oper.mk (some 6) _ _ _ _ _) (v := ?_) rfl (by kernel_rfl) (by kernel_rfl) (by kernel_rfl) (by kernel_rfl) (fun _ _ _ h => h) (Or.inl ⟨by rfl, ?_⟩) (by assumption) ?_
 rotate_left
 ·(intro w' hSw; (try dsimp only at hSw); (obtain ⟨s1, s2⟩ := hSw); go_simp; try with_reducible rfl)
 try simp only [Act.put, List.setIfInBounds_toArray, List.set_cons_zero, List.set_cons_succ]
 refine wpHK_take (i := 2) (oi := Oper.mk (some 7) _ _ _ _ _) (v := ?_) rfl (by kernel_rfl) (by kernel_rfl) (by kernel_rfl) (by kernel_rfl) (fun _ _ _ h => h) (Or.inl ⟨by rfl, ?_⟩) (by assumption) ?_
 rotate_left
 ·(intro w' hSw; (try dsimp only at hSw); (obtain ⟨s1, s2⟩ := hSw); go_simp; try with_reducible rfl)
 try simp only [Act.put, List.setIfInBounds_toArray, List.set_cons_zero, List.set_cons_succ]
 refine wpHK_take (i := 3) (oi := Oper.mk (some 8) _ _ _ _ _) (v := ?_) rfl (by kernel_rfl) (by kernel_rfl) (by kernel_rfl) (by kernel_rfl) (fun _ _ _ h => h) (Or.inl ⟨by rfl, ?_⟩) (by assumption) ?_
 rotate_left
 ·(intro w' hSw; (try dsimp only at hSw); (obtain ⟨s1, s2⟩ := hSw); go_simp; try with_reducible rfl)
 try simp only [Act.put, List.setIfInBounds_toArray, List.set_cons_zero, List.set_cons_succ]
 refine wpHK_take (i := 4) (oi := Oper.mk (some 9) _ _ _ _ _) (v := ?_) rfl (by kernel_rfl) (by kernel_rfl) (by kernel_rfl) (by kernel_rfl) (fun _ _ _ h => h) (Or.inl ⟨by rfl, ?_⟩) (by assumption) ?_
 rotate_left
 ·(intro w' hSw; (try dsimp only at hSw); (obtain ⟨s1, s2⟩ := hSw); go_simp; try with_reducible rfl)
 try simp only [Act.put, List.setIfInBounds_toArray, List.set_cons_zero, List.set_cons_succ]
 refine wpHK_take (i := 5) (oi := Oper.mk (some 10) _ _ _ _ _) (v := ?_) rfl (by kernel_rfl) (by kernel_rfl) (by kernel_rfl) (by kernel_rfl) (fun _ _ _ h => h) (Or.inl ⟨by rfl, ?_⟩) (by assumption) ?_
 rotate_left
 ·(intro w' hSw; (try dsimp only at hSw); (obtain ⟨s1, s2⟩ := hSw); go_simp; try with_reducible rfl)
 try simp only [Act.put, List.setIfInBounds_toArray, List.set_cons_zero, List.set_cons_succ]
 refine wpHK_take (i := 6) (oi := Oper.mk (some 11) _ _ _ _ _) (v := ?_) rfl (by kernel_rfl) (by kernel_rfl) (by kernel_rfl) (by kernel_rfl) (fun _ _ _ h => h) (Or.inl ⟨by rfl, ?_⟩) (by assumption) ?_
 rotate_left
 ·(intro w' hSw; (try dsimp only at hSw); (obtain ⟨s1, s2⟩ := hSw); go_simp; try with_reducible rfl)
 try simp only [Act.put, List.setIfInBounds_toArray, List.set_cons_zero, List.set_cons_succ]
 refine wpHK_take (i := 7) (oi := Oper.mk (some 12) _ _ _ _ _) (v := ?_) rfl (by kernel_rfl) (by kernel_rfl) (by kernel_rfl) (by kernel_rfl) (fun _ _ _ h => h) (Or.inl ⟨by rfl, ?_⟩) (by assumption) ?_
 rotate_left
 ·(intro w' hSw; (try dsimp only at hSw); (obtain ⟨s1, s2⟩ := hSw); go_simp; try with_reducible rfl)
 try simp only [Act.put, List.setIfInBounds_toArray, List.set_cons_zero, List.set_cons_succ]
 refine wpHK_take (i := 8) (oi := Oper.mk (some 13) _ _ _ _ _) (v := ?_) rfl (by kernel_rfl) (by kernel_rfl) (by kernel_rfl) (by kernel_rfl) (fun _ _ _ h => h) (Or.inl ⟨by rfl, ?_⟩) (by assumption) ?_
 rotate_left
 ·(intro w' hSw; (try dsimp only at hSw); (obtain ⟨s1, s2⟩ := hSw); go_simp; try with_reducible rfl)
 try simp only [Act.put, List.setIfInBounds_toArray, List.set_cons_zero, List.set_cons_succ]
 refine wpHK_one (j := 9) (o := Oper.mk (some 14) _ _ _ _ _) rfl (by kernel_rfl) (fun K hK => ?_)
 refine stepW_append (by rfl) (.const (.slice none 0 0)) (.tmp 13) (by rfl) w.heap.size _ [] (OwnW.nil _ _) (by rfl) _ _ (wds x.natAbs) (Hr.out.1.drewN 1) nx cx Hx.out.2 (by rfl) (by have := Hr.out.2; simp only [List.length_nil]; omega) (Nat.le_refl _) ?_
 intro A5 n5 c5 w5 ho5 hg5
 rw [List.nil_append] at ho5
 have hb5 := below_of_grown hg5
 have hb5' : Below w.heap.size w w5 := undrew hb5
 have bcell5 : ∀ {b o : Nat}, b < w.heap.size → w5.cell? ⟨b, o, none⟩ = w.cell? ⟨b, o, none⟩ := fun {b o} h => hb5'.cell (p := ⟨b, o, none⟩) h
 have hz5 := hz.below hb5'
 have hC5 : (w5.cell? ⟨gx, ox, none⟩ = some (.bool sx) ∧ w5.cell? ⟨gx, ox + 1, none⟩ = some (.slice Ax nx cx)) := ⟨(bcell5 glx).trans x0, (bcell5 glx).trans x1⟩
 refine hK.out _ _ hC5 (fun _ => ?_)
 clear hK K hHeld
 have hHeld := hC5
 try simp only [Act.put, List.setIfInBounds_toArray, List.set_cons_zero, List.set_cons_succ]
 refine wpHK_tail (j := 10) (o := Oper.mk (some 15) _ _ _ _ _) rfl (by kernel_rfl) (by decide) (fun K hK => ?_)
 go_simp
 refine (is_any _ hz5 ho5.reads (Nat.le_refl _) ho5.len.1 ho5.len.2.1 ho5.len.2.2 (wd_w _)).mono ?_
 rintro e w6 ⟨rfl, hi6, hg6⟩
 try simp only []
 refine hK.out _ _ ?_
 clear hK K
 try simp only [Act.put, List.setIfInBounds_toArray, List.set_cons_zero, List.set_cons_succ]
 refine wpHK_assign (j := 11) (o := Oper.mk (some 4) _ _ _ _ _) rfl (by kernel_rfl) (by decide) rfl rfl ?_
 try simp only [Act.put, List.setIfInBounds_toArray, List.set_cons_zero, List.set_cons_succ]
 refine wpHK_done (by kernel_rfl) ?_ _
 refine NoPanic.normal ?_
 go_wp2_with fail
 go_ret
 refine ⟨rfl, ?_, grown_lift hb5' hg6⟩
 rw [val_w, Hx.out.1, sgn_of] at hi6
 exact hi6
set_option maxRecDepth 100000 in
set_option maxHeartbeats 4000000 in
theorem negC {w : World} {g gx ox : Nat} {x : Int} (hz : IntS w g) (hx : IntC w gx ox x) (hxl : (wds x.natAbs).length ≤ 900000000) :
  Calls Tryz.prog 119 #[.pointer (some ⟨g, 0, none⟩), .pointer (some ⟨gx, ox, none⟩)] w (Puts w g (-x)) := by
 have HS := Lib.hid (setC hz hx hxl)
 have hlt := hz.lt
 have fin : ∀ (w1 : World) (s s' : Bool) (A : Option Addr) (n c : Nat), Blk w1 g 151 (icells s A n c) → Hid (s = decide (x < 0) ∧ n = (wds x.natAbs).length) → n ≤ c → c ≤ 9223372036854775807 → ReadsW w1 w1.heap.size A (wds x.natAbs) → w.grownBy w1 (some g) → s' = (!s && decide (0 < n)) → Puts w g (-x) (.returned (.pointer (some ⟨g, 0, none⟩))) (w1.setCell ⟨g, 0, none⟩ (.bool s')) := fun w1 s s' A n c hb hh h1 h2 hr hg he => by
  have hg2 : w1.grownBy (w1.setCell ⟨g, 0, none⟩ (.bool s')) (some g) := only_setCell (p := ⟨g, 0, none⟩) (World.grownBy.refl w1 (some g)) (.inl rfl) _
  refine ⟨rfl, ⟨s', A, n, c, hb.set_ 0 _, ⟨?_, by rw [Int.natAbs_neg]; exact hh.out.2⟩, h1, h2, ?_⟩, ?_⟩
  ·rw [he, hh.out.1, hh.out.2]
   by_cases h0 : x = 0
   ·subst h0; simp [wds_zero]
   ·have hp : 0 < x.natAbs := by omega
    rw [wds_pos hp]
    by_cases h3 : x < 0
    ·simp [h3]; omega
    ·simp [h3]; omega
  ·rw [Int.natAbs_neg]
   exact (hr.off ⟨_, _, _, _, hb⟩ hg2 (Nat.le_refl _)).more hg2.size
  ·exact only_setCell (p := ⟨g, 0, none⟩) hg (.inl rfl) _
 have Fin := Lib.hid fin
 clear hz hx hxl fin
 go_enter Tryz.func119, Tryz.ntmps119
 go_wp2_with fail
 refine HS.out.mono ?_
 rintro e w1 ⟨rfl, hi1, hg1⟩
 obtain ⟨s, A, n, c, hb, hh, h1, h2, hr⟩ := hi1
 have hc0 : w1.cell? ⟨g, 0, none⟩ = some (.bool s) := hb.cell 0
 have hc1 : w1.cell? ⟨g, 1, none⟩ = some (.slice A n c) := hb.cell 1
 have hf0 := hb.frozen 0
 have Hb := Lib.hid (And.intro hb (And.intro hr hg1))
 clear hb hr hg1
 cases s
 ·by_cases h0 : 0 < n
  ·have h0i : (0 : Int) < (n : Int) := by omega
   go_wp2_with fail
   go_ret
   exact Fin.out _ _ _ _ _ _ Hb.out.1 hh h1 h2 Hb.out.2.1 Hb.out.2.2 (by simp [h0])
  ·have h3 : n = 0 := by omega
   subst h3
   go_wp2_with fail
   go_ret
   exact Fin.out _ _ _ _ _ _ Hb.out.1 hh h1 h2 Hb.out.2.1 Hb.out.2.2 (by simp)
 ·go_wp2_with fail
  go_ret
  exact Fin.out _ _ _ _ _ _ Hb.out.1 hh h1 h2 Hb.out.2.1 Hb.out.2.2 (by simp)
set_option maxRecDepth 100000 in
set_option maxHeartbeats 1000000 in
theorem signC {w : World} {gx ox : Nat} {x : Int} (hx : IntC w gx ox x) :
  Calls Tryz.prog 87 #[.pointer (some ⟨gx, ox, none⟩)] w (fun e w' => e = .returned (.int .i64 (sg x)) ∧ w = w') := by
 obtain ⟨sx, Ax, nx, cx, x0, x1, Hx, hxc, hxcl, rx⟩ := hx.opened
 clear rx hx
 by_cases h0 : x = 0
 ·have hn : nx = 0 := by have := Hx.out.2; rw [h0] at this; simpa [wds_zero] using this
  have Hv := Lib.hid (show sg x = 0 by unfold sg; rw [if_pos h0])
  subst hn
  clear h0
  go_enter Tryz.func87, Tryz.ntmps87
  go_wp2
  go_ret
  exact ⟨by rw [Hv.out]; rfl, rfl⟩
 ·have hn : 0 < nx := by have := Hx.out.2; rw [this]; exact len_pos.2 h0
  have hne : ¬ nx = 0 := by omega
  have hni : ((nx : Int) == 0) = false := by simp; omega
  by_cases h1 : x < 0
  ·have hs : sx = true := by rw [Hx.out.1]; simp [h1]
   have Hv := Lib.hid (show sg x = -1 by unfold sg; rw [if_neg h0, if_pos h1])
   subst hs
   clear h0 h1
   go_enter Tryz.func87, Tryz.ntmps87
   go_wp2
   go_ret
   exact ⟨by rw [Hv.out]; rfl, rfl⟩
  ·have hs : sx = false := by rw [Hx.out.1]; simp [h1]
   have Hv := Lib.hid (show sg x = 1 by unfold sg; rw [if_neg h0, if_neg h1])
   subst hs
   clear h0 h1
   go_enter Tryz.func87, Tryz.ntmps87
   go_wp2
   go_ret
   exact ⟨by rw [Hv.out]; rfl, rfl⟩
set_option maxRecDepth 100000 in
set_option maxHeartbeats 4000000 in
theorem gcdC {w : World} {g gx gy ox oy : Nat} {x y : Int} (hz : IntS w g) (hx : IntC w gx ox x) (hy : IntC w gy oy y) (hxl : (wds x.natAbs).length ≤ 900000000) (hyl : (wds y.natAbs).length ≤ 900000000) :
  Calls Tryz.prog 125 #[.pointer (some ⟨g, 0, none⟩), .pointer none, .pointer none, .pointer (some ⟨gx, ox, none⟩), .pointer (some ⟨gy, oy, none⟩)] w (Puts w g (Nat.gcd x.natAbs y.natAbs : Int)) := by
 obtain ⟨sx, Ax, nx, cx, x0, x1, Hx, hxc, hxcl, rx⟩ := hx.opened
 obtain ⟨sy, Ay, ny, cy, y0, y1, Hy, hyc, hycl, ry⟩ := hy.opened
 obtain ⟨G, hG⟩ : ∃ G : Nat, G = Nat.gcd x.natAbs y.natAbs := ⟨_, rfl⟩
 rw [← hG]
 have Hr := Lib.hid (And.intro hG (And.intro rx (And.intro ry (And.intro hxl hyl))))
 clear hG rx ry hxl hyl hx hy
 go_enter Tryz.func125, Tryz.ntmps125
 go_wp2_with fail
 go_quiet (fail)
 go_wp2_with fail
 go_loopg [11, 12] y.natAbs (fun k xv yv wr => ∃ (A C : Option Addr) (n c m d u : Nat), xv = .slice A n c ∧ yv = .slice C m d ∧ SlW wr wr.heap.size A n c u ∧ SlW wr wr.heap.size C m d k ∧ Below w.heap.size w wr ∧
  Hid (Nat.gcd u k = G ∧ (wds u).length ≤ 900000000 ∧ (wds k).length ≤ 900000000))
 case atStart => exact ⟨_, _, _, _, _, _, _, rfl, rfl, ⟨Hx.out.2, hxc, hxcl, Hr.out.2.1.drewN nq⟩, ⟨Hy.out.2, hyc, hycl, Hr.out.2.2.1.drewN nq⟩, below_drewN (Below.refl _ _) nq, Hr.out.1.symm, Hr.out.2.2.2.1, Hr.out.2.2.2.2⟩
 case round =>
  obtain ⟨A, C, n, c, m, d, u, rfl, rfl, ⟨hn, hnc, hcl, rn⟩, ⟨hm, hmd, hdl, rm⟩, hbel, hg⟩ := hrel
  by_cases h0 : 0 < gk
  ·have hD := divide_any (c := c) (d := d) rn rm (Nat.le_refl _) hn.out hm.out (by have := hn.out; have := hg.out.2.1; omega) (by have := hm.out; have := hg.out.2.2; omega) hnc hcl hmd hdl h0
   have hmp : 0 < m := by
    have := hm.out
    rw [wds_pos h0] at this
    simp at this
    omega
   have hmi : (0 : Int) < (m : Int) := by omega
   have HD := Lib.hid hD
   have Rm := Lib.hid (And.intro rm h0)
   clear hD rn rm h0
   go_wp2_with fail
   refine HD.out.mono ?_
   rintro e w5 ⟨A5, m5, c5, A6, m6, c6, rfl, hm5, hc5, hc6, hcl5, hcl6, hr5, hr6, hb5⟩
   go_wp2_with fail
   go_roundg (u % gk)
   case measure => exact Nat.mod_lt _ Rm.out.2
   case rel =>
    refine ⟨_, _, _, _, _, _, gk, rfl, rfl, ⟨hm, hmd, hdl, (Rm.out.1.below hb5).more hb5.size⟩, ⟨hm5.out.2, hc6, hcl6, hr6⟩, hbel.trans (hb5.mono hbel.size), ?_, hg.out.2.2, ?_⟩
    ·rw [← hg.out.1, Nat.gcd_comm u gk, Nat.gcd_rec gk u, Nat.gcd_comm]
    ·exact Nat.le_trans (len_mono (Nat.mod_le _ _)) hg.out.2.1
  ·have hk0 : gk = 0 := by omega
   subst hk0
   have hm0 : m = 0 := by have := hm.out; rw [wds_zero] at this; exact this
   subst hm0
   have hgu : u = G := by have := hg.out.1; rwa [Nat.gcd_zero_right] at this
   have Rn := Lib.hid (And.intro rn (And.intro hgu hz))
   clear rn rm h0 hgu hz
   go_wp2_with (at_builtin; refine wpW_append rfl (.const (.slice none 0 0)) (.tmp 35) rfl wr.heap.size _ [] (OwnW.nil _ _) rfl _ _ (wds u) Rn.out.1 n c hn.out rfl (by have := hg.out.2.1; simp only [List.length_nil]; omega) (Nat.le_refl _) ?_; intro A7 n7 c7 w7 ho7 hg7; rw [List.nil_append] at ho7; have Ho7 := Lib.hid (And.intro ho7 hg7); clear ho7 hg7)
   have hb7 : Below wr.heap.size wr w7 := below_of_grown Ho7.out.2
   have hz7 := (Rn.out.2.2.below hbel).below hb7
   have HI := Lib.hid (is_any false hz7 Ho7.out.1.reads (Nat.le_refl _) Ho7.out.1.len.1 Ho7.out.1.len.2.1 Ho7.out.1.len.2.2 (wd_w _))
   go_wp2_with fail
   refine HI.out.mono ?_
   rintro e w8 ⟨rfl, hi8, hg8⟩
   rw [val_w, Rn.out.2.1] at hi8
   go_wp2_with fail
   go_ret
   exact ⟨rfl, hi8, grown_lift (hbel.trans (hb7.mono hbel.size)) hg8⟩
set_option maxRecDepth 100000 in
set_option maxHeartbeats 4000000 in
theorem quoremC {w : World} {g gr gx gy ox oy : Nat} {x y : Int} (hz : IntS w g) (hr : IntS w gr) (hne : g ≠ gr) (hx : IntC w gx ox x) (hy : IntC w gy oy y) (hxl : (wds x.natAbs).length ≤ 900000000) (hyl : (wds y.natAbs).length ≤ 900000000) (hy0 : y ≠ 0) :
  Calls Tryz.prog 133 #[.pointer (some ⟨g, 0, none⟩), .pointer (some ⟨gx, ox, none⟩), .pointer (some ⟨gy, oy, none⟩), .pointer (some ⟨gr, 0, none⟩)] w (Puts2 w g gr (x.tdiv y) (x.tmod y)) := by
 obtain ⟨sx, Ax, nx, cx, x0, x1, Hx, hxc, hxcl, rx⟩ := hx.opened
 obtain ⟨sy, Ay, ny, cy, y0, y1, Hy, hyc, hycl, ry⟩ := hy.opened
 have glx := hx.lt'
 have gly := hy.lt'
 have Hp := Lib.hid (divide_any (c := cx) (d := cy) (rx.drewN 1) (ry.drewN 1) (Nat.le_refl _) Hx.out.2 Hy.out.2 (by have := Hx.out.2; omega) (by have := Hy.out.2; omega) hxc hxcl hyc hycl (by omega))
 have Hl := Lib.hid (And.intro hxl hne)
 clear rx ry hxl hyl hy0 hne
 go_enter Tryz.func133, Tryz.ntmps133
 go_wp2_with fail
 refine wp_region_noPanic ?_
 refine wp_region_HK (fun w' => (w'.cell? ⟨gx, ox, none⟩ = some (.bool sx) ∧ w'.cell? ⟨gx, ox + 1, none⟩ = some (.slice Ax nx cx)) ∧ (w'.cell? ⟨gy, oy, none⟩ = some (.bool sy) ∧ w'.cell? ⟨gy, oy + 1, none⟩ = some (.slice Ay ny cy))) 14 (by kernel_rfl) ⟨⟨x0, x1⟩, ⟨y0, y1⟩⟩ (fun hHeld => ?_)
 refine wpHK_take (i := 0) (oi := Oper.mk (some 15) _ _ _ _ _) (v := ?_) rfl (by kernel_rfl) (by kernel_rfl) (by kernel_rfl) (by kernel_rfl) (fun _ _ _ h => h) (Or.inl ⟨by rfl, ?_⟩) (by assumption) ?_
 rotate_left
 ·(intro w' hSw; (try dsimp only at hSw); (obtain ⟨⟨s1, s2⟩, ⟨s3, s4⟩⟩ := hSw); go_simp; try with_reducible rfl)
 try simp only [Act.put, List.setIfInBounds_toArray, List.set_cons_zero, List.set_cons_succ]
 refine wpHK_take (i := 1) (oi := Oper.mk (some 16) _ _ _ _ _) (v := ?_) rfl (by kernel_rfl) (by kernel_rfl) (by kernel_rfl) (by kernel_rfl) (fun _ _ _ h => h) (Or.inl ⟨by rfl, ?_⟩) (by assumption) ?_
 rotate_left
 ·(intro w' hSw; (try dsimp only at hSw); (obtain ⟨⟨s1, s2⟩, ⟨s3, s4⟩⟩ := hSw); go_simp; try with_reducible rfl)
 try simp only [Act.put, List.setIfInBounds_toArray, List.set_cons_zero, List.set_cons_succ]
 refine wpHK_take (i := 2) (oi := Oper.mk (some 17) _ _ _ _ _) (v := ?_) rfl (by kernel_rfl) (by kernel_rfl) (by kernel_rfl) (by kernel_rfl) (fun _ _ _ h => h) (Or.inl ⟨by rfl, ?_⟩) (by assumption) ?_
 rotate_left
 ·(intro w' hSw; (try dsimp only at hSw); (obtain ⟨⟨s1, s2⟩, ⟨s3, s4⟩⟩ := hSw); go_simp; try with_reducible rfl)
 try simp only [Act.put, List.setIfInBounds_toArray, List.set_cons_zero, List.set_cons_succ]
 refine wpHK_take (i := 3) (oi := Oper.mk (some 18) _ _ _ _ _) (v := ?_) rfl (by kernel_rfl) (by kernel_rfl) (by kernel_rfl) (by kernel_rfl) (fun _ _ _ h => h) (Or.inl ⟨by rfl, ?_⟩) (by assumption) ?_
 rotate_left
 ·(intro w' hSw; (try dsimp only at hSw); (obtain ⟨⟨s1, s2⟩, ⟨s3, s4⟩⟩ := hSw); go_simp; try with_reducible rfl)
 try simp only [Act.put, List.setIfInBounds_toArray, List.set_cons_zero, List.set_cons_succ]
 refine wpHK_take (i := 4) (oi := Oper.mk (some 19) _ _ _ _ _) (v := ?_) rfl (by kernel_rfl) (by kernel_rfl) (by kernel_rfl) (by kernel_rfl) (fun _ _ _ h => h) (Or.inl ⟨by rfl, ?_⟩) (by assumption) ?_
 rotate_left
 ·(intro w' hSw; (try dsimp only at hSw); (obtain ⟨⟨s1, s2⟩, ⟨s3, s4⟩⟩ := hSw); go_simp; try with_reducible rfl)
 try simp only [Act.put, List.setIfInBounds_toArray, List.set_cons_zero, List.set_cons_succ]
 refine wpHK_take (i := 5) (oi := Oper.mk (some 20) _ _ _ _ _) (v := ?_) rfl (by kernel_rfl) (by kernel_rfl) (by kernel_rfl) (by kernel_rfl) (fun _ _ _ h => h) (Or.inl ⟨by rfl, ?_⟩) (by assumption) ?_
 rotate_left
 ·(intro w' hSw; (try dsimp only at hSw); (obtain ⟨⟨s1, s2⟩, ⟨s3, s4⟩⟩ := hSw); go_simp; try with_reducible rfl)
 try simp only [Act.put, List.setIfInBounds_toArray, List.set_cons_zero, List.set_cons_succ]
 refine wpHK_take (i := 6) (oi := Oper.mk (some 21) _ _ _ _ _) (v := ?_) rfl (by kernel_rfl) (by kernel_rfl) (by kernel_rfl) (by kernel_rfl) (fun _ _ _ h => h) (Or.inl ⟨by rfl, ?_⟩) (by assumption) ?_
 rotate_left
 ·(intro w' hSw; (try dsimp only at hSw); (obtain ⟨⟨s1, s2⟩, ⟨s3, s4⟩⟩ := hSw); go_simp; try with_reducible rfl)
 try simp only [Act.put, List.setIfInBounds_toArray, List.set_cons_zero, List.set_cons_succ]
 refine wpHK_take (i := 7) (oi := Oper.mk (some 22) _ _ _ _ _) (v := ?_) rfl (by kernel_rfl) (by kernel_rfl) (by kernel_rfl) (by kernel_rfl) (fun _ _ _ h => h) (Or.inl ⟨by rfl, ?_⟩) (by assumption) ?_
 rotate_left
 ·(intro w' hSw; (try dsimp only at hSw); (obtain ⟨⟨s1, s2⟩, ⟨s3, s4⟩⟩ := hSw); go_simp; try with_reducible rfl)
 try simp only [Act.put, List.setIfInBounds_toArray, List.set_cons_zero, List.set_cons_succ]
 refine wpHK_one (j := 8) (o := Oper.mk (some 23) _ _ _ _ _) rfl (by kernel_rfl) (fun K hK => ?_)
 go_simp
 refine (Hp.out).mono ?_
 rintro e w5 ⟨A5, m5, c5, A6, m6, c6, rfl, hm5, hc5, hc6, hcl5, hcl6, hr5, hr6, hb5⟩
 try simp only []
 have hb5' : Below w.heap.size w w5 := undrew hb5
 have bcell5 : ∀ {b o : Nat}, b < w.heap.size → w5.cell? ⟨b, o, none⟩ = w.cell? ⟨b, o, none⟩ := fun {b o} h => hb5'.cell (p := ⟨b, o, none⟩) h
 have hz5 := hz.below hb5'
 have hr5' := hr.below hb5'
 have hC5 : (w5.cell? ⟨gx, ox, none⟩ = some (.bool sx) ∧ w5.cell? ⟨gx, ox + 1, none⟩ = some (.slice Ax nx cx)) ∧ (w5.cell? ⟨gy, oy, none⟩ = some (.bool sy) ∧ w5.cell? ⟨gy, oy + 1, none⟩ = some (.slice Ay ny cy)) := ⟨⟨(bcell5 glx).trans x0, (bcell5 glx).trans x1⟩, ⟨(bcell5 gly).trans y0, (bcell5 gly).trans y1⟩⟩
 refine hK.out _ _ hC5 (fun _ => ?_)
 clear hK K hHeld
 have hHeld := hC5
 try simp only [Act.put, List.setIfInBounds_toArray, List.set_cons_zero, List.set_cons_succ]
 refine wpHK_take (i := 9) (oi := Oper.mk (some 14) _ _ _ _ _) (v := ?_) rfl (by kernel_rfl) (by kernel_rfl) (by kernel_rfl) (by kernel_rfl) (fun _ _ _ h => h) (Or.inl ⟨by rfl, ?_⟩) (by assumption) ?_
 rotate_left
 ·(intro w' hSw; (try dsimp only at hSw); (obtain ⟨⟨s1, s2⟩, ⟨s3, s4⟩⟩ := hSw); go_simp; try with_reducible rfl)
 try simp only [Act.put, List.setIfInBounds_toArray, List.set_cons_zero, List.set_cons_succ]
 refine wpHK_take (i := 10) (oi := Oper.mk (some 24) _ _ _ _ _) (v := ?_) rfl (by kernel_rfl) (by kernel_rfl) (by kernel_rfl) (by kernel_rfl) (fun _ _ _ h => h) (Or.inl ⟨by rfl, ?_⟩) (by assumption) ?_
 rotate_left
 ·(intro w' hSw; (try dsimp only at hSw); (obtain ⟨⟨s1, s2⟩, ⟨s3, s4⟩⟩ := hSw); go_simp; try with_reducible rfl)
 try simp only [Act.put, List.setIfInBounds_toArray, List.set_cons_zero, List.set_cons_succ]
 refine wpHK_take (i := 11) (oi := Oper.mk (some 25) _ _ _ _ _) (v := ?_) rfl (by kernel_rfl) (by kernel_rfl) (by kernel_rfl) (by kernel_rfl) (fun _ _ _ h => h) (Or.inl ⟨by rfl, ?_⟩) (by assumption) ?_
 rotate_left
 ·(intro w' hSw; (try dsimp only at hSw); (obtain ⟨⟨s1, s2⟩, ⟨s3, s4⟩⟩ := hSw); go_simp; try with_reducible rfl)
 try simp only [Act.put, List.setIfInBounds_toArray, List.set_cons_zero, List.set_cons_succ]
 refine wpHK_take (i := 12) (oi := Oper.mk (some 10) _ _ _ _ _) (v := ?_) rfl (by kernel_rfl) (by kernel_rfl) (by kernel_rfl) (by kernel_rfl) (fun _ _ _ h => h) (Or.inl ⟨by rfl, ?_⟩) (by assumption) ?_
 rotate_left
 ·(intro w' hSw; (try dsimp only at hSw); (obtain ⟨⟨s1, s2⟩, ⟨s3, s4⟩⟩ := hSw); go_simp; try with_reducible rfl)
 try simp only [Act.put, List.setIfInBounds_toArray, List.set_cons_zero, List.set_cons_succ]
 refine wpHK_take (i := 13) (oi := Oper.mk (some 11) _ _ _ _ _) (v := ?_) rfl (by kernel_rfl) (by kernel_rfl) (by kernel_rfl) (by kernel_rfl) (fun _ _ _ h => h) (Or.inl ⟨by rfl, ?_⟩) (by assumption) ?_
 rotate_left
 ·(intro w' hSw; (try dsimp only at hSw); (obtain ⟨⟨s1, s2⟩, ⟨s3, s4⟩⟩ := hSw); go_simp; try with_reducible rfl)
 try simp only [Act.put, List.setIfInBounds_toArray, List.set_cons_zero, List.set_cons_succ]
 refine wpHK_done (by kernel_rfl) ?_ _
 refine NoPanic.normal ?_
 obtain ⟨⟨u0, u1⟩, ⟨v0, v1⟩⟩ := hHeld
 have Hb5 := Lib.hid (And.intro hb5' (And.intro hr5 (And.intro hr6 hm5)))
 have Hz := Lib.hid (And.intro hz5 hr5')
 have hm6l : (wds (x.natAbs % y.natAbs)).length ≤ 900000000 := Nat.le_trans (len_mono (Nat.mod_le _ _)) Hl.out.1
 clear x0 x1 y0 y1 bcell5 hb5 hb5' hr5 hr6 hm5 hz hr hz5 hr5' hx hy hC5
 go_wp2_with fail
 go_quiet (fail)
 have Hap := Lib.hid (Hb5.out.2.2.1.drewN nq)
 have Hm6 := Lib.hid hm6l
 clear hm6l
 go_wp2_with (at_builtin; refine wpW_append rfl (.const (.slice none 0 0)) (.tmp 41) rfl w5.heap.size _ [] (OwnW.nil _ _) rfl _ _ (wds (x.natAbs % y.natAbs)) Hap.out m6 c6 Hb5.out.2.2.2.out.2 rfl (by have := Hm6.out; simp only [List.length_nil]; omega) (Nat.le_refl _) ?_; intro A7 n7 c7 w7 ho7 hg7; rw [List.nil_append] at ho7; have Ho7 := Lib.hid (And.intro ho7 hg7); clear ho7 hg7)
 have hb7 : Below w5.heap.size w5 w7 := undrewN (below_of_grown Ho7.out.2)
 have hz7 := Hz.out.1.below hb7
 have hr7 := Hz.out.2.below hb7
 have HI := Lib.hid (is_any sx hr7 Ho7.out.1.reads (Nat.le_refl _) Ho7.out.1.len.1 Ho7.out.1.len.2.1 Ho7.out.1.len.2.2 (wd_w _))
 have hw7 := (Hb5.out.2.1.below hb7).more hb7.size
 have Hb7 := Lib.hid (And.intro hb7 (And.intro hz7 (And.intro hw7 hr7)))
 clear hb7 hz7 hr7 hw7
 go_wp2_with fail
 refine HI.out.mono ?_
 rintro e w8 ⟨rfl, hi8, hg8⟩
 rw [val_w, Hx.out.1, sgn_tmod] at hi8
 have hz8 := Hb7.out.2.1.off hg8 Hl.out.2
 have hw8 := (Hb7.out.2.2.1.off Hb7.out.2.2.2 hg8 (Nat.le_refl _)).more hg8.size
 have HI2 := Lib.hid (is_any (!(sx == sy)) hz8 hw8 (Nat.le_refl _) Hb5.out.2.2.2.out.1 hc5 hcl5 (wd_w _))
 have H8 := Lib.hid (And.intro hi8 (And.intro hg8 hz8))
 clear hz8 hw8 hi8 hg8
 go_wp2_with fail
 refine HI2.out.mono ?_
 rintro e w9 ⟨rfl, hi9, hg9⟩
 rw [val_w, Hx.out.1, Hy.out.1, sgn_tdiv] at hi9
 have H9 := Lib.hid (And.intro hi9 hg9)
 clear hi9 hg9
 go_wp2_with fail
 go_ret2
 exact ⟨w8, rfl, H9.out.1, H8.out.1.off H8.out.2.2 H9.out.2 (fun h => Hl.out.2 h.symm), grown_lift (Hb5.out.1.trans (Hb7.out.1.mono Hb5.out.1.size)) H8.out.2.1, H9.out.2⟩
set_option maxRecDepth 100000 in
set_option maxHeartbeats 4000000 in
theorem quoC {w : World} {g gx gy ox oy : Nat} {x y : Int} (hz : IntS w g) (hx : IntC w gx ox x) (hy : IntC w gy oy y) (hxl : (wds x.natAbs).length ≤ 900000000) (hyl : (wds y.natAbs).length ≤ 900000000) (hy0 : y ≠ 0) :
  Calls Tryz.prog 126 #[.pointer (some ⟨g, 0, none⟩), .pointer (some ⟨gx, ox, none⟩), .pointer (some ⟨gy, oy, none⟩)] w (Puts w g (x.tdiv y)) := by
 have hb := new_below w (.cells #[.bool false, .slice none 0 0] 151)
 have hne : g ≠ w.heap.size := by have := hz.lt; omega
 have HQ := Lib.hid (quoremC (hz.below hb) (IntB.zero w).slot hne (hx.below hb) (hy.below hb) hxl hyl hy0)
 clear hz hx hy hxl hyl hy0 hne
 go_enter Tryz.func126, Tryz.ntmps126
 go_wp2_with fail
 refine HQ.out.mono ?_
 rintro e w2 ⟨wm, rfl, hiq, hir, hgm, hg2⟩
 go_wp2_with fail
 go_ret
 exact ⟨rfl, hiq, grown_two hb hgm hg2 (Nat.le_refl _)⟩
section
variable {w0 W W' : World} {l : List (Nat × TypeId × Array Value)} {g : Nat} {t : TypeId} {cs : Array Value}
end
def bodyOf (f : Func) : Code := f.body.getD .skip
def SB (k : Nat) (z : Int) : Prop := z.natAbs < 2 ^ k
section
variable {w : World} {na nb : Bool} {sa sb : ByteArray} {z : Int} {s : Bool} {b : ByteArray}
end
end Go.Proofs.YtebpggfccljagaaGreat
namespace Go.Proofs.YtebpggfccljagaaGreat
open Go.RowKit
open Wh
set_option linter.unusedSimpArgs false
set_option linter.unusedVariables false
end Go.Proofs.YtebpggfccljagaaGreat
namespace Go.Proofs.YtebpggfccljagaaGreat
open Go.RowKit
open Wh
set_option linter.unusedSimpArgs false
theorem cmpN_ge {a b : Nat} (h : b ≤ a) : 0 ≤ cmpN a b ∧ cmpN a b ≤ 1 := by unfold cmpN; split <;> first | omega | (split <;> omega)
end Go.Proofs.YtebpggfccljagaaGreat
namespace Go.Proofs.YtebpggfccljagaaGreat
open Go.RowKit
open Wh
set_option linter.unusedSimpArgs false
set_option linter.unusedVariables false
end Go.Proofs.YtebpggfccljagaaGreat
namespace Go.Proofs.YtebpggfccljagaaGreat
open Go.RowKit
open Wh
set_option linter.unusedSimpArgs false
def RatS (w : World) (g : Nat) : Prop := ∃ cs, Blk w g 153 cs ∧ cs.size = 4
theorem RatS.lt {w : World} {g : Nat} (h : RatS w g) : g < w.heap.size := by
 obtain ⟨cs, hb, _⟩ := h
 exact hb.lt
theorem RatS.below {w w' : World} {g : Nat} (h : RatS w g) (hb : Below w.heap.size w w') : RatS w' g := by
 have hlt := h.lt
 obtain ⟨cs, hk, hs⟩ := h
 exact ⟨cs, hk.below hb hlt, hs⟩
theorem rat_made {w : World} {g : Nat} {a b : Int} {sa sb : Bool} {A B : Option Addr} {n c m d : Nat} (hs : RatS w g) (ha : Hid (sa = decide (a < 0) ∧ n = (wds a.natAbs).length)) (hnc : n ≤ c) (hc : c ≤ 9223372036854775807) (hA : ReadsW w w.heap.size A (wds a.natAbs))
  (hb : Hid (sb = decide (b < 0) ∧ m = (wds b.natAbs).length)) (hmd : m ≤ d) (hd : d ≤ 9223372036854775807) (hB : ReadsW w w.heap.size B (wds b.natAbs)) (hp : 0 < b) :
  RatB ((((w.setCell ⟨g, 0, none⟩ (.bool sa)).setCell ⟨g, 1, none⟩ (.slice A n c)).setCell ⟨g, 2, none⟩ (.bool sb)).setCell ⟨g, 3, none⟩ (.slice B m d)) g a b ∧
   w.grownBy ((((w.setCell ⟨g, 0, none⟩ (.bool sa)).setCell ⟨g, 1, none⟩ (.slice A n c)).setCell ⟨g, 2, none⟩ (.bool sb)).setCell ⟨g, 3, none⟩ (.slice B m d)) (some g) := by
 obtain ⟨cs, hk, hz⟩ := hs
 have hg : w.grownBy ((((w.setCell ⟨g, 0, none⟩ (.bool sa)).setCell ⟨g, 1, none⟩ (.slice A n c)).setCell ⟨g, 2, none⟩ (.bool sb)).setCell ⟨g, 3, none⟩ (.slice B m d)) (some g) :=
  only_setCell (p := ⟨g, 3, none⟩) (only_setCell (p := ⟨g, 2, none⟩) (only_setCell (p := ⟨g, 1, none⟩) (only_setCell (p := ⟨g, 0, none⟩) (World.grownBy.refl w (some g)) (.inl rfl) _) (.inl rfl) _) (.inl rfl) _) (.inl rfl) _
 have hk4 := (((hk.set_ 0 (.bool sa)).set_ 1 (.slice A n c)).set_ 2 (.bool sb)).set_ 3 (.slice B m d)
 have off : ∀ {l : List Nat} {X : Option Addr}, ReadsW w w.heap.size X l → ReadsW ((((w.setCell ⟨g, 0, none⟩ (.bool sa)).setCell ⟨g, 1, none⟩ (.slice A n c)).setCell ⟨g, 2, none⟩ (.bool sb)).setCell ⟨g, 3, none⟩ (.slice B m d)) w.heap.size X l := fun h =>
  h.other hg (Nat.le_refl _) fun r e => by
   injection e with e
   subst e
   exact ⟨_, _, _, hk, by decide⟩
 generalize ((((w.setCell ⟨g, 0, none⟩ (.bool sa)).setCell ⟨g, 1, none⟩ (.slice A n c)).setCell ⟨g, 2, none⟩ (.bool sb)).setCell ⟨g, 3, none⟩ (.slice B m d)) = w4 at *
 refine ⟨⟨⟨sa, A, n, c, ?_, ?_, ha, hnc, hc, (off hA).more hg.size⟩, ⟨sb, B, m, d, ?_, ?_, hb, hmd, hd, (off hB).more hg.size⟩, hp⟩, hg⟩
 ·rw [hk4.cell]; simp [hz]
 ·rw [hk4.cell]; simp [hz]
 ·rw [hk4.cell]; simp [hz]
 ·rw [hk4.cell]; simp [hz]
theorem len_le {x y : Nat} (h : x ≤ y) (hl : (wds y).length ≤ 900000000) : (wds x).length ≤ 900000000 := Nat.le_trans (len_mono h) hl
def gcS (a b : Int) : Int := if b < 0 then -(Nat.gcd a.natAbs b.natAbs : Int) else (Nat.gcd a.natAbs b.natAbs : Int)
theorem gcS_ne {a b : Int} (hb : b ≠ 0) : gcS a b ≠ 0 := by
 have : 0 < Nat.gcd a.natAbs b.natAbs := Nat.gcd_pos_of_pos_right _ (by omega)
 unfold gcS
 split <;> omega
theorem num_gcS {a b : Int} (hb : b ≠ 0) : a.tdiv (gcS a b) = (Rat.divInt a b).num := by
 rw [Rat.num_divInt]
 have hG : 0 < Nat.gcd a.natAbs b.natAbs := Nat.gcd_pos_of_pos_right _ (by omega)
 have hd : ((Nat.gcd a.natAbs b.natAbs : Nat) : Int) ∣ a := Int.ofNat_dvd_left.2 (Nat.gcd_dvd_left _ _)
 have e : ((Int.gcd b a : Nat) : Int) = ((Nat.gcd a.natAbs b.natAbs : Nat) : Int) := by rw [Int.gcd_comm]; rfl
 rw [e]
 unfold gcS
 generalize Nat.gcd a.natAbs b.natAbs = G at *
 obtain ⟨m, rfl⟩ := hd
 have hG' : (G : Int) ≠ 0 := by omega
 by_cases h : b < 0
 ·rw [if_pos h, Int.sign_eq_neg_one_of_neg h, Int.tdiv_neg, Int.mul_tdiv_cancel_left _ hG', show -1 * ((G : Int) * m) = (G : Int) * (-m) by rw [Int.mul_neg, Int.neg_mul, Int.one_mul], Int.mul_ediv_cancel_left _ hG']
 ·rw [if_neg h, Int.sign_eq_one_of_pos (by omega), Int.mul_tdiv_cancel_left _ hG', Int.one_mul, Int.mul_ediv_cancel_left _ hG']
theorem den_gcS {a b : Int} (hb : b ≠ 0) : b.tdiv (gcS a b) = ((Rat.divInt a b).den : Int) := by
 rw [Rat.den_divInt, if_neg hb]
 have hG : 0 < Nat.gcd a.natAbs b.natAbs := Nat.gcd_pos_of_pos_right _ (by omega)
 have hd : Nat.gcd a.natAbs b.natAbs ∣ b.natAbs := Nat.gcd_dvd_right _ _
 have e : Int.gcd b a = Nat.gcd a.natAbs b.natAbs := by rw [Int.gcd_comm]; rfl
 rw [e]
 unfold gcS
 generalize Nat.gcd a.natAbs b.natAbs = G at *
 obtain ⟨m, hm⟩ := hd
 have hG' : (G : Int) ≠ 0 := by omega
 rw [hm, Nat.mul_div_cancel_left _ hG]
 by_cases h : b < 0
 ·have eb : b = (G : Int) * (-(m : Int)) := by
   have : b = -(b.natAbs : Int) := by omega
   rw [this, hm, Int.mul_neg]; push_cast; rfl
  rw [if_pos h, eb, Int.tdiv_neg, Int.mul_tdiv_cancel_left _ hG', Int.neg_neg]
 ·have eb : b = (G : Int) * (m : Int) := by
   have : b = (b.natAbs : Int) := by omega
   rw [this, hm]; push_cast; rfl
  rw [if_neg h, eb, Int.mul_tdiv_cancel_left _ hG']
theorem abs_gcS (a b : Int) : (gcS a b).natAbs = Nat.gcd a.natAbs b.natAbs := by
 unfold gcS
 split <;> omega
theorem quoC_new {W : World} {ga gb oa ob : Nat} {a b : Int} (ha : IntC W ga oa a) (hb : IntC W gb ob b) (hal : (wds a.natAbs).length ≤ 900000000) (hbl : (wds b.natAbs).length ≤ 900000000) (hb0 : b ≠ 0) :
  Calls Tryz.prog 126 #[.pointer (some ⟨W.heap.size, 0, none⟩), .pointer (some ⟨ga, oa, none⟩), .pointer (some ⟨gb, ob, none⟩)] (W.alloc (.cells #[.bool false, .slice none 0 0] 151)) (fun e w' => e = .returned (.pointer (some ⟨W.heap.size, 0, none⟩)) ∧ IntB w' W.heap.size (a.tdiv b) ∧ Below W.heap.size W w') := by
 refine (quoC (IntB.zero W).slot (ha.below (new_below _ _)) (hb.below (new_below _ _)) hal hbl hb0).mono ?_
 rintro _ w' ⟨rfl, hi, hg⟩
 exact ⟨rfl, hi, below_new hg⟩
theorem gcdC_new {W : World} {ga gb oa ob : Nat} {a b : Int} (ha : IntC W ga oa a) (hb : IntC W gb ob b) (hal : (wds a.natAbs).length ≤ 900000000) (hbl : (wds b.natAbs).length ≤ 900000000) :
  Calls Tryz.prog 125 #[.pointer (some ⟨W.heap.size, 0, none⟩), .pointer none, .pointer none, .pointer (some ⟨ga, oa, none⟩), .pointer (some ⟨gb, ob, none⟩)] (W.alloc (.cells #[.bool false, .slice none 0 0] 151)) (fun e w' => e = .returned (.pointer (some ⟨W.heap.size, 0, none⟩)) ∧ IntB w' W.heap.size (Nat.gcd a.natAbs b.natAbs : Int) ∧ Below W.heap.size W w') := by
 refine (gcdC (IntB.zero W).slot (ha.below (new_below _ _)) (hb.below (new_below _ _)) hal hbl).mono ?_
 rintro _ w' ⟨rfl, hi, hg⟩
 exact ⟨rfl, hi, below_new hg⟩
set_option maxRecDepth 100000 in
set_option maxHeartbeats 4000000 in
theorem setfrac_any {w : World} {g ga gb oa ob : Nat} {a b : Int} (hz : RatS w g) (ha : IntC w ga oa a) (hb : IntC w gb ob b) (hal : (wds a.natAbs).length ≤ 900000000) (hbl : (wds b.natAbs).length ≤ 900000000) (hb0 : b ≠ 0) :
  Calls Tryz.prog 113 #[.pointer (some ⟨g, 0, none⟩), .pointer (some ⟨ga, oa, none⟩), .pointer (some ⟨gb, ob, none⟩)] w (fun e w' => e = .returned (.pointer (some ⟨g, 0, none⟩)) ∧ RatB w' g (Rat.divInt a b).num ((Rat.divInt a b).den : Int) ∧ w.grownBy w' (some g)) := by
 have hGle : Nat.gcd a.natAbs b.natAbs ≤ b.natAbs := Nat.gcd_le_right _ (by omega)
 have HG := Lib.hid (gcdC_new ha hb hal hbl)
 have HS := Lib.hid (And.intro (gcS_ne (a := a) hb0) (And.intro (abs_gcS a b) (And.intro (num_gcS (a := a) hb0) (den_gcS (a := a) hb0))))
 have HE := Lib.hid (show gcS a b = if b < 0 then -(Nat.gcd a.natAbs b.natAbs : Int) else (Nat.gcd a.natAbs b.natAbs : Int) from rfl)
 obtain ⟨S, hSe⟩ : ∃ S, S = gcS a b := ⟨_, rfl⟩
 obtain ⟨G, hGe⟩ : ∃ G, G = Nat.gcd a.natAbs b.natAbs := ⟨_, rfl⟩
 obtain ⟨qn, hqn⟩ : ∃ qn, qn = (Rat.divInt a b).num := ⟨_, rfl⟩
 obtain ⟨qd, hqd⟩ : ∃ qd : Int, qd = ((Rat.divInt a b).den : Int) := ⟨_, rfl⟩
 have hqp : 0 < qd := by rw [hqd]; have := (Rat.divInt a b).den_pos; omega
 rw [← hqn, ← hqd]
 rw [← hSe, ← hGe] at HE
 rw [← hSe, ← hqn, ← hqd, ← hGe] at HS
 rw [← hGe] at HG hGle
 have HQ := Lib.hid hqp
 have HL := Lib.hid (And.intro hal (And.intro hbl (And.intro hGle hb0)))
 have HA := Lib.hid (And.intro ha (And.intro hb hz))
 obtain ⟨sb, Ab, nb, cb, y0, y1, Hy, _, _, _⟩ := hb.opened
 have glb := hb.lt'
 clear hal hbl hb0 hSe hGe hqn hqd hqp hGle ha hb hz
 by_cases hneg : b < 0
 ·have hsb : sb = true := by rw [Hy.out.1]; exact decide_eq_true hneg
  subst hsb
  have hS : S = -(G : Int) := by rw [HE.out, if_pos hneg]
  subst hS
  have HGl : Hid ((wds (G : Int).natAbs).length ≤ 900000000) := by rw [Int.natAbs_natCast]; exact len_le HL.out.2.2.1 HL.out.2.1
  clear hneg HE
  go_enter Tryz.func113, Tryz.ntmps113
  go_wp2_with (go_at_call 125; (refine HG.out.mono ?_); rintro _ W1 ⟨rfl, hi1, hb1⟩; have y0n := (hb1.cell (p := ⟨gb, ob, none⟩) glb).trans y0; have HN := Lib.hid (negC hi1.slot hi1.inC HGl.out); have Hb1 := Lib.hid hb1; clear hi1 hb1)
  refine HN.out.mono ?_
  rintro _ W1' ⟨rfl, hi1', hg1⟩
  have HB1 := Lib.hid (Hb1.out.grown hg1 Hb1.out.size (fun k hk => by injection hk with hk; omega))
  have HI1 := Lib.hid hi1'
  clear hi1' hg1 Hb1 HN y0n y0 y1
  go_wp2_with fail
  have Q1 := Lib.hid (quoC_new (HA.out.1.below HB1.out) HI1.out.inC HL.out.1 (by rw [HS.out.2.1]; exact len_le HL.out.2.2.1 HL.out.2.1) HS.out.1)
  refine Q1.out.mono ?_
  rintro _ W2 ⟨rfl, hi2, hb2⟩
  have hb12 := HB1.out.trans (hb2.mono HB1.out.size)
  have Q2 := Lib.hid (quoC_new (HA.out.2.1.below hb12) (HI1.out.below hb2).inC HL.out.2.1 (by rw [HS.out.2.1]; exact len_le HL.out.2.2.1 HL.out.2.1) HS.out.1)
  go_wp2_with (go_at_call 126; (refine Q2.out.mono ?_); rintro _ W3 ⟨rfl, hi3, hb3⟩)
  have hb13 := hb12.trans (hb3.mono hb12.size)
  have hgl := HA.out.2.2.lt
  have hi2' := hi2.below hb3
  have hz3 := HA.out.2.2.below hb13
  have hl1 := HB1.out.size
  have hl2 := hb2.size
  have gn1 : ¬ g = w.heap.size := by omega
  have gn2 : ¬ g = W2.heap.size := by omega
  have gm1 : ¬ w.heap.size = g := by omega
  have gm2 : ¬ W2.heap.size = g := by omega
  rw [HS.out.2.2.1] at hi2'
  rw [HS.out.2.2.2] at hi3
  obtain ⟨s2, A2, n2, c2, u0, u1, Hu, hu1, hu2, hur⟩ := hi2'.opened
  obtain ⟨s3, A3, n3, c3, v0, v1, Hv, hv1, hv2, hvr⟩ := hi3.opened
  have Hz3 := Lib.hid hz3
  obtain ⟨cs, hk, hcs⟩ := hz3
  obtain ⟨z0, e0⟩ : ∃ z, W3.cell? ⟨g, 0, none⟩ = some z := ⟨cs[0]'(by omega), by rw [hk.cell]; exact Array.getElem?_eq_getElem (by omega)⟩
  obtain ⟨z1, e1⟩ : ∃ z, W3.cell? ⟨g, 1, none⟩ = some z := ⟨cs[1]'(by omega), by rw [hk.cell]; exact Array.getElem?_eq_getElem (by omega)⟩
  obtain ⟨z2, e2⟩ : ∃ z, W3.cell? ⟨g, 2, none⟩ = some z := ⟨cs[2]'(by omega), by rw [hk.cell]; exact Array.getElem?_eq_getElem (by omega)⟩
  obtain ⟨z3, e3⟩ : ∃ z, W3.cell? ⟨g, 3, none⟩ = some z := ⟨cs[3]'(by omega), by rw [hk.cell]; exact Array.getElem?_eq_getElem (by omega)⟩
  have f0 := hk.frozen 0
  have f1 := hk.frozen 1
  have f2 := hk.frozen 2
  have f3 := hk.frozen 3
  have HU := Lib.hid (And.intro hu1 (And.intro hu2 hur))
  have HV := Lib.hid (And.intro hv1 (And.intro hv2 hvr))
  have HB := Lib.hid hb13
  generalize W2.heap.size = N2 at *
  clear hk hcs hi2' hi2 hi3 hu1 hu2 hur hv1 hv2 hvr hb13 hb12 hb2 hb3 Q1 Q2 hgl hl1 hl2 HI1 HB1 HS HL HA HG
  go_region
  go_wp2_with fail
  go_ret
  obtain ⟨r1, r2⟩ := rat_made Hz3.out Hu HU.out.1 HU.out.2.1 HU.out.2.2 Hv HV.out.1 HV.out.2.1 HV.out.2.2 HQ.out
  have r3 := grown_lift HB.out r2
  exact ⟨rfl, ⟨r1.num, r1.den, r1.pos⟩, ⟨r3.os, r3.tape, r3.output, r3.size, r3.block⟩⟩
 ·have hsb : sb = false := by rw [Hy.out.1]; exact decide_eq_false hneg
  subst hsb
  have hS : S = (G : Int) := by rw [HE.out, if_neg hneg]
  subst hS
  clear hneg HE
  go_enter Tryz.func113, Tryz.ntmps113
  go_wp2_with (go_at_call 125; (refine HG.out.mono ?_); rintro _ W1 ⟨rfl, hi1, hb1⟩; have y0n := (hb1.cell (p := ⟨gb, ob, none⟩) glb).trans y0; have HB1 := Lib.hid hb1; have HI1 := Lib.hid hi1; clear hi1 hb1)
  have Q1 := Lib.hid (quoC_new (HA.out.1.below HB1.out) HI1.out.inC HL.out.1 (by rw [HS.out.2.1]; exact len_le HL.out.2.2.1 HL.out.2.1) HS.out.1)
  refine Q1.out.mono ?_
  rintro _ W2 ⟨rfl, hi2, hb2⟩
  have hb12 := HB1.out.trans (hb2.mono HB1.out.size)
  have Q2 := Lib.hid (quoC_new (HA.out.2.1.below hb12) (HI1.out.below hb2).inC HL.out.2.1 (by rw [HS.out.2.1]; exact len_le HL.out.2.2.1 HL.out.2.1) HS.out.1)
  go_wp2_with (go_at_call 126; (refine Q2.out.mono ?_); rintro _ W3 ⟨rfl, hi3, hb3⟩)
  have hb13 := hb12.trans (hb3.mono hb12.size)
  have hgl := HA.out.2.2.lt
  have hi2' := hi2.below hb3
  have hz3 := HA.out.2.2.below hb13
  have hl1 := HB1.out.size
  have hl2 := hb2.size
  have gn1 : ¬ g = w.heap.size := by omega
  have gn2 : ¬ g = W2.heap.size := by omega
  have gm1 : ¬ w.heap.size = g := by omega
  have gm2 : ¬ W2.heap.size = g := by omega
  rw [HS.out.2.2.1] at hi2'
  rw [HS.out.2.2.2] at hi3
  obtain ⟨s2, A2, n2, c2, u0, u1, Hu, hu1, hu2, hur⟩ := hi2'.opened
  obtain ⟨s3, A3, n3, c3, v0, v1, Hv, hv1, hv2, hvr⟩ := hi3.opened
  have Hz3 := Lib.hid hz3
  obtain ⟨cs, hk, hcs⟩ := hz3
  obtain ⟨z0, e0⟩ : ∃ z, W3.cell? ⟨g, 0, none⟩ = some z := ⟨cs[0]'(by omega), by rw [hk.cell]; exact Array.getElem?_eq_getElem (by omega)⟩
  obtain ⟨z1, e1⟩ : ∃ z, W3.cell? ⟨g, 1, none⟩ = some z := ⟨cs[1]'(by omega), by rw [hk.cell]; exact Array.getElem?_eq_getElem (by omega)⟩
  obtain ⟨z2, e2⟩ : ∃ z, W3.cell? ⟨g, 2, none⟩ = some z := ⟨cs[2]'(by omega), by rw [hk.cell]; exact Array.getElem?_eq_getElem (by omega)⟩
  obtain ⟨z3, e3⟩ : ∃ z, W3.cell? ⟨g, 3, none⟩ = some z := ⟨cs[3]'(by omega), by rw [hk.cell]; exact Array.getElem?_eq_getElem (by omega)⟩
  have f0 := hk.frozen 0
  have f1 := hk.frozen 1
  have f2 := hk.frozen 2
  have f3 := hk.frozen 3
  have HU := Lib.hid (And.intro hu1 (And.intro hu2 hur))
  have HV := Lib.hid (And.intro hv1 (And.intro hv2 hvr))
  have HB := Lib.hid hb13
  generalize W2.heap.size = N2 at *
  clear hk hcs hi2' hi2 hi3 hu1 hu2 hur hv1 hv2 hvr hb13 hb12 hb2 hb3 Q1 Q2 hgl hl1 hl2 HI1 HB1 HS HL HA HG
  go_region
  go_wp2_with fail
  go_ret
  obtain ⟨r1, r2⟩ := rat_made Hz3.out Hu HU.out.1 HU.out.2.1 HU.out.2.2 Hv HV.out.1 HV.out.2.1 HV.out.2.2 HQ.out
  have r3 := grown_lift HB.out r2
  exact ⟨rfl, ⟨r1.num, r1.den, r1.pos⟩, ⟨r3.os, r3.tape, r3.output, r3.size, r3.block⟩⟩
theorem RatS.zero (w : World) : RatS (w.alloc (.cells #[.bool false, .slice none 0 0, .bool false, .slice none 0 0] 153)) w.heap.size := ⟨_, Blk.new w 153 _, rfl⟩
theorem grown_cell {w w' : World} {r b o : Nat} (h : w.grownBy w' (some r)) (hb : b < w.heap.size) (hne : b ≠ r) : w'.cell? ⟨b, o, none⟩ = w.cell? ⟨b, o, none⟩ :=
 World.cell?_of_block (h.block b hb (by intro e; injection e with e; exact hne e))
set_option maxRecDepth 100000 in
set_option maxHeartbeats 4000000 in
theorem back_any {w : World} {gx : Nat} {z : Int} (hx : IntB w gx z) (hxl : (wds z.natAbs).length ≤ 100000000) :
  Calls Tryz.prog 122 #[.pointer (some ⟨gx, 0, none⟩)] w (fun e w' => e = .returned (enc z) ∧ Below w.heap.size w w') := by
 have hb0 := new_below w (.cells #[.bool false, .string ⟨#[]⟩] 23)
 have hx1 := hx.below hb0
 have Hx := Lib.hid (And.intro hx1 (And.intro hxl hb0))
 have HS := Lib.hid (sign_any hx1)
 obtain ⟨sv, hsv⟩ : ∃ sv, sv = sg z := ⟨_, rfl⟩
 rw [← hsv] at HS
 have Hsv := Lib.hid hsv
 clear hsv hx hx1 hxl hb0
 go_enter Tryz.func122, Tryz.ntmps122
 go_wp2_with fail
 refine HS.out.mono ?_
 rintro e w3 ⟨rfl, rfl⟩
 have HY := Lib.hid (bytes_any (m := z.natAbs) z rfl Hx.out.1 (by have := Hx.out.2.1; omega))
 go_wp2_with fail
 refine HY.out.mono ?_
 rintro e w4 ⟨A, n, rfl, hn, hr, hb4⟩
 have hstr := run_str (c := n) hn.out hr
 have hbk := (Blk.new w 23 #[.bool false, .string ⟨#[]⟩]).below hb4 (by simp)
 have d0 := hbk.cell 0
 have d1 := hbk.cell 1
 have f0 := hbk.frozen 0
 have f1 := hbk.frozen 1
 have Hb24 := Lib.hid (And.intro hbk hb4)
 clear hbk hb4 hr
 go_wp2_with fail
 refine bodyPost_ret (v := .agg #[.bool (decide (sv < 0)), .string ⟨(bys z.natAbs).toArray⟩]) (by simp [results, Tryz.results122, go_sem, d0, d1]) rfl ?_
 refine ⟨?_, ?_⟩
 ·unfold enc
  rw [Hsv.out, sg_neg]
 ·exact ((Hx.out.2.2.trans (Hb24.out.2.mono (by simp))).setCell (Nat.le_refl _) _).setCell (Nat.le_refl _) _
def encF (a b : Int) : Value := .agg #[.bool (decide (a < 0)), .string ⟨(bys a.natAbs).toArray⟩, .bool (decide (b < 0)), .string ⟨(bys b.natAbs).toArray⟩]
set_option maxRecDepth 100000 in
set_option maxHeartbeats 4000000 in
theorem toldf_any {w : World} {g : Nat} {a b : Int} (hr : RatB w g a b) (hal : (wds a.natAbs).length ≤ 100000000) (hbl : (wds b.natAbs).length ≤ 100000000) :
  Calls Tryz.prog 107 #[.pointer (some ⟨g, 0, none⟩)] w (fun e w' => e = .returned (encF a b) ∧ Below w.heap.size w w') := by
 have hb0 := new_below w (.cells #[.bool false, .string ⟨#[]⟩, .bool false, .string ⟨#[]⟩] 25)
 have hr0 := hr.below hb0
 have HN := Lib.hid (num_new hr0 (by omega))
 have Hr := Lib.hid (And.intro hr0 (And.intro hal hbl))
 have Hb := Lib.hid hb0
 clear hr hr0 hal hbl hb0
 go_enter Tryz.func107, Tryz.ntmps107
 go_wp2_with fail
 refine HN.out.mono ?_
 rintro _ W1 ⟨g1, rfl, hl1, hi1, hb1⟩
 have HB1 := Lib.hid (back_any hi1 Hr.out.2.1)
 have Hi1 := Lib.hid hb1
 clear hl1 hi1 hb1
 go_wp2_with fail
 refine HB1.out.mono ?_
 rintro _ W2 ⟨rfl, hb2⟩
 have hb12 := Hi1.out.trans (hb2.mono Hi1.out.size)
 have HD := Lib.hid (denom_new (Hr.out.1.below hb12) (by have := Hr.out.2.2; omega))
 have H12 := Lib.hid hb12
 clear hb2 hb12
 unfold enc
 go_wp2_with fail
 refine HD.out.mono ?_
 rintro _ W3 ⟨g3, rfl, hl3, hi3, hb3⟩
 have HB3 := Lib.hid (back_any hi3 Hr.out.2.2)
 have H13 := Lib.hid (H12.out.trans (hb3.mono H12.out.size))
 clear hl3 hi3 hb3
 go_wp2_with fail
 refine HB3.out.mono ?_
 rintro _ W4 ⟨rfl, hb4⟩
 have h14 := H13.out.trans (hb4.mono H13.out.size)
 have hbk := (Blk.new w 25 #[.bool false, .string ⟨#[]⟩, .bool false, .string ⟨#[]⟩]).below h14 (by simp)
 have d0 := hbk.cell 0
 have d1 := hbk.cell 1
 have d2 := hbk.cell 2
 have d3 := hbk.cell 3
 have f0 := hbk.frozen 0
 have f1 := hbk.frozen 1
 have f2 := hbk.frozen 2
 have f3 := hbk.frozen 3
 have H14 := Lib.hid (Hb.out.trans (h14.mono Hb.out.size))
 clear hbk hb4 h14
 unfold enc
 go_wp2_with fail
 refine bodyPost_ret (v := encF a b) (by simp [results, Tryz.results107, go_sem, d0, d1, d2, d3, encF]) rfl ?_
 exact ⟨rfl, (((H14.out.setCell (Nat.le_refl _) _).setCell (Nat.le_refl _) _).setCell (Nat.le_refl _) _).setCell (Nat.le_refl _) _⟩
end Go.Proofs.YtebpggfccljagaaGreat
