import Derived.Test.YtebpggfccljagaaGreatDoorC2
import Derived.Test.YtebpggfccljagaaGreatDoorProg
import Derived.Test.YtebpggfccljagaaGreatDoorC1
import Derived.WalkKit
import Derived.WalkLawsBesides
import Derived.WalkSpells
import Derived.Handy
import Derived.Deep.LoopGhost
import Derived.Lib.AppendStr
import Derived.Laws.BytesArg
/- *big.Int: QuoRem, Quo, DivMod (printed by gen_int3.py). -/
namespace Go.Proofs.YtebpggfccljagaaGreatDoor
open Go.RowKit
open Wh
set_option linter.unusedSimpArgs false

theorem wpW_append {w : World} {ops : Array Oper} {rest : List Oper} {o : Oper} {a : Act} {Q : Exit → Act → World → Prop} (hgd : o.guard = none) (s x : Operand)
    (ho : o.op = .call { callee := .builtin .append, args := #[s, x], argTypes := #[149, 149] }) (B : Nat) (v : Value) (l : List Nat) (hown : OwnW w B v l) (hs : a.eval s = v)
    (B' : Nat) (A : Option Addr) (news : List Nat) (hr : ReadsW w B' A news) (m c : Nat) (hm : m = news.length) (hx : a.eval x = .slice A m c) (hlen : l.length + news.length ≤ 35184372088830) (hbase : B ≤ w.heap.size)
    (h : ∀ A' n' c' w', OwnW w' B (.slice A' n' c') (l ++ news) → w.grownBy w' v.ownBlock → wpList Tryz.prog ops Q rest (a.put o.dst (.slice A' n' c')) w') :
    wpList Tryz.prog ops Q (o :: rest) a w := by
  obtain ⟨i0, hi, hz0, hz1, hz2⟩ := info_parts infoW
  subst hm
  refine wpList_append_any w hgd s x 149 ho B 163 i0 (.int .u32 0) 1 4 Tryz.underlying149 hi hz0 hz1 hz2 rfl (by decide) v l.length (l.map wv) hs hown B' A news.length c (news.map wv) hx hr.1 (wv_one _) (by unfold maxLen; omega) (by omega) hbase ?_
  intro v' w' h1 h2 h3
  have h4 : OwnW w' B v' (l ++ news) := by
    unfold OwnW
    rw [List.length_append, List.map_append]
    exact h1
  obtain ⟨A', c', rfl, _⟩ := h4.form
  exact h A' _ c' w' h4 h2
theorem sgn_tdiv (x y : Int) : sgn (!(decide (x < 0) == decide (y < 0))) (x.natAbs / y.natAbs) = x.tdiv y := by
  have key : ∀ a b : Nat, ((a : Int)).tdiv (b : Int) = ((a / b : Nat) : Int) := fun a b => rfl
  unfold sgn
  by_cases h1 : x < 0 <;> by_cases h2 : y < 0
  · have e1 : x = -(x.natAbs : Int) := by omega
    have e2 : y = -(y.natAbs : Int) := by omega
    simp only [h1, h2, decide_true, beq_self_eq_true, Bool.not_true, Bool.false_eq_true, if_false]
    conv => rhs; rw [e1, e2, Int.neg_tdiv, Int.tdiv_neg, Int.neg_neg, key]
  · have e1 : x = -(x.natAbs : Int) := by omega
    have e2 : y = (y.natAbs : Int) := by omega
    simp only [h1, h2, decide_true, decide_false]
    conv => rhs; rw [e1, e2, Int.neg_tdiv, key]
    exact if_pos rfl
  · have e1 : x = (x.natAbs : Int) := by omega
    have e2 : y = -(y.natAbs : Int) := by omega
    simp only [h1, h2, decide_true, decide_false]
    conv => rhs; rw [e1, e2, Int.tdiv_neg, key]
    exact if_pos rfl
  · have e1 : x = (x.natAbs : Int) := by omega
    have e2 : y = (y.natAbs : Int) := by omega
    simp only [h1, h2, decide_false, beq_self_eq_true, Bool.not_true, Bool.false_eq_true, if_false]
    conv => rhs; rw [e1, e2, key]
theorem sgn_tmod (x y : Int) : sgn (decide (x < 0)) (x.natAbs % y.natAbs) = x.tmod y := by
  have key : ∀ a b : Nat, ((a : Int)).tmod (b : Int) = ((a % b : Nat) : Int) := fun a b => rfl
  have k2 : ∀ a : Nat, (a : Int).tmod y = ((a % y.natAbs : Nat) : Int) := fun a => by
    by_cases h2 : y < 0
    · have e2 : y = -(y.natAbs : Int) := by omega
      conv => lhs; rw [e2, Int.tmod_neg, key]
    · have e2 : y = (y.natAbs : Int) := by omega
      conv => lhs; rw [e2, key]
  unfold sgn
  by_cases h1 : x < 0
  · have e1 : x = -(x.natAbs : Int) := by omega
    simp only [h1, decide_true, if_true]
    conv => rhs; rw [e1, Int.neg_tmod, k2]
  · have e1 : x = (x.natAbs : Int) := by omega
    simp only [h1, decide_false, Bool.false_eq_true, if_false]
    conv => rhs; rw [e1, k2]

/-- two numbers are put, r first -/
def Puts2 (w : World) (g gr : Nat) (q r : Int) (e : Ending) (w' : World) : Prop := ∃ wm, e = .returned (.tuple #[.pointer (some ⟨g, 0, none⟩), .pointer (some ⟨gr, 0, none⟩)]) ∧ IntB w' g q ∧ IntB w' gr r ∧ w.grownBy wm (some gr) ∧ wm.grownBy w' (some g)

set_option maxRecDepth 100000 in
set_option maxHeartbeats 4000000 in
theorem quorem_any {w : World} {g gr gx gy : Nat} {x y : Int} (hz : IntS w g) (hr : IntS w gr) (hne : g ≠ gr) (hx : IntB w gx x) (hy : IntB w gy y) (hxl : (wds x.natAbs).length ≤ 900000000) (hyl : (wds y.natAbs).length ≤ 900000000) (hy0 : y ≠ 0) :
    Calls Tryz.prog 174 #[.pointer (some ⟨g, 0, none⟩), .pointer (some ⟨gx, 0, none⟩), .pointer (some ⟨gy, 0, none⟩), .pointer (some ⟨gr, 0, none⟩)] w (Puts2 w g gr (x.tdiv y) (x.tmod y)) := by
  obtain ⟨sx, Ax, nx, cx, x0, x1, Hx, hxc, hxcl, rx⟩ := hx.opened
  obtain ⟨sy, Ay, ny, cy, y0, y1, Hy, hyc, hycl, ry⟩ := hy.opened
  have glx := hx.lt
  have gly := hy.lt
  have Hp := Lib.hid (divide_any (c := cx) (d := cy) (rx.drewN 1) (ry.drewN 1) (Nat.le_refl _) Hx.out.2 Hy.out.2 (by have := Hx.out.2; omega) (by have := Hy.out.2; omega) hxc hxcl hyc hycl (by omega))
  have Hl := Lib.hid (And.intro hxl hne)
  clear rx ry hxl hyl hy0 hne
  go_enter Tryz.func174, Tryz.ntmps174
  go_wp2_with fail
  refine wp_region_noPanic ?_
  refine wp_region_HK (fun w' => (w'.cell? ⟨gx, 0, none⟩ = some (.bool sx) ∧ w'.cell? ⟨gx, 1, none⟩ = some (.slice Ax nx cx)) ∧ (w'.cell? ⟨gy, 0, none⟩ = some (.bool sy) ∧ w'.cell? ⟨gy, 1, none⟩ = some (.slice Ay ny cy))) 14 (by kernel_rfl) ⟨⟨x0, x1⟩, ⟨y0, y1⟩⟩ (fun hHeld => ?_)
  refine wpHK_take (i := 0) (oi := Oper.mk (some 15) _ _ _ _ _) (v := ?_) rfl (by kernel_rfl) (by kernel_rfl) (by kernel_rfl) (by kernel_rfl) (fun _ _ _ h => h) (Or.inl ⟨by rfl, ?_⟩) (by assumption) ?_
  rotate_left
  · (intro w' hSw; (try dsimp only at hSw); (obtain ⟨⟨s1, s2⟩, ⟨s3, s4⟩⟩ := hSw); go_simp; try with_reducible rfl)
  try simp only [Act.put, List.setIfInBounds_toArray, List.set_cons_zero, List.set_cons_succ]
  refine wpHK_take (i := 1) (oi := Oper.mk (some 16) _ _ _ _ _) (v := ?_) rfl (by kernel_rfl) (by kernel_rfl) (by kernel_rfl) (by kernel_rfl) (fun _ _ _ h => h) (Or.inl ⟨by rfl, ?_⟩) (by assumption) ?_
  rotate_left
  · (intro w' hSw; (try dsimp only at hSw); (obtain ⟨⟨s1, s2⟩, ⟨s3, s4⟩⟩ := hSw); go_simp; try with_reducible rfl)
  try simp only [Act.put, List.setIfInBounds_toArray, List.set_cons_zero, List.set_cons_succ]
  refine wpHK_take (i := 2) (oi := Oper.mk (some 17) _ _ _ _ _) (v := ?_) rfl (by kernel_rfl) (by kernel_rfl) (by kernel_rfl) (by kernel_rfl) (fun _ _ _ h => h) (Or.inl ⟨by rfl, ?_⟩) (by assumption) ?_
  rotate_left
  · (intro w' hSw; (try dsimp only at hSw); (obtain ⟨⟨s1, s2⟩, ⟨s3, s4⟩⟩ := hSw); go_simp; try with_reducible rfl)
  try simp only [Act.put, List.setIfInBounds_toArray, List.set_cons_zero, List.set_cons_succ]
  refine wpHK_take (i := 3) (oi := Oper.mk (some 18) _ _ _ _ _) (v := ?_) rfl (by kernel_rfl) (by kernel_rfl) (by kernel_rfl) (by kernel_rfl) (fun _ _ _ h => h) (Or.inl ⟨by rfl, ?_⟩) (by assumption) ?_
  rotate_left
  · (intro w' hSw; (try dsimp only at hSw); (obtain ⟨⟨s1, s2⟩, ⟨s3, s4⟩⟩ := hSw); go_simp; try with_reducible rfl)
  try simp only [Act.put, List.setIfInBounds_toArray, List.set_cons_zero, List.set_cons_succ]
  refine wpHK_take (i := 4) (oi := Oper.mk (some 19) _ _ _ _ _) (v := ?_) rfl (by kernel_rfl) (by kernel_rfl) (by kernel_rfl) (by kernel_rfl) (fun _ _ _ h => h) (Or.inl ⟨by rfl, ?_⟩) (by assumption) ?_
  rotate_left
  · (intro w' hSw; (try dsimp only at hSw); (obtain ⟨⟨s1, s2⟩, ⟨s3, s4⟩⟩ := hSw); go_simp; try with_reducible rfl)
  try simp only [Act.put, List.setIfInBounds_toArray, List.set_cons_zero, List.set_cons_succ]
  refine wpHK_take (i := 5) (oi := Oper.mk (some 20) _ _ _ _ _) (v := ?_) rfl (by kernel_rfl) (by kernel_rfl) (by kernel_rfl) (by kernel_rfl) (fun _ _ _ h => h) (Or.inl ⟨by rfl, ?_⟩) (by assumption) ?_
  rotate_left
  · (intro w' hSw; (try dsimp only at hSw); (obtain ⟨⟨s1, s2⟩, ⟨s3, s4⟩⟩ := hSw); go_simp; try with_reducible rfl)
  try simp only [Act.put, List.setIfInBounds_toArray, List.set_cons_zero, List.set_cons_succ]
  refine wpHK_take (i := 6) (oi := Oper.mk (some 21) _ _ _ _ _) (v := ?_) rfl (by kernel_rfl) (by kernel_rfl) (by kernel_rfl) (by kernel_rfl) (fun _ _ _ h => h) (Or.inl ⟨by rfl, ?_⟩) (by assumption) ?_
  rotate_left
  · (intro w' hSw; (try dsimp only at hSw); (obtain ⟨⟨s1, s2⟩, ⟨s3, s4⟩⟩ := hSw); go_simp; try with_reducible rfl)
  try simp only [Act.put, List.setIfInBounds_toArray, List.set_cons_zero, List.set_cons_succ]
  refine wpHK_take (i := 7) (oi := Oper.mk (some 22) _ _ _ _ _) (v := ?_) rfl (by kernel_rfl) (by kernel_rfl) (by kernel_rfl) (by kernel_rfl) (fun _ _ _ h => h) (Or.inl ⟨by rfl, ?_⟩) (by assumption) ?_
  rotate_left
  · (intro w' hSw; (try dsimp only at hSw); (obtain ⟨⟨s1, s2⟩, ⟨s3, s4⟩⟩ := hSw); go_simp; try with_reducible rfl)
  try simp only [Act.put, List.setIfInBounds_toArray, List.set_cons_zero, List.set_cons_succ]
  refine wpHK_one (j := 8) (o := Oper.mk (some 23) _ _ _ _ _) rfl (by kernel_rfl) (fun K hK => ?_)
  go_simp
  refine (Hp.out).mono ?_
  rintro e w5 ⟨A5, m5, c5, A6, m6, c6, rfl, hm5, hc5, hc6, hcl5, hcl6, hr5, hr6, hb5⟩
  try simp only []
  have hb5' : Below w.heap.size w w5 := undrew hb5
  have bcell5 : ∀ {b o : Nat}, b < w.heap.size → w5.cell? ⟨b, o, none⟩ = w.cell? ⟨b, o, none⟩ := fun {b o} h => hb5'.cell (p := ⟨b, o, none⟩) h
  have hz5 := hz.below hb5'
  have hr5' := hr.below hb5'
  have hC5 : (w5.cell? ⟨gx, 0, none⟩ = some (.bool sx) ∧ w5.cell? ⟨gx, 1, none⟩ = some (.slice Ax nx cx)) ∧ (w5.cell? ⟨gy, 0, none⟩ = some (.bool sy) ∧ w5.cell? ⟨gy, 1, none⟩ = some (.slice Ay ny cy)) := ⟨⟨(bcell5 glx).trans x0, (bcell5 glx).trans x1⟩, ⟨(bcell5 gly).trans y0, (bcell5 gly).trans y1⟩⟩
  refine hK.out _ _ hC5 (fun _ => ?_)
  clear hK K hHeld
  have hHeld := hC5
  try simp only [Act.put, List.setIfInBounds_toArray, List.set_cons_zero, List.set_cons_succ]
  refine wpHK_take (i := 9) (oi := Oper.mk (some 14) _ _ _ _ _) (v := ?_) rfl (by kernel_rfl) (by kernel_rfl) (by kernel_rfl) (by kernel_rfl) (fun _ _ _ h => h) (Or.inl ⟨by rfl, ?_⟩) (by assumption) ?_
  rotate_left
  · (intro w' hSw; (try dsimp only at hSw); (obtain ⟨⟨s1, s2⟩, ⟨s3, s4⟩⟩ := hSw); go_simp; try with_reducible rfl)
  try simp only [Act.put, List.setIfInBounds_toArray, List.set_cons_zero, List.set_cons_succ]
  refine wpHK_take (i := 10) (oi := Oper.mk (some 24) _ _ _ _ _) (v := ?_) rfl (by kernel_rfl) (by kernel_rfl) (by kernel_rfl) (by kernel_rfl) (fun _ _ _ h => h) (Or.inl ⟨by rfl, ?_⟩) (by assumption) ?_
  rotate_left
  · (intro w' hSw; (try dsimp only at hSw); (obtain ⟨⟨s1, s2⟩, ⟨s3, s4⟩⟩ := hSw); go_simp; try with_reducible rfl)
  try simp only [Act.put, List.setIfInBounds_toArray, List.set_cons_zero, List.set_cons_succ]
  refine wpHK_take (i := 11) (oi := Oper.mk (some 25) _ _ _ _ _) (v := ?_) rfl (by kernel_rfl) (by kernel_rfl) (by kernel_rfl) (by kernel_rfl) (fun _ _ _ h => h) (Or.inl ⟨by rfl, ?_⟩) (by assumption) ?_
  rotate_left
  · (intro w' hSw; (try dsimp only at hSw); (obtain ⟨⟨s1, s2⟩, ⟨s3, s4⟩⟩ := hSw); go_simp; try with_reducible rfl)
  try simp only [Act.put, List.setIfInBounds_toArray, List.set_cons_zero, List.set_cons_succ]
  refine wpHK_take (i := 12) (oi := Oper.mk (some 10) _ _ _ _ _) (v := ?_) rfl (by kernel_rfl) (by kernel_rfl) (by kernel_rfl) (by kernel_rfl) (fun _ _ _ h => h) (Or.inl ⟨by rfl, ?_⟩) (by assumption) ?_
  rotate_left
  · (intro w' hSw; (try dsimp only at hSw); (obtain ⟨⟨s1, s2⟩, ⟨s3, s4⟩⟩ := hSw); go_simp; try with_reducible rfl)
  try simp only [Act.put, List.setIfInBounds_toArray, List.set_cons_zero, List.set_cons_succ]
  refine wpHK_take (i := 13) (oi := Oper.mk (some 11) _ _ _ _ _) (v := ?_) rfl (by kernel_rfl) (by kernel_rfl) (by kernel_rfl) (by kernel_rfl) (fun _ _ _ h => h) (Or.inl ⟨by rfl, ?_⟩) (by assumption) ?_
  rotate_left
  · (intro w' hSw; (try dsimp only at hSw); (obtain ⟨⟨s1, s2⟩, ⟨s3, s4⟩⟩ := hSw); go_simp; try with_reducible rfl)
  try simp only [Act.put, List.setIfInBounds_toArray, List.set_cons_zero, List.set_cons_succ]
  refine wpHK_done (by kernel_rfl) ?_ _
  refine NoPanic.normal ?_
  obtain ⟨⟨u0, u1⟩, ⟨v0, v1⟩⟩ := hHeld
  have Hb5 := Lib.hid (And.intro hb5' (And.intro hr5 (And.intro hr6 hm5)))
  have Hz := Lib.hid (And.intro hz5 hr5')
  have hm6l : (wds (x.natAbs % y.natAbs)).length ≤ 900000000 := Nat.le_trans (len_mono (Nat.mod_le _ _)) Hl.out.1
  clear x0 x1 y0 y1 bcell5 hb5 hb5' hr5 hr6 hm5 hz hr hz5 hr5' hx hy hC5
  go_wp2_with fail
  go_quiet (fail)
  have Hap := Lib.hid (Hb5.out.2.2.1.drewN nq)
  have Hm6 := Lib.hid hm6l
  clear hm6l
  go_wp2_with (at_builtin; refine wpW_append rfl (.const (.slice none 0 0)) (.tmp 41) rfl w5.heap.size _ [] (OwnW.nil _ _) rfl _ _ (wds (x.natAbs % y.natAbs)) Hap.out m6 c6 Hb5.out.2.2.2.out.2 rfl (by have := Hm6.out; simp only [List.length_nil]; omega) (Nat.le_refl _) ?_; intro A7 n7 c7 w7 ho7 hg7; rw [List.nil_append] at ho7; have Ho7 := Lib.hid (And.intro ho7 hg7); clear ho7 hg7)
  have hb7 : Below w5.heap.size w5 w7 := undrewN (below_of_grown Ho7.out.2)
  have hz7 := Hz.out.1.below hb7
  have hr7 := Hz.out.2.below hb7
  have HI := Lib.hid (is_any sx hr7 Ho7.out.1.reads (Nat.le_refl _) Ho7.out.1.len.1 Ho7.out.1.len.2.1 Ho7.out.1.len.2.2 (wd_w _))
  have hw7 := (Hb5.out.2.1.below hb7).more hb7.size
  have Hb7 := Lib.hid (And.intro hb7 (And.intro hz7 (And.intro hw7 hr7)))
  clear hb7 hz7 hr7 hw7
  go_wp2_with fail
  refine HI.out.mono ?_
  rintro e w8 ⟨rfl, hi8, hg8⟩
  rw [val_w, Hx.out.1, sgn_tmod] at hi8
  have hz8 := Hb7.out.2.1.off hg8 Hl.out.2
  have hw8 := (Hb7.out.2.2.1.off Hb7.out.2.2.2 hg8 (Nat.le_refl _)).more hg8.size
  have HI2 := Lib.hid (is_any (!(sx == sy)) hz8 hw8 (Nat.le_refl _) Hb5.out.2.2.2.out.1 hc5 hcl5 (wd_w _))
  have H8 := Lib.hid (And.intro hi8 (And.intro hg8 hz8))
  clear hz8 hw8 hi8 hg8
  go_wp2_with fail
  refine HI2.out.mono ?_
  rintro e w9 ⟨rfl, hi9, hg9⟩
  rw [val_w, Hx.out.1, Hy.out.1, sgn_tdiv] at hi9
  have H9 := Lib.hid (And.intro hi9 hg9)
  clear hi9 hg9
  go_wp2_with fail
  go_ret2
  exact ⟨w8, rfl, H9.out.1, H8.out.1.off H8.out.2.2 H9.out.2 (fun h => Hl.out.2 h.symm), grown_lift (Hb5.out.1.trans (Hb7.out.1.mono Hb5.out.1.size)) H8.out.2.1, H9.out.2⟩
end Go.Proofs.YtebpggfccljagaaGreatDoor

/- *big.Int: Quo, DivMod (printed by gen_int4.py). -/
namespace Go.Proofs.YtebpggfccljagaaGreatDoor
open Go.RowKit
open Wh
set_option linter.unusedSimpArgs false

theorem grown_two {w w1 wm w' : World} {g gr : Nat} (hb : Below w.heap.size w w1) (h1 : w1.grownBy wm (some gr)) (h2 : wm.grownBy w' (some g)) (hgr : w.heap.size ≤ gr) : w.grownBy w' (some g) :=
  grown_lift (hb.grown h1 hb.size (fun k hk => by injection hk with hk; omega)) h2
theorem new_below (w : World) (o : Obj) : Below w.heap.size w (w.alloc o) := (Below.refl _ _).alloc (Nat.le_refl _) _
theorem len_tdiv {x y : Int} (h : (wds x.natAbs).length ≤ 900000000) : (wds (x.tdiv y).natAbs).length ≤ 900000000 :=
  Nat.le_trans (len_mono (by rw [Int.natAbs_tdiv]; exact Nat.div_le_self _ _)) h
theorem len_tmod {x y : Int} (h : (wds x.natAbs).length ≤ 900000000) : (wds (x.tmod y).natAbs).length ≤ 900000000 :=
  Nat.le_trans (len_mono (by rw [Int.natAbs_tmod]; exact Nat.mod_le _ _)) h
theorem len_one : (wds (1 : Int).natAbs).length ≤ 900000000 := by
  show (wds 1).length ≤ 900000000
  rw [wds_pos (by decide), show 1 / 4294967296 = 0 by decide, wds_zero]
  simp
theorem euclid_pos {x y : Int} (hy : y ≠ 0) (h : 0 ≤ x.tmod y) : x / y = x.tdiv y ∧ x % y = x.tmod y := by
  have e := Int.mul_tdiv_add_tmod x y
  have hl : (x.tmod y).natAbs < y.natAbs := by rw [Int.natAbs_tmod]; exact Nat.mod_lt _ (by omega)
  rcases Int.lt_or_gt_of_ne hy with h0 | h0
  · exact (Int.ediv_emod_unique' h0).2 ⟨by omega, h, by omega⟩
  · exact (Int.ediv_emod_unique h0).2 ⟨by omega, h, by omega⟩
theorem euclid_neg {x y : Int} (h : x.tmod y < 0) (hy : y < 0) : x / y = x.tdiv y + 1 ∧ x % y = x.tmod y + (y.natAbs : Int) := by
  have e := Int.mul_tdiv_add_tmod x y
  have hl : (x.tmod y).natAbs < y.natAbs := by rw [Int.natAbs_tmod]; exact Nat.mod_lt _ (by omega)
  exact (Int.ediv_emod_unique' hy).2 ⟨by rw [Int.mul_add, Int.mul_one]; omega, by omega, by omega⟩
theorem euclid_neg2 {x y : Int} (h : x.tmod y < 0) (hy : 0 < y) : x / y = x.tdiv y - 1 ∧ x % y = x.tmod y + (y.natAbs : Int) := by
  have e := Int.mul_tdiv_add_tmod x y
  have hl : (x.tmod y).natAbs < y.natAbs := by rw [Int.natAbs_tmod]; exact Nat.mod_lt _ (by omega)
  exact (Int.ediv_emod_unique hy).2 ⟨by rw [Int.mul_sub, Int.mul_one]; omega, by omega, by omega⟩

set_option maxRecDepth 100000 in
set_option maxHeartbeats 4000000 in
theorem quo_any {w : World} {g gx gy : Nat} {x y : Int} (hz : IntS w g) (hx : IntB w gx x) (hy : IntB w gy y) (hxl : (wds x.natAbs).length ≤ 900000000) (hyl : (wds y.natAbs).length ≤ 900000000) (hy0 : y ≠ 0) :
    Calls Tryz.prog 165 #[.pointer (some ⟨g, 0, none⟩), .pointer (some ⟨gx, 0, none⟩), .pointer (some ⟨gy, 0, none⟩)] w (Puts w g (x.tdiv y)) := by
  have hb := new_below w (.cells #[.bool false, .slice none 0 0] 151)
  have hne : g ≠ w.heap.size := by have := hz.lt; omega
  have HQ := Lib.hid (quorem_any (hz.below hb) (IntB.zero w).slot hne (hx.below hb) (hy.below hb) hxl hyl hy0)
  clear hz hx hy hxl hyl hy0 hne
  go_enter Tryz.func165, Tryz.ntmps165
  go_wp2_with fail
  refine HQ.out.mono ?_
  rintro e w2 ⟨wm, rfl, hiq, hir, hgm, hg2⟩
  go_wp2_with fail
  go_ret
  exact ⟨rfl, hiq, grown_two hb hgm hg2 (Nat.le_refl _)⟩
/-- quotient and rest are put -/
def PutsD (w : World) (g gr : Nat) (q r : Int) (e : Ending) (w' : World) : Prop := e = .returned (.tuple #[.pointer (some ⟨g, 0, none⟩), .pointer (some ⟨gr, 0, none⟩)]) ∧ IntB w' g q ∧ IntB w' gr r ∧
  ∀ (B : Nat) (w0 : World), Below B w0 w → B ≤ g → B ≤ gr → B ≤ w.heap.size → Below B w0 w'
theorem up_row {B : Nat} {w0 w w' : World} {g : Nat} (h : Below B w0 w) (hg : w.grownBy w' (some g)) (h1 : B ≤ w.heap.size) (h2 : B ≤ g) : Below B w0 w' := h.grown hg h1 (fun k hk => by injection hk with hk; omega)

end Go.Proofs.YtebpggfccljagaaGreatDoor

/- *big.Int: Rsh, GCD (printed by gen_int5.py). -/
namespace Go.Proofs.YtebpggfccljagaaGreatDoor
open Go.RowKit
open Wh
set_option linter.unusedSimpArgs false

theorem pow2_abs (n : Nat) : ((2 : Int) ^ n).natAbs = 2 ^ n := by rw [Int.natAbs_pow]; rfl
theorem pow2_pos (n : Nat) : (0 : Int) < 2 ^ n := by have := Int.pow_pos (n := 2) (m := n) (by decide); exact this
theorem pow2_cast (n : Nat) : (2 : Int) ^ n = ((2 ^ n : Nat) : Int) := by rw [Int.natCast_pow]; rfl
theorem shr_pos {x : Int} {n : Nat} (h : ¬ x < 0) : sgn false (x.natAbs / 2 ^ n) = x / 2 ^ n := by
  obtain ⟨m, rfl⟩ : ∃ m : Nat, x = (m : Int) := ⟨x.natAbs, by omega⟩
  rw [pow2_cast, ← Int.natCast_ediv]
  rfl
theorem shr_even {x : Int} {n : Nat} (h : x < 0) (he : x.natAbs / 2 ^ n * 2 ^ n = x.natAbs) : sgn true (x.natAbs / 2 ^ n) = x / 2 ^ n := by
  refine ((Int.ediv_emod_unique (r := 0) (pow2_pos n)).2 ⟨?_, Int.le_refl _, pow2_pos n⟩).1.symm
  rw [pow2_cast]
  show 0 + ((2 ^ n : Nat) : Int) * -((x.natAbs / 2 ^ n : Nat) : Int) = x
  rw [Int.mul_neg, ← Int.natCast_mul, Nat.mul_comm, he]
  omega
theorem shr_odd {x : Int} {n : Nat} (h : x < 0) (he : x.natAbs / 2 ^ n * 2 ^ n < x.natAbs) : sgn true (x.natAbs / 2 ^ n + 1) = x / 2 ^ n := by
  have hp := Nat.two_pow_pos n
  have hl : x.natAbs < (x.natAbs / 2 ^ n + 1) * 2 ^ n := by
    have := Nat.lt_div_mul_add (a := x.natAbs) hp
    rw [Nat.add_mul, Nat.one_mul]
    exact this
  refine ((Int.ediv_emod_unique (r := (((x.natAbs / 2 ^ n + 1) * 2 ^ n - x.natAbs : Nat) : Int)) (pow2_pos n)).2 ⟨?_, by omega, ?_⟩).1.symm
  · rw [pow2_cast]
    show _ + ((2 ^ n : Nat) : Int) * -((x.natAbs / 2 ^ n + 1 : Nat) : Int) = x
    rw [Int.mul_neg, ← Int.natCast_mul, Nat.mul_comm (2 ^ n)]
    omega
  · rw [pow2_cast]
    rw [Nat.add_mul, Nat.one_mul] at hl ⊢
    omega

end Go.Proofs.YtebpggfccljagaaGreatDoor

/- *big.Int: GCD, Sqrt, Exp. -/
namespace Go.Proofs.YtebpggfccljagaaGreatDoor
open Go.RowKit
open Wh
set_option linter.unusedSimpArgs false

theorem len_zero {m : Nat} : (wds m).length = 0 ↔ m = 0 := by
  constructor
  · intro h
    rcases Nat.eq_zero_or_pos m with h0 | h0
    · exact h0
    · rw [wds_pos h0] at h; simp at h
  · rintro rfl; rw [wds_zero]; rfl
/-- a slice that is the words of a value -/
def SlW (w : World) (B : Nat) (A : Option Addr) (n c m : Nat) : Prop := Hid (n = (wds m).length) ∧ n ≤ c ∧ c ≤ 9223372036854775807 ∧ ReadsW w B A (wds m)

set_option maxRecDepth 100000 in
set_option maxHeartbeats 4000000 in
theorem gcd_any {w : World} {g gx gy : Nat} {x y : Int} (hz : IntS w g) (hx : IntB w gx x) (hy : IntB w gy y) (hxl : (wds x.natAbs).length ≤ 900000000) (hyl : (wds y.natAbs).length ≤ 900000000) :
    Calls Tryz.prog 164 #[.pointer (some ⟨g, 0, none⟩), .pointer none, .pointer none, .pointer (some ⟨gx, 0, none⟩), .pointer (some ⟨gy, 0, none⟩)] w (Puts w g (Nat.gcd x.natAbs y.natAbs : Int)) := by
  obtain ⟨sx, Ax, nx, cx, x0, x1, Hx, hxc, hxcl, rx⟩ := hx.opened
  obtain ⟨sy, Ay, ny, cy, y0, y1, Hy, hyc, hycl, ry⟩ := hy.opened
  obtain ⟨G, hG⟩ : ∃ G : Nat, G = Nat.gcd x.natAbs y.natAbs := ⟨_, rfl⟩
  rw [← hG]
  have Hr := Lib.hid (And.intro hG (And.intro rx (And.intro ry (And.intro hxl hyl))))
  clear hG rx ry hxl hyl hx hy
  go_enter Tryz.func164, Tryz.ntmps164
  go_wp2_with fail
  go_quiet (fail)
  go_wp2_with fail
  go_loopg [11, 12] y.natAbs (fun k xv yv wr => ∃ (A C : Option Addr) (n c m d u : Nat), xv = .slice A n c ∧ yv = .slice C m d ∧ SlW wr wr.heap.size A n c u ∧ SlW wr wr.heap.size C m d k ∧ Below w.heap.size w wr ∧
    Hid (Nat.gcd u k = G ∧ (wds u).length ≤ 900000000 ∧ (wds k).length ≤ 900000000))
  case atStart => exact ⟨_, _, _, _, _, _, _, rfl, rfl, ⟨Hx.out.2, hxc, hxcl, Hr.out.2.1.drewN nq⟩, ⟨Hy.out.2, hyc, hycl, Hr.out.2.2.1.drewN nq⟩, below_drewN (Below.refl _ _) nq, Hr.out.1.symm, Hr.out.2.2.2.1, Hr.out.2.2.2.2⟩
  case round =>
    obtain ⟨A, C, n, c, m, d, u, rfl, rfl, ⟨hn, hnc, hcl, rn⟩, ⟨hm, hmd, hdl, rm⟩, hbel, hg⟩ := hrel
    by_cases h0 : 0 < gk
    · have hD := divide_any (c := c) (d := d) rn rm (Nat.le_refl _) hn.out hm.out (by have := hn.out; have := hg.out.2.1; omega) (by have := hm.out; have := hg.out.2.2; omega) hnc hcl hmd hdl h0
      have hmp : 0 < m := by
        have := hm.out
        rw [wds_pos h0] at this
        simp at this
        omega
      have hmi : (0 : Int) < (m : Int) := by omega
      have HD := Lib.hid hD
      have Rm := Lib.hid (And.intro rm h0)
      clear hD rn rm h0
      go_wp2_with fail
      refine HD.out.mono ?_
      rintro e w5 ⟨A5, m5, c5, A6, m6, c6, rfl, hm5, hc5, hc6, hcl5, hcl6, hr5, hr6, hb5⟩
      go_wp2_with fail
      go_roundg (u % gk)
      case measure => exact Nat.mod_lt _ Rm.out.2
      case rel =>
        refine ⟨_, _, _, _, _, _, gk, rfl, rfl, ⟨hm, hmd, hdl, (Rm.out.1.below hb5).more hb5.size⟩, ⟨hm5.out.2, hc6, hcl6, hr6⟩, hbel.trans (hb5.mono hbel.size), ?_, hg.out.2.2, ?_⟩
        · rw [← hg.out.1, Nat.gcd_comm u gk, Nat.gcd_rec gk u, Nat.gcd_comm]
        · exact Nat.le_trans (len_mono (Nat.mod_le _ _)) hg.out.2.1
    · have hk0 : gk = 0 := by omega
      subst hk0
      have hm0 : m = 0 := by have := hm.out; rw [wds_zero] at this; exact this
      subst hm0
      have hgu : u = G := by have := hg.out.1; rwa [Nat.gcd_zero_right] at this
      have Rn := Lib.hid (And.intro rn (And.intro hgu hz))
      clear rn rm h0 hgu hz
      go_wp2_with (at_builtin; refine wpW_append rfl (.const (.slice none 0 0)) (.tmp 35) rfl wr.heap.size _ [] (OwnW.nil _ _) rfl _ _ (wds u) Rn.out.1 n c hn.out rfl (by have := hg.out.2.1; simp only [List.length_nil]; omega) (Nat.le_refl _) ?_; intro A7 n7 c7 w7 ho7 hg7; rw [List.nil_append] at ho7; have Ho7 := Lib.hid (And.intro ho7 hg7); clear ho7 hg7)
      have hb7 : Below wr.heap.size wr w7 := below_of_grown Ho7.out.2
      have hz7 := (Rn.out.2.2.below hbel).below hb7
      have HI := Lib.hid (is_any false hz7 Ho7.out.1.reads (Nat.le_refl _) Ho7.out.1.len.1 Ho7.out.1.len.2.1 Ho7.out.1.len.2.2 (wd_w _))
      go_wp2_with fail
      refine HI.out.mono ?_
      rintro e w8 ⟨rfl, hi8, hg8⟩
      rw [val_w, Rn.out.2.1] at hi8
      go_wp2_with fail
      go_ret
      exact ⟨rfl, hi8, grown_lift (hbel.trans (hb7.mono hbel.size)) hg8⟩
end Go.Proofs.YtebpggfccljagaaGreatDoor

/- *big.Int: Sqrt, Exp. -/
namespace Go.Proofs.YtebpggfccljagaaGreatDoor
open Go.RowKit
open Wh
set_option linter.unusedSimpArgs false

theorem len_mul {a b p q : Nat} (ha : (wds a).length ≤ p) (hb : (wds b).length ≤ q) : (wds (a * b)).length ≤ p + q := by
  refine len_wds ?_
  rw [Nat.pow_add]
  exact Nat.mul_lt_mul'' (lt_of_len ha) (lt_of_len hb)
theorem len_small {a : Nat} (h : a < 4294967296) : (wds a).length ≤ 1 := len_wds (k := 1) (by omega)
/-- the first guess of a root -/
theorem first_root {x : Nat} (h : 0 < x) : x < (2 ^ (bl x / 2 + 1) + 1) * (2 ^ (bl x / 2 + 1) + 1) ∧ 2 ^ (bl x / 2 + 1) ≤ 2 * x := by
  have h1 := lt_bl x
  have h2 := bl_le h
  have h0 : 0 < bl x := by
    rcases Nat.eq_zero_or_pos (bl x) with h0 | h0
    · rw [h0] at h1; omega
    · exact h0
  constructor
  · have h3 : (2 : Nat) ^ bl x ≤ 2 ^ ((bl x / 2 + 1) + (bl x / 2 + 1)) := Nat.pow_le_pow_right (by decide) (by omega)
    rw [Nat.pow_add] at h3
    have h4 : 2 ^ (bl x / 2 + 1) * 2 ^ (bl x / 2 + 1) ≤ (2 ^ (bl x / 2 + 1) + 1) * (2 ^ (bl x / 2 + 1) + 1) := Nat.mul_le_mul (Nat.le_succ _) (Nat.le_succ _)
    omega
  · have h3 : (2 : Nat) ^ (bl x / 2 + 1) ≤ 2 ^ ((bl x - 1) + 1) := Nat.pow_le_pow_right (by decide) (by omega)
    rw [Nat.pow_succ 2 (bl x - 1)] at h3
    omega
theorem bl_len (m : Nat) : bl m ≤ 32 * (wds m).length := by
  refine bl_lt.2 ?_
  have h := lt_of_len (Nat.le_refl (wds m).length)
  rwa [show (4294967296 : Nat) = 2 ^ 32 by decide, ← Nat.pow_mul] at h
theorem tdiv_nat (a b : Nat) : (a : Int).tdiv (b : Int) = ((a / b : Nat) : Int) := rfl
theorem half_nat (a : Nat) : (a : Int) / 2 ^ 1 = ((a / 2 : Nat) : Int) := by
  rw [Int.natCast_ediv]; rfl

/-- a root is put -/
def Roots (w : World) (g m : Nat) (e : Ending) (w' : World) : Prop := ∃ r : Nat, r * r ≤ m ∧ m < (r + 1) * (r + 1) ∧ Puts w g (r : Int) e w'
end Go.Proofs.YtebpggfccljagaaGreatDoor

/- *big.Int: Exp (printed by gen_exp.py). -/
namespace Go.Proofs.YtebpggfccljagaaGreatDoor
open Go.RowKit
open Wh
set_option linter.unusedSimpArgs false

theorem pow_plus (x : Int) (a b : Nat) : x ^ (a + b) = x ^ a * x ^ b := by
  induction b with
  | zero => rw [Nat.add_zero, Int.pow_zero, Int.mul_one]
  | succ b ih => rw [← Nat.add_assoc, Int.pow_succ, Int.pow_succ, ih, Int.mul_assoc]
theorem pow_len {m k e K : Nat} (hk : k ≤ e) (h : (wds (m ^ e)).length ≤ K) : (wds (m ^ k)).length ≤ K + 1 := by
  rcases Nat.eq_zero_or_pos m with h0 | h0
  · subst h0
    rcases Nat.eq_zero_or_pos k with h1 | h1
    · subst h1
      exact Nat.le_trans (len_small (by decide)) (by omega)
    · rw [Nat.zero_pow h1, wds_zero]
      simp
  · exact Nat.le_trans (len_mono (Nat.pow_le_pow_right h0 hk)) (by omega)
theorem bit_one {x : Int} {e i : Nat} (h : e / 2 ^ i % 2 = 1) : x ^ (e % 2 ^ i) * x ^ (2 ^ i) = x ^ (e % 2 ^ (i + 1)) := by
  rw [Nat.mod_pow_succ, h, Nat.mul_one, pow_plus]
theorem bit_none {x : Int} {e i : Nat} (h : e / 2 ^ i % 2 = 0) : x ^ (e % 2 ^ i) = x ^ (e % 2 ^ (i + 1)) := by
  rw [Nat.mod_pow_succ, h, Nat.mul_zero, Nat.add_zero]
theorem sq_up {x : Int} {i : Nat} : x ^ (2 ^ i) * x ^ (2 ^ i) = x ^ (2 ^ (i + 1)) := by
  rw [← pow_plus, Nat.pow_succ, Nat.mul_two]
theorem bl_top {e i : Nat} (h : i < bl e) : 2 ^ i ≤ e := by
  have h0 : 0 < e := by
    rcases Nat.eq_zero_or_pos e with h0 | h0
    · subst h0; rw [bl_zero] at h; omega
    · exact h0
  exact Nat.le_trans (Nat.pow_le_pow_right (by decide) (by omega)) (bl_le h0)

end Go.Proofs.YtebpggfccljagaaGreatDoor

/- Byte slices: new bytes (OwnB), bytes that are read (ReadsB); append of bytes and of a string; a string made of bytes. -/
namespace Go.Proofs.YtebpggfccljagaaGreatDoor
open Go.RowKit

/-- a byte as a value -/
def bv (b : UInt8) : Value := .int .u8 (b.toNat : Int)

theorem bv_one (l : List UInt8) : ∀ u ∈ l.map bv, u.oneCell' = true := by
  intro u hu
  obtain ⟨b, _, rfl⟩ := List.mem_map.1 hu
  rfl

/-- new bytes -/
def OwnB (w : World) (B : Nat) (v : Value) (l : List UInt8) : Prop := w.ownsRow B 5 1 v l.length (l.map bv)

/-- a slice's address, and the bytes that it reads, below block B -/
def ReadsB (w : World) (B : Nat) (A : Option Addr) (l : List UInt8) : Prop := Reads w B 1 A l.length (l.map bv)

theorem infoB : (Tryz.prog.info? 5).map (fun i => (i.zero, i.size, i.bytes)) = some (some (.int .u8 0), 1, 1) := by kernel_rfl

theorem OwnB.form {w : World} {B : Nat} {v : Value} {l : List UInt8} (h : OwnB w B v l) : ∃ A c, v = .slice A l.length c ∧ l.length ≤ c := by
  rcases h.2 with ⟨rfl, h0⟩ | ⟨g, cap, cur, rfl, _, _, hc, _⟩
  · exact ⟨none, 0, by rw [h0], by omega⟩
  · exact ⟨_, cap, rfl, hc⟩
theorem OwnB.len {w : World} {B n c : Nat} {A : Option Addr} {l : List UInt8} (h : OwnB w B (.slice A n c) l) : n = l.length := by
  obtain ⟨A', c', e, _⟩ := h.form
  injection e
theorem own_nil {w : World} {B : Nat} {v : Value} {l : List UInt8} (h : OwnB w B v l) (hv : v.ownBlock = none) : v = .slice none 0 0 := by
  rcases h.2 with ⟨rfl, _⟩ | ⟨g, cap, cur, rfl, _⟩
  · rfl
  · cases hv
theorem OwnB.far {w : World} {B g : Nat} {v : Value} {l : List UInt8} (h : OwnB w B v l) (hg : g < B) : some g ≠ v.ownBlock := by
  rcases h.2 with ⟨rfl, _⟩ | ⟨g', cap, cur, rfl, hb, _⟩
  · intro e; cases e
  · intro e
    have : g = g' := Option.some.inj e
    omega
theorem OwnB.grown {w w' : World} {B : Nat} {v : Value} {l : List UInt8} {r : Option Nat} (h : OwnB w B v l) (hg : w.grownBy w' r) (hr : v.ownBlock ≠ r ∨ v.ownBlock = none) : OwnB w' B v l := World.ownsRow.kept h hg hr.symm
theorem OwnB.reads {w : World} {B n c : Nat} {A : Option Addr} {l : List UInt8} (h : OwnB w B (.slice A n c) l) : ReadsB w w.heap.size A l := by
  obtain rfl := h.len
  exact Reads.of_own h
theorem OwnB.mono {w : World} {B B' : Nat} {v : Value} {l : List UInt8} (h : OwnB w B v l) (hB : B' ≤ B) : OwnB w B' v l := by
  refine ⟨h.1, ?_⟩
  rcases h.2 with h' | ⟨g, cap, cur, hv, hg, r⟩
  · exact .inl h'
  · exact .inr ⟨g, cap, cur, hv, by omega, r⟩
theorem OwnB.kept {w w' : World} {B : Nat} {v : Value} {l : List UInt8} (h : OwnB w B v l) (hb : Below w.heap.size w w') : OwnB w' B v l := by
  refine ⟨h.1, ?_⟩
  rcases h.2 with h' | ⟨g, cap, cur, hv, hg, hh, r⟩
  · exact .inl h'
  · exact .inr ⟨g, cap, cur, hv, hg, (hb.block g (lt_of_block hh)).trans hh, r⟩
theorem OwnB.alloc {w : World} {B : Nat} {v : Value} {l : List UInt8} (h : OwnB w B v l) (o : Obj) : OwnB (w.alloc o) B v l := World.ownsRow.alloc h o
theorem OwnB.drew {w : World} {B : Nat} {v : Value} {l : List UInt8} (h : OwnB w B v l) : OwnB w.drew B v l := h
theorem OwnB.drewN {w : World} {B : Nat} {v : Value} {l : List UInt8} (h : OwnB w B v l) (n : Nat) : OwnB (w.drewN n) B v l := h
theorem OwnB.nil (w : World) (B : Nat) : OwnB w B (.slice none 0 0) [] := World.ownsRow_nil w B _ 1

theorem OwnB.lit (w : World) (B : Nat) (l : List UInt8) (cs : Array Value) (n : Nat) (hcs : cs.toList = l.map bv) (hn : n = l.length) (hB : B ≤ w.heap.size) (hl : l.length ≤ 140737488355328) :
    OwnB (w.alloc (.cells cs 5)) B (.slice (some ⟨w.heap.size, 0, none⟩) n n) l := by
  subst hn
  have hs : cs.size = l.length := by rw [← Array.length_toList, hcs, List.length_map]
  exact ⟨by simp, .inr ⟨_, l.length, cs, rfl, hB, heap_alloc_new w _, Nat.le_refl _, by unfold maxLen; omega, by omega, by rw [hcs, Nat.mul_one, List.take_of_length_le (by simp)]⟩⟩
theorem ReadsB.alloc {w : World} {B : Nat} {A : Option Addr} {l : List UInt8} (h : ReadsB w B A l) (hB : B ≤ w.heap.size) (o : Obj) : ReadsB (w.alloc o) B A l := Reads.alloc h hB o

theorem wpB_append {w : World} {ops : Array Oper} {rest : List Oper} {o : Oper} {a : Act} {Q : Exit → Act → World → Prop} (hgd : o.guard = none) (s x : Operand)
    (ho : o.op = .call { callee := .builtin .append, args := #[s, x], argTypes := #[97, 97] }) (B : Nat) (v : Value) (l : List UInt8) (hown : OwnB w B v l) (hs : a.eval s = v)
    (B' : Nat) (A : Option Addr) (news : List UInt8) (hr : ReadsB w B' A news) (m c : Nat) (hm : m = news.length) (hx : a.eval x = .slice A m c) (hlen : l.length + news.length ≤ 140737488355328) (hbase : B ≤ w.heap.size)
    (h : ∀ A' n' c' w', OwnB w' B (.slice A' n' c') (l ++ news) → w.grownBy w' v.ownBlock → (v ≠ .slice none 0 0 → A' ≠ none) → wpList Tryz.prog ops Q rest (a.put o.dst (.slice A' n' c')) w') :
    wpList Tryz.prog ops Q (o :: rest) a w := by
  obtain ⟨i0, hi, hz0, hz1, hz2⟩ := info_parts infoB
  subst hm
  refine wpList_append_any w hgd s x 97 ho B 5 i0 (.int .u8 0) 1 1 Tryz.underlying97 hi hz0 hz1 hz2 rfl (by decide) v l.length (l.map bv) hs hown B' A news.length c (news.map bv) hx hr (bv_one _) (by unfold maxLen; omega) (by omega) hbase ?_
  intro v' w' h1 h2 h3
  have h4 : OwnB w' B v' (l ++ news) := by
    unfold OwnB
    rw [List.length_append, List.map_append]
    exact h1
  obtain ⟨A', c', rfl, _⟩ := h4.form
  refine h A' _ c' w' h4 h2 (fun hv => ?_)
  rintro rfl
  rcases h3 with h3 | h3
  · exact hv (own_nil hown h3.symm)
  · cases h3

theorem wpB_append_str {w : World} {ops : Array Oper} {rest : List Oper} {o : Oper} {a : Act} {Q : Exit → Act → World → Prop} (hgd : o.guard = none) (s x : Operand)
    (ho : o.op = .call { callee := .builtin .append, args := #[s, x], argTypes := #[97, 9] }) (B : Nat) (v : Value) (l : List UInt8) (hown : OwnB w B v l) (hs : a.eval s = v)
    (t : ByteArray) (hx : a.eval x = .string t) (hlen : l.length + t.size ≤ 140737488355328) (hbase : B ≤ w.heap.size)
    (h : ∀ A' n' c' w', OwnB w' B (.slice A' n' c') (l ++ t.data.toList) → w.grownBy w' v.ownBlock → wpList Tryz.prog ops Q rest (a.put o.dst (.slice A' n' c')) w') :
    wpList Tryz.prog ops Q (o :: rest) a w := by
  obtain ⟨i0, hi, hz0, hz1, hz2⟩ := info_parts infoB
  refine Lib.wpList_append_own_string w hgd s x 97 9 ho B 5 i0 Tryz.underlying97 Tryz.underlying9 hi hz0 hz1 hz2 v l.length (l.map bv) hs hown t hx (by unfold maxLen; omega) (by omega) hbase ?_
  intro v' w' h1 h2 _
  have h4 : OwnB w' B v' (l ++ t.data.toList) := by
    unfold OwnB
    rw [List.length_append, List.map_append]
    have e : t.data.toList.length = t.size := Array.length_toList
    rw [e]
    exact h1
  obtain ⟨A', c', rfl, _⟩ := h4.form
  exact h A' _ c' w' h4 h2

theorem stepB_append {w : World} {ops : Array Oper} {o : Oper} {a : Act} {K : Act → World → Prop} {Q : Exit → Act → World → Prop} {E : Prop} (hgd : o.guard = none) (s x : Operand)
    (ho : o.op = .call { callee := .builtin .append, args := #[s, x], argTypes := #[97, 97] }) (B : Nat) (v : Value) (l : List UInt8) (hown : OwnB w B v l) (hs : a.eval s = v)
    (B' : Nat) (A : Option Addr) (news : List UInt8) (hr : ReadsB w B' A news) (m c : Nat) (hm : m = news.length) (hx : a.eval x = .slice A m c) (hlen : l.length + news.length ≤ 140737488355328) (hbase : B ≤ w.heap.size)
    (h : ∀ A' n' c' w', OwnB w' B (.slice A' n' c') (l ++ news) → w.grownBy w' v.ownBlock → (v ≠ .slice none 0 0 → A' ≠ none) → K (a.put o.dst (.slice A' n' c')) w') :
    if Region.wanted o (yielded ops a.tmps) = true then Oper.wp Tryz.prog o a w K Q else E := by
  have hw : Region.wanted o (yielded ops a.tmps) = true := by simp [Region.wanted, hgd]
  rw [if_pos hw]
  obtain ⟨i0, hi, hz0, hz1, hz2⟩ := info_parts infoB
  subst hm
  refine wp_append_any w s x 97 ho B 5 i0 (.int .u8 0) 1 1 Tryz.underlying97 hi hz0 hz1 hz2 rfl (by decide) v l.length (l.map bv) hs hown B' A news.length c (news.map bv) hx hr (bv_one _) (by unfold maxLen; omega) (by omega) hbase ?_
  intro v' w' h1 h2 h3
  have h4 : OwnB w' B v' (l ++ news) := by
    unfold OwnB
    rw [List.length_append, List.map_append]
    exact h1
  obtain ⟨A', c', rfl, _⟩ := h4.form
  refine h A' _ c' w' h4 h2 (fun hv => ?_)
  rintro rfl
  rcases h3 with h3 | h3
  · exact hv (own_nil hown h3.symm)
  · cases h3

theorem stepB_append_str {w : World} {ops : Array Oper} {o : Oper} {a : Act} {K : Act → World → Prop} {Q : Exit → Act → World → Prop} {E : Prop} (hgd : o.guard = none) (s x : Operand)
    (ho : o.op = .call { callee := .builtin .append, args := #[s, x], argTypes := #[97, 9] }) (B : Nat) (v : Value) (l : List UInt8) (hown : OwnB w B v l) (hs : a.eval s = v)
    (t : ByteArray) (hx : a.eval x = .string t) (hlen : l.length + t.size ≤ 140737488355328) (hbase : B ≤ w.heap.size)
    (h : ∀ A' n' c' w', OwnB w' B (.slice A' n' c') (l ++ t.data.toList) → w.grownBy w' v.ownBlock → K (a.put o.dst (.slice A' n' c')) w') :
    if Region.wanted o (yielded ops a.tmps) = true then Oper.wp Tryz.prog o a w K Q else E := by
  have hw : Region.wanted o (yielded ops a.tmps) = true := by simp [Region.wanted, hgd]
  rw [if_pos hw]
  obtain ⟨i0, hi, hz0, hz1, hz2⟩ := info_parts infoB
  obtain ⟨v', w', hr, h1, h2, _⟩ := Lib.run_append_own_string (P := Tryz.prog) w B 97 9 o.type 5 i0 Tryz.underlying97 Tryz.underlying9 hi hz0 hz1 hz2 v l.length (l.map bv) hown t (by unfold maxLen; omega) (by omega) hbase
  have h4 : OwnB w' B v' (l ++ t.data.toList) := by
    unfold OwnB
    rw [List.length_append, List.map_append]
    have e : t.data.toList.length = t.size := Array.length_toList
    rw [e]
    exact h1
  obtain ⟨A', c', rfl, _⟩ := h4.form
  unfold Oper.wp execOp
  simp only [ho, resolve, invoke, builtin, Sem.run_bind, Sem.run_pure, Result.andThen_ok, List.map_toArray, List.map_cons, List.map_nil, hs, hx, hr]
  exact h A' _ c' w' h4 h2

theorem wpB_make {w : World} {ops : Array Oper} {rest : List Oper} {o : Oper} {a : Act} {Q : Exit → Act → World → Prop} (hgd : o.guard = none) (s x : Operand)
    (ho : o.op = .makeSlice 97 s x) (B : Nat) (kl kc : IntKind) (C : Int) (n : Nat) (hs : a.eval s = .int kl 0) (hx : a.eval x = .int kc C) (hC : C = (n : Int)) (hlen : n ≤ 281474976710656) (hbase : B ≤ w.heap.size)
    (h : ∀ w', OwnB w' B (.slice (some ⟨w.heap.size, 0, none⟩) 0 n) [] → w.grownBy w' none → wpList Tryz.prog ops Q rest (a.put o.dst (.slice (some ⟨w.heap.size, 0, none⟩) 0 n)) w') :
    wpList Tryz.prog ops Q (o :: rest) a w := by
  obtain ⟨i0, hi, hz0, hz1, hz2⟩ := info_parts infoB
  exact wpList_make_own w hgd s x 97 ho B 5 i0 (.int .u8 0) 1 Tryz.underlying97 hi hz0 hz1 kl kc C n hs hx hC (by rw [hz2]; omega) (by unfold maxLen; omega) hbase h

/-- string(b) -/
theorem run_str {w : World} {B n c : Nat} {A : Option Addr} {l : List UInt8} (hn : n = l.length) (hr : ReadsB w B A l) : (convert 97 9 (.slice A n c)).run Tryz.prog w = .ok (.string ⟨l.toArray⟩) w := by
  subst hn
  rw [run_convert_bytes_string w 97 9 5 A _ c Tryz.underlying97 Tryz.underlying5 Tryz.underlying9]
  rcases A with _ | ad
  · have hl : l = [] := by
      rcases Nat.eq_zero_or_pos l.length with h0 | h0
      · exact List.eq_nil_of_length_eq_zero h0
      · obtain ⟨_, h, _⟩ := hr.2 h0
        cases h
    subst hl
    simp [Conv.bytesToString]
    rfl
  · have e : l.map bv = (l.map fun b => (b.toNat : Int)).map (Value.int .u8) := by rw [List.map_map]; rfl
    have hc : ∀ (j : Nat) (u : Value), (l.map bv)[j]? = some u → w.cell? (ad.add j) = some u := by
      intro j u hu
      have h0 : 0 < l.length := by
        rcases Nat.eq_zero_or_pos l.length with h0 | h0
        · have hl := List.eq_nil_of_length_eq_zero h0
          subst hl
          simp at hu
        · exact h0
      obtain ⟨ad', h, _, hc⟩ := hr.2 h0
      injection h with h
      subst h
      exact hc j u hu
    have hl := run_loadCells_list (P := Tryz.prog) w ad (l.map bv) hc
    rw [List.length_map, e] at hl
    rw [run_bytesToString w ad l.length c _ hl, foldl_push_bytes]
    simp [ByteArray.empty, ByteArray.emptyWithCapacity]
    show [] ++ _ = l
    rw [List.nil_append]
    conv => rhs; rw [← List.map_id l]
    refine List.map_congr_left fun b _ => ?_
    simp

end Go.Proofs.YtebpggfccljagaaGreatDoor

/- *big.Int: SetBytes, Bytes (printed by gen_bytes.py). -/
namespace Go.Proofs.YtebpggfccljagaaGreatDoor
open Go.RowKit
open Wh
set_option linter.unusedSimpArgs false

theorem ReadsB.at_ {w : World} {B : Nat} {A : Option Addr} {l : List UInt8} (h : ReadsB w B A l) {k : Nat} (hk : k < l.length) : ∃ ad, A = some ad ∧ ad.block < B ∧ w.cell? (ad.add k) = some (.int .u8 ((l[k].toNat : Nat) : Int)) := by
  obtain ⟨ad, u, e, hb, hu, hc⟩ := Reads.at_ h hk
  refine ⟨ad, e, hb, ?_⟩
  rw [hc]
  rw [List.getElem?_map, List.getElem?_eq_getElem hk] at hu
  exact hu.symm
theorem pow256 (s : Nat) : (256 : Nat) ^ s = 2 ^ (s * 8) := by rw [show (256 : Nat) = 2 ^ 8 by decide, ← Nat.pow_mul, Nat.mul_comm]
theorem or_byte {x b s : Nat} (hs : s < 4) (hx : x < 256 ^ s) (hb : b < 256) : bits .or .u32 (x : Int) (IntKind.u32.wrap ((b : Int) * 2 ^ (s * 8))) = ((x + b * 256 ^ s : Nat) : Int) ∧ x + b * 256 ^ s < 4294967296 := by
  have h1 : (256 : Nat) ^ s ≤ 256 ^ 3 := Nat.pow_le_pow_right (by decide) (by omega)
  have h2 : (b + 1) * 256 ^ s ≤ 256 * 256 ^ s := Nat.mul_le_mul_right _ hb
  rw [Nat.add_mul, Nat.one_mul] at h2
  have h3 : b * 256 ^ s + 256 ^ s ≤ 4294967296 := by omega
  have e1 : ((b : Int) * 2 ^ (s * 8)) = ((b * 256 ^ s : Nat) : Int) := by rw [pow256, Int.natCast_mul, Int.natCast_pow]; rfl
  refine ⟨?_, by omega⟩
  rw [e1, show IntKind.u32.wrap ((b * 256 ^ s : Nat) : Int) = ((b * 256 ^ s : Nat) : Int) by rw [IntKind.wrap_u32]; omega, u32_or_nat _ _ (by omega) (by omega), Nat.or_comm]
  rw [pow256] at hx ⊢
  have := Nat.two_pow_add_eq_or_of_lt hx b
  rw [Nat.mul_comm] at this
  rw [← this, Nat.add_comm]
theorem bval_drop {l : List UInt8} {k : Nat} (h : k < l.length) : bval (l.drop k) = l[k].toNat * 256 ^ (l.length - (k + 1)) + bval (l.drop (k + 1)) := by
  rw [List.drop_eq_getElem_cons h, bval_cons, List.length_drop]

set_option maxRecDepth 100000 in
set_option maxHeartbeats 4000000 in
theorem setbytes_any {w : World} {g B n c : Nat} {A : Option Addr} {l : List UInt8} (hz : IntS w g) (hr : ReadsB w B A l) (hB : B ≤ w.heap.size) (hn : n = l.length) (hnl : n ≤ 1000000000) :
    Calls Tryz.prog 149 #[.pointer (some ⟨g, 0, none⟩), .slice A n c] w (Puts w g ((bval l : Nat) : Int)) := by
  have Hn := Lib.hid hn
  have hmk : ∀ w : World, (Instr.makeSlice 149 (.int .i64 (((n : Int) + 3) / 4)) (.int .i64 (((n : Int) + 3) / 4))).run Tryz.prog w = .ok (.slice (some ⟨w.heap.size, 0, none⟩) ((n + 3) / 4) ((n + 3) / 4)) (w.alloc (.cells (wcells (List.replicate ((n + 3) / 4) 0)) 163)) := fun w => by
    have := run_makeW ((n + 3) / 4) (by omega) w
    rw [← this, show (((n + 3) / 4 : Nat) : Int) = ((n : Int) + 3) / 4 by omega]
  have hgl := hz.lt
  clear hn
  go_enter Tryz.func149, Tryz.ntmps149
  go_wp2
  go_loopg [15] n (fun k iv wr => ∃ (i : Nat) (L : List Nat), iv = .int .i64 (i : Int) ∧ k = n - i ∧ i ≤ n ∧ Blk wr w.heap.size 163 (wcells L) ∧ Below w.heap.size w wr ∧
    Hid (L.length = (n + 3) / 4 ∧ Wd L ∧ val L = bval (l.drop (n - i))))
  case atStart => exact ⟨0, List.replicate ((n + 3) / 4) 0, rfl, by omega, by omega, Blk.new _ _ _, (Below.refl _ _).alloc (Nat.le_refl _) _, by simp, wd_zeros _, by rw [val_zeros, List.drop_of_length_le (by rw [← Hn.out]; omega)]; rfl⟩
  case round =>
    obtain ⟨i, L, rfl, hk, hi, hblk, hbel, hL⟩ := hrel
    have Hk := Lib.hid hk
    clear hk
    by_cases hin : i < n
    · obtain ⟨j, hj⟩ : ∃ j, n = i + 1 + j := ⟨n - (i + 1), by omega⟩
      have hjl : j < l.length := by rw [← Hn.out]; omega
      have hr' := hr.below (hbel.mono hB)
      obtain ⟨ad, rfl, hb1, c1⟩ := ReadsB.at_ hr' hjl
      have hiL : i / 4 < L.length := by have := hL.out.1; omega
      have hout : wr.cell? ⟨w.heap.size, i / 4, none⟩ = some (.int .u32 ((L[i / 4] : Nat) : Int)) := by rw [hblk.cell, wcells_get, List.getElem?_eq_getElem hiL]; rfl
      have hfz := hblk.frozen (i / 4)
      have hvl : val L < 256 ^ i := by
        rw [hL.out.2.2]
        have := bval_lt (l.drop (n - i))
        rw [List.length_drop, ← Hn.out, show n - (n - i) = i by omega] at this
        exact this
      have hws := word_small hvl hiL
      have hbt := UInt8.toNat_lt l[j]
      have hor := or_byte (Nat.mod_lt i (by decide)) hws hbt
      have hbs := byte_step (b := l[j].toNat) hiL
      have hbd : bval (l.drop j) = l[j].toNat * 256 ^ i + bval (l.drop (j + 1)) := by
        rw [bval_drop hjl, ← Hn.out, show n - (j + 1) = i by omega]
      obtain ⟨T, hT⟩ : ∃ T, T = L[i / 4] + l[j].toNat * 256 ^ (i % 4) := ⟨_, rfl⟩
      rw [← hT] at hor hbs
      have Hbs := Lib.hid (And.intro hbs hbd)
      have wx := wd_get hL.out.2.1 _ hiL
      obtain ⟨hor1, hor2⟩ := hor
      have hT2 : T ≤ 4294967295 := by omega
      generalize hx : L[i / 4] = x at *
      generalize hy : l[j].toNat = y at *
      have Hj := Lib.hid hj
      clear hx hy hws hvl hbs hbd hT hor2 hr' hr hj
      have hii : (i : Int) < (n : Int) := by omega
      obtain ⟨S, hS⟩ : ∃ S, S = i % 4 * 8 := ⟨_, rfl⟩
      rw [← hS] at hor1
      have q1 : IntKind.i64.wrap ((i : Int) / 4) = (i : Int) / 4 := IntWalk.i64_in _ (by omega)
      have q2 : (0 : Int) ≤ (i : Int) / 4 := by omega
      have q3 : (i : Int) / 4 < ((n : Int) + 3) / 4 := by omega
      have q4 : ((i : Int) / 4).toNat = i / 4 := by omega
      have q5 : IntKind.i64.wrap ((i : Int).tmod 4 * 8) = (S : Int) := by
        rw [show (i : Int).tmod 4 = ((i % 4 : Nat) : Int) from rfl, IntWalk.i64_in _ (by omega)]
        omega
      have hS31 : S ≤ 24 := by omega
      clear hS
      have q6 : IntKind.u32.wrap (y : Int) = (y : Int) := by rw [IntKind.wrap_u32]; omega
      have q7 : (j : Int) < (n : Int) := by have := Hj.out; omega
      go_wp2_with fail
      rw [show (n : Int) - 1 - (i : Int) = (j : Int) by have := Hj.out; omega]
      refine wp_region_noPanic ?_
      refine wp_region_HK (fun w' => w'.cell? ⟨w.heap.size, i / 4, none⟩ = some (.int .u32 (x : Int)) ∧ w'.cell? (ad.add j) = some (.int .u8 (y : Int))) 16 (by kernel_rfl) ⟨hout, c1⟩ (fun hHeld => ?_)
      refine wpHK_take (i := 0) (oi := Oper.mk (some 23) _ _ _ _ _) (v := ?_) rfl (by kernel_rfl) (by kernel_rfl) (by kernel_rfl) (by kernel_rfl) (fun _ _ _ h => h) (Or.inl ⟨by rfl, ?_⟩) (by assumption) ?_
      rotate_left
      · (intro w' hSw; (try dsimp only at hSw); (obtain ⟨s1, s2⟩ := hSw); go_simp; try with_reducible rfl)
      try simp only [Act.put, List.setIfInBounds_toArray, List.set_cons_zero, List.set_cons_succ]
      refine wpHK_take (i := 1) (oi := Oper.mk (some 24) _ _ _ _ _) (v := ?_) rfl (by kernel_rfl) (by kernel_rfl) (by kernel_rfl) (by kernel_rfl) (fun _ _ _ h => h) (Or.inl ⟨by rfl, ?_⟩) (by assumption) ?_
      rotate_left
      · (intro w' hSw; (try dsimp only at hSw); (obtain ⟨s1, s2⟩ := hSw); go_simp; try with_reducible rfl)
      try simp only [Act.put, List.setIfInBounds_toArray, List.set_cons_zero, List.set_cons_succ]
      refine wpHK_take (i := 2) (oi := Oper.mk (some 25) _ _ _ _ _) (v := ?_) rfl (by kernel_rfl) (by kernel_rfl) (by kernel_rfl) (by kernel_rfl) (fun _ _ _ h => h) (Or.inl ⟨by rfl, ?_⟩) (by assumption) ?_
      rotate_left
      · (intro w' hSw; (try dsimp only at hSw); (obtain ⟨s1, s2⟩ := hSw); go_simp; try with_reducible rfl)
      try simp only [Act.put, List.setIfInBounds_toArray, List.set_cons_zero, List.set_cons_succ]
      refine wpHK_take (i := 3) (oi := Oper.mk (some 26) _ _ _ _ _) (v := ?_) rfl (by kernel_rfl) (by kernel_rfl) (by kernel_rfl) (by kernel_rfl) (fun _ _ _ h => h) (Or.inl ⟨by rfl, ?_⟩) (by assumption) ?_
      rotate_left
      · (intro w' hSw; (try dsimp only at hSw); (obtain ⟨s1, s2⟩ := hSw); go_simp; try with_reducible rfl)
      try simp only [Act.put, List.setIfInBounds_toArray, List.set_cons_zero, List.set_cons_succ]
      refine wpHK_take (i := 4) (oi := Oper.mk (some 27) _ _ _ _ _) (v := ?_) rfl (by kernel_rfl) (by kernel_rfl) (by kernel_rfl) (by kernel_rfl) (fun _ _ _ h => h) (Or.inl ⟨by rfl, ?_⟩) (by assumption) ?_
      rotate_left
      · (intro w' hSw; (try dsimp only at hSw); (obtain ⟨s1, s2⟩ := hSw); go_simp; try with_reducible rfl)
      try simp only [Act.put, List.setIfInBounds_toArray, List.set_cons_zero, List.set_cons_succ]
      refine wpHK_take (i := 5) (oi := Oper.mk (some 28) _ _ _ _ _) (v := ?_) rfl (by kernel_rfl) (by kernel_rfl) (by kernel_rfl) (by kernel_rfl) (fun _ _ _ h => h) (Or.inl ⟨by rfl, ?_⟩) (by assumption) ?_
      rotate_left
      · (intro w' hSw; (try dsimp only at hSw); (obtain ⟨s1, s2⟩ := hSw); go_simp; try with_reducible rfl)
      try simp only [Act.put, List.setIfInBounds_toArray, List.set_cons_zero, List.set_cons_succ]
      refine wpHK_take (i := 6) (oi := Oper.mk (some 29) _ _ _ _ _) (v := ?_) rfl (by kernel_rfl) (by kernel_rfl) (by kernel_rfl) (by kernel_rfl) (fun _ _ _ h => h) (Or.inl ⟨by rfl, ?_⟩) (by assumption) ?_
      rotate_left
      · (intro w' hSw; (try dsimp only at hSw); (obtain ⟨s1, s2⟩ := hSw); go_simp; try with_reducible rfl)
      try simp only [Act.put, List.setIfInBounds_toArray, List.set_cons_zero, List.set_cons_succ]
      refine wpHK_take (i := 7) (oi := Oper.mk (some 30) _ _ _ _ _) (v := ?_) rfl (by kernel_rfl) (by kernel_rfl) (by kernel_rfl) (by kernel_rfl) (fun _ _ _ h => h) (Or.inl ⟨by rfl, ?_⟩) (by assumption) ?_
      rotate_left
      · (intro w' hSw; (try dsimp only at hSw); (obtain ⟨s1, s2⟩ := hSw); go_simp; try with_reducible rfl)
      try simp only [Act.put, List.setIfInBounds_toArray, List.set_cons_zero, List.set_cons_succ]
      refine wpHK_take (i := 8) (oi := Oper.mk (some 31) _ _ _ _ _) (v := ?_) rfl (by kernel_rfl) (by kernel_rfl) (by kernel_rfl) (by kernel_rfl) (fun _ _ _ h => h) (Or.inl ⟨by rfl, ?_⟩) (by assumption) ?_
      rotate_left
      · (intro w' hSw; (try dsimp only at hSw); (obtain ⟨s1, s2⟩ := hSw); go_simp; try with_reducible rfl)
      try simp only [Act.put, List.setIfInBounds_toArray, List.set_cons_zero, List.set_cons_succ]
      refine wpHK_take (i := 9) (oi := Oper.mk (some 32) _ _ _ _ _) (v := ?_) rfl (by kernel_rfl) (by kernel_rfl) (by kernel_rfl) (by kernel_rfl) (fun _ _ _ h => h) (Or.inl ⟨by rfl, ?_⟩) (by assumption) ?_
      rotate_left
      · (intro w' hSw; (try dsimp only at hSw); (obtain ⟨s1, s2⟩ := hSw); go_simp; try with_reducible rfl)
      try simp only [Act.put, List.setIfInBounds_toArray, List.set_cons_zero, List.set_cons_succ]
      refine wpHK_take (i := 10) (oi := Oper.mk (some 33) _ _ _ _ _) (v := ?_) rfl (by kernel_rfl) (by kernel_rfl) (by kernel_rfl) (by kernel_rfl) (fun _ _ _ h => h) (Or.inl ⟨by rfl, ?_⟩) (by assumption) ?_
      rotate_left
      · (intro w' hSw; (try dsimp only at hSw); (obtain ⟨s1, s2⟩ := hSw); go_simp; try with_reducible rfl)
      try simp only [Act.put, List.setIfInBounds_toArray, List.set_cons_zero, List.set_cons_succ]
      refine wpHK_take (i := 11) (oi := Oper.mk (some 34) _ _ _ _ _) (v := ?_) rfl (by kernel_rfl) (by kernel_rfl) (by kernel_rfl) (by kernel_rfl) (fun _ _ _ h => h) (Or.inl ⟨by rfl, ?_⟩) (by assumption) ?_
      rotate_left
      · (intro w' hSw; (try dsimp only at hSw); (obtain ⟨s1, s2⟩ := hSw); go_simp; try with_reducible rfl)
      try simp only [Act.put, List.setIfInBounds_toArray, List.set_cons_zero, List.set_cons_succ]
      refine wpHK_take (i := 12) (oi := Oper.mk (some 35) _ _ _ _ _) (v := ?_) rfl (by kernel_rfl) (by kernel_rfl) (by kernel_rfl) (by kernel_rfl) (fun _ _ _ h => h) (Or.inl ⟨by rfl, ?_⟩) (by assumption) ?_
      rotate_left
      · (intro w' hSw; (try dsimp only at hSw); (obtain ⟨s1, s2⟩ := hSw); go_simp; try with_reducible rfl)
      try simp only [Act.put, List.setIfInBounds_toArray, List.set_cons_zero, List.set_cons_succ]
      refine wpHK_take (i := 13) (oi := Oper.mk (some 36) _ _ _ _ _) (v := ?_) rfl (by kernel_rfl) (by kernel_rfl) (by kernel_rfl) (by kernel_rfl) (fun _ _ _ h => h) (Or.inl ⟨by rfl, ?_⟩) (by assumption) ?_
      rotate_left
      · (intro w' hSw; (try dsimp only at hSw); (obtain ⟨s1, s2⟩ := hSw); go_simp; try with_reducible rfl)
      try simp only [Act.put, List.setIfInBounds_toArray, List.set_cons_zero, List.set_cons_succ]
      refine wpHK_take (i := 14) (oi := Oper.mk (some 37) _ _ _ _ _) (v := ?_) rfl (by kernel_rfl) (by kernel_rfl) (by kernel_rfl) (by kernel_rfl) (fun _ _ _ h => h) (Or.inl ⟨by rfl, ?_⟩) (by assumption) ?_
      rotate_left
      · (intro w' hSw; (try dsimp only at hSw); (obtain ⟨s1, s2⟩ := hSw); go_simp; try with_reducible rfl)
      try simp only [Act.put, List.setIfInBounds_toArray, List.set_cons_zero, List.set_cons_succ]
      refine wpHK_take (i := 15) (oi := Oper.mk (some 38) _ _ _ _ _) (v := ?_) rfl (by kernel_rfl) (by kernel_rfl) (by kernel_rfl) (by kernel_rfl) (fun _ _ _ h => h) (Or.inl ⟨by rfl, ?_⟩) (by assumption) ?_
      rotate_left
      · (intro w' hSw; (try dsimp only at hSw); (obtain ⟨s1, s2⟩ := hSw); go_simp; try with_reducible rfl)
      try simp only [Act.put, List.setIfInBounds_toArray, List.set_cons_zero, List.set_cons_succ]
      refine wpHK_tail (j := 16) (o := Oper.mk (none) _ _ _ _ _) rfl (by kernel_rfl) (by decide) (fun K hK => ?_)
      go_simp
      refine hK.out _ _ ?_
      clear hK K
      try simp only [Act.put, List.setIfInBounds_toArray, List.set_cons_zero, List.set_cons_succ]
      refine wpHK_done (by kernel_rfl) ?_ _
      refine NoPanic.normal ?_
      clear q1 q2 q3 q4 q5 q6 q7
      go_wp2_with fail
      go_roundg (n - (i + 1))
      case measure => have := Hk.out; omega
      case rel =>
        refine ⟨i + 1, L.set (i / 4) T, rfl, rfl, by omega, ?_, ?_, ?_⟩
        · have := hblk.set_ (i / 4) (.int .u32 (T : Int))
          rw [wcells_set] at this
          exact this
        · exact (hbel.setCell (by show w.heap.size ≤ w.heap.size; omega) _).drew
        · refine ⟨by rw [List.length_set]; exact hL.out.1, wd_set hL.out.2.1 _ _ (by omega), ?_⟩
          have h5 := Hbs.out.1
          rw [hL.out.2.2, show n - i = j + 1 by have := Hj.out; omega] at h5
          rw [show n - (i + 1) = j by have := Hj.out; omega, Hbs.out.2, h5, Nat.mul_comm, Nat.add_comm]
    · have hi' : i = n := by omega
      have hii : (n : Int) ≤ (i : Int) := by omega
      have hLl := hL.out.1
      have hv := hL.out.2.2
      rw [show n - i = 0 by omega, List.drop_zero] at hv
      have HI := Lib.hid (is_any false (hz.below hbel) (reads_blk hblk hblk.lt) (Nat.le_refl _) hLl.symm (Nat.le_refl _) (by omega) hL.out.2.1)
      have Hv := Lib.hid hv
      clear hi' hLl hv hr
      go_wp2_with fail
      refine HI.out.mono ?_
      rintro e w6 ⟨rfl, hi6, hg6⟩
      rw [Hv.out] at hi6
      go_wp2_with fail
      go_ret
      exact ⟨rfl, hi6, grown_lift hbel hg6⟩

theorem byte_word {m i : Nat} : m / 256 ^ i % 256 = at_ (wds m) (i / 4) / 256 ^ (i % 4) % 256 := by
  rcases Nat.lt_or_ge (i / 4) (wds m).length with h | h
  · have e := div_words (wd_w m) (n := 8 * i) (by omega)
    rw [val_w, show 8 * i / 32 = i / 4 by omega, show 8 * i % 32 = 8 * (i % 4) by omega] at e
    rw [show (256 : Nat) = 2 ^ 8 by decide, ← Nat.pow_mul, ← Nat.pow_mul, e, val_drop h, ← at_get h]
    generalize val ((wds m).drop (i / 4 + 1)) = r
    generalize at_ (wds m) (i / 4) = u
    have hs : i % 4 < 4 := Nat.mod_lt _ (by decide)
    obtain ⟨z, hz⟩ : ∃ z, 8 * (i % 4) + (z + 8) = 32 := ⟨24 - 8 * (i % 4), by omega⟩
    have hp : 2 ^ (8 * (i % 4)) * (2 ^ z * 2 ^ 8) = 4294967296 := by rw [← Nat.pow_add 2 z, ← Nat.pow_add, hz]
    rw [← hp, Nat.mul_assoc, Nat.add_mul_div_left _ _ (Nat.two_pow_pos _)]
    rw [show 2 ^ z * 2 ^ 8 * r = 2 ^ 8 * (2 ^ z * r) by ac_rfl, Nat.add_mul_mod_self_left]
  · rw [at_end h, Nat.zero_div]
    have h1 : m < 256 ^ i := by
      have h2 := lt_of_len (n := m) (k := i / 4) h
      rw [show (4294967296 : Nat) = 256 ^ 4 by decide, ← Nat.pow_mul] at h2
      exact Nat.lt_of_lt_of_le h2 (Nat.pow_le_pow_right (by decide) (by omega))
    rw [Nat.div_eq_of_lt h1]
/-- the cells of bytes -/
def bcells (l : List UInt8) : Array Value := (l.map bv).toArray
theorem bcells_get (l : List UInt8) (i : Nat) : (bcells l)[i]? = l[i]?.map bv := by unfold bcells; rw [List.getElem?_toArray, List.getElem?_map]
theorem bcells_set (l : List UInt8) (i : Nat) (x : UInt8) : (bcells l).setIfInBounds i (.int .u8 (x.toNat : Int)) = bcells (l.set i x) := by
  unfold bcells
  rw [List.setIfInBounds_toArray, List.map_set]
  rfl
theorem madeB (n : Nat) : madeCells (Value.cells (.int .u8 0)) (n * 1) = bcells (List.replicate n 0) := by
  unfold bcells
  rw [List.map_replicate, Nat.mul_one]
  have h : (madeCells (Value.cells (.int .u8 0)) n).toList = List.replicate n (bv 0) := by
    unfold madeCells
    rw [Array.toList_map, Array.toList_range]
    refine List.eq_replicate_iff.2 ⟨by simp, fun b hb => ?_⟩
    simp only [List.mem_map] at hb
    obtain ⟨i, _, rfl⟩ := hb
    have e : i % (Value.int .u8 0).cells.size = 0 := Nat.mod_one i
    rw [e]
    rfl
  rw [← h]
theorem run_makeB (n : Nat) (hn : n ≤ 70368744177664) (w : World) :
    (Instr.makeSlice 97 (.int .i64 (n : Int)) (.int .i64 (n : Int))).run Tryz.prog w = .ok (.slice (some ⟨w.heap.size, 0, none⟩) n n) (w.alloc (.cells (bcells (List.replicate n 0)) 5)) := by
  obtain ⟨i0, hi, hz0, hz1, hz2⟩ := info_parts infoB
  have h := run_make_rowN (P := Tryz.prog) 97 5 i0 (.int .u8 0) Tryz.underlying97 hi hz0 .i64 .i64 n n (Nat.le_refl _) (by rw [hz2]; omega) (by omega) w
  rw [hz1, madeB] at h
  exact h
theorem readsb_blk {w : World} {g B : Nat} {l : List UInt8} (h : Blk w g 5 (bcells l)) (hB : g < B) : ReadsB w B (some ⟨g, 0, none⟩) l := by
  refine ⟨by simp, fun _ => ⟨_, rfl, hB, fun j u hu => ?_⟩⟩
  have := h.cell j
  rw [bcells_get] at this
  rw [List.getElem?_map] at hu
  rw [hu] at this
  rw [← this]
  unfold Addr.add
  split
  · rename_i h0; subst h0; rfl
  · simp
theorem bytes_len (m : Nat) : m < 256 ^ ((bl m + 7) / 8) ∧ (0 < m → 256 ^ ((bl m + 7) / 8 - 1) ≤ m ∧ 0 < (bl m + 7) / 8) := by
  constructor
  · have h := lt_bl m
    rw [show (256 : Nat) = 2 ^ 8 by decide, ← Nat.pow_mul]
    exact Nat.lt_of_lt_of_le h (Nat.pow_le_pow_right (by decide) (by omega))
  · intro hm
    have h := bl_le hm
    have h0 : 0 < bl m := by
      rcases Nat.eq_zero_or_pos (bl m) with h0 | h0
      · have := lt_bl m; rw [h0] at this; omega
      · exact h0
    refine ⟨?_, by omega⟩
    rw [show (256 : Nat) = 2 ^ 8 by decide, ← Nat.pow_mul]
    exact Nat.le_trans (Nat.pow_le_pow_right (by decide) (by omega)) h
theorem bys_of {L : List UInt8} {m : Nat} (hl : L.length = (bl m + 7) / 8) (hv : bval L = m) : bys m = L := by
  have hf : Formed L := by
    intro x hx h0
    cases L with
    | nil => cases hx
    | cons y r =>
      have hy : y = x := by simpa using hx
      subst hy
      rw [bval_cons, h0] at hv
      have h1 := bval_lt r
      have hm : 0 < m := by
        rcases Nat.eq_zero_or_pos m with h | h
        · subst h; rw [bl_zero] at hl; simp at hl
        · exact h
      have h2 := ((bytes_len m).2 hm).1
      rw [← hl, List.length_cons, Nat.add_sub_cancel] at h2
      simp at hv
      omega
  rw [← hv]
  exact bys_bval _ L rfl hf

/-- bytes that are read -/
def BytesW (w : World) (l : List UInt8) (e : Ending) (w' : World) : Prop := ∃ A n, e = .returned (.slice A n n) ∧ Hid (n = l.length) ∧ ReadsB w' w'.heap.size A l ∧ Below w.heap.size w w'
set_option maxRecDepth 100000 in
set_option maxHeartbeats 4000000 in
theorem bytes_any {w : World} {gx m : Nat} (z : Int) (hm : z.natAbs = m) (hx : IntB w gx z) (hxl : (wds m).length ≤ 100000000) :
    Calls Tryz.prog 123 #[.pointer (some ⟨gx, 0, none⟩)] w (BytesW w (bys m)) := by
  have HB := Lib.hid (bitlen_any hx (by rw [hm]; omega))
  rw [hm] at HB
  unfold Bitted at HB
  obtain ⟨b, hb⟩ : ∃ b, b = bl m := ⟨_, rfl⟩
  rw [← hb] at HB
  have hbl : b ≤ 3200000000 := by rw [hb]; have := bl_len m; omega
  obtain ⟨n, hn⟩ : ∃ n, n = (b + 7) / 8 := ⟨_, rfl⟩
  have hnl : n ≤ 400000001 := by omega
  have hmk : ∀ w : World, (Instr.makeSlice 97 (.int .i64 (((b : Int) + 7) / 8)) (.int .i64 (((b : Int) + 7) / 8))).run Tryz.prog w = .ok (.slice (some ⟨w.heap.size, 0, none⟩) n n) (w.alloc (.cells (bcells (List.replicate n 0)) 5)) := fun w => by
    have := run_makeB n (by omega) w
    rw [← this, show ((n : Nat) : Int) = ((b : Int) + 7) / 8 by omega]
  have Hn := Lib.hid (And.intro hn hb)
  have Hx := Lib.hid (And.intro hx hm)
  have hgl := hx.lt
  clear hx hm hb hn
  go_enter Tryz.func123, Tryz.ntmps123
  go_wp2_with fail
  refine HB.out.mono ?_
  rintro e w1 ⟨q, rfl, rfl⟩
  go_wp2_with fail
  rw [show ((b : Int) + 7) / 8 = (n : Int) by have := Hn.out.1; omega]
  clear hmk
  go_loopg [14] n (fun k iv wr => ∃ (i : Nat) (L : List UInt8), iv = .int .i64 (i : Int) ∧ k = n - i ∧ i ≤ n ∧ Blk wr w.heap.size 5 (bcells L) ∧ Below w.heap.size w wr ∧
    Hid (L.length = n ∧ bval (L.drop (n - i)) = m % 256 ^ i))
  case atStart => exact ⟨0, List.replicate n 0, rfl, by omega, by omega, Blk.new _ _ _, (below_drewN (Below.refl _ _) q).alloc (Nat.le_refl _) _, by simp, by rw [List.drop_of_length_le (by simp), Nat.pow_zero, Nat.mod_one]; rfl⟩
  case round =>
    obtain ⟨i, L, rfl, hk, hi, hblk, hbel, hL⟩ := hrel
    have Hk := Lib.hid hk
    clear hk
    by_cases hin : i < n
    · have hxr := Hx.out.1.below hbel
      obtain ⟨sx, Ax, nx, cx, _, x1, Hxx, _, _, rx⟩ := hxr.opened
      rw [Hx.out.2] at rx
      have hnx := Hxx.out.2
      rw [Hx.out.2] at hnx
      have hi4 : i / 4 < (wds m).length := by
        rcases Nat.lt_or_ge (i / 4) (wds m).length with h | h
        · exact h
        · exfalso
          have h2 := bl_len m
          have h3 := Hn.out.1
          have h4 := Hn.out.2
          omega
      obtain ⟨ad, rfl, hb1, c1⟩ := rx.at_ hi4
      rw [← at_get] at c1
      have hbw := byte_word (m := m) (i := i)
      have hu := at_lt (wd_w m) (i / 4)
      have hni : (i : Int) / 4 < (nx : Int) := by omega
      have hjL : n - 1 - i < L.length := by have := hL.out.1; omega
      have hout : wr.cell? ⟨w.heap.size, n - 1 - i, none⟩ = some (.int .u8 ((L[n - 1 - i].toNat : Nat) : Int)) := by rw [hblk.cell, bcells_get, List.getElem?_eq_getElem hjL]; rfl
      have hfz := hblk.frozen (n - 1 - i)
      obtain ⟨S, hS⟩ : ∃ S, S = i % 4 * 8 := ⟨_, rfl⟩
      have hS31 : S ≤ 24 := by omega
      generalize at_ (wds m) (i / 4) = u at *
      generalize L[n - 1 - i].toNat = y0 at *
      have hii : (i : Int) < (n : Int) := by omega
      have Hbw := Lib.hid (And.intro hbw (And.intro hS hnx))
      clear hbw hnx hi4 rx hxr hjL
      clear hS
      go_wp2_with fail
      obtain ⟨X, hX⟩ : ∃ X : UInt8, X = UInt8.ofNat (m / 256 ^ i % 256) := ⟨_, rfl⟩
      have hXn : X.toNat = m / 256 ^ i % 256 := by rw [hX, byte_nat]
      have hval : (u : Int) / 2 ^ (i % 4 * 8) % 256 = (X.toNat : Int) := by
        rw [hXn, Hbw.out.1, pow256, Int.natCast_emod, Int.natCast_ediv, Int.natCast_pow]; rfl
      rw [hval]
      go_roundg (n - (i + 1))
      case measure => have := Hk.out; omega
      case rel =>
        refine ⟨i + 1, L.set (n - 1 - i) X, rfl, rfl, by omega, ?_, hbel.setCell (by show w.heap.size ≤ w.heap.size; omega) _, by rw [List.length_set]; exact hL.out.1, ?_⟩
        · have := hblk.set_ (n - 1 - i) (.int .u8 (X.toNat : Int))
          rwa [bcells_set] at this
        · have hjl : n - (i + 1) < (L.set (n - 1 - i) X).length := by rw [List.length_set, hL.out.1]; omega
          rw [bval_drop hjl, List.length_set, hL.out.1]
          have e1 : (L.set (n - 1 - i) X)[n - (i + 1)] = X := by
            simp only [show n - (i + 1) = n - 1 - i by omega, List.getElem_set_self]
          rw [e1, show n - (i + 1) + 1 = n - i by omega, List.drop_set_of_lt (by omega), hL.out.2, Nat.mod_pow_succ, hXn, show n - (n - i) = i by omega]
          rw [Nat.mul_comm, Nat.add_comm]
    · have hi' : i = n := by omega
      have hii : (n : Int) ≤ (i : Int) := by omega
      have hv := hL.out.2
      rw [show n - i = 0 by omega, List.drop_zero, hi', Nat.mod_eq_of_lt (by rw [Hn.out.1, Hn.out.2]; exact (bytes_len m).1)] at hv
      have hb := bys_of (L := L) (m := m) (by rw [hL.out.1, Hn.out.1, Hn.out.2]) hv
      have Hb := Lib.hid hb
      clear hv hb hi'
      go_wp2_with fail
      go_ret
      exact ⟨_, n, rfl, by rw [Hb.out]; exact hL.out.1.symm, by rw [Hb.out]; exact readsb_blk hblk hblk.lt, hbel⟩
end Go.Proofs.YtebpggfccljagaaGreatDoor

/- Decimal digits: plain, no Go in sight. -/
namespace Go.Proofs.YtebpggfccljagaaGreatDoor
namespace Wh

def dig (n : Nat) : UInt8 := UInt8.ofNat (48 + n % 10)
theorem dig_nat (n : Nat) : (dig n).toNat = 48 + n % 10 := by unfold dig; rw [UInt8.toNat_ofNat']; omega
/-- the lowest digits, the lowest first -/
def dl (m : Nat) : Nat → List UInt8
  | 0 => []
  | L + 1 => dig m :: dl (m / 10) L
theorem dl_len : ∀ (L m : Nat), (dl m L).length = L
  | 0, _ => rfl
  | L + 1, m => by rw [dl, List.length_cons, dl_len L]
theorem dl_snoc : ∀ (L m : Nat), dl m (L + 1) = dl m L ++ [dig (m / 10 ^ L)]
  | 0, m => by rw [Nat.pow_zero, Nat.div_one]; rfl
  | L + 1, m => by
    rw [dl, dl_snoc L (m / 10), dl, Nat.div_div_eq_div_mul, Nat.pow_succ, Nat.mul_comm 10]
    rfl
/-- the digits of a number, the highest first; none of 0 -/
def dec (n : Nat) : List UInt8 := if _h : n = 0 then [] else dec (n / 10) ++ [dig n]
theorem dec_zero : dec 0 = [] := by rw [dec]; simp
theorem dec_pos {n : Nat} (h : 0 < n) : dec n = dec (n / 10) ++ [dig n] := by rw [dec, dif_neg (by omega)]
theorem dl_dec : ∀ (L m : Nat), m / 10 ^ L = 0 → (L = 0 ∨ 0 < m / 10 ^ (L - 1)) → (dl m L).reverse = dec m
  | 0, m, h, _ => by
    rw [Nat.pow_zero, Nat.div_one] at h
    subst h
    rw [dec_zero]; rfl
  | L + 1, m, h, h2 => by
    have h3 : 0 < m / 10 ^ L := by
      rcases h2 with h2 | h2
      · cases h2
      · exact h2
    have hm : 0 < m := by
      rcases Nat.eq_zero_or_pos m with h0 | h0
      · subst h0; simp at h3
      · exact h0
    rw [dl, List.reverse_cons, dec_pos hm, dl_dec L (m / 10)]
    · rw [Nat.div_div_eq_div_mul, Nat.mul_comm, ← Nat.pow_succ]; exact h
    · rcases Nat.eq_zero_or_pos L with h0 | h0
      · exact .inl h0
      · refine .inr ?_
        rw [Nat.div_div_eq_div_mul, Nat.mul_comm, ← Nat.pow_succ, Nat.succ_eq_add_one, Nat.sub_add_cancel h0]
        exact h3
theorem dec_len : ∀ (k n : Nat), n < 10 ^ k → (dec n).length ≤ k
  | 0, n, h => by
    rw [Nat.pow_zero] at h
    have : n = 0 := by omega
    subst this
    rw [dec_zero]; exact Nat.le_refl _
  | k + 1, n, h => by
    rcases Nat.eq_zero_or_pos n with h0 | h0
    · subst h0; rw [dec_zero]; simp
    · rw [dec_pos h0, List.length_append]
      have := dec_len k (n / 10) ((Nat.div_lt_iff_lt_mul (by decide)).2 (by rw [← Nat.pow_succ]; exact h))
      simp only [List.length_cons, List.length_nil]
      omega
/-- a list whose ends have changed places up to i -/
def Turned (D E : List UInt8) (i : Nat) : Prop := E.length = D.length ∧ ∀ t, t < D.length → E[t]? = if t < i ∨ D.length ≤ t + i then D[D.length - 1 - t]? else D[t]?
theorem turned_start (D : List UInt8) : Turned D D 0 := ⟨rfl, fun t ht => by rw [if_neg (by omega)]⟩
theorem turned_step {D E : List UInt8} {i k : Nat} (h : Turned D E i) (hk : i + k + 1 = D.length) (hik : i < k) (x y : UInt8) (hx : E[i]? = some x) (hy : E[k]? = some y) : Turned D ((E.set i y).set k x) (i + 1) := by
  obtain ⟨h1, h2⟩ := h
  refine ⟨by rw [List.length_set, List.length_set, h1], fun t ht => ?_⟩
  have ei := h2 i (by omega)
  have ek := h2 k (by omega)
  rw [if_neg (by omega)] at ei ek
  by_cases htk : t = k
  · subst htk
    rw [List.getElem?_set_self (by rw [List.length_set]; omega), if_pos (by omega), show D.length - 1 - t = i by omega, ← ei, hx]
  · rw [List.getElem?_set_ne (Ne.symm htk)]
    by_cases hti : t = i
    · subst hti
      rw [List.getElem?_set_self (by omega), if_pos (by omega), show D.length - 1 - t = k by omega, ← ek, hy]
    · rw [List.getElem?_set_ne (Ne.symm hti), h2 t ht]
      by_cases hc : t < i ∨ D.length ≤ t + i
      · rw [if_pos hc, if_pos (by omega)]
      · rw [if_neg hc, if_neg (by omega)]
theorem turned_end {D E : List UInt8} {i : Nat} (h : Turned D E i) (hi : D.length ≤ 2 * i + 1) : E = D.reverse := by
  obtain ⟨h1, h2⟩ := h
  apply List.ext_getElem?
  intro t
  rcases Nat.lt_or_ge t D.length with ht | ht
  · rw [h2 t ht, List.getElem?_reverse ht]
    by_cases hc : t < i ∨ D.length ≤ t + i
    · rw [if_pos hc]
    · rw [if_neg hc]
      congr 1
      omega
  · rw [List.getElem?_eq_none (by omega), List.getElem?_eq_none (by rw [List.length_reverse]; omega)]
end Wh
end Go.Proofs.YtebpggfccljagaaGreatDoor

/- *big.Int: String (printed by gen_str.py). -/
namespace Go.Proofs.YtebpggfccljagaaGreatDoor
open Go.RowKit
open Wh
set_option linter.unusedSimpArgs false

/-- words that do not lie in a value's own block -/
def Away (w : World) (v : Value) (A : Option Addr) (l : List Nat) : Prop := ReadsW w w.heap.size A l ∧ (0 < l.length → ∀ ad, A = some ad → v.ownBlock ≠ some ad.block)
theorem wpB_push {w : World} {ops : Array Oper} {rest : List Oper} {o : Oper} {a : Act} {Q : Exit → Act → World → Prop} (hgd : o.guard = none) (s x : Operand)
    (ho : o.op = .call { callee := .builtin .append, args := #[s, x], argTypes := #[97, 97] }) (B : Nat) (v : Value) (l : List UInt8) (hown : OwnB w B v l) (hs : a.eval s = v)
    {X : Int} {y : UInt8} (hX : X = (y.toNat : Int)) (hx : a.eval x = .slice (some ⟨w.heap.size, 0, none⟩) 1 1) (hlen : l.length ≤ 140737488355327) (hbase : B ≤ w.heap.size)
    (h : ∀ A' n' c' w', OwnB w' B (.slice A' n' c') (l ++ [y]) → (∀ w0, Below B w0 w → Below B w0 w') → (∀ A2 l2, Away w v A2 l2 → Away w' (.slice A' n' c') A2 l2) → wpList Tryz.prog ops Q rest (a.put o.dst (.slice A' n' c')) w') :
    wpList Tryz.prog ops Q (o :: rest) a (w.alloc (.cells #[.int .u8 X] 5)) := by
  obtain ⟨i0, hi, hz0, hz1, hz2⟩ := info_parts infoB
  subst hX
  have hr : ReadsB (w.alloc (.cells #[.int .u8 (y.toNat : Int)] 5)) (w.heap.size + 1) (some ⟨w.heap.size, 0, none⟩) [y] :=
    readsb_blk (w := w.alloc (.cells #[.int .u8 (y.toNat : Int)] 5)) (l := [y]) (Blk.new w 5 (bcells [y])) (by omega)
  refine wpList_append_any _ hgd s x 97 ho B 5 i0 (.int .u8 0) 1 1 Tryz.underlying97 hi hz0 hz1 hz2 rfl (by decide) v l.length (l.map bv) hs (hown.alloc _) _ _ 1 1 ([y].map bv) hx hr (bv_one _) (by unfold maxLen; omega) (by omega) (by simp; omega) ?_
  intro v' w' h1 h2 h3
  have h4 : OwnB w' B v' (l ++ [y]) := by
    unfold OwnB
    rw [List.length_append, List.map_append]
    exact h1
  have hlt : ∀ k, v.ownBlock = some k → B ≤ k ∧ k < w.heap.size := fun k hk => World.ownsRow.lt hown k hk
  obtain ⟨A', c', rfl, _⟩ := h4.form
  have hsz := h2.size
  simp only [World.size_alloc] at hsz
  refine h A' _ c' w' h4 (fun w0 hb => (hb.alloc hbase _).grown h2 (by simp; omega) (fun k hk => (hlt k hk).1)) (fun A2 l2 haw => ?_)
  obtain ⟨hr2, hne⟩ := haw
  have key : 0 < l2.length → ∃ ad, A2 = some ad ∧ ad.block < w.heap.size ∧ v.ownBlock ≠ some ad.block := fun hl => by
    obtain ⟨ad, _, _, e, hb, _⟩ := hr2.addr hl
    exact ⟨ad, e, hb, hne hl ad e⟩
  refine ⟨(hr2.same (w' := w') fun i hi hw => ?_).more (by omega), fun hl ad e => ?_⟩
  · refine (h2.block i (by simp; omega) fun hh => ?_).trans (Below.heap_alloc w _ i hi)
    obtain ⟨cs, fz, hh2⟩ := hw
    rcases hown.2 with ⟨rfl, _⟩ | ⟨g, cap, cur, rfl, _, hh3, _⟩
    · cases hh
    · injection hh with hh
      simp only at hh
      subst hh
      rw [hh2] at hh3
      injection hh3 with hh3
      injection hh3 with _ h6
      exact absurd h6 (by decide)
  · obtain ⟨ad', e', hb, hne'⟩ := key hl
    rw [e] at e'
    injection e' with e'
    subst e'
    rcases h3 with h3 | h3
    · rw [h3]; exact hne'
    · rw [h3]
      intro hh
      injection hh with hh
      simp at hh
      omega
theorem push_len {w : World} {B n c : Nat} {A : Option Addr} {l : List UInt8} {y : UInt8} (h : OwnB w B (.slice A n c) (l ++ [y])) (hl : l.length ≤ 1000000001) : n ≤ 1000000002 ∧ 0 < n := by
  have := h.len
  rw [List.length_append] at this
  simp only [List.length_cons, List.length_nil] at this
  omega
theorem dl_bound {m L : Nat} (h : 0 < m / 10 ^ L) : L ≤ 10 * (wds m).length := by
  rcases Nat.lt_or_ge (10 * (wds m).length) L with h1 | h1
  · exfalso
    have h2 := lt_of_len (Nat.le_refl (wds m).length)
    have h3 : (4294967296 : Nat) ^ (wds m).length ≤ (10 ^ 10) ^ (wds m).length := Nat.pow_le_pow_left (by decide) _
    rw [← Nat.pow_mul] at h3
    have h4 : (10 : Nat) ^ (10 * (wds m).length) ≤ 10 ^ L := Nat.pow_le_pow_right (by decide) (by omega)
    rw [Nat.div_eq_of_lt (by omega)] at h
    omega
  · exact h1
/-- bytes at the head of a block -/
def BMid (w : World) (g : Nat) (E : List UInt8) (S : List Value) : Prop := Blk w g 5 ((E.map bv ++ S).toArray)
theorem own_blk {w : World} {B n c : Nat} {A : Option Addr} {l : List UInt8} (h : OwnB w B (.slice A n c) l) (hl : 0 < l.length) : ∃ g S, A = some ⟨g, 0, none⟩ ∧ n = l.length ∧ B ≤ g ∧ BMid w g l S ∧ n ≤ c := by
  rcases h.2 with ⟨_, h0⟩ | ⟨g, cap, cur, hv, hb, hh, hc, hm, hs, ht⟩
  · omega
  · injection hv with e1 e2 e3
    subst e1 e2 e3
    refine ⟨g, cur.toList.drop l.length, rfl, rfl, hb, ?_, hc⟩
    unfold BMid
    rw [Nat.mul_one] at ht
    rw [← ht, List.take_append_drop]
    exact hh
section
variable {w : World} {g t : Nat} {E : List UInt8} {S : List Value}
theorem BMid.cell (h : BMid w g E S) (ht : t < E.length) : w.cell? ⟨g, t, none⟩ = some (.int .u8 ((E[t].toNat : Nat) : Int)) := by
  rw [Blk.cell h, List.getElem?_toArray, List.getElem?_append_left (by rw [List.length_map]; exact ht), List.getElem?_map, List.getElem?_eq_getElem ht]
  rfl
theorem BMid.set_ (h : BMid w g E S) (ht : t < E.length) (y : UInt8) : BMid (w.setCell ⟨g, t, none⟩ (.int .u8 (y.toNat : Int))) g (E.set t y) S := by
  have := Blk.set_ h t (.int .u8 (y.toNat : Int))
  unfold BMid
  rw [List.map_set, ← List.set_append_left (h := by rw [List.length_map]; exact ht), ← List.setIfInBounds_toArray]
  exact this
theorem BMid.reads (h : BMid w g E S) : ReadsB w w.heap.size (some ⟨g, 0, none⟩) E := by
  refine ⟨by simp, fun _ => ⟨_, rfl, Blk.lt h, fun j u hu => ?_⟩⟩
  have hj : j < E.length := by
    rcases Nat.lt_or_ge j E.length with h1 | h1
    · exact h1
    · rw [List.getElem?_map, List.getElem?_eq_none h1] at hu; cases hu
  have e : (⟨g, 0, none⟩ : Addr).add j = ⟨g, j, none⟩ := by rw [Addr.add_lit, Nat.zero_add]
  rw [e, h.cell hj, ← hu, List.getElem?_map, List.getElem?_eq_getElem hj]
  rfl
end
/-- the text of a number -/
def txt (x : Int) : List UInt8 := if x = 0 then [48] else (if x < 0 then [45] else []) ++ dec x.natAbs
def Texted (w : World) (t : List UInt8) (e : Ending) (w' : World) : Prop := e = .returned (.string ⟨t.toArray⟩) ∧ Below w.heap.size w w'
theorem digit_down {v r m L j : Nat} (h : v * 10 ^ (j + 1) + r = m / 10 ^ L) : v * 10 ^ j + r / 10 = m / 10 ^ (L + 1) ∧ m / 10 ^ L % 10 = r % 10 := by
  rw [Nat.pow_succ 10 L, ← Nat.div_div_eq_div_mul, ← h, Nat.pow_succ]
  rw [show v * (10 ^ j * 10) = 10 * (v * 10 ^ j) by ac_rfl]
  generalize v * 10 ^ j = q
  omega
set_option maxRecDepth 100000 in
set_option maxHeartbeats 8000000 in
theorem string_any {w : World} {gx : Nat} {x : Int} (hx : IntB w gx x) (hxl : (wds x.natAbs).length ≤ 100000000) :
    Calls Tryz.prog 121 #[.pointer (some ⟨gx, 0, none⟩)] w (Texted w (txt x)) := by
  obtain ⟨sx, Ax, nx, cx, x0, x1, Hx, hxc, hxcl, rx⟩ := hx.opened
  by_cases h0 : x = 0
  · have hn : nx = 0 := by have := Hx.out.2; rw [h0] at this; simpa [wds_zero] using this
    have Ht := Lib.hid (show txt x = [48] by unfold txt; rw [if_pos h0])
    subst hn
    clear h0 rx hx hxl Hx
    go_enter Tryz.func121, Tryz.ntmps121
    go_wp2
    go_ret
    rw [Ht.out]
    exact ⟨rfl, Below.refl _ _⟩
  · have hn : 0 < nx := by have := Hx.out.2; rw [this]; exact len_pos.2 h0
    have hni : ((nx : Int) == 0) = false := by simp; omega
    obtain ⟨m, hm⟩ : ∃ m, m = x.natAbs := ⟨_, rfl⟩
    have hmp : 0 < m := by omega
    have Ht := Lib.hid (show txt x = (if sx = true then [45] else []) ++ dec m by
      unfold txt
      rw [if_neg h0, hm, Hx.out.1]
      by_cases h1 : x < 0
      · simp [h1]
      · simp [h1])
    have hnx := Hx.out.2
    rw [← hm] at rx hnx hxl
    have Hr := Lib.hid (And.intro rx (And.intro hnx (And.intro hxl (And.intro hx hmp))))
    have hgl := hx.lt
    clear h0 rx hx hxl hm hnx hmp
    go_enter Tryz.func121, Tryz.ntmps121
    go_wp2_with fail
    go_loopg [3, 4] m (fun k bq lq wr => ∃ (A' A : Option Addr) (n' c' n c L : Nat), bq = .slice A' n' c' ∧ lq = .slice A n c ∧ OwnB wr w.heap.size (.slice A' n' c') (dl m L) ∧ SlW wr wr.heap.size A n c k ∧ Below w.heap.size w wr ∧ Hid (k = m / 10 ^ L ∧ (L = 0 ∨ 0 < m / 10 ^ (L - 1))))
    case atStart => exact ⟨none, Ax, 0, 0, nx, cx, 0, rfl, rfl, OwnB.nil _ _, ⟨Hr.out.2.1, hxc, hxcl, Hr.out.1⟩, Below.refl _ _, by rw [Nat.pow_zero, Nat.div_one], .inl rfl⟩
    case round =>
      obtain ⟨A', A, n', c', n, c, L, rfl, rfl, hown, ⟨hnl, hnc, hcl, rl⟩, hbel, hL⟩ := hrel
      by_cases hk0 : 0 < gk
      · have hnp : 0 < n := by
          have := hnl.out
          rw [wds_pos hk0] at this
          simp at this
          omega
        have hnpi : (0 : Int) < (n : Int) := by omega
        have hkl : (wds gk).length ≤ 100000000 := Nat.le_trans (len_mono (by rw [hL.out.1]; exact Nat.div_le_self _ _)) Hr.out.2.2.1
        have hS := short_any (d := 1000000000) (c := c) rl (Nat.le_refl _) hnl.out (by have := hnl.out; omega) (wd_w gk) (by decide) (by decide)
        rw [val_w] at hS
        obtain ⟨r0, hr0⟩ : ∃ r, r = gk % 1000000000 := ⟨_, rfl⟩
        obtain ⟨v, hv⟩ : ∃ v, v = gk / 1000000000 := ⟨_, rfl⟩
        rw [← hr0, ← hv] at hS
        have hr0l : r0 ≤ 999999999 := by omega
        have HS := Lib.hid hS
        have Hv := Lib.hid (And.intro hk0 (And.intro hr0 hv))
        clear hS hr0 hv hkl hk0 rl
        go_wp2_with fail
        refine HS.out.mono ?_
        rintro e w5 ⟨A5, m5, c5, rfl, hm5, hc5, hcn5, hr5, hb5, hnew5⟩
        have haw5 : Away w5 (.slice A' n' c') A5 (wds v) := ⟨hr5, fun _ ad e hh => by have h6 := hnew5 ad e; have h7 := (World.ownsRow.lt hown _ hh).2; omega⟩
        have Hm5 := Lib.hid hm5
        have hown5 := hown.kept (hb5)
        have hbel5 := hbel.trans (hb5.mono hbel.size)
        clear hm5
        obtain ⟨w6, rfl⟩ : ∃ w6, w6 = w5 := ⟨_, rfl⟩
        go_wp2_with fail
        have hst : v * 10 ^ 9 + r0 = m / 10 ^ L := by rw [← hL.out.1, Hv.out.2.1, Hv.out.2.2]; omega
        have Hst := Lib.hid hst
        clear hst
        go_loopg [3, 5, 6] 9 (fun k bq rq kq wi => ∃ (A' : Option Addr) (n' c' L r j : Nat), bq = .slice A' n' c' ∧ rq = .int .u32 (r : Int) ∧ kq = .int .i64 (j : Int) ∧ j + k = 9 ∧ r ≤ 999999999 ∧ OwnB wi w.heap.size (.slice A' n' c') (dl m L) ∧ Away wi (.slice A' n' c') A5 (wds v) ∧ Below w.heap.size w wi ∧
          Hid (v * 10 ^ k + r = m / 10 ^ L ∧ r < 10 ^ k ∧ (L = 0 ∨ 0 < m / 10 ^ (L - 1))))
        case atStart => exact ⟨A', n', c', L, r0, 0, rfl, rfl, rfl, rfl, hr0l, hown5, haw5, hbel5, Hst.out, by omega, hL.out.2⟩
        case round =>
          obtain ⟨A2, n2, c2, L2, r, j, rfl, rfl, rfl, hjk, hrl, hown2, hr2, hbel2, hL2⟩ := hrel
          have Hjk := Lib.hid hjk
          clear hown hown5 hr5 haw5 hnew5
          have hexit : r = 0 → (gk = 0 ∨ v = 0) → v = m / 10 ^ L2 := fun h1 h2 => by
            have h3 := hL2.out.1
            rw [h1, Nat.add_zero] at h3
            rcases h2 with h2 | h2
            · rw [h2, Nat.pow_zero, Nat.mul_one] at h3; exact h3
            · rw [h2, Nat.zero_mul] at h3; omega
          have Hexit := Lib.hid hexit
          clear hexit
          by_cases hj9 : j < 9
          · have hji : (j : Int) < 9 := by omega
            obtain ⟨k1, rfl⟩ : ∃ k1, gk = k1 + 1 := ⟨gk - 1, by omega⟩
            clear hjk
            by_cases hgo : r = 0 ∧ v = 0
            · obtain ⟨h1, h2⟩ := hgo
              have hm0 : m5 = 0 := by have := Hm5.out; rw [h2, wds_zero] at this; exact this
              subst hm0
              subst h1
              have Hve := Lib.hid (And.intro h2 (Hexit.out rfl (.inr h2)))
              clear h2
              go_wp2_with fail
              go_roundg v
              case measure => have h5 := Hv.out; omega
              case rel => exact ⟨A2, A5, n2, c2, _, c5, L2, rfl, rfl, hown2, ⟨Hm5.out, hc5, by have := hcn5; omega, hr2.1⟩, hbel2, Hve.out.2, hL2.out.2.2⟩
            · have hR : 0 < v * 10 ^ (k1 + 1) + r := by
                rcases Nat.eq_zero_or_pos r with h | h
                · have hv : 0 < v := by omega
                  have : 0 < v * 10 ^ (k1 + 1) := Nat.mul_pos hv (Nat.pow_pos (by decide))
                  omega
                · omega
              rw [hL2.out.1] at hR
              have hLb := dl_bound hR
              have hdd := digit_down hL2.out.1
              have hsn := dl_snoc L2 m
              have hdig : (dig (m / 10 ^ L2)).toNat = 48 + r % 10 := by rw [dig_nat, hdd.2]
              have hLl : (dl m L2).length ≤ 1000000000 := by rw [dl_len]; have := Hr.out.2.2.1; omega
              have hr10 : r / 10 < 10 ^ k1 := by
                have h5 := hL2.out.2.1
                rw [Nat.pow_succ] at h5
                exact (Nat.div_lt_iff_lt_mul (by decide)).2 h5
              have Hd := Lib.hid (And.intro hR (And.intro hdd (And.intro hsn (And.intro hr10 hdig))))
              have hgle : w.heap.size ≤ wr.heap.size := hbel2.size
              have hpsh : (48 : Int) + (r : Int) % 10 = ((dig (m / 10 ^ L2)).toNat : Int) := by rw [Hd.out.2.2.2.2]; omega
              have Hpsh := Lib.hid hpsh
              clear hR hdd hsn hr10 hpsh hLb hdig
              by_cases hr0 : 0 < r
              · have hri : (0 : Int) < (r : Int) := by omega
                clear hgo
                go_wp2_with (at_builtin; refine wpB_push rfl (.tmp 40) (.tmp 45) rfl w.heap.size _ (dl m L2) hown2 rfl (y := dig (m / 10 ^ L2)) Hpsh.out rfl (by omega) hgle ?_; intro A3 n3 c3 w3 ho3 hkeep haw3; have Hk3 := Lib.hid (And.intro ho3 (And.intro (hkeep w hbel2) (haw3 _ _ hr2))); clear ho3 hkeep haw3)
                go_roundg k1
                case measure => omega
                case rel =>
                  refine ⟨A3, n3, c3, L2 + 1, r / 10, j + 1, rfl, by rw [Int.natCast_ediv]; rfl, rfl, by have := Hjk.out; omega, by omega, by rw [dl_snoc]; exact Hk3.out.1, Hk3.out.2.2, Hk3.out.2.1, Hd.out.2.1.1, Hd.out.2.2.2.1, .inr ?_⟩
                  rw [Nat.add_sub_cancel]
                  exact Hd.out.1
              · have hr00 : r = 0 := by omega
                have hv0 : 0 < v := by omega
                have hm50 : 0 < m5 := by
                  have := Hm5.out
                  rw [wds_pos hv0] at this
                  simp at this
                  omega
                have hm5i : (0 : Int) < (m5 : Int) := by omega
                have Hp0 := Lib.hid (show (48 : Int) = ((dig (m / 10 ^ L2)).toNat : Int) by rw [Hd.out.2.2.2.2, hr00]; rfl)
                subst hr00
                clear hgo hr0
                go_wp2_with (at_builtin; refine wpB_push rfl (.tmp 40) (.tmp 45) rfl w.heap.size _ (dl m L2) hown2 rfl (y := dig (m / 10 ^ L2)) Hp0.out rfl (by omega) hgle ?_; intro A3 n3 c3 w3 ho3 hkeep haw3; have Hk3 := Lib.hid (And.intro ho3 (And.intro (hkeep w hbel2) (haw3 _ _ hr2))); clear ho3 hkeep haw3)
                go_roundg k1
                case measure => omega
                case rel =>
                  refine ⟨A3, n3, c3, L2 + 1, 0, j + 1, rfl, rfl, rfl, by have := Hjk.out; omega, by omega, by rw [dl_snoc]; exact Hk3.out.1, Hk3.out.2.2, Hk3.out.2.1, Hd.out.2.1.1, Hd.out.2.2.2.1, .inr ?_⟩
                  rw [Nat.add_sub_cancel]
                  exact Hd.out.1
          · have hj : j = 9 := by omega
            have hk0 : gk = 0 := by omega
            subst hk0
            have hr0 : r = 0 := by have := hL2.out.2.1; rw [Nat.pow_zero] at this; omega
            have Hve := Lib.hid (Hexit.out hr0 (.inl rfl))
            subst hj
            subst hr0
            go_wp2_with fail
            go_roundg v
            case measure => have h5 := Hv.out; omega
            case rel => exact ⟨A2, A5, n2, c2, _, c5, L2, rfl, rfl, hown2, ⟨Hm5.out, hc5, by have := hcn5; omega, hr2.1⟩, hbel2, Hve.out, hL2.out.2.2⟩
      · have hgk : gk = 0 := by omega
        subst hgk
        have hn0 : n = 0 := by have := hnl.out; rw [wds_zero] at this; exact this
        subst hn0
        have hLp : 0 < L := by
          rcases Nat.eq_zero_or_pos L with h | h
          · subst h
            have h5 := hL.out.1
            rw [Nat.pow_zero, Nat.div_one] at h5
            have := Hr.out.2.2.2.2
            omega
          · exact h
        have hdec := dl_dec L m hL.out.1.symm hL.out.2
        have u0 := (hbel.cell (p := ⟨gx, 0, none⟩) hgl).trans x0
        have hLl : (dl m L).length ≤ 1000000001 := by
          rw [dl_len]
          rcases hL.out.2 with h | h
          · omega
          · have h5 := dl_bound h
            have := Hr.out.2.2.1
            omega
        have hDp : 0 < (dl m L).length := by rw [dl_len]; exact hLp
        have Hdec := Lib.hid (And.intro hdec (And.intro hDp hLl))
        have hgle : w.heap.size ≤ wr.heap.size := hbel.size
        clear hdec hLp hk0 hDp hLl x0 x1
        cases sx
        · obtain ⟨D, hD⟩ : ∃ D, D = dl m L := ⟨_, rfl⟩
          rw [← hD] at hown Hdec
          have hres := Lib.hid (show txt x = D.reverse by rw [Ht.out, Hdec.out.1]; rfl)
          obtain ⟨g, S, rfl, hN, hgB, hmid, hNc⟩ := own_blk hown Hdec.out.2.1
          have hNl : n' ≤ 1000000002 := by have := Hdec.out.2.2; omega
          have hNp : 0 < n' := by have := Hdec.out.2.1; omega
          have HN := Lib.hid hN
          have hw5 : ∃ w5, w5 = wr := ⟨_, rfl⟩
          obtain ⟨w5, hw5⟩ := hw5
          subst hw5
          clear hD hown hN
          go_wp2_with fail
          go_loopg [7, 8] n' (fun k iq kq wi => ∃ (i : Nat) (E : List UInt8), iq = .int .i64 (i : Int) ∧ kq = .int .i64 ((n' : Int) - 1 - (i : Int)) ∧ k + i = n' ∧ 2 * i ≤ n' ∧ BMid wi g E S ∧ Below w.heap.size w wi ∧ Hid (Turned D E i))
          case atStart => exact ⟨0, D, rfl, by congr 1; omega, by omega, by omega, hmid, hbel, turned_start D⟩
          case round =>
            obtain ⟨i, E, rfl, rfl, hki, hi2, hmi, hbi, hT⟩ := hrel
            have Hki := Lib.hid hki
            have hEl := hT.out.1
            have hEn : E.length = n' := by rw [hEl, HN.out]
            have HEn := Lib.hid hEn
            clear hki hEl hEn
            by_cases hgo : 2 * i + 1 < n'
            · obtain ⟨j, hj⟩ : ∃ j, n' = i + 1 + j := ⟨n' - 1 - i, by omega⟩
              have hij : i < j := by omega
              have hiE : i < E.length := by rw [HEn.out]; omega
              have hjE : j < E.length := by rw [HEn.out]; omega
              have c1 := hmi.cell hiE
              have c2 := hmi.cell hjE
              have f1 := Blk.frozen hmi i
              have f2 := Blk.frozen hmi j
              have ex := List.getElem?_eq_getElem hiE
              have ey := List.getElem?_eq_getElem hjE
              generalize E[i] = p at *
              generalize E[j] = q at *
              have hp := UInt8.toNat_lt p
              have hq := UInt8.toNat_lt q
              have Hx := Lib.hid (And.intro ex (And.intro ey hj))
              rw [show (n' : Int) - 1 - (i : Int) = (j : Int) by omega]
              have hii : (i : Int) < (j : Int) := by omega
              have hin : (i : Int) < (n' : Int) := by omega
              have hjn : (j : Int) < (n' : Int) := by omega
              clear ex ey hj hi2 hgo
              go_wp2_with fail
              refine wp_region_noPanic ?_
              refine wp_region_HK (fun w' => w'.cell? ⟨g, i, none⟩ = some (.int .u8 (p.toNat : Int)) ∧ w'.cell? ⟨g, j, none⟩ = some (.int .u8 (q.toNat : Int))) 13 (by kernel_rfl) ⟨c1, c2⟩ (fun hHeld => ?_)
              refine wpHK_pure (i := 0) (oi := Oper.mk (some 66) _ _ _ _ _) (v := ?_) rfl (by kernel_rfl) (by kernel_rfl) (by kernel_rfl) (fun _ _ _ h => h) (Or.inl ⟨by rfl, ?_⟩) ?_
              rotate_left
              · (intro w' _; go_simp; try with_reducible rfl)
              try simp only [Act.put, List.setIfInBounds_toArray, List.set_cons_zero, List.set_cons_succ]
              refine wpHK_pure (i := 1) (oi := Oper.mk (some 67) _ _ _ _ _) (v := ?_) rfl (by kernel_rfl) (by kernel_rfl) (by kernel_rfl) (fun _ _ _ h => h) (Or.inl ⟨by rfl, ?_⟩) ?_
              rotate_left
              · (intro w' _; go_simp; try with_reducible rfl)
              try simp only [Act.put, List.setIfInBounds_toArray, List.set_cons_zero, List.set_cons_succ]
              refine wpHK_pure (i := 2) (oi := Oper.mk (some 68) _ _ _ _ _) (v := ?_) rfl (by kernel_rfl) (by kernel_rfl) (by kernel_rfl) (fun _ _ _ h => h) (Or.inl ⟨by rfl, ?_⟩) ?_
              rotate_left
              · (intro w' _; go_simp; try with_reducible rfl)
              try simp only [Act.put, List.setIfInBounds_toArray, List.set_cons_zero, List.set_cons_succ]
              refine wpHK_pure (i := 3) (oi := Oper.mk (some 69) _ _ _ _ _) (v := ?_) rfl (by kernel_rfl) (by kernel_rfl) (by kernel_rfl) (fun _ _ _ h => h) (Or.inl ⟨by rfl, ?_⟩) ?_
              rotate_left
              · (intro w' _; go_simp; try with_reducible rfl)
              try simp only [Act.put, List.setIfInBounds_toArray, List.set_cons_zero, List.set_cons_succ]
              refine wpHK_pure (i := 4) (oi := Oper.mk (some 70) _ _ _ _ _) (v := ?_) rfl (by kernel_rfl) (by kernel_rfl) (by kernel_rfl) (fun _ _ _ h => h) (Or.inl ⟨by rfl, ?_⟩) ?_
              rotate_left
              · (intro w' _; go_simp; try with_reducible rfl)
              try simp only [Act.put, List.setIfInBounds_toArray, List.set_cons_zero, List.set_cons_succ]
              refine wpHK_pure (i := 5) (oi := Oper.mk (some 71) _ _ _ _ _) (v := ?_) rfl (by kernel_rfl) (by kernel_rfl) (by kernel_rfl) (fun _ _ _ h => h) (Or.inl ⟨by rfl, ?_⟩) ?_
              rotate_left
              · (intro w' _; go_simp; try with_reducible rfl)
              try simp only [Act.put, List.setIfInBounds_toArray, List.set_cons_zero, List.set_cons_succ]
              refine wpHK_pure (i := 6) (oi := Oper.mk (some 72) _ _ _ _ _) (v := ?_) rfl (by kernel_rfl) (by kernel_rfl) (by kernel_rfl) (fun _ _ _ h => h) (Or.inl ⟨by rfl, ?_⟩) ?_
              rotate_left
              · (intro w' _; go_simp; try with_reducible rfl)
              try simp only [Act.put, List.setIfInBounds_toArray, List.set_cons_zero, List.set_cons_succ]
              refine wpHK_pure (i := 8) (oi := Oper.mk (some 74) _ _ _ _ _) (v := ?_) rfl (by kernel_rfl) (by kernel_rfl) (by kernel_rfl) (fun _ _ _ h => h) (Or.inl ⟨by rfl, ?_⟩) ?_
              rotate_left
              · (intro w' _; go_simp; try with_reducible rfl)
              try simp only [Act.put, List.setIfInBounds_toArray, List.set_cons_zero, List.set_cons_succ]
              refine wpHK_pure (i := 9) (oi := Oper.mk (some 75) _ _ _ _ _) (v := ?_) rfl (by kernel_rfl) (by kernel_rfl) (by kernel_rfl) (fun _ _ _ h => h) (Or.inl ⟨by rfl, ?_⟩) ?_
              rotate_left
              · (intro w' _; go_simp; try with_reducible rfl)
              try simp only [Act.put, List.setIfInBounds_toArray, List.set_cons_zero, List.set_cons_succ]
              refine wpHK_pure (i := 10) (oi := Oper.mk (some 76) _ _ _ _ _) (v := ?_) rfl (by kernel_rfl) (by kernel_rfl) (by kernel_rfl) (fun _ _ _ h => h) (Or.inl ⟨by rfl, ?_⟩) ?_
              rotate_left
              · (intro w' _; go_simp; try with_reducible rfl)
              try simp only [Act.put, List.setIfInBounds_toArray, List.set_cons_zero, List.set_cons_succ]
              refine wpHK_take (i := 7) (oi := Oper.mk (some 73) _ _ _ _ _) (v := ?_) rfl (by kernel_rfl) (by kernel_rfl) (by kernel_rfl) (by kernel_rfl) (fun _ _ _ h => h) (Or.inl ⟨by rfl, ?_⟩) (by assumption) ?_
              rotate_left
              · (intro w' hSw; (try dsimp only at hSw); (obtain ⟨s1, s2⟩ := hSw); go_simp; try with_reducible rfl)
              try simp only [Act.put, List.setIfInBounds_toArray, List.set_cons_zero, List.set_cons_succ]
              refine wpHK_take (i := 11) (oi := Oper.mk (some 77) _ _ _ _ _) (v := ?_) rfl (by kernel_rfl) (by kernel_rfl) (by kernel_rfl) (by kernel_rfl) (fun _ _ _ h => h) (Or.inl ⟨by rfl, ?_⟩) (by assumption) ?_
              rotate_left
              · (intro w' hSw; (try dsimp only at hSw); (obtain ⟨s1, s2⟩ := hSw); go_simp; try with_reducible rfl)
              try simp only [Act.put, List.setIfInBounds_toArray, List.set_cons_zero, List.set_cons_succ]
              refine wpHK_pure (i := 12) (oi := Oper.mk (some 78) _ _ _ _ _) (v := ?_) rfl (by kernel_rfl) (by kernel_rfl) (by kernel_rfl) (fun _ _ _ h => h) (Or.inl ⟨by rfl, ?_⟩) ?_
              rotate_left
              · (intro w' _; go_simp; try with_reducible rfl)
              try simp only [Act.put, List.setIfInBounds_toArray, List.set_cons_zero, List.set_cons_succ]
              refine wpHK_tail (j := 13) (o := Oper.mk (none) _ _ _ _ _) rfl (by kernel_rfl) (by decide) (fun K hK => ?_)
              go_simp
              refine hK.out _ _ ?_
              clear hK K
              try simp only [Act.put, List.setIfInBounds_toArray, List.set_cons_zero, List.set_cons_succ]
              refine wpHK_pure (i := 14) (oi := Oper.mk (some 79) _ _ _ _ _) (v := ?_) rfl (by kernel_rfl) (by kernel_rfl) (by kernel_rfl) (fun _ _ _ h => h) (Or.inl ⟨by rfl, ?_⟩) ?_
              rotate_left
              · (intro w' _; go_simp; try with_reducible rfl)
              try simp only [Act.put, List.setIfInBounds_toArray, List.set_cons_zero, List.set_cons_succ]
              refine wpHK_tail (j := 15) (o := Oper.mk (none) _ _ _ _ _) rfl (by kernel_rfl) (by decide) (fun K hK => ?_)
              go_simp
              refine hK.out _ _ ?_
              clear hK K
              try simp only [Act.put, List.setIfInBounds_toArray, List.set_cons_zero, List.set_cons_succ]
              refine wpHK_done (by kernel_rfl) ?_ _
              refine NoPanic.normal ?_
              go_wp2_with fail
              go_roundg (n' - (i + 1))
              case measure => have := Hki.out; omega
              case rel =>
                have h5 := Hx.out.2.2
                exact ⟨i + 1, (E.set i q).set j p, rfl, by congr 1; omega, by omega, by omega, (hmi.set_ hiE q).set_ (by rw [List.length_set]; exact hjE) p, ((hbi.setCell (by show w.heap.size ≤ g; omega) _).setCell (by show w.heap.size ≤ g; omega) _).drew, turned_step hT.out (by rw [← HN.out]; omega) hij p q Hx.out.1 Hx.out.2.1⟩
            · have hrev := turned_end hT.out (by rw [← HN.out]; omega)
              have hstr := run_str (c := c') HEn.out.symm hmi.reads
              have Hrev := Lib.hid hrev
              have hii : (n' : Int) - 1 - (i : Int) ≤ (i : Int) := by omega
              clear hrev hgo
              go_wp2_with fail
              go_ret
              exact ⟨by rw [hres.out, ← Hrev.out]; rfl, hbi⟩
        · have hD45 := Lib.hid (show txt x = (dl m L ++ [45]).reverse by rw [Ht.out, List.reverse_append, Hdec.out.1]; rfl)
          have hw45 : (45 : Int) = (((45 : UInt8).toNat : Nat) : Int) := rfl
          have Hw45 := Lib.hid hw45
          have Hle := Lib.hid (show (dl m L).length ≤ 140737488355327 by have := Hdec.out.2.2; omega)
          clear hw45
          go_wp2_with (at_builtin; refine wpB_push rfl (.tmp 53) (.tmp 54) rfl w.heap.size _ (dl m L) hown rfl (y := 45) Hw45.out rfl Hle.out hgle ?_; intro A3 n3 c3 w3 ho3 hkeep _; have hNl := (push_len ho3 Hdec.out.2.2).1; have hNp := (push_len ho3 Hdec.out.2.2).2; have Hk3 := Lib.hid (And.intro ho3 (hkeep w hbel)); clear ho3 hkeep)
          obtain ⟨D, hD⟩ : ∃ D, D = dl m L ++ [45] := ⟨_, rfl⟩
          have hown3 := Hk3.out.1
          rw [← hD] at hown3 hD45
          have hres := Lib.hid (show txt x = D.reverse from hD45.out)
          have hDl : D.length = (dl m L).length + 1 := by rw [hD, List.length_append]; rfl
          obtain ⟨g, S, rfl, hN, hgB, hmid, hNc⟩ := own_blk hown3 (by rw [hDl]; omega)
          have HN := Lib.hid hN
          have hbel3 := Hk3.out.2
          clear hD hown3 hN hDl
          go_loopg [7, 8] n3 (fun k iq kq wi => ∃ (i : Nat) (E : List UInt8), iq = .int .i64 (i : Int) ∧ kq = .int .i64 ((n3 : Int) - 1 - (i : Int)) ∧ k + i = n3 ∧ 2 * i ≤ n3 ∧ BMid wi g E S ∧ Below w.heap.size w wi ∧ Hid (Turned D E i))
          case atStart => exact ⟨0, D, rfl, by congr 1; omega, by omega, by omega, hmid, hbel3, turned_start D⟩
          case round =>
            obtain ⟨i, E, rfl, rfl, hki, hi2, hmi, hbi, hT⟩ := hrel
            have Hki := Lib.hid hki
            have hEl := hT.out.1
            have hEn : E.length = n3 := by rw [hEl, HN.out]
            have HEn := Lib.hid hEn
            clear hki hEl hEn
            by_cases hgo : 2 * i + 1 < n3
            · obtain ⟨j, hj⟩ : ∃ j, n3 = i + 1 + j := ⟨n3 - 1 - i, by omega⟩
              have hij : i < j := by omega
              have hiE : i < E.length := by rw [HEn.out]; omega
              have hjE : j < E.length := by rw [HEn.out]; omega
              have c1 := hmi.cell hiE
              have c2 := hmi.cell hjE
              have f1 := Blk.frozen hmi i
              have f2 := Blk.frozen hmi j
              have ex := List.getElem?_eq_getElem hiE
              have ey := List.getElem?_eq_getElem hjE
              generalize E[i] = p at *
              generalize E[j] = q at *
              have hp := UInt8.toNat_lt p
              have hq := UInt8.toNat_lt q
              have Hx := Lib.hid (And.intro ex (And.intro ey hj))
              rw [show (n3 : Int) - 1 - (i : Int) = (j : Int) by omega]
              have hii : (i : Int) < (j : Int) := by omega
              have hin : (i : Int) < (n3 : Int) := by omega
              have hjn : (j : Int) < (n3 : Int) := by omega
              clear ex ey hj hi2 hgo
              go_wp2_with fail
              refine wp_region_noPanic ?_
              refine wp_region_HK (fun w' => w'.cell? ⟨g, i, none⟩ = some (.int .u8 (p.toNat : Int)) ∧ w'.cell? ⟨g, j, none⟩ = some (.int .u8 (q.toNat : Int))) 13 (by kernel_rfl) ⟨c1, c2⟩ (fun hHeld => ?_)
              refine wpHK_pure (i := 0) (oi := Oper.mk (some 66) _ _ _ _ _) (v := ?_) rfl (by kernel_rfl) (by kernel_rfl) (by kernel_rfl) (fun _ _ _ h => h) (Or.inl ⟨by rfl, ?_⟩) ?_
              rotate_left
              · (intro w' _; go_simp; try with_reducible rfl)
              try simp only [Act.put, List.setIfInBounds_toArray, List.set_cons_zero, List.set_cons_succ]
              refine wpHK_pure (i := 1) (oi := Oper.mk (some 67) _ _ _ _ _) (v := ?_) rfl (by kernel_rfl) (by kernel_rfl) (by kernel_rfl) (fun _ _ _ h => h) (Or.inl ⟨by rfl, ?_⟩) ?_
              rotate_left
              · (intro w' _; go_simp; try with_reducible rfl)
              try simp only [Act.put, List.setIfInBounds_toArray, List.set_cons_zero, List.set_cons_succ]
              refine wpHK_pure (i := 2) (oi := Oper.mk (some 68) _ _ _ _ _) (v := ?_) rfl (by kernel_rfl) (by kernel_rfl) (by kernel_rfl) (fun _ _ _ h => h) (Or.inl ⟨by rfl, ?_⟩) ?_
              rotate_left
              · (intro w' _; go_simp; try with_reducible rfl)
              try simp only [Act.put, List.setIfInBounds_toArray, List.set_cons_zero, List.set_cons_succ]
              refine wpHK_pure (i := 3) (oi := Oper.mk (some 69) _ _ _ _ _) (v := ?_) rfl (by kernel_rfl) (by kernel_rfl) (by kernel_rfl) (fun _ _ _ h => h) (Or.inl ⟨by rfl, ?_⟩) ?_
              rotate_left
              · (intro w' _; go_simp; try with_reducible rfl)
              try simp only [Act.put, List.setIfInBounds_toArray, List.set_cons_zero, List.set_cons_succ]
              refine wpHK_pure (i := 4) (oi := Oper.mk (some 70) _ _ _ _ _) (v := ?_) rfl (by kernel_rfl) (by kernel_rfl) (by kernel_rfl) (fun _ _ _ h => h) (Or.inl ⟨by rfl, ?_⟩) ?_
              rotate_left
              · (intro w' _; go_simp; try with_reducible rfl)
              try simp only [Act.put, List.setIfInBounds_toArray, List.set_cons_zero, List.set_cons_succ]
              refine wpHK_pure (i := 5) (oi := Oper.mk (some 71) _ _ _ _ _) (v := ?_) rfl (by kernel_rfl) (by kernel_rfl) (by kernel_rfl) (fun _ _ _ h => h) (Or.inl ⟨by rfl, ?_⟩) ?_
              rotate_left
              · (intro w' _; go_simp; try with_reducible rfl)
              try simp only [Act.put, List.setIfInBounds_toArray, List.set_cons_zero, List.set_cons_succ]
              refine wpHK_pure (i := 6) (oi := Oper.mk (some 72) _ _ _ _ _) (v := ?_) rfl (by kernel_rfl) (by kernel_rfl) (by kernel_rfl) (fun _ _ _ h => h) (Or.inl ⟨by rfl, ?_⟩) ?_
              rotate_left
              · (intro w' _; go_simp; try with_reducible rfl)
              try simp only [Act.put, List.setIfInBounds_toArray, List.set_cons_zero, List.set_cons_succ]
              refine wpHK_pure (i := 8) (oi := Oper.mk (some 74) _ _ _ _ _) (v := ?_) rfl (by kernel_rfl) (by kernel_rfl) (by kernel_rfl) (fun _ _ _ h => h) (Or.inl ⟨by rfl, ?_⟩) ?_
              rotate_left
              · (intro w' _; go_simp; try with_reducible rfl)
              try simp only [Act.put, List.setIfInBounds_toArray, List.set_cons_zero, List.set_cons_succ]
              refine wpHK_pure (i := 9) (oi := Oper.mk (some 75) _ _ _ _ _) (v := ?_) rfl (by kernel_rfl) (by kernel_rfl) (by kernel_rfl) (fun _ _ _ h => h) (Or.inl ⟨by rfl, ?_⟩) ?_
              rotate_left
              · (intro w' _; go_simp; try with_reducible rfl)
              try simp only [Act.put, List.setIfInBounds_toArray, List.set_cons_zero, List.set_cons_succ]
              refine wpHK_pure (i := 10) (oi := Oper.mk (some 76) _ _ _ _ _) (v := ?_) rfl (by kernel_rfl) (by kernel_rfl) (by kernel_rfl) (fun _ _ _ h => h) (Or.inl ⟨by rfl, ?_⟩) ?_
              rotate_left
              · (intro w' _; go_simp; try with_reducible rfl)
              try simp only [Act.put, List.setIfInBounds_toArray, List.set_cons_zero, List.set_cons_succ]
              refine wpHK_take (i := 7) (oi := Oper.mk (some 73) _ _ _ _ _) (v := ?_) rfl (by kernel_rfl) (by kernel_rfl) (by kernel_rfl) (by kernel_rfl) (fun _ _ _ h => h) (Or.inl ⟨by rfl, ?_⟩) (by assumption) ?_
              rotate_left
              · (intro w' hSw; (try dsimp only at hSw); (obtain ⟨s1, s2⟩ := hSw); go_simp; try with_reducible rfl)
              try simp only [Act.put, List.setIfInBounds_toArray, List.set_cons_zero, List.set_cons_succ]
              refine wpHK_take (i := 11) (oi := Oper.mk (some 77) _ _ _ _ _) (v := ?_) rfl (by kernel_rfl) (by kernel_rfl) (by kernel_rfl) (by kernel_rfl) (fun _ _ _ h => h) (Or.inl ⟨by rfl, ?_⟩) (by assumption) ?_
              rotate_left
              · (intro w' hSw; (try dsimp only at hSw); (obtain ⟨s1, s2⟩ := hSw); go_simp; try with_reducible rfl)
              try simp only [Act.put, List.setIfInBounds_toArray, List.set_cons_zero, List.set_cons_succ]
              refine wpHK_pure (i := 12) (oi := Oper.mk (some 78) _ _ _ _ _) (v := ?_) rfl (by kernel_rfl) (by kernel_rfl) (by kernel_rfl) (fun _ _ _ h => h) (Or.inl ⟨by rfl, ?_⟩) ?_
              rotate_left
              · (intro w' _; go_simp; try with_reducible rfl)
              try simp only [Act.put, List.setIfInBounds_toArray, List.set_cons_zero, List.set_cons_succ]
              refine wpHK_tail (j := 13) (o := Oper.mk (none) _ _ _ _ _) rfl (by kernel_rfl) (by decide) (fun K hK => ?_)
              go_simp
              refine hK.out _ _ ?_
              clear hK K
              try simp only [Act.put, List.setIfInBounds_toArray, List.set_cons_zero, List.set_cons_succ]
              refine wpHK_pure (i := 14) (oi := Oper.mk (some 79) _ _ _ _ _) (v := ?_) rfl (by kernel_rfl) (by kernel_rfl) (by kernel_rfl) (fun _ _ _ h => h) (Or.inl ⟨by rfl, ?_⟩) ?_
              rotate_left
              · (intro w' _; go_simp; try with_reducible rfl)
              try simp only [Act.put, List.setIfInBounds_toArray, List.set_cons_zero, List.set_cons_succ]
              refine wpHK_tail (j := 15) (o := Oper.mk (none) _ _ _ _ _) rfl (by kernel_rfl) (by decide) (fun K hK => ?_)
              go_simp
              refine hK.out _ _ ?_
              clear hK K
              try simp only [Act.put, List.setIfInBounds_toArray, List.set_cons_zero, List.set_cons_succ]
              refine wpHK_done (by kernel_rfl) ?_ _
              refine NoPanic.normal ?_
              go_wp2_with fail
              go_roundg (n3 - (i + 1))
              case measure => have := Hki.out; omega
              case rel =>
                have h5 := Hx.out.2.2
                exact ⟨i + 1, (E.set i q).set j p, rfl, by congr 1; omega, by omega, by omega, (hmi.set_ hiE q).set_ (by rw [List.length_set]; exact hjE) p, ((hbi.setCell (by show w.heap.size ≤ g; omega) _).setCell (by show w.heap.size ≤ g; omega) _).drew, turned_step hT.out (by rw [← HN.out]; omega) hij p q Hx.out.1 Hx.out.2.1⟩
            · have hrev := turned_end hT.out (by rw [← HN.out]; omega)
              have hstr := run_str (c := c3) HEn.out.symm hmi.reads
              have Hrev := Lib.hid hrev
              have hii : (n3 : Int) - 1 - (i : Int) ≤ (i : Int) := by omega
              clear hrev hgo
              go_wp2_with fail
              go_ret
              exact ⟨by rw [hres.out, ← Hrev.out]; rfl, hbi⟩
end Go.Proofs.YtebpggfccljagaaGreatDoor

/- whole.Check. -/
namespace Go.Proofs.YtebpggfccljagaaGreatDoor
open Go.RowKit
open Wh
set_option linter.unusedSimpArgs false

/-- a number that may be -/
def MayL (neg : Bool) (l : List UInt8) : Prop := l.length ≤ 16384 ∧ (l = [] → neg = false) ∧ Formed l
theorem toL (s : ByteArray) : s.toList = s.data.toList := ByteArray.toList_eq s
def Told (w : World) (v : Value) (e : Ending) (w' : World) : Prop := e = .returned v ∧ Below w.heap.size w w'
theorem str_facts {s : ByteArray} (h : 0 < s.size) : s.toList.isEmpty = false ∧ ¬ s.toList = [] := by
  have hl : s.data.toList.length = s.size := Array.length_toList
  rw [toL]
  constructor
  · rw [List.isEmpty_eq_false_iff]; intro h0; rw [h0] at hl; simp at hl; omega
  · intro h0; rw [h0] at hl; simp at hl; omega
theorem str_empty {s : ByteArray} (h : s.data.toList = []) : s = ⟨#[]⟩ := by
  have h1 : s.data = #[] := by simpa using h
  cases s; simp_all
theorem str_head {s : ByteArray} (h : 0 < s.size) : s.data.toList.head? = some s[0] := by
  have hl : s.data.toList.length = s.size := Array.length_toList
  rw [List.head?_eq_getElem?, List.getElem?_eq_getElem (by omega)]
  rfl
set_option maxRecDepth 100000 in
set_option maxHeartbeats 1000000 in
theorem check_ok {w : World} {neg : Bool} {s : ByteArray} (h : MayL neg s.data.toList) :
    Calls Tryz.prog 116 #[.agg #[.bool neg, .string s]] w (Told w (.int .i64 0)) := by
  obtain ⟨h1, h2, h3⟩ := h
  have hl : s.data.toList.length = s.size := Array.length_toList
  rcases Nat.eq_zero_or_pos s.size with h0 | h0
  · have he : s.data.toList = [] := List.eq_nil_of_length_eq_zero (by omega)
    obtain rfl := str_empty he
    obtain rfl := h2 he
    clear h1 h2 h3 hl h0 he
    go_enter Tryz.func116, Tryz.ntmps116
    go_wp2
    go_ret
    exact ⟨rfl, (Below.refl _ _).alloc (Nat.le_refl _) _⟩
  · obtain ⟨e1, e2⟩ := str_facts h0
    have hi0 : (0 : Int) < (s.size : Int) := by omega
    have hi1 : (s.size : Int) ≤ 16384 := by omega
    have hne : ¬ s[0].toNat = 0 := fun hh => h3 s[0] (str_head h0) (by rw [← UInt8.toNat_inj]; exact hh)
    have hb0 : ((s[0].toNat : Int) == 0) = false := by simp; omega
    have hd : decide ((16384 : Int) < (s.size : Int)) = false := by simp; omega
    clear h1 h2 h3 hl
    go_enter Tryz.func116, Tryz.ntmps116
    go_wp2
    go_ret
    exact ⟨rfl, (Below.refl _ _).alloc (Nat.le_refl _) _⟩
set_option maxRecDepth 100000 in
set_option maxHeartbeats 1000000 in
theorem check_no {w : World} {neg : Bool} {s : ByteArray} (h : ¬ MayL neg s.data.toList) :
    Calls Tryz.prog 116 #[.agg #[.bool neg, .string s]] w (Told w (.int .i64 2)) := by
  have hl : s.data.toList.length = s.size := Array.length_toList
  rcases Nat.eq_zero_or_pos s.size with h0 | h0
  · have he : s.data.toList = [] := List.eq_nil_of_length_eq_zero (by omega)
    have hn : neg = true := by
      cases neg with
      | true => rfl
      | false => exact absurd ⟨by omega, fun _ => rfl, by rw [he]; intro x hx; cases hx⟩ h
    obtain rfl := str_empty he
    subst hn
    clear h hl h0 he
    go_enter Tryz.func116, Tryz.ntmps116
    go_wp2
    go_ret
    exact ⟨rfl, (Below.refl _ _).alloc (Nat.le_refl _) _⟩
  · obtain ⟨e1, e2⟩ := str_facts h0
    have hi0 : (0 : Int) < (s.size : Int) := by omega
    by_cases hz : s[0].toNat = 0
    · have hb0 : ((s[0].toNat : Int) == 0) = true := by simp; omega
      clear h hl
      go_enter Tryz.func116, Tryz.ntmps116
      go_wp2
      go_ret
      exact ⟨rfl, (Below.refl _ _).alloc (Nat.le_refl _) _⟩
    · have hb0 : ((s[0].toNat : Int) == 0) = false := by simp; omega
      have hbig : 16384 < s.size := by
        rcases Nat.lt_or_ge 16384 s.size with h5 | h5
        · exact h5
        · refine absurd ⟨by omega, fun h6 => ?_, fun x hx => ?_⟩ h
          · rw [h6] at hl; simp at hl; omega
          · rw [str_head h0] at hx
            injection hx with hx
            rw [← hx]
            intro h7
            rw [h7] at hz
            exact hz rfl
      have hd : decide ((16384 : Int) < (s.size : Int)) = true := by simp; omega
      have hi1 : (16384 : Int) < (s.size : Int) := by omega
      clear h hl
      go_enter Tryz.func116, Tryz.ntmps116
      go_wp2
      go_ret
      exact ⟨rfl, (Below.refl _ _).alloc (Nat.le_refl _) _⟩
end Go.Proofs.YtebpggfccljagaaGreatDoor
