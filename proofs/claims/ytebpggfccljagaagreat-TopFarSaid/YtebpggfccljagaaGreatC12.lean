import Derived.Test.YtebpggfccljagaaGreatC11
import Derived.Test.YtebpggfccljagaaGreatC10
import Derived.Test.YtebpggfccljagaaGreatC7
import Derived.Test.YtebpggfccljagaaGreatRows
import Derived.Test.YtebpggfccljagaaGreatC1
import Derived.WalkKit
import Derived.ProofKit
import Derived.OpenShut
import Derived.Carry
import Derived.JoinedCond
import Derived.ChangeSlices
namespace Go.Proofs.YtebpggfccljagaaGreat
open Go Go.RowKit
open Wh
set_option linter.unusedSimpArgs false
theorem fv_half : Fv true ⟨#[1]⟩ false ⟨#[2]⟩ (Rat.divInt (-1) 2) 8 := ⟨by rw [show (Rat.divInt (-1) 2).num = -1 by decide +kernel]; exact pw_neg, by rw [show (((Rat.divInt (-1) 2).den : Nat) : Int) = 2 by decide +kernel]; exact pw_two, ⟨by decide +kernel, by decide +kernel⟩, by decide, by decide⟩
def cx0 : Cx := ⟨((0 : Int) : Rat), ((0 : Int) : Rat)⟩
def cx2i : Cx := ⟨((0 : Int) : Rat), ((2 : Int) : Rat)⟩
def cxh : Cx := ⟨((0 : Int) : Rat), Rat.divInt (-1) 2⟩
def turnM : Mx := Mx.norm ⟨cx0, cx1, cx1, cx0, false⟩
theorem turn_send : turnM.send cx2i = some cxh := by
 have h0 : ¬ (turnM.low cx2i).Zero := by decide +kernel
 rw [Mx.send, if_neg h0]
 exact congrArg some (cx_ext ⟨by decide +kernel, by decide +kernel⟩)
theorem turn_form : turnM.Formed := .inl (cx_ext ⟨by decide +kernel, by decide +kernel⟩)
theorem pt_half {v : Value} {n : Nat} (h : IsPt cxh n v) : v = (.agg #[.bool false, .bool false, .string ⟨#[]⟩, .bool false, .string ⟨#[1]⟩, .bool true, .string ⟨#[1]⟩, .bool false, .string ⟨#[2]⟩]) := by
 obtain ⟨b0, s0, b1, s1, b2, s2, b3, s3, rfl, h0, h1⟩ := h
 obtain ⟨rfl, rfl, rfl, rfl⟩ := h0.same fv_zero
 obtain ⟨rfl, rfl, rfl, rfl⟩ := h1.same fv_half
 rfl
theorem make_turn {w : World} : Calls Tryz.prog 23 #[(.agg #[.bool false, .string ⟨#[]⟩, .bool false, .string ⟨#[1]⟩, .bool false, .string ⟨#[]⟩, .bool false, .string ⟨#[1]⟩]), (.agg #[.bool false, .string ⟨#[1]⟩, .bool false, .string ⟨#[1]⟩, .bool false, .string ⟨#[]⟩, .bool false, .string ⟨#[1]⟩]), (.agg #[.bool false, .string ⟨#[1]⟩, .bool false, .string ⟨#[1]⟩, .bool false, .string ⟨#[]⟩, .bool false, .string ⟨#[1]⟩]), (.agg #[.bool false, .string ⟨#[]⟩, .bool false, .string ⟨#[1]⟩, .bool false, .string ⟨#[]⟩, .bool false, .string ⟨#[1]⟩]), .bool false] w (RetE w (fun v _ => IsMob turnM 66 v)) :=
 make_any (n := 8) (z0 := cx0) (z1 := cx1) (z2 := cx1) (z3 := cx0) ⟨_, _, _, _, _, _, _, _, rfl, fv_zero, fv_zero⟩ ⟨_, _, _, _, _, _, _, _, rfl, fv_one, fv_zero⟩ ⟨_, _, _, _, _, _, _, _, rfl, fv_one, fv_zero⟩ ⟨_, _, _, _, _, _, _, _, rfl, fv_zero, fv_zero⟩ (by decide +kernel) (by decide +kernel) (by decide)
theorem at_half {w : World} {v : Value} (h : IsMob turnM 66 v) : Calls Tryz.prog 18 #[v, (.agg #[.bool false, .bool false, .string ⟨#[]⟩, .bool false, .string ⟨#[1]⟩, .bool false, .string ⟨#[2]⟩, .bool false, .string ⟨#[1]⟩])] w (RetV w (.tuple #[(.agg #[.bool false, .bool false, .string ⟨#[]⟩, .bool false, .string ⟨#[1]⟩, .bool true, .string ⟨#[1]⟩, .bool false, .string ⟨#[2]⟩]), .int .i64 0])) := by
 refine (at_any (z := cx2i) (n := 66) h ⟨_, _, _, _, _, _, _, _, rfl, (show Fv false ⟨#[]⟩ false ⟨#[1]⟩ cx2i.re 66 from ⟨fv_zero.num, fv_zero.den, fv_zero.sz.up (by decide), fv_zero.l0, fv_zero.l1⟩), (show Fv false ⟨#[2]⟩ false ⟨#[1]⟩ cx2i.im 66 from ⟨fv_two.num, fv_two.den, fv_two.sz.up (by decide), fv_two.l0, fv_two.l1⟩)⟩ (by decide +kernel) turn_form turn_send (by decide)).mono ?_
 rintro e w' ⟨v, rfl, hv, hb⟩
 rw [pt_half hv]
 exact ⟨rfl, hb⟩
def PtZ (w : World) (g : Nat) : Prop := Blk w g 56 #[.bool false, .bool false, .string ⟨#[]⟩, .bool false, .string ⟨#[]⟩, .bool false, .string ⟨#[]⟩, .bool false, .string ⟨#[]⟩]
theorem ptZ_vgs : Vgs PtZ where
 lt := fun h => Blk.lt h
 below := fun h hb => Blk.below h hb (Blk.lt h)
 off := fun h hne hg => Blk.grown h hg (by intro e; injection e with e; exact hne e)
theorem isBlk_steadyV (V : World → Nat → Prop) (t : TypeId) (cs : Array Value) : Steady V true (IsBlk t cs) where
 below := by
  rintro v w w' ⟨g, rfl, h⟩ hb
  exact ⟨g, rfl, h.below hb h.lt⟩
 off := by
  rintro v w w' r ⟨g, rfl, h⟩ _ hne hg
  exact ⟨g, rfl, h.grown hg (by intro e; injection e with e; exact hne rfl (by rw [e]))⟩
set_option maxRecDepth 100000 in
set_option maxHeartbeats 16000000 in
theorem alive_any {w : World} : Calls Tryz.prog 7 #[] w (RetV w (.bool true)) := by
 have h := St.start w
 go_enter Tryz.func7, Tryz.ntmps7
 go_wp2_with fail
 refine (tnum_any (fun _ => part_zero) (fun _ => part_zero)).mono ?_
 rintro _ w1 ⟨rfl, hb⟩
 replace h := h.call hb
 clear hb
 go_wp2_with fail
 refine (tnum_any (fun _ => part_one) (fun _ => part_zero)).mono ?_
 rintro _ w2 ⟨rfl, hb⟩
 replace h := h.call hb
 clear hb
 go_wp2_with fail
 refine (tnum_any (fun _ => part_one) (fun _ => part_zero)).mono ?_
 rintro _ w3 ⟨rfl, hb⟩
 replace h := h.call hb
 clear hb
 go_wp2_with fail
 refine (tnum_any (fun _ => part_zero) (fun _ => part_zero)).mono ?_
 rintro _ w4 ⟨rfl, hb⟩
 replace h := h.call hb
 clear hb
 go_wp2_with fail
 refine make_turn.mono ?_
 rintro _ w5 ⟨_, rfl, hm, hb⟩
 have HM := Lib.hid hm
 obtain ⟨b0, s0, b1, s1, b2, s2, b3, s3, b4, s4, b5, s5, b6, s6, b7, s7, b8, s8, b9, s9, b10, s10, b11, s11, b12, s12, b13, s13, b14, s14, b15, s15, rfl, _⟩ := hm
 replace h := h.call hb
 clear hb
 obtain ⟨tn, htn⟩ : ∃ tn, tn = turnM.turns := ⟨_, rfl⟩
 rw [← htn] at HM ⊢
 clear htn
 go_wp2_with (replace h := h.new 29 #[.bool false, .string ⟨#[]⟩, .bool false, .string ⟨#[]⟩, .bool false, .string ⟨#[]⟩, .bool false, .string ⟨#[]⟩, .bool false, .string ⟨#[]⟩, .bool false, .string ⟨#[]⟩, .bool false, .string ⟨#[]⟩, .bool false, .string ⟨#[]⟩, .bool false, .string ⟨#[]⟩, .bool false, .string ⟨#[]⟩, .bool false, .string ⟨#[]⟩, .bool false, .string ⟨#[]⟩, .bool false, .string ⟨#[]⟩, .bool false, .string ⟨#[]⟩, .bool false, .string ⟨#[]⟩, .bool false, .string ⟨#[]⟩, .bool false]; refine wpList_store_all (by rfl) 29 (.tmp 1) (.tmp 14) (by rfl) #[.bool b0, .string s0, .bool b1, .string s1, .bool b2, .string s2, .bool b3, .string s3, .bool b4, .string s4, .bool b5, .string s5, .bool b6, .string s6, .bool b7, .string s7, .bool b8, .string s8, .bool b9, .string s9, .bool b10, .string s10, .bool b11, .string s11, .bool b12, .string s12, .bool b13, .string s13, .bool b14, .string s14, .bool b15, .string s15, .bool tn] (by rfl) (by rfl) (h.get 0 rfl) (by simp) (by kernel_rfl) (by simp [Value.oneCell', ptr]) ?_; intro V1 k9 hg9; replace h := h.put 0 rfl ⟨by decide, by simp⟩ k9 hg9; simp only [List.set_cons_succ, List.set_cons_zero] at h; clear k9 hg9)
 have k0 := h.get 0 rfl
 generalize hgm : w5.heap.size = gm at *
 clear hgm
 refine wp_region_noPanic ?_
 refine wp_region_list2 (mk := ?mk) ptZ_vgs [Is (.agg #[(.bool b0), (.string s0), (.bool b1), (.string s1), (.bool b2), (.string s2), (.bool b3), (.string s3), (.bool b4), (.string s4), (.bool b5), (.string s5), (.bool b6), (.string s6), (.bool b7), (.string s7), (.bool b8), (.string s8), (.bool b9), (.string s9), (.bool b10), (.string s10), (.bool b11), (.string s11), (.bool b12), (.string s12), (.bool b13), (.string s13), (.bool b14), (.string s14), (.bool b15), (.string s15), (.bool tn)]), Is (.agg #[(.bool false), (.string ⟨#[]⟩), (.bool false), (.string ⟨#[1]⟩), (.bool false), (.string ⟨#[2]⟩), (.bool false), (.string ⟨#[1]⟩)]), Is (.agg #[(.bool false), (.bool false), (.string ⟨#[]⟩), (.bool false), (.string ⟨#[1]⟩), (.bool false), (.string ⟨#[2]⟩), (.bool false), (.string ⟨#[1]⟩)]), Is (.tuple #[(.agg #[.bool false, .bool false, .string ⟨#[]⟩, .bool false, .string ⟨#[1]⟩, .bool true, .string ⟨#[1]⟩, .bool false, .string ⟨#[2]⟩]), (.int .i64 0)]), Is (.tuple #[(.agg #[.bool false, .bool false, .string ⟨#[]⟩, .bool false, .string ⟨#[1]⟩, .bool true, .string ⟨#[1]⟩, .bool false, .string ⟨#[2]⟩]), (.int .i64 0)]), Is (.agg #[(.bool false), (.bool false), (.string ⟨#[]⟩), (.bool false), (.string ⟨#[1]⟩), (.bool true), (.string ⟨#[1]⟩), (.bool false), (.string ⟨#[2]⟩)]), Is (.int .i64 0), Is undef, IsBlk 56 #[.bool false, .bool false, .string ⟨#[]⟩, .bool false, .string ⟨#[1]⟩, .bool true, .string ⟨#[1]⟩, .bool false, .string ⟨#[2]⟩]] [.plain, .plain, .plain, .plain, .plain, .plain, .plain, .fresh, .fills 7] 9 1 (fun w' => Blk w' gm 29 #[.bool b0, .string s0, .bool b1, .string s1, .bool b2, .string s2, .bool b3, .string s3, .bool b4, .string s4, .bool b5, .string s5, .bool b6, .string s6, .bool b7, .string s7, .bool b8, .string s8, .bool b9, .string s9, .bool b10, .string s10, .bool b11, .string s11, .bool b12, .string s12, .bool b13, .string s13, .bool b14, .string s14, .bool b15, .string s15, .bool tn] ∧ True) ⟨is_steady _ _ _, is_steady _ _ _, is_steady _ _ _, is_steady _ _ _, is_steady _ _ _, is_steady _ _ _, is_steady _ _ _, is_steady _ _ _, isBlk_steadyV _ _ _, trivial⟩ (by kernel_rfl) (by kernel_rfl) (by kernel_rfl) (by kernel_rfl) (by kernel_rfl) (by kernel_rfl) ?hmk (fun w' hB => ⟨k0.below hB k0.lt, trivial⟩)
  (steps_all (steps_cons ?_ (steps_cons ?_ (steps_cons ?_ (steps_cons ?_ (steps_cons ?_ (steps_cons ?_ (steps_cons ?_ (steps_cons ?_ (steps_cons ?_ steps_nil)))))))))) ?_
 case hmk =>
  intro u
  simp only [mkFrom, mkL, dstOf, List.range, List.range.loop, Act.put, List.setIfInBounds_toArray, List.set_cons_zero, List.set_cons_succ, List.getElem?_toArray, List.getElem?_cons_zero, List.getElem?_cons_succ, Option.bind_some]
  rfl
 ·refine step_is (o := Oper.mk (some 17) _ _ _ _ _) rfl rfl rfl rfl (fun u ws hc hd => ?_)
  obtain ⟨k0, _⟩ := hc
  exact run_load_all 29 (.tmp 1) rfl gm rfl _ k0 Tryz.underlying29 rfl (by kernel_rfl)
 ·refine step_call (o := Oper.mk (some 18) _ _ _ _ _) rfl rfl rfl (fun u ws hc hd => ?_)
  obtain ⟨k0, _⟩ := hc
  have HC := Lib.hid (tnum_any (w := ws) (fun _ => part_zero) (fun _ => part_two))
  refine ⟨24, _, ?_, HC.out.mono ?_⟩
  ·clear HC; go_simp
  ·rintro _ w9 ⟨rfl, hb⟩
   exact ⟨_, rfl, rfl, hb⟩
 ·refine step_is (o := Oper.mk (some 19) _ _ _ _ _) rfl rfl rfl rfl (fun u ws hc hd => ?_)
  have d1 : u 1 = _ := hd 1 (by kernel_rfl) (by decide)
  go_simp
 ·refine step_call (o := Oper.mk (some 20) _ _ _ _ _) rfl rfl rfl (fun u ws hc hd => ?_)
  obtain ⟨k0, _⟩ := hc
  have d0 : u 0 = _ := hd 0 (by kernel_rfl) (by decide)
  have d2 : u 2 = _ := hd 2 (by kernel_rfl) (by decide)
  have HC := Lib.hid (at_half (w := ws) HM.out)
  refine ⟨18, _, ?_, HC.out.mono ?_⟩
  ·clear HC; go_simp
  ·rintro _ w9 ⟨rfl, hb⟩
   exact ⟨_, rfl, rfl, hb⟩
 ·refine step_is (o := Oper.mk (some 16) _ _ _ _ _) rfl rfl rfl rfl (fun u ws hc hd => ?_)
  have d3 : u 3 = _ := hd 3 (by kernel_rfl) (by decide)
  go_simp
 ·refine step_is (o := Oper.mk (some 21) _ _ _ _ _) rfl rfl rfl rfl (fun u ws hc hd => ?_)
  have d4 : u 4 = _ := hd 4 (by kernel_rfl) (by decide)
  go_simp
 ·refine step_is (o := Oper.mk (some 22) _ _ _ _ _) rfl rfl rfl rfl (fun u ws hc hd => ?_)
  have d4 : u 4 = _ := hd 4 (by kernel_rfl) (by decide)
  go_simp
 ·refine step_new (o := Oper.mk (some 3) _ _ _ _ _) rfl rfl rfl (fun u ws hc => ⟨.cells #[.bool false, .bool false, .string ⟨#[]⟩, .bool false, .string ⟨#[]⟩, .bool false, .string ⟨#[]⟩, .bool false, .string ⟨#[]⟩] 56, ?_, Blk.new ws 56 _⟩)
  go_simp
 ·refine step_store (a := 7) (o := Oper.mk none _ _ _ _ _) rfl rfl rfl rfl (fun u ws g1 hc hd h0 hlo hv K hK => ?_)
  have d5 : u 5 = _ := hd 5 (by kernel_rfl) (by decide)
  refine wp_store_blk 56 (.tmp 3) (.tmp 21) rfl #[.bool false, .bool false, .string ⟨#[]⟩, .bool false, .string ⟨#[1]⟩, .bool true, .string ⟨#[1]⟩, .bool false, .string ⟨#[2]⟩] h0 d5 hv (by simp) (by kernel_rfl) (by simp [Value.oneCell', ptr]) (fun w9 k9 hg9 => ?_)
  exact hK w9 ⟨g1, rfl, k9⟩ hg9
 ·intro u w6 hb1 hf hn1 hap hfl hlo
  obtain ⟨gp, e8, kp⟩ : IsBlk _ _ (u 8) w6 := hf 8 (by decide) (by decide)
  have f6 : u 6 = _ := hf 6 (by decide) (by decide)
  have n8 := hfl 8 (by decide) 7 rfl
  rw [e8] at n8
  have hgp := hlo 7 (by decide) rfl gp n8.symm
  have hlt := h.lts
  have hbs := h.bel.size
  replace h := (h.call hb1).more kp (Nat.le_trans hbs hgp) (fun x hx => by have := hlt x hx; omega)
  refine wpAny_tail (j := 9) (o := Oper.mk (some 4) _ _ _ _ _) rfl (by kernel_rfl) (fun K hK => ?_)
  rw [f6]
  go_simp
  refine hK.out _ _ ?_
  rw [← n8]
  clear hK K hf hn1 hap hfl hlo e8 n8 f6 k0 HM hgp hlt hbs hb1 kp
  refine wpAny_end (by kernel_rfl) ?_
  refine NoPanic.normal ?_
  go_wp2_with fail
  refine (tnum_any (fun _ => part_one) (fun _ => part_zero)).mono ?_
  rintro _ w7 ⟨rfl, hb⟩
  replace h := h.call hb
  clear hb
  go_wp2_with fail
  refine (tnum_any (fun _ => part_zero) (fun _ => part_one)).mono ?_
  rintro _ w8 ⟨rfl, hb⟩
  replace h := h.call hb
  clear hb
  go_wp2_with fail
  refine (tnum_any (fun _ => part_neg) (fun _ => part_zero)).mono ?_
  rintro _ w9 ⟨rfl, hb⟩
  replace h := h.call hb
  clear hb
  go_wp2_with fail
  refine through_unit.mono ?_
  rintro _ w10 ⟨_, rfl, rfl, hb⟩
  replace h := h.call hb
  clear hb
  go_wp2_with (replace h := h.new 68 #[.bool false, .string ⟨#[]⟩, .bool false, .string ⟨#[]⟩, .bool false, .string ⟨#[]⟩, .bool false, .string ⟨#[]⟩, .bool false, .string ⟨#[]⟩, .bool false, .string ⟨#[]⟩, .bool false, .string ⟨#[]⟩, .bool false, .string ⟨#[]⟩]; refine wpList_store_all (by rfl) 68 (.tmp 5) (.tmp 31) (by rfl) #[.bool false, .string ⟨#[1]⟩, .bool false, .string ⟨#[1]⟩, .bool false, .string ⟨#[]⟩, .bool false, .string ⟨#[1]⟩, .bool false, .string ⟨#[]⟩, .bool false, .string ⟨#[1]⟩, .bool true, .string ⟨#[1]⟩, .bool false, .string ⟨#[1]⟩] (by rfl) (by rfl) (h.get 0 rfl) (by simp) (by kernel_rfl) (by simp [Value.oneCell', ptr]) ?_; intro V2 k9 hg9; replace h := h.put 0 rfl ⟨by decide, by simp⟩ k9 hg9; simp only [List.set_cons_succ, List.set_cons_zero] at h; clear k9 hg9)
  refine part_neg.mono ?_
  rintro _ w11 ⟨rfl, hb⟩
  replace h := h.call hb
  clear hb
  go_wp2_with (first | (replace h := h.new 25 #[.bool false, .string ⟨#[]⟩, .bool false, .string ⟨#[]⟩]; refine wpList_store_all (by rfl) 25 (.tmp 7) (.tmp 33) (by rfl) #[.bool true, .string ⟨#[1]⟩, .bool false, .string ⟨#[1]⟩] (by rfl) (by rfl) (h.get 0 rfl) (by simp) (by kernel_rfl) (by simp [Value.oneCell', ptr]) ?_; intro V3 k9 hg9; replace h := h.put 0 rfl ⟨by decide, by simp⟩ k9 hg9; simp only [List.set_cons_succ, List.set_cons_zero] at h; clear k9 hg9) | (refine wpList_store_part (by rfl) 23 (.tmp 35) (.tmp 34) (by rfl) _ 2 #[.bool false, .string ⟨#[2]⟩] (by rfl) (by rfl) _ _ #[.bool true, .string ⟨#[1]⟩, .bool false, .string ⟨#[2]⟩] (h.get 0 rfl) (by simp) (by rfl) (by kernel_rfl) (by simp [Value.oneCell', ptr]) ?_; intro V4 k9 hg9 hs9; clear hs9; replace h := h.put 0 rfl ⟨by decide, by simp⟩ k9 hg9; simp only [List.set_cons_succ, List.set_cons_zero] at h; clear k9 hg9))
  have k0 := h.get 2 rfl
  have k1 := h.get 1 rfl
  have k2 := h.get 0 rfl
  generalize hg1 : w10.heap.size = gc at h k0 k1 k2 ⊢
  generalize hg2 : w11.heap.size = gh at h k0 k1 k2 ⊢
  clear hg1 hg2
  refine wp_region_noPanic ?_
  refine wp_region_list (mk := ?mkb) noV_vgs [Is (.int .i64 0), Is (.bool true), Is (.bool true), Is (.int .i64 0), Is (.bool true), Is (.bool true), Is (.bool true), Is (.int .i64 0), Is (.bool true), Is (.bool true), Is (.bool true), Is (.agg #[(.bool false), (.bool false), (.string ⟨#[]⟩), (.bool false), (.string ⟨#[1]⟩), (.bool true), (.string ⟨#[1]⟩), (.bool false), (.string ⟨#[2]⟩)]), Is (.agg #[(.bool false), (.string ⟨#[]⟩), (.bool false), (.string ⟨#[1]⟩)]), Is (.agg #[(.bool true), (.string ⟨#[1]⟩), (.bool false), (.string ⟨#[2]⟩)]), Is (.agg #[(.bool false), (.string ⟨#[]⟩), (.bool false), (.string ⟨#[1]⟩), (.bool true), (.string ⟨#[1]⟩), (.bool false), (.string ⟨#[2]⟩)]), Is (.agg #[.bool false, (.bool false), (.string ⟨#[]⟩), (.bool false), (.string ⟨#[1]⟩), (.bool true), (.string ⟨#[1]⟩), (.bool false), (.string ⟨#[2]⟩)]), Is (.bool true), Is (.bool true), Is (.bool true), Is (.agg #[(.bool false), (.string ⟨#[1]⟩), (.bool false), (.string ⟨#[1]⟩), (.bool false), (.string ⟨#[]⟩), (.bool false), (.string ⟨#[1]⟩), (.bool false), (.string ⟨#[]⟩), (.bool false), (.string ⟨#[1]⟩), (.bool true), (.string ⟨#[1]⟩), (.bool false), (.string ⟨#[1]⟩)]), Is (.agg #[(.bool false), (.string ⟨#[1]⟩), (.bool false), (.string ⟨#[1]⟩)]), Is (.agg #[(.bool false), (.string ⟨#[]⟩), (.bool false), (.string ⟨#[1]⟩), (.bool false), (.string ⟨#[]⟩), (.bool false), (.string ⟨#[1]⟩)]), Is (.agg #[(.bool true), (.string ⟨#[1]⟩), (.bool false), (.string ⟨#[1]⟩)]), Is (.agg #[(.bool false), (.string ⟨#[1]⟩), (.bool false), (.string ⟨#[1]⟩), (.bool false), (.string ⟨#[]⟩), (.bool false), (.string ⟨#[1]⟩), (.bool false), (.string ⟨#[]⟩), (.bool false), (.string ⟨#[1]⟩), (.bool true), (.string ⟨#[1]⟩), (.bool false), (.string ⟨#[1]⟩)]), Is (.bool true), Is (.bool true)] [.plain, .plain, .plain, .plain, .plain, .plain, .plain, .plain, .plain, .plain, .plain, .plain, .plain, .plain, .plain, .plain, .plain, .plain, .plain, .plain, .plain, .plain, .plain, .plain, .plain, .plain] 26 1 (fun w' => Blk w' gp 56 #[.bool false, .bool false, .string ⟨#[]⟩, .bool false, .string ⟨#[1]⟩, .bool true, .string ⟨#[1]⟩, .bool false, .string ⟨#[2]⟩] ∧ Blk w' gc 68 #[.bool false, .string ⟨#[1]⟩, .bool false, .string ⟨#[1]⟩, .bool false, .string ⟨#[]⟩, .bool false, .string ⟨#[1]⟩, .bool false, .string ⟨#[]⟩, .bool false, .string ⟨#[1]⟩, .bool true, .string ⟨#[1]⟩, .bool false, .string ⟨#[1]⟩] ∧ Blk w' gh 25 #[.bool true, .string ⟨#[1]⟩, .bool false, .string ⟨#[2]⟩] ∧ True) ⟨is_steady _ _ _, is_steady _ _ _, is_steady _ _ _, is_steady _ _ _, is_steady _ _ _, is_steady _ _ _, is_steady _ _ _, is_steady _ _ _, is_steady _ _ _, is_steady _ _ _, is_steady _ _ _, is_steady _ _ _, is_steady _ _ _, is_steady _ _ _, is_steady _ _ _, is_steady _ _ _, is_steady _ _ _, is_steady _ _ _, is_steady _ _ _, is_steady _ _ _, is_steady _ _ _, is_steady _ _ _, is_steady _ _ _, is_steady _ _ _, is_steady _ _ _, is_steady _ _ _, trivial⟩ (by kernel_rfl) (by kernel_rfl) (by kernel_rfl) (by kernel_rfl) (by kernel_rfl) (by kernel_rfl) ?hmkb (fun w' hB => ⟨k0.below hB k0.lt, k1.below hB k1.lt, k2.below hB k2.lt, trivial⟩)
   (steps_all (steps_cons ?_ (steps_cons ?_ (steps_cons ?_ (steps_cons ?_ (steps_cons ?_ (steps_cons ?_ (steps_cons ?_ (steps_cons ?_ (steps_cons ?_ (steps_cons ?_ (steps_cons ?_ (steps_cons ?_ (steps_cons ?_ (steps_cons ?_ (steps_cons ?_ (steps_cons ?_ (steps_cons ?_ (steps_cons ?_ (steps_cons ?_ (steps_cons ?_ (steps_cons ?_ (steps_cons ?_ (steps_cons ?_ (steps_cons ?_ (steps_cons ?_ (steps_cons ?_ steps_nil))))))))))))))))))))))))))) ?_
  case hmkb =>
   intro u
   simp only [mkFrom, mkL, dstOf, List.range, List.range.loop, Act.put, List.setIfInBounds_toArray, List.set_cons_zero, List.set_cons_succ, List.getElem?_toArray, List.getElem?_cons_zero, List.getElem?_cons_succ, Option.bind_some]
   rfl
  ·refine step_is (o := Oper.mk (some 36) _ _ _ _ _) rfl rfl rfl rfl (fun u ws hc hd => ?_)
   go_simp
  ·refine step_is (o := Oper.mk (some 37) _ _ _ _ _) rfl rfl rfl rfl (fun u ws hc hd => ?_)
   have d0 : u 0 = _ := hd 0 (by kernel_rfl) (by decide)
   go_simp
  ·refine step_is (o := Oper.mk (some 38) _ _ _ _ _) rfl rfl rfl rfl (fun u ws hc hd => ?_)
   have d1 : u 1 = _ := hd 1 (by kernel_rfl) (by decide)
   go_simp
  ·refine step_isG (o := Oper.mk (some 39) _ _ _ _ _) rfl rfl rfl (by rfl) rfl (fun u ws hc hd => congrArg some (show u 2 = _ from hd 2 (by kernel_rfl) (by decide))) (fun u ws hc hd => ?_)
   go_simp
  ·refine step_isG (o := Oper.mk (some 40) _ _ _ _ _) rfl rfl rfl (by rfl) rfl (fun u ws hc hd => congrArg some (show u 2 = _ from hd 2 (by kernel_rfl) (by decide))) (fun u ws hc hd => ?_)
   have d3 : u 3 = _ := hd 3 (by kernel_rfl) (by decide)
   go_simp
  ·refine step_is (o := Oper.mk (some 41) _ _ _ _ _) rfl rfl rfl rfl (fun u ws hc hd => ?_)
   have d2 : u 2 = _ := hd 2 (by kernel_rfl) (by decide)
   have d4 : u 4 = _ := hd 4 (by kernel_rfl) (by decide)
   go_simp
  ·refine step_is (o := Oper.mk (some 42) _ _ _ _ _) rfl rfl rfl rfl (fun u ws hc hd => ?_)
   have d5 : u 5 = _ := hd 5 (by kernel_rfl) (by decide)
   go_simp
  ·refine step_isG (o := Oper.mk (some 43) _ _ _ _ _) rfl rfl rfl (by rfl) rfl (fun u ws hc hd => congrArg some (show u 6 = _ from hd 6 (by kernel_rfl) (by decide))) (fun u ws hc hd => ?_)
   go_simp
  ·refine step_isG (o := Oper.mk (some 44) _ _ _ _ _) rfl rfl rfl (by rfl) rfl (fun u ws hc hd => congrArg some (show u 6 = _ from hd 6 (by kernel_rfl) (by decide))) (fun u ws hc hd => ?_)
   have d7 : u 7 = _ := hd 7 (by kernel_rfl) (by decide)
   go_simp
  ·refine step_is (o := Oper.mk (some 45) _ _ _ _ _) rfl rfl rfl rfl (fun u ws hc hd => ?_)
   have d6 : u 6 = _ := hd 6 (by kernel_rfl) (by decide)
   have d8 : u 8 = _ := hd 8 (by kernel_rfl) (by decide)
   go_simp
  ·refine step_is (o := Oper.mk (some 46) _ _ _ _ _) rfl rfl rfl rfl (fun u ws hc hd => ?_)
   have d9 : u 9 = _ := hd 9 (by kernel_rfl) (by decide)
   go_simp
  ·refine step_isG (o := Oper.mk (some 47) _ _ _ _ _) rfl rfl rfl (by rfl) rfl (fun u ws hc hd => congrArg some (show u 10 = _ from hd 10 (by kernel_rfl) (by decide))) (fun u ws hc hd => ?_)
   obtain ⟨k0, k1, k2, _⟩ := hc
   exact run_load_part 56 (.tmp 3) rfl gp 0 rfl #[(.bool false), (.bool false), (.string ⟨#[]⟩), (.bool false), (.string ⟨#[1]⟩), (.bool true), (.string ⟨#[1]⟩), (.bool false), (.string ⟨#[2]⟩)] _ k0 (by simp) Tryz.underlying56 rfl (by kernel_rfl)
  ·refine step_callG (o := Oper.mk (some 48) _ _ _ _ _) rfl rfl (by rfl) rfl (fun u ws hc hd => congrArg some (show u 10 = _ from hd 10 (by kernel_rfl) (by decide))) (fun u ws hc hd => ?_)
   obtain ⟨k0, k1, k2, _⟩ := hc
   have HC := Lib.hid (part_zero (w := ws))
   refine ⟨26, _, ?_, HC.out.mono ?_⟩
   ·clear HC; go_simp
   ·rintro _ w9 ⟨rfl, hb⟩
    exact ⟨_, rfl, rfl, hb⟩
  ·refine step_isG (o := Oper.mk (some 49) _ _ _ _ _) rfl rfl rfl (by rfl) rfl (fun u ws hc hd => congrArg some (show u 10 = _ from hd 10 (by kernel_rfl) (by decide))) (fun u ws hc hd => ?_)
   obtain ⟨k0, k1, k2, _⟩ := hc
   exact run_load_part 25 (.tmp 7) rfl gh 0 rfl #[(.bool true), (.string ⟨#[1]⟩), (.bool false), (.string ⟨#[2]⟩)] _ k2 (by simp) Tryz.underlying25 rfl (by kernel_rfl)
  ·refine step_isG (o := Oper.mk (some 50) _ _ _ _ _) rfl rfl rfl (by rfl) rfl (fun u ws hc hd => congrArg some (show u 10 = _ from hd 10 (by kernel_rfl) (by decide))) (fun u ws hc hd => ?_)
   have d12 : u 12 = _ := hd 12 (by kernel_rfl) (by decide)
   have d13 : u 13 = _ := hd 13 (by kernel_rfl) (by decide)
   go_simp
  ·refine step_isG (o := Oper.mk (some 51) _ _ _ _ _) rfl rfl rfl (by rfl) rfl (fun u ws hc hd => congrArg some (show u 10 = _ from hd 10 (by kernel_rfl) (by decide))) (fun u ws hc hd => ?_)
   have d14 : u 14 = _ := hd 14 (by kernel_rfl) (by decide)
   go_simp
  ·refine step_isG (o := Oper.mk (some 52) _ _ _ _ _) rfl rfl rfl (by rfl) rfl (fun u ws hc hd => congrArg some (show u 10 = _ from hd 10 (by kernel_rfl) (by decide))) (fun u ws hc hd => ?_)
   have d11 : u 11 = _ := hd 11 (by kernel_rfl) (by decide)
   have d15 : u 15 = _ := hd 15 (by kernel_rfl) (by decide)
   go_simp
  ·refine step_is (o := Oper.mk (some 53) _ _ _ _ _) rfl rfl rfl rfl (fun u ws hc hd => ?_)
   have d10 : u 10 = _ := hd 10 (by kernel_rfl) (by decide)
   have d16 : u 16 = _ := hd 16 (by kernel_rfl) (by decide)
   go_simp
  ·refine step_is (o := Oper.mk (some 54) _ _ _ _ _) rfl rfl rfl rfl (fun u ws hc hd => ?_)
   have d17 : u 17 = _ := hd 17 (by kernel_rfl) (by decide)
   go_simp
  ·refine step_isG (o := Oper.mk (some 55) _ _ _ _ _) rfl rfl rfl (by rfl) rfl (fun u ws hc hd => congrArg some (show u 18 = _ from hd 18 (by kernel_rfl) (by decide))) (fun u ws hc hd => ?_)
   obtain ⟨k0, k1, k2, _⟩ := hc
   exact run_load_part 68 (.tmp 5) rfl gc 0 rfl #[(.bool false), (.string ⟨#[1]⟩), (.bool false), (.string ⟨#[1]⟩), (.bool false), (.string ⟨#[]⟩), (.bool false), (.string ⟨#[1]⟩), (.bool false), (.string ⟨#[]⟩), (.bool false), (.string ⟨#[1]⟩), (.bool true), (.string ⟨#[1]⟩), (.bool false), (.string ⟨#[1]⟩)] _ k1 (by simp) Tryz.underlying68 rfl (by kernel_rfl)
  ·refine step_callG (o := Oper.mk (some 56) _ _ _ _ _) rfl rfl (by rfl) rfl (fun u ws hc hd => congrArg some (show u 18 = _ from hd 18 (by kernel_rfl) (by decide))) (fun u ws hc hd => ?_)
   obtain ⟨k0, k1, k2, _⟩ := hc
   have HC := Lib.hid (part_one (w := ws))
   refine ⟨26, _, ?_, HC.out.mono ?_⟩
   ·clear HC; go_simp
   ·rintro _ w9 ⟨rfl, hb⟩
    exact ⟨_, rfl, rfl, hb⟩
  ·refine step_callG (o := Oper.mk (some 57) _ _ _ _ _) rfl rfl (by rfl) rfl (fun u ws hc hd => congrArg some (show u 18 = _ from hd 18 (by kernel_rfl) (by decide))) (fun u ws hc hd => ?_)
   obtain ⟨k0, k1, k2, _⟩ := hc
   have HC := Lib.hid (tnum_any (w := ws) (fun _ => part_zero) (fun _ => part_zero))
   refine ⟨24, _, ?_, HC.out.mono ?_⟩
   ·clear HC; go_simp
   ·rintro _ w9 ⟨rfl, hb⟩
    exact ⟨_, rfl, rfl, hb⟩
  ·refine step_callG (o := Oper.mk (some 58) _ _ _ _ _) rfl rfl (by rfl) rfl (fun u ws hc hd => congrArg some (show u 18 = _ from hd 18 (by kernel_rfl) (by decide))) (fun u ws hc hd => ?_)
   obtain ⟨k0, k1, k2, _⟩ := hc
   have HC := Lib.hid (part_neg (w := ws))
   refine ⟨26, _, ?_, HC.out.mono ?_⟩
   ·clear HC; go_simp
   ·rintro _ w9 ⟨rfl, hb⟩
    exact ⟨_, rfl, rfl, hb⟩
  ·refine step_isG (o := Oper.mk (some 59) _ _ _ _ _) rfl rfl rfl (by rfl) rfl (fun u ws hc hd => congrArg some (show u 18 = _ from hd 18 (by kernel_rfl) (by decide))) (fun u ws hc hd => ?_)
   have d20 : u 20 = _ := hd 20 (by kernel_rfl) (by decide)
   have d21 : u 21 = _ := hd 21 (by kernel_rfl) (by decide)
   have d22 : u 22 = _ := hd 22 (by kernel_rfl) (by decide)
   go_simp
  ·refine step_isG (o := Oper.mk (some 60) _ _ _ _ _) rfl rfl rfl (by rfl) rfl (fun u ws hc hd => congrArg some (show u 18 = _ from hd 18 (by kernel_rfl) (by decide))) (fun u ws hc hd => ?_)
   have d19 : u 19 = _ := hd 19 (by kernel_rfl) (by decide)
   have d23 : u 23 = _ := hd 23 (by kernel_rfl) (by decide)
   go_simp
  ·refine step_is (o := Oper.mk (some 61) _ _ _ _ _) rfl rfl rfl rfl (fun u ws hc hd => ?_)
   have d18 : u 18 = _ := hd 18 (by kernel_rfl) (by decide)
   have d24 : u 24 = _ := hd 24 (by kernel_rfl) (by decide)
   go_simp
  ·intro u9 w12 hb1 hf hn1
   have f9 : u9 25 = _ := hf 25 (by decide) (by decide)
   replace h := h.call hb1
   refine wpAny_tail (j := 26) (o := Oper.mk (some 0) _ _ _ _ _) rfl (by kernel_rfl) (fun K hK => ?_)
   rw [f9]
   clear hf hn1 hb1 f9 k0 k1 k2
   go_simp
   refine hK.out _ _ ?_
   clear hK K
   refine wpAny_end (by kernel_rfl) ?_
   refine NoPanic.normal ?_
   go_wp2_with fail
   go_ret
   exact ⟨rfl, h.bel⟩
theorem cmpR_pos {x : Rat} (h : 0 < x) : cmpR x 0 = 1 := by
 unfold cmpR
 rw [if_neg (by grind), if_neg (by grind)]
theorem cmpR_le {x : Rat} (h : ¬ 0 < x) : cmpR x 0 ≤ 0 := by
 unfold cmpR
 by_cases h1 : x < 0
 ·rw [if_pos h1]; decide
 ·rw [if_neg h1, if_pos (by grind)]; decide
theorem Sz.mul2 {x y : Rat} {n m : Nat} (hx : Sz x n) (hy : Sz y m) : Sz (x * y) (n + m) := by
 rw [mul_ints]
 exact Sz.ofInts (dens_ne x y) (abs_mul_lt hx.num hy.num) (abs_mul_lt (by simpa using hx.den) (by simpa using hy.den))
theorem Sz.quo2 {x y : Rat} {n m : Nat} (hx : Sz x n) (hy : Sz y m) (h0 : y ≠ 0) : Sz (x / y) (n + m) := by
 rw [quo_ints]
 exact Sz.ofInts (Int.mul_ne_zero (by have := x.den_pos; omega) (num_ne h0)) (abs_mul_lt hx.num (by simpa using hy.den)) (abs_mul_lt (by simpa using hx.den) hy.num)
theorem two_pos {z y : Cx} (hz : 0 < z.im) (hy : 0 < y.im) : 0 < z.im * y.im + z.im * y.im := by
 have := Rat.mul_pos hz hy
 grind
theorem i1 : ((1 : Int) : Rat) = 1 := by decide +kernel
theorem i2 : ((2 : Int) : Rat) = 2 := by decide +kernel
theorem i4 : ((4 : Int) : Rat) = 4 := by decide +kernel
theorem far_size {z y : Cx} (h0 : Sz z.re 80) (h1 : Sz z.im 80) (h2 : Sz y.re 80) (h3 : Sz y.im 80) (hz : 0 < z.im) (hy : 0 < y.im) : Sz (farU z y) 8192 := by
 have hp := Rat.mul_pos hz hy
 have a := h0.sub h2
 have b := h1.sub h3
 have c := (a.mul a).add (b.mul b)
 have d := Sz.mul2 h1 h3
 have e := Sz.quo2 c d (by grind)
 have f := Sz.mul2 e (show Sz (2 : Rat) 2 from ⟨by decide +kernel, by decide +kernel⟩)
 have g := Sz.quo2 f (show Sz (4 : Rat) 3 from ⟨by decide +kernel, by decide +kernel⟩) (by decide)
 have i := Sz.add ((show Sz (1 : Rat) 1 from ⟨by decide +kernel, by decide +kernel⟩).up (by decide : 1 ≤ _)) g
 exact i.up (by decide)
theorem far_up2 {w : World} {v1 v2 : Value} {z y : Cx} {n : Nat} {F : Rat} (h1 : IsGauss z n v1) (h2 : IsGauss y n v2) (hz : 0 < z.im) (hy : 0 < y.im) (hF : farU z y = F) (hs : Sz F 8192) (hn : n ≤ 10000) :
  Calls Tryz.prog 9 #[.int .i64 1, v1, v2] w (RetE w (fun v _ => IsFrac F 8192 v)) := by
 have e : ((1 : Int) : Rat) + ((z.sub y).norm / ((z.im) * (y.im)) * ((2 : Int) : Rat)) / ((4 : Int) : Rat) = F := by rw [i1, i2, i4]; exact hF
 have := far_up (w := w) h1 h2 hz hy (by rw [e]; exact hs) hn
 rw [e] at this
 exact this
theorem far_round2 {w : World} {v1 v2 : Value} {z y : Cx} {n : Nat} {F : Rat} (h1 : IsGauss z n v1) (h2 : IsGauss y n v2) (hz : 0 < 1 - z.norm) (hy : 0 < 1 - y.norm) (hF : farR z y = F) (hs : Sz F 8192) (hn : n ≤ 10000) :
  Calls Tryz.prog 9 #[.int .i64 2, v1, v2] w (RetE w (fun v _ => IsFrac F 8192 v)) := by
 have e : ((1 : Int) : Rat) + ((z.sub y).norm / ((((1 : Int) : Rat) - z.norm) * (((1 : Int) : Rat) - y.norm)) * ((2 : Int) : Rat)) / ((1 : Int) : Rat) = F := by rw [i1, i2]; exact hF
 have := far_round (w := w) h1 h2 (by rw [i1]; exact hz) (by rw [i1]; exact hy) (by rw [e]; exact hs) hn
 rw [e] at this
 exact this
theorem Fv.up {b0 b1 : Bool} {s0 s1 : ByteArray} {q : Rat} {n m : Nat} (h : Fv b0 s0 b1 s1 q n) (hm : n ≤ m) : Fv b0 s0 b1 s1 q m := ⟨h.num, h.den, h.sz.up hm, h.l0, h.l1⟩
theorem mob_up {m : Mx} {n k : Nat} {v : Value} (h : IsMob m n v) (hk : n ≤ k) : IsMob m k v := by
 obtain ⟨b0, s0, b1, s1, b2, s2, b3, s3, b4, s4, b5, s5, b6, s6, b7, s7, b8, s8, b9, s9, b10, s10, b11, s11, b12, s12, b13, s13, b14, s14, b15, s15, rfl, F0, F1, F2, F3, F4, F5, F6, F7⟩ := h
 exact ⟨_, _, _, _, _, _, _, _, _, _, _, _, _, _, _, _, _, _, _, _, _, _, _, _, _, _, _, _, _, _, _, _, rfl, F0.up hk, F1.up hk, F2.up hk, F3.up hk, F4.up hk, F5.up hk, F6.up hk, F7.up hk⟩
theorem chart_det : ¬ chart.det.Zero := by decide +kernel
theorem chart_form : chart.Formed := .inl (cx_ext ⟨by decide +kernel, by decide +kernel⟩)
theorem ret_eq {w : World} {f : Nat} {args : Array Value} {c d : Int} (h : c = d) (hc : Calls Tryz.prog f args w (Ret w (Is (.int .i64 c)))) : Calls Tryz.prog f args w (Ret w (Is (.int .i64 d))) := h ▸ hc
theorem IsCp.parts {z : Cx} {k : Nat} {x0 x1 x2 x3 : Bool} {A0 A1 A2 A3 : Option Addr} {n0 c0 n1 c1 n2 c2 n3 c3 : Nat} {w : World} (h : IsCp z k (.agg #[.bool x0, .slice A0 n0 c0, .bool x1, .slice A1 n1 c1, .bool x2, .slice A2 n2 c2, .bool x3, .slice A3 n3 c3]) w) :
  IsFr z.re k (.agg #[.bool x0, .slice A0 n0 c0, .bool x1, .slice A1 n1 c1]) w ∧ IsFr z.im k (.agg #[.bool x2, .slice A2 n2 c2, .bool x3, .slice A3 n3 c3]) w := by
 obtain ⟨y0, B0, m0, d0, y1, B1, m1, d1, y2, B2, m2, d2, y3, B3, m3, d3, e, h1, h2⟩ := h
 simp only [Value.agg.injEq, Array.mk.injEq, List.cons.injEq, Value.bool.injEq, Value.slice.injEq, and_true] at e
 obtain ⟨rfl, ⟨rfl, rfl, rfl⟩, rfl, ⟨rfl, rfl, rfl⟩, rfl, ⟨rfl, rfl, rfl⟩, rfl, rfl, rfl, rfl⟩ := e
 exact ⟨h1, h2⟩
def CpZ (w : World) (g : Nat) : Prop := Blk w g 42 #[.bool false, .slice none 0 0, .bool false, .slice none 0 0, .bool false, .slice none 0 0, .bool false, .slice none 0 0]
theorem cpZ_vgs : Vgs CpZ where
 lt := fun h => Blk.lt h
 below := fun h hb => Blk.below h hb (Blk.lt h)
 off := fun h hne hg => Blk.grown h hg (by intro e; injection e with e; exact hne e)
theorem isCp_steady (b : Bool) (z : Cx) (k : Nat) : Steady CpZ b (IsCp z k) where
 below := fun h hb => h.below hb
 off := fun h hv _ hg => h.far hv (by decide) hg
def IsCpB (z : Cx) (k : Nat) (v : Value) (w : World) : Prop := ∃ g x0 A0 n0 c0 x1 A1 n1 c1 x2 A2 n2 c2 x3 A3 n3 c3, v = ptr g ∧ Blk w g 42 #[.bool x0, .slice A0 n0 c0, .bool x1, .slice A1 n1 c1, .bool x2, .slice A2 n2 c2, .bool x3, .slice A3 n3 c3] ∧
 IsCp z k (.agg #[.bool x0, .slice A0 n0 c0, .bool x1, .slice A1 n1 c1, .bool x2, .slice A2 n2 c2, .bool x3, .slice A3 n3 c3]) w
theorem isCpB_steady (z : Cx) (k : Nat) : Steady CpZ true (IsCpB z k) where
 below := by
  rintro v w w' ⟨g, x0, A0, n0, c0, x1, A1, n1, c1, x2, A2, n2, c2, x3, A3, n3, c3, rfl, hk, h⟩ hb
  exact ⟨g, x0, A0, n0, c0, x1, A1, n1, c1, x2, A2, n2, c2, x3, A3, n3, c3, rfl, hk.below hb hk.lt, h.below hb⟩
 off := by
  rintro v w w' r ⟨g, x0, A0, n0, c0, x1, A1, n1, c1, x2, A2, n2, c2, x3, A3, n3, c3, rfl, hk, h⟩ hv hne hg
  exact ⟨g, x0, A0, n0, c0, x1, A1, n1, c1, x2, A2, n2, c2, x3, A3, n3, c3, rfl, hk.grown hg (by intro e; injection e with e; exact hne rfl (by rw [e])), h.far hv (by decide) hg⟩
theorem plain10 {w : World} {b0 b1 b2 b3 : Bool} {s0 s1 s2 s3 : ByteArray} :
  Calls Tryz.prog 4 #[.agg #[.bool b0, .string s0, .bool b1, .string s1, .bool b2, .string s2, .bool b3, .string s3], .int .i64 10] w (RetQ w (∃ z, IsGauss z 80 (.agg #[.bool b0, .string s0, .bool b1, .string s1, .bool b2, .string s2, .bool b3, .string s3]))) := plain_any (k := 10) (by decide)
theorem mapmay10 {w : World} {b0 b1 b2 b3 b4 b5 b6 b7 b8 b9 b10 b11 b12 b13 b14 b15 tn : Bool} {s0 s1 s2 s3 s4 s5 s6 s7 s8 s9 s10 s11 s12 s13 s14 s15 : ByteArray} :
  Calls Tryz.prog 19 #[.agg #[.bool b0, .string s0, .bool b1, .string s1, .bool b2, .string s2, .bool b3, .string s3, .bool b4, .string s4, .bool b5, .string s5, .bool b6, .string s6, .bool b7, .string s7, .bool b8, .string s8, .bool b9, .string s9, .bool b10, .string s10, .bool b11, .string s11, .bool b12, .string s12, .bool b13, .string s13, .bool b14, .string s14, .bool b15, .string s15, .bool tn], .int .i64 10] w (RetQ w (Mobs 80 (.agg #[.bool b0, .string s0, .bool b1, .string s1, .bool b2, .string s2, .bool b3, .string s3, .bool b4, .string s4, .bool b5, .string s5, .bool b6, .string s6, .bool b7, .string s7, .bool b8, .string s8, .bool b9, .string s9, .bool b10, .string s10, .bool b11, .string s11, .bool b12, .string s12, .bool b13, .string s13, .bool b14, .string s14, .bool b15, .string s15, .bool tn]))) := mapmay_any (k := 10) (by decide)
set_option maxRecDepth 100000 in
set_option maxHeartbeats 32000000 in
theorem topfar_any {w : World} {b0 b1 b2 b3 b4 b5 b6 b7 c0 c1 c2 c3 c4 c5 c6 c7 c8 c9 c10 c11 c12 c13 c14 c15 tn : Bool} {s0 s1 s2 s3 s4 s5 s6 s7 t0 t1 t2 t3 t4 t5 t6 t7 t8 t9 t10 t11 t12 t13 t14 t15 : ByteArray} : Calls Tryz.prog 3 #[.agg #[.bool b0, .string s0, .bool b1, .string s1, .bool b2, .string s2, .bool b3, .string s3, .bool b4, .string s4, .bool b5, .string s5, .bool b6, .string s6, .bool b7, .string s7, .bool c0, .string t0, .bool c1, .string t1, .bool c2, .string t2, .bool c3, .string t3, .bool c4, .string t4, .bool c5, .string t5, .bool c6, .string t6, .bool c7, .string t7, .bool c8, .string t8, .bool c9, .string t9, .bool c10, .string t10, .bool c11, .string t11, .bool c12, .string t12, .bool c13, .string t13, .bool c14, .string t14, .bool c15, .string t15, .bool tn]] w (RetV w (.bool true)) := by
 have h := (Sw.start w).new 31 #[.bool b0, .string s0, .bool b1, .string s1, .bool b2, .string s2, .bool b3, .string s3, .bool b4, .string s4, .bool b5, .string s5, .bool b6, .string s6, .bool b7, .string s7, .bool c0, .string t0, .bool c1, .string t1, .bool c2, .string t2, .bool c3, .string t3, .bool c4, .string t4, .bool c5, .string t5, .bool c6, .string t6, .bool c7, .string t7, .bool c8, .string t8, .bool c9, .string t9, .bool c10, .string t10, .bool c11, .string t11, .bool c12, .string t12, .bool c13, .string t13, .bool c14, .string t14, .bool c15, .string t15, .bool tn]
 go_enter Tryz.func3, Tryz.ntmps3
 go_wp2_with fail
 generalize hW : w.alloc _ = W at h ⊢
 clear hW
 refine plain10.mono ?_
 rintro _ w1 ⟨r, rfl, hr, hb⟩
 replace h := h.call hb
 have H0 := Lib.hid hr
 clear hb hr
 cases r
 ·go_wp2_with fail
  refine alive_any.mono ?_
  rintro _ wA ⟨rfl, hb⟩
  replace h := h.call hb
  clear hb
  go_wp2_with fail
  go_ret
  exact ⟨rfl, h.bel⟩
 ·have k8_ := (h.get 0 rfl).cell 8
  have k9_ := (h.get 0 rfl).cell 9
  have k10_ := (h.get 0 rfl).cell 10
  have k11_ := (h.get 0 rfl).cell 11
  have k12_ := (h.get 0 rfl).cell 12
  have k13_ := (h.get 0 rfl).cell 13
  have k14_ := (h.get 0 rfl).cell 14
  have k15_ := (h.get 0 rfl).cell 15
  go_wp2_with fail
  clear k8_ k9_ k10_ k11_ k12_ k13_ k14_ k15_
  refine plain10.mono ?_
  rintro _ w2 ⟨r, rfl, hr, hb⟩
  replace h := h.call hb
  have H1 := Lib.hid hr
  clear hb hr
  cases r
  ·go_wp2_with fail
   refine alive_any.mono ?_
   rintro _ wA ⟨rfl, hb⟩
   replace h := h.call hb
   clear hb
   go_wp2_with fail
   go_ret
   exact ⟨rfl, h.bel⟩
  ·obtain ⟨z, gz⟩ := H0.out (by simp)
   obtain ⟨y, gy⟩ := H1.out (by simp)
   have G0 := Lib.hid gz.fv
   have G1 := Lib.hid gy.fv
   clear gz gy H0 H1
   have k4_ := (h.get 0 rfl).cell 4
   have k5_ := (h.get 0 rfl).cell 5
   have k6_ := (h.get 0 rfl).cell 6
   have k7_ := (h.get 0 rfl).cell 7
   go_wp2_with fail
   clear k4_ k5_ k6_ k7_
   refine (ratio_any ⟨_, _, _, _, rfl, G0.out.2⟩).mono ?_
   rintro _ w3 ⟨_, rfl, fr, hb⟩
   obtain ⟨x0, A0, n0, c0_, x1, A1, n1, c1_, e⟩ := fr.shape
   subst e
   replace h := (h.call hb).rest (Stw.fr _ _ _) fr
   clear hb fr
   go_wp2_with fail
   refine (frsign_any h.fact (by decide)).mono ?_
   rintro _ w4 ⟨_, rfl, rfl, hb⟩
   replace h := (h.call hb).rest Stw.true_ trivial
   clear hb
   obtain ⟨c, hc⟩ : ∃ c, c = cmpR z.im 0 := ⟨_, rfl⟩
   rw [← hc]
   by_cases hz0 : ¬ 0 < z.im
   ·have hle : c ≤ 0 := by rw [hc]; exact cmpR_le hz0
    clear hc hz0
    go_wp2_with fail
    refine alive_any.mono ?_
    rintro _ wA ⟨rfl, hb⟩
    replace h := h.call hb
    clear hb
    go_wp2_with fail
    go_ret
    exact ⟨rfl, h.bel⟩
   ·have hle : ¬ c ≤ 0 := by rw [hc, cmpR_pos (Classical.not_not.1 hz0)]; decide
    have HZ := Lib.hid (Classical.not_not.1 hz0)
    clear hc hz0
    have k12_ := (h.get 0 rfl).cell 12
    have k13_ := (h.get 0 rfl).cell 13
    have k14_ := (h.get 0 rfl).cell 14
    have k15_ := (h.get 0 rfl).cell 15
    go_wp2_with fail
    clear k12_ k13_ k14_ k15_
    refine (ratio_any ⟨_, _, _, _, rfl, G1.out.2⟩).mono ?_
    rintro _ w5 ⟨_, rfl, fr, hb⟩
    obtain ⟨x0, A0, n0, c0_, x1, A1, n1, c1_, e⟩ := fr.shape
    subst e
    replace h := (h.call hb).rest (Stw.fr _ _ _) fr
    clear hb fr
    go_wp2_with fail
    refine (frsign_any h.fact (by decide)).mono ?_
    rintro _ w6 ⟨_, rfl, rfl, hb⟩
    replace h := (h.call hb).rest Stw.true_ trivial
    clear hb
    obtain ⟨c, hc⟩ : ∃ c, c = cmpR y.im 0 := ⟨_, rfl⟩
    rw [← hc]
    by_cases hz0 : ¬ 0 < y.im
    ·have hle : c ≤ 0 := by rw [hc]; exact cmpR_le hz0
     clear hc hz0
     go_wp2_with fail
     refine alive_any.mono ?_
     rintro _ wA ⟨rfl, hb⟩
     replace h := h.call hb
     clear hb
     go_wp2_with fail
     go_ret
     exact ⟨rfl, h.bel⟩
    ·have hle : ¬ c ≤ 0 := by rw [hc, cmpR_pos (Classical.not_not.1 hz0)]; decide
     have HY := Lib.hid (Classical.not_not.1 hz0)
     clear hc hz0
     go_wp2_with fail
     have k0 := h.get 0 rfl
     refine wp_region_noPanic ?_
     refine wp_region_list2 (mk := ?mk) cpZ_vgs [Is (ptr w.heap.size), Is (.agg #[(.bool b0), (.string s0), (.bool b1), (.string s1), (.bool b2), (.string s2), (.bool b3), (.string s3)]), IsCp z 8192, Is (.pointer (some ⟨w.heap.size, 8, none⟩)), Is (.agg #[(.bool b4), (.string s4), (.bool b5), (.string s5), (.bool b6), (.string s6), (.bool b7), (.string s7)]), IsCp y 8192, Is undef, Is undef, IsCpB z 8192, IsCpB y 8192] [.plain, .plain, .plain, .plain, .plain, .plain, .fresh, .fresh, .fills 6, .fills 7] 10 0 (fun w' => Blk w' (w.heap.size) 31 #[.bool b0, .string s0, .bool b1, .string s1, .bool b2, .string s2, .bool b3, .string s3, .bool b4, .string s4, .bool b5, .string s5, .bool b6, .string s6, .bool b7, .string s7, .bool c0, .string t0, .bool c1, .string t1, .bool c2, .string t2, .bool c3, .string t3, .bool c4, .string t4, .bool c5, .string t5, .bool c6, .string t6, .bool c7, .string t7, .bool c8, .string t8, .bool c9, .string t9, .bool c10, .string t10, .bool c11, .string t11, .bool c12, .string t12, .bool c13, .string t13, .bool c14, .string t14, .bool c15, .string t15, .bool tn] ∧ True) ⟨is_steady _ _ _, is_steady _ _ _, isCp_steady _ _ _, is_steady _ _ _, is_steady _ _ _, isCp_steady _ _ _, is_steady _ _ _, is_steady _ _ _, isCpB_steady _ _, isCpB_steady _ _, trivial⟩ (by kernel_rfl) (by kernel_rfl) (by kernel_rfl) (by kernel_rfl) (by kernel_rfl) (by kernel_rfl) ?hmk (fun w' hB => ⟨k0.below hB k0.lt, trivial⟩)
      (steps_all (steps_cons ?_ (steps_cons ?_ (steps_cons ?_ (steps_cons ?_ (steps_cons ?_ (steps_cons ?_ (steps_cons ?_ (steps_cons ?_ (steps_cons ?_ (steps_cons ?_ steps_nil))))))))))) ?_
     case hmk =>
      intro u
      simp only [mkFrom, mkL, dstOf, List.range, List.range.loop, Act.put, List.setIfInBounds_toArray, List.set_cons_zero, List.set_cons_succ, List.getElem?_toArray, List.getElem?_cons_zero, List.getElem?_cons_succ, Option.bind_some]
      rfl
     ·refine step_is (o := Oper.mk (some 45) _ _ _ _ _) rfl rfl rfl rfl (fun u ws hc hd => ?_)
      go_simp
     ·refine step_is (o := Oper.mk (some 46) _ _ _ _ _) rfl rfl rfl rfl (fun u ws hc hd => ?_)
      obtain ⟨k0, _⟩ := hc
      have d0 : u 0 = _ := hd 0 (by kernel_rfl) (by decide)
      exact run_load_part 27 (.tmp 45) rfl (w.heap.size) 0 d0 #[(.bool b0), (.string s0), (.bool b1), (.string s1), (.bool b2), (.string s2), (.bool b3), (.string s3)] _ k0 rfl Tryz.underlying27 rfl (by kernel_rfl)
     ·refine step_call (o := Oper.mk (some 47) _ _ _ _ _) rfl rfl rfl (fun u ws hc hd => ?_)
      obtain ⟨k0, _⟩ := hc
      have d1 : u 1 = _ := hd 1 (by kernel_rfl) (by decide)
      have HC := Lib.hid (number_c (w := ws) ⟨_, _, _, _, _, _, _, _, rfl, G0.out.1, G0.out.2⟩)
      refine ⟨8, #[(.agg #[(.bool b0), (.string s0), (.bool b1), (.string s1), (.bool b2), (.string s2), (.bool b3), (.string s3)])], ?_, HC.out⟩
      ·clear HC; go_simp
     ·refine step_is (o := Oper.mk (some 48) _ _ _ _ _) rfl rfl rfl rfl (fun u ws hc hd => ?_)
      go_simp
     ·refine step_is (o := Oper.mk (some 49) _ _ _ _ _) rfl rfl rfl rfl (fun u ws hc hd => ?_)
      obtain ⟨k0, _⟩ := hc
      have d3 : u 3 = _ := hd 3 (by kernel_rfl) (by decide)
      exact run_load_part 27 (.tmp 48) rfl (w.heap.size) 8 d3 #[(.bool b4), (.string s4), (.bool b5), (.string s5), (.bool b6), (.string s6), (.bool b7), (.string s7)] _ k0 rfl Tryz.underlying27 rfl (by kernel_rfl)
     ·refine step_call (o := Oper.mk (some 50) _ _ _ _ _) rfl rfl rfl (fun u ws hc hd => ?_)
      obtain ⟨k0, _⟩ := hc
      have d4 : u 4 = _ := hd 4 (by kernel_rfl) (by decide)
      have HC := Lib.hid (number_c (w := ws) ⟨_, _, _, _, _, _, _, _, rfl, G1.out.1, G1.out.2⟩)
      refine ⟨8, #[(.agg #[(.bool b4), (.string s4), (.bool b5), (.string s5), (.bool b6), (.string s6), (.bool b7), (.string s7)])], ?_, HC.out⟩
      ·clear HC; go_simp
     ·refine step_new (o := Oper.mk (some 3) _ _ _ _ _) rfl rfl rfl (fun u ws hc => ⟨.cells #[.bool false, .slice none 0 0, .bool false, .slice none 0 0, .bool false, .slice none 0 0, .bool false, .slice none 0 0] 42, ?_, Blk.new ws 42 _⟩)
      go_simp
     ·refine step_new (o := Oper.mk (some 4) _ _ _ _ _) rfl rfl rfl (fun u ws hc => ⟨.cells #[.bool false, .slice none 0 0, .bool false, .slice none 0 0, .bool false, .slice none 0 0, .bool false, .slice none 0 0] 42, ?_, Blk.new ws 42 _⟩)
      go_simp
     ·refine step_store (a := 6) (o := Oper.mk none _ _ _ _ _) rfl rfl rfl rfl (fun u ws g1 hc hd h0 hlo hv K hK => ?_)
      have fc : IsCp _ _ (u 2) ws := hd 2 (by kernel_rfl) (by decide)
      obtain ⟨ax0, aA0, an0, ac0, ax1, aA1, an1, ac1, ax2, aA2, an2, ac2, ax3, aA3, an3, ac3, ec⟩ := fc.shape
      rw [ec] at fc
      refine wp_store_blk 42 (.tmp 3) (.tmp 47) rfl #[.bool ax0, .slice aA0 an0 ac0, .bool ax1, .slice aA1 an1 ac1, .bool ax2, .slice aA2 an2 ac2, .bool ax3, .slice aA3 an3 ac3] h0 ec hv (by simp) (by kernel_rfl) (by simp [Value.oneCell']) (fun w9 k9 hg9 => ?_)
      exact hK w9 ⟨g1, ax0, aA0, an0, ac0, ax1, aA1, an1, ac1, ax2, aA2, an2, ac2, ax3, aA3, an3, ac3, rfl, k9, fc.far hv (by decide) hg9⟩ hg9
     ·refine step_store (a := 7) (o := Oper.mk none _ _ _ _ _) rfl rfl rfl rfl (fun u ws g1 hc hd h0 hlo hv K hK => ?_)
      have fc : IsCp _ _ (u 5) ws := hd 5 (by kernel_rfl) (by decide)
      obtain ⟨ax0, aA0, an0, ac0, ax1, aA1, an1, ac1, ax2, aA2, an2, ac2, ax3, aA3, an3, ac3, ec⟩ := fc.shape
      rw [ec] at fc
      refine wp_store_blk 42 (.tmp 4) (.tmp 50) rfl #[.bool ax0, .slice aA0 an0 ac0, .bool ax1, .slice aA1 an1 ac1, .bool ax2, .slice aA2 an2 ac2, .bool ax3, .slice aA3 an3 ac3] h0 ec hv (by simp) (by kernel_rfl) (by simp [Value.oneCell']) (fun w9 k9 hg9 => ?_)
      exact hK w9 ⟨g1, ax0, aA0, an0, ac0, ax1, aA1, an1, ac1, ax2, aA2, an2, ac2, ax3, aA3, an3, ac3, rfl, k9, fc.far hv (by decide) hg9⟩ hg9
     ·intro u w7 hb1 hf hn1 hap hfl hlo
      obtain ⟨ga, zx0, zA0, zn0, zc0, zx1, zA1, zn1, zc1, zx2, zA2, zn2, zc2, zx3, zA3, zn3, zc3, e8, ka, fz⟩ : IsCpB _ _ (u 8) w7 := hf 8 (by decide) (by decide)
      obtain ⟨gb, yx0, yA0, yn0, yc0, yx1, yA1, yn1, yc1, yx2, yA2, yn2, yc2, yx3, yA3, yn3, yc3, e9, kb, fy⟩ : IsCpB _ _ (u 9) w7 := hf 9 (by decide) (by decide)
      have n8 := hfl 8 (by decide) 6 rfl
      have n9 := hfl 9 (by decide) 7 rfl
      rw [e8] at n8
      rw [e9] at n9
      have ha := hlo 6 (by decide) rfl ga n8.symm
      have hb := hlo 7 (by decide) rfl gb n9.symm
      have hab : ga ≠ gb := fun e => hap 6 (by decide) 7 (by decide) (by decide) rfl rfl (by rw [← n8, ← n9, e])
      have hlt := h.lts
      have hbs := h.bel.size
      replace h := (((h.call hb1).more ka (Nat.le_trans hbs ha) (fun x hx => by have := hlt x hx; omega)).more kb (Nat.le_trans hbs hb) (fun x hx => by rcases List.mem_cons.1 hx with rfl | hx; exact hab; have := hlt x hx; omega)).rest ((Stw.cp _ _ _).and (Stw.cp _ _ _)) (And.intro fz fy)
      rw [← n8, ← n9]
      clear hf hn1 hap hfl hlo e8 e9 n8 n9 ha hb hab hlt hbs hb1 ka kb fz fy k0
      refine wpAny_end (by kernel_rfl) ?_
      refine NoPanic.normal ?_
      have HS := Lib.hid (far_size G0.out.1.sz G0.out.2.sz G1.out.1.sz G1.out.2.sz HZ.out HY.out)
      go_wp2_with (first | (refine wpList_load_part (by rfl) 27 (.tmp 52) (by rfl) _ 0 (by rfl) _ _ #[.bool b0, .string s0, .bool b1, .string s1, .bool b2, .string s2, .bool b3, .string s3] _ (h.get 2 rfl) (by rfl) Tryz.underlying27 rfl (by kernel_rfl) ?_) | (refine wpList_load_part (by rfl) 27 (.tmp 54) (by rfl) _ 8 (by rfl) _ _ #[.bool b4, .string s4, .bool b5, .string s5, .bool b6, .string s6, .bool b7, .string s7] _ (h.get 2 rfl) (by rfl) Tryz.underlying27 rfl (by kernel_rfl) ?_))
      refine (far_up2 (n := 80) ⟨_, _, _, _, _, _, _, _, rfl, G0.out.1, G0.out.2⟩ ⟨_, _, _, _, _, _, _, _, rfl, G1.out.1, G1.out.2⟩ HZ.out HY.out rfl HS.out (by decide)).mono ?_
      rintro _ w8 ⟨_, rfl, ⟨u0, r0, u1, r1, rfl, F0⟩, hb⟩
      replace h := h.call hb
      have FF : Hid (IsFrac (farU z y) 8192 (.agg #[.bool u0, .string r0, .bool u1, .string r1])) := Lib.hid ⟨_, _, _, _, rfl, F0⟩
      clear hb F0
      go_wp2_with (first | (replace h := h.new 25 #[.bool false, .string ⟨#[]⟩, .bool false, .string ⟨#[]⟩]; refine wpList_store_all (by rfl) 25 (.tmp 5) (.tmp 57) (by rfl) #[.bool u0, .string r0, .bool u1, .string r1] (by rfl) (by rfl) (h.get 0 rfl) (by simp) (by kernel_rfl) (by simp [Value.oneCell', ptr]) ?_; intro V1 k9 hg9; replace h := h.put 0 rfl (by unfold OwnT; decide) k9 hg9; simp only [List.set_cons_succ, List.set_cons_zero] at h; clear k9 hg9) | (refine wpList_load_part (by rfl) 37 (.tmp 59) (by rfl) _ 4 (by rfl) _ _ #[.bool zx2, .slice zA2 zn2 zc2, .bool zx3, .slice zA3 zn3 zc3] _ (h.get 2 rfl) (by rfl) Tryz.underlying37 rfl (by kernel_rfl) ?_) | (refine wpList_load_part (by rfl) 37 (.tmp 61) (by rfl) _ 4 (by rfl) _ _ #[.bool yx2, .slice yA2 yn2 yc2, .bool yx3, .slice yA3 yn3 yc3] _ (h.get 1 rfl) (by rfl) Tryz.underlying37 rfl (by kernel_rfl) ?_))
      refine (frtimes_any h.fact.1.parts.2 h.fact.2.parts.2 (by decide)).mono ?_
      rintro _ w9 ⟨_, rfl, f2, hb⟩
      obtain ⟨tx0, tA0, tn0, tc0, tx1, tA1, tn1, tc1, e⟩ := f2.shape
      subst e
      replace h := (h.call hb).add (Stw.fr _ _ _) f2
      clear hb f2
      go_wp2_with (replace h := h.new 37 #[.bool false, .slice none 0 0, .bool false, .slice none 0 0]; refine wpList_store_all (by rfl) 37 (.tmp 7) (.tmp 63) (by rfl) #[.bool tx0, .slice tA0 tn0 tc0, .bool tx1, .slice tA1 tn1 tc1] (by rfl) (by rfl) (h.get 0 rfl) (by simp) (by kernel_rfl) (by simp [Value.oneCell', ptr]) ?_; intro V2 k9 hg9; replace h := h.put 0 rfl (by unfold OwnT; decide) k9 hg9; simp only [List.set_cons_succ, List.set_cons_zero] at h; clear k9 hg9)
      have kf := (h.get 1 rfl)
      have kz := (h.get 3 rfl)
      have ky := (h.get 2 rfl)
      have k2 := (h.get 0 rfl)
      obtain ⟨f2, fz, fy⟩ := h.fact
      have HC := Lib.hid (cmpR_zero.2 (farU_eq HZ.out HY.out))
      have HP := Lib.hid (two_pos HZ.out HY.out)
      generalize hg1 : w8.heap.size = gf at h kf kz ky k2 ⊢
      generalize hg2 : w9.heap.size = gtw at h kf kz ky k2 ⊢
      clear hg1 hg2
      refine wp_region_noPanic ?_
      refine wp_region_list (mk := ?mkb) noV_vgs [Is (.int .i64 0), Is (.bool false), Is (.bool false), Is (.agg #[(.bool u0), (.string r0), (.bool u1), (.string r1)]), IsFr (farU z y) 8192, IsFr 1 32, Is (.agg #[(.bool zx0), (.slice zA0 zn0 zc0), (.bool zx1), (.slice zA1 zn1 zc1), (.bool zx2), (.slice zA2 zn2 zc2), (.bool zx3), (.slice zA3 zn3 zc3)]), Is (.agg #[(.bool yx0), (.slice yA0 yn0 yc0), (.bool yx1), (.slice yA1 yn1 yc1), (.bool yx2), (.slice yA2 yn2 yc2), (.bool yx3), (.slice yA3 yn3 yc3)]), IsCp (z.sub y) (8192 + 8192 + 1), IsFr ((z.sub y).norm) (4 * (8192 + 8192 + 1) + 1), Is (.agg #[(.bool tx0), (.slice tA0 tn0 tc0), (.bool tx1), (.slice tA1 tn1 tc1)]), Is (.agg #[(.bool tx0), (.slice tA0 tn0 tc0), (.bool tx1), (.slice tA1 tn1 tc1)]), IsFr ((z.im * y.im) + (z.im * y.im)) (8192 + 8192 + (8192 + 8192) + 1), IsFr ((z.sub y).norm / (z.im * y.im + z.im * y.im)) (4 * (8192 + 8192 + 1) + 1 + (8192 + 8192 + (8192 + 8192) + 1)), IsFr (1 + ((z.sub y).norm / (z.im * y.im + z.im * y.im))) (32 + (4 * (8192 + 8192 + 1) + 1 + (8192 + 8192 + (8192 + 8192) + 1)) + 1), Is (.int .i64 0), Is (.bool false), Is (.bool false)] [.plain, .plain, .plain, .plain, .plain, .plain, .plain, .plain, .plain, .plain, .plain, .plain, .plain, .plain, .plain, .plain, .plain, .plain] 18 0 (fun w' => Blk w' gf 25 #[.bool u0, .string r0, .bool u1, .string r1] ∧ Blk w' ga 42 #[.bool zx0, .slice zA0 zn0 zc0, .bool zx1, .slice zA1 zn1 zc1, .bool zx2, .slice zA2 zn2 zc2, .bool zx3, .slice zA3 zn3 zc3] ∧ Blk w' gb 42 #[.bool yx0, .slice yA0 yn0 yc0, .bool yx1, .slice yA1 yn1 yc1, .bool yx2, .slice yA2 yn2 yc2, .bool yx3, .slice yA3 yn3 yc3] ∧ Blk w' gtw 37 #[.bool tx0, .slice tA0 tn0 tc0, .bool tx1, .slice tA1 tn1 tc1] ∧ IsCp z 8192 (.agg #[(.bool zx0), (.slice zA0 zn0 zc0), (.bool zx1), (.slice zA1 zn1 zc1), (.bool zx2), (.slice zA2 zn2 zc2), (.bool zx3), (.slice zA3 zn3 zc3)]) w' ∧ IsCp y 8192 (.agg #[(.bool yx0), (.slice yA0 yn0 yc0), (.bool yx1), (.slice yA1 yn1 yc1), (.bool yx2), (.slice yA2 yn2 yc2), (.bool yx3), (.slice yA3 yn3 yc3)]) w' ∧ IsFr (z.im * y.im) (8192 + 8192) (.agg #[(.bool tx0), (.slice tA0 tn0 tc0), (.bool tx1), (.slice tA1 tn1 tc1)]) w' ∧ True) ⟨is_steady _ _ _, is_steady _ _ _, is_steady _ _ _, is_steady _ _ _, nov fun _ _ _ h => h.below, nov fun _ _ _ h => h.below, is_steady _ _ _, is_steady _ _ _, nov fun _ _ _ h => h.below, nov fun _ _ _ h => h.below, is_steady _ _ _, is_steady _ _ _, nov fun _ _ _ h => h.below, nov fun _ _ _ h => h.below, nov fun _ _ _ h => h.below, is_steady _ _ _, is_steady _ _ _, is_steady _ _ _, trivial⟩ (by kernel_rfl) (by kernel_rfl) (by kernel_rfl) (by kernel_rfl) (by kernel_rfl) (by kernel_rfl) ?hmkb (fun w' hB => ⟨kf.below hB kf.lt, kz.below hB kz.lt, ky.below hB ky.lt, k2.below hB k2.lt, fz.below hB, fy.below hB, f2.below hB, trivial⟩)
       (steps_all (steps_cons ?_ (steps_cons ?_ (steps_cons ?_ (steps_cons ?_ (steps_cons ?_ (steps_cons ?_ (steps_cons ?_ (steps_cons ?_ (steps_cons ?_ (steps_cons ?_ (steps_cons ?_ (steps_cons ?_ (steps_cons ?_ (steps_cons ?_ (steps_cons ?_ (steps_cons ?_ (steps_cons ?_ (steps_cons ?_ steps_nil))))))))))))))))))) ?_
      case hmkb =>
       intro u
       simp only [mkFrom, mkL, dstOf, List.range, List.range.loop, Act.put, List.setIfInBounds_toArray, List.set_cons_zero, List.set_cons_succ, List.getElem?_toArray, List.getElem?_cons_zero, List.getElem?_cons_succ, Option.bind_some]
       rfl
      ·refine step_is (o := Oper.mk (some 64) _ _ _ _ _) rfl rfl rfl rfl (fun u ws hc hd => ?_)
       go_simp
      ·refine step_is (o := Oper.mk (some 65) _ _ _ _ _) rfl rfl rfl rfl (fun u ws hc hd => ?_)
       have d0 : u 0 = _ := hd 0 (by kernel_rfl) (by decide)
       go_simp
      ·refine step_is (o := Oper.mk (some 66) _ _ _ _ _) rfl rfl rfl rfl (fun u ws hc hd => ?_)
       have d1 : u 1 = _ := hd 1 (by kernel_rfl) (by decide)
       go_simp
      ·refine step_isG (o := Oper.mk (some 67) _ _ _ _ _) rfl rfl rfl (by rfl) rfl (fun u ws hc hd => congrArg some (show u 2 = _ from hd 2 (by kernel_rfl) (by decide))) (fun u ws hc hd => ?_)
       obtain ⟨kf, kz, ky, k2, fz, fy, f2, _⟩ := hc
       exact run_load_part 25 (.tmp 5) rfl (gf) 0 rfl #[(.bool u0), (.string r0), (.bool u1), (.string r1)] _ kf rfl Tryz.underlying25 rfl (by kernel_rfl)
      ·refine step_callG (o := Oper.mk (some 68) _ _ _ _ _) rfl rfl (by rfl) rfl (fun u ws hc hd => congrArg some (show u 2 = _ from hd 2 (by kernel_rfl) (by decide))) (fun u ws hc hd => ?_)
       obtain ⟨kf, kz, ky, k2, fz, fy, f2, _⟩ := hc
       have d3 : u 3 = _ := hd 3 (by kernel_rfl) (by decide)
       have HC := Lib.hid (ratio_any (w := ws) FF.out)
       refine ⟨5, #[(.agg #[(.bool u0), (.string r0), (.bool u1), (.string r1)])], ?_, HC.out⟩
       ·clear HC; go_simp
      ·refine step_callG (o := Oper.mk (some 69) _ _ _ _ _) rfl rfl (by rfl) rfl (fun u ws hc hd => congrArg some (show u 2 = _ from hd 2 (by kernel_rfl) (by decide))) (fun u ws hc hd => ?_)
       obtain ⟨kf, kz, ky, k2, fz, fy, f2, _⟩ := hc
       have HC := Lib.hid (int1_one (w := ws))
       refine ⟨12, #[(.int .i64 1)], ?_, HC.out⟩
       ·clear HC; go_simp
      ·refine step_isG (o := Oper.mk (some 70) _ _ _ _ _) rfl rfl rfl (by rfl) rfl (fun u ws hc hd => congrArg some (show u 2 = _ from hd 2 (by kernel_rfl) (by decide))) (fun u ws hc hd => ?_)
       obtain ⟨kf, kz, ky, k2, fz, fy, f2, _⟩ := hc
       exact run_load_part 42 (.tmp 3) rfl (ga) 0 rfl #[(.bool zx0), (.slice zA0 zn0 zc0), (.bool zx1), (.slice zA1 zn1 zc1), (.bool zx2), (.slice zA2 zn2 zc2), (.bool zx3), (.slice zA3 zn3 zc3)] _ kz rfl Tryz.underlying42 rfl (by kernel_rfl)
      ·refine step_isG (o := Oper.mk (some 71) _ _ _ _ _) rfl rfl rfl (by rfl) rfl (fun u ws hc hd => congrArg some (show u 2 = _ from hd 2 (by kernel_rfl) (by decide))) (fun u ws hc hd => ?_)
       obtain ⟨kf, kz, ky, k2, fz, fy, f2, _⟩ := hc
       exact run_load_part 42 (.tmp 4) rfl (gb) 0 rfl #[(.bool yx0), (.slice yA0 yn0 yc0), (.bool yx1), (.slice yA1 yn1 yc1), (.bool yx2), (.slice yA2 yn2 yc2), (.bool yx3), (.slice yA3 yn3 yc3)] _ ky rfl Tryz.underlying42 rfl (by kernel_rfl)
      ·refine step_callG (o := Oper.mk (some 72) _ _ _ _ _) rfl rfl (by rfl) rfl (fun u ws hc hd => congrArg some (show u 2 = _ from hd 2 (by kernel_rfl) (by decide))) (fun u ws hc hd => ?_)
       obtain ⟨kf, kz, ky, k2, fz, fy, f2, _⟩ := hc
       have d6 : u 6 = _ := hd 6 (by kernel_rfl) (by decide)
       have d7 : u 7 = _ := hd 7 (by kernel_rfl) (by decide)
       have HC := Lib.hid (cpless_any fz fy (by decide))
       refine ⟨14, #[(.agg #[(.bool zx0), (.slice zA0 zn0 zc0), (.bool zx1), (.slice zA1 zn1 zc1), (.bool zx2), (.slice zA2 zn2 zc2), (.bool zx3), (.slice zA3 zn3 zc3)]), (.agg #[(.bool yx0), (.slice yA0 yn0 yc0), (.bool yx1), (.slice yA1 yn1 yc1), (.bool yx2), (.slice yA2 yn2 yc2), (.bool yx3), (.slice yA3 yn3 yc3)])], ?_, HC.out⟩
       ·clear HC; go_simp
      ·refine step_callG (o := Oper.mk (some 73) _ _ _ _ _) rfl rfl (by rfl) rfl (fun u ws hc hd => congrArg some (show u 2 = _ from hd 2 (by kernel_rfl) (by decide))) (fun u ws hc hd => ?_)
       obtain ⟨kf, kz, ky, k2, fz, fy, f2, _⟩ := hc
       have HC := Lib.hid (cpnorm_any (hd 8 (by kernel_rfl) (by decide) : IsCp (z.sub y) (8192 + 8192 + 1) (u 8) ws) (by decide))
       refine ⟨15, #[u 8], ?_, HC.out⟩
       ·clear HC; go_simp
      ·refine step_isG (o := Oper.mk (some 74) _ _ _ _ _) rfl rfl rfl (by rfl) rfl (fun u ws hc hd => congrArg some (show u 2 = _ from hd 2 (by kernel_rfl) (by decide))) (fun u ws hc hd => ?_)
       obtain ⟨kf, kz, ky, k2, fz, fy, f2, _⟩ := hc
       exact run_load_part 37 (.tmp 7) rfl (gtw) 0 rfl #[(.bool tx0), (.slice tA0 tn0 tc0), (.bool tx1), (.slice tA1 tn1 tc1)] _ k2 rfl Tryz.underlying37 rfl (by kernel_rfl)
      ·refine step_isG (o := Oper.mk (some 75) _ _ _ _ _) rfl rfl rfl (by rfl) rfl (fun u ws hc hd => congrArg some (show u 2 = _ from hd 2 (by kernel_rfl) (by decide))) (fun u ws hc hd => ?_)
       obtain ⟨kf, kz, ky, k2, fz, fy, f2, _⟩ := hc
       exact run_load_part 37 (.tmp 7) rfl (gtw) 0 rfl #[(.bool tx0), (.slice tA0 tn0 tc0), (.bool tx1), (.slice tA1 tn1 tc1)] _ k2 rfl Tryz.underlying37 rfl (by kernel_rfl)
      ·refine step_callG (o := Oper.mk (some 76) _ _ _ _ _) rfl rfl (by rfl) rfl (fun u ws hc hd => congrArg some (show u 2 = _ from hd 2 (by kernel_rfl) (by decide))) (fun u ws hc hd => ?_)
       obtain ⟨kf, kz, ky, k2, fz, fy, f2, _⟩ := hc
       have d10 : u 10 = _ := hd 10 (by kernel_rfl) (by decide)
       have d11 : u 11 = _ := hd 11 (by kernel_rfl) (by decide)
       have HC := Lib.hid (frplus_any f2 f2 (by decide))
       refine ⟨13, #[(.agg #[(.bool tx0), (.slice tA0 tn0 tc0), (.bool tx1), (.slice tA1 tn1 tc1)]), (.agg #[(.bool tx0), (.slice tA0 tn0 tc0), (.bool tx1), (.slice tA1 tn1 tc1)])], ?_, HC.out⟩
       ·clear HC; go_simp
      ·refine step_callG (o := Oper.mk (some 77) _ _ _ _ _) rfl rfl (by rfl) rfl (fun u ws hc hd => congrArg some (show u 2 = _ from hd 2 (by kernel_rfl) (by decide))) (fun u ws hc hd => ?_)
       obtain ⟨kf, kz, ky, k2, fz, fy, f2, _⟩ := hc
       have HC := Lib.hid (frover_any (hd 9 (by kernel_rfl) (by decide) : IsFr ((z.sub y).norm) (4 * (8192 + 8192 + 1) + 1) (u 9) ws) (hd 12 (by kernel_rfl) (by decide) : IsFr ((z.im * y.im) + (z.im * y.im)) (8192 + 8192 + (8192 + 8192) + 1) (u 12) ws) HP.out (by decide))
       refine ⟨16, #[u 9, u 12], ?_, HC.out⟩
       ·clear HC; go_simp
      ·refine step_callG (o := Oper.mk (some 78) _ _ _ _ _) rfl rfl (by rfl) rfl (fun u ws hc hd => congrArg some (show u 2 = _ from hd 2 (by kernel_rfl) (by decide))) (fun u ws hc hd => ?_)
       obtain ⟨kf, kz, ky, k2, fz, fy, f2, _⟩ := hc
       have HC := Lib.hid (frplus_any (hd 5 (by kernel_rfl) (by decide) : IsFr 1 32 (u 5) ws) (hd 13 (by kernel_rfl) (by decide) : IsFr ((z.sub y).norm / (z.im * y.im + z.im * y.im)) (4 * (8192 + 8192 + 1) + 1 + (8192 + 8192 + (8192 + 8192) + 1)) (u 13) ws) (by decide))
       refine ⟨13, #[u 5, u 13], ?_, HC.out⟩
       ·clear HC; go_simp
      ·refine step_callG (o := Oper.mk (some 79) _ _ _ _ _) rfl rfl (by rfl) rfl (fun u ws hc hd => congrArg some (show u 2 = _ from hd 2 (by kernel_rfl) (by decide))) (fun u ws hc hd => ?_)
       obtain ⟨kf, kz, ky, k2, fz, fy, f2, _⟩ := hc
       have HC := Lib.hid (ret_eq HC.out (frcmp_any (hd 4 (by kernel_rfl) (by decide) : IsFr (farU z y) 8192 (u 4) ws) (hd 14 (by kernel_rfl) (by decide) : IsFr (1 + ((z.sub y).norm / (z.im * y.im + z.im * y.im))) (32 + (4 * (8192 + 8192 + 1) + 1 + (8192 + 8192 + (8192 + 8192) + 1)) + 1) (u 14) ws) (by decide)))
       refine ⟨11, #[u 4, u 14], ?_, HC.out⟩
       ·clear HC; go_simp
      ·refine step_isG (o := Oper.mk (some 80) _ _ _ _ _) rfl rfl rfl (by rfl) rfl (fun u ws hc hd => congrArg some (show u 2 = _ from hd 2 (by kernel_rfl) (by decide))) (fun u ws hc hd => ?_)
       have d15 : u 15 = _ := hd 15 (by kernel_rfl) (by decide)
       go_simp
      ·refine step_is (o := Oper.mk (some 81) _ _ _ _ _) rfl rfl rfl rfl (fun u ws hc hd => ?_)
       have d2 : u 2 = _ := hd 2 (by kernel_rfl) (by decide)
       have d16 : u 16 = _ := hd 16 (by kernel_rfl) (by decide)
       go_simp
      ·intro v w10 hb1 hf hn1
       have f9 : v 17 = _ := hf 17 (by decide) (by decide)
       replace h := h.call hb1
       rw [f9]
       clear hf hn1 hb1 f9 kf kz ky k2 f2 fz fy HC HP
       refine wpAny_end (by kernel_rfl) ?_
       refine NoPanic.normal ?_
       go_wp2_with fail
       refine chart_any.mono ?_
       rintro _ w11 ⟨_, rfl, hm, hb⟩
       have HM := Lib.hid (mob_up hm (show 66 ≤ 80 by decide))
       obtain ⟨p0, q0, p1, q1, p2, q2, p3, q3, p4, q4, p5, q5, p6, q6, p7, q7, p8, q8, p9, q9, p10, q10, p11, q11, p12, q12, p13, q13, p14, q14, p15, q15, rfl, _⟩ := hm
       replace h := h.call hb
       clear hb
       obtain ⟨cn, hcn⟩ : ∃ cn, cn = chart.turns := ⟨_, rfl⟩
       rw [← hcn] at HM ⊢
       clear hcn
       obtain ⟨pp, hp, _, hp1, _⟩ := chart_send HZ.out
       obtain ⟨qq, hq, _, hq1, _⟩ := chart_send HY.out
       have HA := Lib.hid (And.intro hp (And.intro hq (And.intro hp1 hq1)))
       clear hp hq hp1 hq1
       go_wp2_with (first | (replace h := h.new 29 #[.bool false, .string ⟨#[]⟩, .bool false, .string ⟨#[]⟩, .bool false, .string ⟨#[]⟩, .bool false, .string ⟨#[]⟩, .bool false, .string ⟨#[]⟩, .bool false, .string ⟨#[]⟩, .bool false, .string ⟨#[]⟩, .bool false, .string ⟨#[]⟩, .bool false, .string ⟨#[]⟩, .bool false, .string ⟨#[]⟩, .bool false, .string ⟨#[]⟩, .bool false, .string ⟨#[]⟩, .bool false, .string ⟨#[]⟩, .bool false, .string ⟨#[]⟩, .bool false, .string ⟨#[]⟩, .bool false, .string ⟨#[]⟩, .bool false]; refine wpList_store_all (by rfl) 29 (.tmp 8) (.tmp 84) (by rfl) #[.bool p0, .string q0, .bool p1, .string q1, .bool p2, .string q2, .bool p3, .string q3, .bool p4, .string q4, .bool p5, .string q5, .bool p6, .string q6, .bool p7, .string q7, .bool p8, .string q8, .bool p9, .string q9, .bool p10, .string q10, .bool p11, .string q11, .bool p12, .string q12, .bool p13, .string q13, .bool p14, .string q14, .bool p15, .string q15, .bool cn] (by rfl) (by rfl) (h.get 0 rfl) (by simp) (by kernel_rfl) (by simp [Value.oneCell', ptr]) ?_; intro V3 k9 hg9; replace h := h.put 0 rfl (by unfold OwnT; decide) k9 hg9; simp only [List.set_cons_succ, List.set_cons_zero] at h; clear k9 hg9) | (refine wpList_load_all (by rfl) 29 (.tmp 8) (by rfl) (by rfl) _ (h.get 0 rfl) Tryz.underlying29 rfl (by kernel_rfl) ?_) | (refine wpList_load_part (by rfl) 27 (.tmp 88) (by rfl) _ 0 (by rfl) _ _ #[.bool b0, .string s0, .bool b1, .string s1, .bool b2, .string s2, .bool b3, .string s3] _ (h.get 5 rfl) (by rfl) Tryz.underlying27 rfl (by kernel_rfl) ?_))
       refine (at_any (n := 80) HM.out ⟨_, _, _, _, _, _, _, _, rfl, G0.out.1, G0.out.2⟩ chart_det chart_form HA.out.1 (by decide)).mono ?_
       rintro _ w12 ⟨_, rfl, ⟨d0, e0, d1, e1, d2, e2, d3, e3, rfl, F0, F1⟩, hb⟩
       replace h := h.call hb
       have GP := Lib.hid (And.intro F0 F1)
       clear hb F0 F1
       go_wp2_with (first | (replace h := h.new 56 #[.bool false, .bool false, .string ⟨#[]⟩, .bool false, .string ⟨#[]⟩, .bool false, .string ⟨#[]⟩, .bool false, .string ⟨#[]⟩]; refine wpList_store_all (by rfl) 56 (.tmp 9) (.tmp 92) (by rfl) #[.bool false, .bool d0, .string e0, .bool d1, .string e1, .bool d2, .string e2, .bool d3, .string e3] (by rfl) (by rfl) (h.get 0 rfl) (by simp) (by kernel_rfl) (by simp [Value.oneCell', ptr]) ?_; intro V4 k9 hg9; replace h := h.put 0 rfl (by unfold OwnT; decide) k9 hg9; simp only [List.set_cons_succ, List.set_cons_zero] at h; clear k9 hg9) | (refine wpList_load_all (by rfl) 29 (.tmp 8) (by rfl) (by rfl) _ (h.get 1 rfl) Tryz.underlying29 rfl (by kernel_rfl) ?_) | (refine wpList_load_part (by rfl) 27 (.tmp 96) (by rfl) _ 8 (by rfl) _ _ #[.bool b4, .string s4, .bool b5, .string s5, .bool b6, .string s6, .bool b7, .string s7] _ (h.get 6 rfl) (by rfl) Tryz.underlying27 rfl (by kernel_rfl) ?_))
       refine (at_any (n := 80) HM.out ⟨_, _, _, _, _, _, _, _, rfl, G1.out.1, G1.out.2⟩ chart_det chart_form HA.out.2.1 (by decide)).mono ?_
       rintro _ w13 ⟨_, rfl, ⟨f0, g0, f1, g1, f2, g2, f3, g3, rfl, F0, F1⟩, hb⟩
       replace h := h.call hb
       have GQ := Lib.hid (And.intro F0 F1)
       clear hb F0 F1
       go_wp2_with (first | (replace h := h.new 56 #[.bool false, .bool false, .string ⟨#[]⟩, .bool false, .string ⟨#[]⟩, .bool false, .string ⟨#[]⟩, .bool false, .string ⟨#[]⟩]; refine wpList_store_all (by rfl) 56 (.tmp 11) (.tmp 100) (by rfl) #[.bool false, .bool f0, .string g0, .bool f1, .string g1, .bool f2, .string g2, .bool f3, .string g3] (by rfl) (by rfl) (h.get 0 rfl) (by simp) (by kernel_rfl) (by simp [Value.oneCell', ptr]) ?_; intro V5 k9 hg9; replace h := h.put 0 rfl (by unfold OwnT; decide) k9 hg9; simp only [List.set_cons_succ, List.set_cons_zero] at h; clear k9 hg9; have k0 := (h.get 1 rfl).cell 0; have m0 := (h.get 0 rfl).cell 0) | (refine wpList_load_part (by rfl) 27 (.tmp 121) (by rfl) _ 1 (by rfl) _ _ #[.bool d0, .string e0, .bool d1, .string e1, .bool d2, .string e2, .bool d3, .string e3] _ (h.get 1 rfl) (by rfl) Tryz.underlying27 rfl (by kernel_rfl) ?_) | (refine wpList_load_part (by rfl) 27 (.tmp 123) (by rfl) _ 1 (by rfl) _ _ #[.bool f0, .string g0, .bool f1, .string g1, .bool f2, .string g2, .bool f3, .string g3] _ (h.get 0 rfl) (by rfl) Tryz.underlying27 rfl (by kernel_rfl) ?_))
       clear k0 m0
       refine (far_round2 (n := 64 * 80 + 26) ⟨_, _, _, _, _, _, _, _, rfl, GP.out.1, GP.out.2⟩ ⟨_, _, _, _, _, _, _, _, rfl, GQ.out.1, GQ.out.2⟩ HA.out.2.2.1 HA.out.2.2.2 (far_chart HZ.out HY.out HA.out.1 HA.out.2.1) HS.out (by decide)).mono ?_
       rintro _ w14 ⟨v9, rfl, hv, hb⟩
       have e := IsFrac.same hv FF.out
       subst e
       replace h := h.call hb
       clear hb hv
       go_wp2_with (first | (replace h := h.new 25 #[.bool false, .string ⟨#[]⟩, .bool false, .string ⟨#[]⟩]; refine wpList_store_all (by rfl) 25 (.tmp 13) (.tmp 126) (by rfl) #[.bool u0, .string r0, .bool u1, .string r1] (by rfl) (by rfl) (h.get 0 rfl) (by simp) (by kernel_rfl) (by simp [Value.oneCell', ptr]) ?_; intro V6 k9 hg9; replace h := h.put 0 rfl (by unfold OwnT; decide) k9 hg9; simp only [List.set_cons_succ, List.set_cons_zero] at h; clear k9 hg9; have k0 := (h.get 0 rfl).cell 0; have k1 := (h.get 0 rfl).cell 1; have k2 := (h.get 0 rfl).cell 2; have k3 := (h.get 0 rfl).cell 3; have m0 := (h.get 5 rfl).cell 0; have m1 := (h.get 5 rfl).cell 1; have m2 := (h.get 5 rfl).cell 2; have m3 := (h.get 5 rfl).cell 3) | (refine wpList_load_part (by rfl) 29 (.tmp 135) (by rfl) _ 16 (by rfl) _ _ #[.bool c0, .string t0, .bool c1, .string t1, .bool c2, .string t2, .bool c3, .string t3, .bool c4, .string t4, .bool c5, .string t5, .bool c6, .string t6, .bool c7, .string t7, .bool c8, .string t8, .bool c9, .string t9, .bool c10, .string t10, .bool c11, .string t11, .bool c12, .string t12, .bool c13, .string t13, .bool c14, .string t14, .bool c15, .string t15, .bool tn] _ (h.get 8 rfl) (by kernel_rfl) Tryz.underlying29 rfl (by kernel_rfl) ?_))
       clear k0 k1 k2 k3 m0 m1 m2 m3
       refine mapmay10.mono ?_
       rintro _ w15 ⟨r, rfl, hr, hb⟩
       replace h := h.call hb
       have HR := Lib.hid hr
       clear hb hr
       cases r
       ·go_wp2_with fail
        refine alive_any.mono ?_
        rintro _ wA ⟨rfl, hb⟩
        replace h := h.call hb
        clear hb
        go_wp2_with fail
        go_ret
        exact ⟨rfl, h.bel⟩
       ·obtain ⟨m, hm, hd, hf⟩ := HR.out (by simp)
        have HMm := Lib.hid (And.intro hm (And.intro hd hf))
        clear hm hd hf HR
        go_wp2_with (refine wpList_load_part (by rfl) 29 (.tmp 141) (by rfl) _ 16 (by rfl) _ _ #[.bool c0, .string t0, .bool c1, .string t1, .bool c2, .string t2, .bool c3, .string t3, .bool c4, .string t4, .bool c5, .string t5, .bool c6, .string t6, .bool c7, .string t7, .bool c8, .string t8, .bool c9, .string t9, .bool c10, .string t10, .bool c11, .string t11, .bool c12, .string t12, .bool c13, .string t13, .bool c14, .string t14, .bool c15, .string t15, .bool tn] _ (h.get 8 rfl) (by kernel_rfl) Tryz.underlying29 rfl (by kernel_rfl) ?_)
        refine (keeps_any HMm.out.1 HMm.out.2.1 HMm.out.2.2 (by decide)).mono ?_
        rintro _ w16 ⟨r, rfl, hr, hb⟩
        replace h := h.call hb
        have HK := Lib.hid hr
        clear hb hr
        cases r
        ·go_wp2_with fail
         refine alive_any.mono ?_
         rintro _ wA ⟨rfl, hb⟩
         replace h := h.call hb
         clear hb
         go_wp2_with fail
         go_ret
         exact ⟨rfl, h.bel⟩
        ·have KU := HK.out (by simp)
         obtain ⟨aa, _, ha, _, _, _, _, _, ha1⟩ := keeps_send KU HZ.out
         obtain ⟨bb, _, hb9, _, _, _, _, _, hb1⟩ := keeps_send KU HY.out
         have HB := Lib.hid (And.intro ha (And.intro hb9 (And.intro ha1 (And.intro hb1 (far_keeps KU HZ.out HY.out ha hb9)))))
         clear ha hb9 ha1 hb1 KU HK
         go_wp2_with (first | (refine wpList_load_part (by rfl) 29 (.tmp 158) (by rfl) _ 16 (by rfl) _ _ #[.bool c0, .string t0, .bool c1, .string t1, .bool c2, .string t2, .bool c3, .string t3, .bool c4, .string t4, .bool c5, .string t5, .bool c6, .string t6, .bool c7, .string t7, .bool c8, .string t8, .bool c9, .string t9, .bool c10, .string t10, .bool c11, .string t11, .bool c12, .string t12, .bool c13, .string t13, .bool c14, .string t14, .bool c15, .string t15, .bool tn] _ (h.get 8 rfl) (by kernel_rfl) Tryz.underlying29 rfl (by kernel_rfl) ?_) | (refine wpList_load_part (by rfl) 27 (.tmp 160) (by rfl) _ 0 (by rfl) _ _ #[.bool b0, .string s0, .bool b1, .string s1, .bool b2, .string s2, .bool b3, .string s3] _ (h.get 8 rfl) (by rfl) Tryz.underlying27 rfl (by kernel_rfl) ?_))
         refine (at_any (n := 80) HMm.out.1 ⟨_, _, _, _, _, _, _, _, rfl, G0.out.1, G0.out.2⟩ HMm.out.2.1 HMm.out.2.2 HB.out.1 (by decide)).mono ?_
         rintro _ w17 ⟨_, rfl, ⟨h0, i0, h1, i1, h2, i2, h3, i3, rfl, F0, F1⟩, hb⟩
         replace h := h.call hb
         have GA := Lib.hid (And.intro F0 F1)
         clear hb F0 F1
         go_wp2_with (first | (replace h := h.new 56 #[.bool false, .bool false, .string ⟨#[]⟩, .bool false, .string ⟨#[]⟩, .bool false, .string ⟨#[]⟩, .bool false, .string ⟨#[]⟩]; refine wpList_store_all (by rfl) 56 (.tmp 15) (.tmp 164) (by rfl) #[.bool false, .bool h0, .string i0, .bool h1, .string i1, .bool h2, .string i2, .bool h3, .string i3] (by rfl) (by rfl) (h.get 0 rfl) (by simp) (by kernel_rfl) (by simp [Value.oneCell', ptr]) ?_; intro V7 k9 hg9; replace h := h.put 0 rfl (by unfold OwnT; decide) k9 hg9; simp only [List.set_cons_succ, List.set_cons_zero] at h; clear k9 hg9) | (refine wpList_load_part (by rfl) 29 (.tmp 167) (by rfl) _ 16 (by rfl) _ _ #[.bool c0, .string t0, .bool c1, .string t1, .bool c2, .string t2, .bool c3, .string t3, .bool c4, .string t4, .bool c5, .string t5, .bool c6, .string t6, .bool c7, .string t7, .bool c8, .string t8, .bool c9, .string t9, .bool c10, .string t10, .bool c11, .string t11, .bool c12, .string t12, .bool c13, .string t13, .bool c14, .string t14, .bool c15, .string t15, .bool tn] _ (h.get 9 rfl) (by kernel_rfl) Tryz.underlying29 rfl (by kernel_rfl) ?_) | (refine wpList_load_part (by rfl) 27 (.tmp 169) (by rfl) _ 8 (by rfl) _ _ #[.bool b4, .string s4, .bool b5, .string s5, .bool b6, .string s6, .bool b7, .string s7] _ (h.get 9 rfl) (by rfl) Tryz.underlying27 rfl (by kernel_rfl) ?_))
         refine (at_any (n := 80) HMm.out.1 ⟨_, _, _, _, _, _, _, _, rfl, G1.out.1, G1.out.2⟩ HMm.out.2.1 HMm.out.2.2 HB.out.2.1 (by decide)).mono ?_
         rintro _ w18 ⟨_, rfl, ⟨j0, k0, j1, k1, j2, k2, j3, k3, rfl, F0, F1⟩, hb⟩
         replace h := h.call hb
         have GB := Lib.hid (And.intro F0 F1)
         clear hb F0 F1
         go_wp2_with (first | (replace h := h.new 56 #[.bool false, .bool false, .string ⟨#[]⟩, .bool false, .string ⟨#[]⟩, .bool false, .string ⟨#[]⟩, .bool false, .string ⟨#[]⟩]; refine wpList_store_all (by rfl) 56 (.tmp 16) (.tmp 173) (by rfl) #[.bool false, .bool j0, .string k0, .bool j1, .string k1, .bool j2, .string k2, .bool j3, .string k3] (by rfl) (by rfl) (h.get 0 rfl) (by simp) (by kernel_rfl) (by simp [Value.oneCell', ptr]) ?_; intro V8 k9 hg9; replace h := h.put 0 rfl (by unfold OwnT; decide) k9 hg9; simp only [List.set_cons_succ, List.set_cons_zero] at h; clear k9 hg9; have ka0 := (h.get 1 rfl).cell 0; have ma0 := (h.get 0 rfl).cell 0) | (refine wpList_load_part (by rfl) 27 (.tmp 190) (by rfl) _ 1 (by rfl) _ _ #[.bool h0, .string i0, .bool h1, .string i1, .bool h2, .string i2, .bool h3, .string i3] _ (h.get 1 rfl) (by rfl) Tryz.underlying27 rfl (by kernel_rfl) ?_) | (refine wpList_load_part (by rfl) 27 (.tmp 192) (by rfl) _ 1 (by rfl) _ _ #[.bool j0, .string k0, .bool j1, .string k1, .bool j2, .string k2, .bool j3, .string k3] _ (h.get 0 rfl) (by rfl) Tryz.underlying27 rfl (by kernel_rfl) ?_))
         clear ka0 ma0
         refine (far_up2 (n := 64 * 80 + 26) ⟨_, _, _, _, _, _, _, _, rfl, GA.out.1, GA.out.2⟩ ⟨_, _, _, _, _, _, _, _, rfl, GB.out.1, GB.out.2⟩ HB.out.2.2.1 HB.out.2.2.2.1 HB.out.2.2.2.2 HS.out (by decide)).mono ?_
         rintro _ w19 ⟨v9, rfl, hv, hb⟩
         have e := IsFrac.same hv FF.out
         subst e
         replace h := h.call hb
         clear hb hv
         go_wp2_with (replace h := h.new 25 #[.bool false, .string ⟨#[]⟩, .bool false, .string ⟨#[]⟩]; refine wpList_store_all (by rfl) 25 (.tmp 17) (.tmp 195) (by rfl) #[.bool u0, .string r0, .bool u1, .string r1] (by rfl) (by rfl) (h.get 0 rfl) (by simp) (by kernel_rfl) (by simp [Value.oneCell', ptr]) ?_; intro V9 k9 hg9; replace h := h.put 0 rfl (by unfold OwnT; decide) k9 hg9; simp only [List.set_cons_succ, List.set_cons_zero] at h; clear k9 hg9; have kx0 := (h.get 0 rfl).cell 0; have kx1 := (h.get 0 rfl).cell 1; have kx2 := (h.get 0 rfl).cell 2; have kx3 := (h.get 0 rfl).cell 3; have m0 := (h.get 8 rfl).cell 0; have m1 := (h.get 8 rfl).cell 1; have m2 := (h.get 8 rfl).cell 2; have m3 := (h.get 8 rfl).cell 3)
         refine alive_any.mono ?_
         rintro _ wA ⟨rfl, hb⟩
         replace h := h.call hb
         clear hb
         go_wp2_with fail
         go_ret
         exact ⟨rfl, h.bel⟩
end Go.Proofs.YtebpggfccljagaaGreat
namespace Go.Proofs.YtebpggfccljagaaGreat
open Go.ChangeShapes Go.WideShapes Go.ChangeAt Go.RowKit
theorem own : ownKnob Tryz.prog.godebug = none := by kernel_rfl
theorem trodAll_keep {H : Type} {enc : TypeId × Value → H} {P : Program} (hl : laidOutB P = true) {W W' : World} (hb : Below W.heap.size W W') {sp : Nat → Bool} :
  ∀ (ts : List TypeId) (vs : List Value) (ds : List (DataW H)) (ps : List MemPlace), DataW.TrodAll enc P W 0 (fun _ => true) true ts vs ds ps → (∀ t ∈ ts, P.readableRec t = true ∧ t < P.types.size) →
   (∀ x ∈ ps, x.block < W.heap.size) → (∀ x ∈ ps, sp x.block = true) → DataW.TrodAll enc P W' 0 sp true ts vs ds ps
 | [], vs, ds, ps, h, _, _, _ => by
  obtain ⟨rfl, rfl, rfl⟩ := trodAll_nil h
  exact trodAll_mk0
 | t :: ts, vs, ds, ps, h, ht, hlt, hsp => by
  obtain ⟨v, vs', d, ds', p, q, rfl, rfl, rfl, h0, h1⟩ := trodAll_cons h
  refine trodAll_cons_mk ?_ (trodAll_keep hl hb ts vs' ds' q h1 (fun t' h' => ht t' (List.mem_cons_of_mem _ h')) (fun x hx => hlt x (List.mem_append_right _ hx)) (fun x hx => hsp x (List.mem_append_right _ hx)))
  obtain ⟨hr, hrow⟩ := ht t List.mem_cons_self
  exact WideElems.Trod_stays hl hr hrow h0 (fun x hx => hb.same (hlt x (List.mem_append_left _ hx))) (fun x hx => hsp x (List.mem_append_left _ hx))
theorem laidOut : laidOutB Tryz.prog = true := by kernel_rfl
set_option maxRecDepth 100000 in
theorem law_post {H : Type} {enc : TypeId × Value → H} {f : Func} {s : ChangeSpec} {W W' : World} {args : Array Value} {ds gs : List (DataW H)} {before : List MemPlace} {bt : TypeId}
  (hW : DataW.Whole enc Tryz.prog f.params.toList s.vars false W args.toList ds gs before) (hb : Below W.heap.size W W') (hv : s.vars = []) (hrt : f.resultTypes = #[bt]) (hbt : Tryz.prog.underlying bt = some .bool)
  (hpar : ∀ t ∈ f.params.toList, Tryz.prog.readableRec t = true ∧ t < Tryz.prog.types.size)
  (hres : (s.fn H (ds ++ gs)).results = [.lit (.bool true)]) (hargs : (s.fn H (ds ++ gs)).args = ds) (hvs : (s.fn H (ds ++ gs)).vars = []) :
  s.post enc Tryz.prog f false true false false W args (.bool true) W' := by
 have hlt : ∀ p ∈ before, p.block < W.heap.size := fun p hp => hW.lt p hp
 have hW' := hW
 obtain ⟨p, q, hA, hV, rfl, hfz, hnd⟩ := hW
 have hq : q = [] := by
  rw [hv] at hV
  exact (trodVars_none hV).2
 subst hq
 refine post_of_below (pa := p) (pv := []) hW' (fun _ _ _ => ?_) (fun sp hsp => ?_) (fun sp hsp => ?_) rfl hb ?_
 ·rw [hres, hrt]
  exact trodAll_cons_mk (shut_bool hbt _) trodAll_mk0
 ·rw [hargs]
  exact trodAll_keep laidOut hb _ _ _ _ hA hpar (fun x hx => hlt x (List.mem_append_left _ hx)) (fun x hx => hsp x (List.mem_append_left _ hx))
 ·rw [hv, hvs]
  rfl
 ·exact ok_one hrt rfl (okWide_bool_mk hbt _)
end Go.Proofs.YtebpggfccljagaaGreat
namespace Go.Proofs.YtebpggfccljagaaGreat.Opened
open Go.ChangeShapes Go.WideShapes Go.ChangeAt Go.RowKit
section
variable {H : Type} {enc : TypeId × Value → H} {w : World} {base fuel : Nat} {spare : Nat → Bool} {held : Bool}
theorem c4 : Tryz.prog.cellsOf 4 = 1 := by kernel_rfl
theorem c9 : Tryz.prog.cellsOf 9 = 1 := by kernel_rfl
theorem c23 : Tryz.prog.cellsOf 23 = 2 := by kernel_rfl
theorem c25 : Tryz.prog.cellsOf 25 = 4 := by kernel_rfl
theorem c27 : Tryz.prog.cellsOf 27 = 8 := by kernel_rfl
theorem c29 : Tryz.prog.cellsOf 29 = 33 := by kernel_rfl
theorem c31 : Tryz.prog.cellsOf 31 = 49 := by kernel_rfl
theorem cut1 {l : List Value} {a : Nat} (h : l.length = a) (o b : Nat) (hob : o + b = a) : l.drop o = (l.drop o).take b := (List.take_of_length_le (by rw [List.length_drop]; omega)).symm
theorem cut2 (l : List Value) (o b : Nat) : l.drop o = (l.drop o).take b ++ l.drop (o + b) := by
 have := (List.take_append_drop b (l.drop o)).symm
 rwa [List.drop_drop] at this
set_option maxRecDepth 100000 in
theorem open_whole {cs : List Value} {x : DataW H × List MemPlace} (h : DataW.trod enc Tryz.prog w base spare held fuel 23 cs = some x) : ∃ (b0 : Bool) (s0 : ByteArray), cs = [.bool b0, .string s0] := by
 obtain ⟨xs, n, _, rfl, hl, hx, hf⟩ := DataW.trod_struct Tryz.underlying23 h
 rw [c23] at hl
 match xs, hx with
 | [x0, x1], _ =>
  have h0 : DataW.trod enc Tryz.prog w base spare held n 4 ((List.drop 0 cs).take (Tryz.prog.cellsOf 4)) = some x0 := hf 0 _ rfl
  rw [c4] at h0
  obtain ⟨b0, e0, _⟩ := DataW.trod_bool Tryz.underlying4 h0
  have h1 : DataW.trod enc Tryz.prog w base spare held n 9 ((List.drop 1 cs).take (Tryz.prog.cellsOf 9)) = some x1 := hf 1 _ rfl
  rw [c9] at h1
  obtain ⟨s0, e1, _, _⟩ := DataW.trod_string Tryz.underlying9 h1
  have g0 := cut2 cs 0 1
  rw [e0] at g0
  have g1 := cut1 hl 1 1 rfl
  rw [e1] at g1
  refine ⟨b0, s0, ?_⟩
  have g := (List.drop_zero (l := cs)).symm
  rw [g0] at g
  simp only [Nat.reduceAdd] at g
  rw [g1] at g
  exact g
set_option maxRecDepth 100000 in
theorem open_frac {cs : List Value} {x : DataW H × List MemPlace} (h : DataW.trod enc Tryz.prog w base spare held fuel 25 cs = some x) : ∃ (b0 : Bool) (s0 : ByteArray) (b1 : Bool) (s1 : ByteArray), cs = [.bool b0, .string s0, .bool b1, .string s1] := by
 obtain ⟨xs, n, _, rfl, hl, hx, hf⟩ := DataW.trod_struct Tryz.underlying25 h
 rw [c25] at hl
 match xs, hx with
 | [x0, x1], _ =>
  have h0 : DataW.trod enc Tryz.prog w base spare held n 23 ((List.drop 0 cs).take (Tryz.prog.cellsOf 23)) = some x0 := hf 0 _ rfl
  rw [c23] at h0
  obtain ⟨b0, s0, e0⟩ := open_whole h0
  have h1 : DataW.trod enc Tryz.prog w base spare held n 23 ((List.drop 2 cs).take (Tryz.prog.cellsOf 23)) = some x1 := hf 1 _ rfl
  rw [c23] at h1
  obtain ⟨b1, s1, e1⟩ := open_whole h1
  have g0 := cut2 cs 0 2
  rw [e0] at g0
  have g1 := cut1 hl 2 2 rfl
  rw [e1] at g1
  refine ⟨b0, s0, b1, s1, ?_⟩
  have g := (List.drop_zero (l := cs)).symm
  rw [g0] at g
  simp only [Nat.reduceAdd] at g
  rw [g1] at g
  exact g
set_option maxRecDepth 100000 in
theorem open_gauss {cs : List Value} {x : DataW H × List MemPlace} (h : DataW.trod enc Tryz.prog w base spare held fuel 27 cs = some x) : ∃ (b0 : Bool) (s0 : ByteArray) (b1 : Bool) (s1 : ByteArray) (b2 : Bool) (s2 : ByteArray) (b3 : Bool) (s3 : ByteArray), cs = [.bool b0, .string s0, .bool b1, .string s1, .bool b2, .string s2, .bool b3, .string s3] := by
 obtain ⟨xs, n, _, rfl, hl, hx, hf⟩ := DataW.trod_struct Tryz.underlying27 h
 rw [c27] at hl
 match xs, hx with
 | [x0, x1], _ =>
  have h0 : DataW.trod enc Tryz.prog w base spare held n 25 ((List.drop 0 cs).take (Tryz.prog.cellsOf 25)) = some x0 := hf 0 _ rfl
  rw [c25] at h0
  obtain ⟨b0, s0, b1, s1, e0⟩ := open_frac h0
  have h1 : DataW.trod enc Tryz.prog w base spare held n 25 ((List.drop 4 cs).take (Tryz.prog.cellsOf 25)) = some x1 := hf 1 _ rfl
  rw [c25] at h1
  obtain ⟨b2, s2, b3, s3, e1⟩ := open_frac h1
  have g0 := cut2 cs 0 4
  rw [e0] at g0
  have g1 := cut1 hl 4 4 rfl
  rw [e1] at g1
  refine ⟨b0, s0, b1, s1, b2, s2, b3, s3, ?_⟩
  have g := (List.drop_zero (l := cs)).symm
  rw [g0] at g
  simp only [Nat.reduceAdd] at g
  rw [g1] at g
  exact g
set_option maxRecDepth 100000 in
theorem open_mob {cs : List Value} {x : DataW H × List MemPlace} (h : DataW.trod enc Tryz.prog w base spare held fuel 29 cs = some x) : ∃ (b0 : Bool) (s0 : ByteArray) (b1 : Bool) (s1 : ByteArray) (b2 : Bool) (s2 : ByteArray) (b3 : Bool) (s3 : ByteArray) (b4 : Bool) (s4 : ByteArray) (b5 : Bool) (s5 : ByteArray) (b6 : Bool) (s6 : ByteArray) (b7 : Bool) (s7 : ByteArray) (b8 : Bool) (s8 : ByteArray) (b9 : Bool) (s9 : ByteArray) (b10 : Bool) (s10 : ByteArray) (b11 : Bool) (s11 : ByteArray) (b12 : Bool) (s12 : ByteArray) (b13 : Bool) (s13 : ByteArray) (b14 : Bool) (s14 : ByteArray) (b15 : Bool) (s15 : ByteArray) (tn : Bool), cs = [.bool b0, .string s0, .bool b1, .string s1, .bool b2, .string s2, .bool b3, .string s3, .bool b4, .string s4, .bool b5, .string s5, .bool b6, .string s6, .bool b7, .string s7, .bool b8, .string s8, .bool b9, .string s9, .bool b10, .string s10, .bool b11, .string s11, .bool b12, .string s12, .bool b13, .string s13, .bool b14, .string s14, .bool b15, .string s15, .bool tn] := by
 obtain ⟨xs, n, _, rfl, hl, hx, hf⟩ := DataW.trod_struct Tryz.underlying29 h
 rw [c29] at hl
 match xs, hx with
 | [x0, x1, x2, x3, x4], _ =>
  have h0 : DataW.trod enc Tryz.prog w base spare held n 27 ((List.drop 0 cs).take (Tryz.prog.cellsOf 27)) = some x0 := hf 0 _ rfl
  rw [c27] at h0
  obtain ⟨b0, s0, b1, s1, b2, s2, b3, s3, e0⟩ := open_gauss h0
  have h1 : DataW.trod enc Tryz.prog w base spare held n 27 ((List.drop 8 cs).take (Tryz.prog.cellsOf 27)) = some x1 := hf 1 _ rfl
  rw [c27] at h1
  obtain ⟨b4, s4, b5, s5, b6, s6, b7, s7, e1⟩ := open_gauss h1
  have h2 : DataW.trod enc Tryz.prog w base spare held n 27 ((List.drop 16 cs).take (Tryz.prog.cellsOf 27)) = some x2 := hf 2 _ rfl
  rw [c27] at h2
  obtain ⟨b8, s8, b9, s9, b10, s10, b11, s11, e2⟩ := open_gauss h2
  have h3 : DataW.trod enc Tryz.prog w base spare held n 27 ((List.drop 24 cs).take (Tryz.prog.cellsOf 27)) = some x3 := hf 3 _ rfl
  rw [c27] at h3
  obtain ⟨b12, s12, b13, s13, b14, s14, b15, s15, e3⟩ := open_gauss h3
  have h4 : DataW.trod enc Tryz.prog w base spare held n 4 ((List.drop 32 cs).take (Tryz.prog.cellsOf 4)) = some x4 := hf 4 _ rfl
  rw [c4] at h4
  obtain ⟨tn, e4, _⟩ := DataW.trod_bool Tryz.underlying4 h4
  have g0 := cut2 cs 0 8
  rw [e0] at g0
  have g1 := cut2 cs 8 8
  rw [e1] at g1
  have g2 := cut2 cs 16 8
  rw [e2] at g2
  have g3 := cut2 cs 24 8
  rw [e3] at g3
  have g4 := cut1 hl 32 1 rfl
  rw [e4] at g4
  refine ⟨b0, s0, b1, s1, b2, s2, b3, s3, b4, s4, b5, s5, b6, s6, b7, s7, b8, s8, b9, s9, b10, s10, b11, s11, b12, s12, b13, s13, b14, s14, b15, s15, tn, ?_⟩
  have g := (List.drop_zero (l := cs)).symm
  rw [g0] at g
  simp only [Nat.reduceAdd] at g
  rw [g1] at g
  simp only [Nat.reduceAdd] at g
  rw [g2] at g
  simp only [Nat.reduceAdd] at g
  rw [g3] at g
  simp only [Nat.reduceAdd] at g
  rw [g4] at g
  exact g
set_option maxRecDepth 100000 in
theorem open_far {cs : List Value} {x : DataW H × List MemPlace} (h : DataW.trod enc Tryz.prog w base spare held fuel 31 cs = some x) : ∃ (b0 : Bool) (s0 : ByteArray) (b1 : Bool) (s1 : ByteArray) (b2 : Bool) (s2 : ByteArray) (b3 : Bool) (s3 : ByteArray) (b4 : Bool) (s4 : ByteArray) (b5 : Bool) (s5 : ByteArray) (b6 : Bool) (s6 : ByteArray) (b7 : Bool) (s7 : ByteArray) (c0 : Bool) (t0 : ByteArray) (c1 : Bool) (t1 : ByteArray) (c2 : Bool) (t2 : ByteArray) (c3 : Bool) (t3 : ByteArray) (c4 : Bool) (t4 : ByteArray) (c5 : Bool) (t5 : ByteArray) (c6 : Bool) (t6 : ByteArray) (c7 : Bool) (t7 : ByteArray) (c8 : Bool) (t8 : ByteArray) (c9 : Bool) (t9 : ByteArray) (c10 : Bool) (t10 : ByteArray) (c11 : Bool) (t11 : ByteArray) (c12 : Bool) (t12 : ByteArray) (c13 : Bool) (t13 : ByteArray) (c14 : Bool) (t14 : ByteArray) (c15 : Bool) (t15 : ByteArray) (tn : Bool), cs = [.bool b0, .string s0, .bool b1, .string s1, .bool b2, .string s2, .bool b3, .string s3, .bool b4, .string s4, .bool b5, .string s5, .bool b6, .string s6, .bool b7, .string s7, .bool c0, .string t0, .bool c1, .string t1, .bool c2, .string t2, .bool c3, .string t3, .bool c4, .string t4, .bool c5, .string t5, .bool c6, .string t6, .bool c7, .string t7, .bool c8, .string t8, .bool c9, .string t9, .bool c10, .string t10, .bool c11, .string t11, .bool c12, .string t12, .bool c13, .string t13, .bool c14, .string t14, .bool c15, .string t15, .bool tn] := by
 obtain ⟨xs, n, _, rfl, hl, hx, hf⟩ := DataW.trod_struct Tryz.underlying31 h
 rw [c31] at hl
 match xs, hx with
 | [x0, x1, x2], _ =>
  have h0 : DataW.trod enc Tryz.prog w base spare held n 27 ((List.drop 0 cs).take (Tryz.prog.cellsOf 27)) = some x0 := hf 0 _ rfl
  rw [c27] at h0
  obtain ⟨b0, s0, b1, s1, b2, s2, b3, s3, e0⟩ := open_gauss h0
  have h1 : DataW.trod enc Tryz.prog w base spare held n 27 ((List.drop 8 cs).take (Tryz.prog.cellsOf 27)) = some x1 := hf 1 _ rfl
  rw [c27] at h1
  obtain ⟨b4, s4, b5, s5, b6, s6, b7, s7, e1⟩ := open_gauss h1
  have h2 : DataW.trod enc Tryz.prog w base spare held n 29 ((List.drop 16 cs).take (Tryz.prog.cellsOf 29)) = some x2 := hf 2 _ rfl
  rw [c29] at h2
  obtain ⟨c0, t0, c1, t1, c2, t2, c3, t3, c4, t4, c5, t5, c6, t6, c7, t7, c8, t8, c9, t9, c10, t10, c11, t11, c12, t12, c13, t13, c14, t14, c15, t15, tn, e2⟩ := open_mob h2
  have g0 := cut2 cs 0 8
  rw [e0] at g0
  have g1 := cut2 cs 8 8
  rw [e1] at g1
  have g2 := cut1 hl 16 33 rfl
  rw [e2] at g2
  refine ⟨b0, s0, b1, s1, b2, s2, b3, s3, b4, s4, b5, s5, b6, s6, b7, s7, c0, t0, c1, t1, c2, t2, c3, t3, c4, t4, c5, t5, c6, t6, c7, t7, c8, t8, c9, t9, c10, t10, c11, t11, c12, t12, c13, t13, c14, t14, c15, t15, tn, ?_⟩
  have g := (List.drop_zero (l := cs)).symm
  rw [g0] at g
  simp only [Nat.reduceAdd] at g
  rw [g1] at g
  simp only [Nat.reduceAdd] at g
  rw [g2] at g
  exact g
set_option maxRecDepth 100000 in
theorem open_arg {W : World} {b9 : Nat} {v : Value} {d : DataW H} {p : List MemPlace} {P0 : Nat → Bool} (hval : Value.okWide Tryz.prog W .any b9 31 v) (h : DataW.Trod enc Tryz.prog W 0 P0 true 31 v d p) :
  ∃ (b0 : Bool) (s0 : ByteArray) (b1 : Bool) (s1 : ByteArray) (b2 : Bool) (s2 : ByteArray) (b3 : Bool) (s3 : ByteArray) (b4 : Bool) (s4 : ByteArray) (b5 : Bool) (s5 : ByteArray) (b6 : Bool) (s6 : ByteArray) (b7 : Bool) (s7 : ByteArray) (c0 : Bool) (t0 : ByteArray) (c1 : Bool) (t1 : ByteArray) (c2 : Bool) (t2 : ByteArray) (c3 : Bool) (t3 : ByteArray) (c4 : Bool) (t4 : ByteArray) (c5 : Bool) (t5 : ByteArray) (c6 : Bool) (t6 : ByteArray) (c7 : Bool) (t7 : ByteArray) (c8 : Bool) (t8 : ByteArray) (c9 : Bool) (t9 : ByteArray) (c10 : Bool) (t10 : ByteArray) (c11 : Bool) (t11 : ByteArray) (c12 : Bool) (t12 : ByteArray) (c13 : Bool) (t13 : ByteArray) (c14 : Bool) (t14 : ByteArray) (c15 : Bool) (t15 : ByteArray) (tn : Bool), v = .agg #[.bool b0, .string s0, .bool b1, .string s1, .bool b2, .string s2, .bool b3, .string s3, .bool b4, .string s4, .bool b5, .string s5, .bool b6, .string s6, .bool b7, .string s7, .bool c0, .string t0, .bool c1, .string t1, .bool c2, .string t2, .bool c3, .string t3, .bool c4, .string t4, .bool c5, .string t5, .bool c6, .string t6, .bool c7, .string t7, .bool c8, .string t8, .bool c9, .string t9, .bool c10, .string t10, .bool c11, .string t11, .bool c12, .string t12, .bool c13, .string t13, .bool c14, .string t14, .bool c15, .string t15, .bool tn] := by
 obtain ⟨cs, rfl, hsz⟩ := okWide_struct Tryz.underlying31 hval
 obtain ⟨fuel, hf⟩ := h
 obtain ⟨b0, s0, b1, s1, b2, s2, b3, s3, b4, s4, b5, s5, b6, s6, b7, s7, c0, t0, c1, t1, c2, t2, c3, t3, c4, t4, c5, t5, c6, t6, c7, t7, c8, t8, c9, t9, c10, t10, c11, t11, c12, t12, c13, t13, c14, t14, c15, t15, tn, hcs⟩ := open_far hf
 have ecs : cs = #[.bool b0, .string s0, .bool b1, .string s1, .bool b2, .string s2, .bool b3, .string s3, .bool b4, .string s4, .bool b5, .string s5, .bool b6, .string s6, .bool b7, .string s7, .bool c0, .string t0, .bool c1, .string t1, .bool c2, .string t2, .bool c3, .string t3, .bool c4, .string t4, .bool c5, .string t5, .bool c6, .string t6, .bool c7, .string t7, .bool c8, .string t8, .bool c9, .string t9, .bool c10, .string t10, .bool c11, .string t11, .bool c12, .string t12, .bool c13, .string t13, .bool c14, .string t14, .bool c15, .string t15, .bool tn] := by
  have : cs.toList = _ := hcs
  rw [← Array.toArray_toList (xs := cs), this]
 exact ⟨_, _, _, _, _, _, _, _, _, _, _, _, _, _, _, _, _, _, _, _, _, _, _, _, _, _, _, _, _, _, _, _, _, _, _, _, _, _, _, _, _, _, _, _, _, _, _, _, _, by rw [ecs]⟩
end
end Go.Proofs.YtebpggfccljagaaGreat.Opened
