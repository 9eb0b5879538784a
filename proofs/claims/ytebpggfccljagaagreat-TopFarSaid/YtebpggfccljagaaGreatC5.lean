import Derived.Test.YtebpggfccljagaaGreatC4
import Derived.Test.YtebpggfccljagaaGreatC1
import Derived.Deep.MidRow
import Derived.Deep.RegionHeld3
import Derived.Below
namespace Go.Proofs.YtebpggfccljagaaGreat
open Go.RowKit
open Wh
set_option linter.unusedSimpArgs false
theorem ratz_num {w : World} {g : Nat} (h : RatZ w g) : IntC w g 0 0 :=
 ⟨false, none, 0, 0, h.cell 0, h.cell 1, ⟨by simp, by simp [wds_zero]⟩, Nat.le_refl _, by omega, by simp only [Int.natAbs_zero, wds_zero]; exact ReadsW.none_ _ _ _⟩
theorem slw_one : 0 < (wds (1 : Int).natAbs).length := (len_pos (x := 1)).2 (by decide)
theorem isI_one (lo : Nat) : Steady IntZ false (IsI lo 1) where
 below := by
  rintro v w w' ⟨g, rfl, hl, h⟩ hb
  exact ⟨g, rfl, hl, h.below hb⟩
 off := by
  rintro v w w' r ⟨g, rfl, hl, h⟩ hv _ hg
  refine ⟨g, rfl, hl, h.off (IntZ.zero hv).slot hg (fun e => ?_)⟩
  subst e
  obtain ⟨s, A, n, c, hb, ⟨_, hn⟩, _⟩ := h
  have e := Option.some.inj (hb.symm.trans hv)
  injection e with e
  injection e with e
  injection e with _ e
  injection e with e _
  injection e with _ e _
  have := slw_one
  omega
set_option maxRecDepth 100000 in
set_option maxHeartbeats 4000000 in
theorem den0_any {w : World} {g : Nat} (h : RatZ w g) : Calls Tryz.prog 99 #[ptr g] w (NewI w 1) := by
 have c3 := h.cell 3
 have HN := Lib.hid (newint_any (w := w) (n := 1) (by decide) (by decide))
 clear h
 go_enter Tryz.func99, Tryz.ntmps99
 go_wp2_with fail
 refine HN.out.mono ?_
 rintro _ w1 ⟨rfl, hi, hb⟩
 go_wp2_with fail
 go_ret
 exact ⟨_, rfl, Nat.le_refl _, hi, hb⟩
set_option maxRecDepth 100000 in
set_option maxHeartbeats 4000000 in
theorem ratadd0_any {w : World} {g gy n : Nat} {y : Rat} (hx : RatZ w g) (hy : RatV w gy y) (hsy : Sz y n) (hn : n ≤ 10000000) :
  Calls Tryz.prog 94 #[ptr g, ptr g, ptr gy] w (PutsS w g y) := by
 have hly := hsy.lens hn
 have l0 : (wds (0 : Int).natAbs).length ≤ 900000000 := by simp [wds_zero]
 have l1 : (wds (1 : Int).natAbs).length ≤ 900000000 := Nat.le_trans (len_sz (n := 1) (by decide) (by decide)) (by decide)
 go_enter Tryz.func94, Tryz.ntmps94
 go_wp2_with fail
 refine wp_region_noPanic ?_
 refine wp_region_list (mk := ?mk) intZ_vgs [Is undef, Is (ptr g), Is (ptr g), Is (ptr g), Is (ptr gy), Is (.pointer (some ⟨gy, 2, none⟩)), IsI w.heap.size (0 * (y.den : Int))] [.fresh, .plain, .plain, .plain, .plain, .plain, .fills 0] 7 1 (fun w' => RatZ w' g ∧ RatV w' gy y) ⟨is_steady _ _ _, is_steady _ _ _, is_steady _ _ _, is_steady _ _ _, is_steady _ _ _, is_steady _ _ _, isI_steady _ _, trivial⟩ (by kernel_rfl) (by kernel_rfl) (by kernel_rfl) (by kernel_rfl) (by kernel_rfl) (by kernel_rfl) ?hmk (fun w' hb => ⟨hx.below hb hx.lt, hy.below hb⟩)
  (steps_all (steps_cons ?_ (steps_cons ?_ (steps_cons ?_ (steps_cons ?_ (steps_cons ?_ (steps_cons ?_ (steps_cons ?_ steps_nil)))))))) ?_
 case hmk =>
  intro u
  simp only [mkFrom, mkL, dstOf, List.range, List.range.loop, Act.put, List.setIfInBounds_toArray, List.set_cons_zero, List.set_cons_succ, List.getElem?_toArray, List.getElem?_cons_zero, List.getElem?_cons_succ, Option.bind_some]
  rfl
 ·refine step_new (o := Oper.mk (some 8) _ _ _ _ _) rfl rfl rfl (fun u w hc => ⟨.cells #[.bool false, .slice none 0 0] 151, ?_, Blk.new w 151 _⟩)
  go_simp
 ·refine step_is (o := Oper.mk (some 9) _ _ _ _ _) rfl rfl rfl rfl (fun u w hc hd => ?_)
  go_simp
 ·refine step_is (o := Oper.mk (some 10) _ _ _ _ _) rfl rfl rfl rfl (fun u w hc hd => ?_)
  have d1 : u 1 = _ := hd 1 (by kernel_rfl) (by decide)
  go_simp
 ·refine step_is (o := Oper.mk (some 11) _ _ _ _ _) rfl rfl rfl rfl (fun u w hc hd => ?_)
  have d2 : u 2 = _ := hd 2 (by kernel_rfl) (by decide)
  go_simp
 ·refine step_is (o := Oper.mk (some 12) _ _ _ _ _) rfl rfl rfl rfl (fun u w hc hd => ?_)
  go_simp
 ·refine step_call (o := Oper.mk (some 13) _ _ _ _ _) rfl rfl rfl (fun u w hc hd => ?_)
  have d4 : u 4 = _ := hd 4 (by kernel_rfl) (by decide)
  refine ⟨99, #[ptr gy], ?_, (den_any hc.2).mono ?_⟩
  ·go_simp
  ·rintro _ _ ⟨rfl, rfl⟩
   exact ⟨_, rfl, rfl, Below.refl _ _⟩
 ·refine step_fill (a := 0) (o := Oper.mk (some 14) _ _ _ _ _) rfl rfl rfl (fun u w g1 hc hd h0 hlo hv => ?_)
  have d3 : u 3 = _ := hd 3 (by kernel_rfl) (by decide)
  have d5 : u 5 = _ := hd 5 (by kernel_rfl) (by decide)
  refine ⟨116, #[ptr g1, (ptr g), (.pointer (some ⟨gy, 2, none⟩))], ?_, (mulC (IntZ.zero hv).slot (ratz_num hc.1) hc.2.den l0 hly.2).mono ?_⟩
  ·go_simp
  ·rintro _ w2 ⟨rfl, hi, hg⟩
   exact ⟨rfl, ⟨g1, rfl, hlo, hi⟩, hg⟩
 ·intro u w1 hb1 hf hn1
  obtain ⟨ga, f6, hga, hia⟩ : IsI _ _ (u 6) w1 := hf 6 (by decide) (by decide)
  rw [Int.zero_mul] at hia
  have Hia := Lib.hid (And.intro hia (And.intro hga hb1))
  have hx1 : RatZ w1 g := hx.below hb1 hx.lt
  have hy1 := hy.below hb1
  refine wpAny_tail (j := 7) (o := Oper.mk (some 7) _ _ _ _ _) rfl (by kernel_rfl) (fun K hK => ?_)
  rw [f6]
  clear hf hn1 hia hga hb1 f6
  go_simp
  refine hK.out _ _ ?_
  clear hK K
  refine wpAny_end (by kernel_rfl) ?_
  refine NoPanic.normal ?_
  go_wp2_with fail
  refine wp_region_noPanic ?_
  refine wp_region_list (mk := ?mk2) intZ_vgs [Is (ptr ga), Is (ptr ga), Is undef, Is (ptr gy), Is (ptr gy), Is (ptr gy), Is (ptr g), IsI w1.heap.size 1, IsI w1.heap.size (y.num * 1)] [.plain, .plain, .fresh, .plain, .plain, .plain, .plain, .plain, .fills 2] 9 1 (fun w' => RatZ w' g ∧ RatV w' gy y ∧ w1.heap.size ≤ w'.heap.size) ⟨is_steady _ _ _, is_steady _ _ _, is_steady _ _ _, is_steady _ _ _, is_steady _ _ _, is_steady _ _ _, is_steady _ _ _, isI_one _, isI_steady _ _, trivial⟩ (by kernel_rfl) (by kernel_rfl) (by kernel_rfl) (by kernel_rfl) (by kernel_rfl) (by kernel_rfl) ?hmk2 (fun w' hb => ⟨hx1.below hb hx1.lt, hy1.below hb, hb.size⟩)
   (steps_all (steps_cons ?_ (steps_cons ?_ (steps_cons ?_ (steps_cons ?_ (steps_cons ?_ (steps_cons ?_ (steps_cons ?_ (steps_cons ?_ (steps_cons ?_ steps_nil)))))))))) ?_
  case hmk2 =>
   intro u
   simp only [mkFrom, mkL, dstOf, List.range, List.range.loop, Act.put, List.setIfInBounds_toArray, List.set_cons_zero, List.set_cons_succ, List.getElem?_toArray, List.getElem?_cons_zero, List.getElem?_cons_succ, Option.bind_some]
   rfl
  ·refine step_is (o := Oper.mk (some 15) _ _ _ _ _) rfl rfl rfl rfl (fun u w hc hd => ?_)
   go_simp
  ·refine step_is (o := Oper.mk (some 16) _ _ _ _ _) rfl rfl rfl rfl (fun u w hc hd => ?_)
   go_simp
  ·refine step_new (o := Oper.mk (some 17) _ _ _ _ _) rfl rfl rfl (fun u w hc => ⟨.cells #[.bool false, .slice none 0 0] 151, ?_, Blk.new w 151 _⟩)
   go_simp
  ·refine step_is (o := Oper.mk (some 18) _ _ _ _ _) rfl rfl rfl rfl (fun u w hc hd => ?_)
   go_simp
  ·refine step_is (o := Oper.mk (some 19) _ _ _ _ _) rfl rfl rfl rfl (fun u w hc hd => ?_)
   have d3 : u 3 = _ := hd 3 (by kernel_rfl) (by decide)
   go_simp
  ·refine step_is (o := Oper.mk (some 20) _ _ _ _ _) rfl rfl rfl rfl (fun u w hc hd => ?_)
   have d4 : u 4 = _ := hd 4 (by kernel_rfl) (by decide)
   go_simp
  ·refine step_is (o := Oper.mk (some 21) _ _ _ _ _) rfl rfl rfl rfl (fun u w hc hd => ?_)
   go_simp
  ·refine step_call (o := Oper.mk (some 22) _ _ _ _ _) rfl rfl rfl (fun u w hc hd => ?_)
   have d6 : u 6 = _ := hd 6 (by kernel_rfl) (by decide)
   refine ⟨99, #[ptr g], ?_, (den0_any hc.1).mono ?_⟩
   ·go_simp
   ·rintro _ w2 ⟨g1, rfl, hl, hi, hb⟩
    exact ⟨_, rfl, ⟨g1, rfl, Nat.le_trans hc.2.2 hl, hi⟩, hb⟩
  ·refine step_fill (a := 2) (o := Oper.mk (some 23) _ _ _ _ _) rfl rfl rfl (fun u w g1 hc hd h0 hlo hv => ?_)
   have d5 : u 5 = _ := hd 5 (by kernel_rfl) (by decide)
   obtain ⟨g7, e7, _, i7⟩ : IsI _ _ (u 7) w := hd 7 (by kernel_rfl) (by decide)
   refine ⟨116, #[ptr g1, (ptr gy), ptr g7], ?_, (mulC (IntZ.zero hv).slot hc.2.1.num i7.inC hly.1 l1).mono ?_⟩
   ·go_simp
   ·rintro _ w2 ⟨rfl, hi, hg⟩
    exact ⟨rfl, ⟨g1, rfl, hlo, hi⟩, hg⟩
  ·intro u2 w2 hb2 hf hn1
   have f0 : u2 0 = _ := hf 0 (by decide) (by decide)
   have f1 : u2 1 = _ := hf 1 (by decide) (by decide)
   obtain ⟨gb, f8, _, hib⟩ : IsI _ _ (u2 8) w2 := hf 8 (by decide) (by decide)
   rw [Int.mul_one] at hib
   have hia2 := Hia.out.1.below hb2
   have HA := Lib.hid (addC hia2.slot hia2.inC hib.inC l0 hly.1)
   have Hb2 := Lib.hid (Hia.out.2.2.trans (hb2.mono Hia.out.2.2.size))
   refine wpAny_tail (j := 9) (o := Oper.mk (some 24) _ _ _ _ _) rfl (by kernel_rfl) (fun K hK => ?_)
   rw [f0, f1, f8]
   clear hf hn1 hib hia2 hb2 f0 f1 f8
   go_simp
   refine HA.out.mono ?_
   rintro _ w3 ⟨rfl, hi3, hg3⟩
   rw [Int.zero_add] at hi3
   have Hb3 := Lib.hid (Hb2.out.grown hg3 Hb2.out.size (fun k hk => by injection hk with hk; have := Hia.out.2.1; omega))
   have Hi3 := Lib.hid hi3
   clear hg3 hi3
   try simp only []
   refine hK.out _ _ ?_
   clear hK K
   refine wpAny_end (by kernel_rfl) ?_
   refine NoPanic.normal ?_
   have hb0 := new_below w3 (.cells #[.bool false, .slice none 0 0] 151)
   have hx3 : RatZ w3 g := hx.below Hb3.out hx.lt
   have hz4 : IntZ (w3.alloc (.cells #[.bool false, .slice none 0 0] 151)) w3.heap.size := Blk.new w3 151 _
   generalize hW4 : w3.alloc (.cells #[.bool false, .slice none 0 0] 151) = w4 at hb0 hz4
   have hx4 : RatZ w4 g := hx3.below hb0 hx3.lt
   have Hy4 := Lib.hid ((hy.below Hb3.out).below hb0)
   have HX := Lib.hid (den0_any hx4)
   have HZ := Lib.hid hz4
   have H4 := Lib.hid hb0
   clear hb0 hz4 hx1 hy1 hx3 hx4
   go_wp2_with fail
   clear hW4
   refine HX.out.mono ?_
   rintro _ w5 ⟨gd, rfl, hgd, hid, hb5⟩
   have Hy5 := Lib.hid (Hy4.out.below hb5)
   have HY := Lib.hid (den_any Hy5.out)
   have HI := Lib.hid hid
   have H5 := Lib.hid hb5
   clear hid hb5 HX
   go_wp2_with fail
   refine HY.out.mono ?_
   rintro _ _ ⟨rfl, rfl⟩
   have HM := Lib.hid (mulC (IntZ.zero (HZ.out.below H5.out HZ.out.lt)).slot HI.out.inC Hy5.out.den l1 hly.2)
   clear HY
   go_wp2_with fail
   refine HM.out.mono ?_
   rintro _ w6 ⟨rfl, hi6, hg6⟩
   rw [Int.one_mul] at hi6
   have hb6 : Below w3.heap.size w3 w6 := (H4.out.trans (H5.out.mono H4.out.size)).grown hg6 (Nat.le_trans H4.out.size H5.out.size) (fun k hk => by injection hk with hk; omega)
   have HS := Lib.hid (setfrac2_any (((hx.slot).below Hb3.out).below hb6) (Hi3.out.below hb6).inC hi6.inC hly.1 hly.2 (by have := y.den_pos; omega))
   have Hb6 := Lib.hid (Hb3.out.trans (hb6.mono Hb3.out.size))
   clear hi6 hg6 hb6
   go_wp2_with fail
   refine HS.out.mono ?_
   rintro _ w7 ⟨rfl, hr, hg, hsl⟩
   go_wp2_with fail
   go_ret
   rw [Rat.num_divInt_den] at hr
   exact ⟨rfl, hr, grown_lift Hb6.out hg, hsl⟩
end Go.Proofs.YtebpggfccljagaaGreat
namespace Go.Proofs.YtebpggfccljagaaGreat
open Go.RowKit
open Wh
set_option maxRecDepth 100000 in
set_option maxHeartbeats 1000000 in
theorem low_any {w : World} {B n c : Nat} {A : Option Addr} {l : List Nat} (h : ReadsW w B A l) (hn : n = l.length) (hc : n ≤ c) (hcl : c ≤ 9223372036854775807) (hw : Wd l) :
  Calls Tryz.prog 56 #[.slice A n c] w (fun e w' => ∃ m, e = .returned (.slice A m c) ∧ m = (wds (val l)).length ∧ w' = w) := by
 have Hw := Lib.hid hw
 have Hn := Lib.hid hn
 clear hw hn
 go_enter Tryz.func56, Tryz.ntmps56
 go_wp2
 go_loopg [0] n (fun k s wr => wr = w ∧ s = .slice A k c ∧ k ≤ n ∧ Hid (val (l.take k) = val l))
 case atStart => exact ⟨rfl, rfl, Nat.le_refl _, by show val (l.take n) = val l; rw [Hn.out, List.take_length]⟩
 case round =>
  obtain ⟨rfl, rfl, hk, hv⟩ := hrel
  by_cases h0 : 0 < gk
  ·obtain ⟨ad, rfl, hb, hcell⟩ := h.at_ (k := gk - 1) (by have := Hn.out; omega)
   go_wp2
   ·rename_i hz
    go_roundg (gk - 1)
    case measure => omega
    case rel =>
     refine ⟨rfl, rfl, by omega, cut_on (k := gk - 1) (by rw [show gk - 1 + 1 = gk by omega]; exact hv.out) (by have := Hn.out; omega) ?_⟩
     have := eq_of_beq hz
     omega
   ·rename_i hz
    go_ret
    exact ⟨_, rfl, cut_done Hw.out (by have := Hn.out; omega) hv.out (.inr ⟨by have := Hn.out; omega, fun e => by rw [e] at hz; cases hz⟩), rfl⟩
  ·have h1 : gk = 0 := by omega
   subst h1
   go_wp2
   go_ret
   exact ⟨_, rfl, cut_done Hw.out (Nat.zero_le _) hv.out (.inl rfl), rfl⟩
end Go.Proofs.YtebpggfccljagaaGreat
namespace Go.Proofs.YtebpggfccljagaaGreat
open Go.RowKit
open Wh
set_option linter.unusedSimpArgs false
set_option maxRecDepth 100000 in
set_option maxHeartbeats 1000000 in
theorem tmore_any {w : World} {B n m c d a b : Nat} {A C : Option Addr} (h1 : ReadsW w B A (wds a)) (h2 : ReadsW w B C (wds b)) (hn : n = (wds a).length) (hm : m = (wds b).length) (hnl : n ≤ 140737488355328) (hml : m ≤ 140737488355328) :
  Calls Tryz.prog 73 #[.slice A n c, .slice C m d] w (fun e w' => ∃ q, e = .returned (.int .i64 (cmpN a b)) ∧ w' = w.drewN q) := by
 have Hn := Lib.hid hn
 have Hm := Lib.hid hm
 clear hn hm
 rcases Nat.lt_trichotomy n m with hlt | heq | hgt
 ·have e := Lib.hid (cmpN_lt (lt_of_len_lt (a := a) (b := b) (by rw [← Hn.out, ← Hm.out]; exact hlt)))
  have hne : ((n : Int) != (m : Int)) = true := by simp; omega
  go_enter Tryz.func73, Tryz.ntmps73
  go_wp2
  go_ret
  exact ⟨0, by rw [e.out]; rfl, rfl⟩
 ·subst heq
  go_enter Tryz.func73, Tryz.ntmps73
  go_wp2
  go_loopg [5] n (fun k i wr => ∃ q : Nat, Hid (wr = w.drewN q) ∧ i = .int .i64 ((k : Int) - 1) ∧ k ≤ n ∧ Hid ((wds a).drop k = (wds b).drop k))
  case atStart => exact ⟨0, rfl, rfl, Nat.le_refl _, by show (wds a).drop n = (wds b).drop n; rw [List.drop_of_length_le (by rw [Hn.out]; exact Nat.le_refl _), List.drop_of_length_le (by rw [Hm.out]; exact Nat.le_refl _)]⟩
  case round =>
   obtain ⟨q, hq, rfl, hk, hv⟩ := hrel
   by_cases h0 : 0 < gk
   ·obtain ⟨j, rfl⟩ : ∃ j, gk = j + 1 := ⟨gk - 1, by omega⟩
    rw [show (((j + 1 : Nat) : Int) - 1) = (j : Int) by omega]
    have ha : j < (wds a).length := by have := Hn.out; omega
    have hb : j < (wds b).length := by have := Hm.out; omega
    have h1' : ReadsW wr B A (wds a) := by rw [hq.out]; exact h1.drewN q
    have h2' : ReadsW wr B C (wds b) := by rw [hq.out]; exact h2.drewN q
    obtain ⟨ad, rfl, hb1, c1⟩ := h1'.at_ ha
    obtain ⟨bd, rfl, hb2, c2⟩ := h2'.at_ hb
    have w1 := wd_get (wd_w a) _ ha
    have w2 := wd_get (wd_w b) _ hb
    have d1 := Lib.hid (List.drop_eq_getElem_cons ha)
    have d2 := Lib.hid (List.drop_eq_getElem_cons hb)
    have hji : (j : Int) < (n : Int) := by omega
    have hjn : j < n := by omega
    have Hl : Hid ((wds a)[j] < (wds b)[j] → a < b) := fun h => by
     have := lt_top (wd_w a) (by rw [← Hn.out, ← Hm.out]) ha hv.out h
     rwa [val_w, val_w] at this
    have Hg : Hid ((wds b)[j] < (wds a)[j] → b < a) := fun h => by
     have := lt_top (wd_w b) (by rw [← Hn.out, ← Hm.out]) hb hv.out.symm h
     rwa [val_w, val_w] at this
    have He : Hid ((wds a)[j] = (wds b)[j] → (wds a).drop j = (wds b).drop j) := fun h => by
     rw [d1.out, d2.out, h, hv.out]
    clear d1 d2
    generalize hx : (wds a)[j] = x at *
    generalize hy : (wds b)[j] = y at *
    clear hx hy hv h1' h2'
    go_wp2_with (go_quiet (fail))
    ·rename_i hz
     have e := cmpN_gt (Hg.out hz)
     go_ret
     exact ⟨_, by rw [e]; rfl, by rw [hq.out]; exact World.drewN_drewN _ _ _⟩
    ·rename_i _ hz
     have e := cmpN_lt (Hl.out hz)
     go_ret
     exact ⟨_, by rw [e]; rfl, by rw [hq.out]; simp only [World.drewN_drewN]; rfl⟩
    ·rename_i hz1 hz2
     go_roundg j
     case measure => omega
     case rel => exact ⟨_, by rw [hq.out]; exact World.drewN_drewN _ _ _, rfl, by omega, He.out (by omega)⟩
   ·have hk0 : gk = 0 := by omega
    subst hk0
    have e := Lib.hid (cmpN_eq (eq_of_val (a := a) (b := b) hv.out))
    go_wp2
    go_ret
    exact ⟨q, by rw [e.out]; rfl, hq.out⟩
 ·have e := Lib.hid (cmpN_gt (lt_of_len_lt (a := b) (b := a) (by rw [← Hn.out, ← Hm.out]; exact hgt)))
  have hne : ((n : Int) != (m : Int)) = true := by simp; omega
  go_enter Tryz.func73, Tryz.ntmps73
  go_wp2
  go_ret
  exact ⟨0, by rw [e.out]; rfl, rfl⟩
theorem at_none {l : List Nat} {i : Nat} (h : l.length ≤ i) : at_ l i = 0 := by
 unfold at_
 rw [List.getD_eq_getElem?_getD, List.getElem?_eq_none h]
 rfl
theorem at_some {l : List Nat} {i : Nat} (h : i < l.length) : at_ l i = l[i] := by
 unfold at_
 rw [List.getD_eq_getElem?_getD, List.getElem?_eq_getElem h]
 rfl
theorem up_step {V X Y a b cy T E : Nat} (h : V + E * cy = X + Y) (hT : T = cy + a + b) : (V + E * (T % 4294967296)) + E * 4294967296 * (T / 4294967296) = (X + E * a) + (Y + E * b) := by
 have h1 : T % 4294967296 + 4294967296 * (T / 4294967296) = T := Nat.mod_add_div _ _
 have h2 : E * (T % 4294967296) + E * 4294967296 * (T / 4294967296) = E * T := by rw [Nat.mul_assoc, ← Nat.mul_add, h1]
 have h3 : E * T = E * cy + E * a + E * b := by rw [hT, Nat.mul_add, Nat.mul_add]
 omega
set_option maxRecDepth 100000 in
set_option maxHeartbeats 4000000 in
theorem tup_any {w : World} {B n m c d : Nat} {A C : Option Addr} {la lb : List Nat} (h1 : ReadsW w B A la) (h2 : ReadsW w B C lb) (hB : B ≤ w.heap.size) (hn : n = la.length) (hm : m = lb.length) (hnl : n ≤ 1000000000) (hml : m ≤ 1000000000) (ha : Wd la) (hb : Wd lb) :
  Calls Tryz.prog 72 #[.slice A n c, .slice C m d] w (CutW w (val la + val lb)) := by
 have Hn := Lib.hid hn
 have Hm := Lib.hid hm
 clear hn hm
 go_enter Tryz.func72, Tryz.ntmps72
 go_wp2
 go_loopg [5, 6, 7] (n + m + 1) (fun k ov cy iv wr => ∃ (A' : Option Addr) (n' c' i c : Nat) (L : List Nat), ov = .slice A' n' c' ∧ cy = .int .u64 (c : Int) ∧ iv = .int .i64 (i : Int) ∧ k = n + m + 1 - i ∧ (i ≤ n ∨ i ≤ m ∨ i ≤ n + m + 1 ∧ c = 0) ∧ c ≤ 1 ∧ OwnW wr w.heap.size (.slice A' n' c') L ∧ Below w.heap.size w wr ∧
  Hid (L.length = i ∧ Wd L ∧ val L + 4294967296 ^ i * c = val (la.take i) + val (lb.take i)))
 case atStart => exact ⟨none, 0, 0, 0, 0, [], rfl, rfl, rfl, by omega, by omega, by omega, OwnW.nil _ _, Below.refl _ _, rfl, wd_nil, by simp [val_nil]⟩
 case round =>
  obtain ⟨A', n', c', i, cy, L, rfl, rfl, rfl, hk, hi, hc, hown, hbel, hL⟩ := hrel
  have Hk := Lib.hid (And.intro hk hi)
  clear hk hi
  have h1' := h1.below (hbel.mono hB)
  have h2' := h2.below (hbel.mono hB)
  have hsz := hbel.size
  have hLl : L.length ≤ 3000000000 := by have := hL.out.1; have := Hk.out.2; omega
  have hil : i ≤ 2000000001 := by have := Hk.out.2; omega
  obtain ⟨T, hT⟩ : ∃ T : Nat, T = cy + at_ la i + at_ lb i := ⟨_, rfl⟩
  have hb1 := at_lt ha i
  have hb2 := at_lt hb i
  have Hstep := Lib.hid (up_step hL.out.2.2 hT)
  by_cases hin : i < n
  ·obtain ⟨ad, rfl, _, c1⟩ := h1'.at_ (by rw [← Hn.out]; exact hin)
   have hii : (i : Int) < (n : Int) := by omega
   rw [← at_some (l := la) (i := i) (by rw [← Hn.out]; exact hin)] at c1
   by_cases him : i < m
   ·obtain ⟨bd, rfl, _, c2⟩ := h2'.at_ (by rw [← Hm.out]; exact him)
    have hij : (i : Int) < (m : Int) := by omega
    rw [← at_some (l := lb) (i := i) (by rw [← Hm.out]; exact him)] at c2
    generalize hx : at_ la i = x at *
    generalize hy : at_ lb i = y at *
    have Hx := Lib.hid hx
    have Hy := Lib.hid hy
    clear hx hy h1' h2' h1 h2
    go_wp2_with (at_builtin; refine wpW_push rfl (.tmp 46) (.tmp 49) rfl w.heap.size _ L hown rfl (y := T % 4294967296) (by omega) rfl (by omega) (by omega) ?_; intro A2 n2 c2 w1 ho hkeep _)
    rw [show ((cy : Int) + (x : Int) + (y : Int)) / 4294967296 = ((T / 4294967296 : Nat) : Int) by omega]
    go_roundg (n + m + 1 - (i + 1))
    case measure => have := Hk.out; omega
    case rel =>
     refine ⟨A2, n2, c2, i + 1, T / 4294967296, L ++ [T % 4294967296], rfl, rfl, rfl, rfl, by have := Hk.out; omega, by omega, ho, hkeep w hbel, ?_⟩
     have hl := hL.out
     refine ⟨by rw [List.length_append, hl.1]; rfl, wd_append.2 ⟨hl.2.1, wd_cons.2 ⟨Nat.mod_lt _ (by decide), wd_nil⟩⟩, ?_⟩
     rw [val_snoc, hl.1, val_take_at, val_take_at, Nat.pow_succ, Hx.out, Hy.out]
     exact Hstep.out
   ·have hij : ¬ (i : Int) < (m : Int) := by omega
    have hy0 := at_none (l := lb) (i := i) (by rw [← Hm.out]; omega)
    generalize hx : at_ la i = x at *
    generalize hy : at_ lb i = y at *
    have Hx := Lib.hid hx
    have Hy := Lib.hid hy
    clear hx hy h1' h2' h1 h2
    go_wp2_with (at_builtin; refine wpW_push rfl (.tmp 46) (.tmp 49) rfl w.heap.size _ L hown rfl (y := T % 4294967296) (by omega) rfl (by omega) (by omega) ?_; intro A2 n2 c2 w1 ho hkeep _)
    rw [show ((cy : Int) + (x : Int)) / 4294967296 = ((T / 4294967296 : Nat) : Int) by omega]
    go_roundg (n + m + 1 - (i + 1))
    case measure => have := Hk.out; omega
    case rel =>
     refine ⟨A2, n2, c2, i + 1, T / 4294967296, L ++ [T % 4294967296], rfl, rfl, rfl, rfl, by have := Hk.out; omega, by omega, ho, hkeep w hbel, ?_⟩
     have hl := hL.out
     refine ⟨by rw [List.length_append, hl.1]; rfl, wd_append.2 ⟨hl.2.1, wd_cons.2 ⟨Nat.mod_lt _ (by decide), wd_nil⟩⟩, ?_⟩
     rw [val_snoc, hl.1, val_take_at, val_take_at, Nat.pow_succ, Hx.out, Hy.out]
     exact Hstep.out
  ·have hii : ¬ (i : Int) < (n : Int) := by omega
   have hx0 := at_none (l := la) (i := i) (by rw [← Hn.out]; omega)
   by_cases him : i < m
   ·obtain ⟨bd, rfl, _, c2⟩ := h2'.at_ (by rw [← Hm.out]; exact him)
    have hij : (i : Int) < (m : Int) := by omega
    rw [← at_some (l := lb) (i := i) (by rw [← Hm.out]; exact him)] at c2
    generalize hx : at_ la i = x at *
    generalize hy : at_ lb i = y at *
    have Hx := Lib.hid hx
    have Hy := Lib.hid hy
    clear hx hy h1' h2' h1 h2
    go_wp2_with (at_builtin; refine wpW_push rfl (.tmp 46) (.tmp 49) rfl w.heap.size _ L hown rfl (y := T % 4294967296) (by omega) rfl (by omega) (by omega) ?_; intro A2 n2 c2 w1 ho hkeep _)
    rw [show ((cy : Int) + (y : Int)) / 4294967296 = ((T / 4294967296 : Nat) : Int) by omega]
    go_roundg (n + m + 1 - (i + 1))
    case measure => have := Hk.out; omega
    case rel =>
     refine ⟨A2, n2, c2, i + 1, T / 4294967296, L ++ [T % 4294967296], rfl, rfl, rfl, rfl, by have := Hk.out; omega, by omega, ho, hkeep w hbel, ?_⟩
     have hl := hL.out
     refine ⟨by rw [List.length_append, hl.1]; rfl, wd_append.2 ⟨hl.2.1, wd_cons.2 ⟨Nat.mod_lt _ (by decide), wd_nil⟩⟩, ?_⟩
     rw [val_snoc, hl.1, val_take_at, val_take_at, Nat.pow_succ, Hx.out, Hy.out]
     exact Hstep.out
   ·have hij : ¬ (i : Int) < (m : Int) := by omega
    have hy0 := at_none (l := lb) (i := i) (by rw [← Hm.out]; omega)
    by_cases hcy : 0 < cy
    ·have hci : (0 : Int) < (cy : Int) := by omega
     generalize hx : at_ la i = x at *
     generalize hy : at_ lb i = y at *
     have Hx := Lib.hid hx
     have Hy := Lib.hid hy
     clear hx hy h1' h2' h1 h2
     go_wp2_with (at_builtin; refine wpW_push rfl (.tmp 46) (.tmp 49) rfl w.heap.size _ L hown rfl (y := T % 4294967296) (by omega) rfl (by omega) (by omega) ?_; intro A2 n2 c2 w1 ho hkeep _)
     rw [show (cy : Int) / 4294967296 = ((T / 4294967296 : Nat) : Int) by omega]
     go_roundg (n + m + 1 - (i + 1))
     case measure => have := Hk.out; omega
     case rel =>
      refine ⟨A2, n2, c2, i + 1, T / 4294967296, L ++ [T % 4294967296], rfl, rfl, rfl, rfl, by have := Hk.out; omega, by omega, ho, hkeep w hbel, ?_⟩
      have hl := hL.out
      refine ⟨by rw [List.length_append, hl.1]; rfl, wd_append.2 ⟨hl.2.1, wd_cons.2 ⟨Nat.mod_lt _ (by decide), wd_nil⟩⟩, ?_⟩
      rw [val_snoc, hl.1, val_take_at, val_take_at, Nat.pow_succ, Hx.out, Hy.out]
      exact Hstep.out
    ·have hc0 : cy = 0 := by omega
     subst hc0
     have hl := hL.out
     have hz : val L = val la + val lb := by
      have := hl.2.2
      rwa [Nat.mul_zero, Nat.add_zero, List.take_of_length_le (by rw [← Hn.out]; omega), List.take_of_length_le (by rw [← Hm.out]; omega)] at this
     have Hz := Lib.hid hz
     have Hw := Lib.hid hl.2.1
     have hcut := low_any hown.reads hown.len.1 hown.len.2.1 hown.len.2.2 Hw.out
     have Hc := Lib.hid (And.intro hown hcut)
     have Hk2 := Lib.hid hbel
     clear h1' h2' h1 h2 hz hl hcut
     go_wp2_with (go_at_call 56; refine Hc.out.2.mono ?_; rintro e w' ⟨q, rfl, hq, rfl⟩; have Hq := Lib.hid hq; clear hq)
     go_ret
     have hwt := (wds_take _ _ rfl Hw.out).2
     have hn2 := Hc.out.1.len
     refine ⟨_, _, _, rfl, by rw [← Hz.out]; exact Hq.out, ?_, hn2.2.2, by rw [← Hz.out]; exact reads_cut Hc.out.1.reads Hw.out, Hk2.out⟩
     have := Hq.out
     omega
theorem down_digit (x y q : Nat) (hx : x < 4294967296) (hy : y < 4294967296) (hq : q ≤ 1) : ∃ D p : Nat, D < 4294967296 ∧ p ≤ 1 ∧ x + 4294967296 * p = D + y + q := by
 by_cases h : q + y ≤ x
 ·exact ⟨x - y - q, 0, by omega, by omega, by omega⟩
 ·exact ⟨4294967296 + x - y - q, 1, by omega, by omega, by omega⟩
theorem down_step {V X Y x y q D p E : Nat} (h : V + Y = X + E * q) (hd : x + 4294967296 * p = D + y + q) : (V + E * D) + (Y + E * y) = (X + E * x) + E * 4294967296 * p := by
 have h1 : E * x + E * (4294967296 * p) = E * D + E * y + E * q := by rw [← Nat.mul_add, hd, Nat.mul_add, Nat.mul_add]
 rw [← Nat.mul_assoc] at h1
 omega
set_option maxRecDepth 100000 in
set_option maxHeartbeats 4000000 in
theorem tdown_any {w : World} {B n m c d : Nat} {A C : Option Addr} {la lb : List Nat} (h1 : ReadsW w B A la) (h2 : ReadsW w B C lb) (hB : B ≤ w.heap.size) (hn : n = la.length) (hm : m = lb.length) (hnl : n ≤ 1000000000) (hmn : m ≤ n) (hle : val lb ≤ val la) (ha : Wd la) (hb : Wd lb) :
  Calls Tryz.prog 74 #[.slice A n c, .slice C m d] w (CutW w (val la - val lb)) := by
 have Hn := Lib.hid hn
 have Hm := Lib.hid hm
 have Hle := Lib.hid hle
 clear hn hm hle
 go_enter Tryz.func74, Tryz.ntmps74
 go_wp2
 go_loopg [5, 6, 7] n (fun k ov cy iv wr => ∃ (A' : Option Addr) (n' c' i q : Nat) (L : List Nat), ov = .slice A' n' c' ∧ cy = .int .i64 (-(q : Int)) ∧ iv = .int .i64 (i : Int) ∧ k = n - i ∧ i ≤ n ∧ q ≤ 1 ∧ OwnW wr w.heap.size (.slice A' n' c') L ∧ Below w.heap.size w wr ∧
  Hid (L.length = i ∧ Wd L ∧ val L + val (lb.take i) = val (la.take i) + 4294967296 ^ i * q))
 case atStart => exact ⟨none, 0, 0, 0, 0, [], rfl, rfl, rfl, by omega, by omega, by omega, OwnW.nil _ _, Below.refl _ _, rfl, wd_nil, by simp [val_nil]⟩
 case round =>
  obtain ⟨A', n', c', i, q, L, rfl, rfl, rfl, hk, hi, hq, hown, hbel, hL⟩ := hrel
  have Hk := Lib.hid hk
  clear hk
  have h1' := h1.below (hbel.mono hB)
  have h2' := h2.below (hbel.mono hB)
  have hsz := hbel.size
  have hLl : L.length ≤ 3000000000 := by have := hL.out.1; omega
  by_cases hin : i < n
  ·obtain ⟨D, p, hD, hp, hd⟩ := down_digit (at_ la i) (at_ lb i) q (at_lt ha i) (at_lt hb i) hq
   have hb1 := at_lt ha i
   have hb2 := at_lt hb i
   have Hstep := Lib.hid (down_step (hL.out.2.2) hd)
   obtain ⟨ad, rfl, _, c1⟩ := h1'.at_ (by rw [← Hn.out]; exact hin)
   have hii : (i : Int) < (n : Int) := by omega
   rw [← at_some (l := la) (i := i) (by rw [← Hn.out]; exact hin)] at c1
   by_cases him : i < m
   ·obtain ⟨bd, rfl, _, c2⟩ := h2'.at_ (by rw [← Hm.out]; exact him)
    have hij : (i : Int) < (m : Int) := by omega
    rw [← at_some (l := lb) (i := i) (by rw [← Hm.out]; exact him)] at c2
    generalize hx : at_ la i = x at *
    generalize hy : at_ lb i = y at *
    have Hx := Lib.hid hx
    have Hy := Lib.hid hy
    clear hx hy h1' h2' h1 h2
    go_wp2_with (at_builtin; refine wpW_push rfl (.tmp 32) (.tmp 35) rfl w.heap.size _ L hown rfl (y := D) (by omega) rfl (by omega) (by omega) ?_; intro A2 n2 c2 w1 ho hkeep _)
    rw [show (-(q : Int) + (x : Int) - (y : Int)) / 4294967296 = -(p : Int) by omega]
    go_roundg (n - (i + 1))
    case measure => have := Hk.out; omega
    case rel =>
     refine ⟨A2, n2, c2, i + 1, p, L ++ [D], rfl, rfl, rfl, rfl, by omega, hp, ho, hkeep w hbel, ?_⟩
     have hl := hL.out
     refine ⟨by rw [List.length_append, hl.1]; rfl, wd_append.2 ⟨hl.2.1, wd_cons.2 ⟨hD, wd_nil⟩⟩, ?_⟩
     rw [val_snoc, hl.1, val_take_at, val_take_at, Nat.pow_succ, Hx.out, Hy.out]
     exact Hstep.out
   ·have hij : ¬ (i : Int) < (m : Int) := by omega
    have hy0 := at_none (l := lb) (i := i) (by rw [← Hm.out]; omega)
    generalize hx : at_ la i = x at *
    generalize hy : at_ lb i = y at *
    have Hx := Lib.hid hx
    have Hy := Lib.hid hy
    clear hx hy h1' h2' h1 h2
    go_wp2_with (at_builtin; refine wpW_push rfl (.tmp 32) (.tmp 35) rfl w.heap.size _ L hown rfl (y := D) (by omega) rfl (by omega) (by omega) ?_; intro A2 n2 c2 w1 ho hkeep _)
    rw [show (-(q : Int) + (x : Int)) / 4294967296 = -(p : Int) by omega]
    go_roundg (n - (i + 1))
    case measure => have := Hk.out; omega
    case rel =>
     refine ⟨A2, n2, c2, i + 1, p, L ++ [D], rfl, rfl, rfl, rfl, by omega, hp, ho, hkeep w hbel, ?_⟩
     have hl := hL.out
     refine ⟨by rw [List.length_append, hl.1]; rfl, wd_append.2 ⟨hl.2.1, wd_cons.2 ⟨hD, wd_nil⟩⟩, ?_⟩
     rw [val_snoc, hl.1, val_take_at, val_take_at, Nat.pow_succ, Hx.out, Hy.out]
     exact Hstep.out
  ·have hie : i = n := by omega
   subst hie
   have hl := hL.out
   have hz : val L = val la - val lb := by
    have h3 := hl.2.2
    rw [List.take_of_length_le (by have := Hn.out; have := Hm.out; omega), List.take_of_length_le (by have := Hn.out; have := Hm.out; omega)] at h3
    have h4 := val_lt hl.2.1
    rw [hl.1] at h4
    have h5 := Hle.out
    have hq0 : q = 0 := by
     rcases Nat.eq_zero_or_pos q with h6 | h6
     ·exact h6
     ·have h7 : q = 1 := by omega
      rw [h7, Nat.mul_one] at h3
      omega
    rw [hq0, Nat.mul_zero] at h3
    omega
   have Hz := Lib.hid hz
   have Hw := Lib.hid hl.2.1
   have hcut := low_any hown.reads hown.len.1 hown.len.2.1 hown.len.2.2 Hw.out
   have Hc := Lib.hid (And.intro hown hcut)
   have Hk2 := Lib.hid hbel
   clear h1' h2' h1 h2 hz hl hcut
   go_wp2_with (go_at_call 56; refine Hc.out.2.mono ?_; rintro e w' ⟨q, rfl, hq, rfl⟩; have Hq := Lib.hid hq; clear hq)
   go_ret
   have hwt := (wds_take _ _ rfl Hw.out).2
   have hn2 := Hc.out.1.len
   refine ⟨_, _, _, rfl, by rw [← Hz.out]; exact Hq.out, ?_, hn2.2.2, by rw [← Hz.out]; exact reads_cut Hc.out.1.reads Hw.out, Hk2.out⟩
   have := Hq.out
   omega
end Go.Proofs.YtebpggfccljagaaGreat
namespace Go.Proofs.YtebpggfccljagaaGreat
open Go.RowKit
theorem only_setCells {a w : World} {b : Nat} (h : a.grownBy w (some b)) : ∀ (vs : List Value) (o : Nat), a.grownBy (w.setCells b o vs) (some b)
 | [], _ => h
 | v :: vs, o => only_setCells (only_setCell (p := ⟨b, o, none⟩) h (.inl rfl) v) vs (o + 1)
theorem size_setCells (b : Nat) : ∀ (vs : List Value) (o : Nat) (w : World), (w.setCells b o vs).heap.size = w.heap.size
 | [], _, _ => rfl
 | _ :: vs, o, _ => (size_setCells b vs (o + 1) _).trans (World.size_setCell _ _ _)
theorem blk_setCells {b : Nat} {t : TypeId} : ∀ (vs : List Value) (o : Nat) (w : World) (cs : Array Value), Blk w b t cs → o + vs.length ≤ cs.size →
  Blk (w.setCells b o vs) b t (cs.toList.take o ++ vs ++ cs.toList.drop (o + vs.length)).toArray
 | [], o, w, cs, h, _ => by simpa [World.setCells] using h
 | v :: vs, o, w, cs, h, hl => by
  rw [List.length_cons] at hl
  have h1 := blk_setCells vs (o + 1) _ _ (h.set_ o v) (by simp; omega)
  have e : (cs.setIfInBounds o v).toList.take (o + 1) ++ vs ++ (cs.setIfInBounds o v).toList.drop (o + 1 + vs.length) = cs.toList.take o ++ (v :: vs) ++ cs.toList.drop (o + (v :: vs).length) := by
   rw [Array.toList_setIfInBounds, List.take_set, List.drop_set_of_lt (by omega), List.take_succ_eq_append_getElem (by simp; omega), List.set_append_right _ _ (by rw [List.length_take]; exact Nat.min_le_left _ _), List.length_take, List.length_cons]
   rw [show o - min o cs.toList.length = 0 by rw [Nat.min_eq_left (by simp; omega), Nat.sub_self], List.set_cons_zero, show o + 1 + vs.length = o + (vs.length + 1) by omega]
   simp
  rw [e] at h1
  exact h1
section
variable {P : Program} {w : World}
theorem wpList_store_part {ops : Array Oper} {rest : List Oper} {op : Oper} {a : Act} {Q : Exit → Act → World → Prop} (hgd : op.guard = none) (ty : TypeId) (x y : Operand) (ho : op.op = .store ty x y)
  (b o : Nat) (cells : Array Value) (hx : a.eval x = .pointer (some ⟨b, o, none⟩)) (hy : a.eval y = .agg cells) (t : TypeId) (cs cs' : Array Value) (hb : Blk w b t cs)
  (hle : o + cells.size ≤ cs.size) (hcs : cs.toList.take o ++ cells.toList ++ cs.toList.drop (o + cells.size) = cs'.toList)
  (hi : (P.info? ty).map (·.size) = some cells.size) (h1 : cells.all (·.oneCell') = true)
  (h : ∀ w', Blk w' b t cs' → w.grownBy w' (some b) → w'.heap.size = w.heap.size → wpList P ops Q rest (a.put op.dst undef) w') : wpList P ops Q (op :: rest) a w := by
 refine wpList_store_mid hgd ty x y ho b o cells hx hy ?_ hi h1 (h _ ?_ (only_setCells (World.grownBy.refl w _) _ _) (size_setCells _ _ _ _))
 ·intro j hj
  refine ⟨?_, hb.frozen _⟩
  rw [hb.cell, Array.getElem?_eq_getElem (by omega)]
  rfl
 ·have := blk_setCells cells.toList o w cs hb (by simpa using hle)
  rw [Array.length_toList, hcs] at this
  simpa using this
theorem wpList_load_part {ops : Array Oper} {rest : List Oper} {op : Oper} {a : Act} {Q : Exit → Act → World → Prop} (hgd : op.guard = none) (ty : TypeId) (x : Operand) (ho : op.op = .load ty x)
  (b o : Nat) (hx : a.eval x = .pointer (some ⟨b, o, none⟩)) (t : TypeId) (cs cs' : Array Value) (d : TypeDesc) (hb : Blk w b t cs) (hcs : (cs.extract o (o + cs'.size)).toList = cs'.toList)
  (hu : P.underlying ty = some d) (hd : d.isRow = true) (hi : (P.info? ty).map (·.size) = some cs'.size)
  (h : wpList P ops Q rest (a.put op.dst (.agg cs')) w) : wpList P ops Q (op :: rest) a w := by
 refine wpList_load_mid hgd ty x ho b o hx cs'.toList d ?_ hu hd (by simpa using hi) (by simpa using h)
 rw [← hcs]
 exact World.rangeAt_of_block hb o cs'.size
theorem results_row_tmp {fn : Func} {p q : Tmp} {ty : TypeId} (h : fn.results = #[.cell p ty, .tmp q]) (tmps : Array Value) (g : Nat) (t : TypeId) (cs : Array Value) (d : TypeDesc)
  (hp : tmps.getD p undef = .pointer (some ⟨g, 0, none⟩)) (hg : Blk w g t cs)
  (hu : P.underlying ty = some d) (hd : d.isRow = true) (hi : (P.info? ty).map (·.size) = some cs.size) :
  (results fn tmps).run P w = .ok (.tuple #[.agg cs, tmps.getD q undef]) w := by
 have hp' : tmps[p]?.getD undef = .pointer (some ⟨g, 0, none⟩) := by simpa using hp
 have hr := World.rangeAt_of_block (w := w) hg 0 cs.size
 rw [Nat.zero_add, Array.extract_size] at hr
 have hl := run_loadVar_mid (P := P) w g 0 ty cs.toList d hr hu hd (by simpa using hi)
 simp [results, h, hp', asAddr, hl]
end
end Go.Proofs.YtebpggfccljagaaGreat
namespace Go.Proofs.YtebpggfccljagaaGreat
open Go Go.RowKit
theorem IsRat.ptr {q : Rat} {n : Nat} {v : Value} {w : World} (h : IsRat q n v w) : ∃ g, v = ptr g := by
 obtain ⟨g, rfl, _⟩ := h
 exact ⟨g, rfl⟩
theorem run_load_part {P : Program} {w : World} {o : Oper} {ev : Operand → Value} (ty : TypeId) (x : Operand) (ho : o.op = .load ty x) (b off : Nat) (hx : ev x = .pointer (some ⟨b, off, none⟩))
  {t : TypeId} {cs : Array Value} (cs' : Array Value) (d : TypeDesc) (hb : Blk w b t cs) (hcs : (cs.extract off (off + cs'.size)).toList = cs'.toList)
  (hu : P.underlying ty = some d) (hd : d.isRow = true) (hi : (P.info? ty).map (·.size) = some cs'.size) : (execOp ev o).run P w = .ok (.value (.agg cs')) w := by
 have hr := World.rangeAt_of_block (w := w) hb off cs'.size
 rw [hcs] at hr
 unfold execOp
 simp only [ho, hx, Instr.loadAt, Instr.sureAddr, Sem.run_bind, Sem.run_pure, Result.andThen_ok, run_loadVar_mid (P := P) w b off ty cs'.toList d hr hu hd (by simpa using hi)]
theorem wpAny_store {P : Program} {md : Region.Mode} {ops : Array Oper} {Q : Exit → Act → World → Prop} {j : Nat} {o : Oper} {fuel : Nat} {L : Array Bool} {a : Act} {w : World} (ho : ops[j]? = some o) (hr : Region.ready md ops L = [j]) (hg : o.guard = none)
  (ty : TypeId) (x y : Operand) (hop : o.op = .store ty x y) (b off : Nat) (cells : Array Value) (hx : a.eval x = .pointer (some ⟨b, off, none⟩)) (hy : a.eval y = .agg cells) {t : TypeId} {cs : Array Value} (cs' : Array Value) (hb : Blk w b t cs)
  (hle : off + cells.size ≤ cs.size) (hcs : cs.toList.take off ++ cells.toList ++ cs.toList.drop (off + cells.size) = cs'.toList)
  (hi : (P.info? ty).map (·.size) = some cells.size) (h1 : cells.all (·.oneCell') = true)
  (h : ∀ w', Blk w' b t cs' → w.grownBy w' (some b) → w'.heap.size = w.heap.size → wpAny P md ops Q fuel (L.setIfInBounds j true) (a.put o.dst undef) w') :
  wpAny P md ops Q (fuel + 1) L a w := by
 refine wpAny_tail ho hr fun K hK => ?_
 have hw : Region.wanted o (yielded ops a.tmps) = true := by simp [Region.wanted, hg]
 rw [if_pos hw]
 refine wp_store_mid ty x y hop b off cells hx hy ?_ hi h1 (hK.out _ _ (h _ ?_ (only_setCells (World.grownBy.refl w _) _ _) (size_setCells _ _ _ _)))
 ·intro j hj
  refine ⟨?_, hb.frozen _⟩
  rw [hb.cell, Array.getElem?_eq_getElem (by omega)]
  rfl
 ·have := blk_setCells cells.toList off w cs hb (by simpa using hle)
  rw [Array.length_toList, hcs] at this
  simpa using this
theorem results_row1 {P : Program} {w : World} {fn : Func} {p : Tmp} {ty : TypeId} (h : fn.results = #[.cell p ty]) (tmps : Array Value) (g : Nat) (t : TypeId) (cs : Array Value) (d : TypeDesc)
  (hp : tmps.getD p undef = .pointer (some ⟨g, 0, none⟩)) (hg : Blk w g t cs)
  (hu : P.underlying ty = some d) (hd : d.isRow = true) (hi : (P.info? ty).map (·.size) = some cs.size) :
  (results fn tmps).run P w = .ok (.agg cs) w := by
 have hp' : tmps[p]?.getD undef = .pointer (some ⟨g, 0, none⟩) := by simpa using hp
 have hr := World.rangeAt_of_block (w := w) hg 0 cs.size
 rw [Nat.zero_add, Array.extract_size] at hr
 have hl := run_loadVar_mid (P := P) w g 0 ty cs.toList d hr hu hd (by simpa using hi)
 simp [results, h, hp', asAddr, hl]
theorem IntC.far {w w' : World} {g o r : Nat} {z : Int} {t : TypeId} {cs : Array Value} (h : IntC w g o z) (hk : Blk w r t cs) (ht : t ≠ 115) (hne : g ≠ r) (hg : w.grownBy w' (some r)) : IntC w' g o z := by
 have hlt := h.lt'
 obtain ⟨s, A, n, c, h0, h1, h2, h3, h4, hrd⟩ := h
 refine ⟨s, A, n, c, (grown_cell hg hlt hne).trans h0, (grown_cell hg hlt hne).trans h1, h2, h3, h4, (hrd.other hg (Nat.le_refl _) fun q e => ?_).more hg.size⟩
 injection e with e
 subst e
 exact ⟨_, _, _, hk, ht⟩
theorem RatV.far {w w' : World} {g r : Nat} {q : Rat} {t : TypeId} {cs : Array Value} (h : RatV w g q) (hk : Blk w r t cs) (ht : t ≠ 115) (hn : ∀ A n c, cs[1]? ≠ some (.slice A n c)) (hg : w.grownBy w' (some r)) : RatV w' g q := by
 have hne : g ≠ r := by
  rintro rfl
  obtain ⟨s, A, n, c, _, h1, _⟩ := h.num
  rw [hk.cell] at h1
  exact hn _ _ _ h1
 exact ⟨h.num.far hk ht hne hg, h.den.far hk ht hne hg, h.pos⟩
theorem IsRat.far {w w' : World} {r n : Nat} {q : Rat} {v : Value} {t : TypeId} {cs : Array Value} (h : IsRat q n v w) (hk : Blk w r t cs) (ht : t ≠ 115) (hn : ∀ A n c, cs[1]? ≠ some (.slice A n c)) (hg : w.grownBy w' (some r)) : IsRat q n v w' := by
 obtain ⟨g, rfl, h, hs⟩ := h
 exact ⟨g, rfl, h.far hk ht hn hg, hs⟩
theorem IsNum.far {w w' : World} {r n : Nat} {q : Cx} {v : Value} {t : TypeId} {cs : Array Value} (h : IsNum q n v w) (hk : Blk w r t cs) (ht : t ≠ 115) (hn : ∀ A n c, cs[1]? ≠ some (.slice A n c)) (hg : w.grownBy w' (some r)) : IsNum q n v w' := by
 obtain ⟨a, b, rfl, h, h'⟩ := h
 exact ⟨a, b, rfl, h.far hk ht hn hg, h'.far hk ht hn hg⟩
theorem own_set {w W w1 w2 : World} {g : Nat} (hW : Below w.heap.size w W) (h1 : Below W.heap.size W w1) (hg : w.heap.size ≤ g) (h2 : w1.grownBy w2 (some g)) : Below w.heap.size w w2 :=
 (hW.trans (h1.mono hW.size)).grown h2 (hW.trans (h1.mono hW.size)).size (fun k hk => by injection hk with hk; omega)
end Go.Proofs.YtebpggfccljagaaGreat
namespace Go.Proofs.YtebpggfccljagaaGreat
open Go.RowKit
open Wh
set_option linter.unusedSimpArgs false
set_option maxRecDepth 100000 in
set_option maxHeartbeats 4000000 in
theorem norm_any {w : World} {v : Value} {z : Cx} {n : Nat} (h1 : IsNum z n v w) (hn : n ≤ 1000000) :
  Calls Tryz.prog 69 #[v] w (Ret w (IsRat z.norm (4 * n + 1))) := by
 obtain ⟨_, _, rfl, ha, hb⟩ := h1
 obtain ⟨a, rfl⟩ := ha.ptr
 obtain ⟨b, rfl⟩ := hb.ptr
 go_enter Tryz.func69, Tryz.ntmps69
 go_wp2_with fail
 have hbw : Below w.heap.size w (w.alloc (Obj.cells #[ptr a, ptr b] 83)) := ((Below.refl _ _).alloc (Nat.le_refl _) _)
 have k0 : Blk (w.alloc (Obj.cells #[ptr a, ptr b] 83)) (w.heap.size) 83 #[ptr a, ptr b] := ((Blk.new w 83 #[ptr a, ptr b])).cast (by simp)
 generalize hW : (w.alloc (Obj.cells #[ptr a, ptr b] 83)) = W at *
 clear hW
 have ha := ha.below hbw
 have hb := hb.below hbw
 refine wp_region_noPanic ?_
 refine wp_region_list (mk := ?mk) ratZ_vgs [Is undef, Is (ptr w.heap.size), Is (ptr a), Is (ptr w.heap.size), Is (ptr a), IsRat (z.re * z.re) (2 * n), Is (.pointer (some ⟨w.heap.size, 1, none⟩)), Is (ptr b), Is (.pointer (some ⟨w.heap.size, 1, none⟩)), Is (ptr b), IsRat (z.im * z.im) (2 * n), IsRat ((z.re * z.re) + (z.im * z.im)) (4 * n + 1), IsRat ((z.re * z.re) + (z.im * z.im)) (4 * n + 1)] [.fresh, .plain, .plain, .plain, .plain, .plain, .plain, .plain, .plain, .plain, .plain, .fills 0, .plain] 13 0 (fun w' => Blk w' (w.heap.size) 83 #[(ptr a), (ptr b)] ∧ IsRat z.re n (ptr a) w' ∧ IsRat z.im n (ptr b) w' ∧ True) ⟨is_steady _ _ _, is_steady _ _ _, is_steady _ _ _, is_steady _ _ _, is_steady _ _ _, isRat_steady _ _ _, is_steady _ _ _, is_steady _ _ _, is_steady _ _ _, is_steady _ _ _, isRat_steady _ _ _, isRat_steady _ _ _, isRat_steady _ _ _, trivial⟩ (by kernel_rfl) (by kernel_rfl) (by kernel_rfl) (by kernel_rfl) (by kernel_rfl) (by kernel_rfl) ?hmk (fun w' hB => ⟨k0.below hB k0.lt, ha.below hB, hb.below hB, trivial⟩)
  (steps_all (steps_cons ?_ (steps_cons ?_ (steps_cons ?_ (steps_cons ?_ (steps_cons ?_ (steps_cons ?_ (steps_cons ?_ (steps_cons ?_ (steps_cons ?_ (steps_cons ?_ (steps_cons ?_ (steps_cons ?_ (steps_cons ?_ steps_nil)))))))))))))) ?_
 case hmk =>
  intro u
  simp only [mkFrom, mkL, dstOf, List.range, List.range.loop, Act.put, List.setIfInBounds_toArray, List.set_cons_zero, List.set_cons_succ, List.getElem?_toArray, List.getElem?_cons_zero, List.getElem?_cons_succ, Option.bind_some]
  rfl
 ·refine step_new (o := Oper.mk (some 3) _ _ _ _ _) rfl rfl rfl (fun u ws hc => ⟨.cells #[.bool false, .slice none 0 0, .bool false, .slice none 0 0] 153, ?_, Blk.new ws 153 _⟩)
  go_simp
 ·refine step_is (o := Oper.mk (some 4) _ _ _ _ _) rfl rfl rfl rfl (fun u ws hc hd => ?_)
  go_simp
 ·refine step_is (o := Oper.mk (some 5) _ _ _ _ _) rfl rfl rfl rfl (fun u ws hc hd => ?_)
  obtain ⟨k0, ha, hb, _⟩ := hc
  have c1 : ws.cell? ⟨w.heap.size, 0, none⟩ = some (ptr a) := by rw [k0.cell]; rfl
  have d1 : u 1 = _ := hd 1 (by kernel_rfl) (by decide)
  go_simp
 ·refine step_is (o := Oper.mk (some 6) _ _ _ _ _) rfl rfl rfl rfl (fun u ws hc hd => ?_)
  go_simp
 ·refine step_is (o := Oper.mk (some 7) _ _ _ _ _) rfl rfl rfl rfl (fun u ws hc hd => ?_)
  obtain ⟨k0, ha, hb, _⟩ := hc
  have c1 : ws.cell? ⟨w.heap.size, 0, none⟩ = some (ptr a) := by rw [k0.cell]; rfl
  have d3 : u 3 = _ := hd 3 (by kernel_rfl) (by decide)
  go_simp
 ·refine step_call (o := Oper.mk (some 8) _ _ _ _ _) rfl rfl rfl (fun u ws hc hd => ?_)
  obtain ⟨k0, ha, hb, _⟩ := hc
  have d2 : u 2 = _ := hd 2 (by kernel_rfl) (by decide)
  have d4 : u 4 = _ := hd 4 (by kernel_rfl) (by decide)
  have HC := Lib.hid (upR (m := (2 * n)) (xmul_any ha ha (by omega)) (by omega))
  refine ⟨89, #[(ptr a), (ptr a)], ?_, HC.out⟩
  ·clear HC; go_simp
 ·refine step_is (o := Oper.mk (some 9) _ _ _ _ _) rfl rfl rfl rfl (fun u ws hc hd => ?_)
  go_simp
 ·refine step_is (o := Oper.mk (some 10) _ _ _ _ _) rfl rfl rfl rfl (fun u ws hc hd => ?_)
  obtain ⟨k0, ha, hb, _⟩ := hc
  have c1 : ws.cell? ⟨w.heap.size, 1, none⟩ = some (ptr b) := by rw [k0.cell]; rfl
  have d6 : u 6 = _ := hd 6 (by kernel_rfl) (by decide)
  go_simp
 ·refine step_is (o := Oper.mk (some 11) _ _ _ _ _) rfl rfl rfl rfl (fun u ws hc hd => ?_)
  go_simp
 ·refine step_is (o := Oper.mk (some 12) _ _ _ _ _) rfl rfl rfl rfl (fun u ws hc hd => ?_)
  obtain ⟨k0, ha, hb, _⟩ := hc
  have c1 : ws.cell? ⟨w.heap.size, 1, none⟩ = some (ptr b) := by rw [k0.cell]; rfl
  have d8 : u 8 = _ := hd 8 (by kernel_rfl) (by decide)
  go_simp
 ·refine step_call (o := Oper.mk (some 13) _ _ _ _ _) rfl rfl rfl (fun u ws hc hd => ?_)
  obtain ⟨k0, ha, hb, _⟩ := hc
  have d7 : u 7 = _ := hd 7 (by kernel_rfl) (by decide)
  have d9 : u 9 = _ := hd 9 (by kernel_rfl) (by decide)
  have HC := Lib.hid (upR (m := (2 * n)) (xmul_any hb hb (by omega)) (by omega))
  refine ⟨89, #[(ptr b), (ptr b)], ?_, HC.out⟩
  ·clear HC; go_simp
 ·refine step_fill (a := 0) (o := Oper.mk (some 14) _ _ _ _ _) rfl rfl rfl (fun u ws g1 hc hd h0 hlo hv => ?_)
  obtain ⟨k0, ha, hb, _⟩ := hc
  have HC := Lib.hid (fadd (m := (4 * n + 1)) hv (hd 5 (by kernel_rfl) (by decide) : IsRat (z.re * z.re) (2 * n) (u 5) ws) (hd 10 (by kernel_rfl) (by decide) : IsRat (z.im * z.im) (2 * n) (u 10) ws) (by omega) (by omega))
  refine ⟨94, #[ptr g1, u 5, u 10], ?_, HC.out.mono ?_⟩
  ·clear HC; go_simp
  ·rintro _ w2 ⟨rfl, hi, hg⟩
   exact ⟨rfl, hi, hg⟩
 ·refine step_val (o := Oper.mk (some 2) _ _ _ _ _) rfl rfl rfl (fun u ws hc hd => ⟨u 11, ?_, (hd 11 (by kernel_rfl) (by decide) : IsRat ((z.re * z.re) + (z.im * z.im)) (4 * n + 1) (u 11) ws)⟩)
  go_simp
 ·intro u w1 hb1 hf hn1
  have f12 : IsRat _ _ (u 12) w1 := hf 12 (by decide) (by decide)
  refine wpAny_end (by kernel_rfl) ?_
  refine NoPanic.normal ?_
  clear hf hn1
  go_wp2_with fail
  go_ret
  exact ⟨_, rfl, f12, hbw.trans (hb1.mono hbw.size)⟩
set_option maxRecDepth 100000 in
set_option maxHeartbeats 4000000 in
theorem add_any {w : World} {v1 v2 : Value} {z y : Cx} {n : Nat} (h1 : IsNum z n v1 w) (h2 : IsNum y n v2 w) (hn : n ≤ 1000000) :
  Calls Tryz.prog 83 #[v1, v2] w (Ret w (IsNum (z.add y) (2 * n + 1))) := by
 obtain ⟨_, _, rfl, pa, pb⟩ := h1
 obtain ⟨a, rfl⟩ := pa.ptr
 obtain ⟨b, rfl⟩ := pb.ptr
 obtain ⟨_, _, rfl, pc, pd⟩ := h2
 obtain ⟨c, rfl⟩ := pc.ptr
 obtain ⟨d, rfl⟩ := pd.ptr
 go_enter Tryz.func83, Tryz.ntmps83
 go_wp2_with fail
 have hbw : Below w.heap.size w (((w.alloc (Obj.cells #[ptr a, ptr b] 83)).alloc (Obj.cells #[ptr c, ptr d] 83)).alloc (Obj.cells #[.pointer none, .pointer none] 83)) := ((((Below.refl _ _).alloc (Nat.le_refl _) _).alloc (by simp <;> omega) _).alloc (by simp <;> omega) _)
 have k0 : Blk (((w.alloc (Obj.cells #[ptr a, ptr b] 83)).alloc (Obj.cells #[ptr c, ptr d] 83)).alloc (Obj.cells #[.pointer none, .pointer none] 83)) (w.heap.size) 83 #[ptr a, ptr b] := ((((Blk.new w 83 #[ptr a, ptr b]).alloc (Obj.cells #[ptr c, ptr d] 83)).alloc (Obj.cells #[.pointer none, .pointer none] 83))).cast (by simp)
 have k1 : Blk (((w.alloc (Obj.cells #[ptr a, ptr b] 83)).alloc (Obj.cells #[ptr c, ptr d] 83)).alloc (Obj.cells #[.pointer none, .pointer none] 83)) (w.heap.size + 1) 83 #[ptr c, ptr d] := (((Blk.new (w.alloc (Obj.cells #[ptr a, ptr b] 83)) 83 #[ptr c, ptr d]).alloc (Obj.cells #[.pointer none, .pointer none] 83))).cast (by simp)
 have k2 : Blk (((w.alloc (Obj.cells #[ptr a, ptr b] 83)).alloc (Obj.cells #[ptr c, ptr d] 83)).alloc (Obj.cells #[.pointer none, .pointer none] 83)) (w.heap.size + 1 + 1) 83 #[.pointer none, .pointer none] := ((Blk.new ((w.alloc (Obj.cells #[ptr a, ptr b] 83)).alloc (Obj.cells #[ptr c, ptr d] 83)) 83 #[.pointer none, .pointer none])).cast (by simp)
 generalize hW : (((w.alloc (Obj.cells #[ptr a, ptr b] 83)).alloc (Obj.cells #[ptr c, ptr d] 83)).alloc (Obj.cells #[.pointer none, .pointer none] 83)) = W at *
 clear hW
 have pa := pa.below hbw
 have pb := pb.below hbw
 have pc := pc.below hbw
 have pd := pd.below hbw
 refine wp_region_noPanic ?_
 refine wp_region_list (mk := ?mk) ratZ_vgs [Is undef, Is (ptr w.heap.size), Is (ptr a), IsRat z.re n, Is (ptr (w.heap.size + 1)), Is (ptr c), IsRat y.re n, IsRat (z.re + y.re) (2 * n + 1), Is undef, Is (.pointer (some ⟨w.heap.size, 1, none⟩)), Is (ptr b), IsRat z.im n, Is (.pointer (some ⟨w.heap.size + 1, 1, none⟩)), Is (ptr d), IsRat y.im n, IsRat (z.im + y.im) (2 * n + 1)] [.fresh, .plain, .plain, .plain, .plain, .plain, .plain, .fills 0, .fresh, .plain, .plain, .plain, .plain, .plain, .plain, .fills 8] 16 2 (fun w' => Blk w' (w.heap.size) 83 #[(ptr a), (ptr b)] ∧ Blk w' (w.heap.size + 1) 83 #[(ptr c), (ptr d)] ∧ IsRat z.re n (ptr a) w' ∧ IsRat z.im n (ptr b) w' ∧ IsRat y.re n (ptr c) w' ∧ IsRat y.im n (ptr d) w' ∧ True) ⟨is_steady _ _ _, is_steady _ _ _, is_steady _ _ _, isRat_steady _ _ _, is_steady _ _ _, is_steady _ _ _, isRat_steady _ _ _, isRat_steady _ _ _, is_steady _ _ _, is_steady _ _ _, is_steady _ _ _, isRat_steady _ _ _, is_steady _ _ _, is_steady _ _ _, isRat_steady _ _ _, isRat_steady _ _ _, trivial⟩ (by kernel_rfl) (by kernel_rfl) (by kernel_rfl) (by kernel_rfl) (by kernel_rfl) (by kernel_rfl) ?hmk (fun w' hB => ⟨k0.below hB k0.lt, k1.below hB k1.lt, pa.below hB, pb.below hB, pc.below hB, pd.below hB, trivial⟩)
  (steps_all (steps_cons ?_ (steps_cons ?_ (steps_cons ?_ (steps_cons ?_ (steps_cons ?_ (steps_cons ?_ (steps_cons ?_ (steps_cons ?_ (steps_cons ?_ (steps_cons ?_ (steps_cons ?_ (steps_cons ?_ (steps_cons ?_ (steps_cons ?_ (steps_cons ?_ (steps_cons ?_ steps_nil))))))))))))))))) ?_
 case hmk =>
  intro u
  simp only [mkFrom, mkL, dstOf, List.range, List.range.loop, Act.put, List.setIfInBounds_toArray, List.set_cons_zero, List.set_cons_succ, List.getElem?_toArray, List.getElem?_cons_zero, List.getElem?_cons_succ, Option.bind_some]
  rfl
 ·refine step_new (o := Oper.mk (some 5) _ _ _ _ _) rfl rfl rfl (fun u ws hc => ⟨.cells #[.bool false, .slice none 0 0, .bool false, .slice none 0 0] 153, ?_, Blk.new ws 153 _⟩)
  go_simp
 ·refine step_is (o := Oper.mk (some 6) _ _ _ _ _) rfl rfl rfl rfl (fun u ws hc hd => ?_)
  go_simp
 ·refine step_is (o := Oper.mk (some 7) _ _ _ _ _) rfl rfl rfl rfl (fun u ws hc hd => ?_)
  obtain ⟨k0, k1, pa, pb, pc, pd, _⟩ := hc
  have c1 : ws.cell? ⟨w.heap.size, 0, none⟩ = some (ptr a) := by rw [k0.cell]; rfl
  have d1 : u 1 = _ := hd 1 (by kernel_rfl) (by decide)
  go_simp
 ·refine step_call (o := Oper.mk (some 8) _ _ _ _ _) rfl rfl rfl (fun u ws hc hd => ?_)
  obtain ⟨k0, k1, pa, pb, pc, pd, _⟩ := hc
  have d2 : u 2 = _ := hd 2 (by kernel_rfl) (by decide)
  have HC := Lib.hid (ratid_any pa)
  refine ⟨63, #[(ptr a)], ?_, HC.out⟩
  ·clear HC; go_simp
 ·refine step_is (o := Oper.mk (some 9) _ _ _ _ _) rfl rfl rfl rfl (fun u ws hc hd => ?_)
  go_simp
 ·refine step_is (o := Oper.mk (some 10) _ _ _ _ _) rfl rfl rfl rfl (fun u ws hc hd => ?_)
  obtain ⟨k0, k1, pa, pb, pc, pd, _⟩ := hc
  have c1 : ws.cell? ⟨w.heap.size + 1, 0, none⟩ = some (ptr c) := by rw [k1.cell]; rfl
  have d4 : u 4 = _ := hd 4 (by kernel_rfl) (by decide)
  go_simp
 ·refine step_call (o := Oper.mk (some 11) _ _ _ _ _) rfl rfl rfl (fun u ws hc hd => ?_)
  obtain ⟨k0, k1, pa, pb, pc, pd, _⟩ := hc
  have d5 : u 5 = _ := hd 5 (by kernel_rfl) (by decide)
  have HC := Lib.hid (ratid_any pc)
  refine ⟨63, #[(ptr c)], ?_, HC.out⟩
  ·clear HC; go_simp
 ·refine step_fill (a := 0) (o := Oper.mk (some 12) _ _ _ _ _) rfl rfl rfl (fun u ws g1 hc hd h0 hlo hv => ?_)
  obtain ⟨k0, k1, pa, pb, pc, pd, _⟩ := hc
  have HC := Lib.hid (fadd (m := (2 * n + 1)) hv (hd 3 (by kernel_rfl) (by decide) : IsRat z.re n (u 3) ws) (hd 6 (by kernel_rfl) (by decide) : IsRat y.re n (u 6) ws) (by omega) (by omega))
  refine ⟨94, #[ptr g1, u 3, u 6], ?_, HC.out.mono ?_⟩
  ·clear HC; go_simp
  ·rintro _ w2 ⟨rfl, hi, hg⟩
   exact ⟨rfl, hi, hg⟩
 ·refine step_new (o := Oper.mk (some 13) _ _ _ _ _) rfl rfl rfl (fun u ws hc => ⟨.cells #[.bool false, .slice none 0 0, .bool false, .slice none 0 0] 153, ?_, Blk.new ws 153 _⟩)
  go_simp
 ·refine step_is (o := Oper.mk (some 14) _ _ _ _ _) rfl rfl rfl rfl (fun u ws hc hd => ?_)
  go_simp
 ·refine step_is (o := Oper.mk (some 15) _ _ _ _ _) rfl rfl rfl rfl (fun u ws hc hd => ?_)
  obtain ⟨k0, k1, pa, pb, pc, pd, _⟩ := hc
  have c1 : ws.cell? ⟨w.heap.size, 1, none⟩ = some (ptr b) := by rw [k0.cell]; rfl
  have d9 : u 9 = _ := hd 9 (by kernel_rfl) (by decide)
  go_simp
 ·refine step_call (o := Oper.mk (some 16) _ _ _ _ _) rfl rfl rfl (fun u ws hc hd => ?_)
  obtain ⟨k0, k1, pa, pb, pc, pd, _⟩ := hc
  have d10 : u 10 = _ := hd 10 (by kernel_rfl) (by decide)
  have HC := Lib.hid (ratid_any pb)
  refine ⟨63, #[(ptr b)], ?_, HC.out⟩
  ·clear HC; go_simp
 ·refine step_is (o := Oper.mk (some 17) _ _ _ _ _) rfl rfl rfl rfl (fun u ws hc hd => ?_)
  go_simp
 ·refine step_is (o := Oper.mk (some 18) _ _ _ _ _) rfl rfl rfl rfl (fun u ws hc hd => ?_)
  obtain ⟨k0, k1, pa, pb, pc, pd, _⟩ := hc
  have c1 : ws.cell? ⟨w.heap.size + 1, 1, none⟩ = some (ptr d) := by rw [k1.cell]; rfl
  have d12 : u 12 = _ := hd 12 (by kernel_rfl) (by decide)
  go_simp
 ·refine step_call (o := Oper.mk (some 19) _ _ _ _ _) rfl rfl rfl (fun u ws hc hd => ?_)
  obtain ⟨k0, k1, pa, pb, pc, pd, _⟩ := hc
  have d13 : u 13 = _ := hd 13 (by kernel_rfl) (by decide)
  have HC := Lib.hid (ratid_any pd)
  refine ⟨63, #[(ptr d)], ?_, HC.out⟩
  ·clear HC; go_simp
 ·refine step_fill (a := 8) (o := Oper.mk (some 20) _ _ _ _ _) rfl rfl rfl (fun u ws g1 hc hd h0 hlo hv => ?_)
  obtain ⟨k0, k1, pa, pb, pc, pd, _⟩ := hc
  have HC := Lib.hid (fadd (m := (2 * n + 1)) hv (hd 11 (by kernel_rfl) (by decide) : IsRat z.im n (u 11) ws) (hd 14 (by kernel_rfl) (by decide) : IsRat y.im n (u 14) ws) (by omega) (by omega))
  refine ⟨94, #[ptr g1, u 11, u 14], ?_, HC.out.mono ?_⟩
  ·clear HC; go_simp
  ·rintro _ w2 ⟨rfl, hi, hg⟩
   exact ⟨rfl, hi, hg⟩
 ·intro u w1 hb1 hf hn1
  have fa : IsRat _ _ (u 7) w1 := hf 7 (by decide) (by decide)
  have fb : IsRat _ _ (u 15) w1 := hf 15 (by decide) (by decide)
  obtain ⟨ga, ea⟩ := fa.ptr
  obtain ⟨gb, eb⟩ := fb.ptr
  rw [ea] at fa
  rw [eb] at fb
  have kr := k2.below hb1 k2.lt
  clear hf hn1
  refine wpAny_tail (j := 16) (o := Oper.mk (some 21) _ _ _ _ _) rfl (by kernel_rfl) (fun K hK => ?_)
  rw [ea, eb]
  go_simp
  refine hK.out _ _ ?_
  clear hK K
  refine wpAny_store (j := 17) (o := Oper.mk none _ _ _ _ _) rfl (by kernel_rfl) rfl 83 (.tmp 4) (.tmp 21) rfl (w.heap.size + 1 + 1) 0 #[ptr ga, ptr gb] rfl rfl #[ptr ga, ptr gb] kr (by simp) rfl (by kernel_rfl) (by simp [Value.oneCell', ptr]) (fun w2 k9 hg9 hs9 => ?_)
  refine wpAny_end (by kernel_rfl) ?_
  refine NoPanic.normal ?_
  go_wp2_with fail
  refine bodyPost_ret (results_row1 rfl _ _ _ _ _ (by rfl) k9 Tryz.underlying83 rfl (by kernel_rfl)) rfl ?_
  exact ⟨_, rfl, ⟨_, _, rfl, fa.far kr (by decide) (by simp) hg9, fb.far kr (by decide) (by simp) hg9⟩, own_set hbw hb1 (by omega) hg9⟩
set_option maxRecDepth 100000 in
set_option maxHeartbeats 4000000 in
theorem sub_any {w : World} {v1 v2 : Value} {z y : Cx} {n : Nat} (h1 : IsNum z n v1 w) (h2 : IsNum y n v2 w) (hn : n ≤ 1000000) :
  Calls Tryz.prog 68 #[v1, v2] w (Ret w (IsNum (z.sub y) (2 * n + 1))) := by
 obtain ⟨_, _, rfl, pa, pb⟩ := h1
 obtain ⟨a, rfl⟩ := pa.ptr
 obtain ⟨b, rfl⟩ := pb.ptr
 obtain ⟨_, _, rfl, pc, pd⟩ := h2
 obtain ⟨c, rfl⟩ := pc.ptr
 obtain ⟨d, rfl⟩ := pd.ptr
 go_enter Tryz.func68, Tryz.ntmps68
 go_wp2_with fail
 have hbw : Below w.heap.size w (((w.alloc (Obj.cells #[ptr a, ptr b] 83)).alloc (Obj.cells #[ptr c, ptr d] 83)).alloc (Obj.cells #[.pointer none, .pointer none] 83)) := ((((Below.refl _ _).alloc (Nat.le_refl _) _).alloc (by simp <;> omega) _).alloc (by simp <;> omega) _)
 have k0 : Blk (((w.alloc (Obj.cells #[ptr a, ptr b] 83)).alloc (Obj.cells #[ptr c, ptr d] 83)).alloc (Obj.cells #[.pointer none, .pointer none] 83)) (w.heap.size) 83 #[ptr a, ptr b] := ((((Blk.new w 83 #[ptr a, ptr b]).alloc (Obj.cells #[ptr c, ptr d] 83)).alloc (Obj.cells #[.pointer none, .pointer none] 83))).cast (by simp)
 have k1 : Blk (((w.alloc (Obj.cells #[ptr a, ptr b] 83)).alloc (Obj.cells #[ptr c, ptr d] 83)).alloc (Obj.cells #[.pointer none, .pointer none] 83)) (w.heap.size + 1) 83 #[ptr c, ptr d] := (((Blk.new (w.alloc (Obj.cells #[ptr a, ptr b] 83)) 83 #[ptr c, ptr d]).alloc (Obj.cells #[.pointer none, .pointer none] 83))).cast (by simp)
 have k2 : Blk (((w.alloc (Obj.cells #[ptr a, ptr b] 83)).alloc (Obj.cells #[ptr c, ptr d] 83)).alloc (Obj.cells #[.pointer none, .pointer none] 83)) (w.heap.size + 1 + 1) 83 #[.pointer none, .pointer none] := ((Blk.new ((w.alloc (Obj.cells #[ptr a, ptr b] 83)).alloc (Obj.cells #[ptr c, ptr d] 83)) 83 #[.pointer none, .pointer none])).cast (by simp)
 generalize hW : (((w.alloc (Obj.cells #[ptr a, ptr b] 83)).alloc (Obj.cells #[ptr c, ptr d] 83)).alloc (Obj.cells #[.pointer none, .pointer none] 83)) = W at *
 clear hW
 have pa := pa.below hbw
 have pb := pb.below hbw
 have pc := pc.below hbw
 have pd := pd.below hbw
 refine wp_region_noPanic ?_
 refine wp_region_list (mk := ?mk) ratZ_vgs [Is undef, Is (ptr w.heap.size), Is (ptr a), IsRat z.re n, Is (ptr (w.heap.size + 1)), Is (ptr c), IsRat y.re n, IsRat (z.re - y.re) (2 * n + 1), Is undef, Is (.pointer (some ⟨w.heap.size, 1, none⟩)), Is (ptr b), IsRat z.im n, Is (.pointer (some ⟨w.heap.size + 1, 1, none⟩)), Is (ptr d), IsRat y.im n, IsRat (z.im - y.im) (2 * n + 1)] [.fresh, .plain, .plain, .plain, .plain, .plain, .plain, .fills 0, .fresh, .plain, .plain, .plain, .plain, .plain, .plain, .fills 8] 16 2 (fun w' => Blk w' (w.heap.size) 83 #[(ptr a), (ptr b)] ∧ Blk w' (w.heap.size + 1) 83 #[(ptr c), (ptr d)] ∧ IsRat z.re n (ptr a) w' ∧ IsRat z.im n (ptr b) w' ∧ IsRat y.re n (ptr c) w' ∧ IsRat y.im n (ptr d) w' ∧ True) ⟨is_steady _ _ _, is_steady _ _ _, is_steady _ _ _, isRat_steady _ _ _, is_steady _ _ _, is_steady _ _ _, isRat_steady _ _ _, isRat_steady _ _ _, is_steady _ _ _, is_steady _ _ _, is_steady _ _ _, isRat_steady _ _ _, is_steady _ _ _, is_steady _ _ _, isRat_steady _ _ _, isRat_steady _ _ _, trivial⟩ (by kernel_rfl) (by kernel_rfl) (by kernel_rfl) (by kernel_rfl) (by kernel_rfl) (by kernel_rfl) ?hmk (fun w' hB => ⟨k0.below hB k0.lt, k1.below hB k1.lt, pa.below hB, pb.below hB, pc.below hB, pd.below hB, trivial⟩)
  (steps_all (steps_cons ?_ (steps_cons ?_ (steps_cons ?_ (steps_cons ?_ (steps_cons ?_ (steps_cons ?_ (steps_cons ?_ (steps_cons ?_ (steps_cons ?_ (steps_cons ?_ (steps_cons ?_ (steps_cons ?_ (steps_cons ?_ (steps_cons ?_ (steps_cons ?_ (steps_cons ?_ steps_nil))))))))))))))))) ?_
 case hmk =>
  intro u
  simp only [mkFrom, mkL, dstOf, List.range, List.range.loop, Act.put, List.setIfInBounds_toArray, List.set_cons_zero, List.set_cons_succ, List.getElem?_toArray, List.getElem?_cons_zero, List.getElem?_cons_succ, Option.bind_some]
  rfl
 ·refine step_new (o := Oper.mk (some 5) _ _ _ _ _) rfl rfl rfl (fun u ws hc => ⟨.cells #[.bool false, .slice none 0 0, .bool false, .slice none 0 0] 153, ?_, Blk.new ws 153 _⟩)
  go_simp
 ·refine step_is (o := Oper.mk (some 6) _ _ _ _ _) rfl rfl rfl rfl (fun u ws hc hd => ?_)
  go_simp
 ·refine step_is (o := Oper.mk (some 7) _ _ _ _ _) rfl rfl rfl rfl (fun u ws hc hd => ?_)
  obtain ⟨k0, k1, pa, pb, pc, pd, _⟩ := hc
  have c1 : ws.cell? ⟨w.heap.size, 0, none⟩ = some (ptr a) := by rw [k0.cell]; rfl
  have d1 : u 1 = _ := hd 1 (by kernel_rfl) (by decide)
  go_simp
 ·refine step_call (o := Oper.mk (some 8) _ _ _ _ _) rfl rfl rfl (fun u ws hc hd => ?_)
  obtain ⟨k0, k1, pa, pb, pc, pd, _⟩ := hc
  have d2 : u 2 = _ := hd 2 (by kernel_rfl) (by decide)
  have HC := Lib.hid (ratid_any pa)
  refine ⟨63, #[(ptr a)], ?_, HC.out⟩
  ·clear HC; go_simp
 ·refine step_is (o := Oper.mk (some 9) _ _ _ _ _) rfl rfl rfl rfl (fun u ws hc hd => ?_)
  go_simp
 ·refine step_is (o := Oper.mk (some 10) _ _ _ _ _) rfl rfl rfl rfl (fun u ws hc hd => ?_)
  obtain ⟨k0, k1, pa, pb, pc, pd, _⟩ := hc
  have c1 : ws.cell? ⟨w.heap.size + 1, 0, none⟩ = some (ptr c) := by rw [k1.cell]; rfl
  have d4 : u 4 = _ := hd 4 (by kernel_rfl) (by decide)
  go_simp
 ·refine step_call (o := Oper.mk (some 11) _ _ _ _ _) rfl rfl rfl (fun u ws hc hd => ?_)
  obtain ⟨k0, k1, pa, pb, pc, pd, _⟩ := hc
  have d5 : u 5 = _ := hd 5 (by kernel_rfl) (by decide)
  have HC := Lib.hid (ratid_any pc)
  refine ⟨63, #[(ptr c)], ?_, HC.out⟩
  ·clear HC; go_simp
 ·refine step_fill (a := 0) (o := Oper.mk (some 12) _ _ _ _ _) rfl rfl rfl (fun u ws g1 hc hd h0 hlo hv => ?_)
  obtain ⟨k0, k1, pa, pb, pc, pd, _⟩ := hc
  have HC := Lib.hid (fsub (m := (2 * n + 1)) hv (hd 3 (by kernel_rfl) (by decide) : IsRat z.re n (u 3) ws) (hd 6 (by kernel_rfl) (by decide) : IsRat y.re n (u 6) ws) (by omega) (by omega))
  refine ⟨101, #[ptr g1, u 3, u 6], ?_, HC.out.mono ?_⟩
  ·clear HC; go_simp
  ·rintro _ w2 ⟨rfl, hi, hg⟩
   exact ⟨rfl, hi, hg⟩
 ·refine step_new (o := Oper.mk (some 13) _ _ _ _ _) rfl rfl rfl (fun u ws hc => ⟨.cells #[.bool false, .slice none 0 0, .bool false, .slice none 0 0] 153, ?_, Blk.new ws 153 _⟩)
  go_simp
 ·refine step_is (o := Oper.mk (some 14) _ _ _ _ _) rfl rfl rfl rfl (fun u ws hc hd => ?_)
  go_simp
 ·refine step_is (o := Oper.mk (some 15) _ _ _ _ _) rfl rfl rfl rfl (fun u ws hc hd => ?_)
  obtain ⟨k0, k1, pa, pb, pc, pd, _⟩ := hc
  have c1 : ws.cell? ⟨w.heap.size, 1, none⟩ = some (ptr b) := by rw [k0.cell]; rfl
  have d9 : u 9 = _ := hd 9 (by kernel_rfl) (by decide)
  go_simp
 ·refine step_call (o := Oper.mk (some 16) _ _ _ _ _) rfl rfl rfl (fun u ws hc hd => ?_)
  obtain ⟨k0, k1, pa, pb, pc, pd, _⟩ := hc
  have d10 : u 10 = _ := hd 10 (by kernel_rfl) (by decide)
  have HC := Lib.hid (ratid_any pb)
  refine ⟨63, #[(ptr b)], ?_, HC.out⟩
  ·clear HC; go_simp
 ·refine step_is (o := Oper.mk (some 17) _ _ _ _ _) rfl rfl rfl rfl (fun u ws hc hd => ?_)
  go_simp
 ·refine step_is (o := Oper.mk (some 18) _ _ _ _ _) rfl rfl rfl rfl (fun u ws hc hd => ?_)
  obtain ⟨k0, k1, pa, pb, pc, pd, _⟩ := hc
  have c1 : ws.cell? ⟨w.heap.size + 1, 1, none⟩ = some (ptr d) := by rw [k1.cell]; rfl
  have d12 : u 12 = _ := hd 12 (by kernel_rfl) (by decide)
  go_simp
 ·refine step_call (o := Oper.mk (some 19) _ _ _ _ _) rfl rfl rfl (fun u ws hc hd => ?_)
  obtain ⟨k0, k1, pa, pb, pc, pd, _⟩ := hc
  have d13 : u 13 = _ := hd 13 (by kernel_rfl) (by decide)
  have HC := Lib.hid (ratid_any pd)
  refine ⟨63, #[(ptr d)], ?_, HC.out⟩
  ·clear HC; go_simp
 ·refine step_fill (a := 8) (o := Oper.mk (some 20) _ _ _ _ _) rfl rfl rfl (fun u ws g1 hc hd h0 hlo hv => ?_)
  obtain ⟨k0, k1, pa, pb, pc, pd, _⟩ := hc
  have HC := Lib.hid (fsub (m := (2 * n + 1)) hv (hd 11 (by kernel_rfl) (by decide) : IsRat z.im n (u 11) ws) (hd 14 (by kernel_rfl) (by decide) : IsRat y.im n (u 14) ws) (by omega) (by omega))
  refine ⟨101, #[ptr g1, u 11, u 14], ?_, HC.out.mono ?_⟩
  ·clear HC; go_simp
  ·rintro _ w2 ⟨rfl, hi, hg⟩
   exact ⟨rfl, hi, hg⟩
 ·intro u w1 hb1 hf hn1
  have fa : IsRat _ _ (u 7) w1 := hf 7 (by decide) (by decide)
  have fb : IsRat _ _ (u 15) w1 := hf 15 (by decide) (by decide)
  obtain ⟨ga, ea⟩ := fa.ptr
  obtain ⟨gb, eb⟩ := fb.ptr
  rw [ea] at fa
  rw [eb] at fb
  have kr := k2.below hb1 k2.lt
  clear hf hn1
  refine wpAny_tail (j := 16) (o := Oper.mk (some 21) _ _ _ _ _) rfl (by kernel_rfl) (fun K hK => ?_)
  rw [ea, eb]
  go_simp
  refine hK.out _ _ ?_
  clear hK K
  refine wpAny_store (j := 17) (o := Oper.mk none _ _ _ _ _) rfl (by kernel_rfl) rfl 83 (.tmp 4) (.tmp 21) rfl (w.heap.size + 1 + 1) 0 #[ptr ga, ptr gb] rfl rfl #[ptr ga, ptr gb] kr (by simp) rfl (by kernel_rfl) (by simp [Value.oneCell', ptr]) (fun w2 k9 hg9 hs9 => ?_)
  refine wpAny_end (by kernel_rfl) ?_
  refine NoPanic.normal ?_
  go_wp2_with fail
  refine bodyPost_ret (results_row1 rfl _ _ _ _ _ (by rfl) k9 Tryz.underlying83 rfl (by kernel_rfl)) rfl ?_
  exact ⟨_, rfl, ⟨_, _, rfl, fa.far kr (by decide) (by simp) hg9, fb.far kr (by decide) (by simp) hg9⟩, own_set hbw hb1 (by omega) hg9⟩
set_option maxRecDepth 100000 in
set_option maxHeartbeats 4000000 in
theorem mul_any {w : World} {v1 v2 : Value} {z y : Cx} {n : Nat} (h1 : IsNum z n v1 w) (h2 : IsNum y n v2 w) (hn : n ≤ 1000000) :
  Calls Tryz.prog 82 #[v1, v2] w (Ret w (IsNum (z.mul y) (4 * n + 1))) := by
 obtain ⟨_, _, rfl, pa, pb⟩ := h1
 obtain ⟨a, rfl⟩ := pa.ptr
 obtain ⟨b, rfl⟩ := pb.ptr
 obtain ⟨_, _, rfl, pc, pd⟩ := h2
 obtain ⟨c, rfl⟩ := pc.ptr
 obtain ⟨d, rfl⟩ := pd.ptr
 go_enter Tryz.func82, Tryz.ntmps82
 go_wp2_with fail
 have hbw : Below w.heap.size w (((w.alloc (Obj.cells #[ptr a, ptr b] 83)).alloc (Obj.cells #[ptr c, ptr d] 83)).alloc (Obj.cells #[.pointer none, .pointer none] 83)) := ((((Below.refl _ _).alloc (Nat.le_refl _) _).alloc (by simp <;> omega) _).alloc (by simp <;> omega) _)
 have k0 : Blk (((w.alloc (Obj.cells #[ptr a, ptr b] 83)).alloc (Obj.cells #[ptr c, ptr d] 83)).alloc (Obj.cells #[.pointer none, .pointer none] 83)) (w.heap.size) 83 #[ptr a, ptr b] := ((((Blk.new w 83 #[ptr a, ptr b]).alloc (Obj.cells #[ptr c, ptr d] 83)).alloc (Obj.cells #[.pointer none, .pointer none] 83))).cast (by simp)
 have k1 : Blk (((w.alloc (Obj.cells #[ptr a, ptr b] 83)).alloc (Obj.cells #[ptr c, ptr d] 83)).alloc (Obj.cells #[.pointer none, .pointer none] 83)) (w.heap.size + 1) 83 #[ptr c, ptr d] := (((Blk.new (w.alloc (Obj.cells #[ptr a, ptr b] 83)) 83 #[ptr c, ptr d]).alloc (Obj.cells #[.pointer none, .pointer none] 83))).cast (by simp)
 have k2 : Blk (((w.alloc (Obj.cells #[ptr a, ptr b] 83)).alloc (Obj.cells #[ptr c, ptr d] 83)).alloc (Obj.cells #[.pointer none, .pointer none] 83)) (w.heap.size + 1 + 1) 83 #[.pointer none, .pointer none] := ((Blk.new ((w.alloc (Obj.cells #[ptr a, ptr b] 83)).alloc (Obj.cells #[ptr c, ptr d] 83)) 83 #[.pointer none, .pointer none])).cast (by simp)
 generalize hW : (((w.alloc (Obj.cells #[ptr a, ptr b] 83)).alloc (Obj.cells #[ptr c, ptr d] 83)).alloc (Obj.cells #[.pointer none, .pointer none] 83)) = W at *
 clear hW
 have pa := pa.below hbw
 have pb := pb.below hbw
 have pc := pc.below hbw
 have pd := pd.below hbw
 refine wp_region_noPanic ?_
 refine wp_region_list (mk := ?mk) ratZ_vgs [Is undef, Is (ptr w.heap.size), Is (ptr a), Is (ptr (w.heap.size + 1)), Is (ptr c), IsRat (z.re * y.re) (2 * n), Is (.pointer (some ⟨w.heap.size, 1, none⟩)), Is (ptr b), Is (.pointer (some ⟨w.heap.size + 1, 1, none⟩)), Is (ptr d), IsRat (z.im * y.im) (2 * n), IsRat ((z.re * y.re) - (z.im * y.im)) (4 * n + 1), Is undef, Is (ptr w.heap.size), Is (ptr a), Is (.pointer (some ⟨w.heap.size + 1, 1, none⟩)), Is (ptr d), IsRat (z.re * y.im) (2 * n), Is (.pointer (some ⟨w.heap.size, 1, none⟩)), Is (ptr b), Is (ptr (w.heap.size + 1)), Is (ptr c), IsRat (z.im * y.re) (2 * n), IsRat ((z.re * y.im) + (z.im * y.re)) (4 * n + 1)] [.fresh, .plain, .plain, .plain, .plain, .plain, .plain, .plain, .plain, .plain, .plain, .fills 0, .fresh, .plain, .plain, .plain, .plain, .plain, .plain, .plain, .plain, .plain, .plain, .fills 12] 24 2 (fun w' => Blk w' (w.heap.size) 83 #[(ptr a), (ptr b)] ∧ Blk w' (w.heap.size + 1) 83 #[(ptr c), (ptr d)] ∧ IsRat z.re n (ptr a) w' ∧ IsRat z.im n (ptr b) w' ∧ IsRat y.re n (ptr c) w' ∧ IsRat y.im n (ptr d) w' ∧ True) ⟨is_steady _ _ _, is_steady _ _ _, is_steady _ _ _, is_steady _ _ _, is_steady _ _ _, isRat_steady _ _ _, is_steady _ _ _, is_steady _ _ _, is_steady _ _ _, is_steady _ _ _, isRat_steady _ _ _, isRat_steady _ _ _, is_steady _ _ _, is_steady _ _ _, is_steady _ _ _, is_steady _ _ _, is_steady _ _ _, isRat_steady _ _ _, is_steady _ _ _, is_steady _ _ _, is_steady _ _ _, is_steady _ _ _, isRat_steady _ _ _, isRat_steady _ _ _, trivial⟩ (by kernel_rfl) (by kernel_rfl) (by kernel_rfl) (by kernel_rfl) (by kernel_rfl) (by kernel_rfl) ?hmk (fun w' hB => ⟨k0.below hB k0.lt, k1.below hB k1.lt, pa.below hB, pb.below hB, pc.below hB, pd.below hB, trivial⟩)
  (steps_all (steps_cons ?_ (steps_cons ?_ (steps_cons ?_ (steps_cons ?_ (steps_cons ?_ (steps_cons ?_ (steps_cons ?_ (steps_cons ?_ (steps_cons ?_ (steps_cons ?_ (steps_cons ?_ (steps_cons ?_ (steps_cons ?_ (steps_cons ?_ (steps_cons ?_ (steps_cons ?_ (steps_cons ?_ (steps_cons ?_ (steps_cons ?_ (steps_cons ?_ (steps_cons ?_ (steps_cons ?_ (steps_cons ?_ (steps_cons ?_ steps_nil))))))))))))))))))))))))) ?_
 case hmk =>
  intro u
  simp only [mkFrom, mkL, dstOf, List.range, List.range.loop, Act.put, List.setIfInBounds_toArray, List.set_cons_zero, List.set_cons_succ, List.getElem?_toArray, List.getElem?_cons_zero, List.getElem?_cons_succ, Option.bind_some]
  rfl
 ·refine step_new (o := Oper.mk (some 5) _ _ _ _ _) rfl rfl rfl (fun u ws hc => ⟨.cells #[.bool false, .slice none 0 0, .bool false, .slice none 0 0] 153, ?_, Blk.new ws 153 _⟩)
  go_simp
 ·refine step_is (o := Oper.mk (some 6) _ _ _ _ _) rfl rfl rfl rfl (fun u ws hc hd => ?_)
  go_simp
 ·refine step_is (o := Oper.mk (some 7) _ _ _ _ _) rfl rfl rfl rfl (fun u ws hc hd => ?_)
  obtain ⟨k0, k1, pa, pb, pc, pd, _⟩ := hc
  have c1 : ws.cell? ⟨w.heap.size, 0, none⟩ = some (ptr a) := by rw [k0.cell]; rfl
  have d1 : u 1 = _ := hd 1 (by kernel_rfl) (by decide)
  go_simp
 ·refine step_is (o := Oper.mk (some 8) _ _ _ _ _) rfl rfl rfl rfl (fun u ws hc hd => ?_)
  go_simp
 ·refine step_is (o := Oper.mk (some 9) _ _ _ _ _) rfl rfl rfl rfl (fun u ws hc hd => ?_)
  obtain ⟨k0, k1, pa, pb, pc, pd, _⟩ := hc
  have c1 : ws.cell? ⟨w.heap.size + 1, 0, none⟩ = some (ptr c) := by rw [k1.cell]; rfl
  have d3 : u 3 = _ := hd 3 (by kernel_rfl) (by decide)
  go_simp
 ·refine step_call (o := Oper.mk (some 10) _ _ _ _ _) rfl rfl rfl (fun u ws hc hd => ?_)
  obtain ⟨k0, k1, pa, pb, pc, pd, _⟩ := hc
  have d2 : u 2 = _ := hd 2 (by kernel_rfl) (by decide)
  have d4 : u 4 = _ := hd 4 (by kernel_rfl) (by decide)
  have HC := Lib.hid (upR (m := (2 * n)) (xmul_any pa pc (by omega)) (by omega))
  refine ⟨89, #[(ptr a), (ptr c)], ?_, HC.out⟩
  ·clear HC; go_simp
 ·refine step_is (o := Oper.mk (some 11) _ _ _ _ _) rfl rfl rfl rfl (fun u ws hc hd => ?_)
  go_simp
 ·refine step_is (o := Oper.mk (some 12) _ _ _ _ _) rfl rfl rfl rfl (fun u ws hc hd => ?_)
  obtain ⟨k0, k1, pa, pb, pc, pd, _⟩ := hc
  have c1 : ws.cell? ⟨w.heap.size, 1, none⟩ = some (ptr b) := by rw [k0.cell]; rfl
  have d6 : u 6 = _ := hd 6 (by kernel_rfl) (by decide)
  go_simp
 ·refine step_is (o := Oper.mk (some 13) _ _ _ _ _) rfl rfl rfl rfl (fun u ws hc hd => ?_)
  go_simp
 ·refine step_is (o := Oper.mk (some 14) _ _ _ _ _) rfl rfl rfl rfl (fun u ws hc hd => ?_)
  obtain ⟨k0, k1, pa, pb, pc, pd, _⟩ := hc
  have c1 : ws.cell? ⟨w.heap.size + 1, 1, none⟩ = some (ptr d) := by rw [k1.cell]; rfl
  have d8 : u 8 = _ := hd 8 (by kernel_rfl) (by decide)
  go_simp
 ·refine step_call (o := Oper.mk (some 15) _ _ _ _ _) rfl rfl rfl (fun u ws hc hd => ?_)
  obtain ⟨k0, k1, pa, pb, pc, pd, _⟩ := hc
  have d7 : u 7 = _ := hd 7 (by kernel_rfl) (by decide)
  have d9 : u 9 = _ := hd 9 (by kernel_rfl) (by decide)
  have HC := Lib.hid (upR (m := (2 * n)) (xmul_any pb pd (by omega)) (by omega))
  refine ⟨89, #[(ptr b), (ptr d)], ?_, HC.out⟩
  ·clear HC; go_simp
 ·refine step_fill (a := 0) (o := Oper.mk (some 16) _ _ _ _ _) rfl rfl rfl (fun u ws g1 hc hd h0 hlo hv => ?_)
  obtain ⟨k0, k1, pa, pb, pc, pd, _⟩ := hc
  have HC := Lib.hid (fsub (m := (4 * n + 1)) hv (hd 5 (by kernel_rfl) (by decide) : IsRat (z.re * y.re) (2 * n) (u 5) ws) (hd 10 (by kernel_rfl) (by decide) : IsRat (z.im * y.im) (2 * n) (u 10) ws) (by omega) (by omega))
  refine ⟨101, #[ptr g1, u 5, u 10], ?_, HC.out.mono ?_⟩
  ·clear HC; go_simp
  ·rintro _ w2 ⟨rfl, hi, hg⟩
   exact ⟨rfl, hi, hg⟩
 ·refine step_new (o := Oper.mk (some 17) _ _ _ _ _) rfl rfl rfl (fun u ws hc => ⟨.cells #[.bool false, .slice none 0 0, .bool false, .slice none 0 0] 153, ?_, Blk.new ws 153 _⟩)
  go_simp
 ·refine step_is (o := Oper.mk (some 18) _ _ _ _ _) rfl rfl rfl rfl (fun u ws hc hd => ?_)
  go_simp
 ·refine step_is (o := Oper.mk (some 19) _ _ _ _ _) rfl rfl rfl rfl (fun u ws hc hd => ?_)
  obtain ⟨k0, k1, pa, pb, pc, pd, _⟩ := hc
  have c1 : ws.cell? ⟨w.heap.size, 0, none⟩ = some (ptr a) := by rw [k0.cell]; rfl
  have d13 : u 13 = _ := hd 13 (by kernel_rfl) (by decide)
  go_simp
 ·refine step_is (o := Oper.mk (some 20) _ _ _ _ _) rfl rfl rfl rfl (fun u ws hc hd => ?_)
  go_simp
 ·refine step_is (o := Oper.mk (some 21) _ _ _ _ _) rfl rfl rfl rfl (fun u ws hc hd => ?_)
  obtain ⟨k0, k1, pa, pb, pc, pd, _⟩ := hc
  have c1 : ws.cell? ⟨w.heap.size + 1, 1, none⟩ = some (ptr d) := by rw [k1.cell]; rfl
  have d15 : u 15 = _ := hd 15 (by kernel_rfl) (by decide)
  go_simp
 ·refine step_call (o := Oper.mk (some 22) _ _ _ _ _) rfl rfl rfl (fun u ws hc hd => ?_)
  obtain ⟨k0, k1, pa, pb, pc, pd, _⟩ := hc
  have d14 : u 14 = _ := hd 14 (by kernel_rfl) (by decide)
  have d16 : u 16 = _ := hd 16 (by kernel_rfl) (by decide)
  have HC := Lib.hid (upR (m := (2 * n)) (xmul_any pa pd (by omega)) (by omega))
  refine ⟨89, #[(ptr a), (ptr d)], ?_, HC.out⟩
  ·clear HC; go_simp
 ·refine step_is (o := Oper.mk (some 23) _ _ _ _ _) rfl rfl rfl rfl (fun u ws hc hd => ?_)
  go_simp
 ·refine step_is (o := Oper.mk (some 24) _ _ _ _ _) rfl rfl rfl rfl (fun u ws hc hd => ?_)
  obtain ⟨k0, k1, pa, pb, pc, pd, _⟩ := hc
  have c1 : ws.cell? ⟨w.heap.size, 1, none⟩ = some (ptr b) := by rw [k0.cell]; rfl
  have d18 : u 18 = _ := hd 18 (by kernel_rfl) (by decide)
  go_simp
 ·refine step_is (o := Oper.mk (some 25) _ _ _ _ _) rfl rfl rfl rfl (fun u ws hc hd => ?_)
  go_simp
 ·refine step_is (o := Oper.mk (some 26) _ _ _ _ _) rfl rfl rfl rfl (fun u ws hc hd => ?_)
  obtain ⟨k0, k1, pa, pb, pc, pd, _⟩ := hc
  have c1 : ws.cell? ⟨w.heap.size + 1, 0, none⟩ = some (ptr c) := by rw [k1.cell]; rfl
  have d20 : u 20 = _ := hd 20 (by kernel_rfl) (by decide)
  go_simp
 ·refine step_call (o := Oper.mk (some 27) _ _ _ _ _) rfl rfl rfl (fun u ws hc hd => ?_)
  obtain ⟨k0, k1, pa, pb, pc, pd, _⟩ := hc
  have d19 : u 19 = _ := hd 19 (by kernel_rfl) (by decide)
  have d21 : u 21 = _ := hd 21 (by kernel_rfl) (by decide)
  have HC := Lib.hid (upR (m := (2 * n)) (xmul_any pb pc (by omega)) (by omega))
  refine ⟨89, #[(ptr b), (ptr c)], ?_, HC.out⟩
  ·clear HC; go_simp
 ·refine step_fill (a := 12) (o := Oper.mk (some 28) _ _ _ _ _) rfl rfl rfl (fun u ws g1 hc hd h0 hlo hv => ?_)
  obtain ⟨k0, k1, pa, pb, pc, pd, _⟩ := hc
  have HC := Lib.hid (fadd (m := (4 * n + 1)) hv (hd 17 (by kernel_rfl) (by decide) : IsRat (z.re * y.im) (2 * n) (u 17) ws) (hd 22 (by kernel_rfl) (by decide) : IsRat (z.im * y.re) (2 * n) (u 22) ws) (by omega) (by omega))
  refine ⟨94, #[ptr g1, u 17, u 22], ?_, HC.out.mono ?_⟩
  ·clear HC; go_simp
  ·rintro _ w2 ⟨rfl, hi, hg⟩
   exact ⟨rfl, hi, hg⟩
 ·intro u w1 hb1 hf hn1
  have fa : IsRat _ _ (u 11) w1 := hf 11 (by decide) (by decide)
  have fb : IsRat _ _ (u 23) w1 := hf 23 (by decide) (by decide)
  obtain ⟨ga, ea⟩ := fa.ptr
  obtain ⟨gb, eb⟩ := fb.ptr
  rw [ea] at fa
  rw [eb] at fb
  have kr := k2.below hb1 k2.lt
  clear hf hn1
  refine wpAny_tail (j := 24) (o := Oper.mk (some 29) _ _ _ _ _) rfl (by kernel_rfl) (fun K hK => ?_)
  rw [ea, eb]
  go_simp
  refine hK.out _ _ ?_
  clear hK K
  refine wpAny_store (j := 25) (o := Oper.mk none _ _ _ _ _) rfl (by kernel_rfl) rfl 83 (.tmp 4) (.tmp 29) rfl (w.heap.size + 1 + 1) 0 #[ptr ga, ptr gb] rfl rfl #[ptr ga, ptr gb] kr (by simp) rfl (by kernel_rfl) (by simp [Value.oneCell', ptr]) (fun w2 k9 hg9 hs9 => ?_)
  refine wpAny_end (by kernel_rfl) ?_
  refine NoPanic.normal ?_
  go_wp2_with fail
  refine bodyPost_ret (results_row1 rfl _ _ _ _ _ (by rfl) k9 Tryz.underlying83 rfl (by kernel_rfl)) rfl ?_
  exact ⟨_, rfl, ⟨_, _, rfl, fa.far kr (by decide) (by simp) hg9, fb.far kr (by decide) (by simp) hg9⟩, own_set hbw hb1 (by omega) hg9⟩
def qcells (x3 x4 : Value) (s : Bool) (A : Option Addr) (n c : Nat) : Array Value := #[.bool s, .slice A n c, x3, x4]
def IntP (w : World) (g : Nat) (x3 x4 : Value) : Prop := ∃ s A n c, Blk w g 153 (qcells x3 x4 s A n c)
def IntBP (x3 x4 : Value) (w : World) (g : Nat) (z : Int) : Prop := ∃ s A n c, Blk w g 153 (qcells x3 x4 s A n c) ∧ Hid (s = decide (z < 0) ∧ n = (wds z.natAbs).length) ∧ n ≤ c ∧ c ≤ 9223372036854775807 ∧ ReadsW w w.heap.size A (wds z.natAbs)
def PutsP (x3 x4 : Value) (w : World) (g : Nat) (z : Int) (e : Ending) (w' : World) : Prop := e = .returned (.pointer (some ⟨g, 0, none⟩)) ∧ IntBP x3 x4 w' g z ∧ w.grownBy w' (some g)
theorem IntP.lt {w : World} {g : Nat} {x3 x4 : Value} (h : IntP w g x3 x4) : g < w.heap.size := by
 obtain ⟨s, A, n, c, hb⟩ := h
 exact hb.lt
theorem IntP.below {w w' : World} {g : Nat} {x3 x4 : Value} (h : IntP w g x3 x4) (hb : Below w.heap.size w w') : IntP w' g x3 x4 := by
 have hlt := h.lt
 obtain ⟨s, A, n, c, hk⟩ := h
 exact ⟨s, A, n, c, hk.below hb hlt⟩
theorem ReadsW.offP {w w' : World} {B g : Nat} {x3 x4 : Value} {A : Option Addr} {l : List Nat} (h : ReadsW w B A l) (hi : IntP w g x3 x4) (hg : w.grownBy w' (some g)) (hB : B ≤ w.heap.size) : ReadsW w' B A l := by
 obtain ⟨s, A', n, c, hblk⟩ := hi
 refine h.other hg hB fun r e => ?_
 injection e with e
 subst e
 exact ⟨_, _, _, hblk, by decide⟩
set_option maxRecDepth 100000 in
set_option maxHeartbeats 2000000 in
theorem isP_any {x3 x4 : Value} {w : World} {g B n c : Nat} {A : Option Addr} {l : List Nat} (neg : Bool) (hi : IntP w g x3 x4) (h : ReadsW w B A l) (hB : B ≤ w.heap.size) (hn : n = l.length) (hc : n ≤ c) (hcl : c ≤ 9223372036854775807) (hw : Wd l) :
  Calls Tryz.prog 120 #[.pointer (some ⟨g, 0, none⟩), .bool neg, .slice A n c] w (PutsP x3 x4 w g (sgn neg (val l))) := by
 have hcut := cut_any h hn hc hcl hw
 obtain ⟨m, hm⟩ : ∃ m, m = (wds (val l)).length := ⟨_, rfl⟩
 have hcut2 : Calls Tryz.prog 131 #[.slice A n c] w (fun e w' => e = .returned (.slice A m c) ∧ w = w') := hcut.mono fun e w' ⟨m', he, hm', hw'⟩ => ⟨by rw [he, hm', ← hm], hw'.symm⟩
 have hmc : m ≤ c := by rw [hm]; have := (wds_take l.length l rfl hw).2; omega
 have hmpos : decide (0 < m) = decide (0 < val l) := by
  rw [hm]
  rcases Nat.eq_zero_or_pos (val l) with h0 | h0
  ·rw [h0, wds_zero]; rfl
  ·rw [wds_pos h0]; simp [h0]
 have Hcut := Lib.hid hcut2
 have Hm := Lib.hid (And.intro hm (And.intro hmpos (reads_cut h hw)))
 obtain ⟨s0, A0, n0, c0, hb⟩ := hi
 have hc0 := hb.cell 0
 have hc1 := hb.cell 1
 have hf0 := hb.frozen 0
 have hf1 := hb.frozen 1
 have Hb := Lib.hid (And.intro hb hn)
 simp only [qcells] at hc0 hc1
 have hc0' : w.cell? ⟨g, 0, none⟩ = some (.bool s0) := hc0
 have hc1' : w.cell? ⟨g, 1, none⟩ = some (.slice A0 n0 c0) := hc1
 clear h hm hmpos hcut hcut2 hb hn hc0 hc1
 have fin : ∀ (s : Bool), s = (neg && decide (0 < m)) → PutsP x3 x4 w g (sgn neg (val l)) (.returned (.pointer (some ⟨g, 0, none⟩))) ((w.setCell ⟨g, 1, none⟩ (.slice A m c)).setCell ⟨g, 0, none⟩ (.bool s)) := fun s hs => by
  have hg : w.grownBy ((w.setCell ⟨g, 1, none⟩ (.slice A m c)).setCell ⟨g, 0, none⟩ (.bool s)) (some g) := only_setCell (p := ⟨g, 0, none⟩) (only_setCell (p := ⟨g, 1, none⟩) (World.grownBy.refl w (some g)) (.inl rfl) _) (.inl rfl) _
  refine ⟨rfl, ⟨s, A, m, c, ?_, ⟨by rw [sgn_neg, hs, Hm.out.2.1], by rw [sgn_abs]; exact Hm.out.1⟩, hmc, hcl, ?_⟩, hg⟩
  ·have := (Hb.out.1.set_ 1 (.slice A m c)).set_ 0 (.bool s)
   exact this
  ·rw [sgn_abs]
   have h5 := ReadsW.offP (x3 := x3) (x4 := x4) Hm.out.2.2 ⟨_, _, _, _, Hb.out.1⟩ hg hB
   exact h5.more (Nat.le_trans hB hg.size)
 have Fin := Lib.hid fin
 clear fin
 cases neg
 ·go_enter Tryz.func120, Tryz.ntmps120
  go_wp2_with (go_at_call 131; refine Hcut.out.mono ?_; rintro e w' ⟨rfl, rfl⟩)
  go_ret
  exact Fin.out false (by simp)
 ·by_cases h0 : 0 < m
  ·have h0i : (0 : Int) < (m : Int) := by omega
   go_enter Tryz.func120, Tryz.ntmps120
   go_wp2_with (go_at_call 131; refine Hcut.out.mono ?_; rintro e w' ⟨rfl, rfl⟩)
   go_ret
   exact Fin.out true (by simp [h0])
  ·have h1 : m = 0 := by omega
   subst h1
   go_enter Tryz.func120, Tryz.ntmps120
   go_wp2_with (go_at_call 131; refine Hcut.out.mono ?_; rintro e w' ⟨rfl, rfl⟩)
   go_ret
   exact Fin.out false (by simp)
set_option maxRecDepth 100000 in
set_option maxHeartbeats 4000000 in
theorem setP {x3 x4 : Value} {w : World} {g gx ox : Nat} {x : Int} (hz : IntP w g x3 x4) (hx : IntC w gx ox x) (hxl : (wds x.natAbs).length ≤ 900000000) :
  Calls Tryz.prog 97 #[.pointer (some ⟨g, 0, none⟩), .pointer (some ⟨gx, ox, none⟩)] w (PutsP x3 x4 w g x) := by
 obtain ⟨sx, Ax, nx, cx, x0, x1, Hx, hxc, hxcl, rx⟩ := hx.opened
 have glx := hx.lt'
 have Hr := Lib.hid (And.intro rx hxl)
 clear rx hxl
 go_enter Tryz.func97, Tryz.ntmps97
 go_wp2_with fail
 refine wp_region_noPanic ?_
 refine wp_region_HK (fun w' => (w'.cell? ⟨gx, ox, none⟩ = some (.bool sx) ∧ w'.cell? ⟨gx, ox + 1, none⟩ = some (.slice Ax nx cx))) 10 (by kernel_rfl) ⟨x0, x1⟩ (fun hHeld => ?_)
 refine wpHK_take (i := 0) (oi := Oper.mk (some 5) _ _ _ _ _) (v := ?_) rfl (by kernel_rfl) (by kernel_rfl) (by kernel_rfl) (by kernel_rfl) (fun _ _ _ h => h) (Or.inl ⟨by rfl, ?_⟩) (by assumption) ?_
 rotate_left
 ·(intro w' hSw; (try dsimp only at hSw); (obtain ⟨s1, s2⟩ := hSw); go_simp; try with_reducible rfl)
 try simp only [Act.put, List.setIfInBounds_toArray, List.set_cons_zero, List.set_cons_succ]
 refine wpHK_take (i := 1) (oi := Oper.mk (some 6) _ _ _ _ _) (v := ?_) rfl (by kernel_rfl) (by kernel_rfl) (by kernel_rfl) (by kernel_rfl) (fun _ _ _ h => h) (Or.inl ⟨by rfl, ?_⟩) (by assumption) ?_
 rotate_left
 ·(intro w' hSw; (try dsimp only at hSw); (obtain ⟨s1, s2⟩ := hSw); go_simp; try with_reducible rfl)
 try simp only [Act.put, List.setIfInBounds_toArray, List.set_cons_zero, List.set_cons_succ]
 refine wpHK_take (i := 2) (oi := Oper.mk (some 7) _ _ _ _ _) (v := ?_) rfl (by kernel_rfl) (by kernel_rfl) (by kernel_rfl) (by kernel_rfl) (fun _ _ _ h => h) (Or.inl ⟨by rfl, ?_⟩) (by assumption) ?_
 rotate_left
 ·(intro w' hSw; (try dsimp only at hSw); (obtain ⟨s1, s2⟩ := hSw); go_simp; try with_reducible rfl)
 try simp only [Act.put, List.setIfInBounds_toArray, List.set_cons_zero, List.set_cons_succ]
 refine wpHK_take (i := 3) (oi := Oper.mk (some 8) _ _ _ _ _) (v := ?_) rfl (by kernel_rfl) (by kernel_rfl) (by kernel_rfl) (by kernel_rfl) (fun _ _ _ h => h) (Or.inl ⟨by rfl, ?_⟩) (by assumption) ?_
 rotate_left
 ·(intro w' hSw; (try dsimp only at hSw); (obtain ⟨s1, s2⟩ := hSw); go_simp; try with_reducible rfl)
 try simp only [Act.put, List.setIfInBounds_toArray, List.set_cons_zero, List.set_cons_succ]
 refine wpHK_take (i := 4) (oi := Oper.mk (some 9) _ _ _ _ _) (v := ?_) rfl (by kernel_rfl) (by kernel_rfl) (by kernel_rfl) (by kernel_rfl) (fun _ _ _ h => h) (Or.inl ⟨by rfl, ?_⟩) (by assumption) ?_
 rotate_left
 ·(intro w' hSw; (try dsimp only at hSw); (obtain ⟨s1, s2⟩ := hSw); go_simp; try with_reducible rfl)
 try simp only [Act.put, List.setIfInBounds_toArray, List.set_cons_zero, List.set_cons_succ]
 refine wpHK_take (i := 5) (oi := Oper.mk (some 10) _ _ _ _ _) (v := ?_) rfl (by kernel_rfl) (by kernel_rfl) (by kernel_rfl) (by kernel_rfl) (fun _ _ _ h => h) (Or.inl ⟨by rfl, ?_⟩) (by assumption) ?_
 rotate_left
 ·(intro w' hSw; (try dsimp only at hSw); (obtain ⟨s1, s2⟩ := hSw); go_simp; try with_reducible rfl)
 try simp only [Act.put, List.setIfInBounds_toArray, List.set_cons_zero, List.set_cons_succ]
 refine wpHK_take (i := 6) (oi := Oper.mk (some 11) _ _ _ _ _) (v := ?_) rfl (by kernel_rfl) (by kernel_rfl) (by kernel_rfl) (by kernel_rfl) (fun _ _ _ h => h) (Or.inl ⟨by rfl, ?_⟩) (by assumption) ?_
 rotate_left
 ·(intro w' hSw; (try dsimp only at hSw); (obtain ⟨s1, s2⟩ := hSw); go_simp; try with_reducible rfl)
 try simp only [Act.put, List.setIfInBounds_toArray, List.set_cons_zero, List.set_cons_succ]
 refine wpHK_take (i := 7) (oi := Oper.mk (some 12) _ _ _ _ _) (v := ?_) rfl (by kernel_rfl) (by kernel_rfl) (by kernel_rfl) (by kernel_rfl) (fun _ _ _ h => h) (Or.inl ⟨by rfl, ?_⟩) (by assumption) ?_
 rotate_left
 ·(intro w' hSw; (try dsimp only at hSw); (obtain ⟨s1, s2⟩ := hSw); go_simp; try with_reducible rfl)
 try simp only [Act.put, List.setIfInBounds_toArray, List.set_cons_zero, List.set_cons_succ]
 refine wpHK_take (i := 8) (oi := Oper.mk (some 13) _ _ _ _ _) (v := ?_) rfl (by kernel_rfl) (by kernel_rfl) (by kernel_rfl) (by kernel_rfl) (fun _ _ _ h => h) (Or.inl ⟨by rfl, ?_⟩) (by assumption) ?_
 rotate_left
 ·(intro w' hSw; (try dsimp only at hSw); (obtain ⟨s1, s2⟩ := hSw); go_simp; try with_reducible rfl)
 try simp only [Act.put, List.setIfInBounds_toArray, List.set_cons_zero, List.set_cons_succ]
 refine wpHK_one (j := 9) (o := Oper.mk (some 14) _ _ _ _ _) rfl (by kernel_rfl) (fun K hK => ?_)
 refine stepW_append (by rfl) (.const (.slice none 0 0)) (.tmp 13) (by rfl) w.heap.size _ [] (OwnW.nil _ _) (by rfl) _ _ (wds x.natAbs) (Hr.out.1.drewN 1) nx cx Hx.out.2 (by rfl) (by have := Hr.out.2; simp only [List.length_nil]; omega) (Nat.le_refl _) ?_
 intro A5 n5 c5 w5 ho5 hg5
 rw [List.nil_append] at ho5
 have hb5 := below_of_grown hg5
 have hb5' : Below w.heap.size w w5 := undrew hb5
 have bcell5 : ∀ {b o : Nat}, b < w.heap.size → w5.cell? ⟨b, o, none⟩ = w.cell? ⟨b, o, none⟩ := fun {b o} h => hb5'.cell (p := ⟨b, o, none⟩) h
 have hz5 := hz.below hb5'
 have hC5 : (w5.cell? ⟨gx, ox, none⟩ = some (.bool sx) ∧ w5.cell? ⟨gx, ox + 1, none⟩ = some (.slice Ax nx cx)) := ⟨(bcell5 glx).trans x0, (bcell5 glx).trans x1⟩
 refine hK.out _ _ hC5 (fun _ => ?_)
 clear hK K hHeld
 have hHeld := hC5
 try simp only [Act.put, List.setIfInBounds_toArray, List.set_cons_zero, List.set_cons_succ]
 refine wpHK_tail (j := 10) (o := Oper.mk (some 15) _ _ _ _ _) rfl (by kernel_rfl) (by decide) (fun K hK => ?_)
 go_simp
 refine (isP_any _ hz5 ho5.reads (Nat.le_refl _) ho5.len.1 ho5.len.2.1 ho5.len.2.2 (wd_w _)).mono ?_
 rintro e w6 ⟨rfl, hi6, hg6⟩
 try simp only []
 refine hK.out _ _ ?_
 clear hK K
 try simp only [Act.put, List.setIfInBounds_toArray, List.set_cons_zero, List.set_cons_succ]
 refine wpHK_assign (j := 11) (o := Oper.mk (some 4) _ _ _ _ _) rfl (by kernel_rfl) (by decide) rfl rfl ?_
 try simp only [Act.put, List.setIfInBounds_toArray, List.set_cons_zero, List.set_cons_succ]
 refine wpHK_done (by kernel_rfl) ?_ _
 refine NoPanic.normal ?_
 go_wp2_with fail
 go_ret
 refine ⟨rfl, ?_, grown_lift hb5' hg6⟩
 rw [val_w, Hx.out.1, sgn_of] at hi6
 exact hi6
set_option maxRecDepth 100000 in
set_option maxHeartbeats 4000000 in
theorem negP {x3 x4 : Value} {w : World} {g gx ox : Nat} {x : Int} (hz : IntP w g x3 x4) (hx : IntC w gx ox x) (hxl : (wds x.natAbs).length ≤ 900000000) :
  Calls Tryz.prog 119 #[.pointer (some ⟨g, 0, none⟩), .pointer (some ⟨gx, ox, none⟩)] w (PutsP x3 x4 w g (-x)) := by
 have HS := Lib.hid (setP hz hx hxl)
 have hlt := hz.lt
 have fin : ∀ (w1 : World) (s s' : Bool) (A : Option Addr) (n c : Nat), Blk w1 g 153 (qcells x3 x4 s A n c) → Hid (s = decide (x < 0) ∧ n = (wds x.natAbs).length) → n ≤ c → c ≤ 9223372036854775807 → ReadsW w1 w1.heap.size A (wds x.natAbs) → w.grownBy w1 (some g) → s' = (!s && decide (0 < n)) → PutsP x3 x4 w g (-x) (.returned (.pointer (some ⟨g, 0, none⟩))) (w1.setCell ⟨g, 0, none⟩ (.bool s')) := fun w1 s s' A n c hb hh h1 h2 hr hg he => by
  have hg2 : w1.grownBy (w1.setCell ⟨g, 0, none⟩ (.bool s')) (some g) := only_setCell (p := ⟨g, 0, none⟩) (World.grownBy.refl w1 (some g)) (.inl rfl) _
  refine ⟨rfl, ⟨s', A, n, c, hb.set_ 0 _, ⟨?_, by rw [Int.natAbs_neg]; exact hh.out.2⟩, h1, h2, ?_⟩, ?_⟩
  ·rw [he, hh.out.1, hh.out.2]
   by_cases h0 : x = 0
   ·subst h0; simp [wds_zero]
   ·have hp : 0 < x.natAbs := by omega
    rw [wds_pos hp]
    by_cases h3 : x < 0
    ·simp [h3]; omega
    ·simp [h3]; omega
  ·rw [Int.natAbs_neg]
   exact (ReadsW.offP (x3 := x3) (x4 := x4) hr ⟨_, _, _, _, hb⟩ hg2 (Nat.le_refl _)).more hg2.size
  ·exact only_setCell (p := ⟨g, 0, none⟩) hg (.inl rfl) _
 have Fin := Lib.hid fin
 clear hz hx hxl fin
 go_enter Tryz.func119, Tryz.ntmps119
 go_wp2_with fail
 refine HS.out.mono ?_
 rintro e w1 ⟨rfl, hi1, hg1⟩
 obtain ⟨s, A, n, c, hb, hh, h1, h2, hr⟩ := hi1
 have hc0 : w1.cell? ⟨g, 0, none⟩ = some (.bool s) := hb.cell 0
 have hc1 : w1.cell? ⟨g, 1, none⟩ = some (.slice A n c) := hb.cell 1
 have hf0 := hb.frozen 0
 have Hb := Lib.hid (And.intro hb (And.intro hr hg1))
 clear hb hr hg1
 cases s
 ·by_cases h0 : 0 < n
  ·have h0i : (0 : Int) < (n : Int) := by omega
   go_wp2_with fail
   go_ret
   exact Fin.out _ _ _ _ _ _ Hb.out.1 hh h1 h2 Hb.out.2.1 Hb.out.2.2 (by simp [h0])
  ·have h3 : n = 0 := by omega
   subst h3
   go_wp2_with fail
   go_ret
   exact Fin.out _ _ _ _ _ _ Hb.out.1 hh h1 h2 Hb.out.2.1 Hb.out.2.2 (by simp)
 ·go_wp2_with fail
  go_ret
  exact Fin.out _ _ _ _ _ _ Hb.out.1 hh h1 h2 Hb.out.2.1 Hb.out.2.2 (by simp)
set_option maxRecDepth 100000 in
set_option maxHeartbeats 4000000 in
theorem setC_new {W : World} {ga oa : Nat} {a : Int} (ha : IntC W ga oa a) (hal : (wds a.natAbs).length ≤ 900000000) :
  Calls Tryz.prog 97 #[.pointer (some ⟨W.heap.size, 0, none⟩), .pointer (some ⟨ga, oa, none⟩)] (W.alloc (.cells #[.bool false, .slice none 0 0] 151)) (fun e w' => e = .returned (.pointer (some ⟨W.heap.size, 0, none⟩)) ∧ IntB w' W.heap.size a ∧ Below W.heap.size W w') := by
 refine (setC (IntB.zero W).slot (ha.below (new_below _ _)) hal).mono ?_
 rintro _ w' ⟨rfl, hi, hg⟩
 exact ⟨rfl, hi, below_new hg⟩
set_option maxRecDepth 100000 in
set_option maxHeartbeats 4000000 in
theorem ratset_any {w : World} {g gx n : Nat} {x : Rat} (hz : RatS w g) (hx : RatV w gx x) (hsx : Sz x n) (hn : n ≤ 10000000) :
  Calls Tryz.prog 118 #[ptr g, ptr gx] w (fun e w' => PutsQ w g x e w' ∧ RatS w' g) := by
 have hlx := hsx.lens hn
 have HA := Lib.hid (And.intro hx (And.intro hlx hz))
 have HQ := Lib.hid hx.pos
 have Q1 := Lib.hid (setC_new hx.num hlx.1)
 clear hx hlx hz hsx
 go_enter Tryz.func118, Tryz.ntmps118
 go_wp2_with fail
 refine Q1.out.mono ?_
 rintro _ W2 ⟨rfl, hi2, hb12⟩
 have HD := Lib.hid (den_any ((HA.out.1.below hb12).below (new_below W2 (.cells #[.bool false, .slice none 0 0] 151))))
 have Q2 := Lib.hid (setC_new (HA.out.1.below hb12).den HA.out.2.1.2)
 go_wp2_with first | (go_at_call 99; (with_reducible refine HD.out.mono ?_); rintro _ _ ⟨rfl, rfl⟩) | (go_at_call 97; (refine Q2.out.mono ?_); rintro _ W3 ⟨rfl, hi3, hb3⟩)
 have hb13 := hb12.trans (hb3.mono hb12.size)
 have hgl := HA.out.2.2.lt
 have hi2' := hi2.below hb3
 have hz3 := HA.out.2.2.below hb13
 have hl1 := hb12.size
 have hl2 := hb12.size
 have gn1 : ¬ g = w.heap.size := by omega
 have gn2 : ¬ g = W2.heap.size := by omega
 have gm1 : ¬ w.heap.size = g := by omega
 have gm2 : ¬ W2.heap.size = g := by omega
 obtain ⟨s2, A2, n2, c2, u0, u1, Hu, hu1, hu2, hur⟩ := hi2'.opened
 obtain ⟨s3, A3, n3, c3, v0, v1, Hv, hv1, hv2, hvr⟩ := hi3.opened
 have Hz3 := Lib.hid hz3
 obtain ⟨cs, hk, hcs⟩ := hz3
 obtain ⟨z0, e0⟩ : ∃ z, W3.cell? ⟨g, 0, none⟩ = some z := ⟨cs[0]'(by omega), by rw [hk.cell]; exact Array.getElem?_eq_getElem (by omega)⟩
 obtain ⟨z1, e1⟩ : ∃ z, W3.cell? ⟨g, 1, none⟩ = some z := ⟨cs[1]'(by omega), by rw [hk.cell]; exact Array.getElem?_eq_getElem (by omega)⟩
 obtain ⟨z2, e2⟩ : ∃ z, W3.cell? ⟨g, 2, none⟩ = some z := ⟨cs[2]'(by omega), by rw [hk.cell]; exact Array.getElem?_eq_getElem (by omega)⟩
 obtain ⟨z3, e3⟩ : ∃ z, W3.cell? ⟨g, 3, none⟩ = some z := ⟨cs[3]'(by omega), by rw [hk.cell]; exact Array.getElem?_eq_getElem (by omega)⟩
 have f0 := hk.frozen 0
 have f1 := hk.frozen 1
 have f2 := hk.frozen 2
 have f3 := hk.frozen 3
 have HU := Lib.hid (And.intro hu1 (And.intro hu2 hur))
 have HV := Lib.hid (And.intro hv1 (And.intro hv2 hvr))
 have HB := Lib.hid hb13
 generalize W2.heap.size = N2 at *
 clear hk hcs hi2' hi2 hi3 hu1 hu2 hur hv1 hv2 hvr hb13 hb12 hb3 Q1 Q2 hgl hl1 hl2 HA HD
 go_region
 go_wp2_with fail
 go_ret
 obtain ⟨r1, r2⟩ := rat_made Hz3.out Hu HU.out.1 HU.out.2.1 HU.out.2.2 Hv HV.out.1 HV.out.2.1 HV.out.2.2 HQ.out
 have r3 := grown_lift HB.out r2
 obtain ⟨cs, hk, hcs⟩ := Hz3.out
 exact ⟨⟨rfl, ⟨r1.num, r1.den, r1.pos⟩, ⟨r3.os, r3.tape, r3.output, r3.size, r3.block⟩⟩, ⟨_, (((hk.set_ 0 _).set_ 1 _).set_ 2 _).set_ 3 _, by simp [hcs]⟩⟩
theorem RatV.opened {w : World} {g : Nat} {q : Rat} (h : RatV w g q) : RatS w g → ∃ x3 x4, IntP w g x3 x4 := by
 rintro ⟨cs, hk, hcs⟩
 obtain ⟨s, A, n, c, h0, h1, _⟩ := h.num
 rw [hk.cell] at h0 h1
 match cs, hcs with
 | ⟨[a, b, c, d]⟩, _ =>
  simp at h0 h1
  subst h0 h1
  exact ⟨_, _, _, _, _, _, hk⟩
theorem RatV.neg_made {w w' : World} {g : Nat} {q : Rat} {x3 x4 : Value} (h : RatV w g q) (hp : IntP w g x3 x4) (hi : IntBP x3 x4 w' g (-q.num)) (hg : w.grownBy w' (some g)) : RatV w' g (-q) := by
 obtain ⟨s, A, n, c, hk⟩ := hp
 obtain ⟨s', A', n', c', hk', h1, h2, h3, hr⟩ := hi
 obtain ⟨sd, Ad, nd, cd, d0, d1, e1, e2, e3, hd⟩ := h.den
 rw [hk.cell] at d0 d1
 simp [qcells] at d0 d1
 subst d0 d1
 refine ⟨⟨s', A', n', c', ?_, ?_, by rw [Rat.neg_num]; exact h1, h2, h3, by rw [Rat.neg_num]; exact hr⟩, ⟨sd, Ad, nd, cd, ?_, ?_, by rw [Rat.neg_den]; exact e1, e2, e3, ?_⟩, by rw [Rat.neg_den]; exact h.pos⟩
 ·rw [hk'.cell]; rfl
 ·rw [hk'.cell]; rfl
 ·rw [hk'.cell]; rfl
 ·rw [hk'.cell]; rfl
 ·rw [Rat.neg_den]
  exact (ReadsW.offP hd ⟨_, _, _, _, hk⟩ hg (Nat.le_refl _)).more hg.size
theorem grown_same {w w1 w2 w3 : World} {g : Nat} (h1 : w.grownBy w1 (some g)) (h2 : Below w1.heap.size w1 w2) (h3 : w2.grownBy w3 (some g)) : w.grownBy w3 (some g) :=
 ⟨h3.os.trans (h2.os.trans h1.os), h3.tape.trans (h2.tape.trans h1.tape), h3.output.trans (h2.output.trans h1.output), Nat.le_trans h1.size (Nat.le_trans h2.size h3.size),
  fun i hi hne => (h3.block i (Nat.lt_of_lt_of_le hi (Nat.le_trans h1.size h2.size)) hne).trans ((h2.block i (Nat.lt_of_lt_of_le hi h1.size)).trans (h1.block i hi hne))⟩
set_option maxRecDepth 100000 in
set_option maxHeartbeats 4000000 in
theorem ratneg_any {w : World} {g gx n : Nat} {x : Rat} (hz : RatS w g) (hx : RatV w gx x) (hsx : Sz x n) (hn : n ≤ 10000000) :
  Calls Tryz.prog 95 #[ptr g, ptr gx] w (PutsQ w g (-x)) := by
 have HS := Lib.hid (ratset_any hz hx hsx hn)
 have hlx := hsx.lens hn
 have Hz := Lib.hid hz
 clear hx hsx hz
 go_enter Tryz.func95, Tryz.ntmps95
 go_wp2_with fail
 refine HS.out.mono ?_
 rintro _ w1 ⟨⟨rfl, hr1, hg1⟩, hs1⟩
 obtain ⟨x3, x4, hp⟩ := hr1.opened hs1
 have H1 := Lib.hid (And.intro hr1 (And.intro hg1 hp))
 clear hr1 hg1 hp
 go_wp2_with fail
 refine wp_region_noPanic ?_
 refine wp_region_list (mk := ?mk) ratZ_vgs [Is (ptr g), Is (ptr g), Is (ptr g), Is (ptr g), Is (ptr g), Is (ptr g)] [.plain, .plain, .plain, .plain, .plain, .plain] 6 1 (fun w' => True) ⟨is_steady _ _ _, is_steady _ _ _, is_steady _ _ _, is_steady _ _ _, is_steady _ _ _, is_steady _ _ _, trivial⟩ (by kernel_rfl) (by kernel_rfl) (by kernel_rfl) (by kernel_rfl) (by kernel_rfl) (by kernel_rfl) ?hmk (fun w' hB => trivial)
  (steps_all (steps_cons ?_ (steps_cons ?_ (steps_cons ?_ (steps_cons ?_ (steps_cons ?_ (steps_cons ?_ steps_nil))))))) ?_
 case hmk =>
  intro u
  simp only [mkFrom, mkL, dstOf, List.range, List.range.loop, Act.put, List.setIfInBounds_toArray, List.set_cons_zero, List.set_cons_succ, List.getElem?_toArray, List.getElem?_cons_zero, List.getElem?_cons_succ, Option.bind_some]
  rfl
 ·refine step_is (o := Oper.mk (some 8) _ _ _ _ _) rfl rfl rfl rfl (fun u ws hc hd => ?_)
  go_simp
 ·refine step_is (o := Oper.mk (some 9) _ _ _ _ _) rfl rfl rfl rfl (fun u ws hc hd => ?_)
  have d0 : u 0 = _ := hd 0 (by kernel_rfl) (by decide)
  go_simp
 ·refine step_is (o := Oper.mk (some 10) _ _ _ _ _) rfl rfl rfl rfl (fun u ws hc hd => ?_)
  have d1 : u 1 = _ := hd 1 (by kernel_rfl) (by decide)
  go_simp
 ·refine step_is (o := Oper.mk (some 11) _ _ _ _ _) rfl rfl rfl rfl (fun u ws hc hd => ?_)
  go_simp
 ·refine step_is (o := Oper.mk (some 12) _ _ _ _ _) rfl rfl rfl rfl (fun u ws hc hd => ?_)
  have d3 : u 3 = _ := hd 3 (by kernel_rfl) (by decide)
  go_simp
 ·refine step_is (o := Oper.mk (some 13) _ _ _ _ _) rfl rfl rfl rfl (fun u ws hc hd => ?_)
  have d4 : u 4 = _ := hd 4 (by kernel_rfl) (by decide)
  go_simp
 ·intro u w2 hb2 hf hn1
  have f2 : u 2 = _ := hf 2 (by decide) (by decide)
  have f5 : u 5 = _ := hf 5 (by decide) (by decide)
  have hx2 := H1.out.1.below hb2
  have hp2 := H1.out.2.2.below hb2
  have HN2 := Lib.hid (negP hp2 hx2.num hlx.1)
  have Hb2 := Lib.hid (And.intro hb2 hx2)
  refine wpAny_tail (j := 6) (o := Oper.mk (some 14) _ _ _ _ _) rfl (by kernel_rfl) (fun K hK => ?_)
  rw [f2, f5]
  clear hf hn1 hb2 f2 f5 hx2 hp2
  go_simp
  refine HN2.out.mono ?_
  rintro _ w3 ⟨rfl, hi3, hg3⟩
  try simp only []
  refine hK.out _ _ ?_
  clear hK K
  refine wpAny_end (by kernel_rfl) ?_
  refine NoPanic.normal ?_
  go_wp2_with fail
  go_ret
  have hgg := Hb2.out.1
  exact ⟨rfl, RatV.neg_made Hb2.out.2 (H1.out.2.2.below hgg) hi3 hg3, (grown_same H1.out.2.1 hgg hg3)⟩
theorem fneg {w : World} {g n : Nat} {x : Rat} {v1 : Value} (hv : RatZ w g) (h1 : IsRat x n v1 w) (hn : n ≤ 10000000) : Calls Tryz.prog 95 #[ptr g, v1] w (Fill w g (-x) n) := by
 obtain ⟨gx, rfl, hx, hsx⟩ := h1
 refine (ratneg_any hv.slot hx hsx hn).mono ?_
 rintro _ w' ⟨rfl, hr, hg⟩
 exact ⟨rfl, ⟨g, rfl, hr, hsx.neg⟩, hg⟩
theorem rat_ne {x : Rat} (h : x ≠ 0) : x < 0 ∨ 0 < x := by grind
theorem sign_zero {w : World} {n : Nat} {x : Rat} {v : Value} (h : IsRat x n v w) (h0 : x = 0) : Calls Tryz.prog 50 #[v] w (fun e w' => e = .returned (.int .i64 0) ∧ w = w') := by
 obtain ⟨g, rfl, hx, _⟩ := h
 have := ratsign_any hx
 rwa [sg_rat, if_pos h0] at this
theorem sign_pos {w : World} {n : Nat} {x : Rat} {v : Value} (h : IsRat x n v w) (h0 : 0 < x) : Calls Tryz.prog 50 #[v] w (fun e w' => e = .returned (.int .i64 1) ∧ w = w') := by
 obtain ⟨g, rfl, hx, _⟩ := h
 have := ratsign_any hx
 rwa [sg_rat, if_neg (by grind), if_neg (by grind)] at this
theorem sign_neg {w : World} {n : Nat} {x : Rat} {v : Value} (h : IsRat x n v w) (h0 : x < 0) : Calls Tryz.prog 50 #[v] w (fun e w' => e = .returned (.int .i64 (-1)) ∧ w = w') := by
 obtain ⟨g, rfl, hx, _⟩ := h
 have := ratsign_any hx
 rwa [sg_rat, if_neg (by grind), if_pos h0] at this
theorem newr_any {w : World} {z : Int} (hz : z.natAbs < 2 ^ 8) : Calls Tryz.prog 88 #[.int .i64 z, .int .i64 1] w (Ret w (IsRat (z : Rat) 8)) := by
 refine (newrat_any (w := w) (a := z) (b := 1) (by omega) (by omega) (by omega) (by omega) (by omega)).mono ?_
 rintro _ w2 ⟨rfl, hr, hg⟩
 rw [divInt_one] at hr
 exact ⟨_, rfl, ⟨_, rfl, hr, Sz.int hz (by omega)⟩, hg⟩
set_option maxRecDepth 100000 in
set_option maxHeartbeats 4000000 in
theorem scale_any {w : World} {v v2 : Value} {z : Cx} {q : Rat} {n : Nat} (h1 : IsNum z n v w) (h2 : IsRat q n v2 w) (hn : n ≤ 1000000) :
  Calls Tryz.prog 52 #[v, v2] w (Ret w (IsNum (z.scale q) (2 * n))) := by
 obtain ⟨_, _, rfl, pa, pb⟩ := h1
 obtain ⟨a, rfl⟩ := pa.ptr
 obtain ⟨b, rfl⟩ := pb.ptr
 have px := h2
 obtain ⟨x, rfl⟩ := px.ptr
 go_enter Tryz.func52, Tryz.ntmps52
 go_wp2_with fail
 have hbw : Below w.heap.size w ((w.alloc (Obj.cells #[ptr a, ptr b] 83)).alloc (Obj.cells #[.pointer none, .pointer none] 83)) := (((Below.refl _ _).alloc (Nat.le_refl _) _).alloc (by simp <;> omega) _)
 have k0 : Blk ((w.alloc (Obj.cells #[ptr a, ptr b] 83)).alloc (Obj.cells #[.pointer none, .pointer none] 83)) (w.heap.size) 83 #[ptr a, ptr b] := (((Blk.new w 83 #[ptr a, ptr b]).alloc (Obj.cells #[.pointer none, .pointer none] 83))).cast (by simp)
 have k1 : Blk ((w.alloc (Obj.cells #[ptr a, ptr b] 83)).alloc (Obj.cells #[.pointer none, .pointer none] 83)) (w.heap.size + 1) 83 #[.pointer none, .pointer none] := ((Blk.new (w.alloc (Obj.cells #[ptr a, ptr b] 83)) 83 #[.pointer none, .pointer none])).cast (by simp)
 generalize hW : ((w.alloc (Obj.cells #[ptr a, ptr b] 83)).alloc (Obj.cells #[.pointer none, .pointer none] 83)) = W at *
 clear hW
 have pa := pa.below hbw
 have pb := pb.below hbw
 have px := px.below hbw
 refine wp_region_noPanic ?_
 refine wp_region_list (mk := ?mk) ratZ_vgs [Is (ptr w.heap.size), Is (ptr a), Is (ptr x), IsRat (z.re * q) (2 * n), Is (.pointer (some ⟨w.heap.size, 1, none⟩)), Is (ptr b), Is (ptr x), IsRat (z.im * q) (2 * n)] [.plain, .plain, .plain, .plain, .plain, .plain, .plain, .plain] 8 2 (fun w' => Blk w' (w.heap.size) 83 #[(ptr a), (ptr b)] ∧ IsRat z.re n (ptr a) w' ∧ IsRat z.im n (ptr b) w' ∧ IsRat q n (ptr x) w' ∧ True) ⟨is_steady _ _ _, is_steady _ _ _, is_steady _ _ _, isRat_steady _ _ _, is_steady _ _ _, is_steady _ _ _, is_steady _ _ _, isRat_steady _ _ _, trivial⟩ (by kernel_rfl) (by kernel_rfl) (by kernel_rfl) (by kernel_rfl) (by kernel_rfl) (by kernel_rfl) ?hmk (fun w' hB => ⟨k0.below hB k0.lt, pa.below hB, pb.below hB, px.below hB, trivial⟩)
  (steps_all (steps_cons ?_ (steps_cons ?_ (steps_cons ?_ (steps_cons ?_ (steps_cons ?_ (steps_cons ?_ (steps_cons ?_ (steps_cons ?_ steps_nil))))))))) ?_
 case hmk =>
  intro u
  simp only [mkFrom, mkL, dstOf, List.range, List.range.loop, Act.put, List.setIfInBounds_toArray, List.set_cons_zero, List.set_cons_succ, List.getElem?_toArray, List.getElem?_cons_zero, List.getElem?_cons_succ, Option.bind_some]
  rfl
 ·refine step_is (o := Oper.mk (some 5) _ _ _ _ _) rfl rfl rfl rfl (fun u ws hc hd => ?_)
  go_simp
 ·refine step_is (o := Oper.mk (some 6) _ _ _ _ _) rfl rfl rfl rfl (fun u ws hc hd => ?_)
  obtain ⟨k0, pa, pb, px, _⟩ := hc
  have c1 : ws.cell? ⟨w.heap.size, 0, none⟩ = some (ptr a) := by rw [k0.cell]; rfl
  have d0 : u 0 = _ := hd 0 (by kernel_rfl) (by decide)
  go_simp
 ·refine step_is (o := Oper.mk (some 7) _ _ _ _ _) rfl rfl rfl rfl (fun u ws hc hd => ?_)
  go_simp
 ·refine step_call (o := Oper.mk (some 8) _ _ _ _ _) rfl rfl rfl (fun u ws hc hd => ?_)
  obtain ⟨k0, pa, pb, px, _⟩ := hc
  have d1 : u 1 = _ := hd 1 (by kernel_rfl) (by decide)
  have d2 : u 2 = _ := hd 2 (by kernel_rfl) (by decide)
  have HC := Lib.hid (upR (m := (2 * n)) (xmul_any pa px (by omega)) (by omega))
  refine ⟨89, #[(ptr a), (ptr x)], ?_, HC.out⟩
  ·clear HC; go_simp
 ·refine step_is (o := Oper.mk (some 9) _ _ _ _ _) rfl rfl rfl rfl (fun u ws hc hd => ?_)
  go_simp
 ·refine step_is (o := Oper.mk (some 10) _ _ _ _ _) rfl rfl rfl rfl (fun u ws hc hd => ?_)
  obtain ⟨k0, pa, pb, px, _⟩ := hc
  have c1 : ws.cell? ⟨w.heap.size, 1, none⟩ = some (ptr b) := by rw [k0.cell]; rfl
  have d4 : u 4 = _ := hd 4 (by kernel_rfl) (by decide)
  go_simp
 ·refine step_is (o := Oper.mk (some 11) _ _ _ _ _) rfl rfl rfl rfl (fun u ws hc hd => ?_)
  go_simp
 ·refine step_call (o := Oper.mk (some 12) _ _ _ _ _) rfl rfl rfl (fun u ws hc hd => ?_)
  obtain ⟨k0, pa, pb, px, _⟩ := hc
  have d5 : u 5 = _ := hd 5 (by kernel_rfl) (by decide)
  have d6 : u 6 = _ := hd 6 (by kernel_rfl) (by decide)
  have HC := Lib.hid (upR (m := (2 * n)) (xmul_any pb px (by omega)) (by omega))
  refine ⟨89, #[(ptr b), (ptr x)], ?_, HC.out⟩
  ·clear HC; go_simp
 ·intro u w1 hb1 hf hn1
  have fa : IsRat _ _ (u 3) w1 := hf 3 (by decide) (by decide)
  have fb : IsRat _ _ (u 7) w1 := hf 7 (by decide) (by decide)
  obtain ⟨ga, ea⟩ := fa.ptr
  obtain ⟨gb, eb⟩ := fb.ptr
  rw [ea] at fa
  rw [eb] at fb
  have kr := k1.below hb1 k1.lt
  clear hf hn1
  refine wpAny_tail (j := 8) (o := Oper.mk (some 13) _ _ _ _ _) rfl (by kernel_rfl) (fun K hK => ?_)
  rw [ea, eb]
  go_simp
  refine hK.out _ _ ?_
  clear hK K
  refine wpAny_store (j := 9) (o := Oper.mk none _ _ _ _ _) rfl (by kernel_rfl) rfl 83 (.tmp 4) (.tmp 13) rfl (w.heap.size + 1) 0 #[ptr ga, ptr gb] rfl rfl #[ptr ga, ptr gb] kr (by simp) rfl (by kernel_rfl) (by simp [Value.oneCell', ptr]) (fun w2 k9 hg9 hs9 => ?_)
  refine wpAny_end (by kernel_rfl) ?_
  refine NoPanic.normal ?_
  go_wp2_with fail
  refine bodyPost_ret (results_row1 rfl _ _ _ _ _ (by rfl) k9 Tryz.underlying83 rfl (by kernel_rfl)) rfl ?_
  exact ⟨_, rfl, ⟨_, _, rfl, fa.far kr (by decide) (by simp) hg9, fb.far kr (by decide) (by simp) hg9⟩, own_set hbw hb1 (by omega) hg9⟩
set_option maxRecDepth 100000 in
set_option maxHeartbeats 4000000 in
theorem conj_any {w : World} {v : Value} {z : Cx} {n : Nat} (h1 : IsNum z n v w) (hn : n ≤ 1000000) :
  Calls Tryz.prog 81 #[v] w (Ret w (IsNum z.conj n)) := by
 obtain ⟨_, _, rfl, pa, pb⟩ := h1
 obtain ⟨a, rfl⟩ := pa.ptr
 obtain ⟨b, rfl⟩ := pb.ptr
 go_enter Tryz.func81, Tryz.ntmps81
 go_wp2_with fail
 have hbw : Below w.heap.size w ((w.alloc (Obj.cells #[ptr a, ptr b] 83)).alloc (Obj.cells #[.pointer none, .pointer none] 83)) := (((Below.refl _ _).alloc (Nat.le_refl _) _).alloc (by simp <;> omega) _)
 have k0 : Blk ((w.alloc (Obj.cells #[ptr a, ptr b] 83)).alloc (Obj.cells #[.pointer none, .pointer none] 83)) (w.heap.size) 83 #[ptr a, ptr b] := (((Blk.new w 83 #[ptr a, ptr b]).alloc (Obj.cells #[.pointer none, .pointer none] 83))).cast (by simp)
 have k1 : Blk ((w.alloc (Obj.cells #[ptr a, ptr b] 83)).alloc (Obj.cells #[.pointer none, .pointer none] 83)) (w.heap.size + 1) 83 #[.pointer none, .pointer none] := ((Blk.new (w.alloc (Obj.cells #[ptr a, ptr b] 83)) 83 #[.pointer none, .pointer none])).cast (by simp)
 generalize hW : ((w.alloc (Obj.cells #[ptr a, ptr b] 83)).alloc (Obj.cells #[.pointer none, .pointer none] 83)) = W at *
 clear hW
 have pa := pa.below hbw
 have pb := pb.below hbw
 refine wp_region_noPanic ?_
 refine wp_region_list (mk := ?mk) ratZ_vgs [Is (ptr w.heap.size), Is (ptr a), IsRat z.re n, Is undef, Is (.pointer (some ⟨w.heap.size, 1, none⟩)), Is (ptr b), IsRat z.im n, IsRat (-z.im) n] [.plain, .plain, .plain, .fresh, .plain, .plain, .plain, .fills 3] 8 2 (fun w' => Blk w' (w.heap.size) 83 #[(ptr a), (ptr b)] ∧ IsRat z.re n (ptr a) w' ∧ IsRat z.im n (ptr b) w' ∧ True) ⟨is_steady _ _ _, is_steady _ _ _, isRat_steady _ _ _, is_steady _ _ _, is_steady _ _ _, is_steady _ _ _, isRat_steady _ _ _, isRat_steady _ _ _, trivial⟩ (by kernel_rfl) (by kernel_rfl) (by kernel_rfl) (by kernel_rfl) (by kernel_rfl) (by kernel_rfl) ?hmk (fun w' hB => ⟨k0.below hB k0.lt, pa.below hB, pb.below hB, trivial⟩)
  (steps_all (steps_cons ?_ (steps_cons ?_ (steps_cons ?_ (steps_cons ?_ (steps_cons ?_ (steps_cons ?_ (steps_cons ?_ (steps_cons ?_ steps_nil))))))))) ?_
 case hmk =>
  intro u
  simp only [mkFrom, mkL, dstOf, List.range, List.range.loop, Act.put, List.setIfInBounds_toArray, List.set_cons_zero, List.set_cons_succ, List.getElem?_toArray, List.getElem?_cons_zero, List.getElem?_cons_succ, Option.bind_some]
  rfl
 ·refine step_is (o := Oper.mk (some 3) _ _ _ _ _) rfl rfl rfl rfl (fun u ws hc hd => ?_)
  go_simp
 ·refine step_is (o := Oper.mk (some 4) _ _ _ _ _) rfl rfl rfl rfl (fun u ws hc hd => ?_)
  obtain ⟨k0, pa, pb, _⟩ := hc
  have c1 : ws.cell? ⟨w.heap.size, 0, none⟩ = some (ptr a) := by rw [k0.cell]; rfl
  have d0 : u 0 = _ := hd 0 (by kernel_rfl) (by decide)
  go_simp
 ·refine step_call (o := Oper.mk (some 5) _ _ _ _ _) rfl rfl rfl (fun u ws hc hd => ?_)
  obtain ⟨k0, pa, pb, _⟩ := hc
  have d1 : u 1 = _ := hd 1 (by kernel_rfl) (by decide)
  have HC := Lib.hid (ratid_any pa)
  refine ⟨63, #[(ptr a)], ?_, HC.out⟩
  ·clear HC; go_simp
 ·refine step_new (o := Oper.mk (some 6) _ _ _ _ _) rfl rfl rfl (fun u ws hc => ⟨.cells #[.bool false, .slice none 0 0, .bool false, .slice none 0 0] 153, ?_, Blk.new ws 153 _⟩)
  go_simp
 ·refine step_is (o := Oper.mk (some 7) _ _ _ _ _) rfl rfl rfl rfl (fun u ws hc hd => ?_)
  go_simp
 ·refine step_is (o := Oper.mk (some 8) _ _ _ _ _) rfl rfl rfl rfl (fun u ws hc hd => ?_)
  obtain ⟨k0, pa, pb, _⟩ := hc
  have c1 : ws.cell? ⟨w.heap.size, 1, none⟩ = some (ptr b) := by rw [k0.cell]; rfl
  have d4 : u 4 = _ := hd 4 (by kernel_rfl) (by decide)
  go_simp
 ·refine step_call (o := Oper.mk (some 9) _ _ _ _ _) rfl rfl rfl (fun u ws hc hd => ?_)
  obtain ⟨k0, pa, pb, _⟩ := hc
  have d5 : u 5 = _ := hd 5 (by kernel_rfl) (by decide)
  have HC := Lib.hid (ratid_any pb)
  refine ⟨63, #[(ptr b)], ?_, HC.out⟩
  ·clear HC; go_simp
 ·refine step_fill (a := 3) (o := Oper.mk (some 10) _ _ _ _ _) rfl rfl rfl (fun u ws g1 hc hd h0 hlo hv => ?_)
  obtain ⟨k0, pa, pb, _⟩ := hc
  have HC := Lib.hid (fneg hv (hd 6 (by kernel_rfl) (by decide) : IsRat z.im n (u 6) ws) (by omega))
  refine ⟨95, #[ptr g1, u 6], ?_, HC.out.mono ?_⟩
  ·clear HC; go_simp
  ·rintro _ w2 ⟨rfl, hi, hg⟩
   exact ⟨rfl, hi, hg⟩
 ·intro u w1 hb1 hf hn1
  have fa : IsRat _ _ (u 2) w1 := hf 2 (by decide) (by decide)
  have fb : IsRat _ _ (u 7) w1 := hf 7 (by decide) (by decide)
  obtain ⟨ga, ea⟩ := fa.ptr
  obtain ⟨gb, eb⟩ := fb.ptr
  rw [ea] at fa
  rw [eb] at fb
  have kr := k1.below hb1 k1.lt
  clear hf hn1
  refine wpAny_tail (j := 8) (o := Oper.mk (some 11) _ _ _ _ _) rfl (by kernel_rfl) (fun K hK => ?_)
  rw [ea, eb]
  go_simp
  refine hK.out _ _ ?_
  clear hK K
  refine wpAny_store (j := 9) (o := Oper.mk none _ _ _ _ _) rfl (by kernel_rfl) rfl 83 (.tmp 2) (.tmp 11) rfl (w.heap.size + 1) 0 #[ptr ga, ptr gb] rfl rfl #[ptr ga, ptr gb] kr (by simp) rfl (by kernel_rfl) (by simp [Value.oneCell', ptr]) (fun w2 k9 hg9 hs9 => ?_)
  refine wpAny_end (by kernel_rfl) ?_
  refine NoPanic.normal ?_
  go_wp2_with fail
  refine bodyPost_ret (results_row1 rfl _ _ _ _ _ (by rfl) k9 Tryz.underlying83 rfl (by kernel_rfl)) rfl ?_
  exact ⟨_, rfl, ⟨_, _, rfl, fa.far kr (by decide) (by simp) hg9, fb.far kr (by decide) (by simp) hg9⟩, own_set hbw hb1 (by omega) hg9⟩
def Ret2 (w : World) (S T : Value → World → Prop) (e : Ending) (w' : World) : Prop := ∃ a b, e = .returned (.tuple #[a, b]) ∧ S a w' ∧ T b w' ∧ Below w.heap.size w w'
set_option maxRecDepth 100000 in
set_option maxHeartbeats 4000000 in
theorem parts_any {w : World} {v : Value} {z : Cx} {n : Nat} (h1 : IsNum z n v w) (_hn : n ≤ 1000000) :
  Calls Tryz.prog 104 #[v] w (Ret2 w (IsRat z.re n) (IsRat z.im n)) := by
 obtain ⟨_, _, rfl, pa, pb⟩ := h1
 obtain ⟨a, rfl⟩ := pa.ptr
 obtain ⟨b, rfl⟩ := pb.ptr
 go_enter Tryz.func104, Tryz.ntmps104
 go_wp2_with fail
 have hbw : Below w.heap.size w (w.alloc (Obj.cells #[ptr a, ptr b] 83)) := ((Below.refl _ _).alloc (Nat.le_refl _) _)
 have k0 : Blk (w.alloc (Obj.cells #[ptr a, ptr b] 83)) (w.heap.size) 83 #[ptr a, ptr b] := ((Blk.new w 83 #[ptr a, ptr b])).cast (by simp)
 generalize hW : (w.alloc (Obj.cells #[ptr a, ptr b] 83)) = W at *
 clear hW
 have pa := pa.below hbw
 have pb := pb.below hbw
 refine wp_region_noPanic ?_
 refine wp_region_list (mk := ?mk) ratZ_vgs [Is (ptr w.heap.size), Is (ptr a), IsRat z.re n, Is (.pointer (some ⟨w.heap.size, 1, none⟩)), Is (ptr b), IsRat z.im n, IsRat z.re n, IsRat z.im n] [.plain, .plain, .plain, .plain, .plain, .plain, .plain, .plain] 8 0 (fun w' => Blk w' (w.heap.size) 83 #[(ptr a), (ptr b)] ∧ IsRat z.re n (ptr a) w' ∧ IsRat z.im n (ptr b) w' ∧ True) ⟨is_steady _ _ _, is_steady _ _ _, isRat_steady _ _ _, is_steady _ _ _, is_steady _ _ _, isRat_steady _ _ _, isRat_steady _ _ _, isRat_steady _ _ _, trivial⟩ (by kernel_rfl) (by kernel_rfl) (by kernel_rfl) (by kernel_rfl) (by kernel_rfl) (by kernel_rfl) ?hmk (fun w' hB => ⟨k0.below hB k0.lt, pa.below hB, pb.below hB, trivial⟩)
  (steps_all (steps_cons ?_ (steps_cons ?_ (steps_cons ?_ (steps_cons ?_ (steps_cons ?_ (steps_cons ?_ (steps_cons ?_ (steps_cons ?_ steps_nil))))))))) ?_
 case hmk =>
  intro u
  simp only [mkFrom, mkL, dstOf, List.range, List.range.loop, Act.put, List.setIfInBounds_toArray, List.set_cons_zero, List.set_cons_succ, List.getElem?_toArray, List.getElem?_cons_zero, List.getElem?_cons_succ, Option.bind_some]
  rfl
 ·refine step_is (o := Oper.mk (some 4) _ _ _ _ _) rfl rfl rfl rfl (fun u ws hc hd => ?_)
  go_simp
 ·refine step_is (o := Oper.mk (some 5) _ _ _ _ _) rfl rfl rfl rfl (fun u ws hc hd => ?_)
  obtain ⟨k0, pa, pb, _⟩ := hc
  have c1 : ws.cell? ⟨w.heap.size, 0, none⟩ = some (ptr a) := by rw [k0.cell]; rfl
  have d0 : u 0 = _ := hd 0 (by kernel_rfl) (by decide)
  go_simp
 ·refine step_call (o := Oper.mk (some 6) _ _ _ _ _) rfl rfl rfl (fun u ws hc hd => ?_)
  obtain ⟨k0, pa, pb, _⟩ := hc
  have d1 : u 1 = _ := hd 1 (by kernel_rfl) (by decide)
  have HC := Lib.hid (ratid_any pa)
  refine ⟨63, #[(ptr a)], ?_, HC.out⟩
  ·clear HC; go_simp
 ·refine step_is (o := Oper.mk (some 7) _ _ _ _ _) rfl rfl rfl rfl (fun u ws hc hd => ?_)
  go_simp
 ·refine step_is (o := Oper.mk (some 8) _ _ _ _ _) rfl rfl rfl rfl (fun u ws hc hd => ?_)
  obtain ⟨k0, pa, pb, _⟩ := hc
  have c1 : ws.cell? ⟨w.heap.size, 1, none⟩ = some (ptr b) := by rw [k0.cell]; rfl
  have d3 : u 3 = _ := hd 3 (by kernel_rfl) (by decide)
  go_simp
 ·refine step_call (o := Oper.mk (some 9) _ _ _ _ _) rfl rfl rfl (fun u ws hc hd => ?_)
  obtain ⟨k0, pa, pb, _⟩ := hc
  have d4 : u 4 = _ := hd 4 (by kernel_rfl) (by decide)
  have HC := Lib.hid (ratid_any pb)
  refine ⟨63, #[(ptr b)], ?_, HC.out⟩
  ·clear HC; go_simp
 ·refine step_val (o := Oper.mk (some 2) _ _ _ _ _) rfl rfl rfl (fun u ws hc hd => ⟨u 2, ?_, (hd 2 (by kernel_rfl) (by decide) : IsRat z.re n (u 2) ws)⟩)
  go_simp
 ·refine step_val (o := Oper.mk (some 3) _ _ _ _ _) rfl rfl rfl (fun u ws hc hd => ⟨u 5, ?_, (hd 5 (by kernel_rfl) (by decide) : IsRat z.im n (u 5) ws)⟩)
  go_simp
 ·intro u w1 hb1 hf hn1
  have fa : IsRat _ _ (u 6) w1 := hf 6 (by decide) (by decide)
  have fb : IsRat _ _ (u 7) w1 := hf 7 (by decide) (by decide)
  refine wpAny_end (by kernel_rfl) ?_
  refine NoPanic.normal ?_
  clear hf hn1
  go_wp2_with fail
  refine bodyPost_ret (v := .tuple #[u 6, u 7]) (by simp [results, Tryz.results104, go_sem]) rfl ?_
  exact ⟨_, _, rfl, fa, fb, hbw.trans (hb1.mono hbw.size)⟩
set_option maxRecDepth 100000 in
set_option maxHeartbeats 1000000 in
theorem zero_any {w : World} {v : Value} {z : Cx} {n : Nat} (h1 : IsNum z n v w) :
  Calls Tryz.prog 58 #[v] w (Ret w (Is (.bool (decide z.Zero)))) := by
 obtain ⟨_, _, rfl, pa, pb⟩ := h1
 obtain ⟨a, rfl⟩ := pa.ptr
 obtain ⟨b, rfl⟩ := pb.ptr
 have hbw : Below w.heap.size w (w.alloc (Obj.cells #[ptr a, ptr b] 83)) := new_below _ _
 have pa1 := pa.below hbw
 have pb1 := pb.below hbw
 have IA := Lib.hid (rat_id (w.alloc (Obj.cells #[ptr a, ptr b] 83)) a)
 have IB := Lib.hid (rat_id (w.alloc (Obj.cells #[ptr a, ptr b] 83)) b)
 by_cases h0 : z.re = 0
 ·have SA := Lib.hid (sign_zero pa1 h0)
  have fin : ∀ t : Bool, t = decide (z.im = 0) → t = decide z.Zero := fun t ht => by
   rw [ht, decide_eq_decide]
   exact ⟨fun h => ⟨h0, h⟩, fun h => h.2⟩
  have Fin := Lib.hid fin
  by_cases h1 : z.im = 0
  ·have SB := Lib.hid (sign_zero pb1 h1)
   clear pa pb pa1 pb1 fin
   go_enter Tryz.func58, Tryz.ntmps58
   go_wp2_with first | (go_at_call 63; first | ((with_reducible refine IA.out.mono ?_); rintro _ _ ⟨rfl, rfl⟩) | ((with_reducible refine IB.out.mono ?_); rintro _ _ ⟨rfl, rfl⟩)) | (go_at_call 50; first | ((with_reducible refine SA.out.mono ?_); rintro _ _ ⟨rfl, rfl⟩) | ((with_reducible refine SB.out.mono ?_); rintro _ _ ⟨rfl, rfl⟩))
   go_ret
   exact ⟨_, rfl, congrArg Value.bool (Fin.out true (decide_eq_true h1).symm), hbw⟩
  ·rcases rat_ne h1 with h2 | h2
   all_goals
    first
    | have SB := Lib.hid (sign_neg pb1 h2)
    | have SB := Lib.hid (sign_pos pb1 h2)
    clear pa pb pa1 pb1 fin
    go_enter Tryz.func58, Tryz.ntmps58
    go_wp2_with first | (go_at_call 63; first | ((with_reducible refine IA.out.mono ?_); rintro _ _ ⟨rfl, rfl⟩) | ((with_reducible refine IB.out.mono ?_); rintro _ _ ⟨rfl, rfl⟩)) | (go_at_call 50; first | ((with_reducible refine SA.out.mono ?_); rintro _ _ ⟨rfl, rfl⟩) | ((with_reducible refine SB.out.mono ?_); rintro _ _ ⟨rfl, rfl⟩))
    go_ret
    exact ⟨_, rfl, congrArg Value.bool (Fin.out false (decide_eq_false h1).symm), hbw⟩
 ·have Hz := Lib.hid (show false = decide z.Zero from (decide_eq_false fun h => h0 h.1).symm)
  rcases rat_ne h0 with h2 | h2
  all_goals
   first
   | have SA := Lib.hid (sign_neg pa1 h2)
   | have SA := Lib.hid (sign_pos pa1 h2)
   clear pa pb pa1 pb1
   go_enter Tryz.func58, Tryz.ntmps58
   go_wp2_with first | (go_at_call 63; first | ((with_reducible refine IA.out.mono ?_); rintro _ _ ⟨rfl, rfl⟩) | ((with_reducible refine IB.out.mono ?_); rintro _ _ ⟨rfl, rfl⟩)) | (go_at_call 50; first | ((with_reducible refine SA.out.mono ?_); rintro _ _ ⟨rfl, rfl⟩))
   go_ret
   exact ⟨_, rfl, congrArg Value.bool Hz.out, hbw⟩
set_option maxRecDepth 100000 in
set_option maxHeartbeats 4000000 in
theorem same_any {w : World} {v1 v2 : Value} {z y : Cx} {n : Nat} (h1 : IsNum z n v1 w) (h2 : IsNum y n v2 w) (hn : n ≤ 1000000) :
  Calls Tryz.prog 80 #[v1, v2] w (Ret w (Is (.bool (decide (z.sub y).Zero)))) := by
 obtain ⟨_, _, rfl, pa, pb⟩ := h1
 obtain ⟨a, rfl⟩ := pa.ptr
 obtain ⟨b, rfl⟩ := pb.ptr
 obtain ⟨_, _, rfl, pc, pd⟩ := h2
 obtain ⟨c, rfl⟩ := pc.ptr
 obtain ⟨d, rfl⟩ := pd.ptr
 go_enter Tryz.func80, Tryz.ntmps80
 go_wp2_with fail
 have hbw : Below w.heap.size w ((w.alloc (Obj.cells #[ptr a, ptr b] 83)).alloc (Obj.cells #[ptr c, ptr d] 83)) := (((Below.refl _ _).alloc (Nat.le_refl _) _).alloc (by simp <;> omega) _)
 have k0 : Blk ((w.alloc (Obj.cells #[ptr a, ptr b] 83)).alloc (Obj.cells #[ptr c, ptr d] 83)) (w.heap.size) 83 #[ptr a, ptr b] := (((Blk.new w 83 #[ptr a, ptr b]).alloc (Obj.cells #[ptr c, ptr d] 83))).cast (by simp)
 have k1 : Blk ((w.alloc (Obj.cells #[ptr a, ptr b] 83)).alloc (Obj.cells #[ptr c, ptr d] 83)) (w.heap.size + 1) 83 #[ptr c, ptr d] := ((Blk.new (w.alloc (Obj.cells #[ptr a, ptr b] 83)) 83 #[ptr c, ptr d])).cast (by simp)
 generalize hW : ((w.alloc (Obj.cells #[ptr a, ptr b] 83)).alloc (Obj.cells #[ptr c, ptr d] 83)) = W at *
 clear hW
 have pa := pa.below hbw
 have pb := pb.below hbw
 have pc := pc.below hbw
 have pd := pd.below hbw
 refine (sub_any ⟨_, _, rfl, pa, pb⟩ ⟨_, _, rfl, pc, pd⟩ hn).mono ?_
 rintro _ w2 ⟨v2, rfl, hv2, hb2⟩
 go_wp2_with fail
 refine (zero_any hv2).mono ?_
 rintro _ w3 ⟨v3, rfl, hv3, hb3⟩
 subst hv3
 go_wp2_with fail
 go_ret
 exact ⟨_, rfl, rfl, (hbw.trans (hb2.mono hbw.size)).trans (hb3.mono (hbw.trans (hb2.mono hbw.size)).size)⟩
set_option maxRecDepth 100000 in
set_option maxHeartbeats 4000000 in
theorem int_any {w : World} {re im : Int} (h1 : re.natAbs < 2 ^ 8) (h2 : im.natAbs < 2 ^ 8) :
  Calls Tryz.prog 51 #[.int .i64 re, .int .i64 im] w (Ret w (IsNum ⟨(re : Rat), (im : Rat)⟩ 8)) := by
 go_enter Tryz.func51, Tryz.ntmps51
 go_wp2_with fail
 have hbw : Below w.heap.size w (w.alloc (Obj.cells #[.pointer none, .pointer none] 83)) := ((Below.refl _ _).alloc (Nat.le_refl _) _)
 have k0 : Blk (w.alloc (Obj.cells #[.pointer none, .pointer none] 83)) (w.heap.size) 83 #[.pointer none, .pointer none] := ((Blk.new w 83 #[.pointer none, .pointer none])).cast (by simp)
 generalize hW : (w.alloc (Obj.cells #[.pointer none, .pointer none] 83)) = W at *
 clear hW
 refine (newr_any h1).mono ?_
 rintro _ w2 ⟨v2, rfl, pa, hb2⟩
 obtain ⟨a, rfl⟩ := pa.ptr
 have k2 := k0.below hb2 k0.lt
 go_wp2_with fail
 refine (newr_any h2).mono ?_
 rintro _ w3 ⟨v3, rfl, pb, hb3⟩
 obtain ⟨b, rfl⟩ := pb.ptr
 have k3 := k2.below hb3 k2.lt
 have pa3 := pa.below hb3
 clear k2 pa k0
 go_wp2_with (refine wpList_store_part (by rfl) 83 (.tmp 4) (.tmp 9) (by rfl) w.heap.size 0 #[ptr a, ptr b] (by rfl) (by rfl) 83 #[.pointer none, .pointer none] #[ptr a, ptr b] k3 (by simp) (by rfl) (by kernel_rfl) (by simp [Value.oneCell', ptr]) ?_; intro w9 k9 hg9 hs9)
 refine bodyPost_ret (results_row1 rfl _ _ _ _ _ (by rfl) k9 Tryz.underlying83 rfl (by kernel_rfl)) rfl ?_
 exact ⟨_, rfl, ⟨_, _, rfl, pa3.far k3 (by decide) (by simp) hg9, pb.far k3 (by decide) (by simp) hg9⟩, own_set hbw (hb2.trans (hb3.mono hb2.size)) (by omega) hg9⟩
set_option maxRecDepth 100000 in
set_option maxHeartbeats 4000000 in
theorem div_any {w : World} {v1 v2 : Value} {z y : Cx} {n : Nat} (h1 : IsNum z n v1 w) (h2 : IsNum y n v2 w) (h0 : ¬ y.Zero) (hn : n ≤ 100000) :
  Calls Tryz.prog 84 #[v1, v2] w (Ret w (IsNum (z.div y) (8 * n + 2))) := by
 obtain ⟨_, _, rfl, pa, pb⟩ := h1
 obtain ⟨a, rfl⟩ := pa.ptr
 obtain ⟨b, rfl⟩ := pb.ptr
 obtain ⟨_, _, rfl, pc, pd⟩ := h2
 obtain ⟨c, rfl⟩ := pc.ptr
 obtain ⟨d, rfl⟩ := pd.ptr
 have h0n : y.norm ≠ 0 := by have := norm_pos h0; grind
 go_enter Tryz.func84, Tryz.ntmps84
 go_wp2_with fail
 have hbw : Below w.heap.size w (((w.alloc (Obj.cells #[ptr a, ptr b] 83)).alloc (Obj.cells #[ptr c, ptr d] 83)).alloc (Obj.cells #[.pointer none, .pointer none] 83)) := ((((Below.refl _ _).alloc (Nat.le_refl _) _).alloc (by simp <;> omega) _).alloc (by simp <;> omega) _)
 have k0 : Blk (((w.alloc (Obj.cells #[ptr a, ptr b] 83)).alloc (Obj.cells #[ptr c, ptr d] 83)).alloc (Obj.cells #[.pointer none, .pointer none] 83)) (w.heap.size) 83 #[ptr a, ptr b] := ((((Blk.new w 83 #[ptr a, ptr b]).alloc (Obj.cells #[ptr c, ptr d] 83)).alloc (Obj.cells #[.pointer none, .pointer none] 83))).cast (by simp)
 have k1 : Blk (((w.alloc (Obj.cells #[ptr a, ptr b] 83)).alloc (Obj.cells #[ptr c, ptr d] 83)).alloc (Obj.cells #[.pointer none, .pointer none] 83)) (w.heap.size + 1) 83 #[ptr c, ptr d] := (((Blk.new (w.alloc (Obj.cells #[ptr a, ptr b] 83)) 83 #[ptr c, ptr d]).alloc (Obj.cells #[.pointer none, .pointer none] 83))).cast (by simp)
 have k2 : Blk (((w.alloc (Obj.cells #[ptr a, ptr b] 83)).alloc (Obj.cells #[ptr c, ptr d] 83)).alloc (Obj.cells #[.pointer none, .pointer none] 83)) (w.heap.size + 1 + 1) 83 #[.pointer none, .pointer none] := ((Blk.new ((w.alloc (Obj.cells #[ptr a, ptr b] 83)).alloc (Obj.cells #[ptr c, ptr d] 83)) 83 #[.pointer none, .pointer none])).cast (by simp)
 generalize hW : (((w.alloc (Obj.cells #[ptr a, ptr b] 83)).alloc (Obj.cells #[ptr c, ptr d] 83)).alloc (Obj.cells #[.pointer none, .pointer none] 83)) = W at *
 clear hW
 have pa := pa.below hbw
 have pb := pb.below hbw
 have pc := pc.below hbw
 have pd := pd.below hbw
 refine wp_region_noPanic ?_
 refine wp_region_list (mk := ?mk) ratZ_vgs [Is (.agg #[(ptr a), (ptr b)]), Is (.agg #[(ptr c), (ptr d)]), IsNum y.conj n, IsNum (z.mul y.conj) (4 * n + 1), Is undef, Is (.agg #[(ptr c), (ptr d)]), IsRat y.norm (4 * n + 1), IsRat ((y.norm)⁻¹) (4 * n + 1), IsNum ((z.mul y.conj).scale ((y.norm)⁻¹)) (8 * n + 2)] [.plain, .plain, .plain, .plain, .fresh, .plain, .plain, .fills 4, .plain] 9 1 (fun w' => Blk w' (w.heap.size) 83 #[(ptr a), (ptr b)] ∧ Blk w' (w.heap.size + 1) 83 #[(ptr c), (ptr d)] ∧ IsRat z.re n (ptr a) w' ∧ IsRat z.im n (ptr b) w' ∧ IsRat y.re n (ptr c) w' ∧ IsRat y.im n (ptr d) w' ∧ True) ⟨is_steady _ _ _, is_steady _ _ _, isNum_steady _ _ _, isNum_steady _ _ _, is_steady _ _ _, is_steady _ _ _, isRat_steady _ _ _, isRat_steady _ _ _, isNum_steady _ _ _, trivial⟩ (by kernel_rfl) (by kernel_rfl) (by kernel_rfl) (by kernel_rfl) (by kernel_rfl) (by kernel_rfl) ?hmk (fun w' hB => ⟨k0.below hB k0.lt, k1.below hB k1.lt, pa.below hB, pb.below hB, pc.below hB, pd.below hB, trivial⟩)
  (steps_all (steps_cons ?_ (steps_cons ?_ (steps_cons ?_ (steps_cons ?_ (steps_cons ?_ (steps_cons ?_ (steps_cons ?_ (steps_cons ?_ (steps_cons ?_ steps_nil)))))))))) ?_
 case hmk =>
  intro u
  simp only [mkFrom, mkL, dstOf, List.range, List.range.loop, Act.put, List.setIfInBounds_toArray, List.set_cons_zero, List.set_cons_succ, List.getElem?_toArray, List.getElem?_cons_zero, List.getElem?_cons_succ, Option.bind_some]
  rfl
 ·refine step_is (o := Oper.mk (some 5) _ _ _ _ _) rfl rfl rfl rfl (fun u ws hc hd => ?_)
  obtain ⟨k0, k1, pa, pb, pc, pd, _⟩ := hc
  exact run_load_part 83 (.tmp 2) rfl (w.heap.size) 0 rfl #[(ptr a), (ptr b)] _ k0 rfl Tryz.underlying83 rfl (by kernel_rfl)
 ·refine step_is (o := Oper.mk (some 6) _ _ _ _ _) rfl rfl rfl rfl (fun u ws hc hd => ?_)
  obtain ⟨k0, k1, pa, pb, pc, pd, _⟩ := hc
  exact run_load_part 83 (.tmp 3) rfl (w.heap.size + 1) 0 rfl #[(ptr c), (ptr d)] _ k1 rfl Tryz.underlying83 rfl (by kernel_rfl)
 ·refine step_call (o := Oper.mk (some 7) _ _ _ _ _) rfl rfl rfl (fun u ws hc hd => ?_)
  obtain ⟨k0, k1, pa, pb, pc, pd, _⟩ := hc
  have d1 : u 1 = _ := hd 1 (by kernel_rfl) (by decide)
  have HC := Lib.hid (upN (m := n) (conj_any (⟨_, _, rfl, pc, pd⟩ : IsNum y n _ _) (by omega)) (by omega))
  refine ⟨81, #[(.agg #[(ptr c), (ptr d)])], ?_, HC.out⟩
  ·clear HC; go_simp
 ·refine step_call (o := Oper.mk (some 8) _ _ _ _ _) rfl rfl rfl (fun u ws hc hd => ?_)
  obtain ⟨k0, k1, pa, pb, pc, pd, _⟩ := hc
  have d0 : u 0 = _ := hd 0 (by kernel_rfl) (by decide)
  have HC := Lib.hid (upN (m := (4 * n + 1)) (mul_any (⟨_, _, rfl, pa, pb⟩ : IsNum z n _ _) (hd 2 (by kernel_rfl) (by decide) : IsNum y.conj n (u 2) ws) (by omega)) (by omega))
  refine ⟨82, #[(.agg #[(ptr a), (ptr b)]), u 2], ?_, HC.out⟩
  ·clear HC; go_simp
 ·refine step_new (o := Oper.mk (some 9) _ _ _ _ _) rfl rfl rfl (fun u ws hc => ⟨.cells #[.bool false, .slice none 0 0, .bool false, .slice none 0 0] 153, ?_, Blk.new ws 153 _⟩)
  go_simp
 ·refine step_is (o := Oper.mk (some 10) _ _ _ _ _) rfl rfl rfl rfl (fun u ws hc hd => ?_)
  obtain ⟨k0, k1, pa, pb, pc, pd, _⟩ := hc
  exact run_load_part 83 (.tmp 3) rfl (w.heap.size + 1) 0 rfl #[(ptr c), (ptr d)] _ k1 rfl Tryz.underlying83 rfl (by kernel_rfl)
 ·refine step_call (o := Oper.mk (some 11) _ _ _ _ _) rfl rfl rfl (fun u ws hc hd => ?_)
  obtain ⟨k0, k1, pa, pb, pc, pd, _⟩ := hc
  have d5 : u 5 = _ := hd 5 (by kernel_rfl) (by decide)
  have HC := Lib.hid (upR (m := (4 * n + 1)) (norm_any (⟨_, _, rfl, pc, pd⟩ : IsNum y n _ _) (by omega)) (by omega))
  refine ⟨69, #[(.agg #[(ptr c), (ptr d)])], ?_, HC.out⟩
  ·clear HC; go_simp
 ·refine step_fill (a := 4) (o := Oper.mk (some 12) _ _ _ _ _) rfl rfl rfl (fun u ws g1 hc hd h0 hlo hv => ?_)
  obtain ⟨k0, k1, pa, pb, pc, pd, _⟩ := hc
  have HC := Lib.hid (finv hv (hd 6 (by kernel_rfl) (by decide) : IsRat y.norm (4 * n + 1) (u 6) ws) h0n (by omega))
  refine ⟨110, #[ptr g1, u 6], ?_, HC.out.mono ?_⟩
  ·clear HC; go_simp
  ·rintro _ w2 ⟨rfl, hi, hg⟩
   exact ⟨rfl, hi, hg⟩
 ·refine step_call (o := Oper.mk (some 13) _ _ _ _ _) rfl rfl rfl (fun u ws hc hd => ?_)
  obtain ⟨k0, k1, pa, pb, pc, pd, _⟩ := hc
  have HC := Lib.hid (upN (m := (8 * n + 2)) (scale_any (hd 3 (by kernel_rfl) (by decide) : IsNum (z.mul y.conj) (4 * n + 1) (u 3) ws) (hd 7 (by kernel_rfl) (by decide) : IsRat ((y.norm)⁻¹) (4 * n + 1) (u 7) ws) (by omega)) (by omega))
  refine ⟨52, #[u 3, u 7], ?_, HC.out⟩
  ·clear HC; go_simp
 ·intro u w1 hb1 hf hn1
  obtain ⟨_, _, e8, fa, fb⟩ : IsNum _ _ (u 8) w1 := hf 8 (by decide) (by decide)
  obtain ⟨ga, rfl⟩ := fa.ptr
  obtain ⟨gb, rfl⟩ := fb.ptr
  have kr := k2.below hb1 k2.lt
  clear hf hn1
  rw [e8]
  refine wpAny_store (j := 9) (o := Oper.mk none _ _ _ _ _) rfl (by kernel_rfl) rfl 83 (.tmp 4) (.tmp 13) rfl (w.heap.size + 1 + 1) 0 #[ptr ga, ptr gb] rfl rfl #[ptr ga, ptr gb] kr (by simp) rfl (by kernel_rfl) (by simp [Value.oneCell', ptr]) (fun w2 k9 hg9 hs9 => ?_)
  refine wpAny_end (by kernel_rfl) ?_
  refine NoPanic.normal ?_
  go_wp2_with fail
  refine bodyPost_ret (results_row1 rfl _ _ _ _ _ (by rfl) k9 Tryz.underlying83 rfl (by kernel_rfl)) rfl ?_
  exact ⟨_, rfl, ⟨_, _, rfl, fa.far kr (by decide) (by simp) hg9, fb.far kr (by decide) (by simp) hg9⟩, own_set hbw hb1 (by omega) hg9⟩
end Go.Proofs.YtebpggfccljagaaGreat
namespace Go.Proofs.YtebpggfccljagaaGreat
open Go Go.RowKit
theorem wpAnyH_more {P : Program} {ops : Array Oper} {Q : Exit → Act → World → Prop} {md : Region.Mode} {S S' : World → Prop} (himp : ∀ w, S' w → S w) :
  ∀ {fuel : Nat} {listed : Array Bool} {a : Act} {w : World}, wpAnyH P md ops Q S' fuel listed a w → wpAnyH P md ops Q S fuel listed a w
 | 0, _, _, _, h => h
 | _ + 1, _, _, _, h => ⟨h.1, fun i hi => wpOp_mono (fun _ _ h' => ⟨himp _ h'.1, wpAnyH_more himp h'.2⟩) (h.2 i hi)⟩
end Go.Proofs.YtebpggfccljagaaGreat
