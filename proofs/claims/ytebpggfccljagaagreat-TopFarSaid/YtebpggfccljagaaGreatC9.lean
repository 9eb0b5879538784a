import Derived.Test.YtebpggfccljagaaGreatC8
import Derived.Test.YtebpggfccljagaaGreatC7
import Derived.Test.YtebpggfccljagaaGreatC5
namespace Go.Proofs.YtebpggfccljagaaGreat
open Go.RowKit
open Wh
set_option linter.unusedSimpArgs false
def IsCp (z : Cx) (k : Nat) (v : Value) (w : World) : Prop := ∃ x0 A0 n0 c0 x1 A1 n1 c1 x2 A2 n2 c2 x3 A3 n3 c3, v = .agg #[.bool x0, .slice A0 n0 c0, .bool x1, .slice A1 n1 c1, .bool x2, .slice A2 n2 c2, .bool x3, .slice A3 n3 c3] ∧
 IsFr z.re k (.agg #[.bool x0, .slice A0 n0 c0, .bool x1, .slice A1 n1 c1]) w ∧ IsFr z.im k (.agg #[.bool x2, .slice A2 n2 c2, .bool x3, .slice A3 n3 c3]) w
theorem IsCp.below {z : Cx} {k : Nat} {v : Value} {w w' : World} (h : IsCp z k v w) (hb : Below w.heap.size w w') : IsCp z k v w' := by
 obtain ⟨x0, A0, n0, c0, x1, A1, n1, c1, x2, A2, n2, c2, x3, A3, n3, c3, rfl, h1, h2⟩ := h
 exact ⟨_, _, _, _, _, _, _, _, _, _, _, _, _, _, _, _, rfl, h1.below hb, h2.below hb⟩
theorem IsCp.far {z : Cx} {k r : Nat} {v : Value} {w w' : World} {t : TypeId} {cs : Array Value} (h : IsCp z k v w) (hk : Blk w r t cs) (ht : t ≠ 115) (hg : w.grownBy w' (some r)) : IsCp z k v w' := by
 obtain ⟨x0, A0, n0, c0, x1, A1, n1, c1, x2, A2, n2, c2, x3, A3, n3, c3, rfl, h1, h2⟩ := h
 exact ⟨_, _, _, _, _, _, _, _, _, _, _, _, _, _, _, _, rfl, h1.far hk ht hg, h2.far hk ht hg⟩
theorem IsCp.shape {z : Cx} {k : Nat} {v : Value} {w : World} (h : IsCp z k v w) : ∃ x0 A0 n0 c0 x1 A1 n1 c1 x2 A2 n2 c2 x3 A3 n3 c3, v = .agg #[.bool x0, .slice A0 n0 c0, .bool x1, .slice A1 n1 c1, .bool x2, .slice A2 n2 c2, .bool x3, .slice A3 n3 c3] := by
 obtain ⟨x0, A0, n0, c0, x1, A1, n1, c1, x2, A2, n2, c2, x3, A3, n3, c3, rfl, h1, h2⟩ := h
 exact ⟨_, _, _, _, _, _, _, _, _, _, _, _, _, _, _, _, rfl⟩
theorem IsCp.make {z : Cx} {k j i : Nat} {x0 x1 x2 x3 : Bool} {A0 A1 A2 A3 : Option Addr} {n0 c0 n1 c1 n2 c2 n3 c3 : Nat} {w : World} (h1 : IsFr z.re k (.agg #[.bool x0, .slice A0 n0 c0, .bool x1, .slice A1 n1 c1]) w) (h2 : IsFr z.im j (.agg #[.bool x2, .slice A2 n2 c2, .bool x3, .slice A3 n3 c3]) w) (hk : k ≤ i) (hj : j ≤ i) :
  IsCp z i (.agg #[.bool x0, .slice A0 n0 c0, .bool x1, .slice A1 n1 c1, .bool x2, .slice A2 n2 c2, .bool x3, .slice A3 n3 c3]) w := ⟨_, _, _, _, _, _, _, _, _, _, _, _, _, _, _, _, rfl, h1.up hk, h2.up hj⟩
theorem Stw.fr (z : Rat) (k : Nat) (v : Value) : Stw (IsFr z k v) := ⟨fun h hb => h.below hb, fun h a b c => h.far a b c⟩
theorem Stw.cp (z : Cx) (k : Nat) (v : Value) : Stw (IsCp z k v) := ⟨fun h hb => h.below hb, fun h a b c => h.far a b c⟩
theorem cmpR_zero {x y : Rat} : cmpR x y = 0 ↔ x = y := by
 unfold cmpR
 by_cases h : x < y
 ·rw [if_pos h]
  exact ⟨fun e => absurd e (by decide), fun e => (by rw [e] at h; exact absurd h (by grind))⟩
 ·rw [if_neg h]
  by_cases h2 : x = y
  ·rw [if_pos h2]; exact ⟨fun _ => h2, fun _ => rfl⟩
  ·rw [if_neg h2]; exact ⟨fun e => absurd e (by decide), fun e => absurd e h2⟩
theorem tof_8192 {w : World} {b : Bool} {s : ByteArray} {z : Int} (hv : Wv b s z) (hk : s.size ≤ 1024) : Calls Tryz.prog 22 #[.agg #[.bool b, .string s]] w (Ret w (IsWh z 8192)) :=
 Ret.mono (tof_any hv hk (by decide)) fun _ _ h => h.up (by decide)
theorem Fv.whole {b0 b1 : Bool} {s0 s1 : ByteArray} {q : Rat} {n : Nat} (_h : Fv b0 s0 b1 s1 q n) : q = (q.num : Rat) / ((q.den : Int) : Rat) := by
 rw [← Rat.divInt_eq_div, Rat.num_divInt_den]
set_option maxRecDepth 100000 in
set_option maxHeartbeats 4000000 in
theorem ratio_any {w : World} {v : Value} {q : Rat} {n : Nat} (h : IsFrac q n v) :
  Calls Tryz.prog 5 #[v] w (Ret w (IsFr q 8192)) := by
 obtain ⟨b0, s0, b1, s1, rfl, hf⟩ := h
 go_enter Tryz.func5, Tryz.ntmps5
 go_wp2_with fail
 have hbw : Below w.heap.size w ((w.alloc (Obj.cells #[.bool b0, .string s0, .bool b1, .string s1] 25)).alloc (Obj.cells #[.bool false, .slice none 0 0, .bool false, .slice none 0 0] 37)) := (((Below.refl _ _).alloc (Nat.le_refl _) _).alloc (by simp <;> omega) _)
 have k0 : Blk ((w.alloc (Obj.cells #[.bool b0, .string s0, .bool b1, .string s1] 25)).alloc (Obj.cells #[.bool false, .slice none 0 0, .bool false, .slice none 0 0] 37)) (w.heap.size) 25 #[.bool b0, .string s0, .bool b1, .string s1] := (((Blk.new w 25 #[.bool b0, .string s0, .bool b1, .string s1]).alloc (Obj.cells #[.bool false, .slice none 0 0, .bool false, .slice none 0 0] 37))).cast (by simp)
 have k1 : Blk ((w.alloc (Obj.cells #[.bool b0, .string s0, .bool b1, .string s1] 25)).alloc (Obj.cells #[.bool false, .slice none 0 0, .bool false, .slice none 0 0] 37)) (w.heap.size + 1) 37 #[.bool false, .slice none 0 0, .bool false, .slice none 0 0] := ((Blk.new (w.alloc (Obj.cells #[.bool b0, .string s0, .bool b1, .string s1] 25)) 37 #[.bool false, .slice none 0 0, .bool false, .slice none 0 0])).cast (by simp)
 generalize hW : ((w.alloc (Obj.cells #[.bool b0, .string s0, .bool b1, .string s1] 25)).alloc (Obj.cells #[.bool false, .slice none 0 0, .bool false, .slice none 0 0] 37)) = W at *
 clear hW
 refine wp_region_noPanic ?_
 refine wp_region_list (mk := ?mk) noV_vgs [Is (ptr w.heap.size), Is (.agg #[(.bool b0), (.string s0)]), IsWh q.num 8192, Is (.pointer (some ⟨w.heap.size, 2, none⟩)), Is (.agg #[(.bool b1), (.string s1)]), IsWh (q.den : Int) 8192] [.plain, .plain, .plain, .plain, .plain, .plain] 6 2 (fun w' => Blk w' (w.heap.size) 25 #[.bool b0, .string s0, .bool b1, .string s1] ∧ True) ⟨is_steady _ _ _, is_steady _ _ _, nov fun _ _ _ h => h.below, is_steady _ _ _, is_steady _ _ _, nov fun _ _ _ h => h.below, trivial⟩ (by kernel_rfl) (by kernel_rfl) (by kernel_rfl) (by kernel_rfl) (by kernel_rfl) (by kernel_rfl) ?hmk (fun w' hB => ⟨k0.below hB k0.lt, trivial⟩)
  (steps_all (steps_cons ?_ (steps_cons ?_ (steps_cons ?_ (steps_cons ?_ (steps_cons ?_ (steps_cons ?_ steps_nil))))))) ?_
 case hmk =>
  intro u
  simp only [mkFrom, mkL, dstOf, List.range, List.range.loop, Act.put, List.setIfInBounds_toArray, List.set_cons_zero, List.set_cons_succ, List.getElem?_toArray, List.getElem?_cons_zero, List.getElem?_cons_succ, Option.bind_some]
  rfl
 ·refine step_is (o := Oper.mk (some 3) _ _ _ _ _) rfl rfl rfl rfl (fun u ws hc hd => ?_)
  go_simp
 ·refine step_is (o := Oper.mk (some 4) _ _ _ _ _) rfl rfl rfl rfl (fun u ws hc hd => ?_)
  obtain ⟨k0, _⟩ := hc
  have d0 : u 0 = _ := hd 0 (by kernel_rfl) (by decide)
  exact run_load_part 23 (.tmp 3) rfl (w.heap.size) 0 d0 #[(.bool b0), (.string s0)] _ k0 rfl Tryz.underlying23 rfl (by kernel_rfl)
 ·refine step_call (o := Oper.mk (some 5) _ _ _ _ _) rfl rfl rfl (fun u ws hc hd => ?_)
  obtain ⟨k0, _⟩ := hc
  have d1 : u 1 = _ := hd 1 (by kernel_rfl) (by decide)
  have HC := Lib.hid (tof_8192 (w := ws) hf.num hf.l0)
  refine ⟨22, #[(.agg #[(.bool b0), (.string s0)])], ?_, HC.out⟩
  ·clear HC; go_simp
 ·refine step_is (o := Oper.mk (some 6) _ _ _ _ _) rfl rfl rfl rfl (fun u ws hc hd => ?_)
  go_simp
 ·refine step_is (o := Oper.mk (some 7) _ _ _ _ _) rfl rfl rfl rfl (fun u ws hc hd => ?_)
  obtain ⟨k0, _⟩ := hc
  have d3 : u 3 = _ := hd 3 (by kernel_rfl) (by decide)
  exact run_load_part 23 (.tmp 6) rfl (w.heap.size) 2 d3 #[(.bool b1), (.string s1)] _ k0 rfl Tryz.underlying23 rfl (by kernel_rfl)
 ·refine step_call (o := Oper.mk (some 8) _ _ _ _ _) rfl rfl rfl (fun u ws hc hd => ?_)
  obtain ⟨k0, _⟩ := hc
  have d4 : u 4 = _ := hd 4 (by kernel_rfl) (by decide)
  have HC := Lib.hid (tof_8192 (w := ws) hf.den hf.l1)
  refine ⟨22, #[(.agg #[(.bool b1), (.string s1)])], ?_, HC.out⟩
  ·clear HC; go_simp
 ·intro u w1 hb1 hf hn1
  have fa : IsWh _ _ (u 2) w1 := hf 2 (by decide) (by decide)
  obtain ⟨ax0, aA0, an0, ac0, ea⟩ := fa.shape
  rw [ea] at fa
  have fb : IsWh _ _ (u 5) w1 := hf 5 (by decide) (by decide)
  obtain ⟨bx0, bA0, bn0, bc0, eb⟩ := fb.shape
  rw [eb] at fb
  have kr := k1.below hb1 k1.lt
  clear hf hn1
  refine wpAny_tail (j := 6) (o := Oper.mk (some 9) _ _ _ _ _) rfl (by kernel_rfl) (fun K hK => ?_)
  rw [ea, eb]
  go_simp
  refine hK.out _ _ ?_
  clear hK K
  refine wpAny_store (j := 7) (o := Oper.mk none _ _ _ _ _) rfl (by kernel_rfl) rfl 37 (.tmp 2) (.tmp 9) rfl (w.heap.size + 1) 0 #[.bool ax0, .slice aA0 an0 ac0, .bool bx0, .slice bA0 bn0 bc0] rfl rfl #[.bool ax0, .slice aA0 an0 ac0, .bool bx0, .slice bA0 bn0 bc0] kr (by simp) rfl (by kernel_rfl) (by simp [Value.oneCell']) (fun w2 k9 hg9 hs9 => ?_)
  refine wpAny_end (by kernel_rfl) ?_
  refine NoPanic.normal ?_
  go_wp2_with fail
  refine bodyPost_ret (results_row1 rfl _ _ _ _ _ (by rfl) k9 Tryz.underlying37 rfl (by kernel_rfl)) rfl ?_
  exact ⟨_, rfl, IsFr.make (fa.far kr (by decide) hg9) (fb.far kr (by decide) hg9) (by omega) (by omega) (by have := q.den_pos; omega) hf.whole, own_set hbw hb1 (by omega) hg9⟩
set_option maxRecDepth 100000 in
set_option maxHeartbeats 4000000 in
theorem number_c {w : World} {v : Value} {z : Cx} {n : Nat} (h : IsGauss z n v) :
  Calls Tryz.prog 8 #[v] w (Ret w (IsCp z 8192)) := by
 obtain ⟨b0, s0, b1, s1, b2, s2, b3, s3, rfl, h0, h1⟩ := h
 go_enter Tryz.func8, Tryz.ntmps8
 go_wp2_with fail
 have hbw : Below w.heap.size w ((w.alloc (Obj.cells #[.bool b0, .string s0, .bool b1, .string s1, .bool b2, .string s2, .bool b3, .string s3] 27)).alloc (Obj.cells #[.bool false, .slice none 0 0, .bool false, .slice none 0 0, .bool false, .slice none 0 0, .bool false, .slice none 0 0] 42)) := (((Below.refl _ _).alloc (Nat.le_refl _) _).alloc (by simp <;> omega) _)
 have k0 : Blk ((w.alloc (Obj.cells #[.bool b0, .string s0, .bool b1, .string s1, .bool b2, .string s2, .bool b3, .string s3] 27)).alloc (Obj.cells #[.bool false, .slice none 0 0, .bool false, .slice none 0 0, .bool false, .slice none 0 0, .bool false, .slice none 0 0] 42)) (w.heap.size) 27 #[.bool b0, .string s0, .bool b1, .string s1, .bool b2, .string s2, .bool b3, .string s3] := (((Blk.new w 27 #[.bool b0, .string s0, .bool b1, .string s1, .bool b2, .string s2, .bool b3, .string s3]).alloc (Obj.cells #[.bool false, .slice none 0 0, .bool false, .slice none 0 0, .bool false, .slice none 0 0, .bool false, .slice none 0 0] 42))).cast (by simp)
 have k1 : Blk ((w.alloc (Obj.cells #[.bool b0, .string s0, .bool b1, .string s1, .bool b2, .string s2, .bool b3, .string s3] 27)).alloc (Obj.cells #[.bool false, .slice none 0 0, .bool false, .slice none 0 0, .bool false, .slice none 0 0, .bool false, .slice none 0 0] 42)) (w.heap.size + 1) 42 #[.bool false, .slice none 0 0, .bool false, .slice none 0 0, .bool false, .slice none 0 0, .bool false, .slice none 0 0] := ((Blk.new (w.alloc (Obj.cells #[.bool b0, .string s0, .bool b1, .string s1, .bool b2, .string s2, .bool b3, .string s3] 27)) 42 #[.bool false, .slice none 0 0, .bool false, .slice none 0 0, .bool false, .slice none 0 0, .bool false, .slice none 0 0])).cast (by simp)
 generalize hW : ((w.alloc (Obj.cells #[.bool b0, .string s0, .bool b1, .string s1, .bool b2, .string s2, .bool b3, .string s3] 27)).alloc (Obj.cells #[.bool false, .slice none 0 0, .bool false, .slice none 0 0, .bool false, .slice none 0 0, .bool false, .slice none 0 0] 42)) = W at *
 clear hW
 refine wp_region_noPanic ?_
 refine wp_region_list (mk := ?mk) noV_vgs [Is (ptr w.heap.size), Is (.agg #[(.bool b0), (.string s0), (.bool b1), (.string s1)]), IsFr z.re 8192, Is (.pointer (some ⟨w.heap.size, 4, none⟩)), Is (.agg #[(.bool b2), (.string s2), (.bool b3), (.string s3)]), IsFr z.im 8192] [.plain, .plain, .plain, .plain, .plain, .plain] 6 2 (fun w' => Blk w' (w.heap.size) 27 #[.bool b0, .string s0, .bool b1, .string s1, .bool b2, .string s2, .bool b3, .string s3] ∧ True) ⟨is_steady _ _ _, is_steady _ _ _, nov fun _ _ _ h => h.below, is_steady _ _ _, is_steady _ _ _, nov fun _ _ _ h => h.below, trivial⟩ (by kernel_rfl) (by kernel_rfl) (by kernel_rfl) (by kernel_rfl) (by kernel_rfl) (by kernel_rfl) ?hmk (fun w' hB => ⟨k0.below hB k0.lt, trivial⟩)
  (steps_all (steps_cons ?_ (steps_cons ?_ (steps_cons ?_ (steps_cons ?_ (steps_cons ?_ (steps_cons ?_ steps_nil))))))) ?_
 case hmk =>
  intro u
  simp only [mkFrom, mkL, dstOf, List.range, List.range.loop, Act.put, List.setIfInBounds_toArray, List.set_cons_zero, List.set_cons_succ, List.getElem?_toArray, List.getElem?_cons_zero, List.getElem?_cons_succ, Option.bind_some]
  rfl
 ·refine step_is (o := Oper.mk (some 3) _ _ _ _ _) rfl rfl rfl rfl (fun u ws hc hd => ?_)
  go_simp
 ·refine step_is (o := Oper.mk (some 4) _ _ _ _ _) rfl rfl rfl rfl (fun u ws hc hd => ?_)
  obtain ⟨k0, _⟩ := hc
  have d0 : u 0 = _ := hd 0 (by kernel_rfl) (by decide)
  exact run_load_part 25 (.tmp 3) rfl (w.heap.size) 0 d0 #[(.bool b0), (.string s0), (.bool b1), (.string s1)] _ k0 rfl Tryz.underlying25 rfl (by kernel_rfl)
 ·refine step_call (o := Oper.mk (some 5) _ _ _ _ _) rfl rfl rfl (fun u ws hc hd => ?_)
  obtain ⟨k0, _⟩ := hc
  have d1 : u 1 = _ := hd 1 (by kernel_rfl) (by decide)
  have HC := Lib.hid (ratio_any (w := ws) ⟨_, _, _, _, rfl, h0⟩)
  refine ⟨5, #[(.agg #[(.bool b0), (.string s0), (.bool b1), (.string s1)])], ?_, HC.out⟩
  ·clear HC; go_simp
 ·refine step_is (o := Oper.mk (some 6) _ _ _ _ _) rfl rfl rfl rfl (fun u ws hc hd => ?_)
  go_simp
 ·refine step_is (o := Oper.mk (some 7) _ _ _ _ _) rfl rfl rfl rfl (fun u ws hc hd => ?_)
  obtain ⟨k0, _⟩ := hc
  have d3 : u 3 = _ := hd 3 (by kernel_rfl) (by decide)
  exact run_load_part 25 (.tmp 6) rfl (w.heap.size) 4 d3 #[(.bool b2), (.string s2), (.bool b3), (.string s3)] _ k0 rfl Tryz.underlying25 rfl (by kernel_rfl)
 ·refine step_call (o := Oper.mk (some 8) _ _ _ _ _) rfl rfl rfl (fun u ws hc hd => ?_)
  obtain ⟨k0, _⟩ := hc
  have d4 : u 4 = _ := hd 4 (by kernel_rfl) (by decide)
  have HC := Lib.hid (ratio_any (w := ws) ⟨_, _, _, _, rfl, h1⟩)
  refine ⟨5, #[(.agg #[(.bool b2), (.string s2), (.bool b3), (.string s3)])], ?_, HC.out⟩
  ·clear HC; go_simp
 ·intro u w1 hb1 hf hn1
  have fa : IsFr _ _ (u 2) w1 := hf 2 (by decide) (by decide)
  obtain ⟨ax0, aA0, an0, ac0, ax1, aA1, an1, ac1, ea⟩ := fa.shape
  rw [ea] at fa
  have fb : IsFr _ _ (u 5) w1 := hf 5 (by decide) (by decide)
  obtain ⟨bx0, bA0, bn0, bc0, bx1, bA1, bn1, bc1, eb⟩ := fb.shape
  rw [eb] at fb
  have kr := k1.below hb1 k1.lt
  clear hf hn1
  refine wpAny_tail (j := 6) (o := Oper.mk (some 9) _ _ _ _ _) rfl (by kernel_rfl) (fun K hK => ?_)
  rw [ea, eb]
  go_simp
  refine hK.out _ _ ?_
  clear hK K
  refine wpAny_store (j := 7) (o := Oper.mk none _ _ _ _ _) rfl (by kernel_rfl) rfl 42 (.tmp 2) (.tmp 9) rfl (w.heap.size + 1) 0 #[.bool ax0, .slice aA0 an0 ac0, .bool ax1, .slice aA1 an1 ac1, .bool bx0, .slice bA0 bn0 bc0, .bool bx1, .slice bA1 bn1 bc1] rfl rfl #[.bool ax0, .slice aA0 an0 ac0, .bool ax1, .slice aA1 an1 ac1, .bool bx0, .slice bA0 bn0 bc0, .bool bx1, .slice bA1 bn1 bc1] kr (by simp) rfl (by kernel_rfl) (by simp [Value.oneCell']) (fun w2 k9 hg9 hs9 => ?_)
  refine wpAny_end (by kernel_rfl) ?_
  refine NoPanic.normal ?_
  go_wp2_with fail
  refine bodyPost_ret (results_row1 rfl _ _ _ _ _ (by rfl) k9 Tryz.underlying42 rfl (by kernel_rfl)) rfl ?_
  exact ⟨_, rfl, IsCp.make (fa.far kr (by decide) hg9) (fb.far kr (by decide) hg9) (by omega) (by omega), own_set hbw hb1 (by omega) hg9⟩
set_option maxRecDepth 100000 in
set_option maxHeartbeats 4000000 in
theorem cpless_any {w : World} {v1 v2 : Value} {z y : Cx} {k j : Nat} (h0 : IsCp z k v1 w) (h1 : IsCp y j v2 w) (hk : k + j ≤ 400000) :
  Calls Tryz.prog 14 #[v1, v2] w (Ret w (IsCp (z.sub y) (k + j + 1))) := by
 obtain ⟨x00, A00, n00, c00, x01, A01, n01, c01, x02, A02, n02, c02, x03, A03, n03, c03, rfl, f0R, f0I⟩ := h0
 obtain ⟨x10, A10, n10, c10, x11, A11, n11, c11, x12, A12, n12, c12, x13, A13, n13, c13, rfl, f1R, f1I⟩ := h1
 go_enter Tryz.func14, Tryz.ntmps14
 go_wp2_with fail
 have hbw : Below w.heap.size w (((w.alloc (Obj.cells #[.bool x00, .slice A00 n00 c00, .bool x01, .slice A01 n01 c01, .bool x02, .slice A02 n02 c02, .bool x03, .slice A03 n03 c03] 42)).alloc (Obj.cells #[.bool x10, .slice A10 n10 c10, .bool x11, .slice A11 n11 c11, .bool x12, .slice A12 n12 c12, .bool x13, .slice A13 n13 c13] 42)).alloc (Obj.cells #[.bool false, .slice none 0 0, .bool false, .slice none 0 0, .bool false, .slice none 0 0, .bool false, .slice none 0 0] 42)) := ((((Below.refl _ _).alloc (Nat.le_refl _) _).alloc (by simp <;> omega) _).alloc (by simp <;> omega) _)
 have k0 : Blk (((w.alloc (Obj.cells #[.bool x00, .slice A00 n00 c00, .bool x01, .slice A01 n01 c01, .bool x02, .slice A02 n02 c02, .bool x03, .slice A03 n03 c03] 42)).alloc (Obj.cells #[.bool x10, .slice A10 n10 c10, .bool x11, .slice A11 n11 c11, .bool x12, .slice A12 n12 c12, .bool x13, .slice A13 n13 c13] 42)).alloc (Obj.cells #[.bool false, .slice none 0 0, .bool false, .slice none 0 0, .bool false, .slice none 0 0, .bool false, .slice none 0 0] 42)) (w.heap.size) 42 #[.bool x00, .slice A00 n00 c00, .bool x01, .slice A01 n01 c01, .bool x02, .slice A02 n02 c02, .bool x03, .slice A03 n03 c03] := ((((Blk.new w 42 #[.bool x00, .slice A00 n00 c00, .bool x01, .slice A01 n01 c01, .bool x02, .slice A02 n02 c02, .bool x03, .slice A03 n03 c03]).alloc (Obj.cells #[.bool x10, .slice A10 n10 c10, .bool x11, .slice A11 n11 c11, .bool x12, .slice A12 n12 c12, .bool x13, .slice A13 n13 c13] 42)).alloc (Obj.cells #[.bool false, .slice none 0 0, .bool false, .slice none 0 0, .bool false, .slice none 0 0, .bool false, .slice none 0 0] 42))).cast (by simp)
 have k1 : Blk (((w.alloc (Obj.cells #[.bool x00, .slice A00 n00 c00, .bool x01, .slice A01 n01 c01, .bool x02, .slice A02 n02 c02, .bool x03, .slice A03 n03 c03] 42)).alloc (Obj.cells #[.bool x10, .slice A10 n10 c10, .bool x11, .slice A11 n11 c11, .bool x12, .slice A12 n12 c12, .bool x13, .slice A13 n13 c13] 42)).alloc (Obj.cells #[.bool false, .slice none 0 0, .bool false, .slice none 0 0, .bool false, .slice none 0 0, .bool false, .slice none 0 0] 42)) (w.heap.size + 1) 42 #[.bool x10, .slice A10 n10 c10, .bool x11, .slice A11 n11 c11, .bool x12, .slice A12 n12 c12, .bool x13, .slice A13 n13 c13] := (((Blk.new (w.alloc (Obj.cells #[.bool x00, .slice A00 n00 c00, .bool x01, .slice A01 n01 c01, .bool x02, .slice A02 n02 c02, .bool x03, .slice A03 n03 c03] 42)) 42 #[.bool x10, .slice A10 n10 c10, .bool x11, .slice A11 n11 c11, .bool x12, .slice A12 n12 c12, .bool x13, .slice A13 n13 c13]).alloc (Obj.cells #[.bool false, .slice none 0 0, .bool false, .slice none 0 0, .bool false, .slice none 0 0, .bool false, .slice none 0 0] 42))).cast (by simp)
 have k2 : Blk (((w.alloc (Obj.cells #[.bool x00, .slice A00 n00 c00, .bool x01, .slice A01 n01 c01, .bool x02, .slice A02 n02 c02, .bool x03, .slice A03 n03 c03] 42)).alloc (Obj.cells #[.bool x10, .slice A10 n10 c10, .bool x11, .slice A11 n11 c11, .bool x12, .slice A12 n12 c12, .bool x13, .slice A13 n13 c13] 42)).alloc (Obj.cells #[.bool false, .slice none 0 0, .bool false, .slice none 0 0, .bool false, .slice none 0 0, .bool false, .slice none 0 0] 42)) (w.heap.size + 1 + 1) 42 #[.bool false, .slice none 0 0, .bool false, .slice none 0 0, .bool false, .slice none 0 0, .bool false, .slice none 0 0] := ((Blk.new ((w.alloc (Obj.cells #[.bool x00, .slice A00 n00 c00, .bool x01, .slice A01 n01 c01, .bool x02, .slice A02 n02 c02, .bool x03, .slice A03 n03 c03] 42)).alloc (Obj.cells #[.bool x10, .slice A10 n10 c10, .bool x11, .slice A11 n11 c11, .bool x12, .slice A12 n12 c12, .bool x13, .slice A13 n13 c13] 42)) 42 #[.bool false, .slice none 0 0, .bool false, .slice none 0 0, .bool false, .slice none 0 0, .bool false, .slice none 0 0])).cast (by simp)
 generalize hW : (((w.alloc (Obj.cells #[.bool x00, .slice A00 n00 c00, .bool x01, .slice A01 n01 c01, .bool x02, .slice A02 n02 c02, .bool x03, .slice A03 n03 c03] 42)).alloc (Obj.cells #[.bool x10, .slice A10 n10 c10, .bool x11, .slice A11 n11 c11, .bool x12, .slice A12 n12 c12, .bool x13, .slice A13 n13 c13] 42)).alloc (Obj.cells #[.bool false, .slice none 0 0, .bool false, .slice none 0 0, .bool false, .slice none 0 0, .bool false, .slice none 0 0] 42)) = W at *
 clear hW
 have f0R := f0R.below hbw
 have f0I := f0I.below hbw
 have f1R := f1R.below hbw
 have f1I := f1I.below hbw
 refine wp_region_noPanic ?_
 refine wp_region_list (mk := ?mk) noV_vgs [Is (ptr w.heap.size), Is (.agg #[(.bool x00), (.slice A00 n00 c00), (.bool x01), (.slice A01 n01 c01)]), Is (ptr (w.heap.size + 1)), Is (.agg #[(.bool x10), (.slice A10 n10 c10), (.bool x11), (.slice A11 n11 c11)]), IsFr (z.re - y.re) (k + j + 1), Is (.pointer (some ⟨w.heap.size, 4, none⟩)), Is (.agg #[(.bool x02), (.slice A02 n02 c02), (.bool x03), (.slice A03 n03 c03)]), Is (.pointer (some ⟨w.heap.size + 1, 4, none⟩)), Is (.agg #[(.bool x12), (.slice A12 n12 c12), (.bool x13), (.slice A13 n13 c13)]), IsFr (z.im - y.im) (k + j + 1)] [.plain, .plain, .plain, .plain, .plain, .plain, .plain, .plain, .plain, .plain] 10 2 (fun w' => Blk w' (w.heap.size) 42 #[.bool x00, .slice A00 n00 c00, .bool x01, .slice A01 n01 c01, .bool x02, .slice A02 n02 c02, .bool x03, .slice A03 n03 c03] ∧ Blk w' (w.heap.size + 1) 42 #[.bool x10, .slice A10 n10 c10, .bool x11, .slice A11 n11 c11, .bool x12, .slice A12 n12 c12, .bool x13, .slice A13 n13 c13] ∧ IsFr z.re k (.agg #[(.bool x00), (.slice A00 n00 c00), (.bool x01), (.slice A01 n01 c01)]) w' ∧ IsFr z.im k (.agg #[(.bool x02), (.slice A02 n02 c02), (.bool x03), (.slice A03 n03 c03)]) w' ∧ IsFr y.re j (.agg #[(.bool x10), (.slice A10 n10 c10), (.bool x11), (.slice A11 n11 c11)]) w' ∧ IsFr y.im j (.agg #[(.bool x12), (.slice A12 n12 c12), (.bool x13), (.slice A13 n13 c13)]) w' ∧ True) ⟨is_steady _ _ _, is_steady _ _ _, is_steady _ _ _, is_steady _ _ _, nov fun _ _ _ h => h.below, is_steady _ _ _, is_steady _ _ _, is_steady _ _ _, is_steady _ _ _, nov fun _ _ _ h => h.below, trivial⟩ (by kernel_rfl) (by kernel_rfl) (by kernel_rfl) (by kernel_rfl) (by kernel_rfl) (by kernel_rfl) ?hmk (fun w' hB => ⟨k0.below hB k0.lt, k1.below hB k1.lt, f0R.below hB, f0I.below hB, f1R.below hB, f1I.below hB, trivial⟩)
  (steps_all (steps_cons ?_ (steps_cons ?_ (steps_cons ?_ (steps_cons ?_ (steps_cons ?_ (steps_cons ?_ (steps_cons ?_ (steps_cons ?_ (steps_cons ?_ (steps_cons ?_ steps_nil))))))))))) ?_
 case hmk =>
  intro u
  simp only [mkFrom, mkL, dstOf, List.range, List.range.loop, Act.put, List.setIfInBounds_toArray, List.set_cons_zero, List.set_cons_succ, List.getElem?_toArray, List.getElem?_cons_zero, List.getElem?_cons_succ, Option.bind_some]
  rfl
 ·refine step_is (o := Oper.mk (some 5) _ _ _ _ _) rfl rfl rfl rfl (fun u ws hc hd => ?_)
  go_simp
 ·refine step_is (o := Oper.mk (some 6) _ _ _ _ _) rfl rfl rfl rfl (fun u ws hc hd => ?_)
  obtain ⟨k0, k1, f0R, f0I, f1R, f1I, _⟩ := hc
  have d0 : u 0 = _ := hd 0 (by kernel_rfl) (by decide)
  exact run_load_part 37 (.tmp 5) rfl (w.heap.size) 0 d0 #[(.bool x00), (.slice A00 n00 c00), (.bool x01), (.slice A01 n01 c01)] _ k0 rfl Tryz.underlying37 rfl (by kernel_rfl)
 ·refine step_is (o := Oper.mk (some 7) _ _ _ _ _) rfl rfl rfl rfl (fun u ws hc hd => ?_)
  go_simp
 ·refine step_is (o := Oper.mk (some 8) _ _ _ _ _) rfl rfl rfl rfl (fun u ws hc hd => ?_)
  obtain ⟨k0, k1, f0R, f0I, f1R, f1I, _⟩ := hc
  have d2 : u 2 = _ := hd 2 (by kernel_rfl) (by decide)
  exact run_load_part 37 (.tmp 7) rfl (w.heap.size + 1) 0 d2 #[(.bool x10), (.slice A10 n10 c10), (.bool x11), (.slice A11 n11 c11)] _ k1 rfl Tryz.underlying37 rfl (by kernel_rfl)
 ·refine step_call (o := Oper.mk (some 9) _ _ _ _ _) rfl rfl rfl (fun u ws hc hd => ?_)
  obtain ⟨k0, k1, f0R, f0I, f1R, f1I, _⟩ := hc
  have d1 : u 1 = _ := hd 1 (by kernel_rfl) (by decide)
  have d3 : u 3 = _ := hd 3 (by kernel_rfl) (by decide)
  have HC := Lib.hid (frless_any f0R f1R (by omega))
  refine ⟨34, #[(.agg #[(.bool x00), (.slice A00 n00 c00), (.bool x01), (.slice A01 n01 c01)]), (.agg #[(.bool x10), (.slice A10 n10 c10), (.bool x11), (.slice A11 n11 c11)])], ?_, HC.out⟩
  ·clear HC; go_simp
 ·refine step_is (o := Oper.mk (some 10) _ _ _ _ _) rfl rfl rfl rfl (fun u ws hc hd => ?_)
  go_simp
 ·refine step_is (o := Oper.mk (some 11) _ _ _ _ _) rfl rfl rfl rfl (fun u ws hc hd => ?_)
  obtain ⟨k0, k1, f0R, f0I, f1R, f1I, _⟩ := hc
  have d5 : u 5 = _ := hd 5 (by kernel_rfl) (by decide)
  exact run_load_part 37 (.tmp 10) rfl (w.heap.size) 4 d5 #[(.bool x02), (.slice A02 n02 c02), (.bool x03), (.slice A03 n03 c03)] _ k0 rfl Tryz.underlying37 rfl (by kernel_rfl)
 ·refine step_is (o := Oper.mk (some 12) _ _ _ _ _) rfl rfl rfl rfl (fun u ws hc hd => ?_)
  go_simp
 ·refine step_is (o := Oper.mk (some 13) _ _ _ _ _) rfl rfl rfl rfl (fun u ws hc hd => ?_)
  obtain ⟨k0, k1, f0R, f0I, f1R, f1I, _⟩ := hc
  have d7 : u 7 = _ := hd 7 (by kernel_rfl) (by decide)
  exact run_load_part 37 (.tmp 12) rfl (w.heap.size + 1) 4 d7 #[(.bool x12), (.slice A12 n12 c12), (.bool x13), (.slice A13 n13 c13)] _ k1 rfl Tryz.underlying37 rfl (by kernel_rfl)
 ·refine step_call (o := Oper.mk (some 14) _ _ _ _ _) rfl rfl rfl (fun u ws hc hd => ?_)
  obtain ⟨k0, k1, f0R, f0I, f1R, f1I, _⟩ := hc
  have d6 : u 6 = _ := hd 6 (by kernel_rfl) (by decide)
  have d8 : u 8 = _ := hd 8 (by kernel_rfl) (by decide)
  have HC := Lib.hid (frless_any f0I f1I (by omega))
  refine ⟨34, #[(.agg #[(.bool x02), (.slice A02 n02 c02), (.bool x03), (.slice A03 n03 c03)]), (.agg #[(.bool x12), (.slice A12 n12 c12), (.bool x13), (.slice A13 n13 c13)])], ?_, HC.out⟩
  ·clear HC; go_simp
 ·intro u w1 hb1 hf hn1
  have fa : IsFr _ _ (u 4) w1 := hf 4 (by decide) (by decide)
  obtain ⟨ax0, aA0, an0, ac0, ax1, aA1, an1, ac1, ea⟩ := fa.shape
  rw [ea] at fa
  have fb : IsFr _ _ (u 9) w1 := hf 9 (by decide) (by decide)
  obtain ⟨bx0, bA0, bn0, bc0, bx1, bA1, bn1, bc1, eb⟩ := fb.shape
  rw [eb] at fb
  have kr := k2.below hb1 k2.lt
  clear hf hn1
  refine wpAny_tail (j := 10) (o := Oper.mk (some 15) _ _ _ _ _) rfl (by kernel_rfl) (fun K hK => ?_)
  rw [ea, eb]
  go_simp
  refine hK.out _ _ ?_
  clear hK K
  refine wpAny_store (j := 11) (o := Oper.mk none _ _ _ _ _) rfl (by kernel_rfl) rfl 42 (.tmp 4) (.tmp 15) rfl (w.heap.size + 1 + 1) 0 #[.bool ax0, .slice aA0 an0 ac0, .bool ax1, .slice aA1 an1 ac1, .bool bx0, .slice bA0 bn0 bc0, .bool bx1, .slice bA1 bn1 bc1] rfl rfl #[.bool ax0, .slice aA0 an0 ac0, .bool ax1, .slice aA1 an1 ac1, .bool bx0, .slice bA0 bn0 bc0, .bool bx1, .slice bA1 bn1 bc1] kr (by simp) rfl (by kernel_rfl) (by simp [Value.oneCell']) (fun w2 k9 hg9 hs9 => ?_)
  refine wpAny_end (by kernel_rfl) ?_
  refine NoPanic.normal ?_
  go_wp2_with fail
  refine bodyPost_ret (results_row1 rfl _ _ _ _ _ (by rfl) k9 Tryz.underlying42 rfl (by kernel_rfl)) rfl ?_
  exact ⟨_, rfl, IsCp.make (z := z.sub y) (fa.far kr (by decide) hg9) (fb.far kr (by decide) hg9) (by omega) (by omega), own_set hbw hb1 (by omega) hg9⟩
set_option maxRecDepth 100000 in
set_option maxHeartbeats 4000000 in
theorem cptimes_any {w : World} {v1 v2 : Value} {z y : Cx} {k j : Nat} (h0 : IsCp z k v1 w) (h1 : IsCp y j v2 w) (hk : k + j ≤ 400000) :
  Calls Tryz.prog 45 #[v1, v2] w (Ret w (IsCp (z.mul y) (k + j + (k + j) + 1))) := by
 obtain ⟨x00, A00, n00, c00, x01, A01, n01, c01, x02, A02, n02, c02, x03, A03, n03, c03, rfl, f0R, f0I⟩ := h0
 obtain ⟨x10, A10, n10, c10, x11, A11, n11, c11, x12, A12, n12, c12, x13, A13, n13, c13, rfl, f1R, f1I⟩ := h1
 go_enter Tryz.func45, Tryz.ntmps45
 go_wp2_with fail
 have hbw : Below w.heap.size w (((w.alloc (Obj.cells #[.bool x00, .slice A00 n00 c00, .bool x01, .slice A01 n01 c01, .bool x02, .slice A02 n02 c02, .bool x03, .slice A03 n03 c03] 42)).alloc (Obj.cells #[.bool x10, .slice A10 n10 c10, .bool x11, .slice A11 n11 c11, .bool x12, .slice A12 n12 c12, .bool x13, .slice A13 n13 c13] 42)).alloc (Obj.cells #[.bool false, .slice none 0 0, .bool false, .slice none 0 0, .bool false, .slice none 0 0, .bool false, .slice none 0 0] 42)) := ((((Below.refl _ _).alloc (Nat.le_refl _) _).alloc (by simp <;> omega) _).alloc (by simp <;> omega) _)
 have k0 : Blk (((w.alloc (Obj.cells #[.bool x00, .slice A00 n00 c00, .bool x01, .slice A01 n01 c01, .bool x02, .slice A02 n02 c02, .bool x03, .slice A03 n03 c03] 42)).alloc (Obj.cells #[.bool x10, .slice A10 n10 c10, .bool x11, .slice A11 n11 c11, .bool x12, .slice A12 n12 c12, .bool x13, .slice A13 n13 c13] 42)).alloc (Obj.cells #[.bool false, .slice none 0 0, .bool false, .slice none 0 0, .bool false, .slice none 0 0, .bool false, .slice none 0 0] 42)) (w.heap.size) 42 #[.bool x00, .slice A00 n00 c00, .bool x01, .slice A01 n01 c01, .bool x02, .slice A02 n02 c02, .bool x03, .slice A03 n03 c03] := ((((Blk.new w 42 #[.bool x00, .slice A00 n00 c00, .bool x01, .slice A01 n01 c01, .bool x02, .slice A02 n02 c02, .bool x03, .slice A03 n03 c03]).alloc (Obj.cells #[.bool x10, .slice A10 n10 c10, .bool x11, .slice A11 n11 c11, .bool x12, .slice A12 n12 c12, .bool x13, .slice A13 n13 c13] 42)).alloc (Obj.cells #[.bool false, .slice none 0 0, .bool false, .slice none 0 0, .bool false, .slice none 0 0, .bool false, .slice none 0 0] 42))).cast (by simp)
 have k1 : Blk (((w.alloc (Obj.cells #[.bool x00, .slice A00 n00 c00, .bool x01, .slice A01 n01 c01, .bool x02, .slice A02 n02 c02, .bool x03, .slice A03 n03 c03] 42)).alloc (Obj.cells #[.bool x10, .slice A10 n10 c10, .bool x11, .slice A11 n11 c11, .bool x12, .slice A12 n12 c12, .bool x13, .slice A13 n13 c13] 42)).alloc (Obj.cells #[.bool false, .slice none 0 0, .bool false, .slice none 0 0, .bool false, .slice none 0 0, .bool false, .slice none 0 0] 42)) (w.heap.size + 1) 42 #[.bool x10, .slice A10 n10 c10, .bool x11, .slice A11 n11 c11, .bool x12, .slice A12 n12 c12, .bool x13, .slice A13 n13 c13] := (((Blk.new (w.alloc (Obj.cells #[.bool x00, .slice A00 n00 c00, .bool x01, .slice A01 n01 c01, .bool x02, .slice A02 n02 c02, .bool x03, .slice A03 n03 c03] 42)) 42 #[.bool x10, .slice A10 n10 c10, .bool x11, .slice A11 n11 c11, .bool x12, .slice A12 n12 c12, .bool x13, .slice A13 n13 c13]).alloc (Obj.cells #[.bool false, .slice none 0 0, .bool false, .slice none 0 0, .bool false, .slice none 0 0, .bool false, .slice none 0 0] 42))).cast (by simp)
 have k2 : Blk (((w.alloc (Obj.cells #[.bool x00, .slice A00 n00 c00, .bool x01, .slice A01 n01 c01, .bool x02, .slice A02 n02 c02, .bool x03, .slice A03 n03 c03] 42)).alloc (Obj.cells #[.bool x10, .slice A10 n10 c10, .bool x11, .slice A11 n11 c11, .bool x12, .slice A12 n12 c12, .bool x13, .slice A13 n13 c13] 42)).alloc (Obj.cells #[.bool false, .slice none 0 0, .bool false, .slice none 0 0, .bool false, .slice none 0 0, .bool false, .slice none 0 0] 42)) (w.heap.size + 1 + 1) 42 #[.bool false, .slice none 0 0, .bool false, .slice none 0 0, .bool false, .slice none 0 0, .bool false, .slice none 0 0] := ((Blk.new ((w.alloc (Obj.cells #[.bool x00, .slice A00 n00 c00, .bool x01, .slice A01 n01 c01, .bool x02, .slice A02 n02 c02, .bool x03, .slice A03 n03 c03] 42)).alloc (Obj.cells #[.bool x10, .slice A10 n10 c10, .bool x11, .slice A11 n11 c11, .bool x12, .slice A12 n12 c12, .bool x13, .slice A13 n13 c13] 42)) 42 #[.bool false, .slice none 0 0, .bool false, .slice none 0 0, .bool false, .slice none 0 0, .bool false, .slice none 0 0])).cast (by simp)
 generalize hW : (((w.alloc (Obj.cells #[.bool x00, .slice A00 n00 c00, .bool x01, .slice A01 n01 c01, .bool x02, .slice A02 n02 c02, .bool x03, .slice A03 n03 c03] 42)).alloc (Obj.cells #[.bool x10, .slice A10 n10 c10, .bool x11, .slice A11 n11 c11, .bool x12, .slice A12 n12 c12, .bool x13, .slice A13 n13 c13] 42)).alloc (Obj.cells #[.bool false, .slice none 0 0, .bool false, .slice none 0 0, .bool false, .slice none 0 0, .bool false, .slice none 0 0] 42)) = W at *
 clear hW
 have f0R := f0R.below hbw
 have f0I := f0I.below hbw
 have f1R := f1R.below hbw
 have f1I := f1I.below hbw
 refine wp_region_noPanic ?_
 refine wp_region_list (mk := ?mk) noV_vgs [Is (ptr w.heap.size), Is (.agg #[(.bool x00), (.slice A00 n00 c00), (.bool x01), (.slice A01 n01 c01)]), Is (ptr (w.heap.size + 1)), Is (.agg #[(.bool x10), (.slice A10 n10 c10), (.bool x11), (.slice A11 n11 c11)]), IsFr (z.re * y.re) (k + j), Is (.pointer (some ⟨w.heap.size, 4, none⟩)), Is (.agg #[(.bool x02), (.slice A02 n02 c02), (.bool x03), (.slice A03 n03 c03)]), Is (.pointer (some ⟨w.heap.size + 1, 4, none⟩)), Is (.agg #[(.bool x12), (.slice A12 n12 c12), (.bool x13), (.slice A13 n13 c13)]), IsFr (z.im * y.im) (k + j), IsFr ((z.re * y.re) - (z.im * y.im)) (k + j + (k + j) + 1), Is (ptr w.heap.size), Is (.agg #[(.bool x00), (.slice A00 n00 c00), (.bool x01), (.slice A01 n01 c01)]), Is (.pointer (some ⟨w.heap.size + 1, 4, none⟩)), Is (.agg #[(.bool x12), (.slice A12 n12 c12), (.bool x13), (.slice A13 n13 c13)]), IsFr (z.re * y.im) (k + j), Is (.pointer (some ⟨w.heap.size, 4, none⟩)), Is (.agg #[(.bool x02), (.slice A02 n02 c02), (.bool x03), (.slice A03 n03 c03)]), Is (ptr (w.heap.size + 1)), Is (.agg #[(.bool x10), (.slice A10 n10 c10), (.bool x11), (.slice A11 n11 c11)]), IsFr (z.im * y.re) (k + j), IsFr ((z.re * y.im) + (z.im * y.re)) (k + j + (k + j) + 1)] [.plain, .plain, .plain, .plain, .plain, .plain, .plain, .plain, .plain, .plain, .plain, .plain, .plain, .plain, .plain, .plain, .plain, .plain, .plain, .plain, .plain, .plain] 22 2 (fun w' => Blk w' (w.heap.size) 42 #[.bool x00, .slice A00 n00 c00, .bool x01, .slice A01 n01 c01, .bool x02, .slice A02 n02 c02, .bool x03, .slice A03 n03 c03] ∧ Blk w' (w.heap.size + 1) 42 #[.bool x10, .slice A10 n10 c10, .bool x11, .slice A11 n11 c11, .bool x12, .slice A12 n12 c12, .bool x13, .slice A13 n13 c13] ∧ IsFr z.re k (.agg #[(.bool x00), (.slice A00 n00 c00), (.bool x01), (.slice A01 n01 c01)]) w' ∧ IsFr z.im k (.agg #[(.bool x02), (.slice A02 n02 c02), (.bool x03), (.slice A03 n03 c03)]) w' ∧ IsFr y.re j (.agg #[(.bool x10), (.slice A10 n10 c10), (.bool x11), (.slice A11 n11 c11)]) w' ∧ IsFr y.im j (.agg #[(.bool x12), (.slice A12 n12 c12), (.bool x13), (.slice A13 n13 c13)]) w' ∧ True) ⟨is_steady _ _ _, is_steady _ _ _, is_steady _ _ _, is_steady _ _ _, nov fun _ _ _ h => h.below, is_steady _ _ _, is_steady _ _ _, is_steady _ _ _, is_steady _ _ _, nov fun _ _ _ h => h.below, nov fun _ _ _ h => h.below, is_steady _ _ _, is_steady _ _ _, is_steady _ _ _, is_steady _ _ _, nov fun _ _ _ h => h.below, is_steady _ _ _, is_steady _ _ _, is_steady _ _ _, is_steady _ _ _, nov fun _ _ _ h => h.below, nov fun _ _ _ h => h.below, trivial⟩ (by kernel_rfl) (by kernel_rfl) (by kernel_rfl) (by kernel_rfl) (by kernel_rfl) (by kernel_rfl) ?hmk (fun w' hB => ⟨k0.below hB k0.lt, k1.below hB k1.lt, f0R.below hB, f0I.below hB, f1R.below hB, f1I.below hB, trivial⟩)
  (steps_all (steps_cons ?_ (steps_cons ?_ (steps_cons ?_ (steps_cons ?_ (steps_cons ?_ (steps_cons ?_ (steps_cons ?_ (steps_cons ?_ (steps_cons ?_ (steps_cons ?_ (steps_cons ?_ (steps_cons ?_ (steps_cons ?_ (steps_cons ?_ (steps_cons ?_ (steps_cons ?_ (steps_cons ?_ (steps_cons ?_ (steps_cons ?_ (steps_cons ?_ (steps_cons ?_ (steps_cons ?_ steps_nil))))))))))))))))))))))) ?_
 case hmk =>
  intro u
  simp only [mkFrom, mkL, dstOf, List.range, List.range.loop, Act.put, List.setIfInBounds_toArray, List.set_cons_zero, List.set_cons_succ, List.getElem?_toArray, List.getElem?_cons_zero, List.getElem?_cons_succ, Option.bind_some]
  rfl
 ·refine step_is (o := Oper.mk (some 5) _ _ _ _ _) rfl rfl rfl rfl (fun u ws hc hd => ?_)
  go_simp
 ·refine step_is (o := Oper.mk (some 6) _ _ _ _ _) rfl rfl rfl rfl (fun u ws hc hd => ?_)
  obtain ⟨k0, k1, f0R, f0I, f1R, f1I, _⟩ := hc
  have d0 : u 0 = _ := hd 0 (by kernel_rfl) (by decide)
  exact run_load_part 37 (.tmp 5) rfl (w.heap.size) 0 d0 #[(.bool x00), (.slice A00 n00 c00), (.bool x01), (.slice A01 n01 c01)] _ k0 rfl Tryz.underlying37 rfl (by kernel_rfl)
 ·refine step_is (o := Oper.mk (some 7) _ _ _ _ _) rfl rfl rfl rfl (fun u ws hc hd => ?_)
  go_simp
 ·refine step_is (o := Oper.mk (some 8) _ _ _ _ _) rfl rfl rfl rfl (fun u ws hc hd => ?_)
  obtain ⟨k0, k1, f0R, f0I, f1R, f1I, _⟩ := hc
  have d2 : u 2 = _ := hd 2 (by kernel_rfl) (by decide)
  exact run_load_part 37 (.tmp 7) rfl (w.heap.size + 1) 0 d2 #[(.bool x10), (.slice A10 n10 c10), (.bool x11), (.slice A11 n11 c11)] _ k1 rfl Tryz.underlying37 rfl (by kernel_rfl)
 ·refine step_call (o := Oper.mk (some 9) _ _ _ _ _) rfl rfl rfl (fun u ws hc hd => ?_)
  obtain ⟨k0, k1, f0R, f0I, f1R, f1I, _⟩ := hc
  have d1 : u 1 = _ := hd 1 (by kernel_rfl) (by decide)
  have d3 : u 3 = _ := hd 3 (by kernel_rfl) (by decide)
  have HC := Lib.hid (frtimes_any f0R f1R (by omega))
  refine ⟨10, #[(.agg #[(.bool x00), (.slice A00 n00 c00), (.bool x01), (.slice A01 n01 c01)]), (.agg #[(.bool x10), (.slice A10 n10 c10), (.bool x11), (.slice A11 n11 c11)])], ?_, HC.out⟩
  ·clear HC; go_simp
 ·refine step_is (o := Oper.mk (some 10) _ _ _ _ _) rfl rfl rfl rfl (fun u ws hc hd => ?_)
  go_simp
 ·refine step_is (o := Oper.mk (some 11) _ _ _ _ _) rfl rfl rfl rfl (fun u ws hc hd => ?_)
  obtain ⟨k0, k1, f0R, f0I, f1R, f1I, _⟩ := hc
  have d5 : u 5 = _ := hd 5 (by kernel_rfl) (by decide)
  exact run_load_part 37 (.tmp 10) rfl (w.heap.size) 4 d5 #[(.bool x02), (.slice A02 n02 c02), (.bool x03), (.slice A03 n03 c03)] _ k0 rfl Tryz.underlying37 rfl (by kernel_rfl)
 ·refine step_is (o := Oper.mk (some 12) _ _ _ _ _) rfl rfl rfl rfl (fun u ws hc hd => ?_)
  go_simp
 ·refine step_is (o := Oper.mk (some 13) _ _ _ _ _) rfl rfl rfl rfl (fun u ws hc hd => ?_)
  obtain ⟨k0, k1, f0R, f0I, f1R, f1I, _⟩ := hc
  have d7 : u 7 = _ := hd 7 (by kernel_rfl) (by decide)
  exact run_load_part 37 (.tmp 12) rfl (w.heap.size + 1) 4 d7 #[(.bool x12), (.slice A12 n12 c12), (.bool x13), (.slice A13 n13 c13)] _ k1 rfl Tryz.underlying37 rfl (by kernel_rfl)
 ·refine step_call (o := Oper.mk (some 14) _ _ _ _ _) rfl rfl rfl (fun u ws hc hd => ?_)
  obtain ⟨k0, k1, f0R, f0I, f1R, f1I, _⟩ := hc
  have d6 : u 6 = _ := hd 6 (by kernel_rfl) (by decide)
  have d8 : u 8 = _ := hd 8 (by kernel_rfl) (by decide)
  have HC := Lib.hid (frtimes_any f0I f1I (by omega))
  refine ⟨10, #[(.agg #[(.bool x02), (.slice A02 n02 c02), (.bool x03), (.slice A03 n03 c03)]), (.agg #[(.bool x12), (.slice A12 n12 c12), (.bool x13), (.slice A13 n13 c13)])], ?_, HC.out⟩
  ·clear HC; go_simp
 ·refine step_call (o := Oper.mk (some 15) _ _ _ _ _) rfl rfl rfl (fun u ws hc hd => ?_)
  obtain ⟨k0, k1, f0R, f0I, f1R, f1I, _⟩ := hc
  have HC := Lib.hid (frless_any (hd 4 (by kernel_rfl) (by decide) : IsFr (z.re * y.re) (k + j) (u 4) ws) (hd 9 (by kernel_rfl) (by decide) : IsFr (z.im * y.im) (k + j) (u 9) ws) (by omega))
  refine ⟨34, #[u 4, u 9], ?_, HC.out⟩
  ·clear HC; go_simp
 ·refine step_is (o := Oper.mk (some 16) _ _ _ _ _) rfl rfl rfl rfl (fun u ws hc hd => ?_)
  go_simp
 ·refine step_is (o := Oper.mk (some 17) _ _ _ _ _) rfl rfl rfl rfl (fun u ws hc hd => ?_)
  obtain ⟨k0, k1, f0R, f0I, f1R, f1I, _⟩ := hc
  have d11 : u 11 = _ := hd 11 (by kernel_rfl) (by decide)
  exact run_load_part 37 (.tmp 16) rfl (w.heap.size) 0 d11 #[(.bool x00), (.slice A00 n00 c00), (.bool x01), (.slice A01 n01 c01)] _ k0 rfl Tryz.underlying37 rfl (by kernel_rfl)
 ·refine step_is (o := Oper.mk (some 18) _ _ _ _ _) rfl rfl rfl rfl (fun u ws hc hd => ?_)
  go_simp
 ·refine step_is (o := Oper.mk (some 19) _ _ _ _ _) rfl rfl rfl rfl (fun u ws hc hd => ?_)
  obtain ⟨k0, k1, f0R, f0I, f1R, f1I, _⟩ := hc
  have d13 : u 13 = _ := hd 13 (by kernel_rfl) (by decide)
  exact run_load_part 37 (.tmp 18) rfl (w.heap.size + 1) 4 d13 #[(.bool x12), (.slice A12 n12 c12), (.bool x13), (.slice A13 n13 c13)] _ k1 rfl Tryz.underlying37 rfl (by kernel_rfl)
 ·refine step_call (o := Oper.mk (some 20) _ _ _ _ _) rfl rfl rfl (fun u ws hc hd => ?_)
  obtain ⟨k0, k1, f0R, f0I, f1R, f1I, _⟩ := hc
  have d12 : u 12 = _ := hd 12 (by kernel_rfl) (by decide)
  have d14 : u 14 = _ := hd 14 (by kernel_rfl) (by decide)
  have HC := Lib.hid (frtimes_any f0R f1I (by omega))
  refine ⟨10, #[(.agg #[(.bool x00), (.slice A00 n00 c00), (.bool x01), (.slice A01 n01 c01)]), (.agg #[(.bool x12), (.slice A12 n12 c12), (.bool x13), (.slice A13 n13 c13)])], ?_, HC.out⟩
  ·clear HC; go_simp
 ·refine step_is (o := Oper.mk (some 21) _ _ _ _ _) rfl rfl rfl rfl (fun u ws hc hd => ?_)
  go_simp
 ·refine step_is (o := Oper.mk (some 22) _ _ _ _ _) rfl rfl rfl rfl (fun u ws hc hd => ?_)
  obtain ⟨k0, k1, f0R, f0I, f1R, f1I, _⟩ := hc
  have d16 : u 16 = _ := hd 16 (by kernel_rfl) (by decide)
  exact run_load_part 37 (.tmp 21) rfl (w.heap.size) 4 d16 #[(.bool x02), (.slice A02 n02 c02), (.bool x03), (.slice A03 n03 c03)] _ k0 rfl Tryz.underlying37 rfl (by kernel_rfl)
 ·refine step_is (o := Oper.mk (some 23) _ _ _ _ _) rfl rfl rfl rfl (fun u ws hc hd => ?_)
  go_simp
 ·refine step_is (o := Oper.mk (some 24) _ _ _ _ _) rfl rfl rfl rfl (fun u ws hc hd => ?_)
  obtain ⟨k0, k1, f0R, f0I, f1R, f1I, _⟩ := hc
  have d18 : u 18 = _ := hd 18 (by kernel_rfl) (by decide)
  exact run_load_part 37 (.tmp 23) rfl (w.heap.size + 1) 0 d18 #[(.bool x10), (.slice A10 n10 c10), (.bool x11), (.slice A11 n11 c11)] _ k1 rfl Tryz.underlying37 rfl (by kernel_rfl)
 ·refine step_call (o := Oper.mk (some 25) _ _ _ _ _) rfl rfl rfl (fun u ws hc hd => ?_)
  obtain ⟨k0, k1, f0R, f0I, f1R, f1I, _⟩ := hc
  have d17 : u 17 = _ := hd 17 (by kernel_rfl) (by decide)
  have d19 : u 19 = _ := hd 19 (by kernel_rfl) (by decide)
  have HC := Lib.hid (frtimes_any f0I f1R (by omega))
  refine ⟨10, #[(.agg #[(.bool x02), (.slice A02 n02 c02), (.bool x03), (.slice A03 n03 c03)]), (.agg #[(.bool x10), (.slice A10 n10 c10), (.bool x11), (.slice A11 n11 c11)])], ?_, HC.out⟩
  ·clear HC; go_simp
 ·refine step_call (o := Oper.mk (some 26) _ _ _ _ _) rfl rfl rfl (fun u ws hc hd => ?_)
  obtain ⟨k0, k1, f0R, f0I, f1R, f1I, _⟩ := hc
  have HC := Lib.hid (frplus_any (hd 15 (by kernel_rfl) (by decide) : IsFr (z.re * y.im) (k + j) (u 15) ws) (hd 20 (by kernel_rfl) (by decide) : IsFr (z.im * y.re) (k + j) (u 20) ws) (by omega))
  refine ⟨13, #[u 15, u 20], ?_, HC.out⟩
  ·clear HC; go_simp
 ·intro u w1 hb1 hf hn1
  have fa : IsFr _ _ (u 10) w1 := hf 10 (by decide) (by decide)
  obtain ⟨ax0, aA0, an0, ac0, ax1, aA1, an1, ac1, ea⟩ := fa.shape
  rw [ea] at fa
  have fb : IsFr _ _ (u 21) w1 := hf 21 (by decide) (by decide)
  obtain ⟨bx0, bA0, bn0, bc0, bx1, bA1, bn1, bc1, eb⟩ := fb.shape
  rw [eb] at fb
  have kr := k2.below hb1 k2.lt
  clear hf hn1
  refine wpAny_tail (j := 22) (o := Oper.mk (some 27) _ _ _ _ _) rfl (by kernel_rfl) (fun K hK => ?_)
  rw [ea, eb]
  go_simp
  refine hK.out _ _ ?_
  clear hK K
  refine wpAny_store (j := 23) (o := Oper.mk none _ _ _ _ _) rfl (by kernel_rfl) rfl 42 (.tmp 4) (.tmp 27) rfl (w.heap.size + 1 + 1) 0 #[.bool ax0, .slice aA0 an0 ac0, .bool ax1, .slice aA1 an1 ac1, .bool bx0, .slice bA0 bn0 bc0, .bool bx1, .slice bA1 bn1 bc1] rfl rfl #[.bool ax0, .slice aA0 an0 ac0, .bool ax1, .slice aA1 an1 ac1, .bool bx0, .slice bA0 bn0 bc0, .bool bx1, .slice bA1 bn1 bc1] kr (by simp) rfl (by kernel_rfl) (by simp [Value.oneCell']) (fun w2 k9 hg9 hs9 => ?_)
  refine wpAny_end (by kernel_rfl) ?_
  refine NoPanic.normal ?_
  go_wp2_with fail
  refine bodyPost_ret (results_row1 rfl _ _ _ _ _ (by rfl) k9 Tryz.underlying42 rfl (by kernel_rfl)) rfl ?_
  exact ⟨_, rfl, IsCp.make (z := z.mul y) (fa.far kr (by decide) hg9) (fb.far kr (by decide) hg9) (by omega) (by omega), own_set hbw hb1 (by omega) hg9⟩
set_option maxRecDepth 100000 in
set_option maxHeartbeats 4000000 in
theorem cpnorm_any {w : World} {v1 : Value} {z : Cx} {k : Nat} (h0 : IsCp z k v1 w) (hk : k ≤ 100000) :
  Calls Tryz.prog 15 #[v1] w (Ret w (IsFr z.norm (4 * k + 1))) := by
 obtain ⟨x00, A00, n00, c00, x01, A01, n01, c01, x02, A02, n02, c02, x03, A03, n03, c03, rfl, f0R, f0I⟩ := h0
 go_enter Tryz.func15, Tryz.ntmps15
 go_wp2_with fail
 have hbw : Below w.heap.size w ((w.alloc (Obj.cells #[.bool x00, .slice A00 n00 c00, .bool x01, .slice A01 n01 c01, .bool x02, .slice A02 n02 c02, .bool x03, .slice A03 n03 c03] 42)).alloc (Obj.cells #[.bool false, .slice none 0 0, .bool false, .slice none 0 0] 37)) := (((Below.refl _ _).alloc (Nat.le_refl _) _).alloc (by simp <;> omega) _)
 have k0 : Blk ((w.alloc (Obj.cells #[.bool x00, .slice A00 n00 c00, .bool x01, .slice A01 n01 c01, .bool x02, .slice A02 n02 c02, .bool x03, .slice A03 n03 c03] 42)).alloc (Obj.cells #[.bool false, .slice none 0 0, .bool false, .slice none 0 0] 37)) (w.heap.size) 42 #[.bool x00, .slice A00 n00 c00, .bool x01, .slice A01 n01 c01, .bool x02, .slice A02 n02 c02, .bool x03, .slice A03 n03 c03] := (((Blk.new w 42 #[.bool x00, .slice A00 n00 c00, .bool x01, .slice A01 n01 c01, .bool x02, .slice A02 n02 c02, .bool x03, .slice A03 n03 c03]).alloc (Obj.cells #[.bool false, .slice none 0 0, .bool false, .slice none 0 0] 37))).cast (by simp)
 have k1 : Blk ((w.alloc (Obj.cells #[.bool x00, .slice A00 n00 c00, .bool x01, .slice A01 n01 c01, .bool x02, .slice A02 n02 c02, .bool x03, .slice A03 n03 c03] 42)).alloc (Obj.cells #[.bool false, .slice none 0 0, .bool false, .slice none 0 0] 37)) (w.heap.size + 1) 37 #[.bool false, .slice none 0 0, .bool false, .slice none 0 0] := ((Blk.new (w.alloc (Obj.cells #[.bool x00, .slice A00 n00 c00, .bool x01, .slice A01 n01 c01, .bool x02, .slice A02 n02 c02, .bool x03, .slice A03 n03 c03] 42)) 37 #[.bool false, .slice none 0 0, .bool false, .slice none 0 0])).cast (by simp)
 generalize hW : ((w.alloc (Obj.cells #[.bool x00, .slice A00 n00 c00, .bool x01, .slice A01 n01 c01, .bool x02, .slice A02 n02 c02, .bool x03, .slice A03 n03 c03] 42)).alloc (Obj.cells #[.bool false, .slice none 0 0, .bool false, .slice none 0 0] 37)) = W at *
 clear hW
 have f0R := f0R.below hbw
 have f0I := f0I.below hbw
 refine wp_region_noPanic ?_
 refine wp_region_list (mk := ?mk) noV_vgs [Is (ptr w.heap.size), Is (.agg #[(.bool x00), (.slice A00 n00 c00), (.bool x01), (.slice A01 n01 c01)]), Is (ptr w.heap.size), Is (.agg #[(.bool x00), (.slice A00 n00 c00), (.bool x01), (.slice A01 n01 c01)]), IsFr (z.re * z.re) (k + k), Is (.pointer (some ⟨w.heap.size, 4, none⟩)), Is (.agg #[(.bool x02), (.slice A02 n02 c02), (.bool x03), (.slice A03 n03 c03)]), Is (.pointer (some ⟨w.heap.size, 4, none⟩)), Is (.agg #[(.bool x02), (.slice A02 n02 c02), (.bool x03), (.slice A03 n03 c03)]), IsFr (z.im * z.im) (k + k), IsFr ((z.re * z.re) + (z.im * z.im)) (k + k + (k + k) + 1)] [.plain, .plain, .plain, .plain, .plain, .plain, .plain, .plain, .plain, .plain, .plain] 11 1 (fun w' => Blk w' (w.heap.size) 42 #[.bool x00, .slice A00 n00 c00, .bool x01, .slice A01 n01 c01, .bool x02, .slice A02 n02 c02, .bool x03, .slice A03 n03 c03] ∧ IsFr z.re k (.agg #[(.bool x00), (.slice A00 n00 c00), (.bool x01), (.slice A01 n01 c01)]) w' ∧ IsFr z.im k (.agg #[(.bool x02), (.slice A02 n02 c02), (.bool x03), (.slice A03 n03 c03)]) w' ∧ True) ⟨is_steady _ _ _, is_steady _ _ _, is_steady _ _ _, is_steady _ _ _, nov fun _ _ _ h => h.below, is_steady _ _ _, is_steady _ _ _, is_steady _ _ _, is_steady _ _ _, nov fun _ _ _ h => h.below, nov fun _ _ _ h => h.below, trivial⟩ (by kernel_rfl) (by kernel_rfl) (by kernel_rfl) (by kernel_rfl) (by kernel_rfl) (by kernel_rfl) ?hmk (fun w' hB => ⟨k0.below hB k0.lt, f0R.below hB, f0I.below hB, trivial⟩)
  (steps_all (steps_cons ?_ (steps_cons ?_ (steps_cons ?_ (steps_cons ?_ (steps_cons ?_ (steps_cons ?_ (steps_cons ?_ (steps_cons ?_ (steps_cons ?_ (steps_cons ?_ (steps_cons ?_ steps_nil)))))))))))) ?_
 case hmk =>
  intro u
  simp only [mkFrom, mkL, dstOf, List.range, List.range.loop, Act.put, List.setIfInBounds_toArray, List.set_cons_zero, List.set_cons_succ, List.getElem?_toArray, List.getElem?_cons_zero, List.getElem?_cons_succ, Option.bind_some]
  rfl
 ·refine step_is (o := Oper.mk (some 3) _ _ _ _ _) rfl rfl rfl rfl (fun u ws hc hd => ?_)
  go_simp
 ·refine step_is (o := Oper.mk (some 4) _ _ _ _ _) rfl rfl rfl rfl (fun u ws hc hd => ?_)
  obtain ⟨k0, f0R, f0I, _⟩ := hc
  have d0 : u 0 = _ := hd 0 (by kernel_rfl) (by decide)
  exact run_load_part 37 (.tmp 3) rfl (w.heap.size) 0 d0 #[(.bool x00), (.slice A00 n00 c00), (.bool x01), (.slice A01 n01 c01)] _ k0 rfl Tryz.underlying37 rfl (by kernel_rfl)
 ·refine step_is (o := Oper.mk (some 5) _ _ _ _ _) rfl rfl rfl rfl (fun u ws hc hd => ?_)
  go_simp
 ·refine step_is (o := Oper.mk (some 6) _ _ _ _ _) rfl rfl rfl rfl (fun u ws hc hd => ?_)
  obtain ⟨k0, f0R, f0I, _⟩ := hc
  have d2 : u 2 = _ := hd 2 (by kernel_rfl) (by decide)
  exact run_load_part 37 (.tmp 5) rfl (w.heap.size) 0 d2 #[(.bool x00), (.slice A00 n00 c00), (.bool x01), (.slice A01 n01 c01)] _ k0 rfl Tryz.underlying37 rfl (by kernel_rfl)
 ·refine step_call (o := Oper.mk (some 7) _ _ _ _ _) rfl rfl rfl (fun u ws hc hd => ?_)
  obtain ⟨k0, f0R, f0I, _⟩ := hc
  have d1 : u 1 = _ := hd 1 (by kernel_rfl) (by decide)
  have d3 : u 3 = _ := hd 3 (by kernel_rfl) (by decide)
  have HC := Lib.hid (frtimes_any f0R f0R (by omega))
  refine ⟨10, #[(.agg #[(.bool x00), (.slice A00 n00 c00), (.bool x01), (.slice A01 n01 c01)]), (.agg #[(.bool x00), (.slice A00 n00 c00), (.bool x01), (.slice A01 n01 c01)])], ?_, HC.out⟩
  ·clear HC; go_simp
 ·refine step_is (o := Oper.mk (some 8) _ _ _ _ _) rfl rfl rfl rfl (fun u ws hc hd => ?_)
  go_simp
 ·refine step_is (o := Oper.mk (some 9) _ _ _ _ _) rfl rfl rfl rfl (fun u ws hc hd => ?_)
  obtain ⟨k0, f0R, f0I, _⟩ := hc
  have d5 : u 5 = _ := hd 5 (by kernel_rfl) (by decide)
  exact run_load_part 37 (.tmp 8) rfl (w.heap.size) 4 d5 #[(.bool x02), (.slice A02 n02 c02), (.bool x03), (.slice A03 n03 c03)] _ k0 rfl Tryz.underlying37 rfl (by kernel_rfl)
 ·refine step_is (o := Oper.mk (some 10) _ _ _ _ _) rfl rfl rfl rfl (fun u ws hc hd => ?_)
  go_simp
 ·refine step_is (o := Oper.mk (some 11) _ _ _ _ _) rfl rfl rfl rfl (fun u ws hc hd => ?_)
  obtain ⟨k0, f0R, f0I, _⟩ := hc
  have d7 : u 7 = _ := hd 7 (by kernel_rfl) (by decide)
  exact run_load_part 37 (.tmp 10) rfl (w.heap.size) 4 d7 #[(.bool x02), (.slice A02 n02 c02), (.bool x03), (.slice A03 n03 c03)] _ k0 rfl Tryz.underlying37 rfl (by kernel_rfl)
 ·refine step_call (o := Oper.mk (some 12) _ _ _ _ _) rfl rfl rfl (fun u ws hc hd => ?_)
  obtain ⟨k0, f0R, f0I, _⟩ := hc
  have d6 : u 6 = _ := hd 6 (by kernel_rfl) (by decide)
  have d8 : u 8 = _ := hd 8 (by kernel_rfl) (by decide)
  have HC := Lib.hid (frtimes_any f0I f0I (by omega))
  refine ⟨10, #[(.agg #[(.bool x02), (.slice A02 n02 c02), (.bool x03), (.slice A03 n03 c03)]), (.agg #[(.bool x02), (.slice A02 n02 c02), (.bool x03), (.slice A03 n03 c03)])], ?_, HC.out⟩
  ·clear HC; go_simp
 ·refine step_call (o := Oper.mk (some 13) _ _ _ _ _) rfl rfl rfl (fun u ws hc hd => ?_)
  obtain ⟨k0, f0R, f0I, _⟩ := hc
  have HC := Lib.hid (frplus_any (hd 4 (by kernel_rfl) (by decide) : IsFr (z.re * z.re) (k + k) (u 4) ws) (hd 9 (by kernel_rfl) (by decide) : IsFr (z.im * z.im) (k + k) (u 9) ws) (by omega))
  refine ⟨13, #[u 4, u 9], ?_, HC.out⟩
  ·clear HC; go_simp
 ·intro u w1 hb1 hf hn1
  have fa : IsFr _ _ (u 10) w1 := hf 10 (by decide) (by decide)
  obtain ⟨ax0, aA0, an0, ac0, ax1, aA1, an1, ac1, ea⟩ := fa.shape
  rw [ea] at fa
  have kr := k1.below hb1 k1.lt
  clear hf hn1
  refine wpAny_store (j := 11) (o := Oper.mk none _ _ _ _ _) rfl (by kernel_rfl) rfl 37 (.tmp 2) (.tmp 13) rfl (w.heap.size + 1) 0 #[.bool ax0, .slice aA0 an0 ac0, .bool ax1, .slice aA1 an1 ac1] rfl ea #[.bool ax0, .slice aA0 an0 ac0, .bool ax1, .slice aA1 an1 ac1] kr (by simp) rfl (by kernel_rfl) (by simp [Value.oneCell']) (fun w2 k9 hg9 hs9 => ?_)
  refine wpAny_end (by kernel_rfl) ?_
  refine NoPanic.normal ?_
  go_wp2_with fail
  refine bodyPost_ret (results_row1 rfl _ _ _ _ _ (by rfl) k9 Tryz.underlying37 rfl (by kernel_rfl)) rfl ?_
  exact ⟨_, rfl, IsFr.up (fa.far kr (by decide) hg9) (by omega), own_set hbw hb1 (by omega) hg9⟩
set_option maxRecDepth 100000 in
set_option maxHeartbeats 4000000 in
theorem one_any {w : World} : Calls Tryz.prog 48 #[] w (Ret w (IsCp one_ 32)) := by
 have h := (Sw.start w).new 42 #[.bool false, .slice none 0 0, .bool false, .slice none 0 0, .bool false, .slice none 0 0, .bool false, .slice none 0 0]
 go_enter Tryz.func48, Tryz.ntmps48
 go_wp2_with fail
 generalize hW : w.alloc _ = W at h ⊢
 clear hW
 refine int1_one.mono ?_
 rintro _ w1 ⟨v, rfl, f0, hb⟩
 obtain ⟨ax0, aA0, an0, ac0, ax1, aA1, an1, ac1, e0⟩ := f0.shape
 subst e0
 replace h := h.call hb
 clear hb
 go_wp2_with fail
 refine int1_zero.mono ?_
 rintro _ w2 ⟨v, rfl, f1, hb⟩
 obtain ⟨bx0, bA0, bn0, bc0, bx1, bA1, bn1, bc1, e1⟩ := f1.shape
 subst e1
 replace h := (h.call hb).rest ((Stw.fr _ _ _).and (Stw.fr _ _ _)) (And.intro (f0.below hb) f1)
 clear hb f0 f1
 go_wp2_with (refine wpList_store_all (by rfl) 42 (.tmp 0) (.tmp 3) (by rfl) #[.bool ax0, .slice aA0 an0 ac0, .bool ax1, .slice aA1 an1 ac1, .bool bx0, .slice bA0 bn0 bc0, .bool bx1, .slice bA1 bn1 bc1] (by rfl) (by rfl) (h.get 0 rfl) (by simp) (by kernel_rfl) (by simp [Value.oneCell', ptr]) ?_; intro V1 k9 hg9; replace h := h.put 0 rfl (by unfold OwnT; decide) k9 hg9; simp only [List.set_cons_succ, List.set_cons_zero] at h; clear k9 hg9)
 refine bodyPost_ret (results_row1 rfl _ _ _ _ _ (by rfl) (h.get 0 rfl) Tryz.underlying42 rfl (by kernel_rfl)) rfl ?_
 exact ⟨_, rfl, IsCp.make (z := one_) h.fact.1 h.fact.2 (by omega) (by omega), h.bel⟩
set_option maxRecDepth 100000 in
set_option maxHeartbeats 4000000 in
theorem cpsame_any {w : World} {v1 v2 : Value} {z y : Cx} {k j : Nat} (h0 : IsCp z k v1 w) (h1 : IsCp y j v2 w) (hk : k + j ≤ 400000) :
  Calls Tryz.prog 46 #[v1, v2] w (Ret w (Is (.bool (decide (z.re = y.re ∧ z.im = y.im))))) := by
 obtain ⟨x00, A00, n00, c00, x01, A01, n01, c01, x02, A02, n02, c02, x03, A03, n03, c03, rfl, f0R, f0I⟩ := h0
 obtain ⟨x10, A10, n10, c10, x11, A11, n11, c11, x12, A12, n12, c12, x13, A13, n13, c13, rfl, f1R, f1I⟩ := h1
 have h := ((Sw.start w).new 42 #[.bool x00, .slice A00 n00 c00, .bool x01, .slice A01 n01 c01, .bool x02, .slice A02 n02 c02, .bool x03, .slice A03 n03 c03]).new 42 #[.bool x10, .slice A10 n10 c10, .bool x11, .slice A11 n11 c11, .bool x12, .slice A12 n12 c12, .bool x13, .slice A13 n13 c13]
 simp only [size_alloc] at h
 replace h := h.rest ((Stw.fr _ _ _).and ((Stw.fr _ _ _).and ((Stw.fr _ _ _).and (Stw.fr _ _ _)))) (And.intro (f0R.below h.bel) (And.intro (f0I.below h.bel) (And.intro (f1R.below h.bel) (f1I.below h.bel))))
 clear f0R f0I f1R f1I
 go_enter Tryz.func46, Tryz.ntmps46
 go_wp2_with fail
 generalize hW : (w.alloc (Obj.cells #[.bool x00, .slice A00 n00 c00, .bool x01, .slice A01 n01 c01, .bool x02, .slice A02 n02 c02, .bool x03, .slice A03 n03 c03] 42)).alloc (Obj.cells #[.bool x10, .slice A10 n10 c10, .bool x11, .slice A11 n11 c11, .bool x12, .slice A12 n12 c12, .bool x13, .slice A13 n13 c13] 42) = W at h ⊢
 clear hW
 refine (frcmp_any h.fact.1 h.fact.2.2.1 (by omega)).mono ?_
 rintro _ w1 ⟨_, rfl, rfl, hb⟩
 replace h := h.call hb
 clear hb
 obtain ⟨c, hc⟩ : ∃ c, c = cmpR z.re y.re := ⟨_, rfl⟩
 rw [← hc]
 by_cases h0 : c = 0
 ·subst h0
  have H1 := Lib.hid (cmpR_zero.1 (Eq.symm hc))
  clear hc
  have k4_ := (h.get 1 rfl).cell 4
  have k5_ := (h.get 1 rfl).cell 5
  have k6_ := (h.get 1 rfl).cell 6
  have k7_ := (h.get 1 rfl).cell 7
  have m4_ := (h.get 0 rfl).cell 4
  have m5_ := (h.get 0 rfl).cell 5
  have m6_ := (h.get 0 rfl).cell 6
  have m7_ := (h.get 0 rfl).cell 7
  go_wp2_with fail
  clear k4_ k5_ k6_ k7_ m4_ m5_ m6_ m7_
  refine (frcmp_any h.fact.2.1 h.fact.2.2.2 (by omega)).mono ?_
  rintro _ w2 ⟨_, rfl, rfl, hb⟩
  replace h := h.call hb
  clear hb
  obtain ⟨c, hc⟩ : ∃ c, c = cmpR z.im y.im := ⟨_, rfl⟩
  rw [← hc]
  by_cases h0 : c = 0
  ·subst h0
   have H2 := Lib.hid (cmpR_zero.1 (Eq.symm hc))
   clear hc
   go_wp2_with fail
   go_ret
   exact ⟨_, rfl, by rw [decide_eq_true (⟨H1.out, H2.out⟩ : z.re = y.re ∧ z.im = y.im)]; rfl, h.bel⟩
  ·have H2 := Lib.hid (show ¬ z.im = y.im from fun e => h0 (hc.trans (cmpR_zero.2 e)))
   have hne : (c == 0) = false := by simp [h0]
   clear hc
   go_wp2_with fail
   go_ret
   exact ⟨_, rfl, by rw [decide_eq_false (fun e : z.re = y.re ∧ z.im = y.im => H2.out e.2)]; rfl, h.bel⟩
 ·have H1 := Lib.hid (show ¬ z.re = y.re from fun e => h0 (hc.trans (cmpR_zero.2 e)))
  have hne : (c == 0) = false := by simp [h0]
  clear hc
  go_wp2_with fail
  go_ret
  exact ⟨_, rfl, by rw [decide_eq_false (fun e : z.re = y.re ∧ z.im = y.im => H1.out e.1)]; rfl, h.bel⟩
set_option maxRecDepth 100000 in
set_option maxHeartbeats 4000000 in
theorem cpnone_any {w : World} {v1 : Value} {z : Cx} {k : Nat} (h0 : IsCp z k v1 w) (hk : k ≤ 400000) :
  Calls Tryz.prog 47 #[v1] w (Ret w (Is (.bool (decide (z.re = 0 ∧ z.im = 0))))) := by
 obtain ⟨x00, A00, n00, c00, x01, A01, n01, c01, x02, A02, n02, c02, x03, A03, n03, c03, rfl, f0R, f0I⟩ := h0
 have h := (Sw.start w).new 42 #[.bool x00, .slice A00 n00 c00, .bool x01, .slice A01 n01 c01, .bool x02, .slice A02 n02 c02, .bool x03, .slice A03 n03 c03]
 replace h := h.rest ((Stw.fr _ _ _).and (Stw.fr _ _ _)) (And.intro (f0R.below h.bel) (f0I.below h.bel))
 clear f0R f0I
 go_enter Tryz.func47, Tryz.ntmps47
 go_wp2_with fail
 generalize hW : w.alloc (Obj.cells #[.bool x00, .slice A00 n00 c00, .bool x01, .slice A01 n01 c01, .bool x02, .slice A02 n02 c02, .bool x03, .slice A03 n03 c03] 42) = W at h ⊢
 clear hW
 refine (frsign_any h.fact.1 (by omega)).mono ?_
 rintro _ w1 ⟨_, rfl, rfl, hb⟩
 replace h := h.call hb
 clear hb
 obtain ⟨c, hc⟩ : ∃ c, c = cmpR z.re 0 := ⟨_, rfl⟩
 rw [← hc]
 by_cases h0 : c = 0
 ·subst h0
  have H1 := Lib.hid (cmpR_zero.1 (Eq.symm hc))
  clear hc
  have k4_ := (h.get 0 rfl).cell 4
  have k5_ := (h.get 0 rfl).cell 5
  have k6_ := (h.get 0 rfl).cell 6
  have k7_ := (h.get 0 rfl).cell 7
  go_wp2_with fail
  clear k4_ k5_ k6_ k7_
  refine (frsign_any h.fact.2 (by omega)).mono ?_
  rintro _ w2 ⟨_, rfl, rfl, hb⟩
  replace h := h.call hb
  clear hb
  obtain ⟨c, hc⟩ : ∃ c, c = cmpR z.im 0 := ⟨_, rfl⟩
  rw [← hc]
  by_cases h0 : c = 0
  ·subst h0
   have H2 := Lib.hid (cmpR_zero.1 (Eq.symm hc))
   clear hc
   go_wp2_with fail
   go_ret
   exact ⟨_, rfl, by rw [decide_eq_true (⟨H1.out, H2.out⟩ : z.re = 0 ∧ z.im = 0)]; rfl, h.bel⟩
  ·have H2 := Lib.hid (show ¬ z.im = 0 from fun e => h0 (hc.trans (cmpR_zero.2 e)))
   have hne : (c == 0) = false := by simp [h0]
   clear hc
   go_wp2_with fail
   go_ret
   exact ⟨_, rfl, by rw [decide_eq_false (fun e : z.re = 0 ∧ z.im = 0 => H2.out e.2)]; rfl, h.bel⟩
 ·have H1 := Lib.hid (show ¬ z.re = 0 from fun e => h0 (hc.trans (cmpR_zero.2 e)))
  have hne : (c == 0) = false := by simp [h0]
  clear hc
  go_wp2_with fail
  go_ret
  exact ⟨_, rfl, by rw [decide_eq_false (fun e : z.re = 0 ∧ z.im = 0 => H1.out e.1)]; rfl, h.bel⟩
theorem fits_frac {b0 b1 : Bool} {s0 s1 : ByteArray} {z0 z1 : Int} {k : Nat} (h0 : Wv b0 s0 z0) (h1 : Wv b1 s1 z1) (hk0 : s0.size ≤ k) (hk1 : s1.size ≤ k) (hk : k ≤ 1000) (hz : 0 < z1) (hg : Nat.gcd z0.natAbs z1.natAbs = 1) :
  ∃ q, IsFrac q (8 * k) (.agg #[.bool b0, .string s0, .bool b1, .string s1]) := by
 refine ⟨⟨z0, z1.natAbs, by omega, hg⟩, _, _, _, _, rfl, h0, ?_, ⟨?_, ?_⟩, by omega, by omega⟩
 ·show Wv b1 s1 ((z1.natAbs : Nat) : Int)
  rw [Int.natAbs_of_nonneg (by omega)]
  exact h1
 ·rw [Nat.pow_mul]
  exact lt_of_bys (by rw [← h0.len]; exact hk0)
 ·rw [Nat.pow_mul]
  exact lt_of_bys (by rw [← h1.len]; exact hk1)
theorem den_size {b : Bool} {s : ByteArray} {z : Int} (h : Wv b s z) (hb : b = false) (hs : 0 < s.size) : 0 < z := by
 have h1 := h.neg
 rw [hb] at h1
 have h2 : ¬ z < 0 := fun e => by rw [decide_eq_true e] at h1; cases h1
 rcases Int.lt_or_eq_of_le (Int.not_lt.1 h2) with h3 | h3
 ·exact h3
 ·have := h.len
  rw [← h3] at this
  rw [Int.natAbs_zero, bys_zero, List.length_nil] at this
  omega
set_option maxRecDepth 100000 in
set_option maxHeartbeats 4000000 in
theorem fits_any {w : World} {b0 b1 : Bool} {s0 s1 : ByteArray} {k : Nat} (hk : k ≤ 1000) :
  Calls Tryz.prog 21 #[.agg #[.bool b0, .string s0, .bool b1, .string s1], .int .i64 (k : Int)] w (RetQ w (∃ q, IsFrac q (8 * k) (.agg #[.bool b0, .string s0, .bool b1, .string s1]))) := by
 have h := (Sw.start w).new 25 #[.bool b0, .string s0, .bool b1, .string s1]
 have Hk := Lib.hid hk
 go_enter Tryz.func21, Tryz.ntmps21
 go_wp2_with fail
 generalize hW : w.alloc _ = W at h ⊢
 clear hW
 refine (even_any (by omega)).mono ?_
 rintro _ w1 ⟨r, rfl, hr, hb⟩
 replace h := h.call hb
 have HA := Lib.hid hr
 clear hb hr
 cases r
 ·go_wp2_with fail
  go_ret
  exact ⟨false, rfl, fun e => (by cases e), h.bel⟩
 ·have k2_ := (h.get 0 rfl).cell 2
  have k3_ := (h.get 0 rfl).cell 3
  go_wp2_with fail
  clear k2_ k3_
  refine (even_any (by omega)).mono ?_
  rintro _ w2 ⟨r, rfl, hr, hb⟩
  replace h := h.call hb
  have HB := Lib.hid hr
  clear hb hr
  cases r
  ·go_wp2_with fail
   go_ret
   exact ⟨false, rfl, fun e => (by cases e), h.bel⟩
  ·have k0_ := (h.get 0 rfl).cell 0
   have k1_ := (h.get 0 rfl).cell 1
   have k2_ := (h.get 0 rfl).cell 2
   have k3_ := (h.get 0 rfl).cell 3
   by_cases h0 : 0 < s1.size
   ·have h1 : (0 : Int) < (s1.size : Int) := by omega
    have H0 := Lib.hid h0
    clear h0
    cases b1
    ·obtain ⟨hz0, z0, hv0⟩ := HA.out (by simp)
     obtain ⟨hz1, z1, hv1⟩ := HB.out (by simp)
     have hzp := den_size hv1 rfl H0.out
     have HC := Lib.hid (fun W => coprime_any (w := W) hv0 hv1 hz0 hz1 Hk.out hzp)
     have HF := Lib.hid (fits_frac hv0 hv1 hz0 hz1 Hk.out hzp)
     clear hz0 hv0 hz1 hv1 hzp HA HB
     go_wp2_with fail
     refine (HC.out _).mono ?_
     rintro _ w3 ⟨r, rfl, hr, hb⟩
     replace h := h.call hb
     have HR := Lib.hid hr
     clear hb hr HC
     cases r
     ·go_wp2_with fail
      go_ret
      exact ⟨false, rfl, fun e => (by cases e), h.bel⟩
     ·go_wp2_with fail
      go_ret
      exact ⟨true, rfl, fun _ => HF.out (HR.out (by simp)), h.bel⟩
    ·go_wp2_with fail
     go_ret
     exact ⟨false, rfl, fun e => (by cases e), h.bel⟩
   ·have h1 : ¬ (0 : Int) < (s1.size : Int) := by omega
    clear h0
    go_wp2_with fail
    go_ret
    exact ⟨false, rfl, fun e => (by cases e), h.bel⟩
theorem gauss_two {b0 b1 b2 b3 : Bool} {s0 s1 s2 s3 : ByteArray} {n : Nat} (h0 : ∃ q, IsFrac q n (.agg #[.bool b0, .string s0, .bool b1, .string s1])) (h1 : ∃ q, IsFrac q n (.agg #[.bool b2, .string s2, .bool b3, .string s3])) : ∃ z, IsGauss z n (.agg #[.bool b0, .string s0, .bool b1, .string s1, .bool b2, .string s2, .bool b3, .string s3]) := by
 obtain ⟨p, x0, t0, x1, t1, e, h0⟩ := h0
 obtain ⟨q, x2, t2, x3, t3, e', h1⟩ := h1
 simp only [Value.agg.injEq, Array.mk.injEq, List.cons.injEq, Value.bool.injEq, Value.string.injEq, and_true] at e e'
 obtain ⟨rfl, rfl, rfl, rfl⟩ := e
 obtain ⟨rfl, rfl, rfl, rfl⟩ := e'
 exact ⟨⟨p, q⟩, _, _, _, _, _, _, _, _, rfl, h0, h1⟩
theorem IsGauss.fv {b0 b1 b2 b3 : Bool} {s0 s1 s2 s3 : ByteArray} {n : Nat} {z : Cx} (h : IsGauss z n (.agg #[.bool b0, .string s0, .bool b1, .string s1, .bool b2, .string s2, .bool b3, .string s3])) : Fv b0 s0 b1 s1 z.re n ∧ Fv b2 s2 b3 s3 z.im n := by
 obtain ⟨x0, t0, x1, t1, x2, t2, x3, t3, e, h0, h1⟩ := h
 simp only [Value.agg.injEq, Array.mk.injEq, List.cons.injEq, Value.bool.injEq, Value.string.injEq, and_true] at e
 obtain ⟨rfl, rfl, rfl, rfl, rfl, rfl, rfl, rfl⟩ := e
 exact ⟨h0, h1⟩
set_option maxRecDepth 100000 in
set_option maxHeartbeats 4000000 in
theorem plain_any {w : World} {b0 b1 b2 b3 : Bool} {s0 s1 s2 s3 : ByteArray} {k : Nat} (hk : k ≤ 1000) :
  Calls Tryz.prog 4 #[.agg #[.bool b0, .string s0, .bool b1, .string s1, .bool b2, .string s2, .bool b3, .string s3], .int .i64 (k : Int)] w (RetQ w (∃ z, IsGauss z (8 * k) (.agg #[.bool b0, .string s0, .bool b1, .string s1, .bool b2, .string s2, .bool b3, .string s3]))) := by
 have h := (Sw.start w).new 27 #[.bool b0, .string s0, .bool b1, .string s1, .bool b2, .string s2, .bool b3, .string s3]
 have Hk := Lib.hid hk
 go_enter Tryz.func4, Tryz.ntmps4
 go_wp2_with fail
 generalize hW : w.alloc _ = W at h ⊢
 clear hW
 refine (fits_any Hk.out).mono ?_
 rintro _ w1 ⟨r, rfl, hr, hb⟩
 replace h := h.call hb
 have HA := Lib.hid hr
 clear hb hr
 cases r
 ·go_wp2_with fail
  go_ret
  exact ⟨false, rfl, fun e => (by cases e), h.bel⟩
 ·have k4_ := (h.get 0 rfl).cell 4
  have k5_ := (h.get 0 rfl).cell 5
  have k6_ := (h.get 0 rfl).cell 6
  have k7_ := (h.get 0 rfl).cell 7
  go_wp2_with fail
  clear k4_ k5_ k6_ k7_
  refine (fits_any Hk.out).mono ?_
  rintro _ w2 ⟨r, rfl, hr, hb⟩
  replace h := h.call hb
  have HB := Lib.hid hr
  clear hb hr
  cases r
  ·go_wp2_with fail
   go_ret
   exact ⟨false, rfl, fun e => (by cases e), h.bel⟩
  ·go_wp2_with fail
   go_ret
   exact ⟨true, rfl, fun _ => gauss_two (HA.out (by simp)) (HB.out (by simp)), h.bel⟩
def IsRaw (z0 z1 z2 z3 : Cx) (tn : Bool) (v : Value) (w : World) : Prop := ∃ ax0 aA0 an0 ac0 ax1 aA1 an1 ac1 ax2 aA2 an2 ac2 ax3 aA3 an3 ac3 bx0 bA0 bn0 bc0 bx1 bA1 bn1 bc1 bx2 bA2 bn2 bc2 bx3 bA3 bn3 bc3 cx0 cA0 cn0 cc0 cx1 cA1 cn1 cc1 cx2 cA2 cn2 cc2 cx3 cA3 cn3 cc3 dx0 dA0 dn0 dc0 dx1 dA1 dn1 dc1 dx2 dA2 dn2 dc2 dx3 dA3 dn3 dc3, v = .agg #[.bool ax0, .slice aA0 an0 ac0, .bool ax1, .slice aA1 an1 ac1, .bool ax2, .slice aA2 an2 ac2, .bool ax3, .slice aA3 an3 ac3, .bool bx0, .slice bA0 bn0 bc0, .bool bx1, .slice bA1 bn1 bc1, .bool bx2, .slice bA2 bn2 bc2, .bool bx3, .slice bA3 bn3 bc3, .bool cx0, .slice cA0 cn0 cc0, .bool cx1, .slice cA1 cn1 cc1, .bool cx2, .slice cA2 cn2 cc2, .bool cx3, .slice cA3 cn3 cc3, .bool dx0, .slice dA0 dn0 dc0, .bool dx1, .slice dA1 dn1 dc1, .bool dx2, .slice dA2 dn2 dc2, .bool dx3, .slice dA3 dn3 dc3, .bool tn] ∧ IsCp z0 8192 (.agg #[.bool ax0, .slice aA0 an0 ac0, .bool ax1, .slice aA1 an1 ac1, .bool ax2, .slice aA2 an2 ac2, .bool ax3, .slice aA3 an3 ac3]) w ∧ IsCp z1 8192 (.agg #[.bool bx0, .slice bA0 bn0 bc0, .bool bx1, .slice bA1 bn1 bc1, .bool bx2, .slice bA2 bn2 bc2, .bool bx3, .slice bA3 bn3 bc3]) w ∧ IsCp z2 8192 (.agg #[.bool cx0, .slice cA0 cn0 cc0, .bool cx1, .slice cA1 cn1 cc1, .bool cx2, .slice cA2 cn2 cc2, .bool cx3, .slice cA3 cn3 cc3]) w ∧ IsCp z3 8192 (.agg #[.bool dx0, .slice dA0 dn0 dc0, .bool dx1, .slice dA1 dn1 dc1, .bool dx2, .slice dA2 dn2 dc2, .bool dx3, .slice dA3 dn3 dc3]) w
set_option maxRecDepth 100000 in
set_option maxHeartbeats 8000000 in
theorem raw_any {w : World} {b0 b1 b2 b3 b4 b5 b6 b7 b8 b9 b10 b11 b12 b13 b14 b15 tn : Bool} {s0 s1 s2 s3 s4 s5 s6 s7 s8 s9 s10 s11 s12 s13 s14 s15 : ByteArray} {z0 z1 z2 z3 : Cx} {n : Nat} (g0 : IsGauss z0 n (.agg #[.bool b0, .string s0, .bool b1, .string s1, .bool b2, .string s2, .bool b3, .string s3])) (g1 : IsGauss z1 n (.agg #[.bool b4, .string s4, .bool b5, .string s5, .bool b6, .string s6, .bool b7, .string s7])) (g2 : IsGauss z2 n (.agg #[.bool b8, .string s8, .bool b9, .string s9, .bool b10, .string s10, .bool b11, .string s11])) (g3 : IsGauss z3 n (.agg #[.bool b12, .string s12, .bool b13, .string s13, .bool b14, .string s14, .bool b15, .string s15])) :
  Calls Tryz.prog 44 #[.agg #[.bool b0, .string s0, .bool b1, .string s1, .bool b2, .string s2, .bool b3, .string s3, .bool b4, .string s4, .bool b5, .string s5, .bool b6, .string s6, .bool b7, .string s7, .bool b8, .string s8, .bool b9, .string s9, .bool b10, .string s10, .bool b11, .string s11, .bool b12, .string s12, .bool b13, .string s13, .bool b14, .string s14, .bool b15, .string s15, .bool tn]] w (Ret w (IsRaw z0 z1 z2 z3 tn)) := by
 go_enter Tryz.func44, Tryz.ntmps44
 go_wp2_with fail
 have hbw : Below w.heap.size w ((w.alloc (Obj.cells #[.bool b0, .string s0, .bool b1, .string s1, .bool b2, .string s2, .bool b3, .string s3, .bool b4, .string s4, .bool b5, .string s5, .bool b6, .string s6, .bool b7, .string s7, .bool b8, .string s8, .bool b9, .string s9, .bool b10, .string s10, .bool b11, .string s11, .bool b12, .string s12, .bool b13, .string s13, .bool b14, .string s14, .bool b15, .string s15, .bool tn] 29)).alloc (Obj.cells #[.bool false, .slice none 0 0, .bool false, .slice none 0 0, .bool false, .slice none 0 0, .bool false, .slice none 0 0, .bool false, .slice none 0 0, .bool false, .slice none 0 0, .bool false, .slice none 0 0, .bool false, .slice none 0 0, .bool false, .slice none 0 0, .bool false, .slice none 0 0, .bool false, .slice none 0 0, .bool false, .slice none 0 0, .bool false, .slice none 0 0, .bool false, .slice none 0 0, .bool false, .slice none 0 0, .bool false, .slice none 0 0, .bool false] 103)) := (((Below.refl _ _).alloc (Nat.le_refl _) _).alloc (by simp <;> omega) _)
 have k0 : Blk ((w.alloc (Obj.cells #[.bool b0, .string s0, .bool b1, .string s1, .bool b2, .string s2, .bool b3, .string s3, .bool b4, .string s4, .bool b5, .string s5, .bool b6, .string s6, .bool b7, .string s7, .bool b8, .string s8, .bool b9, .string s9, .bool b10, .string s10, .bool b11, .string s11, .bool b12, .string s12, .bool b13, .string s13, .bool b14, .string s14, .bool b15, .string s15, .bool tn] 29)).alloc (Obj.cells #[.bool false, .slice none 0 0, .bool false, .slice none 0 0, .bool false, .slice none 0 0, .bool false, .slice none 0 0, .bool false, .slice none 0 0, .bool false, .slice none 0 0, .bool false, .slice none 0 0, .bool false, .slice none 0 0, .bool false, .slice none 0 0, .bool false, .slice none 0 0, .bool false, .slice none 0 0, .bool false, .slice none 0 0, .bool false, .slice none 0 0, .bool false, .slice none 0 0, .bool false, .slice none 0 0, .bool false, .slice none 0 0, .bool false] 103)) (w.heap.size) 29 #[.bool b0, .string s0, .bool b1, .string s1, .bool b2, .string s2, .bool b3, .string s3, .bool b4, .string s4, .bool b5, .string s5, .bool b6, .string s6, .bool b7, .string s7, .bool b8, .string s8, .bool b9, .string s9, .bool b10, .string s10, .bool b11, .string s11, .bool b12, .string s12, .bool b13, .string s13, .bool b14, .string s14, .bool b15, .string s15, .bool tn] := (((Blk.new w 29 #[.bool b0, .string s0, .bool b1, .string s1, .bool b2, .string s2, .bool b3, .string s3, .bool b4, .string s4, .bool b5, .string s5, .bool b6, .string s6, .bool b7, .string s7, .bool b8, .string s8, .bool b9, .string s9, .bool b10, .string s10, .bool b11, .string s11, .bool b12, .string s12, .bool b13, .string s13, .bool b14, .string s14, .bool b15, .string s15, .bool tn]).alloc (Obj.cells #[.bool false, .slice none 0 0, .bool false, .slice none 0 0, .bool false, .slice none 0 0, .bool false, .slice none 0 0, .bool false, .slice none 0 0, .bool false, .slice none 0 0, .bool false, .slice none 0 0, .bool false, .slice none 0 0, .bool false, .slice none 0 0, .bool false, .slice none 0 0, .bool false, .slice none 0 0, .bool false, .slice none 0 0, .bool false, .slice none 0 0, .bool false, .slice none 0 0, .bool false, .slice none 0 0, .bool false, .slice none 0 0, .bool false] 103))).cast (by simp)
 have k1 : Blk ((w.alloc (Obj.cells #[.bool b0, .string s0, .bool b1, .string s1, .bool b2, .string s2, .bool b3, .string s3, .bool b4, .string s4, .bool b5, .string s5, .bool b6, .string s6, .bool b7, .string s7, .bool b8, .string s8, .bool b9, .string s9, .bool b10, .string s10, .bool b11, .string s11, .bool b12, .string s12, .bool b13, .string s13, .bool b14, .string s14, .bool b15, .string s15, .bool tn] 29)).alloc (Obj.cells #[.bool false, .slice none 0 0, .bool false, .slice none 0 0, .bool false, .slice none 0 0, .bool false, .slice none 0 0, .bool false, .slice none 0 0, .bool false, .slice none 0 0, .bool false, .slice none 0 0, .bool false, .slice none 0 0, .bool false, .slice none 0 0, .bool false, .slice none 0 0, .bool false, .slice none 0 0, .bool false, .slice none 0 0, .bool false, .slice none 0 0, .bool false, .slice none 0 0, .bool false, .slice none 0 0, .bool false, .slice none 0 0, .bool false] 103)) (w.heap.size + 1) 103 #[.bool false, .slice none 0 0, .bool false, .slice none 0 0, .bool false, .slice none 0 0, .bool false, .slice none 0 0, .bool false, .slice none 0 0, .bool false, .slice none 0 0, .bool false, .slice none 0 0, .bool false, .slice none 0 0, .bool false, .slice none 0 0, .bool false, .slice none 0 0, .bool false, .slice none 0 0, .bool false, .slice none 0 0, .bool false, .slice none 0 0, .bool false, .slice none 0 0, .bool false, .slice none 0 0, .bool false, .slice none 0 0, .bool false] := ((Blk.new (w.alloc (Obj.cells #[.bool b0, .string s0, .bool b1, .string s1, .bool b2, .string s2, .bool b3, .string s3, .bool b4, .string s4, .bool b5, .string s5, .bool b6, .string s6, .bool b7, .string s7, .bool b8, .string s8, .bool b9, .string s9, .bool b10, .string s10, .bool b11, .string s11, .bool b12, .string s12, .bool b13, .string s13, .bool b14, .string s14, .bool b15, .string s15, .bool tn] 29)) 103 #[.bool false, .slice none 0 0, .bool false, .slice none 0 0, .bool false, .slice none 0 0, .bool false, .slice none 0 0, .bool false, .slice none 0 0, .bool false, .slice none 0 0, .bool false, .slice none 0 0, .bool false, .slice none 0 0, .bool false, .slice none 0 0, .bool false, .slice none 0 0, .bool false, .slice none 0 0, .bool false, .slice none 0 0, .bool false, .slice none 0 0, .bool false, .slice none 0 0, .bool false, .slice none 0 0, .bool false, .slice none 0 0, .bool false])).cast (by simp)
 generalize hW : ((w.alloc (Obj.cells #[.bool b0, .string s0, .bool b1, .string s1, .bool b2, .string s2, .bool b3, .string s3, .bool b4, .string s4, .bool b5, .string s5, .bool b6, .string s6, .bool b7, .string s7, .bool b8, .string s8, .bool b9, .string s9, .bool b10, .string s10, .bool b11, .string s11, .bool b12, .string s12, .bool b13, .string s13, .bool b14, .string s14, .bool b15, .string s15, .bool tn] 29)).alloc (Obj.cells #[.bool false, .slice none 0 0, .bool false, .slice none 0 0, .bool false, .slice none 0 0, .bool false, .slice none 0 0, .bool false, .slice none 0 0, .bool false, .slice none 0 0, .bool false, .slice none 0 0, .bool false, .slice none 0 0, .bool false, .slice none 0 0, .bool false, .slice none 0 0, .bool false, .slice none 0 0, .bool false, .slice none 0 0, .bool false, .slice none 0 0, .bool false, .slice none 0 0, .bool false, .slice none 0 0, .bool false, .slice none 0 0, .bool false] 103)) = W at *
 clear hW
 refine wp_region_noPanic ?_
 refine wp_region_list (mk := ?mk) noV_vgs [Is (ptr w.heap.size), Is (.agg #[(.bool b0), (.string s0), (.bool b1), (.string s1), (.bool b2), (.string s2), (.bool b3), (.string s3)]), IsCp z0 8192, Is (.pointer (some ⟨w.heap.size, 8, none⟩)), Is (.agg #[(.bool b4), (.string s4), (.bool b5), (.string s5), (.bool b6), (.string s6), (.bool b7), (.string s7)]), IsCp z1 8192, Is (.pointer (some ⟨w.heap.size, 16, none⟩)), Is (.agg #[(.bool b8), (.string s8), (.bool b9), (.string s9), (.bool b10), (.string s10), (.bool b11), (.string s11)]), IsCp z2 8192, Is (.pointer (some ⟨w.heap.size, 24, none⟩)), Is (.agg #[(.bool b12), (.string s12), (.bool b13), (.string s13), (.bool b14), (.string s14), (.bool b15), (.string s15)]), IsCp z3 8192, Is (.pointer (some ⟨w.heap.size, 32, none⟩)), Is (.bool tn)] [.plain, .plain, .plain, .plain, .plain, .plain, .plain, .plain, .plain, .plain, .plain, .plain, .plain, .plain] 14 2 (fun w' => Blk w' (w.heap.size) 29 #[.bool b0, .string s0, .bool b1, .string s1, .bool b2, .string s2, .bool b3, .string s3, .bool b4, .string s4, .bool b5, .string s5, .bool b6, .string s6, .bool b7, .string s7, .bool b8, .string s8, .bool b9, .string s9, .bool b10, .string s10, .bool b11, .string s11, .bool b12, .string s12, .bool b13, .string s13, .bool b14, .string s14, .bool b15, .string s15, .bool tn] ∧ True) ⟨is_steady _ _ _, is_steady _ _ _, nov fun _ _ _ h => h.below, is_steady _ _ _, is_steady _ _ _, nov fun _ _ _ h => h.below, is_steady _ _ _, is_steady _ _ _, nov fun _ _ _ h => h.below, is_steady _ _ _, is_steady _ _ _, nov fun _ _ _ h => h.below, is_steady _ _ _, is_steady _ _ _, trivial⟩ (by kernel_rfl) (by kernel_rfl) (by kernel_rfl) (by kernel_rfl) (by kernel_rfl) (by kernel_rfl) ?hmk (fun w' hB => ⟨k0.below hB k0.lt, trivial⟩)
  (steps_all (steps_cons ?_ (steps_cons ?_ (steps_cons ?_ (steps_cons ?_ (steps_cons ?_ (steps_cons ?_ (steps_cons ?_ (steps_cons ?_ (steps_cons ?_ (steps_cons ?_ (steps_cons ?_ (steps_cons ?_ (steps_cons ?_ (steps_cons ?_ steps_nil))))))))))))))) ?_
 case hmk =>
  intro u
  simp only [mkFrom, mkL, dstOf, List.range, List.range.loop, Act.put, List.setIfInBounds_toArray, List.set_cons_zero, List.set_cons_succ, List.getElem?_toArray, List.getElem?_cons_zero, List.getElem?_cons_succ, Option.bind_some]
  rfl
 ·refine step_is (o := Oper.mk (some 3) _ _ _ _ _) rfl rfl rfl rfl (fun u ws hc hd => ?_)
  go_simp
 ·refine step_is (o := Oper.mk (some 4) _ _ _ _ _) rfl rfl rfl rfl (fun u ws hc hd => ?_)
  obtain ⟨k0, _⟩ := hc
  have d0 : u 0 = _ := hd 0 (by kernel_rfl) (by decide)
  exact run_load_part 27 (.tmp 3) rfl (w.heap.size) 0 d0 #[(.bool b0), (.string s0), (.bool b1), (.string s1), (.bool b2), (.string s2), (.bool b3), (.string s3)] _ k0 rfl Tryz.underlying27 rfl (by kernel_rfl)
 ·refine step_call (o := Oper.mk (some 5) _ _ _ _ _) rfl rfl rfl (fun u ws hc hd => ?_)
  obtain ⟨k0, _⟩ := hc
  have d1 : u 1 = _ := hd 1 (by kernel_rfl) (by decide)
  have HC := Lib.hid (number_c (w := ws) g0)
  refine ⟨8, #[(.agg #[(.bool b0), (.string s0), (.bool b1), (.string s1), (.bool b2), (.string s2), (.bool b3), (.string s3)])], ?_, HC.out⟩
  ·clear HC; go_simp
 ·refine step_is (o := Oper.mk (some 6) _ _ _ _ _) rfl rfl rfl rfl (fun u ws hc hd => ?_)
  go_simp
 ·refine step_is (o := Oper.mk (some 7) _ _ _ _ _) rfl rfl rfl rfl (fun u ws hc hd => ?_)
  obtain ⟨k0, _⟩ := hc
  have d3 : u 3 = _ := hd 3 (by kernel_rfl) (by decide)
  exact run_load_part 27 (.tmp 6) rfl (w.heap.size) 8 d3 #[(.bool b4), (.string s4), (.bool b5), (.string s5), (.bool b6), (.string s6), (.bool b7), (.string s7)] _ k0 rfl Tryz.underlying27 rfl (by kernel_rfl)
 ·refine step_call (o := Oper.mk (some 8) _ _ _ _ _) rfl rfl rfl (fun u ws hc hd => ?_)
  obtain ⟨k0, _⟩ := hc
  have d4 : u 4 = _ := hd 4 (by kernel_rfl) (by decide)
  have HC := Lib.hid (number_c (w := ws) g1)
  refine ⟨8, #[(.agg #[(.bool b4), (.string s4), (.bool b5), (.string s5), (.bool b6), (.string s6), (.bool b7), (.string s7)])], ?_, HC.out⟩
  ·clear HC; go_simp
 ·refine step_is (o := Oper.mk (some 9) _ _ _ _ _) rfl rfl rfl rfl (fun u ws hc hd => ?_)
  go_simp
 ·refine step_is (o := Oper.mk (some 10) _ _ _ _ _) rfl rfl rfl rfl (fun u ws hc hd => ?_)
  obtain ⟨k0, _⟩ := hc
  have d6 : u 6 = _ := hd 6 (by kernel_rfl) (by decide)
  exact run_load_part 27 (.tmp 9) rfl (w.heap.size) 16 d6 #[(.bool b8), (.string s8), (.bool b9), (.string s9), (.bool b10), (.string s10), (.bool b11), (.string s11)] _ k0 rfl Tryz.underlying27 rfl (by kernel_rfl)
 ·refine step_call (o := Oper.mk (some 11) _ _ _ _ _) rfl rfl rfl (fun u ws hc hd => ?_)
  obtain ⟨k0, _⟩ := hc
  have d7 : u 7 = _ := hd 7 (by kernel_rfl) (by decide)
  have HC := Lib.hid (number_c (w := ws) g2)
  refine ⟨8, #[(.agg #[(.bool b8), (.string s8), (.bool b9), (.string s9), (.bool b10), (.string s10), (.bool b11), (.string s11)])], ?_, HC.out⟩
  ·clear HC; go_simp
 ·refine step_is (o := Oper.mk (some 12) _ _ _ _ _) rfl rfl rfl rfl (fun u ws hc hd => ?_)
  go_simp
 ·refine step_is (o := Oper.mk (some 13) _ _ _ _ _) rfl rfl rfl rfl (fun u ws hc hd => ?_)
  obtain ⟨k0, _⟩ := hc
  have d9 : u 9 = _ := hd 9 (by kernel_rfl) (by decide)
  exact run_load_part 27 (.tmp 12) rfl (w.heap.size) 24 d9 #[(.bool b12), (.string s12), (.bool b13), (.string s13), (.bool b14), (.string s14), (.bool b15), (.string s15)] _ k0 rfl Tryz.underlying27 rfl (by kernel_rfl)
 ·refine step_call (o := Oper.mk (some 14) _ _ _ _ _) rfl rfl rfl (fun u ws hc hd => ?_)
  obtain ⟨k0, _⟩ := hc
  have d10 : u 10 = _ := hd 10 (by kernel_rfl) (by decide)
  have HC := Lib.hid (number_c (w := ws) g3)
  refine ⟨8, #[(.agg #[(.bool b12), (.string s12), (.bool b13), (.string s13), (.bool b14), (.string s14), (.bool b15), (.string s15)])], ?_, HC.out⟩
  ·clear HC; go_simp
 ·refine step_is (o := Oper.mk (some 15) _ _ _ _ _) rfl rfl rfl rfl (fun u ws hc hd => ?_)
  go_simp
 ·refine step_is (o := Oper.mk (some 16) _ _ _ _ _) rfl rfl rfl rfl (fun u ws hc hd => ?_)
  obtain ⟨k0, _⟩ := hc
  have c1 : ws.cell? ⟨w.heap.size, 32, none⟩ = some (.bool tn) := by rw [k0.cell]; rfl
  have d12 : u 12 = _ := hd 12 (by kernel_rfl) (by decide)
  go_simp
 ·intro u w1 hb1 hf hn1
  have fa : IsCp _ _ (u 2) w1 := hf 2 (by decide) (by decide)
  obtain ⟨ax0, aA0, an0, ac0, ax1, aA1, an1, ac1, ax2, aA2, an2, ac2, ax3, aA3, an3, ac3, ea⟩ := fa.shape
  rw [ea] at fa
  have fb : IsCp _ _ (u 5) w1 := hf 5 (by decide) (by decide)
  obtain ⟨bx0, bA0, bn0, bc0, bx1, bA1, bn1, bc1, bx2, bA2, bn2, bc2, bx3, bA3, bn3, bc3, eb⟩ := fb.shape
  rw [eb] at fb
  have fc : IsCp _ _ (u 8) w1 := hf 8 (by decide) (by decide)
  obtain ⟨cx0, cA0, cn0, cc0, cx1, cA1, cn1, cc1, cx2, cA2, cn2, cc2, cx3, cA3, cn3, cc3, ec⟩ := fc.shape
  rw [ec] at fc
  have fd : IsCp _ _ (u 11) w1 := hf 11 (by decide) (by decide)
  obtain ⟨dx0, dA0, dn0, dc0, dx1, dA1, dn1, dc1, dx2, dA2, dn2, dc2, dx3, dA3, dn3, dc3, ed⟩ := fd.shape
  rw [ed] at fd
  have f13 : u 13 = _ := hf 13 (by decide) (by decide)
  have kr := k1.below hb1 k1.lt
  clear hf hn1
  refine wpAny_tail (j := 14) (o := Oper.mk (some 17) _ _ _ _ _) rfl (by kernel_rfl) (fun K hK => ?_)
  rw [ea, eb, ec, ed, f13]
  go_simp
  refine hK.out _ _ ?_
  clear hK K
  refine wpAny_store (j := 15) (o := Oper.mk none _ _ _ _ _) rfl (by kernel_rfl) rfl 103 (.tmp 2) (.tmp 17) rfl (w.heap.size + 1) 0 #[.bool ax0, .slice aA0 an0 ac0, .bool ax1, .slice aA1 an1 ac1, .bool ax2, .slice aA2 an2 ac2, .bool ax3, .slice aA3 an3 ac3, .bool bx0, .slice bA0 bn0 bc0, .bool bx1, .slice bA1 bn1 bc1, .bool bx2, .slice bA2 bn2 bc2, .bool bx3, .slice bA3 bn3 bc3, .bool cx0, .slice cA0 cn0 cc0, .bool cx1, .slice cA1 cn1 cc1, .bool cx2, .slice cA2 cn2 cc2, .bool cx3, .slice cA3 cn3 cc3, .bool dx0, .slice dA0 dn0 dc0, .bool dx1, .slice dA1 dn1 dc1, .bool dx2, .slice dA2 dn2 dc2, .bool dx3, .slice dA3 dn3 dc3, .bool tn] rfl rfl #[.bool ax0, .slice aA0 an0 ac0, .bool ax1, .slice aA1 an1 ac1, .bool ax2, .slice aA2 an2 ac2, .bool ax3, .slice aA3 an3 ac3, .bool bx0, .slice bA0 bn0 bc0, .bool bx1, .slice bA1 bn1 bc1, .bool bx2, .slice bA2 bn2 bc2, .bool bx3, .slice bA3 bn3 bc3, .bool cx0, .slice cA0 cn0 cc0, .bool cx1, .slice cA1 cn1 cc1, .bool cx2, .slice cA2 cn2 cc2, .bool cx3, .slice cA3 cn3 cc3, .bool dx0, .slice dA0 dn0 dc0, .bool dx1, .slice dA1 dn1 dc1, .bool dx2, .slice dA2 dn2 dc2, .bool dx3, .slice dA3 dn3 dc3, .bool tn] kr (by simp) rfl (by kernel_rfl) (by simp [Value.oneCell']) (fun w2 k9 hg9 hs9 => ?_)
  refine wpAny_end (by kernel_rfl) ?_
  refine NoPanic.normal ?_
  go_wp2_with fail
  refine bodyPost_ret (results_row1 rfl _ _ _ _ _ (by rfl) k9 Tryz.underlying103 rfl (by kernel_rfl)) rfl ?_
  exact ⟨_, rfl, ⟨ax0, aA0, an0, ac0, ax1, aA1, an1, ac1, ax2, aA2, an2, ac2, ax3, aA3, an3, ac3, bx0, bA0, bn0, bc0, bx1, bA1, bn1, bc1, bx2, bA2, bn2, bc2, bx3, bA3, bn3, bc3, cx0, cA0, cn0, cc0, cx1, cA1, cn1, cc1, cx2, cA2, cn2, cc2, cx3, cA3, cn3, cc3, dx0, dA0, dn0, dc0, dx1, dA1, dn1, dc1, dx2, dA2, dn2, dc2, dx3, dA3, dn3, dc3, rfl, fa.far kr (by decide) hg9, fb.far kr (by decide) hg9, fc.far kr (by decide) hg9, fd.far kr (by decide) hg9⟩, own_set hbw hb1 (by omega) hg9⟩
theorem cx_ext {z y : Cx} (h : z.re = y.re ∧ z.im = y.im) : z = y := by
 cases z
 cases y
 simp only at h
 rw [h.1, h.2]
theorem det_ne {z0 z1 z2 z3 : Cx} {tn : Bool} (h : ¬ ((z0.mul z3).re = (z1.mul z2).re ∧ (z0.mul z3).im = (z1.mul z2).im)) : ¬ (Mx.det ⟨z0, z1, z2, z3, tn⟩).Zero := fun e => h ⟨by
 have := e.1
 simp only [Mx.det, Cx.sub] at this
 grind, by
 have := e.2
 simp only [Mx.det, Cx.sub] at this
 grind⟩
def Mobs (n : Nat) (v : Value) : Prop := ∃ m : Mx, IsMob m n v ∧ ¬ m.det.Zero ∧ m.Formed
theorem may_map {b0 b1 b2 b3 b4 b5 b6 b7 b8 b9 b10 b11 b12 b13 b14 b15 tn : Bool} {s0 s1 s2 s3 s4 s5 s6 s7 s8 s9 s10 s11 s12 s13 s14 s15 : ByteArray} {z0 z1 z2 z3 : Cx} {n : Nat} (h : IsGauss z0 n (.agg #[.bool b0, .string s0, .bool b1, .string s1, .bool b2, .string s2, .bool b3, .string s3]) ∧ IsGauss z1 n (.agg #[.bool b4, .string s4, .bool b5, .string s5, .bool b6, .string s6, .bool b7, .string s7]) ∧ IsGauss z2 n (.agg #[.bool b8, .string s8, .bool b9, .string s9, .bool b10, .string s10, .bool b11, .string s11]) ∧ IsGauss z3 n (.agg #[.bool b12, .string s12, .bool b13, .string s13, .bool b14, .string s14, .bool b15, .string s15])) (hd : ¬ (Mx.det ⟨z0, z1, z2, z3, tn⟩).Zero) (hf : z2 = one_ ∨ (z2.Zero ∧ z3 = one_)) :
  Mobs n (.agg #[.bool b0, .string s0, .bool b1, .string s1, .bool b2, .string s2, .bool b3, .string s3, .bool b4, .string s4, .bool b5, .string s5, .bool b6, .string s6, .bool b7, .string s7, .bool b8, .string s8, .bool b9, .string s9, .bool b10, .string s10, .bool b11, .string s11, .bool b12, .string s12, .bool b13, .string s13, .bool b14, .string s14, .bool b15, .string s15, .bool tn]) := by
 obtain ⟨g0, g1, g2, g3⟩ := h
 exact ⟨⟨z0, z1, z2, z3, tn⟩, ⟨_, _, _, _, _, _, _, _, _, _, _, _, _, _, _, _, _, _, _, _, _, _, _, _, _, _, _, _, _, _, _, _, rfl, g0.fv.1, g0.fv.2, g1.fv.1, g1.fv.2, g2.fv.1, g2.fv.2, g3.fv.1, g3.fv.2⟩, hd, hf⟩
set_option maxRecDepth 100000 in
set_option maxHeartbeats 16000000 in
theorem mapmay_any {w : World} {b0 b1 b2 b3 b4 b5 b6 b7 b8 b9 b10 b11 b12 b13 b14 b15 tn : Bool} {s0 s1 s2 s3 s4 s5 s6 s7 s8 s9 s10 s11 s12 s13 s14 s15 : ByteArray} {k : Nat} (hk : k ≤ 1000) :
  Calls Tryz.prog 19 #[.agg #[.bool b0, .string s0, .bool b1, .string s1, .bool b2, .string s2, .bool b3, .string s3, .bool b4, .string s4, .bool b5, .string s5, .bool b6, .string s6, .bool b7, .string s7, .bool b8, .string s8, .bool b9, .string s9, .bool b10, .string s10, .bool b11, .string s11, .bool b12, .string s12, .bool b13, .string s13, .bool b14, .string s14, .bool b15, .string s15, .bool tn], .int .i64 (k : Int)] w (RetQ w (Mobs (8 * k) (.agg #[.bool b0, .string s0, .bool b1, .string s1, .bool b2, .string s2, .bool b3, .string s3, .bool b4, .string s4, .bool b5, .string s5, .bool b6, .string s6, .bool b7, .string s7, .bool b8, .string s8, .bool b9, .string s9, .bool b10, .string s10, .bool b11, .string s11, .bool b12, .string s12, .bool b13, .string s13, .bool b14, .string s14, .bool b15, .string s15, .bool tn]))) := by
 have h := (Sw.start w).new 29 #[.bool b0, .string s0, .bool b1, .string s1, .bool b2, .string s2, .bool b3, .string s3, .bool b4, .string s4, .bool b5, .string s5, .bool b6, .string s6, .bool b7, .string s7, .bool b8, .string s8, .bool b9, .string s9, .bool b10, .string s10, .bool b11, .string s11, .bool b12, .string s12, .bool b13, .string s13, .bool b14, .string s14, .bool b15, .string s15, .bool tn]
 have Hk := Lib.hid hk
 go_enter Tryz.func19, Tryz.ntmps19
 go_wp2_with fail
 generalize hW : w.alloc _ = W at h ⊢
 clear hW
 refine (plain_any Hk.out).mono ?_
 rintro _ w1 ⟨r, rfl, hr, hb⟩
 replace h := h.call hb
 have H0 := Lib.hid hr
 clear hb hr
 cases r
 ·go_wp2_with fail
  go_ret
  exact ⟨false, rfl, fun e => (by cases e), h.bel⟩
 ·have k8_ := (h.get 0 rfl).cell 8
  have k9_ := (h.get 0 rfl).cell 9
  have k10_ := (h.get 0 rfl).cell 10
  have k11_ := (h.get 0 rfl).cell 11
  have k12_ := (h.get 0 rfl).cell 12
  have k13_ := (h.get 0 rfl).cell 13
  have k14_ := (h.get 0 rfl).cell 14
  have k15_ := (h.get 0 rfl).cell 15
  go_wp2_with fail
  clear k8_ k9_ k10_ k11_ k12_ k13_ k14_ k15_
  refine (plain_any Hk.out).mono ?_
  rintro _ w2 ⟨r, rfl, hr, hb⟩
  replace h := h.call hb
  have H1 := Lib.hid hr
  clear hb hr
  cases r
  ·go_wp2_with fail
   go_ret
   exact ⟨false, rfl, fun e => (by cases e), h.bel⟩
  ·have k16_ := (h.get 0 rfl).cell 16
   have k17_ := (h.get 0 rfl).cell 17
   have k18_ := (h.get 0 rfl).cell 18
   have k19_ := (h.get 0 rfl).cell 19
   have k20_ := (h.get 0 rfl).cell 20
   have k21_ := (h.get 0 rfl).cell 21
   have k22_ := (h.get 0 rfl).cell 22
   have k23_ := (h.get 0 rfl).cell 23
   go_wp2_with fail
   clear k16_ k17_ k18_ k19_ k20_ k21_ k22_ k23_
   refine (plain_any Hk.out).mono ?_
   rintro _ w3 ⟨r, rfl, hr, hb⟩
   replace h := h.call hb
   have H2 := Lib.hid hr
   clear hb hr
   cases r
   ·go_wp2_with fail
    go_ret
    exact ⟨false, rfl, fun e => (by cases e), h.bel⟩
   ·have k24_ := (h.get 0 rfl).cell 24
    have k25_ := (h.get 0 rfl).cell 25
    have k26_ := (h.get 0 rfl).cell 26
    have k27_ := (h.get 0 rfl).cell 27
    have k28_ := (h.get 0 rfl).cell 28
    have k29_ := (h.get 0 rfl).cell 29
    have k30_ := (h.get 0 rfl).cell 30
    have k31_ := (h.get 0 rfl).cell 31
    go_wp2_with fail
    clear k24_ k25_ k26_ k27_ k28_ k29_ k30_ k31_
    refine (plain_any Hk.out).mono ?_
    rintro _ w4 ⟨r, rfl, hr, hb⟩
    replace h := h.call hb
    have H3 := Lib.hid hr
    clear hb hr
    cases r
    ·go_wp2_with fail
     go_ret
     exact ⟨false, rfl, fun e => (by cases e), h.bel⟩
    ·obtain ⟨z0, g0⟩ := H0.out (by simp)
     obtain ⟨z1, g1⟩ := H1.out (by simp)
     obtain ⟨z2, g2⟩ := H2.out (by simp)
     obtain ⟨z3, g3⟩ := H3.out (by simp)
     have HR := Lib.hid (fun W => raw_any (w := W) (tn := tn) g0 g1 g2 g3)
     have HG := Lib.hid (And.intro g0 (And.intro g1 (And.intro g2 g3)))
     clear g0 g1 g2 g3 H0 H1 H2 H3
     go_wp2_with (first | (refine wpList_load_all (by rfl) 29 (.tmp 2) (by rfl) (by rfl) _ (h.get 0 rfl) Tryz.underlying29 rfl (by kernel_rfl) ?_))
     refine (HR.out _).mono ?_
     rintro _ w5 ⟨_, rfl, ⟨ax0, aA0, an0, ac0, ax1, aA1, an1, ac1, ax2, aA2, an2, ac2, ax3, aA3, an3, ac3, bx0, bA0, bn0, bc0, bx1, bA1, bn1, bc1, bx2, bA2, bn2, bc2, bx3, bA3, bn3, bc3, cx0, cA0, cn0, cc0, cx1, cA1, cn1, cc1, cx2, cA2, cn2, cc2, cx3, cA3, cn3, cc3, dx0, dA0, dn0, dc0, dx1, dA1, dn1, dc1, dx2, dA2, dn2, dc2, dx3, dA3, dn3, dc3, rfl, fa, fb, fc, fd⟩, hb⟩
     replace h := (h.call hb).rest ((Stw.cp _ _ _).and ((Stw.cp _ _ _).and ((Stw.cp _ _ _).and (Stw.cp _ _ _)))) (And.intro fa (And.intro fb (And.intro fc fd)))
     clear hb fa fb fc fd HR
     go_wp2_with (first | (replace h := h.new 103 #[.bool false, .slice none 0 0, .bool false, .slice none 0 0, .bool false, .slice none 0 0, .bool false, .slice none 0 0, .bool false, .slice none 0 0, .bool false, .slice none 0 0, .bool false, .slice none 0 0, .bool false, .slice none 0 0, .bool false, .slice none 0 0, .bool false, .slice none 0 0, .bool false, .slice none 0 0, .bool false, .slice none 0 0, .bool false, .slice none 0 0, .bool false, .slice none 0 0, .bool false, .slice none 0 0, .bool false, .slice none 0 0, .bool false]; refine wpList_store_all (by rfl) 103 (.tmp 5) (.tmp 33) (by rfl) #[.bool ax0, .slice aA0 an0 ac0, .bool ax1, .slice aA1 an1 ac1, .bool ax2, .slice aA2 an2 ac2, .bool ax3, .slice aA3 an3 ac3, .bool bx0, .slice bA0 bn0 bc0, .bool bx1, .slice bA1 bn1 bc1, .bool bx2, .slice bA2 bn2 bc2, .bool bx3, .slice bA3 bn3 bc3, .bool cx0, .slice cA0 cn0 cc0, .bool cx1, .slice cA1 cn1 cc1, .bool cx2, .slice cA2 cn2 cc2, .bool cx3, .slice cA3 cn3 cc3, .bool dx0, .slice dA0 dn0 dc0, .bool dx1, .slice dA1 dn1 dc1, .bool dx2, .slice dA2 dn2 dc2, .bool dx3, .slice dA3 dn3 dc3, .bool tn] (by rfl) (by rfl) (h.get 0 rfl) (by simp) (by kernel_rfl) (by simp [Value.oneCell', ptr]) ?_; intro V1 k9 hg9; replace h := h.put 0 rfl (by unfold OwnT; decide) k9 hg9; simp only [List.set_cons_succ, List.set_cons_zero] at h; clear k9 hg9))
     have k0 := h.get 0 rfl
     obtain ⟨fa, fb, fc, fd⟩ := h.fact
     generalize hgr : w5.heap.size = gr at *
     clear hgr
     refine wp_region_noPanic ?_
     refine wp_region_list (mk := ?mk) noV_vgs [Is (ptr gr), Is (.agg #[(.bool ax0), (.slice aA0 an0 ac0), (.bool ax1), (.slice aA1 an1 ac1), (.bool ax2), (.slice aA2 an2 ac2), (.bool ax3), (.slice aA3 an3 ac3)]), Is (.pointer (some ⟨gr, 24, none⟩)), Is (.agg #[(.bool dx0), (.slice dA0 dn0 dc0), (.bool dx1), (.slice dA1 dn1 dc1), (.bool dx2), (.slice dA2 dn2 dc2), (.bool dx3), (.slice dA3 dn3 dc3)]), IsCp ((z0).mul z3) (8192 + 8192 + (8192 + 8192) + 1), Is (.pointer (some ⟨gr, 8, none⟩)), Is (.agg #[(.bool bx0), (.slice bA0 bn0 bc0), (.bool bx1), (.slice bA1 bn1 bc1), (.bool bx2), (.slice bA2 bn2 bc2), (.bool bx3), (.slice bA3 bn3 bc3)]), Is (.pointer (some ⟨gr, 16, none⟩)), Is (.agg #[(.bool cx0), (.slice cA0 cn0 cc0), (.bool cx1), (.slice cA1 cn1 cc1), (.bool cx2), (.slice cA2 cn2 cc2), (.bool cx3), (.slice cA3 cn3 cc3)]), IsCp ((z1).mul z2) (8192 + 8192 + (8192 + 8192) + 1), Is (.bool (decide (((z0).mul z3).re = ((z1).mul z2).re ∧ ((z0).mul z3).im = ((z1).mul z2).im)))] [.plain, .plain, .plain, .plain, .plain, .plain, .plain, .plain, .plain, .plain, .plain] 11 0 (fun w' => Blk w' (gr) 103 #[.bool ax0, .slice aA0 an0 ac0, .bool ax1, .slice aA1 an1 ac1, .bool ax2, .slice aA2 an2 ac2, .bool ax3, .slice aA3 an3 ac3, .bool bx0, .slice bA0 bn0 bc0, .bool bx1, .slice bA1 bn1 bc1, .bool bx2, .slice bA2 bn2 bc2, .bool bx3, .slice bA3 bn3 bc3, .bool cx0, .slice cA0 cn0 cc0, .bool cx1, .slice cA1 cn1 cc1, .bool cx2, .slice cA2 cn2 cc2, .bool cx3, .slice cA3 cn3 cc3, .bool dx0, .slice dA0 dn0 dc0, .bool dx1, .slice dA1 dn1 dc1, .bool dx2, .slice dA2 dn2 dc2, .bool dx3, .slice dA3 dn3 dc3, .bool tn] ∧ IsCp z0 8192 (.agg #[(.bool ax0), (.slice aA0 an0 ac0), (.bool ax1), (.slice aA1 an1 ac1), (.bool ax2), (.slice aA2 an2 ac2), (.bool ax3), (.slice aA3 an3 ac3)]) w' ∧ IsCp z1 8192 (.agg #[(.bool bx0), (.slice bA0 bn0 bc0), (.bool bx1), (.slice bA1 bn1 bc1), (.bool bx2), (.slice bA2 bn2 bc2), (.bool bx3), (.slice bA3 bn3 bc3)]) w' ∧ IsCp z2 8192 (.agg #[(.bool cx0), (.slice cA0 cn0 cc0), (.bool cx1), (.slice cA1 cn1 cc1), (.bool cx2), (.slice cA2 cn2 cc2), (.bool cx3), (.slice cA3 cn3 cc3)]) w' ∧ IsCp z3 8192 (.agg #[(.bool dx0), (.slice dA0 dn0 dc0), (.bool dx1), (.slice dA1 dn1 dc1), (.bool dx2), (.slice dA2 dn2 dc2), (.bool dx3), (.slice dA3 dn3 dc3)]) w' ∧ True) ⟨is_steady _ _ _, is_steady _ _ _, is_steady _ _ _, is_steady _ _ _, nov fun _ _ _ h => h.below, is_steady _ _ _, is_steady _ _ _, is_steady _ _ _, is_steady _ _ _, nov fun _ _ _ h => h.below, is_steady _ _ _, trivial⟩ (by kernel_rfl) (by kernel_rfl) (by kernel_rfl) (by kernel_rfl) (by kernel_rfl) (by kernel_rfl) ?hmk (fun w' hB => ⟨k0.below hB k0.lt, fa.below hB, fb.below hB, fc.below hB, fd.below hB, trivial⟩)
      (steps_all (steps_cons ?_ (steps_cons ?_ (steps_cons ?_ (steps_cons ?_ (steps_cons ?_ (steps_cons ?_ (steps_cons ?_ (steps_cons ?_ (steps_cons ?_ (steps_cons ?_ (steps_cons ?_ steps_nil)))))))))))) ?_
     case hmk =>
      intro u
      simp only [mkFrom, mkL, dstOf, List.range, List.range.loop, Act.put, List.setIfInBounds_toArray, List.set_cons_zero, List.set_cons_succ, List.getElem?_toArray, List.getElem?_cons_zero, List.getElem?_cons_succ, Option.bind_some]
      rfl
     ·refine step_is (o := Oper.mk (some 34) _ _ _ _ _) rfl rfl rfl rfl (fun u ws hc hd => ?_)
      go_simp
     ·refine step_is (o := Oper.mk (some 35) _ _ _ _ _) rfl rfl rfl rfl (fun u ws hc hd => ?_)
      obtain ⟨k0, fa, fb, fc, fd, _⟩ := hc
      have d0 : u 0 = _ := hd 0 (by kernel_rfl) (by decide)
      exact run_load_part 42 (.tmp 34) rfl (gr) 0 d0 #[(.bool ax0), (.slice aA0 an0 ac0), (.bool ax1), (.slice aA1 an1 ac1), (.bool ax2), (.slice aA2 an2 ac2), (.bool ax3), (.slice aA3 an3 ac3)] _ k0 rfl Tryz.underlying42 rfl (by kernel_rfl)
     ·refine step_is (o := Oper.mk (some 36) _ _ _ _ _) rfl rfl rfl rfl (fun u ws hc hd => ?_)
      go_simp
     ·refine step_is (o := Oper.mk (some 37) _ _ _ _ _) rfl rfl rfl rfl (fun u ws hc hd => ?_)
      obtain ⟨k0, fa, fb, fc, fd, _⟩ := hc
      have d2 : u 2 = _ := hd 2 (by kernel_rfl) (by decide)
      exact run_load_part 42 (.tmp 36) rfl (gr) 24 d2 #[(.bool dx0), (.slice dA0 dn0 dc0), (.bool dx1), (.slice dA1 dn1 dc1), (.bool dx2), (.slice dA2 dn2 dc2), (.bool dx3), (.slice dA3 dn3 dc3)] _ k0 rfl Tryz.underlying42 rfl (by kernel_rfl)
     ·refine step_call (o := Oper.mk (some 38) _ _ _ _ _) rfl rfl rfl (fun u ws hc hd => ?_)
      obtain ⟨k0, fa, fb, fc, fd, _⟩ := hc
      have d1 : u 1 = _ := hd 1 (by kernel_rfl) (by decide)
      have d3 : u 3 = _ := hd 3 (by kernel_rfl) (by decide)
      have HC := Lib.hid (cptimes_any fa fd (by omega))
      refine ⟨45, #[(.agg #[(.bool ax0), (.slice aA0 an0 ac0), (.bool ax1), (.slice aA1 an1 ac1), (.bool ax2), (.slice aA2 an2 ac2), (.bool ax3), (.slice aA3 an3 ac3)]), (.agg #[(.bool dx0), (.slice dA0 dn0 dc0), (.bool dx1), (.slice dA1 dn1 dc1), (.bool dx2), (.slice dA2 dn2 dc2), (.bool dx3), (.slice dA3 dn3 dc3)])], ?_, HC.out⟩
      ·clear HC; go_simp
     ·refine step_is (o := Oper.mk (some 39) _ _ _ _ _) rfl rfl rfl rfl (fun u ws hc hd => ?_)
      go_simp
     ·refine step_is (o := Oper.mk (some 40) _ _ _ _ _) rfl rfl rfl rfl (fun u ws hc hd => ?_)
      obtain ⟨k0, fa, fb, fc, fd, _⟩ := hc
      have d5 : u 5 = _ := hd 5 (by kernel_rfl) (by decide)
      exact run_load_part 42 (.tmp 39) rfl (gr) 8 d5 #[(.bool bx0), (.slice bA0 bn0 bc0), (.bool bx1), (.slice bA1 bn1 bc1), (.bool bx2), (.slice bA2 bn2 bc2), (.bool bx3), (.slice bA3 bn3 bc3)] _ k0 rfl Tryz.underlying42 rfl (by kernel_rfl)
     ·refine step_is (o := Oper.mk (some 41) _ _ _ _ _) rfl rfl rfl rfl (fun u ws hc hd => ?_)
      go_simp
     ·refine step_is (o := Oper.mk (some 42) _ _ _ _ _) rfl rfl rfl rfl (fun u ws hc hd => ?_)
      obtain ⟨k0, fa, fb, fc, fd, _⟩ := hc
      have d7 : u 7 = _ := hd 7 (by kernel_rfl) (by decide)
      exact run_load_part 42 (.tmp 41) rfl (gr) 16 d7 #[(.bool cx0), (.slice cA0 cn0 cc0), (.bool cx1), (.slice cA1 cn1 cc1), (.bool cx2), (.slice cA2 cn2 cc2), (.bool cx3), (.slice cA3 cn3 cc3)] _ k0 rfl Tryz.underlying42 rfl (by kernel_rfl)
     ·refine step_call (o := Oper.mk (some 43) _ _ _ _ _) rfl rfl rfl (fun u ws hc hd => ?_)
      obtain ⟨k0, fa, fb, fc, fd, _⟩ := hc
      have d6 : u 6 = _ := hd 6 (by kernel_rfl) (by decide)
      have d8 : u 8 = _ := hd 8 (by kernel_rfl) (by decide)
      have HC := Lib.hid (cptimes_any fb fc (by omega))
      refine ⟨45, #[(.agg #[(.bool bx0), (.slice bA0 bn0 bc0), (.bool bx1), (.slice bA1 bn1 bc1), (.bool bx2), (.slice bA2 bn2 bc2), (.bool bx3), (.slice bA3 bn3 bc3)]), (.agg #[(.bool cx0), (.slice cA0 cn0 cc0), (.bool cx1), (.slice cA1 cn1 cc1), (.bool cx2), (.slice cA2 cn2 cc2), (.bool cx3), (.slice cA3 cn3 cc3)])], ?_, HC.out⟩
      ·clear HC; go_simp
     ·refine step_call (o := Oper.mk (some 44) _ _ _ _ _) rfl rfl rfl (fun u ws hc hd => ?_)
      obtain ⟨k0, fa, fb, fc, fd, _⟩ := hc
      have HC := Lib.hid (cpsame_any (hd 4 (by kernel_rfl) (by decide) : IsCp ((z0).mul z3) (8192 + 8192 + (8192 + 8192) + 1) (u 4) ws) (hd 9 (by kernel_rfl) (by decide) : IsCp ((z1).mul z2) (8192 + 8192 + (8192 + 8192) + 1) (u 9) ws) (by omega))
      refine ⟨46, #[u 4, u 9], ?_, HC.out⟩
      ·clear HC; go_simp
     ·intro u w6 hb1 hf hn1
      have f10 : u 10 = _ := hf 10 (by decide) (by decide)
      replace h := h.call hb1
      rw [f10]
      clear hf hn1 hb1 k0 fa fb fc fd f10
      refine wpAny_end (by kernel_rfl) ?_
      refine NoPanic.normal ?_
      by_cases hs : (z0.mul z3).re = (z1.mul z2).re ∧ (z0.mul z3).im = (z1.mul z2).im
      ·rw [decide_eq_true hs]
       clear hs
       go_wp2_with fail
       go_ret
       exact ⟨false, rfl, fun e => (by cases e), h.bel⟩
      ·rw [decide_eq_false hs]
       have HD := Lib.hid (det_ne (tn := tn) hs)
       clear hs
       go_wp2_with (first | (refine wpList_load_part (by rfl) 42 (.tmp 45) (by rfl) _ 16 (by rfl) _ _ #[.bool cx0, .slice cA0 cn0 cc0, .bool cx1, .slice cA1 cn1 cc1, .bool cx2, .slice cA2 cn2 cc2, .bool cx3, .slice cA3 cn3 cc3] _ (h.get 0 rfl) (by rfl) Tryz.underlying42 rfl (by kernel_rfl) ?_))
       refine (cpnone_any h.fact.2.2.1 (by omega)).mono ?_
       rintro _ w7 ⟨_, rfl, rfl, hb⟩
       replace h := h.call hb
       clear hb
       by_cases hc : z2.re = 0 ∧ z2.im = 0
       ·rw [decide_eq_true hc]
        have HC := Lib.hid hc
        clear hc
        go_wp2_with fail
        have k0 := h.get 0 rfl
        obtain ⟨fa, fb, fc, fd⟩ := h.fact
        refine wp_region_noPanic ?_
        refine wp_region_list (mk := ?mkb) noV_vgs [Is (.pointer (some ⟨gr, 24, none⟩)), Is (.agg #[(.bool dx0), (.slice dA0 dn0 dc0), (.bool dx1), (.slice dA1 dn1 dc1), (.bool dx2), (.slice dA2 dn2 dc2), (.bool dx3), (.slice dA3 dn3 dc3)]), IsCp one_ 32, Is (.bool (decide (z3.re = one_.re ∧ z3.im = one_.im)))] [.plain, .plain, .plain, .plain] 4 1 (fun w' => Blk w' (gr) 103 #[.bool ax0, .slice aA0 an0 ac0, .bool ax1, .slice aA1 an1 ac1, .bool ax2, .slice aA2 an2 ac2, .bool ax3, .slice aA3 an3 ac3, .bool bx0, .slice bA0 bn0 bc0, .bool bx1, .slice bA1 bn1 bc1, .bool bx2, .slice bA2 bn2 bc2, .bool bx3, .slice bA3 bn3 bc3, .bool cx0, .slice cA0 cn0 cc0, .bool cx1, .slice cA1 cn1 cc1, .bool cx2, .slice cA2 cn2 cc2, .bool cx3, .slice cA3 cn3 cc3, .bool dx0, .slice dA0 dn0 dc0, .bool dx1, .slice dA1 dn1 dc1, .bool dx2, .slice dA2 dn2 dc2, .bool dx3, .slice dA3 dn3 dc3, .bool tn] ∧ IsCp z0 8192 (.agg #[(.bool ax0), (.slice aA0 an0 ac0), (.bool ax1), (.slice aA1 an1 ac1), (.bool ax2), (.slice aA2 an2 ac2), (.bool ax3), (.slice aA3 an3 ac3)]) w' ∧ IsCp z1 8192 (.agg #[(.bool bx0), (.slice bA0 bn0 bc0), (.bool bx1), (.slice bA1 bn1 bc1), (.bool bx2), (.slice bA2 bn2 bc2), (.bool bx3), (.slice bA3 bn3 bc3)]) w' ∧ IsCp z2 8192 (.agg #[(.bool cx0), (.slice cA0 cn0 cc0), (.bool cx1), (.slice cA1 cn1 cc1), (.bool cx2), (.slice cA2 cn2 cc2), (.bool cx3), (.slice cA3 cn3 cc3)]) w' ∧ IsCp z3 8192 (.agg #[(.bool dx0), (.slice dA0 dn0 dc0), (.bool dx1), (.slice dA1 dn1 dc1), (.bool dx2), (.slice dA2 dn2 dc2), (.bool dx3), (.slice dA3 dn3 dc3)]) w' ∧ True) ⟨is_steady _ _ _, is_steady _ _ _, nov fun _ _ _ h => h.below, is_steady _ _ _, trivial⟩ (by kernel_rfl) (by kernel_rfl) (by kernel_rfl) (by kernel_rfl) (by kernel_rfl) (by kernel_rfl) ?hmkb (fun w' hB => ⟨k0.below hB k0.lt, fa.below hB, fb.below hB, fc.below hB, fd.below hB, trivial⟩)
         (steps_all (steps_cons ?_ (steps_cons ?_ (steps_cons ?_ (steps_cons ?_ steps_nil))))) ?_
        case hmkb =>
         intro u
         simp only [mkFrom, mkL, dstOf, List.range, List.range.loop, Act.put, List.setIfInBounds_toArray, List.set_cons_zero, List.set_cons_succ, List.getElem?_toArray, List.getElem?_cons_zero, List.getElem?_cons_succ, Option.bind_some]
         rfl
        ·refine step_is (o := Oper.mk (some 48) _ _ _ _ _) rfl rfl rfl rfl (fun u ws hc hd => ?_)
         go_simp
        ·refine step_is (o := Oper.mk (some 49) _ _ _ _ _) rfl rfl rfl rfl (fun u ws hc hd => ?_)
         obtain ⟨k0, fa, fb, fc, fd, _⟩ := hc
         have d0 : u 0 = _ := hd 0 (by kernel_rfl) (by decide)
         exact run_load_part 42 (.tmp 48) rfl (gr) 24 d0 #[(.bool dx0), (.slice dA0 dn0 dc0), (.bool dx1), (.slice dA1 dn1 dc1), (.bool dx2), (.slice dA2 dn2 dc2), (.bool dx3), (.slice dA3 dn3 dc3)] _ k0 rfl Tryz.underlying42 rfl (by kernel_rfl)
        ·refine step_call (o := Oper.mk (some 50) _ _ _ _ _) rfl rfl rfl (fun u ws hc hd => ?_)
         obtain ⟨k0, fa, fb, fc, fd, _⟩ := hc
         have HC := Lib.hid (one_any (w := ws))
         refine ⟨48, #[], ?_, HC.out⟩
         ·clear HC; go_simp
        ·refine step_call (o := Oper.mk (some 51) _ _ _ _ _) rfl rfl rfl (fun u ws hc hd => ?_)
         obtain ⟨k0, fa, fb, fc, fd, _⟩ := hc
         have d1 : u 1 = _ := hd 1 (by kernel_rfl) (by decide)
         have HC := Lib.hid (cpsame_any fd (hd 2 (by kernel_rfl) (by decide) : IsCp one_ 32 (u 2) ws) (by omega))
         refine ⟨46, #[(.agg #[(.bool dx0), (.slice dA0 dn0 dc0), (.bool dx1), (.slice dA1 dn1 dc1), (.bool dx2), (.slice dA2 dn2 dc2), (.bool dx3), (.slice dA3 dn3 dc3)]), u 2], ?_, HC.out⟩
         ·clear HC; go_simp
        ·intro u w8 hb1 hf hn1
         have f3 : u 3 = _ := hf 3 (by decide) (by decide)
         replace h := h.call hb1
         clear hf hn1 hb1 k0 fa fb fc fd
         refine wpAny_tail (j := 4) (o := Oper.mk (some 4) _ _ _ _ _) rfl (by kernel_rfl) (fun K hK => ?_)
         rw [f3]
         go_simp
         refine hK.out _ _ ?_
         clear hK K
         refine wpAny_end (by kernel_rfl) ?_
         refine NoPanic.normal ?_
         go_wp2_with fail
         go_ret
         exact ⟨_, rfl, fun e => may_map HG.out HD.out (.inr ⟨HC.out, cx_ext (by simpa using e)⟩), h.bel⟩
       ·rw [decide_eq_false hc]
        clear hc
        go_wp2_with fail
        have k0 := h.get 0 rfl
        obtain ⟨fa, fb, fc, fd⟩ := h.fact
        refine wp_region_noPanic ?_
        refine wp_region_list (mk := ?mkc) noV_vgs [Is (.pointer (some ⟨gr, 16, none⟩)), Is (.agg #[(.bool cx0), (.slice cA0 cn0 cc0), (.bool cx1), (.slice cA1 cn1 cc1), (.bool cx2), (.slice cA2 cn2 cc2), (.bool cx3), (.slice cA3 cn3 cc3)]), IsCp one_ 32, Is (.bool (decide (z2.re = one_.re ∧ z2.im = one_.im)))] [.plain, .plain, .plain, .plain] 4 1 (fun w' => Blk w' (gr) 103 #[.bool ax0, .slice aA0 an0 ac0, .bool ax1, .slice aA1 an1 ac1, .bool ax2, .slice aA2 an2 ac2, .bool ax3, .slice aA3 an3 ac3, .bool bx0, .slice bA0 bn0 bc0, .bool bx1, .slice bA1 bn1 bc1, .bool bx2, .slice bA2 bn2 bc2, .bool bx3, .slice bA3 bn3 bc3, .bool cx0, .slice cA0 cn0 cc0, .bool cx1, .slice cA1 cn1 cc1, .bool cx2, .slice cA2 cn2 cc2, .bool cx3, .slice cA3 cn3 cc3, .bool dx0, .slice dA0 dn0 dc0, .bool dx1, .slice dA1 dn1 dc1, .bool dx2, .slice dA2 dn2 dc2, .bool dx3, .slice dA3 dn3 dc3, .bool tn] ∧ IsCp z0 8192 (.agg #[(.bool ax0), (.slice aA0 an0 ac0), (.bool ax1), (.slice aA1 an1 ac1), (.bool ax2), (.slice aA2 an2 ac2), (.bool ax3), (.slice aA3 an3 ac3)]) w' ∧ IsCp z1 8192 (.agg #[(.bool bx0), (.slice bA0 bn0 bc0), (.bool bx1), (.slice bA1 bn1 bc1), (.bool bx2), (.slice bA2 bn2 bc2), (.bool bx3), (.slice bA3 bn3 bc3)]) w' ∧ IsCp z2 8192 (.agg #[(.bool cx0), (.slice cA0 cn0 cc0), (.bool cx1), (.slice cA1 cn1 cc1), (.bool cx2), (.slice cA2 cn2 cc2), (.bool cx3), (.slice cA3 cn3 cc3)]) w' ∧ IsCp z3 8192 (.agg #[(.bool dx0), (.slice dA0 dn0 dc0), (.bool dx1), (.slice dA1 dn1 dc1), (.bool dx2), (.slice dA2 dn2 dc2), (.bool dx3), (.slice dA3 dn3 dc3)]) w' ∧ True) ⟨is_steady _ _ _, is_steady _ _ _, nov fun _ _ _ h => h.below, is_steady _ _ _, trivial⟩ (by kernel_rfl) (by kernel_rfl) (by kernel_rfl) (by kernel_rfl) (by kernel_rfl) (by kernel_rfl) ?hmkc (fun w' hB => ⟨k0.below hB k0.lt, fa.below hB, fb.below hB, fc.below hB, fd.below hB, trivial⟩)
         (steps_all (steps_cons ?_ (steps_cons ?_ (steps_cons ?_ (steps_cons ?_ steps_nil))))) ?_
        case hmkc =>
         intro u
         simp only [mkFrom, mkL, dstOf, List.range, List.range.loop, Act.put, List.setIfInBounds_toArray, List.set_cons_zero, List.set_cons_succ, List.getElem?_toArray, List.getElem?_cons_zero, List.getElem?_cons_succ, Option.bind_some]
         rfl
        ·refine step_is (o := Oper.mk (some 52) _ _ _ _ _) rfl rfl rfl rfl (fun u ws hc hd => ?_)
         go_simp
        ·refine step_is (o := Oper.mk (some 53) _ _ _ _ _) rfl rfl rfl rfl (fun u ws hc hd => ?_)
         obtain ⟨k0, fa, fb, fc, fd, _⟩ := hc
         have d0 : u 0 = _ := hd 0 (by kernel_rfl) (by decide)
         exact run_load_part 42 (.tmp 52) rfl (gr) 16 d0 #[(.bool cx0), (.slice cA0 cn0 cc0), (.bool cx1), (.slice cA1 cn1 cc1), (.bool cx2), (.slice cA2 cn2 cc2), (.bool cx3), (.slice cA3 cn3 cc3)] _ k0 rfl Tryz.underlying42 rfl (by kernel_rfl)
        ·refine step_call (o := Oper.mk (some 54) _ _ _ _ _) rfl rfl rfl (fun u ws hc hd => ?_)
         obtain ⟨k0, fa, fb, fc, fd, _⟩ := hc
         have HC := Lib.hid (one_any (w := ws))
         refine ⟨48, #[], ?_, HC.out⟩
         ·clear HC; go_simp
        ·refine step_call (o := Oper.mk (some 55) _ _ _ _ _) rfl rfl rfl (fun u ws hc hd => ?_)
         obtain ⟨k0, fa, fb, fc, fd, _⟩ := hc
         have d1 : u 1 = _ := hd 1 (by kernel_rfl) (by decide)
         have HC := Lib.hid (cpsame_any fc (hd 2 (by kernel_rfl) (by decide) : IsCp one_ 32 (u 2) ws) (by omega))
         refine ⟨46, #[(.agg #[(.bool cx0), (.slice cA0 cn0 cc0), (.bool cx1), (.slice cA1 cn1 cc1), (.bool cx2), (.slice cA2 cn2 cc2), (.bool cx3), (.slice cA3 cn3 cc3)]), u 2], ?_, HC.out⟩
         ·clear HC; go_simp
        ·intro u w8 hb1 hf hn1
         have f3 : u 3 = _ := hf 3 (by decide) (by decide)
         replace h := h.call hb1
         clear hf hn1 hb1 k0 fa fb fc fd
         refine wpAny_tail (j := 4) (o := Oper.mk (some 4) _ _ _ _ _) rfl (by kernel_rfl) (fun K hK => ?_)
         rw [f3]
         go_simp
         refine hK.out _ _ ?_
         clear hK K
         refine wpAny_end (by kernel_rfl) ?_
         refine NoPanic.normal ?_
         go_wp2_with fail
         go_ret
         exact ⟨_, rfl, fun e => may_map HG.out HD.out (.inl (cx_ext (by simpa using e))), h.bel⟩
theorem run_one_byte (b : UInt8) (w : World) : (convert 130 9 (.slice (some ⟨w.heap.size, 0, none⟩) 1 1)).run Tryz.prog (w.alloc (.cells #[.int .u8 (b.toNat : Int)] 5)) = .ok (.string ⟨#[b]⟩) (w.alloc (.cells #[.int .u8 (b.toNat : Int)] 5)) :=
 run_str (l := [b]) rfl (reads_blkN (Blk.new w 5 #[.int .u8 (b.toNat : Int)]) rfl)
def RetV (w : World) (c : Value) (e : Ending) (w' : World) : Prop := e = .returned c ∧ Below w.heap.size w w'
theorem bys_one : bys 1 = [1] := by rw [bys_pos (by decide)]; rw [show 1 / 256 = 0 by decide, bys_zero]; rfl
theorem bys_two : bys 2 = [2] := by rw [bys_pos (by decide)]; rw [show 2 / 256 = 0 by decide, bys_zero]; rfl
theorem pw_one : Wv false ⟨#[1]⟩ 1 := ⟨by decide, by rw [show Int.natAbs 1 = 1 from rfl, bys_one]⟩
theorem pw_two : Wv false ⟨#[2]⟩ 2 := ⟨by decide, by rw [show Int.natAbs 2 = 2 from rfl, bys_two]⟩
theorem pw_neg : Wv true ⟨#[1]⟩ (-1) := ⟨by decide, by rw [show Int.natAbs (-1) = 1 from rfl, bys_one]⟩
theorem pw_zero : Wv false ⟨#[]⟩ 0 := ⟨by decide, by rw [show Int.natAbs 0 = 0 from rfl, bys_zero]⟩
set_option maxRecDepth 100000 in
set_option maxHeartbeats 4000000 in
theorem part_two {w : World} : Calls Tryz.prog 26 #[.int .i64 2] w (RetV w (.agg #[.bool false, .string ⟨#[2]⟩, .bool false, .string ⟨#[1]⟩])) := by
 have h := (Sw.start w).new 25 #[.bool false, .string ⟨#[]⟩, .bool false, .string ⟨#[]⟩]
 have hcv : ∀ w : World, (convert 130 9 (.slice (some ⟨w.heap.size, 0, none⟩) 1 1)).run Tryz.prog (w.alloc (.cells #[.int .u8 2] 5)) = .ok (.string ⟨#[2]⟩) (w.alloc (.cells #[.int .u8 2] 5)) := fun w => run_one_byte 2 w
 go_enter Tryz.func26, Tryz.ntmps26
 go_wp2_with fail
 generalize hW : w.alloc _ = W at h ⊢
 clear hW
 refine wp_loop_rounds 3 ?_
 rw [rounds_succ]
 go_wp2_with fail
 rw [rounds_succ]
 go_wp2_with (replace h := h.call (new_below _ (.cells #[.int .u8 2] 5)); refine wpList_store_all (by rfl) 25 (.tmp 2) (.tmp 26) (by rfl) #[.bool false, .string ⟨#[2]⟩, .bool false, .string ⟨#[1]⟩] (by rfl) (by rfl) (h.get 0 rfl) (by simp) (by kernel_rfl) (by simp [Value.oneCell', ptr]) ?_; intro V1 k9 hg9; replace h := h.put 0 rfl (by unfold OwnT; decide) k9 hg9; simp only [List.set_cons_succ, List.set_cons_zero] at h; clear k9 hg9)
 refine bodyPost_ret (results_row1 rfl _ _ _ _ _ (by rfl) (h.get 0 rfl) Tryz.underlying25 rfl (by kernel_rfl)) rfl ?_
 exact ⟨rfl, h.bel⟩
set_option maxRecDepth 100000 in
set_option maxHeartbeats 4000000 in
theorem part_one {w : World} : Calls Tryz.prog 26 #[.int .i64 1] w (RetV w (.agg #[.bool false, .string ⟨#[1]⟩, .bool false, .string ⟨#[1]⟩])) := by
 have h := (Sw.start w).new 25 #[.bool false, .string ⟨#[]⟩, .bool false, .string ⟨#[]⟩]
 have hcv : ∀ w : World, (convert 130 9 (.slice (some ⟨w.heap.size, 0, none⟩) 1 1)).run Tryz.prog (w.alloc (.cells #[.int .u8 1] 5)) = .ok (.string ⟨#[1]⟩) (w.alloc (.cells #[.int .u8 1] 5)) := fun w => run_one_byte 1 w
 go_enter Tryz.func26, Tryz.ntmps26
 go_wp2_with fail
 generalize hW : w.alloc _ = W at h ⊢
 clear hW
 refine wp_loop_rounds 3 ?_
 rw [rounds_succ]
 go_wp2_with fail
 rw [rounds_succ]
 go_wp2_with (replace h := h.call (new_below _ (.cells #[.int .u8 1] 5)); refine wpList_store_all (by rfl) 25 (.tmp 2) (.tmp 26) (by rfl) #[.bool false, .string ⟨#[1]⟩, .bool false, .string ⟨#[1]⟩] (by rfl) (by rfl) (h.get 0 rfl) (by simp) (by kernel_rfl) (by simp [Value.oneCell', ptr]) ?_; intro V1 k9 hg9; replace h := h.put 0 rfl (by unfold OwnT; decide) k9 hg9; simp only [List.set_cons_succ, List.set_cons_zero] at h; clear k9 hg9)
 refine bodyPost_ret (results_row1 rfl _ _ _ _ _ (by rfl) (h.get 0 rfl) Tryz.underlying25 rfl (by kernel_rfl)) rfl ?_
 exact ⟨rfl, h.bel⟩
set_option maxRecDepth 100000 in
set_option maxHeartbeats 4000000 in
theorem part_neg {w : World} : Calls Tryz.prog 26 #[.int .i64 (-1)] w (RetV w (.agg #[.bool true, .string ⟨#[1]⟩, .bool false, .string ⟨#[1]⟩])) := by
 have h := (Sw.start w).new 25 #[.bool false, .string ⟨#[]⟩, .bool false, .string ⟨#[]⟩]
 have hcv : ∀ w : World, (convert 130 9 (.slice (some ⟨w.heap.size, 0, none⟩) 1 1)).run Tryz.prog (w.alloc (.cells #[.int .u8 1] 5)) = .ok (.string ⟨#[1]⟩) (w.alloc (.cells #[.int .u8 1] 5)) := fun w => run_one_byte 1 w
 have hw2 : IntKind.u64.wrap (-IntKind.u64.wrap (-1)) = 1 := by decide
 go_enter Tryz.func26, Tryz.ntmps26
 go_wp2_with fail
 generalize hW : w.alloc _ = W at h ⊢
 clear hW
 refine wp_loop_rounds 3 ?_
 rw [rounds_succ]
 go_wp2_with fail
 rw [rounds_succ]
 go_wp2_with (replace h := h.call (new_below _ (.cells #[.int .u8 1] 5)); refine wpList_store_all (by rfl) 25 (.tmp 2) (.tmp 26) (by rfl) #[.bool true, .string ⟨#[1]⟩, .bool false, .string ⟨#[1]⟩] (by rfl) (by rfl) (h.get 0 rfl) (by simp) (by kernel_rfl) (by simp [Value.oneCell', ptr]) ?_; intro V1 k9 hg9; replace h := h.put 0 rfl (by unfold OwnT; decide) k9 hg9; simp only [List.set_cons_succ, List.set_cons_zero] at h; clear k9 hg9)
 refine bodyPost_ret (results_row1 rfl _ _ _ _ _ (by rfl) (h.get 0 rfl) Tryz.underlying25 rfl (by kernel_rfl)) rfl ?_
 exact ⟨rfl, h.bel⟩
set_option maxRecDepth 100000 in
set_option maxHeartbeats 4000000 in
theorem part_zero {w : World} : Calls Tryz.prog 26 #[.int .i64 0] w (RetV w (.agg #[.bool false, .string ⟨#[]⟩, .bool false, .string ⟨#[1]⟩])) := by
 have h := (Sw.start w).new 25 #[.bool false, .string ⟨#[]⟩, .bool false, .string ⟨#[]⟩]
 go_enter Tryz.func26, Tryz.ntmps26
 go_wp2_with fail
 generalize hW : w.alloc _ = W at h ⊢
 clear hW
 refine wp_loop_rounds 3 ?_
 rw [rounds_succ]
 go_wp2_with (refine wpList_store_all (by rfl) 25 (.tmp 2) (.tmp 26) (by rfl) #[.bool false, .string ⟨#[]⟩, .bool false, .string ⟨#[1]⟩] (by rfl) (by rfl) (h.get 0 rfl) (by simp) (by kernel_rfl) (by simp [Value.oneCell', ptr]) ?_; intro V1 k9 hg9; replace h := h.put 0 rfl (by unfold OwnT; decide) k9 hg9; simp only [List.set_cons_succ, List.set_cons_zero] at h; clear k9 hg9)
 refine bodyPost_ret (results_row1 rfl _ _ _ _ _ (by rfl) (h.get 0 rfl) Tryz.underlying25 rfl (by kernel_rfl)) rfl ?_
 exact ⟨rfl, h.bel⟩
set_option maxRecDepth 100000 in
set_option maxHeartbeats 4000000 in
theorem tnum_any {w : World} {x y : Int} {b0 b1 b2 b3 : Bool} {s0 s1 s2 s3 : ByteArray} (hx : ∀ W, Calls Tryz.prog 26 #[.int .i64 x] W (RetV W (.agg #[.bool b0, .string s0, .bool b1, .string s1]))) (hy : ∀ W, Calls Tryz.prog 26 #[.int .i64 y] W (RetV W (.agg #[.bool b2, .string s2, .bool b3, .string s3]))) :
  Calls Tryz.prog 24 #[.int .i64 x, .int .i64 y] w (RetV w (.agg #[.bool b0, .string s0, .bool b1, .string s1, .bool b2, .string s2, .bool b3, .string s3])) := by
 have h := (Sw.start w).new 27 #[.bool false, .string ⟨#[]⟩, .bool false, .string ⟨#[]⟩, .bool false, .string ⟨#[]⟩, .bool false, .string ⟨#[]⟩]
 have HX := Lib.hid hx
 have HY := Lib.hid hy
 clear hx hy
 go_enter Tryz.func24, Tryz.ntmps24
 go_wp2_with fail
 generalize hW : w.alloc _ = W at h ⊢
 clear hW
 refine (HX.out _).mono ?_
 rintro _ w1 ⟨rfl, hb⟩
 replace h := h.call hb
 clear hb
 go_wp2_with fail
 refine (HY.out _).mono ?_
 rintro _ w2 ⟨rfl, hb⟩
 replace h := h.call hb
 clear hb HX HY
 go_wp2_with (refine wpList_store_all (by rfl) 27 (.tmp 4) (.tmp 9) (by rfl) #[.bool b0, .string s0, .bool b1, .string s1, .bool b2, .string s2, .bool b3, .string s3] (by rfl) (by rfl) (h.get 0 rfl) (by simp) (by kernel_rfl) (by simp [Value.oneCell', ptr]) ?_; intro V1 k9 hg9; replace h := h.put 0 rfl (by unfold OwnT; decide) k9 hg9; simp only [List.set_cons_succ, List.set_cons_zero] at h; clear k9 hg9)
 refine bodyPost_ret (results_row1 rfl _ _ _ _ _ (by rfl) (h.get 0 rfl) Tryz.underlying27 rfl (by kernel_rfl)) rfl ?_
 exact ⟨rfl, h.bel⟩
theorem fv_two : Fv false ⟨#[2]⟩ false ⟨#[1]⟩ ((2 : Int) : Rat) 8 := ⟨by rw [Rat.num_intCast]; exact pw_two, by rw [Rat.den_intCast]; exact pw_one, ⟨by rw [Rat.num_intCast]; decide, by rw [Rat.den_intCast]; decide⟩, by decide, by decide⟩
theorem fv_one : Fv false ⟨#[1]⟩ false ⟨#[1]⟩ ((1 : Int) : Rat) 8 := ⟨by rw [Rat.num_intCast]; exact pw_one, by rw [Rat.den_intCast]; exact pw_one, ⟨by rw [Rat.num_intCast]; decide, by rw [Rat.den_intCast]; decide⟩, by decide, by decide⟩
theorem fv_neg : Fv true ⟨#[1]⟩ false ⟨#[1]⟩ (((-1) : Int) : Rat) 8 := ⟨by rw [Rat.num_intCast]; exact pw_neg, by rw [Rat.den_intCast]; exact pw_one, ⟨by rw [Rat.num_intCast]; decide, by rw [Rat.den_intCast]; decide⟩, by decide, by decide⟩
theorem fv_zero : Fv false ⟨#[]⟩ false ⟨#[1]⟩ ((0 : Int) : Rat) 8 := ⟨by rw [Rat.num_intCast]; exact pw_zero, by rw [Rat.den_intCast]; exact pw_one, ⟨by rw [Rat.num_intCast]; decide, by rw [Rat.den_intCast]; decide⟩, by decide, by decide⟩
end Go.Proofs.YtebpggfccljagaaGreat
namespace Go.Proofs.YtebpggfccljagaaGreat
open Go Go.RowKit
open Wh
set_option linter.unusedSimpArgs false
def codeReg (n : Nat) : Code → Code
 | .seq a b => match codeReg n a with
  | .skip => codeReg n b
  | c => c
 | .block _ c => codeReg n c
 | .loop c => codeReg n c
 | .region i ops d => if i = n then .region i ops d else .skip
 | _ => .skip
set_option maxRecDepth 100000 in
set_option maxHeartbeats 8000000 in
theorem det_region {W : World} {K : Exit → Act → World → Prop} {t0 t1 t2 t4 t5 t6 t7 t9 t11 t12 t13 t14 t15 t16 t17 t18 t19 t20 t21 t22 t23 t24 t25 t26 t27 t28 t29 t30 t31 t32 t33 t34 t35 t36 t37 t38 t39 t40 t41 t42 t43 t44 t45 t46 t47 t48 t49 t50 t51 t52 t53 t54 t55 t56 t57 t58 t59 t60 t61 t62 t63 t64 t65 t66 t67 : Value} {g gs gw a b c pa pb pc n : Nat} {s : Int} {cs : Array Value} {xa xb xc : Rat} {F : Rat → Rat}
  (kw : Blk W gw 161 #[.int .i64 (a : Int), .int .i64 (b : Int), .int .i64 (c : Int), .int .i64 s]) (kR : Blk W g 160 cs) (ha : cs[a]? = some (ptr pa)) (hb : cs[4 + b]? = some (ptr pb)) (hc8 : cs[8 + c]? = some (ptr pc)) (a4 : (a : Int) < 4) (b4 : (b : Int) < 4) (c4 : (c : Int) < 4)
  (fa : IsRat xa n (ptr pa) W) (fb : IsRat xb n (ptr pb) W) (fc : IsRat xc n (ptr pc) W) (hs : s.natAbs < 2 ^ 8) (hn8 : 8 ≤ n) (hn : n ≤ 100000)
  (hS : ∀ w' gy y, Below W.heap.size W w' → RatV w' gy y → Sz y (8 * n) → Calls Tryz.prog 94 #[ptr gs, ptr gs, ptr gy] w' (PutsS w' gs (F y)))
  (hK : ∀ v42 v43 v44 v45 v46 v47 v48 v49 v50 v51 v52 v53 v54 v55 v56 v57 v58 v59 v60 v61 v62 v63 v64 v65 W', RatV W' gs (F ((s : Rat) * (xa * (xb * xc)))) → W.grownBy W' (some gs) → RatS W' gs → K .normal ⟨#[t0, t1, t2, ptr g, t4, t5, t6, t7, ptr gs, t9, ptr gw, t11, t12, t13, t14, t15, t16, t17, t18, t19, t20, t21, t22, t23, t24, t25, t26, t27, t28, t29, t30, t31, t32, t33, t34, t35, t36, t37, t38, t39, t40, t41, v42, v43, v44, v45, v46, v47, v48, v49, v50, v51, v52, v53, v54, v55, v56, v57, v58, v59, v60, v61, v62, v63, v64, v65, t66, t67], []⟩ W') :
  (codeReg 5 (bodyOf Tryz.f93)).wp Tryz.prog K ⟨#[t0, t1, t2, ptr g, t4, t5, t6, t7, ptr gs, t9, ptr gw, t11, t12, t13, t14, t15, t16, t17, t18, t19, t20, t21, t22, t23, t24, t25, t26, t27, t28, t29, t30, t31, t32, t33, t34, t35, t36, t37, t38, t39, t40, t41, t42, t43, t44, t45, t46, t47, t48, t49, t50, t51, t52, t53, t54, t55, t56, t57, t58, t59, t60, t61, t62, t63, t64, t65, t66, t67], []⟩ W := by
 have HS := Lib.hid hS
 have HK := Lib.hid hK
 clear hS hK
 refine wp_region_noPanic ?_
 refine wp_region_list (mk := ?mk) noV_vgs [Is (ptr gs), Is (ptr gs), Is (.pointer (some ⟨gw, 3, none⟩)), Is (.int .i64 s), IsRat (s : Rat) 8, Is (ptr gw), Is (.int .i64 (a : Int)), Is (ptr g), Is (.pointer (some ⟨g, a, none⟩)), Is (ptr pa), Is (.pointer (some ⟨gw, 1, none⟩)), Is (.int .i64 (b : Int)), Is (.pointer (some ⟨g, 4, none⟩)), Is (.pointer (some ⟨g, 4 + b, none⟩)), Is (ptr pb), Is (.pointer (some ⟨gw, 2, none⟩)), Is (.int .i64 (c : Int)), Is (.pointer (some ⟨g, 8, none⟩)), Is (.pointer (some ⟨g, 8 + c, none⟩)), Is (ptr pc), IsRat (xb * xc) (2 * n), IsRat (xa * (xb * xc)) (4 * n), IsRat ((s : Rat) * (xa * (xb * xc))) (8 * n)] [.plain, .plain, .plain, .plain, .plain, .plain, .plain, .plain, .plain, .plain, .plain, .plain, .plain, .plain, .plain, .plain, .plain, .plain, .plain, .plain, .plain, .plain, .plain] 23 1 (fun w' => Blk w' gw 161 #[.int .i64 (a : Int), .int .i64 (b : Int), .int .i64 (c : Int), .int .i64 s] ∧ Blk w' g 160 cs ∧ IsRat xa n (ptr pa) w' ∧ IsRat xb n (ptr pb) w' ∧ IsRat xc n (ptr pc) w' ∧ True) ⟨is_steady _ _ _, is_steady _ _ _, is_steady _ _ _, is_steady _ _ _, nov fun _ _ _ h => h.below, is_steady _ _ _, is_steady _ _ _, is_steady _ _ _, is_steady _ _ _, is_steady _ _ _, is_steady _ _ _, is_steady _ _ _, is_steady _ _ _, is_steady _ _ _, is_steady _ _ _, is_steady _ _ _, is_steady _ _ _, is_steady _ _ _, is_steady _ _ _, is_steady _ _ _, nov fun _ _ _ h => h.below, nov fun _ _ _ h => h.below, nov fun _ _ _ h => h.below, trivial⟩ (by kernel_rfl) (by kernel_rfl) (by kernel_rfl) (by kernel_rfl) (by kernel_rfl) (by kernel_rfl) ?hmk (fun w' hB => ⟨kw.below hB kw.lt, kR.below hB kR.lt, fa.below hB, fb.below hB, fc.below hB, trivial⟩)
  (steps_all (steps_cons ?_ (steps_cons ?_ (steps_cons ?_ (steps_cons ?_ (steps_cons ?_ (steps_cons ?_ (steps_cons ?_ (steps_cons ?_ (steps_cons ?_ (steps_cons ?_ (steps_cons ?_ (steps_cons ?_ (steps_cons ?_ (steps_cons ?_ (steps_cons ?_ (steps_cons ?_ (steps_cons ?_ (steps_cons ?_ (steps_cons ?_ (steps_cons ?_ (steps_cons ?_ (steps_cons ?_ (steps_cons ?_ steps_nil)))))))))))))))))))))))) ?_
 case hmk =>
  intro u
  simp only [mkFrom, mkL, dstOf, List.range, List.range.loop, Act.put, List.setIfInBounds_toArray, List.set_cons_zero, List.set_cons_succ, List.getElem?_toArray, List.getElem?_cons_zero, List.getElem?_cons_succ, Option.bind_some]
  rfl
 ·refine step_is (o := Oper.mk (some 42) _ _ _ _ _) rfl rfl rfl rfl (fun u ws hc hd => ?_)
  go_simp
 ·refine step_is (o := Oper.mk (some 43) _ _ _ _ _) rfl rfl rfl rfl (fun u ws hc hd => ?_)
  go_simp
 ·refine step_is (o := Oper.mk (some 44) _ _ _ _ _) rfl rfl rfl rfl (fun u ws hc hd => ?_)
  go_simp
 ·refine step_is (o := Oper.mk (some 45) _ _ _ _ _) rfl rfl rfl rfl (fun u ws hc hd => ?_)
  obtain ⟨kw, kR, fa, fb, fc, _⟩ := hc
  have c1 := kw.cell 3
  have d2 : u 2 = _ := hd 2 (by kernel_rfl) (by decide)
  go_simp
 ·refine step_call (o := Oper.mk (some 46) _ _ _ _ _) rfl rfl rfl (fun u ws hc hd => ?_)
  obtain ⟨kw, kR, fa, fb, fc, _⟩ := hc
  have d3 : u 3 = _ := hd 3 (by kernel_rfl) (by decide)
  have HC := Lib.hid (newr_any (w := ws) hs)
  refine ⟨88, #[(.int .i64 s), (.int .i64 1)], ?_, HC.out⟩
  ·clear HC; go_simp
 ·refine step_is (o := Oper.mk (some 47) _ _ _ _ _) rfl rfl rfl rfl (fun u ws hc hd => ?_)
  go_simp
 ·refine step_is (o := Oper.mk (some 48) _ _ _ _ _) rfl rfl rfl rfl (fun u ws hc hd => ?_)
  obtain ⟨kw, kR, fa, fb, fc, _⟩ := hc
  have c1 := kw.cell 0
  have d5 : u 5 = _ := hd 5 (by kernel_rfl) (by decide)
  go_simp
 ·refine step_is (o := Oper.mk (some 49) _ _ _ _ _) rfl rfl rfl rfl (fun u ws hc hd => ?_)
  go_simp
 ·refine step_is (o := Oper.mk (some 50) _ _ _ _ _) rfl rfl rfl rfl (fun u ws hc hd => ?_)
  have d7 : u 7 = _ := hd 7 (by kernel_rfl) (by decide)
  have d6 : u 6 = _ := hd 6 (by kernel_rfl) (by decide)
  go_simp
 ·refine step_is (o := Oper.mk (some 51) _ _ _ _ _) rfl rfl rfl rfl (fun u ws hc hd => ?_)
  obtain ⟨kw, kR, fa, fb, fc, _⟩ := hc
  have c1 : ws.cell? ⟨g, a, none⟩ = some (ptr pa) := by rw [kR.cell]; exact ha
  have d8 : u 8 = _ := hd 8 (by kernel_rfl) (by decide)
  go_simp
 ·refine step_is (o := Oper.mk (some 52) _ _ _ _ _) rfl rfl rfl rfl (fun u ws hc hd => ?_)
  go_simp
 ·refine step_is (o := Oper.mk (some 53) _ _ _ _ _) rfl rfl rfl rfl (fun u ws hc hd => ?_)
  obtain ⟨kw, kR, fa, fb, fc, _⟩ := hc
  have c1 := kw.cell 1
  have d10 : u 10 = _ := hd 10 (by kernel_rfl) (by decide)
  go_simp
 ·refine step_is (o := Oper.mk (some 54) _ _ _ _ _) rfl rfl rfl rfl (fun u ws hc hd => ?_)
  go_simp
 ·refine step_is (o := Oper.mk (some 55) _ _ _ _ _) rfl rfl rfl rfl (fun u ws hc hd => ?_)
  have d12 : u 12 = _ := hd 12 (by kernel_rfl) (by decide)
  have d11 : u 11 = _ := hd 11 (by kernel_rfl) (by decide)
  go_simp
 ·refine step_is (o := Oper.mk (some 56) _ _ _ _ _) rfl rfl rfl rfl (fun u ws hc hd => ?_)
  obtain ⟨kw, kR, fa, fb, fc, _⟩ := hc
  have c1 : ws.cell? ⟨g, (4 + b), none⟩ = some (ptr pb) := by rw [kR.cell]; exact hb
  have d13 : u 13 = _ := hd 13 (by kernel_rfl) (by decide)
  go_simp
 ·refine step_is (o := Oper.mk (some 57) _ _ _ _ _) rfl rfl rfl rfl (fun u ws hc hd => ?_)
  go_simp
 ·refine step_is (o := Oper.mk (some 58) _ _ _ _ _) rfl rfl rfl rfl (fun u ws hc hd => ?_)
  obtain ⟨kw, kR, fa, fb, fc, _⟩ := hc
  have c1 := kw.cell 2
  have d15 : u 15 = _ := hd 15 (by kernel_rfl) (by decide)
  go_simp
 ·refine step_is (o := Oper.mk (some 59) _ _ _ _ _) rfl rfl rfl rfl (fun u ws hc hd => ?_)
  go_simp
 ·refine step_is (o := Oper.mk (some 60) _ _ _ _ _) rfl rfl rfl rfl (fun u ws hc hd => ?_)
  have d17 : u 17 = _ := hd 17 (by kernel_rfl) (by decide)
  have d16 : u 16 = _ := hd 16 (by kernel_rfl) (by decide)
  go_simp
 ·refine step_is (o := Oper.mk (some 61) _ _ _ _ _) rfl rfl rfl rfl (fun u ws hc hd => ?_)
  obtain ⟨kw, kR, fa, fb, fc, _⟩ := hc
  have c1 : ws.cell? ⟨g, (8 + c), none⟩ = some (ptr pc) := by rw [kR.cell]; exact hc8
  have d18 : u 18 = _ := hd 18 (by kernel_rfl) (by decide)
  go_simp
 ·refine step_call (o := Oper.mk (some 62) _ _ _ _ _) rfl rfl rfl (fun u ws hc hd => ?_)
  obtain ⟨kw, kR, fa, fb, fc, _⟩ := hc
  have d14 : u 14 = _ := hd 14 (by kernel_rfl) (by decide)
  have d19 : u 19 = _ := hd 19 (by kernel_rfl) (by decide)
  have HC := Lib.hid (upR (m := (2 * n)) (xmul_any (n := n) fb fc (by omega)) (by omega))
  refine ⟨89, #[(ptr pb), (ptr pc)], ?_, HC.out⟩
  ·clear HC; go_simp
 ·refine step_call (o := Oper.mk (some 63) _ _ _ _ _) rfl rfl rfl (fun u ws hc hd => ?_)
  obtain ⟨kw, kR, fa, fb, fc, _⟩ := hc
  have d9 : u 9 = _ := hd 9 (by kernel_rfl) (by decide)
  have HC := Lib.hid (upR (m := (4 * n)) (xmul_any (n := (2 * n)) (IsRat.up fa (by omega)) (hd 20 (by kernel_rfl) (by decide) : IsRat (xb * xc) (2 * n) (u 20) ws) (by omega)) (by omega))
  refine ⟨89, #[(ptr pa), u 20], ?_, HC.out⟩
  ·clear HC; go_simp
 ·refine step_call (o := Oper.mk (some 64) _ _ _ _ _) rfl rfl rfl (fun u ws hc hd => ?_)
  obtain ⟨kw, kR, fa, fb, fc, _⟩ := hc
  have HC := Lib.hid (upR (m := (8 * n)) (xmul_any (n := (4 * n)) (IsRat.up (hd 4 (by kernel_rfl) (by decide) : IsRat (s : Rat) 8 (u 4) ws) (by omega)) (hd 21 (by kernel_rfl) (by decide) : IsRat (xa * (xb * xc)) (4 * n) (u 21) ws) (by omega)) (by omega))
  refine ⟨89, #[u 4, u 21], ?_, HC.out⟩
  ·clear HC; go_simp
 ·intro u w1 hb1 hf hn1
  have f0 : u 0 = _ := hf 0 (by decide) (by decide)
  have f1 : u 1 = _ := hf 1 (by decide) (by decide)
  obtain ⟨gy, f22, hy, hsy⟩ : IsRat _ _ (u 22) w1 := hf 22 (by decide) (by decide)
  have HC := Lib.hid (HS.out w1 gy _ hb1 hy (hsy.up (by omega)))
  have Hb := Lib.hid hb1
  refine wpAny_tail (j := 23) (o := Oper.mk (some 65) _ _ _ _ _) rfl (by kernel_rfl) (fun K9 hK9 => ?_)
  rw [f0, f1, f22]
  clear hf hn1 hy hsy hb1 f0 f1 f22 HS
  go_simp
  refine HC.out.mono ?_
  rintro _ w2 ⟨rfl, hr, hg, hsl⟩
  try simp only []
  refine hK9.out _ _ ?_
  clear hK9 K9
  refine wpAny_end (by kernel_rfl) ?_
  refine NoPanic.normal ?_
  exact HK.out _ _ _ _ _ _ _ _ _ _ _ _ _ _ _ _ _ _ _ _ _ _ _ _ _ hr (grown_lift Hb.out hg) hsl
end Go.Proofs.YtebpggfccljagaaGreat
