import Derived.Test.YtebpggfccljagaaGreatC7
import Derived.Test.YtebpggfccljagaaGreatC2
import Derived.IntWalk
import Derived.Test.YtebpggfccljagaaGreatC1
namespace Go.Proofs.YtebpggfccljagaaGreat
open Go.RowKit
open Wh
set_option linter.unusedSimpArgs false
def WhZ (w : World) (g : Nat) : Prop := Blk w g 35 #[.bool false, .slice none 0 0]
theorem whZ_vgs : Vgs WhZ where
 lt := fun h => Blk.lt h
 below := fun h hb => Blk.below h hb (Blk.lt h)
 off := fun h hne hg => Blk.grown h hg (by intro e; injection e with e; exact hne e)
theorem isWh_steady (b : Bool) (z : Int) (k : Nat) : Steady WhZ b (IsWh z k) where
 below := fun h hb => h.below hb
 off := fun h hv _ hg => h.far hv (by decide) hg
def IsWhBlk (z : Int) (k : Nat) (v : Value) (w : World) : Prop := ∃ g D p q, v = ptr g ∧ Blk w g 35 #[.bool (decide (z < 0)), .slice D p q] ∧ SlW w w.heap.size D p q z.natAbs ∧ z.natAbs < 2 ^ k
theorem isWhBlk_steady (z : Int) (k : Nat) : Steady WhZ true (IsWhBlk z k) where
 below := by
  rintro v w w' ⟨g, D, p, q, rfl, h, h2, h3⟩ hb
  exact ⟨g, D, p, q, rfl, h.below hb h.lt, h2.below hb, h3⟩
 off := by
  rintro v w w' r ⟨g, D, p, q, rfl, h, h2, h3⟩ hv hne hg
  exact ⟨g, D, p, q, rfl, h.grown hg (by intro e; injection e with e; exact hne rfl (by rw [e])), h2.far hv (by decide) hg, h3⟩
set_option maxRecDepth 100000 in
set_option maxHeartbeats 4000000 in
theorem wcmp_any {w : World} {v1 v2 : Value} {a b : Int} {k : Nat} (h1 : IsWh a k v1 w) (h2 : IsWh b k v2 w) (hk : k ≤ 10000000) : Calls Tryz.prog 31 #[v1, v2] w (Ret w (Is (.int .i64 (cmpI a b)))) := by
 obtain ⟨A, n, c, rfl, s1, z1⟩ := h1
 obtain ⟨C, m, d, rfl, s2, z2⟩ := h2
 go_enter Tryz.func31, Tryz.ntmps31
 go_wp2_with fail
 have hbw : Below w.heap.size w ((w.alloc (Obj.cells #[.bool (decide (a < 0)), .slice A n c] 35)).alloc (Obj.cells #[.bool (decide (b < 0)), .slice C m d] 35)) := (((Below.refl _ _).alloc (Nat.le_refl _) _).alloc (by simp <;> omega) _)
 have k0 : Blk ((w.alloc (Obj.cells #[.bool (decide (a < 0)), .slice A n c] 35)).alloc (Obj.cells #[.bool (decide (b < 0)), .slice C m d] 35)) (w.heap.size) 35 #[.bool (decide (a < 0)), .slice A n c] := (((Blk.new w 35 #[.bool (decide (a < 0)), .slice A n c]).alloc (Obj.cells #[.bool (decide (b < 0)), .slice C m d] 35))).cast (by simp)
 have k1 : Blk ((w.alloc (Obj.cells #[.bool (decide (a < 0)), .slice A n c] 35)).alloc (Obj.cells #[.bool (decide (b < 0)), .slice C m d] 35)) (w.heap.size + 1) 35 #[.bool (decide (b < 0)), .slice C m d] := ((Blk.new (w.alloc (Obj.cells #[.bool (decide (a < 0)), .slice A n c] 35)) 35 #[.bool (decide (b < 0)), .slice C m d])).cast (by simp)
 generalize hW : ((w.alloc (Obj.cells #[.bool (decide (a < 0)), .slice A n c] 35)).alloc (Obj.cells #[.bool (decide (b < 0)), .slice C m d] 35)) = W at *
 clear hW
 have fa : IsWh a k _ W := ⟨A, n, c, rfl, s1.below hbw, z1⟩
 have fb : IsWh b k _ W := ⟨C, m, d, rfl, s2.below hbw, z2⟩
 clear s1 s2
 refine wp_region_noPanic ?_
 refine wp_region_list2 (mk := ?mk) whZ_vgs [Is (.agg #[(.bool (decide (a < 0))), (.slice A n c)]), Is (.agg #[(.bool (decide (b < 0))), (.slice C m d)]), IsWh (-b) k, IsWh (a + -b) (k + 1), Is undef, IsWhBlk (a + -b) (k + 1)] [.plain, .plain, .plain, .plain, .fresh, .fills 4] 6 0 (fun w' => Blk w' (w.heap.size) 35 #[.bool (decide (a < 0)), .slice A n c] ∧ Blk w' (w.heap.size + 1) 35 #[.bool (decide (b < 0)), .slice C m d] ∧ IsWh a k (.agg #[(.bool (decide (a < 0))), (.slice A n c)]) w' ∧ IsWh b k (.agg #[(.bool (decide (b < 0))), (.slice C m d)]) w' ∧ True) ⟨is_steady _ _ _, is_steady _ _ _, isWh_steady _ _ _, isWh_steady _ _ _, is_steady _ _ _, isWhBlk_steady _ _, trivial⟩ (by kernel_rfl) (by kernel_rfl) (by kernel_rfl) (by kernel_rfl) (by kernel_rfl) (by kernel_rfl) ?hmk (fun w' hB => ⟨k0.below hB k0.lt, k1.below hB k1.lt, fa.below hB, fb.below hB, trivial⟩)
  (steps_all (steps_cons ?_ (steps_cons ?_ (steps_cons ?_ (steps_cons ?_ (steps_cons ?_ (steps_cons ?_ steps_nil))))))) ?_
 case hmk =>
  intro u
  simp only [mkFrom, mkL, dstOf, List.range, List.range.loop, Act.put, List.setIfInBounds_toArray, List.set_cons_zero, List.set_cons_succ, List.getElem?_toArray, List.getElem?_cons_zero, List.getElem?_cons_succ, Option.bind_some]
  rfl
 ·refine step_is (o := Oper.mk (some 6) _ _ _ _ _) rfl rfl rfl rfl (fun u ws hc hd => ?_)
  obtain ⟨k0, k1, fa, fb, _⟩ := hc
  exact run_load_part 35 (.tmp 2) rfl (w.heap.size) 0 rfl #[(.bool (decide (a < 0))), (.slice A n c)] _ k0 rfl Tryz.underlying35 rfl (by kernel_rfl)
 ·refine step_is (o := Oper.mk (some 7) _ _ _ _ _) rfl rfl rfl rfl (fun u ws hc hd => ?_)
  obtain ⟨k0, k1, fa, fb, _⟩ := hc
  exact run_load_part 35 (.tmp 3) rfl (w.heap.size + 1) 0 rfl #[(.bool (decide (b < 0))), (.slice C m d)] _ k1 rfl Tryz.underlying35 rfl (by kernel_rfl)
 ·refine step_call (o := Oper.mk (some 8) _ _ _ _ _) rfl rfl rfl (fun u ws hc hd => ?_)
  obtain ⟨k0, k1, fa, fb, _⟩ := hc
  have d1 : u 1 = _ := hd 1 (by kernel_rfl) (by decide)
  have HC := Lib.hid (wnot_any fb)
  refine ⟨35, #[(.agg #[(.bool (decide (b < 0))), (.slice C m d)])], ?_, HC.out⟩
  ·clear HC; go_simp
 ·refine step_call (o := Oper.mk (some 9) _ _ _ _ _) rfl rfl rfl (fun u ws hc hd => ?_)
  obtain ⟨k0, k1, fa, fb, _⟩ := hc
  have d0 : u 0 = _ := hd 0 (by kernel_rfl) (by decide)
  have HC := Lib.hid (wplus_any fa (hd 2 (by kernel_rfl) (by decide) : IsWh (-b) k (u 2) ws) hk)
  refine ⟨33, #[(.agg #[(.bool (decide (a < 0))), (.slice A n c)]), u 2], ?_, HC.out⟩
  ·clear HC; go_simp
 ·refine step_new (o := Oper.mk (some 5) _ _ _ _ _) rfl rfl rfl (fun u ws hc => ⟨.cells #[.bool false, .slice none 0 0] 35, ?_, Blk.new ws 35 _⟩)
  go_simp
 ·refine step_store (a := 4) (o := Oper.mk none _ _ _ _ _) rfl rfl rfl rfl (fun u ws g1 hc hd h0 hlo hv K hK => ?_)
  obtain ⟨D, p, q, e3, hs3, hb3⟩ : IsWh _ _ (u 3) ws := hd 3 (by kernel_rfl) (by decide)
  refine wp_store_blk 35 (.tmp 5) (.tmp 9) rfl #[.bool (decide (a + -b < 0)), .slice D p q] h0 e3 hv (by simp) (by kernel_rfl) (by simp [Value.oneCell']) (fun w9 k9 hg9 => ?_)
  exact hK w9 ⟨g1, D, p, q, rfl, k9, hs3.far hv (by decide) hg9, hb3⟩ hg9
 ·intro u w1 hb1 hf hn1 hap hfl hlo
  obtain ⟨g, D, p, q, e5, k5, hs5, _⟩ : IsWhBlk _ _ (u 5) w1 := hf 5 (by decide) (by decide)
  have n5 := hfl 5 (by decide) 4 rfl
  rw [e5] at n5
  have hb := hbw.trans (hb1.mono hbw.size)
  have hp := slw_pos hs5
  have c0_ := k5.cell 0
  have c1_ := k5.cell 1
  have hlen := hs5.1.out
  rw [← n5]
  clear hf hn1 hap hfl hlo hb1 e5 n5 k0 k1 fa fb
  refine wpAny_end (by kernel_rfl) ?_
  refine NoPanic.normal ?_
  rcases Int.lt_trichotomy (a + -b) 0 with h0 | h0 | h0
  ·rw [decide_eq_true h0] at c0_
   have hpi : 0 < p := hp.2 (by omega)
   have hp0 : ¬ p = 0 := by omega
   have hpn : ((p : Int) == 0) = false := by simp; omega
   have HE := Lib.hid (show cmpI a b = -1 by unfold cmpI; rw [if_pos (by omega)])
   clear hp h0 hlen
   go_wp2_with fail
   go_ret
   exact ⟨_, rfl, by rw [HE.out]; rfl, hb⟩
  ·have hp0 : p = 0 := by rw [hlen, h0]; simp [wds_zero]
   subst hp0
   have HE := Lib.hid (show cmpI a b = 0 by unfold cmpI; rw [if_neg (by omega), if_neg (by omega)])
   clear hp h0 hlen
   go_wp2_with fail
   go_ret
   exact ⟨_, rfl, by rw [HE.out]; rfl, hb⟩
  ·rw [decide_eq_false (by omega)] at c0_
   have hpi : 0 < p := hp.2 (by omega)
   have hp0 : ¬ p = 0 := by omega
   have hpn : ((p : Int) == 0) = false := by simp; omega
   have HE := Lib.hid (show cmpI a b = 1 by unfold cmpI; rw [if_neg (by omega), if_pos (by omega)])
   clear hp h0 hlen
   go_wp2_with fail
   go_ret
   exact ⟨_, rfl, by rw [HE.out]; rfl, hb⟩
set_option maxRecDepth 100000 in
set_option maxHeartbeats 2000000 in
theorem small_any {w : World} {z : Nat} (hz : z < 4294967296) : Calls Tryz.prog 32 #[.int .i64 (z : Int)] w (Ret w (IsWh (z : Int) 32)) := by
 have h0 : ¬ (z : Int) < 0 := by omega
 have h := ((Sw.start w).new 35 #[.bool false, .slice none 0 0]).new 115 #[.int .u32 (z : Int), .int .u32 ((0 : Nat) : Int)]
 simp only [size_alloc] at h
 have hr := reads_blk (B := w.heap.size + 1 + 1) (l := [z, 0]) (h.get 0 rfl) (by omega)
 have hwd : Wd [z, 0] := wd_cons.2 ⟨hz, wd_cons.2 ⟨by decide, wd_nil⟩⟩
 have hv : val [z, 0] = z := by simp [val_cons, val_nil]
 have HL := Lib.hid (low_any (c := 2) hr rfl (by simp) (by decide) hwd)
 have hrc := reads_cut hr hwd
 rw [hv] at hrc
 have HV := Lib.hid (And.intro hv (And.intro hrc (wds_take _ _ rfl hwd).2))
 clear hr hwd hv hrc
 have Hz := Lib.hid hz
 go_enter Tryz.func32, Tryz.ntmps32
 go_wp2_with fail
 rw [show (z : Int) / 4294967296 = ((0 : Nat) : Int) by omega]
 refine HL.out.mono ?_
 rintro _ _ ⟨m, rfl, hm, rfl⟩
 rw [HV.out.1] at hm
 replace h := h.add (Stw.sl (some ⟨w.heap.size + 1, 0, none⟩) m 2 z) ⟨hm, by have := HV.out.2.2; rw [HV.out.1] at this; simp at this; omega, by decide, by simpa using HV.out.2.1⟩
 have Hm := Lib.hid hm
 clear HL HV hm
 generalize hW : World.alloc (World.alloc _ _) _ = W at h ⊢
 clear hW
 go_wp2_with (refine wpList_store_all (by rfl) 35 (.tmp 2) (.tmp 19) (by rfl) #[.bool false, .slice (some ⟨w.heap.size + 1, 0, none⟩) m 2] (by rfl) (by rfl) (h.get 1 rfl) (by simp) (by kernel_rfl) (by simp [Value.oneCell', ptr]) ?_; intro V1 k9 hg9; replace h := h.put 1 rfl (by unfold OwnT; decide) k9 hg9; simp only [List.set_cons_succ, List.set_cons_zero] at h; clear k9 hg9)
 refine bodyPost_ret (results_row1 rfl _ _ _ _ _ (by rfl) (h.get 1 rfl) Tryz.underlying35 rfl (by kernel_rfl)) rfl ?_
 exact ⟨_, rfl, ⟨_, _, _, by rw [decide_eq_false (by omega)], by simpa using h.fact.1, by simpa using Hz.out⟩, h.bel⟩
theorem wv_make {b : Bool} {s : ByteArray} (h2 : s.data.toList = [] → b = false) (h3 : Formed s.data.toList) : Wv b s (num (b, s)) := by
 have hb := bys_bval _ s.data.toList rfl h3
 have hm : (num (b, s)).natAbs = bval s.data.toList := by
  unfold num
  simp only [sgn_abs]
 refine ⟨?_, ?_⟩
 ·unfold num
  simp only []
  rcases Nat.eq_zero_or_pos (bval s.data.toList) with h0 | h0
  ·have : s.data.toList = [] := by
    rw [← hb, h0, bys_zero]
   rw [h2 this]
   simp [sgn]
  ·unfold sgn
   cases b <;> simp <;> omega
 ·rw [hm, hb]
def Evened (w : World) (b : Bool) (s : ByteArray) (k : Nat) (e : Ending) (w' : World) : Prop := ∃ r : Bool, e = .returned (.bool r) ∧ (r = true → s.size ≤ k ∧ ∃ z, Wv b s z) ∧ Below w.heap.size w w'
set_option maxRecDepth 100000 in
set_option maxHeartbeats 1000000 in
theorem even_any {w : World} {b : Bool} {s : ByteArray} {k : Nat} (hk : k ≤ 100000) :
  Calls Tryz.prog 54 #[.agg #[.bool b, .string s], .int .i64 (k : Int)] w (Evened w b s k) := by
 have hl : s.data.toList.length = s.size := Array.length_toList
 rcases Nat.lt_or_ge k s.size with hlt | hle
 ·have hd : decide ((s.size : Int) ≤ (k : Int)) = false := by simp; omega
  have hd2 : ¬ s.size ≤ k := by omega
  clear hl
  go_enter Tryz.func54, Tryz.ntmps54
  go_wp2
  go_ret
  exact ⟨false, rfl, fun h => (by cases h), (Below.refl _ _).alloc (Nat.le_refl _) _⟩
 ·rcases Nat.eq_zero_or_pos s.size with h0 | h0
  ·have he : s.data.toList = [] := List.eq_nil_of_length_eq_zero (by omega)
   obtain rfl := str_empty he
   have Hv := Lib.hid (wv_make (b := false) (s := ⟨#[]⟩) (fun _ => rfl) (by intro x hx; simp at hx))
   have hki : (0 : Int) ≤ (k : Int) := by omega
   clear hl h0 he
   cases b
   ·go_enter Tryz.func54, Tryz.ntmps54
    go_wp2
    go_ret
    exact ⟨true, rfl, fun _ => ⟨by simp [ByteArray.size], _, Hv.out⟩, (Below.refl _ _).alloc (Nat.le_refl _) _⟩
   ·go_enter Tryz.func54, Tryz.ntmps54
    go_wp2
    go_ret
    exact ⟨false, rfl, fun h => (by cases h), (Below.refl _ _).alloc (Nat.le_refl _) _⟩
  ·obtain ⟨e1, e2⟩ := str_facts h0
   have hi0 : (0 : Int) < (s.size : Int) := by omega
   have hn0 : ¬ s.size = 0 := by omega
   have hki : (s.size : Int) ≤ (k : Int) := by omega
   by_cases hz : s[0].toNat = 0
   ·have hb1 : ((s[0].toNat : Int) != 0) = false := by simp; omega
    clear hl
    go_enter Tryz.func54, Tryz.ntmps54
    go_wp2
    go_ret
    exact ⟨false, rfl, fun h => (by cases h), (Below.refl _ _).alloc (Nat.le_refl _) _⟩
   ·have hb1 : ((s[0].toNat : Int) != 0) = true := by simp; omega
    have hv : Wv b s (num (b, s)) := wv_make (fun e => absurd e (by intro e; rw [e] at hl; simp only [List.length_nil] at hl; omega)) (fun x hx => by
     rw [str_head h0] at hx
     injection hx with hx
     rw [← hx]
     intro h7
     rw [h7] at hz
     exact hz rfl)
    have Hv := Lib.hid hv
    clear hl hv
    go_enter Tryz.func54, Tryz.ntmps54
    go_wp2
    go_ret
    exact ⟨true, rfl, fun _ => ⟨hle, _, Hv.out⟩, (Below.refl _ _).alloc (Nat.le_refl _) _⟩
def IsFr (p : Rat) (k : Nat) (v : Value) (w : World) : Prop := ∃ (N D : Int) (A : Option Addr) (n c : Nat) (C : Option Addr) (m d : Nat), v = .agg #[.bool (decide (N < 0)), .slice A n c, .bool (decide (D < 0)), .slice C m d] ∧
 IsWh N k (.agg #[.bool (decide (N < 0)), .slice A n c]) w ∧ IsWh D k (.agg #[.bool (decide (D < 0)), .slice C m d]) w ∧ 0 < D ∧ p = (N : Rat) / (D : Rat)
theorem IsFr.below {p : Rat} {k : Nat} {v : Value} {w w' : World} (h : IsFr p k v w) (hb : Below w.heap.size w w') : IsFr p k v w' := by
 obtain ⟨N, D, A, n, c, C, m, d, rfl, h1, h2, h3⟩ := h
 exact ⟨N, D, A, n, c, C, m, d, rfl, h1.below hb, h2.below hb, h3⟩
theorem IsFr.far {p : Rat} {k r : Nat} {v : Value} {w w' : World} {t : TypeId} {cs : Array Value} (h : IsFr p k v w) (hk : Blk w r t cs) (ht : t ≠ 115) (hg : w.grownBy w' (some r)) : IsFr p k v w' := by
 obtain ⟨N, D, A, n, c, C, m, d, rfl, h1, h2, h3⟩ := h
 exact ⟨N, D, A, n, c, C, m, d, rfl, h1.far hk ht hg, h2.far hk ht hg, h3⟩
theorem IsFr.up {p : Rat} {k j : Nat} {v : Value} {w : World} (h : IsFr p k v w) (hj : k ≤ j) : IsFr p j v w := by
 obtain ⟨N, D, A, n, c, C, m, d, rfl, h1, h2, h3⟩ := h
 exact ⟨N, D, A, n, c, C, m, d, rfl, h1.up hj, h2.up hj, h3⟩
set_option maxRecDepth 100000 in
set_option maxHeartbeats 4000000 in
theorem frnot_any {w : World} {v : Value} {x : Rat} {k : Nat} (h : IsFr x k v w) : Calls Tryz.prog 75 #[v] w (Ret w (IsFr (-x) k)) := by
 obtain ⟨N, D, A, n, c, C, m, d, rfl, fn, fd, hD, hx⟩ := h
 have HX := Lib.hid (And.intro hD hx)
 clear hD hx
 go_enter Tryz.func75, Tryz.ntmps75
 go_wp2_with fail
 have hbw : Below w.heap.size w ((w.alloc (Obj.cells #[.bool (decide (N < 0)), .slice A n c, .bool (decide (D < 0)), .slice C m d] 37)).alloc (Obj.cells #[.bool false, .slice none 0 0, .bool false, .slice none 0 0] 37)) := (((Below.refl _ _).alloc (Nat.le_refl _) _).alloc (by simp <;> omega) _)
 have k0 : Blk ((w.alloc (Obj.cells #[.bool (decide (N < 0)), .slice A n c, .bool (decide (D < 0)), .slice C m d] 37)).alloc (Obj.cells #[.bool false, .slice none 0 0, .bool false, .slice none 0 0] 37)) (w.heap.size) 37 #[.bool (decide (N < 0)), .slice A n c, .bool (decide (D < 0)), .slice C m d] := (((Blk.new w 37 #[.bool (decide (N < 0)), .slice A n c, .bool (decide (D < 0)), .slice C m d]).alloc (Obj.cells #[.bool false, .slice none 0 0, .bool false, .slice none 0 0] 37))).cast (by simp)
 have k1 : Blk ((w.alloc (Obj.cells #[.bool (decide (N < 0)), .slice A n c, .bool (decide (D < 0)), .slice C m d] 37)).alloc (Obj.cells #[.bool false, .slice none 0 0, .bool false, .slice none 0 0] 37)) (w.heap.size + 1) 37 #[.bool false, .slice none 0 0, .bool false, .slice none 0 0] := ((Blk.new (w.alloc (Obj.cells #[.bool (decide (N < 0)), .slice A n c, .bool (decide (D < 0)), .slice C m d] 37)) 37 #[.bool false, .slice none 0 0, .bool false, .slice none 0 0])).cast (by simp)
 generalize hW : ((w.alloc (Obj.cells #[.bool (decide (N < 0)), .slice A n c, .bool (decide (D < 0)), .slice C m d] 37)).alloc (Obj.cells #[.bool false, .slice none 0 0, .bool false, .slice none 0 0] 37)) = W at *
 clear hW
 have fn := fn.below hbw
 have fd := fd.below hbw
 refine wp_region_noPanic ?_
 refine wp_region_list (mk := ?mk) whZ_vgs [Is (ptr w.heap.size), Is (.agg #[(.bool (decide (N < 0))), (.slice A n c)]), IsWh (-N) k, Is (.pointer (some ⟨w.heap.size, 2, none⟩)), Is (.agg #[(.bool (decide (D < 0))), (.slice C m d)])] [.plain, .plain, .plain, .plain, .plain] 5 2 (fun w' => Blk w' (w.heap.size) 37 #[.bool (decide (N < 0)), .slice A n c, .bool (decide (D < 0)), .slice C m d] ∧ IsWh N k (.agg #[(.bool (decide (N < 0))), (.slice A n c)]) w' ∧ IsWh D k (.agg #[(.bool (decide (D < 0))), (.slice C m d)]) w' ∧ True) ⟨is_steady _ _ _, is_steady _ _ _, isWh_steady _ _ _, is_steady _ _ _, is_steady _ _ _, trivial⟩ (by kernel_rfl) (by kernel_rfl) (by kernel_rfl) (by kernel_rfl) (by kernel_rfl) (by kernel_rfl) ?hmk (fun w' hB => ⟨k0.below hB k0.lt, fn.below hB, fd.below hB, trivial⟩)
  (steps_all (steps_cons ?_ (steps_cons ?_ (steps_cons ?_ (steps_cons ?_ (steps_cons ?_ steps_nil)))))) ?_
 case hmk =>
  intro u
  simp only [mkFrom, mkL, dstOf, List.range, List.range.loop, Act.put, List.setIfInBounds_toArray, List.set_cons_zero, List.set_cons_succ, List.getElem?_toArray, List.getElem?_cons_zero, List.getElem?_cons_succ, Option.bind_some]
  rfl
 ·refine step_is (o := Oper.mk (some 3) _ _ _ _ _) rfl rfl rfl rfl (fun u ws hc hd => ?_)
  go_simp
 ·refine step_is (o := Oper.mk (some 4) _ _ _ _ _) rfl rfl rfl rfl (fun u ws hc hd => ?_)
  obtain ⟨k0, fn, fd, _⟩ := hc
  have d0 : u 0 = _ := hd 0 (by kernel_rfl) (by decide)
  exact run_load_part 35 (.tmp 3) rfl (w.heap.size) 0 d0 #[(.bool (decide (N < 0))), (.slice A n c)] _ k0 rfl Tryz.underlying35 rfl (by kernel_rfl)
 ·refine step_call (o := Oper.mk (some 5) _ _ _ _ _) rfl rfl rfl (fun u ws hc hd => ?_)
  obtain ⟨k0, fn, fd, _⟩ := hc
  have d1 : u 1 = _ := hd 1 (by kernel_rfl) (by decide)
  have HC := Lib.hid (wnot_any fn)
  refine ⟨35, #[(.agg #[(.bool (decide (N < 0))), (.slice A n c)])], ?_, HC.out⟩
  ·clear HC; go_simp
 ·refine step_is (o := Oper.mk (some 6) _ _ _ _ _) rfl rfl rfl rfl (fun u ws hc hd => ?_)
  go_simp
 ·refine step_is (o := Oper.mk (some 7) _ _ _ _ _) rfl rfl rfl rfl (fun u ws hc hd => ?_)
  obtain ⟨k0, fn, fd, _⟩ := hc
  have d3 : u 3 = _ := hd 3 (by kernel_rfl) (by decide)
  exact run_load_part 35 (.tmp 6) rfl (w.heap.size) 2 d3 #[(.bool (decide (D < 0))), (.slice C m d)] _ k0 rfl Tryz.underlying35 rfl (by kernel_rfl)
 ·intro u w1 hb1 hf hn1
  obtain ⟨E, p, q, e2, hs, hz⟩ : IsWh _ _ (u 2) w1 := hf 2 (by decide) (by decide)
  have f4 : u 4 = _ := hf 4 (by decide) (by decide)
  obtain ⟨bb, hbb⟩ : ∃ bb, bb = decide (-N < 0) := ⟨_, rfl⟩
  rw [← hbb] at e2
  have HB := Lib.hid hbb
  clear hbb
  have fd1 := fd.below hb1
  have kr := k1.below hb1 k1.lt
  clear hf hn1
  refine wpAny_tail (j := 5) (o := Oper.mk (some 8) _ _ _ _ _) rfl (by kernel_rfl) (fun K hK => ?_)
  rw [e2, f4]
  go_simp
  refine hK.out _ _ ?_
  clear hK K
  refine wpAny_store (j := 6) (o := Oper.mk none _ _ _ _ _) rfl (by kernel_rfl) rfl 37 (.tmp 2) (.tmp 8) rfl (w.heap.size + 1) 0 #[.bool bb, .slice E p q, .bool (decide (D < 0)), .slice C m d] rfl rfl #[.bool bb, .slice E p q, .bool (decide (D < 0)), .slice C m d] kr (by simp) rfl (by kernel_rfl) (by simp [Value.oneCell']) (fun w2 k9 hg9 hs9 => ?_)
  refine wpAny_end (by kernel_rfl) ?_
  refine NoPanic.normal ?_
  go_wp2_with fail
  refine bodyPost_ret (results_row1 rfl _ _ _ _ _ (by rfl) k9 Tryz.underlying37 rfl (by kernel_rfl)) rfl ?_
  rw [HB.out]
  refine ⟨_, rfl, ⟨-N, D, E, p, q, C, m, d, rfl, ⟨E, p, q, rfl, hs.far kr (by decide) hg9, hz⟩, fd1.far kr (by decide) hg9, HX.out.1, ?_⟩, own_set hbw hb1 (by omega) hg9⟩
  rw [HX.out.2, Rat.intCast_neg]
  grind
theorem bval_app : ∀ (a b : List UInt8), bval (a ++ b) = bval a * 256 ^ b.length + bval b
 | [], b => by rw [List.nil_append, bval_nil, Nat.zero_mul, Nat.zero_add]
 | x :: a, b => by
  rw [List.cons_append, bval_cons, bval_cons, bval_app a b, List.length_append, Nat.pow_add, Nat.add_mul, Nat.mul_assoc, Nat.add_assoc]
def bpart (l : List UInt8) (j u : Nat) : Nat := bval ((l.drop (j - u)).take u)
theorem bpart_step {l : List UInt8} {j u : Nat} (hu : u < j) (hj : j ≤ l.length) : bpart l j (u + 1) = bpart l j u + (l[j - u - 1]'(by omega)).toNat * 256 ^ u := by
 unfold bpart
 rw [List.drop_eq_getElem_cons (i := j - (u + 1)) (by omega), List.take_succ_cons, bval_cons, List.length_take, List.length_drop, show j - (u + 1) + 1 = j - u by omega, Nat.min_eq_left (by omega), Nat.add_comm]
 congr 1
theorem bpart_lt (l : List UInt8) (j u : Nat) : bpart l j u < 256 ^ u := by
 unfold bpart
 refine Nat.lt_of_lt_of_le (bval_lt _) (Nat.pow_le_pow_right (by decide) ?_)
 rw [List.length_take]
 omega
theorem bpart_end {l : List UInt8} {j u t : Nat} (hj : j + 4 * t = l.length) (hu : u ≤ j) : bval (l.drop (j - u)) = bval (l.drop j) + 4294967296 ^ t * bpart l j u := by
 have h1 : l.drop (j - u) = (l.drop (j - u)).take u ++ l.drop j := by
  have := (List.take_append_drop u (l.drop (j - u))).symm
  rw [List.drop_drop, show j - u + u = j by omega] at this
  exact this
 have h2 : bval (l.drop (j - u)) = bval ((l.drop (j - u)).take u ++ l.drop j) := congrArg bval h1
 rw [h2, bval_app, List.length_drop, show l.length - j = 4 * t by omega, show (4294967296 : Nat) = 256 ^ 4 by decide, ← Nat.pow_mul, Nat.add_comm, Nat.mul_comm]
 rfl
theorem Stw.rd (A : Option Addr) (l : List Nat) : Stw fun w => ReadsW w w.heap.size A l := ⟨fun h hb => (h.below hb).more hb.size, fun h hk ht hg => (h.other hg (Nat.le_refl _) fun q e => by injection e with e; subst e; exact ⟨_, _, _, hk, ht⟩).more hg.size⟩
set_option maxRecDepth 100000 in
set_option maxHeartbeats 4000000 in
theorem tof_any {w : World} {b : Bool} {s : ByteArray} {z : Int} {k : Nat} (hv : Wv b s z) (hk : s.size ≤ k) (hkk : k ≤ 100000) :
  Calls Tryz.prog 22 #[.agg #[.bool b, .string s]] w (Ret w (IsWh z (8 * k))) := by
 obtain ⟨l, hl⟩ : ∃ l, l = s.data.toList := ⟨_, rfl⟩
 have hn : s.size = l.length := by rw [hl]; exact Array.length_toList.symm
 have hget : ∀ j (h : j < s.size) (h' : j < l.length), s[j] = l[j] := by subst hl; intro j h h'; rfl
 have hz : bval l = z.natAbs := by rw [hl, hv.mag, bval_b]
 have hzb : z.natAbs < 2 ^ (8 * k) := by
  rw [← hz, Nat.pow_mul]
  exact Nat.lt_of_lt_of_le (bval_lt l) (Nat.pow_le_pow_right (by decide) (by omega))
 have hb : b = decide (z < 0) := hv.neg
 have Hn := Lib.hid (And.intro hn (And.intro hget (And.intro hz (And.intro hzb hb))))
 have hs : s.size ≤ 100000 := by omega
 clear hv hk hkk hl hn hget hz hzb hb
 have h := ((Sw.start w).new 23 #[.bool b, .string s]).new 35 #[.bool false, .slice none 0 0]
 simp only [size_alloc] at h
 go_enter Tryz.func22, Tryz.ntmps22
 go_wp2_with fail
 generalize hW : (w.alloc (Obj.cells #[.bool b, .string s] 23)).alloc (Obj.cells #[.bool false, .slice none 0 0] 35) = W0 at h ⊢
 clear hW
 go_loopg [3, 4] (s.size + 4) (fun k ov iv wr => ∃ (A' : Option Addr) (n' c' t : Nat) (L : List Nat), ov = .slice A' n' c' ∧ iv = .int .i64 ((s.size : Int) - 1 - 4 * (t : Int)) ∧ k = s.size + 4 - 4 * t ∧ 4 * t ≤ s.size + 3 ∧ OwnW wr W0.heap.size (.slice A' n' c') L ∧ Below W0.heap.size W0 wr ∧
  Hid (L.length = t ∧ Wd L ∧ val L = bval (l.drop (s.size - 4 * t))))
 case atStart => exact ⟨none, 0, 0, 0, [], rfl, by simp, by omega, by omega, OwnW.nil _ _, Below.refl _ _, rfl, wd_nil, by rw [val_nil, List.drop_of_length_le (by rw [← Hn.out.1]; omega)]; rfl⟩
 case round =>
  obtain ⟨A', n', c', t, L, rfl, rfl, hk, ht, hown, hbel, hL⟩ := hrel
  have Hk := Lib.hid hk
  clear hk
  have h' := h.call hbel
  have c0_ := (h'.get 1 rfl).cell 1
  by_cases hin : 4 * t < s.size
  ·obtain ⟨j, hj⟩ : ∃ j, s.size = j + 4 * t := ⟨s.size - 4 * t, by omega⟩
   have e1 : (s.size : Int) - 1 - 4 * (t : Int) = (j : Int) - 1 := by omega
   have hj0 : 0 < j := by omega
   have hjl : j ≤ 100000 := by omega
   rw [e1]
   go_wp2
   go_loopg [5, 6] 4 (fun k dv kv wq => ∃ (u : Nat), wq = wr ∧ dv = .int .u32 ((bpart l j u : Nat) : Int) ∧ kv = .int .i64 (u : Int) ∧ k = 4 - u ∧ u ≤ 4 ∧ u ≤ j)
   case atStart => exact ⟨0, rfl, by unfold bpart; rfl, rfl, by omega, by omega, by omega⟩
   case round =>
    obtain ⟨u, rfl, rfl, rfl, hku, hu4, huj⟩ := hrel
    have Hku := Lib.hid hku
    clear hku
    by_cases hu : u < 4 ∧ u < j
    ·obtain ⟨hu1, hu2⟩ := hu
     obtain ⟨p, hp⟩ : ∃ p, j = p + u + 1 := ⟨j - u - 1, by omega⟩
     have hil : p < l.length := by have := Hn.out.1; omega
     have his : p < s.size := by omega
     have hys := Hn.out.2.1 _ his hil
     have hst := bpart_step (l := l) hu2 (by have := Hn.out.1; omega)
     simp only [show j - u - 1 = p by omega] at hst
     have hor := or_byte (s := u) hu1 (bpart_lt l j u) (UInt8.toNat_lt l[p])
     rw [← hst] at hor
     have hix : (j : Int) - 1 - (u : Int) = (p : Int) := by omega
     have hy2 : (s[p]).toNat = l[p].toNat := by rw [hys]
     have hyt := UInt8.toNat_lt l[p]
     obtain ⟨S, hS⟩ : ∃ S, S = u * 8 := ⟨_, rfl⟩
     rw [← hS] at hor
     obtain ⟨hor1, hor2⟩ := hor
     have hdlt : bpart l j u ≤ 4294967295 := by
      have h1 := bpart_lt l j u
      have h2 : (256 : Nat) ^ u ≤ 256 ^ 4 := Nat.pow_le_pow_right (by decide) (by omega)
      have h3 : (256 : Nat) ^ 4 = 4294967296 := by decide
      omega
     have q5 : IntKind.u64.wrap (8 * (u : Int)) = (S : Int) := by
      rw [IntWalk.u64_in _ (by omega)]
      omega
     have hS31 : S ≤ 24 := by omega
     clear hys hst
     generalize hD : bpart l j u = D at *
     generalize hE : bpart l j (u + 1) = E at *
     generalize hy : l[p].toNat = y at *
     have q6 : IntKind.u32.wrap (y : Int) = (y : Int) := by rw [IntKind.wrap_u32]; omega
     have q7 : (p : Int) < (s.size : Int) := by omega
     have q8 : (u : Int) < 4 := by omega
     have HE := Lib.hid hE
     have Hp := Lib.hid hp
     clear hy hD hS hp hE h'
     go_wp2
     rw [IntKind.wrap_u32] at hor1
     rw [hor1]
     go_roundg (4 - (u + 1))
     case measure => have := Hku.out; omega
     case rel => exact ⟨u + 1, rfl, by rw [← HE.out], rfl, rfl, by omega, by omega⟩
    ·have HU := Lib.hid (show j - u = s.size - 4 * (t + 1) by omega)
     have hdlt : bpart l j u < 4294967296 := by
      have h1 := bpart_lt l j u
      have h2 : (256 : Nat) ^ u ≤ 256 ^ 4 := Nat.pow_le_pow_right (by decide) (by omega)
      have h3 : (256 : Nat) ^ 4 = 4294967296 := by decide
      omega
     have HE := Lib.hid (bpart_end (l := l) (j := j) (u := u) (t := t) (by have := Hn.out.1; omega) huj)
     have hLl : L.length ≤ 30000 := by have := hL.out.1; omega
     have hsz := hbel.size
     generalize hD : bpart l j u = D at *
     clear hD h'
     have E9 := Lib.hid (show (j : Int) - 1 - 4 = (s.size : Int) - 1 - 4 * ((t + 1 : Nat) : Int) by omega)
     have HJ := Lib.hid hj
     clear hj e1
     have key : ¬ u < 4 ∨ (u < 4 ∧ u = j) := by omega
     rcases key with hu' | hu'
     all_goals
      first
      | (have q8 : ¬ (u : Int) < 4 := (by omega))
      | (have q8 : (u : Int) < 4 := (by omega); have q9 : (j : Int) - 1 - (u : Int) = -1 := (by omega))
      clear hu hu'
      go_wp2_with (at_builtin; refine wpW_push rfl (.tmp 38) (.tmp 40) rfl W0.heap.size _ L hown rfl (y := D) (by omega) rfl (by omega) (by omega) ?_; intro A2 n2 c2 w1 ho hkeep _)
      rw [E9.out]
      go_roundg (s.size + 4 - 4 * (t + 1))
      case measure => have := Hk.out; have := HJ.out; omega
      case rel =>
       refine ⟨A2, n2, c2, t + 1, L ++ [D], rfl, rfl, rfl, by have := HJ.out; omega, ho, hkeep W0 hbel, ?_⟩
       have hl := hL.out
       refine ⟨by rw [List.length_append, hl.1]; rfl, wd_append.2 ⟨hl.2.1, wd_cons.2 ⟨hdlt, wd_nil⟩⟩, ?_⟩
       rw [val_snoc, hl.1, hl.2.2, ← HU.out, HE.out, show s.size - 4 * t = j by have := HJ.out; omega]
  ·have hlt : (s.size : Int) - 1 - 4 * (t : Int) < 0 := by omega
   have hz : val L = z.natAbs := by rw [hL.out.2.2, show s.size - 4 * t = 0 by omega, List.drop_zero, Hn.out.2.2.1]
   have HR : Hid (∀ p, p = (wds (val L)).length → ∀ W : World, ReadsW W W.heap.size A' L → SlW W W.heap.size A' p c' z.natAbs) := fun p hp W hW => by
    have hr := reads_cut hW hL.out.2.1
    have ht := (wds_take _ _ rfl hL.out.2.1).2
    have hl := hown.len
    rw [hz] at hr ht hp
    exact ⟨hp, by omega, hl.2.2, hr⟩
   have HL := Lib.hid hown.len
   have Hw := Lib.hid hL.out.2.1
   replace h := h'.rest (Stw.rd A' L) hown.reads
   generalize hI : (s.size : Int) - 1 - 4 * (t : Int) = I at *
   clear h' hown hbel hz hI hL Hk
   go_wp2_with fail
   clear c0_
   refine wp_region_noPanic ?_
   refine wp_region_HK (fun w' => Sw w w' _ _) 5 (by kernel_rfl) h.drew (fun hHeld => ?_)
   replace h := h.drew
   clear hHeld
   refine wpHK_pure (i := 0) (oi := Oper.mk (some 42) _ _ _ _ _) (v := .pointer (some ⟨w.heap.size, 0, none⟩)) rfl (by kernel_rfl) (by kernel_rfl) (by kernel_rfl) (fun _ _ _ h => h) (Or.inl ⟨by rfl, ?_⟩) ?_
   ·intro w' hS
    go_simp
   try simp only [Act.put, List.setIfInBounds_toArray, List.set_cons_zero, List.set_cons_succ]
   refine wpHK_take (i := 1) (oi := Oper.mk (some 43) _ _ _ _ _) (v := .bool b) rfl (by kernel_rfl) (by kernel_rfl) (by kernel_rfl) (by kernel_rfl) (fun _ _ _ h => h) (Or.inl ⟨by rfl, ?_⟩) h ?_
   ·intro w' hS
    have c0_ := (hS.get 1 rfl).cell 0
    go_simp
   try simp only [Act.put, List.setIfInBounds_toArray, List.set_cons_zero, List.set_cons_succ]
   refine wpHK_pure (i := 2) (oi := Oper.mk (some 44) _ _ _ _ _) (v := .slice A' n' c') rfl (by kernel_rfl) (by kernel_rfl) (by kernel_rfl) (fun _ _ _ h => h) (Or.inl ⟨by rfl, ?_⟩) ?_
   ·intro w' hS
    go_simp
   try simp only [Act.put, List.setIfInBounds_toArray, List.set_cons_zero, List.set_cons_succ]
   refine wpHK_one (j := 3) (o := Oper.mk (some 45) _ _ _ _ _) rfl (by kernel_rfl) (fun K hK => ?_)
   go_simp
   refine (low_any h.fact HL.out.1 HL.out.2.1 HL.out.2.2 Hw.out).mono ?_
   rintro _ _ ⟨p, rfl, hp, rfl⟩
   have Hp := Lib.hid hp
   clear hp
   replace h := h.call (Below.refl _ _)
   refine hK.out _ _ h (fun _ => ?_)
   clear hK K
   try simp only [Act.put, List.setIfInBounds_toArray, List.set_cons_zero, List.set_cons_succ]
   refine wpHK_pure (i := 4) (oi := Oper.mk (some 46) _ _ _ _ _) (v := .agg #[.bool b, .slice A' p c']) rfl (by kernel_rfl) (by kernel_rfl) (by kernel_rfl) (fun _ _ _ h => h) (Or.inl ⟨by rfl, ?_⟩) ?_
   ·intro w' hS
    go_simp
   try simp only [Act.put, List.setIfInBounds_toArray, List.set_cons_zero, List.set_cons_succ]
   replace h := h.rest (Stw.sl _ _ _ _) (HR.out p Hp.out _ h.fact)
   refine wpHK_tail (j := 5) (o := Oper.mk none _ _ _ _ _) rfl (by kernel_rfl) (by decide) (fun K hK => ?_)
   rw [if_pos (by rfl)]
   refine wp_store_blk 35 (.tmp 2) (.tmp 46) rfl #[.bool b, .slice A' p c'] rfl rfl (h.get 0 rfl) (by simp) (by kernel_rfl) (by simp [Value.oneCell', ptr]) (fun w9 k9 hg9 => ?_)
   replace h := h.put 0 rfl (by unfold OwnT; decide) k9 hg9
   simp only [List.set_cons_succ, List.set_cons_zero] at h
   clear k9 hg9
   refine hK.out _ _ ?_
   clear hK K
   try simp only [Act.put, List.setIfInBounds_toArray, List.set_cons_zero, List.set_cons_succ]
   refine wpHK_done (by kernel_rfl) ?_ _
   refine NoPanic.normal ?_
   go_wp2_with fail
   refine bodyPost_ret (results_row1 rfl _ _ _ _ _ (by rfl) (h.get 0 rfl) Tryz.underlying35 rfl (by kernel_rfl)) rfl ?_
   rw [Hn.out.2.2.2.2]
   exact ⟨_, rfl, ⟨_, _, _, rfl, h.fact, Hn.out.2.2.2.1⟩, h.bel⟩
theorem times_step {L lb : List Nat} {i j c x V T : Nat} (hi : i + j < L.length) (hT : T = c + L[i + j] + x * at_ lb j) (h : val L + 4294967296 ^ (i + j) * c = V + 4294967296 ^ i * (x * val (lb.take j))) :
  val (L.set (i + j) (T % 4294967296)) + 4294967296 ^ (i + (j + 1)) * (T / 4294967296) = V + 4294967296 ^ i * (x * val (lb.take (j + 1))) := by
 have h1 := val_set L (i + j) (T % 4294967296) hi
 have h2 : T % 4294967296 + 4294967296 * (T / 4294967296) = T := Nat.mod_add_div _ _
 have h3 : 4294967296 ^ (i + j) * (T % 4294967296) + 4294967296 ^ (i + (j + 1)) * (T / 4294967296) = 4294967296 ^ (i + j) * T := by
  rw [show i + (j + 1) = (i + j) + 1 by omega, Nat.pow_succ, Nat.mul_assoc, ← Nat.mul_add, h2]
 have h4 : 4294967296 ^ (i + j) * T = 4294967296 ^ (i + j) * c + 4294967296 ^ (i + j) * L[i + j] + 4294967296 ^ (i + j) * (x * at_ lb j) := by rw [hT, Nat.mul_add, Nat.mul_add]
 have h5 : 4294967296 ^ i * (x * val (lb.take (j + 1))) = 4294967296 ^ i * (x * val (lb.take j)) + 4294967296 ^ (i + j) * (x * at_ lb j) := by
  rw [val_take_at, Nat.mul_add, Nat.mul_add, Nat.pow_add]
  congr 1
  rw [Nat.mul_left_comm x, Nat.mul_assoc]
 omega
theorem times_room {la lb L : List Nat} {i j c x : Nat} (ha : Wd la) (hb : Wd lb) (hi : i < la.length) (hx : x = la[i]) (hj : lb.length ≤ j) (hc : 0 < c)
  (h : val L + 4294967296 ^ (i + j) * c = val (la.take i) * val lb + 4294967296 ^ i * (x * val (lb.take j))) : j ≤ lb.length := by
 rw [List.take_of_length_le hj] at h
 have h1 := val_take_succ hi
 rw [← hx] at h1
 have h2 : val (la.take i) * val lb + 4294967296 ^ i * (x * val lb) = val (la.take (i + 1)) * val lb := by rw [h1, Nat.add_mul, Nat.mul_assoc]
 rw [h2] at h
 have h3 := val_lt (wd_take ha (i + 1))
 have h4 := val_lt hb
 have h5 : val (la.take (i + 1)) * val lb < 4294967296 ^ ((la.take (i + 1)).length + lb.length) := by
  rw [Nat.pow_add]
  exact Nat.mul_lt_mul'' h3 h4
 have h6 : 4294967296 ^ (i + j) ≤ 4294967296 ^ (i + j) * c := Nat.le_mul_of_pos_right _ hc
 have h7 : 4294967296 ^ (i + j) < 4294967296 ^ ((la.take (i + 1)).length + lb.length) := by omega
 have h8 := (Nat.pow_lt_pow_iff_right (by decide)).1 h7
 rw [List.length_take] at h8
 omega
theorem Sw.part {w0 W W' : World} {l : List (Nat × TypeId × Array Value)} {F : World → Prop} (h : Sw w0 W l F) {B : Nat} (hb : Below B W W') (hB : w0.heap.size ≤ B) (hl : ∀ x ∈ l, x.1 < B) : Sw w0 W' l fun _ => True :=
 ⟨h.bel.trans (hb.mono hB), fun x hx => (h.blk x hx).below hb (hl x hx), h.old, h.ord, trivial, Stw.true_⟩
set_option maxRecDepth 100000 in
set_option maxHeartbeats 4000000 in
theorem times_sl {w : World} {x y : Bool} {A C : Option Addr} {n m c d a b : Nat} (h1 : SlW w w.heap.size A n c a) (h2 : SlW w w.heap.size C m d b) (hn : n ≤ 1000000000) (hm : m ≤ 1000000000) :
  Calls Tryz.prog 30 #[.agg #[.bool x, .slice A n c], .agg #[.bool y, .slice C m d]] w (RetS w ((x != y) && decide (0 < a * b)) (a * b)) := by
 have h := (((Sw.start w).new 35 #[.bool x, .slice A n c]).new 35 #[.bool y, .slice C m d]).new 35 #[.bool false, .slice none 0 0]
 simp only [size_alloc] at h
 have hr1 := h1.2.2.2.below h.bel
 have hr2 := h2.2.2.2.below h.bel
 have Hn := h1.1
 have Hm := h2.1
 have hmk : ∀ w : World, (Instr.makeSlice 33 (.int .i64 ((n : Int) + (m : Int) + 1)) (.int .i64 ((n : Int) + (m : Int) + 1))).run Tryz.prog w = .ok (.slice (some ⟨w.heap.size, 0, none⟩) (n + m + 1) (n + m + 1)) (w.alloc (.cells (wcells (List.replicate (n + m + 1) 0)) 115)) := fun w => by
  have := run_makeW (n + m + 1) (by omega) w
  exact this
 have ha : Wd (wds a) := wd_w _
 have hb : Wd (wds b) := wd_w _
 have HV := Lib.hid (And.intro (val_w a) (val_w b))
 obtain ⟨N, hN⟩ : ∃ N, N = a * b := ⟨_, rfl⟩
 rw [← hN]
 obtain ⟨r, hr⟩ : ∃ r, r = ((x != y) && decide (0 < N)) := ⟨_, rfl⟩
 rw [← hr]
 have HB := Lib.hid hr
 have HN := Lib.hid hN
 clear h1 h2 hr hN
 go_enter Tryz.func30, Tryz.ntmps30
 go_wp2_with fail
 have kM := Blk.new (((w.alloc (Obj.cells #[.bool x, .slice A n c] 35)).alloc (Obj.cells #[.bool y, .slice C m d] 35)).alloc (Obj.cells #[.bool false, .slice none 0 0] 35)) 115 (wcells (List.replicate (n + m + 1) 0))
 have hV := new_below (((w.alloc (Obj.cells #[.bool x, .slice A n c] 35)).alloc (Obj.cells #[.bool y, .slice C m d] 35)).alloc (Obj.cells #[.bool false, .slice none 0 0] 35)) (Obj.cells (wcells (List.replicate (n + m + 1) 0)) 115)
 replace h := h.call hV
 replace hr1 := hr1.below (hV.mono (by simp only [size_alloc]; omega))
 replace hr2 := hr2.below (hV.mono (by simp only [size_alloc]; omega))
 simp only [size_alloc] at kM hr1 hr2
 clear hV
 generalize hW : ((((w.alloc (Obj.cells #[.bool x, .slice A n c] 35)).alloc (Obj.cells #[.bool y, .slice C m d] 35)).alloc (Obj.cells #[.bool false, .slice none 0 0] 35)).alloc (Obj.cells (wcells (List.replicate (n + m + 1) 0)) 115)) = V at h kM hr1 hr2 ⊢
 clear hW
 obtain ⟨g, hg⟩ : ∃ g, g = w.heap.size + 1 + 1 + 1 := ⟨_, rfl⟩
 have kA := h.get 2 rfl
 have kB := h.get 1 rfl
 rw [← hg] at kM ⊢
 have hgw : w.heap.size + 1 + 1 < g := by omega
 clear hg
 go_loopg [6] n (fun k iv wr => ∃ (i : Nat) (L : List Nat), iv = .int .i64 (i : Int) ∧ k = n - i ∧ i ≤ n ∧ Blk wr g 115 (wcells L) ∧ Below g V wr ∧
  Hid (L.length = n + m + 1 ∧ Wd L ∧ val L = val ((wds a).take i) * val (wds b)))
 case atStart => exact ⟨0, List.replicate (n + m + 1) 0, rfl, by omega, by omega, kM, Below.refl _ _, by simp, wd_zeros _, by rw [val_zeros, List.take_zero, val_nil, Nat.zero_mul]⟩
 case round =>
  obtain ⟨i, L, rfl, hk, hi, hblk, hbel, hL⟩ := hrel
  have Hk := Lib.hid hk
  clear hk
  have c0_ := (kA.below hbel (by omega)).cell 1
  have c1_ := (kB.below hbel (by omega)).cell 1
  by_cases hin : i < n
  ·have hia : i < (wds a).length := by rw [← Hn.out]; exact hin
   have h1' := hr1.below (hbel.mono (by omega))
   obtain ⟨ad, rfl, hb1, c1⟩ := h1'.at_ hia
   have w1 := wd_get ha _ hia
   have hii : (i : Int) < (n : Int) := by omega
   obtain ⟨X, hX⟩ : ∃ X, X = (wds a)[i] := ⟨_, rfl⟩
   have HX := Lib.hid (show ∃ h : i < (wds a).length, X = (wds a)[i]'h from ⟨hia, hX⟩)
   have E1 := Lib.hid (show val ((wds a).take (i + 1)) = val ((wds a).take i) + 4294967296 ^ i * X by rw [hX]; exact val_take_succ hia)
   rw [← hX] at w1 c1
   clear h1' hX hia
   go_wp2
   go_loopg [7, 8] (m + 2) (fun k cy kv wr => ∃ (j c : Nat) (L : List Nat), cy = .int .u64 (c : Int) ∧ kv = .int .i64 (j : Int) ∧ k = m + 2 - j ∧ j ≤ m + 1 ∧ c < 4294967296 ∧ Blk wr g 115 (wcells L) ∧ Below g V wr ∧
    Hid (L.length = n + m + 1 ∧ Wd L ∧ val L + 4294967296 ^ (i + j) * c = val ((wds a).take i) * val (wds b) + 4294967296 ^ i * (X * val ((wds b).take j))))
   case atStart => exact ⟨0, 0, L, rfl, rfl, by omega, by omega, by omega, hblk, hbel, hL.out.1, hL.out.2.1, by rw [hL.out.2.2]; simp [val_nil]⟩
   case round =>
    obtain ⟨j, cy, L', rfl, rfl, hkj, hj, hc, hblk', hbel', hL'⟩ := hrel
    have Hkj := Lib.hid hkj
    clear hkj
    have c0_ := (kA.below hbel' (by omega)).cell 1
    have c1_ := (kB.below hbel' (by omega)).cell 1
    have c1' := (hbel'.mono (Nat.zero_le _)).size
    clear c1'
    have hr1' := hr1.below (hbel'.mono (by omega))
    have h2' := hr2.below (hbel'.mono (by omega))
    have h1' := (HX.out.elim fun hia hX => by have := hr1'.at_ hia; rw [← hX] at this; exact this : ∃ ad', some ad = some ad' ∧ ad'.block < w.heap.size ∧ wr.cell? (ad'.add i) = some (.int .u32 (X : Int)))
    obtain ⟨ad', ea, _, c3⟩ := h1'
    injection ea with ea
    subst ea
    clear hr1'
    by_cases hjm : j < m
    ·have hjb : j < (wds b).length := by rw [← Hm.out]; exact hjm
     obtain ⟨bd, rfl, hb2, c2⟩ := h2'.at_ hjb
     have w2 := wd_get hb _ hjb
     have hjj : (j : Int) < (m : Int) := by omega
     have hiL : i + j < L'.length := by have := hL'.out.1; omega
     have w3 := wd_get hL'.out.2.1 _ hiL
     have hout : wr.cell? ⟨g, i + j, none⟩ = some (.int .u32 ((L'[i + j] : Nat) : Int)) := by rw [hblk'.cell, wcells_get, List.getElem?_eq_getElem hiL]; rfl
     have hfz := hblk'.frozen (i + j)
     have hst := Lib.hid (times_step (x := X) hiL rfl hL'.out.2.2)
     rw [at_some hjb] at hst
     clear h2'
     have hmb := mul_bound w1 w2
     obtain ⟨hmb0, hmb1⟩ := hmb
     have hcast := Lib.hid (Int.natCast_mul X (wds b)[j])
     generalize hy : (wds b)[j] = Y at *
     generalize ho : L'[i + j] = O at *
     clear hy ho
     have hsum0 : (0 : Int) ≤ (i : Int) + (j : Int) := by omega
     have hsum1 : (i : Int) + (j : Int) < (n : Int) + (m : Int) + 1 := by omega
     have hq7 : ((i : Int) + (j : Int)).toNat = i + j := by omega
     go_wp2
     have hq1 : IntKind.u64.wrap (X : Int) = (X : Int) := IntWalk.u64_in _ (by omega)
     have hq2 : IntKind.u64.wrap (Y : Int) = (Y : Int) := IntWalk.u64_in _ (by omega)
     have hq3 : IntKind.u64.wrap ((X : Int) * (Y : Int)) = (X : Int) * (Y : Int) := IntWalk.u64_in _ (by omega)
     have hq4 : IntKind.u64.wrap ((cy : Int) + (O : Int) + (X : Int) * (Y : Int)) = (cy : Int) + (O : Int) + (X : Int) * (Y : Int) := IntWalk.u64_in _ (by omega)
     go_quiet (fail)
     clear hq1 hq2 hq3 hq4
     go_wp2
     have hq0 : ((cy : Int) + (O : Int) + (X : Int) * (Y : Int)) = ((cy + O + X * Y : Nat) : Int) := by rw [← hcast.out]; omega
     have hq1 : ((cy : Int) + (O : Int) + (X : Int) * (Y : Int)) % 4294967296 = (((cy + O + X * Y) % 4294967296 : Nat) : Int) := by rw [hq0]; omega
     have hq2 : ((cy : Int) + (O : Int) + (X : Int) * (Y : Int)) / 4294967296 = (((cy + O + X * Y) / 4294967296 : Nat) : Int) := by rw [hq0]; omega
     rw [hq1, hq2]
     have hlt : (cy + O + X * Y) / 4294967296 < 4294967296 := by rw [← hcast.out] at hmb1; omega
     go_roundg (m + 2 - (j + 1))
     case measure => have := Hkj.out; omega
     case rel =>
      refine ⟨j + 1, (cy + O + X * Y) / 4294967296, L'.set (i + j) ((cy + O + X * Y) % 4294967296), rfl, rfl, rfl, by omega, hlt, ?_, (below_drewN hbel' _).setCell (Nat.le_refl _) _, ?_⟩
      ·have := (hblk'.drewN nq).set_ (i + j) (.int .u32 (((cy + O + X * Y) % 4294967296 : Nat) : Int))
       rwa [wcells_set] at this
      ·exact ⟨by rw [List.length_set]; exact hL'.out.1, wd_set hL'.out.2.1 _ _ (Nat.mod_lt _ (by decide)), hst.out⟩
    ·have hjj : ¬ (j : Int) < (m : Int) := by omega
     by_cases hcy : 0 < cy
     ·have hci : (0 : Int) < (cy : Int) := by omega
      have hroom := HX.out.elim fun hia hX => times_room ha hb hia hX (by have := Hm.out; omega) hcy hL'.out.2.2
      have hjm2 : j = m := by have := Hm.out; omega
      subst hjm2
      have hiL : i + j < L'.length := by have := hL'.out.1; omega
      have w3 := wd_get hL'.out.2.1 _ hiL
      have hout : wr.cell? ⟨g, i + j, none⟩ = some (.int .u32 ((L'[i + j] : Nat) : Int)) := by rw [hblk'.cell, wcells_get, List.getElem?_eq_getElem hiL]; rfl
      have hfz := hblk'.frozen (i + j)
      have hst := Lib.hid (times_step (x := X) hiL rfl hL'.out.2.2)
      rw [at_none (by have := Hm.out; omega), Nat.mul_zero, Nat.add_zero] at hst
      clear h2' hroom
      generalize ho : L'[i + j] = O at *
      clear ho
      have hsum0 : (0 : Int) ≤ (i : Int) + (j : Int) := by omega
      have hsum1 : (i : Int) + (j : Int) < (n : Int) + (j : Int) + 1 := by omega
      have hq7 : ((i : Int) + (j : Int)).toNat = i + j := by omega
      go_wp2
      rw [show ((cy : Int) + (O : Int)) % 4294967296 = (((cy + O) % 4294967296 : Nat) : Int) by omega, show ((cy : Int) + (O : Int)) / 4294967296 = (((cy + O) / 4294967296 : Nat) : Int) by omega]
      go_roundg (j + 2 - (j + 1))
      case measure => have := Hkj.out; omega
      case rel =>
       refine ⟨j + 1, (cy + O) / 4294967296, L'.set (i + j) ((cy + O) % 4294967296), rfl, rfl, rfl, by omega, by omega, ?_, hbel'.setCell (Nat.le_refl _) _, ?_⟩
       ·have := hblk'.set_ (i + j) (.int .u32 (((cy + O) % 4294967296 : Nat) : Int))
        rwa [wcells_set] at this
       ·exact ⟨by rw [List.length_set]; exact hL'.out.1, wd_set hL'.out.2.1 _ _ (Nat.mod_lt _ (by decide)), hst.out⟩
     ·have hc0 : cy = 0 := by omega
      subst hc0
      clear h2'
      go_wp2
      go_roundg (n - (i + 1))
      case measure => have := Hk.out; omega
      case rel =>
       refine ⟨i + 1, L', rfl, rfl, by omega, hblk', hbel', hL'.out.1, hL'.out.2.1, ?_⟩
       have h3 := hL'.out.2.2
       rw [Nat.mul_zero, Nat.add_zero, List.take_of_length_le (l := wds b) (by have := Hm.out; omega)] at h3
       rw [h3, E1.out, Nat.add_mul, Nat.mul_assoc]
  ·have hi' : i = n := by omega
   subst hi'
   have hL1 := hL.out.1
   have h3 := hL.out.2.2
   rw [List.take_of_length_le (by rw [← Hn.out]; exact Nat.le_refl _), HV.out.1, HV.out.2, ← HN.out] at h3
   have HT := Lib.hid (low_any (reads_blk hblk hblk.lt) hL1.symm (Nat.le_refl _) (by omega) hL.out.2.1)
   have H3 := Lib.hid h3
   have HW := Lib.hid hL.out.2.1
   replace h := h.part hbel (by omega) (by intro x hx; simp only [List.mem_cons, List.not_mem_nil, or_false] at hx; rcases hx with rfl | rfl | rfl <;> simp only [] <;> omega)
   obtain ⟨q, hq⟩ : ∃ q, q = (wds N).length := ⟨_, rfl⟩
   have hSl : SlW wr wr.heap.size (some ⟨g, 0, none⟩) q (i + m + 1) N := by
    have hr := reads_cut (reads_blk hblk hblk.lt) HW.out
    have ht := (wds_take _ _ rfl HW.out).2
    rw [H3.out] at hr ht
    exact ⟨hq, by omega, by omega, hr⟩
   have HP := Lib.hid hq
   have hpos := slw_pos hSl
   replace h := h.rest (Stw.sl _ _ _ _) hSl
   have b0_ := (h.get 2 rfl).cell 0
   have b1_ := (h.get 1 rfl).cell 0
   have d0_ := (h.get 2 rfl).cell 1
   have d1_ := (h.get 1 rfl).cell 1
   clear h3 hL1 c0_ c1_ hblk hbel hL hr1 hr2 kA kB kM hSl hq hi hin hmk HV Hk
   cases x <;> cases y
   ·have HR := Lib.hid (show r = false by rw [HB.out]; simp)
    go_wp2_with (first | (go_at_call 56; refine HT.out.mono ?_; rintro e w' ⟨q, rfl, hq, rfl⟩; rw [H3.out] at hq; replace hq := hq.trans HP.out.symm; subst hq) | (refine wpList_store_all (by rfl) 35 (.tmp 4) (.tmp 87) (by rfl) #[.bool false, .slice (some ⟨g, 0, none⟩) q (i + m + 1)] (by rfl) (by rfl) (h.get 0 rfl) (by simp) (by kernel_rfl) (by simp [Value.oneCell', ptr]) ?_; intro V1 k9 hg9; replace h := h.put 0 rfl (by unfold OwnT; decide) k9 hg9; simp only [List.set_cons_succ, List.set_cons_zero] at h; clear k9 hg9))
    refine bodyPost_ret (results_row1 rfl _ _ _ _ _ (by rfl) (h.get 0 rfl) Tryz.underlying35 rfl (by kernel_rfl)) rfl ?_
    exact ⟨_, _, _, by rw [HR.out], h.fact, h.bel⟩
   ·by_cases h0 : 0 < N
    ·have HR := Lib.hid (show r = true by rw [HB.out]; simp [h0])
     have hq0 : 0 < q := hpos.2 h0
     clear hpos h0
     go_wp2_with (first | (go_at_call 56; refine HT.out.mono ?_; rintro e w' ⟨q, rfl, hq, rfl⟩; rw [H3.out] at hq; replace hq := hq.trans HP.out.symm; subst hq) | (refine wpList_store_all (by rfl) 35 (.tmp 4) (.tmp 87) (by rfl) #[.bool true, .slice (some ⟨g, 0, none⟩) q (i + m + 1)] (by rfl) (by rfl) (h.get 0 rfl) (by simp) (by kernel_rfl) (by simp [Value.oneCell', ptr]) ?_; intro V1 k9 hg9; replace h := h.put 0 rfl (by unfold OwnT; decide) k9 hg9; simp only [List.set_cons_succ, List.set_cons_zero] at h; clear k9 hg9))
     refine bodyPost_ret (results_row1 rfl _ _ _ _ _ (by rfl) (h.get 0 rfl) Tryz.underlying35 rfl (by kernel_rfl)) rfl ?_
     exact ⟨_, _, _, by rw [HR.out], h.fact, h.bel⟩
    ·have HR := Lib.hid (show r = false by rw [HB.out]; simp [h0])
     have hq0 : ¬ 0 < q := fun e => h0 (hpos.1 e)
     clear hpos h0
     go_wp2_with (first | (go_at_call 56; refine HT.out.mono ?_; rintro e w' ⟨q, rfl, hq, rfl⟩; rw [H3.out] at hq; replace hq := hq.trans HP.out.symm; subst hq) | (refine wpList_store_all (by rfl) 35 (.tmp 4) (.tmp 87) (by rfl) #[.bool false, .slice (some ⟨g, 0, none⟩) q (i + m + 1)] (by rfl) (by rfl) (h.get 0 rfl) (by simp) (by kernel_rfl) (by simp [Value.oneCell', ptr]) ?_; intro V1 k9 hg9; replace h := h.put 0 rfl (by unfold OwnT; decide) k9 hg9; simp only [List.set_cons_succ, List.set_cons_zero] at h; clear k9 hg9))
     refine bodyPost_ret (results_row1 rfl _ _ _ _ _ (by rfl) (h.get 0 rfl) Tryz.underlying35 rfl (by kernel_rfl)) rfl ?_
     exact ⟨_, _, _, by rw [HR.out], h.fact, h.bel⟩
   ·by_cases h0 : 0 < N
    ·have HR := Lib.hid (show r = true by rw [HB.out]; simp [h0])
     have hq0 : 0 < q := hpos.2 h0
     clear hpos h0
     go_wp2_with (first | (go_at_call 56; refine HT.out.mono ?_; rintro e w' ⟨q, rfl, hq, rfl⟩; rw [H3.out] at hq; replace hq := hq.trans HP.out.symm; subst hq) | (refine wpList_store_all (by rfl) 35 (.tmp 4) (.tmp 87) (by rfl) #[.bool true, .slice (some ⟨g, 0, none⟩) q (i + m + 1)] (by rfl) (by rfl) (h.get 0 rfl) (by simp) (by kernel_rfl) (by simp [Value.oneCell', ptr]) ?_; intro V1 k9 hg9; replace h := h.put 0 rfl (by unfold OwnT; decide) k9 hg9; simp only [List.set_cons_succ, List.set_cons_zero] at h; clear k9 hg9))
     refine bodyPost_ret (results_row1 rfl _ _ _ _ _ (by rfl) (h.get 0 rfl) Tryz.underlying35 rfl (by kernel_rfl)) rfl ?_
     exact ⟨_, _, _, by rw [HR.out], h.fact, h.bel⟩
    ·have HR := Lib.hid (show r = false by rw [HB.out]; simp [h0])
     have hq0 : ¬ 0 < q := fun e => h0 (hpos.1 e)
     clear hpos h0
     go_wp2_with (first | (go_at_call 56; refine HT.out.mono ?_; rintro e w' ⟨q, rfl, hq, rfl⟩; rw [H3.out] at hq; replace hq := hq.trans HP.out.symm; subst hq) | (refine wpList_store_all (by rfl) 35 (.tmp 4) (.tmp 87) (by rfl) #[.bool false, .slice (some ⟨g, 0, none⟩) q (i + m + 1)] (by rfl) (by rfl) (h.get 0 rfl) (by simp) (by kernel_rfl) (by simp [Value.oneCell', ptr]) ?_; intro V1 k9 hg9; replace h := h.put 0 rfl (by unfold OwnT; decide) k9 hg9; simp only [List.set_cons_succ, List.set_cons_zero] at h; clear k9 hg9))
     refine bodyPost_ret (results_row1 rfl _ _ _ _ _ (by rfl) (h.get 0 rfl) Tryz.underlying35 rfl (by kernel_rfl)) rfl ?_
     exact ⟨_, _, _, by rw [HR.out], h.fact, h.bel⟩
   ·have HR := Lib.hid (show r = false by rw [HB.out]; simp)
    go_wp2_with (first | (go_at_call 56; refine HT.out.mono ?_; rintro e w' ⟨q, rfl, hq, rfl⟩; rw [H3.out] at hq; replace hq := hq.trans HP.out.symm; subst hq) | (refine wpList_store_all (by rfl) 35 (.tmp 4) (.tmp 87) (by rfl) #[.bool false, .slice (some ⟨g, 0, none⟩) q (i + m + 1)] (by rfl) (by rfl) (h.get 0 rfl) (by simp) (by kernel_rfl) (by simp [Value.oneCell', ptr]) ?_; intro V1 k9 hg9; replace h := h.put 0 rfl (by unfold OwnT; decide) k9 hg9; simp only [List.set_cons_succ, List.set_cons_zero] at h; clear k9 hg9))
    refine bodyPost_ret (results_row1 rfl _ _ _ _ _ (by rfl) (h.get 0 rfl) Tryz.underlying35 rfl (by kernel_rfl)) rfl ?_
    exact ⟨_, _, _, by rw [HR.out], h.fact, h.bel⟩
theorem wtimes_any {w : World} {v1 v2 : Value} {a b : Int} {k j : Nat} (h1 : IsWh a k v1 w) (h2 : IsWh b j v2 w) (hk : k + j ≤ 10000000) : Calls Tryz.prog 30 #[v1, v2] w (Ret w (IsWh (a * b) (k + j))) := by
 obtain ⟨A, n, c, rfl, s1, z1⟩ := h1
 obtain ⟨C, m, d, rfl, s2, z2⟩ := h2
 have hn := slw_len s1 z1 (by omega)
 have hm := slw_len s2 z2 (by omega)
 have hz : (a * b).natAbs < 2 ^ (k + j) := by
  rw [Int.natAbs_mul, Nat.pow_add]
  exact Nat.mul_lt_mul'' z1 z2
 refine (times_sl s1 s2 hn hm).mono fun e w' h => h.wh ?_ (Int.natAbs_mul a b).symm hz
 rw [← Int.natAbs_mul]
 by_cases h0 : a * b = 0
 ·rw [h0]
  simp
 ·have hp : 0 < (a * b).natAbs := by omega
  rw [decide_eq_true hp, Bool.and_true]
  have ha : a ≠ 0 := fun e => h0 (by rw [e, Int.zero_mul])
  have hb : b ≠ 0 := fun e => h0 (by rw [e, Int.mul_zero])
  rcases Int.lt_or_gt_of_ne ha with ha | ha <;> rcases Int.lt_or_gt_of_ne hb with hb | hb
  ·have := Int.mul_pos_of_neg_of_neg ha hb
   rw [decide_eq_true ha, decide_eq_true hb, decide_eq_false (by omega)]
   rfl
  ·have := Int.mul_neg_of_neg_of_pos ha hb
   rw [decide_eq_true ha, decide_eq_false (by omega), decide_eq_true this]
   rfl
  ·have := Int.mul_neg_of_pos_of_neg ha hb
   rw [decide_eq_false (by omega), decide_eq_true hb, decide_eq_true this]
   rfl
  ·have := Int.mul_pos ha hb
   rw [decide_eq_false (by omega), decide_eq_false (by omega), decide_eq_false (by omega)]
   rfl
theorem IsWh.shape {z : Int} {k : Nat} {v : Value} {w : World} (h : IsWh z k v w) : ∃ x A n c, v = .agg #[.bool x, .slice A n c] := by
 obtain ⟨A, n, c, rfl, _⟩ := h
 exact ⟨_, _, _, _, rfl⟩
theorem IsFr.opened {p : Rat} {k : Nat} {v : Value} {w : World} (h : IsFr p k v w) : ∃ x0 A0 n0 c0 x1 A1 n1 c1 N D, v = .agg #[.bool x0, .slice A0 n0 c0, .bool x1, .slice A1 n1 c1] ∧
  IsWh N k (.agg #[.bool x0, .slice A0 n0 c0]) w ∧ IsWh D k (.agg #[.bool x1, .slice A1 n1 c1]) w ∧ 0 < D ∧ p = (N : Rat) / (D : Rat) := by
 obtain ⟨N, D, A, n, c, C, m, d, rfl, h⟩ := h
 exact ⟨_, _, _, _, _, _, _, _, N, D, rfl, h⟩
theorem IsFr.shape {p : Rat} {k : Nat} {v : Value} {w : World} (h : IsFr p k v w) : ∃ x0 A0 n0 c0 x1 A1 n1 c1, v = .agg #[.bool x0, .slice A0 n0 c0, .bool x1, .slice A1 n1 c1] := by
 obtain ⟨N, D, A, n, c, C, m, d, rfl, h⟩ := h
 exact ⟨_, _, _, _, _, _, _, _, rfl⟩
theorem IsFr.make {N D : Int} {p : Rat} {k j i : Nat} {x0 x1 : Bool} {A0 A1 : Option Addr} {n0 c0 n1 c1 : Nat} {w : World} (h0 : IsWh N k (.agg #[.bool x0, .slice A0 n0 c0]) w) (h1 : IsWh D j (.agg #[.bool x1, .slice A1 n1 c1]) w) (hk : k ≤ i) (hj : j ≤ i) (hD : 0 < D) (hp : p = (N : Rat) / (D : Rat)) :
  IsFr p i (.agg #[.bool x0, .slice A0 n0 c0, .bool x1, .slice A1 n1 c1]) w := by
 obtain ⟨A, n, c, e0, h0⟩ := h0.up hk
 obtain ⟨C, m, d, e1, h1⟩ := h1.up hj
 injection e0 with e0
 injection e0 with e0
 injection e0 with e0 e0'
 injection e0' with e0' _
 injection e1 with e1
 injection e1 with e1
 injection e1 with e1 e1'
 injection e1' with e1' _
 refine ⟨N, D, A, n, c, C, m, d, ?_, ⟨A, n, c, rfl, h0⟩, ⟨C, m, d, rfl, h1⟩, hD, hp⟩
 rw [e0, e0', e1, e1']
def cmpR (x y : Rat) : Int := if x < y then -1 else if x = y then 0 else 1
theorem intcast_pos {D : Int} (h : 0 < D) : (0 : Rat) < (D : Rat) := Rat.intCast_pos.2 h
theorem cmpR_eq {N D M E : Int} (hD : 0 < D) (hE : 0 < E) : cmpI (N * E) (M * D) = cmpR ((N : Rat) / (D : Rat)) ((M : Rat) / (E : Rat)) := by
 have h1 := intcast_pos hD
 have h2 := intcast_pos hE
 have e1 : (N : Rat) / (D : Rat) < (M : Rat) / (E : Rat) ↔ N * E < M * D := by
  rw [Rat.div_lt_iff h1]
  rw [show (M : Rat) / (E : Rat) * (D : Rat) = (M : Rat) * (D : Rat) / (E : Rat) by grind]
  rw [Rat.lt_div_iff h2, ← Rat.intCast_mul, ← Rat.intCast_mul]
  exact Rat.intCast_lt_intCast
 have e2 : (N : Rat) / (D : Rat) = (M : Rat) / (E : Rat) ↔ N * E = M * D := by
  rw [← Rat.intCast_inj, Rat.intCast_mul, Rat.intCast_mul]
  constructor
  ·intro h; grind
  ·intro h; grind
 unfold cmpI cmpR
 simp only [e1, e2]
 by_cases a : N * E < M * D
 ·simp [a]
 ·by_cases b : N * E = M * D
  ·simp [b]
  ·simp only [a, b, if_false]
   rw [if_pos (by omega)]
theorem fr_plus {N D M E : Int} {p q : Rat} (hD : 0 < D) (hE : 0 < E) (hp : p = (N : Rat) / (D : Rat)) (hq : q = (M : Rat) / (E : Rat)) : p + q = ((N * E + M * D : Int) : Rat) / ((D * E : Int) : Rat) := by
 have h1 := intcast_pos hD
 have h2 := intcast_pos hE
 have n1 : (D : Rat) ≠ 0 := by grind
 have n2 : (E : Rat) ≠ 0 := by grind
 subst hp hq
 simp only [Rat.intCast_add, Rat.intCast_mul]
 grind
set_option maxRecDepth 100000 in
set_option maxHeartbeats 4000000 in
theorem frplus_any {w : World} {v1 v2 : Value} {p q : Rat} {k j : Nat} (h0 : IsFr p k v1 w) (h1 : IsFr q j v2 w) (hk : k + j ≤ 1000000) :
  Calls Tryz.prog 13 #[v1, v2] w (Ret w (IsFr (p + q) (k + j + 1))) := by
 obtain ⟨x00, A00, n00, c00, x01, A01, n01, c01, N0, D0, rfl, f0N, f0D, hD0, hp0⟩ := h0.opened
 obtain ⟨x10, A10, n10, c10, x11, A11, n11, c11, N1, D1, rfl, f1N, f1D, hD1, hp1⟩ := h1.opened
 have HX := Lib.hid (And.intro (And.intro hD0 hp0) (And.intro hD1 hp1))
 clear hD0 hD1 hp0 hp1
 go_enter Tryz.func13, Tryz.ntmps13
 go_wp2_with fail
 have hbw : Below w.heap.size w (((w.alloc (Obj.cells #[.bool x00, .slice A00 n00 c00, .bool x01, .slice A01 n01 c01] 37)).alloc (Obj.cells #[.bool x10, .slice A10 n10 c10, .bool x11, .slice A11 n11 c11] 37)).alloc (Obj.cells #[.bool false, .slice none 0 0, .bool false, .slice none 0 0] 37)) := ((((Below.refl _ _).alloc (Nat.le_refl _) _).alloc (by simp <;> omega) _).alloc (by simp <;> omega) _)
 have k0 : Blk (((w.alloc (Obj.cells #[.bool x00, .slice A00 n00 c00, .bool x01, .slice A01 n01 c01] 37)).alloc (Obj.cells #[.bool x10, .slice A10 n10 c10, .bool x11, .slice A11 n11 c11] 37)).alloc (Obj.cells #[.bool false, .slice none 0 0, .bool false, .slice none 0 0] 37)) (w.heap.size) 37 #[.bool x00, .slice A00 n00 c00, .bool x01, .slice A01 n01 c01] := ((((Blk.new w 37 #[.bool x00, .slice A00 n00 c00, .bool x01, .slice A01 n01 c01]).alloc (Obj.cells #[.bool x10, .slice A10 n10 c10, .bool x11, .slice A11 n11 c11] 37)).alloc (Obj.cells #[.bool false, .slice none 0 0, .bool false, .slice none 0 0] 37))).cast (by simp)
 have k1 : Blk (((w.alloc (Obj.cells #[.bool x00, .slice A00 n00 c00, .bool x01, .slice A01 n01 c01] 37)).alloc (Obj.cells #[.bool x10, .slice A10 n10 c10, .bool x11, .slice A11 n11 c11] 37)).alloc (Obj.cells #[.bool false, .slice none 0 0, .bool false, .slice none 0 0] 37)) (w.heap.size + 1) 37 #[.bool x10, .slice A10 n10 c10, .bool x11, .slice A11 n11 c11] := (((Blk.new (w.alloc (Obj.cells #[.bool x00, .slice A00 n00 c00, .bool x01, .slice A01 n01 c01] 37)) 37 #[.bool x10, .slice A10 n10 c10, .bool x11, .slice A11 n11 c11]).alloc (Obj.cells #[.bool false, .slice none 0 0, .bool false, .slice none 0 0] 37))).cast (by simp)
 have k2 : Blk (((w.alloc (Obj.cells #[.bool x00, .slice A00 n00 c00, .bool x01, .slice A01 n01 c01] 37)).alloc (Obj.cells #[.bool x10, .slice A10 n10 c10, .bool x11, .slice A11 n11 c11] 37)).alloc (Obj.cells #[.bool false, .slice none 0 0, .bool false, .slice none 0 0] 37)) (w.heap.size + 1 + 1) 37 #[.bool false, .slice none 0 0, .bool false, .slice none 0 0] := ((Blk.new ((w.alloc (Obj.cells #[.bool x00, .slice A00 n00 c00, .bool x01, .slice A01 n01 c01] 37)).alloc (Obj.cells #[.bool x10, .slice A10 n10 c10, .bool x11, .slice A11 n11 c11] 37)) 37 #[.bool false, .slice none 0 0, .bool false, .slice none 0 0])).cast (by simp)
 generalize hW : (((w.alloc (Obj.cells #[.bool x00, .slice A00 n00 c00, .bool x01, .slice A01 n01 c01] 37)).alloc (Obj.cells #[.bool x10, .slice A10 n10 c10, .bool x11, .slice A11 n11 c11] 37)).alloc (Obj.cells #[.bool false, .slice none 0 0, .bool false, .slice none 0 0] 37)) = W at *
 clear hW
 have f0N := f0N.below hbw
 have f0D := f0D.below hbw
 have f1N := f1N.below hbw
 have f1D := f1D.below hbw
 refine wp_region_noPanic ?_
 refine wp_region_list (mk := ?mk) noV_vgs [Is (ptr w.heap.size), Is (.agg #[(.bool x00), (.slice A00 n00 c00)]), Is (.pointer (some ⟨w.heap.size + 1, 2, none⟩)), Is (.agg #[(.bool x11), (.slice A11 n11 c11)]), IsWh (N0 * D1) (k + j), Is (ptr (w.heap.size + 1)), Is (.agg #[(.bool x10), (.slice A10 n10 c10)]), Is (.pointer (some ⟨w.heap.size, 2, none⟩)), Is (.agg #[(.bool x01), (.slice A01 n01 c01)]), IsWh (N1 * D0) (j + k), IsWh (N0 * D1 + N1 * D0) (k + j + 1), Is (.pointer (some ⟨w.heap.size, 2, none⟩)), Is (.agg #[(.bool x01), (.slice A01 n01 c01)]), Is (.pointer (some ⟨w.heap.size + 1, 2, none⟩)), Is (.agg #[(.bool x11), (.slice A11 n11 c11)]), IsWh (D0 * D1) (k + j)] [.plain, .plain, .plain, .plain, .plain, .plain, .plain, .plain, .plain, .plain, .plain, .plain, .plain, .plain, .plain, .plain] 16 2 (fun w' => Blk w' (w.heap.size) 37 #[.bool x00, .slice A00 n00 c00, .bool x01, .slice A01 n01 c01] ∧ Blk w' (w.heap.size + 1) 37 #[.bool x10, .slice A10 n10 c10, .bool x11, .slice A11 n11 c11] ∧ IsWh N0 k (.agg #[(.bool x00), (.slice A00 n00 c00)]) w' ∧ IsWh D0 k (.agg #[(.bool x01), (.slice A01 n01 c01)]) w' ∧ IsWh N1 j (.agg #[(.bool x10), (.slice A10 n10 c10)]) w' ∧ IsWh D1 j (.agg #[(.bool x11), (.slice A11 n11 c11)]) w' ∧ True) ⟨is_steady _ _ _, is_steady _ _ _, is_steady _ _ _, is_steady _ _ _, nov fun _ _ _ h => h.below, is_steady _ _ _, is_steady _ _ _, is_steady _ _ _, is_steady _ _ _, nov fun _ _ _ h => h.below, nov fun _ _ _ h => h.below, is_steady _ _ _, is_steady _ _ _, is_steady _ _ _, is_steady _ _ _, nov fun _ _ _ h => h.below, trivial⟩ (by kernel_rfl) (by kernel_rfl) (by kernel_rfl) (by kernel_rfl) (by kernel_rfl) (by kernel_rfl) ?hmk (fun w' hB => ⟨k0.below hB k0.lt, k1.below hB k1.lt, f0N.below hB, f0D.below hB, f1N.below hB, f1D.below hB, trivial⟩)
  (steps_all (steps_cons ?_ (steps_cons ?_ (steps_cons ?_ (steps_cons ?_ (steps_cons ?_ (steps_cons ?_ (steps_cons ?_ (steps_cons ?_ (steps_cons ?_ (steps_cons ?_ (steps_cons ?_ (steps_cons ?_ (steps_cons ?_ (steps_cons ?_ (steps_cons ?_ (steps_cons ?_ steps_nil))))))))))))))))) ?_
 case hmk =>
  intro u
  simp only [mkFrom, mkL, dstOf, List.range, List.range.loop, Act.put, List.setIfInBounds_toArray, List.set_cons_zero, List.set_cons_succ, List.getElem?_toArray, List.getElem?_cons_zero, List.getElem?_cons_succ, Option.bind_some]
  rfl
 ·refine step_is (o := Oper.mk (some 5) _ _ _ _ _) rfl rfl rfl rfl (fun u ws hc hd => ?_)
  go_simp
 ·refine step_is (o := Oper.mk (some 6) _ _ _ _ _) rfl rfl rfl rfl (fun u ws hc hd => ?_)
  obtain ⟨k0, k1, f0N, f0D, f1N, f1D, _⟩ := hc
  have d0 : u 0 = _ := hd 0 (by kernel_rfl) (by decide)
  exact run_load_part 35 (.tmp 5) rfl (w.heap.size) 0 d0 #[(.bool x00), (.slice A00 n00 c00)] _ k0 rfl Tryz.underlying35 rfl (by kernel_rfl)
 ·refine step_is (o := Oper.mk (some 7) _ _ _ _ _) rfl rfl rfl rfl (fun u ws hc hd => ?_)
  go_simp
 ·refine step_is (o := Oper.mk (some 8) _ _ _ _ _) rfl rfl rfl rfl (fun u ws hc hd => ?_)
  obtain ⟨k0, k1, f0N, f0D, f1N, f1D, _⟩ := hc
  have d2 : u 2 = _ := hd 2 (by kernel_rfl) (by decide)
  exact run_load_part 35 (.tmp 7) rfl (w.heap.size + 1) 2 d2 #[(.bool x11), (.slice A11 n11 c11)] _ k1 rfl Tryz.underlying35 rfl (by kernel_rfl)
 ·refine step_call (o := Oper.mk (some 9) _ _ _ _ _) rfl rfl rfl (fun u ws hc hd => ?_)
  obtain ⟨k0, k1, f0N, f0D, f1N, f1D, _⟩ := hc
  have d1 : u 1 = _ := hd 1 (by kernel_rfl) (by decide)
  have d3 : u 3 = _ := hd 3 (by kernel_rfl) (by decide)
  have HC := Lib.hid (wtimes_any f0N f1D (by omega))
  refine ⟨30, #[(.agg #[(.bool x00), (.slice A00 n00 c00)]), (.agg #[(.bool x11), (.slice A11 n11 c11)])], ?_, HC.out⟩
  ·clear HC; go_simp
 ·refine step_is (o := Oper.mk (some 10) _ _ _ _ _) rfl rfl rfl rfl (fun u ws hc hd => ?_)
  go_simp
 ·refine step_is (o := Oper.mk (some 11) _ _ _ _ _) rfl rfl rfl rfl (fun u ws hc hd => ?_)
  obtain ⟨k0, k1, f0N, f0D, f1N, f1D, _⟩ := hc
  have d5 : u 5 = _ := hd 5 (by kernel_rfl) (by decide)
  exact run_load_part 35 (.tmp 10) rfl (w.heap.size + 1) 0 d5 #[(.bool x10), (.slice A10 n10 c10)] _ k1 rfl Tryz.underlying35 rfl (by kernel_rfl)
 ·refine step_is (o := Oper.mk (some 12) _ _ _ _ _) rfl rfl rfl rfl (fun u ws hc hd => ?_)
  go_simp
 ·refine step_is (o := Oper.mk (some 13) _ _ _ _ _) rfl rfl rfl rfl (fun u ws hc hd => ?_)
  obtain ⟨k0, k1, f0N, f0D, f1N, f1D, _⟩ := hc
  have d7 : u 7 = _ := hd 7 (by kernel_rfl) (by decide)
  exact run_load_part 35 (.tmp 12) rfl (w.heap.size) 2 d7 #[(.bool x01), (.slice A01 n01 c01)] _ k0 rfl Tryz.underlying35 rfl (by kernel_rfl)
 ·refine step_call (o := Oper.mk (some 14) _ _ _ _ _) rfl rfl rfl (fun u ws hc hd => ?_)
  obtain ⟨k0, k1, f0N, f0D, f1N, f1D, _⟩ := hc
  have d6 : u 6 = _ := hd 6 (by kernel_rfl) (by decide)
  have d8 : u 8 = _ := hd 8 (by kernel_rfl) (by decide)
  have HC := Lib.hid (wtimes_any f1N f0D (by omega))
  refine ⟨30, #[(.agg #[(.bool x10), (.slice A10 n10 c10)]), (.agg #[(.bool x01), (.slice A01 n01 c01)])], ?_, HC.out⟩
  ·clear HC; go_simp
 ·refine step_call (o := Oper.mk (some 15) _ _ _ _ _) rfl rfl rfl (fun u ws hc hd => ?_)
  obtain ⟨k0, k1, f0N, f0D, f1N, f1D, _⟩ := hc
  have HC := Lib.hid (wplus_any (k := k + j) ((hd 4 (by kernel_rfl) (by decide) : IsWh (N0 * D1) (k + j) (u 4) ws)) (IsWh.up (hd 9 (by kernel_rfl) (by decide) : IsWh (N1 * D0) (j + k) (u 9) ws) (by omega)) (by omega))
  refine ⟨33, #[u 4, u 9], ?_, HC.out⟩
  ·clear HC; go_simp
 ·refine step_is (o := Oper.mk (some 16) _ _ _ _ _) rfl rfl rfl rfl (fun u ws hc hd => ?_)
  go_simp
 ·refine step_is (o := Oper.mk (some 17) _ _ _ _ _) rfl rfl rfl rfl (fun u ws hc hd => ?_)
  obtain ⟨k0, k1, f0N, f0D, f1N, f1D, _⟩ := hc
  have d11 : u 11 = _ := hd 11 (by kernel_rfl) (by decide)
  exact run_load_part 35 (.tmp 16) rfl (w.heap.size) 2 d11 #[(.bool x01), (.slice A01 n01 c01)] _ k0 rfl Tryz.underlying35 rfl (by kernel_rfl)
 ·refine step_is (o := Oper.mk (some 18) _ _ _ _ _) rfl rfl rfl rfl (fun u ws hc hd => ?_)
  go_simp
 ·refine step_is (o := Oper.mk (some 19) _ _ _ _ _) rfl rfl rfl rfl (fun u ws hc hd => ?_)
  obtain ⟨k0, k1, f0N, f0D, f1N, f1D, _⟩ := hc
  have d13 : u 13 = _ := hd 13 (by kernel_rfl) (by decide)
  exact run_load_part 35 (.tmp 18) rfl (w.heap.size + 1) 2 d13 #[(.bool x11), (.slice A11 n11 c11)] _ k1 rfl Tryz.underlying35 rfl (by kernel_rfl)
 ·refine step_call (o := Oper.mk (some 20) _ _ _ _ _) rfl rfl rfl (fun u ws hc hd => ?_)
  obtain ⟨k0, k1, f0N, f0D, f1N, f1D, _⟩ := hc
  have d12 : u 12 = _ := hd 12 (by kernel_rfl) (by decide)
  have d14 : u 14 = _ := hd 14 (by kernel_rfl) (by decide)
  have HC := Lib.hid (wtimes_any f0D f1D (by omega))
  refine ⟨30, #[(.agg #[(.bool x01), (.slice A01 n01 c01)]), (.agg #[(.bool x11), (.slice A11 n11 c11)])], ?_, HC.out⟩
  ·clear HC; go_simp
 ·intro u w1 hb1 hf hn1
  have fa : IsWh _ _ (u 10) w1 := hf 10 (by decide) (by decide)
  obtain ⟨ax0, aA0, an0, ac0, ea⟩ := fa.shape
  rw [ea] at fa
  have fb : IsWh _ _ (u 15) w1 := hf 15 (by decide) (by decide)
  obtain ⟨bx0, bA0, bn0, bc0, eb⟩ := fb.shape
  rw [eb] at fb
  have kr := k2.below hb1 k2.lt
  clear hf hn1
  refine wpAny_tail (j := 16) (o := Oper.mk (some 21) _ _ _ _ _) rfl (by kernel_rfl) (fun K hK => ?_)
  rw [ea, eb]
  go_simp
  refine hK.out _ _ ?_
  clear hK K
  refine wpAny_store (j := 17) (o := Oper.mk none _ _ _ _ _) rfl (by kernel_rfl) rfl 37 (.tmp 4) (.tmp 21) rfl (w.heap.size + 1 + 1) 0 #[.bool ax0, .slice aA0 an0 ac0, .bool bx0, .slice bA0 bn0 bc0] rfl rfl #[.bool ax0, .slice aA0 an0 ac0, .bool bx0, .slice bA0 bn0 bc0] kr (by simp) rfl (by kernel_rfl) (by simp [Value.oneCell']) (fun w2 k9 hg9 hs9 => ?_)
  refine wpAny_end (by kernel_rfl) ?_
  refine NoPanic.normal ?_
  go_wp2_with fail
  refine bodyPost_ret (results_row1 rfl _ _ _ _ _ (by rfl) k9 Tryz.underlying37 rfl (by kernel_rfl)) rfl ?_
  exact ⟨_, rfl, IsFr.make (fa.far kr (by decide) hg9) (fb.far kr (by decide) hg9) (by omega) (by omega) (Int.mul_pos HX.out.1.1 HX.out.2.1) (fr_plus HX.out.1.1 HX.out.2.1 HX.out.1.2 HX.out.2.2), own_set hbw hb1 (by omega) hg9⟩
theorem fr_times {N D M E : Int} {p q : Rat} (hD : 0 < D) (hE : 0 < E) (hp : p = (N : Rat) / (D : Rat)) (hq : q = (M : Rat) / (E : Rat)) : p * q = ((N * M : Int) : Rat) / ((D * E : Int) : Rat) := by
 have h1 := intcast_pos hD
 have h2 := intcast_pos hE
 have n1 : (D : Rat) ≠ 0 := by grind
 have n2 : (E : Rat) ≠ 0 := by grind
 subst hp hq
 simp only [Rat.intCast_add, Rat.intCast_mul]
 grind
set_option maxRecDepth 100000 in
set_option maxHeartbeats 4000000 in
theorem frtimes_any {w : World} {v1 v2 : Value} {p q : Rat} {k j : Nat} (h0 : IsFr p k v1 w) (h1 : IsFr q j v2 w) (hk : k + j ≤ 1000000) :
  Calls Tryz.prog 10 #[v1, v2] w (Ret w (IsFr (p * q) (k + j))) := by
 obtain ⟨x00, A00, n00, c00, x01, A01, n01, c01, N0, D0, rfl, f0N, f0D, hD0, hp0⟩ := h0.opened
 obtain ⟨x10, A10, n10, c10, x11, A11, n11, c11, N1, D1, rfl, f1N, f1D, hD1, hp1⟩ := h1.opened
 have HX := Lib.hid (And.intro (And.intro hD0 hp0) (And.intro hD1 hp1))
 clear hD0 hD1 hp0 hp1
 go_enter Tryz.func10, Tryz.ntmps10
 go_wp2_with fail
 have hbw : Below w.heap.size w (((w.alloc (Obj.cells #[.bool x00, .slice A00 n00 c00, .bool x01, .slice A01 n01 c01] 37)).alloc (Obj.cells #[.bool x10, .slice A10 n10 c10, .bool x11, .slice A11 n11 c11] 37)).alloc (Obj.cells #[.bool false, .slice none 0 0, .bool false, .slice none 0 0] 37)) := ((((Below.refl _ _).alloc (Nat.le_refl _) _).alloc (by simp <;> omega) _).alloc (by simp <;> omega) _)
 have k0 : Blk (((w.alloc (Obj.cells #[.bool x00, .slice A00 n00 c00, .bool x01, .slice A01 n01 c01] 37)).alloc (Obj.cells #[.bool x10, .slice A10 n10 c10, .bool x11, .slice A11 n11 c11] 37)).alloc (Obj.cells #[.bool false, .slice none 0 0, .bool false, .slice none 0 0] 37)) (w.heap.size) 37 #[.bool x00, .slice A00 n00 c00, .bool x01, .slice A01 n01 c01] := ((((Blk.new w 37 #[.bool x00, .slice A00 n00 c00, .bool x01, .slice A01 n01 c01]).alloc (Obj.cells #[.bool x10, .slice A10 n10 c10, .bool x11, .slice A11 n11 c11] 37)).alloc (Obj.cells #[.bool false, .slice none 0 0, .bool false, .slice none 0 0] 37))).cast (by simp)
 have k1 : Blk (((w.alloc (Obj.cells #[.bool x00, .slice A00 n00 c00, .bool x01, .slice A01 n01 c01] 37)).alloc (Obj.cells #[.bool x10, .slice A10 n10 c10, .bool x11, .slice A11 n11 c11] 37)).alloc (Obj.cells #[.bool false, .slice none 0 0, .bool false, .slice none 0 0] 37)) (w.heap.size + 1) 37 #[.bool x10, .slice A10 n10 c10, .bool x11, .slice A11 n11 c11] := (((Blk.new (w.alloc (Obj.cells #[.bool x00, .slice A00 n00 c00, .bool x01, .slice A01 n01 c01] 37)) 37 #[.bool x10, .slice A10 n10 c10, .bool x11, .slice A11 n11 c11]).alloc (Obj.cells #[.bool false, .slice none 0 0, .bool false, .slice none 0 0] 37))).cast (by simp)
 have k2 : Blk (((w.alloc (Obj.cells #[.bool x00, .slice A00 n00 c00, .bool x01, .slice A01 n01 c01] 37)).alloc (Obj.cells #[.bool x10, .slice A10 n10 c10, .bool x11, .slice A11 n11 c11] 37)).alloc (Obj.cells #[.bool false, .slice none 0 0, .bool false, .slice none 0 0] 37)) (w.heap.size + 1 + 1) 37 #[.bool false, .slice none 0 0, .bool false, .slice none 0 0] := ((Blk.new ((w.alloc (Obj.cells #[.bool x00, .slice A00 n00 c00, .bool x01, .slice A01 n01 c01] 37)).alloc (Obj.cells #[.bool x10, .slice A10 n10 c10, .bool x11, .slice A11 n11 c11] 37)) 37 #[.bool false, .slice none 0 0, .bool false, .slice none 0 0])).cast (by simp)
 generalize hW : (((w.alloc (Obj.cells #[.bool x00, .slice A00 n00 c00, .bool x01, .slice A01 n01 c01] 37)).alloc (Obj.cells #[.bool x10, .slice A10 n10 c10, .bool x11, .slice A11 n11 c11] 37)).alloc (Obj.cells #[.bool false, .slice none 0 0, .bool false, .slice none 0 0] 37)) = W at *
 clear hW
 have f0N := f0N.below hbw
 have f0D := f0D.below hbw
 have f1N := f1N.below hbw
 have f1D := f1D.below hbw
 refine wp_region_noPanic ?_
 refine wp_region_list (mk := ?mk) noV_vgs [Is (ptr w.heap.size), Is (.agg #[(.bool x00), (.slice A00 n00 c00)]), Is (ptr (w.heap.size + 1)), Is (.agg #[(.bool x10), (.slice A10 n10 c10)]), IsWh (N0 * N1) (k + j), Is (.pointer (some ⟨w.heap.size, 2, none⟩)), Is (.agg #[(.bool x01), (.slice A01 n01 c01)]), Is (.pointer (some ⟨w.heap.size + 1, 2, none⟩)), Is (.agg #[(.bool x11), (.slice A11 n11 c11)]), IsWh (D0 * D1) (k + j)] [.plain, .plain, .plain, .plain, .plain, .plain, .plain, .plain, .plain, .plain] 10 2 (fun w' => Blk w' (w.heap.size) 37 #[.bool x00, .slice A00 n00 c00, .bool x01, .slice A01 n01 c01] ∧ Blk w' (w.heap.size + 1) 37 #[.bool x10, .slice A10 n10 c10, .bool x11, .slice A11 n11 c11] ∧ IsWh N0 k (.agg #[(.bool x00), (.slice A00 n00 c00)]) w' ∧ IsWh D0 k (.agg #[(.bool x01), (.slice A01 n01 c01)]) w' ∧ IsWh N1 j (.agg #[(.bool x10), (.slice A10 n10 c10)]) w' ∧ IsWh D1 j (.agg #[(.bool x11), (.slice A11 n11 c11)]) w' ∧ True) ⟨is_steady _ _ _, is_steady _ _ _, is_steady _ _ _, is_steady _ _ _, nov fun _ _ _ h => h.below, is_steady _ _ _, is_steady _ _ _, is_steady _ _ _, is_steady _ _ _, nov fun _ _ _ h => h.below, trivial⟩ (by kernel_rfl) (by kernel_rfl) (by kernel_rfl) (by kernel_rfl) (by kernel_rfl) (by kernel_rfl) ?hmk (fun w' hB => ⟨k0.below hB k0.lt, k1.below hB k1.lt, f0N.below hB, f0D.below hB, f1N.below hB, f1D.below hB, trivial⟩)
  (steps_all (steps_cons ?_ (steps_cons ?_ (steps_cons ?_ (steps_cons ?_ (steps_cons ?_ (steps_cons ?_ (steps_cons ?_ (steps_cons ?_ (steps_cons ?_ (steps_cons ?_ steps_nil))))))))))) ?_
 case hmk =>
  intro u
  simp only [mkFrom, mkL, dstOf, List.range, List.range.loop, Act.put, List.setIfInBounds_toArray, List.set_cons_zero, List.set_cons_succ, List.getElem?_toArray, List.getElem?_cons_zero, List.getElem?_cons_succ, Option.bind_some]
  rfl
 ·refine step_is (o := Oper.mk (some 5) _ _ _ _ _) rfl rfl rfl rfl (fun u ws hc hd => ?_)
  go_simp
 ·refine step_is (o := Oper.mk (some 6) _ _ _ _ _) rfl rfl rfl rfl (fun u ws hc hd => ?_)
  obtain ⟨k0, k1, f0N, f0D, f1N, f1D, _⟩ := hc
  have d0 : u 0 = _ := hd 0 (by kernel_rfl) (by decide)
  exact run_load_part 35 (.tmp 5) rfl (w.heap.size) 0 d0 #[(.bool x00), (.slice A00 n00 c00)] _ k0 rfl Tryz.underlying35 rfl (by kernel_rfl)
 ·refine step_is (o := Oper.mk (some 7) _ _ _ _ _) rfl rfl rfl rfl (fun u ws hc hd => ?_)
  go_simp
 ·refine step_is (o := Oper.mk (some 8) _ _ _ _ _) rfl rfl rfl rfl (fun u ws hc hd => ?_)
  obtain ⟨k0, k1, f0N, f0D, f1N, f1D, _⟩ := hc
  have d2 : u 2 = _ := hd 2 (by kernel_rfl) (by decide)
  exact run_load_part 35 (.tmp 7) rfl (w.heap.size + 1) 0 d2 #[(.bool x10), (.slice A10 n10 c10)] _ k1 rfl Tryz.underlying35 rfl (by kernel_rfl)
 ·refine step_call (o := Oper.mk (some 9) _ _ _ _ _) rfl rfl rfl (fun u ws hc hd => ?_)
  obtain ⟨k0, k1, f0N, f0D, f1N, f1D, _⟩ := hc
  have d1 : u 1 = _ := hd 1 (by kernel_rfl) (by decide)
  have d3 : u 3 = _ := hd 3 (by kernel_rfl) (by decide)
  have HC := Lib.hid (wtimes_any f0N f1N (by omega))
  refine ⟨30, #[(.agg #[(.bool x00), (.slice A00 n00 c00)]), (.agg #[(.bool x10), (.slice A10 n10 c10)])], ?_, HC.out⟩
  ·clear HC; go_simp
 ·refine step_is (o := Oper.mk (some 10) _ _ _ _ _) rfl rfl rfl rfl (fun u ws hc hd => ?_)
  go_simp
 ·refine step_is (o := Oper.mk (some 11) _ _ _ _ _) rfl rfl rfl rfl (fun u ws hc hd => ?_)
  obtain ⟨k0, k1, f0N, f0D, f1N, f1D, _⟩ := hc
  have d5 : u 5 = _ := hd 5 (by kernel_rfl) (by decide)
  exact run_load_part 35 (.tmp 10) rfl (w.heap.size) 2 d5 #[(.bool x01), (.slice A01 n01 c01)] _ k0 rfl Tryz.underlying35 rfl (by kernel_rfl)
 ·refine step_is (o := Oper.mk (some 12) _ _ _ _ _) rfl rfl rfl rfl (fun u ws hc hd => ?_)
  go_simp
 ·refine step_is (o := Oper.mk (some 13) _ _ _ _ _) rfl rfl rfl rfl (fun u ws hc hd => ?_)
  obtain ⟨k0, k1, f0N, f0D, f1N, f1D, _⟩ := hc
  have d7 : u 7 = _ := hd 7 (by kernel_rfl) (by decide)
  exact run_load_part 35 (.tmp 12) rfl (w.heap.size + 1) 2 d7 #[(.bool x11), (.slice A11 n11 c11)] _ k1 rfl Tryz.underlying35 rfl (by kernel_rfl)
 ·refine step_call (o := Oper.mk (some 14) _ _ _ _ _) rfl rfl rfl (fun u ws hc hd => ?_)
  obtain ⟨k0, k1, f0N, f0D, f1N, f1D, _⟩ := hc
  have d6 : u 6 = _ := hd 6 (by kernel_rfl) (by decide)
  have d8 : u 8 = _ := hd 8 (by kernel_rfl) (by decide)
  have HC := Lib.hid (wtimes_any f0D f1D (by omega))
  refine ⟨30, #[(.agg #[(.bool x01), (.slice A01 n01 c01)]), (.agg #[(.bool x11), (.slice A11 n11 c11)])], ?_, HC.out⟩
  ·clear HC; go_simp
 ·intro u w1 hb1 hf hn1
  have fa : IsWh _ _ (u 4) w1 := hf 4 (by decide) (by decide)
  obtain ⟨ax0, aA0, an0, ac0, ea⟩ := fa.shape
  rw [ea] at fa
  have fb : IsWh _ _ (u 9) w1 := hf 9 (by decide) (by decide)
  obtain ⟨bx0, bA0, bn0, bc0, eb⟩ := fb.shape
  rw [eb] at fb
  have kr := k2.below hb1 k2.lt
  clear hf hn1
  refine wpAny_tail (j := 10) (o := Oper.mk (some 15) _ _ _ _ _) rfl (by kernel_rfl) (fun K hK => ?_)
  rw [ea, eb]
  go_simp
  refine hK.out _ _ ?_
  clear hK K
  refine wpAny_store (j := 11) (o := Oper.mk none _ _ _ _ _) rfl (by kernel_rfl) rfl 37 (.tmp 4) (.tmp 15) rfl (w.heap.size + 1 + 1) 0 #[.bool ax0, .slice aA0 an0 ac0, .bool bx0, .slice bA0 bn0 bc0] rfl rfl #[.bool ax0, .slice aA0 an0 ac0, .bool bx0, .slice bA0 bn0 bc0] kr (by simp) rfl (by kernel_rfl) (by simp [Value.oneCell']) (fun w2 k9 hg9 hs9 => ?_)
  refine wpAny_end (by kernel_rfl) ?_
  refine NoPanic.normal ?_
  go_wp2_with fail
  refine bodyPost_ret (results_row1 rfl _ _ _ _ _ (by rfl) k9 Tryz.underlying37 rfl (by kernel_rfl)) rfl ?_
  exact ⟨_, rfl, IsFr.make (fa.far kr (by decide) hg9) (fb.far kr (by decide) hg9) (by omega) (by omega) (Int.mul_pos HX.out.1.1 HX.out.2.1) (fr_times HX.out.1.1 HX.out.2.1 HX.out.1.2 HX.out.2.2), own_set hbw hb1 (by omega) hg9⟩
set_option maxRecDepth 100000 in
set_option maxHeartbeats 4000000 in
theorem frless_any {w : World} {v1 v2 : Value} {p q : Rat} {k j : Nat} (f0 : IsFr p k v1 w) (f1 : IsFr q j v2 w) (hk : k + j ≤ 1000000) :
  Calls Tryz.prog 34 #[v1, v2] w (Ret w (IsFr (p - q) (k + j + 1))) := by
 obtain ⟨x00, A00, n00, c00, x01, A01, n01, c01, e0⟩ := f0.shape
 rw [e0] at f0 ⊢
 clear e0
 obtain ⟨x10, A10, n10, c10, x11, A11, n11, c11, e1⟩ := f1.shape
 rw [e1] at f1 ⊢
 clear e1
 go_enter Tryz.func34, Tryz.ntmps34
 go_wp2_with fail
 have hbw : Below w.heap.size w (((w.alloc (Obj.cells #[.bool x00, .slice A00 n00 c00, .bool x01, .slice A01 n01 c01] 37)).alloc (Obj.cells #[.bool x10, .slice A10 n10 c10, .bool x11, .slice A11 n11 c11] 37)).alloc (Obj.cells #[.bool false, .slice none 0 0, .bool false, .slice none 0 0] 37)) := ((((Below.refl _ _).alloc (Nat.le_refl _) _).alloc (by simp <;> omega) _).alloc (by simp <;> omega) _)
 have k0 : Blk (((w.alloc (Obj.cells #[.bool x00, .slice A00 n00 c00, .bool x01, .slice A01 n01 c01] 37)).alloc (Obj.cells #[.bool x10, .slice A10 n10 c10, .bool x11, .slice A11 n11 c11] 37)).alloc (Obj.cells #[.bool false, .slice none 0 0, .bool false, .slice none 0 0] 37)) (w.heap.size) 37 #[.bool x00, .slice A00 n00 c00, .bool x01, .slice A01 n01 c01] := ((((Blk.new w 37 #[.bool x00, .slice A00 n00 c00, .bool x01, .slice A01 n01 c01]).alloc (Obj.cells #[.bool x10, .slice A10 n10 c10, .bool x11, .slice A11 n11 c11] 37)).alloc (Obj.cells #[.bool false, .slice none 0 0, .bool false, .slice none 0 0] 37))).cast (by simp)
 have k1 : Blk (((w.alloc (Obj.cells #[.bool x00, .slice A00 n00 c00, .bool x01, .slice A01 n01 c01] 37)).alloc (Obj.cells #[.bool x10, .slice A10 n10 c10, .bool x11, .slice A11 n11 c11] 37)).alloc (Obj.cells #[.bool false, .slice none 0 0, .bool false, .slice none 0 0] 37)) (w.heap.size + 1) 37 #[.bool x10, .slice A10 n10 c10, .bool x11, .slice A11 n11 c11] := (((Blk.new (w.alloc (Obj.cells #[.bool x00, .slice A00 n00 c00, .bool x01, .slice A01 n01 c01] 37)) 37 #[.bool x10, .slice A10 n10 c10, .bool x11, .slice A11 n11 c11]).alloc (Obj.cells #[.bool false, .slice none 0 0, .bool false, .slice none 0 0] 37))).cast (by simp)
 have k2 : Blk (((w.alloc (Obj.cells #[.bool x00, .slice A00 n00 c00, .bool x01, .slice A01 n01 c01] 37)).alloc (Obj.cells #[.bool x10, .slice A10 n10 c10, .bool x11, .slice A11 n11 c11] 37)).alloc (Obj.cells #[.bool false, .slice none 0 0, .bool false, .slice none 0 0] 37)) (w.heap.size + 1 + 1) 37 #[.bool false, .slice none 0 0, .bool false, .slice none 0 0] := ((Blk.new ((w.alloc (Obj.cells #[.bool x00, .slice A00 n00 c00, .bool x01, .slice A01 n01 c01] 37)).alloc (Obj.cells #[.bool x10, .slice A10 n10 c10, .bool x11, .slice A11 n11 c11] 37)) 37 #[.bool false, .slice none 0 0, .bool false, .slice none 0 0])).cast (by simp)
 generalize hW : (((w.alloc (Obj.cells #[.bool x00, .slice A00 n00 c00, .bool x01, .slice A01 n01 c01] 37)).alloc (Obj.cells #[.bool x10, .slice A10 n10 c10, .bool x11, .slice A11 n11 c11] 37)).alloc (Obj.cells #[.bool false, .slice none 0 0, .bool false, .slice none 0 0] 37)) = W at *
 clear hW
 have f0 := f0.below hbw
 have f1 := f1.below hbw
 refine wp_region_noPanic ?_
 refine wp_region_list (mk := ?mk) noV_vgs [Is (.agg #[(.bool x00), (.slice A00 n00 c00), (.bool x01), (.slice A01 n01 c01)]), Is (.agg #[(.bool x10), (.slice A10 n10 c10), (.bool x11), (.slice A11 n11 c11)]), IsFr (-q) (j), IsFr (p + (-q)) (k + j + 1)] [.plain, .plain, .plain, .plain] 4 1 (fun w' => Blk w' (w.heap.size) 37 #[.bool x00, .slice A00 n00 c00, .bool x01, .slice A01 n01 c01] ∧ Blk w' (w.heap.size + 1) 37 #[.bool x10, .slice A10 n10 c10, .bool x11, .slice A11 n11 c11] ∧ IsFr p k (.agg #[(.bool x00), (.slice A00 n00 c00), (.bool x01), (.slice A01 n01 c01)]) w' ∧ IsFr q j (.agg #[(.bool x10), (.slice A10 n10 c10), (.bool x11), (.slice A11 n11 c11)]) w' ∧ True) ⟨is_steady _ _ _, is_steady _ _ _, nov fun _ _ _ h => h.below, nov fun _ _ _ h => h.below, trivial⟩ (by kernel_rfl) (by kernel_rfl) (by kernel_rfl) (by kernel_rfl) (by kernel_rfl) (by kernel_rfl) ?hmk (fun w' hB => ⟨k0.below hB k0.lt, k1.below hB k1.lt, f0.below hB, f1.below hB, trivial⟩)
  (steps_all (steps_cons ?_ (steps_cons ?_ (steps_cons ?_ (steps_cons ?_ steps_nil))))) ?_
 case hmk =>
  intro u
  simp only [mkFrom, mkL, dstOf, List.range, List.range.loop, Act.put, List.setIfInBounds_toArray, List.set_cons_zero, List.set_cons_succ, List.getElem?_toArray, List.getElem?_cons_zero, List.getElem?_cons_succ, Option.bind_some]
  rfl
 ·refine step_is (o := Oper.mk (some 5) _ _ _ _ _) rfl rfl rfl rfl (fun u ws hc hd => ?_)
  obtain ⟨k0, k1, f0, f1, _⟩ := hc
  exact run_load_part 37 (.tmp 2) rfl (w.heap.size) 0 rfl #[(.bool x00), (.slice A00 n00 c00), (.bool x01), (.slice A01 n01 c01)] _ k0 rfl Tryz.underlying37 rfl (by kernel_rfl)
 ·refine step_is (o := Oper.mk (some 6) _ _ _ _ _) rfl rfl rfl rfl (fun u ws hc hd => ?_)
  obtain ⟨k0, k1, f0, f1, _⟩ := hc
  exact run_load_part 37 (.tmp 3) rfl (w.heap.size + 1) 0 rfl #[(.bool x10), (.slice A10 n10 c10), (.bool x11), (.slice A11 n11 c11)] _ k1 rfl Tryz.underlying37 rfl (by kernel_rfl)
 ·refine step_call (o := Oper.mk (some 7) _ _ _ _ _) rfl rfl rfl (fun u ws hc hd => ?_)
  obtain ⟨k0, k1, f0, f1, _⟩ := hc
  have d1 : u 1 = _ := hd 1 (by kernel_rfl) (by decide)
  have HC := Lib.hid (frnot_any f1)
  refine ⟨75, #[(.agg #[(.bool x10), (.slice A10 n10 c10), (.bool x11), (.slice A11 n11 c11)])], ?_, HC.out⟩
  ·clear HC; go_simp
 ·refine step_call (o := Oper.mk (some 8) _ _ _ _ _) rfl rfl rfl (fun u ws hc hd => ?_)
  obtain ⟨k0, k1, f0, f1, _⟩ := hc
  have d0 : u 0 = _ := hd 0 (by kernel_rfl) (by decide)
  have HC := Lib.hid (frplus_any f0 (hd 2 (by kernel_rfl) (by decide) : IsFr (-q) (j) (u 2) ws) (by omega))
  refine ⟨13, #[(.agg #[(.bool x00), (.slice A00 n00 c00), (.bool x01), (.slice A01 n01 c01)]), u 2], ?_, HC.out⟩
  ·clear HC; go_simp
 ·intro u w1 hb1 hf hn1
  have fa : IsFr _ _ (u 3) w1 := hf 3 (by decide) (by decide)
  obtain ⟨ax0, aA0, an0, ac0, ax1, aA1, an1, ac1, ea⟩ := fa.shape
  rw [ea] at fa
  have kr := k2.below hb1 k2.lt
  clear hf hn1
  refine wpAny_store (j := 4) (o := Oper.mk none _ _ _ _ _) rfl (by kernel_rfl) rfl 37 (.tmp 4) (.tmp 8) rfl (w.heap.size + 1 + 1) 0 #[.bool ax0, .slice aA0 an0 ac0, .bool ax1, .slice aA1 an1 ac1] rfl ea #[.bool ax0, .slice aA0 an0 ac0, .bool ax1, .slice aA1 an1 ac1] kr (by simp) rfl (by kernel_rfl) (by simp [Value.oneCell']) (fun w2 k9 hg9 hs9 => ?_)
  refine wpAny_end (by kernel_rfl) ?_
  refine NoPanic.normal ?_
  go_wp2_with fail
  refine bodyPost_ret (results_row1 rfl _ _ _ _ _ (by rfl) k9 Tryz.underlying37 rfl (by kernel_rfl)) rfl ?_
  exact ⟨_, rfl, by rw [Rat.sub_eq_add_neg]; exact fa.far kr (by decide) hg9, own_set hbw hb1 (by omega) hg9⟩
set_option maxRecDepth 100000 in
set_option maxHeartbeats 4000000 in
theorem frcmp_any {w : World} {v1 v2 : Value} {p q : Rat} {k j : Nat} (h0 : IsFr p k v1 w) (h1 : IsFr q j v2 w) (hk : k + j ≤ 1000000) :
  Calls Tryz.prog 11 #[v1, v2] w (Ret w (Is (.int .i64 (cmpR p q)))) := by
 obtain ⟨x00, A00, n00, c00, x01, A01, n01, c01, N0, D0, rfl, f0N, f0D, hD0, hp0⟩ := h0.opened
 obtain ⟨x10, A10, n10, c10, x11, A11, n11, c11, N1, D1, rfl, f1N, f1D, hD1, hp1⟩ := h1.opened
 have HX := Lib.hid (show cmpI (N0 * D1) (N1 * D0) = cmpR p q by rw [hp0, hp1]; exact cmpR_eq hD0 hD1)
 clear hD0 hD1 hp0 hp1
 go_enter Tryz.func11, Tryz.ntmps11
 go_wp2_with fail
 have hbw : Below w.heap.size w ((w.alloc (Obj.cells #[.bool x00, .slice A00 n00 c00, .bool x01, .slice A01 n01 c01] 37)).alloc (Obj.cells #[.bool x10, .slice A10 n10 c10, .bool x11, .slice A11 n11 c11] 37)) := (((Below.refl _ _).alloc (Nat.le_refl _) _).alloc (by simp <;> omega) _)
 have k0 : Blk ((w.alloc (Obj.cells #[.bool x00, .slice A00 n00 c00, .bool x01, .slice A01 n01 c01] 37)).alloc (Obj.cells #[.bool x10, .slice A10 n10 c10, .bool x11, .slice A11 n11 c11] 37)) (w.heap.size) 37 #[.bool x00, .slice A00 n00 c00, .bool x01, .slice A01 n01 c01] := (((Blk.new w 37 #[.bool x00, .slice A00 n00 c00, .bool x01, .slice A01 n01 c01]).alloc (Obj.cells #[.bool x10, .slice A10 n10 c10, .bool x11, .slice A11 n11 c11] 37))).cast (by simp)
 have k1 : Blk ((w.alloc (Obj.cells #[.bool x00, .slice A00 n00 c00, .bool x01, .slice A01 n01 c01] 37)).alloc (Obj.cells #[.bool x10, .slice A10 n10 c10, .bool x11, .slice A11 n11 c11] 37)) (w.heap.size + 1) 37 #[.bool x10, .slice A10 n10 c10, .bool x11, .slice A11 n11 c11] := ((Blk.new (w.alloc (Obj.cells #[.bool x00, .slice A00 n00 c00, .bool x01, .slice A01 n01 c01] 37)) 37 #[.bool x10, .slice A10 n10 c10, .bool x11, .slice A11 n11 c11])).cast (by simp)
 generalize hW : ((w.alloc (Obj.cells #[.bool x00, .slice A00 n00 c00, .bool x01, .slice A01 n01 c01] 37)).alloc (Obj.cells #[.bool x10, .slice A10 n10 c10, .bool x11, .slice A11 n11 c11] 37)) = W at *
 clear hW
 have f0N := f0N.below hbw
 have f0D := f0D.below hbw
 have f1N := f1N.below hbw
 have f1D := f1D.below hbw
 refine wp_region_noPanic ?_
 refine wp_region_list (mk := ?mk) noV_vgs [Is (ptr w.heap.size), Is (.agg #[(.bool x00), (.slice A00 n00 c00)]), Is (.pointer (some ⟨w.heap.size + 1, 2, none⟩)), Is (.agg #[(.bool x11), (.slice A11 n11 c11)]), IsWh (N0 * D1) (k + j), Is (ptr (w.heap.size + 1)), Is (.agg #[(.bool x10), (.slice A10 n10 c10)]), Is (.pointer (some ⟨w.heap.size, 2, none⟩)), Is (.agg #[(.bool x01), (.slice A01 n01 c01)]), IsWh (N1 * D0) (j + k), Is (.int .i64 (cmpI (N0 * D1) (N1 * D0)))] [.plain, .plain, .plain, .plain, .plain, .plain, .plain, .plain, .plain, .plain, .plain] 11 1 (fun w' => Blk w' (w.heap.size) 37 #[.bool x00, .slice A00 n00 c00, .bool x01, .slice A01 n01 c01] ∧ Blk w' (w.heap.size + 1) 37 #[.bool x10, .slice A10 n10 c10, .bool x11, .slice A11 n11 c11] ∧ IsWh N0 k (.agg #[(.bool x00), (.slice A00 n00 c00)]) w' ∧ IsWh D0 k (.agg #[(.bool x01), (.slice A01 n01 c01)]) w' ∧ IsWh N1 j (.agg #[(.bool x10), (.slice A10 n10 c10)]) w' ∧ IsWh D1 j (.agg #[(.bool x11), (.slice A11 n11 c11)]) w' ∧ True) ⟨is_steady _ _ _, is_steady _ _ _, is_steady _ _ _, is_steady _ _ _, nov fun _ _ _ h => h.below, is_steady _ _ _, is_steady _ _ _, is_steady _ _ _, is_steady _ _ _, nov fun _ _ _ h => h.below, is_steady _ _ _, trivial⟩ (by kernel_rfl) (by kernel_rfl) (by kernel_rfl) (by kernel_rfl) (by kernel_rfl) (by kernel_rfl) ?hmk (fun w' hB => ⟨k0.below hB k0.lt, k1.below hB k1.lt, f0N.below hB, f0D.below hB, f1N.below hB, f1D.below hB, trivial⟩)
  (steps_all (steps_cons ?_ (steps_cons ?_ (steps_cons ?_ (steps_cons ?_ (steps_cons ?_ (steps_cons ?_ (steps_cons ?_ (steps_cons ?_ (steps_cons ?_ (steps_cons ?_ (steps_cons ?_ steps_nil)))))))))))) ?_
 case hmk =>
  intro u
  simp only [mkFrom, mkL, dstOf, List.range, List.range.loop, Act.put, List.setIfInBounds_toArray, List.set_cons_zero, List.set_cons_succ, List.getElem?_toArray, List.getElem?_cons_zero, List.getElem?_cons_succ, Option.bind_some]
  rfl
 ·refine step_is (o := Oper.mk (some 5) _ _ _ _ _) rfl rfl rfl rfl (fun u ws hc hd => ?_)
  go_simp
 ·refine step_is (o := Oper.mk (some 6) _ _ _ _ _) rfl rfl rfl rfl (fun u ws hc hd => ?_)
  obtain ⟨k0, k1, f0N, f0D, f1N, f1D, _⟩ := hc
  have d0 : u 0 = _ := hd 0 (by kernel_rfl) (by decide)
  exact run_load_part 35 (.tmp 5) rfl (w.heap.size) 0 d0 #[(.bool x00), (.slice A00 n00 c00)] _ k0 rfl Tryz.underlying35 rfl (by kernel_rfl)
 ·refine step_is (o := Oper.mk (some 7) _ _ _ _ _) rfl rfl rfl rfl (fun u ws hc hd => ?_)
  go_simp
 ·refine step_is (o := Oper.mk (some 8) _ _ _ _ _) rfl rfl rfl rfl (fun u ws hc hd => ?_)
  obtain ⟨k0, k1, f0N, f0D, f1N, f1D, _⟩ := hc
  have d2 : u 2 = _ := hd 2 (by kernel_rfl) (by decide)
  exact run_load_part 35 (.tmp 7) rfl (w.heap.size + 1) 2 d2 #[(.bool x11), (.slice A11 n11 c11)] _ k1 rfl Tryz.underlying35 rfl (by kernel_rfl)
 ·refine step_call (o := Oper.mk (some 9) _ _ _ _ _) rfl rfl rfl (fun u ws hc hd => ?_)
  obtain ⟨k0, k1, f0N, f0D, f1N, f1D, _⟩ := hc
  have d1 : u 1 = _ := hd 1 (by kernel_rfl) (by decide)
  have d3 : u 3 = _ := hd 3 (by kernel_rfl) (by decide)
  have HC := Lib.hid (wtimes_any f0N f1D (by omega))
  refine ⟨30, #[(.agg #[(.bool x00), (.slice A00 n00 c00)]), (.agg #[(.bool x11), (.slice A11 n11 c11)])], ?_, HC.out⟩
  ·clear HC; go_simp
 ·refine step_is (o := Oper.mk (some 10) _ _ _ _ _) rfl rfl rfl rfl (fun u ws hc hd => ?_)
  go_simp
 ·refine step_is (o := Oper.mk (some 11) _ _ _ _ _) rfl rfl rfl rfl (fun u ws hc hd => ?_)
  obtain ⟨k0, k1, f0N, f0D, f1N, f1D, _⟩ := hc
  have d5 : u 5 = _ := hd 5 (by kernel_rfl) (by decide)
  exact run_load_part 35 (.tmp 10) rfl (w.heap.size + 1) 0 d5 #[(.bool x10), (.slice A10 n10 c10)] _ k1 rfl Tryz.underlying35 rfl (by kernel_rfl)
 ·refine step_is (o := Oper.mk (some 12) _ _ _ _ _) rfl rfl rfl rfl (fun u ws hc hd => ?_)
  go_simp
 ·refine step_is (o := Oper.mk (some 13) _ _ _ _ _) rfl rfl rfl rfl (fun u ws hc hd => ?_)
  obtain ⟨k0, k1, f0N, f0D, f1N, f1D, _⟩ := hc
  have d7 : u 7 = _ := hd 7 (by kernel_rfl) (by decide)
  exact run_load_part 35 (.tmp 12) rfl (w.heap.size) 2 d7 #[(.bool x01), (.slice A01 n01 c01)] _ k0 rfl Tryz.underlying35 rfl (by kernel_rfl)
 ·refine step_call (o := Oper.mk (some 14) _ _ _ _ _) rfl rfl rfl (fun u ws hc hd => ?_)
  obtain ⟨k0, k1, f0N, f0D, f1N, f1D, _⟩ := hc
  have d6 : u 6 = _ := hd 6 (by kernel_rfl) (by decide)
  have d8 : u 8 = _ := hd 8 (by kernel_rfl) (by decide)
  have HC := Lib.hid (wtimes_any f1N f0D (by omega))
  refine ⟨30, #[(.agg #[(.bool x10), (.slice A10 n10 c10)]), (.agg #[(.bool x01), (.slice A01 n01 c01)])], ?_, HC.out⟩
  ·clear HC; go_simp
 ·refine step_call (o := Oper.mk (some 15) _ _ _ _ _) rfl rfl rfl (fun u ws hc hd => ?_)
  obtain ⟨k0, k1, f0N, f0D, f1N, f1D, _⟩ := hc
  have HC := Lib.hid (wcmp_any (k := k + j) ((hd 4 (by kernel_rfl) (by decide) : IsWh (N0 * D1) (k + j) (u 4) ws)) (IsWh.up (hd 9 (by kernel_rfl) (by decide) : IsWh (N1 * D0) (j + k) (u 9) ws) (by omega)) (by omega))
  refine ⟨31, #[u 4, u 9], ?_, HC.out⟩
  ·clear HC; go_simp
 ·intro u w1 hb1 hf hn1
  have f10 : u 10 = _ := hf 10 (by decide) (by decide)
  rw [HX.out] at f10
  clear hf hn1
  refine wpAny_tail (j := 11) (o := Oper.mk (some 4) _ _ _ _ _) rfl (by kernel_rfl) (fun K hK => ?_)
  rw [f10]
  go_simp
  refine hK.out _ _ ?_
  clear hK K
  refine wpAny_end (by kernel_rfl) ?_
  refine NoPanic.normal ?_
  go_wp2_with fail
  go_ret
  exact ⟨_, rfl, rfl, hbw.trans (hb1.mono hbw.size)⟩
set_option maxRecDepth 100000 in
set_option maxHeartbeats 4000000 in
theorem int1_any {w : World} {z : Nat} (hz : z < 4294967296) : Calls Tryz.prog 12 #[.int .i64 (z : Int)] w (Ret w (IsFr (z : Rat) 32)) := by
 have h := (Sw.start w).new 37 #[.bool false, .slice none 0 0, .bool false, .slice none 0 0]
 go_enter Tryz.func12, Tryz.ntmps12
 go_wp2_with fail
 generalize hW : w.alloc _ = W at h ⊢
 clear hW
 refine (small_any hz).mono ?_
 rintro _ w1 ⟨v, rfl, f0, hb⟩
 obtain ⟨x0, A0, n0, c0, e0⟩ := f0.shape
 subst e0
 replace h := h.call hb
 clear hb hz
 go_wp2_with fail
 refine (small_any (z := 1) (by decide)).mono ?_
 rintro _ w2 ⟨v, rfl, f1, hb⟩
 obtain ⟨x1, A1, n1, c1, e1⟩ := f1.shape
 subst e1
 replace h := (h.call hb).rest ((Stw.wh _ _ _).and (Stw.wh _ _ _)) (And.intro (f0.below hb) f1)
 clear hb f0 f1
 go_wp2_with (refine wpList_store_all (by rfl) 37 (.tmp 2) (.tmp 6) (by rfl) #[.bool x0, .slice A0 n0 c0, .bool x1, .slice A1 n1 c1] (by rfl) (by rfl) (h.get 0 rfl) (by simp) (by kernel_rfl) (by simp [Value.oneCell', ptr]) ?_; intro V1 k9 hg9; replace h := h.put 0 rfl (by unfold OwnT; decide) k9 hg9; simp only [List.set_cons_succ, List.set_cons_zero] at h; clear k9 hg9)
 refine bodyPost_ret (results_row1 rfl _ _ _ _ _ (by rfl) (h.get 0 rfl) Tryz.underlying37 rfl (by kernel_rfl)) rfl ?_
 exact ⟨_, rfl, IsFr.make h.fact.1 h.fact.2 (by omega) (by omega) (by decide) (by rw [Rat.intCast_natCast, Rat.intCast_natCast]; grind), h.bel⟩
theorem int1_zero {w : World} : Calls Tryz.prog 12 #[.int .i64 0] w (Ret w (IsFr 0 32)) := int1_any (z := 0) (by decide)
theorem int1_one {w : World} : Calls Tryz.prog 12 #[.int .i64 1] w (Ret w (IsFr 1 32)) := int1_any (z := 1) (by decide)
set_option maxRecDepth 100000 in
set_option maxHeartbeats 4000000 in
theorem frsign_any {w : World} {v1 : Value} {p : Rat} {k : Nat} (f0 : IsFr p k v1 w) (hk : k ≤ 900000) :
  Calls Tryz.prog 6 #[v1] w (Ret w (Is (.int .i64 (cmpR p 0)))) := by
 obtain ⟨x00, A00, n00, c00, x01, A01, n01, c01, e0⟩ := f0.shape
 rw [e0] at f0 ⊢
 clear e0
 go_enter Tryz.func6, Tryz.ntmps6
 go_wp2_with fail
 have hbw : Below w.heap.size w (w.alloc (Obj.cells #[.bool x00, .slice A00 n00 c00, .bool x01, .slice A01 n01 c01] 37)) := ((Below.refl _ _).alloc (Nat.le_refl _) _)
 have k0 : Blk (w.alloc (Obj.cells #[.bool x00, .slice A00 n00 c00, .bool x01, .slice A01 n01 c01] 37)) (w.heap.size) 37 #[.bool x00, .slice A00 n00 c00, .bool x01, .slice A01 n01 c01] := ((Blk.new w 37 #[.bool x00, .slice A00 n00 c00, .bool x01, .slice A01 n01 c01])).cast (by simp)
 generalize hW : (w.alloc (Obj.cells #[.bool x00, .slice A00 n00 c00, .bool x01, .slice A01 n01 c01] 37)) = W at *
 clear hW
 have f0 := f0.below hbw
 refine wp_region_noPanic ?_
 refine wp_region_list (mk := ?mk) noV_vgs [Is (.agg #[(.bool x00), (.slice A00 n00 c00), (.bool x01), (.slice A01 n01 c01)]), IsFr 0 32, Is (.int .i64 (cmpR p 0))] [.plain, .plain, .plain] 3 1 (fun w' => Blk w' (w.heap.size) 37 #[.bool x00, .slice A00 n00 c00, .bool x01, .slice A01 n01 c01] ∧ IsFr p k (.agg #[(.bool x00), (.slice A00 n00 c00), (.bool x01), (.slice A01 n01 c01)]) w' ∧ True) ⟨is_steady _ _ _, nov fun _ _ _ h => h.below, is_steady _ _ _, trivial⟩ (by kernel_rfl) (by kernel_rfl) (by kernel_rfl) (by kernel_rfl) (by kernel_rfl) (by kernel_rfl) ?hmk (fun w' hB => ⟨k0.below hB k0.lt, f0.below hB, trivial⟩)
  (steps_all (steps_cons ?_ (steps_cons ?_ (steps_cons ?_ steps_nil)))) ?_
 case hmk =>
  intro u
  simp only [mkFrom, mkL, dstOf, List.range, List.range.loop, Act.put, List.setIfInBounds_toArray, List.set_cons_zero, List.set_cons_succ, List.getElem?_toArray, List.getElem?_cons_zero, List.getElem?_cons_succ, Option.bind_some]
  rfl
 ·refine step_is (o := Oper.mk (some 3) _ _ _ _ _) rfl rfl rfl rfl (fun u ws hc hd => ?_)
  obtain ⟨k0, f0, _⟩ := hc
  exact run_load_part 37 (.tmp 1) rfl (w.heap.size) 0 rfl #[(.bool x00), (.slice A00 n00 c00), (.bool x01), (.slice A01 n01 c01)] _ k0 rfl Tryz.underlying37 rfl (by kernel_rfl)
 ·refine step_call (o := Oper.mk (some 4) _ _ _ _ _) rfl rfl rfl (fun u ws hc hd => ?_)
  obtain ⟨k0, f0, _⟩ := hc
  have HC := Lib.hid (int1_zero (w := ws))
  refine ⟨12, #[(.int .i64 0)], ?_, HC.out⟩
  ·clear HC; go_simp
 ·refine step_call (o := Oper.mk (some 5) _ _ _ _ _) rfl rfl rfl (fun u ws hc hd => ?_)
  obtain ⟨k0, f0, _⟩ := hc
  have d0 : u 0 = _ := hd 0 (by kernel_rfl) (by decide)
  have HC := Lib.hid (frcmp_any f0 (hd 1 (by kernel_rfl) (by decide) : IsFr 0 32 (u 1) ws) (by omega))
  refine ⟨11, #[(.agg #[(.bool x00), (.slice A00 n00 c00), (.bool x01), (.slice A01 n01 c01)]), u 1], ?_, HC.out⟩
  ·clear HC; go_simp
 ·intro u w1 hb1 hf hn1
  have f2 : u 2 = _ := hf 2 (by decide) (by decide)
  clear hf hn1
  refine wpAny_tail (j := 3) (o := Oper.mk (some 2) _ _ _ _ _) rfl (by kernel_rfl) (fun K hK => ?_)
  rw [f2]
  go_simp
  refine hK.out _ _ ?_
  clear hK K
  refine wpAny_end (by kernel_rfl) ?_
  refine NoPanic.normal ?_
  go_wp2_with fail
  go_ret
  exact ⟨_, rfl, rfl, hbw.trans (hb1.mono hbw.size)⟩
theorem fr_over {N D M E : Int} {p q : Rat} (hD : 0 < D) (hE : 0 < E) (hp : p = (N : Rat) / (D : Rat)) (hq : q = (M : Rat) / (E : Rat)) (hM : 0 < M) : p / q = ((N * E : Int) : Rat) / ((D * M : Int) : Rat) := by
 have h1 := intcast_pos hD
 have h2 := intcast_pos hE
 have h3 := intcast_pos hM
 have n1 : (D : Rat) ≠ 0 := by grind
 have n2 : (E : Rat) ≠ 0 := by grind
 have n3 : (M : Rat) ≠ 0 := by grind
 subst hp hq
 simp only [Rat.intCast_mul]
 grind
set_option maxRecDepth 100000 in
set_option maxHeartbeats 4000000 in
theorem frover_any {w : World} {v1 v2 : Value} {p q : Rat} {k j : Nat} (h0 : IsFr p k v1 w) (h1 : IsFr q j v2 w) (hq : 0 < q) (hk : k + j ≤ 1000000) :
  Calls Tryz.prog 16 #[v1, v2] w (Ret w (IsFr (p / q) (k + j))) := by
 obtain ⟨x00, A00, n00, c00, x01, A01, n01, c01, N0, D0, rfl, f0N, f0D, hD0, hp0⟩ := h0.opened
 obtain ⟨x10, A10, n10, c10, x11, A11, n11, c11, N1, D1, rfl, f1N, f1D, hD1, hp1⟩ := h1.opened
 have hN : 0 < N1 := by
  have h2 := intcast_pos hD1
  have : (0 : Rat) < (N1 : Rat) := by
   rw [hp1, Rat.lt_div_iff h2] at hq
   grind
  exact Rat.intCast_pos.1 this
 have HX := Lib.hid (And.intro (And.intro hD0 hp0) (And.intro hD1 (And.intro hp1 hN)))
 clear hD0 hD1 hp0 hp1 hN hq
 have h := (((Sw.start w).new 37 #[.bool x00, .slice A00 n00 c00, .bool x01, .slice A01 n01 c01]).new 37 #[.bool x10, .slice A10 n10 c10, .bool x11, .slice A11 n11 c11]).new 37 #[.bool false, .slice none 0 0, .bool false, .slice none 0 0]
 simp only [size_alloc] at h
 replace h := h.rest ((Stw.wh _ _ _).and ((Stw.wh _ _ _).and ((Stw.wh _ _ _).and (Stw.wh _ _ _)))) (And.intro (f0N.below h.bel) (And.intro (f0D.below h.bel) (And.intro (f1N.below h.bel) (f1D.below h.bel))))
 clear f0N f0D f1N f1D h0 h1
 go_enter Tryz.func16, Tryz.ntmps16
 go_wp2_with fail
 generalize hW : ((w.alloc (Obj.cells #[.bool x00, .slice A00 n00 c00, .bool x01, .slice A01 n01 c01] 37)).alloc (Obj.cells #[.bool x10, .slice A10 n10 c10, .bool x11, .slice A11 n11 c11] 37)).alloc (Obj.cells #[.bool false, .slice none 0 0, .bool false, .slice none 0 0] 37) = W at h ⊢
 clear hW
 refine (wtimes_any h.fact.1 h.fact.2.2.2 (by omega)).mono ?_
 rintro _ w1 ⟨v, rfl, fn, hb⟩
 obtain ⟨ax0, aA0, an0, ac0, e⟩ := fn.shape
 subst e
 replace h := (h.call hb).add (Stw.wh _ _ _) fn
 clear hb fn
 go_wp2_with (first | (replace h := h.new 35 #[.bool false, .slice none 0 0]; refine wpList_store_all (by rfl) 35 (.tmp 5) (.tmp 11) (by rfl) #[.bool ax0, .slice aA0 an0 ac0] (by rfl) (by rfl) (h.get 0 rfl) (by simp) (by kernel_rfl) (by simp [Value.oneCell', ptr]) ?_; intro V1 k9 hg9; replace h := h.put 0 rfl (by unfold OwnT; decide) k9 hg9; simp only [List.set_cons_succ, List.set_cons_zero] at h; clear k9 hg9) | (refine wpList_load_part (by rfl) 35 (.tmp 12) (by rfl) _ 2 (by rfl) _ _ #[.bool x01, .slice A01 n01 c01] _ (h.get 3 rfl) (by rfl) Tryz.underlying35 rfl (by kernel_rfl) ?_) | (refine wpList_load_part (by rfl) 35 (.tmp 14) (by rfl) _ 0 (by rfl) _ _ #[.bool x10, .slice A10 n10 c10] _ (h.get 2 rfl) (by rfl) Tryz.underlying35 rfl (by kernel_rfl) ?_))
 refine (wtimes_any h.fact.2.2.1 h.fact.2.2.2.1 (by omega)).mono ?_
 rintro _ w2 ⟨v, rfl, fn, hb⟩
 have hng : decide (D0 * N1 < 0) = false := decide_eq_false (by have := Int.mul_pos HX.out.1.1 HX.out.2.2.2; omega)
 obtain ⟨bA0, bn0, bc0, rfl, _⟩ := id fn
 rw [hng] at fn ⊢
 replace h := (h.call hb).add (Stw.wh _ _ _) fn
 clear hb fn hng
 go_wp2_with (first | (replace h := h.new 35 #[.bool false, .slice none 0 0]; refine wpList_store_all (by rfl) 35 (.tmp 6) (.tmp 16) (by rfl) #[.bool false, .slice bA0 bn0 bc0] (by rfl) (by rfl) (h.get 0 rfl) (by simp) (by kernel_rfl) (by simp [Value.oneCell', ptr]) ?_; intro V2 k9 hg9; replace h := h.put 0 rfl (by unfold OwnT; decide) k9 hg9; simp only [List.set_cons_succ, List.set_cons_zero] at h; clear k9 hg9; replace q0 := (h.get 0 rfl).cell 0) | (refine wpList_load_all (by rfl) 35 (.tmp 5) (by rfl) (by rfl) _ (h.get 1 rfl) Tryz.underlying35 rfl (by kernel_rfl) ?_) | (refine wpList_load_all (by rfl) 35 (.tmp 6) (by rfl) (by rfl) _ (h.get 0 rfl) Tryz.underlying35 rfl (by kernel_rfl) ?_) | (refine wpList_store_all (by rfl) 37 (.tmp 4) (.tmp 26) (by rfl) #[.bool ax0, .slice aA0 an0 ac0, .bool false, .slice bA0 bn0 bc0] (by rfl) (by rfl) (h.get 2 rfl) (by simp) (by kernel_rfl) (by simp [Value.oneCell', ptr]) ?_; intro V3 k9 hg9; replace h := h.put 2 rfl (by unfold OwnT; decide) k9 hg9; simp only [List.set_cons_succ, List.set_cons_zero] at h; clear k9 hg9))
 refine bodyPost_ret (results_row1 rfl _ _ _ _ _ (by rfl) (h.get 2 rfl) Tryz.underlying37 rfl (by kernel_rfl)) rfl ?_
 exact ⟨_, rfl, IsFr.make h.fact.2.1 h.fact.1 (by omega) (by omega) (Int.mul_pos HX.out.1.1 HX.out.2.2.2) (fr_over HX.out.1.1 HX.out.2.1 HX.out.1.2 HX.out.2.2.1 HX.out.2.2.2), h.bel⟩
end Go.Proofs.YtebpggfccljagaaGreat
namespace Go.Proofs.YtebpggfccljagaaGreat
open Go Go.RowKit
open Wh
set_option linter.unusedSimpArgs false
theorem infoS : (Tryz.prog.info? 33).map (fun i => (i.zero, i.size, i.bytes)) = some (some (.slice none 0 0), 1, 24) := by kernel_rfl
def Doubles (W : World) (b k : Nat) (xs : List Value) : Prop := xs.length = k ∧ ∀ i < k, ∃ D p q, xs[i]? = some (.slice D p q) ∧ SlW W W.heap.size D p q (2 ^ i * b)
theorem Doubles.below {W W' : World} {b k : Nat} {xs : List Value} (h : Doubles W b k xs) (hb : Below W.heap.size W W') : Doubles W' b k xs :=
 ⟨h.1, fun i hi => (h.2 i hi).elim fun D h => h.elim fun p h => h.elim fun q h => ⟨D, p, q, h.1, h.2.below hb⟩⟩
theorem rest_step {a a' b i : Nat} (h1 : a' % b = a % b) (h2 : a' < 2 ^ (i + 1) * b) (h : 2 ^ i * b ≤ a') : (a' - 2 ^ i * b) % b = a % b ∧ a' - 2 ^ i * b < 2 ^ i * b := by
 refine ⟨?_, ?_⟩
 ·rw [← h1, Nat.mul_comm]
  exact Nat.sub_mul_mod (by rw [Nat.mul_comm]; exact h)
 ·rw [Nat.pow_succ, Nat.mul_right_comm] at h2
  omega
theorem ownsRow_below {W W' : World} {B : Nat} {e : TypeId} {size n : Nat} {v : Value} {xs : List Value} (h : W.ownsRow B e size v n xs) (hb : Below W.heap.size W W') : W'.ownsRow B e size v n xs :=
 h.kept (row := none) ⟨hb.os, hb.tape, hb.output, hb.size, fun i hi _ => hb.block i hi⟩ (by cases v.ownBlock <;> simp)
theorem SlW.push {W w' : World} {A : Option Addr} {n c m B k : Nat} {v : Value} {xs : List Value} (h : SlW W W.heap.size A n c m) (hown : W.ownsRow B 33 1 v k xs) (o : Obj) (hg : (W.alloc o).grownBy w' v.ownBlock) : SlW w' w'.heap.size A n c m := by
 have h1 := h.below (new_below W o)
 rcases (hown.alloc o).2 with ⟨rfl, h0⟩ | ⟨g, cap, cur, rfl, hb, hh, _⟩
 ·exact h1.below ⟨hg.os, hg.tape, hg.output, hg.size, fun i hi => hg.block i hi (by simp [Value.ownBlock])⟩
 ·exact h1.far (t := 33) hh (by decide) (by simpa [Value.ownBlock] using hg)
structure RowS (w W : World) (b k : Nat) (v : Value) (xs : List Value) : Prop where
 own : W.ownsRow w.heap.size 33 1 v k xs
 dbl : Doubles W b k xs
 bel : Below w.heap.size w W
theorem RowS.below {w W W' : World} {b k : Nat} {v : Value} {xs : List Value} (h : RowS w W b k v xs) (hb : Below W.heap.size W W') : RowS w W' b k v xs := ⟨ownsRow_below h.own hb, h.dbl.below hb, h.bel.trans (hb.mono h.bel.size)⟩
theorem RowS.shape {w W : World} {b k : Nat} {v : Value} {xs : List Value} (h : RowS w W b k v xs) : ∃ L c, v = .slice L k c := by
 rcases h.own.2 with ⟨rfl, h0⟩ | ⟨g, cap, cur, rfl, _⟩
 ·exact ⟨none, 0, by rw [h0]⟩
 ·exact ⟨_, cap, rfl⟩
theorem RowS.at_ {w W : World} {b k c : Nat} {L : Option Addr} {xs : List Value} (h : RowS w W b k (.slice L k c) xs) {j : Nat} (hj : j < k) : ∃ g D p q, L = some ⟨g, 0, none⟩ ∧ W.cell? ⟨g, j, none⟩ = some (.slice D p q) ∧ SlW W W.heap.size D p q (2 ^ j * b) := by
 obtain ⟨D, p, q, hx, hs⟩ := h.dbl.2 j hj
 obtain ⟨g, cap, cur, e, _, hb, hr⟩ := RowC.of_own h.own (by omega)
 injection e with e1 e2 e3
 refine ⟨g, D, p, q, e1, ?_, hs⟩
 rw [Blk.cell hb, hr.nth hx]
theorem wpS_push {w w0 : World} {ops : Array Oper} {rest : List Oper} {o : Oper} {a : Act} {Q : Exit → Act → World → Prop} (hgd : o.guard = none) (s x : Operand)
  (ho : o.op = .call { callee := .builtin .append, args := #[s, x], argTypes := #[174, 174] }) {b k : Nat} {v : Value} {xs : List Value} (hrow : RowS w0 w b k v xs) (hs : a.eval s = v)
  {X : Option Addr} {nx cx : Nat} (hX : SlW w w.heap.size X nx cx (2 ^ k * b)) (hx : a.eval x = .slice (some ⟨w.heap.size, 0, none⟩) 1 1) (hlen : k ≤ 1000000)
  (h : ∀ L c xs' w', RowS w0 w' b (k + 1) (.slice L (k + 1) c) xs' → (∀ {A n c m}, SlW w w.heap.size A n c m → SlW w' w'.heap.size A n c m) → wpList Tryz.prog ops Q rest (a.put o.dst (.slice L (k + 1) c)) w') :
  wpList Tryz.prog ops Q (o :: rest) a (w.alloc (.cells #[.slice X nx cx] 33)) := by
 obtain ⟨i0, hi, hz0, hz1, hz2⟩ := info_parts infoS
 have hr : Reads (w.alloc (.cells #[.slice X nx cx] 33)) (w.alloc (.cells #[.slice X nx cx] 33)).heap.size 1 (some ⟨w.heap.size, 0, none⟩) 1 [.slice X nx cx] := reads_blkN (Blk.new w 33 #[.slice X nx cx]) rfl
 refine wpList_append_any _ hgd s x 174 ho w0.heap.size 33 i0 (.slice none 0 0) 1 24 Tryz.underlying174 hi hz0 hz1 hz2 rfl (by decide) v k xs hs (hrow.own.alloc _) _ _ 1 1 [.slice X nx cx] hx hr (by simp [Value.oneCell']) (by unfold maxLen; omega) (by omega) (by have := hrow.bel.size; simp; omega) ?_
 intro v' w' h1 h2 h3
 have hsl : ∀ {A n c m}, SlW w w.heap.size A n c m → SlW w' w'.heap.size A n c m := fun q => q.push hrow.own _ h2
 have hR : RowS w0 w' b (k + 1) v' (xs ++ [.slice X nx cx]) := by
  refine ⟨h1, ⟨by rw [List.length_append, hrow.dbl.1]; rfl, fun i hi => ?_⟩, (hrow.bel.alloc hrow.bel.size _).grown h2 (by have := hrow.bel.size; simp; omega) (fun k hk => (hrow.own.lt k hk).1)⟩
  rcases Nat.lt_or_ge i k with hik | hik
  ·obtain ⟨D, p, q, e, hs⟩ := hrow.dbl.2 i hik
   exact ⟨D, p, q, by rw [List.getElem?_append_left (by rw [hrow.dbl.1]; exact hik)]; exact e, hsl hs⟩
  ·have : i = k := by omega
   subst this
   exact ⟨X, nx, cx, by rw [List.getElem?_append_right (by rw [hrow.dbl.1]; exact Nat.le_refl _), hrow.dbl.1, Nat.sub_self]; rfl, hsl hX⟩
 obtain ⟨L, c, rfl⟩ := hR.shape
 exact h L c _ w' hR hsl
set_option maxRecDepth 100000 in
set_option maxHeartbeats 4000000 in
theorem rest_any {w : World} {A C : Option Addr} {n m c d a b K : Nat} (h1 : SlW w w.heap.size A n c a) (h2 : SlW w w.heap.size C m d b) (hb : 0 < b) (ha : a < 2 ^ K) (hbk : b < 2 ^ K) (hK : K ≤ 100000) :
  Calls Tryz.prog 90 #[.slice A n c, .slice C m d] w (CutW w (a % b)) := by
 have hna := slw_len h1 ha (by omega)
 have Hb := Lib.hid (And.intro hb (And.intro ha hbk))
 clear hb ha hbk
 go_enter Tryz.func90, Tryz.ntmps90
 go_wp2_with fail
 go_loopg [5, 6] (a + 1 - b) (fun gk lv xv wr => ∃ (k : Nat) (L : Option Addr) (lc : Nat) (X : Option Addr) (nx cx : Nat) (xs : List Value), lv = .slice L k lc ∧ xv = .slice X nx cx ∧ gk = a + 1 - 2 ^ k * b ∧ k ≤ K ∧ SlW wr wr.heap.size X nx cx (2 ^ k * b) ∧ RowS w wr b k (.slice L k lc) xs)
 case atStart => exact ⟨0, none, 0, C, m, d, [], rfl, rfl, by simp, by omega, by simpa using h2, World.ownsRow_nil _ _ _ _, ⟨rfl, fun i hi => by omega⟩, Below.refl _ _⟩
 case round =>
  obtain ⟨k, L, lc, X, nx, cx, xs, rfl, rfl, hgk, hkK, hX, hrow⟩ := hrel
  have Hg := Lib.hid hgk
  clear hgk
  have hA := h1.below hrow.bel
  have hnx : nx ≤ 1000000000 := slw_len hX (k := K + K) (by
   rw [Nat.pow_add]
   exact Nat.lt_of_lt_of_le (Nat.mul_lt_mul_of_pos_left Hb.out.2.2 (Nat.two_pow_pos k)) (Nat.mul_le_mul_right _ (Nat.pow_le_pow_right (by decide) hkK))) (by omega)
  have HM := Lib.hid (tmore_any (c := cx) (d := c) hX.2.2.2 hA.2.2.2 hX.1.out hA.1.out (by omega) (by omega))
  have HX := Lib.hid hX
  have HR := Lib.hid hrow
  have hkl : k ≤ 100000 := by omega
  clear hX hA hrow
  go_wp2_with fail
  refine HM.out.mono ?_
  rintro _ w1 ⟨q, rfl, hw1⟩
  have hb1 : Below wr.heap.size wr w1 := by rw [hw1]; exact below_drewN (Below.refl _ _) q
  have hX := HX.out.below hb1
  have hrow := HR.out.below hb1
  clear hw1 HX HR HM hb1
  by_cases hle : 2 ^ k * b ≤ a
  ·obtain ⟨v, hv⟩ : ∃ v, v = cmpN (2 ^ k * b) a := ⟨_, rfl⟩
   have hv0 : v ≤ 0 := by rw [hv]; unfold cmpN; split; omega; rw [if_neg (by omega)]; omega
   have hkl : k < K := by
    have h3 : 2 ^ k ≤ 2 ^ k * b := Nat.le_mul_of_pos_right _ Hb.out.1
    exact (Nat.pow_lt_pow_iff_right (by decide : 1 < 2)).1 (Nat.lt_of_le_of_lt (Nat.le_trans h3 hle) Hb.out.2.1)
   rw [← hv]
   have Hle := Lib.hid hle
   clear hv hle
   go_wp2_with (at_builtin; refine wpS_push rfl (.tmp 16) (.tmp 18) rfl hrow rfl hX rfl (by omega) ?_; intro L2 c2 xs2 w2 hrow2 hsl; have hX2 := hsl hX; clear hX hrow hsl)
   refine (up_sl hX2 hX2 hnx hnx).mono ?_
   intro e w3 hcw
   obtain ⟨D, p, q, rfl, hs, hb3⟩ := hcw.sl
   have hrow3 := hrow2.below hb3
   clear hcw hX2 hrow2
   go_wp2
   go_roundg (a + 1 - 2 ^ (k + 1) * b)
   case measure =>
    have := Hg.out
    have := Hle.out
    have h3 : 0 < 2 ^ k * b := Nat.mul_pos (Nat.two_pow_pos k) Hb.out.1
    rw [Nat.pow_succ, Nat.mul_right_comm]
    omega
   case rel => exact ⟨k + 1, L2, c2, D, p, q, xs2, rfl, rfl, rfl, by omega, by rw [Nat.pow_succ, Nat.mul_right_comm, Nat.mul_two]; exact hs, hrow3⟩
  ·obtain ⟨v, hv⟩ : ∃ v, v = cmpN (2 ^ k * b) a := ⟨_, rfl⟩
   have hv0 : ¬ v ≤ 0 := by rw [hv, cmpN_gt (by omega)]; omega
   rw [← hv]
   have hA := h1.below hrow.bel
   have Hlt := Lib.hid (show a < 2 ^ k * b by omega)
   clear hv hle hX
   go_wp2
   go_loopg [0, 7] k (fun gk av iv wr => ∃ (A' : Option Addr) (n' c' a' : Nat), av = .slice A' n' c' ∧ iv = .int .i64 ((gk : Int) - 1) ∧ gk ≤ k ∧ SlW wr wr.heap.size A' n' c' a' ∧ RowS w wr b k (.slice L k lc) xs ∧ Hid (a' % b = a % b ∧ a' < 2 ^ gk * b ∧ a' ≤ a))
   case atStart => exact ⟨A, n, c, a, rfl, rfl, Nat.le_refl _, hA, hrow, rfl, Hlt.out, Nat.le_refl _⟩
   case round =>
    obtain ⟨A', n', c', a', rfl, rfl, hgk, hA', hrow', hinv⟩ := hrel
    by_cases h0 : 0 < gk
    ·obtain ⟨j, rfl⟩ : ∃ j, gk = j + 1 := ⟨gk - 1, by omega⟩
     rw [show (((j + 1 : Nat) : Int) - 1) = (j : Int) by omega]
     obtain ⟨g, D, p, q, rfl, hc, hs⟩ := hrow'.at_ (j := j) (by omega)
     have hji : (j : Int) < (k : Int) := by omega
     have hn' : n' ≤ 1000000000 := slw_len hA' (k := K) (Nat.lt_of_le_of_lt hinv.out.2.2 Hb.out.2.1) (by omega)
     have hp : p ≤ 1000000000 := slw_len hs (k := K + K) (by
      rw [Nat.pow_add]
      exact Nat.lt_of_lt_of_le (Nat.mul_lt_mul_of_pos_left Hb.out.2.2 (Nat.two_pow_pos j)) (Nat.mul_le_mul_right _ (Nat.pow_le_pow_right (by decide) (by omega)))) (by omega)
     have HM := Lib.hid (tmore_any (c := q) (d := c') hs.2.2.2 hA'.2.2.2 hs.1.out hA'.1.out (by omega) (by omega))
     have HA := Lib.hid hA'
     have HS := Lib.hid hs
     have HR := Lib.hid hrow'
     clear hA' hs hrow'
     go_wp2_with fail
     refine HM.out.mono ?_
     rintro _ w1 ⟨q, rfl, hw1⟩
     have hb1 : Below wr.heap.size wr w1 := by rw [hw1]; exact below_drewN (Below.refl _ _) q
     have hA' := HA.out.below hb1
     have hs := HS.out.below hb1
     have hrow' := HR.out.below hb1
     have hc1 := (hb1.cell (p := ⟨g, j, none⟩) (block_lt_of_cell hc)).trans hc
     clear hw1 HA HS HR HM hb1 hc
     by_cases hle : 2 ^ j * b ≤ a'
     ·obtain ⟨v, hv⟩ : ∃ v, v = cmpN (2 ^ j * b) a' := ⟨_, rfl⟩
      have hv0 : v ≤ 0 := by rw [hv]; unfold cmpN; split; omega; rw [if_neg (by omega)]; omega
      have Hst := Lib.hid (rest_step hinv.out.1 hinv.out.2.1 hle)
      have HD := Lib.hid (down_sl hA' hs hn' hle)
      rw [← hv]
      clear hv hle hA' hs
      go_wp2_with fail
      refine HD.out.mono ?_
      intro e w3 hcw
      obtain ⟨D3, p3, q3, rfl, hs3, hb3⟩ := hcw.sl
      have hrow3 := hrow'.below hb3
      clear hcw hrow' hc1 HD
      go_wp2
      go_roundg j
      case measure => omega
      case rel => exact ⟨D3, p3, q3, _, rfl, rfl, by omega, hs3, hrow3, Hst.out.1, Hst.out.2, by have := hinv.out.2.2; omega⟩
     ·obtain ⟨v, hv⟩ : ∃ v, v = cmpN (2 ^ j * b) a' := ⟨_, rfl⟩
      have hv0 : ¬ v ≤ 0 := by rw [hv, cmpN_gt (by omega)]; omega
      have Hlt2 := Lib.hid (show a' < 2 ^ j * b by omega)
      rw [← hv]
      clear hv hle hs
      go_wp2
      go_roundg j
      case measure => omega
      case rel => exact ⟨A', n', c', a', rfl, rfl, by omega, hA', hrow', hinv.out.1, Hlt2.out, hinv.out.2.2⟩
    ·have hg0 : gk = 0 := by omega
     subst hg0
     have Hz := Lib.hid (show a' = a % b by
      have h1 := hinv.out.1
      have h2 := hinv.out.2.1
      rw [Nat.pow_zero, Nat.one_mul] at h2
      rw [← h1, Nat.mod_eq_of_lt h2])
     have HE := Lib.hid (And.intro hA' hrow'.bel)
     clear hA' hrow'
     go_wp2
     go_ret
     rw [← Hz.out]
     exact ⟨_, _, _, rfl, HE.out.1.1, HE.out.1.2.1, HE.out.1.2.2.1, HE.out.1.2.2.2, HE.out.2⟩
theorem run_field_one {P : Program} {w : World} (ty : TypeId) (fs : Array Field) (hu : P.underlying ty = some (.struct fs)) (k : Nat) (f : Field) (hf : fs[k]? = some f) (d : TypeDesc) (he : P.underlying f.type = some d) (hd : d.isRow = false) (cs : Array Value) (v : Value) (hv : cs[f.offset]? = some v) :
  (Instr.field ty (.agg cs) k).run P w = .ok v w := by
 have hagg : (isAgg f.type).run P w = .ok false w := by
  unfold isAgg
  rw [Sem.run_bind, run_underlying he w]
  cases d <;> simp_all [TypeDesc.isRow]
 unfold Instr.field
 simp [Sem.run_bind, run_underlying hu w, hf, part, hagg, asAgg, hv]
theorem run_mag (w : World) (b : Bool) (A : Option Addr) (n c : Nat) : (Instr.field 35 (.agg #[.bool b, .slice A n c]) 1).run Tryz.prog w = .ok (.slice A n c) w :=
 run_field_one 35 _ Tryz.underlying35 1 _ rfl _ Tryz.underlying33 rfl _ _ rfl
theorem one_word {l : List Nat} (h : l.length = 1) (h0 : 0 < l.length) : val l = l[0] := by
 match l, h with
 | [x], _ => simp [val_cons, val_nil]
def RetQ (w : World) (Q : Prop) (e : Ending) (w' : World) : Prop := ∃ r : Bool, e = .returned (.bool r) ∧ (r = true → Q) ∧ Below w.heap.size w w'
set_option maxRecDepth 100000 in
set_option maxHeartbeats 4000000 in
theorem coprime_any {w : World} {b0 b1 : Bool} {s0 s1 : ByteArray} {z0 z1 : Int} {k : Nat} (h0 : Wv b0 s0 z0) (h1 : Wv b1 s1 z1) (hk0 : s0.size ≤ k) (hk1 : s1.size ≤ k) (hk : k ≤ 1000) (hz : 0 < z1) :
  Calls Tryz.prog 55 #[.agg #[.bool b0, .string s0, .bool b1, .string s1]] w (RetQ w (Nat.gcd z0.natAbs z1.natAbs = 1)) := by
 have H0 := Lib.hid (fun (W : World) => tof_any (w := W) h0 hk0 (by omega))
 have H1 := Lib.hid (fun (W : World) => tof_any (w := W) h1 hk1 (by omega))
 have Hz := Lib.hid hz
 have h := (Sw.start w).new 25 #[.bool b0, .string s0, .bool b1, .string s1]
 have hmag := run_mag
 clear h0 h1 hk0 hk1 hz
 go_enter Tryz.func55, Tryz.ntmps55
 go_wp2_with fail
 generalize hW : w.alloc _ = W at h ⊢
 clear hW
 refine (H0.out _).mono ?_
 rintro _ w1 ⟨_, rfl, ⟨A, n, c, rfl, sA, zA⟩, hb⟩
 replace h := (h.call hb).rest (Stw.sl _ _ _ _) sA
 clear hb sA
 go_wp2_with (refine wpList_load_part (by rfl) 23 (.tmp 9) (by rfl) _ 2 (by rfl) _ _ #[.bool b1, .string s1] _ (h.get 0 rfl) (by rfl) Tryz.underlying23 rfl (by kernel_rfl) ?_)
 refine (H1.out _).mono ?_
 rintro _ w2 ⟨_, rfl, ⟨C, m, d, rfl, sC, zC⟩, hb⟩
 replace h := (h.call hb).add (Stw.sl _ _ _ _) sC
 have HI := Lib.hid (And.intro h.fact h.bel)
 have Hb := Lib.hid (And.intro zA zC)
 clear hb sC h H0 H1 zA zC
 go_wp2_with fail
 go_loopg [3, 4] z0.natAbs (fun gk av bv wr => ∃ (A : Option Addr) (n c : Nat) (C : Option Addr) (m d y : Nat), av = .slice A n c ∧ bv = .slice C m d ∧ SlW wr wr.heap.size A n c gk ∧ SlW wr wr.heap.size C m d y ∧ Below w.heap.size w wr ∧
  Hid (0 < y ∧ Nat.gcd gk y = Nat.gcd z0.natAbs z1.natAbs ∧ gk < 2 ^ (8 * k) ∧ y < 2 ^ (8 * k)))
 case atStart => exact ⟨A, n, c, C, m, d, z1.natAbs, rfl, rfl, HI.out.1.2, HI.out.1.1, HI.out.2, by have := Hz.out; omega, rfl, Hb.out.1, Hb.out.2⟩
 case round =>
  obtain ⟨A, n, c, C, m, d, y, rfl, rfl, sA, sC, hbel, hinv⟩ := hrel
  have hp := slw_pos sA
  by_cases hg : 0 < gk
  ·have hn := hp.2 hg
   have HC := Lib.hid (rest_any sC sA hg hinv.out.2.2.2 hinv.out.2.2.1 (by omega))
   have HA := Lib.hid sA
   have Hg := Lib.hid hg
   clear hp sA sC hg
   go_wp2_with fail
   refine HC.out.mono ?_
   intro e w3 hcw
   obtain ⟨D3, p3, q3, rfl, hs3, hb3⟩ := hcw.sl
   have hA3 := HA.out.below hb3
   have hbel3 := hbel.trans (hb3.mono hbel.size)
   clear hcw hbel HC HA hb3
   go_wp2
   go_roundg (y % gk)
   case measure => exact Nat.mod_lt _ Hg.out
   case rel => exact ⟨D3, p3, q3, A, n, c, gk, rfl, rfl, hs3, hA3, hbel3, Hg.out, by rw [← Nat.gcd_rec]; exact hinv.out.2.1, Nat.lt_trans (Nat.mod_lt _ Hg.out) hinv.out.2.2.1, hinv.out.2.2.1⟩
  ·have hg0 : gk = 0 := by omega
   subst hg0
   have hn0 : ¬ 0 < n := fun e => by have := hp.1 e; omega
   have hn1 : n = 0 := by omega
   subst hn1
   have Hy := Lib.hid (show y = Nat.gcd z0.natAbs z1.natAbs by have := hinv.out.2.1; rwa [Nat.gcd_zero_left] at this)
   have Hbl := Lib.hid hbel
   clear hp hn0 hg sA
   by_cases hm : m = 1
   ·subst hm
    have hl : 0 < (wds y).length := by have := sC.1.out; omega
    obtain ⟨ad, rfl, _, c1⟩ := sC.2.2.2.at_ hl
    have hv := one_word (l := wds y) sC.1.out.symm hl
    rw [val_w] at hv
    rw [← hv] at c1
    have hylt := wd_get (wd_w y) _ hl
    rw [← hv] at hylt
    replace c1 : wr.cell? ad = some (.int .u32 (y : Int)) := c1
    clear hv hl sC
    by_cases h1 : y = 1
    ·subst h1
     go_wp2
     go_ret
     exact ⟨true, rfl, fun _ => Hy.out.symm, Hbl.out⟩
    ·have hne : ((y : Int) == 1) = false := by simp; omega
     go_wp2
     go_ret
     exact ⟨false, rfl, fun e => (by cases e), Hbl.out⟩
   ·have hne : ((m : Int) == 1) = false := by simp; omega
    clear sC
    go_wp2
    go_ret
    exact ⟨false, rfl, fun e => (by cases e), Hbl.out⟩
end Go.Proofs.YtebpggfccljagaaGreat
