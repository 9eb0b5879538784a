import Derived.Test.YtebpggfccljagaaGreatC9
import Derived.Test.YtebpggfccljagaaGreatC6
import Derived.LoopN
import Derived.Test.YtebpggfccljagaaGreatC7
namespace Go.Proofs.YtebpggfccljagaaGreat
open Go Go.RowKit
open Wh
set_option linter.unusedSimpArgs false
def detT (R : Nat → Nat → Rat) (a b c : Nat) (s : Int) : Rat := (s : Rat) * (R 0 a * (R 1 b * R 2 c))
def detQ (R : Nat → Nat → Rat) (i j k : Nat) : Rat := ((((detT R i j k 1 + detT R j k i 1) + detT R k i j 1) + detT R i k j (-1)) + detT R j i k (-1)) + detT R k j i (-1)
def Rows4 (w : World) (cs : Array Value) (R : Nat → Nat → Rat) (P : Nat → Nat → Nat) (n : Nat) : Prop := ∀ a b, a < 3 → b < 4 → cs[4 * a + b]? = some (ptr (P a b)) ∧ IsRat (R a b) n (ptr (P a b)) w
theorem israt_sz {q : Rat} {n : Nat} {v : Value} {w : World} (h : IsRat q n v w) : Sz q n := by
 obtain ⟨g, _, _, hs⟩ := h
 exact hs
theorem detT_sz {R : Nat → Nat → Rat} {a b c n : Nat} {s : Int} (ha : Sz (R 0 a) n) (hb : Sz (R 1 b) n) (hc : Sz (R 2 c) n) (hs : s.natAbs < 2 ^ 8) (hn : 8 ≤ n) : Sz (detT R a b c s) (8 * n) := by
 have h1 : Sz (s : Rat) n := (Sz.int hs (by omega)).up hn
 have h2 := Sz.mul hb hc
 have h3 := Sz.mul (ha.up (by omega : n ≤ n + n)) h2
 have h4 := Sz.mul (h1.up (by omega : n ≤ n + n + (n + n))) h3
 exact h4.up (by omega)
set_option maxRecDepth 100000 in
set_option maxHeartbeats 8000000 in
theorem det3_any {w : World} {g n i j k : Nat} {cs : Array Value} {R : Nat → Nat → Rat} {P : Nat → Nat → Nat} (kR : Blk w g 160 cs) (hR : Rows4 w cs R P n) (hi : i < 4) (hj : j < 4) (hk : k < 4) (hn8 : 8 ≤ n) (hn : n ≤ 1000) :
  Calls Tryz.prog 93 #[.int .i64 (i : Int), .int .i64 (j : Int), .int .i64 (k : Int), ptr g] w (Ret w (IsRat (detQ R i j k) (256 * n + 31))) := by
 have Hn := Lib.hid (And.intro hn8 hn)
 have HR := Lib.hid hR
 have hgl := kR.lt
 have HK := Lib.hid kR
 clear hR kR
 go_enter Tryz.func93, Tryz.ntmps93
 go_wp2_with fail
 have hbw : Below w.heap.size w ((w.alloc (Obj.cells #[.bool false, .slice none 0 0, .bool false, .slice none 0 0] 153)).alloc (Obj.cells #[.int .i64 (i : Int), .int .i64 (j : Int), .int .i64 (k : Int), .int .i64 1, .int .i64 (j : Int), .int .i64 (k : Int), .int .i64 (i : Int), .int .i64 1, .int .i64 (k : Int), .int .i64 (i : Int), .int .i64 (j : Int), .int .i64 1, .int .i64 (i : Int), .int .i64 (k : Int), .int .i64 (j : Int), .int .i64 (-1), .int .i64 (j : Int), .int .i64 (i : Int), .int .i64 (k : Int), .int .i64 (-1), .int .i64 (k : Int), .int .i64 (j : Int), .int .i64 (i : Int), .int .i64 (-1)] 161)) := (((Below.refl _ _).alloc (Nat.le_refl _) _).alloc (by simp <;> omega) _)
 have k0 : Blk ((w.alloc (Obj.cells #[.bool false, .slice none 0 0, .bool false, .slice none 0 0] 153)).alloc (Obj.cells #[.int .i64 (i : Int), .int .i64 (j : Int), .int .i64 (k : Int), .int .i64 1, .int .i64 (j : Int), .int .i64 (k : Int), .int .i64 (i : Int), .int .i64 1, .int .i64 (k : Int), .int .i64 (i : Int), .int .i64 (j : Int), .int .i64 1, .int .i64 (i : Int), .int .i64 (k : Int), .int .i64 (j : Int), .int .i64 (-1), .int .i64 (j : Int), .int .i64 (i : Int), .int .i64 (k : Int), .int .i64 (-1), .int .i64 (k : Int), .int .i64 (j : Int), .int .i64 (i : Int), .int .i64 (-1)] 161)) (w.heap.size) 153 #[.bool false, .slice none 0 0, .bool false, .slice none 0 0] := (((Blk.new w 153 #[.bool false, .slice none 0 0, .bool false, .slice none 0 0]).alloc (Obj.cells #[.int .i64 (i : Int), .int .i64 (j : Int), .int .i64 (k : Int), .int .i64 1, .int .i64 (j : Int), .int .i64 (k : Int), .int .i64 (i : Int), .int .i64 1, .int .i64 (k : Int), .int .i64 (i : Int), .int .i64 (j : Int), .int .i64 1, .int .i64 (i : Int), .int .i64 (k : Int), .int .i64 (j : Int), .int .i64 (-1), .int .i64 (j : Int), .int .i64 (i : Int), .int .i64 (k : Int), .int .i64 (-1), .int .i64 (k : Int), .int .i64 (j : Int), .int .i64 (i : Int), .int .i64 (-1)] 161))).cast (by simp)
 have k1 : Blk ((w.alloc (Obj.cells #[.bool false, .slice none 0 0, .bool false, .slice none 0 0] 153)).alloc (Obj.cells #[.int .i64 (i : Int), .int .i64 (j : Int), .int .i64 (k : Int), .int .i64 1, .int .i64 (j : Int), .int .i64 (k : Int), .int .i64 (i : Int), .int .i64 1, .int .i64 (k : Int), .int .i64 (i : Int), .int .i64 (j : Int), .int .i64 1, .int .i64 (i : Int), .int .i64 (k : Int), .int .i64 (j : Int), .int .i64 (-1), .int .i64 (j : Int), .int .i64 (i : Int), .int .i64 (k : Int), .int .i64 (-1), .int .i64 (k : Int), .int .i64 (j : Int), .int .i64 (i : Int), .int .i64 (-1)] 161)) (w.heap.size + 1) 161 #[.int .i64 (i : Int), .int .i64 (j : Int), .int .i64 (k : Int), .int .i64 1, .int .i64 (j : Int), .int .i64 (k : Int), .int .i64 (i : Int), .int .i64 1, .int .i64 (k : Int), .int .i64 (i : Int), .int .i64 (j : Int), .int .i64 1, .int .i64 (i : Int), .int .i64 (k : Int), .int .i64 (j : Int), .int .i64 (-1), .int .i64 (j : Int), .int .i64 (i : Int), .int .i64 (k : Int), .int .i64 (-1), .int .i64 (k : Int), .int .i64 (j : Int), .int .i64 (i : Int), .int .i64 (-1)] := ((Blk.new (w.alloc (Obj.cells #[.bool false, .slice none 0 0, .bool false, .slice none 0 0] 153)) 161 #[.int .i64 (i : Int), .int .i64 (j : Int), .int .i64 (k : Int), .int .i64 1, .int .i64 (j : Int), .int .i64 (k : Int), .int .i64 (i : Int), .int .i64 1, .int .i64 (k : Int), .int .i64 (i : Int), .int .i64 (j : Int), .int .i64 1, .int .i64 (i : Int), .int .i64 (k : Int), .int .i64 (j : Int), .int .i64 (-1), .int .i64 (j : Int), .int .i64 (i : Int), .int .i64 (k : Int), .int .i64 (-1), .int .i64 (k : Int), .int .i64 (j : Int), .int .i64 (i : Int), .int .i64 (-1)])).cast (by simp)
 generalize hW : ((w.alloc (Obj.cells #[.bool false, .slice none 0 0, .bool false, .slice none 0 0] 153)).alloc (Obj.cells #[.int .i64 (i : Int), .int .i64 (j : Int), .int .i64 (k : Int), .int .i64 1, .int .i64 (j : Int), .int .i64 (k : Int), .int .i64 (i : Int), .int .i64 1, .int .i64 (k : Int), .int .i64 (i : Int), .int .i64 (j : Int), .int .i64 1, .int .i64 (i : Int), .int .i64 (k : Int), .int .i64 (j : Int), .int .i64 (-1), .int .i64 (j : Int), .int .i64 (i : Int), .int .i64 (k : Int), .int .i64 (-1), .int .i64 (k : Int), .int .i64 (j : Int), .int .i64 (i : Int), .int .i64 (-1)] 161)) = W at *
 clear hW
 have hz : RatZ W w.heap.size := k0
 have hbel := hbw
 have kG := k1
 clear k0 k1 hbw
 obtain ⟨gr, hgr⟩ : ∃ gr, gr = w.heap.size + 1 := ⟨_, rfl⟩
 rw [← hgr] at kG ⊢
 obtain ⟨gs, hgs⟩ : ∃ gs, gs = w.heap.size := ⟨_, rfl⟩
 rw [← hgs] at hz ⊢
 have HG := Lib.hid (And.intro hgs hgr)
 clear hgs hgr
 refine wp_loop_rounds 7 ?_
 rw [rounds_succ]
 go_wp2_with (refine wpList_load_part (by rfl) 161 (.tmp 40) (by rfl) _ 0 (by rfl) _ _ #[.int .i64 (i : Int), .int .i64 (j : Int), .int .i64 (k : Int), .int .i64 1] _ kG (by rfl) Tryz.underlying161 rfl (by kernel_rfl) ?_)
 have kw := Blk.new W 161 #[.int .i64 (i : Int), .int .i64 (j : Int), .int .i64 (k : Int), .int .i64 1]
 have hb0 := new_below W (.cells #[.int .i64 (i : Int), .int .i64 (j : Int), .int .i64 (k : Int), .int .i64 1] 161)
 generalize hW1 : W.alloc (Obj.cells #[.int .i64 (i : Int), .int .i64 (j : Int), .int .i64 (k : Int), .int .i64 1] 161) = M0 at kw hb0 ⊢
 clear hW1
 have hB1 := hbel.trans (hb0.mono hbel.size)
 have ra := HR.out 0 i (by decide) hi
 have rb := HR.out 1 j (by decide) hj
 have rc := HR.out 2 k (by decide) hk
 have hst : Sz (detT R i j k 1) (8 * n) := detT_sz (israt_sz ra.2) (israt_sz rb.2) (israt_sz rc.2) (by decide) Hn.out.1
 refine det_region (F := fun y => y) kw (HK.out.below hB1 hgl) (by have := ra.1; rwa [Nat.mul_zero, Nat.zero_add] at this) rb.1 rc.1 (by omega) (by omega) (by omega) (ra.2.below hB1) (rb.2.below hB1) (rc.2.below hB1) (by decide) Hn.out.1 (by have := Hn.out; omega) (fun w9 gy y hb hy hsy => ratadd0_any ((hz.below hb0 hz.lt).below hb (Nat.lt_of_lt_of_le hz.lt hb0.size)) hy hsy (by have := Hn.out; omega)) ?_
 intro v42 v43 v44 v45 v46 v47 v48 v49 v50 v51 v52 v53 v54 v55 v56 v57 v58 v59 v60 v61 v62 v63 v64 v65 U0 hq2 hg2 hsl2
 replace hbel := hB1.grown hg2 hB1.size (fun k hk => by injection hk with hk; have := HG.out.1; omega)
 replace kG := (kG.below hb0 kG.lt).grown hg2 (by intro e; injection e with e; have := HG.out; omega)
 have hq : RatV U0 gs (detT R i j k 1) := hq2
 have hsq := hst
 have hsl := hsl2
 clear hz
 clear hq2 hg2 hsl2 hst ra rb rc kw hb0 hB1
 go_wp2_with fail
 rw [rounds_succ]
 go_wp2_with (refine wpList_load_part (by rfl) 161 (.tmp 40) (by rfl) _ 4 (by rfl) _ _ #[.int .i64 (j : Int), .int .i64 (k : Int), .int .i64 (i : Int), .int .i64 1] _ kG (by rfl) Tryz.underlying161 rfl (by kernel_rfl) ?_)
 have kw := Blk.new U0 161 #[.int .i64 (j : Int), .int .i64 (k : Int), .int .i64 (i : Int), .int .i64 1]
 have hb0 := new_below U0 (.cells #[.int .i64 (j : Int), .int .i64 (k : Int), .int .i64 (i : Int), .int .i64 1] 161)
 generalize hW1 : U0.alloc (Obj.cells #[.int .i64 (j : Int), .int .i64 (k : Int), .int .i64 (i : Int), .int .i64 1] 161) = M1 at kw hb0 ⊢
 clear hW1
 have hB1 := hbel.trans (hb0.mono hbel.size)
 have ra := HR.out 0 j (by decide) hj
 have rb := HR.out 1 k (by decide) hk
 have rc := HR.out 2 i (by decide) hi
 have hst : Sz (detT R j k i 1) (8 * n) := detT_sz (israt_sz ra.2) (israt_sz rb.2) (israt_sz rc.2) (by decide) Hn.out.1
 refine det_region (F := fun y => detT R i j k 1 + y) kw (HK.out.below hB1 hgl) (by have := ra.1; rwa [Nat.mul_zero, Nat.zero_add] at this) rb.1 rc.1 (by omega) (by omega) (by omega) (ra.2.below hB1) (rb.2.below hB1) (rc.2.below hB1) (by decide) Hn.out.1 (by have := Hn.out; omega) (fun w9 gy y hb hy hsy => ratadd2_any (n := 8 * n) ((hsl.below hb0).below hb) ((hq.below hb0).below hb) hy (hsq.up (by omega)) (hsy.up (by omega)) (by have := Hn.out; omega)) ?_
 intro v42 v43 v44 v45 v46 v47 v48 v49 v50 v51 v52 v53 v54 v55 v56 v57 v58 v59 v60 v61 v62 v63 v64 v65 U1 hq2 hg2 hsl2
 replace hbel := hB1.grown hg2 hB1.size (fun k hk => by injection hk with hk; have := HG.out.1; omega)
 replace kG := (kG.below hb0 kG.lt).grown hg2 (by intro e; injection e with e; have := HG.out; omega)
 replace hq : RatV U1 gs (detT R i j k 1 + detT R j k i 1) := hq2
 replace hsq : Sz (detT R i j k 1 + detT R j k i 1) (16 * n + 1) := (Sz.add hsq (hst.up (by omega))).up (by omega)
 replace hsl := hsl2
 clear hq2 hg2 hsl2 hst ra rb rc kw hb0 hB1
 go_wp2_with fail
 rw [rounds_succ]
 go_wp2_with (refine wpList_load_part (by rfl) 161 (.tmp 40) (by rfl) _ 8 (by rfl) _ _ #[.int .i64 (k : Int), .int .i64 (i : Int), .int .i64 (j : Int), .int .i64 1] _ kG (by rfl) Tryz.underlying161 rfl (by kernel_rfl) ?_)
 have kw := Blk.new U1 161 #[.int .i64 (k : Int), .int .i64 (i : Int), .int .i64 (j : Int), .int .i64 1]
 have hb0 := new_below U1 (.cells #[.int .i64 (k : Int), .int .i64 (i : Int), .int .i64 (j : Int), .int .i64 1] 161)
 generalize hW1 : U1.alloc (Obj.cells #[.int .i64 (k : Int), .int .i64 (i : Int), .int .i64 (j : Int), .int .i64 1] 161) = M2 at kw hb0 ⊢
 clear hW1
 have hB1 := hbel.trans (hb0.mono hbel.size)
 have ra := HR.out 0 k (by decide) hk
 have rb := HR.out 1 i (by decide) hi
 have rc := HR.out 2 j (by decide) hj
 have hst : Sz (detT R k i j 1) (8 * n) := detT_sz (israt_sz ra.2) (israt_sz rb.2) (israt_sz rc.2) (by decide) Hn.out.1
 refine det_region (F := fun y => (detT R i j k 1 + detT R j k i 1) + y) kw (HK.out.below hB1 hgl) (by have := ra.1; rwa [Nat.mul_zero, Nat.zero_add] at this) rb.1 rc.1 (by omega) (by omega) (by omega) (ra.2.below hB1) (rb.2.below hB1) (rc.2.below hB1) (by decide) Hn.out.1 (by have := Hn.out; omega) (fun w9 gy y hb hy hsy => ratadd2_any (n := 16 * n + 1) ((hsl.below hb0).below hb) ((hq.below hb0).below hb) hy (hsq.up (by omega)) (hsy.up (by omega)) (by have := Hn.out; omega)) ?_
 intro v42 v43 v44 v45 v46 v47 v48 v49 v50 v51 v52 v53 v54 v55 v56 v57 v58 v59 v60 v61 v62 v63 v64 v65 U2 hq2 hg2 hsl2
 replace hbel := hB1.grown hg2 hB1.size (fun k hk => by injection hk with hk; have := HG.out.1; omega)
 replace kG := (kG.below hb0 kG.lt).grown hg2 (by intro e; injection e with e; have := HG.out; omega)
 replace hq : RatV U2 gs ((detT R i j k 1 + detT R j k i 1) + detT R k i j 1) := hq2
 replace hsq : Sz ((detT R i j k 1 + detT R j k i 1) + detT R k i j 1) (32 * n + 3) := (Sz.add hsq (hst.up (by omega))).up (by omega)
 replace hsl := hsl2
 clear hq2 hg2 hsl2 hst ra rb rc kw hb0 hB1
 go_wp2_with fail
 rw [rounds_succ]
 go_wp2_with (refine wpList_load_part (by rfl) 161 (.tmp 40) (by rfl) _ 12 (by rfl) _ _ #[.int .i64 (i : Int), .int .i64 (k : Int), .int .i64 (j : Int), .int .i64 (-1)] _ kG (by rfl) Tryz.underlying161 rfl (by kernel_rfl) ?_)
 have kw := Blk.new U2 161 #[.int .i64 (i : Int), .int .i64 (k : Int), .int .i64 (j : Int), .int .i64 (-1)]
 have hb0 := new_below U2 (.cells #[.int .i64 (i : Int), .int .i64 (k : Int), .int .i64 (j : Int), .int .i64 (-1)] 161)
 generalize hW1 : U2.alloc (Obj.cells #[.int .i64 (i : Int), .int .i64 (k : Int), .int .i64 (j : Int), .int .i64 (-1)] 161) = M3 at kw hb0 ⊢
 clear hW1
 have hB1 := hbel.trans (hb0.mono hbel.size)
 have ra := HR.out 0 i (by decide) hi
 have rb := HR.out 1 k (by decide) hk
 have rc := HR.out 2 j (by decide) hj
 have hst : Sz (detT R i k j (-1)) (8 * n) := detT_sz (israt_sz ra.2) (israt_sz rb.2) (israt_sz rc.2) (by decide) Hn.out.1
 refine det_region (F := fun y => ((detT R i j k 1 + detT R j k i 1) + detT R k i j 1) + y) kw (HK.out.below hB1 hgl) (by have := ra.1; rwa [Nat.mul_zero, Nat.zero_add] at this) rb.1 rc.1 (by omega) (by omega) (by omega) (ra.2.below hB1) (rb.2.below hB1) (rc.2.below hB1) (by decide) Hn.out.1 (by have := Hn.out; omega) (fun w9 gy y hb hy hsy => ratadd2_any (n := 32 * n + 3) ((hsl.below hb0).below hb) ((hq.below hb0).below hb) hy (hsq.up (by omega)) (hsy.up (by omega)) (by have := Hn.out; omega)) ?_
 intro v42 v43 v44 v45 v46 v47 v48 v49 v50 v51 v52 v53 v54 v55 v56 v57 v58 v59 v60 v61 v62 v63 v64 v65 U3 hq2 hg2 hsl2
 replace hbel := hB1.grown hg2 hB1.size (fun k hk => by injection hk with hk; have := HG.out.1; omega)
 replace kG := (kG.below hb0 kG.lt).grown hg2 (by intro e; injection e with e; have := HG.out; omega)
 replace hq : RatV U3 gs (((detT R i j k 1 + detT R j k i 1) + detT R k i j 1) + detT R i k j (-1)) := hq2
 replace hsq : Sz (((detT R i j k 1 + detT R j k i 1) + detT R k i j 1) + detT R i k j (-1)) (64 * n + 7) := (Sz.add hsq (hst.up (by omega))).up (by omega)
 replace hsl := hsl2
 clear hq2 hg2 hsl2 hst ra rb rc kw hb0 hB1
 go_wp2_with fail
 rw [rounds_succ]
 go_wp2_with (refine wpList_load_part (by rfl) 161 (.tmp 40) (by rfl) _ 16 (by rfl) _ _ #[.int .i64 (j : Int), .int .i64 (i : Int), .int .i64 (k : Int), .int .i64 (-1)] _ kG (by rfl) Tryz.underlying161 rfl (by kernel_rfl) ?_)
 have kw := Blk.new U3 161 #[.int .i64 (j : Int), .int .i64 (i : Int), .int .i64 (k : Int), .int .i64 (-1)]
 have hb0 := new_below U3 (.cells #[.int .i64 (j : Int), .int .i64 (i : Int), .int .i64 (k : Int), .int .i64 (-1)] 161)
 generalize hW1 : U3.alloc (Obj.cells #[.int .i64 (j : Int), .int .i64 (i : Int), .int .i64 (k : Int), .int .i64 (-1)] 161) = M4 at kw hb0 ⊢
 clear hW1
 have hB1 := hbel.trans (hb0.mono hbel.size)
 have ra := HR.out 0 j (by decide) hj
 have rb := HR.out 1 i (by decide) hi
 have rc := HR.out 2 k (by decide) hk
 have hst : Sz (detT R j i k (-1)) (8 * n) := detT_sz (israt_sz ra.2) (israt_sz rb.2) (israt_sz rc.2) (by decide) Hn.out.1
 refine det_region (F := fun y => (((detT R i j k 1 + detT R j k i 1) + detT R k i j 1) + detT R i k j (-1)) + y) kw (HK.out.below hB1 hgl) (by have := ra.1; rwa [Nat.mul_zero, Nat.zero_add] at this) rb.1 rc.1 (by omega) (by omega) (by omega) (ra.2.below hB1) (rb.2.below hB1) (rc.2.below hB1) (by decide) Hn.out.1 (by have := Hn.out; omega) (fun w9 gy y hb hy hsy => ratadd2_any (n := 64 * n + 7) ((hsl.below hb0).below hb) ((hq.below hb0).below hb) hy (hsq.up (by omega)) (hsy.up (by omega)) (by have := Hn.out; omega)) ?_
 intro v42 v43 v44 v45 v46 v47 v48 v49 v50 v51 v52 v53 v54 v55 v56 v57 v58 v59 v60 v61 v62 v63 v64 v65 U4 hq2 hg2 hsl2
 replace hbel := hB1.grown hg2 hB1.size (fun k hk => by injection hk with hk; have := HG.out.1; omega)
 replace kG := (kG.below hb0 kG.lt).grown hg2 (by intro e; injection e with e; have := HG.out; omega)
 replace hq : RatV U4 gs ((((detT R i j k 1 + detT R j k i 1) + detT R k i j 1) + detT R i k j (-1)) + detT R j i k (-1)) := hq2
 replace hsq : Sz ((((detT R i j k 1 + detT R j k i 1) + detT R k i j 1) + detT R i k j (-1)) + detT R j i k (-1)) (128 * n + 15) := (Sz.add hsq (hst.up (by omega))).up (by omega)
 replace hsl := hsl2
 clear hq2 hg2 hsl2 hst ra rb rc kw hb0 hB1
 go_wp2_with fail
 rw [rounds_succ]
 go_wp2_with (refine wpList_load_part (by rfl) 161 (.tmp 40) (by rfl) _ 20 (by rfl) _ _ #[.int .i64 (k : Int), .int .i64 (j : Int), .int .i64 (i : Int), .int .i64 (-1)] _ kG (by rfl) Tryz.underlying161 rfl (by kernel_rfl) ?_)
 have kw := Blk.new U4 161 #[.int .i64 (k : Int), .int .i64 (j : Int), .int .i64 (i : Int), .int .i64 (-1)]
 have hb0 := new_below U4 (.cells #[.int .i64 (k : Int), .int .i64 (j : Int), .int .i64 (i : Int), .int .i64 (-1)] 161)
 generalize hW1 : U4.alloc (Obj.cells #[.int .i64 (k : Int), .int .i64 (j : Int), .int .i64 (i : Int), .int .i64 (-1)] 161) = M5 at kw hb0 ⊢
 clear hW1
 have hB1 := hbel.trans (hb0.mono hbel.size)
 have ra := HR.out 0 k (by decide) hk
 have rb := HR.out 1 j (by decide) hj
 have rc := HR.out 2 i (by decide) hi
 have hst : Sz (detT R k j i (-1)) (8 * n) := detT_sz (israt_sz ra.2) (israt_sz rb.2) (israt_sz rc.2) (by decide) Hn.out.1
 refine det_region (F := fun y => ((((detT R i j k 1 + detT R j k i 1) + detT R k i j 1) + detT R i k j (-1)) + detT R j i k (-1)) + y) kw (HK.out.below hB1 hgl) (by have := ra.1; rwa [Nat.mul_zero, Nat.zero_add] at this) rb.1 rc.1 (by omega) (by omega) (by omega) (ra.2.below hB1) (rb.2.below hB1) (rc.2.below hB1) (by decide) Hn.out.1 (by have := Hn.out; omega) (fun w9 gy y hb hy hsy => ratadd2_any (n := 128 * n + 15) ((hsl.below hb0).below hb) ((hq.below hb0).below hb) hy (hsq.up (by omega)) (hsy.up (by omega)) (by have := Hn.out; omega)) ?_
 intro v42 v43 v44 v45 v46 v47 v48 v49 v50 v51 v52 v53 v54 v55 v56 v57 v58 v59 v60 v61 v62 v63 v64 v65 U5 hq2 hg2 hsl2
 replace hbel := hB1.grown hg2 hB1.size (fun k hk => by injection hk with hk; have := HG.out.1; omega)
 replace kG := (kG.below hb0 kG.lt).grown hg2 (by intro e; injection e with e; have := HG.out; omega)
 replace hq : RatV U5 gs (((((detT R i j k 1 + detT R j k i 1) + detT R k i j 1) + detT R i k j (-1)) + detT R j i k (-1)) + detT R k j i (-1)) := hq2
 replace hsq : Sz (((((detT R i j k 1 + detT R j k i 1) + detT R k i j 1) + detT R i k j (-1)) + detT R j i k (-1)) + detT R k j i (-1)) (256 * n + 31) := (Sz.add hsq (hst.up (by omega))).up (by omega)
 replace hsl := hsl2
 clear hq2 hg2 hsl2 hst ra rb rc kw hb0 hB1
 go_wp2_with fail
 rw [rounds_succ]
 go_wp2_with fail
 go_ret
 exact ⟨_, rfl, ⟨gs, rfl, hq, hsq⟩, hbel⟩
def IsRow (z : Cx) (n : Nat) (v : Value) (w : World) : Prop := ∃ a b c d : Nat, v = .agg #[ptr a, ptr b, ptr c, ptr d] ∧ IsRat z.norm n (ptr a) w ∧ IsRat z.re n (ptr b) w ∧ IsRat z.im n (ptr c) w ∧ IsRat ((1 : Int) : Rat) n (ptr d) w
theorem IsRow.below {z : Cx} {n : Nat} {v : Value} {w w' : World} (h : IsRow z n v w) (hb : Below w.heap.size w w') : IsRow z n v w' := by
 obtain ⟨a, b, c, d, rfl, h1, h2, h3, h4⟩ := h
 exact ⟨a, b, c, d, rfl, h1.below hb, h2.below hb, h3.below hb, h4.below hb⟩
def IsRing (A : Rat) (B : Cx) (C : Rat) (n : Nat) (v : Value) (w : World) : Prop := ∃ a b c d : Nat, v = .agg #[ptr a, ptr b, ptr c, ptr d] ∧ IsRat A n (ptr a) w ∧ IsRat B.re n (ptr b) w ∧ IsRat B.im n (ptr c) w ∧ IsRat C n (ptr d) w
theorem IsRing.below {A C : Rat} {B : Cx} {n : Nat} {v : Value} {w w' : World} (h : IsRing A B C n v w) (hb : Below w.heap.size w w') : IsRing A B C n v w' := by
 obtain ⟨a, b, c, d, rfl, h1, h2, h3, h4⟩ := h
 exact ⟨a, b, c, d, rfl, h1.below hb, h2.below hb, h3.below hb, h4.below hb⟩
theorem IsRat.size {q : Rat} {n m : Nat} {v : Value} {w : World} (h : IsRat q n v w) (hs : Sz q m) : IsRat q m v w := by
 obtain ⟨g, e, hr, _⟩ := h
 exact ⟨g, e, hr, hs⟩
set_option maxRecDepth 100000 in
set_option maxHeartbeats 4000000 in
theorem prow_any {w : World} {v : Value} {z : Cx} {n : Nat} (h : IsPlace (some z) n v w) (h8 : 8 ≤ n) (hn : n ≤ 1000) : Calls Tryz.prog 92 #[v] w (Ret w (IsRow z (4 * n + 1))) := by
 obtain ⟨x, y, rfl, px, py⟩ := h
 have h := ((St.start w).new 97 #[.bool false, ptr x, ptr y]).new 158 #[.pointer none, .pointer none, .pointer none, .pointer none]
 simp only [size_alloc] at h
 replace h := h.rest (G := IsNum z n (.agg #[ptr x, ptr y])) (Stb.num _ _ _) ⟨_, _, rfl, px.below h.bel, py.below h.bel⟩
 have Hn := Lib.hid (And.intro h8 hn)
 clear px py h8 hn
 go_enter Tryz.func92, Tryz.ntmps92
 go_wp2_with fail
 generalize hW : (w.alloc _).alloc _ = W at h ⊢
 clear hW
 refine (parts_any h.fact (by have := Hn.out; omega)).mono ?_
 rintro _ w1 ⟨_, _, rfl, ha, hb', hb⟩
 obtain ⟨ga, rfl⟩ := ha.ptr
 obtain ⟨gb, rfl⟩ := hb'.ptr
 replace h := ((h.call hb).add (Stb.rat _ _ _) ha).add (Stb.rat _ _ _) hb'
 clear hb ha hb'
 go_wp2_with (refine wpList_load_part (by rfl) 83 (.tmp 18) (by rfl) _ 1 (by rfl) _ _ #[ptr x, ptr y] _ (h.get 1 rfl) (by rfl) Tryz.underlying83 rfl (by kernel_rfl) ?_)
 refine (norm_any h.fact.2.2 (by have := Hn.out; omega)).mono ?_
 rintro _ w2 ⟨_, rfl, hc, hb⟩
 obtain ⟨gc, rfl⟩ := hc.ptr
 replace h := (h.call hb).add (Stb.rat _ _ _) hc
 clear hb hc
 go_wp2_with fail
 refine (newr_any (z := 1) (by decide)).mono ?_
 rintro _ w3 ⟨_, rfl, hd, hb⟩
 obtain ⟨gd, rfl⟩ := hd.ptr
 replace h := (h.call hb).add (Stb.rat _ _ _) hd
 clear hb hd
 go_wp2_with (refine wpList_store_all (by rfl) 158 (.tmp 2) (.tmp 24) (by rfl) #[ptr gc, ptr ga, ptr gb, ptr gd] (by rfl) (by rfl) (h.get 0 rfl) (by simp) (by kernel_rfl) (by simp [Value.oneCell', ptr]) ?_; intro V1 k9 hg9; replace h := h.put 0 rfl ⟨by decide, by simp⟩ k9 hg9; simp only [List.set_cons_succ, List.set_cons_zero] at h; clear k9 hg9)
 refine bodyPost_ret (results_row1 rfl _ _ _ _ _ (by rfl) (h.get 0 rfl) Tryz.underlying158 rfl (by kernel_rfl)) rfl ?_
 exact ⟨_, rfl, ⟨_, _, _, _, rfl, h.fact.2.1, h.fact.2.2.2.1.up (by omega), h.fact.2.2.1.up (by omega), h.fact.1.up (by have := Hn.out; omega)⟩, h.bel⟩
theorem IsNum.shape' {z : Cx} {n : Nat} {v : Value} {w : World} (h : IsNum z n v w) : ∃ a b : Nat, v = .agg #[Go.Proofs.YtebpggfccljagaaGreat.ptr a, Go.Proofs.YtebpggfccljagaaGreat.ptr b] := by
 obtain ⟨_, _, rfl, h1, h2⟩ := h
 obtain ⟨a, rfl⟩ := h1.ptr
 obtain ⟨b, rfl⟩ := h2.ptr
 exact ⟨a, b, rfl⟩
set_option maxRecDepth 100000 in
set_option maxHeartbeats 4000000 in
theorem rnormal_any {w : World} {v : Value} {A C : Rat} {B : Cx} {n : Nat} (h : IsRing A B C n v w) (hA : A ≠ 0) (hn : n ≤ 100000) : Calls Tryz.prog 96 #[v] w (Ret w (IsRing (A * A⁻¹) (B.scale A⁻¹) (C * A⁻¹) (2 * n))) := by
 obtain ⟨a, b, c, d, rfl, pa, pb, pc, pd⟩ := h
 have h := ((St.start w).new 126 #[ptr a, ptr b, ptr c, ptr d]).new 126 #[.pointer none, .pointer none, .pointer none, .pointer none]
 simp only [size_alloc] at h
 replace h := h.rest (G := fun w => IsRat A n (ptr a) w ∧ IsNum B n (.agg #[ptr b, ptr c]) w ∧ IsRat C n (ptr d) w) ((Stb.rat _ _ _).and ((Stb.num _ _ _).and (Stb.rat _ _ _))) ⟨pa.below h.bel, ⟨_, _, rfl, pb.below h.bel, pc.below h.bel⟩, pd.below h.bel⟩
 have Hn := Lib.hid (And.intro hn hA)
 clear pa pb pc pd hn hA
 go_enter Tryz.func96, Tryz.ntmps96
 go_wp2_with fail
 generalize hW : (w.alloc _).alloc _ = W at h ⊢
 clear hW
 refine (parts_any h.fact.2.1 (by have := Hn.out; omega)).mono ?_
 rintro _ w1 ⟨_, _, rfl, ha, hb', hb⟩
 obtain ⟨ge, rfl⟩ := ha.ptr
 obtain ⟨gf, rfl⟩ := hb'.ptr
 replace h := h.call hb
 clear hb ha hb'
 have k0_ := (h.get 1 rfl).cell 0
 go_wp2_with fail
 have kG := Blk.new w1 80 #[ptr ge, ptr gf]
 have hb0 := new_below w1 (.cells #[ptr ge, ptr gf] 80)
 generalize hW : w1.alloc (Obj.cells #[ptr ge, ptr gf] 80) = w2 at kG hb0 ⊢
 clear hW k0_
 replace h := h.call hb0
 clear hb0
 obtain ⟨sg, hsg, HS⟩ : ∃ sg : Int, Hid (sg ≠ 0) ∧ Hid (∀ W v, IsRat A n v W → Calls Tryz.prog 50 #[v] W (fun e w' => e = .returned (.int .i64 sg) ∧ W = w')) := by
  rcases rat_ne Hn.out.2 with hs | hs
  ·exact ⟨-1, Lib.hid (by decide), Lib.hid fun W v hv => sign_neg hv hs⟩
  ·exact ⟨1, Lib.hid (by decide), Lib.hid fun W v hv => sign_pos hv hs⟩
 have hs0 : (sg == 0) = false := by have := hsg.out; simp [this]
 refine wp_loop_rounds 3 ?_
 have q0_ := kG.cell 0
 rw [rounds_succ]
 go_wp2_with fail
 refine (HS.out _ _ h.fact.1).mono ?_
 rintro _ _ ⟨rfl, rfl⟩
 go_wp2_with fail
 clear q0_
 have q1_ := kG.cell 1
 rw [rounds_succ]
 go_wp2_with fail
 refine (HS.out _ _ h.fact.1).mono ?_
 rintro _ _ ⟨rfl, rfl⟩
 go_wp2_with fail
 clear q1_
 rw [rounds_succ]
 go_wp2_with fail
 have hz : RatZ (w2.alloc (.cells #[.bool false, .slice none 0 0, .bool false, .slice none 0 0] 153)) w2.heap.size := Blk.new w2 153 _
 have hb0 := new_below w2 (.cells #[.bool false, .slice none 0 0, .bool false, .slice none 0 0] 153)
 have HI := Lib.hid (finv hz (h.fact.1.below hb0) Hn.out.2 (by have := Hn.out; omega))
 clear hz hb0
 refine HI.out.mono ?_
 rintro _ w3 ⟨rfl, hi, hg⟩
 replace h := (h.call (below_new hg)).add (Stb.rat _ _ _) hi
 clear hi hg HI
 generalize w2.heap.size = gi at *
 go_wp2_with fail
 have k0 := h.get 1 rfl
 have pi := h.fact.1
 obtain ⟨pa, pz, pd⟩ := h.fact.2
 refine wp_region_noPanic ?_
 refine wp_region_list (mk := ?mk) noV_vgs [Is (ptr w.heap.size), Is (ptr a), Is (ptr gi), IsRat (A * (A⁻¹)) (2 * n), Is (.pointer (some ⟨w.heap.size, 1, none⟩)), Is (.agg #[(ptr b), (ptr c)]), Is (ptr gi), IsNum (B.scale A⁻¹) (2 * n), Is (.pointer (some ⟨w.heap.size, 3, none⟩)), Is (ptr d), Is (ptr gi), IsRat (C * (A⁻¹)) (2 * n)] [.plain, .plain, .plain, .plain, .plain, .plain, .plain, .plain, .plain, .plain, .plain, .plain] 12 2 (fun w' => Blk w' (w.heap.size) 126 #[ptr a, ptr b, ptr c, ptr d] ∧ IsRat A⁻¹ n (ptr gi) w' ∧ IsRat A n (ptr a) w' ∧ IsNum B n (.agg #[(ptr b), (ptr c)]) w' ∧ IsRat C n (ptr d) w' ∧ True) ⟨is_steady _ _ _, is_steady _ _ _, is_steady _ _ _, nov fun _ _ _ h => h.below, is_steady _ _ _, is_steady _ _ _, is_steady _ _ _, nov fun _ _ _ h => h.below, is_steady _ _ _, is_steady _ _ _, is_steady _ _ _, nov fun _ _ _ h => h.below, trivial⟩ (by kernel_rfl) (by kernel_rfl) (by kernel_rfl) (by kernel_rfl) (by kernel_rfl) (by kernel_rfl) ?hmk (fun w' hB => ⟨k0.below hB k0.lt, pi.below hB, pa.below hB, pz.below hB, pd.below hB, trivial⟩)
  (steps_all (steps_cons ?_ (steps_cons ?_ (steps_cons ?_ (steps_cons ?_ (steps_cons ?_ (steps_cons ?_ (steps_cons ?_ (steps_cons ?_ (steps_cons ?_ (steps_cons ?_ (steps_cons ?_ (steps_cons ?_ steps_nil))))))))))))) ?_
 case hmk =>
  intro u
  simp only [mkFrom, mkL, dstOf, List.range, List.range.loop, Act.put, List.setIfInBounds_toArray, List.set_cons_zero, List.set_cons_succ, List.getElem?_toArray, List.getElem?_cons_zero, List.getElem?_cons_succ, Option.bind_some]
  rfl
 ·refine step_is (o := Oper.mk (some 33) _ _ _ _ _) rfl rfl rfl rfl (fun u ws hc hd => ?_)
  go_simp
 ·refine step_is (o := Oper.mk (some 34) _ _ _ _ _) rfl rfl rfl rfl (fun u ws hc hd => ?_)
  obtain ⟨k0, pi, pa, pz, pd, _⟩ := hc
  have c1 : ws.cell? ⟨w.heap.size, 0, none⟩ = some (ptr a) := by rw [k0.cell]; rfl
  have d0 : u 0 = _ := hd 0 (by kernel_rfl) (by decide)
  go_simp
 ·refine step_is (o := Oper.mk (some 35) _ _ _ _ _) rfl rfl rfl rfl (fun u ws hc hd => ?_)
  go_simp
 ·refine step_call (o := Oper.mk (some 36) _ _ _ _ _) rfl rfl rfl (fun u ws hc hd => ?_)
  obtain ⟨k0, pi, pa, pz, pd, _⟩ := hc
  have d1 : u 1 = _ := hd 1 (by kernel_rfl) (by decide)
  have d2 : u 2 = _ := hd 2 (by kernel_rfl) (by decide)
  have HC := Lib.hid (upR (m := (2 * n)) (xmul_any (n := n) pa pi (by have := Hn.out; omega)) (by omega))
  refine ⟨89, #[(ptr a), (ptr gi)], ?_, HC.out⟩
  ·clear HC; go_simp
 ·refine step_is (o := Oper.mk (some 37) _ _ _ _ _) rfl rfl rfl rfl (fun u ws hc hd => ?_)
  go_simp
 ·refine step_is (o := Oper.mk (some 38) _ _ _ _ _) rfl rfl rfl rfl (fun u ws hc hd => ?_)
  obtain ⟨k0, pi, pa, pz, pd, _⟩ := hc
  have d4 : u 4 = _ := hd 4 (by kernel_rfl) (by decide)
  exact run_load_part 83 (.tmp 37) rfl (w.heap.size) 1 d4 #[(ptr b), (ptr c)] _ k0 rfl Tryz.underlying83 rfl (by kernel_rfl)
 ·refine step_is (o := Oper.mk (some 39) _ _ _ _ _) rfl rfl rfl rfl (fun u ws hc hd => ?_)
  go_simp
 ·refine step_call (o := Oper.mk (some 40) _ _ _ _ _) rfl rfl rfl (fun u ws hc hd => ?_)
  obtain ⟨k0, pi, pa, pz, pd, _⟩ := hc
  have d5 : u 5 = _ := hd 5 (by kernel_rfl) (by decide)
  have d6 : u 6 = _ := hd 6 (by kernel_rfl) (by decide)
  have HC := Lib.hid (scale_any pz pi (by have := Hn.out; omega))
  refine ⟨52, #[(.agg #[(ptr b), (ptr c)]), (ptr gi)], ?_, HC.out⟩
  ·clear HC; go_simp
 ·refine step_is (o := Oper.mk (some 41) _ _ _ _ _) rfl rfl rfl rfl (fun u ws hc hd => ?_)
  go_simp
 ·refine step_is (o := Oper.mk (some 42) _ _ _ _ _) rfl rfl rfl rfl (fun u ws hc hd => ?_)
  obtain ⟨k0, pi, pa, pz, pd, _⟩ := hc
  have c1 : ws.cell? ⟨w.heap.size, 3, none⟩ = some (ptr d) := by rw [k0.cell]; rfl
  have d8 : u 8 = _ := hd 8 (by kernel_rfl) (by decide)
  go_simp
 ·refine step_is (o := Oper.mk (some 43) _ _ _ _ _) rfl rfl rfl rfl (fun u ws hc hd => ?_)
  go_simp
 ·refine step_call (o := Oper.mk (some 44) _ _ _ _ _) rfl rfl rfl (fun u ws hc hd => ?_)
  obtain ⟨k0, pi, pa, pz, pd, _⟩ := hc
  have d9 : u 9 = _ := hd 9 (by kernel_rfl) (by decide)
  have d10 : u 10 = _ := hd 10 (by kernel_rfl) (by decide)
  have HC := Lib.hid (upR (m := (2 * n)) (xmul_any (n := n) pd pi (by have := Hn.out; omega)) (by omega))
  refine ⟨89, #[(ptr d), (ptr gi)], ?_, HC.out⟩
  ·clear HC; go_simp
 ·intro u w4 hb1 hf hn1
  have fa : IsRat _ _ (u 3) w4 := hf 3 (by decide) (by decide)
  have fb : IsNum _ _ (u 7) w4 := hf 7 (by decide) (by decide)
  have fc : IsRat _ _ (u 11) w4 := hf 11 (by decide) (by decide)
  obtain ⟨g1, e1⟩ := fa.ptr
  obtain ⟨g2, g3, e2⟩ := fb.shape'
  obtain ⟨g4, e3⟩ := fc.ptr
  rw [e1] at fa
  rw [e2] at fb
  rw [e3] at fc
  replace h := (h.call hb1).rest (G := fun w => IsRat _ _ (ptr g1) w ∧ IsNum _ _ (.agg #[ptr g2, ptr g3]) w ∧ IsRat _ _ (ptr g4) w) ((Stb.rat _ _ _).and ((Stb.num _ _ _).and (Stb.rat _ _ _))) ⟨fa, fb, fc⟩
  have kr := h.get 0 rfl
  clear hf hn1 k0 pi pa pz pd hb1 fa fb fc
  refine wpAny_tail (j := 12) (o := Oper.mk (some 45) _ _ _ _ _) rfl (by kernel_rfl) (fun K hK => ?_)
  rw [e1, e2, e3]
  go_simp
  refine hK.out _ _ ?_
  clear hK K
  refine wpAny_store (j := 13) (o := Oper.mk none _ _ _ _ _) rfl (by kernel_rfl) rfl 126 (.tmp 2) (.tmp 45) rfl (w.heap.size + 1) 0 #[ptr g1, ptr g2, ptr g3, ptr g4] rfl rfl #[ptr g1, ptr g2, ptr g3, ptr g4] kr (by simp) rfl (by kernel_rfl) (by simp [Value.oneCell', ptr]) (fun w5 k9 hg9 hs9 => ?_)
  refine wpAny_end (by kernel_rfl) ?_
  refine NoPanic.normal ?_
  replace h := h.put 0 rfl ⟨by decide, by simp⟩ k9 hg9
  clear k9 hg9 hs9 kr
  go_wp2_with fail
  refine bodyPost_ret (results_row1 rfl _ _ _ _ _ (by rfl) (h.get 0 rfl) Tryz.underlying126 rfl (by kernel_rfl)) rfl ?_
  obtain ⟨_, _, e9, q1, q2⟩ := h.fact.2.1
  injection e9 with e9
  injection e9 with e9
  injection e9 with e9 e8
  injection e8 with e8 _
  exact ⟨_, rfl, ⟨_, _, _, _, rfl, h.fact.1, by rw [e9]; exact q1, by rw [e8]; exact q2, h.fact.2.2⟩, h.bel⟩
end Go.Proofs.YtebpggfccljagaaGreat
namespace Go.Proofs.YtebpggfccljagaaGreat
open Go.RowKit
open Wh
set_option linter.unusedSimpArgs false
theorem results_row_tmp2 {P : Program} {w : World} {fn : Func} {p q r : Tmp} {ty : TypeId} (h : fn.results = #[.cell p ty, .tmp q, .tmp r]) (tmps : Array Value) (g : Nat) (t : TypeId) (cs : Array Value) (d : TypeDesc)
  (hp : tmps.getD p undef = .pointer (some ⟨g, 0, none⟩)) (hg : Blk w g t cs)
  (hu : P.underlying ty = some d) (hd : d.isRow = true) (hi : (P.info? ty).map (·.size) = some cs.size) :
  (results fn tmps).run P w = .ok (.tuple #[.agg cs, tmps.getD q undef, tmps.getD r undef]) w := by
 have hp' : tmps[p]?.getD undef = .pointer (some ⟨g, 0, none⟩) := by simpa using hp
 have hr := World.rangeAt_of_block (w := w) hg 0 cs.size
 rw [Nat.zero_add, Array.extract_size] at hr
 have hl := run_loadVar_mid (P := P) w g 0 ty cs.toList d hr hu hd (by simpa using hi)
 simp [results, h, hp', asAddr, hl]
theorem infoN : (Tryz.prog.info? 83).map (fun i => (i.zero, i.size, i.bytes)) = some (some (.agg #[.pointer none, .pointer none]), 2, 16) := by kernel_rfl
def HighBy (f : Nat) (H : Cx → Rat) : Prop := ∀ W v z n, IsNum z n v W → n ≤ 100000 → Calls Tryz.prog f #[v] W (Ret W (IsRat (H z) (8 * n + 17)))
theorem highU : HighBy 103 fun z => z.im := fun W v z n h hn => upR (hup_any h (by omega)) (by omega)
theorem highR : HighBy 105 fun z => ((1 : Int) : Rat) - z.norm := fun _ _ _ _ h hn => hround_any h hn
def Opened (w : World) (pic : Value → Prop) (z y : Cx) (n : Nat) (e : Ending) (w' : World) : Prop := ∃ p g cap cur a b c d, e = .returned (.tuple #[p, .slice (some ⟨g, 0, none⟩) 2 cap, .int .i64 0]) ∧ w.heap.size ≤ g ∧ pic p ∧ Blk w' g 83 cur ∧ RowC cur cap 2 2 [ptr a, ptr b, ptr c, ptr d] ∧
 IsRat z.re n (ptr a) w' ∧ IsRat z.im n (ptr b) w' ∧ IsRat y.re n (ptr c) w' ∧ IsRat y.im n (ptr d) w' ∧ Below w.heap.size w w'
set_option maxRecDepth 100000 in
set_option maxHeartbeats 8000000 in
theorem popen_up {w : World} {z y : Cx} {n gs : Nat} {b0 b1 b2 b3 b4 b5 b6 b7 : Bool} {s0 s1 s2 s3 s4 s5 s6 s7 : ByteArray}
  (F0 : Fv b0 s0 b1 s1 z.re n) (F1 : Fv b2 s2 b3 s3 z.im n) (F2 : Fv b4 s4 b5 s5 y.re n) (F3 : Fv b6 s6 b7 s7 y.im n) (hb : Blk w gs 27 #[.bool b0, .string s0, .bool b1, .string s1, .bool b2, .string s2, .bool b3, .string s3, .bool b4, .string s4, .bool b5, .string s5, .bool b6, .string s6, .bool b7, .string s7]) (hz : 0 < z.im) (hy : 0 < y.im) (hn : n ≤ 100000) :
  Calls Tryz.prog 27 #[.int .i64 1, .slice (some ⟨gs, 0, none⟩) 2 2] w (Opened w PicU z y n) := by
 have hgs := hb
 have HO : Hid ((∀ W, Calls Tryz.prog 49 #[.agg #[.bool b0, .string s0, .bool b1, .string s1, .bool b2, .string s2, .bool b3, .string s3]] W (RetB W (IsNum z n) true)) ∧ ∀ W, Calls Tryz.prog 49 #[.agg #[.bool b4, .string s4, .bool b5, .string s5, .bool b6, .string s6, .bool b7, .string s7]] W (RetB W (IsNum y n) true)) := Lib.hid ⟨fun W => exof_any ⟨_, _, _, _, _, _, _, _, rfl, F0, F1⟩ (by omega), fun W => exof_any ⟨_, _, _, _, _, _, _, _, rfl, F2, F3⟩ (by omega)⟩
 have HH := Lib.hid (And.intro highU (And.intro hz hy))
 have HF := Lib.hid (fun W => of_up (w := W))
 clear hz hy F0 F1 F2 F3 hb
 have h := (St.start w).new 75 #[.nilFunc, .int .i64 0, .int .i64 0, .int .i64 0, .int .i64 0, .int .i64 0, .bool false, .string ⟨#[]⟩, .bool false, .string ⟨#[]⟩, .bool false, .string ⟨#[]⟩, .bool false, .string ⟨#[]⟩]
 go_enter Tryz.func27, Tryz.ntmps27
 go_wp2_with fail
 generalize hW : w.alloc _ = V0 at h ⊢
 clear hW
 refine (HF.out _).mono ?_
 rintro _ U0 ⟨_, rfl, ⟨c0, t0, c1, t1, c2, t2, c3, t3, rfl, P0, P1⟩, hb2⟩
 replace h := h.call hb2
 have HP := Lib.hid (And.intro P0 P1)
 clear hb2 P0 P1
 go_wp2_with (replace h := h.new 75 #[.nilFunc, .int .i64 0, .int .i64 0, .int .i64 0, .int .i64 0, .int .i64 0, .bool false, .string ⟨#[]⟩, .bool false, .string ⟨#[]⟩, .bool false, .string ⟨#[]⟩, .bool false, .string ⟨#[]⟩]; refine wpList_store_all (by rfl) 75 (.tmp 7) (.tmp 18) (by rfl) #[.func (.func 103) #[] #[], .int .i64 0, .int .i64 0, .int .i64 1, .int .i64 0, .int .i64 2, .bool c0, .string t0, .bool c1, .string t1, .bool c2, .string t2, .bool c3, .string t3] (by rfl) (by rfl) (h.get 0 rfl) (by simp) (by kernel_rfl) (by simp [Value.oneCell', ptr]) ?_; intro V1 k9 hg9; replace h := h.put 0 rfl ⟨by decide, by simp⟩ k9 hg9; simp only [List.set_cons_succ, List.set_cons_zero] at h; clear k9 hg9)
 generalize hgp : U0.heap.size = gp at *
 clear hgp
 refine wp_loop_rounds 3 ?_
 rw [rounds_succ]
 have hk := hgs.below h.bel hgs.lt
 replace m0 := hk.cell 0
 replace m1 := hk.cell 1
 replace m2 := hk.cell 2
 replace m3 := hk.cell 3
 replace m4 := hk.cell 4
 replace m5 := hk.cell 5
 replace m6 := hk.cell 6
 replace m7 := hk.cell 7
 clear hk
 go_wp2_with (replace h := h.new 27 #[.bool false, .string ⟨#[]⟩, .bool false, .string ⟨#[]⟩, .bool false, .string ⟨#[]⟩, .bool false, .string ⟨#[]⟩]; refine wpList_store_all (by rfl) 27 (.tmp 12) (.tmp 28) (by rfl) #[.bool b0, .string s0, .bool b1, .string s1, .bool b2, .string s2, .bool b3, .string s3] (by rfl) (by rfl) (h.get 0 rfl) (by simp) (by kernel_rfl) (by simp [Value.oneCell', ptr]) ?_; intro V2 k9 hg9; replace h := h.put 0 rfl ⟨by decide, by simp⟩ k9 hg9; simp only [List.set_cons_succ, List.set_cons_zero] at h; clear k9 hg9; replace d0 := (h.get 0 rfl).cell 0; replace d1 := (h.get 0 rfl).cell 1; replace d2 := (h.get 0 rfl).cell 2; replace d3 := (h.get 0 rfl).cell 3; replace d4 := (h.get 0 rfl).cell 4; replace d5 := (h.get 0 rfl).cell 5; replace d6 := (h.get 0 rfl).cell 6; replace d7 := (h.get 0 rfl).cell 7)
 refine (HO.out.1 _).mono ?_
 rintro _ Y0 ⟨_, rfl, ⟨_, _, rfl, xa, xb⟩, hb2⟩
 obtain ⟨a, rfl⟩ := xa.ptr
 obtain ⟨b, rfl⟩ := xb.ptr
 replace h := ((h.call hb2).add (Stb.rat _ _ _) xb).add (Stb.rat _ _ _) xa
 clear hb2 xa xb d0 d1 d2 d3 d4 d5 d6 d7 m0 m1 m2 m3 m4 m5 m6 m7
 go_wp2_with (replace h := h.new 83 #[.pointer none, .pointer none]; refine wpList_store_all (by rfl) 83 (.tmp 13) (.tmp 32) (by rfl) #[ptr a, ptr b] (by rfl) (by rfl) (h.get 0 rfl) (by simp) (by kernel_rfl) (by simp [Value.oneCell', ptr]) ?_; intro V3 k9 hg9; replace h := h.put 0 rfl ⟨by decide, by simp⟩ k9 hg9; simp only [List.set_cons_succ, List.set_cons_zero] at h; clear k9 hg9; replace q0 := (h.get 0 rfl).cell 0; replace q1 := (h.get 0 rfl).cell 1; replace k0 := (h.get 2 rfl).cell 0)
 obtain ⟨xa, xb, _⟩ := h.fact
 refine (HH.out.1 _ _ z n ⟨_, _, rfl, xa, xb⟩ (by omega)).mono ?_
 rintro _ Q0 ⟨vh, rfl, hvh, hb2⟩
 obtain ⟨gh, rfl⟩ := hvh.ptr
 replace h := h.call hb2
 have HS := Lib.hid (sign_pos hvh HH.out.2.1)
 clear hb2 hvh xa xb
 replace e0_ := (h.get 0 rfl).cell 0
 replace e1_ := (h.get 0 rfl).cell 1
 go_wp2_with (first | (go_at_call 50; refine HS.out.mono ?_; rintro _ _ ⟨rfl, rfl⟩) | (replace h := h.new 83 #[ptr a, ptr b]; refine wpSt_append0 (by rfl) (.tmp 43) (.tmp 45) 76 (by rfl) 83 _ 2 16 Tryz.underlying76 infoN rfl (by decide) h (by rfl) 0 (by rfl) rfl rfl (by simp [Value.oneCell', ptr]) (by decide) (by decide) (by decide) ?_; intro g1 cap1 cur1 R1 hr1 h9; replace h := h9; clear h9))
 clear e0_ e1_ q0 q1 k0 HS
 rw [rounds_succ]
 have hk := hgs.below h.bel hgs.lt
 replace m0 := hk.cell 8
 replace m1 := hk.cell 9
 replace m2 := hk.cell 10
 replace m3 := hk.cell 11
 replace m4 := hk.cell 12
 replace m5 := hk.cell 13
 replace m6 := hk.cell 14
 replace m7 := hk.cell 15
 clear hk
 go_wp2_with (replace h := h.new 27 #[.bool false, .string ⟨#[]⟩, .bool false, .string ⟨#[]⟩, .bool false, .string ⟨#[]⟩, .bool false, .string ⟨#[]⟩]; refine wpList_store_all (by rfl) 27 (.tmp 12) (.tmp 28) (by rfl) #[.bool b4, .string s4, .bool b5, .string s5, .bool b6, .string s6, .bool b7, .string s7] (by rfl) (by rfl) (h.get 0 rfl) (by simp) (by kernel_rfl) (by simp [Value.oneCell', ptr]) ?_; intro V4 k9 hg9; replace h := h.put 0 rfl ⟨by decide, by simp⟩ k9 hg9; simp only [List.set_cons_succ, List.set_cons_zero] at h; clear k9 hg9; replace d0 := (h.get 0 rfl).cell 0; replace d1 := (h.get 0 rfl).cell 1; replace d2 := (h.get 0 rfl).cell 2; replace d3 := (h.get 0 rfl).cell 3; replace d4 := (h.get 0 rfl).cell 4; replace d5 := (h.get 0 rfl).cell 5; replace d6 := (h.get 0 rfl).cell 6; replace d7 := (h.get 0 rfl).cell 7)
 refine (HO.out.2 _).mono ?_
 rintro _ Y1 ⟨_, rfl, ⟨_, _, rfl, xc, xd⟩, hb2⟩
 obtain ⟨c, rfl⟩ := xc.ptr
 obtain ⟨d, rfl⟩ := xd.ptr
 replace h := ((h.call hb2).add (Stb.rat _ _ _) xd).add (Stb.rat _ _ _) xc
 clear hb2 xc xd d0 d1 d2 d3 d4 d5 d6 d7 m0 m1 m2 m3 m4 m5 m6 m7
 go_wp2_with (replace h := h.new 83 #[.pointer none, .pointer none]; refine wpList_store_all (by rfl) 83 (.tmp 13) (.tmp 32) (by rfl) #[ptr c, ptr d] (by rfl) (by rfl) (h.get 0 rfl) (by simp) (by kernel_rfl) (by simp [Value.oneCell', ptr]) ?_; intro V5 k9 hg9; replace h := h.put 0 rfl ⟨by decide, by simp⟩ k9 hg9; simp only [List.set_cons_succ, List.set_cons_zero] at h; clear k9 hg9; replace q0 := (h.get 0 rfl).cell 0; replace q1 := (h.get 0 rfl).cell 1; replace k0 := (h.get 6 rfl).cell 0)
 obtain ⟨xc, xd, _⟩ := h.fact
 refine (HH.out.1 _ _ y n ⟨_, _, rfl, xc, xd⟩ (by omega)).mono ?_
 rintro _ Q1 ⟨vh, rfl, hvh, hb2⟩
 obtain ⟨gh, rfl⟩ := hvh.ptr
 replace h := h.call hb2
 have HS := Lib.hid (sign_pos hvh HH.out.2.2)
 clear hb2 hvh xc xd
 replace e0_ := (h.get 0 rfl).cell 0
 replace e1_ := (h.get 0 rfl).cell 1
 go_wp2_with (first | (go_at_call 50; refine HS.out.mono ?_; rintro _ _ ⟨rfl, rfl⟩) | (replace h := h.new 83 #[ptr c, ptr d]; refine wpSt_append (by rfl) (.tmp 43) (.tmp 45) 76 (by rfl) 83 _ 2 16 Tryz.underlying76 infoN rfl (by decide) h 3 rfl hr1 (by rfl) ⟨by decide, fun A n c e => by rw [hr1.nth (j := 1) (v := ptr b) rfl] at e; simp [ptr] at e⟩ 0 (by rfl) rfl rfl (by simp [Value.oneCell', ptr]) (by decide) (by decide) (by decide) ?_; intro g2 cap2 cur2 R2 hr2 h9; replace h := h9; clear h9; simp only [List.eraseIdx_cons_succ, List.eraseIdx_cons_zero] at h))
 clear e0_ e1_ q0 q1 k0 HS
 rw [rounds_succ]
 go_wp2_with (first | (refine wpList_load_all (by rfl) 75 (.tmp 7) (by rfl) (by rfl) _ (h.get 7 rfl) Tryz.underlying75 rfl (by kernel_rfl) ?_) | (refine wpList_store_all (by rfl) 75 (.tmp 4) (.tmp 48) (by rfl) #[.func (.func 103) #[] #[], .int .i64 0, .int .i64 0, .int .i64 1, .int .i64 0, .int .i64 2, .bool c0, .string t0, .bool c1, .string t1, .bool c2, .string t2, .bool c3, .string t3] (by rfl) (by rfl) (h.get 8 rfl) (by simp) (by kernel_rfl) (by simp [Value.oneCell', ptr]) ?_; intro V6 k9 hg9; replace h := h.put 8 rfl ⟨by decide, by simp⟩ k9 hg9; simp only [List.set_cons_succ, List.set_cons_zero] at h; clear k9 hg9))
 refine bodyPost_ret (results_row_tmp2 rfl _ _ _ _ _ (by rfl) (h.get 8 rfl) Tryz.underlying75 rfl (by kernel_rfl)) rfl ?_
 obtain ⟨xc, xd, xa, xb, _⟩ := h.fact
 exact ⟨_, _, _, _, a, b, c, d, rfl, h.old _ (List.mem_of_getElem? (show _[0]? = some _ from rfl)), ⟨_, _, _, _, _, _, _, _, rfl, HP.out.1, HP.out.2⟩, h.get 0 rfl, hr2, xa, xb, xc, xd, h.bel⟩
set_option maxRecDepth 100000 in
set_option maxHeartbeats 8000000 in
theorem popen_round {w : World} {z y : Cx} {n gs : Nat} {b0 b1 b2 b3 b4 b5 b6 b7 : Bool} {s0 s1 s2 s3 s4 s5 s6 s7 : ByteArray}
  (F0 : Fv b0 s0 b1 s1 z.re n) (F1 : Fv b2 s2 b3 s3 z.im n) (F2 : Fv b4 s4 b5 s5 y.re n) (F3 : Fv b6 s6 b7 s7 y.im n) (hb : Blk w gs 27 #[.bool b0, .string s0, .bool b1, .string s1, .bool b2, .string s2, .bool b3, .string s3, .bool b4, .string s4, .bool b5, .string s5, .bool b6, .string s6, .bool b7, .string s7]) (hz : 0 < ((1 : Int) : Rat) - z.norm) (hy : 0 < ((1 : Int) : Rat) - y.norm) (hn : n ≤ 100000) :
  Calls Tryz.prog 27 #[.int .i64 2, .slice (some ⟨gs, 0, none⟩) 2 2] w (Opened w PicR z y n) := by
 have hgs := hb
 have HO : Hid ((∀ W, Calls Tryz.prog 49 #[.agg #[.bool b0, .string s0, .bool b1, .string s1, .bool b2, .string s2, .bool b3, .string s3]] W (RetB W (IsNum z n) true)) ∧ ∀ W, Calls Tryz.prog 49 #[.agg #[.bool b4, .string s4, .bool b5, .string s5, .bool b6, .string s6, .bool b7, .string s7]] W (RetB W (IsNum y n) true)) := Lib.hid ⟨fun W => exof_any ⟨_, _, _, _, _, _, _, _, rfl, F0, F1⟩ (by omega), fun W => exof_any ⟨_, _, _, _, _, _, _, _, rfl, F2, F3⟩ (by omega)⟩
 have HH := Lib.hid (And.intro highR (And.intro hz hy))
 have HF := Lib.hid (fun W => of_round (w := W))
 clear hz hy F0 F1 F2 F3 hb
 have h := (St.start w).new 75 #[.nilFunc, .int .i64 0, .int .i64 0, .int .i64 0, .int .i64 0, .int .i64 0, .bool false, .string ⟨#[]⟩, .bool false, .string ⟨#[]⟩, .bool false, .string ⟨#[]⟩, .bool false, .string ⟨#[]⟩]
 go_enter Tryz.func27, Tryz.ntmps27
 go_wp2_with fail
 generalize hW : w.alloc _ = V0 at h ⊢
 clear hW
 refine (HF.out _).mono ?_
 rintro _ U0 ⟨_, rfl, ⟨c0, t0, c1, t1, c2, t2, c3, t3, rfl, P0, P1⟩, hb2⟩
 replace h := h.call hb2
 have HP := Lib.hid (And.intro P0 P1)
 clear hb2 P0 P1
 go_wp2_with (replace h := h.new 75 #[.nilFunc, .int .i64 0, .int .i64 0, .int .i64 0, .int .i64 0, .int .i64 0, .bool false, .string ⟨#[]⟩, .bool false, .string ⟨#[]⟩, .bool false, .string ⟨#[]⟩, .bool false, .string ⟨#[]⟩]; refine wpList_store_all (by rfl) 75 (.tmp 7) (.tmp 18) (by rfl) #[.func (.func 105) #[] #[], .int .i64 1, .int .i64 0, .int .i64 0, .int .i64 (-1), .int .i64 1, .bool c0, .string t0, .bool c1, .string t1, .bool c2, .string t2, .bool c3, .string t3] (by rfl) (by rfl) (h.get 0 rfl) (by simp) (by kernel_rfl) (by simp [Value.oneCell', ptr]) ?_; intro V1 k9 hg9; replace h := h.put 0 rfl ⟨by decide, by simp⟩ k9 hg9; simp only [List.set_cons_succ, List.set_cons_zero] at h; clear k9 hg9)
 generalize hgp : U0.heap.size = gp at *
 clear hgp
 refine wp_loop_rounds 3 ?_
 rw [rounds_succ]
 have hk := hgs.below h.bel hgs.lt
 replace m0 := hk.cell 0
 replace m1 := hk.cell 1
 replace m2 := hk.cell 2
 replace m3 := hk.cell 3
 replace m4 := hk.cell 4
 replace m5 := hk.cell 5
 replace m6 := hk.cell 6
 replace m7 := hk.cell 7
 clear hk
 go_wp2_with (replace h := h.new 27 #[.bool false, .string ⟨#[]⟩, .bool false, .string ⟨#[]⟩, .bool false, .string ⟨#[]⟩, .bool false, .string ⟨#[]⟩]; refine wpList_store_all (by rfl) 27 (.tmp 12) (.tmp 28) (by rfl) #[.bool b0, .string s0, .bool b1, .string s1, .bool b2, .string s2, .bool b3, .string s3] (by rfl) (by rfl) (h.get 0 rfl) (by simp) (by kernel_rfl) (by simp [Value.oneCell', ptr]) ?_; intro V2 k9 hg9; replace h := h.put 0 rfl ⟨by decide, by simp⟩ k9 hg9; simp only [List.set_cons_succ, List.set_cons_zero] at h; clear k9 hg9; replace d0 := (h.get 0 rfl).cell 0; replace d1 := (h.get 0 rfl).cell 1; replace d2 := (h.get 0 rfl).cell 2; replace d3 := (h.get 0 rfl).cell 3; replace d4 := (h.get 0 rfl).cell 4; replace d5 := (h.get 0 rfl).cell 5; replace d6 := (h.get 0 rfl).cell 6; replace d7 := (h.get 0 rfl).cell 7)
 refine (HO.out.1 _).mono ?_
 rintro _ Y0 ⟨_, rfl, ⟨_, _, rfl, xa, xb⟩, hb2⟩
 obtain ⟨a, rfl⟩ := xa.ptr
 obtain ⟨b, rfl⟩ := xb.ptr
 replace h := ((h.call hb2).add (Stb.rat _ _ _) xb).add (Stb.rat _ _ _) xa
 clear hb2 xa xb d0 d1 d2 d3 d4 d5 d6 d7 m0 m1 m2 m3 m4 m5 m6 m7
 go_wp2_with (replace h := h.new 83 #[.pointer none, .pointer none]; refine wpList_store_all (by rfl) 83 (.tmp 13) (.tmp 32) (by rfl) #[ptr a, ptr b] (by rfl) (by rfl) (h.get 0 rfl) (by simp) (by kernel_rfl) (by simp [Value.oneCell', ptr]) ?_; intro V3 k9 hg9; replace h := h.put 0 rfl ⟨by decide, by simp⟩ k9 hg9; simp only [List.set_cons_succ, List.set_cons_zero] at h; clear k9 hg9; replace q0 := (h.get 0 rfl).cell 0; replace q1 := (h.get 0 rfl).cell 1; replace k0 := (h.get 2 rfl).cell 0)
 obtain ⟨xa, xb, _⟩ := h.fact
 refine (HH.out.1 _ _ z n ⟨_, _, rfl, xa, xb⟩ (by omega)).mono ?_
 rintro _ Q0 ⟨vh, rfl, hvh, hb2⟩
 obtain ⟨gh, rfl⟩ := hvh.ptr
 replace h := h.call hb2
 have HS := Lib.hid (sign_pos hvh HH.out.2.1)
 clear hb2 hvh xa xb
 replace e0_ := (h.get 0 rfl).cell 0
 replace e1_ := (h.get 0 rfl).cell 1
 go_wp2_with (first | (go_at_call 50; refine HS.out.mono ?_; rintro _ _ ⟨rfl, rfl⟩) | (replace h := h.new 83 #[ptr a, ptr b]; refine wpSt_append0 (by rfl) (.tmp 43) (.tmp 45) 76 (by rfl) 83 _ 2 16 Tryz.underlying76 infoN rfl (by decide) h (by rfl) 0 (by rfl) rfl rfl (by simp [Value.oneCell', ptr]) (by decide) (by decide) (by decide) ?_; intro g1 cap1 cur1 R1 hr1 h9; replace h := h9; clear h9))
 clear e0_ e1_ q0 q1 k0 HS
 rw [rounds_succ]
 have hk := hgs.below h.bel hgs.lt
 replace m0 := hk.cell 8
 replace m1 := hk.cell 9
 replace m2 := hk.cell 10
 replace m3 := hk.cell 11
 replace m4 := hk.cell 12
 replace m5 := hk.cell 13
 replace m6 := hk.cell 14
 replace m7 := hk.cell 15
 clear hk
 go_wp2_with (replace h := h.new 27 #[.bool false, .string ⟨#[]⟩, .bool false, .string ⟨#[]⟩, .bool false, .string ⟨#[]⟩, .bool false, .string ⟨#[]⟩]; refine wpList_store_all (by rfl) 27 (.tmp 12) (.tmp 28) (by rfl) #[.bool b4, .string s4, .bool b5, .string s5, .bool b6, .string s6, .bool b7, .string s7] (by rfl) (by rfl) (h.get 0 rfl) (by simp) (by kernel_rfl) (by simp [Value.oneCell', ptr]) ?_; intro V4 k9 hg9; replace h := h.put 0 rfl ⟨by decide, by simp⟩ k9 hg9; simp only [List.set_cons_succ, List.set_cons_zero] at h; clear k9 hg9; replace d0 := (h.get 0 rfl).cell 0; replace d1 := (h.get 0 rfl).cell 1; replace d2 := (h.get 0 rfl).cell 2; replace d3 := (h.get 0 rfl).cell 3; replace d4 := (h.get 0 rfl).cell 4; replace d5 := (h.get 0 rfl).cell 5; replace d6 := (h.get 0 rfl).cell 6; replace d7 := (h.get 0 rfl).cell 7)
 refine (HO.out.2 _).mono ?_
 rintro _ Y1 ⟨_, rfl, ⟨_, _, rfl, xc, xd⟩, hb2⟩
 obtain ⟨c, rfl⟩ := xc.ptr
 obtain ⟨d, rfl⟩ := xd.ptr
 replace h := ((h.call hb2).add (Stb.rat _ _ _) xd).add (Stb.rat _ _ _) xc
 clear hb2 xc xd d0 d1 d2 d3 d4 d5 d6 d7 m0 m1 m2 m3 m4 m5 m6 m7
 go_wp2_with (replace h := h.new 83 #[.pointer none, .pointer none]; refine wpList_store_all (by rfl) 83 (.tmp 13) (.tmp 32) (by rfl) #[ptr c, ptr d] (by rfl) (by rfl) (h.get 0 rfl) (by simp) (by kernel_rfl) (by simp [Value.oneCell', ptr]) ?_; intro V5 k9 hg9; replace h := h.put 0 rfl ⟨by decide, by simp⟩ k9 hg9; simp only [List.set_cons_succ, List.set_cons_zero] at h; clear k9 hg9; replace q0 := (h.get 0 rfl).cell 0; replace q1 := (h.get 0 rfl).cell 1; replace k0 := (h.get 6 rfl).cell 0)
 obtain ⟨xc, xd, _⟩ := h.fact
 refine (HH.out.1 _ _ y n ⟨_, _, rfl, xc, xd⟩ (by omega)).mono ?_
 rintro _ Q1 ⟨vh, rfl, hvh, hb2⟩
 obtain ⟨gh, rfl⟩ := hvh.ptr
 replace h := h.call hb2
 have HS := Lib.hid (sign_pos hvh HH.out.2.2)
 clear hb2 hvh xc xd
 replace e0_ := (h.get 0 rfl).cell 0
 replace e1_ := (h.get 0 rfl).cell 1
 go_wp2_with (first | (go_at_call 50; refine HS.out.mono ?_; rintro _ _ ⟨rfl, rfl⟩) | (replace h := h.new 83 #[ptr c, ptr d]; refine wpSt_append (by rfl) (.tmp 43) (.tmp 45) 76 (by rfl) 83 _ 2 16 Tryz.underlying76 infoN rfl (by decide) h 3 rfl hr1 (by rfl) ⟨by decide, fun A n c e => by rw [hr1.nth (j := 1) (v := ptr b) rfl] at e; simp [ptr] at e⟩ 0 (by rfl) rfl rfl (by simp [Value.oneCell', ptr]) (by decide) (by decide) (by decide) ?_; intro g2 cap2 cur2 R2 hr2 h9; replace h := h9; clear h9; simp only [List.eraseIdx_cons_succ, List.eraseIdx_cons_zero] at h))
 clear e0_ e1_ q0 q1 k0 HS
 rw [rounds_succ]
 go_wp2_with (first | (refine wpList_load_all (by rfl) 75 (.tmp 7) (by rfl) (by rfl) _ (h.get 7 rfl) Tryz.underlying75 rfl (by kernel_rfl) ?_) | (refine wpList_store_all (by rfl) 75 (.tmp 4) (.tmp 48) (by rfl) #[.func (.func 105) #[] #[], .int .i64 1, .int .i64 0, .int .i64 0, .int .i64 (-1), .int .i64 1, .bool c0, .string t0, .bool c1, .string t1, .bool c2, .string t2, .bool c3, .string t3] (by rfl) (by rfl) (h.get 8 rfl) (by simp) (by kernel_rfl) (by simp [Value.oneCell', ptr]) ?_; intro V6 k9 hg9; replace h := h.put 8 rfl ⟨by decide, by simp⟩ k9 hg9; simp only [List.set_cons_succ, List.set_cons_zero] at h; clear k9 hg9))
 refine bodyPost_ret (results_row_tmp2 rfl _ _ _ _ _ (by rfl) (h.get 8 rfl) Tryz.underlying75 rfl (by kernel_rfl)) rfl ?_
 obtain ⟨xc, xd, xa, xb, _⟩ := h.fact
 exact ⟨_, _, _, _, a, b, c, d, rfl, h.old _ (List.mem_of_getElem? (show _[0]? = some _ from rfl)), ⟨_, _, _, _, _, _, _, _, rfl, HP.out.1, HP.out.2⟩, h.get 0 rfl, hr2, xa, xb, xc, xd, h.bel⟩
set_option maxRecDepth 100000 in
set_option maxHeartbeats 8000000 in
theorem pfar_up {w : World} {v0 v1 v2 : Value} {z y : Cx} {n : Nat} (h0 : PicU v0) (h1 : IsNum z n v1 w) (h2 : IsNum y n v2 w) (hq : z.im * y.im ≠ 0) (hn : n ≤ 10000) :
  Calls Tryz.prog 29 #[v0, v1, v2] w (Ret w (IsRat (((1 : Int) : Rat) + (((((z.sub y).norm) / (z.im * y.im)) * ((2 : Int) : Rat)) / ((4 : Int) : Rat))) (300 * n + 1000))) := by
 obtain ⟨c0, t0, c1, t1, c2, t2, c3, t3, rfl, _, _⟩ := h0
 obtain ⟨_, _, rfl, pa, pb⟩ := h1
 obtain ⟨a, rfl⟩ := pa.ptr
 obtain ⟨b, rfl⟩ := pb.ptr
 obtain ⟨_, _, rfl, pc, pd⟩ := h2
 obtain ⟨c, rfl⟩ := pc.ptr
 obtain ⟨d, rfl⟩ := pd.ptr
 have Hq := Lib.hid hq
 have Hb := Lib.hid (show ((4 : Int) : Rat) ≠ 0 by decide)
 clear hq
 go_enter Tryz.func29, Tryz.ntmps29
 go_wp2_with fail
 have hbw : Below w.heap.size w (((w.alloc (Obj.cells #[.func (.func 103) #[] #[], .int .i64 0, .int .i64 0, .int .i64 1, .int .i64 0, .int .i64 2, .bool c0, .string t0, .bool c1, .string t1, .bool c2, .string t2, .bool c3, .string t3] 75)).alloc (Obj.cells #[ptr a, ptr b] 83)).alloc (Obj.cells #[ptr c, ptr d] 83)) := ((((Below.refl _ _).alloc (Nat.le_refl _) _).alloc (by simp <;> omega) _).alloc (by simp <;> omega) _)
 have k0 : Blk (((w.alloc (Obj.cells #[.func (.func 103) #[] #[], .int .i64 0, .int .i64 0, .int .i64 1, .int .i64 0, .int .i64 2, .bool c0, .string t0, .bool c1, .string t1, .bool c2, .string t2, .bool c3, .string t3] 75)).alloc (Obj.cells #[ptr a, ptr b] 83)).alloc (Obj.cells #[ptr c, ptr d] 83)) (w.heap.size) 75 #[.func (.func 103) #[] #[], .int .i64 0, .int .i64 0, .int .i64 1, .int .i64 0, .int .i64 2, .bool c0, .string t0, .bool c1, .string t1, .bool c2, .string t2, .bool c3, .string t3] := ((((Blk.new w 75 #[.func (.func 103) #[] #[], .int .i64 0, .int .i64 0, .int .i64 1, .int .i64 0, .int .i64 2, .bool c0, .string t0, .bool c1, .string t1, .bool c2, .string t2, .bool c3, .string t3]).alloc (Obj.cells #[ptr a, ptr b] 83)).alloc (Obj.cells #[ptr c, ptr d] 83))).cast (by simp)
 have k1 : Blk (((w.alloc (Obj.cells #[.func (.func 103) #[] #[], .int .i64 0, .int .i64 0, .int .i64 1, .int .i64 0, .int .i64 2, .bool c0, .string t0, .bool c1, .string t1, .bool c2, .string t2, .bool c3, .string t3] 75)).alloc (Obj.cells #[ptr a, ptr b] 83)).alloc (Obj.cells #[ptr c, ptr d] 83)) (w.heap.size + 1) 83 #[ptr a, ptr b] := (((Blk.new (w.alloc (Obj.cells #[.func (.func 103) #[] #[], .int .i64 0, .int .i64 0, .int .i64 1, .int .i64 0, .int .i64 2, .bool c0, .string t0, .bool c1, .string t1, .bool c2, .string t2, .bool c3, .string t3] 75)) 83 #[ptr a, ptr b]).alloc (Obj.cells #[ptr c, ptr d] 83))).cast (by simp)
 have k2 : Blk (((w.alloc (Obj.cells #[.func (.func 103) #[] #[], .int .i64 0, .int .i64 0, .int .i64 1, .int .i64 0, .int .i64 2, .bool c0, .string t0, .bool c1, .string t1, .bool c2, .string t2, .bool c3, .string t3] 75)).alloc (Obj.cells #[ptr a, ptr b] 83)).alloc (Obj.cells #[ptr c, ptr d] 83)) (w.heap.size + 1 + 1) 83 #[ptr c, ptr d] := ((Blk.new ((w.alloc (Obj.cells #[.func (.func 103) #[] #[], .int .i64 0, .int .i64 0, .int .i64 1, .int .i64 0, .int .i64 2, .bool c0, .string t0, .bool c1, .string t1, .bool c2, .string t2, .bool c3, .string t3] 75)).alloc (Obj.cells #[ptr a, ptr b] 83)) 83 #[ptr c, ptr d])).cast (by simp)
 generalize hW : (((w.alloc (Obj.cells #[.func (.func 103) #[] #[], .int .i64 0, .int .i64 0, .int .i64 1, .int .i64 0, .int .i64 2, .bool c0, .string t0, .bool c1, .string t1, .bool c2, .string t2, .bool c3, .string t3] 75)).alloc (Obj.cells #[ptr a, ptr b] 83)).alloc (Obj.cells #[ptr c, ptr d] 83)) = W at *
 clear hW
 have pa := pa.below hbw
 have pb := pb.below hbw
 have pc := pc.below hbw
 have pd := pd.below hbw
 refine wp_region_noPanic ?_
 refine wp_region_list (mk := ?mk) ratZ_vgs [Is (.agg #[(ptr a), (ptr b)]), Is (.agg #[(ptr c), (ptr d)]), IsNum (z.sub y) (2 * n + 1), IsRat ((z.sub y).norm) (8 * n + 5), Is (ptr w.heap.size), Is (.func (.func 103) #[] #[]), Is (.agg #[(ptr a), (ptr b)]), IsRat z.im (8 * n + 17), Is (ptr w.heap.size), Is (.func (.func 103) #[] #[]), Is (.agg #[(ptr c), (ptr d)]), IsRat y.im (8 * n + 17), IsRat (z.im * y.im) (16 * n + 34), IsRat (((z.sub y).norm) / (z.im * y.im)) (32 * n + 68), IsRat (((z.sub y).norm) / (z.im * y.im)) (32 * n + 68)] [.plain, .plain, .plain, .plain, .plain, .plain, .plain, .plain, .plain, .plain, .plain, .plain, .plain, .plain, .plain] 15 0 (fun w' => Blk w' (w.heap.size) 75 #[.func (.func 103) #[] #[], .int .i64 0, .int .i64 0, .int .i64 1, .int .i64 0, .int .i64 2, .bool c0, .string t0, .bool c1, .string t1, .bool c2, .string t2, .bool c3, .string t3] ∧ Blk w' (w.heap.size + 1) 83 #[ptr a, ptr b] ∧ Blk w' (w.heap.size + 1 + 1) 83 #[ptr c, ptr d] ∧ IsRat z.re n (ptr a) w' ∧ IsRat z.im n (ptr b) w' ∧ IsRat y.re n (ptr c) w' ∧ IsRat y.im n (ptr d) w' ∧ True) ⟨is_steady _ _ _, is_steady _ _ _, isNum_steady _ _ _, isRat_steady _ _ _, is_steady _ _ _, is_steady _ _ _, is_steady _ _ _, isRat_steady _ _ _, is_steady _ _ _, is_steady _ _ _, is_steady _ _ _, isRat_steady _ _ _, isRat_steady _ _ _, isRat_steady _ _ _, isRat_steady _ _ _, trivial⟩ (by kernel_rfl) (by kernel_rfl) (by kernel_rfl) (by kernel_rfl) (by kernel_rfl) (by kernel_rfl) ?hmk (fun w' hB => ⟨k0.below hB k0.lt, k1.below hB k1.lt, k2.below hB k2.lt, pa.below hB, pb.below hB, pc.below hB, pd.below hB, trivial⟩)
  (steps_all (steps_cons ?_ (steps_cons ?_ (steps_cons ?_ (steps_cons ?_ (steps_cons ?_ (steps_cons ?_ (steps_cons ?_ (steps_cons ?_ (steps_cons ?_ (steps_cons ?_ (steps_cons ?_ (steps_cons ?_ (steps_cons ?_ (steps_cons ?_ (steps_cons ?_ steps_nil)))))))))))))))) ?_
 case hmk =>
  intro u
  simp only [mkFrom, mkL, dstOf, List.range, List.range.loop, Act.put, List.setIfInBounds_toArray, List.set_cons_zero, List.set_cons_succ, List.getElem?_toArray, List.getElem?_cons_zero, List.getElem?_cons_succ, Option.bind_some]
  rfl
 ·refine step_is (o := Oper.mk (some 8) _ _ _ _ _) rfl rfl rfl rfl (fun u ws hc hd => ?_)
  obtain ⟨k0, k1, k2, pa, pb, pc, pd, _⟩ := hc
  exact run_load_part 83 (.tmp 4) rfl (w.heap.size + 1) 0 rfl #[(ptr a), (ptr b)] _ k1 rfl Tryz.underlying83 rfl (by kernel_rfl)
 ·refine step_is (o := Oper.mk (some 9) _ _ _ _ _) rfl rfl rfl rfl (fun u ws hc hd => ?_)
  obtain ⟨k0, k1, k2, pa, pb, pc, pd, _⟩ := hc
  exact run_load_part 83 (.tmp 5) rfl (w.heap.size + 1 + 1) 0 rfl #[(ptr c), (ptr d)] _ k2 rfl Tryz.underlying83 rfl (by kernel_rfl)
 ·refine step_call (o := Oper.mk (some 10) _ _ _ _ _) rfl rfl rfl (fun u ws hc hd => ?_)
  obtain ⟨k0, k1, k2, pa, pb, pc, pd, _⟩ := hc
  have d0 : u 0 = _ := hd 0 (by kernel_rfl) (by decide)
  have d1 : u 1 = _ := hd 1 (by kernel_rfl) (by decide)
  have HC := Lib.hid (upN (m := (2 * n + 1)) (sub_any (n := n) (⟨_, _, rfl, pa, pb⟩ : IsNum z n _ _) (⟨_, _, rfl, pc, pd⟩ : IsNum y n _ _) (by omega)) (by omega))
  refine ⟨68, #[(.agg #[(ptr a), (ptr b)]), (.agg #[(ptr c), (ptr d)])], ?_, HC.out⟩
  ·clear HC; go_simp
 ·refine step_call (o := Oper.mk (some 11) _ _ _ _ _) rfl rfl rfl (fun u ws hc hd => ?_)
  obtain ⟨k0, k1, k2, pa, pb, pc, pd, _⟩ := hc
  have HC := Lib.hid (upR (m := (8 * n + 5)) (norm_any (hd 2 (by kernel_rfl) (by decide) : IsNum (z.sub y) (2 * n + 1) (u 2) ws) (by omega)) (by omega))
  refine ⟨69, #[u 2], ?_, HC.out⟩
  ·clear HC; go_simp
 ·refine step_is (o := Oper.mk (some 12) _ _ _ _ _) rfl rfl rfl rfl (fun u ws hc hd => ?_)
  go_simp
 ·refine step_is (o := Oper.mk (some 13) _ _ _ _ _) rfl rfl rfl rfl (fun u ws hc hd => ?_)
  obtain ⟨k0, k1, k2, pa, pb, pc, pd, _⟩ := hc
  have c1 : ws.cell? ⟨w.heap.size, 0, none⟩ = some (.func (.func 103) #[] #[]) := by rw [k0.cell]; rfl
  have d4 : u 4 = _ := hd 4 (by kernel_rfl) (by decide)
  go_simp
 ·refine step_is (o := Oper.mk (some 14) _ _ _ _ _) rfl rfl rfl rfl (fun u ws hc hd => ?_)
  obtain ⟨k0, k1, k2, pa, pb, pc, pd, _⟩ := hc
  exact run_load_part 83 (.tmp 4) rfl (w.heap.size + 1) 0 rfl #[(ptr a), (ptr b)] _ k1 rfl Tryz.underlying83 rfl (by kernel_rfl)
 ·refine step_call (o := Oper.mk (some 15) _ _ _ _ _) rfl rfl rfl (fun u ws hc hd => ?_)
  obtain ⟨k0, k1, k2, pa, pb, pc, pd, _⟩ := hc
  have d5 : u 5 = _ := hd 5 (by kernel_rfl) (by decide)
  have d6 : u 6 = _ := hd 6 (by kernel_rfl) (by decide)
  have HC := Lib.hid (highU ws _ _ n (⟨_, _, rfl, pa, pb⟩ : IsNum z n _ _) (by omega))
  refine ⟨103, #[(.agg #[(ptr a), (ptr b)])], ?_, HC.out⟩
  ·clear HC; go_simp
 ·refine step_is (o := Oper.mk (some 16) _ _ _ _ _) rfl rfl rfl rfl (fun u ws hc hd => ?_)
  go_simp
 ·refine step_is (o := Oper.mk (some 17) _ _ _ _ _) rfl rfl rfl rfl (fun u ws hc hd => ?_)
  obtain ⟨k0, k1, k2, pa, pb, pc, pd, _⟩ := hc
  have c1 : ws.cell? ⟨w.heap.size, 0, none⟩ = some (.func (.func 103) #[] #[]) := by rw [k0.cell]; rfl
  have d8 : u 8 = _ := hd 8 (by kernel_rfl) (by decide)
  go_simp
 ·refine step_is (o := Oper.mk (some 18) _ _ _ _ _) rfl rfl rfl rfl (fun u ws hc hd => ?_)
  obtain ⟨k0, k1, k2, pa, pb, pc, pd, _⟩ := hc
  exact run_load_part 83 (.tmp 5) rfl (w.heap.size + 1 + 1) 0 rfl #[(ptr c), (ptr d)] _ k2 rfl Tryz.underlying83 rfl (by kernel_rfl)
 ·refine step_call (o := Oper.mk (some 19) _ _ _ _ _) rfl rfl rfl (fun u ws hc hd => ?_)
  obtain ⟨k0, k1, k2, pa, pb, pc, pd, _⟩ := hc
  have d9 : u 9 = _ := hd 9 (by kernel_rfl) (by decide)
  have d10 : u 10 = _ := hd 10 (by kernel_rfl) (by decide)
  have HC := Lib.hid (highU ws _ _ n (⟨_, _, rfl, pc, pd⟩ : IsNum y n _ _) (by omega))
  refine ⟨103, #[(.agg #[(ptr c), (ptr d)])], ?_, HC.out⟩
  ·clear HC; go_simp
 ·refine step_call (o := Oper.mk (some 20) _ _ _ _ _) rfl rfl rfl (fun u ws hc hd => ?_)
  obtain ⟨k0, k1, k2, pa, pb, pc, pd, _⟩ := hc
  have HC := Lib.hid (upR (m := (16 * n + 34)) (plmul_any (n := (8 * n + 17)) (hd 7 (by kernel_rfl) (by decide) : IsRat z.im (8 * n + 17) (u 7) ws) (hd 11 (by kernel_rfl) (by decide) : IsRat y.im (8 * n + 17) (u 11) ws) (by omega)) (by omega))
  refine ⟨70, #[u 7, u 11], ?_, HC.out⟩
  ·clear HC; go_simp
 ·refine step_call (o := Oper.mk (some 21) _ _ _ _ _) rfl rfl rfl (fun u ws hc hd => ?_)
  obtain ⟨k0, k1, k2, pa, pb, pc, pd, _⟩ := hc
  have HC := Lib.hid (upR (m := (32 * n + 68)) (plquo_any (n := (16 * n + 34)) (IsRat.up (hd 3 (by kernel_rfl) (by decide) : IsRat ((z.sub y).norm) (8 * n + 5) (u 3) ws) (by omega)) (hd 12 (by kernel_rfl) (by decide) : IsRat (z.im * y.im) (16 * n + 34) (u 12) ws) (by omega) Hq.out) (by omega))
  refine ⟨67, #[u 3, u 12], ?_, HC.out⟩
  ·clear HC; go_simp
 ·refine step_val (o := Oper.mk (some 7) _ _ _ _ _) rfl rfl rfl (fun u ws hc hd => ⟨u 13, ?_, (hd 13 (by kernel_rfl) (by decide) : IsRat (((z.sub y).norm) / (z.im * y.im)) (32 * n + 68) (u 13) ws)⟩)
  go_simp
 ·intro u w1 hb1 hf hn1
  have pq : IsRat _ _ (u 14) w1 := hf 14 (by decide) (by decide)
  have k0 := k0.below hb1 k0.lt
  have hbw1 := hbw.trans (hb1.mono hbw.size)
  refine wpAny_end (by kernel_rfl) ?_
  refine NoPanic.normal ?_
  clear hf hn1 k1 k2 pa pb pc pd
  generalize u 14 = vq at *
  go_wp2_with fail
  refine wp_region_noPanic ?_
  refine wp_region_list (mk := ?mk2) ratZ_vgs [IsRat ((1 : Int) : Rat) 8, Is vq, IsRat ((2 : Int) : Rat) 8, IsRat ((((z.sub y).norm) / (z.im * y.im)) * ((2 : Int) : Rat)) (64 * n + 136), Is (.pointer (some ⟨w.heap.size, 5, none⟩)), Is (.int .i64 2), Is (.pointer (some ⟨w.heap.size, 5, none⟩)), Is (.int .i64 2), Is (.int .i64 4), IsRat ((4 : Int) : Rat) 8, IsRat (((((z.sub y).norm) / (z.im * y.im)) * ((2 : Int) : Rat)) / ((4 : Int) : Rat)) (128 * n + 272), IsRat (((1 : Int) : Rat) + (((((z.sub y).norm) / (z.im * y.im)) * ((2 : Int) : Rat)) / ((4 : Int) : Rat))) (256 * n + 545), IsRat (((1 : Int) : Rat) + (((((z.sub y).norm) / (z.im * y.im)) * ((2 : Int) : Rat)) / ((4 : Int) : Rat))) (256 * n + 545)] [.plain, .plain, .plain, .plain, .plain, .plain, .plain, .plain, .plain, .plain, .plain, .plain, .plain] 13 0 (fun w' => Blk w' (w.heap.size) 75 #[.func (.func 103) #[] #[], .int .i64 0, .int .i64 0, .int .i64 1, .int .i64 0, .int .i64 2, .bool c0, .string t0, .bool c1, .string t1, .bool c2, .string t2, .bool c3, .string t3] ∧ IsRat (((z.sub y).norm) / (z.im * y.im)) (32 * n + 68) vq w' ∧ True) ⟨isRat_steady _ _ _, is_steady _ _ _, isRat_steady _ _ _, isRat_steady _ _ _, is_steady _ _ _, is_steady _ _ _, is_steady _ _ _, is_steady _ _ _, is_steady _ _ _, isRat_steady _ _ _, isRat_steady _ _ _, isRat_steady _ _ _, isRat_steady _ _ _, trivial⟩ (by kernel_rfl) (by kernel_rfl) (by kernel_rfl) (by kernel_rfl) (by kernel_rfl) (by kernel_rfl) ?hmk2 (fun w' hB => ⟨k0.below hB k0.lt, pq.below hB, trivial⟩)
   (steps_all (steps_cons ?_ (steps_cons ?_ (steps_cons ?_ (steps_cons ?_ (steps_cons ?_ (steps_cons ?_ (steps_cons ?_ (steps_cons ?_ (steps_cons ?_ (steps_cons ?_ (steps_cons ?_ (steps_cons ?_ (steps_cons ?_ steps_nil)))))))))))))) ?_
  case hmk2 =>
   intro u
   simp only [mkFrom, mkL, dstOf, List.range, List.range.loop, Act.put, List.setIfInBounds_toArray, List.set_cons_zero, List.set_cons_succ, List.getElem?_toArray, List.getElem?_cons_zero, List.getElem?_cons_succ, Option.bind_some]
   rfl
  ·refine step_call (o := Oper.mk (some 22) _ _ _ _ _) rfl rfl rfl (fun u ws hc hd => ?_)
   have HC := Lib.hid (plnum_any (w := ws) (z := 1) (by decide))
   refine ⟨53, #[.int .i64 1], ?_, HC.out⟩
   ·clear HC; go_simp
  ·refine step_is (o := Oper.mk (some 23) _ _ _ _ _) rfl rfl rfl rfl (fun u ws hc hd => ?_)
   go_simp
  ·refine step_call (o := Oper.mk (some 24) _ _ _ _ _) rfl rfl rfl (fun u ws hc hd => ?_)
   have HC := Lib.hid (plnum_any (w := ws) (z := 2) (by decide))
   refine ⟨53, #[.int .i64 2], ?_, HC.out⟩
   ·clear HC; go_simp
  ·refine step_call (o := Oper.mk (some 25) _ _ _ _ _) rfl rfl rfl (fun u ws hc hd => ?_)
   obtain ⟨k0, pq, _⟩ := hc
   have d1 : u 1 = _ := hd 1 (by kernel_rfl) (by decide)
   have HC := Lib.hid (upR (m := (64 * n + 136)) (plmul_any (n := (32 * n + 68)) pq (IsRat.up (hd 2 (by kernel_rfl) (by decide) : IsRat ((2 : Int) : Rat) 8 (u 2) ws) (by omega)) (by omega)) (by omega))
   refine ⟨70, #[vq, u 2], ?_, HC.out⟩
   ·clear HC; go_simp
  ·refine step_is (o := Oper.mk (some 26) _ _ _ _ _) rfl rfl rfl rfl (fun u ws hc hd => ?_)
   go_simp
  ·refine step_is (o := Oper.mk (some 27) _ _ _ _ _) rfl rfl rfl rfl (fun u ws hc hd => ?_)
   obtain ⟨k0, pq, _⟩ := hc
   have c1 : ws.cell? ⟨w.heap.size, 5, none⟩ = some (.int .i64 2) := by rw [k0.cell]; rfl
   have d4 : u 4 = _ := hd 4 (by kernel_rfl) (by decide)
   go_simp
  ·refine step_is (o := Oper.mk (some 28) _ _ _ _ _) rfl rfl rfl rfl (fun u ws hc hd => ?_)
   go_simp
  ·refine step_is (o := Oper.mk (some 29) _ _ _ _ _) rfl rfl rfl rfl (fun u ws hc hd => ?_)
   obtain ⟨k0, pq, _⟩ := hc
   have c1 : ws.cell? ⟨w.heap.size, 5, none⟩ = some (.int .i64 2) := by rw [k0.cell]; rfl
   have d6 : u 6 = _ := hd 6 (by kernel_rfl) (by decide)
   go_simp
  ·refine step_is (o := Oper.mk (some 30) _ _ _ _ _) rfl rfl rfl rfl (fun u ws hc hd => ?_)
   have d5 : u 5 = _ := hd 5 (by kernel_rfl) (by decide)
   have d7 : u 7 = _ := hd 7 (by kernel_rfl) (by decide)
   go_simp
   rfl
  ·refine step_call (o := Oper.mk (some 31) _ _ _ _ _) rfl rfl rfl (fun u ws hc hd => ?_)
   have d8 : u 8 = _ := hd 8 (by kernel_rfl) (by decide)
   have HC := Lib.hid (plnum_any (w := ws) (z := 4) (by decide))
   refine ⟨53, #[.int .i64 4], ?_, HC.out⟩
   ·clear HC; go_simp
  ·refine step_call (o := Oper.mk (some 32) _ _ _ _ _) rfl rfl rfl (fun u ws hc hd => ?_)
   obtain ⟨k0, pq, _⟩ := hc
   have HC := Lib.hid (upR (m := (128 * n + 272)) (plquo_any (n := (64 * n + 136)) (hd 3 (by kernel_rfl) (by decide) : IsRat ((((z.sub y).norm) / (z.im * y.im)) * ((2 : Int) : Rat)) (64 * n + 136) (u 3) ws) (IsRat.up (hd 9 (by kernel_rfl) (by decide) : IsRat ((4 : Int) : Rat) 8 (u 9) ws) (by omega)) (by omega) Hb.out) (by omega))
   refine ⟨67, #[u 3, u 9], ?_, HC.out⟩
   ·clear HC; go_simp
  ·refine step_call (o := Oper.mk (some 33) _ _ _ _ _) rfl rfl rfl (fun u ws hc hd => ?_)
   obtain ⟨k0, pq, _⟩ := hc
   have HC := Lib.hid (upR (m := (256 * n + 545)) (pladd_any (n := (128 * n + 272)) (IsRat.up (hd 0 (by kernel_rfl) (by decide) : IsRat ((1 : Int) : Rat) 8 (u 0) ws) (by omega)) (hd 10 (by kernel_rfl) (by decide) : IsRat (((((z.sub y).norm) / (z.im * y.im)) * ((2 : Int) : Rat)) / ((4 : Int) : Rat)) (128 * n + 272) (u 10) ws) (by omega)) (by omega))
   refine ⟨71, #[u 0, u 10], ?_, HC.out⟩
   ·clear HC; go_simp
  ·refine step_val (o := Oper.mk (some 6) _ _ _ _ _) rfl rfl rfl (fun u ws hc hd => ⟨u 11, ?_, (hd 11 (by kernel_rfl) (by decide) : IsRat (((1 : Int) : Rat) + (((((z.sub y).norm) / (z.im * y.im)) * ((2 : Int) : Rat)) / ((4 : Int) : Rat))) (256 * n + 545) (u 11) ws)⟩)
   go_simp
  ·intro u2 w2 hb2 hf hn1
   have pr : IsRat _ _ (u2 12) w2 := hf 12 (by decide) (by decide)
   refine wpAny_end (by kernel_rfl) ?_
   refine NoPanic.normal ?_
   clear hf hn1
   go_wp2_with fail
   go_ret
   exact ⟨_, rfl, pr.up (by omega), hbw1.trans (hb2.mono hbw1.size)⟩
set_option maxRecDepth 100000 in
set_option maxHeartbeats 8000000 in
theorem pfar_round {w : World} {v0 v1 v2 : Value} {z y : Cx} {n : Nat} (h0 : PicR v0) (h1 : IsNum z n v1 w) (h2 : IsNum y n v2 w) (hq : (((1 : Int) : Rat) - z.norm) * (((1 : Int) : Rat) - y.norm) ≠ 0) (hn : n ≤ 10000) :
  Calls Tryz.prog 29 #[v0, v1, v2] w (Ret w (IsRat (((1 : Int) : Rat) + (((((z.sub y).norm) / ((((1 : Int) : Rat) - z.norm) * (((1 : Int) : Rat) - y.norm))) * ((2 : Int) : Rat)) / ((1 : Int) : Rat))) (300 * n + 1000))) := by
 obtain ⟨c0, t0, c1, t1, c2, t2, c3, t3, rfl, _, _⟩ := h0
 obtain ⟨_, _, rfl, pa, pb⟩ := h1
 obtain ⟨a, rfl⟩ := pa.ptr
 obtain ⟨b, rfl⟩ := pb.ptr
 obtain ⟨_, _, rfl, pc, pd⟩ := h2
 obtain ⟨c, rfl⟩ := pc.ptr
 obtain ⟨d, rfl⟩ := pd.ptr
 have Hq := Lib.hid hq
 have Hb := Lib.hid (show ((1 : Int) : Rat) ≠ 0 by decide)
 clear hq
 go_enter Tryz.func29, Tryz.ntmps29
 go_wp2_with fail
 have hbw : Below w.heap.size w (((w.alloc (Obj.cells #[.func (.func 105) #[] #[], .int .i64 1, .int .i64 0, .int .i64 0, .int .i64 (-1), .int .i64 1, .bool c0, .string t0, .bool c1, .string t1, .bool c2, .string t2, .bool c3, .string t3] 75)).alloc (Obj.cells #[ptr a, ptr b] 83)).alloc (Obj.cells #[ptr c, ptr d] 83)) := ((((Below.refl _ _).alloc (Nat.le_refl _) _).alloc (by simp <;> omega) _).alloc (by simp <;> omega) _)
 have k0 : Blk (((w.alloc (Obj.cells #[.func (.func 105) #[] #[], .int .i64 1, .int .i64 0, .int .i64 0, .int .i64 (-1), .int .i64 1, .bool c0, .string t0, .bool c1, .string t1, .bool c2, .string t2, .bool c3, .string t3] 75)).alloc (Obj.cells #[ptr a, ptr b] 83)).alloc (Obj.cells #[ptr c, ptr d] 83)) (w.heap.size) 75 #[.func (.func 105) #[] #[], .int .i64 1, .int .i64 0, .int .i64 0, .int .i64 (-1), .int .i64 1, .bool c0, .string t0, .bool c1, .string t1, .bool c2, .string t2, .bool c3, .string t3] := ((((Blk.new w 75 #[.func (.func 105) #[] #[], .int .i64 1, .int .i64 0, .int .i64 0, .int .i64 (-1), .int .i64 1, .bool c0, .string t0, .bool c1, .string t1, .bool c2, .string t2, .bool c3, .string t3]).alloc (Obj.cells #[ptr a, ptr b] 83)).alloc (Obj.cells #[ptr c, ptr d] 83))).cast (by simp)
 have k1 : Blk (((w.alloc (Obj.cells #[.func (.func 105) #[] #[], .int .i64 1, .int .i64 0, .int .i64 0, .int .i64 (-1), .int .i64 1, .bool c0, .string t0, .bool c1, .string t1, .bool c2, .string t2, .bool c3, .string t3] 75)).alloc (Obj.cells #[ptr a, ptr b] 83)).alloc (Obj.cells #[ptr c, ptr d] 83)) (w.heap.size + 1) 83 #[ptr a, ptr b] := (((Blk.new (w.alloc (Obj.cells #[.func (.func 105) #[] #[], .int .i64 1, .int .i64 0, .int .i64 0, .int .i64 (-1), .int .i64 1, .bool c0, .string t0, .bool c1, .string t1, .bool c2, .string t2, .bool c3, .string t3] 75)) 83 #[ptr a, ptr b]).alloc (Obj.cells #[ptr c, ptr d] 83))).cast (by simp)
 have k2 : Blk (((w.alloc (Obj.cells #[.func (.func 105) #[] #[], .int .i64 1, .int .i64 0, .int .i64 0, .int .i64 (-1), .int .i64 1, .bool c0, .string t0, .bool c1, .string t1, .bool c2, .string t2, .bool c3, .string t3] 75)).alloc (Obj.cells #[ptr a, ptr b] 83)).alloc (Obj.cells #[ptr c, ptr d] 83)) (w.heap.size + 1 + 1) 83 #[ptr c, ptr d] := ((Blk.new ((w.alloc (Obj.cells #[.func (.func 105) #[] #[], .int .i64 1, .int .i64 0, .int .i64 0, .int .i64 (-1), .int .i64 1, .bool c0, .string t0, .bool c1, .string t1, .bool c2, .string t2, .bool c3, .string t3] 75)).alloc (Obj.cells #[ptr a, ptr b] 83)) 83 #[ptr c, ptr d])).cast (by simp)
 generalize hW : (((w.alloc (Obj.cells #[.func (.func 105) #[] #[], .int .i64 1, .int .i64 0, .int .i64 0, .int .i64 (-1), .int .i64 1, .bool c0, .string t0, .bool c1, .string t1, .bool c2, .string t2, .bool c3, .string t3] 75)).alloc (Obj.cells #[ptr a, ptr b] 83)).alloc (Obj.cells #[ptr c, ptr d] 83)) = W at *
 clear hW
 have pa := pa.below hbw
 have pb := pb.below hbw
 have pc := pc.below hbw
 have pd := pd.below hbw
 refine wp_region_noPanic ?_
 refine wp_region_list (mk := ?mk) ratZ_vgs [Is (.agg #[(ptr a), (ptr b)]), Is (.agg #[(ptr c), (ptr d)]), IsNum (z.sub y) (2 * n + 1), IsRat ((z.sub y).norm) (8 * n + 5), Is (ptr w.heap.size), Is (.func (.func 105) #[] #[]), Is (.agg #[(ptr a), (ptr b)]), IsRat (((1 : Int) : Rat) - z.norm) (8 * n + 17), Is (ptr w.heap.size), Is (.func (.func 105) #[] #[]), Is (.agg #[(ptr c), (ptr d)]), IsRat (((1 : Int) : Rat) - y.norm) (8 * n + 17), IsRat ((((1 : Int) : Rat) - z.norm) * (((1 : Int) : Rat) - y.norm)) (16 * n + 34), IsRat (((z.sub y).norm) / ((((1 : Int) : Rat) - z.norm) * (((1 : Int) : Rat) - y.norm))) (32 * n + 68), IsRat (((z.sub y).norm) / ((((1 : Int) : Rat) - z.norm) * (((1 : Int) : Rat) - y.norm))) (32 * n + 68)] [.plain, .plain, .plain, .plain, .plain, .plain, .plain, .plain, .plain, .plain, .plain, .plain, .plain, .plain, .plain] 15 0 (fun w' => Blk w' (w.heap.size) 75 #[.func (.func 105) #[] #[], .int .i64 1, .int .i64 0, .int .i64 0, .int .i64 (-1), .int .i64 1, .bool c0, .string t0, .bool c1, .string t1, .bool c2, .string t2, .bool c3, .string t3] ∧ Blk w' (w.heap.size + 1) 83 #[ptr a, ptr b] ∧ Blk w' (w.heap.size + 1 + 1) 83 #[ptr c, ptr d] ∧ IsRat z.re n (ptr a) w' ∧ IsRat z.im n (ptr b) w' ∧ IsRat y.re n (ptr c) w' ∧ IsRat y.im n (ptr d) w' ∧ True) ⟨is_steady _ _ _, is_steady _ _ _, isNum_steady _ _ _, isRat_steady _ _ _, is_steady _ _ _, is_steady _ _ _, is_steady _ _ _, isRat_steady _ _ _, is_steady _ _ _, is_steady _ _ _, is_steady _ _ _, isRat_steady _ _ _, isRat_steady _ _ _, isRat_steady _ _ _, isRat_steady _ _ _, trivial⟩ (by kernel_rfl) (by kernel_rfl) (by kernel_rfl) (by kernel_rfl) (by kernel_rfl) (by kernel_rfl) ?hmk (fun w' hB => ⟨k0.below hB k0.lt, k1.below hB k1.lt, k2.below hB k2.lt, pa.below hB, pb.below hB, pc.below hB, pd.below hB, trivial⟩)
  (steps_all (steps_cons ?_ (steps_cons ?_ (steps_cons ?_ (steps_cons ?_ (steps_cons ?_ (steps_cons ?_ (steps_cons ?_ (steps_cons ?_ (steps_cons ?_ (steps_cons ?_ (steps_cons ?_ (steps_cons ?_ (steps_cons ?_ (steps_cons ?_ (steps_cons ?_ steps_nil)))))))))))))))) ?_
 case hmk =>
  intro u
  simp only [mkFrom, mkL, dstOf, List.range, List.range.loop, Act.put, List.setIfInBounds_toArray, List.set_cons_zero, List.set_cons_succ, List.getElem?_toArray, List.getElem?_cons_zero, List.getElem?_cons_succ, Option.bind_some]
  rfl
 ·refine step_is (o := Oper.mk (some 8) _ _ _ _ _) rfl rfl rfl rfl (fun u ws hc hd => ?_)
  obtain ⟨k0, k1, k2, pa, pb, pc, pd, _⟩ := hc
  exact run_load_part 83 (.tmp 4) rfl (w.heap.size + 1) 0 rfl #[(ptr a), (ptr b)] _ k1 rfl Tryz.underlying83 rfl (by kernel_rfl)
 ·refine step_is (o := Oper.mk (some 9) _ _ _ _ _) rfl rfl rfl rfl (fun u ws hc hd => ?_)
  obtain ⟨k0, k1, k2, pa, pb, pc, pd, _⟩ := hc
  exact run_load_part 83 (.tmp 5) rfl (w.heap.size + 1 + 1) 0 rfl #[(ptr c), (ptr d)] _ k2 rfl Tryz.underlying83 rfl (by kernel_rfl)
 ·refine step_call (o := Oper.mk (some 10) _ _ _ _ _) rfl rfl rfl (fun u ws hc hd => ?_)
  obtain ⟨k0, k1, k2, pa, pb, pc, pd, _⟩ := hc
  have d0 : u 0 = _ := hd 0 (by kernel_rfl) (by decide)
  have d1 : u 1 = _ := hd 1 (by kernel_rfl) (by decide)
  have HC := Lib.hid (upN (m := (2 * n + 1)) (sub_any (n := n) (⟨_, _, rfl, pa, pb⟩ : IsNum z n _ _) (⟨_, _, rfl, pc, pd⟩ : IsNum y n _ _) (by omega)) (by omega))
  refine ⟨68, #[(.agg #[(ptr a), (ptr b)]), (.agg #[(ptr c), (ptr d)])], ?_, HC.out⟩
  ·clear HC; go_simp
 ·refine step_call (o := Oper.mk (some 11) _ _ _ _ _) rfl rfl rfl (fun u ws hc hd => ?_)
  obtain ⟨k0, k1, k2, pa, pb, pc, pd, _⟩ := hc
  have HC := Lib.hid (upR (m := (8 * n + 5)) (norm_any (hd 2 (by kernel_rfl) (by decide) : IsNum (z.sub y) (2 * n + 1) (u 2) ws) (by omega)) (by omega))
  refine ⟨69, #[u 2], ?_, HC.out⟩
  ·clear HC; go_simp
 ·refine step_is (o := Oper.mk (some 12) _ _ _ _ _) rfl rfl rfl rfl (fun u ws hc hd => ?_)
  go_simp
 ·refine step_is (o := Oper.mk (some 13) _ _ _ _ _) rfl rfl rfl rfl (fun u ws hc hd => ?_)
  obtain ⟨k0, k1, k2, pa, pb, pc, pd, _⟩ := hc
  have c1 : ws.cell? ⟨w.heap.size, 0, none⟩ = some (.func (.func 105) #[] #[]) := by rw [k0.cell]; rfl
  have d4 : u 4 = _ := hd 4 (by kernel_rfl) (by decide)
  go_simp
 ·refine step_is (o := Oper.mk (some 14) _ _ _ _ _) rfl rfl rfl rfl (fun u ws hc hd => ?_)
  obtain ⟨k0, k1, k2, pa, pb, pc, pd, _⟩ := hc
  exact run_load_part 83 (.tmp 4) rfl (w.heap.size + 1) 0 rfl #[(ptr a), (ptr b)] _ k1 rfl Tryz.underlying83 rfl (by kernel_rfl)
 ·refine step_call (o := Oper.mk (some 15) _ _ _ _ _) rfl rfl rfl (fun u ws hc hd => ?_)
  obtain ⟨k0, k1, k2, pa, pb, pc, pd, _⟩ := hc
  have d5 : u 5 = _ := hd 5 (by kernel_rfl) (by decide)
  have d6 : u 6 = _ := hd 6 (by kernel_rfl) (by decide)
  have HC := Lib.hid (highR ws _ _ n (⟨_, _, rfl, pa, pb⟩ : IsNum z n _ _) (by omega))
  refine ⟨105, #[(.agg #[(ptr a), (ptr b)])], ?_, HC.out⟩
  ·clear HC; go_simp
 ·refine step_is (o := Oper.mk (some 16) _ _ _ _ _) rfl rfl rfl rfl (fun u ws hc hd => ?_)
  go_simp
 ·refine step_is (o := Oper.mk (some 17) _ _ _ _ _) rfl rfl rfl rfl (fun u ws hc hd => ?_)
  obtain ⟨k0, k1, k2, pa, pb, pc, pd, _⟩ := hc
  have c1 : ws.cell? ⟨w.heap.size, 0, none⟩ = some (.func (.func 105) #[] #[]) := by rw [k0.cell]; rfl
  have d8 : u 8 = _ := hd 8 (by kernel_rfl) (by decide)
  go_simp
 ·refine step_is (o := Oper.mk (some 18) _ _ _ _ _) rfl rfl rfl rfl (fun u ws hc hd => ?_)
  obtain ⟨k0, k1, k2, pa, pb, pc, pd, _⟩ := hc
  exact run_load_part 83 (.tmp 5) rfl (w.heap.size + 1 + 1) 0 rfl #[(ptr c), (ptr d)] _ k2 rfl Tryz.underlying83 rfl (by kernel_rfl)
 ·refine step_call (o := Oper.mk (some 19) _ _ _ _ _) rfl rfl rfl (fun u ws hc hd => ?_)
  obtain ⟨k0, k1, k2, pa, pb, pc, pd, _⟩ := hc
  have d9 : u 9 = _ := hd 9 (by kernel_rfl) (by decide)
  have d10 : u 10 = _ := hd 10 (by kernel_rfl) (by decide)
  have HC := Lib.hid (highR ws _ _ n (⟨_, _, rfl, pc, pd⟩ : IsNum y n _ _) (by omega))
  refine ⟨105, #[(.agg #[(ptr c), (ptr d)])], ?_, HC.out⟩
  ·clear HC; go_simp
 ·refine step_call (o := Oper.mk (some 20) _ _ _ _ _) rfl rfl rfl (fun u ws hc hd => ?_)
  obtain ⟨k0, k1, k2, pa, pb, pc, pd, _⟩ := hc
  have HC := Lib.hid (upR (m := (16 * n + 34)) (plmul_any (n := (8 * n + 17)) (hd 7 (by kernel_rfl) (by decide) : IsRat (((1 : Int) : Rat) - z.norm) (8 * n + 17) (u 7) ws) (hd 11 (by kernel_rfl) (by decide) : IsRat (((1 : Int) : Rat) - y.norm) (8 * n + 17) (u 11) ws) (by omega)) (by omega))
  refine ⟨70, #[u 7, u 11], ?_, HC.out⟩
  ·clear HC; go_simp
 ·refine step_call (o := Oper.mk (some 21) _ _ _ _ _) rfl rfl rfl (fun u ws hc hd => ?_)
  obtain ⟨k0, k1, k2, pa, pb, pc, pd, _⟩ := hc
  have HC := Lib.hid (upR (m := (32 * n + 68)) (plquo_any (n := (16 * n + 34)) (IsRat.up (hd 3 (by kernel_rfl) (by decide) : IsRat ((z.sub y).norm) (8 * n + 5) (u 3) ws) (by omega)) (hd 12 (by kernel_rfl) (by decide) : IsRat ((((1 : Int) : Rat) - z.norm) * (((1 : Int) : Rat) - y.norm)) (16 * n + 34) (u 12) ws) (by omega) Hq.out) (by omega))
  refine ⟨67, #[u 3, u 12], ?_, HC.out⟩
  ·clear HC; go_simp
 ·refine step_val (o := Oper.mk (some 7) _ _ _ _ _) rfl rfl rfl (fun u ws hc hd => ⟨u 13, ?_, (hd 13 (by kernel_rfl) (by decide) : IsRat (((z.sub y).norm) / ((((1 : Int) : Rat) - z.norm) * (((1 : Int) : Rat) - y.norm))) (32 * n + 68) (u 13) ws)⟩)
  go_simp
 ·intro u w1 hb1 hf hn1
  have pq : IsRat _ _ (u 14) w1 := hf 14 (by decide) (by decide)
  have k0 := k0.below hb1 k0.lt
  have hbw1 := hbw.trans (hb1.mono hbw.size)
  refine wpAny_end (by kernel_rfl) ?_
  refine NoPanic.normal ?_
  clear hf hn1 k1 k2 pa pb pc pd
  generalize u 14 = vq at *
  go_wp2_with fail
  refine wp_region_noPanic ?_
  refine wp_region_list (mk := ?mk2) ratZ_vgs [IsRat ((1 : Int) : Rat) 8, Is vq, IsRat ((2 : Int) : Rat) 8, IsRat ((((z.sub y).norm) / ((((1 : Int) : Rat) - z.norm) * (((1 : Int) : Rat) - y.norm))) * ((2 : Int) : Rat)) (64 * n + 136), Is (.pointer (some ⟨w.heap.size, 5, none⟩)), Is (.int .i64 1), Is (.pointer (some ⟨w.heap.size, 5, none⟩)), Is (.int .i64 1), Is (.int .i64 1), IsRat ((1 : Int) : Rat) 8, IsRat (((((z.sub y).norm) / ((((1 : Int) : Rat) - z.norm) * (((1 : Int) : Rat) - y.norm))) * ((2 : Int) : Rat)) / ((1 : Int) : Rat)) (128 * n + 272), IsRat (((1 : Int) : Rat) + (((((z.sub y).norm) / ((((1 : Int) : Rat) - z.norm) * (((1 : Int) : Rat) - y.norm))) * ((2 : Int) : Rat)) / ((1 : Int) : Rat))) (256 * n + 545), IsRat (((1 : Int) : Rat) + (((((z.sub y).norm) / ((((1 : Int) : Rat) - z.norm) * (((1 : Int) : Rat) - y.norm))) * ((2 : Int) : Rat)) / ((1 : Int) : Rat))) (256 * n + 545)] [.plain, .plain, .plain, .plain, .plain, .plain, .plain, .plain, .plain, .plain, .plain, .plain, .plain] 13 0 (fun w' => Blk w' (w.heap.size) 75 #[.func (.func 105) #[] #[], .int .i64 1, .int .i64 0, .int .i64 0, .int .i64 (-1), .int .i64 1, .bool c0, .string t0, .bool c1, .string t1, .bool c2, .string t2, .bool c3, .string t3] ∧ IsRat (((z.sub y).norm) / ((((1 : Int) : Rat) - z.norm) * (((1 : Int) : Rat) - y.norm))) (32 * n + 68) vq w' ∧ True) ⟨isRat_steady _ _ _, is_steady _ _ _, isRat_steady _ _ _, isRat_steady _ _ _, is_steady _ _ _, is_steady _ _ _, is_steady _ _ _, is_steady _ _ _, is_steady _ _ _, isRat_steady _ _ _, isRat_steady _ _ _, isRat_steady _ _ _, isRat_steady _ _ _, trivial⟩ (by kernel_rfl) (by kernel_rfl) (by kernel_rfl) (by kernel_rfl) (by kernel_rfl) (by kernel_rfl) ?hmk2 (fun w' hB => ⟨k0.below hB k0.lt, pq.below hB, trivial⟩)
   (steps_all (steps_cons ?_ (steps_cons ?_ (steps_cons ?_ (steps_cons ?_ (steps_cons ?_ (steps_cons ?_ (steps_cons ?_ (steps_cons ?_ (steps_cons ?_ (steps_cons ?_ (steps_cons ?_ (steps_cons ?_ (steps_cons ?_ steps_nil)))))))))))))) ?_
  case hmk2 =>
   intro u
   simp only [mkFrom, mkL, dstOf, List.range, List.range.loop, Act.put, List.setIfInBounds_toArray, List.set_cons_zero, List.set_cons_succ, List.getElem?_toArray, List.getElem?_cons_zero, List.getElem?_cons_succ, Option.bind_some]
   rfl
  ·refine step_call (o := Oper.mk (some 22) _ _ _ _ _) rfl rfl rfl (fun u ws hc hd => ?_)
   have HC := Lib.hid (plnum_any (w := ws) (z := 1) (by decide))
   refine ⟨53, #[.int .i64 1], ?_, HC.out⟩
   ·clear HC; go_simp
  ·refine step_is (o := Oper.mk (some 23) _ _ _ _ _) rfl rfl rfl rfl (fun u ws hc hd => ?_)
   go_simp
  ·refine step_call (o := Oper.mk (some 24) _ _ _ _ _) rfl rfl rfl (fun u ws hc hd => ?_)
   have HC := Lib.hid (plnum_any (w := ws) (z := 2) (by decide))
   refine ⟨53, #[.int .i64 2], ?_, HC.out⟩
   ·clear HC; go_simp
  ·refine step_call (o := Oper.mk (some 25) _ _ _ _ _) rfl rfl rfl (fun u ws hc hd => ?_)
   obtain ⟨k0, pq, _⟩ := hc
   have d1 : u 1 = _ := hd 1 (by kernel_rfl) (by decide)
   have HC := Lib.hid (upR (m := (64 * n + 136)) (plmul_any (n := (32 * n + 68)) pq (IsRat.up (hd 2 (by kernel_rfl) (by decide) : IsRat ((2 : Int) : Rat) 8 (u 2) ws) (by omega)) (by omega)) (by omega))
   refine ⟨70, #[vq, u 2], ?_, HC.out⟩
   ·clear HC; go_simp
  ·refine step_is (o := Oper.mk (some 26) _ _ _ _ _) rfl rfl rfl rfl (fun u ws hc hd => ?_)
   go_simp
  ·refine step_is (o := Oper.mk (some 27) _ _ _ _ _) rfl rfl rfl rfl (fun u ws hc hd => ?_)
   obtain ⟨k0, pq, _⟩ := hc
   have c1 : ws.cell? ⟨w.heap.size, 5, none⟩ = some (.int .i64 1) := by rw [k0.cell]; rfl
   have d4 : u 4 = _ := hd 4 (by kernel_rfl) (by decide)
   go_simp
  ·refine step_is (o := Oper.mk (some 28) _ _ _ _ _) rfl rfl rfl rfl (fun u ws hc hd => ?_)
   go_simp
  ·refine step_is (o := Oper.mk (some 29) _ _ _ _ _) rfl rfl rfl rfl (fun u ws hc hd => ?_)
   obtain ⟨k0, pq, _⟩ := hc
   have c1 : ws.cell? ⟨w.heap.size, 5, none⟩ = some (.int .i64 1) := by rw [k0.cell]; rfl
   have d6 : u 6 = _ := hd 6 (by kernel_rfl) (by decide)
   go_simp
  ·refine step_is (o := Oper.mk (some 30) _ _ _ _ _) rfl rfl rfl rfl (fun u ws hc hd => ?_)
   have d5 : u 5 = _ := hd 5 (by kernel_rfl) (by decide)
   have d7 : u 7 = _ := hd 7 (by kernel_rfl) (by decide)
   go_simp
   rfl
  ·refine step_call (o := Oper.mk (some 31) _ _ _ _ _) rfl rfl rfl (fun u ws hc hd => ?_)
   have d8 : u 8 = _ := hd 8 (by kernel_rfl) (by decide)
   have HC := Lib.hid (plnum_any (w := ws) (z := 1) (by decide))
   refine ⟨53, #[.int .i64 1], ?_, HC.out⟩
   ·clear HC; go_simp
  ·refine step_call (o := Oper.mk (some 32) _ _ _ _ _) rfl rfl rfl (fun u ws hc hd => ?_)
   obtain ⟨k0, pq, _⟩ := hc
   have HC := Lib.hid (upR (m := (128 * n + 272)) (plquo_any (n := (64 * n + 136)) (hd 3 (by kernel_rfl) (by decide) : IsRat ((((z.sub y).norm) / ((((1 : Int) : Rat) - z.norm) * (((1 : Int) : Rat) - y.norm))) * ((2 : Int) : Rat)) (64 * n + 136) (u 3) ws) (IsRat.up (hd 9 (by kernel_rfl) (by decide) : IsRat ((1 : Int) : Rat) 8 (u 9) ws) (by omega)) (by omega) Hb.out) (by omega))
   refine ⟨67, #[u 3, u 9], ?_, HC.out⟩
   ·clear HC; go_simp
  ·refine step_call (o := Oper.mk (some 33) _ _ _ _ _) rfl rfl rfl (fun u ws hc hd => ?_)
   obtain ⟨k0, pq, _⟩ := hc
   have HC := Lib.hid (upR (m := (256 * n + 545)) (pladd_any (n := (128 * n + 272)) (IsRat.up (hd 0 (by kernel_rfl) (by decide) : IsRat ((1 : Int) : Rat) 8 (u 0) ws) (by omega)) (hd 10 (by kernel_rfl) (by decide) : IsRat (((((z.sub y).norm) / ((((1 : Int) : Rat) - z.norm) * (((1 : Int) : Rat) - y.norm))) * ((2 : Int) : Rat)) / ((1 : Int) : Rat)) (128 * n + 272) (u 10) ws) (by omega)) (by omega))
   refine ⟨71, #[u 0, u 10], ?_, HC.out⟩
   ·clear HC; go_simp
  ·refine step_val (o := Oper.mk (some 6) _ _ _ _ _) rfl rfl rfl (fun u ws hc hd => ⟨u 11, ?_, (hd 11 (by kernel_rfl) (by decide) : IsRat (((1 : Int) : Rat) + (((((z.sub y).norm) / ((((1 : Int) : Rat) - z.norm) * (((1 : Int) : Rat) - y.norm))) * ((2 : Int) : Rat)) / ((1 : Int) : Rat))) (256 * n + 545) (u 11) ws)⟩)
   go_simp
  ·intro u2 w2 hb2 hf hn1
   have pr : IsRat _ _ (u2 12) w2 := hf 12 (by decide) (by decide)
   refine wpAny_end (by kernel_rfl) ?_
   refine NoPanic.normal ?_
   clear hf hn1
   go_wp2_with fail
   go_ret
   exact ⟨_, rfl, pr.up (by omega), hbw1.trans (hb2.mono hbw1.size)⟩
theorem israt_val {q : Rat} {n g : Nat} {w : World} (h : IsRat q n (ptr g) w) : RatV w g q := by
 obtain ⟨g', e, h, _⟩ := h
 injection e with e
 injection e with e
 injection e with e
 subst e
 exact h
set_option maxRecDepth 100000 in
set_option maxHeartbeats 8000000 in
theorem far_up {w : World} {v1 v2 : Value} {z y : Cx} {n : Nat} (h1 : IsGauss z n v1) (h2 : IsGauss y n v2) (hz : 0 < z.im) (hy : 0 < y.im) (hs : Sz (((1 : Int) : Rat) + ((z.sub y).norm / ((z.im) * (y.im)) * ((2 : Int) : Rat)) / ((4 : Int) : Rat)) 8192) (hn : n ≤ 10000) :
  Calls Tryz.prog 9 #[.int .i64 1, v1, v2] w (RetE w (fun v _ => IsFrac (((1 : Int) : Rat) + ((z.sub y).norm / ((z.im) * (y.im)) * ((2 : Int) : Rat)) / ((4 : Int) : Rat)) 8192 v)) := by
 obtain ⟨b0, s0, b1, s1, b2, s2, b3, s3, rfl, F0, F1⟩ := h1
 obtain ⟨b4, s4, b5, s5, b6, s6, b7, s7, rfl, F2, F3⟩ := h2
 have h := (((((St.start w).new 27 #[.bool b0, .string s0, .bool b1, .string s1, .bool b2, .string s2, .bool b3, .string s3]).new 27 #[.bool b4, .string s4, .bool b5, .string s5, .bool b6, .string s6, .bool b7, .string s7]).new 25 #[.bool false, .string ⟨#[]⟩, .bool false, .string ⟨#[]⟩]).new 27 #[.bool b0, .string s0, .bool b1, .string s1, .bool b2, .string s2, .bool b3, .string s3, .bool b4, .string s4, .bool b5, .string s5, .bool b6, .string s6, .bool b7, .string s7])
 simp only [size_alloc] at h
 have HO := Lib.hid (popen_up F0 F1 F2 F3 (h.get 0 rfl) hz hy (by omega))
 have HQ := Lib.hid (show z.im * y.im ≠ 0 from mul_ne (by grind) (by grind))
 clear F0 F1 F2 F3 hz hy
 go_enter Tryz.func9, Tryz.ntmps9
 go_wp2_with fail
 generalize hW : ((((w.alloc (Obj.cells #[.bool b0, .string s0, .bool b1, .string s1, .bool b2, .string s2, .bool b3, .string s3] 27)).alloc (Obj.cells #[.bool b4, .string s4, .bool b5, .string s5, .bool b6, .string s6, .bool b7, .string s7] 27)).alloc (Obj.cells #[.bool false, .string ⟨#[]⟩, .bool false, .string ⟨#[]⟩] 25)).alloc (Obj.cells #[.bool b0, .string s0, .bool b1, .string s1, .bool b2, .string s2, .bool b3, .string s3, .bool b4, .string s4, .bool b5, .string s5, .bool b6, .string s6, .bool b7, .string s7] 27)) = V0 at h HO ⊢
 clear hW
 refine HO.out.mono ?_
 rintro _ U1 ⟨_, gr, cap, cur, a, b, c, d, rfl, hgr, ⟨c0, t0, c1, t1, c2, t2, c3, t3, rfl, P0, P1⟩, kr, hr, xa, xb, xc, xd, hb2⟩
 have hlt := h.lts
 have hle := h.bel.size
 replace h := (((((h.call hb2).more kr (Nat.le_trans hle hgr) (fun x hx => by have := hlt x hx; omega)).add (Stb.rat _ _ _) xd).add (Stb.rat _ _ _) xc).add (Stb.rat _ _ _) xb).add (Stb.rat _ _ _) xa
 clear hlt hle hb2 kr xa xb xc xd hgr HO
 go_wp2_with (replace h := h.new 75 #[.nilFunc, .int .i64 0, .int .i64 0, .int .i64 0, .int .i64 0, .int .i64 0, .bool false, .string ⟨#[]⟩, .bool false, .string ⟨#[]⟩, .bool false, .string ⟨#[]⟩, .bool false, .string ⟨#[]⟩]; refine wpList_store_all (by rfl) 75 (.tmp 8) (.tmp 17) (by rfl) #[.func (.func 103) #[] #[], .int .i64 0, .int .i64 0, .int .i64 1, .int .i64 0, .int .i64 2, .bool c0, .string t0, .bool c1, .string t1, .bool c2, .string t2, .bool c3, .string t3] (by rfl) (by rfl) (h.get 0 rfl) (by simp) (by kernel_rfl) (by simp [Value.oneCell', ptr]) ?_; intro V1 k9 hg9; replace h := h.put 0 rfl ⟨by decide, by simp⟩ k9 hg9; simp only [List.set_cons_succ, List.set_cons_zero] at h; clear k9 hg9)
 generalize hgp : U1.heap.size = gp at *
 clear hgp
 refine wp_region_noPanic ?_
 refine wp_region_HK (fun w' => St w w' _ _) 11 (by kernel_rfl) h.drew (fun hHeld => ?_)
 replace h := h.drew
 clear hHeld
 refine wpHK_take (i := 0) (oi := Oper.mk (some 24) _ _ _ _ _) (v := .agg #[.func (.func 103) #[] #[], .int .i64 0, .int .i64 0, .int .i64 1, .int .i64 0, .int .i64 2, .bool c0, .string t0, .bool c1, .string t1, .bool c2, .string t2, .bool c3, .string t3]) rfl (by kernel_rfl) (by kernel_rfl) (by kernel_rfl) (by kernel_rfl) (fun _ _ _ h => h) (Or.inl ⟨by rfl, ?_⟩) h ?_
 ·intro w' hS
  exact run_load_all 75 (.tmp 8) rfl gp rfl _ (hS.get 0 rfl) Tryz.underlying75 rfl (by kernel_rfl)
 try simp only [Act.put, List.setIfInBounds_toArray, List.set_cons_zero, List.set_cons_succ]
 refine wpHK_pure (i := 1) (oi := Oper.mk (some 25) _ _ _ _ _) (v := .slice (some ⟨gr, 0, none⟩) 2 cap) rfl (by kernel_rfl) (by kernel_rfl) (by kernel_rfl) (fun _ _ _ h => h) (Or.inl ⟨by rfl, ?_⟩) ?_
 ·intro w' hS
  go_simp
 try simp only [Act.put, List.setIfInBounds_toArray, List.set_cons_zero, List.set_cons_succ]
 refine wpHK_pure (i := 2) (oi := Oper.mk (some 26) _ _ _ _ _) (v := .pointer (some ⟨gr, 0, none⟩)) rfl (by kernel_rfl) (by kernel_rfl) (by kernel_rfl) (fun _ _ _ h => h) (Or.inl ⟨by rfl, ?_⟩) ?_
 ·intro w' hS
  go_simp
 try simp only [Act.put, List.setIfInBounds_toArray, List.set_cons_zero, List.set_cons_succ]
 refine wpHK_take (i := 3) (oi := Oper.mk (some 27) _ _ _ _ _) (v := .agg #[ptr a, ptr b]) rfl (by kernel_rfl) (by kernel_rfl) (by kernel_rfl) (by kernel_rfl) (fun _ _ _ h => h) (Or.inl ⟨by rfl, ?_⟩) h ?_
 ·intro w' hS
  have c0_ : w'.cell? ⟨gr, 0, none⟩ = some (ptr a) := ((hS.get 1 rfl).cell 0).trans (hr.nth (j := 0) rfl)
  have c1_ : w'.cell? ⟨gr, 1, none⟩ = some (ptr b) := ((hS.get 1 rfl).cell 1).trans (hr.nth (j := 1) rfl)
  go_simp
 try simp only [Act.put, List.setIfInBounds_toArray, List.set_cons_zero, List.set_cons_succ]
 refine wpHK_pure (i := 4) (oi := Oper.mk (some 28) _ _ _ _ _) (v := .slice (some ⟨gr, 0, none⟩) 2 cap) rfl (by kernel_rfl) (by kernel_rfl) (by kernel_rfl) (fun _ _ _ h => h) (Or.inl ⟨by rfl, ?_⟩) ?_
 ·intro w' hS
  go_simp
 try simp only [Act.put, List.setIfInBounds_toArray, List.set_cons_zero, List.set_cons_succ]
 refine wpHK_pure (i := 5) (oi := Oper.mk (some 29) _ _ _ _ _) (v := .pointer (some ⟨gr, 2, none⟩)) rfl (by kernel_rfl) (by kernel_rfl) (by kernel_rfl) (fun _ _ _ h => h) (Or.inl ⟨by rfl, ?_⟩) ?_
 ·intro w' hS
  go_simp
 try simp only [Act.put, List.setIfInBounds_toArray, List.set_cons_zero, List.set_cons_succ]
 refine wpHK_take (i := 6) (oi := Oper.mk (some 30) _ _ _ _ _) (v := .agg #[ptr c, ptr d]) rfl (by kernel_rfl) (by kernel_rfl) (by kernel_rfl) (by kernel_rfl) (fun _ _ _ h => h) (Or.inl ⟨by rfl, ?_⟩) h ?_
 ·intro w' hS
  have c0_ : w'.cell? ⟨gr, 2, none⟩ = some (ptr c) := ((hS.get 1 rfl).cell 2).trans (hr.nth (j := 2) rfl)
  have c1_ : w'.cell? ⟨gr, 3, none⟩ = some (ptr d) := ((hS.get 1 rfl).cell 3).trans (hr.nth (j := 3) rfl)
  go_simp
 try simp only [Act.put, List.setIfInBounds_toArray, List.set_cons_zero, List.set_cons_succ]
 refine wpHK_one (j := 7) (o := Oper.mk (some 31) _ _ _ _ _) rfl (by kernel_rfl) (fun K hK => ?_)
 go_simp
 obtain ⟨xa, xb, xc, xd, _⟩ := h.fact
 refine (pfar_up ⟨_, _, _, _, _, _, _, _, rfl, P0, P1⟩ ⟨_, _, rfl, xa, xb⟩ ⟨_, _, rfl, xc, xd⟩ HQ.out (by omega)).mono ?_
 rintro _ U2 ⟨vf, rfl, hvf, hb2⟩
 obtain ⟨gf, rfl⟩ := hvf.ptr
 have HF := Lib.hid (exfrac_any (n := 8192) ⟨gf, rfl, israt_val hvf, hs⟩ (Nat.le_refl _))
 clear xa xb xc xd hvf
 replace h := h.call hb2
 clear hb2
 refine hK.out _ _ h (fun _ => ?_)
 clear hK K
 try simp only [Act.put, List.setIfInBounds_toArray, List.set_cons_zero, List.set_cons_succ]
 refine wpHK_one (j := 8) (o := Oper.mk (some 32) _ _ _ _ _) rfl (by kernel_rfl) (fun K hK => ?_)
 go_simp
 refine HF.out.mono ?_
 rintro _ U3 ⟨_, rfl, ⟨d0, r0, d1, r1, rfl, G0⟩, hb2⟩
 replace h := h.call hb2
 clear hb2
 refine hK.out _ _ h (fun _ => ?_)
 clear hK K
 try simp only [Act.put, List.setIfInBounds_toArray, List.set_cons_zero, List.set_cons_succ]
 refine wpHK_pure (i := 9) (oi := Oper.mk (some 33) _ _ _ _ _) (v := .agg #[.bool d0, .string r0, .bool d1, .string r1]) rfl (by kernel_rfl) (by kernel_rfl) (by kernel_rfl) (fun _ _ _ h => h) (Or.inl ⟨by rfl, ?_⟩) ?_
 ·intro w' hS
  go_simp
 try simp only [Act.put, List.setIfInBounds_toArray, List.set_cons_zero, List.set_cons_succ]
 refine wpHK_pure (i := 10) (oi := Oper.mk (some 34) _ _ _ _ _) (v := .int .i64 0) rfl (by kernel_rfl) (by kernel_rfl) (by kernel_rfl) (fun _ _ _ h => h) (Or.inl ⟨by rfl, ?_⟩) ?_
 ·intro w' hS
  go_simp
 try simp only [Act.put, List.setIfInBounds_toArray, List.set_cons_zero, List.set_cons_succ]
 refine wpHK_tail (j := 11) (o := Oper.mk none _ _ _ _ _) rfl (by kernel_rfl) (by decide) (fun K hK => ?_)
 rw [if_pos (by rfl)]
 refine wp_store_blk 25 (.tmp 6) (.tmp 33) rfl #[.bool d0, .string r0, .bool d1, .string r1] rfl rfl (h.get 3 rfl) (by simp) (by kernel_rfl) (by simp [Value.oneCell', ptr]) (fun w9 k9 hg9 => ?_)
 replace h := h.put 3 rfl ⟨by decide, by simp⟩ k9 hg9
 simp only [List.set_cons_succ, List.set_cons_zero] at h
 clear k9 hg9
 refine hK.out _ _ ?_
 clear hK K
 try simp only [Act.put, List.setIfInBounds_toArray, List.set_cons_zero, List.set_cons_succ]
 refine wpHK_assign (j := 12) (o := Oper.mk (some 7) _ _ _ _ _) rfl (by kernel_rfl) (by decide) rfl rfl ?_
 try simp only [Act.put, List.setIfInBounds_toArray, List.set_cons_zero, List.set_cons_succ]
 refine wpHK_done (by kernel_rfl) ?_ _
 refine NoPanic.normal ?_
 go_wp2_with fail
 refine bodyPost_ret (results_row_tmp rfl _ _ _ _ _ (by rfl) (h.get 3 rfl) Tryz.underlying25 rfl (by kernel_rfl)) rfl ?_
 exact ⟨_, rfl, ⟨_, _, _, _, rfl, G0⟩, h.bel⟩
set_option maxRecDepth 100000 in
set_option maxHeartbeats 8000000 in
theorem far_round {w : World} {v1 v2 : Value} {z y : Cx} {n : Nat} (h1 : IsGauss z n v1) (h2 : IsGauss y n v2) (hz : 0 < ((1 : Int) : Rat) - z.norm) (hy : 0 < ((1 : Int) : Rat) - y.norm) (hs : Sz (((1 : Int) : Rat) + ((z.sub y).norm / ((((1 : Int) : Rat) - z.norm) * (((1 : Int) : Rat) - y.norm)) * ((2 : Int) : Rat)) / ((1 : Int) : Rat)) 8192) (hn : n ≤ 10000) :
  Calls Tryz.prog 9 #[.int .i64 2, v1, v2] w (RetE w (fun v _ => IsFrac (((1 : Int) : Rat) + ((z.sub y).norm / ((((1 : Int) : Rat) - z.norm) * (((1 : Int) : Rat) - y.norm)) * ((2 : Int) : Rat)) / ((1 : Int) : Rat)) 8192 v)) := by
 obtain ⟨b0, s0, b1, s1, b2, s2, b3, s3, rfl, F0, F1⟩ := h1
 obtain ⟨b4, s4, b5, s5, b6, s6, b7, s7, rfl, F2, F3⟩ := h2
 have h := (((((St.start w).new 27 #[.bool b0, .string s0, .bool b1, .string s1, .bool b2, .string s2, .bool b3, .string s3]).new 27 #[.bool b4, .string s4, .bool b5, .string s5, .bool b6, .string s6, .bool b7, .string s7]).new 25 #[.bool false, .string ⟨#[]⟩, .bool false, .string ⟨#[]⟩]).new 27 #[.bool b0, .string s0, .bool b1, .string s1, .bool b2, .string s2, .bool b3, .string s3, .bool b4, .string s4, .bool b5, .string s5, .bool b6, .string s6, .bool b7, .string s7])
 simp only [size_alloc] at h
 have HO := Lib.hid (popen_round F0 F1 F2 F3 (h.get 0 rfl) hz hy (by omega))
 have HQ := Lib.hid (show (((1 : Int) : Rat) - z.norm) * (((1 : Int) : Rat) - y.norm) ≠ 0 from mul_ne (by grind) (by grind))
 clear F0 F1 F2 F3 hz hy
 go_enter Tryz.func9, Tryz.ntmps9
 go_wp2_with fail
 generalize hW : ((((w.alloc (Obj.cells #[.bool b0, .string s0, .bool b1, .string s1, .bool b2, .string s2, .bool b3, .string s3] 27)).alloc (Obj.cells #[.bool b4, .string s4, .bool b5, .string s5, .bool b6, .string s6, .bool b7, .string s7] 27)).alloc (Obj.cells #[.bool false, .string ⟨#[]⟩, .bool false, .string ⟨#[]⟩] 25)).alloc (Obj.cells #[.bool b0, .string s0, .bool b1, .string s1, .bool b2, .string s2, .bool b3, .string s3, .bool b4, .string s4, .bool b5, .string s5, .bool b6, .string s6, .bool b7, .string s7] 27)) = V0 at h HO ⊢
 clear hW
 refine HO.out.mono ?_
 rintro _ U1 ⟨_, gr, cap, cur, a, b, c, d, rfl, hgr, ⟨c0, t0, c1, t1, c2, t2, c3, t3, rfl, P0, P1⟩, kr, hr, xa, xb, xc, xd, hb2⟩
 have hlt := h.lts
 have hle := h.bel.size
 replace h := (((((h.call hb2).more kr (Nat.le_trans hle hgr) (fun x hx => by have := hlt x hx; omega)).add (Stb.rat _ _ _) xd).add (Stb.rat _ _ _) xc).add (Stb.rat _ _ _) xb).add (Stb.rat _ _ _) xa
 clear hlt hle hb2 kr xa xb xc xd hgr HO
 go_wp2_with (replace h := h.new 75 #[.nilFunc, .int .i64 0, .int .i64 0, .int .i64 0, .int .i64 0, .int .i64 0, .bool false, .string ⟨#[]⟩, .bool false, .string ⟨#[]⟩, .bool false, .string ⟨#[]⟩, .bool false, .string ⟨#[]⟩]; refine wpList_store_all (by rfl) 75 (.tmp 8) (.tmp 17) (by rfl) #[.func (.func 105) #[] #[], .int .i64 1, .int .i64 0, .int .i64 0, .int .i64 (-1), .int .i64 1, .bool c0, .string t0, .bool c1, .string t1, .bool c2, .string t2, .bool c3, .string t3] (by rfl) (by rfl) (h.get 0 rfl) (by simp) (by kernel_rfl) (by simp [Value.oneCell', ptr]) ?_; intro V1 k9 hg9; replace h := h.put 0 rfl ⟨by decide, by simp⟩ k9 hg9; simp only [List.set_cons_succ, List.set_cons_zero] at h; clear k9 hg9)
 generalize hgp : U1.heap.size = gp at *
 clear hgp
 refine wp_region_noPanic ?_
 refine wp_region_HK (fun w' => St w w' _ _) 11 (by kernel_rfl) h.drew (fun hHeld => ?_)
 replace h := h.drew
 clear hHeld
 refine wpHK_take (i := 0) (oi := Oper.mk (some 24) _ _ _ _ _) (v := .agg #[.func (.func 105) #[] #[], .int .i64 1, .int .i64 0, .int .i64 0, .int .i64 (-1), .int .i64 1, .bool c0, .string t0, .bool c1, .string t1, .bool c2, .string t2, .bool c3, .string t3]) rfl (by kernel_rfl) (by kernel_rfl) (by kernel_rfl) (by kernel_rfl) (fun _ _ _ h => h) (Or.inl ⟨by rfl, ?_⟩) h ?_
 ·intro w' hS
  exact run_load_all 75 (.tmp 8) rfl gp rfl _ (hS.get 0 rfl) Tryz.underlying75 rfl (by kernel_rfl)
 try simp only [Act.put, List.setIfInBounds_toArray, List.set_cons_zero, List.set_cons_succ]
 refine wpHK_pure (i := 1) (oi := Oper.mk (some 25) _ _ _ _ _) (v := .slice (some ⟨gr, 0, none⟩) 2 cap) rfl (by kernel_rfl) (by kernel_rfl) (by kernel_rfl) (fun _ _ _ h => h) (Or.inl ⟨by rfl, ?_⟩) ?_
 ·intro w' hS
  go_simp
 try simp only [Act.put, List.setIfInBounds_toArray, List.set_cons_zero, List.set_cons_succ]
 refine wpHK_pure (i := 2) (oi := Oper.mk (some 26) _ _ _ _ _) (v := .pointer (some ⟨gr, 0, none⟩)) rfl (by kernel_rfl) (by kernel_rfl) (by kernel_rfl) (fun _ _ _ h => h) (Or.inl ⟨by rfl, ?_⟩) ?_
 ·intro w' hS
  go_simp
 try simp only [Act.put, List.setIfInBounds_toArray, List.set_cons_zero, List.set_cons_succ]
 refine wpHK_take (i := 3) (oi := Oper.mk (some 27) _ _ _ _ _) (v := .agg #[ptr a, ptr b]) rfl (by kernel_rfl) (by kernel_rfl) (by kernel_rfl) (by kernel_rfl) (fun _ _ _ h => h) (Or.inl ⟨by rfl, ?_⟩) h ?_
 ·intro w' hS
  have c0_ : w'.cell? ⟨gr, 0, none⟩ = some (ptr a) := ((hS.get 1 rfl).cell 0).trans (hr.nth (j := 0) rfl)
  have c1_ : w'.cell? ⟨gr, 1, none⟩ = some (ptr b) := ((hS.get 1 rfl).cell 1).trans (hr.nth (j := 1) rfl)
  go_simp
 try simp only [Act.put, List.setIfInBounds_toArray, List.set_cons_zero, List.set_cons_succ]
 refine wpHK_pure (i := 4) (oi := Oper.mk (some 28) _ _ _ _ _) (v := .slice (some ⟨gr, 0, none⟩) 2 cap) rfl (by kernel_rfl) (by kernel_rfl) (by kernel_rfl) (fun _ _ _ h => h) (Or.inl ⟨by rfl, ?_⟩) ?_
 ·intro w' hS
  go_simp
 try simp only [Act.put, List.setIfInBounds_toArray, List.set_cons_zero, List.set_cons_succ]
 refine wpHK_pure (i := 5) (oi := Oper.mk (some 29) _ _ _ _ _) (v := .pointer (some ⟨gr, 2, none⟩)) rfl (by kernel_rfl) (by kernel_rfl) (by kernel_rfl) (fun _ _ _ h => h) (Or.inl ⟨by rfl, ?_⟩) ?_
 ·intro w' hS
  go_simp
 try simp only [Act.put, List.setIfInBounds_toArray, List.set_cons_zero, List.set_cons_succ]
 refine wpHK_take (i := 6) (oi := Oper.mk (some 30) _ _ _ _ _) (v := .agg #[ptr c, ptr d]) rfl (by kernel_rfl) (by kernel_rfl) (by kernel_rfl) (by kernel_rfl) (fun _ _ _ h => h) (Or.inl ⟨by rfl, ?_⟩) h ?_
 ·intro w' hS
  have c0_ : w'.cell? ⟨gr, 2, none⟩ = some (ptr c) := ((hS.get 1 rfl).cell 2).trans (hr.nth (j := 2) rfl)
  have c1_ : w'.cell? ⟨gr, 3, none⟩ = some (ptr d) := ((hS.get 1 rfl).cell 3).trans (hr.nth (j := 3) rfl)
  go_simp
 try simp only [Act.put, List.setIfInBounds_toArray, List.set_cons_zero, List.set_cons_succ]
 refine wpHK_one (j := 7) (o := Oper.mk (some 31) _ _ _ _ _) rfl (by kernel_rfl) (fun K hK => ?_)
 go_simp
 obtain ⟨xa, xb, xc, xd, _⟩ := h.fact
 refine (pfar_round ⟨_, _, _, _, _, _, _, _, rfl, P0, P1⟩ ⟨_, _, rfl, xa, xb⟩ ⟨_, _, rfl, xc, xd⟩ HQ.out (by omega)).mono ?_
 rintro _ U2 ⟨vf, rfl, hvf, hb2⟩
 obtain ⟨gf, rfl⟩ := hvf.ptr
 have HF := Lib.hid (exfrac_any (n := 8192) ⟨gf, rfl, israt_val hvf, hs⟩ (Nat.le_refl _))
 clear xa xb xc xd hvf
 replace h := h.call hb2
 clear hb2
 refine hK.out _ _ h (fun _ => ?_)
 clear hK K
 try simp only [Act.put, List.setIfInBounds_toArray, List.set_cons_zero, List.set_cons_succ]
 refine wpHK_one (j := 8) (o := Oper.mk (some 32) _ _ _ _ _) rfl (by kernel_rfl) (fun K hK => ?_)
 go_simp
 refine HF.out.mono ?_
 rintro _ U3 ⟨_, rfl, ⟨d0, r0, d1, r1, rfl, G0⟩, hb2⟩
 replace h := h.call hb2
 clear hb2
 refine hK.out _ _ h (fun _ => ?_)
 clear hK K
 try simp only [Act.put, List.setIfInBounds_toArray, List.set_cons_zero, List.set_cons_succ]
 refine wpHK_pure (i := 9) (oi := Oper.mk (some 33) _ _ _ _ _) (v := .agg #[.bool d0, .string r0, .bool d1, .string r1]) rfl (by kernel_rfl) (by kernel_rfl) (by kernel_rfl) (fun _ _ _ h => h) (Or.inl ⟨by rfl, ?_⟩) ?_
 ·intro w' hS
  go_simp
 try simp only [Act.put, List.setIfInBounds_toArray, List.set_cons_zero, List.set_cons_succ]
 refine wpHK_pure (i := 10) (oi := Oper.mk (some 34) _ _ _ _ _) (v := .int .i64 0) rfl (by kernel_rfl) (by kernel_rfl) (by kernel_rfl) (fun _ _ _ h => h) (Or.inl ⟨by rfl, ?_⟩) ?_
 ·intro w' hS
  go_simp
 try simp only [Act.put, List.setIfInBounds_toArray, List.set_cons_zero, List.set_cons_succ]
 refine wpHK_tail (j := 11) (o := Oper.mk none _ _ _ _ _) rfl (by kernel_rfl) (by decide) (fun K hK => ?_)
 rw [if_pos (by rfl)]
 refine wp_store_blk 25 (.tmp 6) (.tmp 33) rfl #[.bool d0, .string r0, .bool d1, .string r1] rfl rfl (h.get 3 rfl) (by simp) (by kernel_rfl) (by simp [Value.oneCell', ptr]) (fun w9 k9 hg9 => ?_)
 replace h := h.put 3 rfl ⟨by decide, by simp⟩ k9 hg9
 simp only [List.set_cons_succ, List.set_cons_zero] at h
 clear k9 hg9
 refine hK.out _ _ ?_
 clear hK K
 try simp only [Act.put, List.setIfInBounds_toArray, List.set_cons_zero, List.set_cons_succ]
 refine wpHK_assign (j := 12) (o := Oper.mk (some 7) _ _ _ _ _) rfl (by kernel_rfl) (by decide) rfl rfl ?_
 try simp only [Act.put, List.setIfInBounds_toArray, List.set_cons_zero, List.set_cons_succ]
 refine wpHK_done (by kernel_rfl) ?_ _
 refine NoPanic.normal ?_
 go_wp2_with fail
 refine bodyPost_ret (results_row_tmp rfl _ _ _ _ _ (by rfl) (h.get 3 rfl) Tryz.underlying25 rfl (by kernel_rfl)) rfl ?_
 exact ⟨_, rfl, ⟨_, _, _, _, rfl, G0⟩, h.bel⟩
set_option maxRecDepth 100000 in
set_option maxHeartbeats 8000000 in
theorem make_any {w : World} {v1 v2 v3 v4 : Value} {z0 z1 z2 z3 : Cx} {tn : Bool} {n : Nat} (h1 : IsGauss z0 n v1) (h2 : IsGauss z1 n v2) (h3 : IsGauss z2 n v3) (h4 : IsGauss z3 n v4) (hd : ¬ (Mx.det ⟨z0, z1, z2, z3, tn⟩).Zero) (hc : ¬ z2.Zero) (hn : n ≤ 1000) :
  Calls Tryz.prog 23 #[v1, v2, v3, v4, .bool tn] w (RetE w (fun v _ => IsMob (Mx.norm ⟨z0, z1, z2, z3, tn⟩) (8 * n + 2) v)) := by
 obtain ⟨b0, s0, b1, s1, b2, s2, b3, s3, rfl, F0, F1⟩ := h1
 obtain ⟨b4, s4, b5, s5, b6, s6, b7, s7, rfl, F2, F3⟩ := h2
 obtain ⟨b8, s8, b9, s9, b10, s10, b11, s11, rfl, F4, F5⟩ := h3
 obtain ⟨b12, s12, b13, s13, b14, s14, b15, s15, rfl, F6, F7⟩ := h4
 have HO : Hid ((∀ W, Calls Tryz.prog 49 #[.agg #[.bool b0, .string s0, .bool b1, .string s1, .bool b2, .string s2, .bool b3, .string s3]] W (RetB W (IsNum z0 n) true)) ∧ (∀ W, Calls Tryz.prog 49 #[.agg #[.bool b4, .string s4, .bool b5, .string s5, .bool b6, .string s6, .bool b7, .string s7]] W (RetB W (IsNum z1 n) true)) ∧ (∀ W, Calls Tryz.prog 49 #[.agg #[.bool b8, .string s8, .bool b9, .string s9, .bool b10, .string s10, .bool b11, .string s11]] W (RetB W (IsNum z2 n) true)) ∧ (∀ W, Calls Tryz.prog 49 #[.agg #[.bool b12, .string s12, .bool b13, .string s13, .bool b14, .string s14, .bool b15, .string s15]] W (RetB W (IsNum z3 n) true))) := Lib.hid ⟨fun W => exof_any ⟨_, _, _, _, _, _, _, _, rfl, F0, F1⟩ (by omega), fun W => exof_any ⟨_, _, _, _, _, _, _, _, rfl, F2, F3⟩ (by omega), fun W => exof_any ⟨_, _, _, _, _, _, _, _, rfl, F4, F5⟩ (by omega), fun W => exof_any ⟨_, _, _, _, _, _, _, _, rfl, F6, F7⟩ (by omega)⟩
 have HH := Lib.hid (And.intro hd hc)
 clear hd hc F0 F1 F2 F3 F4 F5 F6 F7
 have h := (((((((St.start w).new 27 #[.bool b0, .string s0, .bool b1, .string s1, .bool b2, .string s2, .bool b3, .string s3]).new 27 #[.bool b4, .string s4, .bool b5, .string s5, .bool b6, .string s6, .bool b7, .string s7]).new 27 #[.bool b8, .string s8, .bool b9, .string s9, .bool b10, .string s10, .bool b11, .string s11]).new 27 #[.bool b12, .string s12, .bool b13, .string s13, .bool b14, .string s14, .bool b15, .string s15]).new 29 #[.bool false, .string ⟨#[]⟩, .bool false, .string ⟨#[]⟩, .bool false, .string ⟨#[]⟩, .bool false, .string ⟨#[]⟩, .bool false, .string ⟨#[]⟩, .bool false, .string ⟨#[]⟩, .bool false, .string ⟨#[]⟩, .bool false, .string ⟨#[]⟩, .bool false, .string ⟨#[]⟩, .bool false, .string ⟨#[]⟩, .bool false, .string ⟨#[]⟩, .bool false, .string ⟨#[]⟩, .bool false, .string ⟨#[]⟩, .bool false, .string ⟨#[]⟩, .bool false, .string ⟨#[]⟩, .bool false, .string ⟨#[]⟩, .bool false]).new 27 #[.bool b0, .string s0, .bool b1, .string s1, .bool b2, .string s2, .bool b3, .string s3, .bool b4, .string s4, .bool b5, .string s5, .bool b6, .string s6, .bool b7, .string s7, .bool b8, .string s8, .bool b9, .string s9, .bool b10, .string s10, .bool b11, .string s11, .bool b12, .string s12, .bool b13, .string s13, .bool b14, .string s14, .bool b15, .string s15])
 simp only [size_alloc] at h
 go_enter Tryz.func23, Tryz.ntmps23
 go_wp2_with fail
 generalize hW : ((((((w.alloc (Obj.cells #[.bool b0, .string s0, .bool b1, .string s1, .bool b2, .string s2, .bool b3, .string s3] 27)).alloc (Obj.cells #[.bool b4, .string s4, .bool b5, .string s5, .bool b6, .string s6, .bool b7, .string s7] 27)).alloc (Obj.cells #[.bool b8, .string s8, .bool b9, .string s9, .bool b10, .string s10, .bool b11, .string s11] 27)).alloc (Obj.cells #[.bool b12, .string s12, .bool b13, .string s13, .bool b14, .string s14, .bool b15, .string s15] 27)).alloc (Obj.cells #[.bool false, .string ⟨#[]⟩, .bool false, .string ⟨#[]⟩, .bool false, .string ⟨#[]⟩, .bool false, .string ⟨#[]⟩, .bool false, .string ⟨#[]⟩, .bool false, .string ⟨#[]⟩, .bool false, .string ⟨#[]⟩, .bool false, .string ⟨#[]⟩, .bool false, .string ⟨#[]⟩, .bool false, .string ⟨#[]⟩, .bool false, .string ⟨#[]⟩, .bool false, .string ⟨#[]⟩, .bool false, .string ⟨#[]⟩, .bool false, .string ⟨#[]⟩, .bool false, .string ⟨#[]⟩, .bool false, .string ⟨#[]⟩, .bool false] 29)).alloc (Obj.cells #[.bool b0, .string s0, .bool b1, .string s1, .bool b2, .string s2, .bool b3, .string s3, .bool b4, .string s4, .bool b5, .string s5, .bool b6, .string s6, .bool b7, .string s7, .bool b8, .string s8, .bool b9, .string s9, .bool b10, .string s10, .bool b11, .string s11, .bool b12, .string s12, .bool b13, .string s13, .bool b14, .string s14, .bool b15, .string s15] 27)) = V0 at h ⊢
 clear hW
 generalize hga : w.heap.size + 1 + 1 + 1 + 1 + 1 = ga at *
 clear hga
 refine wp_loop_rounds 5 ?_
 rw [rounds_succ]
 replace m0 := (h.get 0 rfl).cell 0
 replace m1 := (h.get 0 rfl).cell 1
 replace m2 := (h.get 0 rfl).cell 2
 replace m3 := (h.get 0 rfl).cell 3
 replace m4 := (h.get 0 rfl).cell 4
 replace m5 := (h.get 0 rfl).cell 5
 replace m6 := (h.get 0 rfl).cell 6
 replace m7 := (h.get 0 rfl).cell 7
 go_wp2_with (replace h := h.new 27 #[.bool false, .string ⟨#[]⟩, .bool false, .string ⟨#[]⟩, .bool false, .string ⟨#[]⟩, .bool false, .string ⟨#[]⟩]; refine wpList_store_all (by rfl) 27 (.tmp 14) (.tmp 27) (by rfl) #[.bool b0, .string s0, .bool b1, .string s1, .bool b2, .string s2, .bool b3, .string s3] (by rfl) (by rfl) (h.get 0 rfl) (by simp) (by kernel_rfl) (by simp [Value.oneCell', ptr]) ?_; intro V1 k9 hg9; replace h := h.put 0 rfl ⟨by decide, by simp⟩ k9 hg9; simp only [List.set_cons_succ, List.set_cons_zero] at h; clear k9 hg9; replace d0 := (h.get 0 rfl).cell 0; replace d1 := (h.get 0 rfl).cell 1; replace d2 := (h.get 0 rfl).cell 2; replace d3 := (h.get 0 rfl).cell 3; replace d4 := (h.get 0 rfl).cell 4; replace d5 := (h.get 0 rfl).cell 5; replace d6 := (h.get 0 rfl).cell 6; replace d7 := (h.get 0 rfl).cell 7)
 refine (HO.out.1 _).mono ?_
 rintro _ Y0 ⟨_, rfl, ⟨_, _, rfl, xa, xb⟩, hb2⟩
 obtain ⟨a, rfl⟩ := xa.ptr
 obtain ⟨b, rfl⟩ := xb.ptr
 replace h := ((h.call hb2).add (Stb.rat _ _ _) xb).add (Stb.rat _ _ _) xa
 clear hb2 xa xb d0 d1 d2 d3 d4 d5 d6 d7 m0 m1 m2 m3 m4 m5 m6 m7
 go_wp2_with (first | (replace h := h.new 83 #[.pointer none, .pointer none]; refine wpList_store_all (by rfl) 83 (.tmp 15) (.tmp 31) (by rfl) #[ptr a, ptr b] (by rfl) (by rfl) (h.get 0 rfl) (by simp) (by kernel_rfl) (by simp [Value.oneCell', ptr]) ?_; intro V2 k9 hg9; replace h := h.put 0 rfl ⟨by decide, by simp⟩ k9 hg9; simp only [List.set_cons_succ, List.set_cons_zero] at h; clear k9 hg9; replace q0 := (h.get 0 rfl).cell 0; replace q1 := (h.get 0 rfl).cell 1) | (replace h := h.new 83 #[ptr a, ptr b]; refine wpSt_append0 (by rfl) (.tmp 36) (.tmp 38) 76 (by rfl) 83 _ 2 16 Tryz.underlying76 infoN rfl (by decide) h (by rfl) 0 (by rfl) rfl rfl (by simp [Value.oneCell', ptr]) (by decide) (by decide) (by decide) ?_; intro g1 cap1 cur1 R1 hr1 h9; replace h := h9; clear h9))
 clear q0 q1
 rw [rounds_succ]
 replace m8 := (h.get 4 rfl).cell 8
 replace m9 := (h.get 4 rfl).cell 9
 replace m10 := (h.get 4 rfl).cell 10
 replace m11 := (h.get 4 rfl).cell 11
 replace m12 := (h.get 4 rfl).cell 12
 replace m13 := (h.get 4 rfl).cell 13
 replace m14 := (h.get 4 rfl).cell 14
 replace m15 := (h.get 4 rfl).cell 15
 go_wp2_with (replace h := h.new 27 #[.bool false, .string ⟨#[]⟩, .bool false, .string ⟨#[]⟩, .bool false, .string ⟨#[]⟩, .bool false, .string ⟨#[]⟩]; refine wpList_store_all (by rfl) 27 (.tmp 14) (.tmp 27) (by rfl) #[.bool b4, .string s4, .bool b5, .string s5, .bool b6, .string s6, .bool b7, .string s7] (by rfl) (by rfl) (h.get 0 rfl) (by simp) (by kernel_rfl) (by simp [Value.oneCell', ptr]) ?_; intro V3 k9 hg9; replace h := h.put 0 rfl ⟨by decide, by simp⟩ k9 hg9; simp only [List.set_cons_succ, List.set_cons_zero] at h; clear k9 hg9; replace d0 := (h.get 0 rfl).cell 0; replace d1 := (h.get 0 rfl).cell 1; replace d2 := (h.get 0 rfl).cell 2; replace d3 := (h.get 0 rfl).cell 3; replace d4 := (h.get 0 rfl).cell 4; replace d5 := (h.get 0 rfl).cell 5; replace d6 := (h.get 0 rfl).cell 6; replace d7 := (h.get 0 rfl).cell 7)
 refine (HO.out.2.1 _).mono ?_
 rintro _ Y1 ⟨_, rfl, ⟨_, _, rfl, xc, xd⟩, hb2⟩
 obtain ⟨c, rfl⟩ := xc.ptr
 obtain ⟨d, rfl⟩ := xd.ptr
 replace h := ((h.call hb2).add (Stb.rat _ _ _) xd).add (Stb.rat _ _ _) xc
 clear hb2 xc xd d0 d1 d2 d3 d4 d5 d6 d7 m8 m9 m10 m11 m12 m13 m14 m15
 go_wp2_with (first | (replace h := h.new 83 #[.pointer none, .pointer none]; refine wpList_store_all (by rfl) 83 (.tmp 15) (.tmp 31) (by rfl) #[ptr c, ptr d] (by rfl) (by rfl) (h.get 0 rfl) (by simp) (by kernel_rfl) (by simp [Value.oneCell', ptr]) ?_; intro V4 k9 hg9; replace h := h.put 0 rfl ⟨by decide, by simp⟩ k9 hg9; simp only [List.set_cons_succ, List.set_cons_zero] at h; clear k9 hg9; replace q0 := (h.get 0 rfl).cell 0; replace q1 := (h.get 0 rfl).cell 1) | (replace h := h.new 83 #[ptr c, ptr d]; refine wpSt_append (by rfl) (.tmp 36) (.tmp 38) 76 (by rfl) 83 _ 2 16 Tryz.underlying76 infoN rfl (by decide) h 3 rfl hr1 (by rfl) ⟨by decide, fun A n c e => by rw [hr1.nth (j := 1) (v := ptr b) rfl] at e; simp [ptr] at e⟩ 0 (by rfl) rfl rfl (by simp [Value.oneCell', ptr]) (by decide) (by decide) (by decide) ?_; intro g2 cap2 cur2 R2 hr2 h9; replace h := h9; clear h9 hr1; simp only [List.eraseIdx_cons_succ, List.eraseIdx_cons_zero] at h))
 clear q0 q1
 rw [rounds_succ]
 replace m16 := (h.get 7 rfl).cell 16
 replace m17 := (h.get 7 rfl).cell 17
 replace m18 := (h.get 7 rfl).cell 18
 replace m19 := (h.get 7 rfl).cell 19
 replace m20 := (h.get 7 rfl).cell 20
 replace m21 := (h.get 7 rfl).cell 21
 replace m22 := (h.get 7 rfl).cell 22
 replace m23 := (h.get 7 rfl).cell 23
 go_wp2_with (replace h := h.new 27 #[.bool false, .string ⟨#[]⟩, .bool false, .string ⟨#[]⟩, .bool false, .string ⟨#[]⟩, .bool false, .string ⟨#[]⟩]; refine wpList_store_all (by rfl) 27 (.tmp 14) (.tmp 27) (by rfl) #[.bool b8, .string s8, .bool b9, .string s9, .bool b10, .string s10, .bool b11, .string s11] (by rfl) (by rfl) (h.get 0 rfl) (by simp) (by kernel_rfl) (by simp [Value.oneCell', ptr]) ?_; intro V5 k9 hg9; replace h := h.put 0 rfl ⟨by decide, by simp⟩ k9 hg9; simp only [List.set_cons_succ, List.set_cons_zero] at h; clear k9 hg9; replace d0 := (h.get 0 rfl).cell 0; replace d1 := (h.get 0 rfl).cell 1; replace d2 := (h.get 0 rfl).cell 2; replace d3 := (h.get 0 rfl).cell 3; replace d4 := (h.get 0 rfl).cell 4; replace d5 := (h.get 0 rfl).cell 5; replace d6 := (h.get 0 rfl).cell 6; replace d7 := (h.get 0 rfl).cell 7)
 refine (HO.out.2.2.1 _).mono ?_
 rintro _ Y2 ⟨_, rfl, ⟨_, _, rfl, xe, xf⟩, hb2⟩
 obtain ⟨e, rfl⟩ := xe.ptr
 obtain ⟨f, rfl⟩ := xf.ptr
 replace h := ((h.call hb2).add (Stb.rat _ _ _) xf).add (Stb.rat _ _ _) xe
 clear hb2 xe xf d0 d1 d2 d3 d4 d5 d6 d7 m16 m17 m18 m19 m20 m21 m22 m23
 go_wp2_with (first | (replace h := h.new 83 #[.pointer none, .pointer none]; refine wpList_store_all (by rfl) 83 (.tmp 15) (.tmp 31) (by rfl) #[ptr e, ptr f] (by rfl) (by rfl) (h.get 0 rfl) (by simp) (by kernel_rfl) (by simp [Value.oneCell', ptr]) ?_; intro V6 k9 hg9; replace h := h.put 0 rfl ⟨by decide, by simp⟩ k9 hg9; simp only [List.set_cons_succ, List.set_cons_zero] at h; clear k9 hg9; replace q0 := (h.get 0 rfl).cell 0; replace q1 := (h.get 0 rfl).cell 1) | (replace h := h.new 83 #[ptr e, ptr f]; refine wpSt_append (by rfl) (.tmp 36) (.tmp 38) 76 (by rfl) 83 _ 2 16 Tryz.underlying76 infoN rfl (by decide) h 3 rfl hr2 (by rfl) ⟨by decide, fun A n c e => by rw [hr2.nth (j := 1) (v := ptr b) rfl] at e; simp [ptr] at e⟩ 0 (by rfl) rfl rfl (by simp [Value.oneCell', ptr]) (by decide) (by decide) (by decide) ?_; intro g3 cap3 cur3 R3 hr3 h9; replace h := h9; clear h9 hr2; simp only [List.eraseIdx_cons_succ, List.eraseIdx_cons_zero] at h))
 clear q0 q1
 rw [rounds_succ]
 replace m24 := (h.get 10 rfl).cell 24
 replace m25 := (h.get 10 rfl).cell 25
 replace m26 := (h.get 10 rfl).cell 26
 replace m27 := (h.get 10 rfl).cell 27
 replace m28 := (h.get 10 rfl).cell 28
 replace m29 := (h.get 10 rfl).cell 29
 replace m30 := (h.get 10 rfl).cell 30
 replace m31 := (h.get 10 rfl).cell 31
 go_wp2_with (replace h := h.new 27 #[.bool false, .string ⟨#[]⟩, .bool false, .string ⟨#[]⟩, .bool false, .string ⟨#[]⟩, .bool false, .string ⟨#[]⟩]; refine wpList_store_all (by rfl) 27 (.tmp 14) (.tmp 27) (by rfl) #[.bool b12, .string s12, .bool b13, .string s13, .bool b14, .string s14, .bool b15, .string s15] (by rfl) (by rfl) (h.get 0 rfl) (by simp) (by kernel_rfl) (by simp [Value.oneCell', ptr]) ?_; intro V7 k9 hg9; replace h := h.put 0 rfl ⟨by decide, by simp⟩ k9 hg9; simp only [List.set_cons_succ, List.set_cons_zero] at h; clear k9 hg9; replace d0 := (h.get 0 rfl).cell 0; replace d1 := (h.get 0 rfl).cell 1; replace d2 := (h.get 0 rfl).cell 2; replace d3 := (h.get 0 rfl).cell 3; replace d4 := (h.get 0 rfl).cell 4; replace d5 := (h.get 0 rfl).cell 5; replace d6 := (h.get 0 rfl).cell 6; replace d7 := (h.get 0 rfl).cell 7)
 refine (HO.out.2.2.2 _).mono ?_
 rintro _ Y3 ⟨_, rfl, ⟨_, _, rfl, xg, xj⟩, hb2⟩
 obtain ⟨g, rfl⟩ := xg.ptr
 obtain ⟨j, rfl⟩ := xj.ptr
 replace h := ((h.call hb2).add (Stb.rat _ _ _) xj).add (Stb.rat _ _ _) xg
 clear hb2 xg xj d0 d1 d2 d3 d4 d5 d6 d7 m24 m25 m26 m27 m28 m29 m30 m31
 go_wp2_with (first | (replace h := h.new 83 #[.pointer none, .pointer none]; refine wpList_store_all (by rfl) 83 (.tmp 15) (.tmp 31) (by rfl) #[ptr g, ptr j] (by rfl) (by rfl) (h.get 0 rfl) (by simp) (by kernel_rfl) (by simp [Value.oneCell', ptr]) ?_; intro V8 k9 hg9; replace h := h.put 0 rfl ⟨by decide, by simp⟩ k9 hg9; simp only [List.set_cons_succ, List.set_cons_zero] at h; clear k9 hg9; replace q0 := (h.get 0 rfl).cell 0; replace q1 := (h.get 0 rfl).cell 1) | (replace h := h.new 83 #[ptr g, ptr j]; refine wpSt_append (by rfl) (.tmp 36) (.tmp 38) 76 (by rfl) 83 _ 2 16 Tryz.underlying76 infoN rfl (by decide) h 3 rfl hr3 (by rfl) ⟨by decide, fun A n c e => by rw [hr3.nth (j := 1) (v := ptr b) rfl] at e; simp [ptr] at e⟩ 0 (by rfl) rfl rfl (by simp [Value.oneCell', ptr]) (by decide) (by decide) (by decide) ?_; intro g4 cap4 cur4 R4 hr4 h9; replace h := h9; clear h9 hr3; simp only [List.eraseIdx_cons_succ, List.eraseIdx_cons_zero] at h))
 clear q0 q1
 rw [rounds_succ]
 go_wp2_with fail
 refine wp_region_noPanic ?_
 refine wp_region_HK (fun w' => St w w' _ _) 15 (by kernel_rfl) h.drew (fun hHeld => ?_)
 replace h := h.drew
 clear hHeld
 refine wpHK_pure (i := 0) (oi := Oper.mk (some 41) _ _ _ _ _) (v := .slice (some ⟨g4, 0, none⟩) 4 cap4) rfl (by kernel_rfl) (by kernel_rfl) (by kernel_rfl) (fun _ _ _ h => h) (Or.inl ⟨by rfl, ?_⟩) ?_
 ·intro w' hS
  go_simp
 try simp only [Act.put, List.setIfInBounds_toArray, List.set_cons_zero, List.set_cons_succ]
 refine wpHK_pure (i := 1) (oi := Oper.mk (some 42) _ _ _ _ _) (v := .pointer (some ⟨g4, 0, none⟩)) rfl (by kernel_rfl) (by kernel_rfl) (by kernel_rfl) (fun _ _ _ h => h) (Or.inl ⟨by rfl, ?_⟩) ?_
 ·intro w' hS
  go_simp
 try simp only [Act.put, List.setIfInBounds_toArray, List.set_cons_zero, List.set_cons_succ]
 refine wpHK_take (i := 2) (oi := Oper.mk (some 43) _ _ _ _ _) (v := .agg #[ptr a, ptr b]) rfl (by kernel_rfl) (by kernel_rfl) (by kernel_rfl) (by kernel_rfl) (fun _ _ _ h => h) (Or.inl ⟨by rfl, ?_⟩) h ?_
 ·intro w' hS
  have c0_ : w'.cell? ⟨g4, 0, none⟩ = some (ptr a) := ((hS.get 0 rfl).cell 0).trans (hr4.nth (j := 0) rfl)
  have c1_ : w'.cell? ⟨g4, 1, none⟩ = some (ptr b) := ((hS.get 0 rfl).cell 1).trans (hr4.nth (j := 1) rfl)
  go_simp
 try simp only [Act.put, List.setIfInBounds_toArray, List.set_cons_zero, List.set_cons_succ]
 refine wpHK_pure (i := 3) (oi := Oper.mk (some 44) _ _ _ _ _) (v := .slice (some ⟨g4, 0, none⟩) 4 cap4) rfl (by kernel_rfl) (by kernel_rfl) (by kernel_rfl) (fun _ _ _ h => h) (Or.inl ⟨by rfl, ?_⟩) ?_
 ·intro w' hS
  go_simp
 try simp only [Act.put, List.setIfInBounds_toArray, List.set_cons_zero, List.set_cons_succ]
 refine wpHK_pure (i := 4) (oi := Oper.mk (some 45) _ _ _ _ _) (v := .pointer (some ⟨g4, 2, none⟩)) rfl (by kernel_rfl) (by kernel_rfl) (by kernel_rfl) (fun _ _ _ h => h) (Or.inl ⟨by rfl, ?_⟩) ?_
 ·intro w' hS
  go_simp
 try simp only [Act.put, List.setIfInBounds_toArray, List.set_cons_zero, List.set_cons_succ]
 refine wpHK_take (i := 5) (oi := Oper.mk (some 46) _ _ _ _ _) (v := .agg #[ptr c, ptr d]) rfl (by kernel_rfl) (by kernel_rfl) (by kernel_rfl) (by kernel_rfl) (fun _ _ _ h => h) (Or.inl ⟨by rfl, ?_⟩) h ?_
 ·intro w' hS
  have c0_ : w'.cell? ⟨g4, 2, none⟩ = some (ptr c) := ((hS.get 0 rfl).cell 2).trans (hr4.nth (j := 2) rfl)
  have c1_ : w'.cell? ⟨g4, 3, none⟩ = some (ptr d) := ((hS.get 0 rfl).cell 3).trans (hr4.nth (j := 3) rfl)
  go_simp
 try simp only [Act.put, List.setIfInBounds_toArray, List.set_cons_zero, List.set_cons_succ]
 refine wpHK_pure (i := 6) (oi := Oper.mk (some 47) _ _ _ _ _) (v := .slice (some ⟨g4, 0, none⟩) 4 cap4) rfl (by kernel_rfl) (by kernel_rfl) (by kernel_rfl) (fun _ _ _ h => h) (Or.inl ⟨by rfl, ?_⟩) ?_
 ·intro w' hS
  go_simp
 try simp only [Act.put, List.setIfInBounds_toArray, List.set_cons_zero, List.set_cons_succ]
 refine wpHK_pure (i := 7) (oi := Oper.mk (some 48) _ _ _ _ _) (v := .pointer (some ⟨g4, 4, none⟩)) rfl (by kernel_rfl) (by kernel_rfl) (by kernel_rfl) (fun _ _ _ h => h) (Or.inl ⟨by rfl, ?_⟩) ?_
 ·intro w' hS
  go_simp
 try simp only [Act.put, List.setIfInBounds_toArray, List.set_cons_zero, List.set_cons_succ]
 refine wpHK_take (i := 8) (oi := Oper.mk (some 49) _ _ _ _ _) (v := .agg #[ptr e, ptr f]) rfl (by kernel_rfl) (by kernel_rfl) (by kernel_rfl) (by kernel_rfl) (fun _ _ _ h => h) (Or.inl ⟨by rfl, ?_⟩) h ?_
 ·intro w' hS
  have c0_ : w'.cell? ⟨g4, 4, none⟩ = some (ptr e) := ((hS.get 0 rfl).cell 4).trans (hr4.nth (j := 4) rfl)
  have c1_ : w'.cell? ⟨g4, 5, none⟩ = some (ptr f) := ((hS.get 0 rfl).cell 5).trans (hr4.nth (j := 5) rfl)
  go_simp
 try simp only [Act.put, List.setIfInBounds_toArray, List.set_cons_zero, List.set_cons_succ]
 refine wpHK_pure (i := 9) (oi := Oper.mk (some 50) _ _ _ _ _) (v := .slice (some ⟨g4, 0, none⟩) 4 cap4) rfl (by kernel_rfl) (by kernel_rfl) (by kernel_rfl) (fun _ _ _ h => h) (Or.inl ⟨by rfl, ?_⟩) ?_
 ·intro w' hS
  go_simp
 try simp only [Act.put, List.setIfInBounds_toArray, List.set_cons_zero, List.set_cons_succ]
 refine wpHK_pure (i := 10) (oi := Oper.mk (some 51) _ _ _ _ _) (v := .pointer (some ⟨g4, 6, none⟩)) rfl (by kernel_rfl) (by kernel_rfl) (by kernel_rfl) (fun _ _ _ h => h) (Or.inl ⟨by rfl, ?_⟩) ?_
 ·intro w' hS
  go_simp
 try simp only [Act.put, List.setIfInBounds_toArray, List.set_cons_zero, List.set_cons_succ]
 refine wpHK_take (i := 11) (oi := Oper.mk (some 52) _ _ _ _ _) (v := .agg #[ptr g, ptr j]) rfl (by kernel_rfl) (by kernel_rfl) (by kernel_rfl) (by kernel_rfl) (fun _ _ _ h => h) (Or.inl ⟨by rfl, ?_⟩) h ?_
 ·intro w' hS
  have c0_ : w'.cell? ⟨g4, 6, none⟩ = some (ptr g) := ((hS.get 0 rfl).cell 6).trans (hr4.nth (j := 6) rfl)
  have c1_ : w'.cell? ⟨g4, 7, none⟩ = some (ptr j) := ((hS.get 0 rfl).cell 7).trans (hr4.nth (j := 7) rfl)
  go_simp
 try simp only [Act.put, List.setIfInBounds_toArray, List.set_cons_zero, List.set_cons_succ]
 refine wpHK_pure (i := 12) (oi := Oper.mk (some 53) _ _ _ _ _) (v := .bool tn) rfl (by kernel_rfl) (by kernel_rfl) (by kernel_rfl) (fun _ _ _ h => h) (Or.inl ⟨by rfl, ?_⟩) ?_
 ·intro w' hS
  go_simp
 try simp only [Act.put, List.setIfInBounds_toArray, List.set_cons_zero, List.set_cons_succ]
 refine wpHK_pure (i := 13) (oi := Oper.mk (some 54) _ _ _ _ _) (v := .agg #[ptr a, ptr b, ptr c, ptr d, ptr e, ptr f, ptr g, ptr j, .bool tn]) rfl (by kernel_rfl) (by kernel_rfl) (by kernel_rfl) (fun _ _ _ h => h) (Or.inl ⟨by rfl, ?_⟩) ?_
 ·intro w' hS
  go_simp
 try simp only [Act.put, List.setIfInBounds_toArray, List.set_cons_zero, List.set_cons_succ]
 have hN := h.new 93 #[.pointer none, .pointer none, .pointer none, .pointer none, .pointer none, .pointer none, .pointer none, .pointer none, .bool false]
 refine wpHK_one (j := 14) (o := Oper.mk (some 17) _ _ _ _ _) rfl (by kernel_rfl) (fun K hK => ?_)
 go_simp
 refine hK.out _ _ (h.call (new_below _ _)) (fun _ => ?_)
 clear hK K
 replace h := hN
 clear hN
 try simp only [Act.put, List.setIfInBounds_toArray, List.set_cons_zero, List.set_cons_succ]
 refine wpHK_tail (j := 15) (o := Oper.mk none _ _ _ _ _) rfl (by kernel_rfl) (by decide) (fun K hK => ?_)
 rw [if_pos (by rfl)]
 refine wp_store_blk 93 (.tmp 17) (.tmp 54) rfl #[ptr a, ptr b, ptr c, ptr d, ptr e, ptr f, ptr g, ptr j, .bool tn] rfl rfl (h.get 0 rfl) (by simp) (by kernel_rfl) (by simp [Value.oneCell', ptr]) (fun w9 k9 hg9 => ?_)
 replace h := h.put 0 rfl ⟨by decide, by simp⟩ k9 hg9
 simp only [List.set_cons_succ, List.set_cons_zero] at h
 clear k9 hg9
 refine hK.out _ _ ?_
 clear hK K
 try simp only [Act.put, List.setIfInBounds_toArray, List.set_cons_zero, List.set_cons_succ]
 refine wpHK_done (by kernel_rfl) ?_ _
 refine NoPanic.normal ?_
 go_wp2_with (refine wpList_load_all (by rfl) 93 (.tmp 17) (by rfl) (by rfl) _ (h.get 0 rfl) Tryz.underlying93 rfl (by kernel_rfl) ?_)
 obtain ⟨xg, xj, xe, xf, xc, xd, xa, xb, _⟩ := h.fact
 have HM : Hid (∀ W, IsMx ⟨z0, z1, z2, z3, tn⟩ n (.agg #[ptr a, ptr b, ptr c, ptr d, ptr e, ptr f, ptr g, ptr j, .bool tn]) W → True) := Lib.hid fun _ _ => trivial
 replace h := h.rest (G := IsMx ⟨z0, z1, z2, z3, tn⟩ n (.agg #[ptr a, ptr b, ptr c, ptr d, ptr e, ptr f, ptr g, ptr j, .bool tn])) (Stb.mx _ _ _) ⟨a, b, c, d, e, f, g, j, rfl, xa, xb, xc, xd, xe, xf, xg, xj⟩
 clear HM xa xb xc xd xe xf xg xj
 refine (det_any h.fact (by omega)).mono ?_
 rintro _ U5 ⟨_, rfl, hd5, hb2⟩
 replace h := h.call hb2
 clear hb2
 go_wp2_with fail
 refine (zero_any hd5).mono ?_
 rintro _ U6 ⟨v5, rfl, hv5, hb2⟩
 rw [decide_eq_false HH.out.1] at hv5
 subst hv5
 replace h := h.call hb2
 clear hb2 hd5
 go_wp2_with (refine wpList_load_all (by rfl) 93 (.tmp 17) (by rfl) (by rfl) _ (h.get 0 rfl) Tryz.underlying93 rfl (by kernel_rfl) ?_)
 refine (mxtold_any h.fact HH.out.2 (by omega)).mono ?_
 rintro _ U7 ⟨_, rfl, ⟨d0, r0, d1, r1, d2, r2, d3, r3, d4, r4, d5, r5, d6, r6, d7, r7, d8, r8, d9, r9, d10, r10, d11, r11, d12, r12, d13, r13, d14, r14, d15, r15, rfl, G0⟩, hb2⟩
 replace h := h.call hb2
 clear hb2
 go_wp2_with (refine wpList_store_all (by rfl) 29 (.tmp 10) (.tmp 61) (by rfl) #[.bool d0, .string r0, .bool d1, .string r1, .bool d2, .string r2, .bool d3, .string r3, .bool d4, .string r4, .bool d5, .string r5, .bool d6, .string r6, .bool d7, .string r7, .bool d8, .string r8, .bool d9, .string r9, .bool d10, .string r10, .bool d11, .string r11, .bool d12, .string r12, .bool d13, .string r13, .bool d14, .string r14, .bool d15, .string r15, .bool tn] (by rfl) (by rfl) (h.get 15 rfl) (by simp) (by kernel_rfl) (by simp [Value.oneCell', ptr]) ?_; intro V9 k9 hg9; replace h := h.put 15 rfl ⟨by decide, by simp⟩ k9 hg9; simp only [List.set_cons_succ, List.set_cons_zero] at h; clear k9 hg9)
 refine bodyPost_ret (results_row_tmp rfl _ _ _ _ _ (by rfl) (h.get 15 rfl) Tryz.underlying29 rfl (by kernel_rfl)) rfl ?_
 exact ⟨_, rfl, ⟨_, _, _, _, _, _, _, _, _, _, _, _, _, _, _, _, _, _, _, _, _, _, _, _, _, _, _, _, _, _, _, _, rfl, G0⟩, h.bel⟩
end Go.Proofs.YtebpggfccljagaaGreat
