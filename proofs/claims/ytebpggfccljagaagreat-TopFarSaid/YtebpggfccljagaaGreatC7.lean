import Derived.Test.YtebpggfccljagaaGreatC6
import Derived.Test.YtebpggfccljagaaGreatC5
namespace Go.Proofs.YtebpggfccljagaaGreat
open Go.RowKit
open Wh
set_option linter.unusedSimpArgs false
def IsMob (m : Mx) (n : Nat) (v : Value) : Prop := ∃ b0 s0 b1 s1 b2 s2 b3 s3 b4 s4 b5 s5 b6 s6 b7 s7 b8 s8 b9 s9 b10 s10 b11 s11 b12 s12 b13 s13 b14 s14 b15 s15, v = .agg #[.bool b0, .string s0, .bool b1, .string s1, .bool b2, .string s2, .bool b3, .string s3, .bool b4, .string s4, .bool b5, .string s5, .bool b6, .string s6, .bool b7, .string s7, .bool b8, .string s8, .bool b9, .string s9, .bool b10, .string s10, .bool b11, .string s11, .bool b12, .string s12, .bool b13, .string s13, .bool b14, .string s14, .bool b15, .string s15, .bool m.turns] ∧ Fv b0 s0 b1 s1 m.a.re n ∧ Fv b2 s2 b3 s3 m.a.im n ∧ Fv b4 s4 b5 s5 m.b.re n ∧ Fv b6 s6 b7 s7 m.b.im n ∧ Fv b8 s8 b9 s9 m.c.re n ∧ Fv b10 s10 b11 s11 m.c.im n ∧ Fv b12 s12 b13 s13 m.d.re n ∧ Fv b14 s14 b15 s15 m.d.im n
def Mx.norm (m : Mx) : Mx := ⟨m.a.div m.c, m.b.div m.c, m.c.div m.c, m.d.div m.c, m.turns⟩
set_option maxRecDepth 100000 in
set_option maxHeartbeats 4000000 in
theorem normal_any {w : World} {v : Value} {m : Mx} {n : Nat} (h1 : IsMx m n v w) (h0 : ¬ m.c.Zero) (hn : n ≤ 10000) :
  Calls Tryz.prog 91 #[v] w (Ret w (IsMx m.norm (8 * n + 2))) := by
 obtain ⟨a, b, c, d, e, f, g, j, rfl, xa, xb, xc, xd, xe, xf, xg, xj⟩ := h1
 have Hz := Lib.hid h0
 clear h0
 go_enter Tryz.func91, Tryz.ntmps91
 go_wp2_with fail
 have h := ((((St.start w).new 93 #[ptr a, ptr b, ptr c, ptr d, ptr e, ptr f, ptr g, ptr j, .bool m.turns]).new 93 #[.pointer none, .pointer none, .pointer none, .pointer none, .pointer none, .pointer none, .pointer none, .pointer none, .bool false]).new 83 #[ptr e, ptr f])
 simp only [size_alloc] at h
 have xa := xa.below h.bel
 have xb := xb.below h.bel
 have xc := xc.below h.bel
 have xd := xd.below h.bel
 have xe := xe.below h.bel
 have xf := xf.below h.bel
 have xg := xg.below h.bel
 have xj := xj.below h.bel
 have h := h.rest (G := fun w => IsRat m.a.re n (ptr a) w ∧ IsRat m.a.im n (ptr b) w ∧ IsRat m.b.re n (ptr c) w ∧ IsRat m.b.im n (ptr d) w ∧ IsRat m.c.re n (ptr e) w ∧ IsRat m.c.im n (ptr f) w ∧ IsRat m.d.re n (ptr g) w ∧ IsRat m.d.im n (ptr j) w) ((Stb.rat _ _ _).and ((Stb.rat _ _ _).and ((Stb.rat _ _ _).and ((Stb.rat _ _ _).and ((Stb.rat _ _ _).and ((Stb.rat _ _ _).and ((Stb.rat _ _ _).and (Stb.rat _ _ _)))))))) ⟨xa, xb, xc, xd, xe, xf, xg, xj⟩
 generalize hW : (((w.alloc (Obj.cells #[ptr a, ptr b, ptr c, ptr d, ptr e, ptr f, ptr g, ptr j, .bool m.turns] 93)).alloc (Obj.cells #[.pointer none, .pointer none, .pointer none, .pointer none, .pointer none, .pointer none, .pointer none, .pointer none, .bool false] 93)).alloc (Obj.cells #[ptr e, ptr f] 83)) = W at h ⊢
 clear hW
 obtain ⟨xa, xb, xc, xd, xe, xf, xg, xj⟩ := h.fact
 generalize hg3 : w.heap.size + 1 + 1 = g3 at *
 refine (zero_any ⟨_, _, rfl, xe, xf⟩).mono ?_
 rintro _ w2 ⟨v2, rfl, hv2, hb2⟩
 rw [decide_eq_false Hz.out] at hv2
 subst hv2
 have h := h.call hb2
 clear hb2 xa xb xc xd xe xf xg xj
 go_wp2_with fail
 obtain ⟨xa, xb, xc, xd, xe, xf, xg, xj⟩ := h.fact
 have k0 := h.get 2 rfl
 have k3 := h.get 0 rfl
 refine wp_region_noPanic ?_
 refine wp_region_list (mk := ?mk) ratZ_vgs [Is (ptr w.heap.size), Is (.agg #[(ptr a), (ptr b)]), Is (.agg #[(ptr e), (ptr f)]), IsNum (m.a.div m.c) (8 * n + 2), Is (.pointer (some ⟨w.heap.size, 2, none⟩)), Is (.agg #[(ptr c), (ptr d)]), Is (.agg #[(ptr e), (ptr f)]), IsNum (m.b.div m.c) (8 * n + 2), Is (.pointer (some ⟨w.heap.size, 4, none⟩)), Is (.agg #[(ptr e), (ptr f)]), Is (.agg #[(ptr e), (ptr f)]), IsNum (m.c.div m.c) (8 * n + 2), Is (.pointer (some ⟨w.heap.size, 6, none⟩)), Is (.agg #[(ptr g), (ptr j)]), Is (.agg #[(ptr e), (ptr f)]), IsNum (m.d.div m.c) (8 * n + 2), Is (.pointer (some ⟨w.heap.size, 8, none⟩)), Is (.bool m.turns)] [.plain, .plain, .plain, .plain, .plain, .plain, .plain, .plain, .plain, .plain, .plain, .plain, .plain, .plain, .plain, .plain, .plain, .plain] 18 2 (fun w' => Blk w' (w.heap.size) 93 #[ptr a, ptr b, ptr c, ptr d, ptr e, ptr f, ptr g, ptr j, .bool m.turns] ∧ Blk w' (g3) 83 #[ptr e, ptr f] ∧ IsRat m.a.re n (ptr a) w' ∧ IsRat m.a.im n (ptr b) w' ∧ IsRat m.b.re n (ptr c) w' ∧ IsRat m.b.im n (ptr d) w' ∧ IsRat m.c.re n (ptr e) w' ∧ IsRat m.c.im n (ptr f) w' ∧ IsRat m.d.re n (ptr g) w' ∧ IsRat m.d.im n (ptr j) w' ∧ True) ⟨is_steady _ _ _, is_steady _ _ _, is_steady _ _ _, isNum_steady _ _ _, is_steady _ _ _, is_steady _ _ _, is_steady _ _ _, isNum_steady _ _ _, is_steady _ _ _, is_steady _ _ _, is_steady _ _ _, isNum_steady _ _ _, is_steady _ _ _, is_steady _ _ _, is_steady _ _ _, isNum_steady _ _ _, is_steady _ _ _, is_steady _ _ _, trivial⟩ (by kernel_rfl) (by kernel_rfl) (by kernel_rfl) (by kernel_rfl) (by kernel_rfl) (by kernel_rfl) ?hmk (fun w' hB => ⟨k0.below hB k0.lt, k3.below hB k3.lt, xa.below hB, xb.below hB, xc.below hB, xd.below hB, xe.below hB, xf.below hB, xg.below hB, xj.below hB, trivial⟩)
  (steps_all (steps_cons ?_ (steps_cons ?_ (steps_cons ?_ (steps_cons ?_ (steps_cons ?_ (steps_cons ?_ (steps_cons ?_ (steps_cons ?_ (steps_cons ?_ (steps_cons ?_ (steps_cons ?_ (steps_cons ?_ (steps_cons ?_ (steps_cons ?_ (steps_cons ?_ (steps_cons ?_ (steps_cons ?_ (steps_cons ?_ steps_nil))))))))))))))))))) ?_
 case hmk =>
  intro u
  simp only [mkFrom, mkL, dstOf, List.range, List.range.loop, Act.put, List.setIfInBounds_toArray, List.set_cons_zero, List.set_cons_succ, List.getElem?_toArray, List.getElem?_cons_zero, List.getElem?_cons_succ, Option.bind_some]
  rfl
 ·refine step_is (o := Oper.mk (some 10) _ _ _ _ _) rfl rfl rfl rfl (fun u ws hc hd => ?_)
  go_simp
 ·refine step_is (o := Oper.mk (some 11) _ _ _ _ _) rfl rfl rfl rfl (fun u ws hc hd => ?_)
  obtain ⟨k0, k3, xa, xb, xc, xd, xe, xf, xg, xj, _⟩ := hc
  have d0 : u 0 = _ := hd 0 (by kernel_rfl) (by decide)
  exact run_load_part 83 (.tmp 10) rfl (w.heap.size) 0 d0 #[(ptr a), (ptr b)] _ k0 rfl Tryz.underlying83 rfl (by kernel_rfl)
 ·refine step_is (o := Oper.mk (some 12) _ _ _ _ _) rfl rfl rfl rfl (fun u ws hc hd => ?_)
  obtain ⟨k0, k3, xa, xb, xc, xd, xe, xf, xg, xj, _⟩ := hc
  exact run_load_part 83 (.tmp 3) rfl (g3) 0 rfl #[(ptr e), (ptr f)] _ k3 rfl Tryz.underlying83 rfl (by kernel_rfl)
 ·refine step_call (o := Oper.mk (some 13) _ _ _ _ _) rfl rfl rfl (fun u ws hc hd => ?_)
  obtain ⟨k0, k3, xa, xb, xc, xd, xe, xf, xg, xj, _⟩ := hc
  have d1 : u 1 = _ := hd 1 (by kernel_rfl) (by decide)
  have d2 : u 2 = _ := hd 2 (by kernel_rfl) (by decide)
  have HC := Lib.hid (upN (m := (8 * n + 2)) (div_any (⟨_, _, rfl, xa, xb⟩ : IsNum m.a n _ _) (⟨_, _, rfl, xe, xf⟩ : IsNum m.c n _ _) Hz.out (by omega)) (by omega))
  refine ⟨84, #[(.agg #[(ptr a), (ptr b)]), (.agg #[(ptr e), (ptr f)])], ?_, HC.out⟩
  ·clear HC; go_simp
 ·refine step_is (o := Oper.mk (some 14) _ _ _ _ _) rfl rfl rfl rfl (fun u ws hc hd => ?_)
  go_simp
 ·refine step_is (o := Oper.mk (some 15) _ _ _ _ _) rfl rfl rfl rfl (fun u ws hc hd => ?_)
  obtain ⟨k0, k3, xa, xb, xc, xd, xe, xf, xg, xj, _⟩ := hc
  have d4 : u 4 = _ := hd 4 (by kernel_rfl) (by decide)
  exact run_load_part 83 (.tmp 14) rfl (w.heap.size) 2 d4 #[(ptr c), (ptr d)] _ k0 rfl Tryz.underlying83 rfl (by kernel_rfl)
 ·refine step_is (o := Oper.mk (some 16) _ _ _ _ _) rfl rfl rfl rfl (fun u ws hc hd => ?_)
  obtain ⟨k0, k3, xa, xb, xc, xd, xe, xf, xg, xj, _⟩ := hc
  exact run_load_part 83 (.tmp 3) rfl (g3) 0 rfl #[(ptr e), (ptr f)] _ k3 rfl Tryz.underlying83 rfl (by kernel_rfl)
 ·refine step_call (o := Oper.mk (some 17) _ _ _ _ _) rfl rfl rfl (fun u ws hc hd => ?_)
  obtain ⟨k0, k3, xa, xb, xc, xd, xe, xf, xg, xj, _⟩ := hc
  have d5 : u 5 = _ := hd 5 (by kernel_rfl) (by decide)
  have d6 : u 6 = _ := hd 6 (by kernel_rfl) (by decide)
  have HC := Lib.hid (upN (m := (8 * n + 2)) (div_any (⟨_, _, rfl, xc, xd⟩ : IsNum m.b n _ _) (⟨_, _, rfl, xe, xf⟩ : IsNum m.c n _ _) Hz.out (by omega)) (by omega))
  refine ⟨84, #[(.agg #[(ptr c), (ptr d)]), (.agg #[(ptr e), (ptr f)])], ?_, HC.out⟩
  ·clear HC; go_simp
 ·refine step_is (o := Oper.mk (some 18) _ _ _ _ _) rfl rfl rfl rfl (fun u ws hc hd => ?_)
  go_simp
 ·refine step_is (o := Oper.mk (some 19) _ _ _ _ _) rfl rfl rfl rfl (fun u ws hc hd => ?_)
  obtain ⟨k0, k3, xa, xb, xc, xd, xe, xf, xg, xj, _⟩ := hc
  have d8 : u 8 = _ := hd 8 (by kernel_rfl) (by decide)
  exact run_load_part 83 (.tmp 18) rfl (w.heap.size) 4 d8 #[(ptr e), (ptr f)] _ k0 rfl Tryz.underlying83 rfl (by kernel_rfl)
 ·refine step_is (o := Oper.mk (some 20) _ _ _ _ _) rfl rfl rfl rfl (fun u ws hc hd => ?_)
  obtain ⟨k0, k3, xa, xb, xc, xd, xe, xf, xg, xj, _⟩ := hc
  exact run_load_part 83 (.tmp 3) rfl (g3) 0 rfl #[(ptr e), (ptr f)] _ k3 rfl Tryz.underlying83 rfl (by kernel_rfl)
 ·refine step_call (o := Oper.mk (some 21) _ _ _ _ _) rfl rfl rfl (fun u ws hc hd => ?_)
  obtain ⟨k0, k3, xa, xb, xc, xd, xe, xf, xg, xj, _⟩ := hc
  have d9 : u 9 = _ := hd 9 (by kernel_rfl) (by decide)
  have d10 : u 10 = _ := hd 10 (by kernel_rfl) (by decide)
  have HC := Lib.hid (upN (m := (8 * n + 2)) (div_any (⟨_, _, rfl, xe, xf⟩ : IsNum m.c n _ _) (⟨_, _, rfl, xe, xf⟩ : IsNum m.c n _ _) Hz.out (by omega)) (by omega))
  refine ⟨84, #[(.agg #[(ptr e), (ptr f)]), (.agg #[(ptr e), (ptr f)])], ?_, HC.out⟩
  ·clear HC; go_simp
 ·refine step_is (o := Oper.mk (some 22) _ _ _ _ _) rfl rfl rfl rfl (fun u ws hc hd => ?_)
  go_simp
 ·refine step_is (o := Oper.mk (some 23) _ _ _ _ _) rfl rfl rfl rfl (fun u ws hc hd => ?_)
  obtain ⟨k0, k3, xa, xb, xc, xd, xe, xf, xg, xj, _⟩ := hc
  have d12 : u 12 = _ := hd 12 (by kernel_rfl) (by decide)
  exact run_load_part 83 (.tmp 22) rfl (w.heap.size) 6 d12 #[(ptr g), (ptr j)] _ k0 rfl Tryz.underlying83 rfl (by kernel_rfl)
 ·refine step_is (o := Oper.mk (some 24) _ _ _ _ _) rfl rfl rfl rfl (fun u ws hc hd => ?_)
  obtain ⟨k0, k3, xa, xb, xc, xd, xe, xf, xg, xj, _⟩ := hc
  exact run_load_part 83 (.tmp 3) rfl (g3) 0 rfl #[(ptr e), (ptr f)] _ k3 rfl Tryz.underlying83 rfl (by kernel_rfl)
 ·refine step_call (o := Oper.mk (some 25) _ _ _ _ _) rfl rfl rfl (fun u ws hc hd => ?_)
  obtain ⟨k0, k3, xa, xb, xc, xd, xe, xf, xg, xj, _⟩ := hc
  have d13 : u 13 = _ := hd 13 (by kernel_rfl) (by decide)
  have d14 : u 14 = _ := hd 14 (by kernel_rfl) (by decide)
  have HC := Lib.hid (upN (m := (8 * n + 2)) (div_any (⟨_, _, rfl, xg, xj⟩ : IsNum m.d n _ _) (⟨_, _, rfl, xe, xf⟩ : IsNum m.c n _ _) Hz.out (by omega)) (by omega))
  refine ⟨84, #[(.agg #[(ptr g), (ptr j)]), (.agg #[(ptr e), (ptr f)])], ?_, HC.out⟩
  ·clear HC; go_simp
 ·refine step_is (o := Oper.mk (some 26) _ _ _ _ _) rfl rfl rfl rfl (fun u ws hc hd => ?_)
  go_simp
 ·refine step_is (o := Oper.mk (some 27) _ _ _ _ _) rfl rfl rfl rfl (fun u ws hc hd => ?_)
  obtain ⟨k0, k3, xa, xb, xc, xd, xe, xf, xg, xj, _⟩ := hc
  have c1 : ws.cell? ⟨w.heap.size, 8, none⟩ = some (.bool m.turns) := by rw [k0.cell]; rfl
  have d16 : u 16 = _ := hd 16 (by kernel_rfl) (by decide)
  go_simp
 ·intro u w1 hb1 hf hn1
  obtain ⟨_, _, e3, fp, fp'⟩ : IsNum _ _ (u 3) w1 := hf 3 (by decide) (by decide)
  obtain ⟨p, rfl⟩ := fp.ptr
  obtain ⟨p', rfl⟩ := fp'.ptr
  obtain ⟨_, _, e7, fq, fq'⟩ : IsNum _ _ (u 7) w1 := hf 7 (by decide) (by decide)
  obtain ⟨q, rfl⟩ := fq.ptr
  obtain ⟨q', rfl⟩ := fq'.ptr
  obtain ⟨_, _, e11, fr, fr'⟩ : IsNum _ _ (u 11) w1 := hf 11 (by decide) (by decide)
  obtain ⟨r, rfl⟩ := fr.ptr
  obtain ⟨r', rfl⟩ := fr'.ptr
  obtain ⟨_, _, e15, fs, fs'⟩ : IsNum _ _ (u 15) w1 := hf 15 (by decide) (by decide)
  obtain ⟨s, rfl⟩ := fs.ptr
  obtain ⟨s', rfl⟩ := fs'.ptr
  have f17 : u 17 = _ := hf 17 (by decide) (by decide)
  have h := (h.call hb1).rest (G := fun w => IsRat (m.a.div m.c).re (8 * n + 2) (ptr p) w ∧ IsRat (m.a.div m.c).im (8 * n + 2) (ptr p') w ∧ IsRat (m.b.div m.c).re (8 * n + 2) (ptr q) w ∧ IsRat (m.b.div m.c).im (8 * n + 2) (ptr q') w ∧ IsRat (m.c.div m.c).re (8 * n + 2) (ptr r) w ∧ IsRat (m.c.div m.c).im (8 * n + 2) (ptr r') w ∧ IsRat (m.d.div m.c).re (8 * n + 2) (ptr s) w ∧ IsRat (m.d.div m.c).im (8 * n + 2) (ptr s') w) ((Stb.rat _ _ _).and ((Stb.rat _ _ _).and ((Stb.rat _ _ _).and ((Stb.rat _ _ _).and ((Stb.rat _ _ _).and ((Stb.rat _ _ _).and ((Stb.rat _ _ _).and (Stb.rat _ _ _)))))))) ⟨fp, fp', fq, fq', fr, fr', fs, fs'⟩
  clear hf hn1
  refine wpAny_tail (j := 18) (o := Oper.mk (some 28) _ _ _ _ _) rfl (by kernel_rfl) (fun K hK => ?_)
  rw [e3, e7, e11, e15, f17]
  go_simp
  refine hK.out _ _ ?_
  clear hK K
  refine wpAny_store (j := 19) (o := Oper.mk none _ _ _ _ _) rfl (by kernel_rfl) rfl 93 (.tmp 2) (.tmp 28) rfl (w.heap.size + 1) 0 #[ptr p, ptr p', ptr q, ptr q', ptr r, ptr r', ptr s, ptr s', .bool m.turns] rfl rfl #[ptr p, ptr p', ptr q, ptr q', ptr r, ptr r', ptr s, ptr s', .bool m.turns] (h.get 1 rfl) (by simp) rfl (by kernel_rfl) (by simp [Value.oneCell', ptr]) (fun w2 k9 hg9 hs9 => ?_)
  have h := h.put 1 rfl ⟨by decide, by simp⟩ k9 hg9
  refine wpAny_end (by kernel_rfl) ?_
  refine NoPanic.normal ?_
  go_wp2_with fail
  refine bodyPost_ret (results_row1 rfl _ _ _ _ _ (by rfl) (h.get 1 rfl) Tryz.underlying93 rfl (by kernel_rfl)) rfl ?_
  exact ⟨_, rfl, ⟨_, _, _, _, _, _, _, _, rfl, h.fact⟩, h.bel⟩
set_option maxRecDepth 100000 in
set_option maxHeartbeats 1500000 in
theorem mxtold_any {w : World} {v : Value} {m : Mx} {n : Nat} (h1 : IsMx m n v w) (h0 : ¬ m.c.Zero) (hn : n ≤ 1000) :
  Calls Tryz.prog 59 #[v] w (RetE w (fun v _ => IsMob m.norm (8 * n + 2) v)) := by
 obtain ⟨a, b, c, d, e, f, g, j, rfl, xa, xb, xc, xd, xe, xf, xg, xj⟩ := h1
 have h := ((St.start w).new 93 #[ptr a, ptr b, ptr c, ptr d, ptr e, ptr f, ptr g, ptr j, .bool m.turns]).new 29 #[.bool false, .string ⟨#[]⟩, .bool false, .string ⟨#[]⟩, .bool false, .string ⟨#[]⟩, .bool false, .string ⟨#[]⟩, .bool false, .string ⟨#[]⟩, .bool false, .string ⟨#[]⟩, .bool false, .string ⟨#[]⟩, .bool false, .string ⟨#[]⟩, .bool false, .string ⟨#[]⟩, .bool false, .string ⟨#[]⟩, .bool false, .string ⟨#[]⟩, .bool false, .string ⟨#[]⟩, .bool false, .string ⟨#[]⟩, .bool false, .string ⟨#[]⟩, .bool false, .string ⟨#[]⟩, .bool false, .string ⟨#[]⟩, .bool false]
 simp only [size_alloc] at h
 have HN := Lib.hid (normal_any (w := _) ⟨a, b, c, d, e, f, g, j, rfl, xa.below h.bel, xb.below h.bel, xc.below h.bel, xd.below h.bel, xe.below h.bel, xf.below h.bel, xg.below h.bel, xj.below h.bel⟩ h0 (by omega))
 clear xa xb xc xd xe xf xg xj
 go_enter Tryz.func59, Tryz.ntmps59
 go_wp2_with fail
 refine HN.out.mono ?_
 rintro _ w2 ⟨_, rfl, ⟨p, p', q, q', r, r', s, s', rfl, yp, yp', yq, yq', yr, yr', ys, ys'⟩, hb2⟩
 have h := (h.call hb2).rest (G := fun w => IsRat m.norm.a.re (8 * n + 2) (ptr p) w ∧ IsRat m.norm.a.im (8 * n + 2) (ptr p') w ∧ IsRat m.norm.b.re (8 * n + 2) (ptr q) w ∧ IsRat m.norm.b.im (8 * n + 2) (ptr q') w ∧ IsRat m.norm.c.re (8 * n + 2) (ptr r) w ∧ IsRat m.norm.c.im (8 * n + 2) (ptr r') w ∧ IsRat m.norm.d.re (8 * n + 2) (ptr s) w ∧ IsRat m.norm.d.im (8 * n + 2) (ptr s') w) ((Stb.rat _ _ _).and ((Stb.rat _ _ _).and ((Stb.rat _ _ _).and ((Stb.rat _ _ _).and ((Stb.rat _ _ _).and ((Stb.rat _ _ _).and ((Stb.rat _ _ _).and (Stb.rat _ _ _)))))))) ⟨yp, yp', yq, yq', yr, yr', ys, ys'⟩
 clear hb2 HN yp yp' yq yq' yr yr' ys ys'
 go_wp2_with (first | (refine wpList_store_all (by rfl) 93 (.tmp 1) (.tmp 10) (by rfl) #[ptr p, ptr p', ptr q, ptr q', ptr r, ptr r', ptr s, ptr s', .bool m.turns] (by rfl) (by rfl) (h.get 1 rfl) (by simp) (by kernel_rfl) (by simp [Value.oneCell', ptr]) ?_; intro V1 k9 hg9; replace h := h.put 1 rfl ⟨by decide, by simp⟩ k9 hg9; simp only [List.set_cons_succ, List.set_cons_zero] at h; clear k9 hg9; replace c0 := (h.get 1 rfl).cell 0; replace c1 := (h.get 1 rfl).cell 1; replace c2 := (h.get 1 rfl).cell 2; replace c3 := (h.get 1 rfl).cell 3; replace c4 := (h.get 1 rfl).cell 4; replace c5 := (h.get 1 rfl).cell 5; replace c6 := (h.get 1 rfl).cell 6; replace c7 := (h.get 1 rfl).cell 7; replace c8 := (h.get 1 rfl).cell 8) | (replace h := h.new 29 #[.bool false, .string ⟨#[]⟩, .bool false, .string ⟨#[]⟩, .bool false, .string ⟨#[]⟩, .bool false, .string ⟨#[]⟩, .bool false, .string ⟨#[]⟩, .bool false, .string ⟨#[]⟩, .bool false, .string ⟨#[]⟩, .bool false, .string ⟨#[]⟩, .bool false, .string ⟨#[]⟩, .bool false, .string ⟨#[]⟩, .bool false, .string ⟨#[]⟩, .bool false, .string ⟨#[]⟩, .bool false, .string ⟨#[]⟩, .bool false, .string ⟨#[]⟩, .bool false, .string ⟨#[]⟩, .bool false, .string ⟨#[]⟩, .bool false]; refine wpList_store_all (by rfl) 29 (.tmp 4) (.tmp 13) (by rfl) #[.bool false, .string ⟨#[]⟩, .bool false, .string ⟨#[]⟩, .bool false, .string ⟨#[]⟩, .bool false, .string ⟨#[]⟩, .bool false, .string ⟨#[]⟩, .bool false, .string ⟨#[]⟩, .bool false, .string ⟨#[]⟩, .bool false, .string ⟨#[]⟩, .bool false, .string ⟨#[]⟩, .bool false, .string ⟨#[]⟩, .bool false, .string ⟨#[]⟩, .bool false, .string ⟨#[]⟩, .bool false, .string ⟨#[]⟩, .bool false, .string ⟨#[]⟩, .bool false, .string ⟨#[]⟩, .bool false, .string ⟨#[]⟩, .bool m.turns] (by rfl) (by rfl) (h.get 0 rfl) (by simp) (by kernel_rfl) (by simp [Value.oneCell', ptr]) ?_; intro V2 k9 hg9; replace h := h.put 0 rfl ⟨by decide, by simp⟩ k9 hg9; simp only [List.set_cons_succ, List.set_cons_zero] at h; clear k9 hg9; replace c0 := (h.get 2 rfl).cell 0; replace c1 := (h.get 2 rfl).cell 1; replace c2 := (h.get 2 rfl).cell 2; replace c3 := (h.get 2 rfl).cell 3; replace c4 := (h.get 2 rfl).cell 4; replace c5 := (h.get 2 rfl).cell 5; replace c6 := (h.get 2 rfl).cell 6; replace c7 := (h.get 2 rfl).cell 7; replace c8 := (h.get 2 rfl).cell 8))
 replace h := h.new 156 #[.pointer (some ⟨V1.heap.size, 0, none⟩), ptr p, ptr p', .pointer (some ⟨V1.heap.size, 8, none⟩), ptr q, ptr q', .pointer (some ⟨V1.heap.size, 16, none⟩), ptr r, ptr r', .pointer (some ⟨V1.heap.size, 24, none⟩), ptr s, ptr s']
 generalize hW : V2.alloc _ = V3 at h ⊢
 generalize hgm : V1.heap.size = gm at *
 generalize hga : V2.heap.size = ga at *
 clear hW hgm hga
 refine wp_loop_rounds 5 ?_
 rw [rounds_succ]
 replace c0 := (h.get 0 rfl).cell 0
 replace c1 := (h.get 0 rfl).cell 1
 replace c2 := (h.get 0 rfl).cell 2
 go_wp2_with (replace h := h.new 156 #[.pointer none, .pointer none, .pointer none]; refine wpList_store_all (by rfl) 156 (.tmp 6) (.tmp 35) (by rfl) #[.pointer (some ⟨gm, 0, none⟩), ptr p, ptr p'] (by rfl) (by rfl) (h.get 0 rfl) (by simp) (by kernel_rfl) (by simp [Value.oneCell', ptr]) ?_; intro V4 k9 hg9; replace h := h.put 0 rfl ⟨by decide, by simp⟩ k9 hg9; simp only [List.set_cons_succ, List.set_cons_zero] at h; clear k9 hg9; replace d0 := (h.get 0 rfl).cell 0; replace d1 := (h.get 0 rfl).cell 1; replace d2 := (h.get 0 rfl).cell 2)
 obtain ⟨yp, yp', yq, yq', yr, yr', ys, ys'⟩ := h.fact
 refine (numtold_any ⟨_, _, rfl, yp, yp'⟩ (by omega)).mono ?_
 rintro _ U0 ⟨_, rfl, ⟨b0, s0, b1, s1, b2, s2, b3, s3, rfl, F0, F1⟩, hb2⟩
 replace h := h.call hb2
 clear hb2 yp yp' yq yq' yr yr' ys ys'
 go_wp2_with (first | (replace h := h.new 27 #[.bool false, .string ⟨#[]⟩, .bool false, .string ⟨#[]⟩, .bool false, .string ⟨#[]⟩, .bool false, .string ⟨#[]⟩]; refine wpList_store_all (by rfl) 27 (.tmp 7) (.tmp 40) (by rfl) #[.bool b0, .string s0, .bool b1, .string s1, .bool b2, .string s2, .bool b3, .string s3] (by rfl) (by rfl) (h.get 0 rfl) (by simp) (by kernel_rfl) (by simp [Value.oneCell', ptr]) ?_; intro V5 k9 hg9; replace h := h.put 0 rfl ⟨by decide, by simp⟩ k9 hg9; simp only [List.set_cons_succ, List.set_cons_zero] at h; clear k9 hg9; replace d0 := (h.get 1 rfl).cell 0; replace d1 := (h.get 1 rfl).cell 1; replace d2 := (h.get 1 rfl).cell 2; replace e0 := (h.get 0 rfl).cell 0; replace e1 := (h.get 0 rfl).cell 1; replace e2 := (h.get 0 rfl).cell 2; replace e3 := (h.get 0 rfl).cell 3; replace e4 := (h.get 0 rfl).cell 4; replace e5 := (h.get 0 rfl).cell 5; replace e6 := (h.get 0 rfl).cell 6; replace e7 := (h.get 0 rfl).cell 7) | (refine wpList_store_part (by rfl) 27 (.tmp 49) (.tmp 48) (by rfl) _ 0 #[.bool b0, .string s0, .bool b1, .string s1, .bool b2, .string s2, .bool b3, .string s3] (by rfl) (by rfl) _ _ #[.bool b0, .string s0, .bool b1, .string s1, .bool b2, .string s2, .bool b3, .string s3, .bool false, .string ⟨#[]⟩, .bool false, .string ⟨#[]⟩, .bool false, .string ⟨#[]⟩, .bool false, .string ⟨#[]⟩, .bool false, .string ⟨#[]⟩, .bool false, .string ⟨#[]⟩, .bool false, .string ⟨#[]⟩, .bool false, .string ⟨#[]⟩, .bool false, .string ⟨#[]⟩, .bool false, .string ⟨#[]⟩, .bool false, .string ⟨#[]⟩, .bool false, .string ⟨#[]⟩, .bool m.turns] (h.get 3 rfl) (by simp) (by rfl) (by kernel_rfl) (by simp [Value.oneCell', ptr]) ?_; intro V6 k9 hg9 hs9; clear hs9; replace h := h.put 3 rfl ⟨by decide, by simp⟩ k9 hg9; simp only [List.set_cons_succ, List.set_cons_zero] at h; clear k9 hg9))
 rw [rounds_succ]
 replace c3 := (h.get 2 rfl).cell 3
 replace c4 := (h.get 2 rfl).cell 4
 replace c5 := (h.get 2 rfl).cell 5
 go_wp2_with (replace h := h.new 156 #[.pointer none, .pointer none, .pointer none]; refine wpList_store_all (by rfl) 156 (.tmp 6) (.tmp 35) (by rfl) #[.pointer (some ⟨gm, 8, none⟩), ptr q, ptr q'] (by rfl) (by rfl) (h.get 0 rfl) (by simp) (by kernel_rfl) (by simp [Value.oneCell', ptr]) ?_; intro V7 k9 hg9; replace h := h.put 0 rfl ⟨by decide, by simp⟩ k9 hg9; simp only [List.set_cons_succ, List.set_cons_zero] at h; clear k9 hg9; replace d0 := (h.get 0 rfl).cell 0; replace d1 := (h.get 0 rfl).cell 1; replace d2 := (h.get 0 rfl).cell 2)
 obtain ⟨yp, yp', yq, yq', yr, yr', ys, ys'⟩ := h.fact
 refine (numtold_any ⟨_, _, rfl, yq, yq'⟩ (by omega)).mono ?_
 rintro _ U1 ⟨_, rfl, ⟨b4, s4, b5, s5, b6, s6, b7, s7, rfl, F2, F3⟩, hb2⟩
 replace h := h.call hb2
 clear hb2 yp yp' yq yq' yr yr' ys ys'
 go_wp2_with (first | (replace h := h.new 27 #[.bool false, .string ⟨#[]⟩, .bool false, .string ⟨#[]⟩, .bool false, .string ⟨#[]⟩, .bool false, .string ⟨#[]⟩]; refine wpList_store_all (by rfl) 27 (.tmp 7) (.tmp 40) (by rfl) #[.bool b4, .string s4, .bool b5, .string s5, .bool b6, .string s6, .bool b7, .string s7] (by rfl) (by rfl) (h.get 0 rfl) (by simp) (by kernel_rfl) (by simp [Value.oneCell', ptr]) ?_; intro V8 k9 hg9; replace h := h.put 0 rfl ⟨by decide, by simp⟩ k9 hg9; simp only [List.set_cons_succ, List.set_cons_zero] at h; clear k9 hg9; replace d0 := (h.get 1 rfl).cell 0; replace d1 := (h.get 1 rfl).cell 1; replace d2 := (h.get 1 rfl).cell 2; replace e0 := (h.get 0 rfl).cell 0; replace e1 := (h.get 0 rfl).cell 1; replace e2 := (h.get 0 rfl).cell 2; replace e3 := (h.get 0 rfl).cell 3; replace e4 := (h.get 0 rfl).cell 4; replace e5 := (h.get 0 rfl).cell 5; replace e6 := (h.get 0 rfl).cell 6; replace e7 := (h.get 0 rfl).cell 7) | (refine wpList_store_part (by rfl) 27 (.tmp 49) (.tmp 48) (by rfl) _ 8 #[.bool b4, .string s4, .bool b5, .string s5, .bool b6, .string s6, .bool b7, .string s7] (by rfl) (by rfl) _ _ #[.bool b0, .string s0, .bool b1, .string s1, .bool b2, .string s2, .bool b3, .string s3, .bool b4, .string s4, .bool b5, .string s5, .bool b6, .string s6, .bool b7, .string s7, .bool false, .string ⟨#[]⟩, .bool false, .string ⟨#[]⟩, .bool false, .string ⟨#[]⟩, .bool false, .string ⟨#[]⟩, .bool false, .string ⟨#[]⟩, .bool false, .string ⟨#[]⟩, .bool false, .string ⟨#[]⟩, .bool false, .string ⟨#[]⟩, .bool m.turns] (h.get 5 rfl) (by simp) (by rfl) (by kernel_rfl) (by simp [Value.oneCell', ptr]) ?_; intro V9 k9 hg9 hs9; clear hs9; replace h := h.put 5 rfl ⟨by decide, by simp⟩ k9 hg9; simp only [List.set_cons_succ, List.set_cons_zero] at h; clear k9 hg9))
 rw [rounds_succ]
 replace c6 := (h.get 4 rfl).cell 6
 replace c7 := (h.get 4 rfl).cell 7
 replace c8 := (h.get 4 rfl).cell 8
 go_wp2_with (replace h := h.new 156 #[.pointer none, .pointer none, .pointer none]; refine wpList_store_all (by rfl) 156 (.tmp 6) (.tmp 35) (by rfl) #[.pointer (some ⟨gm, 16, none⟩), ptr r, ptr r'] (by rfl) (by rfl) (h.get 0 rfl) (by simp) (by kernel_rfl) (by simp [Value.oneCell', ptr]) ?_; intro V10 k9 hg9; replace h := h.put 0 rfl ⟨by decide, by simp⟩ k9 hg9; simp only [List.set_cons_succ, List.set_cons_zero] at h; clear k9 hg9; replace d0 := (h.get 0 rfl).cell 0; replace d1 := (h.get 0 rfl).cell 1; replace d2 := (h.get 0 rfl).cell 2)
 obtain ⟨yp, yp', yq, yq', yr, yr', ys, ys'⟩ := h.fact
 refine (numtold_any ⟨_, _, rfl, yr, yr'⟩ (by omega)).mono ?_
 rintro _ U2 ⟨_, rfl, ⟨b8, s8, b9, s9, b10, s10, b11, s11, rfl, F4, F5⟩, hb2⟩
 replace h := h.call hb2
 clear hb2 yp yp' yq yq' yr yr' ys ys'
 go_wp2_with (first | (replace h := h.new 27 #[.bool false, .string ⟨#[]⟩, .bool false, .string ⟨#[]⟩, .bool false, .string ⟨#[]⟩, .bool false, .string ⟨#[]⟩]; refine wpList_store_all (by rfl) 27 (.tmp 7) (.tmp 40) (by rfl) #[.bool b8, .string s8, .bool b9, .string s9, .bool b10, .string s10, .bool b11, .string s11] (by rfl) (by rfl) (h.get 0 rfl) (by simp) (by kernel_rfl) (by simp [Value.oneCell', ptr]) ?_; intro V11 k9 hg9; replace h := h.put 0 rfl ⟨by decide, by simp⟩ k9 hg9; simp only [List.set_cons_succ, List.set_cons_zero] at h; clear k9 hg9; replace d0 := (h.get 1 rfl).cell 0; replace d1 := (h.get 1 rfl).cell 1; replace d2 := (h.get 1 rfl).cell 2; replace e0 := (h.get 0 rfl).cell 0; replace e1 := (h.get 0 rfl).cell 1; replace e2 := (h.get 0 rfl).cell 2; replace e3 := (h.get 0 rfl).cell 3; replace e4 := (h.get 0 rfl).cell 4; replace e5 := (h.get 0 rfl).cell 5; replace e6 := (h.get 0 rfl).cell 6; replace e7 := (h.get 0 rfl).cell 7) | (refine wpList_store_part (by rfl) 27 (.tmp 49) (.tmp 48) (by rfl) _ 16 #[.bool b8, .string s8, .bool b9, .string s9, .bool b10, .string s10, .bool b11, .string s11] (by rfl) (by rfl) _ _ #[.bool b0, .string s0, .bool b1, .string s1, .bool b2, .string s2, .bool b3, .string s3, .bool b4, .string s4, .bool b5, .string s5, .bool b6, .string s6, .bool b7, .string s7, .bool b8, .string s8, .bool b9, .string s9, .bool b10, .string s10, .bool b11, .string s11, .bool false, .string ⟨#[]⟩, .bool false, .string ⟨#[]⟩, .bool false, .string ⟨#[]⟩, .bool false, .string ⟨#[]⟩, .bool m.turns] (h.get 7 rfl) (by simp) (by rfl) (by kernel_rfl) (by simp [Value.oneCell', ptr]) ?_; intro V12 k9 hg9 hs9; clear hs9; replace h := h.put 7 rfl ⟨by decide, by simp⟩ k9 hg9; simp only [List.set_cons_succ, List.set_cons_zero] at h; clear k9 hg9))
 rw [rounds_succ]
 replace c9 := (h.get 6 rfl).cell 9
 replace c10 := (h.get 6 rfl).cell 10
 replace c11 := (h.get 6 rfl).cell 11
 go_wp2_with (replace h := h.new 156 #[.pointer none, .pointer none, .pointer none]; refine wpList_store_all (by rfl) 156 (.tmp 6) (.tmp 35) (by rfl) #[.pointer (some ⟨gm, 24, none⟩), ptr s, ptr s'] (by rfl) (by rfl) (h.get 0 rfl) (by simp) (by kernel_rfl) (by simp [Value.oneCell', ptr]) ?_; intro V13 k9 hg9; replace h := h.put 0 rfl ⟨by decide, by simp⟩ k9 hg9; simp only [List.set_cons_succ, List.set_cons_zero] at h; clear k9 hg9; replace d0 := (h.get 0 rfl).cell 0; replace d1 := (h.get 0 rfl).cell 1; replace d2 := (h.get 0 rfl).cell 2)
 obtain ⟨yp, yp', yq, yq', yr, yr', ys, ys'⟩ := h.fact
 refine (numtold_any ⟨_, _, rfl, ys, ys'⟩ (by omega)).mono ?_
 rintro _ U3 ⟨_, rfl, ⟨b12, s12, b13, s13, b14, s14, b15, s15, rfl, F6, F7⟩, hb2⟩
 replace h := h.call hb2
 clear hb2 yp yp' yq yq' yr yr' ys ys'
 go_wp2_with (first | (replace h := h.new 27 #[.bool false, .string ⟨#[]⟩, .bool false, .string ⟨#[]⟩, .bool false, .string ⟨#[]⟩, .bool false, .string ⟨#[]⟩]; refine wpList_store_all (by rfl) 27 (.tmp 7) (.tmp 40) (by rfl) #[.bool b12, .string s12, .bool b13, .string s13, .bool b14, .string s14, .bool b15, .string s15] (by rfl) (by rfl) (h.get 0 rfl) (by simp) (by kernel_rfl) (by simp [Value.oneCell', ptr]) ?_; intro V14 k9 hg9; replace h := h.put 0 rfl ⟨by decide, by simp⟩ k9 hg9; simp only [List.set_cons_succ, List.set_cons_zero] at h; clear k9 hg9; replace d0 := (h.get 1 rfl).cell 0; replace d1 := (h.get 1 rfl).cell 1; replace d2 := (h.get 1 rfl).cell 2; replace e0 := (h.get 0 rfl).cell 0; replace e1 := (h.get 0 rfl).cell 1; replace e2 := (h.get 0 rfl).cell 2; replace e3 := (h.get 0 rfl).cell 3; replace e4 := (h.get 0 rfl).cell 4; replace e5 := (h.get 0 rfl).cell 5; replace e6 := (h.get 0 rfl).cell 6; replace e7 := (h.get 0 rfl).cell 7) | (refine wpList_store_part (by rfl) 27 (.tmp 49) (.tmp 48) (by rfl) _ 24 #[.bool b12, .string s12, .bool b13, .string s13, .bool b14, .string s14, .bool b15, .string s15] (by rfl) (by rfl) _ _ #[.bool b0, .string s0, .bool b1, .string s1, .bool b2, .string s2, .bool b3, .string s3, .bool b4, .string s4, .bool b5, .string s5, .bool b6, .string s6, .bool b7, .string s7, .bool b8, .string s8, .bool b9, .string s9, .bool b10, .string s10, .bool b11, .string s11, .bool b12, .string s12, .bool b13, .string s13, .bool b14, .string s14, .bool b15, .string s15, .bool m.turns] (h.get 9 rfl) (by simp) (by rfl) (by kernel_rfl) (by simp [Value.oneCell', ptr]) ?_; intro V15 k9 hg9 hs9; clear hs9; replace h := h.put 9 rfl ⟨by decide, by simp⟩ k9 hg9; simp only [List.set_cons_succ, List.set_cons_zero] at h; clear k9 hg9))
 rw [rounds_succ]
 go_wp2_with (first | (refine wpList_load_all (by rfl) 29 (.tmp 4) (by rfl) (by rfl) _ (h.get 9 rfl) Tryz.underlying29 rfl (by kernel_rfl) ?_) | (refine wpList_store_all (by rfl) 29 (.tmp 2) (.tmp 51) (by rfl) #[.bool b0, .string s0, .bool b1, .string s1, .bool b2, .string s2, .bool b3, .string s3, .bool b4, .string s4, .bool b5, .string s5, .bool b6, .string s6, .bool b7, .string s7, .bool b8, .string s8, .bool b9, .string s9, .bool b10, .string s10, .bool b11, .string s11, .bool b12, .string s12, .bool b13, .string s13, .bool b14, .string s14, .bool b15, .string s15, .bool m.turns] (by rfl) (by rfl) (h.get 10 rfl) (by simp) (by kernel_rfl) (by simp [Value.oneCell', ptr]) ?_; intro V16 k9 hg9; replace h := h.put 10 rfl ⟨by decide, by simp⟩ k9 hg9; simp only [List.set_cons_succ, List.set_cons_zero] at h; clear k9 hg9))
 refine bodyPost_ret (results_row_tmp rfl _ _ _ _ _ (by rfl) (h.get 10 rfl) Tryz.underlying29 rfl (by kernel_rfl)) rfl ?_
 exact ⟨_, rfl, ⟨_, _, _, _, _, _, _, _, _, _, _, _, _, _, _, _, _, _, _, _, _, _, _, _, _, _, _, _, _, _, _, _, rfl, F0, F1, F2, F3, F4, F5, F6, F7⟩, h.bel⟩
theorem run_load_all {P : Program} {w : World} {o : Oper} {ev : Operand → Value} (ty : TypeId) (x : Operand) (ho : o.op = .load ty x) (b : Nat) (hx : ev x = .pointer (some ⟨b, 0, none⟩))
  {t : TypeId} {cs : Array Value} (d : TypeDesc) (hb : Blk w b t cs) (hu : P.underlying ty = some d) (hd : d.isRow = true) (hi : (P.info? ty).map (·.size) = some cs.size) : (execOp ev o).run P w = .ok (.value (.agg cs)) w :=
 run_load_part ty x ho b 0 hx cs d hb (by simp) hu hd hi
def one_ : Cx := ⟨((1 : Int) : Rat), ((0 : Int) : Rat)⟩
theorem sub_self_zero (z : Cx) : (z.sub z).Zero := by
 unfold Cx.sub Cx.Zero
 constructor <;> simp only [] <;> grind
theorem sub_one_ne {z : Cx} (h : z.Zero) : ¬ (z.sub one_).Zero := by
 rintro ⟨h1, _⟩
 obtain ⟨h2, _⟩ := h
 simp only [Cx.sub, one_] at h1
 rw [h2, show ((1 : Int) : Rat) = 1 from rfl] at h1
 grind
theorem St.drew {w0 W : World} {l : List (Nat × TypeId × Array Value)} {F : World → Prop} (h : St w0 W l F) : St w0 W.drew l F := h.call (Below.refl _ _).drew
def Mx.Formed (m : Mx) : Prop := m.c = one_ ∨ (m.c.Zero ∧ m.d = one_)
set_option maxRecDepth 100000 in
set_option maxHeartbeats 8000000 in
theorem open_any {w : World} {v : Value} {m : Mx} {n : Nat} (h1 : IsMob m n v) (h0 : ¬ m.det.Zero) (hf : m.Formed) (hn : n ≤ 10000) :
  Calls Tryz.prog 40 #[v] w (RetB w (IsMx m n) true) := by
 obtain ⟨b0, s0, b1, s1, b2, s2, b3, s3, b4, s4, b5, s5, b6, s6, b7, s7, b8, s8, b9, s9, b10, s10, b11, s11, b12, s12, b13, s13, b14, s14, b15, s15, rfl, F0, F1, F2, F3, F4, F5, F6, F7⟩ := h1
 have HO : Hid (∀ W, Calls Tryz.prog 49 #[.agg #[.bool b0, .string s0, .bool b1, .string s1, .bool b2, .string s2, .bool b3, .string s3]] W (RetB W (IsNum m.a n) true) ∧ Calls Tryz.prog 49 #[.agg #[.bool b4, .string s4, .bool b5, .string s5, .bool b6, .string s6, .bool b7, .string s7]] W (RetB W (IsNum m.b n) true) ∧ Calls Tryz.prog 49 #[.agg #[.bool b8, .string s8, .bool b9, .string s9, .bool b10, .string s10, .bool b11, .string s11]] W (RetB W (IsNum m.c n) true) ∧ Calls Tryz.prog 49 #[.agg #[.bool b12, .string s12, .bool b13, .string s13, .bool b14, .string s14, .bool b15, .string s15]] W (RetB W (IsNum m.d n) true)) := Lib.hid fun W => ⟨exof_any ⟨_, _, _, _, _, _, _, _, rfl, F0, F1⟩ (by omega), exof_any ⟨_, _, _, _, _, _, _, _, rfl, F2, F3⟩ (by omega), exof_any ⟨_, _, _, _, _, _, _, _, rfl, F4, F5⟩ (by omega), exof_any ⟨_, _, _, _, _, _, _, _, rfl, F6, F7⟩ (by omega)⟩
 have HH := Lib.hid (And.intro h0 hf)
 clear h0 hf F0 F1 F2 F3 F4 F5 F6 F7
 have h := (((((St.start w).new 29 #[.bool b0, .string s0, .bool b1, .string s1, .bool b2, .string s2, .bool b3, .string s3, .bool b4, .string s4, .bool b5, .string s5, .bool b6, .string s6, .bool b7, .string s7, .bool b8, .string s8, .bool b9, .string s9, .bool b10, .string s10, .bool b11, .string s11, .bool b12, .string s12, .bool b13, .string s13, .bool b14, .string s14, .bool b15, .string s15, .bool m.turns]).new 93 #[.pointer none, .pointer none, .pointer none, .pointer none, .pointer none, .pointer none, .pointer none, .pointer none, .bool false]).new 93 #[.pointer none, .pointer none, .pointer none, .pointer none, .pointer none, .pointer none, .pointer none, .pointer none, .bool m.turns]).new 144 #[.pointer (some ⟨w.heap.size + 1 + 1, 0, none⟩), .bool b0, .string s0, .bool b1, .string s1, .bool b2, .string s2, .bool b3, .string s3, .pointer (some ⟨w.heap.size + 1 + 1, 2, none⟩), .bool b4, .string s4, .bool b5, .string s5, .bool b6, .string s6, .bool b7, .string s7, .pointer (some ⟨w.heap.size + 1 + 1, 4, none⟩), .bool b8, .string s8, .bool b9, .string s9, .bool b10, .string s10, .bool b11, .string s11, .pointer (some ⟨w.heap.size + 1 + 1, 6, none⟩), .bool b12, .string s12, .bool b13, .string s13, .bool b14, .string s14, .bool b15, .string s15])
 simp only [size_alloc] at h
 go_enter Tryz.func40, Tryz.ntmps40
 go_wp2_with fail
 generalize hW : ((((w.alloc (Obj.cells #[.bool b0, .string s0, .bool b1, .string s1, .bool b2, .string s2, .bool b3, .string s3, .bool b4, .string s4, .bool b5, .string s5, .bool b6, .string s6, .bool b7, .string s7, .bool b8, .string s8, .bool b9, .string s9, .bool b10, .string s10, .bool b11, .string s11, .bool b12, .string s12, .bool b13, .string s13, .bool b14, .string s14, .bool b15, .string s15, .bool m.turns] 29)).alloc (Obj.cells #[.pointer none, .pointer none, .pointer none, .pointer none, .pointer none, .pointer none, .pointer none, .pointer none, .bool false] 93)).alloc (Obj.cells #[.pointer none, .pointer none, .pointer none, .pointer none, .pointer none, .pointer none, .pointer none, .pointer none, .bool m.turns] 93)).alloc (Obj.cells #[.pointer (some ⟨w.heap.size + 1 + 1, 0, none⟩), .bool b0, .string s0, .bool b1, .string s1, .bool b2, .string s2, .bool b3, .string s3, .pointer (some ⟨w.heap.size + 1 + 1, 2, none⟩), .bool b4, .string s4, .bool b5, .string s5, .bool b6, .string s6, .bool b7, .string s7, .pointer (some ⟨w.heap.size + 1 + 1, 4, none⟩), .bool b8, .string s8, .bool b9, .string s9, .bool b10, .string s10, .bool b11, .string s11, .pointer (some ⟨w.heap.size + 1 + 1, 6, none⟩), .bool b12, .string s12, .bool b13, .string s13, .bool b14, .string s14, .bool b15, .string s15] 144)) = V0 at h ⊢
 clear hW
 generalize hgm : w.heap.size + 1 + 1 = gm at *
 generalize hga : gm + 1 = ga at *
 clear hga
 refine wp_loop_rounds 5 ?_
 rw [rounds_succ]
 replace c0 := (h.get 0 rfl).cell 0
 replace c1 := (h.get 0 rfl).cell 1
 replace c2 := (h.get 0 rfl).cell 2
 replace c3 := (h.get 0 rfl).cell 3
 replace c4 := (h.get 0 rfl).cell 4
 replace c5 := (h.get 0 rfl).cell 5
 replace c6 := (h.get 0 rfl).cell 6
 replace c7 := (h.get 0 rfl).cell 7
 replace c8 := (h.get 0 rfl).cell 8
 go_wp2_with (replace h := h.new 144 #[.pointer none, .bool false, .string ⟨#[]⟩, .bool false, .string ⟨#[]⟩, .bool false, .string ⟨#[]⟩, .bool false, .string ⟨#[]⟩]; refine wpList_store_all (by rfl) 144 (.tmp 7) (.tmp 35) (by rfl) #[.pointer (some ⟨gm, 0, none⟩), .bool b0, .string s0, .bool b1, .string s1, .bool b2, .string s2, .bool b3, .string s3] (by rfl) (by rfl) (h.get 0 rfl) (by simp) (by kernel_rfl) (by simp [Value.oneCell', ptr]) ?_; intro V1 k9 hg9; replace h := h.put 0 rfl ⟨by decide, by simp⟩ k9 hg9; simp only [List.set_cons_succ, List.set_cons_zero] at h; clear k9 hg9; replace d0 := (h.get 0 rfl).cell 0; replace d1 := (h.get 0 rfl).cell 1; replace d2 := (h.get 0 rfl).cell 2; replace d3 := (h.get 0 rfl).cell 3; replace d4 := (h.get 0 rfl).cell 4; replace d5 := (h.get 0 rfl).cell 5; replace d6 := (h.get 0 rfl).cell 6; replace d7 := (h.get 0 rfl).cell 7; replace d8 := (h.get 0 rfl).cell 8)
 refine (HO.out _).1.mono ?_
 rintro _ U0 ⟨_, rfl, ⟨_, _, rfl, xa, xb⟩, hb2⟩
 obtain ⟨a, rfl⟩ := xa.ptr
 obtain ⟨b, rfl⟩ := xb.ptr
 replace h := ((h.call hb2).add (Stb.rat _ _ _) xa).add (Stb.rat _ _ _) xb
 clear hb2 xa xb
 go_wp2_with (first | (replace h := h.new 83 #[.pointer none, .pointer none]; refine wpList_store_all (by rfl) 83 (.tmp 8) (.tmp 40) (by rfl) #[ptr a, ptr b] (by rfl) (by rfl) (h.get 0 rfl) (by simp) (by kernel_rfl) (by simp [Value.oneCell', ptr]) ?_; intro V2 k9 hg9; replace h := h.put 0 rfl ⟨by decide, by simp⟩ k9 hg9; simp only [List.set_cons_succ, List.set_cons_zero] at h; clear k9 hg9; replace d0 := (h.get 1 rfl).cell 0; replace e0 := (h.get 0 rfl).cell 0; replace e1 := (h.get 0 rfl).cell 1) | (refine wpList_store_part (by rfl) 83 (.tmp 49) (.tmp 44) (by rfl) _ 0 #[ptr a, ptr b] (by rfl) (by rfl) _ _ #[ptr a, ptr b, .pointer none, .pointer none, .pointer none, .pointer none, .pointer none, .pointer none, .bool m.turns] (h.get 3 rfl) (by simp) (by rfl) (by kernel_rfl) (by simp [Value.oneCell', ptr]) ?_; intro V3 k9 hg9 hs9; clear hs9; replace h := h.put 3 rfl ⟨by decide, by simp⟩ k9 hg9; simp only [List.set_cons_succ, List.set_cons_zero] at h; clear k9 hg9))
 rw [rounds_succ]
 replace c9 := (h.get 2 rfl).cell 9
 replace c10 := (h.get 2 rfl).cell 10
 replace c11 := (h.get 2 rfl).cell 11
 replace c12 := (h.get 2 rfl).cell 12
 replace c13 := (h.get 2 rfl).cell 13
 replace c14 := (h.get 2 rfl).cell 14
 replace c15 := (h.get 2 rfl).cell 15
 replace c16 := (h.get 2 rfl).cell 16
 replace c17 := (h.get 2 rfl).cell 17
 go_wp2_with (replace h := h.new 144 #[.pointer none, .bool false, .string ⟨#[]⟩, .bool false, .string ⟨#[]⟩, .bool false, .string ⟨#[]⟩, .bool false, .string ⟨#[]⟩]; refine wpList_store_all (by rfl) 144 (.tmp 7) (.tmp 35) (by rfl) #[.pointer (some ⟨gm, 2, none⟩), .bool b4, .string s4, .bool b5, .string s5, .bool b6, .string s6, .bool b7, .string s7] (by rfl) (by rfl) (h.get 0 rfl) (by simp) (by kernel_rfl) (by simp [Value.oneCell', ptr]) ?_; intro V4 k9 hg9; replace h := h.put 0 rfl ⟨by decide, by simp⟩ k9 hg9; simp only [List.set_cons_succ, List.set_cons_zero] at h; clear k9 hg9; replace d0 := (h.get 0 rfl).cell 0; replace d1 := (h.get 0 rfl).cell 1; replace d2 := (h.get 0 rfl).cell 2; replace d3 := (h.get 0 rfl).cell 3; replace d4 := (h.get 0 rfl).cell 4; replace d5 := (h.get 0 rfl).cell 5; replace d6 := (h.get 0 rfl).cell 6; replace d7 := (h.get 0 rfl).cell 7; replace d8 := (h.get 0 rfl).cell 8)
 refine (HO.out _).2.1.mono ?_
 rintro _ U1 ⟨_, rfl, ⟨_, _, rfl, xc, xd⟩, hb2⟩
 obtain ⟨c, rfl⟩ := xc.ptr
 obtain ⟨d, rfl⟩ := xd.ptr
 replace h := ((h.call hb2).add (Stb.rat _ _ _) xc).add (Stb.rat _ _ _) xd
 clear hb2 xc xd
 go_wp2_with (first | (replace h := h.new 83 #[.pointer none, .pointer none]; refine wpList_store_all (by rfl) 83 (.tmp 8) (.tmp 40) (by rfl) #[ptr c, ptr d] (by rfl) (by rfl) (h.get 0 rfl) (by simp) (by kernel_rfl) (by simp [Value.oneCell', ptr]) ?_; intro V5 k9 hg9; replace h := h.put 0 rfl ⟨by decide, by simp⟩ k9 hg9; simp only [List.set_cons_succ, List.set_cons_zero] at h; clear k9 hg9; replace d0 := (h.get 1 rfl).cell 0; replace e0 := (h.get 0 rfl).cell 0; replace e1 := (h.get 0 rfl).cell 1) | (refine wpList_store_part (by rfl) 83 (.tmp 49) (.tmp 44) (by rfl) _ 2 #[ptr c, ptr d] (by rfl) (by rfl) _ _ #[ptr a, ptr b, ptr c, ptr d, .pointer none, .pointer none, .pointer none, .pointer none, .bool m.turns] (h.get 5 rfl) (by simp) (by rfl) (by kernel_rfl) (by simp [Value.oneCell', ptr]) ?_; intro V6 k9 hg9 hs9; clear hs9; replace h := h.put 5 rfl ⟨by decide, by simp⟩ k9 hg9; simp only [List.set_cons_succ, List.set_cons_zero] at h; clear k9 hg9))
 rw [rounds_succ]
 replace c18 := (h.get 4 rfl).cell 18
 replace c19 := (h.get 4 rfl).cell 19
 replace c20 := (h.get 4 rfl).cell 20
 replace c21 := (h.get 4 rfl).cell 21
 replace c22 := (h.get 4 rfl).cell 22
 replace c23 := (h.get 4 rfl).cell 23
 replace c24 := (h.get 4 rfl).cell 24
 replace c25 := (h.get 4 rfl).cell 25
 replace c26 := (h.get 4 rfl).cell 26
 go_wp2_with (replace h := h.new 144 #[.pointer none, .bool false, .string ⟨#[]⟩, .bool false, .string ⟨#[]⟩, .bool false, .string ⟨#[]⟩, .bool false, .string ⟨#[]⟩]; refine wpList_store_all (by rfl) 144 (.tmp 7) (.tmp 35) (by rfl) #[.pointer (some ⟨gm, 4, none⟩), .bool b8, .string s8, .bool b9, .string s9, .bool b10, .string s10, .bool b11, .string s11] (by rfl) (by rfl) (h.get 0 rfl) (by simp) (by kernel_rfl) (by simp [Value.oneCell', ptr]) ?_; intro V7 k9 hg9; replace h := h.put 0 rfl ⟨by decide, by simp⟩ k9 hg9; simp only [List.set_cons_succ, List.set_cons_zero] at h; clear k9 hg9; replace d0 := (h.get 0 rfl).cell 0; replace d1 := (h.get 0 rfl).cell 1; replace d2 := (h.get 0 rfl).cell 2; replace d3 := (h.get 0 rfl).cell 3; replace d4 := (h.get 0 rfl).cell 4; replace d5 := (h.get 0 rfl).cell 5; replace d6 := (h.get 0 rfl).cell 6; replace d7 := (h.get 0 rfl).cell 7; replace d8 := (h.get 0 rfl).cell 8)
 refine (HO.out _).2.2.1.mono ?_
 rintro _ U2 ⟨_, rfl, ⟨_, _, rfl, xe, xf⟩, hb2⟩
 obtain ⟨e, rfl⟩ := xe.ptr
 obtain ⟨f, rfl⟩ := xf.ptr
 replace h := ((h.call hb2).add (Stb.rat _ _ _) xe).add (Stb.rat _ _ _) xf
 clear hb2 xe xf
 go_wp2_with (first | (replace h := h.new 83 #[.pointer none, .pointer none]; refine wpList_store_all (by rfl) 83 (.tmp 8) (.tmp 40) (by rfl) #[ptr e, ptr f] (by rfl) (by rfl) (h.get 0 rfl) (by simp) (by kernel_rfl) (by simp [Value.oneCell', ptr]) ?_; intro V8 k9 hg9; replace h := h.put 0 rfl ⟨by decide, by simp⟩ k9 hg9; simp only [List.set_cons_succ, List.set_cons_zero] at h; clear k9 hg9; replace d0 := (h.get 1 rfl).cell 0; replace e0 := (h.get 0 rfl).cell 0; replace e1 := (h.get 0 rfl).cell 1) | (refine wpList_store_part (by rfl) 83 (.tmp 49) (.tmp 44) (by rfl) _ 4 #[ptr e, ptr f] (by rfl) (by rfl) _ _ #[ptr a, ptr b, ptr c, ptr d, ptr e, ptr f, .pointer none, .pointer none, .bool m.turns] (h.get 7 rfl) (by simp) (by rfl) (by kernel_rfl) (by simp [Value.oneCell', ptr]) ?_; intro V9 k9 hg9 hs9; clear hs9; replace h := h.put 7 rfl ⟨by decide, by simp⟩ k9 hg9; simp only [List.set_cons_succ, List.set_cons_zero] at h; clear k9 hg9))
 rw [rounds_succ]
 replace c27 := (h.get 6 rfl).cell 27
 replace c28 := (h.get 6 rfl).cell 28
 replace c29 := (h.get 6 rfl).cell 29
 replace c30 := (h.get 6 rfl).cell 30
 replace c31 := (h.get 6 rfl).cell 31
 replace c32 := (h.get 6 rfl).cell 32
 replace c33 := (h.get 6 rfl).cell 33
 replace c34 := (h.get 6 rfl).cell 34
 replace c35 := (h.get 6 rfl).cell 35
 go_wp2_with (replace h := h.new 144 #[.pointer none, .bool false, .string ⟨#[]⟩, .bool false, .string ⟨#[]⟩, .bool false, .string ⟨#[]⟩, .bool false, .string ⟨#[]⟩]; refine wpList_store_all (by rfl) 144 (.tmp 7) (.tmp 35) (by rfl) #[.pointer (some ⟨gm, 6, none⟩), .bool b12, .string s12, .bool b13, .string s13, .bool b14, .string s14, .bool b15, .string s15] (by rfl) (by rfl) (h.get 0 rfl) (by simp) (by kernel_rfl) (by simp [Value.oneCell', ptr]) ?_; intro V10 k9 hg9; replace h := h.put 0 rfl ⟨by decide, by simp⟩ k9 hg9; simp only [List.set_cons_succ, List.set_cons_zero] at h; clear k9 hg9; replace d0 := (h.get 0 rfl).cell 0; replace d1 := (h.get 0 rfl).cell 1; replace d2 := (h.get 0 rfl).cell 2; replace d3 := (h.get 0 rfl).cell 3; replace d4 := (h.get 0 rfl).cell 4; replace d5 := (h.get 0 rfl).cell 5; replace d6 := (h.get 0 rfl).cell 6; replace d7 := (h.get 0 rfl).cell 7; replace d8 := (h.get 0 rfl).cell 8)
 refine (HO.out _).2.2.2.mono ?_
 rintro _ U3 ⟨_, rfl, ⟨_, _, rfl, xg, xj⟩, hb2⟩
 obtain ⟨g, rfl⟩ := xg.ptr
 obtain ⟨j, rfl⟩ := xj.ptr
 replace h := ((h.call hb2).add (Stb.rat _ _ _) xg).add (Stb.rat _ _ _) xj
 clear hb2 xg xj
 go_wp2_with (first | (replace h := h.new 83 #[.pointer none, .pointer none]; refine wpList_store_all (by rfl) 83 (.tmp 8) (.tmp 40) (by rfl) #[ptr g, ptr j] (by rfl) (by rfl) (h.get 0 rfl) (by simp) (by kernel_rfl) (by simp [Value.oneCell', ptr]) ?_; intro V11 k9 hg9; replace h := h.put 0 rfl ⟨by decide, by simp⟩ k9 hg9; simp only [List.set_cons_succ, List.set_cons_zero] at h; clear k9 hg9; replace d0 := (h.get 1 rfl).cell 0; replace e0 := (h.get 0 rfl).cell 0; replace e1 := (h.get 0 rfl).cell 1) | (refine wpList_store_part (by rfl) 83 (.tmp 49) (.tmp 44) (by rfl) _ 6 #[ptr g, ptr j] (by rfl) (by rfl) _ _ #[ptr a, ptr b, ptr c, ptr d, ptr e, ptr f, ptr g, ptr j, .bool m.turns] (h.get 9 rfl) (by simp) (by rfl) (by kernel_rfl) (by simp [Value.oneCell', ptr]) ?_; intro V12 k9 hg9 hs9; clear hs9; replace h := h.put 9 rfl ⟨by decide, by simp⟩ k9 hg9; simp only [List.set_cons_succ, List.set_cons_zero] at h; clear k9 hg9))
 rw [rounds_succ]
 clear c0 c1 c2 c3 c4 c5 c6 c7 c8 c9 c10 c11 c12 c13 c14 c15 c16 c17 c18 c19 c20 c21 c22 c23 c24 c25 c26 c27 c28 c29 c30 c31 c32 c33 c34 c35 d0 d1 d2 d3 d4 d5 d6 d7 d8 e0 e1
 replace c0 := (h.get 9 rfl).cell 0
 replace c1 := (h.get 9 rfl).cell 1
 replace c2 := (h.get 9 rfl).cell 2
 replace c3 := (h.get 9 rfl).cell 3
 replace c4 := (h.get 9 rfl).cell 4
 replace c5 := (h.get 9 rfl).cell 5
 replace c6 := (h.get 9 rfl).cell 6
 replace c7 := (h.get 9 rfl).cell 7
 replace c8 := (h.get 9 rfl).cell 8
 go_wp2_with fail
 clear c0 c1 c2 c3 c4 c5 c6 c7 c8
 obtain ⟨xj, xg, xf, xe, xd, xc, xb, xa, _⟩ := h.fact
 refine (det_any ⟨a, b, c, d, e, f, g, j, rfl, xa, xb, xc, xd, xe, xf, xg, xj⟩ (by omega)).mono ?_
 rintro _ U4 ⟨_, rfl, hd4, hb2⟩
 replace h := h.call hb2
 clear hb2 xa xb xc xd xe xf xg xj
 go_wp2_with fail
 refine (zero_any hd4).mono ?_
 rintro _ U5 ⟨v5, rfl, hv5, hb2⟩
 rw [decide_eq_false HH.out.1] at hv5
 subst hv5
 replace h := h.call hb2
 clear hb2 hd4
 go_wp2_with fail
 refine (int_any (re := 1) (im := 0) (by decide) (by decide)).mono ?_
 rintro _ U6 ⟨_, rfl, ⟨_, _, rfl, xo, xz⟩, hb2⟩
 obtain ⟨o, rfl⟩ := xo.ptr
 obtain ⟨z, rfl⟩ := xz.ptr
 replace h := ((h.call hb2).add (Stb.rat _ _ _) xz).add (Stb.rat _ _ _) xo
 clear hb2 xo xz
 go_wp2_with (replace h := h.new 83 #[.pointer none, .pointer none]; refine wpList_store_all (by rfl) 83 (.tmp 10) (.tmp 59) (by rfl) #[ptr o, ptr z] (by rfl) (by rfl) (h.get 0 rfl) (by simp) (by kernel_rfl) (by simp [Value.oneCell', ptr]) ?_; intro V13 k9 hg9; replace h := h.put 0 rfl ⟨by decide, by simp⟩ k9 hg9; simp only [List.set_cons_succ, List.set_cons_zero] at h; clear k9 hg9)
 generalize hg1 : U6.heap.size = g1 at *
 clear hg1
 rcases HH.out.2 with hc | ⟨hc, hd⟩
 ·have H1 := Lib.hid (show decide ((m.c.sub one_).Zero) = true from decide_eq_true (by rw [hc]; exact sub_self_zero _))
  clear hc
  refine wp_region_noPanic ?_
  refine wp_region_HK (fun w' => St w w' _ _) 16 (by kernel_rfl) h.drew (fun hHeld => ?_)
  replace h := h.drew
  clear hHeld
  refine wpHK_take (i := 0) (oi := Oper.mk (some 60) _ _ _ _ _) (v := .agg #[ptr a, ptr b, ptr c, ptr d, ptr e, ptr f, ptr g, ptr j, .bool m.turns]) rfl (by kernel_rfl) (by kernel_rfl) (by kernel_rfl) (by kernel_rfl) (fun _ _ _ h => h) (Or.inl ⟨by rfl, ?_⟩) h ?_
  ·intro w' hS
   exact run_load_all 93 (.tmp 4) rfl gm rfl _ (hS.get 10 rfl) Tryz.underlying93 rfl (by kernel_rfl)
  try simp only [Act.put, List.setIfInBounds_toArray, List.set_cons_zero, List.set_cons_succ]
  refine wpHK_pure (i := 1) (oi := Oper.mk (some 61) _ _ _ _ _) (v := .pointer (some ⟨gm, 4, none⟩)) rfl (by kernel_rfl) (by kernel_rfl) (by kernel_rfl) (fun _ _ _ h => h) (Or.inl ⟨by rfl, ?_⟩) ?_
  ·intro w' hS
   go_simp
  try simp only [Act.put, List.setIfInBounds_toArray, List.set_cons_zero, List.set_cons_succ]
  refine wpHK_take (i := 2) (oi := Oper.mk (some 62) _ _ _ _ _) (v := .agg #[ptr e, ptr f]) rfl (by kernel_rfl) (by kernel_rfl) (by kernel_rfl) (by kernel_rfl) (fun _ _ _ h => h) (Or.inl ⟨by rfl, ?_⟩) h ?_
  ·intro w' hS
   exact run_load_part 83 (.tmp 61) rfl gm 4 rfl #[ptr e, ptr f] _ (hS.get 10 rfl) rfl Tryz.underlying83 rfl (by kernel_rfl)
  try simp only [Act.put, List.setIfInBounds_toArray, List.set_cons_zero, List.set_cons_succ]
  refine wpHK_take (i := 3) (oi := Oper.mk (some 63) _ _ _ _ _) (v := .agg #[ptr o, ptr z]) rfl (by kernel_rfl) (by kernel_rfl) (by kernel_rfl) (by kernel_rfl) (fun _ _ _ h => h) (Or.inl ⟨by rfl, ?_⟩) h ?_
  ·intro w' hS
   exact run_load_part 83 (.tmp 10) rfl g1 0 rfl #[ptr o, ptr z] _ (hS.get 0 rfl) rfl Tryz.underlying83 rfl (by kernel_rfl)
  try simp only [Act.put, List.setIfInBounds_toArray, List.set_cons_zero, List.set_cons_succ]
  refine wpHK_one (j := 4) (o := Oper.mk (some 64) _ _ _ _ _) rfl (by kernel_rfl) (fun K hK => ?_)
  go_simp
  obtain ⟨xo, xz, xj, xg, xf, xe, xd, xc, xb, xa, _⟩ := h.fact
  refine (same_any (n := n + 8) (IsNum.up (z := m.c) ⟨_, _, rfl, xe, xf⟩ (by omega)) (IsNum.up (z := one_) ⟨_, _, rfl, xo, xz⟩ (by omega)) (by omega)).mono ?_
  rintro _ Y4 ⟨v5, rfl, hv5, hb2⟩
  rw [H1.out] at hv5
  subst hv5
  clear xo xz xa xb xc xd xe xf xg xj
  replace h := h.call hb2
  clear hb2
  refine hK.out _ _ h (fun _ => ?_)
  clear hK K
  try simp only [Act.put, List.setIfInBounds_toArray, List.set_cons_zero, List.set_cons_succ]
  refine wpHK_pure (i := 5) (oi := Oper.mk (some 65) _ _ _ _ _) (v := .bool true) rfl (by kernel_rfl) (by kernel_rfl) (by kernel_rfl) (fun _ _ _ h => h) (Or.inl ⟨by rfl, ?_⟩) ?_
  ·intro w' hS
   go_simp
  try simp only [Act.put, List.setIfInBounds_toArray, List.set_cons_zero, List.set_cons_succ]
  refine wpHK_pure (i := 6) (oi := Oper.mk (some 66) _ _ _ _ _) (v := undef) rfl (by kernel_rfl) (by kernel_rfl) (by kernel_rfl) (fun _ _ _ h => h) (Or.inr ⟨by rfl, rfl⟩) ?_
  try simp only [Act.put, List.setIfInBounds_toArray, List.set_cons_zero, List.set_cons_succ]
  refine wpHK_pure (i := 7) (oi := Oper.mk (some 67) _ _ _ _ _) (v := undef) rfl (by kernel_rfl) (by kernel_rfl) (by kernel_rfl) (fun _ _ _ h => h) (Or.inr ⟨by rfl, rfl⟩) ?_
  try simp only [Act.put, List.setIfInBounds_toArray, List.set_cons_zero, List.set_cons_succ]
  refine wpHK_pure (i := 8) (oi := Oper.mk (some 68) _ _ _ _ _) (v := undef) rfl (by kernel_rfl) (by kernel_rfl) (by kernel_rfl) (fun _ _ _ h => h) (Or.inr ⟨by rfl, rfl⟩) ?_
  try simp only [Act.put, List.setIfInBounds_toArray, List.set_cons_zero, List.set_cons_succ]
  refine wpHK_pure (i := 9) (oi := Oper.mk (some 69) _ _ _ _ _) (v := undef) rfl (by kernel_rfl) (by kernel_rfl) (by kernel_rfl) (fun _ _ _ h => h) (Or.inr ⟨by rfl, rfl⟩) ?_
  try simp only [Act.put, List.setIfInBounds_toArray, List.set_cons_zero, List.set_cons_succ]
  refine wpHK_pure (i := 10) (oi := Oper.mk (some 70) _ _ _ _ _) (v := undef) rfl (by kernel_rfl) (by kernel_rfl) (by kernel_rfl) (fun _ _ _ h => h) (Or.inr ⟨by rfl, rfl⟩) ?_
  try simp only [Act.put, List.setIfInBounds_toArray, List.set_cons_zero, List.set_cons_succ]
  refine wpHK_pure (i := 11) (oi := Oper.mk (some 71) _ _ _ _ _) (v := undef) rfl (by kernel_rfl) (by kernel_rfl) (by kernel_rfl) (fun _ _ _ h => h) (Or.inr ⟨by rfl, rfl⟩) ?_
  try simp only [Act.put, List.setIfInBounds_toArray, List.set_cons_zero, List.set_cons_succ]
  refine wpHK_pure (i := 12) (oi := Oper.mk (some 72) _ _ _ _ _) (v := undef) rfl (by kernel_rfl) (by kernel_rfl) (by kernel_rfl) (fun _ _ _ h => h) (Or.inr ⟨by rfl, rfl⟩) ?_
  try simp only [Act.put, List.setIfInBounds_toArray, List.set_cons_zero, List.set_cons_succ]
  refine wpHK_pure (i := 13) (oi := Oper.mk (some 73) _ _ _ _ _) (v := undef) rfl (by kernel_rfl) (by kernel_rfl) (by kernel_rfl) (fun _ _ _ h => h) (Or.inr ⟨by rfl, rfl⟩) ?_
  try simp only [Act.put, List.setIfInBounds_toArray, List.set_cons_zero, List.set_cons_succ]
  refine wpHK_pure (i := 14) (oi := Oper.mk (some 74) _ _ _ _ _) (v := undef) rfl (by kernel_rfl) (by kernel_rfl) (by kernel_rfl) (fun _ _ _ h => h) (Or.inr ⟨by rfl, rfl⟩) ?_
  try simp only [Act.put, List.setIfInBounds_toArray, List.set_cons_zero, List.set_cons_succ]
  refine wpHK_pure (i := 15) (oi := Oper.mk (some 75) _ _ _ _ _) (v := .bool true) rfl (by kernel_rfl) (by kernel_rfl) (by kernel_rfl) (fun _ _ _ h => h) (Or.inl ⟨by rfl, ?_⟩) ?_
  ·intro w' hS
   go_simp
  try simp only [Act.put, List.setIfInBounds_toArray, List.set_cons_zero, List.set_cons_succ]
  refine wpHK_tail (j := 16) (o := Oper.mk none _ _ _ _ _) rfl (by kernel_rfl) (by decide) (fun K hK => ?_)
  rw [if_pos (by rfl)]
  refine wp_store_blk 93 (.tmp 2) (.tmp 60) rfl #[ptr a, ptr b, ptr c, ptr d, ptr e, ptr f, ptr g, ptr j, .bool m.turns] rfl rfl (h.get 11 rfl) (by simp) (by kernel_rfl) (by simp [Value.oneCell', ptr]) (fun w9 k9 hg9 => ?_)
  replace h := h.put 11 rfl ⟨by decide, by simp⟩ k9 hg9
  simp only [List.set_cons_succ, List.set_cons_zero] at h
  clear k9 hg9
  refine hK.out _ _ ?_
  clear hK K
  try simp only [Act.put, List.setIfInBounds_toArray, List.set_cons_zero, List.set_cons_succ]
  refine wpHK_assign (j := 17) (o := Oper.mk (some 3) _ _ _ _ _) rfl (by kernel_rfl) (by decide) rfl rfl ?_
  try simp only [Act.put, List.setIfInBounds_toArray, List.set_cons_zero, List.set_cons_succ]
  refine wpHK_done (by kernel_rfl) ?_ _
  refine NoPanic.normal ?_
  go_wp2_with fail
  refine bodyPost_ret (results_row_tmp rfl _ _ _ _ _ (by rfl) (h.get 11 rfl) Tryz.underlying93 rfl (by kernel_rfl)) rfl ?_
  obtain ⟨xo, xz, xj, xg, xf, xe, xd, xc, xb, xa, _⟩ := h.fact
  exact ⟨_, rfl, ⟨_, _, _, _, _, _, _, _, rfl, xa, xb, xc, xd, xe, xf, xg, xj⟩, h.bel⟩
 ·have H1 := Lib.hid (show decide ((m.c.sub one_).Zero) = false from decide_eq_false (sub_one_ne hc))
  have H2 := Lib.hid (show decide (m.c.Zero) = true from decide_eq_true hc)
  have H3 := Lib.hid (show decide ((m.d.sub one_).Zero) = true from decide_eq_true (by rw [hd]; exact sub_self_zero _))
  clear hc hd
  refine wp_region_noPanic ?_
  refine wp_region_HK (fun w' => St w w' _ _) 16 (by kernel_rfl) h.drew (fun hHeld => ?_)
  replace h := h.drew
  clear hHeld
  refine wpHK_take (i := 0) (oi := Oper.mk (some 60) _ _ _ _ _) (v := .agg #[ptr a, ptr b, ptr c, ptr d, ptr e, ptr f, ptr g, ptr j, .bool m.turns]) rfl (by kernel_rfl) (by kernel_rfl) (by kernel_rfl) (by kernel_rfl) (fun _ _ _ h => h) (Or.inl ⟨by rfl, ?_⟩) h ?_
  ·intro w' hS
   exact run_load_all 93 (.tmp 4) rfl gm rfl _ (hS.get 10 rfl) Tryz.underlying93 rfl (by kernel_rfl)
  try simp only [Act.put, List.setIfInBounds_toArray, List.set_cons_zero, List.set_cons_succ]
  refine wpHK_pure (i := 1) (oi := Oper.mk (some 61) _ _ _ _ _) (v := .pointer (some ⟨gm, 4, none⟩)) rfl (by kernel_rfl) (by kernel_rfl) (by kernel_rfl) (fun _ _ _ h => h) (Or.inl ⟨by rfl, ?_⟩) ?_
  ·intro w' hS
   go_simp
  try simp only [Act.put, List.setIfInBounds_toArray, List.set_cons_zero, List.set_cons_succ]
  refine wpHK_take (i := 2) (oi := Oper.mk (some 62) _ _ _ _ _) (v := .agg #[ptr e, ptr f]) rfl (by kernel_rfl) (by kernel_rfl) (by kernel_rfl) (by kernel_rfl) (fun _ _ _ h => h) (Or.inl ⟨by rfl, ?_⟩) h ?_
  ·intro w' hS
   exact run_load_part 83 (.tmp 61) rfl gm 4 rfl #[ptr e, ptr f] _ (hS.get 10 rfl) rfl Tryz.underlying83 rfl (by kernel_rfl)
  try simp only [Act.put, List.setIfInBounds_toArray, List.set_cons_zero, List.set_cons_succ]
  refine wpHK_take (i := 3) (oi := Oper.mk (some 63) _ _ _ _ _) (v := .agg #[ptr o, ptr z]) rfl (by kernel_rfl) (by kernel_rfl) (by kernel_rfl) (by kernel_rfl) (fun _ _ _ h => h) (Or.inl ⟨by rfl, ?_⟩) h ?_
  ·intro w' hS
   exact run_load_part 83 (.tmp 10) rfl g1 0 rfl #[ptr o, ptr z] _ (hS.get 0 rfl) rfl Tryz.underlying83 rfl (by kernel_rfl)
  try simp only [Act.put, List.setIfInBounds_toArray, List.set_cons_zero, List.set_cons_succ]
  refine wpHK_one (j := 4) (o := Oper.mk (some 64) _ _ _ _ _) rfl (by kernel_rfl) (fun K hK => ?_)
  go_simp
  obtain ⟨xo, xz, xj, xg, xf, xe, xd, xc, xb, xa, _⟩ := h.fact
  refine (same_any (n := n + 8) (IsNum.up (z := m.c) ⟨_, _, rfl, xe, xf⟩ (by omega)) (IsNum.up (z := one_) ⟨_, _, rfl, xo, xz⟩ (by omega)) (by omega)).mono ?_
  rintro _ Y4 ⟨v5, rfl, hv5, hb2⟩
  rw [H1.out] at hv5
  subst hv5
  clear xo xz xa xb xc xd xe xf xg xj
  replace h := h.call hb2
  clear hb2
  refine hK.out _ _ h (fun _ => ?_)
  clear hK K
  try simp only [Act.put, List.setIfInBounds_toArray, List.set_cons_zero, List.set_cons_succ]
  refine wpHK_pure (i := 5) (oi := Oper.mk (some 65) _ _ _ _ _) (v := .bool false) rfl (by kernel_rfl) (by kernel_rfl) (by kernel_rfl) (fun _ _ _ h => h) (Or.inl ⟨by rfl, ?_⟩) ?_
  ·intro w' hS
   go_simp
  try simp only [Act.put, List.setIfInBounds_toArray, List.set_cons_zero, List.set_cons_succ]
  refine wpHK_pure (i := 6) (oi := Oper.mk (some 66) _ _ _ _ _) (v := .pointer (some ⟨gm, 4, none⟩)) rfl (by kernel_rfl) (by kernel_rfl) (by kernel_rfl) (fun _ _ _ h => h) (Or.inl ⟨by rfl, ?_⟩) ?_
  ·intro w' hS
   go_simp
  try simp only [Act.put, List.setIfInBounds_toArray, List.set_cons_zero, List.set_cons_succ]
  refine wpHK_take (i := 7) (oi := Oper.mk (some 67) _ _ _ _ _) (v := .agg #[ptr e, ptr f]) rfl (by kernel_rfl) (by kernel_rfl) (by kernel_rfl) (by kernel_rfl) (fun _ _ _ h => h) (Or.inl ⟨by rfl, ?_⟩) h ?_
  ·intro w' hS
   exact run_load_part 83 (.tmp 66) rfl gm 4 rfl #[ptr e, ptr f] _ (hS.get 10 rfl) rfl Tryz.underlying83 rfl (by kernel_rfl)
  try simp only [Act.put, List.setIfInBounds_toArray, List.set_cons_zero, List.set_cons_succ]
  refine wpHK_one (j := 8) (o := Oper.mk (some 68) _ _ _ _ _) rfl (by kernel_rfl) (fun K hK => ?_)
  go_simp
  obtain ⟨xo, xz, xj, xg, xf, xe, xd, xc, xb, xa, _⟩ := h.fact
  refine (zero_any (z := m.c) ⟨_, _, rfl, xe, xf⟩).mono ?_
  rintro _ Y8 ⟨v5, rfl, hv5, hb2⟩
  rw [H2.out] at hv5
  subst hv5
  clear xo xz xa xb xc xd xe xf xg xj
  replace h := h.call hb2
  clear hb2
  refine hK.out _ _ h (fun _ => ?_)
  clear hK K
  try simp only [Act.put, List.setIfInBounds_toArray, List.set_cons_zero, List.set_cons_succ]
  refine wpHK_pure (i := 9) (oi := Oper.mk (some 69) _ _ _ _ _) (v := .bool true) rfl (by kernel_rfl) (by kernel_rfl) (by kernel_rfl) (fun _ _ _ h => h) (Or.inl ⟨by rfl, ?_⟩) ?_
  ·intro w' hS
   go_simp
  try simp only [Act.put, List.setIfInBounds_toArray, List.set_cons_zero, List.set_cons_succ]
  refine wpHK_pure (i := 10) (oi := Oper.mk (some 70) _ _ _ _ _) (v := .pointer (some ⟨gm, 6, none⟩)) rfl (by kernel_rfl) (by kernel_rfl) (by kernel_rfl) (fun _ _ _ h => h) (Or.inl ⟨by rfl, ?_⟩) ?_
  ·intro w' hS
   go_simp
  try simp only [Act.put, List.setIfInBounds_toArray, List.set_cons_zero, List.set_cons_succ]
  refine wpHK_take (i := 11) (oi := Oper.mk (some 71) _ _ _ _ _) (v := .agg #[ptr g, ptr j]) rfl (by kernel_rfl) (by kernel_rfl) (by kernel_rfl) (by kernel_rfl) (fun _ _ _ h => h) (Or.inl ⟨by rfl, ?_⟩) h ?_
  ·intro w' hS
   exact run_load_part 83 (.tmp 70) rfl gm 6 rfl #[ptr g, ptr j] _ (hS.get 10 rfl) rfl Tryz.underlying83 rfl (by kernel_rfl)
  try simp only [Act.put, List.setIfInBounds_toArray, List.set_cons_zero, List.set_cons_succ]
  refine wpHK_take (i := 12) (oi := Oper.mk (some 72) _ _ _ _ _) (v := .agg #[ptr o, ptr z]) rfl (by kernel_rfl) (by kernel_rfl) (by kernel_rfl) (by kernel_rfl) (fun _ _ _ h => h) (Or.inl ⟨by rfl, ?_⟩) h ?_
  ·intro w' hS
   exact run_load_part 83 (.tmp 10) rfl g1 0 rfl #[ptr o, ptr z] _ (hS.get 0 rfl) rfl Tryz.underlying83 rfl (by kernel_rfl)
  try simp only [Act.put, List.setIfInBounds_toArray, List.set_cons_zero, List.set_cons_succ]
  refine wpHK_one (j := 13) (o := Oper.mk (some 73) _ _ _ _ _) rfl (by kernel_rfl) (fun K hK => ?_)
  go_simp
  obtain ⟨xo, xz, xj, xg, xf, xe, xd, xc, xb, xa, _⟩ := h.fact
  refine (same_any (n := n + 8) (IsNum.up (z := m.d) ⟨_, _, rfl, xg, xj⟩ (by omega)) (IsNum.up (z := one_) ⟨_, _, rfl, xo, xz⟩ (by omega)) (by omega)).mono ?_
  rintro _ Y13 ⟨v5, rfl, hv5, hb2⟩
  rw [H3.out] at hv5
  subst hv5
  clear xo xz xa xb xc xd xe xf xg xj
  replace h := h.call hb2
  clear hb2
  refine hK.out _ _ h (fun _ => ?_)
  clear hK K
  try simp only [Act.put, List.setIfInBounds_toArray, List.set_cons_zero, List.set_cons_succ]
  refine wpHK_pure (i := 14) (oi := Oper.mk (some 74) _ _ _ _ _) (v := .bool true) rfl (by kernel_rfl) (by kernel_rfl) (by kernel_rfl) (fun _ _ _ h => h) (Or.inl ⟨by rfl, ?_⟩) ?_
  ·intro w' hS
   go_simp
  try simp only [Act.put, List.setIfInBounds_toArray, List.set_cons_zero, List.set_cons_succ]
  refine wpHK_pure (i := 15) (oi := Oper.mk (some 75) _ _ _ _ _) (v := .bool true) rfl (by kernel_rfl) (by kernel_rfl) (by kernel_rfl) (fun _ _ _ h => h) (Or.inl ⟨by rfl, ?_⟩) ?_
  ·intro w' hS
   go_simp
  try simp only [Act.put, List.setIfInBounds_toArray, List.set_cons_zero, List.set_cons_succ]
  refine wpHK_tail (j := 16) (o := Oper.mk none _ _ _ _ _) rfl (by kernel_rfl) (by decide) (fun K hK => ?_)
  rw [if_pos (by rfl)]
  refine wp_store_blk 93 (.tmp 2) (.tmp 60) rfl #[ptr a, ptr b, ptr c, ptr d, ptr e, ptr f, ptr g, ptr j, .bool m.turns] rfl rfl (h.get 11 rfl) (by simp) (by kernel_rfl) (by simp [Value.oneCell', ptr]) (fun w9 k9 hg9 => ?_)
  replace h := h.put 11 rfl ⟨by decide, by simp⟩ k9 hg9
  simp only [List.set_cons_succ, List.set_cons_zero] at h
  clear k9 hg9
  refine hK.out _ _ ?_
  clear hK K
  try simp only [Act.put, List.setIfInBounds_toArray, List.set_cons_zero, List.set_cons_succ]
  refine wpHK_assign (j := 17) (o := Oper.mk (some 3) _ _ _ _ _) rfl (by kernel_rfl) (by decide) rfl rfl ?_
  try simp only [Act.put, List.setIfInBounds_toArray, List.set_cons_zero, List.set_cons_succ]
  refine wpHK_done (by kernel_rfl) ?_ _
  refine NoPanic.normal ?_
  go_wp2_with fail
  refine bodyPost_ret (results_row_tmp rfl _ _ _ _ _ (by rfl) (h.get 11 rfl) Tryz.underlying93 rfl (by kernel_rfl)) rfl ?_
  obtain ⟨xo, xz, xj, xg, xf, xe, xd, xc, xb, xa, _⟩ := h.fact
  exact ⟨_, rfl, ⟨_, _, _, _, _, _, _, _, rfl, xa, xb, xc, xd, xe, xf, xg, xj⟩, h.bel⟩
set_option maxRecDepth 100000 in
set_option maxHeartbeats 8000000 in
theorem at_any {w : World} {v1 v2 : Value} {m : Mx} {z p : Cx} {n : Nat} (h1 : IsMob m n v1) (h2 : IsPt z n v2) (h0 : ¬ m.det.Zero) (hf : m.Formed) (hs : m.send z = some p) (hn : 64 * n + 26 ≤ 8192) :
  Calls Tryz.prog 18 #[v1, v2] w (RetE w (fun v _ => IsPt p (64 * n + 26) v)) := by
 have HS := Lib.hid hs
 have HO := Lib.hid (fun W => open_any (w := W) h1 h0 hf (by omega))
 have HP := Lib.hid (fun W => spot_any (w := W) h2 (by omega))
 obtain ⟨b0, s0, b1, s1, b2, s2, b3, s3, b4, s4, b5, s5, b6, s6, b7, s7, b8, s8, b9, s9, b10, s10, b11, s11, b12, s12, b13, s13, b14, s14, b15, s15, rfl, _⟩ := h1
 obtain ⟨c0, t0, c1, t1, c2, t2, c3, t3, rfl, _, _⟩ := h2
 have h := ((((St.start w).new 29 #[.bool b0, .string s0, .bool b1, .string s1, .bool b2, .string s2, .bool b3, .string s3, .bool b4, .string s4, .bool b5, .string s5, .bool b6, .string s6, .bool b7, .string s7, .bool b8, .string s8, .bool b9, .string s9, .bool b10, .string s10, .bool b11, .string s11, .bool b12, .string s12, .bool b13, .string s13, .bool b14, .string s14, .bool b15, .string s15, .bool m.turns]).new 56 #[.bool false, .bool c0, .string t0, .bool c1, .string t1, .bool c2, .string t2, .bool c3, .string t3]).new 56 #[.bool false, .bool false, .string ⟨#[]⟩, .bool false, .string ⟨#[]⟩, .bool false, .string ⟨#[]⟩, .bool false, .string ⟨#[]⟩])
 simp only [size_alloc] at h
 go_enter Tryz.func18, Tryz.ntmps18
 go_wp2_with (refine wpList_load_all (by rfl) 29 (.tmp 2) (by rfl) (by rfl) _ (h.get 2 rfl) Tryz.underlying29 rfl (by kernel_rfl) ?_)
 generalize hW : (((w.alloc (Obj.cells #[.bool b0, .string s0, .bool b1, .string s1, .bool b2, .string s2, .bool b3, .string s3, .bool b4, .string s4, .bool b5, .string s5, .bool b6, .string s6, .bool b7, .string s7, .bool b8, .string s8, .bool b9, .string s9, .bool b10, .string s10, .bool b11, .string s11, .bool b12, .string s12, .bool b13, .string s13, .bool b14, .string s14, .bool b15, .string s15, .bool m.turns] 29)).alloc (Obj.cells #[.bool false, .bool c0, .string t0, .bool c1, .string t1, .bool c2, .string t2, .bool c3, .string t3] 56)).alloc (Obj.cells #[.bool false, .bool false, .string ⟨#[]⟩, .bool false, .string ⟨#[]⟩, .bool false, .string ⟨#[]⟩, .bool false, .string ⟨#[]⟩] 56)) = V0 at h ⊢
 clear hW
 refine (HO.out _).mono ?_
 rintro _ U1 ⟨_, rfl, ⟨a, b, c, d, e, f, g, j, rfl, xa, xb, xc, xd, xe, xf, xg, xj⟩, hb2⟩
 replace h := (h.call hb2).add (Stb.mx m n _) ⟨a, b, c, d, e, f, g, j, rfl, xa, xb, xc, xd, xe, xf, xg, xj⟩
 clear hb2 xa xb xc xd xe xf xg xj
 go_wp2_with (first | (replace h := h.new 93 #[.pointer none, .pointer none, .pointer none, .pointer none, .pointer none, .pointer none, .pointer none, .pointer none, .bool false]; refine wpList_store_all (by rfl) 93 (.tmp 6) (.tmp 13) (by rfl) #[ptr a, ptr b, ptr c, ptr d, ptr e, ptr f, ptr g, ptr j, .bool m.turns] (by rfl) (by rfl) (h.get 0 rfl) (by simp) (by kernel_rfl) (by simp [Value.oneCell', ptr]) ?_; intro V1 k9 hg9; replace h := h.put 0 rfl ⟨by decide, by simp⟩ k9 hg9; simp only [List.set_cons_succ, List.set_cons_zero] at h; clear k9 hg9) | (refine wpList_load_all (by rfl) 56 (.tmp 3) (by rfl) (by rfl) _ (h.get 2 rfl) Tryz.underlying56 rfl (by kernel_rfl) ?_))
 refine (HP.out _).mono ?_
 rintro _ U2 ⟨_, rfl, ⟨x, y, rfl, px, py⟩, hb2⟩
 replace h := (h.call hb2).add (G := fun w => IsRat z.re n (ptr x) w ∧ IsRat z.im n (ptr y) w) ((Stb.rat _ _ _).and (Stb.rat _ _ _)) ⟨px, py⟩
 clear hb2 px py
 go_wp2_with (first | (replace h := h.new 97 #[.bool false, .pointer none, .pointer none]; refine wpList_store_all (by rfl) 97 (.tmp 8) (.tmp 18) (by rfl) #[.bool false, ptr x, ptr y] (by rfl) (by rfl) (h.get 0 rfl) (by simp) (by kernel_rfl) (by simp [Value.oneCell', ptr]) ?_; intro V2 k9 hg9; replace h := h.put 0 rfl ⟨by decide, by simp⟩ k9 hg9; simp only [List.set_cons_succ, List.set_cons_zero] at h; clear k9 hg9) | (refine wpList_load_all (by rfl) 93 (.tmp 6) (by rfl) (by rfl) _ (h.get 1 rfl) Tryz.underlying93 rfl (by kernel_rfl) ?_) | (refine wpList_load_all (by rfl) 97 (.tmp 8) (by rfl) (by rfl) _ (h.get 0 rfl) Tryz.underlying97 rfl (by kernel_rfl) ?_))
 refine (send_any h.fact.2.1 ⟨x, y, rfl, h.fact.1.1, h.fact.1.2⟩ (by omega)).mono ?_
 rintro _ U3 ⟨_, rfl, hpl, hb2⟩
 rw [HS.out] at hpl
 have HT := Lib.hid (placetold_any hpl hn)
 replace h := h.call hb2
 clear hb2 hpl
 go_wp2_with fail
 refine HT.out.mono ?_
 rintro _ U4 ⟨_, rfl, ⟨d0, r0, d1, r1, d2, r2, d3, r3, rfl, f1, f2⟩, hb2⟩
 replace h := h.call hb2
 clear hb2
 go_wp2_with (refine wpList_store_all (by rfl) 56 (.tmp 4) (.tmp 31) (by rfl) #[.bool false, .bool d0, .string r0, .bool d1, .string r1, .bool d2, .string r2, .bool d3, .string r3] (by rfl) (by rfl) (h.get 2 rfl) (by simp) (by kernel_rfl) (by simp [Value.oneCell', ptr]) ?_; intro V3 k9 hg9; replace h := h.put 2 rfl ⟨by decide, by simp⟩ k9 hg9; simp only [List.set_cons_succ, List.set_cons_zero] at h; clear k9 hg9)
 refine bodyPost_ret (results_row_tmp rfl _ _ _ _ _ (by rfl) (h.get 2 rfl) Tryz.underlying56 rfl (by kernel_rfl)) rfl ?_
 exact ⟨_, rfl, ⟨_, _, _, _, _, _, _, _, rfl, f1, f2⟩, h.bel⟩
def IsPic (f : Nat) (e0 e1 e2 e3 by_ : Int) (mid : Cx) (v : Value) : Prop := ∃ b0 s0 b1 s1 b2 s2 b3 s3, v = .agg #[.func (.func f) #[] #[], .int .i64 e0, .int .i64 e1, .int .i64 e2, .int .i64 e3, .int .i64 by_, .bool b0, .string s0, .bool b1, .string s1, .bool b2, .string s2, .bool b3, .string s3] ∧ Fv b0 s0 b1 s1 mid.re 8 ∧ Fv b2 s2 b3 s3 mid.im 8
def PicU : Value → Prop := IsPic 103 0 0 1 0 2 ⟨((0 : Int) : Rat), ((1 : Int) : Rat)⟩
def PicR : Value → Prop := IsPic 105 1 0 0 (-1) 1 ⟨((0 : Int) : Rat), ((0 : Int) : Rat)⟩
set_option maxRecDepth 100000 in
set_option maxHeartbeats 4000000 in
theorem hup_any {w : World} {v : Value} {z : Cx} {n : Nat} (h1 : IsNum z n v w) (hn : n ≤ 1000000) :
  Calls Tryz.prog 103 #[v] w (Ret w (IsRat z.im n)) := by
 obtain ⟨_, _, rfl, pa, pb⟩ := h1
 obtain ⟨a, rfl⟩ := pa.ptr
 obtain ⟨b, rfl⟩ := pb.ptr
 have hb := new_below w (.cells #[ptr a, ptr b] 83)
 have HP := Lib.hid (parts_any ⟨_, _, rfl, pa.below hb, pb.below hb⟩ hn)
 clear pa pb
 go_enter Tryz.func103, Tryz.ntmps103
 go_wp2_with fail
 refine HP.out.mono ?_
 rintro _ w2 ⟨x, y, rfl, hx, hy, hb2⟩
 go_wp2_with fail
 go_ret
 exact ⟨_, rfl, hy, hb.trans (hb2.mono hb.size)⟩
set_option maxRecDepth 100000 in
set_option maxHeartbeats 4000000 in
theorem hround_any {w : World} {v : Value} {z : Cx} {n : Nat} (h1 : IsNum z n v w) (hn : n ≤ 100000) :
  Calls Tryz.prog 105 #[v] w (Ret w (IsRat (((1 : Int) : Rat) - z.norm) (8 * n + 17))) := by
 obtain ⟨_, _, rfl, pa, pb⟩ := h1
 obtain ⟨a, rfl⟩ := pa.ptr
 obtain ⟨b, rfl⟩ := pb.ptr
 go_enter Tryz.func105, Tryz.ntmps105
 go_wp2_with fail
 have hbw : Below w.heap.size w (w.alloc (Obj.cells #[ptr a, ptr b] 83)) := ((Below.refl _ _).alloc (Nat.le_refl _) _)
 have k0 : Blk (w.alloc (Obj.cells #[ptr a, ptr b] 83)) (w.heap.size) 83 #[ptr a, ptr b] := ((Blk.new w 83 #[ptr a, ptr b])).cast (by simp)
 generalize hW : (w.alloc (Obj.cells #[ptr a, ptr b] 83)) = W at *
 clear hW
 have pa := pa.below hbw
 have pb := pb.below hbw
 refine wp_region_noPanic ?_
 refine wp_region_list (mk := ?mk) ratZ_vgs [IsRat ((1 : Int) : Rat) 8, Is (.agg #[(ptr a), (ptr b)]), IsRat z.norm (4 * n + 1), IsRat (((1 : Int) : Rat) - z.norm) (8 * n + 17), IsRat (((1 : Int) : Rat) - z.norm) (8 * n + 17)] [.plain, .plain, .plain, .plain, .plain] 5 0 (fun w' => Blk w' (w.heap.size) 83 #[ptr a, ptr b] ∧ IsRat z.re n (ptr a) w' ∧ IsRat z.im n (ptr b) w' ∧ True) ⟨isRat_steady _ _ _, is_steady _ _ _, isRat_steady _ _ _, isRat_steady _ _ _, isRat_steady _ _ _, trivial⟩ (by kernel_rfl) (by kernel_rfl) (by kernel_rfl) (by kernel_rfl) (by kernel_rfl) (by kernel_rfl) ?hmk (fun w' hB => ⟨k0.below hB k0.lt, pa.below hB, pb.below hB, trivial⟩)
  (steps_all (steps_cons ?_ (steps_cons ?_ (steps_cons ?_ (steps_cons ?_ (steps_cons ?_ steps_nil)))))) ?_
 case hmk =>
  intro u
  simp only [mkFrom, mkL, dstOf, List.range, List.range.loop, Act.put, List.setIfInBounds_toArray, List.set_cons_zero, List.set_cons_succ, List.getElem?_toArray, List.getElem?_cons_zero, List.getElem?_cons_succ, Option.bind_some]
  rfl
 ·refine step_call (o := Oper.mk (some 3) _ _ _ _ _) rfl rfl rfl (fun u ws hc hd => ?_)
  obtain ⟨k0, pa, pb, _⟩ := hc
  have HC := Lib.hid (plnum_any (w := ws) (z := 1) (by decide))
  refine ⟨53, #[(.int .i64 1)], ?_, HC.out⟩
  ·clear HC; go_simp
 ·refine step_is (o := Oper.mk (some 4) _ _ _ _ _) rfl rfl rfl rfl (fun u ws hc hd => ?_)
  obtain ⟨k0, pa, pb, _⟩ := hc
  exact run_load_part 83 (.tmp 1) rfl (w.heap.size) 0 rfl #[(ptr a), (ptr b)] _ k0 rfl Tryz.underlying83 rfl (by kernel_rfl)
 ·refine step_call (o := Oper.mk (some 5) _ _ _ _ _) rfl rfl rfl (fun u ws hc hd => ?_)
  obtain ⟨k0, pa, pb, _⟩ := hc
  have d1 : u 1 = _ := hd 1 (by kernel_rfl) (by decide)
  have HC := Lib.hid (upR (m := (4 * n + 1)) (norm_any (⟨_, _, rfl, pa, pb⟩ : IsNum z n _ _) (by omega)) (by omega))
  refine ⟨69, #[(.agg #[(ptr a), (ptr b)])], ?_, HC.out⟩
  ·clear HC; go_simp
 ·refine step_call (o := Oper.mk (some 6) _ _ _ _ _) rfl rfl rfl (fun u ws hc hd => ?_)
  obtain ⟨k0, pa, pb, _⟩ := hc
  have HC := Lib.hid (upR (m := (8 * n + 17)) (plsub_any (n := (4 * n + 8)) (IsRat.up (hd 0 (by kernel_rfl) (by decide) : IsRat ((1 : Int) : Rat) 8 (u 0) ws) (by omega)) (IsRat.up (hd 2 (by kernel_rfl) (by decide) : IsRat z.norm (4 * n + 1) (u 2) ws) (by omega)) (by omega)) (by omega))
  refine ⟨106, #[u 0, u 2], ?_, HC.out⟩
  ·clear HC; go_simp
 ·refine step_val (o := Oper.mk (some 2) _ _ _ _ _) rfl rfl rfl (fun u ws hc hd => ⟨u 3, ?_, (hd 3 (by kernel_rfl) (by decide) : IsRat (((1 : Int) : Rat) - z.norm) (8 * n + 17) (u 3) ws)⟩)
  go_simp
 ·intro u w1 hb1 hf hn1
  have f4 : IsRat _ _ (u 4) w1 := hf 4 (by decide) (by decide)
  refine wpAny_end (by kernel_rfl) ?_
  refine NoPanic.normal ?_
  clear hf hn1
  go_wp2_with fail
  go_ret
  exact ⟨_, rfl, f4, hbw.trans (hb1.mono hbw.size)⟩
set_option maxRecDepth 100000 in
set_option maxHeartbeats 4000000 in
theorem pictures_any {w : World} : Calls Tryz.prog 76 #[] w (fun e w' => ∃ b0 s0 b1 s1 b2 s2 b3 s3 b4 s4 b5 s5 b6 s6 b7 s7, e = .returned (.agg #[.func (.func 103) #[] #[], .int .i64 0, .int .i64 0, .int .i64 1, .int .i64 0, .int .i64 2, .bool b0, .string s0, .bool b1, .string s1, .bool b2, .string s2, .bool b3, .string s3, .func (.func 105) #[] #[], .int .i64 1, .int .i64 0, .int .i64 0, .int .i64 (-1), .int .i64 1, .bool b4, .string s4, .bool b5, .string s5, .bool b6, .string s6, .bool b7, .string s7]) ∧ Fv b0 s0 b1 s1 ((0 : Int) : Rat) 8 ∧ Fv b2 s2 b3 s3 ((1 : Int) : Rat) 8 ∧ Fv b4 s4 b5 s5 ((0 : Int) : Rat) 8 ∧ Fv b6 s6 b7 s7 ((0 : Int) : Rat) 8 ∧ Below w.heap.size w w') := by
 have h := (St.start w).new 140 #[.nilFunc, .int .i64 0, .int .i64 0, .int .i64 0, .int .i64 0, .int .i64 0, .bool false, .string ⟨#[]⟩, .bool false, .string ⟨#[]⟩, .bool false, .string ⟨#[]⟩, .bool false, .string ⟨#[]⟩, .nilFunc, .int .i64 0, .int .i64 0, .int .i64 0, .int .i64 0, .int .i64 0, .bool false, .string ⟨#[]⟩, .bool false, .string ⟨#[]⟩, .bool false, .string ⟨#[]⟩, .bool false, .string ⟨#[]⟩]
 go_enter Tryz.func76, Tryz.ntmps76
 go_wp2_with fail
 generalize hW : w.alloc _ = V0 at h ⊢
 clear hW
 refine (gaussint_any (re := 0) (im := 1) (by decide) (by decide)).mono ?_
 rintro _ U1 ⟨_, rfl, ⟨b0, s0, b1, s1, b2, s2, b3, s3, rfl, f1, f2⟩, hb2⟩
 replace h := h.call hb2
 clear hb2
 go_wp2_with fail
 refine (gaussint_any (re := 0) (im := 0) (by decide) (by decide)).mono ?_
 rintro _ U2 ⟨_, rfl, ⟨b4, s4, b5, s5, b6, s6, b7, s7, rfl, f3, f4⟩, hb2⟩
 replace h := h.call hb2
 clear hb2
 go_wp2_with (refine wpList_store_all (by rfl) 140 (.tmp 0) (.tmp 7) (by rfl) #[.func (.func 103) #[] #[], .int .i64 0, .int .i64 0, .int .i64 1, .int .i64 0, .int .i64 2, .bool b0, .string s0, .bool b1, .string s1, .bool b2, .string s2, .bool b3, .string s3, .func (.func 105) #[] #[], .int .i64 1, .int .i64 0, .int .i64 0, .int .i64 (-1), .int .i64 1, .bool b4, .string s4, .bool b5, .string s5, .bool b6, .string s6, .bool b7, .string s7] (by rfl) (by rfl) (h.get 0 rfl) (by simp) (by kernel_rfl) (by simp [Value.oneCell', ptr]) ?_; intro V1 k9 hg9; replace h := h.put 0 rfl ⟨by decide, by simp⟩ k9 hg9; simp only [List.set_cons_succ, List.set_cons_zero] at h; clear k9 hg9)
 refine bodyPost_ret (results_row1 rfl _ _ _ _ _ (by rfl) (h.get 0 rfl) Tryz.underlying140 rfl (by kernel_rfl)) rfl ?_
 exact ⟨_, _, _, _, _, _, _, _, _, _, _, _, _, _, _, _, rfl, f1, f2, f3, f4, h.bel⟩
set_option maxRecDepth 100000 in
set_option maxHeartbeats 4000000 in
theorem of_up {w : World} : Calls Tryz.prog 36 #[.int .i64 1] w (RetB w (fun v _ => PicU v) true) := by
 have h := (St.start w).new 75 #[.nilFunc, .int .i64 0, .int .i64 0, .int .i64 0, .int .i64 0, .int .i64 0, .bool false, .string ⟨#[]⟩, .bool false, .string ⟨#[]⟩, .bool false, .string ⟨#[]⟩, .bool false, .string ⟨#[]⟩]
 go_enter Tryz.func36, Tryz.ntmps36
 go_wp2_with fail
 generalize hW : w.alloc _ = V0 at h ⊢
 clear hW
 refine pictures_any.mono ?_
 rintro _ U1 ⟨b0, s0, b1, s1, b2, s2, b3, s3, b4, s4, b5, s5, b6, s6, b7, s7, rfl, f1, f2, f3, f4, hb2⟩
 replace h := h.call hb2
 clear hb2
 go_wp2_with (first | (refine wpList_index_row (by rfl) 140 (.tmp 8) (.tmp 10) (by rfl) 75 2 (by rfl) 0 (by rfl) #[.func (.func 103) #[] #[], .int .i64 0, .int .i64 0, .int .i64 1, .int .i64 0, .int .i64 2, .bool b0, .string s0, .bool b1, .string s1, .bool b2, .string s2, .bool b3, .string s3] _ Tryz.underlying140 (by decide) Tryz.underlying75 rfl (by kernel_rfl) (by rfl) ?_) | (refine wpList_store_all (by rfl) 75 (.tmp 2) (.tmp 11) (by rfl) #[.func (.func 103) #[] #[], .int .i64 0, .int .i64 0, .int .i64 1, .int .i64 0, .int .i64 2, .bool b0, .string s0, .bool b1, .string s1, .bool b2, .string s2, .bool b3, .string s3] (by rfl) (by rfl) (h.get 0 rfl) (by simp) (by kernel_rfl) (by simp [Value.oneCell', ptr]) ?_; intro V1 k9 hg9; replace h := h.put 0 rfl ⟨by decide, by simp⟩ k9 hg9; simp only [List.set_cons_succ, List.set_cons_zero] at h; clear k9 hg9))
 refine bodyPost_ret (results_row_tmp rfl _ _ _ _ _ (by rfl) (h.get 0 rfl) Tryz.underlying75 rfl (by kernel_rfl)) rfl ?_
 exact ⟨_, rfl, ⟨_, _, _, _, _, _, _, _, rfl, f1, f2⟩, h.bel⟩
set_option maxRecDepth 100000 in
set_option maxHeartbeats 4000000 in
theorem of_round {w : World} : Calls Tryz.prog 36 #[.int .i64 2] w (RetB w (fun v _ => PicR v) true) := by
 have h := (St.start w).new 75 #[.nilFunc, .int .i64 0, .int .i64 0, .int .i64 0, .int .i64 0, .int .i64 0, .bool false, .string ⟨#[]⟩, .bool false, .string ⟨#[]⟩, .bool false, .string ⟨#[]⟩, .bool false, .string ⟨#[]⟩]
 go_enter Tryz.func36, Tryz.ntmps36
 go_wp2_with fail
 generalize hW : w.alloc _ = V0 at h ⊢
 clear hW
 refine pictures_any.mono ?_
 rintro _ U1 ⟨b0, s0, b1, s1, b2, s2, b3, s3, b4, s4, b5, s5, b6, s6, b7, s7, rfl, f1, f2, f3, f4, hb2⟩
 replace h := h.call hb2
 clear hb2
 go_wp2_with (first | (refine wpList_index_row (by rfl) 140 (.tmp 8) (.tmp 10) (by rfl) 75 2 (by rfl) 1 (by rfl) #[.func (.func 105) #[] #[], .int .i64 1, .int .i64 0, .int .i64 0, .int .i64 (-1), .int .i64 1, .bool b4, .string s4, .bool b5, .string s5, .bool b6, .string s6, .bool b7, .string s7] _ Tryz.underlying140 (by decide) Tryz.underlying75 rfl (by kernel_rfl) (by rfl) ?_) | (refine wpList_store_all (by rfl) 75 (.tmp 2) (.tmp 11) (by rfl) #[.func (.func 105) #[] #[], .int .i64 1, .int .i64 0, .int .i64 0, .int .i64 (-1), .int .i64 1, .bool b4, .string s4, .bool b5, .string s5, .bool b6, .string s6, .bool b7, .string s7] (by rfl) (by rfl) (h.get 0 rfl) (by simp) (by kernel_rfl) (by simp [Value.oneCell', ptr]) ?_; intro V1 k9 hg9; replace h := h.put 0 rfl ⟨by decide, by simp⟩ k9 hg9; simp only [List.set_cons_succ, List.set_cons_zero] at h; clear k9 hg9))
 refine bodyPost_ret (results_row_tmp rfl _ _ _ _ _ (by rfl) (h.get 0 rfl) Tryz.underlying75 rfl (by kernel_rfl)) rfl ?_
 exact ⟨_, rfl, ⟨_, _, _, _, _, _, _, _, rfl, f3, f4⟩, h.bel⟩
end Go.Proofs.YtebpggfccljagaaGreat
namespace Go.Proofs.YtebpggfccljagaaGreat
open Go Go.RowKit
structure RowC (cur : Array Value) (cap n size : Nat) (xs : List Value) : Prop where
 le : n ≤ cap
 max : cap ≤ maxLen
 full : cur.size = cap * size
 take : cur.toList.take (n * size) = xs
 len : xs.length = n * size
theorem RowC.nth {cur : Array Value} {cap n size : Nat} {xs : List Value} (h : RowC cur cap n size xs) {j : Nat} {v : Value} (hj : xs[j]? = some v) : cur[j]? = some v := by
 rw [← h.take, List.getElem?_take] at hj
 split at hj
 ·rw [← hj, Array.getElem?_toList]
 ·cases hj
theorem RowC.of_own {w : World} {B : Nat} {e : TypeId} {size n : Nat} {v : Value} {xs : List Value} (h : w.ownsRow B e size v n xs) (hn : 0 < n) : ∃ g cap cur, v = .slice (some ⟨g, 0, none⟩) n cap ∧ B ≤ g ∧ Blk w g e cur ∧ RowC cur cap n size xs := by
 rcases h.2 with ⟨_, h0⟩ | ⟨g, cap, cur, hv, hb, hg, h1, h2, h3, h4⟩
 ·omega
 ·exact ⟨g, cap, cur, hv, hb, hg, ⟨h1, h2, h3, h4, h.1⟩⟩
theorem RowC.own {w : World} {B g : Nat} {e : TypeId} {size n cap : Nat} {cur : Array Value} {xs : List Value} (h : RowC cur cap n size xs) (hb : Blk w g e cur) (hB : B ≤ g) : w.ownsRow B e size (.slice (some ⟨g, 0, none⟩) n cap) n xs :=
 ⟨h.len, .inr ⟨g, cap, cur, rfl, hB, hb, h.le, h.max, h.full, h.take⟩⟩
theorem reads_blkN {W : World} {g m size : Nat} {e : TypeId} {cs : Array Value} (h : Blk W g e cs) (hs : cs.size = m * size) : Reads W W.heap.size size (some ⟨g, 0, none⟩) m cs.toList := by
 refine ⟨by simpa using hs, fun _ => ⟨_, rfl, h.lt, fun j u hu => ?_⟩⟩
 rw [Addr.add_lit, Nat.zero_add, h.cell j, ← Array.getElem?_toList]
 exact hu
section
variable {w0 W W' : World} {l : List (Nat × TypeId × Array Value)} {F : World → Prop}
theorem mem_erase {x : Nat × TypeId × Array Value} {k : Nat} (h : x ∈ l.eraseIdx k) : ∃ j, j ≠ k ∧ l[j]? = some x := by
 obtain ⟨j, hj⟩ := List.mem_iff_getElem?.1 h
 rw [List.getElem?_eraseIdx] at hj
 split at hj
 ·exact ⟨j, by omega, hj⟩
 ·exact ⟨j + 1, by omega, hj⟩
theorem St.grow (h : St w0 W l F) (k : Nat) {g g' : Nat} {t : TypeId} {cs cur : Array Value} (hk : l[k]? = some (g, t, cs)) (ho : Own t cs) (hg : W.grownBy W' (some g)) (hb : Blk W' g' t cur) (hor : g' = g ∨ g' = W.heap.size) : St w0 W' ((g', t, cur) :: l.eraseIdx k) F where
 bel := h.bel.grown hg h.bel.size (fun r hr => by injection hr with hr; have := h.old _ (List.mem_of_getElem? hk); simp at this; omega)
 blk := by
  intro x hx
  rcases List.mem_cons.1 hx with rfl | hx
  ·exact hb
  ·obtain ⟨j, hjk, hj⟩ := mem_erase hx
   have hne := pw_lt h.ord hk hj hjk
   exact (h.blk x (List.mem_of_getElem? hj)).grown hg (by intro e; injection e with e; exact hne e)
 old := by
  intro x hx
  rcases List.mem_cons.1 hx with rfl | hx
  ·have := h.old _ (List.mem_of_getElem? hk)
   have h2 := h.bel.size
   simp only [] at this ⊢
   rcases hor with rfl | rfl
   ·exact this
   ·exact h2
  ·obtain ⟨j, hjk, hj⟩ := mem_erase hx
   exact h.old x (List.mem_of_getElem? hj)
 ord := by
  refine List.Pairwise.cons (fun y hy => ?_) (h.ord.sublist (List.eraseIdx_sublist ..))
  obtain ⟨j, hjk, hj⟩ := mem_erase hy
  have hne := pw_lt h.ord hk hj hjk
  rcases hor with rfl | rfl
  ·exact hne
  ·exact Nat.ne_of_lt (h.blk y (List.mem_of_getElem? hj)).lt
 fact := h.stb.far h.fact (h.get k hk) ho.1 ho.2 hg
 stb := h.stb
variable {P : Program} {ops : Array Oper} {rest : List Oper} {o : Oper} {a : Act} {Q : Exit → Act → World → Prop}
theorem wpSt_append (hgd : o.guard = none) (s x : Operand) (t : TypeId) (ho : o.op = .call { callee := .builtin .append, args := #[s, x], argTypes := #[t, t] })
  (e : TypeId) (z : Value) (size bytes : Nat) (ht : P.underlying t = some (.slice e)) (hi : (P.info? e).map (fun i => (i.zero, i.size, i.bytes)) = some (some z, size, bytes)) (hzs : z.cells.size = size) (hsz : 0 < size)
  (h : St w0 W l F) (k : Nat) {g cap n : Nat} {cur : Array Value} {xs : List Value} (hk : l[k]? = some (g, e, cur)) (hr : RowC cur cap n size xs) (hs : a.eval s = .slice (some ⟨g, 0, none⟩) n cap) (hown : Own e cur)
  (j : Nat) {gb m c : Nat} {news : Array Value} (hx : a.eval x = .slice (some ⟨gb, 0, none⟩) m c) (hj : l[j]? = some (gb, e, news)) (hns : news.size = m * size) (h1 : ∀ u ∈ news.toList, u.oneCell' = true) (h63 : n + m ≤ 1000000) (hby : bytes ≤ 100000000) (hm : 0 < m)
  (hK : ∀ g' cap' cur' W', RowC cur' cap' (n + m) size (xs ++ news.toList) → St w0 W' ((g', e, cur') :: l.eraseIdx k) F → wpList P ops Q rest (a.put o.dst (.slice (some ⟨g', 0, none⟩) (n + m) cap')) W') : wpList P ops Q (o :: rest) a W := by
 obtain ⟨i, hi1, hi2, hi3, hi4⟩ := info_parts hi
 have hbl := h.get k hk
 have hgo := h.old _ (List.mem_of_getElem? hk)
 refine wpList_append_any W hgd s x t ho w0.heap.size e i z size bytes ht hi1 hi2 hi3 hi4 hzs hsz _ n xs hs (hr.own hbl hgo) _ _ m c news.toList hx (reads_blkN (h.get j hj) hns) h1 (by unfold maxLen; omega) ?_ h.bel.size ?_
 ·have : (n + m) * bytes ≤ 1000000 * 100000000 := Nat.mul_le_mul h63 hby
  omega
 ·intro v' w' hw hg hor
  obtain ⟨g', cap', cur', rfl, _, hb', hrc⟩ := RowC.of_own hw (by omega)
  refine hK g' cap' cur' w' hrc (h.grow k hk hown hg hb' ?_)
  simpa [Value.ownBlock] using hor
theorem wpSt_append0 (hgd : o.guard = none) (s x : Operand) (t : TypeId) (ho : o.op = .call { callee := .builtin .append, args := #[s, x], argTypes := #[t, t] })
  (e : TypeId) (z : Value) (size bytes : Nat) (ht : P.underlying t = some (.slice e)) (hi : (P.info? e).map (fun i => (i.zero, i.size, i.bytes)) = some (some z, size, bytes)) (hzs : z.cells.size = size) (hsz : 0 < size)
  (h : St w0 W l F) (hs : a.eval s = .slice none 0 0)
  (j : Nat) {gb m c : Nat} {news : Array Value} (hx : a.eval x = .slice (some ⟨gb, 0, none⟩) m c) (hj : l[j]? = some (gb, e, news)) (hns : news.size = m * size) (h1 : ∀ u ∈ news.toList, u.oneCell' = true) (h63 : m ≤ 1000000) (hby : bytes ≤ 100000000) (hm : 0 < m)
  (hK : ∀ g' cap' cur' W', RowC cur' cap' m size news.toList → St w0 W' ((g', e, cur') :: l) F → wpList P ops Q rest (a.put o.dst (.slice (some ⟨g', 0, none⟩) m cap')) W') : wpList P ops Q (o :: rest) a W := by
 obtain ⟨i, hi1, hi2, hi3, hi4⟩ := info_parts hi
 refine wpList_append_any W hgd s x t ho w0.heap.size e i z size bytes ht hi1 hi2 hi3 hi4 hzs hsz _ 0 [] hs (World.ownsRow_nil W _ _ _) _ _ m c news.toList hx (reads_blkN (h.get j hj) hns) h1 (by unfold maxLen; omega) ?_ h.bel.size ?_
 ·have : (0 + m) * bytes ≤ 1000000 * 100000000 := Nat.mul_le_mul (by omega) hby
  omega
 ·intro v' w' hw hg hor
  rw [Nat.zero_add, List.nil_append] at hw
  obtain ⟨g', cap', cur', rfl, _, hb', hrc⟩ := RowC.of_own hw hm
  have hg' : g' = W.heap.size := by simpa [Value.ownBlock] using hor
  have hbel : Below W.heap.size W w' := ⟨hg.os, hg.tape, hg.output, hg.size, fun i hi => hg.block i hi (by simp [Value.ownBlock])⟩
  have hlt := h.lts
  exact hK g' cap' cur' w' hrc ((h.call hbel).more hb' (by rw [hg']; exact h.bel.size) (fun x hx => by have := hlt x hx; omega))
end
structure Stw (F : World → Prop) : Prop where
 below : ∀ {w w'}, F w → Below w.heap.size w w' → F w'
 far : ∀ {w w' r t cs}, F w → Blk w r t cs → t ≠ 115 → w.grownBy w' (some r) → F w'
theorem Stw.true_ : Stw fun _ => True := ⟨fun _ _ => trivial, fun _ _ _ _ => trivial⟩
theorem Stw.and {F G : World → Prop} (hF : Stw F) (hG : Stw G) : Stw fun w => F w ∧ G w := ⟨fun h hb => ⟨hF.below h.1 hb, hG.below h.2 hb⟩, fun h a b c => ⟨hF.far h.1 a b c, hG.far h.2 a b c⟩⟩
def OwnT (t : TypeId) (_cs : Array Value) : Prop := t ≠ 115
structure Sw (w0 W : World) (l : List (Nat × TypeId × Array Value)) (F : World → Prop) : Prop where
 bel : Below w0.heap.size w0 W
 blk : ∀ x ∈ l, Blk W x.1 x.2.1 x.2.2
 old : ∀ x ∈ l, w0.heap.size ≤ x.1
 ord : l.Pairwise fun x y => y.1 ≠ x.1
 fact : F W
 stb : Stw F
section
variable {w0 W W' : World} {l : List (Nat × TypeId × Array Value)} {F : World → Prop}
theorem Sw.get (h : Sw w0 W l F) (k : Nat) {g : Nat} {t : TypeId} {cs : Array Value} (hk : l[k]? = some (g, t, cs)) : Blk W g t cs := h.blk _ (List.mem_of_getElem? hk)
theorem Sw.start (w : World) : Sw w w [] fun _ => True := ⟨Below.refl _ _, by simp, by simp, List.Pairwise.nil, trivial, Stw.true_⟩
theorem Sw.call (h : Sw w0 W l F) (hb : Below W.heap.size W W') : Sw w0 W' l F :=
 ⟨h.bel.trans (hb.mono h.bel.size), fun x hx => (h.blk x hx).below hb (h.blk x hx).lt, h.old, h.ord, h.stb.below h.fact hb, h.stb⟩
theorem Sw.add (h : Sw w0 W l F) {G : World → Prop} (hg : Stw G) (hG : G W) : Sw w0 W l (fun w => G w ∧ F w) := ⟨h.bel, h.blk, h.old, h.ord, ⟨hG, h.fact⟩, hg.and h.stb⟩
theorem Sw.rest (h : Sw w0 W l F) {G : World → Prop} (hg : Stw G) (hG : G W) : Sw w0 W l G := ⟨h.bel, h.blk, h.old, h.ord, hG, hg⟩
theorem Sw.new (h : Sw w0 W l F) (t : TypeId) (cs : Array Value) : Sw w0 (W.alloc (.cells cs t)) ((W.heap.size, t, cs) :: l) F where
 bel := h.bel.alloc h.bel.size _
 blk := by
  intro x hx
  rcases List.mem_cons.1 hx with rfl | hx
  ·exact Blk.new W t cs
  ·exact (h.blk x hx).alloc _
 old := by
  intro x hx
  rcases List.mem_cons.1 hx with rfl | hx
  ·exact h.bel.size
  ·exact h.old x hx
 ord := List.Pairwise.cons (fun y hy => Nat.ne_of_lt (h.blk y hy).lt) h.ord
 fact := h.stb.below h.fact (new_below _ _)
 stb := h.stb
theorem Sw.put (h : Sw w0 W l F) (k : Nat) {g : Nat} {t : TypeId} {cs cs' : Array Value} (hk : l[k]? = some (g, t, cs)) (ho : OwnT t cs) (hb : Blk W' g t cs') (hg : W.grownBy W' (some g)) : Sw w0 W' (l.set k (g, t, cs')) F where
 bel := h.bel.grown hg h.bel.size (fun r hr => by injection hr with hr; have := h.old _ (List.mem_of_getElem? hk); simp at this; omega)
 blk := by
  intro x hx
  obtain ⟨j, hj⟩ := List.mem_iff_getElem?.1 hx
  rw [List.getElem?_set] at hj
  split at hj
  ·split at hj
   ·injection hj with hj
    subst hj
    exact hb
   ·cases hj
  ·rename_i hne
   have hne' := pw_lt h.ord hk hj (fun e => hne e.symm)
   exact (h.blk x (List.mem_of_getElem? hj)).grown hg (by intro e; injection e with e; exact hne' e)
 old := by
  intro x hx
  rcases List.mem_or_eq_of_mem_set hx with hx | rfl
  ·exact h.old x hx
  ·exact (show w0.heap.size ≤ g from h.old (g, t, cs) (List.mem_of_getElem? hk))
 ord := by
  rw [List.pairwise_iff_getElem]
  intro i j hi hj hij
  have hh := h.ord
  rw [List.pairwise_iff_getElem] at hh
  have hlt := hh i j (by simpa using hi) (by simpa using hj) hij
  obtain ⟨hk1, hke⟩ := List.getElem?_eq_some_iff.1 hk
  have e1 : ∀ i (hi : i < (l.set k (g, t, cs')).length), ((l.set k (g, t, cs'))[i]).1 = (l[i]'(by simpa using hi)).1 := by
   intro i hi
   rw [List.getElem_set]
   split
   ·rename_i e
    subst e
    rw [hke]
   ·rfl
  rw [e1 i hi, e1 j hj]
  exact hlt
 fact := h.stb.far h.fact (h.get k hk) ho hg
 stb := h.stb
theorem Sw.more (h : Sw w0 W l F) {g : Nat} {t : TypeId} {cs : Array Value} (hg : Blk W g t cs) (ho : w0.heap.size ≤ g) (hn : ∀ x ∈ l, x.1 ≠ g) : Sw w0 W ((g, t, cs) :: l) F where
 bel := h.bel
 blk := by
  intro x hx
  rcases List.mem_cons.1 hx with rfl | hx
  ·exact hg
  ·exact h.blk x hx
 old := by
  intro x hx
  rcases List.mem_cons.1 hx with rfl | hx
  ·exact ho
  ·exact h.old x hx
 ord := List.Pairwise.cons hn h.ord
 fact := h.fact
 stb := h.stb
theorem Sw.lts (h : Sw w0 W l F) : ∀ x ∈ l, x.1 < W.heap.size := fun x hx => (h.blk x hx).lt
end
def IsWh (z : Int) (k : Nat) (v : Value) (w : World) : Prop := ∃ A n c, v = .agg #[.bool (decide (z < 0)), .slice A n c] ∧ SlW w w.heap.size A n c z.natAbs ∧ z.natAbs < 2 ^ k
theorem SlW.below {w w' : World} {A : Option Addr} {n c m : Nat} (h : SlW w w.heap.size A n c m) (hb : Below w.heap.size w w') : SlW w' w'.heap.size A n c m := ⟨h.1, h.2.1, h.2.2.1, (h.2.2.2.below hb).more hb.size⟩
theorem SlW.far {w w' : World} {A : Option Addr} {n c m r : Nat} {t : TypeId} {cs : Array Value} (h : SlW w w.heap.size A n c m) (hk : Blk w r t cs) (ht : t ≠ 115) (hg : w.grownBy w' (some r)) : SlW w' w'.heap.size A n c m := by
 refine ⟨h.1, h.2.1, h.2.2.1, (h.2.2.2.other hg (Nat.le_refl _) fun q e => ?_).more hg.size⟩
 injection e with e
 subst e
 exact ⟨_, _, _, hk, ht⟩
theorem IsWh.below {z : Int} {k : Nat} {v : Value} {w w' : World} (h : IsWh z k v w) (hb : Below w.heap.size w w') : IsWh z k v w' := by
 obtain ⟨A, n, c, rfl, h1, h2⟩ := h
 exact ⟨A, n, c, rfl, h1.below hb, h2⟩
theorem IsWh.far {z : Int} {k r : Nat} {v : Value} {w w' : World} {t : TypeId} {cs : Array Value} (h : IsWh z k v w) (hk : Blk w r t cs) (ht : t ≠ 115) (hg : w.grownBy w' (some r)) : IsWh z k v w' := by
 obtain ⟨A, n, c, rfl, h1, h2⟩ := h
 exact ⟨A, n, c, rfl, h1.far hk ht hg, h2⟩
theorem IsWh.up {z : Int} {k j : Nat} {v : Value} {w : World} (h : IsWh z k v w) (hj : k ≤ j) : IsWh z j v w := by
 obtain ⟨A, n, c, rfl, h1, h2⟩ := h
 exact ⟨A, n, c, rfl, h1, Nat.lt_of_lt_of_le h2 (Nat.pow_le_pow_right (by decide) hj)⟩
theorem Stw.wh (z : Int) (k : Nat) (v : Value) : Stw (IsWh z k v) := ⟨fun h hb => h.below hb, fun h a b c => h.far a b c⟩
end Go.Proofs.YtebpggfccljagaaGreat
namespace Go.Proofs.YtebpggfccljagaaGreat
open Go.RowKit
open Wh
set_option linter.unusedSimpArgs false
theorem slw_pos {w : World} {B n c m : Nat} {A : Option Addr} (h : SlW w B A n c m) : (0 < n ↔ 0 < m) := by
 rw [h.1.out]
 rcases Nat.eq_zero_or_pos m with h0 | h0
 ·subst h0; simp [wds_zero]
 ·rw [wds_pos h0]; simp [h0]
set_option maxRecDepth 100000 in
set_option maxHeartbeats 2000000 in
theorem wnot_any {w : World} {v : Value} {z : Int} {k : Nat} (hv : IsWh z k v w) : Calls Tryz.prog 35 #[v] w (Ret w (IsWh (-z) k)) := by
 obtain ⟨A, n, c, rfl, hs, hz⟩ := hv
 have hn := slw_pos hs
 have Fin : Hid (∀ (b : Bool) (W : World), b = decide (-z < 0) → SlW W W.heap.size A n c z.natAbs → IsWh (-z) k (.agg #[.bool b, .slice A n c]) W) := Lib.hid fun b W hb hW => ⟨A, n, c, by rw [hb], by rw [Int.natAbs_neg]; exact hW, by rw [Int.natAbs_neg]; exact hz⟩
 have HZ := Lib.hid hz
 clear hz
 rcases Int.lt_trichotomy z 0 with h0 | h0 | h0
 ·rw [decide_eq_true h0]
  have Hb := Lib.hid (show false = decide (-z < 0) from (decide_eq_false (by omega)).symm)
  clear h0 hn
  have h := (((Sw.start w).new 35 #[.bool true, .slice A n c]).new 35 #[.bool false, .slice A n c])
  simp only [size_alloc] at h
  have hS := Lib.hid (hs.below h.bel)
  have HH := Lib.hid h
  clear hs h
  go_enter Tryz.func35, Tryz.ntmps35
  go_wp2_with fail
  refine bodyPost_ret (results_row1 rfl _ _ _ _ _ (by rfl) (HH.out.get 0 rfl) Tryz.underlying35 rfl (by kernel_rfl)) rfl ?_
  exact ⟨_, rfl, Fin.out _ _ Hb.out hS.out, HH.out.bel⟩
 ·subst h0
  have Hb := Lib.hid (show false = decide (-(0 : Int) < 0) from (decide_eq_false (by omega)).symm)
  have hn0 : n = 0 := by
   have := hn.1
   simp at this
   omega
  subst hn0
  rw [decide_eq_false (by omega)]
  clear hn
  have h := (((Sw.start w).new 35 #[.bool false, .slice A 0 c]).new 35 #[.bool false, .slice A 0 c])
  simp only [size_alloc] at h
  have hS := Lib.hid (hs.below h.bel)
  have HH := Lib.hid h
  clear hs h
  go_enter Tryz.func35, Tryz.ntmps35
  go_wp2_with fail
  refine bodyPost_ret (results_row1 rfl _ _ _ _ _ (by rfl) (HH.out.get 0 rfl) Tryz.underlying35 rfl (by kernel_rfl)) rfl ?_
  exact ⟨_, rfl, Fin.out _ _ Hb.out hS.out, HH.out.bel⟩
 ·rw [decide_eq_false (by omega)]
  have Hb := Lib.hid (show true = decide (-z < 0) from (decide_eq_true (by omega)).symm)
  have hni : 0 < n := hn.2 (by omega)
  clear h0 hn
  have h := (((Sw.start w).new 35 #[.bool false, .slice A n c]).new 35 #[.bool true, .slice A n c])
  simp only [size_alloc] at h
  have hS := Lib.hid (hs.below h.bel)
  have HH := Lib.hid h
  clear hs h
  go_enter Tryz.func35, Tryz.ntmps35
  go_wp2_with fail
  refine bodyPost_ret (results_row1 rfl _ _ _ _ _ (by rfl) (HH.out.get 0 rfl) Tryz.underlying35 rfl (by kernel_rfl)) rfl ?_
  exact ⟨_, rfl, Fin.out _ _ Hb.out hS.out, HH.out.bel⟩
theorem Stw.sl (A : Option Addr) (n c m : Nat) : Stw fun w => SlW w w.heap.size A n c m := ⟨fun h hb => h.below hb, fun h a b c => h.far a b c⟩
theorem Sw.drew {w0 W : World} {l : List (Nat × TypeId × Array Value)} {F : World → Prop} (h : Sw w0 W l F) : Sw w0 W.drew l F := h.call (Below.refl _ _).drew
def RetS (w : World) (b : Bool) (m : Nat) (e : Ending) (w' : World) : Prop := ∃ D p q, e = .returned (.agg #[.bool b, .slice D p q]) ∧ SlW w' w'.heap.size D p q m ∧ Below w.heap.size w w'
theorem CutW.sl {w w' : World} {N : Nat} {e : Ending} (h : CutW w N e w') : ∃ D p q, e = .returned (.slice D p q) ∧ SlW w' w'.heap.size D p q N ∧ Below w.heap.size w w' := by
 obtain ⟨D, p, q, rfl, h1, h2, h3, h4, h5⟩ := h
 exact ⟨D, p, q, rfl, ⟨h1, h2, h3, h4⟩, h5⟩
section
variable {w : World} {A C : Option Addr} {n m c d x y : Nat}
theorem up_sl (h1 : SlW w w.heap.size A n c x) (h2 : SlW w w.heap.size C m d y) (hn : n ≤ 1000000000) (hm : m ≤ 1000000000) : Calls Tryz.prog 72 #[.slice A n c, .slice C m d] w (CutW w (x + y)) := by
 have := tup_any (c := c) (d := d) h1.2.2.2 h2.2.2.2 (Nat.le_refl _) h1.1.out h2.1.out hn hm (wd_w _) (wd_w _)
 rwa [val_w, val_w] at this
theorem down_sl (h1 : SlW w w.heap.size A n c x) (h2 : SlW w w.heap.size C m d y) (hn : n ≤ 1000000000) (hle : y ≤ x) : Calls Tryz.prog 74 #[.slice A n c, .slice C m d] w (CutW w (x - y)) := by
 have hmn : m ≤ n := by
  have e1 := h1.1.out
  have e2 := h2.1.out
  rw [e1, e2]
  rcases Nat.lt_or_ge (wds x).length (wds y).length with h | h
  ·have := lt_of_len_lt h
   omega
  ·exact h
 have := tdown_any (c := c) (d := d) h1.2.2.2 h2.2.2.2 (Nat.le_refl _) h1.1.out h2.1.out hn hmn (by rw [val_w, val_w]; exact hle) (wd_w _) (wd_w _)
 rwa [val_w, val_w] at this
end
set_option maxRecDepth 100000 in
set_option maxHeartbeats 4000000 in
theorem wplus_same_false {w : World} {A C : Option Addr} {n m c d x y : Nat} (h1 : SlW w w.heap.size A n c x) (h2 : SlW w w.heap.size C m d y) (hn : n ≤ 1000000000) (hm : m ≤ 1000000000) :
  Calls Tryz.prog 33 #[.agg #[.bool false, .slice A n c], .agg #[.bool false, .slice C m d]] w (RetS w false (x + y)) := by
 have h := ((((Sw.start w).new 35 #[.bool false, .slice A n c]).new 35 #[.bool false, .slice C m d]).new 35 #[.bool false, .slice none 0 0])
 simp only [size_alloc] at h
 have f1 := h1.below h.bel
 have f2 := h2.below h.bel
 replace h := h.rest (G := fun w => SlW w w.heap.size A n c x ∧ SlW w w.heap.size C m d y) ((Stw.sl _ _ _ _).and (Stw.sl _ _ _ _)) ⟨f1, f2⟩
 clear f1 f2 h1 h2
 go_enter Tryz.func33, Tryz.ntmps33
 go_wp2_with fail
 generalize hW : (((w.alloc (Obj.cells #[.bool false, .slice A n c] 35)).alloc (Obj.cells #[.bool false, .slice C m d] 35)).alloc (Obj.cells #[.bool false, .slice none 0 0] 35)) = V0 at h ⊢
 clear hW
 refine wp_region_noPanic ?_
 refine wp_region_HK (fun w' => Sw w w' _ _) 8 (by kernel_rfl) h.drew (fun hHeld => ?_)
 replace h := h.drew
 clear hHeld
 refine wpHK_pure (i := 0) (oi := Oper.mk (some 11) _ _ _ _ _) (v := .pointer (some ⟨w.heap.size, 0, none⟩)) rfl (by kernel_rfl) (by kernel_rfl) (by kernel_rfl) (fun _ _ _ h => h) (Or.inl ⟨by rfl, ?_⟩) ?_
 ·intro w' hS
  go_simp
 try simp only [Act.put, List.setIfInBounds_toArray, List.set_cons_zero, List.set_cons_succ]
 refine wpHK_take (i := 1) (oi := Oper.mk (some 12) _ _ _ _ _) (v := .bool false) rfl (by kernel_rfl) (by kernel_rfl) (by kernel_rfl) (by kernel_rfl) (fun _ _ _ h => h) (Or.inl ⟨by rfl, ?_⟩) h ?_
 ·intro w' hS
  have c0_ := (hS.get 2 rfl).cell 0
  go_simp
 try simp only [Act.put, List.setIfInBounds_toArray, List.set_cons_zero, List.set_cons_succ]
 refine wpHK_pure (i := 2) (oi := Oper.mk (some 13) _ _ _ _ _) (v := .pointer (some ⟨w.heap.size, 1, none⟩)) rfl (by kernel_rfl) (by kernel_rfl) (by kernel_rfl) (fun _ _ _ h => h) (Or.inl ⟨by rfl, ?_⟩) ?_
 ·intro w' hS
  go_simp
 try simp only [Act.put, List.setIfInBounds_toArray, List.set_cons_zero, List.set_cons_succ]
 refine wpHK_take (i := 3) (oi := Oper.mk (some 14) _ _ _ _ _) (v := .slice A n c) rfl (by kernel_rfl) (by kernel_rfl) (by kernel_rfl) (by kernel_rfl) (fun _ _ _ h => h) (Or.inl ⟨by rfl, ?_⟩) h ?_
 ·intro w' hS
  have c0_ := (hS.get 2 rfl).cell 1
  go_simp
 try simp only [Act.put, List.setIfInBounds_toArray, List.set_cons_zero, List.set_cons_succ]
 refine wpHK_pure (i := 4) (oi := Oper.mk (some 15) _ _ _ _ _) (v := .pointer (some ⟨w.heap.size + 1, 1, none⟩)) rfl (by kernel_rfl) (by kernel_rfl) (by kernel_rfl) (fun _ _ _ h => h) (Or.inl ⟨by rfl, ?_⟩) ?_
 ·intro w' hS
  go_simp
 try simp only [Act.put, List.setIfInBounds_toArray, List.set_cons_zero, List.set_cons_succ]
 refine wpHK_take (i := 5) (oi := Oper.mk (some 16) _ _ _ _ _) (v := .slice C m d) rfl (by kernel_rfl) (by kernel_rfl) (by kernel_rfl) (by kernel_rfl) (fun _ _ _ h => h) (Or.inl ⟨by rfl, ?_⟩) h ?_
 ·intro w' hS
  have c0_ := (hS.get 1 rfl).cell 1
  go_simp
 try simp only [Act.put, List.setIfInBounds_toArray, List.set_cons_zero, List.set_cons_succ]
 refine wpHK_one (j := 6) (o := Oper.mk (some 17) _ _ _ _ _) rfl (by kernel_rfl) (fun K hK => ?_)
 go_simp
 refine (up_sl h.fact.1 h.fact.2 hn hm).mono ?_
 intro e w2 hcw
 obtain ⟨D, p, q, rfl, hsl, hb2⟩ := hcw.sl
 have Hsl := Lib.hid hsl
 clear hcw hsl
 have hC := h.call hb2
 replace h := h.call hb2
 clear hb2
 refine hK.out _ _ h (fun _ => ?_)
 replace h := hC.rest (G := fun w => SlW w w.heap.size D p q (x + y)) (Stw.sl _ _ _ _) Hsl.out
 clear hC Hsl
 clear hK K
 try simp only [Act.put, List.setIfInBounds_toArray, List.set_cons_zero, List.set_cons_succ]
 refine wpHK_pure (i := 7) (oi := Oper.mk (some 18) _ _ _ _ _) (v := .agg #[.bool false, .slice D p q]) rfl (by kernel_rfl) (by kernel_rfl) (by kernel_rfl) (fun _ _ _ h => h) (Or.inl ⟨by rfl, ?_⟩) ?_
 ·intro w' hS
  go_simp
 try simp only [Act.put, List.setIfInBounds_toArray, List.set_cons_zero, List.set_cons_succ]
 refine wpHK_tail (j := 8) (o := Oper.mk none _ _ _ _ _) rfl (by kernel_rfl) (by decide) (fun K hK => ?_)
 rw [if_pos (by rfl)]
 refine wp_store_blk 35 (.tmp 4) (.tmp 18) rfl #[.bool false, .slice D p q] rfl rfl (h.get 0 rfl) (by simp) (by kernel_rfl) (by simp [Value.oneCell', ptr]) (fun w9 k9 hg9 => ?_)
 replace h := h.put 0 rfl (by unfold OwnT; decide) k9 hg9
 simp only [List.set_cons_succ, List.set_cons_zero] at h
 clear k9 hg9
 refine hK.out _ _ ?_
 clear hK K
 try simp only [Act.put, List.setIfInBounds_toArray, List.set_cons_zero, List.set_cons_succ]
 refine wpHK_done (by kernel_rfl) ?_ _
 refine NoPanic.normal ?_
 go_wp2_with fail
 refine bodyPost_ret (results_row1 rfl _ _ _ _ _ (by rfl) (h.get 0 rfl) Tryz.underlying35 rfl (by kernel_rfl)) rfl ?_
 exact ⟨_, _, _, rfl, h.fact, h.bel⟩
set_option maxRecDepth 100000 in
set_option maxHeartbeats 4000000 in
theorem wplus_same_true {w : World} {A C : Option Addr} {n m c d x y : Nat} (h1 : SlW w w.heap.size A n c x) (h2 : SlW w w.heap.size C m d y) (hn : n ≤ 1000000000) (hm : m ≤ 1000000000) :
  Calls Tryz.prog 33 #[.agg #[.bool true, .slice A n c], .agg #[.bool true, .slice C m d]] w (RetS w true (x + y)) := by
 have h := ((((Sw.start w).new 35 #[.bool true, .slice A n c]).new 35 #[.bool true, .slice C m d]).new 35 #[.bool false, .slice none 0 0])
 simp only [size_alloc] at h
 have f1 := h1.below h.bel
 have f2 := h2.below h.bel
 replace h := h.rest (G := fun w => SlW w w.heap.size A n c x ∧ SlW w w.heap.size C m d y) ((Stw.sl _ _ _ _).and (Stw.sl _ _ _ _)) ⟨f1, f2⟩
 clear f1 f2 h1 h2
 go_enter Tryz.func33, Tryz.ntmps33
 go_wp2_with fail
 generalize hW : (((w.alloc (Obj.cells #[.bool true, .slice A n c] 35)).alloc (Obj.cells #[.bool true, .slice C m d] 35)).alloc (Obj.cells #[.bool false, .slice none 0 0] 35)) = V0 at h ⊢
 clear hW
 refine wp_region_noPanic ?_
 refine wp_region_HK (fun w' => Sw w w' _ _) 8 (by kernel_rfl) h.drew (fun hHeld => ?_)
 replace h := h.drew
 clear hHeld
 refine wpHK_pure (i := 0) (oi := Oper.mk (some 11) _ _ _ _ _) (v := .pointer (some ⟨w.heap.size, 0, none⟩)) rfl (by kernel_rfl) (by kernel_rfl) (by kernel_rfl) (fun _ _ _ h => h) (Or.inl ⟨by rfl, ?_⟩) ?_
 ·intro w' hS
  go_simp
 try simp only [Act.put, List.setIfInBounds_toArray, List.set_cons_zero, List.set_cons_succ]
 refine wpHK_take (i := 1) (oi := Oper.mk (some 12) _ _ _ _ _) (v := .bool true) rfl (by kernel_rfl) (by kernel_rfl) (by kernel_rfl) (by kernel_rfl) (fun _ _ _ h => h) (Or.inl ⟨by rfl, ?_⟩) h ?_
 ·intro w' hS
  have c0_ := (hS.get 2 rfl).cell 0
  go_simp
 try simp only [Act.put, List.setIfInBounds_toArray, List.set_cons_zero, List.set_cons_succ]
 refine wpHK_pure (i := 2) (oi := Oper.mk (some 13) _ _ _ _ _) (v := .pointer (some ⟨w.heap.size, 1, none⟩)) rfl (by kernel_rfl) (by kernel_rfl) (by kernel_rfl) (fun _ _ _ h => h) (Or.inl ⟨by rfl, ?_⟩) ?_
 ·intro w' hS
  go_simp
 try simp only [Act.put, List.setIfInBounds_toArray, List.set_cons_zero, List.set_cons_succ]
 refine wpHK_take (i := 3) (oi := Oper.mk (some 14) _ _ _ _ _) (v := .slice A n c) rfl (by kernel_rfl) (by kernel_rfl) (by kernel_rfl) (by kernel_rfl) (fun _ _ _ h => h) (Or.inl ⟨by rfl, ?_⟩) h ?_
 ·intro w' hS
  have c0_ := (hS.get 2 rfl).cell 1
  go_simp
 try simp only [Act.put, List.setIfInBounds_toArray, List.set_cons_zero, List.set_cons_succ]
 refine wpHK_pure (i := 4) (oi := Oper.mk (some 15) _ _ _ _ _) (v := .pointer (some ⟨w.heap.size + 1, 1, none⟩)) rfl (by kernel_rfl) (by kernel_rfl) (by kernel_rfl) (fun _ _ _ h => h) (Or.inl ⟨by rfl, ?_⟩) ?_
 ·intro w' hS
  go_simp
 try simp only [Act.put, List.setIfInBounds_toArray, List.set_cons_zero, List.set_cons_succ]
 refine wpHK_take (i := 5) (oi := Oper.mk (some 16) _ _ _ _ _) (v := .slice C m d) rfl (by kernel_rfl) (by kernel_rfl) (by kernel_rfl) (by kernel_rfl) (fun _ _ _ h => h) (Or.inl ⟨by rfl, ?_⟩) h ?_
 ·intro w' hS
  have c0_ := (hS.get 1 rfl).cell 1
  go_simp
 try simp only [Act.put, List.setIfInBounds_toArray, List.set_cons_zero, List.set_cons_succ]
 refine wpHK_one (j := 6) (o := Oper.mk (some 17) _ _ _ _ _) rfl (by kernel_rfl) (fun K hK => ?_)
 go_simp
 refine (up_sl h.fact.1 h.fact.2 hn hm).mono ?_
 intro e w2 hcw
 obtain ⟨D, p, q, rfl, hsl, hb2⟩ := hcw.sl
 have Hsl := Lib.hid hsl
 clear hcw hsl
 have hC := h.call hb2
 replace h := h.call hb2
 clear hb2
 refine hK.out _ _ h (fun _ => ?_)
 replace h := hC.rest (G := fun w => SlW w w.heap.size D p q (x + y)) (Stw.sl _ _ _ _) Hsl.out
 clear hC Hsl
 clear hK K
 try simp only [Act.put, List.setIfInBounds_toArray, List.set_cons_zero, List.set_cons_succ]
 refine wpHK_pure (i := 7) (oi := Oper.mk (some 18) _ _ _ _ _) (v := .agg #[.bool true, .slice D p q]) rfl (by kernel_rfl) (by kernel_rfl) (by kernel_rfl) (fun _ _ _ h => h) (Or.inl ⟨by rfl, ?_⟩) ?_
 ·intro w' hS
  go_simp
 try simp only [Act.put, List.setIfInBounds_toArray, List.set_cons_zero, List.set_cons_succ]
 refine wpHK_tail (j := 8) (o := Oper.mk none _ _ _ _ _) rfl (by kernel_rfl) (by decide) (fun K hK => ?_)
 rw [if_pos (by rfl)]
 refine wp_store_blk 35 (.tmp 4) (.tmp 18) rfl #[.bool true, .slice D p q] rfl rfl (h.get 0 rfl) (by simp) (by kernel_rfl) (by simp [Value.oneCell', ptr]) (fun w9 k9 hg9 => ?_)
 replace h := h.put 0 rfl (by unfold OwnT; decide) k9 hg9
 simp only [List.set_cons_succ, List.set_cons_zero] at h
 clear k9 hg9
 refine hK.out _ _ ?_
 clear hK K
 try simp only [Act.put, List.setIfInBounds_toArray, List.set_cons_zero, List.set_cons_succ]
 refine wpHK_done (by kernel_rfl) ?_ _
 refine NoPanic.normal ?_
 go_wp2_with fail
 refine bodyPost_ret (results_row1 rfl _ _ _ _ _ (by rfl) (h.get 0 rfl) Tryz.underlying35 rfl (by kernel_rfl)) rfl ?_
 exact ⟨_, _, _, rfl, h.fact, h.bel⟩
set_option maxRecDepth 100000 in
set_option maxHeartbeats 4000000 in
theorem wplus_lt_true {w : World} {A C : Option Addr} {n m c d x y : Nat} (h0 : x < y) (h1 : SlW w w.heap.size A n c x) (h2 : SlW w w.heap.size C m d y) (hn : n ≤ 1000000000) (hm : m ≤ 1000000000) :
  Calls Tryz.prog 33 #[.agg #[.bool false, .slice A n c], .agg #[.bool true, .slice C m d]] w (RetS w true (y - x)) := by
 have hlt := Lib.hid h0
 have HE := Lib.hid (cmpN_lt h0)
 clear h0
 have HM := Lib.hid (fun (W : World) (q1 : SlW W W.heap.size A n c x) (q2 : SlW W W.heap.size C m d y) => tmore_any (w := W) (c := c) (d := d) q1.2.2.2 q2.2.2.2 q1.1.out q2.1.out (by omega) (by omega))
 have h := ((((Sw.start w).new 35 #[.bool false, .slice A n c]).new 35 #[.bool true, .slice C m d]).new 35 #[.bool false, .slice none 0 0])
 simp only [size_alloc] at h
 have f1 := h1.below h.bel
 have f2 := h2.below h.bel
 replace h := h.rest (G := fun w => SlW w w.heap.size A n c x ∧ SlW w w.heap.size C m d y) ((Stw.sl _ _ _ _).and (Stw.sl _ _ _ _)) ⟨f1, f2⟩
 clear f1 f2 h1 h2
 go_enter Tryz.func33, Tryz.ntmps33
 go_wp2_with fail
 generalize hW : (((w.alloc (Obj.cells #[.bool false, .slice A n c] 35)).alloc (Obj.cells #[.bool true, .slice C m d] 35)).alloc (Obj.cells #[.bool false, .slice none 0 0] 35)) = V0 at h ⊢
 clear hW
 refine (HM.out _ h.fact.1 h.fact.2).mono ?_
 rintro _ _ ⟨q, rfl, rfl⟩
 replace h := h.call (below_drewN (Below.refl _ _) q)
 clear HM
 rw [HE.out]
 have c0_ := (h.get 2 rfl).cell 1
 have c1_ := (h.get 1 rfl).cell 1
 have c2_ := (h.get 2 rfl).cell 0
 go_wp2_with fail
 clear c0_ c1_ c2_
 refine wp_region_noPanic ?_
 refine wp_region_HK (fun w' => Sw w w' _ _) 8 (by kernel_rfl) h.drew (fun hHeld => ?_)
 replace h := h.drew
 clear hHeld
 refine wpHK_pure (i := 0) (oi := Oper.mk (some 39) _ _ _ _ _) (v := .pointer (some ⟨w.heap.size + 1, 0, none⟩)) rfl (by kernel_rfl) (by kernel_rfl) (by kernel_rfl) (fun _ _ _ h => h) (Or.inl ⟨by rfl, ?_⟩) ?_
 ·intro w' hS
  go_simp
 try simp only [Act.put, List.setIfInBounds_toArray, List.set_cons_zero, List.set_cons_succ]
 refine wpHK_take (i := 1) (oi := Oper.mk (some 40) _ _ _ _ _) (v := .bool true) rfl (by kernel_rfl) (by kernel_rfl) (by kernel_rfl) (by kernel_rfl) (fun _ _ _ h => h) (Or.inl ⟨by rfl, ?_⟩) h ?_
 ·intro w' hS
  have c0_ := (hS.get 1 rfl).cell 0
  go_simp
 try simp only [Act.put, List.setIfInBounds_toArray, List.set_cons_zero, List.set_cons_succ]
 refine wpHK_pure (i := 2) (oi := Oper.mk (some 41) _ _ _ _ _) (v := .pointer (some ⟨w.heap.size + 1, 1, none⟩)) rfl (by kernel_rfl) (by kernel_rfl) (by kernel_rfl) (fun _ _ _ h => h) (Or.inl ⟨by rfl, ?_⟩) ?_
 ·intro w' hS
  go_simp
 try simp only [Act.put, List.setIfInBounds_toArray, List.set_cons_zero, List.set_cons_succ]
 refine wpHK_take (i := 3) (oi := Oper.mk (some 42) _ _ _ _ _) (v := .slice C m d) rfl (by kernel_rfl) (by kernel_rfl) (by kernel_rfl) (by kernel_rfl) (fun _ _ _ h => h) (Or.inl ⟨by rfl, ?_⟩) h ?_
 ·intro w' hS
  have c0_ := (hS.get 1 rfl).cell 1
  go_simp
 try simp only [Act.put, List.setIfInBounds_toArray, List.set_cons_zero, List.set_cons_succ]
 refine wpHK_pure (i := 4) (oi := Oper.mk (some 43) _ _ _ _ _) (v := .pointer (some ⟨w.heap.size, 1, none⟩)) rfl (by kernel_rfl) (by kernel_rfl) (by kernel_rfl) (fun _ _ _ h => h) (Or.inl ⟨by rfl, ?_⟩) ?_
 ·intro w' hS
  go_simp
 try simp only [Act.put, List.setIfInBounds_toArray, List.set_cons_zero, List.set_cons_succ]
 refine wpHK_take (i := 5) (oi := Oper.mk (some 44) _ _ _ _ _) (v := .slice A n c) rfl (by kernel_rfl) (by kernel_rfl) (by kernel_rfl) (by kernel_rfl) (fun _ _ _ h => h) (Or.inl ⟨by rfl, ?_⟩) h ?_
 ·intro w' hS
  have c0_ := (hS.get 2 rfl).cell 1
  go_simp
 try simp only [Act.put, List.setIfInBounds_toArray, List.set_cons_zero, List.set_cons_succ]
 refine wpHK_one (j := 6) (o := Oper.mk (some 45) _ _ _ _ _) rfl (by kernel_rfl) (fun K hK => ?_)
 go_simp
 refine (down_sl h.fact.2 h.fact.1 hm (Nat.le_of_lt hlt.out)).mono ?_
 intro e w2 hcw
 obtain ⟨D, p, q, rfl, hsl, hb2⟩ := hcw.sl
 have Hsl := Lib.hid hsl
 clear hcw hsl
 have hC := h.call hb2
 replace h := h.call hb2
 clear hb2
 refine hK.out _ _ h (fun _ => ?_)
 replace h := hC.rest (G := fun w => SlW w w.heap.size D p q (y - x)) (Stw.sl _ _ _ _) Hsl.out
 clear hC Hsl
 clear hK K
 try simp only [Act.put, List.setIfInBounds_toArray, List.set_cons_zero, List.set_cons_succ]
 refine wpHK_pure (i := 7) (oi := Oper.mk (some 46) _ _ _ _ _) (v := .agg #[.bool true, .slice D p q]) rfl (by kernel_rfl) (by kernel_rfl) (by kernel_rfl) (fun _ _ _ h => h) (Or.inl ⟨by rfl, ?_⟩) ?_
 ·intro w' hS
  go_simp
 try simp only [Act.put, List.setIfInBounds_toArray, List.set_cons_zero, List.set_cons_succ]
 refine wpHK_tail (j := 8) (o := Oper.mk none _ _ _ _ _) rfl (by kernel_rfl) (by decide) (fun K hK => ?_)
 rw [if_pos (by rfl)]
 refine wp_store_blk 35 (.tmp 4) (.tmp 46) rfl #[.bool true, .slice D p q] rfl rfl (h.get 0 rfl) (by simp) (by kernel_rfl) (by simp [Value.oneCell', ptr]) (fun w9 k9 hg9 => ?_)
 replace h := h.put 0 rfl (by unfold OwnT; decide) k9 hg9
 simp only [List.set_cons_succ, List.set_cons_zero] at h
 clear k9 hg9
 refine hK.out _ _ ?_
 clear hK K
 try simp only [Act.put, List.setIfInBounds_toArray, List.set_cons_zero, List.set_cons_succ]
 refine wpHK_done (by kernel_rfl) ?_ _
 refine NoPanic.normal ?_
 go_wp2_with fail
 refine bodyPost_ret (results_row1 rfl _ _ _ _ _ (by rfl) (h.get 0 rfl) Tryz.underlying35 rfl (by kernel_rfl)) rfl ?_
 exact ⟨_, _, _, rfl, h.fact, h.bel⟩
set_option maxRecDepth 100000 in
set_option maxHeartbeats 4000000 in
theorem wplus_lt_false {w : World} {A C : Option Addr} {n m c d x y : Nat} (h0 : x < y) (h1 : SlW w w.heap.size A n c x) (h2 : SlW w w.heap.size C m d y) (hn : n ≤ 1000000000) (hm : m ≤ 1000000000) :
  Calls Tryz.prog 33 #[.agg #[.bool true, .slice A n c], .agg #[.bool false, .slice C m d]] w (RetS w false (y - x)) := by
 have hlt := Lib.hid h0
 have HE := Lib.hid (cmpN_lt h0)
 clear h0
 have HM := Lib.hid (fun (W : World) (q1 : SlW W W.heap.size A n c x) (q2 : SlW W W.heap.size C m d y) => tmore_any (w := W) (c := c) (d := d) q1.2.2.2 q2.2.2.2 q1.1.out q2.1.out (by omega) (by omega))
 have h := ((((Sw.start w).new 35 #[.bool true, .slice A n c]).new 35 #[.bool false, .slice C m d]).new 35 #[.bool false, .slice none 0 0])
 simp only [size_alloc] at h
 have f1 := h1.below h.bel
 have f2 := h2.below h.bel
 replace h := h.rest (G := fun w => SlW w w.heap.size A n c x ∧ SlW w w.heap.size C m d y) ((Stw.sl _ _ _ _).and (Stw.sl _ _ _ _)) ⟨f1, f2⟩
 clear f1 f2 h1 h2
 go_enter Tryz.func33, Tryz.ntmps33
 go_wp2_with fail
 generalize hW : (((w.alloc (Obj.cells #[.bool true, .slice A n c] 35)).alloc (Obj.cells #[.bool false, .slice C m d] 35)).alloc (Obj.cells #[.bool false, .slice none 0 0] 35)) = V0 at h ⊢
 clear hW
 refine (HM.out _ h.fact.1 h.fact.2).mono ?_
 rintro _ _ ⟨q, rfl, rfl⟩
 replace h := h.call (below_drewN (Below.refl _ _) q)
 clear HM
 rw [HE.out]
 have c0_ := (h.get 2 rfl).cell 1
 have c1_ := (h.get 1 rfl).cell 1
 have c2_ := (h.get 2 rfl).cell 0
 go_wp2_with fail
 clear c0_ c1_ c2_
 refine wp_region_noPanic ?_
 refine wp_region_HK (fun w' => Sw w w' _ _) 8 (by kernel_rfl) h.drew (fun hHeld => ?_)
 replace h := h.drew
 clear hHeld
 refine wpHK_pure (i := 0) (oi := Oper.mk (some 39) _ _ _ _ _) (v := .pointer (some ⟨w.heap.size + 1, 0, none⟩)) rfl (by kernel_rfl) (by kernel_rfl) (by kernel_rfl) (fun _ _ _ h => h) (Or.inl ⟨by rfl, ?_⟩) ?_
 ·intro w' hS
  go_simp
 try simp only [Act.put, List.setIfInBounds_toArray, List.set_cons_zero, List.set_cons_succ]
 refine wpHK_take (i := 1) (oi := Oper.mk (some 40) _ _ _ _ _) (v := .bool false) rfl (by kernel_rfl) (by kernel_rfl) (by kernel_rfl) (by kernel_rfl) (fun _ _ _ h => h) (Or.inl ⟨by rfl, ?_⟩) h ?_
 ·intro w' hS
  have c0_ := (hS.get 1 rfl).cell 0
  go_simp
 try simp only [Act.put, List.setIfInBounds_toArray, List.set_cons_zero, List.set_cons_succ]
 refine wpHK_pure (i := 2) (oi := Oper.mk (some 41) _ _ _ _ _) (v := .pointer (some ⟨w.heap.size + 1, 1, none⟩)) rfl (by kernel_rfl) (by kernel_rfl) (by kernel_rfl) (fun _ _ _ h => h) (Or.inl ⟨by rfl, ?_⟩) ?_
 ·intro w' hS
  go_simp
 try simp only [Act.put, List.setIfInBounds_toArray, List.set_cons_zero, List.set_cons_succ]
 refine wpHK_take (i := 3) (oi := Oper.mk (some 42) _ _ _ _ _) (v := .slice C m d) rfl (by kernel_rfl) (by kernel_rfl) (by kernel_rfl) (by kernel_rfl) (fun _ _ _ h => h) (Or.inl ⟨by rfl, ?_⟩) h ?_
 ·intro w' hS
  have c0_ := (hS.get 1 rfl).cell 1
  go_simp
 try simp only [Act.put, List.setIfInBounds_toArray, List.set_cons_zero, List.set_cons_succ]
 refine wpHK_pure (i := 4) (oi := Oper.mk (some 43) _ _ _ _ _) (v := .pointer (some ⟨w.heap.size, 1, none⟩)) rfl (by kernel_rfl) (by kernel_rfl) (by kernel_rfl) (fun _ _ _ h => h) (Or.inl ⟨by rfl, ?_⟩) ?_
 ·intro w' hS
  go_simp
 try simp only [Act.put, List.setIfInBounds_toArray, List.set_cons_zero, List.set_cons_succ]
 refine wpHK_take (i := 5) (oi := Oper.mk (some 44) _ _ _ _ _) (v := .slice A n c) rfl (by kernel_rfl) (by kernel_rfl) (by kernel_rfl) (by kernel_rfl) (fun _ _ _ h => h) (Or.inl ⟨by rfl, ?_⟩) h ?_
 ·intro w' hS
  have c0_ := (hS.get 2 rfl).cell 1
  go_simp
 try simp only [Act.put, List.setIfInBounds_toArray, List.set_cons_zero, List.set_cons_succ]
 refine wpHK_one (j := 6) (o := Oper.mk (some 45) _ _ _ _ _) rfl (by kernel_rfl) (fun K hK => ?_)
 go_simp
 refine (down_sl h.fact.2 h.fact.1 hm (Nat.le_of_lt hlt.out)).mono ?_
 intro e w2 hcw
 obtain ⟨D, p, q, rfl, hsl, hb2⟩ := hcw.sl
 have Hsl := Lib.hid hsl
 clear hcw hsl
 have hC := h.call hb2
 replace h := h.call hb2
 clear hb2
 refine hK.out _ _ h (fun _ => ?_)
 replace h := hC.rest (G := fun w => SlW w w.heap.size D p q (y - x)) (Stw.sl _ _ _ _) Hsl.out
 clear hC Hsl
 clear hK K
 try simp only [Act.put, List.setIfInBounds_toArray, List.set_cons_zero, List.set_cons_succ]
 refine wpHK_pure (i := 7) (oi := Oper.mk (some 46) _ _ _ _ _) (v := .agg #[.bool false, .slice D p q]) rfl (by kernel_rfl) (by kernel_rfl) (by kernel_rfl) (fun _ _ _ h => h) (Or.inl ⟨by rfl, ?_⟩) ?_
 ·intro w' hS
  go_simp
 try simp only [Act.put, List.setIfInBounds_toArray, List.set_cons_zero, List.set_cons_succ]
 refine wpHK_tail (j := 8) (o := Oper.mk none _ _ _ _ _) rfl (by kernel_rfl) (by decide) (fun K hK => ?_)
 rw [if_pos (by rfl)]
 refine wp_store_blk 35 (.tmp 4) (.tmp 46) rfl #[.bool false, .slice D p q] rfl rfl (h.get 0 rfl) (by simp) (by kernel_rfl) (by simp [Value.oneCell', ptr]) (fun w9 k9 hg9 => ?_)
 replace h := h.put 0 rfl (by unfold OwnT; decide) k9 hg9
 simp only [List.set_cons_succ, List.set_cons_zero] at h
 clear k9 hg9
 refine hK.out _ _ ?_
 clear hK K
 try simp only [Act.put, List.setIfInBounds_toArray, List.set_cons_zero, List.set_cons_succ]
 refine wpHK_done (by kernel_rfl) ?_ _
 refine NoPanic.normal ?_
 go_wp2_with fail
 refine bodyPost_ret (results_row1 rfl _ _ _ _ _ (by rfl) (h.get 0 rfl) Tryz.underlying35 rfl (by kernel_rfl)) rfl ?_
 exact ⟨_, _, _, rfl, h.fact, h.bel⟩
set_option maxRecDepth 100000 in
set_option maxHeartbeats 4000000 in
theorem wplus_ge_false {w : World} {A C : Option Addr} {n m c d x y : Nat} (h0 : y ≤ x) (h1 : SlW w w.heap.size A n c x) (h2 : SlW w w.heap.size C m d y) (hn : n ≤ 1000000000) (hm : m ≤ 1000000000) :
  Calls Tryz.prog 33 #[.agg #[.bool false, .slice A n c], .agg #[.bool true, .slice C m d]] w (RetS w false (x - y)) := by
 have hle := Lib.hid h0
 have HE := Lib.hid (cmpN_ge (a := x) (b := y) (by omega))
 clear h0
 have HM := Lib.hid (fun (W : World) (q1 : SlW W W.heap.size A n c x) (q2 : SlW W W.heap.size C m d y) => tmore_any (w := W) (c := c) (d := d) q1.2.2.2 q2.2.2.2 q1.1.out q2.1.out (by omega) (by omega))
 have h := ((((Sw.start w).new 35 #[.bool false, .slice A n c]).new 35 #[.bool true, .slice C m d]).new 35 #[.bool false, .slice none 0 0])
 simp only [size_alloc] at h
 have f1 := h1.below h.bel
 have f2 := h2.below h.bel
 replace h := h.rest (G := fun w => SlW w w.heap.size A n c x ∧ SlW w w.heap.size C m d y) ((Stw.sl _ _ _ _).and (Stw.sl _ _ _ _)) ⟨f1, f2⟩
 clear f1 f2 h1 h2
 go_enter Tryz.func33, Tryz.ntmps33
 go_wp2_with fail
 generalize hW : (((w.alloc (Obj.cells #[.bool false, .slice A n c] 35)).alloc (Obj.cells #[.bool true, .slice C m d] 35)).alloc (Obj.cells #[.bool false, .slice none 0 0] 35)) = V0 at h ⊢
 clear hW
 refine (HM.out _ h.fact.1 h.fact.2).mono ?_
 rintro _ _ ⟨q, rfl, rfl⟩
 replace h := h.call (below_drewN (Below.refl _ _) q)
 clear HM
 obtain ⟨v, hv⟩ : ∃ v, v = cmpN x y := ⟨_, rfl⟩
 have hv0 : 0 ≤ v := by rw [hv]; exact HE.out.1
 rw [← hv]
 clear hv HE
 have c0_ := (h.get 2 rfl).cell 1
 have c1_ := (h.get 1 rfl).cell 1
 have c2_ := (h.get 2 rfl).cell 0
 go_wp2_with fail
 refine (down_sl h.fact.1 h.fact.2 hn (by have := hle.out; omega)).mono ?_
 intro e w2 hcw
 obtain ⟨D, p, q, rfl, hsl, hb2⟩ := hcw.sl
 replace h := (h.call hb2).rest (G := fun w => SlW w w.heap.size D p q (x - y)) (Stw.sl _ _ _ _) hsl
 clear hcw hsl hb2 c0_ c1_ c2_
 have c2_ := (h.get 2 rfl).cell 0
 go_wp2_with (refine wpList_store_all (by rfl) 35 (.tmp 4) (.tmp 38) (by rfl) #[.bool false, .slice D p q] (by rfl) (by rfl) (h.get 0 rfl) (by simp) (by kernel_rfl) (by simp [Value.oneCell', ptr]) ?_; intro V1 k9 hg9; replace h := h.put 0 rfl (by unfold OwnT; decide) k9 hg9; simp only [List.set_cons_succ, List.set_cons_zero] at h; clear k9 hg9)
 refine bodyPost_ret (results_row1 rfl _ _ _ _ _ (by rfl) (h.get 0 rfl) Tryz.underlying35 rfl (by kernel_rfl)) rfl ?_
 exact ⟨_, _, _, rfl, h.fact, h.bel⟩
set_option maxRecDepth 100000 in
set_option maxHeartbeats 4000000 in
theorem wplus_ge_true {w : World} {A C : Option Addr} {n m c d x y : Nat} (h0 : y < x) (h1 : SlW w w.heap.size A n c x) (h2 : SlW w w.heap.size C m d y) (hn : n ≤ 1000000000) (hm : m ≤ 1000000000) :
  Calls Tryz.prog 33 #[.agg #[.bool true, .slice A n c], .agg #[.bool false, .slice C m d]] w (RetS w true (x - y)) := by
 have hle := Lib.hid h0
 have HE := Lib.hid (cmpN_ge (a := x) (b := y) (by omega))
 clear h0
 have HM := Lib.hid (fun (W : World) (q1 : SlW W W.heap.size A n c x) (q2 : SlW W W.heap.size C m d y) => tmore_any (w := W) (c := c) (d := d) q1.2.2.2 q2.2.2.2 q1.1.out q2.1.out (by omega) (by omega))
 have h := ((((Sw.start w).new 35 #[.bool true, .slice A n c]).new 35 #[.bool false, .slice C m d]).new 35 #[.bool false, .slice none 0 0])
 simp only [size_alloc] at h
 have f1 := h1.below h.bel
 have f2 := h2.below h.bel
 replace h := h.rest (G := fun w => SlW w w.heap.size A n c x ∧ SlW w w.heap.size C m d y) ((Stw.sl _ _ _ _).and (Stw.sl _ _ _ _)) ⟨f1, f2⟩
 clear f1 f2 h1 h2
 go_enter Tryz.func33, Tryz.ntmps33
 go_wp2_with fail
 generalize hW : (((w.alloc (Obj.cells #[.bool true, .slice A n c] 35)).alloc (Obj.cells #[.bool false, .slice C m d] 35)).alloc (Obj.cells #[.bool false, .slice none 0 0] 35)) = V0 at h ⊢
 clear hW
 refine (HM.out _ h.fact.1 h.fact.2).mono ?_
 rintro _ _ ⟨q, rfl, rfl⟩
 replace h := h.call (below_drewN (Below.refl _ _) q)
 clear HM
 obtain ⟨v, hv⟩ : ∃ v, v = cmpN x y := ⟨_, rfl⟩
 have hv0 : 0 ≤ v := by rw [hv]; exact HE.out.1
 rw [← hv]
 clear hv HE
 have c0_ := (h.get 2 rfl).cell 1
 have c1_ := (h.get 1 rfl).cell 1
 have c2_ := (h.get 2 rfl).cell 0
 go_wp2_with fail
 refine (down_sl h.fact.1 h.fact.2 hn (by have := hle.out; omega)).mono ?_
 intro e w2 hcw
 obtain ⟨D, p, q, rfl, hsl, hb2⟩ := hcw.sl
 have hpp := (slw_pos hsl).2 (by have := hle.out; omega)
 replace h := (h.call hb2).rest (G := fun w => SlW w w.heap.size D p q (x - y)) (Stw.sl _ _ _ _) hsl
 clear hcw hsl hb2 c0_ c1_ c2_
 have c2_ := (h.get 2 rfl).cell 0
 go_wp2_with (refine wpList_store_all (by rfl) 35 (.tmp 4) (.tmp 38) (by rfl) #[.bool true, .slice D p q] (by rfl) (by rfl) (h.get 0 rfl) (by simp) (by kernel_rfl) (by simp [Value.oneCell', ptr]) ?_; intro V1 k9 hg9; replace h := h.put 0 rfl (by unfold OwnT; decide) k9 hg9; simp only [List.set_cons_succ, List.set_cons_zero] at h; clear k9 hg9)
 refine bodyPost_ret (results_row1 rfl _ _ _ _ _ (by rfl) (h.get 0 rfl) Tryz.underlying35 rfl (by kernel_rfl)) rfl ?_
 exact ⟨_, _, _, rfl, h.fact, h.bel⟩
set_option maxRecDepth 100000 in
set_option maxHeartbeats 4000000 in
theorem wplus_eq_true {w : World} {A C : Option Addr} {n m c d x y : Nat} (h0 : x = y) (h1 : SlW w w.heap.size A n c x) (h2 : SlW w w.heap.size C m d y) (hn : n ≤ 1000000000) (hm : m ≤ 1000000000) :
  Calls Tryz.prog 33 #[.agg #[.bool true, .slice A n c], .agg #[.bool false, .slice C m d]] w (RetS w false (x - y)) := by
 have hle := Lib.hid h0
 have HE := Lib.hid (cmpN_ge (a := x) (b := y) (by omega))
 clear h0
 have HM := Lib.hid (fun (W : World) (q1 : SlW W W.heap.size A n c x) (q2 : SlW W W.heap.size C m d y) => tmore_any (w := W) (c := c) (d := d) q1.2.2.2 q2.2.2.2 q1.1.out q2.1.out (by omega) (by omega))
 have h := ((((Sw.start w).new 35 #[.bool true, .slice A n c]).new 35 #[.bool false, .slice C m d]).new 35 #[.bool false, .slice none 0 0])
 simp only [size_alloc] at h
 have f1 := h1.below h.bel
 have f2 := h2.below h.bel
 replace h := h.rest (G := fun w => SlW w w.heap.size A n c x ∧ SlW w w.heap.size C m d y) ((Stw.sl _ _ _ _).and (Stw.sl _ _ _ _)) ⟨f1, f2⟩
 clear f1 f2 h1 h2
 go_enter Tryz.func33, Tryz.ntmps33
 go_wp2_with fail
 generalize hW : (((w.alloc (Obj.cells #[.bool true, .slice A n c] 35)).alloc (Obj.cells #[.bool false, .slice C m d] 35)).alloc (Obj.cells #[.bool false, .slice none 0 0] 35)) = V0 at h ⊢
 clear hW
 refine (HM.out _ h.fact.1 h.fact.2).mono ?_
 rintro _ _ ⟨q, rfl, rfl⟩
 replace h := h.call (below_drewN (Below.refl _ _) q)
 clear HM
 obtain ⟨v, hv⟩ : ∃ v, v = cmpN x y := ⟨_, rfl⟩
 have hv0 : 0 ≤ v := by rw [hv]; exact HE.out.1
 rw [← hv]
 clear hv HE
 have c0_ := (h.get 2 rfl).cell 1
 have c1_ := (h.get 1 rfl).cell 1
 have c2_ := (h.get 2 rfl).cell 0
 go_wp2_with fail
 refine (down_sl h.fact.1 h.fact.2 hn (by have := hle.out; omega)).mono ?_
 intro e w2 hcw
 obtain ⟨D, p, q, rfl, hsl, hb2⟩ := hcw.sl
 have hp0 : p = 0 := by have := hsl.1.out; rw [show x - y = 0 by have := hle.out; omega, wds_zero] at this; simpa using this
 subst hp0
 replace h := (h.call hb2).rest (G := fun w => SlW w w.heap.size D 0 q (x - y)) (Stw.sl _ _ _ _) hsl
 clear hcw hsl hb2 c0_ c1_ c2_
 have c2_ := (h.get 2 rfl).cell 0
 go_wp2_with (refine wpList_store_all (by rfl) 35 (.tmp 4) (.tmp 38) (by rfl) #[.bool false, .slice D 0 q] (by rfl) (by rfl) (h.get 0 rfl) (by simp) (by kernel_rfl) (by simp [Value.oneCell', ptr]) ?_; intro V1 k9 hg9; replace h := h.put 0 rfl (by unfold OwnT; decide) k9 hg9; simp only [List.set_cons_succ, List.set_cons_zero] at h; clear k9 hg9)
 refine bodyPost_ret (results_row1 rfl _ _ _ _ _ (by rfl) (h.get 0 rfl) Tryz.underlying35 rfl (by kernel_rfl)) rfl ?_
 exact ⟨_, _, _, rfl, h.fact, h.bel⟩
theorem RetS.wh {w : World} {b : Bool} {m k : Nat} {z : Int} {e : Ending} {w' : World} (h : RetS w b m e w') (hb : b = decide (z < 0)) (hm : m = z.natAbs) (hk : z.natAbs < 2 ^ k) : Ret w (IsWh z k) e w' := by
 obtain ⟨D, p, q, rfl, hs, hbl⟩ := h
 subst hm
 exact ⟨_, rfl, ⟨D, p, q, by rw [hb], hs, hk⟩, hbl⟩
theorem slw_len {w : World} {B n c m k : Nat} {A : Option Addr} (h : SlW w B A n c m) (hm : m < 2 ^ k) (hk : k ≤ 100000000) : n ≤ 1000000000 := by
 rw [h.1.out]
 have := len_sz hm hk
 omega
theorem wplus_any {w : World} {v1 v2 : Value} {a b : Int} {k : Nat} (h1 : IsWh a k v1 w) (h2 : IsWh b k v2 w) (hk : k ≤ 10000000) : Calls Tryz.prog 33 #[v1, v2] w (Ret w (IsWh (a + b) (k + 1))) := by
 obtain ⟨A, n, c, rfl, s1, z1⟩ := h1
 obtain ⟨C, m, d, rfl, s2, z2⟩ := h2
 have hn := slw_len s1 z1 (by omega)
 have hm := slw_len s2 z2 (by omega)
 have hz : (a + b).natAbs < 2 ^ (k + 1) := by
  have := Int.natAbs_add_le a b
  rw [Nat.pow_succ]
  omega
 by_cases ha : a < 0
 ·rw [decide_eq_true ha]
  by_cases hb : b < 0
  ·rw [decide_eq_true hb]
   exact (wplus_same_true s1 s2 hn hm).mono fun e w' h => h.wh (decide_eq_true (by omega)).symm (by omega) hz
  ·rw [decide_eq_false hb]
   rcases Nat.lt_trichotomy a.natAbs b.natAbs with h | h | h
   ·exact (wplus_lt_false h s1 s2 hn hm).mono fun e w' h => h.wh (decide_eq_false (by omega)).symm (by omega) hz
   ·exact (wplus_eq_true h s1 s2 hn hm).mono fun e w' h => h.wh (decide_eq_false (by omega)).symm (by omega) hz
   ·exact (wplus_ge_true h s1 s2 hn hm).mono fun e w' h => h.wh (decide_eq_true (by omega)).symm (by omega) hz
 ·rw [decide_eq_false ha]
  by_cases hb : b < 0
  ·rw [decide_eq_true hb]
   rcases Nat.lt_or_ge a.natAbs b.natAbs with h | h
   ·exact (wplus_lt_true h s1 s2 hn hm).mono fun e w' h => h.wh (decide_eq_true (by omega)).symm (by omega) hz
   ·exact (wplus_ge_false h s1 s2 hn hm).mono fun e w' h => h.wh (decide_eq_false (by omega)).symm (by omega) hz
  ·rw [decide_eq_false hb]
   exact (wplus_same_false s1 s2 hn hm).mono fun e w' h => h.wh (decide_eq_false (by omega)).symm (by omega) hz
end Go.Proofs.YtebpggfccljagaaGreat
