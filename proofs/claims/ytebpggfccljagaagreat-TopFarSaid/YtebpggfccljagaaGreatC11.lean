import Derived.Test.YtebpggfccljagaaGreatC10
import Derived.Test.YtebpggfccljagaaGreatC4
namespace Go.Proofs.YtebpggfccljagaaGreat
open Go.RowKit
open Wh
set_option linter.unusedSimpArgs false
theorem norm_chart : Mx.norm ⟨⟨((1 : Int) : Rat), ((0 : Int) : Rat)⟩, ⟨((0 : Int) : Rat), ((-1 : Int) : Rat)⟩, ⟨((1 : Int) : Rat), ((0 : Int) : Rat)⟩, ⟨((0 : Int) : Rat), ((1 : Int) : Rat)⟩, false⟩ = chart := by
 unfold Mx.norm chart
 congr 1 <;> decide +kernel
theorem det_chart : ¬ (Mx.det ⟨⟨((1 : Int) : Rat), ((0 : Int) : Rat)⟩, ⟨((0 : Int) : Rat), ((-1 : Int) : Rat)⟩, ⟨((1 : Int) : Rat), ((0 : Int) : Rat)⟩, ⟨((0 : Int) : Rat), ((1 : Int) : Rat)⟩, false⟩).Zero := by decide +kernel
set_option maxRecDepth 100000 in
set_option maxHeartbeats 8000000 in
theorem chart_any {w : World} : Calls Tryz.prog 17 #[.int .i64 1, .int .i64 2] w (RetE w (fun v _ => IsMob chart (8 * 8 + 2) v)) := by
 have h := (St.start w).new 29 #[.bool false, .string ⟨#[]⟩, .bool false, .string ⟨#[]⟩, .bool false, .string ⟨#[]⟩, .bool false, .string ⟨#[]⟩, .bool false, .string ⟨#[]⟩, .bool false, .string ⟨#[]⟩, .bool false, .string ⟨#[]⟩, .bool false, .string ⟨#[]⟩, .bool false, .string ⟨#[]⟩, .bool false, .string ⟨#[]⟩, .bool false, .string ⟨#[]⟩, .bool false, .string ⟨#[]⟩, .bool false, .string ⟨#[]⟩, .bool false, .string ⟨#[]⟩, .bool false, .string ⟨#[]⟩, .bool false, .string ⟨#[]⟩, .bool false]
 go_enter Tryz.func17, Tryz.ntmps17
 go_wp2_with fail
 generalize hW : w.alloc _ = V0 at h ⊢
 clear hW
 refine of_up.mono ?_
 rintro _ U1 ⟨_, rfl, ⟨b0, s0, b1, s1, b2, s2, b3, s3, rfl, _, _⟩, hb2⟩
 replace h := h.call hb2
 clear hb2
 go_wp2_with (replace h := h.new 75 #[.nilFunc, .int .i64 0, .int .i64 0, .int .i64 0, .int .i64 0, .int .i64 0, .bool false, .string ⟨#[]⟩, .bool false, .string ⟨#[]⟩, .bool false, .string ⟨#[]⟩, .bool false, .string ⟨#[]⟩]; refine wpList_store_all (by rfl) 75 (.tmp 6) (.tmp 15) (by rfl) #[.func (.func 103) #[] #[], .int .i64 0, .int .i64 0, .int .i64 1, .int .i64 0, .int .i64 2, .bool b0, .string s0, .bool b1, .string s1, .bool b2, .string s2, .bool b3, .string s3] (by rfl) (by rfl) (h.get 0 rfl) (by simp) (by kernel_rfl) (by simp [Value.oneCell', ptr]) ?_; intro V1 k9 hg9; replace h := h.put 0 rfl ⟨by decide, by simp⟩ k9 hg9; simp only [List.set_cons_succ, List.set_cons_zero] at h; clear k9 hg9)
 refine of_round.mono ?_
 rintro _ U2 ⟨_, rfl, ⟨b4, s4, b5, s5, b6, s6, b7, s7, rfl, _, _⟩, hb2⟩
 replace h := h.call hb2
 clear hb2
 go_wp2_with (replace h := h.new 75 #[.nilFunc, .int .i64 0, .int .i64 0, .int .i64 0, .int .i64 0, .int .i64 0, .bool false, .string ⟨#[]⟩, .bool false, .string ⟨#[]⟩, .bool false, .string ⟨#[]⟩, .bool false, .string ⟨#[]⟩]; refine wpList_store_all (by rfl) 75 (.tmp 8) (.tmp 20) (by rfl) #[.func (.func 105) #[] #[], .int .i64 1, .int .i64 0, .int .i64 0, .int .i64 (-1), .int .i64 1, .bool b4, .string s4, .bool b5, .string s5, .bool b6, .string s6, .bool b7, .string s7] (by rfl) (by rfl) (h.get 0 rfl) (by simp) (by kernel_rfl) (by simp [Value.oneCell', ptr]) ?_; intro V2 k9 hg9; replace h := h.put 0 rfl ⟨by decide, by simp⟩ k9 hg9; simp only [List.set_cons_succ, List.set_cons_zero] at h; clear k9 hg9)
 refine (gaussint_any (re := 1) (im := 0) (by decide) (by decide)).mono ?_
 rintro _ G0 ⟨v0, rfl, g0, hb2⟩
 replace h := h.call hb2
 clear hb2
 go_wp2_with fail
 refine (gaussint_any (re := 0) (im := -1) (by decide) (by decide)).mono ?_
 rintro _ G1 ⟨v1, rfl, g1, hb2⟩
 replace h := h.call hb2
 clear hb2
 go_wp2_with fail
 refine (gaussint_any (re := 1) (im := 0) (by decide) (by decide)).mono ?_
 rintro _ G2 ⟨v2, rfl, g2, hb2⟩
 replace h := h.call hb2
 clear hb2
 go_wp2_with fail
 refine (gaussint_any (re := 0) (im := 1) (by decide) (by decide)).mono ?_
 rintro _ G3 ⟨v3, rfl, g3, hb2⟩
 replace h := h.call hb2
 clear hb2
 go_wp2_with fail
 refine (make_any g0 g1 g2 g3 det_chart (by decide +kernel) (by omega)).mono ?_
 rintro _ U7 ⟨_, rfl, ⟨d0, r0, d1, r1, d2, r2, d3, r3, d4, r4, d5, r5, d6, r6, d7, r7, d8, r8, d9, r9, d10, r10, d11, r11, d12, r12, d13, r13, d14, r14, d15, r15, rfl, G0⟩, hb2⟩
 replace h := h.call hb2
 clear hb2
 go_wp2_with (first | (replace h := h.new 29 #[.bool false, .string ⟨#[]⟩, .bool false, .string ⟨#[]⟩, .bool false, .string ⟨#[]⟩, .bool false, .string ⟨#[]⟩, .bool false, .string ⟨#[]⟩, .bool false, .string ⟨#[]⟩, .bool false, .string ⟨#[]⟩, .bool false, .string ⟨#[]⟩, .bool false, .string ⟨#[]⟩, .bool false, .string ⟨#[]⟩, .bool false, .string ⟨#[]⟩, .bool false, .string ⟨#[]⟩, .bool false, .string ⟨#[]⟩, .bool false, .string ⟨#[]⟩, .bool false, .string ⟨#[]⟩, .bool false, .string ⟨#[]⟩, .bool false]; refine wpList_store_all (by rfl) 29 (.tmp 10) (.tmp 41) (by rfl) #[.bool d0, .string r0, .bool d1, .string r1, .bool d2, .string r2, .bool d3, .string r3, .bool d4, .string r4, .bool d5, .string r5, .bool d6, .string r6, .bool d7, .string r7, .bool d8, .string r8, .bool d9, .string r9, .bool d10, .string r10, .bool d11, .string r11, .bool d12, .string r12, .bool d13, .string r13, .bool d14, .string r14, .bool d15, .string r15, .bool false] (by rfl) (by rfl) (h.get 0 rfl) (by simp) (by kernel_rfl) (by simp [Value.oneCell', ptr]) ?_; intro V3 k9 hg9; replace h := h.put 0 rfl ⟨by decide, by simp⟩ k9 hg9; simp only [List.set_cons_succ, List.set_cons_zero] at h; clear k9 hg9) | (refine wpList_load_all (by rfl) 29 (.tmp 10) (by rfl) (by rfl) _ (h.get 0 rfl) Tryz.underlying29 rfl (by kernel_rfl) ?_) | (refine wpList_store_all (by rfl) 29 (.tmp 4) (.tmp 49) (by rfl) #[.bool d0, .string r0, .bool d1, .string r1, .bool d2, .string r2, .bool d3, .string r3, .bool d4, .string r4, .bool d5, .string r5, .bool d6, .string r6, .bool d7, .string r7, .bool d8, .string r8, .bool d9, .string r9, .bool d10, .string r10, .bool d11, .string r11, .bool d12, .string r12, .bool d13, .string r13, .bool d14, .string r14, .bool d15, .string r15, .bool false] (by rfl) (by rfl) (h.get 3 rfl) (by simp) (by kernel_rfl) (by simp [Value.oneCell', ptr]) ?_; intro V4 k9 hg9; replace h := h.put 3 rfl ⟨by decide, by simp⟩ k9 hg9; simp only [List.set_cons_succ, List.set_cons_zero] at h; clear k9 hg9))
 refine bodyPost_ret (results_row_tmp rfl _ _ _ _ _ (by rfl) (h.get 3 rfl) Tryz.underlying29 rfl (by kernel_rfl)) rfl ?_
 refine ⟨_, rfl, ?_, h.bel⟩
 rw [← norm_chart]
 exact ⟨_, _, _, _, _, _, _, _, _, _, _, _, _, _, _, _, _, _, _, _, _, _, _, _, _, _, _, _, _, _, _, _, rfl, G0⟩
theorem IsMx.up {m : Mx} {n k : Nat} {v : Value} {w : World} (h : IsMx m n v w) (hk : n ≤ k) : IsMx m k v w := by
 obtain ⟨a, b, c, d, e, f, g, i, rfl, h1, h2, h3, h4, h5, h6, h7, h8⟩ := h
 exact ⟨a, b, c, d, e, f, g, i, rfl, h1.up hk, h2.up hk, h3.up hk, h4.up hk, h5.up hk, h6.up hk, h7.up hk, h8.up hk⟩
theorem IsPlace.below {o : Option Cx} {n : Nat} {v : Value} {w w' : World} (h : IsPlace o n v w) (hb : Below w.heap.size w w') : IsPlace o n v w' := by
 cases o with
 | none => exact h
 | some z =>
  obtain ⟨x, y, rfl, h1, h2⟩ := h
  exact ⟨x, y, rfl, h1.below hb, h2.below hb⟩
def IsThree (z1 z2 z3 : Cx) (n : Nat) : Value → World → Prop := fun v w => ∃ a b c d e f : Nat, v = .agg #[ptr a, ptr b, ptr c, ptr d, ptr e, ptr f] ∧ IsNum z1 n (.agg #[ptr a, ptr b]) w ∧ IsNum z2 n (.agg #[ptr c, ptr d]) w ∧ IsNum z3 n (.agg #[ptr e, ptr f]) w
theorem IsThree.below {z1 z2 z3 : Cx} {n : Nat} {v : Value} {w w' : World} (h : IsThree z1 z2 z3 n v w) (hb : Below w.heap.size w w') : IsThree z1 z2 z3 n v w' := by
 obtain ⟨a, b, c, d, e, f, rfl, h1, h2, h3⟩ := h
 exact ⟨a, b, c, d, e, f, rfl, h1.below hb, h2.below hb, h3.below hb⟩
theorem IsNum.shape {z : Cx} {n : Nat} {v : Value} {w : World} (h : IsNum z n v w) : ∃ a b : Nat, v = .agg #[Go.Proofs.YtebpggfccljagaaGreat.ptr a, Go.Proofs.YtebpggfccljagaaGreat.ptr b] := by
 obtain ⟨_, _, rfl, h1, h2⟩ := h
 obtain ⟨a, rfl⟩ := h1.ptr
 obtain ⟨b, rfl⟩ := h2.ptr
 exact ⟨a, b, rfl⟩
theorem int_c {w : World} {re im : Int} {z : Cx} (h1 : re.natAbs < 2 ^ 8) (h2 : im.natAbs < 2 ^ 8) (hz : (⟨(re : Rat), (im : Rat)⟩ : Cx) = z) : Calls Tryz.prog 51 #[.int .i64 re, .int .i64 im] w (Ret w (IsNum z 8)) := hz ▸ int_any h1 h2
theorem scale_zero {w : World} {v1 v2 : Value} (h1 : IsNum ⟨0, 1⟩ 8 v1 w) (h2 : IsRat ((0 : Int) : Rat) 8 v2 w) : Calls Tryz.prog 52 #[v1, v2] w (Ret w (IsNum ⟨0, 0⟩ 16)) := by
 have := scale_any h1 h2 (by omega)
 rw [show Cx.scale ⟨0, 1⟩ ((0 : Int) : Rat) = ⟨0, 0⟩ by decide +kernel] at this
 exact this
def Kept (w : World) (m : Mx) (e : Ending) (w' : World) : Prop := ∃ b : Bool, e = .returned (.tuple #[.bool b, .int .i64 0]) ∧ (b = true → KeepsU m) ∧ Below w.heap.size w w'
set_option maxRecDepth 100000 in
set_option maxHeartbeats 16000000 in
theorem keeps_any {w : World} {v : Value} {m : Mx} {n : Nat} (h1 : IsMob m n v) (h0 : ¬ m.det.Zero) (hf : m.Formed) (hn : n ≤ 1000) :
  Calls Tryz.prog 20 #[.int .i64 1, v] w (Kept w m) := by
 have HO := Lib.hid (fun W => open_any (w := W) h1 h0 hf (by omega))
 obtain ⟨b0, s0, b1, s1, b2, s2, b3, s3, b4, s4, b5, s5, b6, s6, b7, s7, b8, s8, b9, s9, b10, s10, b11, s11, b12, s12, b13, s13, b14, s14, b15, s15, rfl, _⟩ := h1
 have h := (St.start w).new 29 #[.bool b0, .string s0, .bool b1, .string s1, .bool b2, .string s2, .bool b3, .string s3, .bool b4, .string s4, .bool b5, .string s5, .bool b6, .string s6, .bool b7, .string s7, .bool b8, .string s8, .bool b9, .string s9, .bool b10, .string s10, .bool b11, .string s11, .bool b12, .string s12, .bool b13, .string s13, .bool b14, .string s14, .bool b15, .string s15, .bool m.turns]
 clear h0 hf
 go_enter Tryz.func20, Tryz.ntmps20
 go_wp2_with fail
 generalize hW : w.alloc _ = V0 at h ⊢
 clear hW
 refine of_up.mono ?_
 rintro _ U1 ⟨_, rfl, ⟨c0, t0, c1, t1, c2, t2, c3, t3, rfl, P0, P1⟩, hb2⟩
 replace h := h.call hb2
 have HM := Lib.hid (fun W => exof_any (w := W) ⟨_, _, _, _, _, _, _, _, rfl, P0, P1⟩ (by omega))
 clear hb2 P0 P1
 go_wp2_with (first | (replace h := h.new 75 #[.nilFunc, .int .i64 0, .int .i64 0, .int .i64 0, .int .i64 0, .int .i64 0, .bool false, .string ⟨#[]⟩, .bool false, .string ⟨#[]⟩, .bool false, .string ⟨#[]⟩, .bool false, .string ⟨#[]⟩]; refine wpList_store_all (by rfl) 75 (.tmp 6) (.tmp 19) (by rfl) #[.func (.func 103) #[] #[], .int .i64 0, .int .i64 0, .int .i64 1, .int .i64 0, .int .i64 2, .bool c0, .string t0, .bool c1, .string t1, .bool c2, .string t2, .bool c3, .string t3] (by rfl) (by rfl) (h.get 0 rfl) (by simp) (by kernel_rfl) (by simp [Value.oneCell', ptr]) ?_; intro V1 k9 hg9; replace h := h.put 0 rfl ⟨by decide, by simp⟩ k9 hg9; simp only [List.set_cons_succ, List.set_cons_zero] at h; clear k9 hg9) | (refine wpList_load_all (by rfl) 29 (.tmp 3) (by rfl) (by rfl) _ (h.get 1 rfl) Tryz.underlying29 rfl (by kernel_rfl) ?_))
 refine (HO.out _).mono ?_
 rintro _ U2 ⟨_, rfl, ⟨a, b, c, d, e, f, g, j, rfl, xa, xb, xc, xd, xe, xf, xg, xj⟩, hb2⟩
 replace h := (h.call hb2).rest (G := IsMx m (n + 16) (.agg #[ptr a, ptr b, ptr c, ptr d, ptr e, ptr f, ptr g, ptr j, .bool m.turns])) (Stb.mx _ _ _) (IsMx.up ⟨a, b, c, d, e, f, g, j, rfl, xa, xb, xc, xd, xe, xf, xg, xj⟩ (by omega))
 clear hb2 HO xa xb xc xd xe xf xg xj
 go_wp2_with (replace h := h.new 93 #[.pointer none, .pointer none, .pointer none, .pointer none, .pointer none, .pointer none, .pointer none, .pointer none, .bool false]; refine wpList_store_all (by rfl) 93 (.tmp 8) (.tmp 24) (by rfl) #[ptr a, ptr b, ptr c, ptr d, ptr e, ptr f, ptr g, ptr j, .bool m.turns] (by rfl) (by rfl) (h.get 0 rfl) (by simp) (by kernel_rfl) (by simp [Value.oneCell', ptr]) ?_; intro V2 k9 hg9; replace h := h.put 0 rfl ⟨by decide, by simp⟩ k9 hg9; simp only [List.set_cons_succ, List.set_cons_zero] at h; clear k9 hg9; replace m6 := (h.get 1 rfl).cell 6; replace m7 := (h.get 1 rfl).cell 7; replace m8 := (h.get 1 rfl).cell 8; replace m9 := (h.get 1 rfl).cell 9; replace m10 := (h.get 1 rfl).cell 10; replace m11 := (h.get 1 rfl).cell 11; replace m12 := (h.get 1 rfl).cell 12; replace m13 := (h.get 1 rfl).cell 13)
 refine (HM.out _).mono ?_
 rintro _ U3 ⟨_, rfl, ⟨_, _, rfl, xo, xz⟩, hb2⟩
 obtain ⟨o, rfl⟩ := xo.ptr
 obtain ⟨z, rfl⟩ := xz.ptr
 replace h := (h.call hb2).add (Stb.num ⟨0, 1⟩ (n + 16) (.agg #[ptr o, ptr z])) (IsNum.up (n := 8) ⟨_, _, rfl, xo, xz⟩ (by omega))
 clear hb2 xo xz HM m6 m7 m8 m9 m10 m11 m12 m13
 go_wp2_with (first | (replace h := h.new 83 #[.pointer none, .pointer none]; refine wpList_store_all (by rfl) 83 (.tmp 10) (.tmp 36) (by rfl) #[ptr o, ptr z] (by rfl) (by rfl) (h.get 0 rfl) (by simp) (by kernel_rfl) (by simp [Value.oneCell', ptr]) ?_; intro V3 k9 hg9; replace h := h.put 0 rfl ⟨by decide, by simp⟩ k9 hg9; simp only [List.set_cons_succ, List.set_cons_zero] at h; clear k9 hg9) | (refine wpList_load_all (by rfl) 93 (.tmp 8) (by rfl) (by rfl) _ (h.get 1 rfl) Tryz.underlying93 rfl (by kernel_rfl) ?_) | (refine wpList_load_all (by rfl) 83 (.tmp 10) (by rfl) (by rfl) _ (h.get 0 rfl) Tryz.underlying83 rfl (by kernel_rfl) ?_))
 obtain ⟨fo, fm⟩ := h.fact
 obtain ⟨_, _, e9, fx, fy⟩ := fo
 refine (send_any fm ⟨o, z, rfl, by injection e9 with e9; injection e9 with e9; injection e9 with e9 e8; rw [e9]; exact fx, by injection e9 with e9; injection e9 with e9; injection e9 with e9 e8; injection e8 with e8; rw [e8]; exact fy⟩ (by omega)).mono ?_
 rintro _ U4 ⟨pv, rfl, hpv, hb2⟩
 replace h := h.call hb2
 clear hb2 fm fx fy e9
 cases hs : m.send ⟨0, 1⟩ with
 | none =>
  rw [hs] at hpv
  have hpv : pv = _ := hpv
  subst hpv
  clear hs
  go_wp2_with (replace h := h.new 97 #[.bool false, .pointer none, .pointer none]; refine wpList_store_all (by rfl) 97 (.tmp 12) (.tmp 41) (by rfl) #[.bool true, .pointer none, .pointer none] (by rfl) (by rfl) (h.get 0 rfl) (by simp) (by kernel_rfl) (by simp [Value.oneCell', ptr]) ?_; intro V4 k9 hg9; replace h := h.put 0 rfl ⟨by decide, by simp⟩ k9 hg9; simp only [List.set_cons_succ, List.set_cons_zero] at h; clear k9 hg9; replace k0 := (h.get 0 rfl).cell 0; replace k1 := (h.get 0 rfl).cell 1; replace k2 := (h.get 0 rfl).cell 2)
  refine bodyPost_ret (v := .tuple #[.bool false, .int .i64 0]) (by simp [results, Tryz.results20, go_sem]) rfl ?_
  exact ⟨false, rfl, fun e => absurd e (by decide), h.bel⟩
 | some p0 =>
  rw [hs] at hpv
  obtain ⟨px, py, rfl, hxA, hyA⟩ := hpv
  have HS := Lib.hid hs
  clear hs
  replace h := h.add (G := fun w => IsRat p0.re (64 * (n + 16) + 26) (ptr px) w ∧ IsRat p0.im (64 * (n + 16) + 26) (ptr py) w) ((Stb.rat _ _ _).and (Stb.rat _ _ _)) ⟨hxA, hyA⟩
  clear hxA hyA
  go_wp2_with (replace h := h.new 97 #[.bool false, .pointer none, .pointer none]; refine wpList_store_all (by rfl) 97 (.tmp 12) (.tmp 41) (by rfl) #[.bool false, ptr px, ptr py] (by rfl) (by rfl) (h.get 0 rfl) (by simp) (by kernel_rfl) (by simp [Value.oneCell', ptr]) ?_; intro V4 k9 hg9; replace h := h.put 0 rfl ⟨by decide, by simp⟩ k9 hg9; simp only [List.set_cons_succ, List.set_cons_zero] at h; clear k9 hg9; replace k0 := (h.get 0 rfl).cell 0; replace k1 := (h.get 0 rfl).cell 1; replace k2 := (h.get 0 rfl).cell 2; replace q0 := (h.get 3 rfl).cell 0)
  obtain ⟨⟨hxA, hyA⟩, _, _⟩ := h.fact
  refine (hup_any (n := 64 * (n + 16) + 26) ⟨_, _, rfl, hxA, hyA⟩ (by omega)).mono ?_
  rintro _ HA ⟨vh, rfl, hvh, hb2⟩
  obtain ⟨gh, rfl⟩ := hvh.ptr
  replace h := h.call hb2
  clear hb2 hxA hyA
  clear k0 k1 k2 q0
  by_cases hp0 : 0 < p0.im
  ·have HS0 := Lib.hid (sign_pos hvh hp0)
   clear hvh
   have HP0 := Lib.hid hp0
   clear hp0
   go_wp2_with (go_at_call 50; refine HS0.out.mono ?_; rintro _ _ ⟨rfl, rfl⟩)
   have k0 := (h.get 3 rfl)
   generalize hgp : U1.heap.size = gp at *
   clear hgp
   refine wp_region_noPanic ?_
   refine wp_region_list (mk := ?mk) noV_vgs [IsNum (Cx.mk 1 0) 8, IsNum (Cx.mk (-1) 0) 8, IsNum (Cx.mk 0 1) 8, Is (.pointer (some ⟨gp, 1, none⟩)), Is (.pointer (some ⟨gp, 1, none⟩)), Is (.int .i64 0), IsRat ((0 : Int) : Rat) 8, IsNum (Cx.mk 0 0) 16, IsThree (Cx.mk 1 0) (Cx.mk (-1) 0) (Cx.mk 0 0) 16, Is (.int .i64 0)] [.plain, .plain, .plain, .plain, .plain, .plain, .plain, .plain, .plain, .plain] 10 0 (fun w' => Blk w' (gp) 75 #[.func (.func 103) #[] #[], .int .i64 0, .int .i64 0, .int .i64 1, .int .i64 0, .int .i64 2, .bool c0, .string t0, .bool c1, .string t1, .bool c2, .string t2, .bool c3, .string t3] ∧ True) ⟨nov fun _ _ _ h => h.below, nov fun _ _ _ h => h.below, nov fun _ _ _ h => h.below, is_steady _ _ _, is_steady _ _ _, is_steady _ _ _, nov fun _ _ _ h => h.below, nov fun _ _ _ h => h.below, nov fun _ _ _ h => h.below, is_steady _ _ _, trivial⟩ (by kernel_rfl) (by kernel_rfl) (by kernel_rfl) (by kernel_rfl) (by kernel_rfl) (by kernel_rfl) ?hmk (fun w' hB => ⟨k0.below hB k0.lt, trivial⟩)
    (steps_all (steps_cons ?_ (steps_cons ?_ (steps_cons ?_ (steps_cons ?_ (steps_cons ?_ (steps_cons ?_ (steps_cons ?_ (steps_cons ?_ (steps_cons ?_ (steps_cons ?_ steps_nil))))))))))) ?_
   case hmk =>
    intro u
    simp only [mkFrom, mkL, dstOf, List.range, List.range.loop, Act.put, List.setIfInBounds_toArray, List.set_cons_zero, List.set_cons_succ, List.getElem?_toArray, List.getElem?_cons_zero, List.getElem?_cons_succ, Option.bind_some]
    rfl
   ·refine step_call (o := Oper.mk (some 53) _ _ _ _ _) rfl rfl rfl (fun u ws hc hd => ?_)
    have HC := Lib.hid (int_c (w := ws) (re := 1) (im := 0) (z := Cx.mk 1 0) (by decide) (by decide) (by decide +kernel))
    refine ⟨51, #[.int .i64 1, .int .i64 0], ?_, HC.out⟩
    ·clear HC; go_simp
   ·refine step_call (o := Oper.mk (some 54) _ _ _ _ _) rfl rfl rfl (fun u ws hc hd => ?_)
    have HC := Lib.hid (int_c (w := ws) (re := (-1)) (im := 0) (z := Cx.mk (-1) 0) (by decide) (by decide) (by decide +kernel))
    refine ⟨51, #[.int .i64 (-1), .int .i64 0], ?_, HC.out⟩
    ·clear HC; go_simp
   ·refine step_call (o := Oper.mk (some 55) _ _ _ _ _) rfl rfl rfl (fun u ws hc hd => ?_)
    have HC := Lib.hid (int_c (w := ws) (re := 0) (im := 1) (z := Cx.mk 0 1) (by decide) (by decide) (by decide +kernel))
    refine ⟨51, #[.int .i64 0, .int .i64 1], ?_, HC.out⟩
    ·clear HC; go_simp
   ·refine step_is (o := Oper.mk (some 56) _ _ _ _ _) rfl rfl rfl rfl (fun u ws hc hd => ?_)
    go_simp
   ·refine step_is (o := Oper.mk (some 57) _ _ _ _ _) rfl rfl rfl rfl (fun u ws hc hd => ?_)
    have d3 : u 3 = _ := hd 3 (by kernel_rfl) (by decide)
    go_simp
   ·refine step_is (o := Oper.mk (some 58) _ _ _ _ _) rfl rfl rfl rfl (fun u ws hc hd => ?_)
    obtain ⟨k0, _⟩ := hc
    have c1 : ws.cell? ⟨gp, 1, none⟩ = some (.int .i64 0) := by rw [k0.cell]; rfl
    have d4 : u 4 = _ := hd 4 (by kernel_rfl) (by decide)
    go_simp
   ·refine step_call (o := Oper.mk (some 59) _ _ _ _ _) rfl rfl rfl (fun u ws hc hd => ?_)
    have d5 : u 5 = _ := hd 5 (by kernel_rfl) (by decide)
    have HC := Lib.hid (plnum_any (w := ws) (z := 0) (by decide))
    refine ⟨53, #[.int .i64 0], ?_, HC.out⟩
    ·clear HC; go_simp
   ·refine step_call (o := Oper.mk (some 60) _ _ _ _ _) rfl rfl rfl (fun u ws hc hd => ?_)
    have HC := Lib.hid (scale_zero (hd 2 (by kernel_rfl) (by decide) : IsNum (Cx.mk 0 1) 8 (u 2) ws) (hd 6 (by kernel_rfl) (by decide) : IsRat ((0 : Int) : Rat) 8 (u 6) ws))
    refine ⟨52, #[u 2, u 6], ?_, HC.out⟩
    ·clear HC; go_simp
   ·refine step_val (o := Oper.mk (some 61) _ _ _ _ _) rfl rfl rfl (fun u ws hc hd => ?_)
    have n1 : IsNum _ _ (u 0) ws := hd 0 (by kernel_rfl) (by decide)
    have n2 : IsNum _ _ (u 1) ws := hd 1 (by kernel_rfl) (by decide)
    have n3 : IsNum _ _ (u 7) ws := hd 7 (by kernel_rfl) (by decide)
    obtain ⟨a1, a2, ea⟩ := n1.shape
    obtain ⟨a3, a4, eb⟩ := n2.shape
    obtain ⟨a5, a6, ec⟩ := n3.shape
    rw [ea] at n1
    rw [eb] at n2
    rw [ec] at n3
    refine ⟨_, ?_, ⟨a1, a2, a3, a4, a5, a6, rfl, n1.up (by omega), n2.up (by omega), n3⟩⟩
    go_simp
   ·refine step_is (o := Oper.mk (some 62) _ _ _ _ _) rfl rfl rfl rfl (fun u ws hc hd => ?_)
    go_simp
   ·intro u w1 hb1 hf hn1
    obtain ⟨a1, a2, a3, a4, a5, a6, e8, n1, n2, n3⟩ : IsThree _ _ _ _ (u 8) w1 := hf 8 (by decide) (by decide)
    have f9 : u 9 = _ := hf 9 (by decide) (by decide)
    replace h := (h.call hb1).rest (G := fun w => IsMx m (n + 16) (.agg #[ptr a, ptr b, ptr c, ptr d, ptr e, ptr f, ptr g, ptr j, .bool m.turns]) w ∧ IsNum ⟨1, 0⟩ (n + 16) (.agg #[ptr a1, ptr a2]) w ∧ IsNum ⟨-1, 0⟩ (n + 16) (.agg #[ptr a3, ptr a4]) w ∧ IsNum ⟨0, 0⟩ (n + 16) (.agg #[ptr a5, ptr a6]) w) ((Stb.mx _ _ _).and ((Stb.num _ _ _).and ((Stb.num _ _ _).and (Stb.num _ _ _)))) ⟨(h.call hb1).fact.2.2, n1.up (by omega), n2.up (by omega), n3.up (by omega)⟩
    rw [e8, f9]
    refine wpAny_end (by kernel_rfl) ?_
    refine NoPanic.normal ?_
    clear hf hn1 n1 n2 n3 e8 f9 hb1 k0
    go_wp2_with fail
    refine wp_loop_rounds 4 ?_
    rw [rounds_succ]
    go_wp2_with (first | (refine wpList_index_row (by rfl) 112 (.tmp 61) (.tmp 62) (by rfl) 83 3 (by rfl) 0 (by rfl) #[ptr a1, ptr a2] _ Tryz.underlying112 (by decide) Tryz.underlying83 rfl (by kernel_rfl) (by rfl) ?_) | (replace h := h.new 83 #[.pointer none, .pointer none]; refine wpList_store_all (by rfl) 83 (.tmp 14) (.tmp 64) (by rfl) #[ptr a1, ptr a2] (by rfl) (by rfl) (h.get 0 rfl) (by simp) (by kernel_rfl) (by simp [Value.oneCell', ptr]) ?_; intro V5 k9 hg9; replace h := h.put 0 rfl ⟨by decide, by simp⟩ k9 hg9; simp only [List.set_cons_succ, List.set_cons_zero] at h; clear k9 hg9) | (refine wpList_load_all (by rfl) 93 (.tmp 8) (by rfl) (by rfl) _ (h.get 3 rfl) Tryz.underlying93 rfl (by kernel_rfl) ?_) | (refine wpList_load_all (by rfl) 83 (.tmp 14) (by rfl) (by rfl) _ (h.get 0 rfl) Tryz.underlying83 rfl (by kernel_rfl) ?_))
    obtain ⟨_, _, e9, fx, fy⟩ := h.fact.2.1
    injection e9 with e9
    injection e9 with e9
    injection e9 with e9 e8
    injection e8 with e8
    rw [← e9] at fx
    rw [← e8] at fy
    clear e9 e8
    refine (send_any h.fact.1 ⟨a1, a2, rfl, fx, fy⟩ (by omega)).mono ?_
    rintro _ S0 ⟨pv, rfl, hpv, hb2⟩
    replace h := h.call hb2
    clear hb2 fx fy
    cases hs : m.send ⟨1, 0⟩ with
    | none =>
     rw [hs] at hpv
     have hpv : pv = _ := hpv
     subst hpv
     have E0 := Lib.hid (show ∀ p, m.send ⟨1, 0⟩ = some p → p.im = 0 from fun p hp => by rw [hs] at hp; cases hp)
     clear hs
     go_wp2_with (replace h := h.new 97 #[.bool false, .pointer none, .pointer none]; refine wpList_store_all (by rfl) 97 (.tmp 15) (.tmp 68) (by rfl) #[.bool true, .pointer none, .pointer none] (by rfl) (by rfl) (h.get 0 rfl) (by simp) (by kernel_rfl) (by simp [Value.oneCell', ptr]) ?_; intro V6 k9 hg9; replace h := h.put 0 rfl ⟨by decide, by simp⟩ k9 hg9; simp only [List.set_cons_succ, List.set_cons_zero] at h; clear k9 hg9; replace k0 := (h.get 0 rfl).cell 0; replace k1 := (h.get 0 rfl).cell 1; replace k2 := (h.get 0 rfl).cell 2)
     clear k0 k1 k2
     rw [rounds_succ]
     go_wp2_with (first | (refine wpList_index_row (by rfl) 112 (.tmp 61) (.tmp 62) (by rfl) 83 3 (by rfl) 1 (by rfl) #[ptr a3, ptr a4] _ Tryz.underlying112 (by decide) Tryz.underlying83 rfl (by kernel_rfl) (by rfl) ?_) | (replace h := h.new 83 #[.pointer none, .pointer none]; refine wpList_store_all (by rfl) 83 (.tmp 14) (.tmp 64) (by rfl) #[ptr a3, ptr a4] (by rfl) (by rfl) (h.get 0 rfl) (by simp) (by kernel_rfl) (by simp [Value.oneCell', ptr]) ?_; intro V7 k9 hg9; replace h := h.put 0 rfl ⟨by decide, by simp⟩ k9 hg9; simp only [List.set_cons_succ, List.set_cons_zero] at h; clear k9 hg9) | (refine wpList_load_all (by rfl) 93 (.tmp 8) (by rfl) (by rfl) _ (h.get 5 rfl) Tryz.underlying93 rfl (by kernel_rfl) ?_) | (refine wpList_load_all (by rfl) 83 (.tmp 14) (by rfl) (by rfl) _ (h.get 0 rfl) Tryz.underlying83 rfl (by kernel_rfl) ?_))
     obtain ⟨_, _, e9, fx, fy⟩ := h.fact.2.2.1
     injection e9 with e9
     injection e9 with e9
     injection e9 with e9 e8
     injection e8 with e8
     rw [← e9] at fx
     rw [← e8] at fy
     clear e9 e8
     refine (send_any h.fact.1 ⟨a3, a4, rfl, fx, fy⟩ (by omega)).mono ?_
     rintro _ S1 ⟨pv, rfl, hpv, hb2⟩
     replace h := h.call hb2
     clear hb2 fx fy
     cases hs : m.send ⟨-1, 0⟩ with
     | none =>
      rw [hs] at hpv
      have hpv : pv = _ := hpv
      subst hpv
      have E1 := Lib.hid (show ∀ p, m.send ⟨-1, 0⟩ = some p → p.im = 0 from fun p hp => by rw [hs] at hp; cases hp)
      clear hs
      go_wp2_with (replace h := h.new 97 #[.bool false, .pointer none, .pointer none]; refine wpList_store_all (by rfl) 97 (.tmp 15) (.tmp 68) (by rfl) #[.bool true, .pointer none, .pointer none] (by rfl) (by rfl) (h.get 0 rfl) (by simp) (by kernel_rfl) (by simp [Value.oneCell', ptr]) ?_; intro V8 k9 hg9; replace h := h.put 0 rfl ⟨by decide, by simp⟩ k9 hg9; simp only [List.set_cons_succ, List.set_cons_zero] at h; clear k9 hg9; replace k0 := (h.get 0 rfl).cell 0; replace k1 := (h.get 0 rfl).cell 1; replace k2 := (h.get 0 rfl).cell 2)
      clear k0 k1 k2
      rw [rounds_succ]
      go_wp2_with (first | (refine wpList_index_row (by rfl) 112 (.tmp 61) (.tmp 62) (by rfl) 83 3 (by rfl) 2 (by rfl) #[ptr a5, ptr a6] _ Tryz.underlying112 (by decide) Tryz.underlying83 rfl (by kernel_rfl) (by rfl) ?_) | (replace h := h.new 83 #[.pointer none, .pointer none]; refine wpList_store_all (by rfl) 83 (.tmp 14) (.tmp 64) (by rfl) #[ptr a5, ptr a6] (by rfl) (by rfl) (h.get 0 rfl) (by simp) (by kernel_rfl) (by simp [Value.oneCell', ptr]) ?_; intro V9 k9 hg9; replace h := h.put 0 rfl ⟨by decide, by simp⟩ k9 hg9; simp only [List.set_cons_succ, List.set_cons_zero] at h; clear k9 hg9) | (refine wpList_load_all (by rfl) 93 (.tmp 8) (by rfl) (by rfl) _ (h.get 7 rfl) Tryz.underlying93 rfl (by kernel_rfl) ?_) | (refine wpList_load_all (by rfl) 83 (.tmp 14) (by rfl) (by rfl) _ (h.get 0 rfl) Tryz.underlying83 rfl (by kernel_rfl) ?_))
      obtain ⟨_, _, e9, fx, fy⟩ := h.fact.2.2.2
      injection e9 with e9
      injection e9 with e9
      injection e9 with e9 e8
      injection e8 with e8
      rw [← e9] at fx
      rw [← e8] at fy
      clear e9 e8
      refine (send_any h.fact.1 ⟨a5, a6, rfl, fx, fy⟩ (by omega)).mono ?_
      rintro _ S2 ⟨pv, rfl, hpv, hb2⟩
      replace h := h.call hb2
      clear hb2 fx fy
      cases hs : m.send ⟨0, 0⟩ with
      | none =>
       rw [hs] at hpv
       have hpv : pv = _ := hpv
       subst hpv
       have E2 := Lib.hid (show ∀ p, m.send ⟨0, 0⟩ = some p → p.im = 0 from fun p hp => by rw [hs] at hp; cases hp)
       clear hs
       go_wp2_with (replace h := h.new 97 #[.bool false, .pointer none, .pointer none]; refine wpList_store_all (by rfl) 97 (.tmp 15) (.tmp 68) (by rfl) #[.bool true, .pointer none, .pointer none] (by rfl) (by rfl) (h.get 0 rfl) (by simp) (by kernel_rfl) (by simp [Value.oneCell', ptr]) ?_; intro V10 k9 hg9; replace h := h.put 0 rfl ⟨by decide, by simp⟩ k9 hg9; simp only [List.set_cons_succ, List.set_cons_zero] at h; clear k9 hg9; replace k0 := (h.get 0 rfl).cell 0; replace k1 := (h.get 0 rfl).cell 1; replace k2 := (h.get 0 rfl).cell 2)
       clear k0 k1 k2
       rw [rounds_succ]
       go_wp2_with fail
       refine bodyPost_ret (v := .tuple #[.bool true, .int .i64 0]) (by simp [results, Tryz.results20, go_sem]) rfl ?_
       exact ⟨true, rfl, fun _ => ⟨⟨p0, HS.out, HP0.out⟩, E0.out, E1.out, E2.out⟩, h.bel⟩
      | some p =>
       rw [hs] at hpv
       obtain ⟨px, py, rfl, hxB, hyB⟩ := hpv
       have hkeep := h.fact
       replace h := h.add (G := fun w => IsRat p.re (64 * (n + 16) + 26) (ptr px) w ∧ IsRat p.im (64 * (n + 16) + 26) (ptr py) w) ((Stb.rat _ _ _).and (Stb.rat _ _ _)) ⟨hxB, hyB⟩
       clear hxB hyB hkeep
       go_wp2_with (replace h := h.new 97 #[.bool false, .pointer none, .pointer none]; refine wpList_store_all (by rfl) 97 (.tmp 15) (.tmp 68) (by rfl) #[.bool false, ptr px, ptr py] (by rfl) (by rfl) (h.get 0 rfl) (by simp) (by kernel_rfl) (by simp [Value.oneCell', ptr]) ?_; intro V10 k9 hg9; replace h := h.put 0 rfl ⟨by decide, by simp⟩ k9 hg9; simp only [List.set_cons_succ, List.set_cons_zero] at h; clear k9 hg9; replace k0 := (h.get 0 rfl).cell 0; replace k1 := (h.get 0 rfl).cell 1; replace k2 := (h.get 0 rfl).cell 2; replace q0 := (h.get 9 rfl).cell 0)
       obtain ⟨⟨hxB, hyB⟩, _, _⟩ := h.fact
       refine (hup_any (n := 64 * (n + 16) + 26) ⟨_, _, rfl, hxB, hyB⟩ (by omega)).mono ?_
       rintro _ HB ⟨vh, rfl, hvh, hb2⟩
       obtain ⟨gh, rfl⟩ := hvh.ptr
       replace h := h.call hb2
       clear hb2 hxB hyB
       replace h := h.rest (G := fun w => IsMx m (n + 16) (.agg #[ptr a, ptr b, ptr c, ptr d, ptr e, ptr f, ptr g, ptr j, .bool m.turns]) w ∧ IsNum ⟨1, 0⟩ (n + 16) (.agg #[ptr a1, ptr a2]) w ∧ IsNum ⟨-1, 0⟩ (n + 16) (.agg #[ptr a3, ptr a4]) w ∧ IsNum ⟨0, 0⟩ (n + 16) (.agg #[ptr a5, ptr a6]) w) ((Stb.mx _ _ _).and ((Stb.num _ _ _).and ((Stb.num _ _ _).and (Stb.num _ _ _)))) h.fact.2
       clear k0 k1 k2 q0
       by_cases hpi : p.im = 0
       ·have HS0 := Lib.hid (sign_zero hvh hpi)
        have E2 := Lib.hid (show ∀ p, m.send ⟨0, 0⟩ = some p → p.im = 0 from fun p hp => by rw [hs] at hp; injection hp with hp; rw [← hp]; exact hpi)
        clear hvh hpi hs
        go_wp2_with (go_at_call 50; refine HS0.out.mono ?_; rintro _ _ ⟨rfl, rfl⟩)
        clear HS0
        rw [rounds_succ]
        go_wp2_with fail
        refine bodyPost_ret (v := .tuple #[.bool true, .int .i64 0]) (by simp [results, Tryz.results20, go_sem]) rfl ?_
        exact ⟨true, rfl, fun _ => ⟨⟨p0, HS.out, HP0.out⟩, E0.out, E1.out, E2.out⟩, h.bel⟩
       ·rcases rat_ne hpi with hpn | hpn
        all_goals
         first
         | have HS0 := Lib.hid (sign_neg hvh hpn)
         | have HS0 := Lib.hid (sign_pos hvh hpn)
         clear hvh hpi hpn hs
         go_wp2_with (go_at_call 50; refine HS0.out.mono ?_; rintro _ _ ⟨rfl, rfl⟩)
         refine bodyPost_ret (v := .tuple #[.bool false, .int .i64 0]) (by simp [results, Tryz.results20, go_sem]) rfl ?_
         exact ⟨false, rfl, fun e => absurd e (by decide), h.bel⟩
     | some p =>
      rw [hs] at hpv
      obtain ⟨px, py, rfl, hxB, hyB⟩ := hpv
      have hkeep := h.fact
      replace h := h.add (G := fun w => IsRat p.re (64 * (n + 16) + 26) (ptr px) w ∧ IsRat p.im (64 * (n + 16) + 26) (ptr py) w) ((Stb.rat _ _ _).and (Stb.rat _ _ _)) ⟨hxB, hyB⟩
      clear hxB hyB hkeep
      go_wp2_with (replace h := h.new 97 #[.bool false, .pointer none, .pointer none]; refine wpList_store_all (by rfl) 97 (.tmp 15) (.tmp 68) (by rfl) #[.bool false, ptr px, ptr py] (by rfl) (by rfl) (h.get 0 rfl) (by simp) (by kernel_rfl) (by simp [Value.oneCell', ptr]) ?_; intro V8 k9 hg9; replace h := h.put 0 rfl ⟨by decide, by simp⟩ k9 hg9; simp only [List.set_cons_succ, List.set_cons_zero] at h; clear k9 hg9; replace k0 := (h.get 0 rfl).cell 0; replace k1 := (h.get 0 rfl).cell 1; replace k2 := (h.get 0 rfl).cell 2; replace q0 := (h.get 7 rfl).cell 0)
      obtain ⟨⟨hxB, hyB⟩, _, _⟩ := h.fact
      refine (hup_any (n := 64 * (n + 16) + 26) ⟨_, _, rfl, hxB, hyB⟩ (by omega)).mono ?_
      rintro _ HB ⟨vh, rfl, hvh, hb2⟩
      obtain ⟨gh, rfl⟩ := hvh.ptr
      replace h := h.call hb2
      clear hb2 hxB hyB
      replace h := h.rest (G := fun w => IsMx m (n + 16) (.agg #[ptr a, ptr b, ptr c, ptr d, ptr e, ptr f, ptr g, ptr j, .bool m.turns]) w ∧ IsNum ⟨1, 0⟩ (n + 16) (.agg #[ptr a1, ptr a2]) w ∧ IsNum ⟨-1, 0⟩ (n + 16) (.agg #[ptr a3, ptr a4]) w ∧ IsNum ⟨0, 0⟩ (n + 16) (.agg #[ptr a5, ptr a6]) w) ((Stb.mx _ _ _).and ((Stb.num _ _ _).and ((Stb.num _ _ _).and (Stb.num _ _ _)))) h.fact.2
      clear k0 k1 k2 q0
      by_cases hpi : p.im = 0
      ·have HS0 := Lib.hid (sign_zero hvh hpi)
       have E1 := Lib.hid (show ∀ p, m.send ⟨-1, 0⟩ = some p → p.im = 0 from fun p hp => by rw [hs] at hp; injection hp with hp; rw [← hp]; exact hpi)
       clear hvh hpi hs
       go_wp2_with (go_at_call 50; refine HS0.out.mono ?_; rintro _ _ ⟨rfl, rfl⟩)
       clear HS0
       rw [rounds_succ]
       go_wp2_with (first | (refine wpList_index_row (by rfl) 112 (.tmp 61) (.tmp 62) (by rfl) 83 3 (by rfl) 2 (by rfl) #[ptr a5, ptr a6] _ Tryz.underlying112 (by decide) Tryz.underlying83 rfl (by kernel_rfl) (by rfl) ?_) | (replace h := h.new 83 #[.pointer none, .pointer none]; refine wpList_store_all (by rfl) 83 (.tmp 14) (.tmp 64) (by rfl) #[ptr a5, ptr a6] (by rfl) (by rfl) (h.get 0 rfl) (by simp) (by kernel_rfl) (by simp [Value.oneCell', ptr]) ?_; intro V9 k9 hg9; replace h := h.put 0 rfl ⟨by decide, by simp⟩ k9 hg9; simp only [List.set_cons_succ, List.set_cons_zero] at h; clear k9 hg9) | (refine wpList_load_all (by rfl) 93 (.tmp 8) (by rfl) (by rfl) _ (h.get 7 rfl) Tryz.underlying93 rfl (by kernel_rfl) ?_) | (refine wpList_load_all (by rfl) 83 (.tmp 14) (by rfl) (by rfl) _ (h.get 0 rfl) Tryz.underlying83 rfl (by kernel_rfl) ?_))
       obtain ⟨_, _, e9, fx, fy⟩ := h.fact.2.2.2
       injection e9 with e9
       injection e9 with e9
       injection e9 with e9 e8
       injection e8 with e8
       rw [← e9] at fx
       rw [← e8] at fy
       clear e9 e8
       refine (send_any h.fact.1 ⟨a5, a6, rfl, fx, fy⟩ (by omega)).mono ?_
       rintro _ S2 ⟨pv, rfl, hpv, hb2⟩
       replace h := h.call hb2
       clear hb2 fx fy
       cases hs : m.send ⟨0, 0⟩ with
       | none =>
        rw [hs] at hpv
        have hpv : pv = _ := hpv
        subst hpv
        have E2 := Lib.hid (show ∀ p, m.send ⟨0, 0⟩ = some p → p.im = 0 from fun p hp => by rw [hs] at hp; cases hp)
        clear hs
        go_wp2_with (replace h := h.new 97 #[.bool false, .pointer none, .pointer none]; refine wpList_store_all (by rfl) 97 (.tmp 15) (.tmp 68) (by rfl) #[.bool true, .pointer none, .pointer none] (by rfl) (by rfl) (h.get 0 rfl) (by simp) (by kernel_rfl) (by simp [Value.oneCell', ptr]) ?_; intro V10 k9 hg9; replace h := h.put 0 rfl ⟨by decide, by simp⟩ k9 hg9; simp only [List.set_cons_succ, List.set_cons_zero] at h; clear k9 hg9; replace k0 := (h.get 0 rfl).cell 0; replace k1 := (h.get 0 rfl).cell 1; replace k2 := (h.get 0 rfl).cell 2)
        clear k0 k1 k2
        rw [rounds_succ]
        go_wp2_with fail
        refine bodyPost_ret (v := .tuple #[.bool true, .int .i64 0]) (by simp [results, Tryz.results20, go_sem]) rfl ?_
        exact ⟨true, rfl, fun _ => ⟨⟨p0, HS.out, HP0.out⟩, E0.out, E1.out, E2.out⟩, h.bel⟩
       | some p =>
        rw [hs] at hpv
        obtain ⟨px, py, rfl, hxB, hyB⟩ := hpv
        have hkeep := h.fact
        replace h := h.add (G := fun w => IsRat p.re (64 * (n + 16) + 26) (ptr px) w ∧ IsRat p.im (64 * (n + 16) + 26) (ptr py) w) ((Stb.rat _ _ _).and (Stb.rat _ _ _)) ⟨hxB, hyB⟩
        clear hxB hyB hkeep
        go_wp2_with (replace h := h.new 97 #[.bool false, .pointer none, .pointer none]; refine wpList_store_all (by rfl) 97 (.tmp 15) (.tmp 68) (by rfl) #[.bool false, ptr px, ptr py] (by rfl) (by rfl) (h.get 0 rfl) (by simp) (by kernel_rfl) (by simp [Value.oneCell', ptr]) ?_; intro V10 k9 hg9; replace h := h.put 0 rfl ⟨by decide, by simp⟩ k9 hg9; simp only [List.set_cons_succ, List.set_cons_zero] at h; clear k9 hg9; replace k0 := (h.get 0 rfl).cell 0; replace k1 := (h.get 0 rfl).cell 1; replace k2 := (h.get 0 rfl).cell 2; replace q0 := (h.get 9 rfl).cell 0)
        obtain ⟨⟨hxB, hyB⟩, _, _⟩ := h.fact
        refine (hup_any (n := 64 * (n + 16) + 26) ⟨_, _, rfl, hxB, hyB⟩ (by omega)).mono ?_
        rintro _ HB ⟨vh, rfl, hvh, hb2⟩
        obtain ⟨gh, rfl⟩ := hvh.ptr
        replace h := h.call hb2
        clear hb2 hxB hyB
        replace h := h.rest (G := fun w => IsMx m (n + 16) (.agg #[ptr a, ptr b, ptr c, ptr d, ptr e, ptr f, ptr g, ptr j, .bool m.turns]) w ∧ IsNum ⟨1, 0⟩ (n + 16) (.agg #[ptr a1, ptr a2]) w ∧ IsNum ⟨-1, 0⟩ (n + 16) (.agg #[ptr a3, ptr a4]) w ∧ IsNum ⟨0, 0⟩ (n + 16) (.agg #[ptr a5, ptr a6]) w) ((Stb.mx _ _ _).and ((Stb.num _ _ _).and ((Stb.num _ _ _).and (Stb.num _ _ _)))) h.fact.2
        clear k0 k1 k2 q0
        by_cases hpi : p.im = 0
        ·have HS0 := Lib.hid (sign_zero hvh hpi)
         have E2 := Lib.hid (show ∀ p, m.send ⟨0, 0⟩ = some p → p.im = 0 from fun p hp => by rw [hs] at hp; injection hp with hp; rw [← hp]; exact hpi)
         clear hvh hpi hs
         go_wp2_with (go_at_call 50; refine HS0.out.mono ?_; rintro _ _ ⟨rfl, rfl⟩)
         clear HS0
         rw [rounds_succ]
         go_wp2_with fail
         refine bodyPost_ret (v := .tuple #[.bool true, .int .i64 0]) (by simp [results, Tryz.results20, go_sem]) rfl ?_
         exact ⟨true, rfl, fun _ => ⟨⟨p0, HS.out, HP0.out⟩, E0.out, E1.out, E2.out⟩, h.bel⟩
        ·rcases rat_ne hpi with hpn | hpn
         all_goals
          first
          | have HS0 := Lib.hid (sign_neg hvh hpn)
          | have HS0 := Lib.hid (sign_pos hvh hpn)
          clear hvh hpi hpn hs
          go_wp2_with (go_at_call 50; refine HS0.out.mono ?_; rintro _ _ ⟨rfl, rfl⟩)
          refine bodyPost_ret (v := .tuple #[.bool false, .int .i64 0]) (by simp [results, Tryz.results20, go_sem]) rfl ?_
          exact ⟨false, rfl, fun e => absurd e (by decide), h.bel⟩
      ·rcases rat_ne hpi with hpn | hpn
       all_goals
        first
        | have HS0 := Lib.hid (sign_neg hvh hpn)
        | have HS0 := Lib.hid (sign_pos hvh hpn)
        clear hvh hpi hpn hs
        go_wp2_with (go_at_call 50; refine HS0.out.mono ?_; rintro _ _ ⟨rfl, rfl⟩)
        refine bodyPost_ret (v := .tuple #[.bool false, .int .i64 0]) (by simp [results, Tryz.results20, go_sem]) rfl ?_
        exact ⟨false, rfl, fun e => absurd e (by decide), h.bel⟩
    | some p =>
     rw [hs] at hpv
     obtain ⟨px, py, rfl, hxB, hyB⟩ := hpv
     have hkeep := h.fact
     replace h := h.add (G := fun w => IsRat p.re (64 * (n + 16) + 26) (ptr px) w ∧ IsRat p.im (64 * (n + 16) + 26) (ptr py) w) ((Stb.rat _ _ _).and (Stb.rat _ _ _)) ⟨hxB, hyB⟩
     clear hxB hyB hkeep
     go_wp2_with (replace h := h.new 97 #[.bool false, .pointer none, .pointer none]; refine wpList_store_all (by rfl) 97 (.tmp 15) (.tmp 68) (by rfl) #[.bool false, ptr px, ptr py] (by rfl) (by rfl) (h.get 0 rfl) (by simp) (by kernel_rfl) (by simp [Value.oneCell', ptr]) ?_; intro V6 k9 hg9; replace h := h.put 0 rfl ⟨by decide, by simp⟩ k9 hg9; simp only [List.set_cons_succ, List.set_cons_zero] at h; clear k9 hg9; replace k0 := (h.get 0 rfl).cell 0; replace k1 := (h.get 0 rfl).cell 1; replace k2 := (h.get 0 rfl).cell 2; replace q0 := (h.get 5 rfl).cell 0)
     obtain ⟨⟨hxB, hyB⟩, _, _⟩ := h.fact
     refine (hup_any (n := 64 * (n + 16) + 26) ⟨_, _, rfl, hxB, hyB⟩ (by omega)).mono ?_
     rintro _ HB ⟨vh, rfl, hvh, hb2⟩
     obtain ⟨gh, rfl⟩ := hvh.ptr
     replace h := h.call hb2
     clear hb2 hxB hyB
     replace h := h.rest (G := fun w => IsMx m (n + 16) (.agg #[ptr a, ptr b, ptr c, ptr d, ptr e, ptr f, ptr g, ptr j, .bool m.turns]) w ∧ IsNum ⟨1, 0⟩ (n + 16) (.agg #[ptr a1, ptr a2]) w ∧ IsNum ⟨-1, 0⟩ (n + 16) (.agg #[ptr a3, ptr a4]) w ∧ IsNum ⟨0, 0⟩ (n + 16) (.agg #[ptr a5, ptr a6]) w) ((Stb.mx _ _ _).and ((Stb.num _ _ _).and ((Stb.num _ _ _).and (Stb.num _ _ _)))) h.fact.2
     clear k0 k1 k2 q0
     by_cases hpi : p.im = 0
     ·have HS0 := Lib.hid (sign_zero hvh hpi)
      have E0 := Lib.hid (show ∀ p, m.send ⟨1, 0⟩ = some p → p.im = 0 from fun p hp => by rw [hs] at hp; injection hp with hp; rw [← hp]; exact hpi)
      clear hvh hpi hs
      go_wp2_with (go_at_call 50; refine HS0.out.mono ?_; rintro _ _ ⟨rfl, rfl⟩)
      clear HS0
      rw [rounds_succ]
      go_wp2_with (first | (refine wpList_index_row (by rfl) 112 (.tmp 61) (.tmp 62) (by rfl) 83 3 (by rfl) 1 (by rfl) #[ptr a3, ptr a4] _ Tryz.underlying112 (by decide) Tryz.underlying83 rfl (by kernel_rfl) (by rfl) ?_) | (replace h := h.new 83 #[.pointer none, .pointer none]; refine wpList_store_all (by rfl) 83 (.tmp 14) (.tmp 64) (by rfl) #[ptr a3, ptr a4] (by rfl) (by rfl) (h.get 0 rfl) (by simp) (by kernel_rfl) (by simp [Value.oneCell', ptr]) ?_; intro V7 k9 hg9; replace h := h.put 0 rfl ⟨by decide, by simp⟩ k9 hg9; simp only [List.set_cons_succ, List.set_cons_zero] at h; clear k9 hg9) | (refine wpList_load_all (by rfl) 93 (.tmp 8) (by rfl) (by rfl) _ (h.get 5 rfl) Tryz.underlying93 rfl (by kernel_rfl) ?_) | (refine wpList_load_all (by rfl) 83 (.tmp 14) (by rfl) (by rfl) _ (h.get 0 rfl) Tryz.underlying83 rfl (by kernel_rfl) ?_))
      obtain ⟨_, _, e9, fx, fy⟩ := h.fact.2.2.1
      injection e9 with e9
      injection e9 with e9
      injection e9 with e9 e8
      injection e8 with e8
      rw [← e9] at fx
      rw [← e8] at fy
      clear e9 e8
      refine (send_any h.fact.1 ⟨a3, a4, rfl, fx, fy⟩ (by omega)).mono ?_
      rintro _ S1 ⟨pv, rfl, hpv, hb2⟩
      replace h := h.call hb2
      clear hb2 fx fy
      cases hs : m.send ⟨-1, 0⟩ with
      | none =>
       rw [hs] at hpv
       have hpv : pv = _ := hpv
       subst hpv
       have E1 := Lib.hid (show ∀ p, m.send ⟨-1, 0⟩ = some p → p.im = 0 from fun p hp => by rw [hs] at hp; cases hp)
       clear hs
       go_wp2_with (replace h := h.new 97 #[.bool false, .pointer none, .pointer none]; refine wpList_store_all (by rfl) 97 (.tmp 15) (.tmp 68) (by rfl) #[.bool true, .pointer none, .pointer none] (by rfl) (by rfl) (h.get 0 rfl) (by simp) (by kernel_rfl) (by simp [Value.oneCell', ptr]) ?_; intro V8 k9 hg9; replace h := h.put 0 rfl ⟨by decide, by simp⟩ k9 hg9; simp only [List.set_cons_succ, List.set_cons_zero] at h; clear k9 hg9; replace k0 := (h.get 0 rfl).cell 0; replace k1 := (h.get 0 rfl).cell 1; replace k2 := (h.get 0 rfl).cell 2)
       clear k0 k1 k2
       rw [rounds_succ]
       go_wp2_with (first | (refine wpList_index_row (by rfl) 112 (.tmp 61) (.tmp 62) (by rfl) 83 3 (by rfl) 2 (by rfl) #[ptr a5, ptr a6] _ Tryz.underlying112 (by decide) Tryz.underlying83 rfl (by kernel_rfl) (by rfl) ?_) | (replace h := h.new 83 #[.pointer none, .pointer none]; refine wpList_store_all (by rfl) 83 (.tmp 14) (.tmp 64) (by rfl) #[ptr a5, ptr a6] (by rfl) (by rfl) (h.get 0 rfl) (by simp) (by kernel_rfl) (by simp [Value.oneCell', ptr]) ?_; intro V9 k9 hg9; replace h := h.put 0 rfl ⟨by decide, by simp⟩ k9 hg9; simp only [List.set_cons_succ, List.set_cons_zero] at h; clear k9 hg9) | (refine wpList_load_all (by rfl) 93 (.tmp 8) (by rfl) (by rfl) _ (h.get 7 rfl) Tryz.underlying93 rfl (by kernel_rfl) ?_) | (refine wpList_load_all (by rfl) 83 (.tmp 14) (by rfl) (by rfl) _ (h.get 0 rfl) Tryz.underlying83 rfl (by kernel_rfl) ?_))
       obtain ⟨_, _, e9, fx, fy⟩ := h.fact.2.2.2
       injection e9 with e9
       injection e9 with e9
       injection e9 with e9 e8
       injection e8 with e8
       rw [← e9] at fx
       rw [← e8] at fy
       clear e9 e8
       refine (send_any h.fact.1 ⟨a5, a6, rfl, fx, fy⟩ (by omega)).mono ?_
       rintro _ S2 ⟨pv, rfl, hpv, hb2⟩
       replace h := h.call hb2
       clear hb2 fx fy
       cases hs : m.send ⟨0, 0⟩ with
       | none =>
        rw [hs] at hpv
        have hpv : pv = _ := hpv
        subst hpv
        have E2 := Lib.hid (show ∀ p, m.send ⟨0, 0⟩ = some p → p.im = 0 from fun p hp => by rw [hs] at hp; cases hp)
        clear hs
        go_wp2_with (replace h := h.new 97 #[.bool false, .pointer none, .pointer none]; refine wpList_store_all (by rfl) 97 (.tmp 15) (.tmp 68) (by rfl) #[.bool true, .pointer none, .pointer none] (by rfl) (by rfl) (h.get 0 rfl) (by simp) (by kernel_rfl) (by simp [Value.oneCell', ptr]) ?_; intro V10 k9 hg9; replace h := h.put 0 rfl ⟨by decide, by simp⟩ k9 hg9; simp only [List.set_cons_succ, List.set_cons_zero] at h; clear k9 hg9; replace k0 := (h.get 0 rfl).cell 0; replace k1 := (h.get 0 rfl).cell 1; replace k2 := (h.get 0 rfl).cell 2)
        clear k0 k1 k2
        rw [rounds_succ]
        go_wp2_with fail
        refine bodyPost_ret (v := .tuple #[.bool true, .int .i64 0]) (by simp [results, Tryz.results20, go_sem]) rfl ?_
        exact ⟨true, rfl, fun _ => ⟨⟨p0, HS.out, HP0.out⟩, E0.out, E1.out, E2.out⟩, h.bel⟩
       | some p =>
        rw [hs] at hpv
        obtain ⟨px, py, rfl, hxB, hyB⟩ := hpv
        have hkeep := h.fact
        replace h := h.add (G := fun w => IsRat p.re (64 * (n + 16) + 26) (ptr px) w ∧ IsRat p.im (64 * (n + 16) + 26) (ptr py) w) ((Stb.rat _ _ _).and (Stb.rat _ _ _)) ⟨hxB, hyB⟩
        clear hxB hyB hkeep
        go_wp2_with (replace h := h.new 97 #[.bool false, .pointer none, .pointer none]; refine wpList_store_all (by rfl) 97 (.tmp 15) (.tmp 68) (by rfl) #[.bool false, ptr px, ptr py] (by rfl) (by rfl) (h.get 0 rfl) (by simp) (by kernel_rfl) (by simp [Value.oneCell', ptr]) ?_; intro V10 k9 hg9; replace h := h.put 0 rfl ⟨by decide, by simp⟩ k9 hg9; simp only [List.set_cons_succ, List.set_cons_zero] at h; clear k9 hg9; replace k0 := (h.get 0 rfl).cell 0; replace k1 := (h.get 0 rfl).cell 1; replace k2 := (h.get 0 rfl).cell 2; replace q0 := (h.get 9 rfl).cell 0)
        obtain ⟨⟨hxB, hyB⟩, _, _⟩ := h.fact
        refine (hup_any (n := 64 * (n + 16) + 26) ⟨_, _, rfl, hxB, hyB⟩ (by omega)).mono ?_
        rintro _ HB ⟨vh, rfl, hvh, hb2⟩
        obtain ⟨gh, rfl⟩ := hvh.ptr
        replace h := h.call hb2
        clear hb2 hxB hyB
        replace h := h.rest (G := fun w => IsMx m (n + 16) (.agg #[ptr a, ptr b, ptr c, ptr d, ptr e, ptr f, ptr g, ptr j, .bool m.turns]) w ∧ IsNum ⟨1, 0⟩ (n + 16) (.agg #[ptr a1, ptr a2]) w ∧ IsNum ⟨-1, 0⟩ (n + 16) (.agg #[ptr a3, ptr a4]) w ∧ IsNum ⟨0, 0⟩ (n + 16) (.agg #[ptr a5, ptr a6]) w) ((Stb.mx _ _ _).and ((Stb.num _ _ _).and ((Stb.num _ _ _).and (Stb.num _ _ _)))) h.fact.2
        clear k0 k1 k2 q0
        by_cases hpi : p.im = 0
        ·have HS0 := Lib.hid (sign_zero hvh hpi)
         have E2 := Lib.hid (show ∀ p, m.send ⟨0, 0⟩ = some p → p.im = 0 from fun p hp => by rw [hs] at hp; injection hp with hp; rw [← hp]; exact hpi)
         clear hvh hpi hs
         go_wp2_with (go_at_call 50; refine HS0.out.mono ?_; rintro _ _ ⟨rfl, rfl⟩)
         clear HS0
         rw [rounds_succ]
         go_wp2_with fail
         refine bodyPost_ret (v := .tuple #[.bool true, .int .i64 0]) (by simp [results, Tryz.results20, go_sem]) rfl ?_
         exact ⟨true, rfl, fun _ => ⟨⟨p0, HS.out, HP0.out⟩, E0.out, E1.out, E2.out⟩, h.bel⟩
        ·rcases rat_ne hpi with hpn | hpn
         all_goals
          first
          | have HS0 := Lib.hid (sign_neg hvh hpn)
          | have HS0 := Lib.hid (sign_pos hvh hpn)
          clear hvh hpi hpn hs
          go_wp2_with (go_at_call 50; refine HS0.out.mono ?_; rintro _ _ ⟨rfl, rfl⟩)
          refine bodyPost_ret (v := .tuple #[.bool false, .int .i64 0]) (by simp [results, Tryz.results20, go_sem]) rfl ?_
          exact ⟨false, rfl, fun e => absurd e (by decide), h.bel⟩
      | some p =>
       rw [hs] at hpv
       obtain ⟨px, py, rfl, hxB, hyB⟩ := hpv
       have hkeep := h.fact
       replace h := h.add (G := fun w => IsRat p.re (64 * (n + 16) + 26) (ptr px) w ∧ IsRat p.im (64 * (n + 16) + 26) (ptr py) w) ((Stb.rat _ _ _).and (Stb.rat _ _ _)) ⟨hxB, hyB⟩
       clear hxB hyB hkeep
       go_wp2_with (replace h := h.new 97 #[.bool false, .pointer none, .pointer none]; refine wpList_store_all (by rfl) 97 (.tmp 15) (.tmp 68) (by rfl) #[.bool false, ptr px, ptr py] (by rfl) (by rfl) (h.get 0 rfl) (by simp) (by kernel_rfl) (by simp [Value.oneCell', ptr]) ?_; intro V8 k9 hg9; replace h := h.put 0 rfl ⟨by decide, by simp⟩ k9 hg9; simp only [List.set_cons_succ, List.set_cons_zero] at h; clear k9 hg9; replace k0 := (h.get 0 rfl).cell 0; replace k1 := (h.get 0 rfl).cell 1; replace k2 := (h.get 0 rfl).cell 2; replace q0 := (h.get 7 rfl).cell 0)
       obtain ⟨⟨hxB, hyB⟩, _, _⟩ := h.fact
       refine (hup_any (n := 64 * (n + 16) + 26) ⟨_, _, rfl, hxB, hyB⟩ (by omega)).mono ?_
       rintro _ HB ⟨vh, rfl, hvh, hb2⟩
       obtain ⟨gh, rfl⟩ := hvh.ptr
       replace h := h.call hb2
       clear hb2 hxB hyB
       replace h := h.rest (G := fun w => IsMx m (n + 16) (.agg #[ptr a, ptr b, ptr c, ptr d, ptr e, ptr f, ptr g, ptr j, .bool m.turns]) w ∧ IsNum ⟨1, 0⟩ (n + 16) (.agg #[ptr a1, ptr a2]) w ∧ IsNum ⟨-1, 0⟩ (n + 16) (.agg #[ptr a3, ptr a4]) w ∧ IsNum ⟨0, 0⟩ (n + 16) (.agg #[ptr a5, ptr a6]) w) ((Stb.mx _ _ _).and ((Stb.num _ _ _).and ((Stb.num _ _ _).and (Stb.num _ _ _)))) h.fact.2
       clear k0 k1 k2 q0
       by_cases hpi : p.im = 0
       ·have HS0 := Lib.hid (sign_zero hvh hpi)
        have E1 := Lib.hid (show ∀ p, m.send ⟨-1, 0⟩ = some p → p.im = 0 from fun p hp => by rw [hs] at hp; injection hp with hp; rw [← hp]; exact hpi)
        clear hvh hpi hs
        go_wp2_with (go_at_call 50; refine HS0.out.mono ?_; rintro _ _ ⟨rfl, rfl⟩)
        clear HS0
        rw [rounds_succ]
        go_wp2_with (first | (refine wpList_index_row (by rfl) 112 (.tmp 61) (.tmp 62) (by rfl) 83 3 (by rfl) 2 (by rfl) #[ptr a5, ptr a6] _ Tryz.underlying112 (by decide) Tryz.underlying83 rfl (by kernel_rfl) (by rfl) ?_) | (replace h := h.new 83 #[.pointer none, .pointer none]; refine wpList_store_all (by rfl) 83 (.tmp 14) (.tmp 64) (by rfl) #[ptr a5, ptr a6] (by rfl) (by rfl) (h.get 0 rfl) (by simp) (by kernel_rfl) (by simp [Value.oneCell', ptr]) ?_; intro V9 k9 hg9; replace h := h.put 0 rfl ⟨by decide, by simp⟩ k9 hg9; simp only [List.set_cons_succ, List.set_cons_zero] at h; clear k9 hg9) | (refine wpList_load_all (by rfl) 93 (.tmp 8) (by rfl) (by rfl) _ (h.get 7 rfl) Tryz.underlying93 rfl (by kernel_rfl) ?_) | (refine wpList_load_all (by rfl) 83 (.tmp 14) (by rfl) (by rfl) _ (h.get 0 rfl) Tryz.underlying83 rfl (by kernel_rfl) ?_))
        obtain ⟨_, _, e9, fx, fy⟩ := h.fact.2.2.2
        injection e9 with e9
        injection e9 with e9
        injection e9 with e9 e8
        injection e8 with e8
        rw [← e9] at fx
        rw [← e8] at fy
        clear e9 e8
        refine (send_any h.fact.1 ⟨a5, a6, rfl, fx, fy⟩ (by omega)).mono ?_
        rintro _ S2 ⟨pv, rfl, hpv, hb2⟩
        replace h := h.call hb2
        clear hb2 fx fy
        cases hs : m.send ⟨0, 0⟩ with
        | none =>
         rw [hs] at hpv
         have hpv : pv = _ := hpv
         subst hpv
         have E2 := Lib.hid (show ∀ p, m.send ⟨0, 0⟩ = some p → p.im = 0 from fun p hp => by rw [hs] at hp; cases hp)
         clear hs
         go_wp2_with (replace h := h.new 97 #[.bool false, .pointer none, .pointer none]; refine wpList_store_all (by rfl) 97 (.tmp 15) (.tmp 68) (by rfl) #[.bool true, .pointer none, .pointer none] (by rfl) (by rfl) (h.get 0 rfl) (by simp) (by kernel_rfl) (by simp [Value.oneCell', ptr]) ?_; intro V10 k9 hg9; replace h := h.put 0 rfl ⟨by decide, by simp⟩ k9 hg9; simp only [List.set_cons_succ, List.set_cons_zero] at h; clear k9 hg9; replace k0 := (h.get 0 rfl).cell 0; replace k1 := (h.get 0 rfl).cell 1; replace k2 := (h.get 0 rfl).cell 2)
         clear k0 k1 k2
         rw [rounds_succ]
         go_wp2_with fail
         refine bodyPost_ret (v := .tuple #[.bool true, .int .i64 0]) (by simp [results, Tryz.results20, go_sem]) rfl ?_
         exact ⟨true, rfl, fun _ => ⟨⟨p0, HS.out, HP0.out⟩, E0.out, E1.out, E2.out⟩, h.bel⟩
        | some p =>
         rw [hs] at hpv
         obtain ⟨px, py, rfl, hxB, hyB⟩ := hpv
         have hkeep := h.fact
         replace h := h.add (G := fun w => IsRat p.re (64 * (n + 16) + 26) (ptr px) w ∧ IsRat p.im (64 * (n + 16) + 26) (ptr py) w) ((Stb.rat _ _ _).and (Stb.rat _ _ _)) ⟨hxB, hyB⟩
         clear hxB hyB hkeep
         go_wp2_with (replace h := h.new 97 #[.bool false, .pointer none, .pointer none]; refine wpList_store_all (by rfl) 97 (.tmp 15) (.tmp 68) (by rfl) #[.bool false, ptr px, ptr py] (by rfl) (by rfl) (h.get 0 rfl) (by simp) (by kernel_rfl) (by simp [Value.oneCell', ptr]) ?_; intro V10 k9 hg9; replace h := h.put 0 rfl ⟨by decide, by simp⟩ k9 hg9; simp only [List.set_cons_succ, List.set_cons_zero] at h; clear k9 hg9; replace k0 := (h.get 0 rfl).cell 0; replace k1 := (h.get 0 rfl).cell 1; replace k2 := (h.get 0 rfl).cell 2; replace q0 := (h.get 9 rfl).cell 0)
         obtain ⟨⟨hxB, hyB⟩, _, _⟩ := h.fact
         refine (hup_any (n := 64 * (n + 16) + 26) ⟨_, _, rfl, hxB, hyB⟩ (by omega)).mono ?_
         rintro _ HB ⟨vh, rfl, hvh, hb2⟩
         obtain ⟨gh, rfl⟩ := hvh.ptr
         replace h := h.call hb2
         clear hb2 hxB hyB
         replace h := h.rest (G := fun w => IsMx m (n + 16) (.agg #[ptr a, ptr b, ptr c, ptr d, ptr e, ptr f, ptr g, ptr j, .bool m.turns]) w ∧ IsNum ⟨1, 0⟩ (n + 16) (.agg #[ptr a1, ptr a2]) w ∧ IsNum ⟨-1, 0⟩ (n + 16) (.agg #[ptr a3, ptr a4]) w ∧ IsNum ⟨0, 0⟩ (n + 16) (.agg #[ptr a5, ptr a6]) w) ((Stb.mx _ _ _).and ((Stb.num _ _ _).and ((Stb.num _ _ _).and (Stb.num _ _ _)))) h.fact.2
         clear k0 k1 k2 q0
         by_cases hpi : p.im = 0
         ·have HS0 := Lib.hid (sign_zero hvh hpi)
          have E2 := Lib.hid (show ∀ p, m.send ⟨0, 0⟩ = some p → p.im = 0 from fun p hp => by rw [hs] at hp; injection hp with hp; rw [← hp]; exact hpi)
          clear hvh hpi hs
          go_wp2_with (go_at_call 50; refine HS0.out.mono ?_; rintro _ _ ⟨rfl, rfl⟩)
          clear HS0
          rw [rounds_succ]
          go_wp2_with fail
          refine bodyPost_ret (v := .tuple #[.bool true, .int .i64 0]) (by simp [results, Tryz.results20, go_sem]) rfl ?_
          exact ⟨true, rfl, fun _ => ⟨⟨p0, HS.out, HP0.out⟩, E0.out, E1.out, E2.out⟩, h.bel⟩
         ·rcases rat_ne hpi with hpn | hpn
          all_goals
           first
           | have HS0 := Lib.hid (sign_neg hvh hpn)
           | have HS0 := Lib.hid (sign_pos hvh hpn)
           clear hvh hpi hpn hs
           go_wp2_with (go_at_call 50; refine HS0.out.mono ?_; rintro _ _ ⟨rfl, rfl⟩)
           refine bodyPost_ret (v := .tuple #[.bool false, .int .i64 0]) (by simp [results, Tryz.results20, go_sem]) rfl ?_
           exact ⟨false, rfl, fun e => absurd e (by decide), h.bel⟩
       ·rcases rat_ne hpi with hpn | hpn
        all_goals
         first
         | have HS0 := Lib.hid (sign_neg hvh hpn)
         | have HS0 := Lib.hid (sign_pos hvh hpn)
         clear hvh hpi hpn hs
         go_wp2_with (go_at_call 50; refine HS0.out.mono ?_; rintro _ _ ⟨rfl, rfl⟩)
         refine bodyPost_ret (v := .tuple #[.bool false, .int .i64 0]) (by simp [results, Tryz.results20, go_sem]) rfl ?_
         exact ⟨false, rfl, fun e => absurd e (by decide), h.bel⟩
     ·rcases rat_ne hpi with hpn | hpn
      all_goals
       first
       | have HS0 := Lib.hid (sign_neg hvh hpn)
       | have HS0 := Lib.hid (sign_pos hvh hpn)
       clear hvh hpi hpn hs
       go_wp2_with (go_at_call 50; refine HS0.out.mono ?_; rintro _ _ ⟨rfl, rfl⟩)
       refine bodyPost_ret (v := .tuple #[.bool false, .int .i64 0]) (by simp [results, Tryz.results20, go_sem]) rfl ?_
       exact ⟨false, rfl, fun e => absurd e (by decide), h.bel⟩
  ·have hle : p0.im = 0 ∨ p0.im < 0 := by grind
   clear hp0
   rcases hle with hpn | hpn
   all_goals
    first
    | have HS0 := Lib.hid (sign_zero hvh hpn)
    | have HS0 := Lib.hid (sign_neg hvh hpn)
    clear hvh hpn
    go_wp2_with (go_at_call 50; refine HS0.out.mono ?_; rintro _ _ ⟨rfl, rfl⟩)
    refine bodyPost_ret (v := .tuple #[.bool false, .int .i64 0]) (by simp [results, Tryz.results20, go_sem]) rfl ?_
    exact ⟨false, rfl, fun e => absurd e (by decide), h.bel⟩
end Go.Proofs.YtebpggfccljagaaGreat
namespace Go.Proofs.YtebpggfccljagaaGreat
open Go Go.RowKit
open Wh
set_option linter.unusedSimpArgs false
def IsCirc (A : Rat) (B : Cx) (C : Rat) (n : Nat) (v : Value) : Prop := ∃ b0 s0 b1 s1 b2 s2 b3 s3 b4 s4 b5 s5 b6 s6 b7 s7, v = .agg #[.bool b0, .string s0, .bool b1, .string s1, .bool b2, .string s2, .bool b3, .string s3, .bool b4, .string s4, .bool b5, .string s5, .bool b6, .string s6, .bool b7, .string s7] ∧
 Fv b0 s0 b1 s1 A n ∧ Fv b2 s2 b3 s3 B.re n ∧ Fv b4 s4 b5 s5 B.im n ∧ Fv b6 s6 b7 s7 C n
def R4 (z : Cx) (a b c d n : Nat) (w : World) : Prop := IsRat z.norm n (ptr a) w ∧ IsRat z.re n (ptr b) w ∧ IsRat z.im n (ptr c) w ∧ IsRat ((1 : Int) : Rat) n (ptr d) w
theorem R4.below {z : Cx} {a b c d n : Nat} {w w' : World} (h : R4 z a b c d n w) (hb : Below w.heap.size w w') : R4 z a b c d n w' := ⟨h.1.below hb, h.2.1.below hb, h.2.2.1.below hb, h.2.2.2.below hb⟩
theorem R4.far {z : Cx} {a b c d n r : Nat} {w w' : World} {t : TypeId} {cs : Array Value} (h : R4 z a b c d n w) (hk : Blk w r t cs) (ht : t ≠ 115) (hn : ∀ A n c, cs[1]? ≠ some (.slice A n c)) (hg : w.grownBy w' (some r)) : R4 z a b c d n w' := ⟨h.1.far hk ht hn hg, h.2.1.far hk ht hn hg, h.2.2.1.far hk ht hn hg, h.2.2.2.far hk ht hn hg⟩
set_option maxRecDepth 100000 in
set_option maxHeartbeats 4000000 in
theorem rtold_any {w : World} {v : Value} {A C : Rat} {B : Cx} {n : Nat} (h : IsRing A B C n v w) (hA : A ≠ 0) (hn : n ≤ 4096) : Calls Tryz.prog 62 #[v] w (RetE w (fun v _ => IsCirc (A * A⁻¹) (B.scale A⁻¹) (C * A⁻¹) (2 * n) v)) := by
 obtain ⟨a, b, c, d, rfl, pa, pb, pc, pd⟩ := h
 have h := ((St.start w).new 126 #[ptr a, ptr b, ptr c, ptr d]).new 68 #[.bool false, .string ⟨#[]⟩, .bool false, .string ⟨#[]⟩, .bool false, .string ⟨#[]⟩, .bool false, .string ⟨#[]⟩, .bool false, .string ⟨#[]⟩, .bool false, .string ⟨#[]⟩, .bool false, .string ⟨#[]⟩, .bool false, .string ⟨#[]⟩]
 simp only [size_alloc] at h
 have HN := Lib.hid (rnormal_any (n := n) (w := (w.alloc (Obj.cells #[ptr a, ptr b, ptr c, ptr d] 126)).alloc (Obj.cells #[.bool false, .string ⟨#[]⟩, .bool false, .string ⟨#[]⟩, .bool false, .string ⟨#[]⟩, .bool false, .string ⟨#[]⟩, .bool false, .string ⟨#[]⟩, .bool false, .string ⟨#[]⟩, .bool false, .string ⟨#[]⟩, .bool false, .string ⟨#[]⟩] 68)) ⟨a, b, c, d, rfl, pa.below h.bel, pb.below h.bel, pc.below h.bel, pd.below h.bel⟩ hA (by omega))
 have Hn := Lib.hid hn
 clear pa pb pc pd hA hn
 go_enter Tryz.func62, Tryz.ntmps62
 go_wp2_with fail
 generalize hW : (w.alloc _).alloc _ = W at h HN ⊢
 clear hW
 refine HN.out.mono ?_
 rintro _ w1 ⟨_, rfl, ⟨a9, b9, c9, d9, rfl, q1, q2, q3, q4⟩, hb⟩
 replace h := (h.call hb).rest (G := fun w => IsRat (A * A⁻¹) (2 * n) (ptr a9) w ∧ IsNum (B.scale A⁻¹) (2 * n) (.agg #[ptr b9, ptr c9]) w ∧ IsRat (C * A⁻¹) (2 * n) (ptr d9) w) ((Stb.rat _ _ _).and ((Stb.num _ _ _).and (Stb.rat _ _ _))) ⟨q1, ⟨_, _, rfl, q2, q3⟩, q4⟩
 clear hb q1 q2 q3 q4 HN
 go_wp2_with (first | (refine wpList_store_all (by rfl) 126 (.tmp 1) (.tmp 11) (by rfl) #[ptr a9, ptr b9, ptr c9, ptr d9] (by rfl) (by rfl) (h.get 1 rfl) (by simp) (by kernel_rfl) (by simp [Value.oneCell', ptr]) ?_; intro V1 k9 hg9; replace h := h.put 1 rfl ⟨by decide, by simp⟩ k9 hg9; simp only [List.set_cons_succ, List.set_cons_zero] at h; clear k9 hg9; replace k0 := (h.get 1 rfl).cell 0; replace k3 := (h.get 1 rfl).cell 3))
 refine (exfrac_any h.fact.1 (by have := Hn.out; omega)).mono ?_
 rintro _ w2 ⟨_, rfl, ⟨b0, s0, b1, s1, rfl, F0⟩, hb⟩
 replace h := h.call hb
 have G0 := Lib.hid F0
 clear hb F0 k0
 go_wp2_with (first | (replace h := h.new 25 #[.bool false, .string ⟨#[]⟩, .bool false, .string ⟨#[]⟩]; refine wpList_store_all (by rfl) 25 (.tmp 4) (.tmp 16) (by rfl) #[.bool b0, .string s0, .bool b1, .string s1] (by rfl) (by rfl) (h.get 0 rfl) (by simp) (by kernel_rfl) (by simp [Value.oneCell', ptr]) ?_; intro V2 k9 hg9; replace h := h.put 0 rfl ⟨by decide, by simp⟩ k9 hg9; simp only [List.set_cons_succ, List.set_cons_zero] at h; clear k9 hg9) | (refine wpList_load_part (by rfl) 83 (.tmp 19) (by rfl) _ 1 (by rfl) _ _ #[ptr b9, ptr c9] _ (h.get 2 rfl) (by rfl) Tryz.underlying83 rfl (by kernel_rfl) ?_))
 refine (numtold_any h.fact.2.1 (by have := Hn.out; omega)).mono ?_
 rintro _ w3 ⟨_, rfl, ⟨b2, s2, b3, s3, b4, s4, b5, s5, rfl, F1, F2⟩, hb⟩
 replace h := h.call hb
 have G1 := Lib.hid (And.intro F1 F2)
 clear hb F1 F2 k3
 go_wp2_with (first | (replace h := h.new 27 #[.bool false, .string ⟨#[]⟩, .bool false, .string ⟨#[]⟩, .bool false, .string ⟨#[]⟩, .bool false, .string ⟨#[]⟩]; refine wpList_store_all (by rfl) 27 (.tmp 6) (.tmp 22) (by rfl) #[.bool b2, .string s2, .bool b3, .string s3, .bool b4, .string s4, .bool b5, .string s5] (by rfl) (by rfl) (h.get 0 rfl) (by simp) (by kernel_rfl) (by simp [Value.oneCell', ptr]) ?_; intro V3 k9 hg9; replace h := h.put 0 rfl ⟨by decide, by simp⟩ k9 hg9; simp only [List.set_cons_succ, List.set_cons_zero] at h; clear k9 hg9; replace k3 := (h.get 3 rfl).cell 3))
 refine (exfrac_any h.fact.2.2 (by have := Hn.out; omega)).mono ?_
 rintro _ w4 ⟨_, rfl, ⟨b6, s6, b7, s7, rfl, F3⟩, hb⟩
 replace h := h.call hb
 have G3 := Lib.hid F3
 clear hb F3 k3
 go_wp2_with (first | (replace h := h.new 25 #[.bool false, .string ⟨#[]⟩, .bool false, .string ⟨#[]⟩]; refine wpList_store_all (by rfl) 25 (.tmp 8) (.tmp 28) (by rfl) #[.bool b6, .string s6, .bool b7, .string s7] (by rfl) (by rfl) (h.get 0 rfl) (by simp) (by kernel_rfl) (by simp [Value.oneCell', ptr]) ?_; intro V4 k9 hg9; replace h := h.put 0 rfl ⟨by decide, by simp⟩ k9 hg9; simp only [List.set_cons_succ, List.set_cons_zero] at h; clear k9 hg9) | (refine wpList_load_all (by rfl) 25 (.tmp 4) (by rfl) (by rfl) _ (h.get 2 rfl) Tryz.underlying25 rfl (by kernel_rfl) ?_) | (refine wpList_load_all (by rfl) 27 (.tmp 6) (by rfl) (by rfl) _ (h.get 1 rfl) Tryz.underlying27 rfl (by kernel_rfl) ?_) | (refine wpList_load_all (by rfl) 25 (.tmp 8) (by rfl) (by rfl) _ (h.get 0 rfl) Tryz.underlying25 rfl (by kernel_rfl) ?_) | (refine wpList_store_all (by rfl) 68 (.tmp 2) (.tmp 44) (by rfl) #[.bool b0, .string s0, .bool b1, .string s1, .bool b2, .string s2, .bool b3, .string s3, .bool b4, .string s4, .bool b5, .string s5, .bool b6, .string s6, .bool b7, .string s7] (by rfl) (by rfl) (h.get 3 rfl) (by simp) (by kernel_rfl) (by simp [Value.oneCell', ptr]) ?_; intro V5 k9 hg9; replace h := h.put 3 rfl ⟨by decide, by simp⟩ k9 hg9; simp only [List.set_cons_succ, List.set_cons_zero] at h; clear k9 hg9))
 refine bodyPost_ret (results_row_tmp rfl _ _ _ _ _ (by rfl) (h.get 3 rfl) Tryz.underlying68 rfl (by kernel_rfl)) rfl ?_
 exact ⟨_, rfl, ⟨_, _, _, _, _, _, _, _, _, _, _, _, _, _, _, _, rfl, G0.out, G1.out.1, G1.out.2, G3.out⟩, h.bel⟩
def MatZ (w : World) (g : Nat) : Prop := Blk w g 160 #[.pointer none, .pointer none, .pointer none, .pointer none, .pointer none, .pointer none, .pointer none, .pointer none, .pointer none, .pointer none, .pointer none, .pointer none]
theorem matZ_vgs : Vgs MatZ where
 lt := fun h => Blk.lt h
 below := fun h hb => Blk.below h hb (Blk.lt h)
 off := fun h hne hg => Blk.grown h hg (by intro e; injection e with e; exact hne e)
theorem isRow_steady (b : Bool) (z : Cx) (n : Nat) : Steady MatZ b (IsRow z n) where
 below := fun h hb => h.below hb
 off := by
  rintro v w w' r ⟨a, b, c, d, rfl, h1, h2, h3, h4⟩ hv _ hg
  exact ⟨a, b, c, d, rfl, h1.far hv (by decide) (by simp) hg, h2.far hv (by decide) (by simp) hg, h3.far hv (by decide) (by simp) hg, h4.far hv (by decide) (by simp) hg⟩
def IsM12 (z0 z1 z2 : Cx) (n : Nat) (v : Value) (w : World) : Prop := ∃ a0 b0 c0 d0 a1 b1 c1 d1 a2 b2 c2 d2 : Nat, v = .agg #[ptr a0, ptr b0, ptr c0, ptr d0, ptr a1, ptr b1, ptr c1, ptr d1, ptr a2, ptr b2, ptr c2, ptr d2] ∧ R4 z0 a0 b0 c0 d0 n w ∧ R4 z1 a1 b1 c1 d1 n w ∧ R4 z2 a2 b2 c2 d2 n w
theorem isM12_steady (b : Bool) (z0 z1 z2 : Cx) (n : Nat) : Steady MatZ b (IsM12 z0 z1 z2 n) where
 below := by
  rintro v w w' ⟨a0, b0, c0, d0, a1, b1, c1, d1, a2, b2, c2, d2, rfl, h1, h2, h3⟩ hb
  exact ⟨a0, b0, c0, d0, a1, b1, c1, d1, a2, b2, c2, d2, rfl, h1.below hb, h2.below hb, h3.below hb⟩
 off := by
  rintro v w w' r ⟨a0, b0, c0, d0, a1, b1, c1, d1, a2, b2, c2, d2, rfl, h1, h2, h3⟩ hv _ hg
  exact ⟨a0, b0, c0, d0, a1, b1, c1, d1, a2, b2, c2, d2, rfl, h1.far hv (by decide) (by simp) hg, h2.far hv (by decide) (by simp) hg, h3.far hv (by decide) (by simp) hg⟩
def IsMB (z0 z1 z2 : Cx) (n : Nat) (v : Value) (w : World) : Prop := ∃ g a0 b0 c0 d0 a1 b1 c1 d1 a2 b2 c2 d2 : Nat, v = ptr g ∧ Blk w g 160 #[ptr a0, ptr b0, ptr c0, ptr d0, ptr a1, ptr b1, ptr c1, ptr d1, ptr a2, ptr b2, ptr c2, ptr d2] ∧ R4 z0 a0 b0 c0 d0 n w ∧ R4 z1 a1 b1 c1 d1 n w ∧ R4 z2 a2 b2 c2 d2 n w
theorem isMB_steady (z0 z1 z2 : Cx) (n : Nat) : Steady MatZ true (IsMB z0 z1 z2 n) where
 below := by
  rintro v w w' ⟨g, a0, b0, c0, d0, a1, b1, c1, d1, a2, b2, c2, d2, rfl, hk, h1, h2, h3⟩ hb
  exact ⟨g, a0, b0, c0, d0, a1, b1, c1, d1, a2, b2, c2, d2, rfl, hk.below hb hk.lt, h1.below hb, h2.below hb, h3.below hb⟩
 off := by
  rintro v w w' r ⟨g, a0, b0, c0, d0, a1, b1, c1, d1, a2, b2, c2, d2, rfl, hk, h1, h2, h3⟩ hv hne hg
  exact ⟨g, a0, b0, c0, d0, a1, b1, c1, d1, a2, b2, c2, d2, rfl, hk.grown hg (by intro e; injection e with e; exact hne rfl (by rw [e])), h1.far hv (by decide) (by simp) hg, h2.far hv (by decide) (by simp) hg, h3.far hv (by decide) (by simp) hg⟩
def rowQ (z : Cx) (b : Nat) : Rat := if b = 0 then z.norm else if b = 1 then z.re else if b = 2 then z.im else ((1 : Int) : Rat)
def rowsQ (z0 z1 z2 : Cx) (a b : Nat) : Rat := rowQ (if a = 0 then z0 else if a = 1 then z1 else z2) b
theorem Rows4.below {w w' : World} {cs : Array Value} {R : Nat → Nat → Rat} {P : Nat → Nat → Nat} {n : Nat} (h : Rows4 w cs R P n) (hb : Below w.heap.size w w') : Rows4 w' cs R P n := fun a b ha hb' => ⟨(h a b ha hb').1, (h a b ha hb').2.below hb⟩
theorem rows4_of {w : World} {z0 z1 z2 : Cx} {n a0 b0 c0 d0 a1 b1 c1 d1 a2 b2 c2 d2 : Nat} (h : R4 z0 a0 b0 c0 d0 n w ∧ R4 z1 a1 b1 c1 d1 n w ∧ R4 z2 a2 b2 c2 d2 n w) : Rows4 w #[ptr a0, ptr b0, ptr c0, ptr d0, ptr a1, ptr b1, ptr c1, ptr d1, ptr a2, ptr b2, ptr c2, ptr d2] (rowsQ z0 z1 z2) (fun a b => [a0, b0, c0, d0, a1, b1, c1, d1, a2, b2, c2, d2].getD (4 * a + b) 0) n := by
 intro a b ha hb
 obtain ⟨h0, h1, h2⟩ := h
 have h3 : a = 0 ∨ a = 1 ∨ a = 2 := by omega
 have h4 : b = 0 ∨ b = 1 ∨ b = 2 ∨ b = 3 := by omega
 rcases h3 with rfl | rfl | rfl <;> rcases h4 with rfl | rfl | rfl | rfl
 ·exact ⟨rfl, h0.1⟩
 ·exact ⟨rfl, h0.2.1⟩
 ·exact ⟨rfl, h0.2.2.1⟩
 ·exact ⟨rfl, h0.2.2.2⟩
 ·exact ⟨rfl, h1.1⟩
 ·exact ⟨rfl, h1.2.1⟩
 ·exact ⟨rfl, h1.2.2.1⟩
 ·exact ⟨rfl, h1.2.2.2⟩
 ·exact ⟨rfl, h2.1⟩
 ·exact ⟨rfl, h2.2.1⟩
 ·exact ⟨rfl, h2.2.2.1⟩
 ·exact ⟨rfl, h2.2.2.2⟩
set_option maxRecDepth 100000 in
set_option maxHeartbeats 8000000 in
theorem xthrough_any {w : World} {v0 v1 v2 : Value} {z0 z1 z2 : Cx} {n : Nat} (h0 : IsPlace (some z0) n v0 w) (h1 : IsPlace (some z1) n v1 w) (h2 : IsPlace (some z2) n v2 w) (h8 : 8 ≤ n) (hn : n ≤ 10) (hA : detQ (rowsQ z0 z1 z2) 1 2 3 ≠ 0) :
  Calls Tryz.prog 61 #[v0, v1, v2] w (Ret w (IsRing (detQ (rowsQ z0 z1 z2) 1 2 3 * (detQ (rowsQ z0 z1 z2) 1 2 3)⁻¹) (Cx.scale ⟨detQ (rowsQ z0 z1 z2) 0 2 3 * Rat.divInt (-1) 2, detQ (rowsQ z0 z1 z2) 0 1 3 * Rat.divInt (-1) 2⟩ (detQ (rowsQ z0 z1 z2) 1 2 3)⁻¹) (-detQ (rowsQ z0 z1 z2) 0 1 2 * (detQ (rowsQ z0 z1 z2) 1 2 3)⁻¹) (2 * (2 * (256 * (4 * n + 1) + 31))))) := by
 obtain ⟨x0, y0, rfl, px0, py0⟩ := h0
 obtain ⟨x1, y1, rfl, px1, py1⟩ := h1
 obtain ⟨x2, y2, rfl, px2, py2⟩ := h2
 have h := ((((St.start w).new 97 #[.bool false, ptr x0, ptr y0]).new 97 #[.bool false, ptr x1, ptr y1]).new 97 #[.bool false, ptr x2, ptr y2]).new 126 #[.pointer none, .pointer none, .pointer none, .pointer none]
 simp only [size_alloc] at h
 have Hn := Lib.hid (And.intro h8 hn)
 have HA := Lib.hid hA
 clear h8 hn hA
 have p0 : IsPlace (some z0) n (.agg #[(.bool false), (ptr x0), (ptr y0)]) _ := ⟨x0, y0, rfl, px0.below h.bel, py0.below h.bel⟩
 clear px0 py0
 have p1 : IsPlace (some z1) n (.agg #[(.bool false), (ptr x1), (ptr y1)]) _ := ⟨x1, y1, rfl, px1.below h.bel, py1.below h.bel⟩
 clear px1 py1
 have p2 : IsPlace (some z2) n (.agg #[(.bool false), (ptr x2), (ptr y2)]) _ := ⟨x2, y2, rfl, px2.below h.bel, py2.below h.bel⟩
 clear px2 py2
 go_enter Tryz.func61, Tryz.ntmps61
 go_wp2_with fail
 generalize hW : (((w.alloc _).alloc _).alloc _).alloc _ = W at h p0 p1 p2 ⊢
 clear hW
 have k0 := h.get 3 rfl
 have k1 := h.get 2 rfl
 have k2 := h.get 1 rfl
 refine wp_region_noPanic ?_
 refine wp_region_list2 (mk := ?mk) matZ_vgs [Is (.agg #[(.bool false), (ptr x0), (ptr y0)]), IsRow z0 (4 * n + 1), Is (.agg #[(.bool false), (ptr x1), (ptr y1)]), IsRow z1 (4 * n + 1), Is (.agg #[(.bool false), (ptr x2), (ptr y2)]), IsRow z2 (4 * n + 1), IsM12 z0 z1 z2 (4 * n + 1), Is undef, IsMB z0 z1 z2 (4 * n + 1)] [.plain, .plain, .plain, .plain, .plain, .plain, .plain, .fresh, .fills 7] 9 0 (fun w' => Blk w' (w.heap.size) 97 #[.bool false, ptr x0, ptr y0] ∧ Blk w' (w.heap.size + 1) 97 #[.bool false, ptr x1, ptr y1] ∧ Blk w' (w.heap.size + 1 + 1) 97 #[.bool false, ptr x2, ptr y2] ∧ IsPlace (some z0) n (.agg #[(.bool false), (ptr x0), (ptr y0)]) w' ∧ IsPlace (some z1) n (.agg #[(.bool false), (ptr x1), (ptr y1)]) w' ∧ IsPlace (some z2) n (.agg #[(.bool false), (ptr x2), (ptr y2)]) w' ∧ True) ⟨is_steady _ _ _, isRow_steady _ _ _, is_steady _ _ _, isRow_steady _ _ _, is_steady _ _ _, isRow_steady _ _ _, isM12_steady _ _ _ _ _, is_steady _ _ _, isMB_steady _ _ _ _, trivial⟩ (by kernel_rfl) (by kernel_rfl) (by kernel_rfl) (by kernel_rfl) (by kernel_rfl) (by kernel_rfl) ?hmk (fun w' hB => ⟨k0.below hB k0.lt, k1.below hB k1.lt, k2.below hB k2.lt, IsPlace.below p0 hB, IsPlace.below p1 hB, IsPlace.below p2 hB, trivial⟩)
  (steps_all (steps_cons ?_ (steps_cons ?_ (steps_cons ?_ (steps_cons ?_ (steps_cons ?_ (steps_cons ?_ (steps_cons ?_ (steps_cons ?_ (steps_cons ?_ steps_nil)))))))))) ?_
 case hmk =>
  intro u
  simp only [mkFrom, mkL, dstOf, List.range, List.range.loop, Act.put, List.setIfInBounds_toArray, List.set_cons_zero, List.set_cons_succ, List.getElem?_toArray, List.getElem?_cons_zero, List.getElem?_cons_succ, Option.bind_some]
  rfl
 ·refine step_is (o := Oper.mk (some 10) _ _ _ _ _) rfl rfl rfl rfl (fun u ws hc hd => ?_)
  obtain ⟨k0, k1, k2, p0, p1, p2, _⟩ := hc
  exact run_load_part 97 (.tmp 3) rfl (w.heap.size) 0 rfl #[(.bool false), (ptr x0), (ptr y0)] _ k0 rfl Tryz.underlying97 rfl (by kernel_rfl)
 ·refine step_call (o := Oper.mk (some 11) _ _ _ _ _) rfl rfl rfl (fun u ws hc hd => ?_)
  obtain ⟨k0, k1, k2, p0, p1, p2, _⟩ := hc
  have d0 : u 0 = _ := hd 0 (by kernel_rfl) (by decide)
  have HC := Lib.hid (prow_any p0 Hn.out.1 (by have := Hn.out; omega))
  refine ⟨92, #[(.agg #[(.bool false), (ptr x0), (ptr y0)])], ?_, HC.out⟩
  ·clear HC; go_simp
 ·refine step_is (o := Oper.mk (some 12) _ _ _ _ _) rfl rfl rfl rfl (fun u ws hc hd => ?_)
  obtain ⟨k0, k1, k2, p0, p1, p2, _⟩ := hc
  exact run_load_part 97 (.tmp 4) rfl (w.heap.size + 1) 0 rfl #[(.bool false), (ptr x1), (ptr y1)] _ k1 rfl Tryz.underlying97 rfl (by kernel_rfl)
 ·refine step_call (o := Oper.mk (some 13) _ _ _ _ _) rfl rfl rfl (fun u ws hc hd => ?_)
  obtain ⟨k0, k1, k2, p0, p1, p2, _⟩ := hc
  have d2 : u 2 = _ := hd 2 (by kernel_rfl) (by decide)
  have HC := Lib.hid (prow_any p1 Hn.out.1 (by have := Hn.out; omega))
  refine ⟨92, #[(.agg #[(.bool false), (ptr x1), (ptr y1)])], ?_, HC.out⟩
  ·clear HC; go_simp
 ·refine step_is (o := Oper.mk (some 14) _ _ _ _ _) rfl rfl rfl rfl (fun u ws hc hd => ?_)
  obtain ⟨k0, k1, k2, p0, p1, p2, _⟩ := hc
  exact run_load_part 97 (.tmp 5) rfl (w.heap.size + 1 + 1) 0 rfl #[(.bool false), (ptr x2), (ptr y2)] _ k2 rfl Tryz.underlying97 rfl (by kernel_rfl)
 ·refine step_call (o := Oper.mk (some 15) _ _ _ _ _) rfl rfl rfl (fun u ws hc hd => ?_)
  obtain ⟨k0, k1, k2, p0, p1, p2, _⟩ := hc
  have d4 : u 4 = _ := hd 4 (by kernel_rfl) (by decide)
  have HC := Lib.hid (prow_any p2 Hn.out.1 (by have := Hn.out; omega))
  refine ⟨92, #[(.agg #[(.bool false), (ptr x2), (ptr y2)])], ?_, HC.out⟩
  ·clear HC; go_simp
 ·refine step_val (o := Oper.mk (some 16) _ _ _ _ _) rfl rfl rfl (fun u ws hc hd => ?_)
  obtain ⟨a0, b0, c0, d0, e0, f0⟩ : IsRow _ _ (u 1) ws := hd 1 (by kernel_rfl) (by decide)
  obtain ⟨a1, b1, c1, d1, e1, f1⟩ : IsRow _ _ (u 3) ws := hd 3 (by kernel_rfl) (by decide)
  obtain ⟨a2, b2, c2, d2, e2, f2⟩ : IsRow _ _ (u 5) ws := hd 5 (by kernel_rfl) (by decide)
  refine ⟨_, ?_, ⟨a0, b0, c0, d0, a1, b1, c1, d1, a2, b2, c2, d2, rfl, f0, f1, f2⟩⟩
  go_simp
 ·refine step_new (o := Oper.mk (some 7) _ _ _ _ _) rfl rfl rfl (fun u ws hc => ⟨.cells #[.pointer none, .pointer none, .pointer none, .pointer none, .pointer none, .pointer none, .pointer none, .pointer none, .pointer none, .pointer none, .pointer none, .pointer none] 160, ?_, Blk.new ws 160 _⟩)
  go_simp
 ·refine step_store (a := 7) (o := Oper.mk none _ _ _ _ _) rfl rfl rfl rfl (fun u ws g1 hc hd h0 hlo hv K hK => ?_)
  obtain ⟨a0, b0, c0, d0, a1, b1, c1, d1, a2, b2, c2, d2, e6, f0, f1, f2⟩ : IsM12 _ _ _ _ (u 6) ws := hd 6 (by kernel_rfl) (by decide)
  refine wp_store_blk 160 (.tmp 7) (.tmp 16) rfl #[ptr a0, ptr b0, ptr c0, ptr d0, ptr a1, ptr b1, ptr c1, ptr d1, ptr a2, ptr b2, ptr c2, ptr d2] h0 e6 hv (by simp) (by kernel_rfl) (by simp [Value.oneCell', ptr]) (fun w9 k9 hg9 => ?_)
  exact hK w9 ⟨g1, a0, b0, c0, d0, a1, b1, c1, d1, a2, b2, c2, d2, rfl, k9, f0.far hv (by decide) (by simp) hg9, f1.far hv (by decide) (by simp) hg9, f2.far hv (by decide) (by simp) hg9⟩ hg9
 ·intro u w1 hb1 hf hn1 hap hfl hlo
  obtain ⟨gm, a0, b0, c0, d0, a1, b1, c1, d1, a2, b2, c2, d2, e8, km, r0, r1, r2⟩ : IsMB _ _ _ _ (u 8) w1 := hf 8 (by decide) (by decide)
  have n8 := hfl 8 (by decide) 7 rfl
  rw [e8] at n8
  replace h := h.call hb1
  have HM := Lib.hid km
  have HR := Lib.hid (rows4_of ⟨r0, r1, r2⟩)
  have hB : Below w1.heap.size w1 w1 := Below.refl _ _
  have hgm := km.lt
  rw [← n8]
  clear hf hn1 hap hfl hlo hb1 e8 n8 k0 k1 k2 p0 p1 p2 km r0 r1 r2
  refine wpAny_end (by kernel_rfl) ?_
  refine NoPanic.normal ?_
  go_wp2_with fail
  refine (newrat_any (a := -1) (b := 2) (by decide) (by decide) (by decide) (by decide) (by decide)).mono ?_
  rintro _ w2 ⟨rfl, hh, hb⟩
  replace h := (h.call hb).rest (Stb.rat (Rat.divInt (-1) 2) 8 _) ⟨_, rfl, hh, ⟨by decide +kernel, by decide +kernel⟩⟩
  replace hB := hB.trans (hb.mono hB.size)
  clear hh hb
  generalize hgh : w1.heap.size = gh at h ⊢
  clear hgh
  go_wp2_with fail
  refine (det3_any (i := 1) (j := 2) (k := 3) (HM.out.below hB hgm) (Rows4.below HR.out hB) (by decide) (by decide) (by decide) (by have := Hn.out; omega) (by have := Hn.out; omega)).mono ?_
  rintro _ w3 ⟨_, rfl, hd, hb⟩
  obtain ⟨g1, rfl⟩ := hd.ptr
  replace h := (h.call hb).add (Stb.rat _ _ _) hd
  replace hB := hB.trans (hb.mono hB.size)
  clear hd hb
  go_wp2_with fail
  refine (det3_any (i := 0) (j := 2) (k := 3) (HM.out.below hB hgm) (Rows4.below HR.out hB) (by decide) (by decide) (by decide) (by have := Hn.out; omega) (by have := Hn.out; omega)).mono ?_
  rintro _ w4 ⟨_, rfl, hd, hb⟩
  obtain ⟨g2, rfl⟩ := hd.ptr
  replace h := (h.call hb).add (Stb.rat _ _ _) hd
  replace hB := hB.trans (hb.mono hB.size)
  clear hd hb
  go_wp2_with fail
  refine (xmul_any (n := 256 * (4 * n + 1) + 31) h.fact.1 (h.fact.2.2.up (by omega)) (by have := Hn.out; omega)).mono ?_
  rintro _ w5 ⟨_, rfl, hd, hb⟩
  obtain ⟨g3, rfl⟩ := hd.ptr
  replace h := (h.call hb).add (Stb.rat _ _ _) hd
  replace hB := hB.trans (hb.mono hB.size)
  clear hd hb
  go_wp2_with fail
  refine (det3_any (i := 0) (j := 1) (k := 3) (HM.out.below hB hgm) (Rows4.below HR.out hB) (by decide) (by decide) (by decide) (by have := Hn.out; omega) (by have := Hn.out; omega)).mono ?_
  rintro _ w6 ⟨_, rfl, hd, hb⟩
  obtain ⟨g4, rfl⟩ := hd.ptr
  replace h := (h.call hb).add (Stb.rat _ _ _) hd
  replace hB := hB.trans (hb.mono hB.size)
  clear hd hb
  go_wp2_with fail
  refine (xmul_any (n := 256 * (4 * n + 1) + 31) h.fact.1 (h.fact.2.2.2.2.up (by omega)) (by have := Hn.out; omega)).mono ?_
  rintro _ w7 ⟨_, rfl, hd, hb⟩
  obtain ⟨g5, rfl⟩ := hd.ptr
  replace h := (h.call hb).add (Stb.rat _ _ _) hd
  replace hB := hB.trans (hb.mono hB.size)
  clear hd hb
  go_wp2_with fail
  have hz : RatZ (w7.alloc (Obj.cells #[.bool false, .slice none 0 0, .bool false, .slice none 0 0] 153)) w7.heap.size := Blk.new w7 153 _
  have hb0 := new_below w7 (Obj.cells #[.bool false, .slice none 0 0, .bool false, .slice none 0 0] 153)
  generalize hW7 : w7.alloc (Obj.cells #[.bool false, .slice none 0 0, .bool false, .slice none 0 0] 153) = w8 at hz hb0 ⊢
  clear hW7
  refine (det3_any (i := 0) (j := 1) (k := 2) (HM.out.below (hB.trans (hb0.mono hB.size)) hgm) (Rows4.below HR.out (hB.trans (hb0.mono hB.size))) (by decide) (by decide) (by decide) (by have := Hn.out; omega) (by have := Hn.out; omega)).mono ?_
  rintro _ w9 ⟨_, rfl, hd, hb⟩
  obtain ⟨g6, rfl⟩ := hd.ptr
  replace hz := hz.below hb hz.lt
  replace hb0 := hb0.trans (hb.mono hb0.size)
  clear hb
  go_wp2_with fail
  refine (fneg hz hd (by have := Hn.out; omega)).mono ?_
  rintro _ w10 ⟨rfl, hi, hg⟩
  replace h := (h.call (hb0.grown hg hb0.size (fun k hk => by injection hk with hk; omega))).add (Stb.rat _ _ _) hi
  clear hz hb0 hi hg hd hB
  generalize w7.heap.size = gz at *
  go_wp2_with fail
  refine (rnormal_any (B := ⟨detQ (rowsQ z0 z1 z2) 0 2 3 * Rat.divInt (-1) 2, detQ (rowsQ z0 z1 z2) 0 1 3 * Rat.divInt (-1) 2⟩) (n := 2 * (256 * (4 * n + 1) + 31)) ⟨g1, g3, g5, gz, rfl, h.fact.2.2.2.2.2.1.up (by omega), IsRat.up (n := 256 * (4 * n + 1) + 31 + (256 * (4 * n + 1) + 31)) h.fact.2.2.2.1 (by omega), IsRat.up (n := 256 * (4 * n + 1) + 31 + (256 * (4 * n + 1) + 31)) h.fact.2.1 (by omega), h.fact.1.up (by omega)⟩ HA.out (by have := Hn.out; omega)).mono ?_
  rintro _ w11 ⟨_, rfl, ⟨a1, b1, c1, d1, rfl, q1, q2, q3, q4⟩, hb⟩
  replace h := ((h.call hb).rest (Stb.rat _ _ _) q1).add (Stb.rat _ _ _) q2
  replace h := (h.add (Stb.rat _ _ _) q3).add (Stb.rat _ _ _) q4
  clear hb q1 q2 q3 q4
  go_wp2_with (refine wpList_store_all (by rfl) 126 (.tmp 6) (.tmp 35) (by rfl) #[ptr a1, ptr b1, ptr c1, ptr d1] (by rfl) (by rfl) (h.get 0 rfl) (by simp) (by kernel_rfl) (by simp [Value.oneCell', ptr]) ?_; intro V1 k9 hg9; replace h := h.put 0 rfl ⟨by decide, by simp⟩ k9 hg9; simp only [List.set_cons_succ, List.set_cons_zero] at h; clear k9 hg9)
  refine bodyPost_ret (results_row1 rfl _ _ _ _ _ (by rfl) (h.get 0 rfl) Tryz.underlying126 rfl (by kernel_rfl)) rfl ?_
  exact ⟨_, rfl, ⟨_, _, _, _, rfl, h.fact.2.2.2, h.fact.2.2.1, h.fact.2.1, h.fact.1⟩, h.bel⟩
theorem infoPl : (Tryz.prog.info? 97).map (fun i => (i.zero, i.size, i.bytes)) = some (some (.agg #[.bool false, .pointer none, .pointer none]), 3, 24) := by kernel_rfl
def Spotted (w : World) (z0 z1 z2 : Cx) (n : Nat) (e : Ending) (w' : World) : Prop := ∃ g cap cur a b c d x y, e = .returned (.tuple #[.slice (some ⟨g, 0, none⟩) 3 cap, .bool true]) ∧ Blk w' g 97 cur ∧ RowC cur cap 3 3 [.bool false, ptr a, ptr b, .bool false, ptr c, ptr d, .bool false, ptr x, ptr y] ∧
 IsRat z0.re n (ptr a) w' ∧ IsRat z0.im n (ptr b) w' ∧ IsRat z1.re n (ptr c) w' ∧ IsRat z1.im n (ptr d) w' ∧ IsRat z2.re n (ptr x) w' ∧ IsRat z2.im n (ptr y) w' ∧ Below w.heap.size w w'
set_option maxRecDepth 100000 in
set_option maxHeartbeats 8000000 in
theorem spots_three {w : World} {z0 z1 z2 : Cx} {n gs : Nat} {b0 b1 b2 b3 b4 b5 b6 b7 b8 b9 b10 b11 : Bool} {s0 s1 s2 s3 s4 s5 s6 s7 s8 s9 s10 s11 : ByteArray} (f0 : Fv b0 s0 b1 s1 z0.re n) (e0 : Fv b2 s2 b3 s3 z0.im n) (f1 : Fv b4 s4 b5 s5 z1.re n) (e1 : Fv b6 s6 b7 s7 z1.im n) (f2 : Fv b8 s8 b9 s9 z2.re n) (e2 : Fv b10 s10 b11 s11 z2.im n)
  (hb : Blk w gs 56 #[.bool false, .bool b0, .string s0, .bool b1, .string s1, .bool b2, .string s2, .bool b3, .string s3, .bool false, .bool b4, .string s4, .bool b5, .string s5, .bool b6, .string s6, .bool b7, .string s7, .bool false, .bool b8, .string s8, .bool b9, .string s9, .bool b10, .string s10, .bool b11, .string s11]) (hn : n ≤ 100000) :
  Calls Tryz.prog 60 #[.slice (some ⟨gs, 0, none⟩) 3 3] w (Spotted w z0 z1 z2 n) := by
 have hgs := hb
 have HO : Hid ((∀ W, Calls Tryz.prog 41 #[.agg #[.bool false, .bool b0, .string s0, .bool b1, .string s1, .bool b2, .string s2, .bool b3, .string s3]] W (RetB W (IsPlace (some z0) n) true)) ∧ (∀ W, Calls Tryz.prog 41 #[.agg #[.bool false, .bool b4, .string s4, .bool b5, .string s5, .bool b6, .string s6, .bool b7, .string s7]] W (RetB W (IsPlace (some z1) n) true)) ∧ (∀ W, Calls Tryz.prog 41 #[.agg #[.bool false, .bool b8, .string s8, .bool b9, .string s9, .bool b10, .string s10, .bool b11, .string s11]] W (RetB W (IsPlace (some z2) n) true))) := Lib.hid ⟨fun W => spot_any ⟨_, _, _, _, _, _, _, _, rfl, f0, e0⟩ (by omega), fun W => spot_any ⟨_, _, _, _, _, _, _, _, rfl, f1, e1⟩ (by omega), fun W => spot_any ⟨_, _, _, _, _, _, _, _, rfl, f2, e2⟩ (by omega)⟩
 clear hb f0 f1 f2 e0 e1 e2
 have h := St.start w
 go_enter Tryz.func60, Tryz.ntmps60
 go_wp2_with fail
 refine wp_loop_rounds 4 ?_
 rw [rounds_succ]
 have hk := hgs.below h.bel hgs.lt
 have m0 := hk.cell 0
 have m1 := hk.cell 1
 have m2 := hk.cell 2
 have m3 := hk.cell 3
 have m4 := hk.cell 4
 have m5 := hk.cell 5
 have m6 := hk.cell 6
 have m7 := hk.cell 7
 have m8 := hk.cell 8
 clear hk
 go_wp2_with (first | (replace h := h.new 56 #[.bool false, .bool false, .string ⟨#[]⟩, .bool false, .string ⟨#[]⟩, .bool false, .string ⟨#[]⟩, .bool false, .string ⟨#[]⟩]; refine wpList_store_all (by rfl) 56 (.tmp 6) (.tmp 14) (by rfl) #[.bool false, .bool b0, .string s0, .bool b1, .string s1, .bool b2, .string s2, .bool b3, .string s3] (by rfl) (by rfl) (h.get 0 rfl) (by simp) (by kernel_rfl) (by simp [Value.oneCell', ptr]) ?_; intro V1 k9 hg9; replace h := h.put 0 rfl ⟨by decide, by simp⟩ k9 hg9; simp only [List.set_cons_succ, List.set_cons_zero] at h; clear k9 hg9) | (refine wpList_load_all (by rfl) 56 (.tmp 6) (by rfl) (by rfl) _ (h.get 0 rfl) Tryz.underlying56 rfl (by kernel_rfl) ?_))
 refine (HO.out.1 _).mono ?_
 rintro _ Y0 ⟨_, rfl, ⟨a, b, rfl, xa, xb⟩, hb2⟩
 replace h := ((h.call hb2).add (Stb.rat _ _ _) xb).add (Stb.rat _ _ _) xa
 clear hb2 xa xb m0 m1 m2 m3 m4 m5 m6 m7 m8
 go_wp2_with (first | (replace h := h.new 97 #[.bool false, .pointer none, .pointer none]; refine wpList_store_all (by rfl) 97 (.tmp 7) (.tmp 18) (by rfl) #[.bool false, ptr a, ptr b] (by rfl) (by rfl) (h.get 0 rfl) (by simp) (by kernel_rfl) (by simp [Value.oneCell', ptr]) ?_; intro V2 k9 hg9; replace h := h.put 0 rfl ⟨by decide, by simp⟩ k9 hg9; simp only [List.set_cons_succ, List.set_cons_zero] at h; clear k9 hg9) | (refine wpList_load_all (by rfl) 97 (.tmp 7) (by rfl) (by rfl) _ (h.get 0 rfl) Tryz.underlying97 rfl (by kernel_rfl) ?_) | (replace h := h.new 97 #[.bool false, ptr a, ptr b]; refine wpSt_append0 (by rfl) (.tmp 22) (.tmp 24) 121 (by rfl) 97 _ 3 24 Tryz.underlying121 infoPl rfl (by decide) h (by rfl) 0 (by rfl) rfl rfl (by simp [Value.oneCell', ptr]) (by decide) (by decide) (by decide) ?_; intro g0 cap0 cur0 R0 hr0 h9; replace h := h9; clear h9))
 rw [rounds_succ]
 have hk := hgs.below h.bel hgs.lt
 have m0 := hk.cell 9
 have m1 := hk.cell 10
 have m2 := hk.cell 11
 have m3 := hk.cell 12
 have m4 := hk.cell 13
 have m5 := hk.cell 14
 have m6 := hk.cell 15
 have m7 := hk.cell 16
 have m8 := hk.cell 17
 clear hk
 go_wp2_with (first | (replace h := h.new 56 #[.bool false, .bool false, .string ⟨#[]⟩, .bool false, .string ⟨#[]⟩, .bool false, .string ⟨#[]⟩, .bool false, .string ⟨#[]⟩]; refine wpList_store_all (by rfl) 56 (.tmp 6) (.tmp 14) (by rfl) #[.bool false, .bool b4, .string s4, .bool b5, .string s5, .bool b6, .string s6, .bool b7, .string s7] (by rfl) (by rfl) (h.get 0 rfl) (by simp) (by kernel_rfl) (by simp [Value.oneCell', ptr]) ?_; intro V3 k9 hg9; replace h := h.put 0 rfl ⟨by decide, by simp⟩ k9 hg9; simp only [List.set_cons_succ, List.set_cons_zero] at h; clear k9 hg9) | (refine wpList_load_all (by rfl) 56 (.tmp 6) (by rfl) (by rfl) _ (h.get 0 rfl) Tryz.underlying56 rfl (by kernel_rfl) ?_))
 refine (HO.out.2.1 _).mono ?_
 rintro _ Y1 ⟨_, rfl, ⟨c, d, rfl, xc, xd⟩, hb2⟩
 replace h := ((h.call hb2).add (Stb.rat _ _ _) xd).add (Stb.rat _ _ _) xc
 clear hb2 xc xd m0 m1 m2 m3 m4 m5 m6 m7 m8
 go_wp2_with (first | (replace h := h.new 97 #[.bool false, .pointer none, .pointer none]; refine wpList_store_all (by rfl) 97 (.tmp 7) (.tmp 18) (by rfl) #[.bool false, ptr c, ptr d] (by rfl) (by rfl) (h.get 0 rfl) (by simp) (by kernel_rfl) (by simp [Value.oneCell', ptr]) ?_; intro V4 k9 hg9; replace h := h.put 0 rfl ⟨by decide, by simp⟩ k9 hg9; simp only [List.set_cons_succ, List.set_cons_zero] at h; clear k9 hg9) | (refine wpList_load_all (by rfl) 97 (.tmp 7) (by rfl) (by rfl) _ (h.get 0 rfl) Tryz.underlying97 rfl (by kernel_rfl) ?_) | (replace h := h.new 97 #[.bool false, ptr c, ptr d]; refine wpSt_append (by rfl) (.tmp 22) (.tmp 24) 121 (by rfl) 97 _ 3 24 Tryz.underlying121 infoPl rfl (by decide) h 3 rfl hr0 (by rfl) ⟨by decide, fun A n c e => by rw [hr0.nth (j := 1) (v := ptr a) rfl] at e; simp [ptr] at e⟩ 0 (by rfl) rfl rfl (by simp [Value.oneCell', ptr]) (by decide) (by decide) (by decide) ?_; intro g1 cap1 cur1 R1 hr1 h9; replace h := h9; clear h9; simp only [List.eraseIdx_cons_succ, List.eraseIdx_cons_zero] at h))
 rw [rounds_succ]
 have hk := hgs.below h.bel hgs.lt
 have m0 := hk.cell 18
 have m1 := hk.cell 19
 have m2 := hk.cell 20
 have m3 := hk.cell 21
 have m4 := hk.cell 22
 have m5 := hk.cell 23
 have m6 := hk.cell 24
 have m7 := hk.cell 25
 have m8 := hk.cell 26
 clear hk
 go_wp2_with (first | (replace h := h.new 56 #[.bool false, .bool false, .string ⟨#[]⟩, .bool false, .string ⟨#[]⟩, .bool false, .string ⟨#[]⟩, .bool false, .string ⟨#[]⟩]; refine wpList_store_all (by rfl) 56 (.tmp 6) (.tmp 14) (by rfl) #[.bool false, .bool b8, .string s8, .bool b9, .string s9, .bool b10, .string s10, .bool b11, .string s11] (by rfl) (by rfl) (h.get 0 rfl) (by simp) (by kernel_rfl) (by simp [Value.oneCell', ptr]) ?_; intro V5 k9 hg9; replace h := h.put 0 rfl ⟨by decide, by simp⟩ k9 hg9; simp only [List.set_cons_succ, List.set_cons_zero] at h; clear k9 hg9) | (refine wpList_load_all (by rfl) 56 (.tmp 6) (by rfl) (by rfl) _ (h.get 0 rfl) Tryz.underlying56 rfl (by kernel_rfl) ?_))
 refine (HO.out.2.2 _).mono ?_
 rintro _ Y2 ⟨_, rfl, ⟨x, y, rfl, xx, xy⟩, hb2⟩
 replace h := ((h.call hb2).add (Stb.rat _ _ _) xy).add (Stb.rat _ _ _) xx
 clear hb2 xx xy m0 m1 m2 m3 m4 m5 m6 m7 m8
 go_wp2_with (first | (replace h := h.new 97 #[.bool false, .pointer none, .pointer none]; refine wpList_store_all (by rfl) 97 (.tmp 7) (.tmp 18) (by rfl) #[.bool false, ptr x, ptr y] (by rfl) (by rfl) (h.get 0 rfl) (by simp) (by kernel_rfl) (by simp [Value.oneCell', ptr]) ?_; intro V6 k9 hg9; replace h := h.put 0 rfl ⟨by decide, by simp⟩ k9 hg9; simp only [List.set_cons_succ, List.set_cons_zero] at h; clear k9 hg9) | (refine wpList_load_all (by rfl) 97 (.tmp 7) (by rfl) (by rfl) _ (h.get 0 rfl) Tryz.underlying97 rfl (by kernel_rfl) ?_) | (replace h := h.new 97 #[.bool false, ptr x, ptr y]; refine wpSt_append (by rfl) (.tmp 22) (.tmp 24) 121 (by rfl) 97 _ 3 24 Tryz.underlying121 infoPl rfl (by decide) h 3 rfl hr1 (by rfl) ⟨by decide, fun A n c e => by rw [hr1.nth (j := 1) (v := ptr a) rfl] at e; simp [ptr] at e⟩ 0 (by rfl) rfl rfl (by simp [Value.oneCell', ptr]) (by decide) (by decide) (by decide) ?_; intro g2 cap2 cur2 R2 hr2 h9; replace h := h9; clear h9; simp only [List.eraseIdx_cons_succ, List.eraseIdx_cons_zero] at h))
 rw [rounds_succ]
 go_wp2_with fail
 refine bodyPost_ret (v := .tuple #[.slice (some ⟨g2, 0, none⟩) 3 cap2, .bool true]) (by simp [results, Tryz.results60, go_sem]) rfl ?_
 obtain ⟨xx, xy, xc, xd, xa, xb, _⟩ := h.fact
 exact ⟨_, _, _, a, b, c, d, x, y, rfl, h.get 0 rfl, hr2, xa, xb, xc, xd, xx, xy, h.bel⟩
theorem RowC.part {cur : Array Value} {cap n size : Nat} {xs : List Value} (h : RowC cur cap n size xs) {off k : Nat} (hk : off + k ≤ xs.length) : (cur.extract off (off + k)).toList = (xs.drop off).take k := by
 rw [Array.toList_extract]
 refine List.ext_getElem? fun j => ?_
 have hl := h.len
 rw [List.extract_eq_take_drop, List.getElem?_take, List.getElem?_take, Nat.add_sub_cancel_left]
 split
 ·rw [List.getElem?_drop, List.getElem?_drop, ← h.take, List.getElem?_take, if_pos (by omega)]
 ·rfl
theorem Fv.same {b0 b1 c0 c1 : Bool} {s0 s1 t0 t1 : ByteArray} {q : Rat} {n m : Nat} (h : Fv b0 s0 b1 s1 q n) (h' : Fv c0 t0 c1 t1 q m) : b0 = c0 ∧ s0 = t0 ∧ b1 = c1 ∧ s1 = t1 := by
 obtain ⟨rfl, rfl⟩ := h.num.same h'.num
 obtain ⟨rfl, rfl⟩ := h.den.same h'.den
 exact ⟨rfl, rfl, rfl, rfl⟩
theorem circ_unit {v : Value} {A C : Rat} {B : Cx} {n : Nat} (h : IsCirc A B C n v) (hA : A = ((1 : Int) : Rat)) (hB : B = ⟨((0 : Int) : Rat), ((0 : Int) : Rat)⟩) (hC : C = (((-1) : Int) : Rat)) : v = (.agg #[.bool false, .string ⟨#[1]⟩, .bool false, .string ⟨#[1]⟩, .bool false, .string ⟨#[]⟩, .bool false, .string ⟨#[1]⟩, .bool false, .string ⟨#[]⟩, .bool false, .string ⟨#[1]⟩, .bool true, .string ⟨#[1]⟩, .bool false, .string ⟨#[1]⟩]) := by
 obtain ⟨b0, s0, b1, s1, b2, s2, b3, s3, b4, s4, b5, s5, b6, s6, b7, s7, rfl, h0, h1, h2, h3⟩ := h
 subst hA hB hC
 obtain ⟨rfl, rfl, rfl, rfl⟩ := h0.same fv_one
 obtain ⟨rfl, rfl, rfl, rfl⟩ := h1.same fv_zero
 obtain ⟨rfl, rfl, rfl, rfl⟩ := h2.same fv_zero
 obtain ⟨rfl, rfl, rfl, rfl⟩ := h3.same fv_neg
 rfl
theorem IsRing.size {A C : Rat} {B : Cx} {n m : Nat} {v : Value} {w : World} (h : IsRing A B C n v w) (hA : Sz A m) (hB : Sz B.re m) (hB' : Sz B.im m) (hC : Sz C m) : IsRing A B C m v w := by
 obtain ⟨a, b, c, d, rfl, h1, h2, h3, h4⟩ := h
 exact ⟨a, b, c, d, rfl, h1.size hA, h2.size hB, h3.size hB', h4.size hC⟩
def cx1 : Cx := ⟨((1 : Int) : Rat), ((0 : Int) : Rat)⟩
def cxi : Cx := ⟨((0 : Int) : Rat), ((1 : Int) : Rat)⟩
def cxm : Cx := ⟨(((-1) : Int) : Rat), ((0 : Int) : Rat)⟩
theorem fv1 : Fv false ⟨#[1]⟩ false ⟨#[1]⟩ cx1.re 8 ∧ Fv false ⟨#[]⟩ false ⟨#[1]⟩ cx1.im 8 := ⟨fv_one, fv_zero⟩
theorem fvi : Fv false ⟨#[]⟩ false ⟨#[1]⟩ cxi.re 8 ∧ Fv false ⟨#[1]⟩ false ⟨#[1]⟩ cxi.im 8 := ⟨fv_zero, fv_one⟩
theorem fvm : Fv true ⟨#[1]⟩ false ⟨#[1]⟩ cxm.re 8 ∧ Fv false ⟨#[]⟩ false ⟨#[1]⟩ cxm.im 8 := ⟨fv_neg, fv_zero⟩
theorem ring_unit {w : World} {v0 v1 v2 : Value} (h0 : IsPlace (some cx1) 8 v0 w) (h1 : IsPlace (some cxi) 8 v1 w) (h2 : IsPlace (some cxm) 8 v2 w) : Calls Tryz.prog 61 #[v0, v1, v2] w (Ret w (IsRing ((1 : Int) : Rat) ⟨((0 : Int) : Rat), ((0 : Int) : Rat)⟩ (((-1) : Int) : Rat) 8)) := by
 have hA : detQ (rowsQ cx1 cxi cxm) 1 2 3 * (detQ (rowsQ cx1 cxi cxm) 1 2 3)⁻¹ = ((1 : Int) : Rat) := by decide +kernel
 have hB : Cx.scale ⟨detQ (rowsQ cx1 cxi cxm) 0 2 3 * Rat.divInt (-1) 2, detQ (rowsQ cx1 cxi cxm) 0 1 3 * Rat.divInt (-1) 2⟩ (detQ (rowsQ cx1 cxi cxm) 1 2 3)⁻¹ = ⟨((0 : Int) : Rat), ((0 : Int) : Rat)⟩ := cx_ext ⟨by decide +kernel, by decide +kernel⟩
 have hC : -detQ (rowsQ cx1 cxi cxm) 0 1 2 * (detQ (rowsQ cx1 cxi cxm) 1 2 3)⁻¹ = (((-1) : Int) : Rat) := by decide +kernel
 have h := xthrough_any h0 h1 h2 (by decide) (by decide) (by decide +kernel)
 rw [hA, hB, hC] at h
 exact Ret.mono h fun _ _ h => h.size ⟨by decide +kernel, by decide +kernel⟩ ⟨by decide +kernel, by decide +kernel⟩ ⟨by decide +kernel, by decide +kernel⟩ ⟨by decide +kernel, by decide +kernel⟩
theorem told_unit {w : World} {v : Value} (h : IsRing ((1 : Int) : Rat) ⟨((0 : Int) : Rat), ((0 : Int) : Rat)⟩ (((-1) : Int) : Rat) 8 v w) : Calls Tryz.prog 62 #[v] w (RetE w (fun v _ => v = (.agg #[.bool false, .string ⟨#[1]⟩, .bool false, .string ⟨#[1]⟩, .bool false, .string ⟨#[]⟩, .bool false, .string ⟨#[1]⟩, .bool false, .string ⟨#[]⟩, .bool false, .string ⟨#[1]⟩, .bool true, .string ⟨#[1]⟩, .bool false, .string ⟨#[1]⟩]))) := by
 refine (rtold_any h (by decide +kernel) (by decide)).mono ?_
 rintro e w' ⟨v, rfl, hv, hb⟩
 exact ⟨v, rfl, circ_unit hv (by decide +kernel) (cx_ext ⟨by decide +kernel, by decide +kernel⟩) (by decide +kernel), hb⟩
set_option maxRecDepth 100000 in
set_option maxHeartbeats 8000000 in
theorem through_unit {w : World} : Calls Tryz.prog 25 #[(.agg #[.bool false, .bool false, .string ⟨#[1]⟩, .bool false, .string ⟨#[1]⟩, .bool false, .string ⟨#[]⟩, .bool false, .string ⟨#[1]⟩]), (.agg #[.bool false, .bool false, .string ⟨#[]⟩, .bool false, .string ⟨#[1]⟩, .bool false, .string ⟨#[1]⟩, .bool false, .string ⟨#[1]⟩]), (.agg #[.bool false, .bool true, .string ⟨#[1]⟩, .bool false, .string ⟨#[1]⟩, .bool false, .string ⟨#[]⟩, .bool false, .string ⟨#[1]⟩])] w (RetE w (fun v _ => v = (.agg #[.bool false, .string ⟨#[1]⟩, .bool false, .string ⟨#[1]⟩, .bool false, .string ⟨#[]⟩, .bool false, .string ⟨#[1]⟩, .bool false, .string ⟨#[]⟩, .bool false, .string ⟨#[1]⟩, .bool true, .string ⟨#[1]⟩, .bool false, .string ⟨#[1]⟩]))) := by
 have h := ((((St.start w).new 56 #[.bool false, .bool false, .string ⟨#[1]⟩, .bool false, .string ⟨#[1]⟩, .bool false, .string ⟨#[]⟩, .bool false, .string ⟨#[1]⟩]).new 56 #[.bool false, .bool false, .string ⟨#[]⟩, .bool false, .string ⟨#[1]⟩, .bool false, .string ⟨#[1]⟩, .bool false, .string ⟨#[1]⟩]).new 56 #[.bool false, .bool true, .string ⟨#[1]⟩, .bool false, .string ⟨#[1]⟩, .bool false, .string ⟨#[]⟩, .bool false, .string ⟨#[1]⟩]).new 68 #[.bool false, .string ⟨#[]⟩, .bool false, .string ⟨#[]⟩, .bool false, .string ⟨#[]⟩, .bool false, .string ⟨#[]⟩, .bool false, .string ⟨#[]⟩, .bool false, .string ⟨#[]⟩, .bool false, .string ⟨#[]⟩, .bool false, .string ⟨#[]⟩]
 simp only [size_alloc] at h
 go_enter Tryz.func25, Tryz.ntmps25
 go_wp2_with fail
 have kG := Blk.new ((((w.alloc (Obj.cells #[.bool false, .bool false, .string ⟨#[1]⟩, .bool false, .string ⟨#[1]⟩, .bool false, .string ⟨#[]⟩, .bool false, .string ⟨#[1]⟩] 56)).alloc (Obj.cells #[.bool false, .bool false, .string ⟨#[]⟩, .bool false, .string ⟨#[1]⟩, .bool false, .string ⟨#[1]⟩, .bool false, .string ⟨#[1]⟩] 56)).alloc (Obj.cells #[.bool false, .bool true, .string ⟨#[1]⟩, .bool false, .string ⟨#[1]⟩, .bool false, .string ⟨#[]⟩, .bool false, .string ⟨#[1]⟩] 56)).alloc (Obj.cells #[.bool false, .string ⟨#[]⟩, .bool false, .string ⟨#[]⟩, .bool false, .string ⟨#[]⟩, .bool false, .string ⟨#[]⟩, .bool false, .string ⟨#[]⟩, .bool false, .string ⟨#[]⟩, .bool false, .string ⟨#[]⟩, .bool false, .string ⟨#[]⟩] 68)) 56 #[.bool false, .bool false, .string ⟨#[1]⟩, .bool false, .string ⟨#[1]⟩, .bool false, .string ⟨#[]⟩, .bool false, .string ⟨#[1]⟩, .bool false, .bool false, .string ⟨#[]⟩, .bool false, .string ⟨#[1]⟩, .bool false, .string ⟨#[1]⟩, .bool false, .string ⟨#[1]⟩, .bool false, .bool true, .string ⟨#[1]⟩, .bool false, .string ⟨#[1]⟩, .bool false, .string ⟨#[]⟩, .bool false, .string ⟨#[1]⟩]
 replace h := h.call (new_below _ (.cells #[.bool false, .bool false, .string ⟨#[1]⟩, .bool false, .string ⟨#[1]⟩, .bool false, .string ⟨#[]⟩, .bool false, .string ⟨#[1]⟩, .bool false, .bool false, .string ⟨#[]⟩, .bool false, .string ⟨#[1]⟩, .bool false, .string ⟨#[1]⟩, .bool false, .string ⟨#[1]⟩, .bool false, .bool true, .string ⟨#[1]⟩, .bool false, .string ⟨#[1]⟩, .bool false, .string ⟨#[]⟩, .bool false, .string ⟨#[1]⟩] 56))
 simp only [size_alloc] at kG
 generalize hW : ((((w.alloc (Obj.cells #[.bool false, .bool false, .string ⟨#[1]⟩, .bool false, .string ⟨#[1]⟩, .bool false, .string ⟨#[]⟩, .bool false, .string ⟨#[1]⟩] 56)).alloc (Obj.cells #[.bool false, .bool false, .string ⟨#[]⟩, .bool false, .string ⟨#[1]⟩, .bool false, .string ⟨#[1]⟩, .bool false, .string ⟨#[1]⟩] 56)).alloc (Obj.cells #[.bool false, .bool true, .string ⟨#[1]⟩, .bool false, .string ⟨#[1]⟩, .bool false, .string ⟨#[]⟩, .bool false, .string ⟨#[1]⟩] 56)).alloc (Obj.cells #[.bool false, .string ⟨#[]⟩, .bool false, .string ⟨#[]⟩, .bool false, .string ⟨#[]⟩, .bool false, .string ⟨#[]⟩, .bool false, .string ⟨#[]⟩, .bool false, .string ⟨#[]⟩, .bool false, .string ⟨#[]⟩, .bool false, .string ⟨#[]⟩] 68)).alloc (Obj.cells #[.bool false, .bool false, .string ⟨#[1]⟩, .bool false, .string ⟨#[1]⟩, .bool false, .string ⟨#[]⟩, .bool false, .string ⟨#[1]⟩, .bool false, .bool false, .string ⟨#[]⟩, .bool false, .string ⟨#[1]⟩, .bool false, .string ⟨#[1]⟩, .bool false, .string ⟨#[1]⟩, .bool false, .bool true, .string ⟨#[1]⟩, .bool false, .string ⟨#[1]⟩, .bool false, .string ⟨#[]⟩, .bool false, .string ⟨#[1]⟩] 56) = W1 at kG h ⊢
 clear hW
 have HSP := Lib.hid (spots_three fv1.1 fv1.2 fvi.1 fvi.2 fvm.1 fvm.2 kG (by decide))
 refine HSP.out.mono ?_
 rintro _ w2 ⟨g, cap, cur, a, b, c, d, x, y, rfl, kg, hr, ra, rb, rc, rd, rx, ry, hb⟩
 replace h := h.call hb
 clear hb kG HSP
 have m0 := (h.get 3 rfl).cell 0
 have m1 := (h.get 3 rfl).cell 1
 have m2 := (h.get 3 rfl).cell 2
 have m3 := (h.get 3 rfl).cell 3
 have m4 := (h.get 3 rfl).cell 4
 have m5 := (h.get 3 rfl).cell 5
 have m6 := (h.get 3 rfl).cell 6
 have m7 := (h.get 3 rfl).cell 7
 have m8 := (h.get 3 rfl).cell 8
 have n0 := (h.get 2 rfl).cell 0
 have n1 := (h.get 2 rfl).cell 1
 have n2 := (h.get 2 rfl).cell 2
 have n3 := (h.get 2 rfl).cell 3
 have n4 := (h.get 2 rfl).cell 4
 have n5 := (h.get 2 rfl).cell 5
 have n6 := (h.get 2 rfl).cell 6
 have n7 := (h.get 2 rfl).cell 7
 have n8 := (h.get 2 rfl).cell 8
 have o0 := (h.get 1 rfl).cell 0
 have o1 := (h.get 1 rfl).cell 1
 have o2 := (h.get 1 rfl).cell 2
 have o3 := (h.get 1 rfl).cell 3
 have o4 := (h.get 1 rfl).cell 4
 have o5 := (h.get 1 rfl).cell 5
 have o6 := (h.get 1 rfl).cell 6
 have o7 := (h.get 1 rfl).cell 7
 have o8 := (h.get 1 rfl).cell 8
 go_wp2_with fail
 clear m0 m1 m2 m3 m4 m5 m6 m7 m8 n0 n1 n2 n3 n4 n5 n6 n7 n8 o0 o1 o2 o3 o4 o5 o6 o7 o8
 have k0 := kg
 refine wp_region_noPanic ?_
 refine wp_region_list (mk := ?mk) noV_vgs [Is (.slice (some ⟨g, 0, none⟩) 3 cap), Is (ptr g), Is (.agg #[(.bool false), (ptr a), (ptr b)]), Is (.slice (some ⟨g, 0, none⟩) 3 cap), Is (.pointer (some ⟨g, 3, none⟩)), Is (.agg #[(.bool false), (ptr c), (ptr d)]), Is (.slice (some ⟨g, 0, none⟩) 3 cap), Is (.pointer (some ⟨g, 6, none⟩)), Is (.agg #[(.bool false), (ptr x), (ptr y)]), IsRing ((1 : Int) : Rat) ⟨((0 : Int) : Rat), ((0 : Int) : Rat)⟩ (((-1) : Int) : Rat) 8, Is (.tuple #[(.agg #[.bool false, .string ⟨#[1]⟩, .bool false, .string ⟨#[1]⟩, .bool false, .string ⟨#[]⟩, .bool false, .string ⟨#[1]⟩, .bool false, .string ⟨#[]⟩, .bool false, .string ⟨#[1]⟩, .bool true, .string ⟨#[1]⟩, .bool false, .string ⟨#[1]⟩]), (.int .i64 0)]), Is (.agg #[.bool false, .string ⟨#[1]⟩, .bool false, .string ⟨#[1]⟩, .bool false, .string ⟨#[]⟩, .bool false, .string ⟨#[1]⟩, .bool false, .string ⟨#[]⟩, .bool false, .string ⟨#[1]⟩, .bool true, .string ⟨#[1]⟩, .bool false, .string ⟨#[1]⟩]), Is (.int .i64 0)] [.plain, .plain, .plain, .plain, .plain, .plain, .plain, .plain, .plain, .plain, .plain, .plain, .plain] 13 2 (fun w' => Blk w' g 97 cur ∧ IsRat cx1.re 8 (ptr a) w' ∧ IsRat cx1.im 8 (ptr b) w' ∧ IsRat cxi.re 8 (ptr c) w' ∧ IsRat cxi.im 8 (ptr d) w' ∧ IsRat cxm.re 8 (ptr x) w' ∧ IsRat cxm.im 8 (ptr y) w' ∧ True) ⟨is_steady _ _ _, is_steady _ _ _, is_steady _ _ _, is_steady _ _ _, is_steady _ _ _, is_steady _ _ _, is_steady _ _ _, is_steady _ _ _, is_steady _ _ _, nov fun _ _ _ h => h.below, is_steady _ _ _, is_steady _ _ _, is_steady _ _ _, trivial⟩ (by kernel_rfl) (by kernel_rfl) (by kernel_rfl) (by kernel_rfl) (by kernel_rfl) (by kernel_rfl) ?hmk (fun w' hB => ⟨k0.below hB k0.lt, ra.below hB, rb.below hB, rc.below hB, rd.below hB, rx.below hB, ry.below hB, trivial⟩)
  (steps_all (steps_cons ?_ (steps_cons ?_ (steps_cons ?_ (steps_cons ?_ (steps_cons ?_ (steps_cons ?_ (steps_cons ?_ (steps_cons ?_ (steps_cons ?_ (steps_cons ?_ (steps_cons ?_ (steps_cons ?_ (steps_cons ?_ steps_nil)))))))))))))) ?_
 case hmk =>
  intro u
  simp only [mkFrom, mkL, dstOf, List.range, List.range.loop, Act.put, List.setIfInBounds_toArray, List.set_cons_zero, List.set_cons_succ, List.getElem?_toArray, List.getElem?_cons_zero, List.getElem?_cons_succ, Option.bind_some]
  rfl
 ·refine step_is (o := Oper.mk (some 37) _ _ _ _ _) rfl rfl rfl rfl (fun u ws hc hd => ?_)
  go_simp
 ·refine step_is (o := Oper.mk (some 38) _ _ _ _ _) rfl rfl rfl rfl (fun u ws hc hd => ?_)
  have d0 : u 0 = _ := hd 0 (by kernel_rfl) (by decide)
  go_simp
 ·refine step_is (o := Oper.mk (some 39) _ _ _ _ _) rfl rfl rfl rfl (fun u ws hc hd => ?_)
  obtain ⟨k0, ra, rb, rc, rd, rx, ry, _⟩ := hc
  have d1 : u 1 = _ := hd 1 (by kernel_rfl) (by decide)
  exact run_load_part 97 (.tmp 38) rfl g 0 d1 #[(.bool false), (ptr a), (ptr b)] _ k0 (hr.part (off := 0) (k := 3) (by simp)) Tryz.underlying97 rfl (by kernel_rfl)
 ·refine step_is (o := Oper.mk (some 40) _ _ _ _ _) rfl rfl rfl rfl (fun u ws hc hd => ?_)
  go_simp
 ·refine step_is (o := Oper.mk (some 41) _ _ _ _ _) rfl rfl rfl rfl (fun u ws hc hd => ?_)
  have d3 : u 3 = _ := hd 3 (by kernel_rfl) (by decide)
  go_simp
 ·refine step_is (o := Oper.mk (some 42) _ _ _ _ _) rfl rfl rfl rfl (fun u ws hc hd => ?_)
  obtain ⟨k0, ra, rb, rc, rd, rx, ry, _⟩ := hc
  have d4 : u 4 = _ := hd 4 (by kernel_rfl) (by decide)
  exact run_load_part 97 (.tmp 41) rfl g 3 d4 #[(.bool false), (ptr c), (ptr d)] _ k0 (hr.part (off := 3) (k := 3) (by simp)) Tryz.underlying97 rfl (by kernel_rfl)
 ·refine step_is (o := Oper.mk (some 43) _ _ _ _ _) rfl rfl rfl rfl (fun u ws hc hd => ?_)
  go_simp
 ·refine step_is (o := Oper.mk (some 44) _ _ _ _ _) rfl rfl rfl rfl (fun u ws hc hd => ?_)
  have d6 : u 6 = _ := hd 6 (by kernel_rfl) (by decide)
  go_simp
 ·refine step_is (o := Oper.mk (some 45) _ _ _ _ _) rfl rfl rfl rfl (fun u ws hc hd => ?_)
  obtain ⟨k0, ra, rb, rc, rd, rx, ry, _⟩ := hc
  have d7 : u 7 = _ := hd 7 (by kernel_rfl) (by decide)
  exact run_load_part 97 (.tmp 44) rfl g 6 d7 #[(.bool false), (ptr x), (ptr y)] _ k0 (hr.part (off := 6) (k := 3) (by simp)) Tryz.underlying97 rfl (by kernel_rfl)
 ·refine step_call (o := Oper.mk (some 46) _ _ _ _ _) rfl rfl rfl (fun u ws hc hd => ?_)
  obtain ⟨k0, ra, rb, rc, rd, rx, ry, _⟩ := hc
  have d2 : u 2 = _ := hd 2 (by kernel_rfl) (by decide)
  have d5 : u 5 = _ := hd 5 (by kernel_rfl) (by decide)
  have d8 : u 8 = _ := hd 8 (by kernel_rfl) (by decide)
  have HC := Lib.hid (ring_unit (w := ws) ⟨a, b, rfl, ra, rb⟩ ⟨c, d, rfl, rc, rd⟩ ⟨x, y, rfl, rx, ry⟩)
  refine ⟨61, #[(.agg #[(.bool false), (ptr a), (ptr b)]), (.agg #[(.bool false), (ptr c), (ptr d)]), (.agg #[(.bool false), (ptr x), (ptr y)])], ?_, HC.out⟩
  ·clear HC; go_simp
 ·refine step_call (o := Oper.mk (some 47) _ _ _ _ _) rfl rfl rfl (fun u ws hc hd => ?_)
  obtain ⟨k0, ra, rb, rc, rd, rx, ry, _⟩ := hc
  have HC := Lib.hid (told_unit (hd 9 (by kernel_rfl) (by decide) : IsRing ((1 : Int) : Rat) ⟨((0 : Int) : Rat), ((0 : Int) : Rat)⟩ (((-1) : Int) : Rat) 8 (u 9) ws))
  refine ⟨62, #[u 9], ?_, (HC.out.mono fun e w9 h => by obtain ⟨v, rfl, hv, hb⟩ := h; exact ⟨_, rfl, by rw [hv]; rfl, hb⟩)⟩
  ·clear HC; go_simp
 ·refine step_is (o := Oper.mk (some 48) _ _ _ _ _) rfl rfl rfl rfl (fun u ws hc hd => ?_)
  have d10 : u 10 = _ := hd 10 (by kernel_rfl) (by decide)
  go_simp
 ·refine step_is (o := Oper.mk (some 49) _ _ _ _ _) rfl rfl rfl rfl (fun u ws hc hd => ?_)
  have d10 : u 10 = _ := hd 10 (by kernel_rfl) (by decide)
  go_simp
 ·intro u w3 hb1 hf hn1
  have f11 : u 11 = _ := hf 11 (by decide) (by decide)
  have f12 : u 12 = _ := hf 12 (by decide) (by decide)
  replace h := h.call hb1
  have kr := h.get 0 rfl
  clear hf hn1 k0 kg hb1 ra rb rc rd rx ry hr
  refine wpAny_store (j := 13) (o := Oper.mk none _ _ _ _ _) rfl (by kernel_rfl) rfl 68 (.tmp 6) (.tmp 48) rfl (w.heap.size + 1 + 1 + 1) 0 #[.bool false, .string ⟨#[1]⟩, .bool false, .string ⟨#[1]⟩, .bool false, .string ⟨#[]⟩, .bool false, .string ⟨#[1]⟩, .bool false, .string ⟨#[]⟩, .bool false, .string ⟨#[1]⟩, .bool true, .string ⟨#[1]⟩, .bool false, .string ⟨#[1]⟩] rfl f11 #[.bool false, .string ⟨#[1]⟩, .bool false, .string ⟨#[1]⟩, .bool false, .string ⟨#[]⟩, .bool false, .string ⟨#[1]⟩, .bool false, .string ⟨#[]⟩, .bool false, .string ⟨#[1]⟩, .bool true, .string ⟨#[1]⟩, .bool false, .string ⟨#[1]⟩] kr (by simp) rfl (by kernel_rfl) (by simp [Value.oneCell', ptr]) (fun w5 k9 hg9 hs9 => ?_)
  replace h := h.put 0 rfl ⟨by decide, by simp⟩ k9 hg9
  clear k9 hg9 hs9 kr
  refine wpAny_tail (j := 14) (o := Oper.mk (some 7) _ _ _ _ _) rfl (by kernel_rfl) (fun K hK => ?_)
  rw [f12]
  go_simp
  refine hK.out _ _ ?_
  clear hK K
  refine wpAny_end (by kernel_rfl) ?_
  refine NoPanic.normal ?_
  go_wp2_with fail
  refine bodyPost_ret (results_row_tmp rfl _ _ _ _ _ (by rfl) (h.get 0 rfl) Tryz.underlying68 rfl (by kernel_rfl)) rfl ?_
  exact ⟨_, rfl, rfl, h.bel⟩
end Go.Proofs.YtebpggfccljagaaGreat
namespace Go.Proofs.YtebpggfccljagaaGreat
open Go Go.RowKit
theorem wanted_of {ops : Array Oper} {tmps : Array Value} {o : Oper} {j d : Nat} {want : Bool} (hg : o.guard = some (j, want)) (hd : ((ops[j]?).bind (·.dst)) = some d) (ht : tmps[d]? = some (.bool want)) : Region.wanted o (yielded ops tmps) = true := by
 simp [Region.wanted, yielded, hg, hd, ht]
section
variable {P : Program} {ops : Array Oper} {Q : Exit → Act → World → Prop} {md : Region.Mode}
variable {V : World → Nat → Prop} {F : Nat → Value → World → Prop} {ks : List Kd} {mk : (Nat → Value) → Act} {C : World → Prop} {lo : Nat}
theorem step_valG {i : Nat} {o : Oper} {gj gd : Nat} {want : Bool} (ho : ops[i]? = some o) (hg : o.guard = some (gj, want)) (hgd : ((ops[gj]?).bind (·.dst)) = some gd) (hk : ks.getD i .plain = .plain)
  (ht : ∀ u w, C w → (∀ j, edge md o j = true → ks.getD j .plain ≠ .fresh → F j (u j) w) → (mk u).tmps[gd]? = some (.bool want))
  (h : ∀ u w, C w → (∀ j, edge md o j = true → ks.getD j .plain ≠ .fresh → F j (u j) w) → ∃ v, (execOp (mk u).eval o).run P w = .ok (.value v) w ∧ F i v w) : StepAt P md ops Q V F ks mk C lo i := by
 intro o' ho' u w hc hd _ K hK
 rw [ho] at ho'
 injection ho' with ho'
 subst ho'
 rw [if_pos (wanted_of hg hgd (ht u w hc hd))]
 obtain ⟨v, hr, hf⟩ := h u w hc hd
 unfold Oper.wp
 rw [hr]
 exact hK.out v w (by rw [hk]; exact Below.refl _ _) (fun _ => hf)
theorem step_isG {i : Nat} {o : Oper} {c : Value} {gj gd : Nat} {want : Bool} (ho : ops[i]? = some o) (hF : F i = Is c) (hg : o.guard = some (gj, want)) (hgd : ((ops[gj]?).bind (·.dst)) = some gd) (hk : ks.getD i .plain = .plain)
  (ht : ∀ u w, C w → (∀ j, edge md o j = true → ks.getD j .plain ≠ .fresh → F j (u j) w) → (mk u).tmps[gd]? = some (.bool want))
  (h : ∀ u w, C w → (∀ j, edge md o j = true → ks.getD j .plain ≠ .fresh → F j (u j) w) → (execOp (mk u).eval o).run P w = .ok (.value c) w) : StepAt P md ops Q V F ks mk C lo i :=
 step_valG ho hg hgd hk ht fun u w hc hd => ⟨c, h u w hc hd, by rw [hF]; exact rfl⟩
theorem step_callG {i : Nat} {o : Oper} {gj gd : Nat} {want : Bool} (ho : ops[i]? = some o) (hg : o.guard = some (gj, want)) (hgd : ((ops[gj]?).bind (·.dst)) = some gd) (hk : ks.getD i .plain = .plain)
  (ht : ∀ u w, C w → (∀ j, edge md o j = true → ks.getD j .plain ≠ .fresh → F j (u j) w) → (mk u).tmps[gd]? = some (.bool want))
  (h : ∀ u w, C w → (∀ j, edge md o j = true → ks.getD j .plain ≠ .fresh → F j (u j) w) → ∃ f args, (execOp (mk u).eval o).run P w = .ok (.enter f args) w ∧
   Calls P f args w (fun e w' => ∃ v, e = .returned v ∧ F i v w' ∧ Below w.heap.size w w')) : StepAt P md ops Q V F ks mk C lo i := by
 intro o' ho' u w hc hd _ K hK
 rw [ho] at ho'
 injection ho' with ho'
 subst ho'
 rw [if_pos (wanted_of hg hgd (ht u w hc hd))]
 obtain ⟨f, args, hr, hcl⟩ := h u w hc hd
 unfold Oper.wp
 rw [hr, Oper.upon_enter]
 refine hcl.mono ?_
 rintro _ w' ⟨v, rfl, hf, hb⟩
 exact hK.out v w' (by rw [hk]; exact hb) (fun _ => hf)
end
end Go.Proofs.YtebpggfccljagaaGreat
