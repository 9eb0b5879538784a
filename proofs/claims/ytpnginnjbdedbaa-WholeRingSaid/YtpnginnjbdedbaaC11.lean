import Derived.Test.YtpnginnjbdedbaaC9
import Derived.Test.YtpnginnjbdedbaaC10
import Derived.Deep.CutBlock
import Derived.Test.YtpnginnjbdedbaaRows
import Derived.Test.YtpnginnjbdedbaaC1
import Derived.WalkKit
import Derived.ProofKit
import Derived.OpenShut
import Derived.Carry
import Derived.JoinedCond
import Derived.ChangeSlices
/- law.WholeRing (printed by gen_ring.py). -/
namespace Go.Proofs.Ytpnginnjbdedbaa
open Go.RowKit
open Wh
set_option linter.unusedSimpArgs false
set_option linter.unusedVariables false

theorem shift_told {w : World} {na : Bool} {sa : ByteArray} {n z : Int} {s : Bool} {b : ByteArray} (hm : MayL na sa.data.toList) (hn : -9223372036854775808 ≤ n) (hz : shf (num (na, sa)) n = z) (hf : fits z) (he : enc z = .agg #[.bool s, .string b]) :
    Calls Try.prog 22 #[.agg #[.bool na, .string sa], .int .i64 n] w (T2 w s b) :=
  (wshift_any hn).mono fun _ _ h => ans_told h hm hz hf he
theorem shf_back {x n : Int} (hn : 0 ≤ n) : shf (shf x n) (-n) = x := by
  by_cases h0 : n = 0
  · subst h0; simp [shf]
  · rw [show shf x n = x * 2 ^ n.toNat by unfold shf; rw [if_pos hn]]
    unfold shf
    rw [if_neg (by omega), Int.neg_neg]
    exact Int.mul_ediv_cancel _ (Int.ne_of_gt (pow2_pos _))
theorem shf_fits {x n : Int} {k : Nat} (h : SB k x) (hk : k ≤ 31072) (hn : 0 ≤ n) (hn2 : n ≤ 100000) : fits (shf x n) := by
  unfold fits shf
  rw [if_pos hn, shl_abs]
  exact Nat.le_trans (bl_shl (h.bl (Nat.le_refl _))) (by omega)
theorem txt_sb {x : Int} {k : Nat} (h : SB k x) : (txt x).length ≤ k + 1 := txt_len (Nat.lt_of_lt_of_le h (Nat.pow_le_pow_left (show 2 ≤ 10 by decide) _))
/-- a text read again -/
theorem read_back {w : World} {na : Bool} {sa : ByteArray} (hm : MayL na sa.data.toList) (hs : sa.size ≤ 400) : Calls Try.prog 34 #[.string ⟨(txt (num (na, sa))).toArray⟩] w (Calm w (.tuple #[.agg #[.bool na, .string sa], .int .i64 0])) := by
  have hS := may_sb (n := na) hs
  have hl : (txt (num (na, sa))).length ≤ 3201 := txt_sb hS
  obtain ⟨hg, hv⟩ := txt_good (num (na, sa))
  refine wread_any.mono fun e w' h' => ⟨?_, h'.2.2.2.2⟩
  have h1 := h'.2.2.1
  simp only at h1
  rw [hv] at h1
  rw [h1 (by omega) hg (hS.fits (by decide)), may_num hm]
theorem blk_three {w : World} (a b c : Bool × ByteArray) : ReadsWh (w.alloc (.cells #[.bool a.1, .string a.2, .bool b.1, .string b.2, .bool c.1, .string c.2] 26)) (w.heap.size + 1) (some ⟨w.heap.size, 0, none⟩) [a, b, c] := by
  refine ⟨rfl, fun _ => ⟨_, rfl, Nat.lt_succ_self _, fun j u hu => ?_⟩⟩
  rw [Addr.add_lit, Nat.zero_add, (Blk.new w 26 #[.bool a.1, .string a.2, .bool b.1, .string b.2, .bool c.1, .string c.2]).cell j]
  rw [← hu]
  match j with
  | 0 => rfl
  | 1 => rfl
  | 2 => rfl
  | 3 => rfl
  | 4 => rfl
  | 5 => rfl
  | _ + 6 => rfl
theorem Env.sub {w0 W : World} {l l' : List (Nat × TypeId × Array Value)} (h : Env w0 W l) (hs : ∀ x ∈ l', x ∈ l) : Env w0 W l' := ⟨h.1, fun x hx => h.2 x (hs x hx)⟩
theorem Env.fill3 {w0 W : World} {x y z : Nat} {t : TypeId} {a b c d e f : Value} (u v u' v' u'' v'' : Value) (hb : Below w0.heap.size w0 W) (hx : Blk W x t #[a, b]) (hy : Blk W y t #[c, d]) (hz : Blk W z t #[e, f])
    (gx : w0.heap.size ≤ x) (gy : w0.heap.size ≤ y) (gz : w0.heap.size ≤ z) (hxy : x ≠ y) (hxz : x ≠ z) (hyz : y ≠ z) :
    Env w0 ((((((W.setCell ⟨x, 0, none⟩ u).setCell ⟨x, 1, none⟩ v).setCell ⟨y, 0, none⟩ u').setCell ⟨y, 1, none⟩ v').setCell ⟨z, 0, none⟩ u'').setCell ⟨z, 1, none⟩ v'') [(z, t, #[u'', v'']), (y, t, #[u', v']), (x, t, #[u, v])] := by
  refine ⟨(((((hb.setCell (p := ⟨x, 0, none⟩) gx _).setCell (p := ⟨x, 1, none⟩) gx _).setCell (p := ⟨y, 0, none⟩) gy _).setCell (p := ⟨y, 1, none⟩) gy _).setCell (p := ⟨z, 0, none⟩) gz _).setCell (p := ⟨z, 1, none⟩) gz _, fun q hq => ?_⟩
  have h1 := far_pair u' v' (put_pair u v hx) hxy
  have h2 := far_pair u'' v'' h1 hxz
  have h3 := far_pair u'' v'' (put_pair u' v' (far_pair u v hy (Ne.symm hxy))) hyz
  have h4 := put_pair u'' v'' (far_pair u' v' (far_pair u v hz (Ne.symm hxz)) (Ne.symm hyz))
  simp only [List.mem_cons, List.not_mem_nil, or_false] at hq
  rcases hq with rfl | rfl | rfl
  · exact h4
  · exact h3
  · exact h2
section
variable {P : Program} {ops : Array Oper} {Q : Exit → Act → World → Prop} {md : Region.Mode} {C : World → Prop} {k : Nat}
/-- three come next, below k, in any order -/
theorem wpHK_three {i j l : Nat} {oi oj ol : Oper} {fuel : Nat} {listed : Array Bool} {a : Act} {w : World} (hi : ops[i]? = some oi) (hj : ops[j]? = some oj) (hl : ops[l]? = some ol) (hr : Region.ready md ops listed = [i, j, l])
    (h1 : ∀ K' : Act → World → Prop, Shut (∀ a w, C w → (C w → wpHK P md ops Q C k fuel (listed.setIfInBounds i true) a w) → K' a w) → if Region.wanted oi (yielded ops a.tmps) = true then Oper.wp P oi a w K' Q else K' (a.put oi.dst undef) w)
    (h2 : ∀ K' : Act → World → Prop, Shut (∀ a w, C w → (C w → wpHK P md ops Q C k fuel (listed.setIfInBounds j true) a w) → K' a w) → if Region.wanted oj (yielded ops a.tmps) = true then Oper.wp P oj a w K' Q else K' (a.put oj.dst undef) w)
    (h3 : ∀ K' : Act → World → Prop, Shut (∀ a w, C w → (C w → wpHK P md ops Q C k fuel (listed.setIfInBounds l true) a w) → K' a w) → if Region.wanted ol (yielded ops a.tmps) = true then Oper.wp P ol a w K' Q else K' (a.put ol.dst undef) w) :
    wpHK P md ops Q C k (fuel + 1) listed a w := fun hcl =>
  ⟨fun h0 => (by rw [hr] at h0; cases h0), fun i' hi' => by
    have hm := hi'
    rw [hr] at hi'
    simp only [List.mem_cons, List.not_mem_nil, or_false] at hi'
    rcases hi' with rfl | rfl | rfl
    · exact wpOp_step hi (fun K' hK => h1 K' (fun a w hC hW => hK a w ⟨fun _ _ => hC, hW hC (closed_set hcl hm)⟩))
    · exact wpOp_step hj (fun K' hK => h2 K' (fun a w hC hW => hK a w ⟨fun _ _ => hC, hW hC (closed_set hcl hm)⟩))
    · exact wpOp_step hl (fun K' hK => h3 K' (fun a w hC hW => hK a w ⟨fun _ _ => hC, hW hC (closed_set hcl hm)⟩))⟩
end
set_option maxRecDepth 100000 in
set_option maxHeartbeats 8000000 in
theorem ring_rest3 {w wc : World} {x y z : Nat} {na nb nc : Bool} {sa sb sc : ByteArray} {n : Int} {u0 u1 u2 u7 u8 u9 u10 u11 u12 u13 u14 u15 u16 u17 u18 u19 u20 u21 u22 u23 u24 u25 u26 u27 u28 u29 u30 u31 u32 u33 u34 u35 u36 u37 u38 u39 u40 u41 u42 u43 u44 u45 u46 u47 u48 u49 u50 u51 u52 u53 u54 u55 u56 u57 u58 u59 u60 u61 u62 u63 u64 u65 u66 u67 u68 u69 u70 u71 u72 u73 u74 u75 u76 u77 u78 u79 u80 u81 u82 u83 u84 u85 u86 u87 u88 u89 u90 u91 u92 u93 u94 u95 u96 u97 u98 u99 u100 u101 u102 : Value} (Hab : Hid (∀ a ∈ [(na, sa), (nb, sb), (nc, sc)], a.2.size ≤ 400 ∧ MayL a.1 a.2.data.toList)) (hn : -9223372036854775808 ≤ n) (hn2 : n ≤ 9223372036854775807) (E0 : Hid (Env w wc [(z, 26, #[.bool nc, .string sc]), (y, 26, #[.bool nb, .string sb]), (x, 26, #[.bool na, .string sa])])) :
    (codeRest 3 (bodyOf Try.f10)).wp Try.prog (bodyPost Try.prog Try.f10 (fun e w' => e = .returned (.bool true) ∧ Below w.heap.size w w')) ⟨#[u0, u1, u2, .pointer (some ⟨x, 0, none⟩), .pointer (some ⟨y, 0, none⟩), .pointer (some ⟨z, 0, none⟩), .int .i64 n, u7, u8, u9, u10, u11, u12, u13, u14, u15, u16, u17, u18, u19, u20, u21, u22, u23, u24, u25, u26, u27, u28, u29, u30, u31, u32, u33, u34, u35, u36, u37, u38, u39, u40, u41, u42, u43, u44, u45, u46, u47, u48, u49, u50, u51, u52, u53, u54, u55, u56, u57, u58, u59, u60, u61, u62, u63, u64, u65, u66, u67, u68, u69, u70, u71, u72, u73, u74, u75, u76, u77, u78, u79, u80, u81, u82, u83, u84, u85, u86, u87, u88, u89, u90, u91, u92, u93, u94, u95, u96, u97, u98, u99, u100, u101, u102], []⟩ wc := by
  conv => enter [2]; dsimp only [codeRest, bodyOf, Try.f10, Option.getD_some]
  obtain ⟨ha, hma⟩ := Hab.out (na, sa) (by simp)
  obtain ⟨hb, hmb⟩ := Hab.out (nb, sb) (by simp)
  obtain ⟨hc, hmc⟩ := Hab.out (nc, sc) (by simp)
  dsimp only at ha hma hb hmb hc hmc
  have h33 := fun W : World => text_told (w := W) hma
  have h34 := fun W : World => read_back (w := W) hma ha
  obtain ⟨tx, htx⟩ : ∃ tx : ByteArray, tx = ⟨(txt (num (na, sa))).toArray⟩ := ⟨_, rfl⟩
  rw [← htx] at h33 h34
  have H33 := Lib.hid h33
  have H34 := Lib.hid h34
  have H59 := Lib.hid (fun W : World => three_any (w := W) hma hmb hmc ha hb hc)
  have Hma := Lib.hid hma
  have Ha := Lib.hid ha
  have HW := Lib.hid (fun W : World => works_any (w := W))
  clear h33 h34 htx ha hb hc hma hmb hmc
  have q0_0 : wc.cell? ⟨x, 0, none⟩ = some (.bool na) := (Env.at_ E0.out 2 rfl).cell 0
  have q0_1 : wc.cell? ⟨x, 1, none⟩ = some (.string sa) := (Env.at_ E0.out 2 rfl).cell 1
  go_wp2_with fail
  refine (H33.out _).mono ?_
  rintro e w1 ⟨rfl, h1⟩
  have E2 := Lib.hid (E0.out.call h1)
  clear q0_0 q0_1 h1
  go_upto_region 9 with fail
  go_wp2_with fail
  refine (H34.out _).mono ?_
  rintro e w3 ⟨rfl, h3⟩
  have E4 := Lib.hid (E2.out.call h3)
  clear h3
  go_upto_region 10 with fail
  have E5 : Hid (Env w (w3.alloc (.cells #[.bool na, .string sa] 26)) [(w3.heap.size, 26, #[.bool na, .string sa]), (z, 26, #[.bool nc, .string sc]), (y, 26, #[.bool nb, .string sb]), (x, 26, #[.bool na, .string sa])]) := Lib.hid (by have h := (Env.new E4.out 26 #[.bool na, .string sa]); (try simp only [World.size_alloc] at h); exact h)
  generalize (w3.alloc (.cells #[.bool na, .string sa] 26)) = W5 at E5 ⊢
  by_cases g0 : 0 ≤ n
  · by_cases g1 : n ≤ 99999
    · have hSa := may_sb (n := na) Ha.out
      have ff := shf_fits hSa (by decide) g0 (show n ≤ 100000 by omega)
      obtain ⟨sx, bx, ex, nx, mx⟩ := enc_form ff
      have H22 := Lib.hid (fun W : World => shift_told (w := W) Hma.out hn rfl ff ex)
      have H22b := Lib.hid (fun W : World => shift_told (w := W) (n := -n) mx (by omega) (show shf (num (sx, bx)) (-n) = num (na, sa) by rw [nx]; exact shf_back g0) (hSa.fits (by decide)) (may_num Hma.out))
      clear hSa ff ex nx mx
      go_wp2_with fail
      refine (ok_told (n := 2) (by decide)).mono ?_
      rintro e w6 ⟨rfl, h6⟩
      subst h6
      have E7 := Lib.hid ((Env.other E5.out (.cells #[.int .i64 0, .int .i64 0] 27)))
      have q6_0 : (W5.alloc (.cells #[.int .i64 0, .int .i64 0] 27)).cell? ⟨w3.heap.size, 0, none⟩ = some (.bool na) := (Env.at_ E7.out 0 rfl).cell 0
      have q6_1 : (W5.alloc (.cells #[.int .i64 0, .int .i64 0] 27)).cell? ⟨w3.heap.size, 1, none⟩ = some (.string sa) := (Env.at_ E7.out 0 rfl).cell 1
      have q7_0 : (W5.alloc (.cells #[.int .i64 0, .int .i64 0] 27)).cell? ⟨x, 0, none⟩ = some (.bool na) := (Env.at_ E7.out 3 rfl).cell 0
      have q7_1 : (W5.alloc (.cells #[.int .i64 0, .int .i64 0] 27)).cell? ⟨x, 1, none⟩ = some (.string sa) := (Env.at_ E7.out 3 rfl).cell 1
      have q12_0 : (W5.alloc (.cells #[.int .i64 0, .int .i64 0] 27)).cell? ⟨y, 0, none⟩ = some (.bool nb) := (Env.at_ E7.out 2 rfl).cell 0
      have q12_1 : (W5.alloc (.cells #[.int .i64 0, .int .i64 0] 27)).cell? ⟨y, 1, none⟩ = some (.string sb) := (Env.at_ E7.out 2 rfl).cell 1
      have q13_0 : (W5.alloc (.cells #[.int .i64 0, .int .i64 0] 27)).cell? ⟨z, 0, none⟩ = some (.bool nc) := (Env.at_ E7.out 1 rfl).cell 0
      have q13_1 : (W5.alloc (.cells #[.int .i64 0, .int .i64 0] 27)).cell? ⟨z, 1, none⟩ = some (.string sc) := (Env.at_ E7.out 1 rfl).cell 1
      go_wp2_with fail
      refine (H59.out _).mono ?_
      rintro e w8 ⟨rfl, h8⟩
      have E9 := Lib.hid (E7.out.call h8)
      clear q6_0 q6_1 q7_0 q7_1 q12_0 q12_1 q13_0 q13_1 h8
      go_upto_region 12 with fail
      have q0_0 : w8.cell? ⟨x, 0, none⟩ = some (.bool na) := (Env.at_ E9.out 3 rfl).cell 0
      have q0_1 : w8.cell? ⟨x, 1, none⟩ = some (.string sa) := (Env.at_ E9.out 3 rfl).cell 1
      go_wp2_with fail
      refine (H22.out _).mono ?_
      rintro e w10 ⟨rfl, h10⟩
      have E11 := Lib.hid (E9.out.call h10)
      clear q0_0 q0_1 h10
      go_upto_region 14 with fail
      have E12 : Hid (Env w (w10.alloc (.cells #[.bool sx, .string bx] 26)) [(w10.heap.size, 26, #[.bool sx, .string bx]), (w3.heap.size, 26, #[.bool na, .string sa]), (z, 26, #[.bool nc, .string sc]), (y, 26, #[.bool nb, .string sb]), (x, 26, #[.bool na, .string sa])]) := Lib.hid (by have h := (Env.new E11.out 26 #[.bool sx, .string bx]); (try simp only [World.size_alloc] at h); exact h)
      generalize (w10.alloc (.cells #[.bool sx, .string bx] 26)) = W12 at E12 ⊢
      have q0_0 : W12.cell? ⟨w10.heap.size, 0, none⟩ = some (.bool sx) := (Env.at_ E12.out 0 rfl).cell 0
      have q0_1 : W12.cell? ⟨w10.heap.size, 1, none⟩ = some (.string bx) := (Env.at_ E12.out 0 rfl).cell 1
      go_wp2_with fail
      refine (H22b.out _).mono ?_
      rintro e w13 ⟨rfl, h13⟩
      have E14 := Lib.hid (E12.out.call h13)
      clear q0_0 q0_1 h13
      go_upto_region 15 with fail
      have E15 : Hid (Env w (w13.alloc (.cells #[.bool na, .string sa] 26)) [(w13.heap.size, 26, #[.bool na, .string sa]), (w10.heap.size, 26, #[.bool sx, .string bx]), (w3.heap.size, 26, #[.bool na, .string sa]), (z, 26, #[.bool nc, .string sc]), (y, 26, #[.bool nb, .string sb]), (x, 26, #[.bool na, .string sa])]) := Lib.hid (by have h := (Env.new E14.out 26 #[.bool na, .string sa]); (try simp only [World.size_alloc] at h); exact h)
      generalize (w13.alloc (.cells #[.bool na, .string sa] 26)) = W15 at E15 ⊢
      go_wp2_with fail
      refine (ok_told (n := 2) (by decide)).mono ?_
      rintro e w16 ⟨rfl, h16⟩
      subst h16
      have E17 := Lib.hid ((Env.other E15.out (.cells #[.int .i64 0, .int .i64 0] 27)))
      have q6_0 : (W15.alloc (.cells #[.int .i64 0, .int .i64 0] 27)).cell? ⟨w13.heap.size, 0, none⟩ = some (.bool na) := (Env.at_ E17.out 0 rfl).cell 0
      have q6_1 : (W15.alloc (.cells #[.int .i64 0, .int .i64 0] 27)).cell? ⟨w13.heap.size, 1, none⟩ = some (.string sa) := (Env.at_ E17.out 0 rfl).cell 1
      have q7_0 : (W15.alloc (.cells #[.int .i64 0, .int .i64 0] 27)).cell? ⟨x, 0, none⟩ = some (.bool na) := (Env.at_ E17.out 5 rfl).cell 0
      have q7_1 : (W15.alloc (.cells #[.int .i64 0, .int .i64 0] 27)).cell? ⟨x, 1, none⟩ = some (.string sa) := (Env.at_ E17.out 5 rfl).cell 1
      go_upto_region 17 with fail
      have E18 : Hid (Env w (W15.alloc (.cells #[.int .i64 0, .int .i64 0] 27)) [(w13.heap.size, 26, #[.bool na, .string sa]), (w10.heap.size, 26, #[.bool sx, .string bx]), (w3.heap.size, 26, #[.bool na, .string sa]), (z, 26, #[.bool nc, .string sc]), (y, 26, #[.bool nb, .string sb]), (x, 26, #[.bool na, .string sa])]) := Lib.hid (by have h := E17.out; (try simp only [World.size_alloc] at h); exact h)
      clear q6_0 q6_1 q7_0 q7_1
      generalize (W15.alloc (.cells #[.int .i64 0, .int .i64 0] 27)) = W18 at E18 ⊢
      go_wp2_with fail
      refine (HW.out _).mono ?_
      rintro e w19 ⟨rfl, h19⟩
      have E20 := Lib.hid (E18.out.call h19)
      clear h19
      go_wp2_with fail
      go_ret
      exact ⟨rfl, E20.out.1⟩
    · have g2 : 100000 ≤ n := by omega
      go_wp2_with fail
      refine (ok_told (n := 2) (by decide)).mono ?_
      rintro e w21 ⟨rfl, h21⟩
      subst h21
      have E22 := Lib.hid ((Env.other E5.out (.cells #[.int .i64 0, .int .i64 0] 27)))
      have q6_0 : (W5.alloc (.cells #[.int .i64 0, .int .i64 0] 27)).cell? ⟨w3.heap.size, 0, none⟩ = some (.bool na) := (Env.at_ E22.out 0 rfl).cell 0
      have q6_1 : (W5.alloc (.cells #[.int .i64 0, .int .i64 0] 27)).cell? ⟨w3.heap.size, 1, none⟩ = some (.string sa) := (Env.at_ E22.out 0 rfl).cell 1
      have q7_0 : (W5.alloc (.cells #[.int .i64 0, .int .i64 0] 27)).cell? ⟨x, 0, none⟩ = some (.bool na) := (Env.at_ E22.out 3 rfl).cell 0
      have q7_1 : (W5.alloc (.cells #[.int .i64 0, .int .i64 0] 27)).cell? ⟨x, 1, none⟩ = some (.string sa) := (Env.at_ E22.out 3 rfl).cell 1
      have q12_0 : (W5.alloc (.cells #[.int .i64 0, .int .i64 0] 27)).cell? ⟨y, 0, none⟩ = some (.bool nb) := (Env.at_ E22.out 2 rfl).cell 0
      have q12_1 : (W5.alloc (.cells #[.int .i64 0, .int .i64 0] 27)).cell? ⟨y, 1, none⟩ = some (.string sb) := (Env.at_ E22.out 2 rfl).cell 1
      have q13_0 : (W5.alloc (.cells #[.int .i64 0, .int .i64 0] 27)).cell? ⟨z, 0, none⟩ = some (.bool nc) := (Env.at_ E22.out 1 rfl).cell 0
      have q13_1 : (W5.alloc (.cells #[.int .i64 0, .int .i64 0] 27)).cell? ⟨z, 1, none⟩ = some (.string sc) := (Env.at_ E22.out 1 rfl).cell 1
      go_wp2_with fail
      refine (H59.out _).mono ?_
      rintro e w23 ⟨rfl, h23⟩
      have E24 := Lib.hid (E22.out.call h23)
      clear q6_0 q6_1 q7_0 q7_1 q12_0 q12_1 q13_0 q13_1 h23
      go_upto_region 17 with fail
      go_wp2_with fail
      refine (HW.out _).mono ?_
      rintro e w25 ⟨rfl, h25⟩
      have E26 := Lib.hid (E24.out.call h25)
      clear h25
      go_wp2_with fail
      go_ret
      exact ⟨rfl, E26.out.1⟩
  · have g2 : n < 0 := by omega
    go_wp2_with fail
    refine (ok_told (n := 2) (by decide)).mono ?_
    rintro e w27 ⟨rfl, h27⟩
    subst h27
    have E28 := Lib.hid ((Env.other E5.out (.cells #[.int .i64 0, .int .i64 0] 27)))
    have q6_0 : (W5.alloc (.cells #[.int .i64 0, .int .i64 0] 27)).cell? ⟨w3.heap.size, 0, none⟩ = some (.bool na) := (Env.at_ E28.out 0 rfl).cell 0
    have q6_1 : (W5.alloc (.cells #[.int .i64 0, .int .i64 0] 27)).cell? ⟨w3.heap.size, 1, none⟩ = some (.string sa) := (Env.at_ E28.out 0 rfl).cell 1
    have q7_0 : (W5.alloc (.cells #[.int .i64 0, .int .i64 0] 27)).cell? ⟨x, 0, none⟩ = some (.bool na) := (Env.at_ E28.out 3 rfl).cell 0
    have q7_1 : (W5.alloc (.cells #[.int .i64 0, .int .i64 0] 27)).cell? ⟨x, 1, none⟩ = some (.string sa) := (Env.at_ E28.out 3 rfl).cell 1
    have q12_0 : (W5.alloc (.cells #[.int .i64 0, .int .i64 0] 27)).cell? ⟨y, 0, none⟩ = some (.bool nb) := (Env.at_ E28.out 2 rfl).cell 0
    have q12_1 : (W5.alloc (.cells #[.int .i64 0, .int .i64 0] 27)).cell? ⟨y, 1, none⟩ = some (.string sb) := (Env.at_ E28.out 2 rfl).cell 1
    have q13_0 : (W5.alloc (.cells #[.int .i64 0, .int .i64 0] 27)).cell? ⟨z, 0, none⟩ = some (.bool nc) := (Env.at_ E28.out 1 rfl).cell 0
    have q13_1 : (W5.alloc (.cells #[.int .i64 0, .int .i64 0] 27)).cell? ⟨z, 1, none⟩ = some (.string sc) := (Env.at_ E28.out 1 rfl).cell 1
    go_wp2_with fail
    refine (H59.out _).mono ?_
    rintro e w29 ⟨rfl, h29⟩
    have E30 := Lib.hid (E28.out.call h29)
    clear q6_0 q6_1 q7_0 q7_1 q12_0 q12_1 q13_0 q13_1 h29
    go_upto_region 17 with fail
    go_wp2_with fail
    refine (HW.out _).mono ?_
    rintro e w31 ⟨rfl, h31⟩
    have E32 := Lib.hid (E30.out.call h31)
    clear h31
    go_wp2_with fail
    go_ret
    exact ⟨rfl, E32.out.1⟩
set_option maxRecDepth 100000 in
set_option maxHeartbeats 8000000 in
theorem ring_mid {w wc : World} {x y z : Nat} {na nb nc : Bool} {sa sb sc : ByteArray} {n : Int} {u0 u1 u2 u7 u8 u9 u10 u11 u12 u13 u14 u15 u16 u17 u18 u19 u20 u21 u22 u23 u24 u25 u26 u27 u28 u29 u30 u31 u32 u33 u34 u35 u36 u37 u38 u39 u40 u41 u42 u43 u44 u45 u46 u47 u48 u49 u50 u51 u52 u53 u54 u55 u56 u57 u58 u59 u60 u61 u62 u63 u64 u65 u66 u67 u68 u69 u70 u71 u72 u73 u74 u75 u76 u77 u78 u79 u80 u81 u82 u83 u84 u85 u86 u87 u88 u89 u90 u91 u92 u93 u94 u95 u96 u97 u98 u99 u100 u101 u102 : Value} (hn : -9223372036854775808 ≤ n) (hn2 : n ≤ 9223372036854775807) (E0 : Hid (Env w wc [(z, 26, #[.bool nc, .string sc]), (y, 26, #[.bool nb, .string sb]), (x, 26, #[.bool na, .string sa])])) :
    (codeRest 2 (bodyOf Try.f10)).wp Try.prog (bodyPost Try.prog Try.f10 (fun e w' => e = .returned (.bool true) ∧ Below w.heap.size w w')) ⟨#[u0, u1, u2, .pointer (some ⟨x, 0, none⟩), .pointer (some ⟨y, 0, none⟩), .pointer (some ⟨z, 0, none⟩), .int .i64 n, u7, u8, u9, u10, u11, u12, u13, u14, u15, u16, u17, u18, u19, u20, u21, u22, u23, u24, u25, u26, u27, u28, u29, u30, u31, u32, u33, u34, u35, u36, u37, u38, u39, u40, u41, u42, u43, u44, u45, u46, u47, u48, u49, u50, u51, u52, u53, u54, u55, u56, u57, u58, u59, u60, u61, u62, u63, u64, u65, u66, u67, u68, u69, u70, u71, u72, u73, u74, u75, u76, u77, u78, u79, u80, u81, u82, u83, u84, u85, u86, u87, u88, u89, u90, u91, u92, u93, u94, u95, u96, u97, u98, u99, u100, u101, u102], []⟩ wc := by
  conv => enter [2]; dsimp only [codeRest, bodyOf, Try.f10, Option.getD_some]
  have HW := Lib.hid (fun W : World => works_any (w := W))
  have HN := Lib.hid (fun (W : World) (n : Int) => num_any (w := W) (n := n))
  have Hr := Lib.hid (blk_three (w := wc) (na, sa) (nb, sb) (nc, sc))
  have E1 := Lib.hid (Env.other E0.out (.cells #[.bool na, .string sa, .bool nb, .string sb, .bool nc, .string sc] 26))
  have q0 := (Env.at_ E0.out 2 rfl).cell 0
  have q1 := (Env.at_ E0.out 2 rfl).cell 1
  have r0 := (Env.at_ E0.out 1 rfl).cell 0
  have r1 := (Env.at_ E0.out 1 rfl).cell 1
  have s0 := (Env.at_ E0.out 0 rfl).cell 0
  have s1 := (Env.at_ E0.out 0 rfl).cell 1
  simp at q0 q1 r0 r1 s0 s1
  go_upto_block 0 with fail
  clear q0 q1 r0 r1 s0 s1
  have Hsz := Lib.hid (show wc.heap.size + 1 ≤ (wc.alloc (.cells #[.bool na, .string sa, .bool nb, .string sb, .bool nc, .string sc] 26)).heap.size by simp)
  obtain ⟨l, hl⟩ : ∃ l, l = [(na, sa), (nb, sb), (nc, sc)] := ⟨_, rfl⟩
  rw [← hl] at Hr
  generalize (wc.alloc (.cells #[.bool na, .string sa, .bool nb, .string sb, .bool nc, .string sc] 26)) = W1 at *
  obtain ⟨ad0, hA⟩ : ∃ a : Addr, a = ⟨wc.heap.size, 0, none⟩ := ⟨_, rfl⟩
  rw [← hA] at Hr ⊢
  clear hA
  have Hl := Lib.hid hl
  have Hll := Lib.hid (show l.length = 3 by rw [hl]; rfl)
  clear hl
  go_cut [] (fun wx => Env w wx [(z, 26, #[.bool nc, .string sc]), (y, 26, #[.bool nb, .string sb]), (x, 26, #[.bool na, .string sa])] ∧ ∀ a ∈ [(na, sa), (nb, sb), (nc, sc)], a.2.size ≤ 400 ∧ MayL a.1 a.2.data.toList)
  case rest =>
    go_step
    exact ring_rest3 (Lib.hid hcut.2) hn hn2 (Lib.hid hcut.1)
  case first =>
  go_wp2_with fail
  go_loopg [30] 3 (fun k iv wr => ∃ (i : Nat), iv = .int .i64 (i : Int) ∧ k = 3 - i ∧ i ≤ 3 ∧ Below W1.heap.size W1 wr ∧ Hid (∀ a ∈ l.take i, a.2.size ≤ 400 ∧ MayL a.1 a.2.data.toList))
  case atStart => exact ⟨0, rfl, rfl, by omega, Below.refl _ _, Lib.hid (by rw [List.take_zero]; exact fun a h => by cases h)⟩
  case round =>
    obtain ⟨i, rfl, hk, hi, hbel, ht⟩ := hrel
    have Hk := Lib.hid hk
    clear hk
    by_cases hin : i < 3
    · have hil : i < l.length := by rw [Hll.out]; exact hin
      obtain ⟨ad, had, hb1, c0, c1⟩ := ReadsWh.at_ (Reads.below Hr.out (hbel.mono Hsz.out)) hil
      injection had with had
      subst had
      have hii : (i : Int) < 3 := by omega
      have Htk := Lib.hid (fun (h : (l[i]).2.size ≤ 400 ∧ MayL (l[i]).1 (l[i]).2.data.toList) => show ∀ a ∈ l.take (i + 1), a.2.size ≤ 400 ∧ MayL a.1 a.2.data.toList from fun a ha => by
        rw [List.take_succ_eq_append_getElem hil] at ha
        rcases List.mem_append.1 ha with ha | ha
        · exact ht.out a ha
        · rw [List.mem_singleton.1 ha]; exact h)
      generalize l[i] = a at c0 c1 Htk
      obtain ⟨nk, sk⟩ := a
      dsimp only at c0 c1
      clear hb1 hil
      have Hb2 := Lib.hid (E1.out.call hbel)
      have Hb3 := Lib.hid (hbel.alloc hbel.size (.cells #[.bool nk, .string sk] 26))
      have Hb4 := Lib.hid (Env.other Hb2.out (.cells #[.bool nk, .string sk] 26))
      clear hbel
      go_upto_region 5 with fail
      have d0 : (wr.alloc (.cells #[.bool nk, .string sk] 26)).cell? ⟨wr.heap.size, 0, none⟩ = some (.bool nk) := (Blk.new wr 26 #[.bool nk, .string sk]).cell 0
      have d1 : (wr.alloc (.cells #[.bool nk, .string sk] 26)).cell? ⟨wr.heap.size, 1, none⟩ = some (.string sk) := (Blk.new wr 26 #[.bool nk, .string sk]).cell 1
      clear c0 c1
      generalize (wr.alloc (.cells #[.bool nk, .string sk] 26)) = W2 at *
      by_cases h4 : 400 < sk.size
      · have d4 : decide ((400 : Int) < (sk.size : Int)) = true := decide_eq_true (by omega)
        clear Htk
        go_wp2_with fail
        refine (HW.out _).mono ?_
        rintro e w7 ⟨rfl, h7⟩
        go_wp2_with fail
        go_ret
        exact ⟨rfl, (Hb4.out.call h7).1⟩
      · have d4 : decide ((400 : Int) < (sk.size : Int)) = false := decide_eq_false (by omega)
        have H4 := Lib.hid h4
        by_cases hm : MayL nk sk.data.toList
        · have HC := Lib.hid (fun W : World => check_ok (w := W) hm)
          have Hm := Lib.hid hm
          clear h4 hm
          go_wp2_with fail
          refine (HC.out _).mono ?_
          rintro e w6 ⟨rfl, h6⟩
          have hb6 := Hb3.out.trans (h6.mono Hb3.out.size)
          go_wp2_with fail
          refine (HN.out _ 0).mono ?_
          rintro e w7 ⟨rfl, rfl⟩
          go_wp2_with fail
          go_roundg (3 - (i + 1))
          case measure => have := Hk.out; omega
          case rel => exact ⟨i + 1, rfl, rfl, by omega, hb6, Lib.hid (Htk.out ⟨by have := H4.out; omega, Hm.out⟩)⟩
        · have HC := Lib.hid (fun W : World => check_no (w := W) hm)
          clear h4 hm Htk
          go_wp2_with fail
          refine (HC.out _).mono ?_
          rintro e w6 ⟨rfl, h6⟩
          have hb6 := Lib.hid (Hb4.out.call h6)
          clear h6 d0 d1
          go_wp2_with fail
          refine (HN.out _ 2).mono ?_
          rintro e w7 ⟨rfl, rfl⟩
          go_wp2_with fail
          refine (HW.out _).mono ?_
          rintro e w8 ⟨rfl, h8⟩
          go_wp2_with fail
          go_ret
          exact ⟨rfl, (hb6.out.call h8).1⟩
    · have hii : (3 : Int) ≤ (i : Int) := by omega
      have hall : ∀ a ∈ l, a.2.size ≤ 400 ∧ MayL a.1 a.2.data.toList := by
        have h1 := ht.out
        rw [show i = l.length by have := Hll.out; omega, List.take_length] at h1
        exact h1
      rw [Hl.out] at hall
      go_wp2_with fail
      go_meet
      case rel => exact ⟨E1.out.call hbel, hall⟩
set_option maxRecDepth 100000 in
set_option maxHeartbeats 8000000 in
theorem ring_any {w : World} {na nb nc : Bool} {sa sb sc : ByteArray} {n : Int} (hn : -9223372036854775808 ≤ n) (hn2 : n ≤ 9223372036854775807) :
    Calls Try.prog 10 #[.agg #[.bool na, .string sa, .bool nb, .string sb, .bool nc, .string sc, .int .i64 n]] w (fun e w' => e = .returned (.bool true) ∧ Below w.heap.size w w') := by
  have E0 := Lib.hid (Env.nil w)
  go_enter Try.func10, Try.ntmps10
  go_upto_region 0 with fail
  go_upto_region 1 with fail
  have E1 : Hid (Env w (w.alloc (.cells #[.bool na, .string sa, .bool nb, .string sb, .bool nc, .string sc, .int .i64 n] 71)) [(w.heap.size, 71, #[.bool na, .string sa, .bool nb, .string sb, .bool nc, .string sc, .int .i64 n])]) := Lib.hid (by have h := (Env.new E0.out 71 #[.bool na, .string sa, .bool nb, .string sb, .bool nc, .string sc, .int .i64 n]); (try simp only [World.size_alloc] at h); exact h)
  generalize (w.alloc (.cells #[.bool na, .string sa, .bool nb, .string sb, .bool nc, .string sc, .int .i64 n] 71)) = W1 at E1 ⊢
  go_cut [3, 4, 5, 6] (fun a b c d wx => ∃ x y z, a = .pointer (some ⟨x, 0, none⟩) ∧ b = .pointer (some ⟨y, 0, none⟩) ∧ c = .pointer (some ⟨z, 0, none⟩) ∧ d = .int .i64 n ∧ Env w wx [(z, 26, #[.bool nc, .string sc]), (y, 26, #[.bool nb, .string sb]), (x, 26, #[.bool na, .string sa])])
  case rest =>
    obtain ⟨x, y, z, rfl, rfl, rfl, rfl, hE⟩ := hcut
    go_step
    exact ring_mid hn hn2 (Lib.hid hE)
  case first =>
  refine wp_region_noPanic ?_
  refine wp_region_HK (fun w' => Env w w' [(w.heap.size, 71, #[.bool na, .string sa, .bool nb, .string sb, .bool nc, .string sc, .int .i64 n])]) 15 (by kernel_rfl) (Env.drew E1.out) (fun hHeld => ?_)
  refine wpHK_pure (i := 0) (oi := Oper.mk (some 17) _ _ _ _ _) (v := ?_) rfl (by kernel_rfl) (by kernel_rfl) (by kernel_rfl) (fun _ _ _ h => h) (Or.inl ⟨by rfl, ?_⟩) ?_
  rotate_left
  · (intro w' _; go_simp; try with_reducible rfl)
  try simp only [Act.put, List.setIfInBounds_toArray, List.set_cons_zero, List.set_cons_succ]
  refine wpHK_take (i := 1) (oi := Oper.mk (some 18) _ _ _ _ _) (v := ?_) rfl (by kernel_rfl) (by kernel_rfl) (by kernel_rfl) (by kernel_rfl) (fun _ _ _ h => h) (Or.inl ⟨by rfl, ?_⟩) (by assumption) ?_
  rotate_left
  · (intro w' hSw; (try dsimp only at hSw); have a0 : w'.cell? ⟨w.heap.size, 0, none⟩ = some (.bool na) := (Env.at_ hSw 0 rfl).cell 0; have a1 : w'.cell? ⟨w.heap.size, 1, none⟩ = some (.string sa) := (Env.at_ hSw 0 rfl).cell 1; go_simp; try with_reducible rfl)
  try simp only [Act.put, List.setIfInBounds_toArray, List.set_cons_zero, List.set_cons_succ]
  refine wpHK_pure (i := 2) (oi := Oper.mk (some 19) _ _ _ _ _) (v := ?_) rfl (by kernel_rfl) (by kernel_rfl) (by kernel_rfl) (fun _ _ _ h => h) (Or.inl ⟨by rfl, ?_⟩) ?_
  rotate_left
  · (intro w' _; go_simp; try with_reducible rfl)
  try simp only [Act.put, List.setIfInBounds_toArray, List.set_cons_zero, List.set_cons_succ]
  refine wpHK_take (i := 3) (oi := Oper.mk (some 20) _ _ _ _ _) (v := ?_) rfl (by kernel_rfl) (by kernel_rfl) (by kernel_rfl) (by kernel_rfl) (fun _ _ _ h => h) (Or.inl ⟨by rfl, ?_⟩) (by assumption) ?_
  rotate_left
  · (intro w' hSw; (try dsimp only at hSw); have a2 : w'.cell? ⟨w.heap.size, 2, none⟩ = some (.bool nb) := (Env.at_ hSw 0 rfl).cell 2; have a3 : w'.cell? ⟨w.heap.size, 3, none⟩ = some (.string sb) := (Env.at_ hSw 0 rfl).cell 3; go_simp; try with_reducible rfl)
  try simp only [Act.put, List.setIfInBounds_toArray, List.set_cons_zero, List.set_cons_succ]
  refine wpHK_pure (i := 4) (oi := Oper.mk (some 21) _ _ _ _ _) (v := ?_) rfl (by kernel_rfl) (by kernel_rfl) (by kernel_rfl) (fun _ _ _ h => h) (Or.inl ⟨by rfl, ?_⟩) ?_
  rotate_left
  · (intro w' _; go_simp; try with_reducible rfl)
  try simp only [Act.put, List.setIfInBounds_toArray, List.set_cons_zero, List.set_cons_succ]
  refine wpHK_take (i := 5) (oi := Oper.mk (some 22) _ _ _ _ _) (v := ?_) rfl (by kernel_rfl) (by kernel_rfl) (by kernel_rfl) (by kernel_rfl) (fun _ _ _ h => h) (Or.inl ⟨by rfl, ?_⟩) (by assumption) ?_
  rotate_left
  · (intro w' hSw; (try dsimp only at hSw); have a4 : w'.cell? ⟨w.heap.size, 4, none⟩ = some (.bool nc) := (Env.at_ hSw 0 rfl).cell 4; have a5 : w'.cell? ⟨w.heap.size, 5, none⟩ = some (.string sc) := (Env.at_ hSw 0 rfl).cell 5; go_simp; try with_reducible rfl)
  try simp only [Act.put, List.setIfInBounds_toArray, List.set_cons_zero, List.set_cons_succ]
  refine wpHK_pure (i := 6) (oi := Oper.mk (some 23) _ _ _ _ _) (v := ?_) rfl (by kernel_rfl) (by kernel_rfl) (by kernel_rfl) (fun _ _ _ h => h) (Or.inl ⟨by rfl, ?_⟩) ?_
  rotate_left
  · (intro w' _; go_simp; try with_reducible rfl)
  try simp only [Act.put, List.setIfInBounds_toArray, List.set_cons_zero, List.set_cons_succ]
  refine wpHK_take (i := 7) (oi := Oper.mk (some 24) _ _ _ _ _) (v := ?_) rfl (by kernel_rfl) (by kernel_rfl) (by kernel_rfl) (by kernel_rfl) (fun _ _ _ h => h) (Or.inl ⟨by rfl, ?_⟩) (by assumption) ?_
  rotate_left
  · (intro w' hSw; (try dsimp only at hSw); have a6 : w'.cell? ⟨w.heap.size, 6, none⟩ = some (.int .i64 n) := (Env.at_ hSw 0 rfl).cell 6; go_simp; try with_reducible rfl)
  try simp only [Act.put, List.setIfInBounds_toArray, List.set_cons_zero, List.set_cons_succ]
  refine wpHK_three (i := 8) (j := 9) (l := 10) (oi := Oper.mk (some 3) _ _ _ _ _) (oj := Oper.mk (some 4) _ _ _ _ _) (ol := Oper.mk (some 5) _ _ _ _ _) rfl rfl rfl (by kernel_rfl) (fun K hK => ?_) (fun K hK => ?_) (fun K hK => ?_)
  · go_simp
    refine hK.out _ _ (Env.other hHeld (.cells #[.bool false, .string ⟨#[]⟩] 26)) (fun _ => ?_)
    clear hK K
    have hHeld := Env.other hHeld (.cells #[.bool false, .string ⟨#[]⟩] 26)
    try simp only [Act.put, List.setIfInBounds_toArray, List.set_cons_zero, List.set_cons_succ]
    refine wpHK_two (i := 9) (j := 10) (oi := Oper.mk (some 4) _ _ _ _ _) (oj := Oper.mk (some 5) _ _ _ _ _) rfl rfl (by kernel_rfl) (fun K hK => ?_) (fun K hK => ?_)
    · go_simp
      refine hK.out _ _ (Env.other hHeld (.cells #[.bool false, .string ⟨#[]⟩] 26)) (fun _ => ?_)
      clear hK K
      have hHeld := Env.other hHeld (.cells #[.bool false, .string ⟨#[]⟩] 26)
      try simp only [Act.put, List.setIfInBounds_toArray, List.set_cons_zero, List.set_cons_succ]
      refine wpHK_one (j := 10) (o := Oper.mk (some 5) _ _ _ _ _) rfl (by kernel_rfl) (fun K hK => ?_)
      go_simp
      refine hK.out _ _ (Env.other hHeld (.cells #[.bool false, .string ⟨#[]⟩] 26)) (fun _ => ?_)
      clear hK K
      have hHeld := Env.other hHeld (.cells #[.bool false, .string ⟨#[]⟩] 26)
      try simp only [Act.put, List.setIfInBounds_toArray, List.set_cons_zero, List.set_cons_succ]
      refine wpHK_one (j := 11) (o := Oper.mk (none) _ _ _ _ _) rfl (by kernel_rfl) (fun K hK => ?_)
      go_simp
      refine hK.out _ _ ?_ (fun _ => ?_)
      · exact (Env.other (Env.other (Env.other (Env.drew E1.out) _) _) _)
      clear hK K hHeld
      have hHeld := Lib.hid trivial
      try simp only [Act.put, List.setIfInBounds_toArray, List.set_cons_zero, List.set_cons_succ]
      refine wpHK_one (j := 12) (o := Oper.mk (none) _ _ _ _ _) rfl (by kernel_rfl) (fun K hK => ?_)
      go_simp
      refine hK.out _ _ ?_ (fun _ => ?_)
      · exact (Env.other (Env.other (Env.other (Env.drew E1.out) _) _) _)
      clear hK K hHeld
      have hHeld := Lib.hid trivial
      try simp only [Act.put, List.setIfInBounds_toArray, List.set_cons_zero, List.set_cons_succ]
      refine wpHK_one (j := 13) (o := Oper.mk (none) _ _ _ _ _) rfl (by kernel_rfl) (fun K hK => ?_)
      go_simp
      refine hK.out _ _ ?_ (fun _ => ?_)
      · exact (Env.other (Env.other (Env.other (Env.drew E1.out) _) _) _)
      clear hK K hHeld
      have hHeld := Lib.hid trivial
      try simp only [Act.put, List.setIfInBounds_toArray, List.set_cons_zero, List.set_cons_succ]
      refine wpHK_pure (i := 14) (oi := Oper.mk (some 6) _ _ _ _ _) (v := ?_) rfl (by kernel_rfl) (by kernel_rfl) (by kernel_rfl) (fun _ _ _ h => h) (Or.inl ⟨by rfl, ?_⟩) ?_
      rotate_left
      · (intro w' _; go_simp; try with_reducible rfl)
      try simp only [Act.put, List.setIfInBounds_toArray, List.set_cons_zero, List.set_cons_succ]
      refine wpHK_done (by kernel_rfl) ?_ _
      refine NoPanic.normal ?_
      go_wp2_with fail
      go_meet
      case rel =>
      refine ⟨W1.heap.size, W1.heap.size + 1, W1.heap.size + 1 + 1, rfl, rfl, rfl, rfl, ?_⟩
      have hE := (Env.new (Env.new (Env.new E1.out 26 #[.bool na, .string sa]) 26 #[.bool nb, .string sb]) 26 #[.bool nc, .string sc]).drew
      simp only [World.size_alloc] at hE
      refine Env.sub hE (fun q hq => ?_)
      simp only [List.mem_cons, List.not_mem_nil, or_false] at hq ⊢
      rcases hq with hq | hq | hq <;> simp [hq]
    · go_simp
      refine hK.out _ _ (Env.other hHeld (.cells #[.bool false, .string ⟨#[]⟩] 26)) (fun _ => ?_)
      clear hK K
      have hHeld := Env.other hHeld (.cells #[.bool false, .string ⟨#[]⟩] 26)
      try simp only [Act.put, List.setIfInBounds_toArray, List.set_cons_zero, List.set_cons_succ]
      refine wpHK_one (j := 9) (o := Oper.mk (some 4) _ _ _ _ _) rfl (by kernel_rfl) (fun K hK => ?_)
      go_simp
      refine hK.out _ _ (Env.other hHeld (.cells #[.bool false, .string ⟨#[]⟩] 26)) (fun _ => ?_)
      clear hK K
      have hHeld := Env.other hHeld (.cells #[.bool false, .string ⟨#[]⟩] 26)
      try simp only [Act.put, List.setIfInBounds_toArray, List.set_cons_zero, List.set_cons_succ]
      refine wpHK_one (j := 11) (o := Oper.mk (none) _ _ _ _ _) rfl (by kernel_rfl) (fun K hK => ?_)
      go_simp
      refine hK.out _ _ ?_ (fun _ => ?_)
      · exact (Env.other (Env.other (Env.other (Env.drew E1.out) _) _) _)
      clear hK K hHeld
      have hHeld := Lib.hid trivial
      try simp only [Act.put, List.setIfInBounds_toArray, List.set_cons_zero, List.set_cons_succ]
      refine wpHK_one (j := 12) (o := Oper.mk (none) _ _ _ _ _) rfl (by kernel_rfl) (fun K hK => ?_)
      go_simp
      refine hK.out _ _ ?_ (fun _ => ?_)
      · exact (Env.other (Env.other (Env.other (Env.drew E1.out) _) _) _)
      clear hK K hHeld
      have hHeld := Lib.hid trivial
      try simp only [Act.put, List.setIfInBounds_toArray, List.set_cons_zero, List.set_cons_succ]
      refine wpHK_one (j := 13) (o := Oper.mk (none) _ _ _ _ _) rfl (by kernel_rfl) (fun K hK => ?_)
      go_simp
      refine hK.out _ _ ?_ (fun _ => ?_)
      · exact (Env.other (Env.other (Env.other (Env.drew E1.out) _) _) _)
      clear hK K hHeld
      have hHeld := Lib.hid trivial
      try simp only [Act.put, List.setIfInBounds_toArray, List.set_cons_zero, List.set_cons_succ]
      refine wpHK_pure (i := 14) (oi := Oper.mk (some 6) _ _ _ _ _) (v := ?_) rfl (by kernel_rfl) (by kernel_rfl) (by kernel_rfl) (fun _ _ _ h => h) (Or.inl ⟨by rfl, ?_⟩) ?_
      rotate_left
      · (intro w' _; go_simp; try with_reducible rfl)
      try simp only [Act.put, List.setIfInBounds_toArray, List.set_cons_zero, List.set_cons_succ]
      refine wpHK_done (by kernel_rfl) ?_ _
      refine NoPanic.normal ?_
      go_wp2_with fail
      go_meet
      case rel =>
      refine ⟨W1.heap.size, W1.heap.size + 1 + 1, W1.heap.size + 1, rfl, rfl, rfl, rfl, ?_⟩
      have hE := (Env.new (Env.new (Env.new E1.out 26 #[.bool na, .string sa]) 26 #[.bool nc, .string sc]) 26 #[.bool nb, .string sb]).drew
      simp only [World.size_alloc] at hE
      refine Env.sub hE (fun q hq => ?_)
      simp only [List.mem_cons, List.not_mem_nil, or_false] at hq ⊢
      rcases hq with hq | hq | hq <;> simp [hq]
  · go_simp
    refine hK.out _ _ (Env.other hHeld (.cells #[.bool false, .string ⟨#[]⟩] 26)) (fun _ => ?_)
    clear hK K
    have hHeld := Env.other hHeld (.cells #[.bool false, .string ⟨#[]⟩] 26)
    try simp only [Act.put, List.setIfInBounds_toArray, List.set_cons_zero, List.set_cons_succ]
    refine wpHK_two (i := 8) (j := 10) (oi := Oper.mk (some 3) _ _ _ _ _) (oj := Oper.mk (some 5) _ _ _ _ _) rfl rfl (by kernel_rfl) (fun K hK => ?_) (fun K hK => ?_)
    · go_simp
      refine hK.out _ _ (Env.other hHeld (.cells #[.bool false, .string ⟨#[]⟩] 26)) (fun _ => ?_)
      clear hK K
      have hHeld := Env.other hHeld (.cells #[.bool false, .string ⟨#[]⟩] 26)
      try simp only [Act.put, List.setIfInBounds_toArray, List.set_cons_zero, List.set_cons_succ]
      refine wpHK_one (j := 10) (o := Oper.mk (some 5) _ _ _ _ _) rfl (by kernel_rfl) (fun K hK => ?_)
      go_simp
      refine hK.out _ _ (Env.other hHeld (.cells #[.bool false, .string ⟨#[]⟩] 26)) (fun _ => ?_)
      clear hK K
      have hHeld := Env.other hHeld (.cells #[.bool false, .string ⟨#[]⟩] 26)
      try simp only [Act.put, List.setIfInBounds_toArray, List.set_cons_zero, List.set_cons_succ]
      refine wpHK_one (j := 11) (o := Oper.mk (none) _ _ _ _ _) rfl (by kernel_rfl) (fun K hK => ?_)
      go_simp
      refine hK.out _ _ ?_ (fun _ => ?_)
      · exact (Env.other (Env.other (Env.other (Env.drew E1.out) _) _) _)
      clear hK K hHeld
      have hHeld := Lib.hid trivial
      try simp only [Act.put, List.setIfInBounds_toArray, List.set_cons_zero, List.set_cons_succ]
      refine wpHK_one (j := 12) (o := Oper.mk (none) _ _ _ _ _) rfl (by kernel_rfl) (fun K hK => ?_)
      go_simp
      refine hK.out _ _ ?_ (fun _ => ?_)
      · exact (Env.other (Env.other (Env.other (Env.drew E1.out) _) _) _)
      clear hK K hHeld
      have hHeld := Lib.hid trivial
      try simp only [Act.put, List.setIfInBounds_toArray, List.set_cons_zero, List.set_cons_succ]
      refine wpHK_one (j := 13) (o := Oper.mk (none) _ _ _ _ _) rfl (by kernel_rfl) (fun K hK => ?_)
      go_simp
      refine hK.out _ _ ?_ (fun _ => ?_)
      · exact (Env.other (Env.other (Env.other (Env.drew E1.out) _) _) _)
      clear hK K hHeld
      have hHeld := Lib.hid trivial
      try simp only [Act.put, List.setIfInBounds_toArray, List.set_cons_zero, List.set_cons_succ]
      refine wpHK_pure (i := 14) (oi := Oper.mk (some 6) _ _ _ _ _) (v := ?_) rfl (by kernel_rfl) (by kernel_rfl) (by kernel_rfl) (fun _ _ _ h => h) (Or.inl ⟨by rfl, ?_⟩) ?_
      rotate_left
      · (intro w' _; go_simp; try with_reducible rfl)
      try simp only [Act.put, List.setIfInBounds_toArray, List.set_cons_zero, List.set_cons_succ]
      refine wpHK_done (by kernel_rfl) ?_ _
      refine NoPanic.normal ?_
      go_wp2_with fail
      go_meet
      case rel =>
      refine ⟨W1.heap.size + 1, W1.heap.size, W1.heap.size + 1 + 1, rfl, rfl, rfl, rfl, ?_⟩
      have hE := (Env.new (Env.new (Env.new E1.out 26 #[.bool nb, .string sb]) 26 #[.bool na, .string sa]) 26 #[.bool nc, .string sc]).drew
      simp only [World.size_alloc] at hE
      refine Env.sub hE (fun q hq => ?_)
      simp only [List.mem_cons, List.not_mem_nil, or_false] at hq ⊢
      rcases hq with hq | hq | hq <;> simp [hq]
    · go_simp
      refine hK.out _ _ (Env.other hHeld (.cells #[.bool false, .string ⟨#[]⟩] 26)) (fun _ => ?_)
      clear hK K
      have hHeld := Env.other hHeld (.cells #[.bool false, .string ⟨#[]⟩] 26)
      try simp only [Act.put, List.setIfInBounds_toArray, List.set_cons_zero, List.set_cons_succ]
      refine wpHK_one (j := 8) (o := Oper.mk (some 3) _ _ _ _ _) rfl (by kernel_rfl) (fun K hK => ?_)
      go_simp
      refine hK.out _ _ (Env.other hHeld (.cells #[.bool false, .string ⟨#[]⟩] 26)) (fun _ => ?_)
      clear hK K
      have hHeld := Env.other hHeld (.cells #[.bool false, .string ⟨#[]⟩] 26)
      try simp only [Act.put, List.setIfInBounds_toArray, List.set_cons_zero, List.set_cons_succ]
      refine wpHK_one (j := 11) (o := Oper.mk (none) _ _ _ _ _) rfl (by kernel_rfl) (fun K hK => ?_)
      go_simp
      refine hK.out _ _ ?_ (fun _ => ?_)
      · exact (Env.other (Env.other (Env.other (Env.drew E1.out) _) _) _)
      clear hK K hHeld
      have hHeld := Lib.hid trivial
      try simp only [Act.put, List.setIfInBounds_toArray, List.set_cons_zero, List.set_cons_succ]
      refine wpHK_one (j := 12) (o := Oper.mk (none) _ _ _ _ _) rfl (by kernel_rfl) (fun K hK => ?_)
      go_simp
      refine hK.out _ _ ?_ (fun _ => ?_)
      · exact (Env.other (Env.other (Env.other (Env.drew E1.out) _) _) _)
      clear hK K hHeld
      have hHeld := Lib.hid trivial
      try simp only [Act.put, List.setIfInBounds_toArray, List.set_cons_zero, List.set_cons_succ]
      refine wpHK_one (j := 13) (o := Oper.mk (none) _ _ _ _ _) rfl (by kernel_rfl) (fun K hK => ?_)
      go_simp
      refine hK.out _ _ ?_ (fun _ => ?_)
      · exact (Env.other (Env.other (Env.other (Env.drew E1.out) _) _) _)
      clear hK K hHeld
      have hHeld := Lib.hid trivial
      try simp only [Act.put, List.setIfInBounds_toArray, List.set_cons_zero, List.set_cons_succ]
      refine wpHK_pure (i := 14) (oi := Oper.mk (some 6) _ _ _ _ _) (v := ?_) rfl (by kernel_rfl) (by kernel_rfl) (by kernel_rfl) (fun _ _ _ h => h) (Or.inl ⟨by rfl, ?_⟩) ?_
      rotate_left
      · (intro w' _; go_simp; try with_reducible rfl)
      try simp only [Act.put, List.setIfInBounds_toArray, List.set_cons_zero, List.set_cons_succ]
      refine wpHK_done (by kernel_rfl) ?_ _
      refine NoPanic.normal ?_
      go_wp2_with fail
      go_meet
      case rel =>
      refine ⟨W1.heap.size + 1 + 1, W1.heap.size, W1.heap.size + 1, rfl, rfl, rfl, rfl, ?_⟩
      have hE := (Env.new (Env.new (Env.new E1.out 26 #[.bool nb, .string sb]) 26 #[.bool nc, .string sc]) 26 #[.bool na, .string sa]).drew
      simp only [World.size_alloc] at hE
      refine Env.sub hE (fun q hq => ?_)
      simp only [List.mem_cons, List.not_mem_nil, or_false] at hq ⊢
      rcases hq with hq | hq | hq <;> simp [hq]
  · go_simp
    refine hK.out _ _ (Env.other hHeld (.cells #[.bool false, .string ⟨#[]⟩] 26)) (fun _ => ?_)
    clear hK K
    have hHeld := Env.other hHeld (.cells #[.bool false, .string ⟨#[]⟩] 26)
    try simp only [Act.put, List.setIfInBounds_toArray, List.set_cons_zero, List.set_cons_succ]
    refine wpHK_two (i := 8) (j := 9) (oi := Oper.mk (some 3) _ _ _ _ _) (oj := Oper.mk (some 4) _ _ _ _ _) rfl rfl (by kernel_rfl) (fun K hK => ?_) (fun K hK => ?_)
    · go_simp
      refine hK.out _ _ (Env.other hHeld (.cells #[.bool false, .string ⟨#[]⟩] 26)) (fun _ => ?_)
      clear hK K
      have hHeld := Env.other hHeld (.cells #[.bool false, .string ⟨#[]⟩] 26)
      try simp only [Act.put, List.setIfInBounds_toArray, List.set_cons_zero, List.set_cons_succ]
      refine wpHK_one (j := 9) (o := Oper.mk (some 4) _ _ _ _ _) rfl (by kernel_rfl) (fun K hK => ?_)
      go_simp
      refine hK.out _ _ (Env.other hHeld (.cells #[.bool false, .string ⟨#[]⟩] 26)) (fun _ => ?_)
      clear hK K
      have hHeld := Env.other hHeld (.cells #[.bool false, .string ⟨#[]⟩] 26)
      try simp only [Act.put, List.setIfInBounds_toArray, List.set_cons_zero, List.set_cons_succ]
      refine wpHK_one (j := 11) (o := Oper.mk (none) _ _ _ _ _) rfl (by kernel_rfl) (fun K hK => ?_)
      go_simp
      refine hK.out _ _ ?_ (fun _ => ?_)
      · exact (Env.other (Env.other (Env.other (Env.drew E1.out) _) _) _)
      clear hK K hHeld
      have hHeld := Lib.hid trivial
      try simp only [Act.put, List.setIfInBounds_toArray, List.set_cons_zero, List.set_cons_succ]
      refine wpHK_one (j := 12) (o := Oper.mk (none) _ _ _ _ _) rfl (by kernel_rfl) (fun K hK => ?_)
      go_simp
      refine hK.out _ _ ?_ (fun _ => ?_)
      · exact (Env.other (Env.other (Env.other (Env.drew E1.out) _) _) _)
      clear hK K hHeld
      have hHeld := Lib.hid trivial
      try simp only [Act.put, List.setIfInBounds_toArray, List.set_cons_zero, List.set_cons_succ]
      refine wpHK_one (j := 13) (o := Oper.mk (none) _ _ _ _ _) rfl (by kernel_rfl) (fun K hK => ?_)
      go_simp
      refine hK.out _ _ ?_ (fun _ => ?_)
      · exact (Env.other (Env.other (Env.other (Env.drew E1.out) _) _) _)
      clear hK K hHeld
      have hHeld := Lib.hid trivial
      try simp only [Act.put, List.setIfInBounds_toArray, List.set_cons_zero, List.set_cons_succ]
      refine wpHK_pure (i := 14) (oi := Oper.mk (some 6) _ _ _ _ _) (v := ?_) rfl (by kernel_rfl) (by kernel_rfl) (by kernel_rfl) (fun _ _ _ h => h) (Or.inl ⟨by rfl, ?_⟩) ?_
      rotate_left
      · (intro w' _; go_simp; try with_reducible rfl)
      try simp only [Act.put, List.setIfInBounds_toArray, List.set_cons_zero, List.set_cons_succ]
      refine wpHK_done (by kernel_rfl) ?_ _
      refine NoPanic.normal ?_
      go_wp2_with fail
      go_meet
      case rel =>
      refine ⟨W1.heap.size + 1, W1.heap.size + 1 + 1, W1.heap.size, rfl, rfl, rfl, rfl, ?_⟩
      have hE := (Env.new (Env.new (Env.new E1.out 26 #[.bool nc, .string sc]) 26 #[.bool na, .string sa]) 26 #[.bool nb, .string sb]).drew
      simp only [World.size_alloc] at hE
      refine Env.sub hE (fun q hq => ?_)
      simp only [List.mem_cons, List.not_mem_nil, or_false] at hq ⊢
      rcases hq with hq | hq | hq <;> simp [hq]
    · go_simp
      refine hK.out _ _ (Env.other hHeld (.cells #[.bool false, .string ⟨#[]⟩] 26)) (fun _ => ?_)
      clear hK K
      have hHeld := Env.other hHeld (.cells #[.bool false, .string ⟨#[]⟩] 26)
      try simp only [Act.put, List.setIfInBounds_toArray, List.set_cons_zero, List.set_cons_succ]
      refine wpHK_one (j := 8) (o := Oper.mk (some 3) _ _ _ _ _) rfl (by kernel_rfl) (fun K hK => ?_)
      go_simp
      refine hK.out _ _ (Env.other hHeld (.cells #[.bool false, .string ⟨#[]⟩] 26)) (fun _ => ?_)
      clear hK K
      have hHeld := Env.other hHeld (.cells #[.bool false, .string ⟨#[]⟩] 26)
      try simp only [Act.put, List.setIfInBounds_toArray, List.set_cons_zero, List.set_cons_succ]
      refine wpHK_one (j := 11) (o := Oper.mk (none) _ _ _ _ _) rfl (by kernel_rfl) (fun K hK => ?_)
      go_simp
      refine hK.out _ _ ?_ (fun _ => ?_)
      · exact (Env.other (Env.other (Env.other (Env.drew E1.out) _) _) _)
      clear hK K hHeld
      have hHeld := Lib.hid trivial
      try simp only [Act.put, List.setIfInBounds_toArray, List.set_cons_zero, List.set_cons_succ]
      refine wpHK_one (j := 12) (o := Oper.mk (none) _ _ _ _ _) rfl (by kernel_rfl) (fun K hK => ?_)
      go_simp
      refine hK.out _ _ ?_ (fun _ => ?_)
      · exact (Env.other (Env.other (Env.other (Env.drew E1.out) _) _) _)
      clear hK K hHeld
      have hHeld := Lib.hid trivial
      try simp only [Act.put, List.setIfInBounds_toArray, List.set_cons_zero, List.set_cons_succ]
      refine wpHK_one (j := 13) (o := Oper.mk (none) _ _ _ _ _) rfl (by kernel_rfl) (fun K hK => ?_)
      go_simp
      refine hK.out _ _ ?_ (fun _ => ?_)
      · exact (Env.other (Env.other (Env.other (Env.drew E1.out) _) _) _)
      clear hK K hHeld
      have hHeld := Lib.hid trivial
      try simp only [Act.put, List.setIfInBounds_toArray, List.set_cons_zero, List.set_cons_succ]
      refine wpHK_pure (i := 14) (oi := Oper.mk (some 6) _ _ _ _ _) (v := ?_) rfl (by kernel_rfl) (by kernel_rfl) (by kernel_rfl) (fun _ _ _ h => h) (Or.inl ⟨by rfl, ?_⟩) ?_
      rotate_left
      · (intro w' _; go_simp; try with_reducible rfl)
      try simp only [Act.put, List.setIfInBounds_toArray, List.set_cons_zero, List.set_cons_succ]
      refine wpHK_done (by kernel_rfl) ?_ _
      refine NoPanic.normal ?_
      go_wp2_with fail
      go_meet
      case rel =>
      refine ⟨W1.heap.size + 1 + 1, W1.heap.size + 1, W1.heap.size, rfl, rfl, rfl, rfl, ?_⟩
      have hE := (Env.new (Env.new (Env.new E1.out 26 #[.bool nc, .string sc]) 26 #[.bool nb, .string sb]) 26 #[.bool na, .string sa]).drew
      simp only [World.size_alloc] at hE
      refine Env.sub hE (fun q hq => ?_)
      simp only [List.mem_cons, List.not_mem_nil, or_false] at hq ⊢
      rcases hq with hq | hq | hq <;> simp [hq]
end Go.Proofs.Ytpnginnjbdedbaa

/- The frame of a law's row: what came in reads as it did. -/
namespace Go.Proofs.Ytpnginnjbdedbaa
open Go.ChangeShapes Go.WideShapes Go.ChangeAt Go.RowKit

theorem own : ownKnob Try.prog.godebug = none := by kernel_rfl

theorem trodAll_keep {H : Type} {enc : TypeId × Value → H} {P : Program} (hl : laidOutB P = true) {W W' : World} (hb : Below W.heap.size W W') {sp : Nat → Bool} :
    ∀ (ts : List TypeId) (vs : List Value) (ds : List (DataW H)) (ps : List MemPlace), DataW.TrodAll enc P W 0 (fun _ => true) true ts vs ds ps → (∀ t ∈ ts, P.readableRec t = true ∧ t < P.types.size) →
      (∀ x ∈ ps, x.block < W.heap.size) → (∀ x ∈ ps, sp x.block = true) → DataW.TrodAll enc P W' 0 sp true ts vs ds ps
  | [], vs, ds, ps, h, _, _, _ => by
    obtain ⟨rfl, rfl, rfl⟩ := trodAll_nil h
    exact trodAll_mk0
  | t :: ts, vs, ds, ps, h, ht, hlt, hsp => by
    obtain ⟨v, vs', d, ds', p, q, rfl, rfl, rfl, h0, h1⟩ := trodAll_cons h
    refine trodAll_cons_mk ?_ (trodAll_keep hl hb ts vs' ds' q h1 (fun t' h' => ht t' (List.mem_cons_of_mem _ h')) (fun x hx => hlt x (List.mem_append_right _ hx)) (fun x hx => hsp x (List.mem_append_right _ hx)))
    obtain ⟨hr, hrow⟩ := ht t List.mem_cons_self
    exact WideElems.Trod_stays hl hr hrow h0 (fun x hx => hb.same (hlt x (List.mem_append_left _ hx))) (fun x hx => hsp x (List.mem_append_left _ hx))

theorem laidOut : laidOutB Try.prog = true := by kernel_rfl

set_option maxRecDepth 100000 in
/-- the post of a law that has returned true and written nothing that was there -/
theorem law_post {H : Type} {enc : TypeId × Value → H} {f : Func} {s : ChangeSpec} {W W' : World} {args : Array Value} {ds gs : List (DataW H)} {before : List MemPlace} {bt : TypeId}
    (hW : DataW.Whole enc Try.prog f.params.toList s.vars false W args.toList ds gs before) (hb : Below W.heap.size W W') (hv : s.vars = []) (hrt : f.resultTypes = #[bt]) (hbt : Try.prog.underlying bt = some .bool)
    (hpar : ∀ t ∈ f.params.toList, Try.prog.readableRec t = true ∧ t < Try.prog.types.size)
    (hres : (s.fn H (ds ++ gs)).results = [.lit (.bool true)]) (hargs : (s.fn H (ds ++ gs)).args = ds) (hvs : (s.fn H (ds ++ gs)).vars = []) :
    s.post enc Try.prog f false true false false W args (.bool true) W' := by
  have hlt : ∀ p ∈ before, p.block < W.heap.size := fun p hp => hW.lt p hp
  have hW' := hW
  obtain ⟨p, q, hA, hV, rfl, hfz, hnd⟩ := hW
  have hq : q = [] := by
    rw [hv] at hV
    exact (trodVars_none hV).2
  subst hq
  refine post_of_below (pa := p) (pv := []) hW' (fun _ _ _ => ?_) (fun sp hsp => ?_) (fun sp hsp => ?_) rfl hb ?_
  · rw [hres, hrt]
    exact trodAll_cons_mk (shut_bool hbt _) trodAll_mk0
  · rw [hargs]
    exact trodAll_keep laidOut hb _ _ _ _ hA hpar (fun x hx => hlt x (List.mem_append_left _ hx)) (fun x hx => hsp x (List.mem_append_left _ hx))
  · rw [hv, hvs]
    rfl
  · exact ok_one hrt rfl (okWide_bool_mk hbt _)
end Go.Proofs.Ytpnginnjbdedbaa

/- Arguments opened: a whole number. -/
namespace Go.Proofs.Ytpnginnjbdedbaa.Opened
open Go.ChangeShapes Go.WideShapes Go.ChangeAt Go.RowKit

section
variable {H : Type} {enc : TypeId × Value → H} {w : World} {base fuel : Nat} {spare : Nat → Bool} {held : Bool}
theorem c26 : Try.prog.cellsOf 26 = 2 := by kernel_rfl
theorem c9 : Try.prog.cellsOf 9 = 1 := by kernel_rfl
theorem c4 : Try.prog.cellsOf 4 = 1 := by kernel_rfl
set_option maxRecDepth 100000 in
theorem open_whole {cs : List Value} {x : DataW H × List MemPlace} (h : DataW.trod enc Try.prog w base spare held fuel 26 cs = some x) :
    ∃ (b : Bool) (s : ByteArray), cs = [.bool b, .string s] ∧ x.1 = .agg [.lit (.bool b), .lit (.string s.data.toList)] := by
  obtain ⟨xs, n, _, rfl, hl, hx, hf⟩ := DataW.trod_struct Try.underlying26 h
  rw [c26] at hl
  match cs, hl, xs, hx with
  | [d0, d1], _, [x0, x1], _ =>
    have h0 : DataW.trod enc Try.prog w base spare held n 4 ((List.drop 0 [d0, d1]).take (Try.prog.cellsOf 4)) = some x0 := hf 0 _ rfl
    have h1 : DataW.trod enc Try.prog w base spare held n 9 ((List.drop 1 [d0, d1]).take (Try.prog.cellsOf 9)) = some x1 := hf 1 _ rfl
    rw [c4] at h0
    rw [c9] at h1
    obtain ⟨b, hb, hx0⟩ := DataW.trod_bool Try.underlying4 h0
    obtain ⟨s, hs, hx1, _⟩ := DataW.trod_string Try.underlying9 h1
    simp only [List.drop, List.take, List.cons.injEq, and_true] at hb hs
    subst hb hs hx0 hx1
    exact ⟨b, s, rfl, rfl⟩
set_option maxRecDepth 100000 in
/-- an argument that is a whole number -/
theorem open_arg {W : World} {b0 : Nat} {v : Value} {d : DataW H} {p : List MemPlace} {P0 : Nat → Bool} (hval : Value.okWide Try.prog W .any b0 26 v) (h : DataW.Trod enc Try.prog W 0 P0 true 26 v d p) :
    ∃ (b : Bool) (s : ByteArray), v = .agg #[.bool b, .string s] ∧ d = .agg [.lit (.bool b), .lit (.string s.data.toList)] := by
  obtain ⟨cs, rfl, hsz⟩ := okWide_struct Try.underlying26 hval
  obtain ⟨fuel, hf⟩ := h
  obtain ⟨b, s, hcs, hd⟩ := open_whole hf
  have ecs : cs = #[.bool b, .string s] := by
    have : cs.toList = _ := hcs
    rw [← Array.toArray_toList (xs := cs), this]
  exact ⟨b, s, by rw [ecs], hd⟩
/-- an argument that is a text -/
theorem open_str {P : Program} {r : Reach} {b0 : Nat} {t : TypeId} {v : Value} {d : DataW H} {ps : List MemPlace} (ht : P.underlying t = some .string) (hval : Value.okWide P w r b0 t v) (hd : DataW.Trod enc P w base spare held t v d ps) :
    ∃ s : ByteArray, v = .string s ∧ d = .lit (.string s.data.toList) ∧ ps = [] := by
  obtain ⟨s, rfl⟩ := okWide_string ht hval
  obtain ⟨fuel, hf⟩ := hd
  obtain ⟨s', h, hx, _⟩ := DataW.trod_string ht hf
  simp [Value.cells] at h
  subst h
  simp only [Prod.mk.injEq] at hx
  exact ⟨s, rfl, hx.1, hx.2⟩
end
end Go.Proofs.Ytpnginnjbdedbaa.Opened
