import Derived.Test.YtpnginnjbdedbaaC7
import Derived.Test.YtpnginnjbdedbaaC2
import Derived.Test.YtpnginnjbdedbaaC1
import Derived.Deep.CutRange
import Derived.Deep.CutBlock
/- The reference's Plus, Minus, Times, Cmp (printed by gen_rops.py). -/
namespace Go.Proofs.Ytpnginnjbdedbaa
open Go.RowKit
open Wh
set_option linter.unusedSimpArgs false

theorem Env.set_ {w0 W : World} {l : List (Nat × TypeId × Array Value)} (h : Env w0 W l) {g j : Nat} (v : Value) (hg : w0.heap.size ≤ g) (hne : ∀ x ∈ l, x.1 ≠ g) : Env w0 (W.setCell ⟨g, j, none⟩ v) l :=
  ⟨h.1.setCell hg _, fun x hx => (h.2 x hx).far (p := ⟨g, j, none⟩) (hne x hx) v⟩
theorem len_sumN {a b p : Nat} (ha : (wds a).length ≤ p) (hb : (wds b).length ≤ p) : (wds (a + b)).length ≤ p + 1 := by
  refine len_wds ?_
  have h1 := lt_of_len ha
  have h2 := lt_of_len hb
  rw [Nat.pow_succ]
  have : 0 < 4294967296 ^ p := Nat.pow_pos (by decide)
  omega
theorem sgn_mulB {na nb : Bool} {a b : Nat} : sgn (na != nb) (a * b) = sgn na a * sgn nb b := by
  unfold sgn
  cases na <;> cases nb <;> simp [Int.neg_mul, Int.mul_neg]
theorem sgn_add {n : Bool} {a b : Nat} : sgn n (a + b) = sgn n a + sgn n b := by
  unfold sgn
  cases n <;> simp <;> omega
theorem sgn_sub {na nb : Bool} {a b : Nat} (h : na ≠ nb) (hle : b ≤ a) : sgn na (a - b) = sgn na a + sgn nb b := by
  unfold sgn
  cases na <;> cases nb <;> simp at h ⊢ <;> omega
theorem sgn_sub' {na nb : Bool} {a b : Nat} (h : na ≠ nb) (hle : a ≤ b) : sgn nb (b - a) = sgn na a + sgn nb b := by
  rw [sgn_sub (fun h0 => h h0.symm) hle, Int.add_comm]
set_option maxRecDepth 100000 in
set_option maxHeartbeats 4000000 in
theorem rtimes_any {w : World} {na nb : Bool} {sa sb : ByteArray} (ha : Fmd sa) (hb : Fmd sb) :
    Calls Try.prog 32 #[.agg #[.bool na, .string sa], .agg #[.bool nb, .string sb]] w (Calm w (enc (num (na, sa) * num (nb, sb)))) := by
  obtain ⟨zs, zb, ez⟩ : ∃ s b, enc (num (na, sa) * num (nb, sb)) = .agg #[.bool s, .string b] := ⟨_, _, rfl⟩
  have HA := Lib.hid (fun W : World => words_any (w := W) (by have := ha.2; omega) ha.1)
  have HB := Lib.hid (fun W : World => words_any (w := W) (by have := hb.2; omega) hb.1)
  have Hla := Lib.hid (And.intro ha.len hb.len)
  have Hab := Lib.hid (And.intro ha hb)
  obtain ⟨a, hae⟩ : ∃ a, a = bval sa.data.toList := ⟨_, rfl⟩
  obtain ⟨b, hbe⟩ : ∃ b, b = bval sb.data.toList := ⟨_, rfl⟩
  rw [← hae] at HA
  rw [← hbe] at HB
  rw [← hae, ← hbe] at Hla
  have Hnum := Lib.hid (show num (na, sa) = sgn na a ∧ num (nb, sb) = sgn nb b from ⟨by rw [hae]; rfl, by rw [hbe]; rfl⟩)
  (try rw [← hae, ← hbe])
  clear hae hbe ha hb
  have E0 := Lib.hid (Env.nil w)
  go_enter Try.func32, Try.ntmps32
  go_upto_region 1 with fail
  have E1 : Hid (Env w (((w.alloc (.cells #[.bool na, .string sa] 26)).alloc (.cells #[.bool nb, .string sb] 26)).alloc (.cells #[.bool false, .string ⟨#[]⟩] 26)) [(w.heap.size + 1 + 1, 26, #[.bool false, .string ⟨#[]⟩]), (w.heap.size + 1, 26, #[.bool nb, .string sb]), (w.heap.size, 26, #[.bool na, .string sa])]) := Lib.hid (by have h := (Env.new (Env.new (Env.new E0.out 26 #[.bool na, .string sa]) 26 #[.bool nb, .string sb]) 26 #[.bool false, .string ⟨#[]⟩]); (try simp only [World.size_alloc] at h); exact h)
  generalize (((w.alloc (.cells #[.bool na, .string sa] 26)).alloc (.cells #[.bool nb, .string sb] 26)).alloc (.cells #[.bool false, .string ⟨#[]⟩] 26)) = W1 at E1 ⊢
  have Cf1 := Lib.hid (fun (W : World) (h : Env w W [(w.heap.size + 1 + 1, 26, #[.bool false, .string ⟨#[]⟩]), (w.heap.size + 1, 26, #[.bool nb, .string sb]), (w.heap.size, 26, #[.bool na, .string sa])]) => (show W.cell? ⟨w.heap.size, 0, none⟩ = some (.bool na) ∧ W.cell? ⟨w.heap.size, 1, none⟩ = some (.string sa) ∧ W.cell? ⟨w.heap.size + 1, 0, none⟩ = some (.bool nb) ∧ W.cell? ⟨w.heap.size + 1, 1, none⟩ = some (.string sb) from ⟨(Env.at_ h 2 rfl).cell 0, (Env.at_ h 2 rfl).cell 1, (Env.at_ h 1 rfl).cell 0, (Env.at_ h 1 rfl).cell 1⟩))
  refine wp_region_noPanic ?_
  refine wp_region_HK (fun w' => w'.cell? ⟨w.heap.size, 0, none⟩ = some (.bool na) ∧ w'.cell? ⟨w.heap.size, 1, none⟩ = some (.string sa) ∧ w'.cell? ⟨w.heap.size + 1, 0, none⟩ = some (.bool nb) ∧ w'.cell? ⟨w.heap.size + 1, 1, none⟩ = some (.string sb)) 13 (by kernel_rfl) (Cf1.out _ E1.out.drew) (fun hHeld => ?_)
  refine wpHK_pure (i := 0) (oi := Oper.mk (some 5) _ _ _ _ _) (v := ?_) rfl (by kernel_rfl) (by kernel_rfl) (by kernel_rfl) (fun _ _ _ h => h) (Or.inl ⟨by rfl, ?_⟩) ?_
  rotate_left
  · (intro w' _; go_simp; try with_reducible rfl)
  try simp only [Act.put, List.setIfInBounds_toArray, List.set_cons_zero, List.set_cons_succ]
  refine wpHK_pure (i := 2) (oi := Oper.mk (some 7) _ _ _ _ _) (v := ?_) rfl (by kernel_rfl) (by kernel_rfl) (by kernel_rfl) (fun _ _ _ h => h) (Or.inl ⟨by rfl, ?_⟩) ?_
  rotate_left
  · (intro w' _; go_simp; try with_reducible rfl)
  try simp only [Act.put, List.setIfInBounds_toArray, List.set_cons_zero, List.set_cons_succ]
  refine wpHK_pure (i := 5) (oi := Oper.mk (some 10) _ _ _ _ _) (v := ?_) rfl (by kernel_rfl) (by kernel_rfl) (by kernel_rfl) (fun _ _ _ h => h) (Or.inl ⟨by rfl, ?_⟩) ?_
  rotate_left
  · (intro w' _; go_simp; try with_reducible rfl)
  try simp only [Act.put, List.setIfInBounds_toArray, List.set_cons_zero, List.set_cons_succ]
  refine wpHK_pure (i := 8) (oi := Oper.mk (some 13) _ _ _ _ _) (v := ?_) rfl (by kernel_rfl) (by kernel_rfl) (by kernel_rfl) (fun _ _ _ h => h) (Or.inl ⟨by rfl, ?_⟩) ?_
  rotate_left
  · (intro w' _; go_simp; try with_reducible rfl)
  try simp only [Act.put, List.setIfInBounds_toArray, List.set_cons_zero, List.set_cons_succ]
  refine wpHK_take (i := 1) (oi := Oper.mk (some 6) _ _ _ _ _) (v := ?_) rfl (by kernel_rfl) (by kernel_rfl) (by kernel_rfl) (by kernel_rfl) (fun _ _ _ h => h) (Or.inl ⟨by rfl, ?_⟩) (by assumption) ?_
  rotate_left
  · (intro w' hSw; (try dsimp only at hSw); (obtain ⟨s0, s1, s2, s3⟩ := hSw); go_simp; try with_reducible rfl)
  try simp only [Act.put, List.setIfInBounds_toArray, List.set_cons_zero, List.set_cons_succ]
  refine wpHK_take (i := 3) (oi := Oper.mk (some 8) _ _ _ _ _) (v := ?_) rfl (by kernel_rfl) (by kernel_rfl) (by kernel_rfl) (by kernel_rfl) (fun _ _ _ h => h) (Or.inl ⟨by rfl, ?_⟩) (by assumption) ?_
  rotate_left
  · (intro w' hSw; (try dsimp only at hSw); (obtain ⟨s0, s1, s2, s3⟩ := hSw); go_simp; try with_reducible rfl)
  try simp only [Act.put, List.setIfInBounds_toArray, List.set_cons_zero, List.set_cons_succ]
  refine wpHK_pure (i := 4) (oi := Oper.mk (some 9) _ _ _ _ _) (v := ?_) rfl (by kernel_rfl) (by kernel_rfl) (by kernel_rfl) (fun _ _ _ h => h) (Or.inl ⟨by rfl, ?_⟩) ?_
  rotate_left
  · (intro w' _; go_simp; try with_reducible rfl)
  try simp only [Act.put, List.setIfInBounds_toArray, List.set_cons_zero, List.set_cons_succ]
  refine wpHK_take (i := 6) (oi := Oper.mk (some 11) _ _ _ _ _) (v := ?_) rfl (by kernel_rfl) (by kernel_rfl) (by kernel_rfl) (by kernel_rfl) (fun _ _ _ h => h) (Or.inl ⟨by rfl, ?_⟩) (by assumption) ?_
  rotate_left
  · (intro w' hSw; (try dsimp only at hSw); (obtain ⟨s0, s1, s2, s3⟩ := hSw); go_simp; try with_reducible rfl)
  try simp only [Act.put, List.setIfInBounds_toArray, List.set_cons_zero, List.set_cons_succ]
  refine wpHK_take (i := 9) (oi := Oper.mk (some 14) _ _ _ _ _) (v := ?_) rfl (by kernel_rfl) (by kernel_rfl) (by kernel_rfl) (by kernel_rfl) (fun _ _ _ h => h) (Or.inl ⟨by rfl, ?_⟩) (by assumption) ?_
  rotate_left
  · (intro w' hSw; (try dsimp only at hSw); (obtain ⟨s0, s1, s2, s3⟩ := hSw); go_simp; try with_reducible rfl)
  try simp only [Act.put, List.setIfInBounds_toArray, List.set_cons_zero, List.set_cons_succ]
  refine wpHK_one (j := 7) (o := Oper.mk (some 12) _ _ _ _ _) rfl (by kernel_rfl) (fun K hK => ?_)
  go_simp
  refine (HA.out _).mono ?_
  rintro e V1 ⟨A1, m1, c1, rfl, hm, hmc, hcl, hr, hb⟩
  have F1 := Lib.hid (Env.call E1.out.drew hb)
  have R1 := Lib.hid (And.intro hm.out (And.intro hmc (And.intro hcl hr)))
  have hbl := Lib.hid hb
  clear hm hmc hcl hr hb
  refine hK.out _ _ (Cf1.out _ F1.out) (fun _ => ?_)
  clear hK K hHeld
  have hHeld := (Cf1.out _ F1.out)
  try simp only [Act.put, List.setIfInBounds_toArray, List.set_cons_zero, List.set_cons_succ]
  refine wpHK_one (j := 10) (o := Oper.mk (some 15) _ _ _ _ _) rfl (by kernel_rfl) (fun K hK => ?_)
  go_simp
  refine (HB.out _).mono ?_
  rintro e V2 ⟨A2, m2, c2, rfl, hm, hmc, hcl, hr, hb⟩
  have F2 := Lib.hid (Env.call F1.out hb)
  have R2 := Lib.hid (And.intro hm.out (And.intro hmc (And.intro hcl hr)))
  have hbl := Lib.hid hb
  clear hm hmc hcl hr hb
  have R1' := Lib.hid (And.intro R1.out.1 (And.intro R1.out.2.1 (And.intro R1.out.2.2.1 ((R1.out.2.2.2.below hbl.out).more hbl.out.size))))
  clear R1 hbl
  have R1 := R1'
  clear R1'
  refine hK.out _ _ (Cf1.out _ F2.out) (fun _ => ?_)
  clear hK K hHeld
  have hHeld := (Cf1.out _ F2.out)
  try simp only [Act.put, List.setIfInBounds_toArray, List.set_cons_zero, List.set_cons_succ]
  refine wpHK_one (j := 11) (o := Oper.mk (some 16) _ _ _ _ _) rfl (by kernel_rfl) (fun K hK => ?_)
  go_simp
  refine (rproduct_any R1.out.2.2.2 R2.out.2.2.2 (Nat.le_refl _) R1.out.1 R2.out.1 (by have := R1.out.1; have := Hla.out.1; omega) (by have := R2.out.1; have := Hla.out.2; omega) (wd_w _) (wd_w _)).mono ?_
  rintro e V3 ⟨A3, m3, c3, rfl, hm, hmc, hcl, hr, hb⟩
  simp only [val_w] at hm hr
  have F3 := Lib.hid (Env.call F2.out hb)
  have R3 := Lib.hid (And.intro hm.out (And.intro hmc (And.intro hcl hr)))
  clear hm hmc hcl hr hb
  refine hK.out _ _ (Cf1.out _ F3.out) (fun _ => ?_)
  clear hK K hHeld
  have hHeld := (Cf1.out _ F3.out)
  try simp only [Act.put, List.setIfInBounds_toArray, List.set_cons_zero, List.set_cons_succ]
  refine wpHK_one (j := 12) (o := Oper.mk (some 17) _ _ _ _ _) rfl (by kernel_rfl) (fun K hK => ?_)
  go_simp
  have HM := made_any (w := _) (neg := (na != nb)) R3.out.2.2.2 (Nat.le_refl _) R3.out.1 R3.out.2.1 R3.out.2.2.1 (by have := R3.out.1; have := len_mul Hla.out.1 Hla.out.2; omega) (wd_w _)
  rw [val_w, sgn_mulB, ← Hnum.out.1, ← Hnum.out.2, ez] at HM
  refine HM.mono ?_
  rintro e V4 ⟨rfl, hb⟩
  have F4 := Lib.hid (Env.call F3.out hb)
  clear hb HM
  refine hK.out _ _ (Cf1.out _ F4.out) (fun _ => ?_)
  clear hK K hHeld
  have hHeld := (Cf1.out _ F4.out)
  try simp only [Act.put, List.setIfInBounds_toArray, List.set_cons_zero, List.set_cons_succ]
  refine wpHK_tail (j := 13) (o := Oper.mk (none) _ _ _ _ _) rfl (by kernel_rfl) (by decide) (fun K hK => ?_)
  have n4 := Env.at_ F4.out 0 rfl
  have y0 := n4.cell 0
  have y1 := n4.cell 1
  have y2 := n4.frozen 0
  have y3 := n4.frozen 1
  simp at y0 y1
  go_simp
  refine hK.out _ _ ?_
  clear hK K
  try simp only [Act.put, List.setIfInBounds_toArray, List.set_cons_zero, List.set_cons_succ]
  refine wpHK_done (by kernel_rfl) ?_ _
  refine NoPanic.normal ?_
  go_wp2_with fail
  have n5 := ((Env.at_ F4.out 0 rfl).set_ 0 (.bool zs)).set_ 1 (.string zb)
  have d0 := n5.cell 0
  have d1 := n5.cell 1
  simp at d0 d1
  refine bodyPost_ret (v := .agg #[.bool zs, .string zb]) (by simp [results, Try.results32, go_sem, d0, d1]) rfl ?_
  exact ⟨by rw [ez], ((F4.out.1).setCell (by show w.heap.size ≤ w.heap.size + 1 + 1; omega) _).setCell (by show w.heap.size ≤ w.heap.size + 1 + 1; omega) _⟩
set_option maxRecDepth 100000 in
set_option maxHeartbeats 4000000 in
theorem rplus_same {w : World} {na nb : Bool} {sa sb : ByteArray} (ha : Fmd sa) (hb : Fmd sb) (hs : na = nb) :
    Calls Try.prog 17 #[.agg #[.bool na, .string sa], .agg #[.bool nb, .string sb]] w (Calm w (enc (num (na, sa) + num (nb, sb)))) := by
  obtain ⟨zs, zb, ez⟩ : ∃ s b, enc (num (na, sa) + num (nb, sb)) = .agg #[.bool s, .string b] := ⟨_, _, rfl⟩
  have HA := Lib.hid (fun W : World => words_any (w := W) (by have := ha.2; omega) ha.1)
  have HB := Lib.hid (fun W : World => words_any (w := W) (by have := hb.2; omega) hb.1)
  have Hla := Lib.hid (And.intro ha.len hb.len)
  have Hab := Lib.hid (And.intro ha hb)
  obtain ⟨a, hae⟩ : ∃ a, a = bval sa.data.toList := ⟨_, rfl⟩
  obtain ⟨b, hbe⟩ : ∃ b, b = bval sb.data.toList := ⟨_, rfl⟩
  rw [← hae] at HA
  rw [← hbe] at HB
  rw [← hae, ← hbe] at Hla
  have Hnum := Lib.hid (show num (na, sa) = sgn na a ∧ num (nb, sb) = sgn nb b from ⟨by rw [hae]; rfl, by rw [hbe]; rfl⟩)
  (try rw [← hae, ← hbe])
  clear hae hbe ha hb
  have E0 := Lib.hid (Env.nil w)
  go_enter Try.func17, Try.ntmps17
  subst hs
  go_upto_region 1 with fail
  have E1 : Hid (Env w (((w.alloc (.cells #[.bool na, .string sa] 26)).alloc (.cells #[.bool na, .string sb] 26)).alloc (.cells #[.bool false, .string ⟨#[]⟩] 26)) [(w.heap.size + 1 + 1, 26, #[.bool false, .string ⟨#[]⟩]), (w.heap.size + 1, 26, #[.bool na, .string sb]), (w.heap.size, 26, #[.bool na, .string sa])]) := Lib.hid (by have h := (Env.new (Env.new (Env.new E0.out 26 #[.bool na, .string sa]) 26 #[.bool na, .string sb]) 26 #[.bool false, .string ⟨#[]⟩]); (try simp only [World.size_alloc] at h); exact h)
  generalize (((w.alloc (.cells #[.bool na, .string sa] 26)).alloc (.cells #[.bool na, .string sb] 26)).alloc (.cells #[.bool false, .string ⟨#[]⟩] 26)) = W1 at E1 ⊢
  have Cf1 := Lib.hid (fun (W : World) (h : Env w W [(w.heap.size + 1 + 1, 26, #[.bool false, .string ⟨#[]⟩]), (w.heap.size + 1, 26, #[.bool na, .string sb]), (w.heap.size, 26, #[.bool na, .string sa])]) => (show W.cell? ⟨w.heap.size, 0, none⟩ = some (.bool na) ∧ W.cell? ⟨w.heap.size, 1, none⟩ = some (.string sa) ∧ W.cell? ⟨w.heap.size + 1, 0, none⟩ = some (.bool na) ∧ W.cell? ⟨w.heap.size + 1, 1, none⟩ = some (.string sb) from ⟨(Env.at_ h 2 rfl).cell 0, (Env.at_ h 2 rfl).cell 1, (Env.at_ h 1 rfl).cell 0, (Env.at_ h 1 rfl).cell 1⟩))
  refine wp_region_noPanic ?_
  refine wp_region_HK (fun w' => w'.cell? ⟨w.heap.size, 0, none⟩ = some (.bool na) ∧ w'.cell? ⟨w.heap.size, 1, none⟩ = some (.string sa) ∧ w'.cell? ⟨w.heap.size + 1, 0, none⟩ = some (.bool na) ∧ w'.cell? ⟨w.heap.size + 1, 1, none⟩ = some (.string sb)) 6 (by kernel_rfl) (Cf1.out _ E1.out.drew) (fun hHeld => ?_)
  refine wpHK_pure (i := 0) (oi := Oper.mk (some 7) _ _ _ _ _) (v := ?_) rfl (by kernel_rfl) (by kernel_rfl) (by kernel_rfl) (fun _ _ _ h => h) (Or.inl ⟨by rfl, ?_⟩) ?_
  rotate_left
  · (intro w' _; go_simp; try with_reducible rfl)
  try simp only [Act.put, List.setIfInBounds_toArray, List.set_cons_zero, List.set_cons_succ]
  refine wpHK_pure (i := 3) (oi := Oper.mk (some 10) _ _ _ _ _) (v := ?_) rfl (by kernel_rfl) (by kernel_rfl) (by kernel_rfl) (fun _ _ _ h => h) (Or.inl ⟨by rfl, ?_⟩) ?_
  rotate_left
  · (intro w' _; go_simp; try with_reducible rfl)
  try simp only [Act.put, List.setIfInBounds_toArray, List.set_cons_zero, List.set_cons_succ]
  refine wpHK_take (i := 1) (oi := Oper.mk (some 8) _ _ _ _ _) (v := ?_) rfl (by kernel_rfl) (by kernel_rfl) (by kernel_rfl) (by kernel_rfl) (fun _ _ _ h => h) (Or.inl ⟨by rfl, ?_⟩) (by assumption) ?_
  rotate_left
  · (intro w' hSw; (try dsimp only at hSw); (obtain ⟨s0, s1, s2, s3⟩ := hSw); go_simp; try with_reducible rfl)
  try simp only [Act.put, List.setIfInBounds_toArray, List.set_cons_zero, List.set_cons_succ]
  refine wpHK_take (i := 4) (oi := Oper.mk (some 11) _ _ _ _ _) (v := ?_) rfl (by kernel_rfl) (by kernel_rfl) (by kernel_rfl) (by kernel_rfl) (fun _ _ _ h => h) (Or.inl ⟨by rfl, ?_⟩) (by assumption) ?_
  rotate_left
  · (intro w' hSw; (try dsimp only at hSw); (obtain ⟨s0, s1, s2, s3⟩ := hSw); go_simp; try with_reducible rfl)
  try simp only [Act.put, List.setIfInBounds_toArray, List.set_cons_zero, List.set_cons_succ]
  refine wpHK_one (j := 2) (o := Oper.mk (some 9) _ _ _ _ _) rfl (by kernel_rfl) (fun K hK => ?_)
  go_simp
  refine (HA.out _).mono ?_
  rintro e V1 ⟨A1, m1, c1, rfl, hm, hmc, hcl, hr, hb⟩
  have F1 := Lib.hid (Env.call E1.out.drew hb)
  have R1 := Lib.hid (And.intro hm.out (And.intro hmc (And.intro hcl hr)))
  have hbl := Lib.hid hb
  clear hm hmc hcl hr hb
  refine hK.out _ _ (Cf1.out _ F1.out) (fun _ => ?_)
  clear hK K hHeld
  have hHeld := (Cf1.out _ F1.out)
  try simp only [Act.put, List.setIfInBounds_toArray, List.set_cons_zero, List.set_cons_succ]
  refine wpHK_one (j := 5) (o := Oper.mk (some 12) _ _ _ _ _) rfl (by kernel_rfl) (fun K hK => ?_)
  go_simp
  refine (HB.out _).mono ?_
  rintro e V2 ⟨A2, m2, c2, rfl, hm, hmc, hcl, hr, hb⟩
  have F2 := Lib.hid (Env.call F1.out hb)
  have R2 := Lib.hid (And.intro hm.out (And.intro hmc (And.intro hcl hr)))
  have hbl := Lib.hid hb
  clear hm hmc hcl hr hb
  have R1' := Lib.hid (And.intro R1.out.1 (And.intro R1.out.2.1 (And.intro R1.out.2.2.1 ((R1.out.2.2.2.below hbl.out).more hbl.out.size))))
  clear R1 hbl
  have R1 := R1'
  clear R1'
  refine hK.out _ _ (Cf1.out _ F2.out) (fun _ => ?_)
  clear hK K hHeld
  have hHeld := (Cf1.out _ F2.out)
  try simp only [Act.put, List.setIfInBounds_toArray, List.set_cons_zero, List.set_cons_succ]
  refine wpHK_pure (i := 6) (oi := Oper.mk (some 5) _ _ _ _ _) (v := ?_) rfl (by kernel_rfl) (by kernel_rfl) (by kernel_rfl) (fun _ _ _ h => h) (Or.inl ⟨by rfl, ?_⟩) ?_
  rotate_left
  · (intro w' _; go_simp; try with_reducible rfl)
  try simp only [Act.put, List.setIfInBounds_toArray, List.set_cons_zero, List.set_cons_succ]
  refine wpHK_pure (i := 7) (oi := Oper.mk (some 6) _ _ _ _ _) (v := ?_) rfl (by kernel_rfl) (by kernel_rfl) (by kernel_rfl) (fun _ _ _ h => h) (Or.inl ⟨by rfl, ?_⟩) ?_
  rotate_left
  · (intro w' _; go_simp; try with_reducible rfl)
  try simp only [Act.put, List.setIfInBounds_toArray, List.set_cons_zero, List.set_cons_succ]
  refine wpHK_done (by kernel_rfl) ?_ _
  refine NoPanic.normal ?_
  have q0 := (Env.at_ F2.out 2 rfl).cell 0
  have q1 := (Env.at_ F2.out 1 rfl).cell 0
  simp at q0 q1
  go_upto_region 3 with fail
  clear q0 q1
  have Cf3 := Lib.hid (fun (W : World) (h : Env w W [(w.heap.size + 1 + 1, 26, #[.bool false, .string ⟨#[]⟩]), (w.heap.size + 1, 26, #[.bool na, .string sb]), (w.heap.size, 26, #[.bool na, .string sa])]) => (show W.cell? ⟨w.heap.size, 0, none⟩ = some (.bool na) ∧ W.cell? ⟨w.heap.size, 1, none⟩ = some (.string sa) ∧ W.cell? ⟨w.heap.size + 1, 0, none⟩ = some (.bool na) ∧ W.cell? ⟨w.heap.size + 1, 1, none⟩ = some (.string sb) from ⟨(Env.at_ h 2 rfl).cell 0, (Env.at_ h 2 rfl).cell 1, (Env.at_ h 1 rfl).cell 0, (Env.at_ h 1 rfl).cell 1⟩))
  refine wp_region_noPanic ?_
  refine wp_region_HK (fun w' => w'.cell? ⟨w.heap.size, 0, none⟩ = some (.bool na) ∧ w'.cell? ⟨w.heap.size, 1, none⟩ = some (.string sa) ∧ w'.cell? ⟨w.heap.size + 1, 0, none⟩ = some (.bool na) ∧ w'.cell? ⟨w.heap.size + 1, 1, none⟩ = some (.string sb)) 6 (by kernel_rfl) (Cf3.out _ F2.out.drew) (fun hHeld => ?_)
  refine wpHK_pure (i := 0) (oi := Oper.mk (some 18) _ _ _ _ _) (v := ?_) rfl (by kernel_rfl) (by kernel_rfl) (by kernel_rfl) (fun _ _ _ h => h) (Or.inl ⟨by rfl, ?_⟩) ?_
  rotate_left
  · (intro w' _; go_simp; try with_reducible rfl)
  try simp only [Act.put, List.setIfInBounds_toArray, List.set_cons_zero, List.set_cons_succ]
  refine wpHK_pure (i := 2) (oi := Oper.mk (some 20) _ _ _ _ _) (v := ?_) rfl (by kernel_rfl) (by kernel_rfl) (by kernel_rfl) (fun _ _ _ h => h) (Or.inl ⟨by rfl, ?_⟩) ?_
  rotate_left
  · (intro w' _; go_simp; try with_reducible rfl)
  try simp only [Act.put, List.setIfInBounds_toArray, List.set_cons_zero, List.set_cons_succ]
  refine wpHK_pure (i := 3) (oi := Oper.mk (some 21) _ _ _ _ _) (v := ?_) rfl (by kernel_rfl) (by kernel_rfl) (by kernel_rfl) (fun _ _ _ h => h) (Or.inl ⟨by rfl, ?_⟩) ?_
  rotate_left
  · (intro w' _; go_simp; try with_reducible rfl)
  try simp only [Act.put, List.setIfInBounds_toArray, List.set_cons_zero, List.set_cons_succ]
  refine wpHK_take (i := 1) (oi := Oper.mk (some 19) _ _ _ _ _) (v := ?_) rfl (by kernel_rfl) (by kernel_rfl) (by kernel_rfl) (by kernel_rfl) (fun _ _ _ h => h) (Or.inl ⟨by rfl, ?_⟩) (by assumption) ?_
  rotate_left
  · (intro w' hSw; (try dsimp only at hSw); (obtain ⟨s0, s1, s2, s3⟩ := hSw); go_simp; try with_reducible rfl)
  try simp only [Act.put, List.setIfInBounds_toArray, List.set_cons_zero, List.set_cons_succ]
  refine wpHK_one (j := 4) (o := Oper.mk (some 22) _ _ _ _ _) rfl (by kernel_rfl) (fun K hK => ?_)
  go_simp
  refine (rmore_any (w := V2.drew) R1.out.2.2.2 R2.out.2.2.2 (Nat.le_refl _) R1.out.1 R2.out.1 (by have := R1.out.1; have := Hla.out.1; omega) (by have := R2.out.1; have := Hla.out.2; omega) (wd_w _) (wd_w _)).mono ?_
  rintro e V3 ⟨A3, m3, c3, rfl, hm, hmc, hcl, hr, hb⟩
  simp only [val_w] at hm hr
  have F3 := Lib.hid (Env.call F2.out.drew hb)
  have R3 := Lib.hid (And.intro hm.out (And.intro hmc (And.intro hcl hr)))
  clear hm hmc hcl hr hb
  refine hK.out _ _ (Cf3.out _ F3.out) (fun _ => ?_)
  clear hK K hHeld
  have hHeld := (Cf3.out _ F3.out)
  try simp only [Act.put, List.setIfInBounds_toArray, List.set_cons_zero, List.set_cons_succ]
  refine wpHK_one (j := 5) (o := Oper.mk (some 23) _ _ _ _ _) rfl (by kernel_rfl) (fun K hK => ?_)
  go_simp
  have HM := made_any (w := _) (neg := na) R3.out.2.2.2 (Nat.le_refl _) R3.out.1 R3.out.2.1 R3.out.2.2.1 (by have := R3.out.1; have := len_sumN Hla.out.1 Hla.out.2; omega) (wd_w _)
  rw [val_w, sgn_add, ← Hnum.out.1, ← Hnum.out.2, ez] at HM
  refine HM.mono ?_
  rintro e V4 ⟨rfl, hb⟩
  have F4 := Lib.hid (Env.call F3.out hb)
  clear hb HM
  refine hK.out _ _ (Cf3.out _ F4.out) (fun _ => ?_)
  clear hK K hHeld
  have hHeld := (Cf3.out _ F4.out)
  try simp only [Act.put, List.setIfInBounds_toArray, List.set_cons_zero, List.set_cons_succ]
  refine wpHK_tail (j := 6) (o := Oper.mk (none) _ _ _ _ _) rfl (by kernel_rfl) (by decide) (fun K hK => ?_)
  have n4 := Env.at_ F4.out 0 rfl
  have y0 := n4.cell 0
  have y1 := n4.cell 1
  have y2 := n4.frozen 0
  have y3 := n4.frozen 1
  simp at y0 y1
  go_simp
  refine hK.out _ _ ?_
  clear hK K
  try simp only [Act.put, List.setIfInBounds_toArray, List.set_cons_zero, List.set_cons_succ]
  refine wpHK_done (by kernel_rfl) ?_ _
  refine NoPanic.normal ?_
  go_wp2_with fail
  have n5 := ((Env.at_ F4.out 0 rfl).set_ 0 (.bool zs)).set_ 1 (.string zb)
  have d0 := n5.cell 0
  have d1 := n5.cell 1
  simp at d0 d1
  refine bodyPost_ret (v := .agg #[.bool zs, .string zb]) (by simp [results, Try.results17, go_sem, d0, d1]) rfl ?_
  exact ⟨by rw [ez], ((F4.out.1).setCell (by show w.heap.size ≤ w.heap.size + 1 + 1; omega) _).setCell (by show w.heap.size ≤ w.heap.size + 1 + 1; omega) _⟩
theorem cmpN_ge {a b : Nat} (h : b ≤ a) : 0 ≤ cmpN a b ∧ cmpN a b ≤ 1 := by unfold cmpN; split <;> first | omega | (split <;> omega)
set_option maxRecDepth 100000 in
set_option maxHeartbeats 4000000 in
theorem rplus_ge {w : World} {na nb : Bool} {sa sb : ByteArray} (ha : Fmd sa) (hb : Fmd sb) (hs : na ≠ nb) (hle : bval sb.data.toList ≤ bval sa.data.toList) :
    Calls Try.prog 17 #[.agg #[.bool na, .string sa], .agg #[.bool nb, .string sb]] w (Calm w (enc (num (na, sa) + num (nb, sb)))) := by
  obtain ⟨zs, zb, ez⟩ : ∃ s b, enc (num (na, sa) + num (nb, sb)) = .agg #[.bool s, .string b] := ⟨_, _, rfl⟩
  have hbeq : (na == nb) = false := by simp [hs]
  have Hne := Lib.hid hs
  clear hs
  have HA := Lib.hid (fun W : World => words_any (w := W) (by have := ha.2; omega) ha.1)
  have HB := Lib.hid (fun W : World => words_any (w := W) (by have := hb.2; omega) hb.1)
  have Hla := Lib.hid (And.intro ha.len hb.len)
  have Hab := Lib.hid (And.intro ha hb)
  obtain ⟨a, hae⟩ : ∃ a, a = bval sa.data.toList := ⟨_, rfl⟩
  obtain ⟨b, hbe⟩ : ∃ b, b = bval sb.data.toList := ⟨_, rfl⟩
  rw [← hae] at HA
  rw [← hbe] at HB
  rw [← hae, ← hbe] at Hla
  rw [← hae, ← hbe] at hle
  have Hle := Lib.hid hle
  have hcg := cmpN_ge hle
  obtain ⟨hcg1, hcg2⟩ := hcg
  have hdc : decide (0 ≤ cmpN a b) = true := decide_eq_true hcg1
  clear hle
  have Hnum := Lib.hid (show num (na, sa) = sgn na a ∧ num (nb, sb) = sgn nb b from ⟨by rw [hae]; rfl, by rw [hbe]; rfl⟩)
  (try rw [← hae, ← hbe])
  clear hae hbe ha hb
  have E0 := Lib.hid (Env.nil w)
  go_enter Try.func17, Try.ntmps17
  go_upto_region 1 with fail
  have E1 : Hid (Env w (((w.alloc (.cells #[.bool na, .string sa] 26)).alloc (.cells #[.bool nb, .string sb] 26)).alloc (.cells #[.bool false, .string ⟨#[]⟩] 26)) [(w.heap.size + 1 + 1, 26, #[.bool false, .string ⟨#[]⟩]), (w.heap.size + 1, 26, #[.bool nb, .string sb]), (w.heap.size, 26, #[.bool na, .string sa])]) := Lib.hid (by have h := (Env.new (Env.new (Env.new E0.out 26 #[.bool na, .string sa]) 26 #[.bool nb, .string sb]) 26 #[.bool false, .string ⟨#[]⟩]); (try simp only [World.size_alloc] at h); exact h)
  generalize (((w.alloc (.cells #[.bool na, .string sa] 26)).alloc (.cells #[.bool nb, .string sb] 26)).alloc (.cells #[.bool false, .string ⟨#[]⟩] 26)) = W1 at E1 ⊢
  have Cf1 := Lib.hid (fun (W : World) (h : Env w W [(w.heap.size + 1 + 1, 26, #[.bool false, .string ⟨#[]⟩]), (w.heap.size + 1, 26, #[.bool nb, .string sb]), (w.heap.size, 26, #[.bool na, .string sa])]) => (show W.cell? ⟨w.heap.size, 0, none⟩ = some (.bool na) ∧ W.cell? ⟨w.heap.size, 1, none⟩ = some (.string sa) ∧ W.cell? ⟨w.heap.size + 1, 0, none⟩ = some (.bool nb) ∧ W.cell? ⟨w.heap.size + 1, 1, none⟩ = some (.string sb) from ⟨(Env.at_ h 2 rfl).cell 0, (Env.at_ h 2 rfl).cell 1, (Env.at_ h 1 rfl).cell 0, (Env.at_ h 1 rfl).cell 1⟩))
  refine wp_region_noPanic ?_
  refine wp_region_HK (fun w' => w'.cell? ⟨w.heap.size, 0, none⟩ = some (.bool na) ∧ w'.cell? ⟨w.heap.size, 1, none⟩ = some (.string sa) ∧ w'.cell? ⟨w.heap.size + 1, 0, none⟩ = some (.bool nb) ∧ w'.cell? ⟨w.heap.size + 1, 1, none⟩ = some (.string sb)) 6 (by kernel_rfl) (Cf1.out _ E1.out.drew) (fun hHeld => ?_)
  refine wpHK_pure (i := 0) (oi := Oper.mk (some 7) _ _ _ _ _) (v := ?_) rfl (by kernel_rfl) (by kernel_rfl) (by kernel_rfl) (fun _ _ _ h => h) (Or.inl ⟨by rfl, ?_⟩) ?_
  rotate_left
  · (intro w' _; go_simp; try with_reducible rfl)
  try simp only [Act.put, List.setIfInBounds_toArray, List.set_cons_zero, List.set_cons_succ]
  refine wpHK_pure (i := 3) (oi := Oper.mk (some 10) _ _ _ _ _) (v := ?_) rfl (by kernel_rfl) (by kernel_rfl) (by kernel_rfl) (fun _ _ _ h => h) (Or.inl ⟨by rfl, ?_⟩) ?_
  rotate_left
  · (intro w' _; go_simp; try with_reducible rfl)
  try simp only [Act.put, List.setIfInBounds_toArray, List.set_cons_zero, List.set_cons_succ]
  refine wpHK_take (i := 1) (oi := Oper.mk (some 8) _ _ _ _ _) (v := ?_) rfl (by kernel_rfl) (by kernel_rfl) (by kernel_rfl) (by kernel_rfl) (fun _ _ _ h => h) (Or.inl ⟨by rfl, ?_⟩) (by assumption) ?_
  rotate_left
  · (intro w' hSw; (try dsimp only at hSw); (obtain ⟨s0, s1, s2, s3⟩ := hSw); go_simp; try with_reducible rfl)
  try simp only [Act.put, List.setIfInBounds_toArray, List.set_cons_zero, List.set_cons_succ]
  refine wpHK_take (i := 4) (oi := Oper.mk (some 11) _ _ _ _ _) (v := ?_) rfl (by kernel_rfl) (by kernel_rfl) (by kernel_rfl) (by kernel_rfl) (fun _ _ _ h => h) (Or.inl ⟨by rfl, ?_⟩) (by assumption) ?_
  rotate_left
  · (intro w' hSw; (try dsimp only at hSw); (obtain ⟨s0, s1, s2, s3⟩ := hSw); go_simp; try with_reducible rfl)
  try simp only [Act.put, List.setIfInBounds_toArray, List.set_cons_zero, List.set_cons_succ]
  refine wpHK_one (j := 2) (o := Oper.mk (some 9) _ _ _ _ _) rfl (by kernel_rfl) (fun K hK => ?_)
  go_simp
  refine (HA.out _).mono ?_
  rintro e V1 ⟨A1, m1, c1, rfl, hm, hmc, hcl, hr, hb⟩
  have F1 := Lib.hid (Env.call E1.out.drew hb)
  have R1 := Lib.hid (And.intro hm.out (And.intro hmc (And.intro hcl hr)))
  have hbl := Lib.hid hb
  clear hm hmc hcl hr hb
  refine hK.out _ _ (Cf1.out _ F1.out) (fun _ => ?_)
  clear hK K hHeld
  have hHeld := (Cf1.out _ F1.out)
  try simp only [Act.put, List.setIfInBounds_toArray, List.set_cons_zero, List.set_cons_succ]
  refine wpHK_one (j := 5) (o := Oper.mk (some 12) _ _ _ _ _) rfl (by kernel_rfl) (fun K hK => ?_)
  go_simp
  refine (HB.out _).mono ?_
  rintro e V2 ⟨A2, m2, c2, rfl, hm, hmc, hcl, hr, hb⟩
  have F2 := Lib.hid (Env.call F1.out hb)
  have R2 := Lib.hid (And.intro hm.out (And.intro hmc (And.intro hcl hr)))
  have hbl := Lib.hid hb
  clear hm hmc hcl hr hb
  have R1' := Lib.hid (And.intro R1.out.1 (And.intro R1.out.2.1 (And.intro R1.out.2.2.1 ((R1.out.2.2.2.below hbl.out).more hbl.out.size))))
  clear R1 hbl
  have R1 := R1'
  clear R1'
  refine hK.out _ _ (Cf1.out _ F2.out) (fun _ => ?_)
  clear hK K hHeld
  have hHeld := (Cf1.out _ F2.out)
  try simp only [Act.put, List.setIfInBounds_toArray, List.set_cons_zero, List.set_cons_succ]
  refine wpHK_pure (i := 6) (oi := Oper.mk (some 5) _ _ _ _ _) (v := ?_) rfl (by kernel_rfl) (by kernel_rfl) (by kernel_rfl) (fun _ _ _ h => h) (Or.inl ⟨by rfl, ?_⟩) ?_
  rotate_left
  · (intro w' _; go_simp; try with_reducible rfl)
  try simp only [Act.put, List.setIfInBounds_toArray, List.set_cons_zero, List.set_cons_succ]
  refine wpHK_pure (i := 7) (oi := Oper.mk (some 6) _ _ _ _ _) (v := ?_) rfl (by kernel_rfl) (by kernel_rfl) (by kernel_rfl) (fun _ _ _ h => h) (Or.inl ⟨by rfl, ?_⟩) ?_
  rotate_left
  · (intro w' _; go_simp; try with_reducible rfl)
  try simp only [Act.put, List.setIfInBounds_toArray, List.set_cons_zero, List.set_cons_succ]
  refine wpHK_done (by kernel_rfl) ?_ _
  refine NoPanic.normal ?_
  have q0 := (Env.at_ F2.out 2 rfl).cell 0
  have q1 := (Env.at_ F2.out 1 rfl).cell 0
  simp at q0 q1
  go_upto_region 4 with fail
  clear q0 q1
  have HU := runder_any (c := c1) (d := c2) R1.out.2.2.2 R2.out.2.2.2 R1.out.1 R2.out.1 (by have := R1.out.1; have := Hla.out.1; omega) (by have := R2.out.1; have := Hla.out.2; omega)
  skip
  go_wp2_with fail
  refine HU.mono ?_
  rintro e V3 ⟨q, rfl, rfl⟩
  clear HU
  have F3 := Lib.hid (F2.out.drewN q)
  have R1' := Lib.hid (And.intro R1.out.1 (And.intro R1.out.2.1 (And.intro R1.out.2.2.1 (R1.out.2.2.2.drewN q))))
  have R2' := Lib.hid (And.intro R2.out.1 (And.intro R2.out.2.1 (And.intro R2.out.2.2.1 (R2.out.2.2.2.drewN q))))
  clear R1 R2
  skip
  go_upto_region 5 with fail
  have Cf5 := Lib.hid (fun (W : World) (h : Env w W [(w.heap.size + 1 + 1, 26, #[.bool false, .string ⟨#[]⟩]), (w.heap.size + 1, 26, #[.bool nb, .string sb]), (w.heap.size, 26, #[.bool na, .string sa])]) => (show W.cell? ⟨w.heap.size, 0, none⟩ = some (.bool na) ∧ W.cell? ⟨w.heap.size, 1, none⟩ = some (.string sa) ∧ W.cell? ⟨w.heap.size + 1, 0, none⟩ = some (.bool nb) ∧ W.cell? ⟨w.heap.size + 1, 1, none⟩ = some (.string sb) from ⟨(Env.at_ h 2 rfl).cell 0, (Env.at_ h 2 rfl).cell 1, (Env.at_ h 1 rfl).cell 0, (Env.at_ h 1 rfl).cell 1⟩))
  refine wp_region_noPanic ?_
  refine wp_region_HK (fun w' => w'.cell? ⟨w.heap.size, 0, none⟩ = some (.bool na) ∧ w'.cell? ⟨w.heap.size, 1, none⟩ = some (.string sa) ∧ w'.cell? ⟨w.heap.size + 1, 0, none⟩ = some (.bool nb) ∧ w'.cell? ⟨w.heap.size + 1, 1, none⟩ = some (.string sb)) 6 (by kernel_rfl) (Cf5.out _ F3.out.drew) (fun hHeld => ?_)
  refine wpHK_pure (i := 0) (oi := Oper.mk (some 28) _ _ _ _ _) (v := ?_) rfl (by kernel_rfl) (by kernel_rfl) (by kernel_rfl) (fun _ _ _ h => h) (Or.inl ⟨by rfl, ?_⟩) ?_
  rotate_left
  · (intro w' _; go_simp; try with_reducible rfl)
  try simp only [Act.put, List.setIfInBounds_toArray, List.set_cons_zero, List.set_cons_succ]
  refine wpHK_pure (i := 2) (oi := Oper.mk (some 30) _ _ _ _ _) (v := ?_) rfl (by kernel_rfl) (by kernel_rfl) (by kernel_rfl) (fun _ _ _ h => h) (Or.inl ⟨by rfl, ?_⟩) ?_
  rotate_left
  · (intro w' _; go_simp; try with_reducible rfl)
  try simp only [Act.put, List.setIfInBounds_toArray, List.set_cons_zero, List.set_cons_succ]
  refine wpHK_pure (i := 3) (oi := Oper.mk (some 31) _ _ _ _ _) (v := ?_) rfl (by kernel_rfl) (by kernel_rfl) (by kernel_rfl) (fun _ _ _ h => h) (Or.inl ⟨by rfl, ?_⟩) ?_
  rotate_left
  · (intro w' _; go_simp; try with_reducible rfl)
  try simp only [Act.put, List.setIfInBounds_toArray, List.set_cons_zero, List.set_cons_succ]
  refine wpHK_take (i := 1) (oi := Oper.mk (some 29) _ _ _ _ _) (v := ?_) rfl (by kernel_rfl) (by kernel_rfl) (by kernel_rfl) (by kernel_rfl) (fun _ _ _ h => h) (Or.inl ⟨by rfl, ?_⟩) (by assumption) ?_
  rotate_left
  · (intro w' hSw; (try dsimp only at hSw); (obtain ⟨s0, s1, s2, s3⟩ := hSw); go_simp; try with_reducible rfl)
  try simp only [Act.put, List.setIfInBounds_toArray, List.set_cons_zero, List.set_cons_succ]
  refine wpHK_one (j := 4) (o := Oper.mk (some 32) _ _ _ _ _) rfl (by kernel_rfl) (fun K hK => ?_)
  go_simp
  refine (rless_any (w := (V2.drewN q).drew) R1'.out.2.2.2 R2'.out.2.2.2 (Nat.le_refl _) R1'.out.1 R2'.out.1 (by have := R1'.out.1; have := Hla.out.1; omega) (by rw [R1'.out.1, R2'.out.1]; exact len_mono Hle.out) (by rw [val_w, val_w]; exact Hle.out) (wd_w _) (wd_w _)).mono ?_
  rintro e V4 ⟨A3, m3, c3, rfl, hm, hmc, hcl, hr, hb⟩
  simp only [val_w] at hm hr
  have F4 := Lib.hid (Env.call F3.out.drew hb)
  have R3 := Lib.hid (And.intro hm.out (And.intro hmc (And.intro hcl hr)))
  clear hm hmc hcl hr hb
  refine hK.out _ _ (Cf5.out _ F4.out) (fun _ => ?_)
  clear hK K hHeld
  have hHeld := (Cf5.out _ F4.out)
  try simp only [Act.put, List.setIfInBounds_toArray, List.set_cons_zero, List.set_cons_succ]
  refine wpHK_one (j := 5) (o := Oper.mk (some 33) _ _ _ _ _) rfl (by kernel_rfl) (fun K hK => ?_)
  go_simp
  have HM := made_any (w := _) (neg := na) R3.out.2.2.2 (Nat.le_refl _) R3.out.1 R3.out.2.1 R3.out.2.2.1 (by have h1 := R3.out.1; have h2 := Hla.out; have h3 := len_mono (a := a - b) (b := a) (Nat.sub_le _ _); omega) (wd_w _)
  rw [val_w, sgn_sub Hne.out Hle.out, ← Hnum.out.1, ← Hnum.out.2, ez] at HM
  refine HM.mono ?_
  rintro e V5 ⟨rfl, hb⟩
  have F5 := Lib.hid (Env.call F4.out hb)
  clear hb HM
  refine hK.out _ _ (Cf5.out _ F5.out) (fun _ => ?_)
  clear hK K hHeld
  have hHeld := (Cf5.out _ F5.out)
  try simp only [Act.put, List.setIfInBounds_toArray, List.set_cons_zero, List.set_cons_succ]
  refine wpHK_tail (j := 6) (o := Oper.mk (none) _ _ _ _ _) rfl (by kernel_rfl) (by decide) (fun K hK => ?_)
  have n4 := Env.at_ F5.out 0 rfl
  have y0 := n4.cell 0
  have y1 := n4.cell 1
  have y2 := n4.frozen 0
  have y3 := n4.frozen 1
  simp at y0 y1
  go_simp
  refine hK.out _ _ ?_
  clear hK K
  try simp only [Act.put, List.setIfInBounds_toArray, List.set_cons_zero, List.set_cons_succ]
  refine wpHK_done (by kernel_rfl) ?_ _
  refine NoPanic.normal ?_
  go_wp2_with fail
  have n5 := ((Env.at_ F5.out 0 rfl).set_ 0 (.bool zs)).set_ 1 (.string zb)
  have d0 := n5.cell 0
  have d1 := n5.cell 1
  simp at d0 d1
  refine bodyPost_ret (v := .agg #[.bool zs, .string zb]) (by simp [results, Try.results17, go_sem, d0, d1]) rfl ?_
  exact ⟨by rw [ez], ((F5.out.1).setCell (by show w.heap.size ≤ w.heap.size + 1 + 1; omega) _).setCell (by show w.heap.size ≤ w.heap.size + 1 + 1; omega) _⟩
set_option maxRecDepth 100000 in
set_option maxHeartbeats 4000000 in
theorem rplus_lt {w : World} {na nb : Bool} {sa sb : ByteArray} (ha : Fmd sa) (hb : Fmd sb) (hs : na ≠ nb) (hlt : bval sa.data.toList < bval sb.data.toList) :
    Calls Try.prog 17 #[.agg #[.bool na, .string sa], .agg #[.bool nb, .string sb]] w (Calm w (enc (num (na, sa) + num (nb, sb)))) := by
  obtain ⟨zs, zb, ez⟩ : ∃ s b, enc (num (na, sa) + num (nb, sb)) = .agg #[.bool s, .string b] := ⟨_, _, rfl⟩
  have hbeq : (na == nb) = false := by simp [hs]
  have Hne := Lib.hid hs
  clear hs
  have HA := Lib.hid (fun W : World => words_any (w := W) (by have := ha.2; omega) ha.1)
  have HB := Lib.hid (fun W : World => words_any (w := W) (by have := hb.2; omega) hb.1)
  have Hla := Lib.hid (And.intro ha.len hb.len)
  have Hab := Lib.hid (And.intro ha hb)
  obtain ⟨a, hae⟩ : ∃ a, a = bval sa.data.toList := ⟨_, rfl⟩
  obtain ⟨b, hbe⟩ : ∃ b, b = bval sb.data.toList := ⟨_, rfl⟩
  rw [← hae] at HA
  rw [← hbe] at HB
  rw [← hae, ← hbe] at Hla
  rw [← hae, ← hbe] at hlt
  have Hle := Lib.hid (Nat.le_of_lt hlt)
  have HC := Lib.hid (cmpN_lt hlt)
  clear hlt
  have Hnum := Lib.hid (show num (na, sa) = sgn na a ∧ num (nb, sb) = sgn nb b from ⟨by rw [hae]; rfl, by rw [hbe]; rfl⟩)
  (try rw [← hae, ← hbe])
  clear hae hbe ha hb
  have E0 := Lib.hid (Env.nil w)
  go_enter Try.func17, Try.ntmps17
  go_upto_region 1 with fail
  have E1 : Hid (Env w (((w.alloc (.cells #[.bool na, .string sa] 26)).alloc (.cells #[.bool nb, .string sb] 26)).alloc (.cells #[.bool false, .string ⟨#[]⟩] 26)) [(w.heap.size + 1 + 1, 26, #[.bool false, .string ⟨#[]⟩]), (w.heap.size + 1, 26, #[.bool nb, .string sb]), (w.heap.size, 26, #[.bool na, .string sa])]) := Lib.hid (by have h := (Env.new (Env.new (Env.new E0.out 26 #[.bool na, .string sa]) 26 #[.bool nb, .string sb]) 26 #[.bool false, .string ⟨#[]⟩]); (try simp only [World.size_alloc] at h); exact h)
  generalize (((w.alloc (.cells #[.bool na, .string sa] 26)).alloc (.cells #[.bool nb, .string sb] 26)).alloc (.cells #[.bool false, .string ⟨#[]⟩] 26)) = W1 at E1 ⊢
  have Cf1 := Lib.hid (fun (W : World) (h : Env w W [(w.heap.size + 1 + 1, 26, #[.bool false, .string ⟨#[]⟩]), (w.heap.size + 1, 26, #[.bool nb, .string sb]), (w.heap.size, 26, #[.bool na, .string sa])]) => (show W.cell? ⟨w.heap.size, 0, none⟩ = some (.bool na) ∧ W.cell? ⟨w.heap.size, 1, none⟩ = some (.string sa) ∧ W.cell? ⟨w.heap.size + 1, 0, none⟩ = some (.bool nb) ∧ W.cell? ⟨w.heap.size + 1, 1, none⟩ = some (.string sb) from ⟨(Env.at_ h 2 rfl).cell 0, (Env.at_ h 2 rfl).cell 1, (Env.at_ h 1 rfl).cell 0, (Env.at_ h 1 rfl).cell 1⟩))
  refine wp_region_noPanic ?_
  refine wp_region_HK (fun w' => w'.cell? ⟨w.heap.size, 0, none⟩ = some (.bool na) ∧ w'.cell? ⟨w.heap.size, 1, none⟩ = some (.string sa) ∧ w'.cell? ⟨w.heap.size + 1, 0, none⟩ = some (.bool nb) ∧ w'.cell? ⟨w.heap.size + 1, 1, none⟩ = some (.string sb)) 6 (by kernel_rfl) (Cf1.out _ E1.out.drew) (fun hHeld => ?_)
  refine wpHK_pure (i := 0) (oi := Oper.mk (some 7) _ _ _ _ _) (v := ?_) rfl (by kernel_rfl) (by kernel_rfl) (by kernel_rfl) (fun _ _ _ h => h) (Or.inl ⟨by rfl, ?_⟩) ?_
  rotate_left
  · (intro w' _; go_simp; try with_reducible rfl)
  try simp only [Act.put, List.setIfInBounds_toArray, List.set_cons_zero, List.set_cons_succ]
  refine wpHK_pure (i := 3) (oi := Oper.mk (some 10) _ _ _ _ _) (v := ?_) rfl (by kernel_rfl) (by kernel_rfl) (by kernel_rfl) (fun _ _ _ h => h) (Or.inl ⟨by rfl, ?_⟩) ?_
  rotate_left
  · (intro w' _; go_simp; try with_reducible rfl)
  try simp only [Act.put, List.setIfInBounds_toArray, List.set_cons_zero, List.set_cons_succ]
  refine wpHK_take (i := 1) (oi := Oper.mk (some 8) _ _ _ _ _) (v := ?_) rfl (by kernel_rfl) (by kernel_rfl) (by kernel_rfl) (by kernel_rfl) (fun _ _ _ h => h) (Or.inl ⟨by rfl, ?_⟩) (by assumption) ?_
  rotate_left
  · (intro w' hSw; (try dsimp only at hSw); (obtain ⟨s0, s1, s2, s3⟩ := hSw); go_simp; try with_reducible rfl)
  try simp only [Act.put, List.setIfInBounds_toArray, List.set_cons_zero, List.set_cons_succ]
  refine wpHK_take (i := 4) (oi := Oper.mk (some 11) _ _ _ _ _) (v := ?_) rfl (by kernel_rfl) (by kernel_rfl) (by kernel_rfl) (by kernel_rfl) (fun _ _ _ h => h) (Or.inl ⟨by rfl, ?_⟩) (by assumption) ?_
  rotate_left
  · (intro w' hSw; (try dsimp only at hSw); (obtain ⟨s0, s1, s2, s3⟩ := hSw); go_simp; try with_reducible rfl)
  try simp only [Act.put, List.setIfInBounds_toArray, List.set_cons_zero, List.set_cons_succ]
  refine wpHK_one (j := 2) (o := Oper.mk (some 9) _ _ _ _ _) rfl (by kernel_rfl) (fun K hK => ?_)
  go_simp
  refine (HA.out _).mono ?_
  rintro e V1 ⟨A1, m1, c1, rfl, hm, hmc, hcl, hr, hb⟩
  have F1 := Lib.hid (Env.call E1.out.drew hb)
  have R1 := Lib.hid (And.intro hm.out (And.intro hmc (And.intro hcl hr)))
  have hbl := Lib.hid hb
  clear hm hmc hcl hr hb
  refine hK.out _ _ (Cf1.out _ F1.out) (fun _ => ?_)
  clear hK K hHeld
  have hHeld := (Cf1.out _ F1.out)
  try simp only [Act.put, List.setIfInBounds_toArray, List.set_cons_zero, List.set_cons_succ]
  refine wpHK_one (j := 5) (o := Oper.mk (some 12) _ _ _ _ _) rfl (by kernel_rfl) (fun K hK => ?_)
  go_simp
  refine (HB.out _).mono ?_
  rintro e V2 ⟨A2, m2, c2, rfl, hm, hmc, hcl, hr, hb⟩
  have F2 := Lib.hid (Env.call F1.out hb)
  have R2 := Lib.hid (And.intro hm.out (And.intro hmc (And.intro hcl hr)))
  have hbl := Lib.hid hb
  clear hm hmc hcl hr hb
  have R1' := Lib.hid (And.intro R1.out.1 (And.intro R1.out.2.1 (And.intro R1.out.2.2.1 ((R1.out.2.2.2.below hbl.out).more hbl.out.size))))
  clear R1 hbl
  have R1 := R1'
  clear R1'
  refine hK.out _ _ (Cf1.out _ F2.out) (fun _ => ?_)
  clear hK K hHeld
  have hHeld := (Cf1.out _ F2.out)
  try simp only [Act.put, List.setIfInBounds_toArray, List.set_cons_zero, List.set_cons_succ]
  refine wpHK_pure (i := 6) (oi := Oper.mk (some 5) _ _ _ _ _) (v := ?_) rfl (by kernel_rfl) (by kernel_rfl) (by kernel_rfl) (fun _ _ _ h => h) (Or.inl ⟨by rfl, ?_⟩) ?_
  rotate_left
  · (intro w' _; go_simp; try with_reducible rfl)
  try simp only [Act.put, List.setIfInBounds_toArray, List.set_cons_zero, List.set_cons_succ]
  refine wpHK_pure (i := 7) (oi := Oper.mk (some 6) _ _ _ _ _) (v := ?_) rfl (by kernel_rfl) (by kernel_rfl) (by kernel_rfl) (fun _ _ _ h => h) (Or.inl ⟨by rfl, ?_⟩) ?_
  rotate_left
  · (intro w' _; go_simp; try with_reducible rfl)
  try simp only [Act.put, List.setIfInBounds_toArray, List.set_cons_zero, List.set_cons_succ]
  refine wpHK_done (by kernel_rfl) ?_ _
  refine NoPanic.normal ?_
  have q0 := (Env.at_ F2.out 2 rfl).cell 0
  have q1 := (Env.at_ F2.out 1 rfl).cell 0
  simp at q0 q1
  go_upto_region 4 with fail
  clear q0 q1
  have HU := runder_any (c := c1) (d := c2) R1.out.2.2.2 R2.out.2.2.2 R1.out.1 R2.out.1 (by have := R1.out.1; have := Hla.out.1; omega) (by have := R2.out.1; have := Hla.out.2; omega)
  rw [HC.out] at HU
  go_wp2_with fail
  refine HU.mono ?_
  rintro e V3 ⟨q, rfl, rfl⟩
  clear HU
  have F3 := Lib.hid (F2.out.drewN q)
  have R1' := Lib.hid (And.intro R1.out.1 (And.intro R1.out.2.1 (And.intro R1.out.2.2.1 (R1.out.2.2.2.drewN q))))
  have R2' := Lib.hid (And.intro R2.out.1 (And.intro R2.out.2.1 (And.intro R2.out.2.2.1 (R2.out.2.2.2.drewN q))))
  clear R1 R2
  skip
  go_upto_region 6 with fail
  have Cf6 := Lib.hid (fun (W : World) (h : Env w W [(w.heap.size + 1 + 1, 26, #[.bool false, .string ⟨#[]⟩]), (w.heap.size + 1, 26, #[.bool nb, .string sb]), (w.heap.size, 26, #[.bool na, .string sa])]) => (show W.cell? ⟨w.heap.size, 0, none⟩ = some (.bool na) ∧ W.cell? ⟨w.heap.size, 1, none⟩ = some (.string sa) ∧ W.cell? ⟨w.heap.size + 1, 0, none⟩ = some (.bool nb) ∧ W.cell? ⟨w.heap.size + 1, 1, none⟩ = some (.string sb) from ⟨(Env.at_ h 2 rfl).cell 0, (Env.at_ h 2 rfl).cell 1, (Env.at_ h 1 rfl).cell 0, (Env.at_ h 1 rfl).cell 1⟩))
  refine wp_region_noPanic ?_
  refine wp_region_HK (fun w' => w'.cell? ⟨w.heap.size, 0, none⟩ = some (.bool na) ∧ w'.cell? ⟨w.heap.size, 1, none⟩ = some (.string sa) ∧ w'.cell? ⟨w.heap.size + 1, 0, none⟩ = some (.bool nb) ∧ w'.cell? ⟨w.heap.size + 1, 1, none⟩ = some (.string sb)) 6 (by kernel_rfl) (Cf6.out _ F3.out.drew) (fun hHeld => ?_)
  refine wpHK_pure (i := 0) (oi := Oper.mk (some 34) _ _ _ _ _) (v := ?_) rfl (by kernel_rfl) (by kernel_rfl) (by kernel_rfl) (fun _ _ _ h => h) (Or.inl ⟨by rfl, ?_⟩) ?_
  rotate_left
  · (intro w' _; go_simp; try with_reducible rfl)
  try simp only [Act.put, List.setIfInBounds_toArray, List.set_cons_zero, List.set_cons_succ]
  refine wpHK_pure (i := 2) (oi := Oper.mk (some 36) _ _ _ _ _) (v := ?_) rfl (by kernel_rfl) (by kernel_rfl) (by kernel_rfl) (fun _ _ _ h => h) (Or.inl ⟨by rfl, ?_⟩) ?_
  rotate_left
  · (intro w' _; go_simp; try with_reducible rfl)
  try simp only [Act.put, List.setIfInBounds_toArray, List.set_cons_zero, List.set_cons_succ]
  refine wpHK_pure (i := 3) (oi := Oper.mk (some 37) _ _ _ _ _) (v := ?_) rfl (by kernel_rfl) (by kernel_rfl) (by kernel_rfl) (fun _ _ _ h => h) (Or.inl ⟨by rfl, ?_⟩) ?_
  rotate_left
  · (intro w' _; go_simp; try with_reducible rfl)
  try simp only [Act.put, List.setIfInBounds_toArray, List.set_cons_zero, List.set_cons_succ]
  refine wpHK_take (i := 1) (oi := Oper.mk (some 35) _ _ _ _ _) (v := ?_) rfl (by kernel_rfl) (by kernel_rfl) (by kernel_rfl) (by kernel_rfl) (fun _ _ _ h => h) (Or.inl ⟨by rfl, ?_⟩) (by assumption) ?_
  rotate_left
  · (intro w' hSw; (try dsimp only at hSw); (obtain ⟨s0, s1, s2, s3⟩ := hSw); go_simp; try with_reducible rfl)
  try simp only [Act.put, List.setIfInBounds_toArray, List.set_cons_zero, List.set_cons_succ]
  refine wpHK_one (j := 4) (o := Oper.mk (some 38) _ _ _ _ _) rfl (by kernel_rfl) (fun K hK => ?_)
  go_simp
  refine (rless_any (w := (V2.drewN q).drew) R2'.out.2.2.2 R1'.out.2.2.2 (Nat.le_refl _) R2'.out.1 R1'.out.1 (by have := R2'.out.1; have := Hla.out.2; omega) (by rw [R1'.out.1, R2'.out.1]; exact len_mono Hle.out) (by rw [val_w, val_w]; exact Hle.out) (wd_w _) (wd_w _)).mono ?_
  rintro e V4 ⟨A3, m3, c3, rfl, hm, hmc, hcl, hr, hb⟩
  simp only [val_w] at hm hr
  have F4 := Lib.hid (Env.call F3.out.drew hb)
  have R3 := Lib.hid (And.intro hm.out (And.intro hmc (And.intro hcl hr)))
  clear hm hmc hcl hr hb
  refine hK.out _ _ (Cf6.out _ F4.out) (fun _ => ?_)
  clear hK K hHeld
  have hHeld := (Cf6.out _ F4.out)
  try simp only [Act.put, List.setIfInBounds_toArray, List.set_cons_zero, List.set_cons_succ]
  refine wpHK_one (j := 5) (o := Oper.mk (some 39) _ _ _ _ _) rfl (by kernel_rfl) (fun K hK => ?_)
  go_simp
  have HM := made_any (w := _) (neg := nb) R3.out.2.2.2 (Nat.le_refl _) R3.out.1 R3.out.2.1 R3.out.2.2.1 (by have h1 := R3.out.1; have h2 := Hla.out; have h3 := len_mono (a := b - a) (b := b) (Nat.sub_le _ _); omega) (wd_w _)
  rw [val_w, sgn_sub' Hne.out Hle.out, ← Hnum.out.1, ← Hnum.out.2, ez] at HM
  refine HM.mono ?_
  rintro e V5 ⟨rfl, hb⟩
  have F5 := Lib.hid (Env.call F4.out hb)
  clear hb HM
  refine hK.out _ _ (Cf6.out _ F5.out) (fun _ => ?_)
  clear hK K hHeld
  have hHeld := (Cf6.out _ F5.out)
  try simp only [Act.put, List.setIfInBounds_toArray, List.set_cons_zero, List.set_cons_succ]
  refine wpHK_tail (j := 6) (o := Oper.mk (none) _ _ _ _ _) rfl (by kernel_rfl) (by decide) (fun K hK => ?_)
  have n4 := Env.at_ F5.out 0 rfl
  have y0 := n4.cell 0
  have y1 := n4.cell 1
  have y2 := n4.frozen 0
  have y3 := n4.frozen 1
  simp at y0 y1
  go_simp
  refine hK.out _ _ ?_
  clear hK K
  try simp only [Act.put, List.setIfInBounds_toArray, List.set_cons_zero, List.set_cons_succ]
  refine wpHK_done (by kernel_rfl) ?_ _
  refine NoPanic.normal ?_
  go_wp2_with fail
  have n5 := ((Env.at_ F5.out 0 rfl).set_ 0 (.bool zs)).set_ 1 (.string zb)
  have d0 := n5.cell 0
  have d1 := n5.cell 1
  simp at d0 d1
  refine bodyPost_ret (v := .agg #[.bool zs, .string zb]) (by simp [results, Try.results17, go_sem, d0, d1]) rfl ?_
  exact ⟨by rw [ez], ((F5.out.1).setCell (by show w.heap.size ≤ w.heap.size + 1 + 1; omega) _).setCell (by show w.heap.size ≤ w.heap.size + 1 + 1; omega) _⟩
theorem rplus_any {w : World} {na nb : Bool} {sa sb : ByteArray} (ha : Fmd sa) (hb : Fmd sb) :
    Calls Try.prog 17 #[.agg #[.bool na, .string sa], .agg #[.bool nb, .string sb]] w (Calm w (enc (num (na, sa) + num (nb, sb)))) := by
  by_cases hs : na = nb
  · exact rplus_same ha hb hs
  · rcases Nat.lt_or_ge (bval sa.data.toList) (bval sb.data.toList) with h | h
    · exact rplus_lt ha hb hs h
    · exact rplus_ge ha hb hs h
theorem num_neg {n : Bool} {s : ByteArray} (hf : Fmd s) : num ((!n && decide (0 < s.size)), s) = -num (n, s) := by
  have h1 := enc_neg (n := n) hf
  have hl : s.data.toList.length = s.size := Array.length_toList
  unfold num
  dsimp only
  rcases Nat.eq_zero_or_pos s.size with h0 | h0
  · have he : s.data.toList = [] := List.eq_nil_of_length_eq_zero (by omega)
    rw [he, bval_nil]
    cases n <;> simp [sgn]
  · rw [decide_eq_true h0, Bool.and_true]
    unfold sgn
    cases n <;> simp
theorem cmp_sg {x y : Int} : (sg x ≠ sg y → cmpI x y = if sg x < sg y then -1 else 1) ∧ (sg x = sg y → sg x * cmpN x.natAbs y.natAbs = cmpI x y) := by
  unfold sg cmpI cmpN
  by_cases hx0 : x = 0 <;> by_cases hy0 : y = 0 <;> by_cases hx : x < 0 <;> by_cases hy : y < 0 <;> simp [hx0, hy0, hx, hy] <;> (try omega) <;> (repeat' split) <;> omega
theorem cmp_wrap {z : Int} {a b : Nat} (h1 : -1 ≤ z) (h2 : z ≤ 1) : IntKind.i64.wrap (z * cmpN a b) = z * cmpN a b := by
  have h3 : cmpN a b = -1 ∨ cmpN a b = 0 ∨ cmpN a b = 1 := by unfold cmpN; split <;> first | omega | (split <;> omega)
  rcases h3 with h | h | h <;> rw [h] <;> exact IntWalk.i64_in _ (by omega)
theorem sg_bounds (x : Int) : -1 ≤ sg x ∧ sg x ≤ 1 := by
  unfold sg
  by_cases h0 : x = 0
  · simp [h0]
  · rw [if_neg h0]
    split <;> omega
set_option maxRecDepth 100000 in
set_option maxHeartbeats 4000000 in
theorem rminus_any {w : World} {na nb : Bool} {sa sb : ByteArray} (ha : Fmd sa) (hb : Fmd sb) :
    Calls Try.prog 31 #[.agg #[.bool na, .string sa], .agg #[.bool nb, .string sb]] w (Calm w (enc (num (na, sa) - num (nb, sb)))) := by
  obtain ⟨zs, zb, ez⟩ : ∃ s b, enc (num (na, sa) - num (nb, sb)) = .agg #[.bool s, .string b] := ⟨_, _, rfl⟩
  have H47 := Lib.hid (fun W : World => rneg_any (w := W) (n := nb) hb)
  rw [enc_neg hb] at H47
  have Hnc := Lib.hid (num_neg (n := nb) hb)
  generalize (!nb && decide (0 < sb.size)) = nc at H47 Hnc
  have H17 := Lib.hid (fun W : World => rplus_any (w := W) (na := na) (nb := nc) ha hb)
  rw [Hnc.out, ← Int.sub_eq_add_neg, ez] at H17
  have HA := Lib.hid (fun W : World => words_any (w := W) (by have := ha.2; omega) ha.1)
  have HB := Lib.hid (fun W : World => words_any (w := W) (by have := hb.2; omega) hb.1)
  have Hla := Lib.hid (And.intro ha.len hb.len)
  have Hab := Lib.hid (And.intro ha hb)
  obtain ⟨a, hae⟩ : ∃ a, a = bval sa.data.toList := ⟨_, rfl⟩
  obtain ⟨b, hbe⟩ : ∃ b, b = bval sb.data.toList := ⟨_, rfl⟩
  rw [← hae] at HA
  rw [← hbe] at HB
  rw [← hae, ← hbe] at Hla
  have Hnum := Lib.hid (show num (na, sa) = sgn na a ∧ num (nb, sb) = sgn nb b from ⟨by rw [hae]; rfl, by rw [hbe]; rfl⟩)
  (try rw [← hae, ← hbe])
  clear hae hbe ha hb
  have E0 := Lib.hid (Env.nil w)
  go_enter Try.func31, Try.ntmps31
  clear HA HB Hla Hnum Hab
  go_upto_region 1 with fail
  have E1 : Hid (Env w (((w.alloc (.cells #[.bool na, .string sa] 26)).alloc (.cells #[.bool nb, .string sb] 26)).alloc (.cells #[.bool false, .string ⟨#[]⟩] 26)) [(w.heap.size + 1 + 1, 26, #[.bool false, .string ⟨#[]⟩]), (w.heap.size + 1, 26, #[.bool nb, .string sb]), (w.heap.size, 26, #[.bool na, .string sa])]) := Lib.hid (by have h := (Env.new (Env.new (Env.new E0.out 26 #[.bool na, .string sa]) 26 #[.bool nb, .string sb]) 26 #[.bool false, .string ⟨#[]⟩]); (try simp only [World.size_alloc] at h); exact h)
  generalize (((w.alloc (.cells #[.bool na, .string sa] 26)).alloc (.cells #[.bool nb, .string sb] 26)).alloc (.cells #[.bool false, .string ⟨#[]⟩] 26)) = W1 at E1 ⊢
  have Cf1 := Lib.hid (fun (W : World) (h : Env w W [(w.heap.size + 1 + 1, 26, #[.bool false, .string ⟨#[]⟩]), (w.heap.size + 1, 26, #[.bool nb, .string sb]), (w.heap.size, 26, #[.bool na, .string sa])]) => (show W.cell? ⟨w.heap.size, 0, none⟩ = some (.bool na) ∧ W.cell? ⟨w.heap.size, 1, none⟩ = some (.string sa) ∧ W.cell? ⟨w.heap.size + 1, 0, none⟩ = some (.bool nb) ∧ W.cell? ⟨w.heap.size + 1, 1, none⟩ = some (.string sb) from ⟨(Env.at_ h 2 rfl).cell 0, (Env.at_ h 2 rfl).cell 1, (Env.at_ h 1 rfl).cell 0, (Env.at_ h 1 rfl).cell 1⟩))
  refine wp_region_noPanic ?_
  refine wp_region_HK (fun w' => w'.cell? ⟨w.heap.size, 0, none⟩ = some (.bool na) ∧ w'.cell? ⟨w.heap.size, 1, none⟩ = some (.string sa) ∧ w'.cell? ⟨w.heap.size + 1, 0, none⟩ = some (.bool nb) ∧ w'.cell? ⟨w.heap.size + 1, 1, none⟩ = some (.string sb)) 4 (by kernel_rfl) (Cf1.out _ E1.out.drew) (fun hHeld => ?_)
  refine wpHK_take (i := 0) (oi := Oper.mk (some 5) _ _ _ _ _) (v := ?_) rfl (by kernel_rfl) (by kernel_rfl) (by kernel_rfl) (by kernel_rfl) (fun _ _ _ h => h) (Or.inl ⟨by rfl, ?_⟩) (by assumption) ?_
  rotate_left
  · (intro w' hSw; (try dsimp only at hSw); (obtain ⟨s0, s1, s2, s3⟩ := hSw); go_simp; try with_reducible rfl)
  try simp only [Act.put, List.setIfInBounds_toArray, List.set_cons_zero, List.set_cons_succ]
  refine wpHK_take (i := 1) (oi := Oper.mk (some 6) _ _ _ _ _) (v := ?_) rfl (by kernel_rfl) (by kernel_rfl) (by kernel_rfl) (by kernel_rfl) (fun _ _ _ h => h) (Or.inl ⟨by rfl, ?_⟩) (by assumption) ?_
  rotate_left
  · (intro w' hSw; (try dsimp only at hSw); (obtain ⟨s0, s1, s2, s3⟩ := hSw); go_simp; try with_reducible rfl)
  try simp only [Act.put, List.setIfInBounds_toArray, List.set_cons_zero, List.set_cons_succ]
  refine wpHK_one (j := 2) (o := Oper.mk (some 7) _ _ _ _ _) rfl (by kernel_rfl) (fun K hK => ?_)
  go_simp
  refine (H47.out _).mono ?_
  rintro e V1 ⟨rfl, hb⟩
  have F1 := Lib.hid (Env.call E1.out.drew hb)
  clear hb
  refine hK.out _ _ (Cf1.out _ F1.out) (fun _ => ?_)
  clear hK K hHeld
  have hHeld := (Cf1.out _ F1.out)
  try simp only [Act.put, List.setIfInBounds_toArray, List.set_cons_zero, List.set_cons_succ]
  refine wpHK_one (j := 3) (o := Oper.mk (some 8) _ _ _ _ _) rfl (by kernel_rfl) (fun K hK => ?_)
  go_simp
  refine (H17.out _).mono ?_
  rintro e V2 ⟨rfl, hb⟩
  have F2 := Lib.hid (Env.call F1.out hb)
  clear hb
  refine hK.out _ _ (Cf1.out _ F2.out) (fun _ => ?_)
  clear hK K hHeld
  have hHeld := (Cf1.out _ F2.out)
  try simp only [Act.put, List.setIfInBounds_toArray, List.set_cons_zero, List.set_cons_succ]
  refine wpHK_tail (j := 4) (o := Oper.mk (none) _ _ _ _ _) rfl (by kernel_rfl) (by decide) (fun K hK => ?_)
  have n4 := Env.at_ F2.out 0 rfl
  have y0 := n4.cell 0
  have y1 := n4.cell 1
  have y2 := n4.frozen 0
  have y3 := n4.frozen 1
  simp at y0 y1
  go_simp
  refine hK.out _ _ ?_
  clear hK K
  try simp only [Act.put, List.setIfInBounds_toArray, List.set_cons_zero, List.set_cons_succ]
  refine wpHK_done (by kernel_rfl) ?_ _
  refine NoPanic.normal ?_
  go_wp2_with fail
  have n5 := ((Env.at_ F2.out 0 rfl).set_ 0 (.bool zs)).set_ 1 (.string zb)
  have d0 := n5.cell 0
  have d1 := n5.cell 1
  simp at d0 d1
  refine bodyPost_ret (v := .agg #[.bool zs, .string zb]) (by simp [results, Try.results31, go_sem, d0, d1]) rfl ?_
  exact ⟨by rw [ez], ((F2.out.1).setCell (by show w.heap.size ≤ w.heap.size + 1 + 1; omega) _).setCell (by show w.heap.size ≤ w.heap.size + 1 + 1; omega) _⟩
set_option maxRecDepth 100000 in
set_option maxHeartbeats 4000000 in
theorem rcmp_lt {w : World} {na nb : Bool} {sa sb : ByteArray} (ha : Fmd sa) (hb : Fmd sb) (hs : sg (num (na, sa)) ≠ sg (num (nb, sb))) (hlt : sg (num (na, sa)) < sg (num (nb, sb))) :
    Calls Try.prog 30 #[.agg #[.bool na, .string sa], .agg #[.bool nb, .string sb]] w (Calm w (.int .i64 (cmpI (num (na, sa)) (num (nb, sb))))) := by
  have HS := Lib.hid (fun W : World => rsign_any (w := W) (n := na) ha)
  have HT := Lib.hid (fun W : World => rsign_any (w := W) (n := nb) hb)
  have hb1 := sg_bounds (num (na, sa))
  have hb2 := sg_bounds (num (nb, sb))
  obtain ⟨hb11, hb12⟩ := hb1
  obtain ⟨hb21, hb22⟩ := hb2
  have hz := cmp_sg.1 hs
  rw [hz]
  rw [if_pos hlt]
  have hbe : (sg (num (na, sa)) == sg (num (nb, sb))) = false := beq_eq_false_iff_ne.2 hs
  generalize sg (num (na, sa)) = zx at *
  generalize sg (num (nb, sb)) = zy at *
  clear hz
  have HA := Lib.hid (fun W : World => words_any (w := W) (by have := ha.2; omega) ha.1)
  have HB := Lib.hid (fun W : World => words_any (w := W) (by have := hb.2; omega) hb.1)
  have Hla := Lib.hid (And.intro ha.len hb.len)
  have Hab := Lib.hid (And.intro ha hb)
  obtain ⟨a, hae⟩ : ∃ a, a = bval sa.data.toList := ⟨_, rfl⟩
  obtain ⟨b, hbe⟩ : ∃ b, b = bval sb.data.toList := ⟨_, rfl⟩
  rw [← hae] at HA
  rw [← hbe] at HB
  rw [← hae, ← hbe] at Hla
  have Hnum := Lib.hid (show num (na, sa) = sgn na a ∧ num (nb, sb) = sgn nb b from ⟨by rw [hae]; rfl, by rw [hbe]; rfl⟩)
  (try rw [← hae, ← hbe])
  clear hae hbe ha hb
  have E0 := Lib.hid (Env.nil w)
  go_enter Try.func30, Try.ntmps30
  go_upto_region 1 with fail
  have E1 : Hid (Env w ((w.alloc (.cells #[.bool na, .string sa] 26)).alloc (.cells #[.bool nb, .string sb] 26)) [(w.heap.size + 1, 26, #[.bool nb, .string sb]), (w.heap.size, 26, #[.bool na, .string sa])]) := Lib.hid (by have h := (Env.new (Env.new E0.out 26 #[.bool na, .string sa]) 26 #[.bool nb, .string sb]); (try simp only [World.size_alloc] at h); exact h)
  generalize ((w.alloc (.cells #[.bool na, .string sa] 26)).alloc (.cells #[.bool nb, .string sb] 26)) = W1 at E1 ⊢
  have Cf1 := Lib.hid (fun (W : World) (h : Env w W [(w.heap.size + 1, 26, #[.bool nb, .string sb]), (w.heap.size, 26, #[.bool na, .string sa])]) => (show W.cell? ⟨w.heap.size, 0, none⟩ = some (.bool na) ∧ W.cell? ⟨w.heap.size, 1, none⟩ = some (.string sa) ∧ W.cell? ⟨w.heap.size + 1, 0, none⟩ = some (.bool nb) ∧ W.cell? ⟨w.heap.size + 1, 1, none⟩ = some (.string sb) from ⟨(Env.at_ h 1 rfl).cell 0, (Env.at_ h 1 rfl).cell 1, (Env.at_ h 0 rfl).cell 0, (Env.at_ h 0 rfl).cell 1⟩))
  refine wp_region_noPanic ?_
  refine wp_region_HK (fun w' => w'.cell? ⟨w.heap.size, 0, none⟩ = some (.bool na) ∧ w'.cell? ⟨w.heap.size, 1, none⟩ = some (.string sa) ∧ w'.cell? ⟨w.heap.size + 1, 0, none⟩ = some (.bool nb) ∧ w'.cell? ⟨w.heap.size + 1, 1, none⟩ = some (.string sb)) 4 (by kernel_rfl) (Cf1.out _ E1.out.drew) (fun hHeld => ?_)
  refine wpHK_take (i := 0) (oi := Oper.mk (some 7) _ _ _ _ _) (v := ?_) rfl (by kernel_rfl) (by kernel_rfl) (by kernel_rfl) (by kernel_rfl) (fun _ _ _ h => h) (Or.inl ⟨by rfl, ?_⟩) (by assumption) ?_
  rotate_left
  · (intro w' hSw; (try dsimp only at hSw); (obtain ⟨s0, s1, s2, s3⟩ := hSw); go_simp; try with_reducible rfl)
  try simp only [Act.put, List.setIfInBounds_toArray, List.set_cons_zero, List.set_cons_succ]
  refine wpHK_take (i := 2) (oi := Oper.mk (some 9) _ _ _ _ _) (v := ?_) rfl (by kernel_rfl) (by kernel_rfl) (by kernel_rfl) (by kernel_rfl) (fun _ _ _ h => h) (Or.inl ⟨by rfl, ?_⟩) (by assumption) ?_
  rotate_left
  · (intro w' hSw; (try dsimp only at hSw); (obtain ⟨s0, s1, s2, s3⟩ := hSw); go_simp; try with_reducible rfl)
  try simp only [Act.put, List.setIfInBounds_toArray, List.set_cons_zero, List.set_cons_succ]
  refine wpHK_one (j := 1) (o := Oper.mk (some 8) _ _ _ _ _) rfl (by kernel_rfl) (fun K hK => ?_)
  go_simp
  refine (HS.out _).mono ?_
  rintro e V1 ⟨rfl, hb⟩
  have F1 := Lib.hid (Env.call E1.out.drew hb)
  clear hb
  refine hK.out _ _ (Cf1.out _ F1.out) (fun _ => ?_)
  clear hK K hHeld
  have hHeld := (Cf1.out _ F1.out)
  try simp only [Act.put, List.setIfInBounds_toArray, List.set_cons_zero, List.set_cons_succ]
  refine wpHK_one (j := 3) (o := Oper.mk (some 10) _ _ _ _ _) rfl (by kernel_rfl) (fun K hK => ?_)
  go_simp
  refine (HT.out _).mono ?_
  rintro e V2 ⟨rfl, hb⟩
  have F2 := Lib.hid (Env.call F1.out hb)
  clear hb
  refine hK.out _ _ (Cf1.out _ F2.out) (fun _ => ?_)
  clear hK K hHeld
  have hHeld := (Cf1.out _ F2.out)
  try simp only [Act.put, List.setIfInBounds_toArray, List.set_cons_zero, List.set_cons_succ]
  refine wpHK_pure (i := 4) (oi := Oper.mk (some 5) _ _ _ _ _) (v := ?_) rfl (by kernel_rfl) (by kernel_rfl) (by kernel_rfl) (fun _ _ _ h => h) (Or.inl ⟨by rfl, ?_⟩) ?_
  rotate_left
  · (intro w' _; go_simp; try with_reducible rfl)
  try simp only [Act.put, List.setIfInBounds_toArray, List.set_cons_zero, List.set_cons_succ]
  refine wpHK_pure (i := 5) (oi := Oper.mk (some 6) _ _ _ _ _) (v := ?_) rfl (by kernel_rfl) (by kernel_rfl) (by kernel_rfl) (fun _ _ _ h => h) (Or.inl ⟨by rfl, ?_⟩) ?_
  rotate_left
  · (intro w' _; go_simp; try with_reducible rfl)
  try simp only [Act.put, List.setIfInBounds_toArray, List.set_cons_zero, List.set_cons_succ]
  refine wpHK_done (by kernel_rfl) ?_ _
  refine NoPanic.normal ?_
  go_wp2_with fail
  go_ret
  exact ⟨rfl, F2.out.1⟩
set_option maxRecDepth 100000 in
set_option maxHeartbeats 4000000 in
theorem rcmp_gt {w : World} {na nb : Bool} {sa sb : ByteArray} (ha : Fmd sa) (hb : Fmd sb) (hs : sg (num (na, sa)) ≠ sg (num (nb, sb))) (hlt : ¬ sg (num (na, sa)) < sg (num (nb, sb))) :
    Calls Try.prog 30 #[.agg #[.bool na, .string sa], .agg #[.bool nb, .string sb]] w (Calm w (.int .i64 (cmpI (num (na, sa)) (num (nb, sb))))) := by
  have HS := Lib.hid (fun W : World => rsign_any (w := W) (n := na) ha)
  have HT := Lib.hid (fun W : World => rsign_any (w := W) (n := nb) hb)
  have hb1 := sg_bounds (num (na, sa))
  have hb2 := sg_bounds (num (nb, sb))
  obtain ⟨hb11, hb12⟩ := hb1
  obtain ⟨hb21, hb22⟩ := hb2
  have hz := cmp_sg.1 hs
  rw [hz]
  rw [if_neg hlt]
  have hbe : (sg (num (na, sa)) == sg (num (nb, sb))) = false := beq_eq_false_iff_ne.2 hs
  generalize sg (num (na, sa)) = zx at *
  generalize sg (num (nb, sb)) = zy at *
  clear hz
  have HA := Lib.hid (fun W : World => words_any (w := W) (by have := ha.2; omega) ha.1)
  have HB := Lib.hid (fun W : World => words_any (w := W) (by have := hb.2; omega) hb.1)
  have Hla := Lib.hid (And.intro ha.len hb.len)
  have Hab := Lib.hid (And.intro ha hb)
  obtain ⟨a, hae⟩ : ∃ a, a = bval sa.data.toList := ⟨_, rfl⟩
  obtain ⟨b, hbe⟩ : ∃ b, b = bval sb.data.toList := ⟨_, rfl⟩
  rw [← hae] at HA
  rw [← hbe] at HB
  rw [← hae, ← hbe] at Hla
  have Hnum := Lib.hid (show num (na, sa) = sgn na a ∧ num (nb, sb) = sgn nb b from ⟨by rw [hae]; rfl, by rw [hbe]; rfl⟩)
  (try rw [← hae, ← hbe])
  clear hae hbe ha hb
  have E0 := Lib.hid (Env.nil w)
  go_enter Try.func30, Try.ntmps30
  go_upto_region 1 with fail
  have E1 : Hid (Env w ((w.alloc (.cells #[.bool na, .string sa] 26)).alloc (.cells #[.bool nb, .string sb] 26)) [(w.heap.size + 1, 26, #[.bool nb, .string sb]), (w.heap.size, 26, #[.bool na, .string sa])]) := Lib.hid (by have h := (Env.new (Env.new E0.out 26 #[.bool na, .string sa]) 26 #[.bool nb, .string sb]); (try simp only [World.size_alloc] at h); exact h)
  generalize ((w.alloc (.cells #[.bool na, .string sa] 26)).alloc (.cells #[.bool nb, .string sb] 26)) = W1 at E1 ⊢
  have Cf1 := Lib.hid (fun (W : World) (h : Env w W [(w.heap.size + 1, 26, #[.bool nb, .string sb]), (w.heap.size, 26, #[.bool na, .string sa])]) => (show W.cell? ⟨w.heap.size, 0, none⟩ = some (.bool na) ∧ W.cell? ⟨w.heap.size, 1, none⟩ = some (.string sa) ∧ W.cell? ⟨w.heap.size + 1, 0, none⟩ = some (.bool nb) ∧ W.cell? ⟨w.heap.size + 1, 1, none⟩ = some (.string sb) from ⟨(Env.at_ h 1 rfl).cell 0, (Env.at_ h 1 rfl).cell 1, (Env.at_ h 0 rfl).cell 0, (Env.at_ h 0 rfl).cell 1⟩))
  refine wp_region_noPanic ?_
  refine wp_region_HK (fun w' => w'.cell? ⟨w.heap.size, 0, none⟩ = some (.bool na) ∧ w'.cell? ⟨w.heap.size, 1, none⟩ = some (.string sa) ∧ w'.cell? ⟨w.heap.size + 1, 0, none⟩ = some (.bool nb) ∧ w'.cell? ⟨w.heap.size + 1, 1, none⟩ = some (.string sb)) 4 (by kernel_rfl) (Cf1.out _ E1.out.drew) (fun hHeld => ?_)
  refine wpHK_take (i := 0) (oi := Oper.mk (some 7) _ _ _ _ _) (v := ?_) rfl (by kernel_rfl) (by kernel_rfl) (by kernel_rfl) (by kernel_rfl) (fun _ _ _ h => h) (Or.inl ⟨by rfl, ?_⟩) (by assumption) ?_
  rotate_left
  · (intro w' hSw; (try dsimp only at hSw); (obtain ⟨s0, s1, s2, s3⟩ := hSw); go_simp; try with_reducible rfl)
  try simp only [Act.put, List.setIfInBounds_toArray, List.set_cons_zero, List.set_cons_succ]
  refine wpHK_take (i := 2) (oi := Oper.mk (some 9) _ _ _ _ _) (v := ?_) rfl (by kernel_rfl) (by kernel_rfl) (by kernel_rfl) (by kernel_rfl) (fun _ _ _ h => h) (Or.inl ⟨by rfl, ?_⟩) (by assumption) ?_
  rotate_left
  · (intro w' hSw; (try dsimp only at hSw); (obtain ⟨s0, s1, s2, s3⟩ := hSw); go_simp; try with_reducible rfl)
  try simp only [Act.put, List.setIfInBounds_toArray, List.set_cons_zero, List.set_cons_succ]
  refine wpHK_one (j := 1) (o := Oper.mk (some 8) _ _ _ _ _) rfl (by kernel_rfl) (fun K hK => ?_)
  go_simp
  refine (HS.out _).mono ?_
  rintro e V1 ⟨rfl, hb⟩
  have F1 := Lib.hid (Env.call E1.out.drew hb)
  clear hb
  refine hK.out _ _ (Cf1.out _ F1.out) (fun _ => ?_)
  clear hK K hHeld
  have hHeld := (Cf1.out _ F1.out)
  try simp only [Act.put, List.setIfInBounds_toArray, List.set_cons_zero, List.set_cons_succ]
  refine wpHK_one (j := 3) (o := Oper.mk (some 10) _ _ _ _ _) rfl (by kernel_rfl) (fun K hK => ?_)
  go_simp
  refine (HT.out _).mono ?_
  rintro e V2 ⟨rfl, hb⟩
  have F2 := Lib.hid (Env.call F1.out hb)
  clear hb
  refine hK.out _ _ (Cf1.out _ F2.out) (fun _ => ?_)
  clear hK K hHeld
  have hHeld := (Cf1.out _ F2.out)
  try simp only [Act.put, List.setIfInBounds_toArray, List.set_cons_zero, List.set_cons_succ]
  refine wpHK_pure (i := 4) (oi := Oper.mk (some 5) _ _ _ _ _) (v := ?_) rfl (by kernel_rfl) (by kernel_rfl) (by kernel_rfl) (fun _ _ _ h => h) (Or.inl ⟨by rfl, ?_⟩) ?_
  rotate_left
  · (intro w' _; go_simp; try with_reducible rfl)
  try simp only [Act.put, List.setIfInBounds_toArray, List.set_cons_zero, List.set_cons_succ]
  refine wpHK_pure (i := 5) (oi := Oper.mk (some 6) _ _ _ _ _) (v := ?_) rfl (by kernel_rfl) (by kernel_rfl) (by kernel_rfl) (fun _ _ _ h => h) (Or.inl ⟨by rfl, ?_⟩) ?_
  rotate_left
  · (intro w' _; go_simp; try with_reducible rfl)
  try simp only [Act.put, List.setIfInBounds_toArray, List.set_cons_zero, List.set_cons_succ]
  refine wpHK_done (by kernel_rfl) ?_ _
  refine NoPanic.normal ?_
  go_wp2_with fail
  go_ret
  exact ⟨rfl, F2.out.1⟩
set_option maxRecDepth 100000 in
set_option maxHeartbeats 4000000 in
theorem rcmp_same {w : World} {na nb : Bool} {sa sb : ByteArray} (ha : Fmd sa) (hb : Fmd sb) (hs : sg (num (na, sa)) = sg (num (nb, sb))) :
    Calls Try.prog 30 #[.agg #[.bool na, .string sa], .agg #[.bool nb, .string sb]] w (Calm w (.int .i64 (cmpI (num (na, sa)) (num (nb, sb))))) := by
  have HS := Lib.hid (fun W : World => rsign_any (w := W) (n := na) ha)
  have HT := Lib.hid (fun W : World => rsign_any (w := W) (n := nb) hb)
  have hb1 := sg_bounds (num (na, sa))
  have hb2 := sg_bounds (num (nb, sb))
  obtain ⟨hb11, hb12⟩ := hb1
  obtain ⟨hb21, hb22⟩ := hb2
  have hz := cmp_sg.2 hs
  have hbe : (sg (num (na, sa)) == sg (num (nb, sb))) = true := beq_iff_eq.2 hs
  rw [show (num (na, sa)).natAbs = bval sa.data.toList from sgn_abs _ _, show (num (nb, sb)).natAbs = bval sb.data.toList from sgn_abs _ _] at hz
  rw [← hs] at HT hbe
  rw [← hz]
  clear hz hs hb21 hb22
  generalize sg (num (na, sa)) = zx at *
  have HA := Lib.hid (fun W : World => words_any (w := W) (by have := ha.2; omega) ha.1)
  have HB := Lib.hid (fun W : World => words_any (w := W) (by have := hb.2; omega) hb.1)
  have Hla := Lib.hid (And.intro ha.len hb.len)
  have Hab := Lib.hid (And.intro ha hb)
  obtain ⟨a, hae⟩ : ∃ a, a = bval sa.data.toList := ⟨_, rfl⟩
  obtain ⟨b, hbe⟩ : ∃ b, b = bval sb.data.toList := ⟨_, rfl⟩
  rw [← hae] at HA
  rw [← hbe] at HB
  rw [← hae, ← hbe] at Hla
  have Hnum := Lib.hid (show num (na, sa) = sgn na a ∧ num (nb, sb) = sgn nb b from ⟨by rw [hae]; rfl, by rw [hbe]; rfl⟩)
  (try rw [← hae, ← hbe])
  clear hae hbe ha hb
  have E0 := Lib.hid (Env.nil w)
  go_enter Try.func30, Try.ntmps30
  go_upto_region 1 with fail
  have E1 : Hid (Env w ((w.alloc (.cells #[.bool na, .string sa] 26)).alloc (.cells #[.bool nb, .string sb] 26)) [(w.heap.size + 1, 26, #[.bool nb, .string sb]), (w.heap.size, 26, #[.bool na, .string sa])]) := Lib.hid (by have h := (Env.new (Env.new E0.out 26 #[.bool na, .string sa]) 26 #[.bool nb, .string sb]); (try simp only [World.size_alloc] at h); exact h)
  generalize ((w.alloc (.cells #[.bool na, .string sa] 26)).alloc (.cells #[.bool nb, .string sb] 26)) = W1 at E1 ⊢
  have Cf1 := Lib.hid (fun (W : World) (h : Env w W [(w.heap.size + 1, 26, #[.bool nb, .string sb]), (w.heap.size, 26, #[.bool na, .string sa])]) => (show W.cell? ⟨w.heap.size, 0, none⟩ = some (.bool na) ∧ W.cell? ⟨w.heap.size, 1, none⟩ = some (.string sa) ∧ W.cell? ⟨w.heap.size + 1, 0, none⟩ = some (.bool nb) ∧ W.cell? ⟨w.heap.size + 1, 1, none⟩ = some (.string sb) from ⟨(Env.at_ h 1 rfl).cell 0, (Env.at_ h 1 rfl).cell 1, (Env.at_ h 0 rfl).cell 0, (Env.at_ h 0 rfl).cell 1⟩))
  refine wp_region_noPanic ?_
  refine wp_region_HK (fun w' => w'.cell? ⟨w.heap.size, 0, none⟩ = some (.bool na) ∧ w'.cell? ⟨w.heap.size, 1, none⟩ = some (.string sa) ∧ w'.cell? ⟨w.heap.size + 1, 0, none⟩ = some (.bool nb) ∧ w'.cell? ⟨w.heap.size + 1, 1, none⟩ = some (.string sb)) 4 (by kernel_rfl) (Cf1.out _ E1.out.drew) (fun hHeld => ?_)
  refine wpHK_take (i := 0) (oi := Oper.mk (some 7) _ _ _ _ _) (v := ?_) rfl (by kernel_rfl) (by kernel_rfl) (by kernel_rfl) (by kernel_rfl) (fun _ _ _ h => h) (Or.inl ⟨by rfl, ?_⟩) (by assumption) ?_
  rotate_left
  · (intro w' hSw; (try dsimp only at hSw); (obtain ⟨s0, s1, s2, s3⟩ := hSw); go_simp; try with_reducible rfl)
  try simp only [Act.put, List.setIfInBounds_toArray, List.set_cons_zero, List.set_cons_succ]
  refine wpHK_take (i := 2) (oi := Oper.mk (some 9) _ _ _ _ _) (v := ?_) rfl (by kernel_rfl) (by kernel_rfl) (by kernel_rfl) (by kernel_rfl) (fun _ _ _ h => h) (Or.inl ⟨by rfl, ?_⟩) (by assumption) ?_
  rotate_left
  · (intro w' hSw; (try dsimp only at hSw); (obtain ⟨s0, s1, s2, s3⟩ := hSw); go_simp; try with_reducible rfl)
  try simp only [Act.put, List.setIfInBounds_toArray, List.set_cons_zero, List.set_cons_succ]
  refine wpHK_one (j := 1) (o := Oper.mk (some 8) _ _ _ _ _) rfl (by kernel_rfl) (fun K hK => ?_)
  go_simp
  refine (HS.out _).mono ?_
  rintro e V1 ⟨rfl, hb⟩
  have F1 := Lib.hid (Env.call E1.out.drew hb)
  clear hb
  refine hK.out _ _ (Cf1.out _ F1.out) (fun _ => ?_)
  clear hK K hHeld
  have hHeld := (Cf1.out _ F1.out)
  try simp only [Act.put, List.setIfInBounds_toArray, List.set_cons_zero, List.set_cons_succ]
  refine wpHK_one (j := 3) (o := Oper.mk (some 10) _ _ _ _ _) rfl (by kernel_rfl) (fun K hK => ?_)
  go_simp
  refine (HT.out _).mono ?_
  rintro e V2 ⟨rfl, hb⟩
  have F2 := Lib.hid (Env.call F1.out hb)
  clear hb
  refine hK.out _ _ (Cf1.out _ F2.out) (fun _ => ?_)
  clear hK K hHeld
  have hHeld := (Cf1.out _ F2.out)
  try simp only [Act.put, List.setIfInBounds_toArray, List.set_cons_zero, List.set_cons_succ]
  refine wpHK_pure (i := 4) (oi := Oper.mk (some 5) _ _ _ _ _) (v := ?_) rfl (by kernel_rfl) (by kernel_rfl) (by kernel_rfl) (fun _ _ _ h => h) (Or.inl ⟨by rfl, ?_⟩) ?_
  rotate_left
  · (intro w' _; go_simp; try with_reducible rfl)
  try simp only [Act.put, List.setIfInBounds_toArray, List.set_cons_zero, List.set_cons_succ]
  refine wpHK_pure (i := 5) (oi := Oper.mk (some 6) _ _ _ _ _) (v := ?_) rfl (by kernel_rfl) (by kernel_rfl) (by kernel_rfl) (fun _ _ _ h => h) (Or.inl ⟨by rfl, ?_⟩) ?_
  rotate_left
  · (intro w' _; go_simp; try with_reducible rfl)
  try simp only [Act.put, List.setIfInBounds_toArray, List.set_cons_zero, List.set_cons_succ]
  refine wpHK_done (by kernel_rfl) ?_ _
  refine NoPanic.normal ?_
  go_upto_region 6 with fail
  have hw := cmp_wrap (a := a) (b := b) hb11 hb12
  have Cf6 := Lib.hid (fun (W : World) (h : Env w W [(w.heap.size + 1, 26, #[.bool nb, .string sb]), (w.heap.size, 26, #[.bool na, .string sa])]) => (show W.cell? ⟨w.heap.size, 0, none⟩ = some (.bool na) ∧ W.cell? ⟨w.heap.size, 1, none⟩ = some (.string sa) ∧ W.cell? ⟨w.heap.size + 1, 0, none⟩ = some (.bool nb) ∧ W.cell? ⟨w.heap.size + 1, 1, none⟩ = some (.string sb) from ⟨(Env.at_ h 1 rfl).cell 0, (Env.at_ h 1 rfl).cell 1, (Env.at_ h 0 rfl).cell 0, (Env.at_ h 0 rfl).cell 1⟩))
  refine wp_region_noPanic ?_
  refine wp_region_HK (fun w' => w'.cell? ⟨w.heap.size, 0, none⟩ = some (.bool na) ∧ w'.cell? ⟨w.heap.size, 1, none⟩ = some (.string sa) ∧ w'.cell? ⟨w.heap.size + 1, 0, none⟩ = some (.bool nb) ∧ w'.cell? ⟨w.heap.size + 1, 1, none⟩ = some (.string sb)) 9 (by kernel_rfl) (Cf6.out _ F2.out.drew) (fun hHeld => ?_)
  refine wpHK_pure (i := 0) (oi := Oper.mk (some 17) _ _ _ _ _) (v := ?_) rfl (by kernel_rfl) (by kernel_rfl) (by kernel_rfl) (fun _ _ _ h => h) (Or.inl ⟨by rfl, ?_⟩) ?_
  rotate_left
  · (intro w' _; go_simp; try with_reducible rfl)
  try simp only [Act.put, List.setIfInBounds_toArray, List.set_cons_zero, List.set_cons_succ]
  refine wpHK_pure (i := 1) (oi := Oper.mk (some 18) _ _ _ _ _) (v := ?_) rfl (by kernel_rfl) (by kernel_rfl) (by kernel_rfl) (fun _ _ _ h => h) (Or.inl ⟨by rfl, ?_⟩) ?_
  rotate_left
  · (intro w' _; go_simp; try with_reducible rfl)
  try simp only [Act.put, List.setIfInBounds_toArray, List.set_cons_zero, List.set_cons_succ]
  refine wpHK_pure (i := 4) (oi := Oper.mk (some 21) _ _ _ _ _) (v := ?_) rfl (by kernel_rfl) (by kernel_rfl) (by kernel_rfl) (fun _ _ _ h => h) (Or.inl ⟨by rfl, ?_⟩) ?_
  rotate_left
  · (intro w' _; go_simp; try with_reducible rfl)
  try simp only [Act.put, List.setIfInBounds_toArray, List.set_cons_zero, List.set_cons_succ]
  refine wpHK_take (i := 2) (oi := Oper.mk (some 19) _ _ _ _ _) (v := ?_) rfl (by kernel_rfl) (by kernel_rfl) (by kernel_rfl) (by kernel_rfl) (fun _ _ _ h => h) (Or.inl ⟨by rfl, ?_⟩) (by assumption) ?_
  rotate_left
  · (intro w' hSw; (try dsimp only at hSw); (obtain ⟨s0, s1, s2, s3⟩ := hSw); go_simp; try with_reducible rfl)
  try simp only [Act.put, List.setIfInBounds_toArray, List.set_cons_zero, List.set_cons_succ]
  refine wpHK_take (i := 5) (oi := Oper.mk (some 22) _ _ _ _ _) (v := ?_) rfl (by kernel_rfl) (by kernel_rfl) (by kernel_rfl) (by kernel_rfl) (fun _ _ _ h => h) (Or.inl ⟨by rfl, ?_⟩) (by assumption) ?_
  rotate_left
  · (intro w' hSw; (try dsimp only at hSw); (obtain ⟨s0, s1, s2, s3⟩ := hSw); go_simp; try with_reducible rfl)
  try simp only [Act.put, List.setIfInBounds_toArray, List.set_cons_zero, List.set_cons_succ]
  refine wpHK_one (j := 3) (o := Oper.mk (some 20) _ _ _ _ _) rfl (by kernel_rfl) (fun K hK => ?_)
  go_simp
  refine (HA.out _).mono ?_
  rintro e V3 ⟨A1, m1, c1, rfl, hm, hmc, hcl, hr, hb⟩
  have F3 := Lib.hid (Env.call F2.out.drew hb)
  have R1 := Lib.hid (And.intro hm.out (And.intro hmc (And.intro hcl hr)))
  have hbl := Lib.hid hb
  clear hm hmc hcl hr hb
  refine hK.out _ _ (Cf6.out _ F3.out) (fun _ => ?_)
  clear hK K hHeld
  have hHeld := (Cf6.out _ F3.out)
  try simp only [Act.put, List.setIfInBounds_toArray, List.set_cons_zero, List.set_cons_succ]
  refine wpHK_one (j := 6) (o := Oper.mk (some 23) _ _ _ _ _) rfl (by kernel_rfl) (fun K hK => ?_)
  go_simp
  refine (HB.out _).mono ?_
  rintro e V4 ⟨A2, m2, c2, rfl, hm, hmc, hcl, hr, hb⟩
  have F4 := Lib.hid (Env.call F3.out hb)
  have R2 := Lib.hid (And.intro hm.out (And.intro hmc (And.intro hcl hr)))
  have hbl := Lib.hid hb
  clear hm hmc hcl hr hb
  have R1' := Lib.hid (And.intro R1.out.1 (And.intro R1.out.2.1 (And.intro R1.out.2.2.1 ((R1.out.2.2.2.below hbl.out).more hbl.out.size))))
  clear R1 hbl
  have R1 := R1'
  clear R1'
  refine hK.out _ _ (Cf6.out _ F4.out) (fun _ => ?_)
  clear hK K hHeld
  have hHeld := (Cf6.out _ F4.out)
  try simp only [Act.put, List.setIfInBounds_toArray, List.set_cons_zero, List.set_cons_succ]
  refine wpHK_one (j := 7) (o := Oper.mk (some 24) _ _ _ _ _) rfl (by kernel_rfl) (fun K hK => ?_)
  go_simp
  refine (runder_any (w := V4) (c := c1) (d := c2) R1.out.2.2.2 R2.out.2.2.2 R1.out.1 R2.out.1 (by have := R1.out.1; have := Hla.out.1; omega) (by have := R2.out.1; have := Hla.out.2; omega)).mono ?_
  rintro e V5 ⟨q, rfl, rfl⟩
  have F5 := Lib.hid (F4.out.drewN q)
  refine hK.out _ _ (Cf6.out _ F5.out) (fun _ => ?_)
  clear hK K hHeld
  have hHeld := (Cf6.out _ F5.out)
  try simp only [Act.put, List.setIfInBounds_toArray, List.set_cons_zero, List.set_cons_succ]
  refine wpHK_pure (i := 8) (oi := Oper.mk (some 25) _ _ _ _ _) (v := ?_) rfl (by kernel_rfl) (by kernel_rfl) (by kernel_rfl) (fun _ _ _ h => h) (Or.inl ⟨by rfl, ?_⟩) ?_
  rotate_left
  · (intro w' _; go_simp; try with_reducible rfl)
  try simp only [Act.put, List.setIfInBounds_toArray, List.set_cons_zero, List.set_cons_succ]
  refine wpHK_pure (i := 9) (oi := Oper.mk (some 4) _ _ _ _ _) (v := ?_) rfl (by kernel_rfl) (by kernel_rfl) (by kernel_rfl) (fun _ _ _ h => h) (Or.inl ⟨by rfl, ?_⟩) ?_
  rotate_left
  · (intro w' _; go_simp; try with_reducible rfl)
  try simp only [Act.put, List.setIfInBounds_toArray, List.set_cons_zero, List.set_cons_succ]
  refine wpHK_done (by kernel_rfl) ?_ _
  refine NoPanic.normal ?_
  go_wp2_with fail
  go_ret
  exact ⟨rfl, F5.out.1⟩
theorem rcmp_any {w : World} {na nb : Bool} {sa sb : ByteArray} (ha : Fmd sa) (hb : Fmd sb) :
    Calls Try.prog 30 #[.agg #[.bool na, .string sa], .agg #[.bool nb, .string sb]] w (Calm w (.int .i64 (cmpI (num (na, sa)) (num (nb, sb))))) := by
  by_cases hs : sg (num (na, sa)) = sg (num (nb, sb))
  · exact rcmp_same ha hb hs
  · by_cases hlt : sg (num (na, sa)) < sg (num (nb, sb))
    · exact rcmp_lt ha hb hs hlt
    · exact rcmp_gt ha hb hs hlt
end Go.Proofs.Ytpnginnjbdedbaa

/- The reference's bits, Bits, Bit, Small, Of. -/
namespace Go.Proofs.Ytpnginnjbdedbaa
open Go.RowKit
open Wh
set_option linter.unusedSimpArgs false

theorem bl_half {x : Nat} (h : 0 < x) : bl x = bl (x / 2) + 1 := by
  have h1 := bl_le h
  have h2 := lt_bl x
  have h0 : 0 < bl x := by
    rcases Nat.eq_zero_or_pos (bl x) with h0 | h0
    · rw [h0] at h2; omega
    · exact h0
  obtain ⟨L, hL⟩ : ∃ L, bl x = L + 1 := ⟨bl x - 1, by omega⟩
  rw [hL, Nat.add_sub_cancel] at h1
  rw [hL, Nat.pow_succ] at h2
  rw [hL]
  rcases Nat.eq_zero_or_pos L with h3 | h3
  · subst h3
    have : x / 2 = 0 := by omega
    rw [this, bl_zero]
  · obtain ⟨M, rfl⟩ : ∃ M, L = M + 1 := ⟨L - 1, by omega⟩
    rw [Nat.pow_succ] at h1 h2
    rw [bl_eq (m := x / 2) (L := M) (by omega) (by rw [Nat.pow_succ]; omega)]
theorem bl_head {m p t : Nat} (hl : (wds m).length = p + 1) (ht : at_ (wds m) p = t) : bl m = 32 * p + bl t := by
  have htp : 0 < t := by rw [← ht]; exact last_pos hl
  have e := top_one (l := wds m) (p := p) hl
  rw [at_get (by omega)] at ht
  rw [val_w, ht] at e
  have hlo := low_lt (wd_w m) (p := p) (by omega)
  have hB : (4294967296 : Nat) ^ p = 2 ^ (32 * p) := by rw [show (4294967296 : Nat) = 2 ^ 32 by decide, ← Nat.pow_mul]
  rw [hB] at e hlo
  have h1 := bl_le htp
  have h2 := lt_bl t
  have h0 : 0 < bl t := by
    rcases Nat.eq_zero_or_pos (bl t) with h0 | h0
    · rw [h0] at h2; omega
    · exact h0
  obtain ⟨L, hL⟩ : ∃ L, bl t = L + 1 := ⟨bl t - 1, by omega⟩
  rw [hL, Nat.add_sub_cancel] at h1
  rw [hL] at h2
  rw [hL, bl_eq (m := m) (L := 32 * p + L) ?_ ?_]
  · omega
  · rw [Nat.pow_add]
    have h3 : 2 ^ (32 * p) * 2 ^ L ≤ 2 ^ (32 * p) * t := Nat.mul_le_mul_left _ h1
    rw [Nat.mul_comm _ t] at h3
    omega
  · rw [show 32 * p + L + 1 = 32 * p + (L + 1) by omega, Nat.pow_add]
    have h3 : 2 ^ (32 * p) * (t + 1) ≤ 2 ^ (32 * p) * 2 ^ (L + 1) := Nat.mul_le_mul_left _ h2
    rw [Nat.mul_comm _ (t + 1), Nat.add_mul, Nat.one_mul] at h3
    omega

set_option maxRecDepth 100000 in
set_option maxHeartbeats 2000000 in
theorem rbits_any {w : World} {B n c m : Nat} {A : Option Addr} (h : ReadsW w B A (wds m)) (hn : n = (wds m).length) (hnl : n ≤ 100000000) :
    Calls Try.prog 94 #[.slice A n c] w (fun e w' => e = .returned (.int .i64 ((bl m : Nat) : Int)) ∧ w = w') := by
  rcases Nat.eq_zero_or_pos n with h0 | h0
  · have hm : m = 0 := by
      have h1 : wds m = [] := List.eq_nil_of_length_eq_zero (by omega)
      rw [← val_w m, h1]; rfl
    rw [hm, bl_zero]
    clear h hn hnl hm
    subst h0
    go_enter Try.func94, Try.ntmps94
    go_wp2
    go_ret
    exact ⟨rfl, rfl⟩
  · obtain ⟨p, rfl⟩ : ∃ p, n = p + 1 := ⟨n - 1, by omega⟩
    obtain ⟨ad, rfl, hb1, c0⟩ := h.at_ (k := p) (by omega)
    rw [← at_get] at c0
    have hbm := bl_head hn.symm rfl
    have ht := at_lt (wd_w m) p
    generalize at_ (wds m) p = t at c0 hbm ht
    have hbt : bl t ≤ 32 := bl_lt.2 ht
    have ht2 : t ≤ 4294967295 := by omega
    rw [hbm]
    clear h hn hbm ht h0
    go_enter Try.func94, Try.ntmps94
    go_wp2_with fail
    go_loopg [3, 4] t (fun k nv xv wr => ∃ (j x : Nat), nv = .int .i64 (32 * (p : Int) + (j : Int)) ∧ xv = .int .u32 (x : Int) ∧ k = x ∧ x ≤ 4294967295 ∧ j ≤ 32 ∧ w = wr ∧ Hid (j + bl x = bl t))
    case atStart => exact ⟨0, t, by simp, rfl, rfl, ht2, by omega, rfl, Lib.hid (Nat.zero_add _)⟩
    case round =>
      obtain ⟨j, x, rfl, rfl, hk, hx, hj, rfl, hjx⟩ := hrel
      have Hk := Lib.hid hk
      clear hk
      rcases Nat.eq_zero_or_pos x with hx0 | hx0
      · subst hx0
        clear hx
        go_wp2_with fail
        go_ret
        refine ⟨?_, rfl⟩
        have h1 := hjx.out
        rw [bl_zero] at h1
        exact congrArg (fun v => Ending.returned (.int .i64 v)) (show 32 * (p : Int) + (j : Int) = ((32 * p + bl t : Nat) : Int) by omega)
      · have hxi : (0 : Int) < (x : Int) := by omega
        have hd : decide ((0 : Int) < (x : Int)) = true := decide_eq_true hxi
        have hh := bl_half hx0
        have Hh := Lib.hid hh
        have hj2 : j + 1 ≤ 32 := by have := hjx.out; omega
        clear hh
        go_wp2_with fail
        go_roundg (x / 2)
        case measure => have := Hk.out; omega
        case rel =>
          exact ⟨j + 1, x / 2, by first | rfl | (congr 1; omega), rfl, rfl, by omega, hj2, rfl, by show _ = _; have := hjx.out; have := Hh.out; omega⟩
set_option maxRecDepth 100000 in
theorem rBits_any {w : World} {na : Bool} {sa : ByteArray} (hf : Fmd sa) :
    Calls Try.prog 50 #[.agg #[.bool na, .string sa]] w (Calm w (.int .i64 ((bl (num (na, sa)).natAbs : Nat) : Int))) := by
  have E0 := Lib.hid (Env.new (Env.nil w) 26 #[.bool na, .string sa])
  have HA := Lib.hid (fun W : World => words_any (w := W) (by have := hf.2; omega) hf.1)
  rw [show (num (na, sa)).natAbs = bval sa.data.toList from sgn_abs _ _]
  have Hl := Lib.hid hf.len
  generalize bval sa.data.toList = m at *
  clear hf
  go_enter Try.func50, Try.ntmps50
  go_upto_region 1 with fail
  generalize (w.alloc (.cells #[.bool na, .string sa] 26)) = W1 at E0 ⊢
  have c1 := (Env.at_ E0.out 0 rfl).cell 1
  simp at c1
  go_wp2_with fail
  refine (HA.out _).mono ?_
  rintro e w2 ⟨A1, m1, c1, rfl, hm, hmc, hcl, hr, hb⟩
  have E2 := Lib.hid (E0.out.call hb)
  have HB := Lib.hid (rbits_any (c := c1) hr hm.out (by have := hm.out; have := Hl.out; omega))
  clear hb hr
  go_wp2_with fail
  refine HB.out.mono ?_
  rintro e w3 ⟨rfl, rfl⟩
  go_wp2_with fail
  go_ret
  exact ⟨rfl, E2.out.1⟩
theorem bit_int {u s : Nat} : ((u : Int) / 2 ^ s) % 2 = ((u / 2 ^ s % 2 : Nat) : Int) := by
  rw [Int.natCast_emod, Int.natCast_ediv, Int.natCast_pow]; rfl
theorem bit_w {u s : Nat} : wrap64 (((u : Int) / 2 ^ s).tmod 2) = ((u / 2 ^ s % 2 : Nat) : Int) := by
  rw [Int.tmod_eq_emod_of_nonneg (Int.ediv_nonneg (Int.natCast_nonneg _) (Int.le_of_lt (Int.pow_pos (by decide)))), bit_int]
  unfold wrap64
  omega
set_option maxRecDepth 100000 in
theorem rBit_any {w : World} {na : Bool} {sa : ByteArray} {i : Nat} (hf : Fmd sa) (hi : i ≤ 9223372036854775807) :
    Calls Try.prog 51 #[.agg #[.bool na, .string sa], .int .i64 (i : Int)] w (Calm w (.int .i64 (((num (na, sa)).natAbs / 2 ^ i % 2 : Nat) : Int))) := by
  have E0 := Lib.hid (Env.new (Env.nil w) 26 #[.bool na, .string sa])
  have HA := Lib.hid (fun W : World => words_any (w := W) (by have := hf.2; omega) hf.1)
  rw [show (num (na, sa)).natAbs = bval sa.data.toList from sgn_abs _ _]
  have Hl := Lib.hid hf.len
  generalize bval sa.data.toList = m at *
  clear hf
  rw [bit_word]
  have hu := at_lt (wd_w m) (i / 32)
  have hrt : ∀ (W : World) (A1 : Option Addr) (m1 c1 : Nat), ReadsW W W.heap.size A1 (wds m) → m1 = (wds m).length → Calls Try.prog 93 #[.slice A1 m1 c1, .int .i64 ((i : Int) / 32)] W (fun e w' => e = .returned (.int .u64 ((at_ (wds m) (i / 32) : Nat) : Int)) ∧ w' = W) := fun W A1 m1 c1 hr hm => by
    have := rat_any (c := c1) (i := i / 32) hr hm (wd_w m)
    rw [Int.natCast_ediv] at this
    exact this
  generalize at_ (wds m) (i / 32) = u at hrt hu ⊢
  have Hrt := Lib.hid hrt
  clear hrt
  have hq : ((u / 2 ^ (i % 32) % 2 : Nat) : Int) ≤ 1 := by omega
  have hq0 : (0 : Int) ≤ ((u / 2 ^ (i % 32) % 2 : Nat) : Int) := by omega
  go_enter Try.func51, Try.ntmps51
  go_upto_region 1 with fail
  generalize (w.alloc (.cells #[.bool na, .string sa] 26)) = W1 at E0 ⊢
  have c1 := (Env.at_ E0.out 0 rfl).cell 1
  simp at c1
  go_wp2_with fail
  refine (HA.out _).mono ?_
  rintro e w2 ⟨A1, m1, c1, rfl, hm, hmc, hcl, hr, hb⟩
  have E2 := Lib.hid (E0.out.call hb)
  have HB := Lib.hid (Hrt.out w2 A1 m1 c1 hr hm.out)
  clear hb hr
  go_wp2_with fail
  refine HB.out.mono ?_
  rintro e w3 ⟨rfl, rfl⟩
  go_wp2_with fail
  go_ret
  exact ⟨congrArg (fun v => Ending.returned (.int .i64 v)) bit_w, E2.out.1⟩
/-- two words are one number -/
theorem two_list (B : Nat) : ∀ l : List Nat, l.length ≤ 2 → at_ l 1 * B + at_ l 0 = at_ l 0 + B * at_ l 1
  | _, _ => by rw [Nat.mul_comm, Nat.add_comm]
theorem two_val : ∀ l : List Nat, l.length ≤ 2 → val l = at_ l 0 + 4294967296 * at_ l 1
  | [], _ => rfl
  | [x], _ => by
    have h0 : at_ [x] 0 = x := rfl
    have h1 : at_ [x] 1 = 0 := rfl
    rw [h0, h1, val_cons, val_nil]
  | [x, y], _ => by
    have h0 : at_ [x, y] 0 = x := rfl
    have h1 : at_ [x, y] 1 = y := rfl
    rw [h0, h1, val_cons, val_cons, val_nil, Nat.mul_zero, Nat.add_zero]
theorem two_at {m : Nat} (h : (wds m).length ≤ 2) : at_ (wds m) 1 * 4294967296 + at_ (wds m) 0 = m := by
  rw [two_list _ _ h, ← two_val _ h, val_w]
set_option maxRecDepth 100000 in
theorem rSmall_long {w : World} {na : Bool} {sa : ByteArray} (h : 8 < sa.size) :
    Calls Try.prog 46 #[.agg #[.bool na, .string sa]] w (Calm w (.tuple #[.int .i64 0, .bool false])) := by
  have hi : (8 : Int) < (sa.size : Int) := by omega
  have hd := decide_eq_true hi
  clear h
  go_enter Try.func46, Try.ntmps46
  go_wp2
  refine bodyPost_ret (v := .tuple #[.int .i64 0, .bool false]) (by simp [results, Try.results46, go_sem]) rfl ?_
  exact ⟨rfl, (Below.refl _ _).alloc (Nat.le_refl _) _⟩
set_option maxRecDepth 100000 in
set_option maxHeartbeats 2000000 in
theorem rSmall_short {w : World} {na : Bool} {sa : ByteArray} (h : sa.size ≤ 8) (hf : Fmd sa) :
    Calls Try.prog 46 #[.agg #[.bool na, .string sa]] w (fun e w' => ∃ y : Int, e = .returned (.tuple #[.int .i64 y, .bool (decide (-9223372036854775808 ≤ num (na, sa) ∧ num (na, sa) ≤ 9223372036854775807))]) ∧ (-9223372036854775808 ≤ num (na, sa) ∧ num (na, sa) ≤ 9223372036854775807 → y = num (na, sa)) ∧ Below w.heap.size w w') := by
  have hi : (sa.size : Int) ≤ 8 := by omega
  have hd : decide ((8 : Int) < (sa.size : Int)) = false := decide_eq_false (by omega)
  have E0 := Lib.hid (Env.new (Env.nil w) 26 #[.bool na, .string sa])
  have HA := Lib.hid (fun W : World => words_any (w := W) (by have := hf.2; omega) hf.1)
  have hl : (wds (bval sa.data.toList)).length ≤ 2 := by
    rw [words_len hf.1]
    have hl : sa.data.toList.length = sa.size := Array.length_toList
    omega
  unfold num
  dsimp only
  generalize bval sa.data.toList = m at *
  have htw := two_at hl
  have hu0 := at_lt (wd_w m) 0
  have hu1 := at_lt (wd_w m) 1
  have HR := Lib.hid (fun (W : World) (A1 : Option Addr) (m1 c1 : Nat) (hr : ReadsW W W.heap.size A1 (wds m)) (hm : m1 = (wds m).length) => And.intro (rat_any (c := c1) (i := 0) hr hm (wd_w m)) (rat_any (c := c1) (i := 1) hr hm (wd_w m)))
  generalize at_ (wds m) 0 = u0 at *
  generalize at_ (wds m) 1 = u1 at *
  have Htw := Lib.hid htw
  clear hf h hl htw
  have hq1 : (u1 : Int) * 4294967296 ≤ 18446744069414584320 := by omega
  have hq2 : (u1 : Int) * 4294967296 + (u0 : Int) ≤ 18446744073709551615 := by omega
  go_enter Try.func46, Try.ntmps46
  go_upto_region 1 with fail
  generalize (w.alloc (.cells #[.bool na, .string sa] 26)) = W1 at E0 ⊢
  have c1 := (Env.at_ E0.out 0 rfl).cell 1
  simp at c1
  go_wp2_with fail
  refine (HA.out _).mono ?_
  rintro e w2 ⟨A1, m1, c1, rfl, hm, hmc, hcl, hr, hb⟩
  have E2 := Lib.hid (E0.out.call hb)
  have HB := Lib.hid (HR.out w2 A1 m1 c1 hr hm.out)
  clear hb hr
  have d0 := (Env.at_ E2.out 0 rfl).cell 0
  simp at d0
  go_wp2_with fail
  refine HB.out.2.mono ?_
  rintro e w3 ⟨rfl, rfl⟩
  go_wp2_with fail
  refine HB.out.1.mono ?_
  rintro e w4 ⟨rfl, rfl⟩
  cases na
  · go_wp2_with fail
    refine bodyPost_ret (v := .tuple #[.int .i64 (wrap64 ((u1 : Int) * 4294967296 + (u0 : Int))), .bool (decide ((u1 : Int) * 4294967296 + (u0 : Int) < 9223372036854775808))]) (by simp [results, Try.results46, go_sem]) rfl ?_
    have h5 := Htw.out
    have h6 : sgn false m = (u1 : Int) * 4294967296 + (u0 : Int) := by rw [← h5]; unfold sgn; simp
    rw [h6]
    refine ⟨wrap64 ((u1 : Int) * 4294967296 + (u0 : Int)), ?_, fun h => by unfold wrap64; omega, E2.out.1⟩
    rw [show decide ((u1 : Int) * 4294967296 + (u0 : Int) < 9223372036854775808) = decide (-9223372036854775808 ≤ (u1 : Int) * 4294967296 + (u0 : Int) ∧ (u1 : Int) * 4294967296 + (u0 : Int) ≤ 9223372036854775807) from decide_eq_decide.2 (by omega)]
  · go_wp2_with fail
    refine bodyPost_ret (v := .tuple #[.int .i64 (wrap64 (IntKind.u64.wrap (-((u1 : Int) * 4294967296 + (u0 : Int))))), .bool (decide ((u1 : Int) * 4294967296 + (u0 : Int) ≤ 9223372036854775808))]) (by simp [results, Try.results46, go_sem]) rfl ?_
    have h5 := Htw.out
    have h6 : sgn true m = -((u1 : Int) * 4294967296 + (u0 : Int)) := by rw [← h5]; unfold sgn; simp
    rw [h6]
    refine ⟨wrap64 (IntKind.u64.wrap (-((u1 : Int) * 4294967296 + (u0 : Int)))), ?_, fun h => by rw [IntKind.wrap_u64]; unfold wrap64; omega, E2.out.1⟩
    rw [show decide ((u1 : Int) * 4294967296 + (u0 : Int) ≤ 9223372036854775808) = decide (-9223372036854775808 ≤ -((u1 : Int) * 4294967296 + (u0 : Int)) ∧ -((u1 : Int) * 4294967296 + (u0 : Int)) ≤ 9223372036854775807) from decide_eq_decide.2 (by omega)]
set_option maxRecDepth 100000 in
set_option maxHeartbeats 2000000 in
theorem rOf_any {w : World} {n : Int} (h1 : -9223372036854775808 ≤ n) (h2 : n ≤ 9223372036854775807) :
    Calls Try.prog 42 #[.int .i64 n] w (Calm w (enc n)) := by
  obtain ⟨m, hm⟩ : ∃ m, m = n.natAbs := ⟨_, rfl⟩
  have hmle : m ≤ 9223372036854775808 := by omega
  obtain ⟨s, b, he⟩ : ∃ s b, enc n = .agg #[.bool s, .string b] := ⟨_, _, rfl⟩
  rw [he]
  obtain ⟨y, hy⟩ : ∃ y, y = m / 4294967296 := ⟨_, rfl⟩
  obtain ⟨x, hx⟩ : ∃ x, x = m % 4294967296 := ⟨_, rfl⟩
  have hv : val [x, y] = m := by rw [val_cons, val_cons, val_nil]; omega
  have hwd : Wd [x, y] := by rw [wd_cons, wd_cons]; exact ⟨by omega, by omega, wd_nil⟩
  have HM := Lib.hid (fun W : World => made_any (w := W.alloc (.cells (wcells [x, y]) 98)) (neg := decide (n < 0)) (reads_blk (Blk.new W 98 (wcells [x, y])) (B := W.heap.size + 1) (by omega)) (by simp) rfl (Nat.le_refl _) (by simp) (by simp) hwd)
  rw [hv, hm, sgn_of, he] at HM
  have Hxy := Lib.hid (And.intro hx hy)
  have hx2 : x ≤ 4294967295 := by omega
  have hy2 : y ≤ 2147483648 := by omega
  have E0 := Lib.hid (Env.new (Env.nil w) 26 #[.bool false, .string ⟨#[]⟩])
  clear hv hwd hx hy he
  by_cases hn : n < 0
  · have hd : decide (n < 0) = true := decide_eq_true hn
    have e1 : IntKind.u64.wrap n = n + 18446744073709551616 := by rw [IntKind.wrap_u64]; omega
    have e2 : IntKind.u64.wrap (-(n + 18446744073709551616)) = (m : Int) := by rw [IntKind.wrap_u64]; omega
    rw [hd] at HM
    clear hm
    go_enter Try.func42, Try.ntmps42
    go_upto_region 4 with fail
    generalize (w.alloc (.cells #[.bool false, .string ⟨#[]⟩] 26)) = W1 at E0 ⊢
    go_wp2_with fail
    rw [show (m : Int) % 4294967296 = (x : Int) by have := Hxy.out.1; omega, show (m : Int) / 4294967296 = (y : Int) by have := Hxy.out.2; omega]
    refine (HM.out W1).mono ?_
    rintro e w2 ⟨rfl, h2⟩
    have E2 := Lib.hid ((Env.other E0.out (.cells (wcells [x, y]) 98)).call h2)
    clear h2
    have n4 := Env.at_ E2.out 0 rfl
    have y0 := n4.cell 0
    have y1 := n4.cell 1
    have y2 := n4.frozen 0
    have y3 := n4.frozen 1
    simp at y0 y1
    have n5 := (n4.set_ 0 (.bool s)).set_ 1 (.string b)
    have d0 := n5.cell 0
    have d1 := n5.cell 1
    simp at d0 d1
    have D := Lib.hid (And.intro d0 d1)
    clear n4 n5 d0 d1
    go_wp2_with fail
    refine bodyPost_ret (v := .agg #[.bool s, .string b]) (by simp [results, Try.results42, go_sem, D.out.1, D.out.2]) rfl ?_
    exact ⟨rfl, ((E2.out.1).setCell (Nat.le_refl _) _).setCell (Nat.le_refl _) _⟩
  · have hd : decide (n < 0) = false := decide_eq_false hn
    have e1 : IntKind.u64.wrap n = (m : Int) := by rw [IntKind.wrap_u64]; omega
    rw [hd] at HM
    clear hm
    go_enter Try.func42, Try.ntmps42
    go_upto_region 4 with fail
    generalize (w.alloc (.cells #[.bool false, .string ⟨#[]⟩] 26)) = W1 at E0 ⊢
    go_wp2_with fail
    rw [show (m : Int) % 4294967296 = (x : Int) by have := Hxy.out.1; omega, show (m : Int) / 4294967296 = (y : Int) by have := Hxy.out.2; omega]
    refine (HM.out W1).mono ?_
    rintro e w2 ⟨rfl, h2⟩
    have E2 := Lib.hid ((Env.other E0.out (.cells (wcells [x, y]) 98)).call h2)
    clear h2
    have n4 := Env.at_ E2.out 0 rfl
    have y0 := n4.cell 0
    have y1 := n4.cell 1
    have y2 := n4.frozen 0
    have y3 := n4.frozen 1
    simp at y0 y1
    have n5 := (n4.set_ 0 (.bool s)).set_ 1 (.string b)
    have d0 := n5.cell 0
    have d1 := n5.cell 1
    simp at d0 d1
    have D := Lib.hid (And.intro d0 d1)
    clear n4 n5 d0 d1
    go_wp2_with fail
    refine bodyPost_ret (v := .agg #[.bool s, .string b]) (by simp [results, Try.results42, go_sem, D.out.1, D.out.2]) rfl ?_
    exact ⟨rfl, ((E2.out.1).setCell (Nat.le_refl _) _).setCell (Nat.le_refl _) _⟩
end Go.Proofs.Ytpnginnjbdedbaa

/- The reference's divided: plain laws, the two short ways. -/
namespace Go.Proofs.Ytpnginnjbdedbaa
open Go.RowKit
open Wh
set_option linter.unusedSimpArgs false
set_option linter.unusedVariables false

theorem word_pow (k : Nat) : (4294967296 : Nat) ^ k = 2 ^ (32 * k) := by rw [show (4294967296 : Nat) = 2 ^ 32 by decide, ← Nat.pow_mul]
theorem norm_tail {V p : Nat} (hge : 2147483648 * 4294967296 ^ (p + 1) ≤ V) (hlt : V < 4294967296 ^ (p + 2)) : (wds V).length = p + 2 ∧ 2147483648 ≤ at_ (wds V) (p + 1) := by
  have hlen : (wds V).length = p + 2 := by
    have h3 := len_wds hlt
    rcases Nat.lt_or_ge (wds V).length (p + 2) with h4 | h4
    · exfalso
      have h5 := lt_of_len (n := V) (k := p + 1) (by omega)
      have h6 : 1 * 4294967296 ^ (p + 1) ≤ 2147483648 * 4294967296 ^ (p + 1) := Nat.mul_le_mul_right _ (by decide)
      omega
    · omega
  refine ⟨hlen, ?_⟩
  rw [at_get (by omega)]
  have e2 := top_one (l := wds V) (p := p + 1) hlen
  rw [val_w] at e2
  have hlo2 := low_lt (wd_w V) (p := p + 1) (by omega)
  generalize (wds V)[p + 1]'(by omega) = x at *
  have h3 : 4294967296 ^ (p + 1) * 2147483648 < 4294967296 ^ (p + 1) * (x + 1) := by
    rw [Nat.mul_add, Nat.mul_one, Nat.mul_comm, Nat.mul_comm _ x]; omega
  have := Nat.lt_of_mul_lt_mul_left h3
  omega
theorem norm_bl {b p : Nat} (hl : (wds b).length = p + 2) : ∃ y, bl b + y = 32 * (p + 2) ∧ y ≤ 31 ∧ 2147483648 * 4294967296 ^ (p + 1) ≤ b * 2 ^ y ∧ b * 2 ^ y < 4294967296 ^ (p + 2) := by
  have h1 := lt_of_len (n := b) (k := p + 2) (by omega)
  have h2 : 4294967296 ^ (p + 1) ≤ b := by
    rcases Nat.lt_or_ge b (4294967296 ^ (p + 1)) with h | h
    · have := len_wds h; omega
    · exact h
  rw [word_pow] at h1 h2
  have h3 := bl_lt.2 h1
  have h4 : ¬ bl b ≤ 32 * (p + 1) := fun h => by have := bl_lt.1 h; omega
  have h5 := bl_lt.1 (Nat.le_refl (bl b))
  have h6 : 2 ^ (bl b - 1) ≤ b := by
    rcases Nat.lt_or_ge b (2 ^ (bl b - 1)) with h | h
    · have := bl_lt.2 h; omega
    · exact h
  refine ⟨32 * (p + 2) - bl b, by omega, by omega, ?_, ?_⟩
  · have h7 := Nat.mul_le_mul_right (2 ^ (32 * (p + 2) - bl b)) h6
    rw [← Nat.pow_add, show bl b - 1 + (32 * (p + 2) - bl b) = 31 + 32 * (p + 1) by omega, Nat.pow_add, show (2 : Nat) ^ 31 = 2147483648 by decide] at h7
    rw [word_pow]
    exact h7
  · have h7 := Nat.mul_lt_mul_of_pos_right h5 (Nat.two_pow_pos (32 * (p + 2) - bl b))
    rw [← Nat.pow_add, show bl b + (32 * (p + 2) - bl b) = 32 * (p + 2) by omega] at h7
    rw [word_pow]
    exact h7
/-- the first guess: no less than the digit -/
theorem first_guess {M lv : List Nat} {p T : Nat} (hw : Wd M) (hwv : Wd lv) (hM : M.length = p + 3) (hl : lv.length = p + 2) (h0 : 0 < lv[p + 1]) (hT : T = M[p + 2] * 4294967296 + M[p + 1]) (hU : val M < 4294967296 * val lv) :
    val M < (min (T / lv[p + 1]) 4294967295 + 1) * val lv := by
  have h := guess_start (tops_of hw hwv hM hl h0 hU)
  have h1 := h.2
  rw [← hT] at h1
  rcases Nat.le_total (T / lv[p + 1]) 4294967295 with h2 | h2
  · rw [Nat.min_eq_left h2]; exact h1
  · rw [Nat.min_eq_right h2]; exact hU
theorem guess_less {U V g : Nat} (_h : U < (g + 1) * V) (hn : ¬ g * V ≤ U) : 0 < g ∧ U < (g - 1 + 1) * V := by
  have hg : 0 < g := by
    rcases Nat.eq_zero_or_pos g with h0 | h0
    · exfalso; apply hn; rw [h0, Nat.zero_mul]; exact Nat.zero_le _
    · exact h0
  exact ⟨hg, by rw [show g - 1 + 1 = g by omega]; omega⟩
/-- a word taken off -/
theorem off_word {u cc b : Nat} (hu : u < 4294967296) (hb : b ≤ 1) (_hcc : cc ≤ 18446744073709551615) :
    ∃ X b' : Nat, X = 4294967296 + u - cc % 4294967296 - b ∧ X ≤ 8589934591 ∧ b' = 1 - X / 4294967296 ∧ b' ≤ 1 ∧ X / 4294967296 ≤ 1 ∧ u + 4294967296 * b' = X % 4294967296 + (cc % 4294967296 + b) := by
  refine ⟨_, _, rfl, by omega, rfl, by omega, by omega, by omega⟩
/-- when all are taken off -/
theorem taken_end {M M1 lv : List Nat} {q c b n : Nat} (h : Taken M M1 lv q (n + 1) c b) (hn : n = lv.length) (hM : M.length = n + 1) (hb : b ≤ 1) (h1 : q * val lv ≤ val M) (h2 : val M < (q + 1) * val lv) : M1.length = n + 1 ∧ Wd M1 ∧ val M1 = val M % val lv ∧ q = val M / val lv := by
  obtain ⟨hl1, hwm1, _, hc0, hval⟩ := h
  have hc00 : c = 0 := hc0 (by omega)
  rw [hc00, Nat.zero_add, List.take_of_length_le (by omega), List.take_of_length_le (l := lv) (by omega), List.take_of_length_le (l := M) (by omega)] at hval
  have hO : val M1 < 4294967296 ^ (n + 1) := by have := val_lt hwm1; rwa [hl1, hM] at this
  have hb0 := (take_all hval hO hb).2 h1
  rw [hb0, Nat.mul_zero, Nat.add_zero] at hval
  rw [Nat.add_mul, Nat.one_mul] at h2
  have e := quot_of (q := q) (r := val M1) (a := val M) (b := val lv) (by omega) (by omega)
  exact ⟨by omega, hwm1, e.2.symm, e.1.symm⟩

set_option maxRecDepth 100000 in
set_option maxHeartbeats 2000000 in
theorem rdivided_lt {w : World} {B n m c d a b : Nat} {A C : Option Addr} (h1 : ReadsW w B A (wds a)) (h2 : ReadsW w B C (wds b)) (hB : B ≤ w.heap.size) (hn : n = (wds a).length) (hm : m = (wds b).length) (hnc : n ≤ c) (hcl : c ≤ 9223372036854775807) (hnl : n ≤ 1000000000) (hml : m ≤ 1000000000) (hab : a < b) :
    Calls Try.prog 72 #[.slice A n c, .slice C m d] w (Div2 w (a / b) (a % b)) := by
  have HU := Lib.hid (runder_any h1 h2 (c := c) (d := d) hn hm (by omega) (by omega))
  obtain ⟨x, hx, hx0⟩ : ∃ x : Int, cmpN a b = x ∧ x < 0 := ⟨-1, cmpN_lt hab, by omega⟩
  rw [hx] at HU
  have Hn := Lib.hid hn
  have Hab := Lib.hid (And.intro (Nat.div_eq_of_lt hab) (Nat.mod_eq_of_lt hab))
  clear hn hab hx hm
  go_enter Try.func72, Try.ntmps72
  go_wp2_with (go_at_call 70; refine HU.out.mono ?_; rintro e w' ⟨q, rfl, rfl⟩)
  go_ret2
  rw [Hab.out.1, Hab.out.2]
  exact ⟨_, _, _, _, _, _, rfl, ⟨by rw [wds_zero]; rfl, Hn.out⟩, Nat.le_refl _, hnc, by omega, hcl, by rw [wds_zero]; exact ReadsW.none_ _ _ _, (h1.more hB).drewN q, below_drewN (Below.refl _ _) _⟩
set_option maxRecDepth 100000 in
set_option maxHeartbeats 2000000 in
theorem rdivided_one {w : World} {B n m c d a b : Nat} {A C : Option Addr} (h1 : ReadsW w B A (wds a)) (h2 : ReadsW w B C (wds b)) (hB : B ≤ w.heap.size) (hn : n = (wds a).length) (hm : m = (wds b).length) (hnl : n ≤ 1000000000) (hml : m ≤ 1000000000) (hab : b ≤ a) (hm1 : m = 1) :
    Calls Try.prog 72 #[.slice A n c, .slice C m d] w (Div2 w (a / b) (a % b)) := by
  have hu : ∃ x : Int, cmpN a b = x ∧ 0 ≤ x := by
    rcases Nat.lt_or_ge b a with h | h
    · exact ⟨1, cmpN_gt h, by omega⟩
    · exact ⟨0, cmpN_eq (by omega), by omega⟩
  obtain ⟨x, hx, hx0⟩ := hu
  have HU := Lib.hid (runder_any h1 h2 (c := c) (d := d) hn hm (by omega) (by omega))
  rw [hx] at HU
  have hb : wds b = [b] := by
    have hl : (wds b).length = 1 := by omega
    have hlt : b < 4294967296 := by have := lt_of_len (n := b) (k := 1) (by omega); omega
    have hp : 0 < b := by
      rcases Nat.eq_zero_or_pos b with h0 | h0
      · rw [h0, wds_zero] at hl; cases hl
      · exact h0
    rw [wds_pos hp, Nat.mod_eq_of_lt hlt, Nat.div_eq_of_lt hlt, wds_zero]
  have hwd := wd_w b
  rw [hb] at h2 hwd
  have hbl : b < 4294967296 := hwd b (by simp)
  have hp : 0 < b := by
    rcases Nat.eq_zero_or_pos b with h0 | h0
    · rw [h0, wds_zero] at hb; cases hb
    · exact h0
  obtain ⟨bd, rfl, hb1, c1⟩ := h2.at_ (k := 0) (by simp)
  have c1' : w.cell? bd = some (.int .u32 (b : Int)) := by
    have : bd.add 0 = bd := by unfold Addr.add; rw [if_pos rfl]
    rw [this] at c1
    exact c1
  have hs := fun q => rsmall_any (h1.drewN q) (c := c) (d := b) hB hn (by omega) (wd_w a) hp hbl
  simp only [val_w] at hs
  obtain ⟨r, hr⟩ : ∃ r, r = a % b := ⟨_, rfl⟩
  rw [← hr] at hs
  have hrb : r < b := by rw [hr]; exact Nat.mod_lt _ hp
  have hrb2 : r ≤ 4294967295 := by omega
  have HS := Lib.hid hs
  have Hr := Lib.hid hr
  clear hs hr
  have Hn := Lib.hid hn
  subst hm1
  clear hn h1 h2 c1 hx hb hm
  go_enter Try.func72, Try.ntmps72
  go_wp2_with (first | (go_at_call 70; refine HU.out.mono ?_; rintro e w' ⟨q, rfl, rfl⟩) | (go_at_call 87; refine (HS.out _).mono ?_; rintro e w1 ⟨A1, n1, c1, rfl, hn1, hc1, hc2, hr1, hbl1, _⟩; have Hn1 := Lib.hid (And.intro hn1 (And.intro hr1 hbl1)); clear hn1 hr1 hbl1))
  have hbk := Blk.new w1 98 (wcells [r])
  have hwr : Wd [r] := wd_cons.2 ⟨by omega, wd_nil⟩
  have hcut := rcut_any (reads_blk hbk hbk.lt) (n := 1) (c := 1) rfl (by omega) (by omega) hwr
  have Hc := Lib.hid hcut
  have Hb := Lib.hid (And.intro hbk hwr)
  clear hcut hbk hwr
  go_wp2_with (go_at_call 86; refine Hc.out.mono ?_; rintro e w' ⟨q2, rfl, hq, rfl⟩; have Hq := Lib.hid hq; clear hq)
  go_ret2
  have hv1 : val [r] = r := by rw [val_cons, val_nil, Nat.mul_zero, Nat.add_zero]
  have hlen : (wds r).length ≤ 1 := by have := (wds_take 1 [r] rfl Hb.out.2).2; rw [hv1] at this; exact this
  have hq2 := Hq.out
  rw [hv1] at hq2
  refine ⟨_, _, _, _, _, _, rfl, ⟨Hn1.out.1, by rw [← Hr.out]; exact hq2⟩, hc1, by omega, by omega, by omega, (Hn1.out.2.1.alloc (Nat.le_refl _) _).more (by simp), ?_, ?_⟩
  · rw [← Hr.out]
    have := reads_cut (reads_blk Hb.out.1 Hb.out.1.lt) Hb.out.2
    rw [hv1] at this
    exact this
  · exact (undrewN Hn1.out.2.2).alloc (by have := (undrewN Hn1.out.2.2).size; exact this) _
end Go.Proofs.Ytpnginnjbdedbaa

/- The reference's divided: the long way. -/
namespace Go.Proofs.Ytpnginnjbdedbaa
open Go.RowKit
open Wh
set_option linter.unusedSimpArgs false
set_option linter.unusedVariables false

set_option maxRecDepth 100000 in
set_option maxHeartbeats 20000000 in
theorem rdivided_long {w : World} {B n m c d a b p : Nat} {A C : Option Addr} (h1 : ReadsW w B A (wds a)) (h2 : ReadsW w B C (wds b)) (hB : B ≤ w.heap.size) (hn : n = (wds a).length) (hm : m = (wds b).length) (hnl : n ≤ 30000000) (hml : m ≤ 30000000) (hab : b ≤ a) (hm1 : m = p + 2) :
    Calls Try.prog 72 #[.slice A n c, .slice C m d] w (Div2 w (a / b) (a % b)) := by
  have hu : ∃ x : Int, cmpN a b = x ∧ 0 ≤ x := by
    rcases Nat.lt_or_ge b a with h | h
    · exact ⟨1, cmpN_gt h, by omega⟩
    · exact ⟨0, cmpN_eq (by omega), by omega⟩
  obtain ⟨x, hx, hx0⟩ := hu
  have HU := Lib.hid (runder_any h1 h2 (c := c) (d := d) hn hm (by omega) (by omega))
  rw [hx] at HU
  subst hm1
  obtain ⟨y, hy1, hy, hge, hlt⟩ := norm_bl hm.symm
  have hHB := fun q => rbits_any (w := w.drewN q) (c := d) (h2.drewN q) hm (by omega)
  obtain ⟨kb, hkb⟩ : ∃ kb, kb = bl b := ⟨_, rfl⟩
  simp only [← hkb] at hHB
  have hkb1 : 32 * ((p : Int) + 2) - (kb : Int) = (y : Int) := by omega
  have hkb2 : kb ≤ 1000000000 := by omega
  have HKB := Lib.hid hkb1
  have hnorm := norm_tail hge hlt
  have hl1 := fun q => rup_any (h2.drewN q) hB hm (c := d) (n := y) (by omega) (by omega) (wd_w b)
  simp only [val_w] at hl1
  obtain ⟨V, hV⟩ : ∃ V, V = b * 2 ^ y := ⟨_, rfl⟩
  rw [← hV] at hnorm hge hlt
  simp only [← hV] at hl1
  have HV := Lib.hid (And.intro hV (And.intro hnorm.1 (And.intro hge (And.intro hlt hnorm.2))))
  have HL1 := Lib.hid hl1
  have HBT := Lib.hid hHB
  have Hm := Lib.hid hm
  have Hn := Lib.hid hn
  clear hn hm hx hV hnorm hl1 hHB hkb1 hge hlt hkb hy1
  go_enter Try.func72, Try.ntmps72
  go_wp2_with (go_at_call 70; refine HU.out.mono ?_; rintro e w' ⟨q, rfl, rfl⟩)
  refine (HBT.out _).mono ?_
  rintro e w' ⟨rfl, rfl⟩
  go_wp2_with fail
  rw [HKB.out]
  refine (HL1.out _).mono ?_
  rintro e w1 ⟨Cv, n1, d1, rfl, hn1, hd1, hd2, hrv, hbv⟩
  obtain rfl : n1 = p + 2 := by have := hn1.out; rw [HV.out.2.1] at this; exact this
  have hmk : ∀ w : World, (Instr.makeSlice 80 (.int .i64 ((n : Int) + 2)) (.int .i64 ((n : Int) + 2))).run Try.prog w = .ok (.slice (some ⟨w.heap.size, 0, none⟩) (n + 2) (n + 2)) (w.alloc (.cells (wcells (List.replicate (n + 2) 0)) 98)) := fun w => by
    have := run_makeW (n + 2) (by omega) w
    exact this
  have hbv1 := undrewN hbv
  have hla := h1.below (hbv1.mono hB)
  have hsz1 := hbv1.size
  have hl2 := rup_any (hla.alloc (by omega) (.cells (wcells (List.replicate (n + 2) 0)) 98)) (by simp; omega) Hn.out (c := c) (n := y) (by omega) (by omega) (wd_w a)
  rw [val_w] at hl2
  have HL2 := Lib.hid hl2
  have Hbv := Lib.hid (And.intro hbv1 hla)
  clear hl2 hla hbv hbv1
  go_wp2_with fail
  refine HL2.out.mono ?_
  rintro e w3 ⟨A3, n3, c3, rfl, hn3, hc3a, hc3b, hra, hba⟩
  have hbk := (Blk.new w1 98 (wcells (List.replicate (n + 2) 0))).below hba (by simp)
  have hbk' : w3.heap[w1.heap.size]? = some (.cells ((List.replicate (n + 2) 0).map wv).toArray 98 (0, 0)) := hbk
  have hbw := (((Below.refl w1.heap.size w1).alloc (Nat.le_refl _) (.cells (wcells (List.replicate (n + 2) 0)) 98))).trans (hba.mono (by simp))
  have hlen2 := left_len (a := a) (y := y) (n := n) (by rw [Hn.out]; exact Nat.le_refl _) hy
  have hsz3 := hba.size
  obtain ⟨la2, hla2⟩ : ∃ la2, la2 = wds (a * 2 ^ y) := ⟨_, rfl⟩
  rw [← hla2] at hn3 hra hlen2
  have hwa2 : Wd la2 ∧ val la2 = a * 2 ^ y := by rw [hla2]; exact ⟨wd_w _, val_w _⟩
  have Hwa2 := Lib.hid hwa2
  have hn3' := hn3.out
  subst hn3'
  have Hbw := Lib.hid (And.intro hbw hbk')
  have Hra := Lib.hid hra
  clear hla2 hwa2 hbw hbk hbk' hra hba hn3
  have hcp1 : (la2.map wv).length = Nat.min la2.length (n + 2) := by rw [List.length_map]; exact (Nat.min_eq_left (Nat.le_succ_of_le hlen2)).symm
  have hcp2 : 0 < (la2.map wv).length → ∃ ad, A3 = some ad ∧ ∀ (j : Nat) (v : Value), (la2.map wv)[j]? = some v → w3.cell? (ad.add j) = some v := fun h0 => by
    obtain ⟨ad, e, _, hc⟩ := Hra.out.1.2 (by rwa [List.length_map] at h0)
    exact ⟨ad, e, hc⟩
  have hcp3 : 0 + (la2.map wv).length ≤ ((List.replicate (n + 2) 0).map wv).length := by simp; omega
  have Hcp := Lib.hid (And.intro hcp1 (And.intro hcp2 hcp3))
  clear hcp1 hcp2 hcp3
  have hmn : p + 2 ≤ n := by rw [Hn.out, Hm.out]; exact len_mono hab
  have hmk2 : ∀ w : World, (Instr.makeSlice 80 (.int .i64 ((n : Int) + 2 - ((p : Int) + 2))) (.int .i64 ((n : Int) + 2 - ((p : Int) + 2)))).run Try.prog w = .ok (.slice (some ⟨w.heap.size, 0, none⟩) (n - p) (n - p)) (w.alloc (.cells (wcells (List.replicate (n - p) 0)) 98)) := fun w => by
    have := run_makeW (n - p) (by omega) w
    rw [← this, show ((n - p : Nat) : Int) = (n : Int) + 2 - ((p : Int) + 2) by omega]
  go_wp2_with (refine wpList_copy_splice rfl (.tmp 55) (.tmp 58) 80 80 rfl 98 Try.underlying80 sizeW (some ⟨w1.heap.size, 0, none⟩) A3 (n + 2) (n + 2) la2.length c3 rfl rfl w1.heap.size 0 ((List.replicate (n + 2) 0).map wv) 98 Hbw.out.2 (la2.map wv) Hcp.out.1 (fun h0 => ⟨rfl, Hcp.out.2.1 h0⟩) Hcp.out.2.2 (wv_one _) w1.heap.size w1 Hbw.out.1 (Nat.le_refl _) ?_; intro w4 hu4 hb4; have Hb4 := Lib.hid hb4; have Hu4 := Lib.hid hu4; clear hb4 hu4)
  have hL0 : Blk w4 w1.heap.size 98 (wcells (la2 ++ List.replicate (n + 2 - la2.length) 0)) := by
    have := Hu4.out.out
    rw [splice_words] at this
    exact this
  have hwa := Hwa2.out
  have hlong := long_start (a := a) (b := b) (n := n + 1) (m := p + 1) (by_ := y) (L := la2 ++ List.replicate (n + 2 - la2.length) 0) (by rw [List.length_append, List.length_replicate]; omega) (wd_append.2 ⟨hwa.1, wd_zeros _⟩) (by rw [val_append, val_zeros, Nat.mul_zero, Nat.add_zero]; exact hwa.2)
    (Nat.lt_of_lt_of_le (lt_of_len (by rw [Hn.out]; exact Nat.le_refl _)) (Nat.pow_le_pow_right (by decide) (Nat.le_succ n))) hy (by omega) (by rw [← HV.out.1]; exact HV.out.2.2.1)
  rw [← HV.out.1, show n + 1 - (p + 1) = n - p by omega] at hlong
  have Hlong := Lib.hid hlong
  have Hblk := Lib.hid hL0
  have hbel4 := Hbv.out.1.trans (Hb4.out.mono hsz1)
  have Hbel4 := Lib.hid hbel4
  have hrv4 := (hrv.below Hb4.out)
  have hlt4 := hL0.lt
  have hV0 : 0 < V := by have := HV.out.2.2.1; have h0 : 0 < 4294967296 ^ (p + 1) := Nat.pow_pos (by decide); omega
  clear hlong hL0 hwa hbel4
  have hi1 : (0 : Int) ≤ (n : Int) + 2 - ((p : Int) + 2) := by omega
  go_loopg [13] (n - p) (fun k jv wr => ∃ L Q, jv = .int .i64 ((k : Int) - 1) ∧ k ≤ n - p ∧ Blk wr w1.heap.size 98 (wcells L) ∧ Blk wr w4.heap.size 98 (wcells Q) ∧ Below w.heap.size w wr ∧ ReadsW wr w1.heap.size Cv (wds V) ∧ Hid (Long (a * 2 ^ y) V (n + 1) (p + 2) k L Q))
  case atStart => exact ⟨_, _, by congr 1; omega, Nat.le_refl _, Hblk.out.alloc _, Blk.new _ _ _, Hbel4.out.alloc (by have := Hbel4.out.size; omega) _, hrv4.alloc (by omega) _, Hlong.out⟩
  case round =>
    obtain ⟨L, Q, rfl, hkl, hbu, hbq, hbel, hrvr, hLong⟩ := hrel
    by_cases h0 : 0 < gk
    · obtain ⟨j, rfl⟩ : ∃ j, gk = j + 1 := ⟨gk - 1, by omega⟩
      rw [show (((j + 1 : Nat) : Int) - 1) = (j : Int) by omega]
      have hjm : j + (p + 2) ≤ n + 1 := by omega
      have hLl := hLong.out.1
      have hLw := hLong.out.2.1
      obtain ⟨M, hM⟩ : ∃ M, M = (L.drop j).take (p + 3) := ⟨_, rfl⟩
      have hMl : M.length = p + 3 := by rw [hM, List.length_take, List.length_drop]; omega
      have hMw : Wd M := by rw [hM]; exact wd_take (wd_drop hLw j) _
      have hmid : MidW wr w1.heap.size (L.take j) M (L.drop (j + (p + 3))) := by
        unfold MidW
        rw [hM, ← List.drop_drop, List.take_append_drop, List.take_append_drop]
        exact hbu
      have hPl : j = (L.take j).length := by rw [List.length_take]; omega
      have hVm := HV.out.2.2.2.1
      have hmidv := long_mid hLong.out hVm hjm
      rw [show p + 2 + 1 = p + 3 from rfl, ← hM] at hmidv
      have hv1 := HV.out.2.2.2.2
      have hlvl := HV.out.2.1
      rw [at_get (by omega)] at hv1
      obtain ⟨T, hT⟩ : ∃ T, T = M[p + 2] * 4294967296 + M[p + 1] := ⟨_, rfl⟩
      have hfg := first_guess (p := p) hMw (wd_w V) hMl hlvl (by omega) hT (by rw [val_w]; exact hmidv.1)
      rw [val_w] at hfg
      obtain ⟨vd, rfl, hvb, cv1⟩ := hrvr.at_ (k := p + 1) (by omega)
      rw [add_pos (Nat.succ_ne_zero p)] at cv1
      have cu2 := hmid.cell hPl (i := p + 2) (by omega)
      have cu1 := hmid.cell hPl (i := p + 1) (by omega)
      have bu2 := wd_get hMw (p + 2) (by omega)
      have bu1 := wd_get hMw (p + 1) (by omega)
      have bv1 := wd_get (wd_w V) (p + 1) (by omega)
      generalize M[p + 2] = u2 at *
      generalize M[p + 1] = u1 at *
      generalize (wds V)[p + 1] = v1 at *
      have Hmid := Lib.hid (And.intro hM (And.intro hMl (And.intro hMw (And.intro hmid (And.intro hPl (And.intro hmidv hfg))))))
      have Hlv := Lib.hid (And.intro hlvl (And.intro hVm hrvr))
      clear hM hMl hMw hmid hPl hmidv hfg hLl hLw hVm hlvl hrvr
      have hTb : T ≤ 18446744073709551615 := by omega
      have HTT := Lib.hid hT
      clear hT
      go_wp2_with fail
      have r1 : IntKind.i64.wrap ((j : Int) + ((p : Int) + 2)) = (j : Int) + ((p : Int) + 2) := IntWalk.i64_in _ (by omega)
      have r2 : ((j : Int) + ((p : Int) + 2)).toNat = j + (p + 2) := by omega
      have r3 : IntKind.i64.wrap ((j : Int) + ((p : Int) + 2) - 1) = (j : Int) + ((p : Int) + 2) - 1 := IntWalk.i64_in _ (by omega)
      have r4 : ((j : Int) + ((p : Int) + 2) - 1).toNat = j + (p + 1) := by omega
      have r5 : IntKind.u64.wrap (u2 : Int) = (u2 : Int) := IntWalk.u64_in _ (by omega)
      have r6 : IntKind.u64.wrap (u1 : Int) = (u1 : Int) := IntWalk.u64_in _ (by omega)
      have r7 : IntKind.u64.wrap ((u2 : Int) * 4294967296) = (u2 : Int) * 4294967296 := IntWalk.u64_in _ (by omega)
      have r13 : IntKind.u64.wrap ((u2 : Int) * 4294967296 + (u1 : Int)) = (u2 : Int) * 4294967296 + (u1 : Int) := IntWalk.u64_in _ (by omega)
      have r8 : (0 : Int) ≤ (j : Int) + ((p : Int) + 2) := by omega
      have r9 : (j : Int) + ((p : Int) + 2) < (n : Int) + 2 := by omega
      have r10 : (0 : Int) ≤ (j : Int) + ((p : Int) + 2) - 1 := by omega
      have r11 : (j : Int) + ((p : Int) + 2) - 1 < (n : Int) + 2 := by omega
      have r12 : (1 : Int) ≤ (j : Int) + ((p : Int) + 2) := by omega
      go_quiet (fail)
      clear r1 r2 r3 r4 r5 r6 r7 r8 r9 r10 r11 r12 r13
      rw [show (u2 : Int) * 4294967296 + (u1 : Int) = (T : Int) by rw [HTT.out]; omega]
      have hv1n : 1 ≤ v1 := by omega
      go_upto_region 16 with fail
      go_cut [15] from 72 to 152 (fun gv wx => ∃ G0 : Nat, gv = .int .u64 (G0 : Int) ∧ G0 ≤ 4294967295 ∧ val M < (G0 + 1) * V ∧ wx = wr.drewN nq)
      case first =>
        have hfg := Lib.hid Hmid.out.2.2.2.2.2.2
        go_wp2_with fail
        · go_meet
          case rel => exact ⟨4294967295, rfl, Nat.le_refl _, Hmid.out.2.2.2.2.2.1.1, rfl⟩
        · go_meet
          case rel =>
            obtain ⟨G, hGd⟩ : ∃ G, G = T / v1 := ⟨_, rfl⟩
            have h8 : (T : Int) / (v1 : Int) = (G : Int) := by rw [hGd]; rfl
            have hTq : G ≤ 8589934591 := by rw [hGd]; exact Nat.le_trans (Nat.div_le_div_left (c := 2147483648) (by omega) (by decide)) (by omega)
            rw [h8, IntWalk.u64_in _ (by omega)] at h ⊢
            have h9 : G ≤ 4294967295 := by omega
            exact ⟨G, rfl, h9, by have h7 := hfg.out; rwa [← hGd, Nat.min_eq_left h9] at h7, rfl⟩
      case rest =>
      obtain ⟨G0, rfl, hG0, hG1, rfl⟩ := hcut
      have hbu0 : Blk (wr.drewN nq) w1.heap.size 98 (wcells L) := hbu
      have hbq0 : Blk (wr.drewN nq) w4.heap.size 98 (wcells Q) := hbq
      have hbel0 : Below w.heap.size w (wr.drewN nq) := below_drewN hbel nq
      have hrv0 : ReadsW (wr.drewN nq) w1.heap.size (some vd) (wds V) := Hlv.out.2.2
      clear hbu hbq hbel cv1 cu1 cu2
      generalize wr.drewN nq = W0 at hbu0 hbq0 hbel0 hrv0 ⊢
      have Hw0 := Lib.hid (And.intro hbu0 (And.intro hbq0 (And.intro hbel0 hrv0)))
      have hltu := hbu0.lt
      have HG1 := Lib.hid hG1
      clear hbu0 hbq0 hbel0 hrv0 hG1
      go_wp2_with fail
      go_loopg [15] G0 (fun k gv wi => ∃ gz : Nat, gv = .int .u64 (gz : Int) ∧ k = gz ∧ gz ≤ 4294967295 ∧ Hid (val M < (gz + 1) * V) ∧ Below W0.heap.size W0 wi)
      case atStart => exact ⟨G0, rfl, rfl, hG0, HG1, Below.refl _ _⟩
      case round =>
        obtain ⟨gz, rfl, hk, hgz, hgM, hbi⟩ := hrel
        have Hk := Lib.hid hk
        clear hk
        have hf := rfits_any (w := wr) (x := gz) (j := j) (d := d1) (Hw0.out.1.below hbi hltu) ((Hw0.out.2.2.2.below (hbi.mono (Nat.le_of_lt hltu))).more (by have := hbi.size; omega)) (show n + 2 = L.length by have := hLong.out.1; omega) HV.out.2.1.symm (by omega) hLong.out.2.1 hgz (by omega)
        rw [show p + 2 + 1 = p + 3 from rfl, ← Hmid.out.1] at hf
        by_cases hle : gz * V ≤ val M
        · rw [decide_eq_true hle] at hf
          have HF := Lib.hid hf
          have Hle := Lib.hid hle
          clear hf hle
          go_wp2_with fail
          refine HF.out.mono ?_
          rintro e w7 ⟨rfl, hb7⟩
          have hb8 := hbi.trans (hb7.mono hbi.size)
          have hbu8 := Hw0.out.1.below hb8 hltu
          have hbq8 := Hw0.out.2.1.below hb8 Hw0.out.2.1.lt
          have hbel8 := Hw0.out.2.2.1.trans (hb8.mono Hw0.out.2.2.1.size)
          have hrv8 := Hw0.out.2.2.2.below (hb8.mono (Nat.le_of_lt hltu))
          have hQl : j < Q.length := by have := hLong.out.2.2.1; omega
          have hqc : w7.cell? ⟨w4.heap.size, j, none⟩ = some (.int .u32 ((Q[j] : Nat) : Int)) := by rw [hbq8.cell, wcells_get, List.getElem?_eq_getElem hQl]; rfl
          have hqf := hbq8.frozen j
          have hji : (j : Int) < ((n - p : Nat) : Int) := by omega
          have hbq9 : Blk (w7.setCell ⟨w4.heap.size, j, none⟩ (.int .u32 (gz : Int))) w4.heap.size 98 (wcells (Q.set j gz)) := by
            have := hbq8.set_ j (.int .u32 (gz : Int))
            rwa [wcells_set] at this
          have hne : w1.heap.size ≠ w4.heap.size := by omega
          have hbu9 : Blk (w7.setCell ⟨w4.heap.size, j, none⟩ (.int .u32 (gz : Int))) w1.heap.size 98 (wcells L) := Blk.far hbu8 (p := ⟨w4.heap.size, j, none⟩) hne _
          have hbel9 := hbel8.setCell (p := ⟨w4.heap.size, j, none⟩) (show w.heap.size ≤ w4.heap.size by omega) (.int .u32 (gz : Int))
          have hrv9 := ReadsW.setCell hrv8 (p := ⟨w4.heap.size, j, none⟩) (show w1.heap.size ≤ w4.heap.size by omega) (.int .u32 (gz : Int))
          have hmid9 : MidW (w7.setCell ⟨w4.heap.size, j, none⟩ (.int .u32 (gz : Int))) w1.heap.size (L.take j) M (L.drop (j + (p + 3))) := by
            unfold MidW
            rw [Hmid.out.1, ← List.drop_drop, List.take_append_drop, List.take_append_drop]
            exact hbu9
          have H9 := Lib.hid (And.intro hmid9 (And.intro hbq9 (And.intro hbel9 hrv9)))
          clear hb8 hbu8 hbq8 hbel8 hrv8 hbu9 hbq9 hbel9 hrv9 hmid9 hb7 hbi HG1 hG0
          go_upto_region 21 with fail
          clear hqc hqf
          generalize (w7.setCell ⟨w4.heap.size, j, none⟩ (.int .u32 (gz : Int))) = W9 at H9 ⊢
          go_wp2_with fail
          go_loopg [16, 17, 18] (p + 3) (fun k bv cv iv wz => ∃ (i c b : Nat) (M1 : List Nat), bv = .int .u64 (b : Int) ∧ cv = .int .u64 (c : Int) ∧ iv = .int .i64 (i : Int) ∧ k = p + 3 - i ∧ i ≤ p + 3 ∧ c ≤ 4294967295 ∧ b ≤ 1 ∧ MidW wz w1.heap.size (L.take j) M1 (L.drop (j + (p + 3))) ∧ Blk wz w4.heap.size 98 (wcells (Q.set j gz)) ∧ Below w.heap.size w wz ∧ ReadsW wz w1.heap.size (some vd) (wds V) ∧ Hid (Taken M M1 (wds V) gz i c b))
          case atStart => exact ⟨0, 0, 0, M, rfl, rfl, rfl, rfl, by omega, by omega, by omega, H9.out.1, H9.out.2.1, H9.out.2.2.1, H9.out.2.2.2, rfl, Hmid.out.2.2.1, rfl, fun _ => rfl, by simp [val_nil]⟩
          case round =>
            obtain ⟨i, c1, b1, M1, rfl, rfl, rfl, hk3, hi, hc1, hb1, hm1, hq1, hl1, hr1, hT⟩ := hrel
            have Hk3 := Lib.hid hk3
            clear hk3
            by_cases hin : i < p + 3
            · have hM1 := hT.out.1
              have hi1 : i < M1.length := by have := Hmid.out.2.1; omega
              have hi2 : i < M.length := by have := Hmid.out.2.1; omega
              have hu := hm1.cell Hmid.out.2.2.2.2.1 hi1
              rw [Nat.add_comm j i] at hu
              have hfz := Blk.frozen hm1 (i + j)
              have wu := wd_get hT.out.2.1 _ hi1
              have hA := rat_any hr1 (n := p + 2) (c := d1) (i := i) HV.out.2.1.symm (wd_w V)
              have hlen := HV.out.2.1
              have hst := fun (cc dd b' : Nat) => taken_step (cc := cc) (d := dd) (b' := b') hT.out hi1 hi2
              have w2 := at_lt (wd_w V) i
              have hz0 : (wds V).length < i + 1 → at_ (wds V) i = 0 := fun h => at_end (by omega)
              have hcz := hT.out.2.2.2.1
              generalize at_ (wds V) i = v at hA hst w2 hz0
              obtain ⟨hmb0, hmb1⟩ := mul_bound (x := gz) (by omega) w2
              have hcast := Lib.hid (Int.natCast_mul gz v)
              have Hm1 := Lib.hid (fun x : Nat => hm1.set_ Hmid.out.2.2.2.2.1 hi1 x)
              generalize M1[i] = u at *
              have HA := Lib.hid hA
              have Hst := Lib.hid hst
              have Hz := Lib.hid (And.intro hz0 (And.intro hq1 (And.intro hl1 (And.intro hr1 hlen))))
              have hii : (i : Int) ≤ (p : Int) + 2 := by omega
              clear hA hst hz0 hcz hM1 hq1 hl1 hr1 hlen
              go_wp2_with fail
              refine HA.out.mono ?_
              rintro e w10 ⟨rfl, rfl⟩
              go_upto_region 25 with fail
              have hq0 : ((c1 : Int) + (gz : Int) * (v : Int)) = ((c1 + gz * v : Nat) : Int) := by rw [← hcast.out]; omega
              rw [hq0]
              have hccb : c1 + gz * v ≤ 18446744073709551615 := by rw [← hcast.out] at hmb1; omega
              have Hcc : Hid (∃ cc, cc = c1 + gz * v) := Lib.hid ⟨_, rfl⟩
              obtain ⟨cc, hcc⟩ := Hcc.out
              rw [← hcc] at hccb ⊢
              have HCC := Lib.hid hcc
              clear hcc hmb0 hmb1 hq0 Hcc
              obtain ⟨X, b2, hX, hXb, hb2, hb2b, hX1, hXe⟩ := off_word (cc := cc) wu hb1 hccb
              have hX' : (4294967296 : Int) + (u : Int) - (cc : Int) % 4294967296 - (b1 : Int) = (X : Int) := by omega
              have hb2' : (1 : Int) - (X : Int) / 4294967296 = (b2 : Int) := by omega
              have HX := Lib.hid (And.intro hX' (And.intro hb2' hXe))
              have hij1 : (i : Int) + (j : Int) < (n : Int) + 2 := by omega
              have hm9 := Nat.mod_lt cc (y := 4294967296) (by decide)
              clear hX hb2 hX' hb2' hXe
              go_upto_region 27 with fail
              rw [HX.out.1]
              go_wp2_with fail
              rw [HX.out.2.1, show (X : Int) % 4294967296 = ((X % 4294967296 : Nat) : Int) by omega, show (cc : Int) / 4294967296 = ((cc / 4294967296 : Nat) : Int) by omega]
              go_roundg (p + 3 - (i + 1))
              case measure => have := Hk3.out; omega
              case rel =>
                refine ⟨i + 1, cc / 4294967296, b2, M1.set i (X % 4294967296), rfl, rfl, rfl, rfl, by omega, by omega, hb2b, ?_, Blk.far Hz.out.2.1 (p := ⟨w1.heap.size, i + j, none⟩) (Ne.symm hne) _, Hz.out.2.2.1.setCell (p := ⟨w1.heap.size, i + j, none⟩) (show w.heap.size ≤ w1.heap.size from hsz1) _, ReadsW.setCell Hz.out.2.2.2.1 (p := ⟨w1.heap.size, i + j, none⟩) (Nat.le_refl _) _, Hst.out _ _ _ HCC.out HX.out.2.2 (Nat.mod_lt _ (by decide)) (fun hh => ?_)⟩
                · have := Hm1.out (X % 4294967296)
                  rwa [Nat.add_comm j i] at this
                · have h7 := Hz.out.1 hh
                  have h8 := HCC.out
                  rw [h7, Nat.mul_zero] at h8
                  omega
            · have hi' : i = p + 2 + 1 := by omega
              have hT1 := hT.out
              rw [hi'] at hT1
              obtain ⟨e1, e2, e3, e4⟩ := taken_end hT1 HV.out.2.1.symm Hmid.out.2.1 hb1 (by rw [val_w]; exact Hle.out) (by rw [val_w]; exact hgM.out)
              rw [val_w] at e3 e4
              have hLs := long_step hLong.out HV.out.2.2.2.1 hV0 hjm e1 e2 (by rw [show p + 2 + 1 = p + 3 from rfl, ← Hmid.out.1]; exact e3)
              rw [show p + 2 + 1 = p + 3 from rfl, ← Hmid.out.1, ← e4] at hLs
              have HLs := Lib.hid hLs
              have Hend := Lib.hid (And.intro hm1 (And.intro hq1 (And.intro hl1 hr1)))
              have hii : (p : Int) + 2 < (i : Int) := by omega
              clear hT1 e1 e2 e3 e4 hLs hT hm1 hq1 hl1 hr1
              go_wp2_with fail
              go_roundg j
              case measure => omega
              case rel => exact ⟨_, Q.set j gz, rfl, by omega, Hend.out.1, Hend.out.2.1, Hend.out.2.2.1, Hend.out.2.2.2, HLs.out.1⟩
        · rw [decide_eq_false hle] at hf
          obtain ⟨hgp, hgd⟩ := guess_less hgM.out hle
          have HF := Lib.hid hf
          have Hgd := Lib.hid hgd
          clear hf hle hgd
          go_wp2_with fail
          refine HF.out.mono ?_
          rintro e w7 ⟨rfl, hb7⟩
          have Hb7 := Lib.hid (hbi.trans (hb7.mono hbi.size))
          clear hb7 hbi
          go_wp2_with fail
          go_roundg (gz - 1)
          case measure => have := Hk.out; omega
          case rel => exact ⟨gz - 1, by congr 1; omega, rfl, by omega, Hgd, Hb7.out⟩
    · have hk0 : gk = 0 := by omega
      subst hk0
      have hlo := hLong.out
      obtain ⟨q1, q2, q3, q4, q5, q6, q7⟩ := hlo
      rw [Nat.pow_zero, Nat.mul_one, HV.out.1] at q7
      rw [HV.out.1] at q6
      have hend := divide_end q6 q7 (Nat.two_pow_pos y)
      have hcQ := rcut_any (reads_blk hbq hbq.lt) (n := n - p) (c := n - p) (by omega) (Nat.le_refl _) (by omega) q4
      have hcU := rcut_any (reads_blk hbu hbu.lt) (n := n + 2) (c := n + 2) (by omega) (Nat.le_refl _) (by omega) q2
      have hmQ := (wds_take _ _ rfl q4).2
      have hmU := (wds_take _ _ rfl q2).2
      have hrU := reads_cut (reads_blk hbu hbu.lt) q2
      have hrQ := reads_cut (reads_blk hbq hbq.lt) q4
      have hD := rdown_any hrU (Nat.le_refl _) rfl (n := y) (c := n + 2) (by omega) (by omega) (wd_w _)
      rw [val_w, hend.2] at hD
      rw [hend.1] at hcQ hrQ hmQ
      obtain ⟨mU, hmU'⟩ : ∃ mU, mU = (wds (val L)).length := ⟨_, rfl⟩
      rw [← hmU'] at hD hcU hmU
      have HCQ := Lib.hid hcQ
      have HCU := Lib.hid hcU
      have HD := Lib.hid hD
      have Hr := Lib.hid (And.intro hrQ (And.intro hbel (And.intro hmQ (And.intro q3 hbq))))
      clear hcQ hcU hD hrQ hrU hmQ hmU hend q1 q2 q3 q4 q5 q6 q7 hbu hbq hbel hrvr hmU'
      go_wp2_with fail
      refine HCQ.out.mono ?_
      rintro e w7 ⟨mQ, rfl, hmQ', rfl⟩
      have HmQ := Lib.hid hmQ'
      clear hmQ'
      go_wp2_with fail
      refine HCU.out.mono ?_
      rintro e w8 ⟨mU2, rfl, rfl, rfl⟩
      go_wp2_with fail
      refine HD.out.mono ?_
      rintro e w9 ⟨A2, m2, c2, rfl, hm2, hc2, hc2b, hr2, hbR⟩
      have Hfin := Lib.hid (And.intro hm2 (And.intro hr2 hbR))
      clear hm2 hr2 hbR
      go_wp2_with fail
      go_ret2
      refine ⟨_, _, _, _, _, _, rfl, ⟨HmQ.out, Hfin.out.1.out⟩, ?_, hc2, by omega, hc2b, ?_, Hfin.out.2.1, Hr.out.2.1.trans (Hfin.out.2.2.mono Hr.out.2.1.size)⟩
      · rw [HmQ.out]; have := Hr.out.2.2.1; have := Hr.out.2.2.2.1; omega
      · exact (Hr.out.1.below Hfin.out.2.2).more Hfin.out.2.2.size
theorem rdivided_any {w : World} {B n m c d a b : Nat} {A C : Option Addr} (h1 : ReadsW w B A (wds a)) (h2 : ReadsW w B C (wds b)) (hB : B ≤ w.heap.size) (hn : n = (wds a).length) (hm : m = (wds b).length) (hnl : n ≤ 30000000) (hml : m ≤ 30000000) (hnc : n ≤ c) (hcl : c ≤ 9223372036854775807) (hb : 0 < b) :
    Calls Try.prog 72 #[.slice A n c, .slice C m d] w (Div2 w (a / b) (a % b)) := by
  rcases Nat.lt_or_ge a b with h | h
  · exact rdivided_lt h1 h2 hB hn hm hnc hcl (by omega) (by omega) h
  · rcases (show m = 0 ∨ m = 1 ∨ 2 ≤ m by omega) with h0 | h0 | h0
    · exfalso
      rw [wds_pos hb] at hm
      simp at hm
      omega
    · exact rdivided_one h1 h2 hB hn hm (by omega) (by omega) h h0
    · exact rdivided_long h1 h2 hB hn hm hnl hml h (show m = (m - 2) + 2 by omega)
end Go.Proofs.Ytpnginnjbdedbaa
