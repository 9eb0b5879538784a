import Derived.Test.YtpnginnjbdedbaaC7
/- The reference's Plus, Minus, Times, Cmp (printed by gen_rops.py). -/
namespace Go.Proofs.Ytpnginnjbdedbaa
open Go.RowKit
open Wh
set_option linter.unusedSimpArgs false

theorem Env.set_ {w0 W : World} {l : List (Nat × TypeId × Array Value)} (h : Env w0 W l) {g j : Nat} (v : Value) (hg : w0.heap.size ≤ g) (hne : ∀ x ∈ l, x.1 ≠ g) : Env w0 (W.setCell ⟨g, j, none⟩ v) l :=
  ⟨h.1.setCell hg _, fun x hx => (h.2 x hx).far (p := ⟨g, j, none⟩) (hne x hx) v⟩
theorem len_sumN {a b p : Nat} (ha : (wds a).length ≤ p) (hb : (wds b).length ≤ p) : (wds (a + b)).length ≤ p + 1 := by
  refine len_wds ?_
  have h1 := lt_of_len ha
  have h2 := lt_of_len hb
  rw [Nat.pow_succ]
  have : 0 < 4294967296 ^ p := Nat.pow_pos (by decide)
  omega
theorem sgn_mulB {na nb : Bool} {a b : Nat} : sgn (na != nb) (a * b) = sgn na a * sgn nb b := by
  unfold sgn
  cases na <;> cases nb <;> simp [Int.neg_mul, Int.mul_neg]
theorem sgn_add {n : Bool} {a b : Nat} : sgn n (a + b) = sgn n a + sgn n b := by
  unfold sgn
  cases n <;> simp <;> omega
theorem sgn_sub {na nb : Bool} {a b : Nat} (h : na ≠ nb) (hle : b ≤ a) : sgn na (a - b) = sgn na a + sgn nb b := by
  unfold sgn
  cases na <;> cases nb <;> simp at h ⊢ <;> omega
theorem sgn_sub' {na nb : Bool} {a b : Nat} (h : na ≠ nb) (hle : a ≤ b) : sgn nb (b - a) = sgn na a + sgn nb b := by
  rw [sgn_sub (fun h0 => h h0.symm) hle, Int.add_comm]
set_option maxRecDepth 100000 in
set_option maxHeartbeats 4000000 in
theorem rtimes_any {w : World} {na nb : Bool} {sa sb : ByteArray} (ha : Fmd sa) (hb : Fmd sb) :
    Calls Try.prog 32 #[.agg #[.bool na, .string sa], .agg #[.bool nb, .string sb]] w (Calm w (enc (num (na, sa) * num (nb, sb)))) := by
  obtain ⟨zs, zb, ez⟩ : ∃ s b, enc (num (na, sa) * num (nb, sb)) = .agg #[.bool s, .string b] := ⟨_, _, rfl⟩
  have HA := Lib.hid (fun W : World => words_any (w := W) (by have := ha.2; omega) ha.1)
  have HB := Lib.hid (fun W : World => words_any (w := W) (by have := hb.2; omega) hb.1)
  have Hla := Lib.hid (And.intro ha.len hb.len)
  have Hab := Lib.hid (And.intro ha hb)
  obtain ⟨a, hae⟩ : ∃ a, a = bval sa.data.toList := ⟨_, rfl⟩
  obtain ⟨b, hbe⟩ : ∃ b, b = bval sb.data.toList := ⟨_, rfl⟩
  rw [← hae] at HA
  rw [← hbe] at HB
  rw [← hae, ← hbe] at Hla
  have Hnum := Lib.hid (show num (na, sa) = sgn na a ∧ num (nb, sb) = sgn nb b from ⟨by rw [hae]; rfl, by rw [hbe]; rfl⟩)
  (try rw [← hae, ← hbe])
  clear hae hbe ha hb
  have E0 := Lib.hid (Env.nil w)
  go_enter Try.func32, Try.ntmps32
  go_upto_region 1 with fail
  have E1 : Hid (Env w (((w.alloc (.cells #[.bool na, .string sa] 26)).alloc (.cells #[.bool nb, .string sb] 26)).alloc (.cells #[.bool false, .string ⟨#[]⟩] 26)) [(w.heap.size + 1 + 1, 26, #[.bool false, .string ⟨#[]⟩]), (w.heap.size + 1, 26, #[.bool nb, .string sb]), (w.heap.size, 26, #[.bool na, .string sa])]) := Lib.hid (by have h := (Env.new (Env.new (Env.new E0.out 26 #[.bool na, .string sa]) 26 #[.bool nb, .string sb]) 26 #[.bool false, .string ⟨#[]⟩]); (try simp only [World.size_alloc] at h); exact h)
  generalize (((w.alloc (.cells #[.bool na, .string sa] 26)).alloc (.cells #[.bool nb, .string sb] 26)).alloc (.cells #[.bool false, .string ⟨#[]⟩] 26)) = W1 at E1 ⊢
  have Cf1 := Lib.hid (fun (W : World) (h : Env w W [(w.heap.size + 1 + 1, 26, #[.bool false, .string ⟨#[]⟩]), (w.heap.size + 1, 26, #[.bool nb, .string sb]), (w.heap.size, 26, #[.bool na, .string sa])]) => (show W.cell? ⟨w.heap.size, 0, none⟩ = some (.bool na) ∧ W.cell? ⟨w.heap.size, 1, none⟩ = some (.string sa) ∧ W.cell? ⟨w.heap.size + 1, 0, none⟩ = some (.bool nb) ∧ W.cell? ⟨w.heap.size + 1, 1, none⟩ = some (.string sb) from ⟨(Env.at_ h 2 rfl).cell 0, (Env.at_ h 2 rfl).cell 1, (Env.at_ h 1 rfl).cell 0, (Env.at_ h 1 rfl).cell 1⟩))
  refine wp_region_noPanic ?_
  refine wp_region_HK (fun w' => w'.cell? ⟨w.heap.size, 0, none⟩ = some (.bool na) ∧ w'.cell? ⟨w.heap.size, 1, none⟩ = some (.string sa) ∧ w'.cell? ⟨w.heap.size + 1, 0, none⟩ = some (.bool nb) ∧ w'.cell? ⟨w.heap.size + 1, 1, none⟩ = some (.string sb)) 13 (by kernel_rfl) (Cf1.out _ E1.out.drew) (fun hHeld => ?_)
  refine wpHK_pure (i := 0) (oi := Oper.mk (some 5) _ _ _ _ _) (v := ?_) rfl (by kernel_rfl) (by kernel_rfl) (by kernel_rfl) (fun _ _ _ h => h) (Or.inl ⟨by rfl, ?_⟩) ?_
  rotate_left
  · (intro w' _; go_simp; try with_reducible rfl)
  try simp only [Act.put, List.setIfInBounds_toArray, List.set_cons_zero, List.set_cons_succ]
  refine wpHK_pure (i := 2) (oi := Oper.mk (some 7) _ _ _ _ _) (v := ?_) rfl (by kernel_rfl) (by kernel_rfl) (by kernel_rfl) (fun _ _ _ h => h) (Or.inl ⟨by rfl, ?_⟩) ?_
  rotate_left
  · (intro w' _; go_simp; try with_reducible rfl)
  try simp only [Act.put, List.setIfInBounds_toArray, List.set_cons_zero, List.set_cons_succ]
  refine wpHK_pure (i := 5) (oi := Oper.mk (some 10) _ _ _ _ _) (v := ?_) rfl (by kernel_rfl) (by kernel_rfl) (by kernel_rfl) (fun _ _ _ h => h) (Or.inl ⟨by rfl, ?_⟩) ?_
  rotate_left
  · (intro w' _; go_simp; try with_reducible rfl)
  try simp only [Act.put, List.setIfInBounds_toArray, List.set_cons_zero, List.set_cons_succ]
  refine wpHK_pure (i := 8) (oi := Oper.mk (some 13) _ _ _ _ _) (v := ?_) rfl (by kernel_rfl) (by kernel_rfl) (by kernel_rfl) (fun _ _ _ h => h) (Or.inl ⟨by rfl, ?_⟩) ?_
  rotate_left
  · (intro w' _; go_simp; try with_reducible rfl)
  try simp only [Act.put, List.setIfInBounds_toArray, List.set_cons_zero, List.set_cons_succ]
  refine wpHK_take (i := 1) (oi := Oper.mk (some 6) _ _ _ _ _) (v := ?_) rfl (by kernel_rfl) (by kernel_rfl) (by kernel_rfl) (by kernel_rfl) (fun _ _ _ h => h) (Or.inl ⟨by rfl, ?_⟩) (by assumption) ?_
  rotate_left
  · (intro w' hSw; (try dsimp only at hSw); (obtain ⟨s0, s1, s2, s3⟩ := hSw); go_simp; try with_reducible rfl)
  try simp only [Act.put, List.setIfInBounds_toArray, List.set_cons_zero, List.set_cons_succ]
  refine wpHK_take (i := 3) (oi := Oper.mk (some 8) _ _ _ _ _) (v := ?_) rfl (by kernel_rfl) (by kernel_rfl) (by kernel_rfl) (by kernel_rfl) (fun _ _ _ h => h) (Or.inl ⟨by rfl, ?_⟩) (by assumption) ?_
  rotate_left
  · (intro w' hSw; (try dsimp only at hSw); (obtain ⟨s0, s1, s2, s3⟩ := hSw); go_simp; try with_reducible rfl)
  try simp only [Act.put, List.setIfInBounds_toArray, List.set_cons_zero, List.set_cons_succ]
  refine wpHK_pure (i := 4) (oi := Oper.mk (some 9) _ _ _ _ _) (v := ?_) rfl (by kernel_rfl) (by kernel_rfl) (by kernel_rfl) (fun _ _ _ h => h) (Or.inl ⟨by rfl, ?_⟩) ?_
  rotate_left
  · (intro w' _; go_simp; try with_reducible rfl)
  try simp only [Act.put, List.setIfInBounds_toArray, List.set_cons_zero, List.set_cons_succ]
  refine wpHK_take (i := 6) (oi := Oper.mk (some 11) _ _ _ _ _) (v := ?_) rfl (by kernel_rfl) (by kernel_rfl) (by kernel_rfl) (by kernel_rfl) (fun _ _ _ h => h) (Or.inl ⟨by rfl, ?_⟩) (by assumption) ?_
  rotate_left
  · (intro w' hSw; (try dsimp only at hSw); (obtain ⟨s0, s1, s2, s3⟩ := hSw); go_simp; try with_reducible rfl)
  try simp only [Act.put, List.setIfInBounds_toArray, List.set_cons_zero, List.set_cons_succ]
  refine wpHK_take (i := 9) (oi := Oper.mk (some 14) _ _ _ _ _) (v := ?_) rfl (by kernel_rfl) (by kernel_rfl) (by kernel_rfl) (by kernel_rfl) (fun _ _ _ h => h) (Or.inl ⟨by rfl, ?_⟩) (by assumption) ?_
  rotate_left
  · (intro w' hSw; (try dsimp only at hSw); (obtain ⟨s0, s1, s2, s3⟩ := hSw); go_simp; try with_reducible rfl)
  try simp only [Act.put, List.setIfInBounds_toArray, List.set_cons_zero, List.set_cons_succ]
  refine wpHK_one (j := 7) (o := Oper.mk (some 12) _ _ _ _ _) rfl (by kernel_rfl) (fun K hK => ?_)
  go_simp
  refine (HA.out _).mono ?_
  rintro e V1 ⟨A1, m1, c1, rfl, hm, hmc, hcl, hr, hb⟩
  have F1 := Lib.hid (Env.call E1.out.drew hb)
  have R1 := Lib.hid (And.intro hm.out (And.intro hmc (And.intro hcl hr)))
  have hbl := Lib.hid hb
  clear hm hmc hcl hr hb
  refine hK.out _ _ (Cf1.out _ F1.out) (fun _ => ?_)
  clear hK K hHeld
  have hHeld := (Cf1.out _ F1.out)
  try simp only [Act.put, List.setIfInBounds_toArray, List.set_cons_zero, List.set_cons_succ]
  refine wpHK_one (j := 10) (o := Oper.mk (some 15) _ _ _ _ _) rfl (by kernel_rfl) (fun K hK => ?_)
  go_simp
  refine (HB.out _).mono ?_
  rintro e V2 ⟨A2, m2, c2, rfl, hm, hmc, hcl, hr, hb⟩
  have F2 := Lib.hid (Env.call F1.out hb)
  have R2 := Lib.hid (And.intro hm.out (And.intro hmc (And.intro hcl hr)))
  have hbl := Lib.hid hb
  clear hm hmc hcl hr hb
  have R1' := Lib.hid (And.intro R1.out.1 (And.intro R1.out.2.1 (And.intro R1.out.2.2.1 ((R1.out.2.2.2.below hbl.out).more hbl.out.size))))
  clear R1 hbl
  have R1 := R1'
  clear R1'
  refine hK.out _ _ (Cf1.out _ F2.out) (fun _ => ?_)
  clear hK K hHeld
  have hHeld := (Cf1.out _ F2.out)
  try simp only [Act.put, List.setIfInBounds_toArray, List.set_cons_zero, List.set_cons_succ]
  refine wpHK_one (j := 11) (o := Oper.mk (some 16) _ _ _ _ _) rfl (by kernel_rfl) (fun K hK => ?_)
  go_simp
  refine (rproduct_any R1.out.2.2.2 R2.out.2.2.2 (Nat.le_refl _) R1.out.1 R2.out.1 (by have := R1.out.1; have := Hla.out.1; omega) (by have := R2.out.1; have := Hla.out.2; omega) (wd_w _) (wd_w _)).mono ?_
  rintro e V3 ⟨A3, m3, c3, rfl, hm, hmc, hcl, hr, hb⟩
  simp only [val_w] at hm hr
  have F3 := Lib.hid (Env.call F2.out hb)
  have R3 := Lib.hid (And.intro hm.out (And.intro hmc (And.intro hcl hr)))
  clear hm hmc hcl hr hb
  refine hK.out _ _ (Cf1.out _ F3.out) (fun _ => ?_)
  clear hK K hHeld
  have hHeld := (Cf1.out _ F3.out)
  try simp only [Act.put, List.setIfInBounds_toArray, List.set_cons_zero, List.set_cons_succ]
  refine wpHK_one (j := 12) (o := Oper.mk (some 17) _ _ _ _ _) rfl (by kernel_rfl) (fun K hK => ?_)
  go_simp
  have HM := made_any (w := _) (neg := (na != nb)) R3.out.2.2.2 (Nat.le_refl _) R3.out.1 R3.out.2.1 R3.out.2.2.1 (by have := R3.out.1; have := len_mul Hla.out.1 Hla.out.2; omega) (wd_w _)
  rw [val_w, sgn_mulB, ← Hnum.out.1, ← Hnum.out.2, ez] at HM
  refine HM.mono ?_
  rintro e V4 ⟨rfl, hb⟩
  have F4 := Lib.hid (Env.call F3.out hb)
  clear hb HM
  refine hK.out _ _ (Cf1.out _ F4.out) (fun _ => ?_)
  clear hK K hHeld
  have hHeld := (Cf1.out _ F4.out)
  try simp only [Act.put, List.setIfInBounds_toArray, List.set_cons_zero, List.set_cons_succ]
  refine wpHK_tail (j := 13) (o := Oper.mk (none) _ _ _ _ _) rfl (by kernel_rfl) (by decide) (fun K hK => ?_)
  have n4 := Env.at_ F4.out 0 rfl
  have y0 := n4.cell 0
  have y1 := n4.cell 1
  have y2 := n4.frozen 0
  have y3 := n4.frozen 1
  simp at y0 y1
  go_simp
  refine hK.out _ _ ?_
  clear hK K
  try simp only [Act.put, List.setIfInBounds_toArray, List.set_cons_zero, List.set_cons_succ]
  refine wpHK_done (by kernel_rfl) ?_ _
  refine NoPanic.normal ?_
  go_wp2_with fail
  have n5 := ((Env.at_ F4.out 0 rfl).set_ 0 (.bool zs)).set_ 1 (.string zb)
  have d0 := n5.cell 0
  have d1 := n5.cell 1
  simp at d0 d1
  refine bodyPost_ret (v := .agg #[.bool zs, .string zb]) (by simp [results, Try.results32, go_sem, d0, d1]) rfl ?_
  exact ⟨by rw [ez], ((F4.out.1).setCell (by show w.heap.size ≤ w.heap.size + 1 + 1; omega) _).setCell (by show w.heap.size ≤ w.heap.size + 1 + 1; omega) _⟩
set_option maxRecDepth 100000 in
set_option maxHeartbeats 4000000 in
theorem rplus_same {w : World} {na nb : Bool} {sa sb : ByteArray} (ha : Fmd sa) (hb : Fmd sb) (hs : na = nb) :
    Calls Try.prog 17 #[.agg #[.bool na, .string sa], .agg #[.bool nb, .string sb]] w (Calm w (enc (num (na, sa) + num (nb, sb)))) := by
  obtain ⟨zs, zb, ez⟩ : ∃ s b, enc (num (na, sa) + num (nb, sb)) = .agg #[.bool s, .string b] := ⟨_, _, rfl⟩
  have HA := Lib.hid (fun W : World => words_any (w := W) (by have := ha.2; omega) ha.1)
  have HB := Lib.hid (fun W : World => words_any (w := W) (by have := hb.2; omega) hb.1)
  have Hla := Lib.hid (And.intro ha.len hb.len)
  have Hab := Lib.hid (And.intro ha hb)
  obtain ⟨a, hae⟩ : ∃ a, a = bval sa.data.toList := ⟨_, rfl⟩
  obtain ⟨b, hbe⟩ : ∃ b, b = bval sb.data.toList := ⟨_, rfl⟩
  rw [← hae] at HA
  rw [← hbe] at HB
  rw [← hae, ← hbe] at Hla
  have Hnum := Lib.hid (show num (na, sa) = sgn na a ∧ num (nb, sb) = sgn nb b from ⟨by rw [hae]; rfl, by rw [hbe]; rfl⟩)
  (try rw [← hae, ← hbe])
  clear hae hbe ha hb
  have E0 := Lib.hid (Env.nil w)
  go_enter Try.func17, Try.ntmps17
  subst hs
  go_upto_region 1 with fail
  have E1 : Hid (Env w (((w.alloc (.cells #[.bool na, .string sa] 26)).alloc (.cells #[.bool na, .string sb] 26)).alloc (.cells #[.bool false, .string ⟨#[]⟩] 26)) [(w.heap.size + 1 + 1, 26, #[.bool false, .string ⟨#[]⟩]), (w.heap.size + 1, 26, #[.bool na, .string sb]), (w.heap.size, 26, #[.bool na, .string sa])]) := Lib.hid (by have h := (Env.new (Env.new (Env.new E0.out 26 #[.bool na, .string sa]) 26 #[.bool na, .string sb]) 26 #[.bool false, .string ⟨#[]⟩]); (try simp only [World.size_alloc] at h); exact h)
  generalize (((w.alloc (.cells #[.bool na, .string sa] 26)).alloc (.cells #[.bool na, .string sb] 26)).alloc (.cells #[.bool false, .string ⟨#[]⟩] 26)) = W1 at E1 ⊢
  have Cf1 := Lib.hid (fun (W : World) (h : Env w W [(w.heap.size + 1 + 1, 26, #[.bool false, .string ⟨#[]⟩]), (w.heap.size + 1, 26, #[.bool na, .string sb]), (w.heap.size, 26, #[.bool na, .string sa])]) => (show W.cell? ⟨w.heap.size, 0, none⟩ = some (.bool na) ∧ W.cell? ⟨w.heap.size, 1, none⟩ = some (.string sa) ∧ W.cell? ⟨w.heap.size + 1, 0, none⟩ = some (.bool na) ∧ W.cell? ⟨w.heap.size + 1, 1, none⟩ = some (.string sb) from ⟨(Env.at_ h 2 rfl).cell 0, (Env.at_ h 2 rfl).cell 1, (Env.at_ h 1 rfl).cell 0, (Env.at_ h 1 rfl).cell 1⟩))
  refine wp_region_noPanic ?_
  refine wp_region_HK (fun w' => w'.cell? ⟨w.heap.size, 0, none⟩ = some (.bool na) ∧ w'.cell? ⟨w.heap.size, 1, none⟩ = some (.string sa) ∧ w'.cell? ⟨w.heap.size + 1, 0, none⟩ = some (.bool na) ∧ w'.cell? ⟨w.heap.size + 1, 1, none⟩ = some (.string sb)) 6 (by kernel_rfl) (Cf1.out _ E1.out.drew) (fun hHeld => ?_)
  refine wpHK_pure (i := 0) (oi := Oper.mk (some 7) _ _ _ _ _) (v := ?_) rfl (by kernel_rfl) (by kernel_rfl) (by kernel_rfl) (fun _ _ _ h => h) (Or.inl ⟨by rfl, ?_⟩) ?_
  rotate_left
  · (intro w' _; go_simp; try with_reducible rfl)
  try simp only [Act.put, List.setIfInBounds_toArray, List.set_cons_zero, List.set_cons_succ]
  refine wpHK_pure (i := 3) (oi := Oper.mk (some 10) _ _ _ _ _) (v := ?_) rfl (by kernel_rfl) (by kernel_rfl) (by kernel_rfl) (fun _ _ _ h => h) (Or.inl ⟨by rfl, ?_⟩) ?_
  rotate_left
  · (intro w' _; go_simp; try with_reducible rfl)
  try simp only [Act.put, List.setIfInBounds_toArray, List.set_cons_zero, List.set_cons_succ]
  refine wpHK_take (i := 1) (oi := Oper.mk (some 8) _ _ _ _ _) (v := ?_) rfl (by kernel_rfl) (by kernel_rfl) (by kernel_rfl) (by kernel_rfl) (fun _ _ _ h => h) (Or.inl ⟨by rfl, ?_⟩) (by assumption) ?_
  rotate_left
  · (intro w' hSw; (try dsimp only at hSw); (obtain ⟨s0, s1, s2, s3⟩ := hSw); go_simp; try with_reducible rfl)
  try simp only [Act.put, List.setIfInBounds_toArray, List.set_cons_zero, List.set_cons_succ]
  refine wpHK_take (i := 4) (oi := Oper.mk (some 11) _ _ _ _ _) (v := ?_) rfl (by kernel_rfl) (by kernel_rfl) (by kernel_rfl) (by kernel_rfl) (fun _ _ _ h => h) (Or.inl ⟨by rfl, ?_⟩) (by assumption) ?_
  rotate_left
  · (intro w' hSw; (try dsimp only at hSw); (obtain ⟨s0, s1, s2, s3⟩ := hSw); go_simp; try with_reducible rfl)
  try simp only [Act.put, List.setIfInBounds_toArray, List.set_cons_zero, List.set_cons_succ]
  refine wpHK_one (j := 2) (o := Oper.mk (some 9) _ _ _ _ _) rfl (by kernel_rfl) (fun K hK => ?_)
  go_simp
  refine (HA.out _).mono ?_
  rintro e V1 ⟨A1, m1, c1, rfl, hm, hmc, hcl, hr, hb⟩
  have F1 := Lib.hid (Env.call E1.out.drew hb)
  have R1 := Lib.hid (And.intro hm.out (And.intro hmc (And.intro hcl hr)))
  have hbl := Lib.hid hb
  clear hm hmc hcl hr hb
  refine hK.out _ _ (Cf1.out _ F1.out) (fun _ => ?_)
  clear hK K hHeld
  have hHeld := (Cf1.out _ F1.out)
  try simp only [Act.put, List.setIfInBounds_toArray, List.set_cons_zero, List.set_cons_succ]
  refine wpHK_one (j := 5) (o := Oper.mk (some 12) _ _ _ _ _) rfl (by kernel_rfl) (fun K hK => ?_)
  go_simp
  refine (HB.out _).mono ?_
  rintro e V2 ⟨A2, m2, c2, rfl, hm, hmc, hcl, hr, hb⟩
  have F2 := Lib.hid (Env.call F1.out hb)
  have R2 := Lib.hid (And.intro hm.out (And.intro hmc (And.intro hcl hr)))
  have hbl := Lib.hid hb
  clear hm hmc hcl hr hb
  have R1' := Lib.hid (And.intro R1.out.1 (And.intro R1.out.2.1 (And.intro R1.out.2.2.1 ((R1.out.2.2.2.below hbl.out).more hbl.out.size))))
  clear R1 hbl
  have R1 := R1'
  clear R1'
  refine hK.out _ _ (Cf1.out _ F2.out) (fun _ => ?_)
  clear hK K hHeld
  have hHeld := (Cf1.out _ F2.out)
  try simp only [Act.put, List.setIfInBounds_toArray, List.set_cons_zero, List.set_cons_succ]
  refine wpHK_pure (i := 6) (oi := Oper.mk (some 5) _ _ _ _ _) (v := ?_) rfl (by kernel_rfl) (by kernel_rfl) (by kernel_rfl) (fun _ _ _ h => h) (Or.inl ⟨by rfl, ?_⟩) ?_
  rotate_left
  · (intro w' _; go_simp; try with_reducible rfl)
  try simp only [Act.put, List.setIfInBounds_toArray, List.set_cons_zero, List.set_cons_succ]
  refine wpHK_pure (i := 7) (oi := Oper.mk (some 6) _ _ _ _ _) (v := ?_) rfl (by kernel_rfl) (by kernel_rfl) (by kernel_rfl) (fun _ _ _ h => h) (Or.inl ⟨by rfl, ?_⟩) ?_
  rotate_left
  · (intro w' _; go_simp; try with_reducible rfl)
  try simp only [Act.put, List.setIfInBounds_toArray, List.set_cons_zero, List.set_cons_succ]
  refine wpHK_done (by kernel_rfl) ?_ _
  refine NoPanic.normal ?_
  have q0 := (Env.at_ F2.out 2 rfl).cell 0
  have q1 := (Env.at_ F2.out 1 rfl).cell 0
  simp at q0 q1
  go_upto_region 3 with fail
  clear q0 q1
  have Cf3 := Lib.hid (fun (W : World) (h : Env w W [(w.heap.size + 1 + 1, 26, #[.bool false, .string ⟨#[]⟩]), (w.heap.size + 1, 26, #[.bool na, .string sb]), (w.heap.size, 26, #[.bool na, .string sa])]) => (show W.cell? ⟨w.heap.size, 0, none⟩ = some (.bool na) ∧ W.cell? ⟨w.heap.size, 1, none⟩ = some (.string sa) ∧ W.cell? ⟨w.heap.size + 1, 0, none⟩ = some (.bool na) ∧ W.cell? ⟨w.heap.size + 1, 1, none⟩ = some (.string sb) from ⟨(Env.at_ h 2 rfl).cell 0, (Env.at_ h 2 rfl).cell 1, (Env.at_ h 1 rfl).cell 0, (Env.at_ h 1 rfl).cell 1⟩))
  refine wp_region_noPanic ?_
  refine wp_region_HK (fun w' => w'.cell? ⟨w.heap.size, 0, none⟩ = some (.bool na) ∧ w'.cell? ⟨w.heap.size, 1, none⟩ = some (.string sa) ∧ w'.cell? ⟨w.heap.size + 1, 0, none⟩ = some (.bool na) ∧ w'.cell? ⟨w.heap.size + 1, 1, none⟩ = some (.string sb)) 6 (by kernel_rfl) (Cf3.out _ F2.out.drew) (fun hHeld => ?_)
  refine wpHK_pure (i := 0) (oi := Oper.mk (some 18) _ _ _ _ _) (v := ?_) rfl (by kernel_rfl) (by kernel_rfl) (by kernel_rfl) (fun _ _ _ h => h) (Or.inl ⟨by rfl, ?_⟩) ?_
  rotate_left
  · (intro w' _; go_simp; try with_reducible rfl)
  try simp only [Act.put, List.setIfInBounds_toArray, List.set_cons_zero, List.set_cons_succ]
  refine wpHK_pure (i := 2) (oi := Oper.mk (some 20) _ _ _ _ _) (v := ?_) rfl (by kernel_rfl) (by kernel_rfl) (by kernel_rfl) (fun _ _ _ h => h) (Or.inl ⟨by rfl, ?_⟩) ?_
  rotate_left
  · (intro w' _; go_simp; try with_reducible rfl)
  try simp only [Act.put, List.setIfInBounds_toArray, List.set_cons_zero, List.set_cons_succ]
  refine wpHK_pure (i := 3) (oi := Oper.mk (some 21) _ _ _ _ _) (v := ?_) rfl (by kernel_rfl) (by kernel_rfl) (by kernel_rfl) (fun _ _ _ h => h) (Or.inl ⟨by rfl, ?_⟩) ?_
  rotate_left
  · (intro w' _; go_simp; try with_reducible rfl)
  try simp only [Act.put, List.setIfInBounds_toArray, List.set_cons_zero, List.set_cons_succ]
  refine wpHK_take (i := 1) (oi := Oper.mk (some 19) _ _ _ _ _) (v := ?_) rfl (by kernel_rfl) (by kernel_rfl) (by kernel_rfl) (by kernel_rfl) (fun _ _ _ h => h) (Or.inl ⟨by rfl, ?_⟩) (by assumption) ?_
  rotate_left
  · (intro w' hSw; (try dsimp only at hSw); (obtain ⟨s0, s1, s2, s3⟩ := hSw); go_simp; try with_reducible rfl)
  try simp only [Act.put, List.setIfInBounds_toArray, List.set_cons_zero, List.set_cons_succ]
  refine wpHK_one (j := 4) (o := Oper.mk (some 22) _ _ _ _ _) rfl (by kernel_rfl) (fun K hK => ?_)
  go_simp
  refine (rmore_any (w := V2.drew) R1.out.2.2.2 R2.out.2.2.2 (Nat.le_refl _) R1.out.1 R2.out.1 (by have := R1.out.1; have := Hla.out.1; omega) (by have := R2.out.1; have := Hla.out.2; omega) (wd_w _) (wd_w _)).mono ?_
  rintro e V3 ⟨A3, m3, c3, rfl, hm, hmc, hcl, hr, hb⟩
  simp only [val_w] at hm hr
  have F3 := Lib.hid (Env.call F2.out.drew hb)
  have R3 := Lib.hid (And.intro hm.out (And.intro hmc (And.intro hcl hr)))
  clear hm hmc hcl hr hb
  refine hK.out _ _ (Cf3.out _ F3.out) (fun _ => ?_)
  clear hK K hHeld
  have hHeld := (Cf3.out _ F3.out)
  try simp only [Act.put, List.setIfInBounds_toArray, List.set_cons_zero, List.set_cons_succ]
  refine wpHK_one (j := 5) (o := Oper.mk (some 23) _ _ _ _ _) rfl (by kernel_rfl) (fun K hK => ?_)
  go_simp
  have HM := made_any (w := _) (neg := na) R3.out.2.2.2 (Nat.le_refl _) R3.out.1 R3.out.2.1 R3.out.2.2.1 (by have := R3.out.1; have := len_sumN Hla.out.1 Hla.out.2; omega) (wd_w _)
  rw [val_w, sgn_add, ← Hnum.out.1, ← Hnum.out.2, ez] at HM
  refine HM.mono ?_
  rintro e V4 ⟨rfl, hb⟩
  have F4 := Lib.hid (Env.call F3.out hb)
  clear hb HM
  refine hK.out _ _ (Cf3.out _ F4.out) (fun _ => ?_)
  clear hK K hHeld
  have hHeld := (Cf3.out _ F4.out)
  try simp only [Act.put, List.setIfInBounds_toArray, List.set_cons_zero, List.set_cons_succ]
  refine wpHK_tail (j := 6) (o := Oper.mk (none) _ _ _ _ _) rfl (by kernel_rfl) (by decide) (fun K hK => ?_)
  have n4 := Env.at_ F4.out 0 rfl
  have y0 := n4.cell 0
  have y1 := n4.cell 1
  have y2 := n4.frozen 0
  have y3 := n4.frozen 1
  simp at y0 y1
  go_simp
  refine hK.out _ _ ?_
  clear hK K
  try simp only [Act.put, List.setIfInBounds_toArray, List.set_cons_zero, List.set_cons_succ]
  refine wpHK_done (by kernel_rfl) ?_ _
  refine NoPanic.normal ?_
  go_wp2_with fail
  have n5 := ((Env.at_ F4.out 0 rfl).set_ 0 (.bool zs)).set_ 1 (.string zb)
  have d0 := n5.cell 0
  have d1 := n5.cell 1
  simp at d0 d1
  refine bodyPost_ret (v := .agg #[.bool zs, .string zb]) (by simp [results, Try.results17, go_sem, d0, d1]) rfl ?_
  exact ⟨by rw [ez], ((F4.out.1).setCell (by show w.heap.size ≤ w.heap.size + 1 + 1; omega) _).setCell (by show w.heap.size ≤ w.heap.size + 1 + 1; omega) _⟩
theorem cmpN_ge {a b : Nat} (h : b ≤ a) : 0 ≤ cmpN a b ∧ cmpN a b ≤ 1 := by unfold cmpN; split <;> first | omega | (split <;> omega)
set_option maxRecDepth 100000 in
set_option maxHeartbeats 4000000 in
theorem rplus_ge {w : World} {na nb : Bool} {sa sb : ByteArray} (ha : Fmd sa) (hb : Fmd sb) (hs : na ≠ nb) (hle : bval sb.data.toList ≤ bval sa.data.toList) :
    Calls Try.prog 17 #[.agg #[.bool na, .string sa], .agg #[.bool nb, .string sb]] w (Calm w (enc (num (na, sa) + num (nb, sb)))) := by
  obtain ⟨zs, zb, ez⟩ : ∃ s b, enc (num (na, sa) + num (nb, sb)) = .agg #[.bool s, .string b] := ⟨_, _, rfl⟩
  have hbeq : (na == nb) = false := by simp [hs]
  have Hne := Lib.hid hs
  clear hs
  have HA := Lib.hid (fun W : World => words_any (w := W) (by have := ha.2; omega) ha.1)
  have HB := Lib.hid (fun W : World => words_any (w := W) (by have := hb.2; omega) hb.1)
  have Hla := Lib.hid (And.intro ha.len hb.len)
  have Hab := Lib.hid (And.intro ha hb)
  obtain ⟨a, hae⟩ : ∃ a, a = bval sa.data.toList := ⟨_, rfl⟩
  obtain ⟨b, hbe⟩ : ∃ b, b = bval sb.data.toList := ⟨_, rfl⟩
  rw [← hae] at HA
  rw [← hbe] at HB
  rw [← hae, ← hbe] at Hla
  rw [← hae, ← hbe] at hle
  have Hle := Lib.hid hle
  have hcg := cmpN_ge hle
  obtain ⟨hcg1, hcg2⟩ := hcg
  have hdc : decide (0 ≤ cmpN a b) = true := decide_eq_true hcg1
  clear hle
  have Hnum := Lib.hid (show num (na, sa) = sgn na a ∧ num (nb, sb) = sgn nb b from ⟨by rw [hae]; rfl, by rw [hbe]; rfl⟩)
  (try rw [← hae, ← hbe])
  clear hae hbe ha hb
  have E0 := Lib.hid (Env.nil w)
  go_enter Try.func17, Try.ntmps17
  go_upto_region 1 with fail
  have E1 : Hid (Env w (((w.alloc (.cells #[.bool na, .string sa] 26)).alloc (.cells #[.bool nb, .string sb] 26)).alloc (.cells #[.bool false, .string ⟨#[]⟩] 26)) [(w.heap.size + 1 + 1, 26, #[.bool false, .string ⟨#[]⟩]), (w.heap.size + 1, 26, #[.bool nb, .string sb]), (w.heap.size, 26, #[.bool na, .string sa])]) := Lib.hid (by have h := (Env.new (Env.new (Env.new E0.out 26 #[.bool na, .string sa]) 26 #[.bool nb, .string sb]) 26 #[.bool false, .string ⟨#[]⟩]); (try simp only [World.size_alloc] at h); exact h)
  generalize (((w.alloc (.cells #[.bool na, .string sa] 26)).alloc (.cells #[.bool nb, .string sb] 26)).alloc (.cells #[.bool false, .string ⟨#[]⟩] 26)) = W1 at E1 ⊢
  have Cf1 := Lib.hid (fun (W : World) (h : Env w W [(w.heap.size + 1 + 1, 26, #[.bool false, .string ⟨#[]⟩]), (w.heap.size + 1, 26, #[.bool nb, .string sb]), (w.heap.size, 26, #[.bool na, .string sa])]) => (show W.cell? ⟨w.heap.size, 0, none⟩ = some (.bool na) ∧ W.cell? ⟨w.heap.size, 1, none⟩ = some (.string sa) ∧ W.cell? ⟨w.heap.size + 1, 0, none⟩ = some (.bool nb) ∧ W.cell? ⟨w.heap.size + 1, 1, none⟩ = some (.string sb) from ⟨(Env.at_ h 2 rfl).cell 0, (Env.at_ h 2 rfl).cell 1, (Env.at_ h 1 rfl).cell 0, (Env.at_ h 1 rfl).cell 1⟩))
  refine wp_region_noPanic ?_
  refine wp_region_HK (fun w' => w'.cell? ⟨w.heap.size, 0, none⟩ = some (.bool na) ∧ w'.cell? ⟨w.heap.size, 1, none⟩ = some (.string sa) ∧ w'.cell? ⟨w.heap.size + 1, 0, none⟩ = some (.bool nb) ∧ w'.cell? ⟨w.heap.size + 1, 1, none⟩ = some (.string sb)) 6 (by kernel_rfl) (Cf1.out _ E1.out.drew) (fun hHeld => ?_)
  refine wpHK_pure (i := 0) (oi := Oper.mk (some 7) _ _ _ _ _) (v := ?_) rfl (by kernel_rfl) (by kernel_rfl) (by kernel_rfl) (fun _ _ _ h => h) (Or.inl ⟨by rfl, ?_⟩) ?_
  rotate_left
  · (intro w' _; go_simp; try with_reducible rfl)
  try simp only [Act.put, List.setIfInBounds_toArray, List.set_cons_zero, List.set_cons_succ]
  refine wpHK_pure (i := 3) (oi := Oper.mk (some 10) _ _ _ _ _) (v := ?_) rfl (by kernel_rfl) (by kernel_rfl) (by kernel_rfl) (fun _ _ _ h => h) (Or.inl ⟨by rfl, ?_⟩) ?_
  rotate_left
  · (intro w' _; go_simp; try with_reducible rfl)
  try simp only [Act.put, List.setIfInBounds_toArray, List.set_cons_zero, List.set_cons_succ]
  refine wpHK_take (i := 1) (oi := Oper.mk (some 8) _ _ _ _ _) (v := ?_) rfl (by kernel_rfl) (by kernel_rfl) (by kernel_rfl) (by kernel_rfl) (fun _ _ _ h => h) (Or.inl ⟨by rfl, ?_⟩) (by assumption) ?_
  rotate_left
  · (intro w' hSw; (try dsimp only at hSw); (obtain ⟨s0, s1, s2, s3⟩ := hSw); go_simp; try with_reducible rfl)
  try simp only [Act.put, List.setIfInBounds_toArray, List.set_cons_zero, List.set_cons_succ]
  refine wpHK_take (i := 4) (oi := Oper.mk (some 11) _ _ _ _ _) (v := ?_) rfl (by kernel_rfl) (by kernel_rfl) (by kernel_rfl) (by kernel_rfl) (fun _ _ _ h => h) (Or.inl ⟨by rfl, ?_⟩) (by assumption) ?_
  rotate_left
  · (intro w' hSw; (try dsimp only at hSw); (obtain ⟨s0, s1, s2, s3⟩ := hSw); go_simp; try with_reducible rfl)
  try simp only [Act.put, List.setIfInBounds_toArray, List.set_cons_zero, List.set_cons_succ]
  refine wpHK_one (j := 2) (o := Oper.mk (some 9) _ _ _ _ _) rfl (by kernel_rfl) (fun K hK => ?_)
  go_simp
  refine (HA.out _).mono ?_
  rintro e V1 ⟨A1, m1, c1, rfl, hm, hmc, hcl, hr, hb⟩
  have F1 := Lib.hid (Env.call E1.out.drew hb)
  have R1 := Lib.hid (And.intro hm.out (And.intro hmc (And.intro hcl hr)))
  have hbl := Lib.hid hb
  clear hm hmc hcl hr hb
  refine hK.out _ _ (Cf1.out _ F1.out) (fun _ => ?_)
  clear hK K hHeld
  have hHeld := (Cf1.out _ F1.out)
  try simp only [Act.put, List.setIfInBounds_toArray, List.set_cons_zero, List.set_cons_succ]
  refine wpHK_one (j := 5) (o := Oper.mk (some 12) _ _ _ _ _) rfl (by kernel_rfl) (fun K hK => ?_)
  go_simp
  refine (HB.out _).mono ?_
  rintro e V2 ⟨A2, m2, c2, rfl, hm, hmc, hcl, hr, hb⟩
  have F2 := Lib.hid (Env.call F1.out hb)
  have R2 := Lib.hid (And.intro hm.out (And.intro hmc (And.intro hcl hr)))
  have hbl := Lib.hid hb
  clear hm hmc hcl hr hb
  have R1' := Lib.hid (And.intro R1.out.1 (And.intro R1.out.2.1 (And.intro R1.out.2.2.1 ((R1.out.2.2.2.below hbl.out).more hbl.out.size))))
  clear R1 hbl
  have R1 := R1'
  clear R1'
  refine hK.out _ _ (Cf1.out _ F2.out) (fun _ => ?_)
  clear hK K hHeld
  have hHeld := (Cf1.out _ F2.out)
  try simp only [Act.put, List.setIfInBounds_toArray, List.set_cons_zero, List.set_cons_succ]
  refine wpHK_pure (i := 6) (oi := Oper.mk (some 5) _ _ _ _ _) (v := ?_) rfl (by kernel_rfl) (by kernel_rfl) (by kernel_rfl) (fun _ _ _ h => h) (Or.inl ⟨by rfl, ?_⟩) ?_
  rotate_left
  · (intro w' _; go_simp; try with_reducible rfl)
  try simp only [Act.put, List.setIfInBounds_toArray, List.set_cons_zero, List.set_cons_succ]
  refine wpHK_pure (i := 7) (oi := Oper.mk (some 6) _ _ _ _ _) (v := ?_) rfl (by kernel_rfl) (by kernel_rfl) (by kernel_rfl) (fun _ _ _ h => h) (Or.inl ⟨by rfl, ?_⟩) ?_
  rotate_left
  · (intro w' _; go_simp; try with_reducible rfl)
  try simp only [Act.put, List.setIfInBounds_toArray, List.set_cons_zero, List.set_cons_succ]
  refine wpHK_done (by kernel_rfl) ?_ _
  refine NoPanic.normal ?_
  have q0 := (Env.at_ F2.out 2 rfl).cell 0
  have q1 := (Env.at_ F2.out 1 rfl).cell 0
  simp at q0 q1
  go_upto_region 4 with fail
  clear q0 q1
  have HU := runder_any (c := c1) (d := c2) R1.out.2.2.2 R2.out.2.2.2 R1.out.1 R2.out.1 (by have := R1.out.1; have := Hla.out.1; omega) (by have := R2.out.1; have := Hla.out.2; omega)
  skip
  go_wp2_with fail
  refine HU.mono ?_
  rintro e V3 ⟨q, rfl, rfl⟩
  clear HU
  have F3 := Lib.hid (F2.out.drewN q)
  have R1' := Lib.hid (And.intro R1.out.1 (And.intro R1.out.2.1 (And.intro R1.out.2.2.1 (R1.out.2.2.2.drewN q))))
  have R2' := Lib.hid (And.intro R2.out.1 (And.intro R2.out.2.1 (And.intro R2.out.2.2.1 (R2.out.2.2.2.drewN q))))
  clear R1 R2
  skip
  go_upto_region 5 with fail
  have Cf5 := Lib.hid (fun (W : World) (h : Env w W [(w.heap.size + 1 + 1, 26, #[.bool false, .string ⟨#[]⟩]), (w.heap.size + 1, 26, #[.bool nb, .string sb]), (w.heap.size, 26, #[.bool na, .string sa])]) => (show W.cell? ⟨w.heap.size, 0, none⟩ = some (.bool na) ∧ W.cell? ⟨w.heap.size, 1, none⟩ = some (.string sa) ∧ W.cell? ⟨w.heap.size + 1, 0, none⟩ = some (.bool nb) ∧ W.cell? ⟨w.heap.size + 1, 1, none⟩ = some (.string sb) from ⟨(Env.at_ h 2 rfl).cell 0, (Env.at_ h 2 rfl).cell 1, (Env.at_ h 1 rfl).cell 0, (Env.at_ h 1 rfl).cell 1⟩))
  refine wp_region_noPanic ?_
  refine wp_region_HK (fun w' => w'.cell? ⟨w.heap.size, 0, none⟩ = some (.bool na) ∧ w'.cell? ⟨w.heap.size, 1, none⟩ = some (.string sa) ∧ w'.cell? ⟨w.heap.size + 1, 0, none⟩ = some (.bool nb) ∧ w'.cell? ⟨w.heap.size + 1, 1, none⟩ = some (.string sb)) 6 (by kernel_rfl) (Cf5.out _ F3.out.drew) (fun hHeld => ?_)
  refine wpHK_pure (i := 0) (oi := Oper.mk (some 28) _ _ _ _ _) (v := ?_) rfl (by kernel_rfl) (by kernel_rfl) (by kernel_rfl) (fun _ _ _ h => h) (Or.inl ⟨by rfl, ?_⟩) ?_
  rotate_left
  · (intro w' _; go_simp; try with_reducible rfl)
  try simp only [Act.put, List.setIfInBounds_toArray, List.set_cons_zero, List.set_cons_succ]
  refine wpHK_pure (i := 2) (oi := Oper.mk (some 30) _ _ _ _ _) (v := ?_) rfl (by kernel_rfl) (by kernel_rfl) (by kernel_rfl) (fun _ _ _ h => h) (Or.inl ⟨by rfl, ?_⟩) ?_
  rotate_left
  · (intro w' _; go_simp; try with_reducible rfl)
  try simp only [Act.put, List.setIfInBounds_toArray, List.set_cons_zero, List.set_cons_succ]
  refine wpHK_pure (i := 3) (oi := Oper.mk (some 31) _ _ _ _ _) (v := ?_) rfl (by kernel_rfl) (by kernel_rfl) (by kernel_rfl) (fun _ _ _ h => h) (Or.inl ⟨by rfl, ?_⟩) ?_
  rotate_left
  · (intro w' _; go_simp; try with_reducible rfl)
  try simp only [Act.put, List.setIfInBounds_toArray, List.set_cons_zero, List.set_cons_succ]
  refine wpHK_take (i := 1) (oi := Oper.mk (some 29) _ _ _ _ _) (v := ?_) rfl (by kernel_rfl) (by kernel_rfl) (by kernel_rfl) (by kernel_rfl) (fun _ _ _ h => h) (Or.inl ⟨by rfl, ?_⟩) (by assumption) ?_
  rotate_left
  · (intro w' hSw; (try dsimp only at hSw); (obtain ⟨s0, s1, s2, s3⟩ := hSw); go_simp; try with_reducible rfl)
  try simp only [Act.put, List.setIfInBounds_toArray, List.set_cons_zero, List.set_cons_succ]
  refine wpHK_one (j := 4) (o := Oper.mk (some 32) _ _ _ _ _) rfl (by kernel_rfl) (fun K hK => ?_)
  go_simp
  refine (rless_any (w := (V2.drewN q).drew) R1'.out.2.2.2 R2'.out.2.2.2 (Nat.le_refl _) R1'.out.1 R2'.out.1 (by have := R1'.out.1; have := Hla.out.1; omega) (by rw [R1'.out.1, R2'.out.1]; exact len_mono Hle.out) (by rw [val_w, val_w]; exact Hle.out) (wd_w _) (wd_w _)).mono ?_
  rintro e V4 ⟨A3, m3, c3, rfl, hm, hmc, hcl, hr, hb⟩
  simp only [val_w] at hm hr
  have F4 := Lib.hid (Env.call F3.out.drew hb)
  have R3 := Lib.hid (And.intro hm.out (And.intro hmc (And.intro hcl hr)))
  clear hm hmc hcl hr hb
  refine hK.out _ _ (Cf5.out _ F4.out) (fun _ => ?_)
  clear hK K hHeld
  have hHeld := (Cf5.out _ F4.out)
  try simp only [Act.put, List.setIfInBounds_toArray, List.set_cons_zero, List.set_cons_succ]
  refine wpHK_one (j := 5) (o := Oper.mk (some 33) _ _ _ _ _) rfl (by kernel_rfl) (fun K hK => ?_)
  go_simp
  have HM := made_any (w := _) (neg := na) R3.out.2.2.2 (Nat.le_refl _) R3.out.1 R3.out.2.1 R3.out.2.2.1 (by have h1 := R3.out.1; have h2 := Hla.out; have h3 := len_mono (a := a - b) (b := a) (Nat.sub_le _ _); omega) (wd_w _)
  rw [val_w, sgn_sub Hne.out Hle.out, ← Hnum.out.1, ← Hnum.out.2, ez] at HM
  refine HM.mono ?_
  rintro e V5 ⟨rfl, hb⟩
  have F5 := Lib.hid (Env.call F4.out hb)
  clear hb HM
  refine hK.out _ _ (Cf5.out _ F5.out) (fun _ => ?_)
  clear hK K hHeld
  have hHeld := (Cf5.out _ F5.out)
  try simp only [Act.put, List.setIfInBounds_toArray, List.set_cons_zero, List.set_cons_succ]
  refine wpHK_tail (j := 6) (o := Oper.mk (none) _ _ _ _ _) rfl (by kernel_rfl) (by decide) (fun K hK => ?_)
  have n4 := Env.at_ F5.out 0 rfl
  have y0 := n4.cell 0
  have y1 := n4.cell 1
  have y2 := n4.frozen 0
  have y3 := n4.frozen 1
  simp at y0 y1
  go_simp
  refine hK.out _ _ ?_
  clear hK K
  try simp only [Act.put, List.setIfInBounds_toArray, List.set_cons_zero, List.set_cons_succ]
  refine wpHK_done (by kernel_rfl) ?_ _
  refine NoPanic.normal ?_
  go_wp2_with fail
  have n5 := ((Env.at_ F5.out 0 rfl).set_ 0 (.bool zs)).set_ 1 (.string zb)
  have d0 := n5.cell 0
  have d1 := n5.cell 1
  simp at d0 d1
  refine bodyPost_ret (v := .agg #[.bool zs, .string zb]) (by simp [results, Try.results17, go_sem, d0, d1]) rfl ?_
  exact ⟨by rw [ez], ((F5.out.1).setCell (by show w.heap.size ≤ w.heap.size + 1 + 1; omega) _).setCell (by show w.heap.size ≤ w.heap.size + 1 + 1; omega) _⟩
set_option maxRecDepth 100000 in
set_option maxHeartbeats 4000000 in
theorem rplus_lt {w : World} {na nb : Bool} {sa sb : ByteArray} (ha : Fmd sa) (hb : Fmd sb) (hs : na ≠ nb) (hlt : bval sa.data.toList < bval sb.data.toList) :
    Calls Try.prog 17 #[.agg #[.bool na, .string sa], .agg #[.bool nb, .string sb]] w (Calm w (enc (num (na, sa) + num (nb, sb)))) := by
  obtain ⟨zs, zb, ez⟩ : ∃ s b, enc (num (na, sa) + num (nb, sb)) = .agg #[.bool s, .string b] := ⟨_, _, rfl⟩
  have hbeq : (na == nb) = false := by simp [hs]
  have Hne := Lib.hid hs
  clear hs
  have HA := Lib.hid (fun W : World => words_any (w := W) (by have := ha.2; omega) ha.1)
  have HB := Lib.hid (fun W : World => words_any (w := W) (by have := hb.2; omega) hb.1)
  have Hla := Lib.hid (And.intro ha.len hb.len)
  have Hab := Lib.hid (And.intro ha hb)
  obtain ⟨a, hae⟩ : ∃ a, a = bval sa.data.toList := ⟨_, rfl⟩
  obtain ⟨b, hbe⟩ : ∃ b, b = bval sb.data.toList := ⟨_, rfl⟩
  rw [← hae] at HA
  rw [← hbe] at HB
  rw [← hae, ← hbe] at Hla
  rw [← hae, ← hbe] at hlt
  have Hle := Lib.hid (Nat.le_of_lt hlt)
  have HC := Lib.hid (cmpN_lt hlt)
  clear hlt
  have Hnum := Lib.hid (show num (na, sa) = sgn na a ∧ num (nb, sb) = sgn nb b from ⟨by rw [hae]; rfl, by rw [hbe]; rfl⟩)
  (try rw [← hae, ← hbe])
  clear hae hbe ha hb
  have E0 := Lib.hid (Env.nil w)
  go_enter Try.func17, Try.ntmps17
  go_upto_region 1 with fail
  have E1 : Hid (Env w (((w.alloc (.cells #[.bool na, .string sa] 26)).alloc (.cells #[.bool nb, .string sb] 26)).alloc (.cells #[.bool false, .string ⟨#[]⟩] 26)) [(w.heap.size + 1 + 1, 26, #[.bool false, .string ⟨#[]⟩]), (w.heap.size + 1, 26, #[.bool nb, .string sb]), (w.heap.size, 26, #[.bool na, .string sa])]) := Lib.hid (by have h := (Env.new (Env.new (Env.new E0.out 26 #[.bool na, .string sa]) 26 #[.bool nb, .string sb]) 26 #[.bool false, .string ⟨#[]⟩]); (try simp only [World.size_alloc] at h); exact h)
  generalize (((w.alloc (.cells #[.bool na, .string sa] 26)).alloc (.cells #[.bool nb, .string sb] 26)).alloc (.cells #[.bool false, .string ⟨#[]⟩] 26)) = W1 at E1 ⊢
  have Cf1 := Lib.hid (fun (W : World) (h : Env w W [(w.heap.size + 1 + 1, 26, #[.bool false, .string ⟨#[]⟩]), (w.heap.size + 1, 26, #[.bool nb, .string sb]), (w.heap.size, 26, #[.bool na, .string sa])]) => (show W.cell? ⟨w.heap.size, 0, none⟩ = some (.bool na) ∧ W.cell? ⟨w.heap.size, 1, none⟩ = some (.string sa) ∧ W.cell? ⟨w.heap.size + 1, 0, none⟩ = some (.bool nb) ∧ W.cell? ⟨w.heap.size + 1, 1, none⟩ = some (.string sb) from ⟨(Env.at_ h 2 rfl).cell 0, (Env.at_ h 2 rfl).cell 1, (Env.at_ h 1 rfl).cell 0, (Env.at_ h 1 rfl).cell 1⟩))
  refine wp_region_noPanic ?_
  refine wp_region_HK (fun w' => w'.cell? ⟨w.heap.size, 0, none⟩ = some (.bool na) ∧ w'.cell? ⟨w.heap.size, 1, none⟩ = some (.string sa) ∧ w'.cell? ⟨w.heap.size + 1, 0, none⟩ = some (.bool nb) ∧ w'.cell? ⟨w.heap.size + 1, 1, none⟩ = some (.string sb)) 6 (by kernel_rfl) (Cf1.out _ E1.out.drew) (fun hHeld => ?_)
  refine wpHK_pure (i := 0) (oi := Oper.mk (some 7) _ _ _ _ _) (v := ?_) rfl (by kernel_rfl) (by kernel_rfl) (by kernel_rfl) (fun _ _ _ h => h) (Or.inl ⟨by rfl, ?_⟩) ?_
  rotate_left
  · (intro w' _; go_simp; try with_reducible rfl)
  try simp only [Act.put, List.setIfInBounds_toArray, List.set_cons_zero, List.set_cons_succ]
  refine wpHK_pure (i := 3) (oi := Oper.mk (some 10) _ _ _ _ _) (v := ?_) rfl (by kernel_rfl) (by kernel_rfl) (by kernel_rfl) (fun _ _ _ h => h) (Or.inl ⟨by rfl, ?_⟩) ?_
  rotate_left
  · (intro w' _; go_simp; try with_reducible rfl)
  try simp only [Act.put, List.setIfInBounds_toArray, List.set_cons_zero, List.set_cons_succ]
  refine wpHK_take (i := 1) (oi := Oper.mk (some 8) _ _ _ _ _) (v := ?_) rfl (by kernel_rfl) (by kernel_rfl) (by kernel_rfl) (by kernel_rfl) (fun _ _ _ h => h) (Or.inl ⟨by rfl, ?_⟩) (by assumption) ?_
  rotate_left
  · (intro w' hSw; (try dsimp only at hSw); (obtain ⟨s0, s1, s2, s3⟩ := hSw); go_simp; try with_reducible rfl)
  try simp only [Act.put, List.setIfInBounds_toArray, List.set_cons_zero, List.set_cons_succ]
  refine wpHK_take (i := 4) (oi := Oper.mk (some 11) _ _ _ _ _) (v := ?_) rfl (by kernel_rfl) (by kernel_rfl) (by kernel_rfl) (by kernel_rfl) (fun _ _ _ h => h) (Or.inl ⟨by rfl, ?_⟩) (by assumption) ?_
  rotate_left
  · (intro w' hSw; (try dsimp only at hSw); (obtain ⟨s0, s1, s2, s3⟩ := hSw); go_simp; try with_reducible rfl)
  try simp only [Act.put, List.setIfInBounds_toArray, List.set_cons_zero, List.set_cons_succ]
  refine wpHK_one (j := 2) (o := Oper.mk (some 9) _ _ _ _ _) rfl (by kernel_rfl) (fun K hK => ?_)
  go_simp
  refine (HA.out _).mono ?_
  rintro e V1 ⟨A1, m1, c1, rfl, hm, hmc, hcl, hr, hb⟩
  have F1 := Lib.hid (Env.call E1.out.drew hb)
  have R1 := Lib.hid (And.intro hm.out (And.intro hmc (And.intro hcl hr)))
  have hbl := Lib.hid hb
  clear hm hmc hcl hr hb
  refine hK.out _ _ (Cf1.out _ F1.out) (fun _ => ?_)
  clear hK K hHeld
  have hHeld := (Cf1.out _ F1.out)
  try simp only [Act.put, List.setIfInBounds_toArray, List.set_cons_zero, List.set_cons_succ]
  refine wpHK_one (j := 5) (o := Oper.mk (some 12) _ _ _ _ _) rfl (by kernel_rfl) (fun K hK => ?_)
  go_simp
  refine (HB.out _).mono ?_
  rintro e V2 ⟨A2, m2, c2, rfl, hm, hmc, hcl, hr, hb⟩
  have F2 := Lib.hid (Env.call F1.out hb)
  have R2 := Lib.hid (And.intro hm.out (And.intro hmc (And.intro hcl hr)))
  have hbl := Lib.hid hb
  clear hm hmc hcl hr hb
  have R1' := Lib.hid (And.intro R1.out.1 (And.intro R1.out.2.1 (And.intro R1.out.2.2.1 ((R1.out.2.2.2.below hbl.out).more hbl.out.size))))
  clear R1 hbl
  have R1 := R1'
  clear R1'
  refine hK.out _ _ (Cf1.out _ F2.out) (fun _ => ?_)
  clear hK K hHeld
  have hHeld := (Cf1.out _ F2.out)
  try simp only [Act.put, List.setIfInBounds_toArray, List.set_cons_zero, List.set_cons_succ]
  refine wpHK_pure (i := 6) (oi := Oper.mk (some 5) _ _ _ _ _) (v := ?_) rfl (by kernel_rfl) (by kernel_rfl) (by kernel_rfl) (fun _ _ _ h => h) (Or.inl ⟨by rfl, ?_⟩) ?_
  rotate_left
  · (intro w' _; go_simp; try with_reducible rfl)
  try simp only [Act.put, List.setIfInBounds_toArray, List.set_cons_zero, List.set_cons_succ]
  refine wpHK_pure (i := 7) (oi := Oper.mk (some 6) _ _ _ _ _) (v := ?_) rfl (by kernel_rfl) (by kernel_rfl) (by kernel_rfl) (fun _ _ _ h => h) (Or.inl ⟨by rfl, ?_⟩) ?_
  rotate_left
  · (intro w' _; go_simp; try with_reducible rfl)
  try simp only [Act.put, List.setIfInBounds_toArray, List.set_cons_zero, List.set_cons_succ]
  refine wpHK_done (by kernel_rfl) ?_ _
  refine NoPanic.normal ?_
  have q0 := (Env.at_ F2.out 2 rfl).cell 0
  have q1 := (Env.at_ F2.out 1 rfl).cell 0
  simp at q0 q1
  go_upto_region 4 with fail
  clear q0 q1
  have HU := runder_any (c := c1) (d := c2) R1.out.2.2.2 R2.out.2.2.2 R1.out.1 R2.out.1 (by have := R1.out.1; have := Hla.out.1; omega) (by have := R2.out.1; have := Hla.out.2; omega)
  rw [HC.out] at HU
  go_wp2_with fail
  refine HU.mono ?_
  rintro e V3 ⟨q, rfl, rfl⟩
  clear HU
  have F3 := Lib.hid (F2.out.drewN q)
  have R1' := Lib.hid (And.intro R1.out.1 (And.intro R1.out.2.1 (And.intro R1.out.2.2.1 (R1.out.2.2.2.drewN q))))
  have R2' := Lib.hid (And.intro R2.out.1 (And.intro R2.out.2.1 (And.intro R2.out.2.2.1 (R2.out.2.2.2.drewN q))))
  clear R1 R2
  skip
  go_upto_region 6 with fail
  have Cf6 := Lib.hid (fun (W : World) (h : Env w W [(w.heap.size + 1 + 1, 26, #[.bool false, .string ⟨#[]⟩]), (w.heap.size + 1, 26, #[.bool nb, .string sb]), (w.heap.size, 26, #[.bool na, .string sa])]) => (show W.cell? ⟨w.heap.size, 0, none⟩ = some (.bool na) ∧ W.cell? ⟨w.heap.size, 1, none⟩ = some (.string sa) ∧ W.cell? ⟨w.heap.size + 1, 0, none⟩ = some (.bool nb) ∧ W.cell? ⟨w.heap.size + 1, 1, none⟩ = some (.string sb) from ⟨(Env.at_ h 2 rfl).cell 0, (Env.at_ h 2 rfl).cell 1, (Env.at_ h 1 rfl).cell 0, (Env.at_ h 1 rfl).cell 1⟩))
  refine wp_region_noPanic ?_
  refine wp_region_HK (fun w' => w'.cell? ⟨w.heap.size, 0, none⟩ = some (.bool na) ∧ w'.cell? ⟨w.heap.size, 1, none⟩ = some (.string sa) ∧ w'.cell? ⟨w.heap.size + 1, 0, none⟩ = some (.bool nb) ∧ w'.cell? ⟨w.heap.size + 1, 1, none⟩ = some (.string sb)) 6 (by kernel_rfl) (Cf6.out _ F3.out.drew) (fun hHeld => ?_)
  refine wpHK_pure (i := 0) (oi := Oper.mk (some 34) _ _ _ _ _) (v := ?_) rfl (by kernel_rfl) (by kernel_rfl) (by kernel_rfl) (fun _ _ _ h => h) (Or.inl ⟨by rfl, ?_⟩) ?_
  rotate_left
  · (intro w' _; go_simp; try with_reducible rfl)
  try simp only [Act.put, List.setIfInBounds_toArray, List.set_cons_zero, List.set_cons_succ]
  refine wpHK_pure (i := 2) (oi := Oper.mk (some 36) _ _ _ _ _) (v := ?_) rfl (by kernel_rfl) (by kernel_rfl) (by kernel_rfl) (fun _ _ _ h => h) (Or.inl ⟨by rfl, ?_⟩) ?_
  rotate_left
  · (intro w' _; go_simp; try with_reducible rfl)
  try simp only [Act.put, List.setIfInBounds_toArray, List.set_cons_zero, List.set_cons_succ]
  refine wpHK_pure (i := 3) (oi := Oper.mk (some 37) _ _ _ _ _) (v := ?_) rfl (by kernel_rfl) (by kernel_rfl) (by kernel_rfl) (fun _ _ _ h => h) (Or.inl ⟨by rfl, ?_⟩) ?_
  rotate_left
  · (intro w' _; go_simp; try with_reducible rfl)
  try simp only [Act.put, List.setIfInBounds_toArray, List.set_cons_zero, List.set_cons_succ]
  refine wpHK_take (i := 1) (oi := Oper.mk (some 35) _ _ _ _ _) (v := ?_) rfl (by kernel_rfl) (by kernel_rfl) (by kernel_rfl) (by kernel_rfl) (fun _ _ _ h => h) (Or.inl ⟨by rfl, ?_⟩) (by assumption) ?_
  rotate_left
  · (intro w' hSw; (try dsimp only at hSw); (obtain ⟨s0, s1, s2, s3⟩ := hSw); go_simp; try with_reducible rfl)
  try simp only [Act.put, List.setIfInBounds_toArray, List.set_cons_zero, List.set_cons_succ]
  refine wpHK_one (j := 4) (o := Oper.mk (some 38) _ _ _ _ _) rfl (by kernel_rfl) (fun K hK => ?_)
  go_simp
  refine (rless_any (w := (V2.drewN q).drew) R2'.out.2.2.2 R1'.out.2.2.2 (Nat.le_refl _) R2'.out.1 R1'.out.1 (by have := R2'.out.1; have := Hla.out.2; omega) (by rw [R1'.out.1, R2'.out.1]; exact len_mono Hle.out) (by rw [val_w, val_w]; exact Hle.out) (wd_w _) (wd_w _)).mono ?_
  rintro e V4 ⟨A3, m3, c3, rfl, hm, hmc, hcl, hr, hb⟩
  simp only [val_w] at hm hr
  have F4 := Lib.hid (Env.call F3.out.drew hb)
  have R3 := Lib.hid (And.intro hm.out (And.intro hmc (And.intro hcl hr)))
  clear hm hmc hcl hr hb
  refine hK.out _ _ (Cf6.out _ F4.out) (fun _ => ?_)
  clear hK K hHeld
  have hHeld := (Cf6.out _ F4.out)
  try simp only [Act.put, List.setIfInBounds_toArray, List.set_cons_zero, List.set_cons_succ]
  refine wpHK_one (j := 5) (o := Oper.mk (some 39) _ _ _ _ _) rfl (by kernel_rfl) (fun K hK => ?_)
  go_simp
  have HM := made_any (w := _) (neg := nb) R3.out.2.2.2 (Nat.le_refl _) R3.out.1 R3.out.2.1 R3.out.2.2.1 (by have h1 := R3.out.1; have h2 := Hla.out; have h3 := len_mono (a := b - a) (b := b) (Nat.sub_le _ _); omega) (wd_w _)
  rw [val_w, sgn_sub' Hne.out Hle.out, ← Hnum.out.1, ← Hnum.out.2, ez] at HM
  refine HM.mono ?_
  rintro e V5 ⟨rfl, hb⟩
  have F5 := Lib.hid (Env.call F4.out hb)
  clear hb HM
  refine hK.out _ _ (Cf6.out _ F5.out) (fun _ => ?_)
  clear hK K hHeld
  have hHeld := (Cf6.out _ F5.out)
  try simp only [Act.put, List.setIfInBounds_toArray, List.set_cons_zero, List.set_cons_succ]
  refine wpHK_tail (j := 6) (o := Oper.mk (none) _ _ _ _ _) rfl (by kernel_rfl) (by decide) (fun K hK => ?_)
  have n4 := Env.at_ F5.out 0 rfl
  have y0 := n4.cell 0
  have y1 := n4.cell 1
  have y2 := n4.frozen 0
  have y3 := n4.frozen 1
  simp at y0 y1
  go_simp
  refine hK.out _ _ ?_
  clear hK K
  try simp only [Act.put, List.setIfInBounds_toArray, List.set_cons_zero, List.set_cons_succ]
  refine wpHK_done (by kernel_rfl) ?_ _
  refine NoPanic.normal ?_
  go_wp2_with fail
  have n5 := ((Env.at_ F5.out 0 rfl).set_ 0 (.bool zs)).set_ 1 (.string zb)
  have d0 := n5.cell 0
  have d1 := n5.cell 1
  simp at d0 d1
  refine bodyPost_ret (v := .agg #[.bool zs, .string zb]) (by simp [results, Try.results17, go_sem, d0, d1]) rfl ?_
  exact ⟨by rw [ez], ((F5.out.1).setCell (by show w.heap.size ≤ w.heap.size + 1 + 1; omega) _).setCell (by show w.heap.size ≤ w.heap.size + 1 + 1; omega) _⟩
theorem rplus_any {w : World} {na nb : Bool} {sa sb : ByteArray} (ha : Fmd sa) (hb : Fmd sb) :
    Calls Try.prog 17 #[.agg #[.bool na, .string sa], .agg #[.bool nb, .string sb]] w (Calm w (enc (num (na, sa) + num (nb, sb)))) := by
  by_cases hs : na = nb
  · exact rplus_same ha hb hs
  · rcases Nat.lt_or_ge (bval sa.data.toList) (bval sb.data.toList) with h | h
    · exact rplus_lt ha hb hs h
    · exact rplus_ge ha hb hs h
theorem num_neg {n : Bool} {s : ByteArray} (hf : Fmd s) : num ((!n && decide (0 < s.size)), s) = -num (n, s) := by
  have h1 := enc_neg (n := n) hf
  have hl : s.data.toList.length = s.size := Array.length_toList
  unfold num
  dsimp only
  rcases Nat.eq_zero_or_pos s.size with h0 | h0
  · have he : s.data.toList = [] := List.eq_nil_of_length_eq_zero (by omega)
    rw [he, bval_nil]
    cases n <;> simp [sgn]
  · rw [decide_eq_true h0, Bool.and_true]
    unfold sgn
    cases n <;> simp
theorem cmp_sg {x y : Int} : (sg x ≠ sg y → cmpI x y = if sg x < sg y then -1 else 1) ∧ (sg x = sg y → sg x * cmpN x.natAbs y.natAbs = cmpI x y) := by
  unfold sg cmpI cmpN
  by_cases hx0 : x = 0 <;> by_cases hy0 : y = 0 <;> by_cases hx : x < 0 <;> by_cases hy : y < 0 <;> simp [hx0, hy0, hx, hy] <;> (try omega) <;> (repeat' split) <;> omega
theorem cmp_wrap {z : Int} {a b : Nat} (h1 : -1 ≤ z) (h2 : z ≤ 1) : IntKind.i64.wrap (z * cmpN a b) = z * cmpN a b := by
  have h3 : cmpN a b = -1 ∨ cmpN a b = 0 ∨ cmpN a b = 1 := by unfold cmpN; split <;> first | omega | (split <;> omega)
  rcases h3 with h | h | h <;> rw [h] <;> exact IntWalk.i64_in _ (by omega)
theorem sg_bounds (x : Int) : -1 ≤ sg x ∧ sg x ≤ 1 := by
  unfold sg
  by_cases h0 : x = 0
  · simp [h0]
  · rw [if_neg h0]
    split <;> omega
set_option maxRecDepth 100000 in
set_option maxHeartbeats 4000000 in
theorem rminus_any {w : World} {na nb : Bool} {sa sb : ByteArray} (ha : Fmd sa) (hb : Fmd sb) :
    Calls Try.prog 31 #[.agg #[.bool na, .string sa], .agg #[.bool nb, .string sb]] w (Calm w (enc (num (na, sa) - num (nb, sb)))) := by
  obtain ⟨zs, zb, ez⟩ : ∃ s b, enc (num (na, sa) - num (nb, sb)) = .agg #[.bool s, .string b] := ⟨_, _, rfl⟩
  have H47 := Lib.hid (fun W : World => rneg_any (w := W) (n := nb) hb)
  rw [enc_neg hb] at H47
  have Hnc := Lib.hid (num_neg (n := nb) hb)
  generalize (!nb && decide (0 < sb.size)) = nc at H47 Hnc
  have H17 := Lib.hid (fun W : World => rplus_any (w := W) (na := na) (nb := nc) ha hb)
  rw [Hnc.out, ← Int.sub_eq_add_neg, ez] at H17
  have HA := Lib.hid (fun W : World => words_any (w := W) (by have := ha.2; omega) ha.1)
  have HB := Lib.hid (fun W : World => words_any (w := W) (by have := hb.2; omega) hb.1)
  have Hla := Lib.hid (And.intro ha.len hb.len)
  have Hab := Lib.hid (And.intro ha hb)
  obtain ⟨a, hae⟩ : ∃ a, a = bval sa.data.toList := ⟨_, rfl⟩
  obtain ⟨b, hbe⟩ : ∃ b, b = bval sb.data.toList := ⟨_, rfl⟩
  rw [← hae] at HA
  rw [← hbe] at HB
  rw [← hae, ← hbe] at Hla
  have Hnum := Lib.hid (show num (na, sa) = sgn na a ∧ num (nb, sb) = sgn nb b from ⟨by rw [hae]; rfl, by rw [hbe]; rfl⟩)
  (try rw [← hae, ← hbe])
  clear hae hbe ha hb
  have E0 := Lib.hid (Env.nil w)
  go_enter Try.func31, Try.ntmps31
  clear HA HB Hla Hnum Hab
  go_upto_region 1 with fail
  have E1 : Hid (Env w (((w.alloc (.cells #[.bool na, .string sa] 26)).alloc (.cells #[.bool nb, .string sb] 26)).alloc (.cells #[.bool false, .string ⟨#[]⟩] 26)) [(w.heap.size + 1 + 1, 26, #[.bool false, .string ⟨#[]⟩]), (w.heap.size + 1, 26, #[.bool nb, .string sb]), (w.heap.size, 26, #[.bool na, .string sa])]) := Lib.hid (by have h := (Env.new (Env.new (Env.new E0.out 26 #[.bool na, .string sa]) 26 #[.bool nb, .string sb]) 26 #[.bool false, .string ⟨#[]⟩]); (try simp only [World.size_alloc] at h); exact h)
  generalize (((w.alloc (.cells #[.bool na, .string sa] 26)).alloc (.cells #[.bool nb, .string sb] 26)).alloc (.cells #[.bool false, .string ⟨#[]⟩] 26)) = W1 at E1 ⊢
  have Cf1 := Lib.hid (fun (W : World) (h : Env w W [(w.heap.size + 1 + 1, 26, #[.bool false, .string ⟨#[]⟩]), (w.heap.size + 1, 26, #[.bool nb, .string sb]), (w.heap.size, 26, #[.bool na, .string sa])]) => (show W.cell? ⟨w.heap.size, 0, none⟩ = some (.bool na) ∧ W.cell? ⟨w.heap.size, 1, none⟩ = some (.string sa) ∧ W.cell? ⟨w.heap.size + 1, 0, none⟩ = some (.bool nb) ∧ W.cell? ⟨w.heap.size + 1, 1, none⟩ = some (.string sb) from ⟨(Env.at_ h 2 rfl).cell 0, (Env.at_ h 2 rfl).cell 1, (Env.at_ h 1 rfl).cell 0, (Env.at_ h 1 rfl).cell 1⟩))
  refine wp_region_noPanic ?_
  refine wp_region_HK (fun w' => w'.cell? ⟨w.heap.size, 0, none⟩ = some (.bool na) ∧ w'.cell? ⟨w.heap.size, 1, none⟩ = some (.string sa) ∧ w'.cell? ⟨w.heap.size + 1, 0, none⟩ = some (.bool nb) ∧ w'.cell? ⟨w.heap.size + 1, 1, none⟩ = some (.string sb)) 4 (by kernel_rfl) (Cf1.out _ E1.out.drew) (fun hHeld => ?_)
  refine wpHK_take (i := 0) (oi := Oper.mk (some 5) _ _ _ _ _) (v := ?_) rfl (by kernel_rfl) (by kernel_rfl) (by kernel_rfl) (by kernel_rfl) (fun _ _ _ h => h) (Or.inl ⟨by rfl, ?_⟩) (by assumption) ?_
  rotate_left
  · (intro w' hSw; (try dsimp only at hSw); (obtain ⟨s0, s1, s2, s3⟩ := hSw); go_simp; try with_reducible rfl)
  try simp only [Act.put, List.setIfInBounds_toArray, List.set_cons_zero, List.set_cons_succ]
  refine wpHK_take (i := 1) (oi := Oper.mk (some 6) _ _ _ _ _) (v := ?_) rfl (by kernel_rfl) (by kernel_rfl) (by kernel_rfl) (by kernel_rfl) (fun _ _ _ h => h) (Or.inl ⟨by rfl, ?_⟩) (by assumption) ?_
  rotate_left
  · (intro w' hSw; (try dsimp only at hSw); (obtain ⟨s0, s1, s2, s3⟩ := hSw); go_simp; try with_reducible rfl)
  try simp only [Act.put, List.setIfInBounds_toArray, List.set_cons_zero, List.set_cons_succ]
  refine wpHK_one (j := 2) (o := Oper.mk (some 7) _ _ _ _ _) rfl (by kernel_rfl) (fun K hK => ?_)
  go_simp
  refine (H47.out _).mono ?_
  rintro e V1 ⟨rfl, hb⟩
  have F1 := Lib.hid (Env.call E1.out.drew hb)
  clear hb
  refine hK.out _ _ (Cf1.out _ F1.out) (fun _ => ?_)
  clear hK K hHeld
  have hHeld := (Cf1.out _ F1.out)
  try simp only [Act.put, List.setIfInBounds_toArray, List.set_cons_zero, List.set_cons_succ]
  refine wpHK_one (j := 3) (o := Oper.mk (some 8) _ _ _ _ _) rfl (by kernel_rfl) (fun K hK => ?_)
  go_simp
  refine (H17.out _).mono ?_
  rintro e V2 ⟨rfl, hb⟩
  have F2 := Lib.hid (Env.call F1.out hb)
  clear hb
  refine hK.out _ _ (Cf1.out _ F2.out) (fun _ => ?_)
  clear hK K hHeld
  have hHeld := (Cf1.out _ F2.out)
  try simp only [Act.put, List.setIfInBounds_toArray, List.set_cons_zero, List.set_cons_succ]
  refine wpHK_tail (j := 4) (o := Oper.mk (none) _ _ _ _ _) rfl (by kernel_rfl) (by decide) (fun K hK => ?_)
  have n4 := Env.at_ F2.out 0 rfl
  have y0 := n4.cell 0
  have y1 := n4.cell 1
  have y2 := n4.frozen 0
  have y3 := n4.frozen 1
  simp at y0 y1
  go_simp
  refine hK.out _ _ ?_
  clear hK K
  try simp only [Act.put, List.setIfInBounds_toArray, List.set_cons_zero, List.set_cons_succ]
  refine wpHK_done (by kernel_rfl) ?_ _
  refine NoPanic.normal ?_
  go_wp2_with fail
  have n5 := ((Env.at_ F2.out 0 rfl).set_ 0 (.bool zs)).set_ 1 (.string zb)
  have d0 := n5.cell 0
  have d1 := n5.cell 1
  simp at d0 d1
  refine bodyPost_ret (v := .agg #[.bool zs, .string zb]) (by simp [results, Try.results31, go_sem, d0, d1]) rfl ?_
  exact ⟨by rw [ez], ((F2.out.1).setCell (by show w.heap.size ≤ w.heap.size + 1 + 1; omega) _).setCell (by show w.heap.size ≤ w.heap.size + 1 + 1; omega) _⟩
set_option maxRecDepth 100000 in
set_option maxHeartbeats 4000000 in
theorem rcmp_lt {w : World} {na nb : Bool} {sa sb : ByteArray} (ha : Fmd sa) (hb : Fmd sb) (hs : sg (num (na, sa)) ≠ sg (num (nb, sb))) (hlt : sg (num (na, sa)) < sg (num (nb, sb))) :
    Calls Try.prog 30 #[.agg #[.bool na, .string sa], .agg #[.bool nb, .string sb]] w (Calm w (.int .i64 (cmpI (num (na, sa)) (num (nb, sb))))) := by
  have HS := Lib.hid (fun W : World => rsign_any (w := W) (n := na) ha)
  have HT := Lib.hid (fun W : World => rsign_any (w := W) (n := nb) hb)
  have hb1 := sg_bounds (num (na, sa))
  have hb2 := sg_bounds (num (nb, sb))
  obtain ⟨hb11, hb12⟩ := hb1
  obtain ⟨hb21, hb22⟩ := hb2
  have hz := cmp_sg.1 hs
  rw [hz]
  rw [if_pos hlt]
  have hbe : (sg (num (na, sa)) == sg (num (nb, sb))) = false := beq_eq_false_iff_ne.2 hs
  generalize sg (num (na, sa)) = zx at *
  generalize sg (num (nb, sb)) = zy at *
  clear hz
  have HA := Lib.hid (fun W : World => words_any (w := W) (by have := ha.2; omega) ha.1)
  have HB := Lib.hid (fun W : World => words_any (w := W) (by have := hb.2; omega) hb.1)
  have Hla := Lib.hid (And.intro ha.len hb.len)
  have Hab := Lib.hid (And.intro ha hb)
  obtain ⟨a, hae⟩ : ∃ a, a = bval sa.data.toList := ⟨_, rfl⟩
  obtain ⟨b, hbe⟩ : ∃ b, b = bval sb.data.toList := ⟨_, rfl⟩
  rw [← hae] at HA
  rw [← hbe] at HB
  rw [← hae, ← hbe] at Hla
  have Hnum := Lib.hid (show num (na, sa) = sgn na a ∧ num (nb, sb) = sgn nb b from ⟨by rw [hae]; rfl, by rw [hbe]; rfl⟩)
  (try rw [← hae, ← hbe])
  clear hae hbe ha hb
  have E0 := Lib.hid (Env.nil w)
  go_enter Try.func30, Try.ntmps30
  go_upto_region 1 with fail
  have E1 : Hid (Env w ((w.alloc (.cells #[.bool na, .string sa] 26)).alloc (.cells #[.bool nb, .string sb] 26)) [(w.heap.size + 1, 26, #[.bool nb, .string sb]), (w.heap.size, 26, #[.bool na, .string sa])]) := Lib.hid (by have h := (Env.new (Env.new E0.out 26 #[.bool na, .string sa]) 26 #[.bool nb, .string sb]); (try simp only [World.size_alloc] at h); exact h)
  generalize ((w.alloc (.cells #[.bool na, .string sa] 26)).alloc (.cells #[.bool nb, .string sb] 26)) = W1 at E1 ⊢
  have Cf1 := Lib.hid (fun (W : World) (h : Env w W [(w.heap.size + 1, 26, #[.bool nb, .string sb]), (w.heap.size, 26, #[.bool na, .string sa])]) => (show W.cell? ⟨w.heap.size, 0, none⟩ = some (.bool na) ∧ W.cell? ⟨w.heap.size, 1, none⟩ = some (.string sa) ∧ W.cell? ⟨w.heap.size + 1, 0, none⟩ = some (.bool nb) ∧ W.cell? ⟨w.heap.size + 1, 1, none⟩ = some (.string sb) from ⟨(Env.at_ h 1 rfl).cell 0, (Env.at_ h 1 rfl).cell 1, (Env.at_ h 0 rfl).cell 0, (Env.at_ h 0 rfl).cell 1⟩))
  refine wp_region_noPanic ?_
  refine wp_region_HK (fun w' => w'.cell? ⟨w.heap.size, 0, none⟩ = some (.bool na) ∧ w'.cell? ⟨w.heap.size, 1, none⟩ = some (.string sa) ∧ w'.cell? ⟨w.heap.size + 1, 0, none⟩ = some (.bool nb) ∧ w'.cell? ⟨w.heap.size + 1, 1, none⟩ = some (.string sb)) 4 (by kernel_rfl) (Cf1.out _ E1.out.drew) (fun hHeld => ?_)
  refine wpHK_take (i := 0) (oi := Oper.mk (some 7) _ _ _ _ _) (v := ?_) rfl (by kernel_rfl) (by kernel_rfl) (by kernel_rfl) (by kernel_rfl) (fun _ _ _ h => h) (Or.inl ⟨by rfl, ?_⟩) (by assumption) ?_
  rotate_left
  · (intro w' hSw; (try dsimp only at hSw); (obtain ⟨s0, s1, s2, s3⟩ := hSw); go_simp; try with_reducible rfl)
  try simp only [Act.put, List.setIfInBounds_toArray, List.set_cons_zero, List.set_cons_succ]
  refine wpHK_take (i := 2) (oi := Oper.mk (some 9) _ _ _ _ _) (v := ?_) rfl (by kernel_rfl) (by kernel_rfl) (by kernel_rfl) (by kernel_rfl) (fun _ _ _ h => h) (Or.inl ⟨by rfl, ?_⟩) (by assumption) ?_
  rotate_left
  · (intro w' hSw; (try dsimp only at hSw); (obtain ⟨s0, s1, s2, s3⟩ := hSw); go_simp; try with_reducible rfl)
  try simp only [Act.put, List.setIfInBounds_toArray, List.set_cons_zero, List.set_cons_succ]
  refine wpHK_one (j := 1) (o := Oper.mk (some 8) _ _ _ _ _) rfl (by kernel_rfl) (fun K hK => ?_)
  go_simp
  refine (HS.out _).mono ?_
  rintro e V1 ⟨rfl, hb⟩
  have F1 := Lib.hid (Env.call E1.out.drew hb)
  clear hb
  refine hK.out _ _ (Cf1.out _ F1.out) (fun _ => ?_)
  clear hK K hHeld
  have hHeld := (Cf1.out _ F1.out)
  try simp only [Act.put, List.setIfInBounds_toArray, List.set_cons_zero, List.set_cons_succ]
  refine wpHK_one (j := 3) (o := Oper.mk (some 10) _ _ _ _ _) rfl (by kernel_rfl) (fun K hK => ?_)
  go_simp
  refine (HT.out _).mono ?_
  rintro e V2 ⟨rfl, hb⟩
  have F2 := Lib.hid (Env.call F1.out hb)
  clear hb
  refine hK.out _ _ (Cf1.out _ F2.out) (fun _ => ?_)
  clear hK K hHeld
  have hHeld := (Cf1.out _ F2.out)
  try simp only [Act.put, List.setIfInBounds_toArray, List.set_cons_zero, List.set_cons_succ]
  refine wpHK_pure (i := 4) (oi := Oper.mk (some 5) _ _ _ _ _) (v := ?_) rfl (by kernel_rfl) (by kernel_rfl) (by kernel_rfl) (fun _ _ _ h => h) (Or.inl ⟨by rfl, ?_⟩) ?_
  rotate_left
  · (intro w' _; go_simp; try with_reducible rfl)
  try simp only [Act.put, List.setIfInBounds_toArray, List.set_cons_zero, List.set_cons_succ]
  refine wpHK_pure (i := 5) (oi := Oper.mk (some 6) _ _ _ _ _) (v := ?_) rfl (by kernel_rfl) (by kernel_rfl) (by kernel_rfl) (fun _ _ _ h => h) (Or.inl ⟨by rfl, ?_⟩) ?_
  rotate_left
  · (intro w' _; go_simp; try with_reducible rfl)
  try simp only [Act.put, List.setIfInBounds_toArray, List.set_cons_zero, List.set_cons_succ]
  refine wpHK_done (by kernel_rfl) ?_ _
  refine NoPanic.normal ?_
  go_wp2_with fail
  go_ret
  exact ⟨rfl, F2.out.1⟩
set_option maxRecDepth 100000 in
set_option maxHeartbeats 4000000 in
theorem rcmp_gt {w : World} {na nb : Bool} {sa sb : ByteArray} (ha : Fmd sa) (hb : Fmd sb) (hs : sg (num (na, sa)) ≠ sg (num (nb, sb))) (hlt : ¬ sg (num (na, sa)) < sg (num (nb, sb))) :
    Calls Try.prog 30 #[.agg #[.bool na, .string sa], .agg #[.bool nb, .string sb]] w (Calm w (.int .i64 (cmpI (num (na, sa)) (num (nb, sb))))) := by
  have HS := Lib.hid (fun W : World => rsign_any (w := W) (n := na) ha)
  have HT := Lib.hid (fun W : World => rsign_any (w := W) (n := nb) hb)
  have hb1 := sg_bounds (num (na, sa))
  have hb2 := sg_bounds (num (nb, sb))
  obtain ⟨hb11, hb12⟩ := hb1
  obtain ⟨hb21, hb22⟩ := hb2
  have hz := cmp_sg.1 hs
  rw [hz]
  rw [if_neg hlt]
  have hbe : (sg (num (na, sa)) == sg (num (nb, sb))) = false := beq_eq_false_iff_ne.2 hs
  generalize sg (num (na, sa)) = zx at *
  generalize sg (num (nb, sb)) = zy at *
  clear hz
  have HA := Lib.hid (fun W : World => words_any (w := W) (by have := ha.2; omega) ha.1)
  have HB := Lib.hid (fun W : World => words_any (w := W) (by have := hb.2; omega) hb.1)
  have Hla := Lib.hid (And.intro ha.len hb.len)
  have Hab := Lib.hid (And.intro ha hb)
  obtain ⟨a, hae⟩ : ∃ a, a = bval sa.data.toList := ⟨_, rfl⟩
  obtain ⟨b, hbe⟩ : ∃ b, b = bval sb.data.toList := ⟨_, rfl⟩
  rw [← hae] at HA
  rw [← hbe] at HB
  rw [← hae, ← hbe] at Hla
  have Hnum := Lib.hid (show num (na, sa) = sgn na a ∧ num (nb, sb) = sgn nb b from ⟨by rw [hae]; rfl, by rw [hbe]; rfl⟩)
  (try rw [← hae, ← hbe])
  clear hae hbe ha hb
  have E0 := Lib.hid (Env.nil w)
  go_enter Try.func30, Try.ntmps30
  go_upto_region 1 with fail
  have E1 : Hid (Env w ((w.alloc (.cells #[.bool na, .string sa] 26)).alloc (.cells #[.bool nb, .string sb] 26)) [(w.heap.size + 1, 26, #[.bool nb, .string sb]), (w.heap.size, 26, #[.bool na, .string sa])]) := Lib.hid (by have h := (Env.new (Env.new E0.out 26 #[.bool na, .string sa]) 26 #[.bool nb, .string sb]); (try simp only [World.size_alloc] at h); exact h)
  generalize ((w.alloc (.cells #[.bool na, .string sa] 26)).alloc (.cells #[.bool nb, .string sb] 26)) = W1 at E1 ⊢
  have Cf1 := Lib.hid (fun (W : World) (h : Env w W [(w.heap.size + 1, 26, #[.bool nb, .string sb]), (w.heap.size, 26, #[.bool na, .string sa])]) => (show W.cell? ⟨w.heap.size, 0, none⟩ = some (.bool na) ∧ W.cell? ⟨w.heap.size, 1, none⟩ = some (.string sa) ∧ W.cell? ⟨w.heap.size + 1, 0, none⟩ = some (.bool nb) ∧ W.cell? ⟨w.heap.size + 1, 1, none⟩ = some (.string sb) from ⟨(Env.at_ h 1 rfl).cell 0, (Env.at_ h 1 rfl).cell 1, (Env.at_ h 0 rfl).cell 0, (Env.at_ h 0 rfl).cell 1⟩))
  refine wp_region_noPanic ?_
  refine wp_region_HK (fun w' => w'.cell? ⟨w.heap.size, 0, none⟩ = some (.bool na) ∧ w'.cell? ⟨w.heap.size, 1, none⟩ = some (.string sa) ∧ w'.cell? ⟨w.heap.size + 1, 0, none⟩ = some (.bool nb) ∧ w'.cell? ⟨w.heap.size + 1, 1, none⟩ = some (.string sb)) 4 (by kernel_rfl) (Cf1.out _ E1.out.drew) (fun hHeld => ?_)
  refine wpHK_take (i := 0) (oi := Oper.mk (some 7) _ _ _ _ _) (v := ?_) rfl (by kernel_rfl) (by kernel_rfl) (by kernel_rfl) (by kernel_rfl) (fun _ _ _ h => h) (Or.inl ⟨by rfl, ?_⟩) (by assumption) ?_
  rotate_left
  · (intro w' hSw; (try dsimp only at hSw); (obtain ⟨s0, s1, s2, s3⟩ := hSw); go_simp; try with_reducible rfl)
  try simp only [Act.put, List.setIfInBounds_toArray, List.set_cons_zero, List.set_cons_succ]
  refine wpHK_take (i := 2) (oi := Oper.mk (some 9) _ _ _ _ _) (v := ?_) rfl (by kernel_rfl) (by kernel_rfl) (by kernel_rfl) (by kernel_rfl) (fun _ _ _ h => h) (Or.inl ⟨by rfl, ?_⟩) (by assumption) ?_
  rotate_left
  · (intro w' hSw; (try dsimp only at hSw); (obtain ⟨s0, s1, s2, s3⟩ := hSw); go_simp; try with_reducible rfl)
  try simp only [Act.put, List.setIfInBounds_toArray, List.set_cons_zero, List.set_cons_succ]
  refine wpHK_one (j := 1) (o := Oper.mk (some 8) _ _ _ _ _) rfl (by kernel_rfl) (fun K hK => ?_)
  go_simp
  refine (HS.out _).mono ?_
  rintro e V1 ⟨rfl, hb⟩
  have F1 := Lib.hid (Env.call E1.out.drew hb)
  clear hb
  refine hK.out _ _ (Cf1.out _ F1.out) (fun _ => ?_)
  clear hK K hHeld
  have hHeld := (Cf1.out _ F1.out)
  try simp only [Act.put, List.setIfInBounds_toArray, List.set_cons_zero, List.set_cons_succ]
  refine wpHK_one (j := 3) (o := Oper.mk (some 10) _ _ _ _ _) rfl (by kernel_rfl) (fun K hK => ?_)
  go_simp
  refine (HT.out _).mono ?_
  rintro e V2 ⟨rfl, hb⟩
  have F2 := Lib.hid (Env.call F1.out hb)
  clear hb
  refine hK.out _ _ (Cf1.out _ F2.out) (fun _ => ?_)
  clear hK K hHeld
  have hHeld := (Cf1.out _ F2.out)
  try simp only [Act.put, List.setIfInBounds_toArray, List.set_cons_zero, List.set_cons_succ]
  refine wpHK_pure (i := 4) (oi := Oper.mk (some 5) _ _ _ _ _) (v := ?_) rfl (by kernel_rfl) (by kernel_rfl) (by kernel_rfl) (fun _ _ _ h => h) (Or.inl ⟨by rfl, ?_⟩) ?_
  rotate_left
  · (intro w' _; go_simp; try with_reducible rfl)
  try simp only [Act.put, List.setIfInBounds_toArray, List.set_cons_zero, List.set_cons_succ]
  refine wpHK_pure (i := 5) (oi := Oper.mk (some 6) _ _ _ _ _) (v := ?_) rfl (by kernel_rfl) (by kernel_rfl) (by kernel_rfl) (fun _ _ _ h => h) (Or.inl ⟨by rfl, ?_⟩) ?_
  rotate_left
  · (intro w' _; go_simp; try with_reducible rfl)
  try simp only [Act.put, List.setIfInBounds_toArray, List.set_cons_zero, List.set_cons_succ]
  refine wpHK_done (by kernel_rfl) ?_ _
  refine NoPanic.normal ?_
  go_wp2_with fail
  go_ret
  exact ⟨rfl, F2.out.1⟩
set_option maxRecDepth 100000 in
set_option maxHeartbeats 4000000 in
theorem rcmp_same {w : World} {na nb : Bool} {sa sb : ByteArray} (ha : Fmd sa) (hb : Fmd sb) (hs : sg (num (na, sa)) = sg (num (nb, sb))) :
    Calls Try.prog 30 #[.agg #[.bool na, .string sa], .agg #[.bool nb, .string sb]] w (Calm w (.int .i64 (cmpI (num (na, sa)) (num (nb, sb))))) := by
  have HS := Lib.hid (fun W : World => rsign_any (w := W) (n := na) ha)
  have HT := Lib.hid (fun W : World => rsign_any (w := W) (n := nb) hb)
  have hb1 := sg_bounds (num (na, sa))
  have hb2 := sg_bounds (num (nb, sb))
  obtain ⟨hb11, hb12⟩ := hb1
  obtain ⟨hb21, hb22⟩ := hb2
  have hz := cmp_sg.2 hs
  have hbe : (sg (num (na, sa)) == sg (num (nb, sb))) = true := beq_iff_eq.2 hs
  rw [show (num (na, sa)).natAbs = bval sa.data.toList from sgn_abs _ _, show (num (nb, sb)).natAbs = bval sb.data.toList from sgn_abs _ _] at hz
  rw [← hs] at HT hbe
  rw [← hz]
  clear hz hs hb21 hb22
  generalize sg (num (na, sa)) = zx at *
  have HA := Lib.hid (fun W : World => words_any (w := W) (by have := ha.2; omega) ha.1)
  have HB := Lib.hid (fun W : World => words_any (w := W) (by have := hb.2; omega) hb.1)
  have Hla := Lib.hid (And.intro ha.len hb.len)
  have Hab := Lib.hid (And.intro ha hb)
  obtain ⟨a, hae⟩ : ∃ a, a = bval sa.data.toList := ⟨_, rfl⟩
  obtain ⟨b, hbe⟩ : ∃ b, b = bval sb.data.toList := ⟨_, rfl⟩
  rw [← hae] at HA
  rw [← hbe] at HB
  rw [← hae, ← hbe] at Hla
  have Hnum := Lib.hid (show num (na, sa) = sgn na a ∧ num (nb, sb) = sgn nb b from ⟨by rw [hae]; rfl, by rw [hbe]; rfl⟩)
  (try rw [← hae, ← hbe])
  clear hae hbe ha hb
  have E0 := Lib.hid (Env.nil w)
  go_enter Try.func30, Try.ntmps30
  go_upto_region 1 with fail
  have E1 : Hid (Env w ((w.alloc (.cells #[.bool na, .string sa] 26)).alloc (.cells #[.bool nb, .string sb] 26)) [(w.heap.size + 1, 26, #[.bool nb, .string sb]), (w.heap.size, 26, #[.bool na, .string sa])]) := Lib.hid (by have h := (Env.new (Env.new E0.out 26 #[.bool na, .string sa]) 26 #[.bool nb, .string sb]); (try simp only [World.size_alloc] at h); exact h)
  generalize ((w.alloc (.cells #[.bool na, .string sa] 26)).alloc (.cells #[.bool nb, .string sb] 26)) = W1 at E1 ⊢
  have Cf1 := Lib.hid (fun (W : World) (h : Env w W [(w.heap.size + 1, 26, #[.bool nb, .string sb]), (w.heap.size, 26, #[.bool na, .string sa])]) => (show W.cell? ⟨w.heap.size, 0, none⟩ = some (.bool na) ∧ W.cell? ⟨w.heap.size, 1, none⟩ = some (.string sa) ∧ W.cell? ⟨w.heap.size + 1, 0, none⟩ = some (.bool nb) ∧ W.cell? ⟨w.heap.size + 1, 1, none⟩ = some (.string sb) from ⟨(Env.at_ h 1 rfl).cell 0, (Env.at_ h 1 rfl).cell 1, (Env.at_ h 0 rfl).cell 0, (Env.at_ h 0 rfl).cell 1⟩))
  refine wp_region_noPanic ?_
  refine wp_region_HK (fun w' => w'.cell? ⟨w.heap.size, 0, none⟩ = some (.bool na) ∧ w'.cell? ⟨w.heap.size, 1, none⟩ = some (.string sa) ∧ w'.cell? ⟨w.heap.size + 1, 0, none⟩ = some (.bool nb) ∧ w'.cell? ⟨w.heap.size + 1, 1, none⟩ = some (.string sb)) 4 (by kernel_rfl) (Cf1.out _ E1.out.drew) (fun hHeld => ?_)
  refine wpHK_take (i := 0) (oi := Oper.mk (some 7) _ _ _ _ _) (v := ?_) rfl (by kernel_rfl) (by kernel_rfl) (by kernel_rfl) (by kernel_rfl) (fun _ _ _ h => h) (Or.inl ⟨by rfl, ?_⟩) (by assumption) ?_
  rotate_left
  · (intro w' hSw; (try dsimp only at hSw); (obtain ⟨s0, s1, s2, s3⟩ := hSw); go_simp; try with_reducible rfl)
  try simp only [Act.put, List.setIfInBounds_toArray, List.set_cons_zero, List.set_cons_succ]
  refine wpHK_take (i := 2) (oi := Oper.mk (some 9) _ _ _ _ _) (v := ?_) rfl (by kernel_rfl) (by kernel_rfl) (by kernel_rfl) (by kernel_rfl) (fun _ _ _ h => h) (Or.inl ⟨by rfl, ?_⟩) (by assumption) ?_
  rotate_left
  · (intro w' hSw; (try dsimp only at hSw); (obtain ⟨s0, s1, s2, s3⟩ := hSw); go_simp; try with_reducible rfl)
  try simp only [Act.put, List.setIfInBounds_toArray, List.set_cons_zero, List.set_cons_succ]
  refine wpHK_one (j := 1) (o := Oper.mk (some 8) _ _ _ _ _) rfl (by kernel_rfl) (fun K hK => ?_)
  go_simp
  refine (HS.out _).mono ?_
  rintro e V1 ⟨rfl, hb⟩
  have F1 := Lib.hid (Env.call E1.out.drew hb)
  clear hb
  refine hK.out _ _ (Cf1.out _ F1.out) (fun _ => ?_)
  clear hK K hHeld
  have hHeld := (Cf1.out _ F1.out)
  try simp only [Act.put, List.setIfInBounds_toArray, List.set_cons_zero, List.set_cons_succ]
  refine wpHK_one (j := 3) (o := Oper.mk (some 10) _ _ _ _ _) rfl (by kernel_rfl) (fun K hK => ?_)
  go_simp
  refine (HT.out _).mono ?_
  rintro e V2 ⟨rfl, hb⟩
  have F2 := Lib.hid (Env.call F1.out hb)
  clear hb
  refine hK.out _ _ (Cf1.out _ F2.out) (fun _ => ?_)
  clear hK K hHeld
  have hHeld := (Cf1.out _ F2.out)
  try simp only [Act.put, List.setIfInBounds_toArray, List.set_cons_zero, List.set_cons_succ]
  refine wpHK_pure (i := 4) (oi := Oper.mk (some 5) _ _ _ _ _) (v := ?_) rfl (by kernel_rfl) (by kernel_rfl) (by kernel_rfl) (fun _ _ _ h => h) (Or.inl ⟨by rfl, ?_⟩) ?_
  rotate_left
  · (intro w' _; go_simp; try with_reducible rfl)
  try simp only [Act.put, List.setIfInBounds_toArray, List.set_cons_zero, List.set_cons_succ]
  refine wpHK_pure (i := 5) (oi := Oper.mk (some 6) _ _ _ _ _) (v := ?_) rfl (by kernel_rfl) (by kernel_rfl) (by kernel_rfl) (fun _ _ _ h => h) (Or.inl ⟨by rfl, ?_⟩) ?_
  rotate_left
  · (intro w' _; go_simp; try with_reducible rfl)
  try simp only [Act.put, List.setIfInBounds_toArray, List.set_cons_zero, List.set_cons_succ]
  refine wpHK_done (by kernel_rfl) ?_ _
  refine NoPanic.normal ?_
  go_upto_region 6 with fail
  have hw := cmp_wrap (a := a) (b := b) hb11 hb12
  have Cf6 := Lib.hid (fun (W : World) (h : Env w W [(w.heap.size + 1, 26, #[.bool nb, .string sb]), (w.heap.size, 26, #[.bool na, .string sa])]) => (show W.cell? ⟨w.heap.size, 0, none⟩ = some (.bool na) ∧ W.cell? ⟨w.heap.size, 1, none⟩ = some (.string sa) ∧ W.cell? ⟨w.heap.size + 1, 0, none⟩ = some (.bool nb) ∧ W.cell? ⟨w.heap.size + 1, 1, none⟩ = some (.string sb) from ⟨(Env.at_ h 1 rfl).cell 0, (Env.at_ h 1 rfl).cell 1, (Env.at_ h 0 rfl).cell 0, (Env.at_ h 0 rfl).cell 1⟩))
  refine wp_region_noPanic ?_
  refine wp_region_HK (fun w' => w'.cell? ⟨w.heap.size, 0, none⟩ = some (.bool na) ∧ w'.cell? ⟨w.heap.size, 1, none⟩ = some (.string sa) ∧ w'.cell? ⟨w.heap.size + 1, 0, none⟩ = some (.bool nb) ∧ w'.cell? ⟨w.heap.size + 1, 1, none⟩ = some (.string sb)) 9 (by kernel_rfl) (Cf6.out _ F2.out.drew) (fun hHeld => ?_)
  refine wpHK_pure (i := 0) (oi := Oper.mk (some 17) _ _ _ _ _) (v := ?_) rfl (by kernel_rfl) (by kernel_rfl) (by kernel_rfl) (fun _ _ _ h => h) (Or.inl ⟨by rfl, ?_⟩) ?_
  rotate_left
  · (intro w' _; go_simp; try with_reducible rfl)
  try simp only [Act.put, List.setIfInBounds_toArray, List.set_cons_zero, List.set_cons_succ]
  refine wpHK_pure (i := 1) (oi := Oper.mk (some 18) _ _ _ _ _) (v := ?_) rfl (by kernel_rfl) (by kernel_rfl) (by kernel_rfl) (fun _ _ _ h => h) (Or.inl ⟨by rfl, ?_⟩) ?_
  rotate_left
  · (intro w' _; go_simp; try with_reducible rfl)
  try simp only [Act.put, List.setIfInBounds_toArray, List.set_cons_zero, List.set_cons_succ]
  refine wpHK_pure (i := 4) (oi := Oper.mk (some 21) _ _ _ _ _) (v := ?_) rfl (by kernel_rfl) (by kernel_rfl) (by kernel_rfl) (fun _ _ _ h => h) (Or.inl ⟨by rfl, ?_⟩) ?_
  rotate_left
  · (intro w' _; go_simp; try with_reducible rfl)
  try simp only [Act.put, List.setIfInBounds_toArray, List.set_cons_zero, List.set_cons_succ]
  refine wpHK_take (i := 2) (oi := Oper.mk (some 19) _ _ _ _ _) (v := ?_) rfl (by kernel_rfl) (by kernel_rfl) (by kernel_rfl) (by kernel_rfl) (fun _ _ _ h => h) (Or.inl ⟨by rfl, ?_⟩) (by assumption) ?_
  rotate_left
  · (intro w' hSw; (try dsimp only at hSw); (obtain ⟨s0, s1, s2, s3⟩ := hSw); go_simp; try with_reducible rfl)
  try simp only [Act.put, List.setIfInBounds_toArray, List.set_cons_zero, List.set_cons_succ]
  refine wpHK_take (i := 5) (oi := Oper.mk (some 22) _ _ _ _ _) (v := ?_) rfl (by kernel_rfl) (by kernel_rfl) (by kernel_rfl) (by kernel_rfl) (fun _ _ _ h => h) (Or.inl ⟨by rfl, ?_⟩) (by assumption) ?_
  rotate_left
  · (intro w' hSw; (try dsimp only at hSw); (obtain ⟨s0, s1, s2, s3⟩ := hSw); go_simp; try with_reducible rfl)
  try simp only [Act.put, List.setIfInBounds_toArray, List.set_cons_zero, List.set_cons_succ]
  refine wpHK_one (j := 3) (o := Oper.mk (some 20) _ _ _ _ _) rfl (by kernel_rfl) (fun K hK => ?_)
  go_simp
  refine (HA.out _).mono ?_
  rintro e V3 ⟨A1, m1, c1, rfl, hm, hmc, hcl, hr, hb⟩
  have F3 := Lib.hid (Env.call F2.out.drew hb)
  have R1 := Lib.hid (And.intro hm.out (And.intro hmc (And.intro hcl hr)))
  have hbl := Lib.hid hb
  clear hm hmc hcl hr hb
  refine hK.out _ _ (Cf6.out _ F3.out) (fun _ => ?_)
  clear hK K hHeld
  have hHeld := (Cf6.out _ F3.out)
  try simp only [Act.put, List.setIfInBounds_toArray, List.set_cons_zero, List.set_cons_succ]
  refine wpHK_one (j := 6) (o := Oper.mk (some 23) _ _ _ _ _) rfl (by kernel_rfl) (fun K hK => ?_)
  go_simp
  refine (HB.out _).mono ?_
  rintro e V4 ⟨A2, m2, c2, rfl, hm, hmc, hcl, hr, hb⟩
  have F4 := Lib.hid (Env.call F3.out hb)
  have R2 := Lib.hid (And.intro hm.out (And.intro hmc (And.intro hcl hr)))
  have hbl := Lib.hid hb
  clear hm hmc hcl hr hb
  have R1' := Lib.hid (And.intro R1.out.1 (And.intro R1.out.2.1 (And.intro R1.out.2.2.1 ((R1.out.2.2.2.below hbl.out).more hbl.out.size))))
  clear R1 hbl
  have R1 := R1'
  clear R1'
  refine hK.out _ _ (Cf6.out _ F4.out) (fun _ => ?_)
  clear hK K hHeld
  have hHeld := (Cf6.out _ F4.out)
  try simp only [Act.put, List.setIfInBounds_toArray, List.set_cons_zero, List.set_cons_succ]
  refine wpHK_one (j := 7) (o := Oper.mk (some 24) _ _ _ _ _) rfl (by kernel_rfl) (fun K hK => ?_)
  go_simp
  refine (runder_any (w := V4) (c := c1) (d := c2) R1.out.2.2.2 R2.out.2.2.2 R1.out.1 R2.out.1 (by have := R1.out.1; have := Hla.out.1; omega) (by have := R2.out.1; have := Hla.out.2; omega)).mono ?_
  rintro e V5 ⟨q, rfl, rfl⟩
  have F5 := Lib.hid (F4.out.drewN q)
  refine hK.out _ _ (Cf6.out _ F5.out) (fun _ => ?_)
  clear hK K hHeld
  have hHeld := (Cf6.out _ F5.out)
  try simp only [Act.put, List.setIfInBounds_toArray, List.set_cons_zero, List.set_cons_succ]
  refine wpHK_pure (i := 8) (oi := Oper.mk (some 25) _ _ _ _ _) (v := ?_) rfl (by kernel_rfl) (by kernel_rfl) (by kernel_rfl) (fun _ _ _ h => h) (Or.inl ⟨by rfl, ?_⟩) ?_
  rotate_left
  · (intro w' _; go_simp; try with_reducible rfl)
  try simp only [Act.put, List.setIfInBounds_toArray, List.set_cons_zero, List.set_cons_succ]
  refine wpHK_pure (i := 9) (oi := Oper.mk (some 4) _ _ _ _ _) (v := ?_) rfl (by kernel_rfl) (by kernel_rfl) (by kernel_rfl) (fun _ _ _ h => h) (Or.inl ⟨by rfl, ?_⟩) ?_
  rotate_left
  · (intro w' _; go_simp; try with_reducible rfl)
  try simp only [Act.put, List.setIfInBounds_toArray, List.set_cons_zero, List.set_cons_succ]
  refine wpHK_done (by kernel_rfl) ?_ _
  refine NoPanic.normal ?_
  go_wp2_with fail
  go_ret
  exact ⟨rfl, F5.out.1⟩
theorem rcmp_any {w : World} {na nb : Bool} {sa sb : ByteArray} (ha : Fmd sa) (hb : Fmd sb) :
    Calls Try.prog 30 #[.agg #[.bool na, .string sa], .agg #[.bool nb, .string sb]] w (Calm w (.int .i64 (cmpI (num (na, sa)) (num (nb, sb))))) := by
  by_cases hs : sg (num (na, sa)) = sg (num (nb, sb))
  · exact rcmp_same ha hb hs
  · by_cases hlt : sg (num (na, sa)) < sg (num (nb, sb))
    · exact rcmp_lt ha hb hs hlt
    · exact rcmp_gt ha hb hs hlt
end Go.Proofs.Ytpnginnjbdedbaa

/- The law's long, bad, is, arg. -/
namespace Go.Proofs.Ytpnginnjbdedbaa
open Go.RowKit
open Wh
set_option linter.unusedSimpArgs false

def isLong (a : Bool × ByteArray) : Bool := decide (400 < a.2.size) && mayB a.1 a.2
def isBad (a : Bool × ByteArray) : Bool := !mayB a.1 a.2
theorem any_take {f : Bool × ByteArray → Bool} {l : List (Bool × ByteArray)} {i : Nat} (h : i < l.length) (h0 : (l.take i).any f = false) (h1 : f l[i] = false) : (l.take (i + 1)).any f = false := by
  rw [List.take_succ_eq_append_getElem h, List.any_append, h0]
  simp [h1]
theorem any_hit {f : Bool × ByteArray → Bool} {l : List (Bool × ByteArray)} {i : Nat} (h : i < l.length) (h1 : f l[i] = true) : l.any f = true := List.any_eq_true.2 ⟨_, List.getElem_mem h, h1⟩
set_option maxRecDepth 100000 in
set_option maxHeartbeats 4000000 in
theorem bad_any {w : World} {B n c : Nat} {A : Option Addr} {l : List (Bool × ByteArray)} (hr : ReadsWh w B A l) (hB : B ≤ w.heap.size) (hn : n = l.length) (hnl : n ≤ 1000000000) :
    Calls Try.prog 16 #[.slice A n c] w (Calm w (.bool (l.any isBad))) := by
  have Hn := Lib.hid hn
  have Hr := Lib.hid hr
  have HM := Lib.hid (fun (W : World) (n : Bool) (s : ByteArray) => may_any (w := W) (n := n) (s := s))
  clear hn hr
  go_enter Try.func16, Try.ntmps16
  go_wp2_with fail
  go_loopg [3] n (fun k iv wr => ∃ (i : Nat), iv = .int .i64 (i : Int) ∧ k = n - i ∧ i ≤ n ∧ Below w.heap.size w wr ∧ Hid ((l.take i).any isBad = false))
  case atStart => exact ⟨0, rfl, by omega, by omega, Below.refl _ _, by rw [List.take_zero]; rfl⟩
  case round =>
    obtain ⟨i, rfl, hk, hi, hbel, ht⟩ := hrel
    have Hk := Lib.hid hk
    clear hk
    by_cases hin : i < n
    · have hil : i < l.length := by rw [← Hn.out]; exact hin
      obtain ⟨ad, rfl, hb1, c0, c1⟩ := ReadsWh.at_ (Reads.below Hr.out (hbel.mono hB)) hil
      have hii : (i : Int) < (n : Int) := by omega
      have Hhit := Lib.hid (any_hit (f := isBad) hil)
      have Htk := Lib.hid (any_take (f := isBad) hil ht.out)
      generalize l[i] = a at c0 c1 Hhit Htk
      obtain ⟨na, sa⟩ := a
      dsimp only at c0 c1
      go_wp2_with fail
      refine (HM.out _ _ _).mono ?_
      rintro e w2 ⟨rfl, h2⟩
      have hb2 := hbel.trans (h2.mono hbel.size)
      clear h2 c0 c1
      obtain ⟨b, hb⟩ : ∃ b, b = mayB na sa := ⟨_, rfl⟩
      rw [← hb]
      have Hb := Lib.hid hb
      clear hb
      cases b
      · go_wp2_with fail
        go_ret
        exact ⟨by rw [Hhit.out (by show (!mayB na sa) = true; rw [← Hb.out]; rfl)]; rfl, hb2⟩
      · go_wp2_with fail
        go_roundg (n - (i + 1))
        case measure => have := Hk.out; omega
        case rel => exact ⟨i + 1, rfl, rfl, by omega, hb2, Lib.hid (Htk.out (by show (!mayB na sa) = false; rw [← Hb.out]; rfl))⟩
    · have hii : (n : Int) ≤ (i : Int) := by omega
      have hfin : l.any isBad = false := by
        have h1 := ht.out
        rw [show i = l.length by have := Hn.out; omega, List.take_length] at h1
        exact h1
      have Hfin := Lib.hid hfin
      clear hfin
      go_wp2_with fail
      go_ret
      exact ⟨by rw [Hfin.out]; rfl, hbel⟩
set_option maxRecDepth 100000 in
set_option maxHeartbeats 4000000 in
theorem long_any {w : World} {B n c : Nat} {A : Option Addr} {l : List (Bool × ByteArray)} (hr : ReadsWh w B A l) (hB : B ≤ w.heap.size) (hn : n = l.length) (hnl : n ≤ 1000000000) :
    Calls Try.prog 12 #[.slice A n c] w (Calm w (.bool (l.any isLong))) := by
  have Hn := Lib.hid hn
  have Hr := Lib.hid hr
  have HM := Lib.hid (fun (W : World) (n : Bool) (s : ByteArray) => may_any (w := W) (n := n) (s := s))
  clear hn hr
  go_enter Try.func12, Try.ntmps12
  go_wp2_with fail
  go_loopg [3] n (fun k iv wr => ∃ (i : Nat), iv = .int .i64 (i : Int) ∧ k = n - i ∧ i ≤ n ∧ Below w.heap.size w wr ∧ Hid ((l.take i).any isLong = false))
  case atStart => exact ⟨0, rfl, by omega, by omega, Below.refl _ _, by rw [List.take_zero]; rfl⟩
  case round =>
    obtain ⟨i, rfl, hk, hi, hbel, ht⟩ := hrel
    have Hk := Lib.hid hk
    clear hk
    by_cases hin : i < n
    · have hil : i < l.length := by rw [← Hn.out]; exact hin
      obtain ⟨ad, rfl, hb1, c0, c1⟩ := ReadsWh.at_ (Reads.below Hr.out (hbel.mono hB)) hil
      have hii : (i : Int) < (n : Int) := by omega
      have Hhit := Lib.hid (any_hit (f := isLong) hil)
      have Htk := Lib.hid (any_take (f := isLong) hil ht.out)
      generalize l[i] = a at c0 c1 Hhit Htk
      obtain ⟨na, sa⟩ := a
      dsimp only at c0 c1
      by_cases h4 : 400 < sa.size
      · have d4 : decide ((400 : Int) < (sa.size : Int)) = true := decide_eq_true (by omega)
        have e4 := decide_eq_true h4
        have He := Lib.hid e4
        clear e4
        go_wp2_with fail
        refine (HM.out _ _ _).mono ?_
        rintro e w2 ⟨rfl, h2⟩
        have hb2 := hbel.trans (h2.mono hbel.size)
        clear h2 c0 c1
        obtain ⟨b, hb⟩ : ∃ b, b = mayB na sa := ⟨_, rfl⟩
        rw [← hb]
        have Hb := Lib.hid hb
        clear hb
        cases b
        · go_wp2_with fail
          go_roundg (n - (i + 1))
          case measure => have := Hk.out; omega
          case rel => exact ⟨i + 1, rfl, rfl, by omega, hb2, Lib.hid (Htk.out (by show (decide (400 < sa.size) && mayB na sa) = false; rw [← Hb.out, He.out]; rfl))⟩
        · go_wp2_with fail
          go_ret
          exact ⟨by rw [Hhit.out (by show (decide (400 < sa.size) && mayB na sa) = true; rw [← Hb.out, He.out]; rfl)]; rfl, hb2⟩
      · have d4 : decide ((400 : Int) < (sa.size : Int)) = false := decide_eq_false (by omega)
        have He := Lib.hid (decide_eq_false h4)
        go_wp2_with fail
        go_roundg (n - (i + 1))
        case measure => have := Hk.out; omega
        case rel => exact ⟨i + 1, rfl, rfl, by omega, hbel, Lib.hid (Htk.out (by show (decide (400 < sa.size) && mayB na sa) = false; rw [He.out]; rfl))⟩
    · have hii : (n : Int) ≤ (i : Int) := by omega
      have hfin : l.any isLong = false := by
        have h1 := ht.out
        rw [show i = l.length by have := Hn.out; omega, List.take_length] at h1
        exact h1
      have Hfin := Lib.hid hfin
      clear hfin
      go_wp2_with fail
      go_ret
      exact ⟨by rw [Hfin.out]; rfl, hbel⟩

set_option maxRecDepth 100000 in
/-- what is refused -/
theorem arg_any {w : World} : Calls Try.prog 19 #[.agg #[.bool false, .string ⟨#[]⟩], .int .i64 2] w (Calm w (.bool true)) := by
  have HN := Lib.hid (fun W : World => num_any (w := W) (n := 2))
  have hb := Lib.hid ((Below.refl w.heap.size w).alloc (Nat.le_refl _) (.cells #[.bool false, .string ⟨#[]⟩] 26))
  go_enter Try.func19, Try.ntmps19
  go_wp2_with fail
  refine (HN.out _).mono ?_
  rintro e w2 ⟨rfl, rfl⟩
  go_wp2_with fail
  go_ret
  exact ⟨rfl, hb.out⟩
theorem bytes_bl {n k : Nat} (h : (bys n).length ≤ k) : bl n ≤ 8 * k := bl_lt.2 (by rw [← pow_bytes]; exact lt_of_bys h)
theorem fits_iff {z : Int} {s : Bool} {b : ByteArray} (he : enc z = .agg #[.bool s, .string b]) : fits z ↔ b.size ≤ 16384 := by
  unfold enc at he
  injection he with he
  have h2 : (⟨(bys z.natAbs).toArray⟩ : ByteArray) = b := by
    have := congrArg (fun x => x[1]?) he
    simpa using this
  have h3 : b.size = (bys z.natAbs).length := by rw [← h2]; exact List.size_toArray
  rw [h3]
  unfold fits
  constructor
  · exact fun h => bl_bytes (k := 16384) h
  · intro h
    exact bytes_bl (k := 16384) h
set_option maxRecDepth 100000 in
/-- an answer that fits -/
theorem is_yes {w : World} {z : Int} {s : Bool} {b : ByteArray} (hf : fits z) (he : enc z = .agg #[.bool s, .string b]) :
    Calls Try.prog 20 #[.agg #[.bool s, .string b], .int .i64 0, .agg #[.bool s, .string b]] w (Calm w (.bool true)) := by
  have HN := Lib.hid (fun W : World => num_any (w := W) (n := 0))
  have HF := Lib.hid (fun W : World => fits_any (w := W) (n := s) (s := b))
  rw [decide_eq_true ((fits_iff he).1 hf)] at HF
  have E0 := Lib.hid (Env.new (Env.new (Env.nil w) 26 #[.bool s, .string b]) 26 #[.bool s, .string b])
  clear hf he
  go_enter Try.func20, Try.ntmps20
  go_upto_region 1 with fail
  rw [World.size_alloc] at E0
  generalize ((w.alloc (.cells #[.bool s, .string b] 26)).alloc (.cells #[.bool s, .string b] 26)) = W1 at E0 ⊢
  have c0 := (Env.at_ E0.out 0 rfl).cell 0
  have c1 := (Env.at_ E0.out 0 rfl).cell 1
  simp at c0 c1
  go_wp2_with fail
  refine (HF.out _).mono ?_
  rintro e w2 ⟨rfl, h2⟩
  have E2 := Lib.hid (E0.out.call h2)
  clear c0 c1 h2
  have c0 := (Env.at_ E2.out 0 rfl).cell 0
  have c1 := (Env.at_ E2.out 0 rfl).cell 1
  have d0 := (Env.at_ E2.out 1 rfl).cell 0
  have d1 := (Env.at_ E2.out 1 rfl).cell 1
  simp at c0 c1 d0 d1
  go_wp2_with fail
  refine (HN.out _).mono ?_
  rintro e w3 ⟨rfl, rfl⟩
  go_wp2_with fail
  go_ret
  exact ⟨rfl, E2.out.1⟩
set_option maxRecDepth 100000 in
/-- an answer that is too great -/
theorem is_no {w : World} {z : Int} {s : Bool} {b : ByteArray} (hf : ¬ fits z) (he : enc z = .agg #[.bool s, .string b]) :
    Calls Try.prog 20 #[.agg #[.bool false, .string ⟨#[]⟩], .int .i64 4, .agg #[.bool s, .string b]] w (Calm w (.bool true)) := by
  have HN := Lib.hid (fun W : World => num_any (w := W) (n := 4))
  have HF := Lib.hid (fun W : World => fits_any (w := W) (n := s) (s := b))
  rw [decide_eq_false (fun h => hf ((fits_iff he).2 h))] at HF
  have E0 := Lib.hid (Env.new (Env.new (Env.nil w) 26 #[.bool false, .string ⟨#[]⟩]) 26 #[.bool s, .string b])
  clear hf he
  go_enter Try.func20, Try.ntmps20
  go_upto_region 1 with fail
  rw [World.size_alloc] at E0
  generalize ((w.alloc (.cells #[.bool false, .string ⟨#[]⟩] 26)).alloc (.cells #[.bool s, .string b] 26)) = W1 at E0 ⊢
  have c0 := (Env.at_ E0.out 0 rfl).cell 0
  have c1 := (Env.at_ E0.out 0 rfl).cell 1
  simp at c0 c1
  go_wp2_with fail
  refine (HF.out _).mono ?_
  rintro e w2 ⟨rfl, h2⟩
  have E2 := Lib.hid (E0.out.call h2)
  clear c0 c1 h2
  have d0 := (Env.at_ E2.out 1 rfl).cell 0
  have d1 := (Env.at_ E2.out 1 rfl).cell 1
  simp at d0 d1
  go_wp2_with fail
  refine (HN.out _).mono ?_
  rintro e w3 ⟨rfl, rfl⟩
  go_wp2_with fail
  go_ret
  exact ⟨rfl, E2.out.1⟩
end Go.Proofs.Ytpnginnjbdedbaa

/- The laws' common contracts: what is refused, what is long or bad, the reference's answers. -/
namespace Go.Proofs.Ytpnginnjbdedbaa
open Go.RowKit
open Wh
set_option linter.unusedSimpArgs false

section
variable {w : World} {na nb : Bool} {sa sb : ByteArray} {z : Int} {s : Bool} {b : ByteArray}
/-- refused: nothing, and an error -/
def T2no (w : World) (cd : Int) (e : Ending) (w' : World) : Prop := e = .returned (.tuple #[.agg #[.bool false, .string ⟨#[]⟩], .int .i64 cd]) ∧ Below w.heap.size w w'
theorem add_bad (hm : ¬ May2 (na, sa) (nb, sb)) : Calls Try.prog 27 #[.agg #[.bool na, .string sa], .agg #[.bool nb, .string sb]] w (T2no w 2) := wadd_any.mono fun _ _ h => ⟨h.2.2.1 hm, h.2.2.2⟩
theorem sub_bad (hm : ¬ May2 (na, sa) (nb, sb)) : Calls Try.prog 28 #[.agg #[.bool na, .string sa], .agg #[.bool nb, .string sb]] w (T2no w 2) := wsub_any.mono fun _ _ h => ⟨h.2.2.1 hm, h.2.2.2⟩
theorem mul_bad (hm : ¬ May2 (na, sa) (nb, sb)) : Calls Try.prog 29 #[.agg #[.bool na, .string sa], .agg #[.bool nb, .string sb]] w (T2no w 2) := wmul_any.mono fun _ _ h => ⟨h.2.2.1 hm, h.2.2.2⟩
theorem cmp_bad (hm : ¬ May2 (na, sa) (nb, sb)) : Calls Try.prog 26 #[.agg #[.bool na, .string sa], .agg #[.bool nb, .string sb]] w (Calm w (.tuple #[.int .i64 0, .int .i64 2])) :=
  wcmp_any.mono fun _ _ h => ⟨h.2.1 hm, h.2.2⟩
theorem long_two : Calls Try.prog 12 #[.slice (some ⟨w.heap.size, 0, none⟩) 2 2] (w.alloc (.cells #[.bool na, .string sa, .bool nb, .string sb] 26)) (Calm (w.alloc (.cells #[.bool na, .string sa, .bool nb, .string sb] 26)) (.bool (isLong (na, sa) || isLong (nb, sb)))) := by
  have h := long_any (c := 2) (blk_pair (w := w) (na, sa) (nb, sb)) (by simp) (n := 2) rfl (by omega)
  rw [List.any_cons, List.any_cons, List.any_nil, Bool.or_false] at h
  exact h
theorem bad_two : Calls Try.prog 16 #[.slice (some ⟨w.heap.size, 0, none⟩) 2 2] (w.alloc (.cells #[.bool na, .string sa, .bool nb, .string sb] 26)) (Calm (w.alloc (.cells #[.bool na, .string sa, .bool nb, .string sb] 26)) (.bool (isBad (na, sa) || isBad (nb, sb)))) := by
  have h := bad_any (c := 2) (blk_pair (w := w) (na, sa) (nb, sb)) (by simp) (n := 2) rfl (by omega)
  rw [List.any_cons, List.any_cons, List.any_nil, Bool.or_false] at h
  exact h
theorem long_one : Calls Try.prog 12 #[.slice (some ⟨w.heap.size, 0, none⟩) 1 1] (w.alloc (.cells #[.bool na, .string sa] 26)) (Calm (w.alloc (.cells #[.bool na, .string sa] 26)) (.bool (isLong (na, sa)))) := by
  have h := long_any (c := 1) (blk_one (w := w) (na, sa)) (by simp) (n := 1) rfl (by omega)
  rw [List.any_cons, List.any_nil, Bool.or_false] at h
  exact h
theorem bad_one : Calls Try.prog 16 #[.slice (some ⟨w.heap.size, 0, none⟩) 1 1] (w.alloc (.cells #[.bool na, .string sa] 26)) (Calm (w.alloc (.cells #[.bool na, .string sa] 26)) (.bool (isBad (na, sa)))) := by
  have h := bad_any (c := 1) (blk_one (w := w) (na, sa)) (by simp) (n := 1) rfl (by omega)
  rw [List.any_cons, List.any_nil, Bool.or_false] at h
  exact h
theorem calm_eq {F : FuncId} {args : Array Value} {v v' : Value} (h : Calls Try.prog F args w (Calm w v)) (he : v = v') : Calls Try.prog F args w (Calm w v') := he ▸ h
theorem isBad_no {a : Bool × ByteArray} : isBad a = false ↔ MayL a.1 a.2.data.toList := by unfold isBad; rw [← mayB_iff, Bool.not_eq_false']
theorem isBad_yes {a : Bool × ByteArray} : isBad a = true ↔ ¬ MayL a.1 a.2.data.toList := by rw [← isBad_no, Bool.not_eq_false]
theorem short_of {a : Bool × ByteArray} (hl : isLong a = false) (hm : MayL a.1 a.2.data.toList) : a.2.size ≤ 400 := by
  unfold isLong at hl
  rw [mayB_iff.2 hm, Bool.and_true, decide_eq_false_iff_not] at hl
  omega
end
end Go.Proofs.Ytpnginnjbdedbaa

/- The reference's bits, Bits, Bit, Small, Of. -/
namespace Go.Proofs.Ytpnginnjbdedbaa
open Go.RowKit
open Wh
set_option linter.unusedSimpArgs false

theorem bl_half {x : Nat} (h : 0 < x) : bl x = bl (x / 2) + 1 := by
  have h1 := bl_le h
  have h2 := lt_bl x
  have h0 : 0 < bl x := by
    rcases Nat.eq_zero_or_pos (bl x) with h0 | h0
    · rw [h0] at h2; omega
    · exact h0
  obtain ⟨L, hL⟩ : ∃ L, bl x = L + 1 := ⟨bl x - 1, by omega⟩
  rw [hL, Nat.add_sub_cancel] at h1
  rw [hL, Nat.pow_succ] at h2
  rw [hL]
  rcases Nat.eq_zero_or_pos L with h3 | h3
  · subst h3
    have : x / 2 = 0 := by omega
    rw [this, bl_zero]
  · obtain ⟨M, rfl⟩ : ∃ M, L = M + 1 := ⟨L - 1, by omega⟩
    rw [Nat.pow_succ] at h1 h2
    rw [bl_eq (m := x / 2) (L := M) (by omega) (by rw [Nat.pow_succ]; omega)]
theorem bl_head {m p t : Nat} (hl : (wds m).length = p + 1) (ht : at_ (wds m) p = t) : bl m = 32 * p + bl t := by
  have htp : 0 < t := by rw [← ht]; exact last_pos hl
  have e := top_one (l := wds m) (p := p) hl
  rw [at_get (by omega)] at ht
  rw [val_w, ht] at e
  have hlo := low_lt (wd_w m) (p := p) (by omega)
  have hB : (4294967296 : Nat) ^ p = 2 ^ (32 * p) := by rw [show (4294967296 : Nat) = 2 ^ 32 by decide, ← Nat.pow_mul]
  rw [hB] at e hlo
  have h1 := bl_le htp
  have h2 := lt_bl t
  have h0 : 0 < bl t := by
    rcases Nat.eq_zero_or_pos (bl t) with h0 | h0
    · rw [h0] at h2; omega
    · exact h0
  obtain ⟨L, hL⟩ : ∃ L, bl t = L + 1 := ⟨bl t - 1, by omega⟩
  rw [hL, Nat.add_sub_cancel] at h1
  rw [hL] at h2
  rw [hL, bl_eq (m := m) (L := 32 * p + L) ?_ ?_]
  · omega
  · rw [Nat.pow_add]
    have h3 : 2 ^ (32 * p) * 2 ^ L ≤ 2 ^ (32 * p) * t := Nat.mul_le_mul_left _ h1
    rw [Nat.mul_comm _ t] at h3
    omega
  · rw [show 32 * p + L + 1 = 32 * p + (L + 1) by omega, Nat.pow_add]
    have h3 : 2 ^ (32 * p) * (t + 1) ≤ 2 ^ (32 * p) * 2 ^ (L + 1) := Nat.mul_le_mul_left _ h2
    rw [Nat.mul_comm _ (t + 1), Nat.add_mul, Nat.one_mul] at h3
    omega

set_option maxRecDepth 100000 in
set_option maxHeartbeats 2000000 in
theorem rbits_any {w : World} {B n c m : Nat} {A : Option Addr} (h : ReadsW w B A (wds m)) (hn : n = (wds m).length) (hnl : n ≤ 100000000) :
    Calls Try.prog 94 #[.slice A n c] w (fun e w' => e = .returned (.int .i64 ((bl m : Nat) : Int)) ∧ w = w') := by
  rcases Nat.eq_zero_or_pos n with h0 | h0
  · have hm : m = 0 := by
      have h1 : wds m = [] := List.eq_nil_of_length_eq_zero (by omega)
      rw [← val_w m, h1]; rfl
    rw [hm, bl_zero]
    clear h hn hnl hm
    subst h0
    go_enter Try.func94, Try.ntmps94
    go_wp2
    go_ret
    exact ⟨rfl, rfl⟩
  · obtain ⟨p, rfl⟩ : ∃ p, n = p + 1 := ⟨n - 1, by omega⟩
    obtain ⟨ad, rfl, hb1, c0⟩ := h.at_ (k := p) (by omega)
    rw [← at_get] at c0
    have hbm := bl_head hn.symm rfl
    have ht := at_lt (wd_w m) p
    generalize at_ (wds m) p = t at c0 hbm ht
    have hbt : bl t ≤ 32 := bl_lt.2 ht
    have ht2 : t ≤ 4294967295 := by omega
    rw [hbm]
    clear h hn hbm ht h0
    go_enter Try.func94, Try.ntmps94
    go_wp2_with fail
    go_loopg [3, 4] t (fun k nv xv wr => ∃ (j x : Nat), nv = .int .i64 (32 * (p : Int) + (j : Int)) ∧ xv = .int .u32 (x : Int) ∧ k = x ∧ x ≤ 4294967295 ∧ j ≤ 32 ∧ w = wr ∧ Hid (j + bl x = bl t))
    case atStart => exact ⟨0, t, by simp, rfl, rfl, ht2, by omega, rfl, Lib.hid (Nat.zero_add _)⟩
    case round =>
      obtain ⟨j, x, rfl, rfl, hk, hx, hj, rfl, hjx⟩ := hrel
      have Hk := Lib.hid hk
      clear hk
      rcases Nat.eq_zero_or_pos x with hx0 | hx0
      · subst hx0
        clear hx
        go_wp2_with fail
        go_ret
        refine ⟨?_, rfl⟩
        have h1 := hjx.out
        rw [bl_zero] at h1
        exact congrArg (fun v => Ending.returned (.int .i64 v)) (show 32 * (p : Int) + (j : Int) = ((32 * p + bl t : Nat) : Int) by omega)
      · have hxi : (0 : Int) < (x : Int) := by omega
        have hd : decide ((0 : Int) < (x : Int)) = true := decide_eq_true hxi
        have hh := bl_half hx0
        have Hh := Lib.hid hh
        have hj2 : j + 1 ≤ 32 := by have := hjx.out; omega
        clear hh
        go_wp2_with fail
        go_roundg (x / 2)
        case measure => have := Hk.out; omega
        case rel =>
          exact ⟨j + 1, x / 2, by first | rfl | (congr 1; omega), rfl, rfl, by omega, hj2, rfl, by show _ = _; have := hjx.out; have := Hh.out; omega⟩
set_option maxRecDepth 100000 in
theorem rBits_any {w : World} {na : Bool} {sa : ByteArray} (hf : Fmd sa) :
    Calls Try.prog 50 #[.agg #[.bool na, .string sa]] w (Calm w (.int .i64 ((bl (num (na, sa)).natAbs : Nat) : Int))) := by
  have E0 := Lib.hid (Env.new (Env.nil w) 26 #[.bool na, .string sa])
  have HA := Lib.hid (fun W : World => words_any (w := W) (by have := hf.2; omega) hf.1)
  rw [show (num (na, sa)).natAbs = bval sa.data.toList from sgn_abs _ _]
  have Hl := Lib.hid hf.len
  generalize bval sa.data.toList = m at *
  clear hf
  go_enter Try.func50, Try.ntmps50
  go_upto_region 1 with fail
  generalize (w.alloc (.cells #[.bool na, .string sa] 26)) = W1 at E0 ⊢
  have c1 := (Env.at_ E0.out 0 rfl).cell 1
  simp at c1
  go_wp2_with fail
  refine (HA.out _).mono ?_
  rintro e w2 ⟨A1, m1, c1, rfl, hm, hmc, hcl, hr, hb⟩
  have E2 := Lib.hid (E0.out.call hb)
  have HB := Lib.hid (rbits_any (c := c1) hr hm.out (by have := hm.out; have := Hl.out; omega))
  clear hb hr
  go_wp2_with fail
  refine HB.out.mono ?_
  rintro e w3 ⟨rfl, rfl⟩
  go_wp2_with fail
  go_ret
  exact ⟨rfl, E2.out.1⟩
theorem bit_int {u s : Nat} : ((u : Int) / 2 ^ s) % 2 = ((u / 2 ^ s % 2 : Nat) : Int) := by
  rw [Int.natCast_emod, Int.natCast_ediv, Int.natCast_pow]; rfl
theorem bit_w {u s : Nat} : wrap64 (((u : Int) / 2 ^ s).tmod 2) = ((u / 2 ^ s % 2 : Nat) : Int) := by
  rw [Int.tmod_eq_emod_of_nonneg (Int.ediv_nonneg (Int.natCast_nonneg _) (Int.le_of_lt (Int.pow_pos (by decide)))), bit_int]
  unfold wrap64
  omega
set_option maxRecDepth 100000 in
theorem rBit_any {w : World} {na : Bool} {sa : ByteArray} {i : Nat} (hf : Fmd sa) (hi : i ≤ 9223372036854775807) :
    Calls Try.prog 51 #[.agg #[.bool na, .string sa], .int .i64 (i : Int)] w (Calm w (.int .i64 (((num (na, sa)).natAbs / 2 ^ i % 2 : Nat) : Int))) := by
  have E0 := Lib.hid (Env.new (Env.nil w) 26 #[.bool na, .string sa])
  have HA := Lib.hid (fun W : World => words_any (w := W) (by have := hf.2; omega) hf.1)
  rw [show (num (na, sa)).natAbs = bval sa.data.toList from sgn_abs _ _]
  have Hl := Lib.hid hf.len
  generalize bval sa.data.toList = m at *
  clear hf
  rw [bit_word]
  have hu := at_lt (wd_w m) (i / 32)
  have hrt : ∀ (W : World) (A1 : Option Addr) (m1 c1 : Nat), ReadsW W W.heap.size A1 (wds m) → m1 = (wds m).length → Calls Try.prog 93 #[.slice A1 m1 c1, .int .i64 ((i : Int) / 32)] W (fun e w' => e = .returned (.int .u64 ((at_ (wds m) (i / 32) : Nat) : Int)) ∧ w' = W) := fun W A1 m1 c1 hr hm => by
    have := rat_any (c := c1) (i := i / 32) hr hm (wd_w m)
    rw [Int.natCast_ediv] at this
    exact this
  generalize at_ (wds m) (i / 32) = u at hrt hu ⊢
  have Hrt := Lib.hid hrt
  clear hrt
  have hq : ((u / 2 ^ (i % 32) % 2 : Nat) : Int) ≤ 1 := by omega
  have hq0 : (0 : Int) ≤ ((u / 2 ^ (i % 32) % 2 : Nat) : Int) := by omega
  go_enter Try.func51, Try.ntmps51
  go_upto_region 1 with fail
  generalize (w.alloc (.cells #[.bool na, .string sa] 26)) = W1 at E0 ⊢
  have c1 := (Env.at_ E0.out 0 rfl).cell 1
  simp at c1
  go_wp2_with fail
  refine (HA.out _).mono ?_
  rintro e w2 ⟨A1, m1, c1, rfl, hm, hmc, hcl, hr, hb⟩
  have E2 := Lib.hid (E0.out.call hb)
  have HB := Lib.hid (Hrt.out w2 A1 m1 c1 hr hm.out)
  clear hb hr
  go_wp2_with fail
  refine HB.out.mono ?_
  rintro e w3 ⟨rfl, rfl⟩
  go_wp2_with fail
  go_ret
  exact ⟨congrArg (fun v => Ending.returned (.int .i64 v)) bit_w, E2.out.1⟩
/-- two words are one number -/
theorem two_list (B : Nat) : ∀ l : List Nat, l.length ≤ 2 → at_ l 1 * B + at_ l 0 = at_ l 0 + B * at_ l 1
  | _, _ => by rw [Nat.mul_comm, Nat.add_comm]
theorem two_val : ∀ l : List Nat, l.length ≤ 2 → val l = at_ l 0 + 4294967296 * at_ l 1
  | [], _ => rfl
  | [x], _ => by
    have h0 : at_ [x] 0 = x := rfl
    have h1 : at_ [x] 1 = 0 := rfl
    rw [h0, h1, val_cons, val_nil]
  | [x, y], _ => by
    have h0 : at_ [x, y] 0 = x := rfl
    have h1 : at_ [x, y] 1 = y := rfl
    rw [h0, h1, val_cons, val_cons, val_nil, Nat.mul_zero, Nat.add_zero]
theorem two_at {m : Nat} (h : (wds m).length ≤ 2) : at_ (wds m) 1 * 4294967296 + at_ (wds m) 0 = m := by
  rw [two_list _ _ h, ← two_val _ h, val_w]
set_option maxRecDepth 100000 in
theorem rSmall_long {w : World} {na : Bool} {sa : ByteArray} (h : 8 < sa.size) :
    Calls Try.prog 46 #[.agg #[.bool na, .string sa]] w (Calm w (.tuple #[.int .i64 0, .bool false])) := by
  have hi : (8 : Int) < (sa.size : Int) := by omega
  have hd := decide_eq_true hi
  clear h
  go_enter Try.func46, Try.ntmps46
  go_wp2
  refine bodyPost_ret (v := .tuple #[.int .i64 0, .bool false]) (by simp [results, Try.results46, go_sem]) rfl ?_
  exact ⟨rfl, (Below.refl _ _).alloc (Nat.le_refl _) _⟩
set_option maxRecDepth 100000 in
set_option maxHeartbeats 2000000 in
theorem rSmall_short {w : World} {na : Bool} {sa : ByteArray} (h : sa.size ≤ 8) (hf : Fmd sa) :
    Calls Try.prog 46 #[.agg #[.bool na, .string sa]] w (fun e w' => ∃ y : Int, e = .returned (.tuple #[.int .i64 y, .bool (decide (-9223372036854775808 ≤ num (na, sa) ∧ num (na, sa) ≤ 9223372036854775807))]) ∧ (-9223372036854775808 ≤ num (na, sa) ∧ num (na, sa) ≤ 9223372036854775807 → y = num (na, sa)) ∧ Below w.heap.size w w') := by
  have hi : (sa.size : Int) ≤ 8 := by omega
  have hd : decide ((8 : Int) < (sa.size : Int)) = false := decide_eq_false (by omega)
  have E0 := Lib.hid (Env.new (Env.nil w) 26 #[.bool na, .string sa])
  have HA := Lib.hid (fun W : World => words_any (w := W) (by have := hf.2; omega) hf.1)
  have hl : (wds (bval sa.data.toList)).length ≤ 2 := by
    rw [words_len hf.1]
    have hl : sa.data.toList.length = sa.size := Array.length_toList
    omega
  unfold num
  dsimp only
  generalize bval sa.data.toList = m at *
  have htw := two_at hl
  have hu0 := at_lt (wd_w m) 0
  have hu1 := at_lt (wd_w m) 1
  have HR := Lib.hid (fun (W : World) (A1 : Option Addr) (m1 c1 : Nat) (hr : ReadsW W W.heap.size A1 (wds m)) (hm : m1 = (wds m).length) => And.intro (rat_any (c := c1) (i := 0) hr hm (wd_w m)) (rat_any (c := c1) (i := 1) hr hm (wd_w m)))
  generalize at_ (wds m) 0 = u0 at *
  generalize at_ (wds m) 1 = u1 at *
  have Htw := Lib.hid htw
  clear hf h hl htw
  have hq1 : (u1 : Int) * 4294967296 ≤ 18446744069414584320 := by omega
  have hq2 : (u1 : Int) * 4294967296 + (u0 : Int) ≤ 18446744073709551615 := by omega
  go_enter Try.func46, Try.ntmps46
  go_upto_region 1 with fail
  generalize (w.alloc (.cells #[.bool na, .string sa] 26)) = W1 at E0 ⊢
  have c1 := (Env.at_ E0.out 0 rfl).cell 1
  simp at c1
  go_wp2_with fail
  refine (HA.out _).mono ?_
  rintro e w2 ⟨A1, m1, c1, rfl, hm, hmc, hcl, hr, hb⟩
  have E2 := Lib.hid (E0.out.call hb)
  have HB := Lib.hid (HR.out w2 A1 m1 c1 hr hm.out)
  clear hb hr
  have d0 := (Env.at_ E2.out 0 rfl).cell 0
  simp at d0
  go_wp2_with fail
  refine HB.out.2.mono ?_
  rintro e w3 ⟨rfl, rfl⟩
  go_wp2_with fail
  refine HB.out.1.mono ?_
  rintro e w4 ⟨rfl, rfl⟩
  cases na
  · go_wp2_with fail
    refine bodyPost_ret (v := .tuple #[.int .i64 (wrap64 ((u1 : Int) * 4294967296 + (u0 : Int))), .bool (decide ((u1 : Int) * 4294967296 + (u0 : Int) < 9223372036854775808))]) (by simp [results, Try.results46, go_sem]) rfl ?_
    have h5 := Htw.out
    have h6 : sgn false m = (u1 : Int) * 4294967296 + (u0 : Int) := by rw [← h5]; unfold sgn; simp
    rw [h6]
    refine ⟨wrap64 ((u1 : Int) * 4294967296 + (u0 : Int)), ?_, fun h => by unfold wrap64; omega, E2.out.1⟩
    rw [show decide ((u1 : Int) * 4294967296 + (u0 : Int) < 9223372036854775808) = decide (-9223372036854775808 ≤ (u1 : Int) * 4294967296 + (u0 : Int) ∧ (u1 : Int) * 4294967296 + (u0 : Int) ≤ 9223372036854775807) from decide_eq_decide.2 (by omega)]
  · go_wp2_with fail
    refine bodyPost_ret (v := .tuple #[.int .i64 (wrap64 (IntKind.u64.wrap (-((u1 : Int) * 4294967296 + (u0 : Int))))), .bool (decide ((u1 : Int) * 4294967296 + (u0 : Int) ≤ 9223372036854775808))]) (by simp [results, Try.results46, go_sem]) rfl ?_
    have h5 := Htw.out
    have h6 : sgn true m = -((u1 : Int) * 4294967296 + (u0 : Int)) := by rw [← h5]; unfold sgn; simp
    rw [h6]
    refine ⟨wrap64 (IntKind.u64.wrap (-((u1 : Int) * 4294967296 + (u0 : Int)))), ?_, fun h => by rw [IntKind.wrap_u64]; unfold wrap64; omega, E2.out.1⟩
    rw [show decide ((u1 : Int) * 4294967296 + (u0 : Int) ≤ 9223372036854775808) = decide (-9223372036854775808 ≤ -((u1 : Int) * 4294967296 + (u0 : Int)) ∧ -((u1 : Int) * 4294967296 + (u0 : Int)) ≤ 9223372036854775807) from decide_eq_decide.2 (by omega)]
set_option maxRecDepth 100000 in
set_option maxHeartbeats 2000000 in
theorem rOf_any {w : World} {n : Int} (h1 : -9223372036854775808 ≤ n) (h2 : n ≤ 9223372036854775807) :
    Calls Try.prog 42 #[.int .i64 n] w (Calm w (enc n)) := by
  obtain ⟨m, hm⟩ : ∃ m, m = n.natAbs := ⟨_, rfl⟩
  have hmle : m ≤ 9223372036854775808 := by omega
  obtain ⟨s, b, he⟩ : ∃ s b, enc n = .agg #[.bool s, .string b] := ⟨_, _, rfl⟩
  rw [he]
  obtain ⟨y, hy⟩ : ∃ y, y = m / 4294967296 := ⟨_, rfl⟩
  obtain ⟨x, hx⟩ : ∃ x, x = m % 4294967296 := ⟨_, rfl⟩
  have hv : val [x, y] = m := by rw [val_cons, val_cons, val_nil]; omega
  have hwd : Wd [x, y] := by rw [wd_cons, wd_cons]; exact ⟨by omega, by omega, wd_nil⟩
  have HM := Lib.hid (fun W : World => made_any (w := W.alloc (.cells (wcells [x, y]) 98)) (neg := decide (n < 0)) (reads_blk (Blk.new W 98 (wcells [x, y])) (B := W.heap.size + 1) (by omega)) (by simp) rfl (Nat.le_refl _) (by simp) (by simp) hwd)
  rw [hv, hm, sgn_of, he] at HM
  have Hxy := Lib.hid (And.intro hx hy)
  have hx2 : x ≤ 4294967295 := by omega
  have hy2 : y ≤ 2147483648 := by omega
  have E0 := Lib.hid (Env.new (Env.nil w) 26 #[.bool false, .string ⟨#[]⟩])
  clear hv hwd hx hy he
  by_cases hn : n < 0
  · have hd : decide (n < 0) = true := decide_eq_true hn
    have e1 : IntKind.u64.wrap n = n + 18446744073709551616 := by rw [IntKind.wrap_u64]; omega
    have e2 : IntKind.u64.wrap (-(n + 18446744073709551616)) = (m : Int) := by rw [IntKind.wrap_u64]; omega
    rw [hd] at HM
    clear hm
    go_enter Try.func42, Try.ntmps42
    go_upto_region 4 with fail
    generalize (w.alloc (.cells #[.bool false, .string ⟨#[]⟩] 26)) = W1 at E0 ⊢
    go_wp2_with fail
    rw [show (m : Int) % 4294967296 = (x : Int) by have := Hxy.out.1; omega, show (m : Int) / 4294967296 = (y : Int) by have := Hxy.out.2; omega]
    refine (HM.out W1).mono ?_
    rintro e w2 ⟨rfl, h2⟩
    have E2 := Lib.hid ((Env.other E0.out (.cells (wcells [x, y]) 98)).call h2)
    clear h2
    have n4 := Env.at_ E2.out 0 rfl
    have y0 := n4.cell 0
    have y1 := n4.cell 1
    have y2 := n4.frozen 0
    have y3 := n4.frozen 1
    simp at y0 y1
    have n5 := (n4.set_ 0 (.bool s)).set_ 1 (.string b)
    have d0 := n5.cell 0
    have d1 := n5.cell 1
    simp at d0 d1
    have D := Lib.hid (And.intro d0 d1)
    clear n4 n5 d0 d1
    go_wp2_with fail
    refine bodyPost_ret (v := .agg #[.bool s, .string b]) (by simp [results, Try.results42, go_sem, D.out.1, D.out.2]) rfl ?_
    exact ⟨rfl, ((E2.out.1).setCell (Nat.le_refl _) _).setCell (Nat.le_refl _) _⟩
  · have hd : decide (n < 0) = false := decide_eq_false hn
    have e1 : IntKind.u64.wrap n = (m : Int) := by rw [IntKind.wrap_u64]; omega
    rw [hd] at HM
    clear hm
    go_enter Try.func42, Try.ntmps42
    go_upto_region 4 with fail
    generalize (w.alloc (.cells #[.bool false, .string ⟨#[]⟩] 26)) = W1 at E0 ⊢
    go_wp2_with fail
    rw [show (m : Int) % 4294967296 = (x : Int) by have := Hxy.out.1; omega, show (m : Int) / 4294967296 = (y : Int) by have := Hxy.out.2; omega]
    refine (HM.out W1).mono ?_
    rintro e w2 ⟨rfl, h2⟩
    have E2 := Lib.hid ((Env.other E0.out (.cells (wcells [x, y]) 98)).call h2)
    clear h2
    have n4 := Env.at_ E2.out 0 rfl
    have y0 := n4.cell 0
    have y1 := n4.cell 1
    have y2 := n4.frozen 0
    have y3 := n4.frozen 1
    simp at y0 y1
    have n5 := (n4.set_ 0 (.bool s)).set_ 1 (.string b)
    have d0 := n5.cell 0
    have d1 := n5.cell 1
    simp at d0 d1
    have D := Lib.hid (And.intro d0 d1)
    clear n4 n5 d0 d1
    go_wp2_with fail
    refine bodyPost_ret (v := .agg #[.bool s, .string b]) (by simp [results, Try.results42, go_sem, D.out.1, D.out.2]) rfl ?_
    exact ⟨rfl, ((E2.out.1).setCell (Nat.le_refl _) _).setCell (Nat.le_refl _) _⟩
end Go.Proofs.Ytpnginnjbdedbaa

/- Common contracts of WholeTells. -/
namespace Go.Proofs.Ytpnginnjbdedbaa
open Go.RowKit
open Wh
set_option linter.unusedSimpArgs false

section
variable {w : World} {na : Bool} {sa : ByteArray}
abbrev Ranged (z : Int) : Prop := -9223372036854775808 ≤ z ∧ z ≤ 9223372036854775807
theorem neg_bad (hm : ¬ MayL na sa.data.toList) : Calls Try.prog 37 #[.agg #[.bool na, .string sa]] w (T2no w 2) := wneg_any.mono fun _ _ h => ⟨h.2.2.1 hm, h.2.2.2⟩
theorem abs_bad (hm : ¬ MayL na sa.data.toList) : Calls Try.prog 38 #[.agg #[.bool na, .string sa]] w (T2no w 2) := wabs_any.mono fun _ _ h => ⟨h.2.2.1 hm, h.2.2.2⟩
theorem small_bad (hm : ¬ MayL na sa.data.toList) : Calls Try.prog 39 #[.agg #[.bool na, .string sa]] w (Calm w (.tuple #[.int .i64 0, .bool false])) := small_any.mono fun _ _ h => ⟨h.2.1 hm, h.2.2⟩
theorem small_in (hm : MayL na sa.data.toList) (hr : Ranged (num (na, sa))) : Calls Try.prog 39 #[.agg #[.bool na, .string sa]] w (Calm w (.tuple #[.int .i64 (num (na, sa)), .bool true])) := small_any.mono fun _ _ h => ⟨by rw [h.1 hm, if_pos hr], h.2.2⟩
theorem small_out (hm : MayL na sa.data.toList) (hr : ¬ Ranged (num (na, sa))) : Calls Try.prog 39 #[.agg #[.bool na, .string sa]] w (Calm w (.tuple #[.int .i64 0, .bool false])) := small_any.mono fun _ _ h => ⟨by rw [h.1 hm, if_neg hr], h.2.2⟩
theorem sign_bad (hm : ¬ MayL na sa.data.toList) : Calls Try.prog 44 #[.agg #[.bool na, .string sa]] w (Calm w (.int .i64 0)) := wsign_any.mono fun _ _ h => ⟨h.2.1 hm, h.2.2⟩
theorem bits_bad (hm : ¬ MayL na sa.data.toList) : Calls Try.prog 45 #[.agg #[.bool na, .string sa]] w (Calm w (.int .i64 0)) := bits_any.mono fun _ _ h => ⟨h.2.1 hm, h.2.2⟩
theorem bits_told (hm : MayL na sa.data.toList) : Calls Try.prog 45 #[.agg #[.bool na, .string sa]] w (Calm w (.int .i64 ((bl (num (na, sa)).natAbs : Nat) : Int))) := bits_any.mono fun _ _ h => ⟨h.1 hm, h.2.2⟩
theorem bit_no {i : Int} (hi : i ≤ 9223372036854775807) (h : ¬ (MayL na sa.data.toList ∧ 0 ≤ i)) : Calls Try.prog 40 #[.agg #[.bool na, .string sa], .int .i64 i] w (Calm w (.tuple #[.int .i64 0, .int .i64 2])) := (bit_of hi).mono fun _ _ h' => ⟨h'.2.1 h, h'.2.2⟩
theorem bit_told {i : Nat} (hi : i ≤ 9223372036854775807) (hm : MayL na sa.data.toList) : Calls Try.prog 40 #[.agg #[.bool na, .string sa], .int .i64 (i : Int)] w (Calm w (.tuple #[.int .i64 (((num (na, sa)).natAbs / 2 ^ i % 2 : Nat) : Int), .int .i64 0])) :=
  (bit_of (by omega)).mono fun _ _ h' => ⟨h'.1 ⟨hm, Int.natCast_nonneg _⟩, h'.2.2⟩
theorem num_len (hf : Fmd sa) (h : 8 < sa.size) : ¬ Ranged (num (na, sa)) := by
  have hl : sa.data.toList.length = sa.size := Array.length_toList
  have h1 : 256 ^ 8 ≤ bval sa.data.toList := by
    rcases Nat.lt_or_ge (bval sa.data.toList) (256 ^ 8) with h2 | h2
    · exfalso
      have h3 := bys_len h2
      rw [bys_bval _ _ rfl hf.1] at h3
      omega
    · exact h2
  have h2 : (num (na, sa)).natAbs = bval sa.data.toList := sgn_abs _ _
  rintro ⟨h3, h4⟩
  have h5 : (256 : Nat) ^ 8 = 18446744073709551616 := by decide
  omega
theorem rsmall_in (hf : Fmd sa) (hr : Ranged (num (na, sa))) : Calls Try.prog 46 #[.agg #[.bool na, .string sa]] w (Calm w (.tuple #[.int .i64 (num (na, sa)), .bool true])) := by
  rcases Nat.lt_or_ge 8 sa.size with h | h
  · exact absurd hr (num_len hf h)
  · refine (rSmall_short h hf).mono ?_
    rintro e w' ⟨y, he, hy, hb⟩
    exact ⟨by rw [he, hy hr, decide_eq_true hr], hb⟩
theorem rsmall_out (hf : Fmd sa) (hr : ¬ Ranged (num (na, sa))) : Calls Try.prog 46 #[.agg #[.bool na, .string sa]] w (fun e w' => ∃ y : Int, e = .returned (.tuple #[.int .i64 y, .bool false]) ∧ Below w.heap.size w w') := by
  rcases Nat.lt_or_ge 8 sa.size with h | h
  · exact (rSmall_long h).mono fun e w' ⟨he, hb⟩ => ⟨0, he, hb⟩
  · refine (rSmall_short h hf).mono ?_
    rintro e w' ⟨y, he, hy, hb⟩
    exact ⟨y, by rw [he, show decide (-9223372036854775808 ≤ num (na, sa) ∧ num (na, sa) ≤ 9223372036854775807) = false from decide_eq_false hr], hb⟩
end
end Go.Proofs.Ytpnginnjbdedbaa
