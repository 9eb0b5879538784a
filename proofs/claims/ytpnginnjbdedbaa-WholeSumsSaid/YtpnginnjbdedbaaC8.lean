import Derived.Test.YtpnginnjbdedbaaC7
/- The reference's Plus, Minus, Times, Cmp (printed by gen_rops.py). -/
namespace Go.Proofs.Ytpnginnjbdedbaa
open Go.RowKit
open Wh
set_option linter.unusedSimpArgs false

theorem Env.set_ {w0 W : World} {l : List (Nat × TypeId × Array Value)} (h : Env w0 W l) {g j : Nat} (v : Value) (hg : w0.heap.size ≤ g) (hne : ∀ x ∈ l, x.1 ≠ g) : Env w0 (W.setCell ⟨g, j, none⟩ v) l :=
  ⟨h.1.setCell hg _, fun x hx => (h.2 x hx).far (p := ⟨g, j, none⟩) (hne x hx) v⟩
theorem len_sumN {a b p : Nat} (ha : (wds a).length ≤ p) (hb : (wds b).length ≤ p) : (wds (a + b)).length ≤ p + 1 := by
  refine len_wds ?_
  have h1 := lt_of_len ha
  have h2 := lt_of_len hb
  rw [Nat.pow_succ]
  have : 0 < 4294967296 ^ p := Nat.pow_pos (by decide)
  omega
theorem sgn_mulB {na nb : Bool} {a b : Nat} : sgn (na != nb) (a * b) = sgn na a * sgn nb b := by
  unfold sgn
  cases na <;> cases nb <;> simp [Int.neg_mul, Int.mul_neg]
theorem sgn_add {n : Bool} {a b : Nat} : sgn n (a + b) = sgn n a + sgn n b := by
  unfold sgn
  cases n <;> simp <;> omega
theorem sgn_sub {na nb : Bool} {a b : Nat} (h : na ≠ nb) (hle : b ≤ a) : sgn na (a - b) = sgn na a + sgn nb b := by
  unfold sgn
  cases na <;> cases nb <;> simp at h ⊢ <;> omega
theorem sgn_sub' {na nb : Bool} {a b : Nat} (h : na ≠ nb) (hle : a ≤ b) : sgn nb (b - a) = sgn na a + sgn nb b := by
  rw [sgn_sub (fun h0 => h h0.symm) hle, Int.add_comm]
set_option maxRecDepth 100000 in
set_option maxHeartbeats 4000000 in
theorem rtimes_any {w : World} {na nb : Bool} {sa sb : ByteArray} (ha : Fmd sa) (hb : Fmd sb) :
    Calls Try.prog 32 #[.agg #[.bool na, .string sa], .agg #[.bool nb, .string sb]] w (Calm w (enc (num (na, sa) * num (nb, sb)))) := by
  obtain ⟨zs, zb, ez⟩ : ∃ s b, enc (num (na, sa) * num (nb, sb)) = .agg #[.bool s, .string b] := ⟨_, _, rfl⟩
  have HA := Lib.hid (fun W : World => words_any (w := W) (by have := ha.2; omega) ha.1)
  have HB := Lib.hid (fun W : World => words_any (w := W) (by have := hb.2; omega) hb.1)
  have Hla := Lib.hid (And.intro ha.len hb.len)
  have Hab := Lib.hid (And.intro ha hb)
  obtain ⟨a, hae⟩ : ∃ a, a = bval sa.data.toList := ⟨_, rfl⟩
  obtain ⟨b, hbe⟩ : ∃ b, b = bval sb.data.toList := ⟨_, rfl⟩
  rw [← hae] at HA
  rw [← hbe] at HB
  rw [← hae, ← hbe] at Hla
  have Hnum := Lib.hid (show num (na, sa) = sgn na a ∧ num (nb, sb) = sgn nb b from ⟨by rw [hae]; rfl, by rw [hbe]; rfl⟩)
  (try rw [← hae, ← hbe])
  clear hae hbe ha hb
  have E0 := Lib.hid (Env.nil w)
  go_enter Try.func32, Try.ntmps32
  go_upto_region 1 with fail
  have E1 : Hid (Env w (((w.alloc (.cells #[.bool na, .string sa] 26)).alloc (.cells #[.bool nb, .string sb] 26)).alloc (.cells #[.bool false, .string ⟨#[]⟩] 26)) [(w.heap.size + 1 + 1, 26, #[.bool false, .string ⟨#[]⟩]), (w.heap.size + 1, 26, #[.bool nb, .string sb]), (w.heap.size, 26, #[.bool na, .string sa])]) := Lib.hid (by have h := (Env.new (Env.new (Env.new E0.out 26 #[.bool na, .string sa]) 26 #[.bool nb, .string sb]) 26 #[.bool false, .string ⟨#[]⟩]); (try simp only [World.size_alloc] at h); exact h)
  generalize (((w.alloc (.cells #[.bool na, .string sa] 26)).alloc (.cells #[.bool nb, .string sb] 26)).alloc (.cells #[.bool false, .string ⟨#[]⟩] 26)) = W1 at E1 ⊢
  have Cf1 := Lib.hid (fun (W : World) (h : Env w W [(w.heap.size + 1 + 1, 26, #[.bool false, .string ⟨#[]⟩]), (w.heap.size + 1, 26, #[.bool nb, .string sb]), (w.heap.size, 26, #[.bool na, .string sa])]) => (show W.cell? ⟨w.heap.size, 0, none⟩ = some (.bool na) ∧ W.cell? ⟨w.heap.size, 1, none⟩ = some (.string sa) ∧ W.cell? ⟨w.heap.size + 1, 0, none⟩ = some (.bool nb) ∧ W.cell? ⟨w.heap.size + 1, 1, none⟩ = some (.string sb) from ⟨(Env.at_ h 2 rfl).cell 0, (Env.at_ h 2 rfl).cell 1, (Env.at_ h 1 rfl).cell 0, (Env.at_ h 1 rfl).cell 1⟩))
  refine wp_region_noPanic ?_
  refine wp_region_HK (fun w' => w'.cell? ⟨w.heap.size, 0, none⟩ = some (.bool na) ∧ w'.cell? ⟨w.heap.size, 1, none⟩ = some (.string sa) ∧ w'.cell? ⟨w.heap.size + 1, 0, none⟩ = some (.bool nb) ∧ w'.cell? ⟨w.heap.size + 1, 1, none⟩ = some (.string sb)) 13 (by kernel_rfl) (Cf1.out _ E1.out.drew) (fun hHeld => ?_)
  refine wpHK_pure (i := 0) (oi := Oper.mk (some 5) _ _ _ _ _) (v := ?_) rfl (by kernel_rfl) (by kernel_rfl) (by kernel_rfl) (fun _ _ _ h => h) (Or.inl ⟨by rfl, ?_⟩) ?_
  rotate_left
  · (intro w' _; go_simp; try with_reducible rfl)
  try simp only [Act.put, List.setIfInBounds_toArray, List.set_cons_zero, List.set_cons_succ]
  refine wpHK_pure (i := 2) (oi := Oper.mk (some 7) _ _ _ _ _) (v := ?_) rfl (by kernel_rfl) (by kernel_rfl) (by kernel_rfl) (fun _ _ _ h => h) (Or.inl ⟨by rfl, ?_⟩) ?_
  rotate_left
  · (intro w' _; go_simp; try with_reducible rfl)
  try simp only [Act.put, List.setIfInBounds_toArray, List.set_cons_zero, List.set_cons_succ]
  refine wpHK_pure (i := 5) (oi := Oper.mk (some 10) _ _ _ _ _) (v := ?_) rfl (by kernel_rfl) (by kernel_rfl) (by kernel_rfl) (fun _ _ _ h => h) (Or.inl ⟨by rfl, ?_⟩) ?_
  rotate_left
  · (intro w' _; go_simp; try with_reducible rfl)
  try simp only [Act.put, List.setIfInBounds_toArray, List.set_cons_zero, List.set_cons_succ]
  refine wpHK_pure (i := 8) (oi := Oper.mk (some 13) _ _ _ _ _) (v := ?_) rfl (by kernel_rfl) (by kernel_rfl) (by kernel_rfl) (fun _ _ _ h => h) (Or.inl ⟨by rfl, ?_⟩) ?_
  rotate_left
  · (intro w' _; go_simp; try with_reducible rfl)
  try simp only [Act.put, List.setIfInBounds_toArray, List.set_cons_zero, List.set_cons_succ]
  refine wpHK_take (i := 1) (oi := Oper.mk (some 6) _ _ _ _ _) (v := ?_) rfl (by kernel_rfl) (by kernel_rfl) (by kernel_rfl) (by kernel_rfl) (fun _ _ _ h => h) (Or.inl ⟨by rfl, ?_⟩) (by assumption) ?_
  rotate_left
  · (intro w' hSw; (try dsimp only at hSw); (obtain ⟨s0, s1, s2, s3⟩ := hSw); go_simp; try with_reducible rfl)
  try simp only [Act.put, List.setIfInBounds_toArray, List.set_cons_zero, List.set_cons_succ]
  refine wpHK_take (i := 3) (oi := Oper.mk (some 8) _ _ _ _ _) (v := ?_) rfl (by kernel_rfl) (by kernel_rfl) (by kernel_rfl) (by kernel_rfl) (fun _ _ _ h => h) (Or.inl ⟨by rfl, ?_⟩) (by assumption) ?_
  rotate_left
  · (intro w' hSw; (try dsimp only at hSw); (obtain ⟨s0, s1, s2, s3⟩ := hSw); go_simp; try with_reducible rfl)
  try simp only [Act.put, List.setIfInBounds_toArray, List.set_cons_zero, List.set_cons_succ]
  refine wpHK_pure (i := 4) (oi := Oper.mk (some 9) _ _ _ _ _) (v := ?_) rfl (by kernel_rfl) (by kernel_rfl) (by kernel_rfl) (fun _ _ _ h => h) (Or.inl ⟨by rfl, ?_⟩) ?_
  rotate_left
  · (intro w' _; go_simp; try with_reducible rfl)
  try simp only [Act.put, List.setIfInBounds_toArray, List.set_cons_zero, List.set_cons_succ]
  refine wpHK_take (i := 6) (oi := Oper.mk (some 11) _ _ _ _ _) (v := ?_) rfl (by kernel_rfl) (by kernel_rfl) (by kernel_rfl) (by kernel_rfl) (fun _ _ _ h => h) (Or.inl ⟨by rfl, ?_⟩) (by assumption) ?_
  rotate_left
  · (intro w' hSw; (try dsimp only at hSw); (obtain ⟨s0, s1, s2, s3⟩ := hSw); go_simp; try with_reducible rfl)
  try simp only [Act.put, List.setIfInBounds_toArray, List.set_cons_zero, List.set_cons_succ]
  refine wpHK_take (i := 9) (oi := Oper.mk (some 14) _ _ _ _ _) (v := ?_) rfl (by kernel_rfl) (by kernel_rfl) (by kernel_rfl) (by kernel_rfl) (fun _ _ _ h => h) (Or.inl ⟨by rfl, ?_⟩) (by assumption) ?_
  rotate_left
  · (intro w' hSw; (try dsimp only at hSw); (obtain ⟨s0, s1, s2, s3⟩ := hSw); go_simp; try with_reducible rfl)
  try simp only [Act.put, List.setIfInBounds_toArray, List.set_cons_zero, List.set_cons_succ]
  refine wpHK_one (j := 7) (o := Oper.mk (some 12) _ _ _ _ _) rfl (by kernel_rfl) (fun K hK => ?_)
  go_simp
  refine (HA.out _).mono ?_
  rintro e V1 ⟨A1, m1, c1, rfl, hm, hmc, hcl, hr, hb⟩
  have F1 := Lib.hid (Env.call E1.out.drew hb)
  have R1 := Lib.hid (And.intro hm.out (And.intro hmc (And.intro hcl hr)))
  have hbl := Lib.hid hb
  clear hm hmc hcl hr hb
  refine hK.out _ _ (Cf1.out _ F1.out) (fun _ => ?_)
  clear hK K hHeld
  have hHeld := (Cf1.out _ F1.out)
  try simp only [Act.put, List.setIfInBounds_toArray, List.set_cons_zero, List.set_cons_succ]
  refine wpHK_one (j := 10) (o := Oper.mk (some 15) _ _ _ _ _) rfl (by kernel_rfl) (fun K hK => ?_)
  go_simp
  refine (HB.out _).mono ?_
  rintro e V2 ⟨A2, m2, c2, rfl, hm, hmc, hcl, hr, hb⟩
  have F2 := Lib.hid (Env.call F1.out hb)
  have R2 := Lib.hid (And.intro hm.out (And.intro hmc (And.intro hcl hr)))
  have hbl := Lib.hid hb
  clear hm hmc hcl hr hb
  have R1' := Lib.hid (And.intro R1.out.1 (And.intro R1.out.2.1 (And.intro R1.out.2.2.1 ((R1.out.2.2.2.below hbl.out).more hbl.out.size))))
  clear R1 hbl
  have R1 := R1'
  clear R1'
  refine hK.out _ _ (Cf1.out _ F2.out) (fun _ => ?_)
  clear hK K hHeld
  have hHeld := (Cf1.out _ F2.out)
  try simp only [Act.put, List.setIfInBounds_toArray, List.set_cons_zero, List.set_cons_succ]
  refine wpHK_one (j := 11) (o := Oper.mk (some 16) _ _ _ _ _) rfl (by kernel_rfl) (fun K hK => ?_)
  go_simp
  refine (rproduct_any R1.out.2.2.2 R2.out.2.2.2 (Nat.le_refl _) R1.out.1 R2.out.1 (by have := R1.out.1; have := Hla.out.1; omega) (by have := R2.out.1; have := Hla.out.2; omega) (wd_w _) (wd_w _)).mono ?_
  rintro e V3 ⟨A3, m3, c3, rfl, hm, hmc, hcl, hr, hb⟩
  simp only [val_w] at hm hr
  have F3 := Lib.hid (Env.call F2.out hb)
  have R3 := Lib.hid (And.intro hm.out (And.intro hmc (And.intro hcl hr)))
  clear hm hmc hcl hr hb
  refine hK.out _ _ (Cf1.out _ F3.out) (fun _ => ?_)
  clear hK K hHeld
  have hHeld := (Cf1.out _ F3.out)
  try simp only [Act.put, List.setIfInBounds_toArray, List.set_cons_zero, List.set_cons_succ]
  refine wpHK_one (j := 12) (o := Oper.mk (some 17) _ _ _ _ _) rfl (by kernel_rfl) (fun K hK => ?_)
  go_simp
  have HM := made_any (w := _) (neg := (na != nb)) R3.out.2.2.2 (Nat.le_refl _) R3.out.1 R3.out.2.1 R3.out.2.2.1 (by have := R3.out.1; have := len_mul Hla.out.1 Hla.out.2; omega) (wd_w _)
  rw [val_w, sgn_mulB, ← Hnum.out.1, ← Hnum.out.2, ez] at HM
  refine HM.mono ?_
  rintro e V4 ⟨rfl, hb⟩
  have F4 := Lib.hid (Env.call F3.out hb)
  clear hb HM
  refine hK.out _ _ (Cf1.out _ F4.out) (fun _ => ?_)
  clear hK K hHeld
  have hHeld := (Cf1.out _ F4.out)
  try simp only [Act.put, List.setIfInBounds_toArray, List.set_cons_zero, List.set_cons_succ]
  refine wpHK_tail (j := 13) (o := Oper.mk (none) _ _ _ _ _) rfl (by kernel_rfl) (by decide) (fun K hK => ?_)
  have n4 := Env.at_ F4.out 0 rfl
  have y0 := n4.cell 0
  have y1 := n4.cell 1
  have y2 := n4.frozen 0
  have y3 := n4.frozen 1
  simp at y0 y1
  go_simp
  refine hK.out _ _ ?_
  clear hK K
  try simp only [Act.put, List.setIfInBounds_toArray, List.set_cons_zero, List.set_cons_succ]
  refine wpHK_done (by kernel_rfl) ?_ _
  refine NoPanic.normal ?_
  go_wp2_with fail
  have n5 := ((Env.at_ F4.out 0 rfl).set_ 0 (.bool zs)).set_ 1 (.string zb)
  have d0 := n5.cell 0
  have d1 := n5.cell 1
  simp at d0 d1
  refine bodyPost_ret (v := .agg #[.bool zs, .string zb]) (by simp [results, Try.results32, go_sem, d0, d1]) rfl ?_
  exact ⟨by rw [ez], ((F4.out.1).setCell (by show w.heap.size ≤ w.heap.size + 1 + 1; omega) _).setCell (by show w.heap.size ≤ w.heap.size + 1 + 1; omega) _⟩
set_option maxRecDepth 100000 in
set_option maxHeartbeats 4000000 in
theorem rplus_same {w : World} {na nb : Bool} {sa sb : ByteArray} (ha : Fmd sa) (hb : Fmd sb) (hs : na = nb) :
    Calls Try.prog 17 #[.agg #[.bool na, .string sa], .agg #[.bool nb, .string sb]] w (Calm w (enc (num (na, sa) + num (nb, sb)))) := by
  obtain ⟨zs, zb, ez⟩ : ∃ s b, enc (num (na, sa) + num (nb, sb)) = .agg #[.bool s, .string b] := ⟨_, _, rfl⟩
  have HA := Lib.hid (fun W : World => words_any (w := W) (by have := ha.2; omega) ha.1)
  have HB := Lib.hid (fun W : World => words_any (w := W) (by have := hb.2; omega) hb.1)
  have Hla := Lib.hid (And.intro ha.len hb.len)
  have Hab := Lib.hid (And.intro ha hb)
  obtain ⟨a, hae⟩ : ∃ a, a = bval sa.data.toList := ⟨_, rfl⟩
  obtain ⟨b, hbe⟩ : ∃ b, b = bval sb.data.toList := ⟨_, rfl⟩
  rw [← hae] at HA
  rw [← hbe] at HB
  rw [← hae, ← hbe] at Hla
  have Hnum := Lib.hid (show num (na, sa) = sgn na a ∧ num (nb, sb) = sgn nb b from ⟨by rw [hae]; rfl, by rw [hbe]; rfl⟩)
  (try rw [← hae, ← hbe])
  clear hae hbe ha hb
  have E0 := Lib.hid (Env.nil w)
  go_enter Try.func17, Try.ntmps17
  subst hs
  go_upto_region 1 with fail
  have E1 : Hid (Env w (((w.alloc (.cells #[.bool na, .string sa] 26)).alloc (.cells #[.bool na, .string sb] 26)).alloc (.cells #[.bool false, .string ⟨#[]⟩] 26)) [(w.heap.size + 1 + 1, 26, #[.bool false, .string ⟨#[]⟩]), (w.heap.size + 1, 26, #[.bool na, .string sb]), (w.heap.size, 26, #[.bool na, .string sa])]) := Lib.hid (by have h := (Env.new (Env.new (Env.new E0.out 26 #[.bool na, .string sa]) 26 #[.bool na, .string sb]) 26 #[.bool false, .string ⟨#[]⟩]); (try simp only [World.size_alloc] at h); exact h)
  generalize (((w.alloc (.cells #[.bool na, .string sa] 26)).alloc (.cells #[.bool na, .string sb] 26)).alloc (.cells #[.bool false, .string ⟨#[]⟩] 26)) = W1 at E1 ⊢
  have Cf1 := Lib.hid (fun (W : World) (h : Env w W [(w.heap.size + 1 + 1, 26, #[.bool false, .string ⟨#[]⟩]), (w.heap.size + 1, 26, #[.bool na, .string sb]), (w.heap.size, 26, #[.bool na, .string sa])]) => (show W.cell? ⟨w.heap.size, 0, none⟩ = some (.bool na) ∧ W.cell? ⟨w.heap.size, 1, none⟩ = some (.string sa) ∧ W.cell? ⟨w.heap.size + 1, 0, none⟩ = some (.bool na) ∧ W.cell? ⟨w.heap.size + 1, 1, none⟩ = some (.string sb) from ⟨(Env.at_ h 2 rfl).cell 0, (Env.at_ h 2 rfl).cell 1, (Env.at_ h 1 rfl).cell 0, (Env.at_ h 1 rfl).cell 1⟩))
  refine wp_region_noPanic ?_
  refine wp_region_HK (fun w' => w'.cell? ⟨w.heap.size, 0, none⟩ = some (.bool na) ∧ w'.cell? ⟨w.heap.size, 1, none⟩ = some (.string sa) ∧ w'.cell? ⟨w.heap.size + 1, 0, none⟩ = some (.bool na) ∧ w'.cell? ⟨w.heap.size + 1, 1, none⟩ = some (.string sb)) 6 (by kernel_rfl) (Cf1.out _ E1.out.drew) (fun hHeld => ?_)
  refine wpHK_pure (i := 0) (oi := Oper.mk (some 7) _ _ _ _ _) (v := ?_) rfl (by kernel_rfl) (by kernel_rfl) (by kernel_rfl) (fun _ _ _ h => h) (Or.inl ⟨by rfl, ?_⟩) ?_
  rotate_left
  · (intro w' _; go_simp; try with_reducible rfl)
  try simp only [Act.put, List.setIfInBounds_toArray, List.set_cons_zero, List.set_cons_succ]
  refine wpHK_pure (i := 3) (oi := Oper.mk (some 10) _ _ _ _ _) (v := ?_) rfl (by kernel_rfl) (by kernel_rfl) (by kernel_rfl) (fun _ _ _ h => h) (Or.inl ⟨by rfl, ?_⟩) ?_
  rotate_left
  · (intro w' _; go_simp; try with_reducible rfl)
  try simp only [Act.put, List.setIfInBounds_toArray, List.set_cons_zero, List.set_cons_succ]
  refine wpHK_take (i := 1) (oi := Oper.mk (some 8) _ _ _ _ _) (v := ?_) rfl (by kernel_rfl) (by kernel_rfl) (by kernel_rfl) (by kernel_rfl) (fun _ _ _ h => h) (Or.inl ⟨by rfl, ?_⟩) (by assumption) ?_
  rotate_left
  · (intro w' hSw; (try dsimp only at hSw); (obtain ⟨s0, s1, s2, s3⟩ := hSw); go_simp; try with_reducible rfl)
  try simp only [Act.put, List.setIfInBounds_toArray, List.set_cons_zero, List.set_cons_succ]
  refine wpHK_take (i := 4) (oi := Oper.mk (some 11) _ _ _ _ _) (v := ?_) rfl (by kernel_rfl) (by kernel_rfl) (by kernel_rfl) (by kernel_rfl) (fun _ _ _ h => h) (Or.inl ⟨by rfl, ?_⟩) (by assumption) ?_
  rotate_left
  · (intro w' hSw; (try dsimp only at hSw); (obtain ⟨s0, s1, s2, s3⟩ := hSw); go_simp; try with_reducible rfl)
  try simp only [Act.put, List.setIfInBounds_toArray, List.set_cons_zero, List.set_cons_succ]
  refine wpHK_one (j := 2) (o := Oper.mk (some 9) _ _ _ _ _) rfl (by kernel_rfl) (fun K hK => ?_)
  go_simp
  refine (HA.out _).mono ?_
  rintro e V1 ⟨A1, m1, c1, rfl, hm, hmc, hcl, hr, hb⟩
  have F1 := Lib.hid (Env.call E1.out.drew hb)
  have R1 := Lib.hid (And.intro hm.out (And.intro hmc (And.intro hcl hr)))
  have hbl := Lib.hid hb
  clear hm hmc hcl hr hb
  refine hK.out _ _ (Cf1.out _ F1.out) (fun _ => ?_)
  clear hK K hHeld
  have hHeld := (Cf1.out _ F1.out)
  try simp only [Act.put, List.setIfInBounds_toArray, List.set_cons_zero, List.set_cons_succ]
  refine wpHK_one (j := 5) (o := Oper.mk (some 12) _ _ _ _ _) rfl (by kernel_rfl) (fun K hK => ?_)
  go_simp
  refine (HB.out _).mono ?_
  rintro e V2 ⟨A2, m2, c2, rfl, hm, hmc, hcl, hr, hb⟩
  have F2 := Lib.hid (Env.call F1.out hb)
  have R2 := Lib.hid (And.intro hm.out (And.intro hmc (And.intro hcl hr)))
  have hbl := Lib.hid hb
  clear hm hmc hcl hr hb
  have R1' := Lib.hid (And.intro R1.out.1 (And.intro R1.out.2.1 (And.intro R1.out.2.2.1 ((R1.out.2.2.2.below hbl.out).more hbl.out.size))))
  clear R1 hbl
  have R1 := R1'
  clear R1'
  refine hK.out _ _ (Cf1.out _ F2.out) (fun _ => ?_)
  clear hK K hHeld
  have hHeld := (Cf1.out _ F2.out)
  try simp only [Act.put, List.setIfInBounds_toArray, List.set_cons_zero, List.set_cons_succ]
  refine wpHK_pure (i := 6) (oi := Oper.mk (some 5) _ _ _ _ _) (v := ?_) rfl (by kernel_rfl) (by kernel_rfl) (by kernel_rfl) (fun _ _ _ h => h) (Or.inl ⟨by rfl, ?_⟩) ?_
  rotate_left
  · (intro w' _; go_simp; try with_reducible rfl)
  try simp only [Act.put, List.setIfInBounds_toArray, List.set_cons_zero, List.set_cons_succ]
  refine wpHK_pure (i := 7) (oi := Oper.mk (some 6) _ _ _ _ _) (v := ?_) rfl (by kernel_rfl) (by kernel_rfl) (by kernel_rfl) (fun _ _ _ h => h) (Or.inl ⟨by rfl, ?_⟩) ?_
  rotate_left
  · (intro w' _; go_simp; try with_reducible rfl)
  try simp only [Act.put, List.setIfInBounds_toArray, List.set_cons_zero, List.set_cons_succ]
  refine wpHK_done (by kernel_rfl) ?_ _
  refine NoPanic.normal ?_
  have q0 := (Env.at_ F2.out 2 rfl).cell 0
  have q1 := (Env.at_ F2.out 1 rfl).cell 0
  simp at q0 q1
  go_upto_region 3 with fail
  clear q0 q1
  have Cf3 := Lib.hid (fun (W : World) (h : Env w W [(w.heap.size + 1 + 1, 26, #[.bool false, .string ⟨#[]⟩]), (w.heap.size + 1, 26, #[.bool na, .string sb]), (w.heap.size, 26, #[.bool na, .string sa])]) => (show W.cell? ⟨w.heap.size, 0, none⟩ = some (.bool na) ∧ W.cell? ⟨w.heap.size, 1, none⟩ = some (.string sa) ∧ W.cell? ⟨w.heap.size + 1, 0, none⟩ = some (.bool na) ∧ W.cell? ⟨w.heap.size + 1, 1, none⟩ = some (.string sb) from ⟨(Env.at_ h 2 rfl).cell 0, (Env.at_ h 2 rfl).cell 1, (Env.at_ h 1 rfl).cell 0, (Env.at_ h 1 rfl).cell 1⟩))
  refine wp_region_noPanic ?_
  refine wp_region_HK (fun w' => w'.cell? ⟨w.heap.size, 0, none⟩ = some (.bool na) ∧ w'.cell? ⟨w.heap.size, 1, none⟩ = some (.string sa) ∧ w'.cell? ⟨w.heap.size + 1, 0, none⟩ = some (.bool na) ∧ w'.cell? ⟨w.heap.size + 1, 1, none⟩ = some (.string sb)) 6 (by kernel_rfl) (Cf3.out _ F2.out.drew) (fun hHeld => ?_)
  refine wpHK_pure (i := 0) (oi := Oper.mk (some 18) _ _ _ _ _) (v := ?_) rfl (by kernel_rfl) (by kernel_rfl) (by kernel_rfl) (fun _ _ _ h => h) (Or.inl ⟨by rfl, ?_⟩) ?_
  rotate_left
  · (intro w' _; go_simp; try with_reducible rfl)
  try simp only [Act.put, List.setIfInBounds_toArray, List.set_cons_zero, List.set_cons_succ]
  refine wpHK_pure (i := 2) (oi := Oper.mk (some 20) _ _ _ _ _) (v := ?_) rfl (by kernel_rfl) (by kernel_rfl) (by kernel_rfl) (fun _ _ _ h => h) (Or.inl ⟨by rfl, ?_⟩) ?_
  rotate_left
  · (intro w' _; go_simp; try with_reducible rfl)
  try simp only [Act.put, List.setIfInBounds_toArray, List.set_cons_zero, List.set_cons_succ]
  refine wpHK_pure (i := 3) (oi := Oper.mk (some 21) _ _ _ _ _) (v := ?_) rfl (by kernel_rfl) (by kernel_rfl) (by kernel_rfl) (fun _ _ _ h => h) (Or.inl ⟨by rfl, ?_⟩) ?_
  rotate_left
  · (intro w' _; go_simp; try with_reducible rfl)
  try simp only [Act.put, List.setIfInBounds_toArray, List.set_cons_zero, List.set_cons_succ]
  refine wpHK_take (i := 1) (oi := Oper.mk (some 19) _ _ _ _ _) (v := ?_) rfl (by kernel_rfl) (by kernel_rfl) (by kernel_rfl) (by kernel_rfl) (fun _ _ _ h => h) (Or.inl ⟨by rfl, ?_⟩) (by assumption) ?_
  rotate_left
  · (intro w' hSw; (try dsimp only at hSw); (obtain ⟨s0, s1, s2, s3⟩ := hSw); go_simp; try with_reducible rfl)
  try simp only [Act.put, List.setIfInBounds_toArray, List.set_cons_zero, List.set_cons_succ]
  refine wpHK_one (j := 4) (o := Oper.mk (some 22) _ _ _ _ _) rfl (by kernel_rfl) (fun K hK => ?_)
  go_simp
  refine (rmore_any (w := V2.drew) R1.out.2.2.2 R2.out.2.2.2 (Nat.le_refl _) R1.out.1 R2.out.1 (by have := R1.out.1; have := Hla.out.1; omega) (by have := R2.out.1; have := Hla.out.2; omega) (wd_w _) (wd_w _)).mono ?_
  rintro e V3 ⟨A3, m3, c3, rfl, hm, hmc, hcl, hr, hb⟩
  simp only [val_w] at hm hr
  have F3 := Lib.hid (Env.call F2.out.drew hb)
  have R3 := Lib.hid (And.intro hm.out (And.intro hmc (And.intro hcl hr)))
  clear hm hmc hcl hr hb
  refine hK.out _ _ (Cf3.out _ F3.out) (fun _ => ?_)
  clear hK K hHeld
  have hHeld := (Cf3.out _ F3.out)
  try simp only [Act.put, List.setIfInBounds_toArray, List.set_cons_zero, List.set_cons_succ]
  refine wpHK_one (j := 5) (o := Oper.mk (some 23) _ _ _ _ _) rfl (by kernel_rfl) (fun K hK => ?_)
  go_simp
  have HM := made_any (w := _) (neg := na) R3.out.2.2.2 (Nat.le_refl _) R3.out.1 R3.out.2.1 R3.out.2.2.1 (by have := R3.out.1; have := len_sumN Hla.out.1 Hla.out.2; omega) (wd_w _)
  rw [val_w, sgn_add, ← Hnum.out.1, ← Hnum.out.2, ez] at HM
  refine HM.mono ?_
  rintro e V4 ⟨rfl, hb⟩
  have F4 := Lib.hid (Env.call F3.out hb)
  clear hb HM
  refine hK.out _ _ (Cf3.out _ F4.out) (fun _ => ?_)
  clear hK K hHeld
  have hHeld := (Cf3.out _ F4.out)
  try simp only [Act.put, List.setIfInBounds_toArray, List.set_cons_zero, List.set_cons_succ]
  refine wpHK_tail (j := 6) (o := Oper.mk (none) _ _ _ _ _) rfl (by kernel_rfl) (by decide) (fun K hK => ?_)
  have n4 := Env.at_ F4.out 0 rfl
  have y0 := n4.cell 0
  have y1 := n4.cell 1
  have y2 := n4.frozen 0
  have y3 := n4.frozen 1
  simp at y0 y1
  go_simp
  refine hK.out _ _ ?_
  clear hK K
  try simp only [Act.put, List.setIfInBounds_toArray, List.set_cons_zero, List.set_cons_succ]
  refine wpHK_done (by kernel_rfl) ?_ _
  refine NoPanic.normal ?_
  go_wp2_with fail
  have n5 := ((Env.at_ F4.out 0 rfl).set_ 0 (.bool zs)).set_ 1 (.string zb)
  have d0 := n5.cell 0
  have d1 := n5.cell 1
  simp at d0 d1
  refine bodyPost_ret (v := .agg #[.bool zs, .string zb]) (by simp [results, Try.results17, go_sem, d0, d1]) rfl ?_
  exact ⟨by rw [ez], ((F4.out.1).setCell (by show w.heap.size ≤ w.heap.size + 1 + 1; omega) _).setCell (by show w.heap.size ≤ w.heap.size + 1 + 1; omega) _⟩
theorem cmpN_ge {a b : Nat} (h : b ≤ a) : 0 ≤ cmpN a b ∧ cmpN a b ≤ 1 := by unfold cmpN; split <;> first | omega | (split <;> omega)
set_option maxRecDepth 100000 in
set_option maxHeartbeats 4000000 in
theorem rplus_ge {w : World} {na nb : Bool} {sa sb : ByteArray} (ha : Fmd sa) (hb : Fmd sb) (hs : na ≠ nb) (hle : bval sb.data.toList ≤ bval sa.data.toList) :
    Calls Try.prog 17 #[.agg #[.bool na, .string sa], .agg #[.bool nb, .string sb]] w (Calm w (enc (num (na, sa) + num (nb, sb)))) := by
  obtain ⟨zs, zb, ez⟩ : ∃ s b, enc (num (na, sa) + num (nb, sb)) = .agg #[.bool s, .string b] := ⟨_, _, rfl⟩
  have hbeq : (na == nb) = false := by simp [hs]
  have Hne := Lib.hid hs
  clear hs
  have HA := Lib.hid (fun W : World => words_any (w := W) (by have := ha.2; omega) ha.1)
  have HB := Lib.hid (fun W : World => words_any (w := W) (by have := hb.2; omega) hb.1)
  have Hla := Lib.hid (And.intro ha.len hb.len)
  have Hab := Lib.hid (And.intro ha hb)
  obtain ⟨a, hae⟩ : ∃ a, a = bval sa.data.toList := ⟨_, rfl⟩
  obtain ⟨b, hbe⟩ : ∃ b, b = bval sb.data.toList := ⟨_, rfl⟩
  rw [← hae] at HA
  rw [← hbe] at HB
  rw [← hae, ← hbe] at Hla
  rw [← hae, ← hbe] at hle
  have Hle := Lib.hid hle
  have hcg := cmpN_ge hle
  obtain ⟨hcg1, hcg2⟩ := hcg
  have hdc : decide (0 ≤ cmpN a b) = true := decide_eq_true hcg1
  clear hle
  have Hnum := Lib.hid (show num (na, sa) = sgn na a ∧ num (nb, sb) = sgn nb b from ⟨by rw [hae]; rfl, by rw [hbe]; rfl⟩)
  (try rw [← hae, ← hbe])
  clear hae hbe ha hb
  have E0 := Lib.hid (Env.nil w)
  go_enter Try.func17, Try.ntmps17
  go_upto_region 1 with fail
  have E1 : Hid (Env w (((w.alloc (.cells #[.bool na, .string sa] 26)).alloc (.cells #[.bool nb, .string sb] 26)).alloc (.cells #[.bool false, .string ⟨#[]⟩] 26)) [(w.heap.size + 1 + 1, 26, #[.bool false, .string ⟨#[]⟩]), (w.heap.size + 1, 26, #[.bool nb, .string sb]), (w.heap.size, 26, #[.bool na, .string sa])]) := Lib.hid (by have h := (Env.new (Env.new (Env.new E0.out 26 #[.bool na, .string sa]) 26 #[.bool nb, .string sb]) 26 #[.bool false, .string ⟨#[]⟩]); (try simp only [World.size_alloc] at h); exact h)
  generalize (((w.alloc (.cells #[.bool na, .string sa] 26)).alloc (.cells #[.bool nb, .string sb] 26)).alloc (.cells #[.bool false, .string ⟨#[]⟩] 26)) = W1 at E1 ⊢
  have Cf1 := Lib.hid (fun (W : World) (h : Env w W [(w.heap.size + 1 + 1, 26, #[.bool false, .string ⟨#[]⟩]), (w.heap.size + 1, 26, #[.bool nb, .string sb]), (w.heap.size, 26, #[.bool na, .string sa])]) => (show W.cell? ⟨w.heap.size, 0, none⟩ = some (.bool na) ∧ W.cell? ⟨w.heap.size, 1, none⟩ = some (.string sa) ∧ W.cell? ⟨w.heap.size + 1, 0, none⟩ = some (.bool nb) ∧ W.cell? ⟨w.heap.size + 1, 1, none⟩ = some (.string sb) from ⟨(Env.at_ h 2 rfl).cell 0, (Env.at_ h 2 rfl).cell 1, (Env.at_ h 1 rfl).cell 0, (Env.at_ h 1 rfl).cell 1⟩))
  refine wp_region_noPanic ?_
  refine wp_region_HK (fun w' => w'.cell? ⟨w.heap.size, 0, none⟩ = some (.bool na) ∧ w'.cell? ⟨w.heap.size, 1, none⟩ = some (.string sa) ∧ w'.cell? ⟨w.heap.size + 1, 0, none⟩ = some (.bool nb) ∧ w'.cell? ⟨w.heap.size + 1, 1, none⟩ = some (.string sb)) 6 (by kernel_rfl) (Cf1.out _ E1.out.drew) (fun hHeld => ?_)
  refine wpHK_pure (i := 0) (oi := Oper.mk (some 7) _ _ _ _ _) (v := ?_) rfl (by kernel_rfl) (by kernel_rfl) (by kernel_rfl) (fun _ _ _ h => h) (Or.inl ⟨by rfl, ?_⟩) ?_
  rotate_left
  · (intro w' _; go_simp; try with_reducible rfl)
  try simp only [Act.put, List.setIfInBounds_toArray, List.set_cons_zero, List.set_cons_succ]
  refine wpHK_pure (i := 3) (oi := Oper.mk (some 10) _ _ _ _ _) (v := ?_) rfl (by kernel_rfl) (by kernel_rfl) (by kernel_rfl) (fun _ _ _ h => h) (Or.inl ⟨by rfl, ?_⟩) ?_
  rotate_left
  · (intro w' _; go_simp; try with_reducible rfl)
  try simp only [Act.put, List.setIfInBounds_toArray, List.set_cons_zero, List.set_cons_succ]
  refine wpHK_take (i := 1) (oi := Oper.mk (some 8) _ _ _ _ _) (v := ?_) rfl (by kernel_rfl) (by kernel_rfl) (by kernel_rfl) (by kernel_rfl) (fun _ _ _ h => h) (Or.inl ⟨by rfl, ?_⟩) (by assumption) ?_
  rotate_left
  · (intro w' hSw; (try dsimp only at hSw); (obtain ⟨s0, s1, s2, s3⟩ := hSw); go_simp; try with_reducible rfl)
  try simp only [Act.put, List.setIfInBounds_toArray, List.set_cons_zero, List.set_cons_succ]
  refine wpHK_take (i := 4) (oi := Oper.mk (some 11) _ _ _ _ _) (v := ?_) rfl (by kernel_rfl) (by kernel_rfl) (by kernel_rfl) (by kernel_rfl) (fun _ _ _ h => h) (Or.inl ⟨by rfl, ?_⟩) (by assumption) ?_
  rotate_left
  · (intro w' hSw; (try dsimp only at hSw); (obtain ⟨s0, s1, s2, s3⟩ := hSw); go_simp; try with_reducible rfl)
  try simp only [Act.put, List.setIfInBounds_toArray, List.set_cons_zero, List.set_cons_succ]
  refine wpHK_one (j := 2) (o := Oper.mk (some 9) _ _ _ _ _) rfl (by kernel_rfl) (fun K hK => ?_)
  go_simp
  refine (HA.out _).mono ?_
  rintro e V1 ⟨A1, m1, c1, rfl, hm, hmc, hcl, hr, hb⟩
  have F1 := Lib.hid (Env.call E1.out.drew hb)
  have R1 := Lib.hid (And.intro hm.out (And.intro hmc (And.intro hcl hr)))
  have hbl := Lib.hid hb
  clear hm hmc hcl hr hb
  refine hK.out _ _ (Cf1.out _ F1.out) (fun _ => ?_)
  clear hK K hHeld
  have hHeld := (Cf1.out _ F1.out)
  try simp only [Act.put, List.setIfInBounds_toArray, List.set_cons_zero, List.set_cons_succ]
  refine wpHK_one (j := 5) (o := Oper.mk (some 12) _ _ _ _ _) rfl (by kernel_rfl) (fun K hK => ?_)
  go_simp
  refine (HB.out _).mono ?_
  rintro e V2 ⟨A2, m2, c2, rfl, hm, hmc, hcl, hr, hb⟩
  have F2 := Lib.hid (Env.call F1.out hb)
  have R2 := Lib.hid (And.intro hm.out (And.intro hmc (And.intro hcl hr)))
  have hbl := Lib.hid hb
  clear hm hmc hcl hr hb
  have R1' := Lib.hid (And.intro R1.out.1 (And.intro R1.out.2.1 (And.intro R1.out.2.2.1 ((R1.out.2.2.2.below hbl.out).more hbl.out.size))))
  clear R1 hbl
  have R1 := R1'
  clear R1'
  refine hK.out _ _ (Cf1.out _ F2.out) (fun _ => ?_)
  clear hK K hHeld
  have hHeld := (Cf1.out _ F2.out)
  try simp only [Act.put, List.setIfInBounds_toArray, List.set_cons_zero, List.set_cons_succ]
  refine wpHK_pure (i := 6) (oi := Oper.mk (some 5) _ _ _ _ _) (v := ?_) rfl (by kernel_rfl) (by kernel_rfl) (by kernel_rfl) (fun _ _ _ h => h) (Or.inl ⟨by rfl, ?_⟩) ?_
  rotate_left
  · (intro w' _; go_simp; try with_reducible rfl)
  try simp only [Act.put, List.setIfInBounds_toArray, List.set_cons_zero, List.set_cons_succ]
  refine wpHK_pure (i := 7) (oi := Oper.mk (some 6) _ _ _ _ _) (v := ?_) rfl (by kernel_rfl) (by kernel_rfl) (by kernel_rfl) (fun _ _ _ h => h) (Or.inl ⟨by rfl, ?_⟩) ?_
  rotate_left
  · (intro w' _; go_simp; try with_reducible rfl)
  try simp only [Act.put, List.setIfInBounds_toArray, List.set_cons_zero, List.set_cons_succ]
  refine wpHK_done (by kernel_rfl) ?_ _
  refine NoPanic.normal ?_
  have q0 := (Env.at_ F2.out 2 rfl).cell 0
  have q1 := (Env.at_ F2.out 1 rfl).cell 0
  simp at q0 q1
  go_upto_region 4 with fail
  clear q0 q1
  have HU := runder_any (c := c1) (d := c2) R1.out.2.2.2 R2.out.2.2.2 R1.out.1 R2.out.1 (by have := R1.out.1; have := Hla.out.1; omega) (by have := R2.out.1; have := Hla.out.2; omega)
  skip
  go_wp2_with fail
  refine HU.mono ?_
  rintro e V3 ⟨q, rfl, rfl⟩
  clear HU
  have F3 := Lib.hid (F2.out.drewN q)
  have R1' := Lib.hid (And.intro R1.out.1 (And.intro R1.out.2.1 (And.intro R1.out.2.2.1 (R1.out.2.2.2.drewN q))))
  have R2' := Lib.hid (And.intro R2.out.1 (And.intro R2.out.2.1 (And.intro R2.out.2.2.1 (R2.out.2.2.2.drewN q))))
  clear R1 R2
  skip
  go_upto_region 5 with fail
  have Cf5 := Lib.hid (fun (W : World) (h : Env w W [(w.heap.size + 1 + 1, 26, #[.bool false, .string ⟨#[]⟩]), (w.heap.size + 1, 26, #[.bool nb, .string sb]), (w.heap.size, 26, #[.bool na, .string sa])]) => (show W.cell? ⟨w.heap.size, 0, none⟩ = some (.bool na) ∧ W.cell? ⟨w.heap.size, 1, none⟩ = some (.string sa) ∧ W.cell? ⟨w.heap.size + 1, 0, none⟩ = some (.bool nb) ∧ W.cell? ⟨w.heap.size + 1, 1, none⟩ = some (.string sb) from ⟨(Env.at_ h 2 rfl).cell 0, (Env.at_ h 2 rfl).cell 1, (Env.at_ h 1 rfl).cell 0, (Env.at_ h 1 rfl).cell 1⟩))
  refine wp_region_noPanic ?_
  refine wp_region_HK (fun w' => w'.cell? ⟨w.heap.size, 0, none⟩ = some (.bool na) ∧ w'.cell? ⟨w.heap.size, 1, none⟩ = some (.string sa) ∧ w'.cell? ⟨w.heap.size + 1, 0, none⟩ = some (.bool nb) ∧ w'.cell? ⟨w.heap.size + 1, 1, none⟩ = some (.string sb)) 6 (by kernel_rfl) (Cf5.out _ F3.out.drew) (fun hHeld => ?_)
  refine wpHK_pure (i := 0) (oi := Oper.mk (some 28) _ _ _ _ _) (v := ?_) rfl (by kernel_rfl) (by kernel_rfl) (by kernel_rfl) (fun _ _ _ h => h) (Or.inl ⟨by rfl, ?_⟩) ?_
  rotate_left
  · (intro w' _; go_simp; try with_reducible rfl)
  try simp only [Act.put, List.setIfInBounds_toArray, List.set_cons_zero, List.set_cons_succ]
  refine wpHK_pure (i := 2) (oi := Oper.mk (some 30) _ _ _ _ _) (v := ?_) rfl (by kernel_rfl) (by kernel_rfl) (by kernel_rfl) (fun _ _ _ h => h) (Or.inl ⟨by rfl, ?_⟩) ?_
  rotate_left
  · (intro w' _; go_simp; try with_reducible rfl)
  try simp only [Act.put, List.setIfInBounds_toArray, List.set_cons_zero, List.set_cons_succ]
  refine wpHK_pure (i := 3) (oi := Oper.mk (some 31) _ _ _ _ _) (v := ?_) rfl (by kernel_rfl) (by kernel_rfl) (by kernel_rfl) (fun _ _ _ h => h) (Or.inl ⟨by rfl, ?_⟩) ?_
  rotate_left
  · (intro w' _; go_simp; try with_reducible rfl)
  try simp only [Act.put, List.setIfInBounds_toArray, List.set_cons_zero, List.set_cons_succ]
  refine wpHK_take (i := 1) (oi := Oper.mk (some 29) _ _ _ _ _) (v := ?_) rfl (by kernel_rfl) (by kernel_rfl) (by kernel_rfl) (by kernel_rfl) (fun _ _ _ h => h) (Or.inl ⟨by rfl, ?_⟩) (by assumption) ?_
  rotate_left
  · (intro w' hSw; (try dsimp only at hSw); (obtain ⟨s0, s1, s2, s3⟩ := hSw); go_simp; try with_reducible rfl)
  try simp only [Act.put, List.setIfInBounds_toArray, List.set_cons_zero, List.set_cons_succ]
  refine wpHK_one (j := 4) (o := Oper.mk (some 32) _ _ _ _ _) rfl (by kernel_rfl) (fun K hK => ?_)
  go_simp
  refine (rless_any (w := (V2.drewN q).drew) R1'.out.2.2.2 R2'.out.2.2.2 (Nat.le_refl _) R1'.out.1 R2'.out.1 (by have := R1'.out.1; have := Hla.out.1; omega) (by rw [R1'.out.1, R2'.out.1]; exact len_mono Hle.out) (by rw [val_w, val_w]; exact Hle.out) (wd_w _) (wd_w _)).mono ?_
  rintro e V4 ⟨A3, m3, c3, rfl, hm, hmc, hcl, hr, hb⟩
  simp only [val_w] at hm hr
  have F4 := Lib.hid (Env.call F3.out.drew hb)
  have R3 := Lib.hid (And.intro hm.out (And.intro hmc (And.intro hcl hr)))
  clear hm hmc hcl hr hb
  refine hK.out _ _ (Cf5.out _ F4.out) (fun _ => ?_)
  clear hK K hHeld
  have hHeld := (Cf5.out _ F4.out)
  try simp only [Act.put, List.setIfInBounds_toArray, List.set_cons_zero, List.set_cons_succ]
  refine wpHK_one (j := 5) (o := Oper.mk (some 33) _ _ _ _ _) rfl (by kernel_rfl) (fun K hK => ?_)
  go_simp
  have HM := made_any (w := _) (neg := na) R3.out.2.2.2 (Nat.le_refl _) R3.out.1 R3.out.2.1 R3.out.2.2.1 (by have h1 := R3.out.1; have h2 := Hla.out; have h3 := len_mono (a := a - b) (b := a) (Nat.sub_le _ _); omega) (wd_w _)
  rw [val_w, sgn_sub Hne.out Hle.out, ← Hnum.out.1, ← Hnum.out.2, ez] at HM
  refine HM.mono ?_
  rintro e V5 ⟨rfl, hb⟩
  have F5 := Lib.hid (Env.call F4.out hb)
  clear hb HM
  refine hK.out _ _ (Cf5.out _ F5.out) (fun _ => ?_)
  clear hK K hHeld
  have hHeld := (Cf5.out _ F5.out)
  try simp only [Act.put, List.setIfInBounds_toArray, List.set_cons_zero, List.set_cons_succ]
  refine wpHK_tail (j := 6) (o := Oper.mk (none) _ _ _ _ _) rfl (by kernel_rfl) (by decide) (fun K hK => ?_)
  have n4 := Env.at_ F5.out 0 rfl
  have y0 := n4.cell 0
  have y1 := n4.cell 1
  have y2 := n4.frozen 0
  have y3 := n4.frozen 1
  simp at y0 y1
  go_simp
  refine hK.out _ _ ?_
  clear hK K
  try simp only [Act.put, List.setIfInBounds_toArray, List.set_cons_zero, List.set_cons_succ]
  refine wpHK_done (by kernel_rfl) ?_ _
  refine NoPanic.normal ?_
  go_wp2_with fail
  have n5 := ((Env.at_ F5.out 0 rfl).set_ 0 (.bool zs)).set_ 1 (.string zb)
  have d0 := n5.cell 0
  have d1 := n5.cell 1
  simp at d0 d1
  refine bodyPost_ret (v := .agg #[.bool zs, .string zb]) (by simp [results, Try.results17, go_sem, d0, d1]) rfl ?_
  exact ⟨by rw [ez], ((F5.out.1).setCell (by show w.heap.size ≤ w.heap.size + 1 + 1; omega) _).setCell (by show w.heap.size ≤ w.heap.size + 1 + 1; omega) _⟩
set_option maxRecDepth 100000 in
set_option maxHeartbeats 4000000 in
theorem rplus_lt {w : World} {na nb : Bool} {sa sb : ByteArray} (ha : Fmd sa) (hb : Fmd sb) (hs : na ≠ nb) (hlt : bval sa.data.toList < bval sb.data.toList) :
    Calls Try.prog 17 #[.agg #[.bool na, .string sa], .agg #[.bool nb, .string sb]] w (Calm w (enc (num (na, sa) + num (nb, sb)))) := by
  obtain ⟨zs, zb, ez⟩ : ∃ s b, enc (num (na, sa) + num (nb, sb)) = .agg #[.bool s, .string b] := ⟨_, _, rfl⟩
  have hbeq : (na == nb) = false := by simp [hs]
  have Hne := Lib.hid hs
  clear hs
  have HA := Lib.hid (fun W : World => words_any (w := W) (by have := ha.2; omega) ha.1)
  have HB := Lib.hid (fun W : World => words_any (w := W) (by have := hb.2; omega) hb.1)
  have Hla := Lib.hid (And.intro ha.len hb.len)
  have Hab := Lib.hid (And.intro ha hb)
  obtain ⟨a, hae⟩ : ∃ a, a = bval sa.data.toList := ⟨_, rfl⟩
  obtain ⟨b, hbe⟩ : ∃ b, b = bval sb.data.toList := ⟨_, rfl⟩
  rw [← hae] at HA
  rw [← hbe] at HB
  rw [← hae, ← hbe] at Hla
  rw [← hae, ← hbe] at hlt
  have Hle := Lib.hid (Nat.le_of_lt hlt)
  have HC := Lib.hid (cmpN_lt hlt)
  clear hlt
  have Hnum := Lib.hid (show num (na, sa) = sgn na a ∧ num (nb, sb) = sgn nb b from ⟨by rw [hae]; rfl, by rw [hbe]; rfl⟩)
  (try rw [← hae, ← hbe])
  clear hae hbe ha hb
  have E0 := Lib.hid (Env.nil w)
  go_enter Try.func17, Try.ntmps17
  go_upto_region 1 with fail
  have E1 : Hid (Env w (((w.alloc (.cells #[.bool na, .string sa] 26)).alloc (.cells #[.bool nb, .string sb] 26)).alloc (.cells #[.bool false, .string ⟨#[]⟩] 26)) [(w.heap.size + 1 + 1, 26, #[.bool false, .string ⟨#[]⟩]), (w.heap.size + 1, 26, #[.bool nb, .string sb]), (w.heap.size, 26, #[.bool na, .string sa])]) := Lib.hid (by have h := (Env.new (Env.new (Env.new E0.out 26 #[.bool na, .string sa]) 26 #[.bool nb, .string sb]) 26 #[.bool false, .string ⟨#[]⟩]); (try simp only [World.size_alloc] at h); exact h)
  generalize (((w.alloc (.cells #[.bool na, .string sa] 26)).alloc (.cells #[.bool nb, .string sb] 26)).alloc (.cells #[.bool false, .string ⟨#[]⟩] 26)) = W1 at E1 ⊢
  have Cf1 := Lib.hid (fun (W : World) (h : Env w W [(w.heap.size + 1 + 1, 26, #[.bool false, .string ⟨#[]⟩]), (w.heap.size + 1, 26, #[.bool nb, .string sb]), (w.heap.size, 26, #[.bool na, .string sa])]) => (show W.cell? ⟨w.heap.size, 0, none⟩ = some (.bool na) ∧ W.cell? ⟨w.heap.size, 1, none⟩ = some (.string sa) ∧ W.cell? ⟨w.heap.size + 1, 0, none⟩ = some (.bool nb) ∧ W.cell? ⟨w.heap.size + 1, 1, none⟩ = some (.string sb) from ⟨(Env.at_ h 2 rfl).cell 0, (Env.at_ h 2 rfl).cell 1, (Env.at_ h 1 rfl).cell 0, (Env.at_ h 1 rfl).cell 1⟩))
  refine wp_region_noPanic ?_
  refine wp_region_HK (fun w' => w'.cell? ⟨w.heap.size, 0, none⟩ = some (.bool na) ∧ w'.cell? ⟨w.heap.size, 1, none⟩ = some (.string sa) ∧ w'.cell? ⟨w.heap.size + 1, 0, none⟩ = some (.bool nb) ∧ w'.cell? ⟨w.heap.size + 1, 1, none⟩ = some (.string sb)) 6 (by kernel_rfl) (Cf1.out _ E1.out.drew) (fun hHeld => ?_)
  refine wpHK_pure (i := 0) (oi := Oper.mk (some 7) _ _ _ _ _) (v := ?_) rfl (by kernel_rfl) (by kernel_rfl) (by kernel_rfl) (fun _ _ _ h => h) (Or.inl ⟨by rfl, ?_⟩) ?_
  rotate_left
  · (intro w' _; go_simp; try with_reducible rfl)
  try simp only [Act.put, List.setIfInBounds_toArray, List.set_cons_zero, List.set_cons_succ]
  refine wpHK_pure (i := 3) (oi := Oper.mk (some 10) _ _ _ _ _) (v := ?_) rfl (by kernel_rfl) (by kernel_rfl) (by kernel_rfl) (fun _ _ _ h => h) (Or.inl ⟨by rfl, ?_⟩) ?_
  rotate_left
  · (intro w' _; go_simp; try with_reducible rfl)
  try simp only [Act.put, List.setIfInBounds_toArray, List.set_cons_zero, List.set_cons_succ]
  refine wpHK_take (i := 1) (oi := Oper.mk (some 8) _ _ _ _ _) (v := ?_) rfl (by kernel_rfl) (by kernel_rfl) (by kernel_rfl) (by kernel_rfl) (fun _ _ _ h => h) (Or.inl ⟨by rfl, ?_⟩) (by assumption) ?_
  rotate_left
  · (intro w' hSw; (try dsimp only at hSw); (obtain ⟨s0, s1, s2, s3⟩ := hSw); go_simp; try with_reducible rfl)
  try simp only [Act.put, List.setIfInBounds_toArray, List.set_cons_zero, List.set_cons_succ]
  refine wpHK_take (i := 4) (oi := Oper.mk (some 11) _ _ _ _ _) (v := ?_) rfl (by kernel_rfl) (by kernel_rfl) (by kernel_rfl) (by kernel_rfl) (fun _ _ _ h => h) (Or.inl ⟨by rfl, ?_⟩) (by assumption) ?_
  rotate_left
  · (intro w' hSw; (try dsimp only at hSw); (obtain ⟨s0, s1, s2, s3⟩ := hSw); go_simp; try with_reducible rfl)
  try simp only [Act.put, List.setIfInBounds_toArray, List.set_cons_zero, List.set_cons_succ]
  refine wpHK_one (j := 2) (o := Oper.mk (some 9) _ _ _ _ _) rfl (by kernel_rfl) (fun K hK => ?_)
  go_simp
  refine (HA.out _).mono ?_
  rintro e V1 ⟨A1, m1, c1, rfl, hm, hmc, hcl, hr, hb⟩
  have F1 := Lib.hid (Env.call E1.out.drew hb)
  have R1 := Lib.hid (And.intro hm.out (And.intro hmc (And.intro hcl hr)))
  have hbl := Lib.hid hb
  clear hm hmc hcl hr hb
  refine hK.out _ _ (Cf1.out _ F1.out) (fun _ => ?_)
  clear hK K hHeld
  have hHeld := (Cf1.out _ F1.out)
  try simp only [Act.put, List.setIfInBounds_toArray, List.set_cons_zero, List.set_cons_succ]
  refine wpHK_one (j := 5) (o := Oper.mk (some 12) _ _ _ _ _) rfl (by kernel_rfl) (fun K hK => ?_)
  go_simp
  refine (HB.out _).mono ?_
  rintro e V2 ⟨A2, m2, c2, rfl, hm, hmc, hcl, hr, hb⟩
  have F2 := Lib.hid (Env.call F1.out hb)
  have R2 := Lib.hid (And.intro hm.out (And.intro hmc (And.intro hcl hr)))
  have hbl := Lib.hid hb
  clear hm hmc hcl hr hb
  have R1' := Lib.hid (And.intro R1.out.1 (And.intro R1.out.2.1 (And.intro R1.out.2.2.1 ((R1.out.2.2.2.below hbl.out).more hbl.out.size))))
  clear R1 hbl
  have R1 := R1'
  clear R1'
  refine hK.out _ _ (Cf1.out _ F2.out) (fun _ => ?_)
  clear hK K hHeld
  have hHeld := (Cf1.out _ F2.out)
  try simp only [Act.put, List.setIfInBounds_toArray, List.set_cons_zero, List.set_cons_succ]
  refine wpHK_pure (i := 6) (oi := Oper.mk (some 5) _ _ _ _ _) (v := ?_) rfl (by kernel_rfl) (by kernel_rfl) (by kernel_rfl) (fun _ _ _ h => h) (Or.inl ⟨by rfl, ?_⟩) ?_
  rotate_left
  · (intro w' _; go_simp; try with_reducible rfl)
  try simp only [Act.put, List.setIfInBounds_toArray, List.set_cons_zero, List.set_cons_succ]
  refine wpHK_pure (i := 7) (oi := Oper.mk (some 6) _ _ _ _ _) (v := ?_) rfl (by kernel_rfl) (by kernel_rfl) (by kernel_rfl) (fun _ _ _ h => h) (Or.inl ⟨by rfl, ?_⟩) ?_
  rotate_left
  · (intro w' _; go_simp; try with_reducible rfl)
  try simp only [Act.put, List.setIfInBounds_toArray, List.set_cons_zero, List.set_cons_succ]
  refine wpHK_done (by kernel_rfl) ?_ _
  refine NoPanic.normal ?_
  have q0 := (Env.at_ F2.out 2 rfl).cell 0
  have q1 := (Env.at_ F2.out 1 rfl).cell 0
  simp at q0 q1
  go_upto_region 4 with fail
  clear q0 q1
  have HU := runder_any (c := c1) (d := c2) R1.out.2.2.2 R2.out.2.2.2 R1.out.1 R2.out.1 (by have := R1.out.1; have := Hla.out.1; omega) (by have := R2.out.1; have := Hla.out.2; omega)
  rw [HC.out] at HU
  go_wp2_with fail
  refine HU.mono ?_
  rintro e V3 ⟨q, rfl, rfl⟩
  clear HU
  have F3 := Lib.hid (F2.out.drewN q)
  have R1' := Lib.hid (And.intro R1.out.1 (And.intro R1.out.2.1 (And.intro R1.out.2.2.1 (R1.out.2.2.2.drewN q))))
  have R2' := Lib.hid (And.intro R2.out.1 (And.intro R2.out.2.1 (And.intro R2.out.2.2.1 (R2.out.2.2.2.drewN q))))
  clear R1 R2
  skip
  go_upto_region 6 with fail
  have Cf6 := Lib.hid (fun (W : World) (h : Env w W [(w.heap.size + 1 + 1, 26, #[.bool false, .string ⟨#[]⟩]), (w.heap.size + 1, 26, #[.bool nb, .string sb]), (w.heap.size, 26, #[.bool na, .string sa])]) => (show W.cell? ⟨w.heap.size, 0, none⟩ = some (.bool na) ∧ W.cell? ⟨w.heap.size, 1, none⟩ = some (.string sa) ∧ W.cell? ⟨w.heap.size + 1, 0, none⟩ = some (.bool nb) ∧ W.cell? ⟨w.heap.size + 1, 1, none⟩ = some (.string sb) from ⟨(Env.at_ h 2 rfl).cell 0, (Env.at_ h 2 rfl).cell 1, (Env.at_ h 1 rfl).cell 0, (Env.at_ h 1 rfl).cell 1⟩))
  refine wp_region_noPanic ?_
  refine wp_region_HK (fun w' => w'.cell? ⟨w.heap.size, 0, none⟩ = some (.bool na) ∧ w'.cell? ⟨w.heap.size, 1, none⟩ = some (.string sa) ∧ w'.cell? ⟨w.heap.size + 1, 0, none⟩ = some (.bool nb) ∧ w'.cell? ⟨w.heap.size + 1, 1, none⟩ = some (.string sb)) 6 (by kernel_rfl) (Cf6.out _ F3.out.drew) (fun hHeld => ?_)
  refine wpHK_pure (i := 0) (oi := Oper.mk (some 34) _ _ _ _ _) (v := ?_) rfl (by kernel_rfl) (by kernel_rfl) (by kernel_rfl) (fun _ _ _ h => h) (Or.inl ⟨by rfl, ?_⟩) ?_
  rotate_left
  · (intro w' _; go_simp; try with_reducible rfl)
  try simp only [Act.put, List.setIfInBounds_toArray, List.set_cons_zero, List.set_cons_succ]
  refine wpHK_pure (i := 2) (oi := Oper.mk (some 36) _ _ _ _ _) (v := ?_) rfl (by kernel_rfl) (by kernel_rfl) (by kernel_rfl) (fun _ _ _ h => h) (Or.inl ⟨by rfl, ?_⟩) ?_
  rotate_left
  · (intro w' _; go_simp; try with_reducible rfl)
  try simp only [Act.put, List.setIfInBounds_toArray, List.set_cons_zero, List.set_cons_succ]
  refine wpHK_pure (i := 3) (oi := Oper.mk (some 37) _ _ _ _ _) (v := ?_) rfl (by kernel_rfl) (by kernel_rfl) (by kernel_rfl) (fun _ _ _ h => h) (Or.inl ⟨by rfl, ?_⟩) ?_
  rotate_left
  · (intro w' _; go_simp; try with_reducible rfl)
  try simp only [Act.put, List.setIfInBounds_toArray, List.set_cons_zero, List.set_cons_succ]
  refine wpHK_take (i := 1) (oi := Oper.mk (some 35) _ _ _ _ _) (v := ?_) rfl (by kernel_rfl) (by kernel_rfl) (by kernel_rfl) (by kernel_rfl) (fun _ _ _ h => h) (Or.inl ⟨by rfl, ?_⟩) (by assumption) ?_
  rotate_left
  · (intro w' hSw; (try dsimp only at hSw); (obtain ⟨s0, s1, s2, s3⟩ := hSw); go_simp; try with_reducible rfl)
  try simp only [Act.put, List.setIfInBounds_toArray, List.set_cons_zero, List.set_cons_succ]
  refine wpHK_one (j := 4) (o := Oper.mk (some 38) _ _ _ _ _) rfl (by kernel_rfl) (fun K hK => ?_)
  go_simp
  refine (rless_any (w := (V2.drewN q).drew) R2'.out.2.2.2 R1'.out.2.2.2 (Nat.le_refl _) R2'.out.1 R1'.out.1 (by have := R2'.out.1; have := Hla.out.2; omega) (by rw [R1'.out.1, R2'.out.1]; exact len_mono Hle.out) (by rw [val_w, val_w]; exact Hle.out) (wd_w _) (wd_w _)).mono ?_
  rintro e V4 ⟨A3, m3, c3, rfl, hm, hmc, hcl, hr, hb⟩
  simp only [val_w] at hm hr
  have F4 := Lib.hid (Env.call F3.out.drew hb)
  have R3 := Lib.hid (And.intro hm.out (And.intro hmc (And.intro hcl hr)))
  clear hm hmc hcl hr hb
  refine hK.out _ _ (Cf6.out _ F4.out) (fun _ => ?_)
  clear hK K hHeld
  have hHeld := (Cf6.out _ F4.out)
  try simp only [Act.put, List.setIfInBounds_toArray, List.set_cons_zero, List.set_cons_succ]
  refine wpHK_one (j := 5) (o := Oper.mk (some 39) _ _ _ _ _) rfl (by kernel_rfl) (fun K hK => ?_)
  go_simp
  have HM := made_any (w := _) (neg := nb) R3.out.2.2.2 (Nat.le_refl _) R3.out.1 R3.out.2.1 R3.out.2.2.1 (by have h1 := R3.out.1; have h2 := Hla.out; have h3 := len_mono (a := b - a) (b := b) (Nat.sub_le _ _); omega) (wd_w _)
  rw [val_w, sgn_sub' Hne.out Hle.out, ← Hnum.out.1, ← Hnum.out.2, ez] at HM
  refine HM.mono ?_
  rintro e V5 ⟨rfl, hb⟩
  have F5 := Lib.hid (Env.call F4.out hb)
  clear hb HM
  refine hK.out _ _ (Cf6.out _ F5.out) (fun _ => ?_)
  clear hK K hHeld
  have hHeld := (Cf6.out _ F5.out)
  try simp only [Act.put, List.setIfInBounds_toArray, List.set_cons_zero, List.set_cons_succ]
  refine wpHK_tail (j := 6) (o := Oper.mk (none) _ _ _ _ _) rfl (by kernel_rfl) (by decide) (fun K hK => ?_)
  have n4 := Env.at_ F5.out 0 rfl
  have y0 := n4.cell 0
  have y1 := n4.cell 1
  have y2 := n4.frozen 0
  have y3 := n4.frozen 1
  simp at y0 y1
  go_simp
  refine hK.out _ _ ?_
  clear hK K
  try simp only [Act.put, List.setIfInBounds_toArray, List.set_cons_zero, List.set_cons_succ]
  refine wpHK_done (by kernel_rfl) ?_ _
  refine NoPanic.normal ?_
  go_wp2_with fail
  have n5 := ((Env.at_ F5.out 0 rfl).set_ 0 (.bool zs)).set_ 1 (.string zb)
  have d0 := n5.cell 0
  have d1 := n5.cell 1
  simp at d0 d1
  refine bodyPost_ret (v := .agg #[.bool zs, .string zb]) (by simp [results, Try.results17, go_sem, d0, d1]) rfl ?_
  exact ⟨by rw [ez], ((F5.out.1).setCell (by show w.heap.size ≤ w.heap.size + 1 + 1; omega) _).setCell (by show w.heap.size ≤ w.heap.size + 1 + 1; omega) _⟩
theorem rplus_any {w : World} {na nb : Bool} {sa sb : ByteArray} (ha : Fmd sa) (hb : Fmd sb) :
    Calls Try.prog 17 #[.agg #[.bool na, .string sa], .agg #[.bool nb, .string sb]] w (Calm w (enc (num (na, sa) + num (nb, sb)))) := by
  by_cases hs : na = nb
  · exact rplus_same ha hb hs
  · rcases Nat.lt_or_ge (bval sa.data.toList) (bval sb.data.toList) with h | h
    · exact rplus_lt ha hb hs h
    · exact rplus_ge ha hb hs h
theorem num_neg {n : Bool} {s : ByteArray} (hf : Fmd s) : num ((!n && decide (0 < s.size)), s) = -num (n, s) := by
  have h1 := enc_neg (n := n) hf
  have hl : s.data.toList.length = s.size := Array.length_toList
  unfold num
  dsimp only
  rcases Nat.eq_zero_or_pos s.size with h0 | h0
  · have he : s.data.toList = [] := List.eq_nil_of_length_eq_zero (by omega)
    rw [he, bval_nil]
    cases n <;> simp [sgn]
  · rw [decide_eq_true h0, Bool.and_true]
    unfold sgn
    cases n <;> simp
theorem cmp_sg {x y : Int} : (sg x ≠ sg y → cmpI x y = if sg x < sg y then -1 else 1) ∧ (sg x = sg y → sg x * cmpN x.natAbs y.natAbs = cmpI x y) := by
  unfold sg cmpI cmpN
  by_cases hx0 : x = 0 <;> by_cases hy0 : y = 0 <;> by_cases hx : x < 0 <;> by_cases hy : y < 0 <;> simp [hx0, hy0, hx, hy] <;> (try omega) <;> (repeat' split) <;> omega
theorem cmp_wrap {z : Int} {a b : Nat} (h1 : -1 ≤ z) (h2 : z ≤ 1) : IntKind.i64.wrap (z * cmpN a b) = z * cmpN a b := by
  have h3 : cmpN a b = -1 ∨ cmpN a b = 0 ∨ cmpN a b = 1 := by unfold cmpN; split <;> first | omega | (split <;> omega)
  rcases h3 with h | h | h <;> rw [h] <;> exact IntWalk.i64_in _ (by omega)
theorem sg_bounds (x : Int) : -1 ≤ sg x ∧ sg x ≤ 1 := by
  unfold sg
  by_cases h0 : x = 0
  · simp [h0]
  · rw [if_neg h0]
    split <;> omega
set_option maxRecDepth 100000 in
set_option maxHeartbeats 4000000 in
theorem rminus_any {w : World} {na nb : Bool} {sa sb : ByteArray} (ha : Fmd sa) (hb : Fmd sb) :
    Calls Try.prog 31 #[.agg #[.bool na, .string sa], .agg #[.bool nb, .string sb]] w (Calm w (enc (num (na, sa) - num (nb, sb)))) := by
  obtain ⟨zs, zb, ez⟩ : ∃ s b, enc (num (na, sa) - num (nb, sb)) = .agg #[.bool s, .string b] := ⟨_, _, rfl⟩
  have H47 := Lib.hid (fun W : World => rneg_any (w := W) (n := nb) hb)
  rw [enc_neg hb] at H47
  have Hnc := Lib.hid (num_neg (n := nb) hb)
  generalize (!nb && decide (0 < sb.size)) = nc at H47 Hnc
  have H17 := Lib.hid (fun W : World => rplus_any (w := W) (na := na) (nb := nc) ha hb)
  rw [Hnc.out, ← Int.sub_eq_add_neg, ez] at H17
  have HA := Lib.hid (fun W : World => words_any (w := W) (by have := ha.2; omega) ha.1)
  have HB := Lib.hid (fun W : World => words_any (w := W) (by have := hb.2; omega) hb.1)
  have Hla := Lib.hid (And.intro ha.len hb.len)
  have Hab := Lib.hid (And.intro ha hb)
  obtain ⟨a, hae⟩ : ∃ a, a = bval sa.data.toList := ⟨_, rfl⟩
  obtain ⟨b, hbe⟩ : ∃ b, b = bval sb.data.toList := ⟨_, rfl⟩
  rw [← hae] at HA
  rw [← hbe] at HB
  rw [← hae, ← hbe] at Hla
  have Hnum := Lib.hid (show num (na, sa) = sgn na a ∧ num (nb, sb) = sgn nb b from ⟨by rw [hae]; rfl, by rw [hbe]; rfl⟩)
  (try rw [← hae, ← hbe])
  clear hae hbe ha hb
  have E0 := Lib.hid (Env.nil w)
  go_enter Try.func31, Try.ntmps31
  clear HA HB Hla Hnum Hab
  go_upto_region 1 with fail
  have E1 : Hid (Env w (((w.alloc (.cells #[.bool na, .string sa] 26)).alloc (.cells #[.bool nb, .string sb] 26)).alloc (.cells #[.bool false, .string ⟨#[]⟩] 26)) [(w.heap.size + 1 + 1, 26, #[.bool false, .string ⟨#[]⟩]), (w.heap.size + 1, 26, #[.bool nb, .string sb]), (w.heap.size, 26, #[.bool na, .string sa])]) := Lib.hid (by have h := (Env.new (Env.new (Env.new E0.out 26 #[.bool na, .string sa]) 26 #[.bool nb, .string sb]) 26 #[.bool false, .string ⟨#[]⟩]); (try simp only [World.size_alloc] at h); exact h)
  generalize (((w.alloc (.cells #[.bool na, .string sa] 26)).alloc (.cells #[.bool nb, .string sb] 26)).alloc (.cells #[.bool false, .string ⟨#[]⟩] 26)) = W1 at E1 ⊢
  have Cf1 := Lib.hid (fun (W : World) (h : Env w W [(w.heap.size + 1 + 1, 26, #[.bool false, .string ⟨#[]⟩]), (w.heap.size + 1, 26, #[.bool nb, .string sb]), (w.heap.size, 26, #[.bool na, .string sa])]) => (show W.cell? ⟨w.heap.size, 0, none⟩ = some (.bool na) ∧ W.cell? ⟨w.heap.size, 1, none⟩ = some (.string sa) ∧ W.cell? ⟨w.heap.size + 1, 0, none⟩ = some (.bool nb) ∧ W.cell? ⟨w.heap.size + 1, 1, none⟩ = some (.string sb) from ⟨(Env.at_ h 2 rfl).cell 0, (Env.at_ h 2 rfl).cell 1, (Env.at_ h 1 rfl).cell 0, (Env.at_ h 1 rfl).cell 1⟩))
  refine wp_region_noPanic ?_
  refine wp_region_HK (fun w' => w'.cell? ⟨w.heap.size, 0, none⟩ = some (.bool na) ∧ w'.cell? ⟨w.heap.size, 1, none⟩ = some (.string sa) ∧ w'.cell? ⟨w.heap.size + 1, 0, none⟩ = some (.bool nb) ∧ w'.cell? ⟨w.heap.size + 1, 1, none⟩ = some (.string sb)) 4 (by kernel_rfl) (Cf1.out _ E1.out.drew) (fun hHeld => ?_)
  refine wpHK_take (i := 0) (oi := Oper.mk (some 5) _ _ _ _ _) (v := ?_) rfl (by kernel_rfl) (by kernel_rfl) (by kernel_rfl) (by kernel_rfl) (fun _ _ _ h => h) (Or.inl ⟨by rfl, ?_⟩) (by assumption) ?_
  rotate_left
  · (intro w' hSw; (try dsimp only at hSw); (obtain ⟨s0, s1, s2, s3⟩ := hSw); go_simp; try with_reducible rfl)
  try simp only [Act.put, List.setIfInBounds_toArray, List.set_cons_zero, List.set_cons_succ]
  refine wpHK_take (i := 1) (oi := Oper.mk (some 6) _ _ _ _ _) (v := ?_) rfl (by kernel_rfl) (by kernel_rfl) (by kernel_rfl) (by kernel_rfl) (fun _ _ _ h => h) (Or.inl ⟨by rfl, ?_⟩) (by assumption) ?_
  rotate_left
  · (intro w' hSw; (try dsimp only at hSw); (obtain ⟨s0, s1, s2, s3⟩ := hSw); go_simp; try with_reducible rfl)
  try simp only [Act.put, List.setIfInBounds_toArray, List.set_cons_zero, List.set_cons_succ]
  refine wpHK_one (j := 2) (o := Oper.mk (some 7) _ _ _ _ _) rfl (by kernel_rfl) (fun K hK => ?_)
  go_simp
  refine (H47.out _).mono ?_
  rintro e V1 ⟨rfl, hb⟩
  have F1 := Lib.hid (Env.call E1.out.drew hb)
  clear hb
  refine hK.out _ _ (Cf1.out _ F1.out) (fun _ => ?_)
  clear hK K hHeld
  have hHeld := (Cf1.out _ F1.out)
  try simp only [Act.put, List.setIfInBounds_toArray, List.set_cons_zero, List.set_cons_succ]
  refine wpHK_one (j := 3) (o := Oper.mk (some 8) _ _ _ _ _) rfl (by kernel_rfl) (fun K hK => ?_)
  go_simp
  refine (H17.out _).mono ?_
  rintro e V2 ⟨rfl, hb⟩
  have F2 := Lib.hid (Env.call F1.out hb)
  clear hb
  refine hK.out _ _ (Cf1.out _ F2.out) (fun _ => ?_)
  clear hK K hHeld
  have hHeld := (Cf1.out _ F2.out)
  try simp only [Act.put, List.setIfInBounds_toArray, List.set_cons_zero, List.set_cons_succ]
  refine wpHK_tail (j := 4) (o := Oper.mk (none) _ _ _ _ _) rfl (by kernel_rfl) (by decide) (fun K hK => ?_)
  have n4 := Env.at_ F2.out 0 rfl
  have y0 := n4.cell 0
  have y1 := n4.cell 1
  have y2 := n4.frozen 0
  have y3 := n4.frozen 1
  simp at y0 y1
  go_simp
  refine hK.out _ _ ?_
  clear hK K
  try simp only [Act.put, List.setIfInBounds_toArray, List.set_cons_zero, List.set_cons_succ]
  refine wpHK_done (by kernel_rfl) ?_ _
  refine NoPanic.normal ?_
  go_wp2_with fail
  have n5 := ((Env.at_ F2.out 0 rfl).set_ 0 (.bool zs)).set_ 1 (.string zb)
  have d0 := n5.cell 0
  have d1 := n5.cell 1
  simp at d0 d1
  refine bodyPost_ret (v := .agg #[.bool zs, .string zb]) (by simp [results, Try.results31, go_sem, d0, d1]) rfl ?_
  exact ⟨by rw [ez], ((F2.out.1).setCell (by show w.heap.size ≤ w.heap.size + 1 + 1; omega) _).setCell (by show w.heap.size ≤ w.heap.size + 1 + 1; omega) _⟩
set_option maxRecDepth 100000 in
set_option maxHeartbeats 4000000 in
theorem rcmp_lt {w : World} {na nb : Bool} {sa sb : ByteArray} (ha : Fmd sa) (hb : Fmd sb) (hs : sg (num (na, sa)) ≠ sg (num (nb, sb))) (hlt : sg (num (na, sa)) < sg (num (nb, sb))) :
    Calls Try.prog 30 #[.agg #[.bool na, .string sa], .agg #[.bool nb, .string sb]] w (Calm w (.int .i64 (cmpI (num (na, sa)) (num (nb, sb))))) := by
  have HS := Lib.hid (fun W : World => rsign_any (w := W) (n := na) ha)
  have HT := Lib.hid (fun W : World => rsign_any (w := W) (n := nb) hb)
  have hb1 := sg_bounds (num (na, sa))
  have hb2 := sg_bounds (num (nb, sb))
  obtain ⟨hb11, hb12⟩ := hb1
  obtain ⟨hb21, hb22⟩ := hb2
  have hz := cmp_sg.1 hs
  rw [hz]
  rw [if_pos hlt]
  have hbe : (sg (num (na, sa)) == sg (num (nb, sb))) = false := beq_eq_false_iff_ne.2 hs
  generalize sg (num (na, sa)) = zx at *
  generalize sg (num (nb, sb)) = zy at *
  clear hz
  have HA := Lib.hid (fun W : World => words_any (w := W) (by have := ha.2; omega) ha.1)
  have HB := Lib.hid (fun W : World => words_any (w := W) (by have := hb.2; omega) hb.1)
  have Hla := Lib.hid (And.intro ha.len hb.len)
  have Hab := Lib.hid (And.intro ha hb)
  obtain ⟨a, hae⟩ : ∃ a, a = bval sa.data.toList := ⟨_, rfl⟩
  obtain ⟨b, hbe⟩ : ∃ b, b = bval sb.data.toList := ⟨_, rfl⟩
  rw [← hae] at HA
  rw [← hbe] at HB
  rw [← hae, ← hbe] at Hla
  have Hnum := Lib.hid (show num (na, sa) = sgn na a ∧ num (nb, sb) = sgn nb b from ⟨by rw [hae]; rfl, by rw [hbe]; rfl⟩)
  (try rw [← hae, ← hbe])
  clear hae hbe ha hb
  have E0 := Lib.hid (Env.nil w)
  go_enter Try.func30, Try.ntmps30
  go_upto_region 1 with fail
  have E1 : Hid (Env w ((w.alloc (.cells #[.bool na, .string sa] 26)).alloc (.cells #[.bool nb, .string sb] 26)) [(w.heap.size + 1, 26, #[.bool nb, .string sb]), (w.heap.size, 26, #[.bool na, .string sa])]) := Lib.hid (by have h := (Env.new (Env.new E0.out 26 #[.bool na, .string sa]) 26 #[.bool nb, .string sb]); (try simp only [World.size_alloc] at h); exact h)
  generalize ((w.alloc (.cells #[.bool na, .string sa] 26)).alloc (.cells #[.bool nb, .string sb] 26)) = W1 at E1 ⊢
  have Cf1 := Lib.hid (fun (W : World) (h : Env w W [(w.heap.size + 1, 26, #[.bool nb, .string sb]), (w.heap.size, 26, #[.bool na, .string sa])]) => (show W.cell? ⟨w.heap.size, 0, none⟩ = some (.bool na) ∧ W.cell? ⟨w.heap.size, 1, none⟩ = some (.string sa) ∧ W.cell? ⟨w.heap.size + 1, 0, none⟩ = some (.bool nb) ∧ W.cell? ⟨w.heap.size + 1, 1, none⟩ = some (.string sb) from ⟨(Env.at_ h 1 rfl).cell 0, (Env.at_ h 1 rfl).cell 1, (Env.at_ h 0 rfl).cell 0, (Env.at_ h 0 rfl).cell 1⟩))
  refine wp_region_noPanic ?_
  refine wp_region_HK (fun w' => w'.cell? ⟨w.heap.size, 0, none⟩ = some (.bool na) ∧ w'.cell? ⟨w.heap.size, 1, none⟩ = some (.string sa) ∧ w'.cell? ⟨w.heap.size + 1, 0, none⟩ = some (.bool nb) ∧ w'.cell? ⟨w.heap.size + 1, 1, none⟩ = some (.string sb)) 4 (by kernel_rfl) (Cf1.out _ E1.out.drew) (fun hHeld => ?_)
  refine wpHK_take (i := 0) (oi := Oper.mk (some 7) _ _ _ _ _) (v := ?_) rfl (by kernel_rfl) (by kernel_rfl) (by kernel_rfl) (by kernel_rfl) (fun _ _ _ h => h) (Or.inl ⟨by rfl, ?_⟩) (by assumption) ?_
  rotate_left
  · (intro w' hSw; (try dsimp only at hSw); (obtain ⟨s0, s1, s2, s3⟩ := hSw); go_simp; try with_reducible rfl)
  try simp only [Act.put, List.setIfInBounds_toArray, List.set_cons_zero, List.set_cons_succ]
  refine wpHK_take (i := 2) (oi := Oper.mk (some 9) _ _ _ _ _) (v := ?_) rfl (by kernel_rfl) (by kernel_rfl) (by kernel_rfl) (by kernel_rfl) (fun _ _ _ h => h) (Or.inl ⟨by rfl, ?_⟩) (by assumption) ?_
  rotate_left
  · (intro w' hSw; (try dsimp only at hSw); (obtain ⟨s0, s1, s2, s3⟩ := hSw); go_simp; try with_reducible rfl)
  try simp only [Act.put, List.setIfInBounds_toArray, List.set_cons_zero, List.set_cons_succ]
  refine wpHK_one (j := 1) (o := Oper.mk (some 8) _ _ _ _ _) rfl (by kernel_rfl) (fun K hK => ?_)
  go_simp
  refine (HS.out _).mono ?_
  rintro e V1 ⟨rfl, hb⟩
  have F1 := Lib.hid (Env.call E1.out.drew hb)
  clear hb
  refine hK.out _ _ (Cf1.out _ F1.out) (fun _ => ?_)
  clear hK K hHeld
  have hHeld := (Cf1.out _ F1.out)
  try simp only [Act.put, List.setIfInBounds_toArray, List.set_cons_zero, List.set_cons_succ]
  refine wpHK_one (j := 3) (o := Oper.mk (some 10) _ _ _ _ _) rfl (by kernel_rfl) (fun K hK => ?_)
  go_simp
  refine (HT.out _).mono ?_
  rintro e V2 ⟨rfl, hb⟩
  have F2 := Lib.hid (Env.call F1.out hb)
  clear hb
  refine hK.out _ _ (Cf1.out _ F2.out) (fun _ => ?_)
  clear hK K hHeld
  have hHeld := (Cf1.out _ F2.out)
  try simp only [Act.put, List.setIfInBounds_toArray, List.set_cons_zero, List.set_cons_succ]
  refine wpHK_pure (i := 4) (oi := Oper.mk (some 5) _ _ _ _ _) (v := ?_) rfl (by kernel_rfl) (by kernel_rfl) (by kernel_rfl) (fun _ _ _ h => h) (Or.inl ⟨by rfl, ?_⟩) ?_
  rotate_left
  · (intro w' _; go_simp; try with_reducible rfl)
  try simp only [Act.put, List.setIfInBounds_toArray, List.set_cons_zero, List.set_cons_succ]
  refine wpHK_pure (i := 5) (oi := Oper.mk (some 6) _ _ _ _ _) (v := ?_) rfl (by kernel_rfl) (by kernel_rfl) (by kernel_rfl) (fun _ _ _ h => h) (Or.inl ⟨by rfl, ?_⟩) ?_
  rotate_left
  · (intro w' _; go_simp; try with_reducible rfl)
  try simp only [Act.put, List.setIfInBounds_toArray, List.set_cons_zero, List.set_cons_succ]
  refine wpHK_done (by kernel_rfl) ?_ _
  refine NoPanic.normal ?_
  go_wp2_with fail
  go_ret
  exact ⟨rfl, F2.out.1⟩
set_option maxRecDepth 100000 in
set_option maxHeartbeats 4000000 in
theorem rcmp_gt {w : World} {na nb : Bool} {sa sb : ByteArray} (ha : Fmd sa) (hb : Fmd sb) (hs : sg (num (na, sa)) ≠ sg (num (nb, sb))) (hlt : ¬ sg (num (na, sa)) < sg (num (nb, sb))) :
    Calls Try.prog 30 #[.agg #[.bool na, .string sa], .agg #[.bool nb, .string sb]] w (Calm w (.int .i64 (cmpI (num (na, sa)) (num (nb, sb))))) := by
  have HS := Lib.hid (fun W : World => rsign_any (w := W) (n := na) ha)
  have HT := Lib.hid (fun W : World => rsign_any (w := W) (n := nb) hb)
  have hb1 := sg_bounds (num (na, sa))
  have hb2 := sg_bounds (num (nb, sb))
  obtain ⟨hb11, hb12⟩ := hb1
  obtain ⟨hb21, hb22⟩ := hb2
  have hz := cmp_sg.1 hs
  rw [hz]
  rw [if_neg hlt]
  have hbe : (sg (num (na, sa)) == sg (num (nb, sb))) = false := beq_eq_false_iff_ne.2 hs
  generalize sg (num (na, sa)) = zx at *
  generalize sg (num (nb, sb)) = zy at *
  clear hz
  have HA := Lib.hid (fun W : World => words_any (w := W) (by have := ha.2; omega) ha.1)
  have HB := Lib.hid (fun W : World => words_any (w := W) (by have := hb.2; omega) hb.1)
  have Hla := Lib.hid (And.intro ha.len hb.len)
  have Hab := Lib.hid (And.intro ha hb)
  obtain ⟨a, hae⟩ : ∃ a, a = bval sa.data.toList := ⟨_, rfl⟩
  obtain ⟨b, hbe⟩ : ∃ b, b = bval sb.data.toList := ⟨_, rfl⟩
  rw [← hae] at HA
  rw [← hbe] at HB
  rw [← hae, ← hbe] at Hla
  have Hnum := Lib.hid (show num (na, sa) = sgn na a ∧ num (nb, sb) = sgn nb b from ⟨by rw [hae]; rfl, by rw [hbe]; rfl⟩)
  (try rw [← hae, ← hbe])
  clear hae hbe ha hb
  have E0 := Lib.hid (Env.nil w)
  go_enter Try.func30, Try.ntmps30
  go_upto_region 1 with fail
  have E1 : Hid (Env w ((w.alloc (.cells #[.bool na, .string sa] 26)).alloc (.cells #[.bool nb, .string sb] 26)) [(w.heap.size + 1, 26, #[.bool nb, .string sb]), (w.heap.size, 26, #[.bool na, .string sa])]) := Lib.hid (by have h := (Env.new (Env.new E0.out 26 #[.bool na, .string sa]) 26 #[.bool nb, .string sb]); (try simp only [World.size_alloc] at h); exact h)
  generalize ((w.alloc (.cells #[.bool na, .string sa] 26)).alloc (.cells #[.bool nb, .string sb] 26)) = W1 at E1 ⊢
  have Cf1 := Lib.hid (fun (W : World) (h : Env w W [(w.heap.size + 1, 26, #[.bool nb, .string sb]), (w.heap.size, 26, #[.bool na, .string sa])]) => (show W.cell? ⟨w.heap.size, 0, none⟩ = some (.bool na) ∧ W.cell? ⟨w.heap.size, 1, none⟩ = some (.string sa) ∧ W.cell? ⟨w.heap.size + 1, 0, none⟩ = some (.bool nb) ∧ W.cell? ⟨w.heap.size + 1, 1, none⟩ = some (.string sb) from ⟨(Env.at_ h 1 rfl).cell 0, (Env.at_ h 1 rfl).cell 1, (Env.at_ h 0 rfl).cell 0, (Env.at_ h 0 rfl).cell 1⟩))
  refine wp_region_noPanic ?_
  refine wp_region_HK (fun w' => w'.cell? ⟨w.heap.size, 0, none⟩ = some (.bool na) ∧ w'.cell? ⟨w.heap.size, 1, none⟩ = some (.string sa) ∧ w'.cell? ⟨w.heap.size + 1, 0, none⟩ = some (.bool nb) ∧ w'.cell? ⟨w.heap.size + 1, 1, none⟩ = some (.string sb)) 4 (by kernel_rfl) (Cf1.out _ E1.out.drew) (fun hHeld => ?_)
  refine wpHK_take (i := 0) (oi := Oper.mk (some 7) _ _ _ _ _) (v := ?_) rfl (by kernel_rfl) (by kernel_rfl) (by kernel_rfl) (by kernel_rfl) (fun _ _ _ h => h) (Or.inl ⟨by rfl, ?_⟩) (by assumption) ?_
  rotate_left
  · (intro w' hSw; (try dsimp only at hSw); (obtain ⟨s0, s1, s2, s3⟩ := hSw); go_simp; try with_reducible rfl)
  try simp only [Act.put, List.setIfInBounds_toArray, List.set_cons_zero, List.set_cons_succ]
  refine wpHK_take (i := 2) (oi := Oper.mk (some 9) _ _ _ _ _) (v := ?_) rfl (by kernel_rfl) (by kernel_rfl) (by kernel_rfl) (by kernel_rfl) (fun _ _ _ h => h) (Or.inl ⟨by rfl, ?_⟩) (by assumption) ?_
  rotate_left
  · (intro w' hSw; (try dsimp only at hSw); (obtain ⟨s0, s1, s2, s3⟩ := hSw); go_simp; try with_reducible rfl)
  try simp only [Act.put, List.setIfInBounds_toArray, List.set_cons_zero, List.set_cons_succ]
  refine wpHK_one (j := 1) (o := Oper.mk (some 8) _ _ _ _ _) rfl (by kernel_rfl) (fun K hK => ?_)
  go_simp
  refine (HS.out _).mono ?_
  rintro e V1 ⟨rfl, hb⟩
  have F1 := Lib.hid (Env.call E1.out.drew hb)
  clear hb
  refine hK.out _ _ (Cf1.out _ F1.out) (fun _ => ?_)
  clear hK K hHeld
  have hHeld := (Cf1.out _ F1.out)
  try simp only [Act.put, List.setIfInBounds_toArray, List.set_cons_zero, List.set_cons_succ]
  refine wpHK_one (j := 3) (o := Oper.mk (some 10) _ _ _ _ _) rfl (by kernel_rfl) (fun K hK => ?_)
  go_simp
  refine (HT.out _).mono ?_
  rintro e V2 ⟨rfl, hb⟩
  have F2 := Lib.hid (Env.call F1.out hb)
  clear hb
  refine hK.out _ _ (Cf1.out _ F2.out) (fun _ => ?_)
  clear hK K hHeld
  have hHeld := (Cf1.out _ F2.out)
  try simp only [Act.put, List.setIfInBounds_toArray, List.set_cons_zero, List.set_cons_succ]
  refine wpHK_pure (i := 4) (oi := Oper.mk (some 5) _ _ _ _ _) (v := ?_) rfl (by kernel_rfl) (by kernel_rfl) (by kernel_rfl) (fun _ _ _ h => h) (Or.inl ⟨by rfl, ?_⟩) ?_
  rotate_left
  · (intro w' _; go_simp; try with_reducible rfl)
  try simp only [Act.put, List.setIfInBounds_toArray, List.set_cons_zero, List.set_cons_succ]
  refine wpHK_pure (i := 5) (oi := Oper.mk (some 6) _ _ _ _ _) (v := ?_) rfl (by kernel_rfl) (by kernel_rfl) (by kernel_rfl) (fun _ _ _ h => h) (Or.inl ⟨by rfl, ?_⟩) ?_
  rotate_left
  · (intro w' _; go_simp; try with_reducible rfl)
  try simp only [Act.put, List.setIfInBounds_toArray, List.set_cons_zero, List.set_cons_succ]
  refine wpHK_done (by kernel_rfl) ?_ _
  refine NoPanic.normal ?_
  go_wp2_with fail
  go_ret
  exact ⟨rfl, F2.out.1⟩
set_option maxRecDepth 100000 in
set_option maxHeartbeats 4000000 in
theorem rcmp_same {w : World} {na nb : Bool} {sa sb : ByteArray} (ha : Fmd sa) (hb : Fmd sb) (hs : sg (num (na, sa)) = sg (num (nb, sb))) :
    Calls Try.prog 30 #[.agg #[.bool na, .string sa], .agg #[.bool nb, .string sb]] w (Calm w (.int .i64 (cmpI (num (na, sa)) (num (nb, sb))))) := by
  have HS := Lib.hid (fun W : World => rsign_any (w := W) (n := na) ha)
  have HT := Lib.hid (fun W : World => rsign_any (w := W) (n := nb) hb)
  have hb1 := sg_bounds (num (na, sa))
  have hb2 := sg_bounds (num (nb, sb))
  obtain ⟨hb11, hb12⟩ := hb1
  obtain ⟨hb21, hb22⟩ := hb2
  have hz := cmp_sg.2 hs
  have hbe : (sg (num (na, sa)) == sg (num (nb, sb))) = true := beq_iff_eq.2 hs
  rw [show (num (na, sa)).natAbs = bval sa.data.toList from sgn_abs _ _, show (num (nb, sb)).natAbs = bval sb.data.toList from sgn_abs _ _] at hz
  rw [← hs] at HT hbe
  rw [← hz]
  clear hz hs hb21 hb22
  generalize sg (num (na, sa)) = zx at *
  have HA := Lib.hid (fun W : World => words_any (w := W) (by have := ha.2; omega) ha.1)
  have HB := Lib.hid (fun W : World => words_any (w := W) (by have := hb.2; omega) hb.1)
  have Hla := Lib.hid (And.intro ha.len hb.len)
  have Hab := Lib.hid (And.intro ha hb)
  obtain ⟨a, hae⟩ : ∃ a, a = bval sa.data.toList := ⟨_, rfl⟩
  obtain ⟨b, hbe⟩ : ∃ b, b = bval sb.data.toList := ⟨_, rfl⟩
  rw [← hae] at HA
  rw [← hbe] at HB
  rw [← hae, ← hbe] at Hla
  have Hnum := Lib.hid (show num (na, sa) = sgn na a ∧ num (nb, sb) = sgn nb b from ⟨by rw [hae]; rfl, by rw [hbe]; rfl⟩)
  (try rw [← hae, ← hbe])
  clear hae hbe ha hb
  have E0 := Lib.hid (Env.nil w)
  go_enter Try.func30, Try.ntmps30
  go_upto_region 1 with fail
  have E1 : Hid (Env w ((w.alloc (.cells #[.bool na, .string sa] 26)).alloc (.cells #[.bool nb, .string sb] 26)) [(w.heap.size + 1, 26, #[.bool nb, .string sb]), (w.heap.size, 26, #[.bool na, .string sa])]) := Lib.hid (by have h := (Env.new (Env.new E0.out 26 #[.bool na, .string sa]) 26 #[.bool nb, .string sb]); (try simp only [World.size_alloc] at h); exact h)
  generalize ((w.alloc (.cells #[.bool na, .string sa] 26)).alloc (.cells #[.bool nb, .string sb] 26)) = W1 at E1 ⊢
  have Cf1 := Lib.hid (fun (W : World) (h : Env w W [(w.heap.size + 1, 26, #[.bool nb, .string sb]), (w.heap.size, 26, #[.bool na, .string sa])]) => (show W.cell? ⟨w.heap.size, 0, none⟩ = some (.bool na) ∧ W.cell? ⟨w.heap.size, 1, none⟩ = some (.string sa) ∧ W.cell? ⟨w.heap.size + 1, 0, none⟩ = some (.bool nb) ∧ W.cell? ⟨w.heap.size + 1, 1, none⟩ = some (.string sb) from ⟨(Env.at_ h 1 rfl).cell 0, (Env.at_ h 1 rfl).cell 1, (Env.at_ h 0 rfl).cell 0, (Env.at_ h 0 rfl).cell 1⟩))
  refine wp_region_noPanic ?_
  refine wp_region_HK (fun w' => w'.cell? ⟨w.heap.size, 0, none⟩ = some (.bool na) ∧ w'.cell? ⟨w.heap.size, 1, none⟩ = some (.string sa) ∧ w'.cell? ⟨w.heap.size + 1, 0, none⟩ = some (.bool nb) ∧ w'.cell? ⟨w.heap.size + 1, 1, none⟩ = some (.string sb)) 4 (by kernel_rfl) (Cf1.out _ E1.out.drew) (fun hHeld => ?_)
  refine wpHK_take (i := 0) (oi := Oper.mk (some 7) _ _ _ _ _) (v := ?_) rfl (by kernel_rfl) (by kernel_rfl) (by kernel_rfl) (by kernel_rfl) (fun _ _ _ h => h) (Or.inl ⟨by rfl, ?_⟩) (by assumption) ?_
  rotate_left
  · (intro w' hSw; (try dsimp only at hSw); (obtain ⟨s0, s1, s2, s3⟩ := hSw); go_simp; try with_reducible rfl)
  try simp only [Act.put, List.setIfInBounds_toArray, List.set_cons_zero, List.set_cons_succ]
  refine wpHK_take (i := 2) (oi := Oper.mk (some 9) _ _ _ _ _) (v := ?_) rfl (by kernel_rfl) (by kernel_rfl) (by kernel_rfl) (by kernel_rfl) (fun _ _ _ h => h) (Or.inl ⟨by rfl, ?_⟩) (by assumption) ?_
  rotate_left
  · (intro w' hSw; (try dsimp only at hSw); (obtain ⟨s0, s1, s2, s3⟩ := hSw); go_simp; try with_reducible rfl)
  try simp only [Act.put, List.setIfInBounds_toArray, List.set_cons_zero, List.set_cons_succ]
  refine wpHK_one (j := 1) (o := Oper.mk (some 8) _ _ _ _ _) rfl (by kernel_rfl) (fun K hK => ?_)
  go_simp
  refine (HS.out _).mono ?_
  rintro e V1 ⟨rfl, hb⟩
  have F1 := Lib.hid (Env.call E1.out.drew hb)
  clear hb
  refine hK.out _ _ (Cf1.out _ F1.out) (fun _ => ?_)
  clear hK K hHeld
  have hHeld := (Cf1.out _ F1.out)
  try simp only [Act.put, List.setIfInBounds_toArray, List.set_cons_zero, List.set_cons_succ]
  refine wpHK_one (j := 3) (o := Oper.mk (some 10) _ _ _ _ _) rfl (by kernel_rfl) (fun K hK => ?_)
  go_simp
  refine (HT.out _).mono ?_
  rintro e V2 ⟨rfl, hb⟩
  have F2 := Lib.hid (Env.call F1.out hb)
  clear hb
  refine hK.out _ _ (Cf1.out _ F2.out) (fun _ => ?_)
  clear hK K hHeld
  have hHeld := (Cf1.out _ F2.out)
  try simp only [Act.put, List.setIfInBounds_toArray, List.set_cons_zero, List.set_cons_succ]
  refine wpHK_pure (i := 4) (oi := Oper.mk (some 5) _ _ _ _ _) (v := ?_) rfl (by kernel_rfl) (by kernel_rfl) (by kernel_rfl) (fun _ _ _ h => h) (Or.inl ⟨by rfl, ?_⟩) ?_
  rotate_left
  · (intro w' _; go_simp; try with_reducible rfl)
  try simp only [Act.put, List.setIfInBounds_toArray, List.set_cons_zero, List.set_cons_succ]
  refine wpHK_pure (i := 5) (oi := Oper.mk (some 6) _ _ _ _ _) (v := ?_) rfl (by kernel_rfl) (by kernel_rfl) (by kernel_rfl) (fun _ _ _ h => h) (Or.inl ⟨by rfl, ?_⟩) ?_
  rotate_left
  · (intro w' _; go_simp; try with_reducible rfl)
  try simp only [Act.put, List.setIfInBounds_toArray, List.set_cons_zero, List.set_cons_succ]
  refine wpHK_done (by kernel_rfl) ?_ _
  refine NoPanic.normal ?_
  go_upto_region 6 with fail
  have hw := cmp_wrap (a := a) (b := b) hb11 hb12
  have Cf6 := Lib.hid (fun (W : World) (h : Env w W [(w.heap.size + 1, 26, #[.bool nb, .string sb]), (w.heap.size, 26, #[.bool na, .string sa])]) => (show W.cell? ⟨w.heap.size, 0, none⟩ = some (.bool na) ∧ W.cell? ⟨w.heap.size, 1, none⟩ = some (.string sa) ∧ W.cell? ⟨w.heap.size + 1, 0, none⟩ = some (.bool nb) ∧ W.cell? ⟨w.heap.size + 1, 1, none⟩ = some (.string sb) from ⟨(Env.at_ h 1 rfl).cell 0, (Env.at_ h 1 rfl).cell 1, (Env.at_ h 0 rfl).cell 0, (Env.at_ h 0 rfl).cell 1⟩))
  refine wp_region_noPanic ?_
  refine wp_region_HK (fun w' => w'.cell? ⟨w.heap.size, 0, none⟩ = some (.bool na) ∧ w'.cell? ⟨w.heap.size, 1, none⟩ = some (.string sa) ∧ w'.cell? ⟨w.heap.size + 1, 0, none⟩ = some (.bool nb) ∧ w'.cell? ⟨w.heap.size + 1, 1, none⟩ = some (.string sb)) 9 (by kernel_rfl) (Cf6.out _ F2.out.drew) (fun hHeld => ?_)
  refine wpHK_pure (i := 0) (oi := Oper.mk (some 17) _ _ _ _ _) (v := ?_) rfl (by kernel_rfl) (by kernel_rfl) (by kernel_rfl) (fun _ _ _ h => h) (Or.inl ⟨by rfl, ?_⟩) ?_
  rotate_left
  · (intro w' _; go_simp; try with_reducible rfl)
  try simp only [Act.put, List.setIfInBounds_toArray, List.set_cons_zero, List.set_cons_succ]
  refine wpHK_pure (i := 1) (oi := Oper.mk (some 18) _ _ _ _ _) (v := ?_) rfl (by kernel_rfl) (by kernel_rfl) (by kernel_rfl) (fun _ _ _ h => h) (Or.inl ⟨by rfl, ?_⟩) ?_
  rotate_left
  · (intro w' _; go_simp; try with_reducible rfl)
  try simp only [Act.put, List.setIfInBounds_toArray, List.set_cons_zero, List.set_cons_succ]
  refine wpHK_pure (i := 4) (oi := Oper.mk (some 21) _ _ _ _ _) (v := ?_) rfl (by kernel_rfl) (by kernel_rfl) (by kernel_rfl) (fun _ _ _ h => h) (Or.inl ⟨by rfl, ?_⟩) ?_
  rotate_left
  · (intro w' _; go_simp; try with_reducible rfl)
  try simp only [Act.put, List.setIfInBounds_toArray, List.set_cons_zero, List.set_cons_succ]
  refine wpHK_take (i := 2) (oi := Oper.mk (some 19) _ _ _ _ _) (v := ?_) rfl (by kernel_rfl) (by kernel_rfl) (by kernel_rfl) (by kernel_rfl) (fun _ _ _ h => h) (Or.inl ⟨by rfl, ?_⟩) (by assumption) ?_
  rotate_left
  · (intro w' hSw; (try dsimp only at hSw); (obtain ⟨s0, s1, s2, s3⟩ := hSw); go_simp; try with_reducible rfl)
  try simp only [Act.put, List.setIfInBounds_toArray, List.set_cons_zero, List.set_cons_succ]
  refine wpHK_take (i := 5) (oi := Oper.mk (some 22) _ _ _ _ _) (v := ?_) rfl (by kernel_rfl) (by kernel_rfl) (by kernel_rfl) (by kernel_rfl) (fun _ _ _ h => h) (Or.inl ⟨by rfl, ?_⟩) (by assumption) ?_
  rotate_left
  · (intro w' hSw; (try dsimp only at hSw); (obtain ⟨s0, s1, s2, s3⟩ := hSw); go_simp; try with_reducible rfl)
  try simp only [Act.put, List.setIfInBounds_toArray, List.set_cons_zero, List.set_cons_succ]
  refine wpHK_one (j := 3) (o := Oper.mk (some 20) _ _ _ _ _) rfl (by kernel_rfl) (fun K hK => ?_)
  go_simp
  refine (HA.out _).mono ?_
  rintro e V3 ⟨A1, m1, c1, rfl, hm, hmc, hcl, hr, hb⟩
  have F3 := Lib.hid (Env.call F2.out.drew hb)
  have R1 := Lib.hid (And.intro hm.out (And.intro hmc (And.intro hcl hr)))
  have hbl := Lib.hid hb
  clear hm hmc hcl hr hb
  refine hK.out _ _ (Cf6.out _ F3.out) (fun _ => ?_)
  clear hK K hHeld
  have hHeld := (Cf6.out _ F3.out)
  try simp only [Act.put, List.setIfInBounds_toArray, List.set_cons_zero, List.set_cons_succ]
  refine wpHK_one (j := 6) (o := Oper.mk (some 23) _ _ _ _ _) rfl (by kernel_rfl) (fun K hK => ?_)
  go_simp
  refine (HB.out _).mono ?_
  rintro e V4 ⟨A2, m2, c2, rfl, hm, hmc, hcl, hr, hb⟩
  have F4 := Lib.hid (Env.call F3.out hb)
  have R2 := Lib.hid (And.intro hm.out (And.intro hmc (And.intro hcl hr)))
  have hbl := Lib.hid hb
  clear hm hmc hcl hr hb
  have R1' := Lib.hid (And.intro R1.out.1 (And.intro R1.out.2.1 (And.intro R1.out.2.2.1 ((R1.out.2.2.2.below hbl.out).more hbl.out.size))))
  clear R1 hbl
  have R1 := R1'
  clear R1'
  refine hK.out _ _ (Cf6.out _ F4.out) (fun _ => ?_)
  clear hK K hHeld
  have hHeld := (Cf6.out _ F4.out)
  try simp only [Act.put, List.setIfInBounds_toArray, List.set_cons_zero, List.set_cons_succ]
  refine wpHK_one (j := 7) (o := Oper.mk (some 24) _ _ _ _ _) rfl (by kernel_rfl) (fun K hK => ?_)
  go_simp
  refine (runder_any (w := V4) (c := c1) (d := c2) R1.out.2.2.2 R2.out.2.2.2 R1.out.1 R2.out.1 (by have := R1.out.1; have := Hla.out.1; omega) (by have := R2.out.1; have := Hla.out.2; omega)).mono ?_
  rintro e V5 ⟨q, rfl, rfl⟩
  have F5 := Lib.hid (F4.out.drewN q)
  refine hK.out _ _ (Cf6.out _ F5.out) (fun _ => ?_)
  clear hK K hHeld
  have hHeld := (Cf6.out _ F5.out)
  try simp only [Act.put, List.setIfInBounds_toArray, List.set_cons_zero, List.set_cons_succ]
  refine wpHK_pure (i := 8) (oi := Oper.mk (some 25) _ _ _ _ _) (v := ?_) rfl (by kernel_rfl) (by kernel_rfl) (by kernel_rfl) (fun _ _ _ h => h) (Or.inl ⟨by rfl, ?_⟩) ?_
  rotate_left
  · (intro w' _; go_simp; try with_reducible rfl)
  try simp only [Act.put, List.setIfInBounds_toArray, List.set_cons_zero, List.set_cons_succ]
  refine wpHK_pure (i := 9) (oi := Oper.mk (some 4) _ _ _ _ _) (v := ?_) rfl (by kernel_rfl) (by kernel_rfl) (by kernel_rfl) (fun _ _ _ h => h) (Or.inl ⟨by rfl, ?_⟩) ?_
  rotate_left
  · (intro w' _; go_simp; try with_reducible rfl)
  try simp only [Act.put, List.setIfInBounds_toArray, List.set_cons_zero, List.set_cons_succ]
  refine wpHK_done (by kernel_rfl) ?_ _
  refine NoPanic.normal ?_
  go_wp2_with fail
  go_ret
  exact ⟨rfl, F5.out.1⟩
theorem rcmp_any {w : World} {na nb : Bool} {sa sb : ByteArray} (ha : Fmd sa) (hb : Fmd sb) :
    Calls Try.prog 30 #[.agg #[.bool na, .string sa], .agg #[.bool nb, .string sb]] w (Calm w (.int .i64 (cmpI (num (na, sa)) (num (nb, sb))))) := by
  by_cases hs : sg (num (na, sa)) = sg (num (nb, sb))
  · exact rcmp_same ha hb hs
  · by_cases hlt : sg (num (na, sa)) < sg (num (nb, sb))
    · exact rcmp_lt ha hb hs hlt
    · exact rcmp_gt ha hb hs hlt
end Go.Proofs.Ytpnginnjbdedbaa

/- The law's long, bad, is, arg. -/
namespace Go.Proofs.Ytpnginnjbdedbaa
open Go.RowKit
open Wh
set_option linter.unusedSimpArgs false

def isLong (a : Bool × ByteArray) : Bool := decide (400 < a.2.size) && mayB a.1 a.2
def isBad (a : Bool × ByteArray) : Bool := !mayB a.1 a.2
theorem any_take {f : Bool × ByteArray → Bool} {l : List (Bool × ByteArray)} {i : Nat} (h : i < l.length) (h0 : (l.take i).any f = false) (h1 : f l[i] = false) : (l.take (i + 1)).any f = false := by
  rw [List.take_succ_eq_append_getElem h, List.any_append, h0]
  simp [h1]
theorem any_hit {f : Bool × ByteArray → Bool} {l : List (Bool × ByteArray)} {i : Nat} (h : i < l.length) (h1 : f l[i] = true) : l.any f = true := List.any_eq_true.2 ⟨_, List.getElem_mem h, h1⟩
set_option maxRecDepth 100000 in
set_option maxHeartbeats 4000000 in
theorem bad_any {w : World} {B n c : Nat} {A : Option Addr} {l : List (Bool × ByteArray)} (hr : ReadsWh w B A l) (hB : B ≤ w.heap.size) (hn : n = l.length) (hnl : n ≤ 1000000000) :
    Calls Try.prog 16 #[.slice A n c] w (Calm w (.bool (l.any isBad))) := by
  have Hn := Lib.hid hn
  have Hr := Lib.hid hr
  have HM := Lib.hid (fun (W : World) (n : Bool) (s : ByteArray) => may_any (w := W) (n := n) (s := s))
  clear hn hr
  go_enter Try.func16, Try.ntmps16
  go_wp2_with fail
  go_loopg [3] n (fun k iv wr => ∃ (i : Nat), iv = .int .i64 (i : Int) ∧ k = n - i ∧ i ≤ n ∧ Below w.heap.size w wr ∧ Hid ((l.take i).any isBad = false))
  case atStart => exact ⟨0, rfl, by omega, by omega, Below.refl _ _, by rw [List.take_zero]; rfl⟩
  case round =>
    obtain ⟨i, rfl, hk, hi, hbel, ht⟩ := hrel
    have Hk := Lib.hid hk
    clear hk
    by_cases hin : i < n
    · have hil : i < l.length := by rw [← Hn.out]; exact hin
      obtain ⟨ad, rfl, hb1, c0, c1⟩ := ReadsWh.at_ (Reads.below Hr.out (hbel.mono hB)) hil
      have hii : (i : Int) < (n : Int) := by omega
      have Hhit := Lib.hid (any_hit (f := isBad) hil)
      have Htk := Lib.hid (any_take (f := isBad) hil ht.out)
      generalize l[i] = a at c0 c1 Hhit Htk
      obtain ⟨na, sa⟩ := a
      dsimp only at c0 c1
      go_wp2_with fail
      refine (HM.out _ _ _).mono ?_
      rintro e w2 ⟨rfl, h2⟩
      have hb2 := hbel.trans (h2.mono hbel.size)
      clear h2 c0 c1
      obtain ⟨b, hb⟩ : ∃ b, b = mayB na sa := ⟨_, rfl⟩
      rw [← hb]
      have Hb := Lib.hid hb
      clear hb
      cases b
      · go_wp2_with fail
        go_ret
        exact ⟨by rw [Hhit.out (by show (!mayB na sa) = true; rw [← Hb.out]; rfl)]; rfl, hb2⟩
      · go_wp2_with fail
        go_roundg (n - (i + 1))
        case measure => have := Hk.out; omega
        case rel => exact ⟨i + 1, rfl, rfl, by omega, hb2, Lib.hid (Htk.out (by show (!mayB na sa) = false; rw [← Hb.out]; rfl))⟩
    · have hii : (n : Int) ≤ (i : Int) := by omega
      have hfin : l.any isBad = false := by
        have h1 := ht.out
        rw [show i = l.length by have := Hn.out; omega, List.take_length] at h1
        exact h1
      have Hfin := Lib.hid hfin
      clear hfin
      go_wp2_with fail
      go_ret
      exact ⟨by rw [Hfin.out]; rfl, hbel⟩
set_option maxRecDepth 100000 in
set_option maxHeartbeats 4000000 in
theorem long_any {w : World} {B n c : Nat} {A : Option Addr} {l : List (Bool × ByteArray)} (hr : ReadsWh w B A l) (hB : B ≤ w.heap.size) (hn : n = l.length) (hnl : n ≤ 1000000000) :
    Calls Try.prog 12 #[.slice A n c] w (Calm w (.bool (l.any isLong))) := by
  have Hn := Lib.hid hn
  have Hr := Lib.hid hr
  have HM := Lib.hid (fun (W : World) (n : Bool) (s : ByteArray) => may_any (w := W) (n := n) (s := s))
  clear hn hr
  go_enter Try.func12, Try.ntmps12
  go_wp2_with fail
  go_loopg [3] n (fun k iv wr => ∃ (i : Nat), iv = .int .i64 (i : Int) ∧ k = n - i ∧ i ≤ n ∧ Below w.heap.size w wr ∧ Hid ((l.take i).any isLong = false))
  case atStart => exact ⟨0, rfl, by omega, by omega, Below.refl _ _, by rw [List.take_zero]; rfl⟩
  case round =>
    obtain ⟨i, rfl, hk, hi, hbel, ht⟩ := hrel
    have Hk := Lib.hid hk
    clear hk
    by_cases hin : i < n
    · have hil : i < l.length := by rw [← Hn.out]; exact hin
      obtain ⟨ad, rfl, hb1, c0, c1⟩ := ReadsWh.at_ (Reads.below Hr.out (hbel.mono hB)) hil
      have hii : (i : Int) < (n : Int) := by omega
      have Hhit := Lib.hid (any_hit (f := isLong) hil)
      have Htk := Lib.hid (any_take (f := isLong) hil ht.out)
      generalize l[i] = a at c0 c1 Hhit Htk
      obtain ⟨na, sa⟩ := a
      dsimp only at c0 c1
      by_cases h4 : 400 < sa.size
      · have d4 : decide ((400 : Int) < (sa.size : Int)) = true := decide_eq_true (by omega)
        have e4 := decide_eq_true h4
        have He := Lib.hid e4
        clear e4
        go_wp2_with fail
        refine (HM.out _ _ _).mono ?_
        rintro e w2 ⟨rfl, h2⟩
        have hb2 := hbel.trans (h2.mono hbel.size)
        clear h2 c0 c1
        obtain ⟨b, hb⟩ : ∃ b, b = mayB na sa := ⟨_, rfl⟩
        rw [← hb]
        have Hb := Lib.hid hb
        clear hb
        cases b
        · go_wp2_with fail
          go_roundg (n - (i + 1))
          case measure => have := Hk.out; omega
          case rel => exact ⟨i + 1, rfl, rfl, by omega, hb2, Lib.hid (Htk.out (by show (decide (400 < sa.size) && mayB na sa) = false; rw [← Hb.out, He.out]; rfl))⟩
        · go_wp2_with fail
          go_ret
          exact ⟨by rw [Hhit.out (by show (decide (400 < sa.size) && mayB na sa) = true; rw [← Hb.out, He.out]; rfl)]; rfl, hb2⟩
      · have d4 : decide ((400 : Int) < (sa.size : Int)) = false := decide_eq_false (by omega)
        have He := Lib.hid (decide_eq_false h4)
        go_wp2_with fail
        go_roundg (n - (i + 1))
        case measure => have := Hk.out; omega
        case rel => exact ⟨i + 1, rfl, rfl, by omega, hbel, Lib.hid (Htk.out (by show (decide (400 < sa.size) && mayB na sa) = false; rw [He.out]; rfl))⟩
    · have hii : (n : Int) ≤ (i : Int) := by omega
      have hfin : l.any isLong = false := by
        have h1 := ht.out
        rw [show i = l.length by have := Hn.out; omega, List.take_length] at h1
        exact h1
      have Hfin := Lib.hid hfin
      clear hfin
      go_wp2_with fail
      go_ret
      exact ⟨by rw [Hfin.out]; rfl, hbel⟩

set_option maxRecDepth 100000 in
/-- what is refused -/
theorem arg_any {w : World} : Calls Try.prog 19 #[.agg #[.bool false, .string ⟨#[]⟩], .int .i64 2] w (Calm w (.bool true)) := by
  have HN := Lib.hid (fun W : World => num_any (w := W) (n := 2))
  have hb := Lib.hid ((Below.refl w.heap.size w).alloc (Nat.le_refl _) (.cells #[.bool false, .string ⟨#[]⟩] 26))
  go_enter Try.func19, Try.ntmps19
  go_wp2_with fail
  refine (HN.out _).mono ?_
  rintro e w2 ⟨rfl, rfl⟩
  go_wp2_with fail
  go_ret
  exact ⟨rfl, hb.out⟩
theorem bytes_bl {n k : Nat} (h : (bys n).length ≤ k) : bl n ≤ 8 * k := bl_lt.2 (by rw [← pow_bytes]; exact lt_of_bys h)
theorem fits_iff {z : Int} {s : Bool} {b : ByteArray} (he : enc z = .agg #[.bool s, .string b]) : fits z ↔ b.size ≤ 16384 := by
  unfold enc at he
  injection he with he
  have h2 : (⟨(bys z.natAbs).toArray⟩ : ByteArray) = b := by
    have := congrArg (fun x => x[1]?) he
    simpa using this
  have h3 : b.size = (bys z.natAbs).length := by rw [← h2]; exact List.size_toArray
  rw [h3]
  unfold fits
  constructor
  · exact fun h => bl_bytes (k := 16384) h
  · intro h
    exact bytes_bl (k := 16384) h
set_option maxRecDepth 100000 in
/-- an answer that fits -/
theorem is_yes {w : World} {z : Int} {s : Bool} {b : ByteArray} (hf : fits z) (he : enc z = .agg #[.bool s, .string b]) :
    Calls Try.prog 20 #[.agg #[.bool s, .string b], .int .i64 0, .agg #[.bool s, .string b]] w (Calm w (.bool true)) := by
  have HN := Lib.hid (fun W : World => num_any (w := W) (n := 0))
  have HF := Lib.hid (fun W : World => fits_any (w := W) (n := s) (s := b))
  rw [decide_eq_true ((fits_iff he).1 hf)] at HF
  have E0 := Lib.hid (Env.new (Env.new (Env.nil w) 26 #[.bool s, .string b]) 26 #[.bool s, .string b])
  clear hf he
  go_enter Try.func20, Try.ntmps20
  go_upto_region 1 with fail
  rw [World.size_alloc] at E0
  generalize ((w.alloc (.cells #[.bool s, .string b] 26)).alloc (.cells #[.bool s, .string b] 26)) = W1 at E0 ⊢
  have c0 := (Env.at_ E0.out 0 rfl).cell 0
  have c1 := (Env.at_ E0.out 0 rfl).cell 1
  simp at c0 c1
  go_wp2_with fail
  refine (HF.out _).mono ?_
  rintro e w2 ⟨rfl, h2⟩
  have E2 := Lib.hid (E0.out.call h2)
  clear c0 c1 h2
  have c0 := (Env.at_ E2.out 0 rfl).cell 0
  have c1 := (Env.at_ E2.out 0 rfl).cell 1
  have d0 := (Env.at_ E2.out 1 rfl).cell 0
  have d1 := (Env.at_ E2.out 1 rfl).cell 1
  simp at c0 c1 d0 d1
  go_wp2_with fail
  refine (HN.out _).mono ?_
  rintro e w3 ⟨rfl, rfl⟩
  go_wp2_with fail
  go_ret
  exact ⟨rfl, E2.out.1⟩
set_option maxRecDepth 100000 in
/-- an answer that is too great -/
theorem is_no {w : World} {z : Int} {s : Bool} {b : ByteArray} (hf : ¬ fits z) (he : enc z = .agg #[.bool s, .string b]) :
    Calls Try.prog 20 #[.agg #[.bool false, .string ⟨#[]⟩], .int .i64 4, .agg #[.bool s, .string b]] w (Calm w (.bool true)) := by
  have HN := Lib.hid (fun W : World => num_any (w := W) (n := 4))
  have HF := Lib.hid (fun W : World => fits_any (w := W) (n := s) (s := b))
  rw [decide_eq_false (fun h => hf ((fits_iff he).2 h))] at HF
  have E0 := Lib.hid (Env.new (Env.new (Env.nil w) 26 #[.bool false, .string ⟨#[]⟩]) 26 #[.bool s, .string b])
  clear hf he
  go_enter Try.func20, Try.ntmps20
  go_upto_region 1 with fail
  rw [World.size_alloc] at E0
  generalize ((w.alloc (.cells #[.bool false, .string ⟨#[]⟩] 26)).alloc (.cells #[.bool s, .string b] 26)) = W1 at E0 ⊢
  have c0 := (Env.at_ E0.out 0 rfl).cell 0
  have c1 := (Env.at_ E0.out 0 rfl).cell 1
  simp at c0 c1
  go_wp2_with fail
  refine (HF.out _).mono ?_
  rintro e w2 ⟨rfl, h2⟩
  have E2 := Lib.hid (E0.out.call h2)
  clear c0 c1 h2
  have d0 := (Env.at_ E2.out 1 rfl).cell 0
  have d1 := (Env.at_ E2.out 1 rfl).cell 1
  simp at d0 d1
  go_wp2_with fail
  refine (HN.out _).mono ?_
  rintro e w3 ⟨rfl, rfl⟩
  go_wp2_with fail
  go_ret
  exact ⟨rfl, E2.out.1⟩
end Go.Proofs.Ytpnginnjbdedbaa

/- The laws' common contracts: what is refused, what is long or bad, the reference's answers. -/
namespace Go.Proofs.Ytpnginnjbdedbaa
open Go.RowKit
open Wh
set_option linter.unusedSimpArgs false

section
variable {w : World} {na nb : Bool} {sa sb : ByteArray} {z : Int} {s : Bool} {b : ByteArray}
/-- refused: nothing, and an error -/
def T2no (w : World) (cd : Int) (e : Ending) (w' : World) : Prop := e = .returned (.tuple #[.agg #[.bool false, .string ⟨#[]⟩], .int .i64 cd]) ∧ Below w.heap.size w w'
theorem add_bad (hm : ¬ May2 (na, sa) (nb, sb)) : Calls Try.prog 27 #[.agg #[.bool na, .string sa], .agg #[.bool nb, .string sb]] w (T2no w 2) := wadd_any.mono fun _ _ h => ⟨h.2.2.1 hm, h.2.2.2⟩
theorem sub_bad (hm : ¬ May2 (na, sa) (nb, sb)) : Calls Try.prog 28 #[.agg #[.bool na, .string sa], .agg #[.bool nb, .string sb]] w (T2no w 2) := wsub_any.mono fun _ _ h => ⟨h.2.2.1 hm, h.2.2.2⟩
theorem mul_bad (hm : ¬ May2 (na, sa) (nb, sb)) : Calls Try.prog 29 #[.agg #[.bool na, .string sa], .agg #[.bool nb, .string sb]] w (T2no w 2) := wmul_any.mono fun _ _ h => ⟨h.2.2.1 hm, h.2.2.2⟩
theorem cmp_bad (hm : ¬ May2 (na, sa) (nb, sb)) : Calls Try.prog 26 #[.agg #[.bool na, .string sa], .agg #[.bool nb, .string sb]] w (Calm w (.tuple #[.int .i64 0, .int .i64 2])) :=
  wcmp_any.mono fun _ _ h => ⟨h.2.1 hm, h.2.2⟩
theorem long_two : Calls Try.prog 12 #[.slice (some ⟨w.heap.size, 0, none⟩) 2 2] (w.alloc (.cells #[.bool na, .string sa, .bool nb, .string sb] 26)) (Calm (w.alloc (.cells #[.bool na, .string sa, .bool nb, .string sb] 26)) (.bool (isLong (na, sa) || isLong (nb, sb)))) := by
  have h := long_any (c := 2) (blk_pair (w := w) (na, sa) (nb, sb)) (by simp) (n := 2) rfl (by omega)
  rw [List.any_cons, List.any_cons, List.any_nil, Bool.or_false] at h
  exact h
theorem bad_two : Calls Try.prog 16 #[.slice (some ⟨w.heap.size, 0, none⟩) 2 2] (w.alloc (.cells #[.bool na, .string sa, .bool nb, .string sb] 26)) (Calm (w.alloc (.cells #[.bool na, .string sa, .bool nb, .string sb] 26)) (.bool (isBad (na, sa) || isBad (nb, sb)))) := by
  have h := bad_any (c := 2) (blk_pair (w := w) (na, sa) (nb, sb)) (by simp) (n := 2) rfl (by omega)
  rw [List.any_cons, List.any_cons, List.any_nil, Bool.or_false] at h
  exact h
theorem long_one : Calls Try.prog 12 #[.slice (some ⟨w.heap.size, 0, none⟩) 1 1] (w.alloc (.cells #[.bool na, .string sa] 26)) (Calm (w.alloc (.cells #[.bool na, .string sa] 26)) (.bool (isLong (na, sa)))) := by
  have h := long_any (c := 1) (blk_one (w := w) (na, sa)) (by simp) (n := 1) rfl (by omega)
  rw [List.any_cons, List.any_nil, Bool.or_false] at h
  exact h
theorem bad_one : Calls Try.prog 16 #[.slice (some ⟨w.heap.size, 0, none⟩) 1 1] (w.alloc (.cells #[.bool na, .string sa] 26)) (Calm (w.alloc (.cells #[.bool na, .string sa] 26)) (.bool (isBad (na, sa)))) := by
  have h := bad_any (c := 1) (blk_one (w := w) (na, sa)) (by simp) (n := 1) rfl (by omega)
  rw [List.any_cons, List.any_nil, Bool.or_false] at h
  exact h
theorem calm_eq {F : FuncId} {args : Array Value} {v v' : Value} (h : Calls Try.prog F args w (Calm w v)) (he : v = v') : Calls Try.prog F args w (Calm w v') := he ▸ h
theorem isBad_no {a : Bool × ByteArray} : isBad a = false ↔ MayL a.1 a.2.data.toList := by unfold isBad; rw [← mayB_iff, Bool.not_eq_false']
theorem isBad_yes {a : Bool × ByteArray} : isBad a = true ↔ ¬ MayL a.1 a.2.data.toList := by rw [← isBad_no, Bool.not_eq_false]
theorem short_of {a : Bool × ByteArray} (hl : isLong a = false) (hm : MayL a.1 a.2.data.toList) : a.2.size ≤ 400 := by
  unfold isLong at hl
  rw [mayB_iff.2 hm, Bool.and_true, decide_eq_false_iff_not] at hl
  omega
end
end Go.Proofs.Ytpnginnjbdedbaa

/- law.WholeSums (printed by gen_sums.py). -/
namespace Go.Proofs.Ytpnginnjbdedbaa
open Go.RowKit
open Wh
set_option linter.unusedSimpArgs false

set_option maxRecDepth 100000 in
set_option maxHeartbeats 8000000 in
theorem sums_long {w : World} {na nb : Bool} {sa sb : ByteArray} (hl : (isLong (na, sa) || isLong (nb, sb)) = true) :
    Calls Try.prog 5 #[.agg #[.bool na, .string sa], .agg #[.bool nb, .string sb]] w (fun e w' => e = .returned (.bool true) ∧ Below w.heap.size w w') := by
  have HL := Lib.hid (fun W : World => long_two (w := W) (na := na) (nb := nb) (sa := sa) (sb := sb))
  rw [hl] at HL
  clear hl
  have HW := Lib.hid (fun W : World => works_any (w := W))
  have HN := Lib.hid (fun (W : World) (n : Int) => num_any (w := W) (n := n))
  have E0 := Lib.hid (Env.nil w)
  go_enter Try.func5, Try.ntmps5
  go_upto_region 0 with fail
  go_upto_region 1 with fail
  have E1 : Hid (Env w ((w.alloc (.cells #[.bool na, .string sa] 26)).alloc (.cells #[.bool nb, .string sb] 26)) [(w.heap.size + 1, 26, #[.bool nb, .string sb]), (w.heap.size, 26, #[.bool na, .string sa])]) := Lib.hid (by have h := (Env.new (Env.new E0.out 26 #[.bool na, .string sa]) 26 #[.bool nb, .string sb]); (try simp only [World.size_alloc] at h); exact h)
  generalize ((w.alloc (.cells #[.bool na, .string sa] 26)).alloc (.cells #[.bool nb, .string sb] 26)) = W1 at E1 ⊢
  have q0_0 : W1.cell? ⟨w.heap.size, 0, none⟩ = some (.bool na) := (Env.at_ E1.out 1 rfl).cell 0
  have q0_1 : W1.cell? ⟨w.heap.size, 1, none⟩ = some (.string sa) := (Env.at_ E1.out 1 rfl).cell 1
  have q1_0 : W1.cell? ⟨w.heap.size + 1, 0, none⟩ = some (.bool nb) := (Env.at_ E1.out 0 rfl).cell 0
  have q1_1 : W1.cell? ⟨w.heap.size + 1, 1, none⟩ = some (.string sb) := (Env.at_ E1.out 0 rfl).cell 1
  go_wp2_with fail
  refine (HL.out _).mono ?_
  rintro e w2 ⟨rfl, h2⟩
  have E3 := Lib.hid ((Env.other E1.out (.cells #[.bool na, .string sa, .bool nb, .string sb] 26)).call h2)
  clear q0_0 q0_1 q1_0 q1_1 h2
  go_upto_region 2 with fail
  go_wp2_with fail
  refine (HW.out _).mono ?_
  rintro e w4 ⟨rfl, h4⟩
  have E5 := Lib.hid (E3.out.call h4)
  clear h4
  go_wp2_with fail
  go_ret
  exact ⟨rfl, E5.out.1⟩
set_option maxRecDepth 100000 in
set_option maxHeartbeats 8000000 in
theorem sums_bad {w : World} {na nb : Bool} {sa sb : ByteArray} (hl : (isLong (na, sa) || isLong (nb, sb)) = false) (hb : (isBad (na, sa) || isBad (nb, sb)) = true) (hm : ¬ May2 (na, sa) (nb, sb)) :
    Calls Try.prog 5 #[.agg #[.bool na, .string sa], .agg #[.bool nb, .string sb]] w (fun e w' => e = .returned (.bool true) ∧ Below w.heap.size w w') := by
  have HL := Lib.hid (fun W : World => long_two (w := W) (na := na) (nb := nb) (sa := sa) (sb := sb))
  rw [hl] at HL
  clear hl
  have HB := Lib.hid (fun W : World => bad_two (w := W) (na := na) (nb := nb) (sa := sa) (sb := sb))
  rw [hb] at HB
  clear hb
  have HC := Lib.hid (fun W : World => cmp_bad (w := W) hm)
  have HS := Lib.hid (fun W : World => add_bad (w := W) hm)
  have HD := Lib.hid (fun W : World => sub_bad (w := W) hm)
  have HP := Lib.hid (fun W : World => mul_bad (w := W) hm)
  have HA := Lib.hid (fun W : World => arg_any (w := W))
  clear hm
  have HW := Lib.hid (fun W : World => works_any (w := W))
  have HN := Lib.hid (fun (W : World) (n : Int) => num_any (w := W) (n := n))
  have E0 := Lib.hid (Env.nil w)
  go_enter Try.func5, Try.ntmps5
  go_upto_region 0 with fail
  go_upto_region 1 with fail
  have E1 : Hid (Env w ((w.alloc (.cells #[.bool na, .string sa] 26)).alloc (.cells #[.bool nb, .string sb] 26)) [(w.heap.size + 1, 26, #[.bool nb, .string sb]), (w.heap.size, 26, #[.bool na, .string sa])]) := Lib.hid (by have h := (Env.new (Env.new E0.out 26 #[.bool na, .string sa]) 26 #[.bool nb, .string sb]); (try simp only [World.size_alloc] at h); exact h)
  generalize ((w.alloc (.cells #[.bool na, .string sa] 26)).alloc (.cells #[.bool nb, .string sb] 26)) = W1 at E1 ⊢
  have q0_0 : W1.cell? ⟨w.heap.size, 0, none⟩ = some (.bool na) := (Env.at_ E1.out 1 rfl).cell 0
  have q0_1 : W1.cell? ⟨w.heap.size, 1, none⟩ = some (.string sa) := (Env.at_ E1.out 1 rfl).cell 1
  have q1_0 : W1.cell? ⟨w.heap.size + 1, 0, none⟩ = some (.bool nb) := (Env.at_ E1.out 0 rfl).cell 0
  have q1_1 : W1.cell? ⟨w.heap.size + 1, 1, none⟩ = some (.string sb) := (Env.at_ E1.out 0 rfl).cell 1
  go_wp2_with fail
  refine (HL.out _).mono ?_
  rintro e w2 ⟨rfl, h2⟩
  have E3 := Lib.hid ((Env.other E1.out (.cells #[.bool na, .string sa, .bool nb, .string sb] 26)).call h2)
  clear q0_0 q0_1 q1_0 q1_1 h2
  go_upto_region 3 with fail
  have q0_0 : w2.cell? ⟨w.heap.size, 0, none⟩ = some (.bool na) := (Env.at_ E3.out 1 rfl).cell 0
  have q0_1 : w2.cell? ⟨w.heap.size, 1, none⟩ = some (.string sa) := (Env.at_ E3.out 1 rfl).cell 1
  have q1_0 : w2.cell? ⟨w.heap.size + 1, 0, none⟩ = some (.bool nb) := (Env.at_ E3.out 0 rfl).cell 0
  have q1_1 : w2.cell? ⟨w.heap.size + 1, 1, none⟩ = some (.string sb) := (Env.at_ E3.out 0 rfl).cell 1
  go_wp2_with fail
  refine (HC.out _).mono ?_
  rintro e w4 ⟨rfl, h4⟩
  have E5 := Lib.hid (E3.out.call h4)
  clear q0_0 q0_1 q1_0 q1_1 h4
  go_upto_region 4 with fail
  have q0_0 : w4.cell? ⟨w.heap.size, 0, none⟩ = some (.bool na) := (Env.at_ E5.out 1 rfl).cell 0
  have q0_1 : w4.cell? ⟨w.heap.size, 1, none⟩ = some (.string sa) := (Env.at_ E5.out 1 rfl).cell 1
  have q1_0 : w4.cell? ⟨w.heap.size + 1, 0, none⟩ = some (.bool nb) := (Env.at_ E5.out 0 rfl).cell 0
  have q1_1 : w4.cell? ⟨w.heap.size + 1, 1, none⟩ = some (.string sb) := (Env.at_ E5.out 0 rfl).cell 1
  go_wp2_with fail
  refine (HS.out _).mono ?_
  rintro e w6 ⟨rfl, h6⟩
  have E7 := Lib.hid (E5.out.call h6)
  clear q0_0 q0_1 q1_0 q1_1 h6
  go_upto_region 5 with fail
  have E8 : Hid (Env w (w6.alloc (.cells #[.bool false, .string ⟨#[]⟩] 26)) [(w6.heap.size, 26, #[.bool false, .string ⟨#[]⟩]), (w.heap.size + 1, 26, #[.bool nb, .string sb]), (w.heap.size, 26, #[.bool na, .string sa])]) := Lib.hid (by have h := (Env.new E7.out 26 #[.bool false, .string ⟨#[]⟩]); (try simp only [World.size_alloc] at h); exact h)
  generalize (w6.alloc (.cells #[.bool false, .string ⟨#[]⟩] 26)) = W8 at E8 ⊢
  have q0_0 : W8.cell? ⟨w.heap.size, 0, none⟩ = some (.bool na) := (Env.at_ E8.out 2 rfl).cell 0
  have q0_1 : W8.cell? ⟨w.heap.size, 1, none⟩ = some (.string sa) := (Env.at_ E8.out 2 rfl).cell 1
  have q1_0 : W8.cell? ⟨w.heap.size + 1, 0, none⟩ = some (.bool nb) := (Env.at_ E8.out 1 rfl).cell 0
  have q1_1 : W8.cell? ⟨w.heap.size + 1, 1, none⟩ = some (.string sb) := (Env.at_ E8.out 1 rfl).cell 1
  go_wp2_with fail
  refine (HD.out _).mono ?_
  rintro e w9 ⟨rfl, h9⟩
  have E10 := Lib.hid (E8.out.call h9)
  clear q0_0 q0_1 q1_0 q1_1 h9
  go_upto_region 6 with fail
  have E11 : Hid (Env w (w9.alloc (.cells #[.bool false, .string ⟨#[]⟩] 26)) [(w9.heap.size, 26, #[.bool false, .string ⟨#[]⟩]), (w6.heap.size, 26, #[.bool false, .string ⟨#[]⟩]), (w.heap.size + 1, 26, #[.bool nb, .string sb]), (w.heap.size, 26, #[.bool na, .string sa])]) := Lib.hid (by have h := (Env.new E10.out 26 #[.bool false, .string ⟨#[]⟩]); (try simp only [World.size_alloc] at h); exact h)
  generalize (w9.alloc (.cells #[.bool false, .string ⟨#[]⟩] 26)) = W11 at E11 ⊢
  have q0_0 : W11.cell? ⟨w.heap.size, 0, none⟩ = some (.bool na) := (Env.at_ E11.out 3 rfl).cell 0
  have q0_1 : W11.cell? ⟨w.heap.size, 1, none⟩ = some (.string sa) := (Env.at_ E11.out 3 rfl).cell 1
  have q1_0 : W11.cell? ⟨w.heap.size + 1, 0, none⟩ = some (.bool nb) := (Env.at_ E11.out 2 rfl).cell 0
  have q1_1 : W11.cell? ⟨w.heap.size + 1, 1, none⟩ = some (.string sb) := (Env.at_ E11.out 2 rfl).cell 1
  go_wp2_with fail
  refine (HP.out _).mono ?_
  rintro e w12 ⟨rfl, h12⟩
  have E13 := Lib.hid (E11.out.call h12)
  clear q0_0 q0_1 q1_0 q1_1 h12
  go_upto_region 7 with fail
  have E14 : Hid (Env w (w12.alloc (.cells #[.bool false, .string ⟨#[]⟩] 26)) [(w12.heap.size, 26, #[.bool false, .string ⟨#[]⟩]), (w9.heap.size, 26, #[.bool false, .string ⟨#[]⟩]), (w6.heap.size, 26, #[.bool false, .string ⟨#[]⟩]), (w.heap.size + 1, 26, #[.bool nb, .string sb]), (w.heap.size, 26, #[.bool na, .string sa])]) := Lib.hid (by have h := (Env.new E13.out 26 #[.bool false, .string ⟨#[]⟩]); (try simp only [World.size_alloc] at h); exact h)
  generalize (w12.alloc (.cells #[.bool false, .string ⟨#[]⟩] 26)) = W14 at E14 ⊢
  have q0_0 : W14.cell? ⟨w.heap.size, 0, none⟩ = some (.bool na) := (Env.at_ E14.out 4 rfl).cell 0
  have q0_1 : W14.cell? ⟨w.heap.size, 1, none⟩ = some (.string sa) := (Env.at_ E14.out 4 rfl).cell 1
  have q1_0 : W14.cell? ⟨w.heap.size + 1, 0, none⟩ = some (.bool nb) := (Env.at_ E14.out 3 rfl).cell 0
  have q1_1 : W14.cell? ⟨w.heap.size + 1, 1, none⟩ = some (.string sb) := (Env.at_ E14.out 3 rfl).cell 1
  go_wp2_with fail
  refine (HB.out _).mono ?_
  rintro e w15 ⟨rfl, h15⟩
  have E16 := Lib.hid ((Env.other E14.out (.cells #[.bool na, .string sa, .bool nb, .string sb] 26)).call h15)
  clear q0_0 q0_1 q1_0 q1_1 h15
  go_upto_region 8 with fail
  go_wp2_with fail
  refine (HN.out _ 2).mono ?_
  rintro e w17 ⟨rfl, h17⟩
  subst h17
  have E18 := Lib.hid (E16.out)
  have q8_0 : w15.cell? ⟨w6.heap.size, 0, none⟩ = some (.bool false) := (Env.at_ E18.out 2 rfl).cell 0
  have q8_1 : w15.cell? ⟨w6.heap.size, 1, none⟩ = some (.string ⟨#[]⟩) := (Env.at_ E18.out 2 rfl).cell 1
  go_wp2_with fail
  refine (HA.out _).mono ?_
  rintro e w19 ⟨rfl, h19⟩
  have E20 := Lib.hid (E18.out.call h19)
  clear q8_0 q8_1 h19
  have q13_0 : w19.cell? ⟨w9.heap.size, 0, none⟩ = some (.bool false) := (Env.at_ E20.out 1 rfl).cell 0
  have q13_1 : w19.cell? ⟨w9.heap.size, 1, none⟩ = some (.string ⟨#[]⟩) := (Env.at_ E20.out 1 rfl).cell 1
  go_wp2_with fail
  refine (HA.out _).mono ?_
  rintro e w21 ⟨rfl, h21⟩
  have E22 := Lib.hid (E20.out.call h21)
  clear q13_0 q13_1 h21
  have q18_0 : w21.cell? ⟨w12.heap.size, 0, none⟩ = some (.bool false) := (Env.at_ E22.out 0 rfl).cell 0
  have q18_1 : w21.cell? ⟨w12.heap.size, 1, none⟩ = some (.string ⟨#[]⟩) := (Env.at_ E22.out 0 rfl).cell 1
  go_wp2_with fail
  refine (HA.out _).mono ?_
  rintro e w23 ⟨rfl, h23⟩
  have E24 := Lib.hid (E22.out.call h23)
  clear q18_0 q18_1 h23
  go_wp2_with fail
  refine (HW.out _).mono ?_
  rintro e w25 ⟨rfl, h25⟩
  have E26 := Lib.hid (E24.out.call h25)
  clear h25
  go_wp2_with fail
  go_ret
  exact ⟨rfl, E26.out.1⟩
set_option maxRecDepth 100000 in
set_option maxHeartbeats 8000000 in
theorem sums_good {w : World} {na nb : Bool} {sa sb : ByteArray} (hl : (isLong (na, sa) || isLong (nb, sb)) = false) (hb : (isBad (na, sa) || isBad (nb, sb)) = false) (hm : May2 (na, sa) (nb, sb)) (ha : sa.size ≤ 400) (hb4 : sb.size ≤ 400) :
    Calls Try.prog 5 #[.agg #[.bool na, .string sa], .agg #[.bool nb, .string sb]] w (fun e w' => e = .returned (.bool true) ∧ Below w.heap.size w w') := by
  have HL := Lib.hid (fun W : World => long_two (w := W) (na := na) (nb := nb) (sa := sa) (sb := sb))
  rw [hl] at HL
  clear hl
  have HB := Lib.hid (fun W : World => bad_two (w := W) (na := na) (nb := nb) (sa := sa) (sb := sb))
  rw [hb] at HB
  clear hb
  have Sx := may_sb (n := na) ha
  have Sy := may_sb (n := nb) hb4
  have Fa := Fmd.of_may hm.1
  have Fb := Fmd.of_may hm.2
  have fp : fits (num (na, sa) + num (nb, sb)) := (Sx.add Sy).fits (by decide)
  obtain ⟨sp, bp, ep, np, mp⟩ := enc_form fp
  have fd : fits (num (na, sa) - num (nb, sb)) := (Sx.sub Sy).fits (by decide)
  obtain ⟨sd, bd, ed, nd, md⟩ := enc_form fd
  have fm : fits (num (na, sa) * num (nb, sb)) := (Sx.mul Sy).fits (by decide)
  obtain ⟨sm, bm, em, nm, mm⟩ := enc_form fm
  have HC := Lib.hid (fun W : World => cmp_told (w := W) hm)
  have HS := Lib.hid (fun W : World => add_told (w := W) hm rfl fp ep)
  have HD := Lib.hid (fun W : World => sub_told (w := W) hm rfl fd ed)
  have HP := Lib.hid (fun W : World => mul_told (w := W) hm rfl fm em)
  have RC := Lib.hid (fun W : World => rcmp_any (w := W) (na := na) (nb := nb) Fa Fb)
  have RS := Lib.hid (fun W : World => calm_eq (rplus_any (w := W) (na := na) (nb := nb) Fa Fb) ep)
  have RD := Lib.hid (fun W : World => calm_eq (rminus_any (w := W) (na := na) (nb := nb) Fa Fb) ed)
  have RP := Lib.hid (fun W : World => calm_eq (rtimes_any (w := W) (na := na) (nb := nb) Fa Fb) em)
  have YS := Lib.hid (fun W : World => is_yes (w := W) fp ep)
  have YD := Lib.hid (fun W : World => is_yes (w := W) fd ed)
  have YP := Lib.hid (fun W : World => is_yes (w := W) fm em)
  generalize cmpI (num (na, sa)) (num (nb, sb)) = zc at HC RC
  clear hm ha hb4 Sx Sy Fa Fb fp ep np mp fd ed nd md fm em nm mm
  have HW := Lib.hid (fun W : World => works_any (w := W))
  have HN := Lib.hid (fun (W : World) (n : Int) => num_any (w := W) (n := n))
  have E0 := Lib.hid (Env.nil w)
  go_enter Try.func5, Try.ntmps5
  go_upto_region 0 with fail
  go_upto_region 1 with fail
  have E1 : Hid (Env w ((w.alloc (.cells #[.bool na, .string sa] 26)).alloc (.cells #[.bool nb, .string sb] 26)) [(w.heap.size + 1, 26, #[.bool nb, .string sb]), (w.heap.size, 26, #[.bool na, .string sa])]) := Lib.hid (by have h := (Env.new (Env.new E0.out 26 #[.bool na, .string sa]) 26 #[.bool nb, .string sb]); (try simp only [World.size_alloc] at h); exact h)
  generalize ((w.alloc (.cells #[.bool na, .string sa] 26)).alloc (.cells #[.bool nb, .string sb] 26)) = W1 at E1 ⊢
  have q0_0 : W1.cell? ⟨w.heap.size, 0, none⟩ = some (.bool na) := (Env.at_ E1.out 1 rfl).cell 0
  have q0_1 : W1.cell? ⟨w.heap.size, 1, none⟩ = some (.string sa) := (Env.at_ E1.out 1 rfl).cell 1
  have q1_0 : W1.cell? ⟨w.heap.size + 1, 0, none⟩ = some (.bool nb) := (Env.at_ E1.out 0 rfl).cell 0
  have q1_1 : W1.cell? ⟨w.heap.size + 1, 1, none⟩ = some (.string sb) := (Env.at_ E1.out 0 rfl).cell 1
  go_wp2_with fail
  refine (HL.out _).mono ?_
  rintro e w2 ⟨rfl, h2⟩
  have E3 := Lib.hid ((Env.other E1.out (.cells #[.bool na, .string sa, .bool nb, .string sb] 26)).call h2)
  clear q0_0 q0_1 q1_0 q1_1 h2
  go_upto_region 3 with fail
  have q0_0 : w2.cell? ⟨w.heap.size, 0, none⟩ = some (.bool na) := (Env.at_ E3.out 1 rfl).cell 0
  have q0_1 : w2.cell? ⟨w.heap.size, 1, none⟩ = some (.string sa) := (Env.at_ E3.out 1 rfl).cell 1
  have q1_0 : w2.cell? ⟨w.heap.size + 1, 0, none⟩ = some (.bool nb) := (Env.at_ E3.out 0 rfl).cell 0
  have q1_1 : w2.cell? ⟨w.heap.size + 1, 1, none⟩ = some (.string sb) := (Env.at_ E3.out 0 rfl).cell 1
  go_wp2_with fail
  refine (HC.out _).mono ?_
  rintro e w4 ⟨rfl, h4⟩
  have E5 := Lib.hid (E3.out.call h4)
  clear q0_0 q0_1 q1_0 q1_1 h4
  go_upto_region 4 with fail
  have q0_0 : w4.cell? ⟨w.heap.size, 0, none⟩ = some (.bool na) := (Env.at_ E5.out 1 rfl).cell 0
  have q0_1 : w4.cell? ⟨w.heap.size, 1, none⟩ = some (.string sa) := (Env.at_ E5.out 1 rfl).cell 1
  have q1_0 : w4.cell? ⟨w.heap.size + 1, 0, none⟩ = some (.bool nb) := (Env.at_ E5.out 0 rfl).cell 0
  have q1_1 : w4.cell? ⟨w.heap.size + 1, 1, none⟩ = some (.string sb) := (Env.at_ E5.out 0 rfl).cell 1
  go_wp2_with fail
  refine (HS.out _).mono ?_
  rintro e w6 ⟨rfl, h6⟩
  have E7 := Lib.hid (E5.out.call h6)
  clear q0_0 q0_1 q1_0 q1_1 h6
  go_upto_region 5 with fail
  have E8 : Hid (Env w (w6.alloc (.cells #[.bool sp, .string bp] 26)) [(w6.heap.size, 26, #[.bool sp, .string bp]), (w.heap.size + 1, 26, #[.bool nb, .string sb]), (w.heap.size, 26, #[.bool na, .string sa])]) := Lib.hid (by have h := (Env.new E7.out 26 #[.bool sp, .string bp]); (try simp only [World.size_alloc] at h); exact h)
  generalize (w6.alloc (.cells #[.bool sp, .string bp] 26)) = W8 at E8 ⊢
  have q0_0 : W8.cell? ⟨w.heap.size, 0, none⟩ = some (.bool na) := (Env.at_ E8.out 2 rfl).cell 0
  have q0_1 : W8.cell? ⟨w.heap.size, 1, none⟩ = some (.string sa) := (Env.at_ E8.out 2 rfl).cell 1
  have q1_0 : W8.cell? ⟨w.heap.size + 1, 0, none⟩ = some (.bool nb) := (Env.at_ E8.out 1 rfl).cell 0
  have q1_1 : W8.cell? ⟨w.heap.size + 1, 1, none⟩ = some (.string sb) := (Env.at_ E8.out 1 rfl).cell 1
  go_wp2_with fail
  refine (HD.out _).mono ?_
  rintro e w9 ⟨rfl, h9⟩
  have E10 := Lib.hid (E8.out.call h9)
  clear q0_0 q0_1 q1_0 q1_1 h9
  go_upto_region 6 with fail
  have E11 : Hid (Env w (w9.alloc (.cells #[.bool sd, .string bd] 26)) [(w9.heap.size, 26, #[.bool sd, .string bd]), (w6.heap.size, 26, #[.bool sp, .string bp]), (w.heap.size + 1, 26, #[.bool nb, .string sb]), (w.heap.size, 26, #[.bool na, .string sa])]) := Lib.hid (by have h := (Env.new E10.out 26 #[.bool sd, .string bd]); (try simp only [World.size_alloc] at h); exact h)
  generalize (w9.alloc (.cells #[.bool sd, .string bd] 26)) = W11 at E11 ⊢
  have q0_0 : W11.cell? ⟨w.heap.size, 0, none⟩ = some (.bool na) := (Env.at_ E11.out 3 rfl).cell 0
  have q0_1 : W11.cell? ⟨w.heap.size, 1, none⟩ = some (.string sa) := (Env.at_ E11.out 3 rfl).cell 1
  have q1_0 : W11.cell? ⟨w.heap.size + 1, 0, none⟩ = some (.bool nb) := (Env.at_ E11.out 2 rfl).cell 0
  have q1_1 : W11.cell? ⟨w.heap.size + 1, 1, none⟩ = some (.string sb) := (Env.at_ E11.out 2 rfl).cell 1
  go_wp2_with fail
  refine (HP.out _).mono ?_
  rintro e w12 ⟨rfl, h12⟩
  have E13 := Lib.hid (E11.out.call h12)
  clear q0_0 q0_1 q1_0 q1_1 h12
  go_upto_region 7 with fail
  have E14 : Hid (Env w (w12.alloc (.cells #[.bool sm, .string bm] 26)) [(w12.heap.size, 26, #[.bool sm, .string bm]), (w9.heap.size, 26, #[.bool sd, .string bd]), (w6.heap.size, 26, #[.bool sp, .string bp]), (w.heap.size + 1, 26, #[.bool nb, .string sb]), (w.heap.size, 26, #[.bool na, .string sa])]) := Lib.hid (by have h := (Env.new E13.out 26 #[.bool sm, .string bm]); (try simp only [World.size_alloc] at h); exact h)
  generalize (w12.alloc (.cells #[.bool sm, .string bm] 26)) = W14 at E14 ⊢
  have q0_0 : W14.cell? ⟨w.heap.size, 0, none⟩ = some (.bool na) := (Env.at_ E14.out 4 rfl).cell 0
  have q0_1 : W14.cell? ⟨w.heap.size, 1, none⟩ = some (.string sa) := (Env.at_ E14.out 4 rfl).cell 1
  have q1_0 : W14.cell? ⟨w.heap.size + 1, 0, none⟩ = some (.bool nb) := (Env.at_ E14.out 3 rfl).cell 0
  have q1_1 : W14.cell? ⟨w.heap.size + 1, 1, none⟩ = some (.string sb) := (Env.at_ E14.out 3 rfl).cell 1
  go_wp2_with fail
  refine (HB.out _).mono ?_
  rintro e w15 ⟨rfl, h15⟩
  have E16 := Lib.hid ((Env.other E14.out (.cells #[.bool na, .string sa, .bool nb, .string sb] 26)).call h15)
  clear q0_0 q0_1 q1_0 q1_1 h15
  go_upto_region 9 with fail
  skip
  refine wp_region_noPanic ?_
  refine wp_region_held_drew (S := fun w' => Env w w' [(w12.heap.size, 26, #[.bool sm, .string bm]), (w9.heap.size, 26, #[.bool sd, .string bd]), (w6.heap.size, 26, #[.bool sp, .string bp]), (w.heap.size + 1, 26, #[.bool nb, .string sb]), (w.heap.size, 26, #[.bool na, .string sa])]) (by kernel_rfl) (Env.drew E16.out) (fun hHeld => ?_)
  refine wpAnyH_take (i := 0) (oi := Oper.mk (some 71) _ _ _ _ _) (v := ?_) rfl (by kernel_rfl) (by kernel_rfl) (by kernel_rfl) (fun _ _ _ h => h) (Or.inl ⟨by rfl, ?_⟩) (by assumption) ?_
  rotate_left
  · (intro w' hSw; (try dsimp only at hSw); go_simp; try with_reducible rfl)
  try simp only [Act.put, List.setIfInBounds_toArray, List.set_cons_zero, List.set_cons_succ]
  refine wpAnyH_take (i := 1) (oi := Oper.mk (some 72) _ _ _ _ _) (v := ?_) rfl (by kernel_rfl) (by kernel_rfl) (by kernel_rfl) (fun _ _ _ h => h) (Or.inl ⟨by rfl, ?_⟩) (by assumption) ?_
  rotate_left
  · (intro w' hSw; (try dsimp only at hSw); have a0 : w'.cell? ⟨w.heap.size, 0, none⟩ = some (.bool na) := (Env.at_ hSw 4 rfl).cell 0; have a1 : w'.cell? ⟨w.heap.size, 1, none⟩ = some (.string sa) := (Env.at_ hSw 4 rfl).cell 1; go_simp; try with_reducible rfl)
  try simp only [Act.put, List.setIfInBounds_toArray, List.set_cons_zero, List.set_cons_succ]
  refine wpAnyH_take (i := 2) (oi := Oper.mk (some 73) _ _ _ _ _) (v := ?_) rfl (by kernel_rfl) (by kernel_rfl) (by kernel_rfl) (fun _ _ _ h => h) (Or.inl ⟨by rfl, ?_⟩) (by assumption) ?_
  rotate_left
  · (intro w' hSw; (try dsimp only at hSw); have a0 : w'.cell? ⟨w.heap.size + 1, 0, none⟩ = some (.bool nb) := (Env.at_ hSw 3 rfl).cell 0; have a1 : w'.cell? ⟨w.heap.size + 1, 1, none⟩ = some (.string sb) := (Env.at_ hSw 3 rfl).cell 1; go_simp; try with_reducible rfl)
  try simp only [Act.put, List.setIfInBounds_toArray, List.set_cons_zero, List.set_cons_succ]
  refine wpAnyH_ready (rs := [3]) (by kernel_rfl) (by simp) ?_
  refine AllReadyH.cons (o := Oper.mk (some 74) _ _ _ _ _) rfl (fun K hK => ?_) AllReadyH.nil
  go_simp
  refine (RC.out _).mono ?_
  rintro e w17 ⟨rfl, h17⟩
  have hNext := hHeld.call h17
  refine hK.out _ _ hNext (fun _ => ?_)
  clear hK K hHeld h17
  have hHeld := hNext
  clear hNext
  try simp only [Act.put, List.setIfInBounds_toArray, List.set_cons_zero, List.set_cons_succ]
  refine wpAnyH_take (i := 4) (oi := Oper.mk (some 75) _ _ _ _ _) (v := ?_) rfl (by kernel_rfl) (by kernel_rfl) (by kernel_rfl) (fun _ _ _ h => h) (Or.inl ⟨by rfl, ?_⟩) (by assumption) ?_
  rotate_left
  · (intro w' hSw; (try dsimp only at hSw); go_simp; try with_reducible rfl)
  try simp only [Act.put, List.setIfInBounds_toArray, List.set_cons_zero, List.set_cons_succ]
  refine wpAnyH_take (i := 5) (oi := Oper.mk (some 76) _ _ _ _ _) (v := ?_) rfl (by kernel_rfl) (by kernel_rfl) (by kernel_rfl) (fun _ _ _ h => h) (Or.inl ⟨by rfl, ?_⟩) (by assumption) ?_
  rotate_left
  · (intro w' hSw; (try dsimp only at hSw); go_simp; try with_reducible rfl)
  try simp only [Act.put, List.setIfInBounds_toArray, List.set_cons_zero, List.set_cons_succ]
  refine wpAnyH_take (i := 6) (oi := Oper.mk (some 77) _ _ _ _ _) (v := ?_) rfl (by kernel_rfl) (by kernel_rfl) (by kernel_rfl) (fun _ _ _ h => h) (Or.inl ⟨by rfl, ?_⟩) (by assumption) ?_
  rotate_left
  · (intro w' hSw; (try dsimp only at hSw); go_simp; try with_reducible rfl)
  try simp only [Act.put, List.setIfInBounds_toArray, List.set_cons_zero, List.set_cons_succ]
  refine wpAnyH_ready (rs := [7]) (by kernel_rfl) (by simp) ?_
  refine AllReadyH.cons (o := Oper.mk (some 78) _ _ _ _ _) rfl (fun K hK => ?_) AllReadyH.nil
  go_simp
  refine (HN.out _ 0).mono ?_
  rintro e w18 ⟨rfl, h18⟩
  subst h18
  have hNext := hHeld
  refine hK.out _ _ hNext (fun _ => ?_)
  clear hK K hHeld
  have hHeld := hNext
  clear hNext
  try simp only [Act.put, List.setIfInBounds_toArray, List.set_cons_zero, List.set_cons_succ]
  refine wpAnyH_take (i := 8) (oi := Oper.mk (some 79) _ _ _ _ _) (v := ?_) rfl (by kernel_rfl) (by kernel_rfl) (by kernel_rfl) (fun _ _ _ h => h) (Or.inl ⟨by rfl, ?_⟩) (by assumption) ?_
  rotate_left
  · (intro w' hSw; (try dsimp only at hSw); go_simp; try with_reducible rfl)
  try simp only [Act.put, List.setIfInBounds_toArray, List.set_cons_zero, List.set_cons_succ]
  refine wpAnyH_take (i := 9) (oi := Oper.mk (some 80) _ _ _ _ _) (v := ?_) rfl (by kernel_rfl) (by kernel_rfl) (by kernel_rfl) (fun _ _ _ h => h) (Or.inl ⟨by rfl, ?_⟩) (by assumption) ?_
  rotate_left
  · (intro w' hSw; (try dsimp only at hSw); go_simp; try with_reducible rfl)
  try simp only [Act.put, List.setIfInBounds_toArray, List.set_cons_zero, List.set_cons_succ]
  refine wpAnyH_take (i := 10) (oi := Oper.mk (some 81) _ _ _ _ _) (v := ?_) rfl (by kernel_rfl) (by kernel_rfl) (by kernel_rfl) (fun _ _ _ h => h) (Or.inl ⟨by rfl, ?_⟩) (by assumption) ?_
  rotate_left
  · (intro w' hSw; (try dsimp only at hSw); go_simp; try with_reducible rfl)
  try simp only [Act.put, List.setIfInBounds_toArray, List.set_cons_zero, List.set_cons_succ]
  refine wpAnyH_take (i := 11) (oi := Oper.mk (some 82) _ _ _ _ _) (v := ?_) rfl (by kernel_rfl) (by kernel_rfl) (by kernel_rfl) (fun _ _ _ h => h) (Or.inl ⟨by rfl, ?_⟩) (by assumption) ?_
  rotate_left
  · (intro w' hSw; (try dsimp only at hSw); have a0 : w'.cell? ⟨w6.heap.size, 0, none⟩ = some (.bool sp) := (Env.at_ hSw 2 rfl).cell 0; have a1 : w'.cell? ⟨w6.heap.size, 1, none⟩ = some (.string bp) := (Env.at_ hSw 2 rfl).cell 1; go_simp; try with_reducible rfl)
  try simp only [Act.put, List.setIfInBounds_toArray, List.set_cons_zero, List.set_cons_succ]
  refine wpAnyH_take (i := 12) (oi := Oper.mk (some 83) _ _ _ _ _) (v := ?_) rfl (by kernel_rfl) (by kernel_rfl) (by kernel_rfl) (fun _ _ _ h => h) (Or.inl ⟨by rfl, ?_⟩) (by assumption) ?_
  rotate_left
  · (intro w' hSw; (try dsimp only at hSw); go_simp; try with_reducible rfl)
  try simp only [Act.put, List.setIfInBounds_toArray, List.set_cons_zero, List.set_cons_succ]
  refine wpAnyH_take (i := 13) (oi := Oper.mk (some 84) _ _ _ _ _) (v := ?_) rfl (by kernel_rfl) (by kernel_rfl) (by kernel_rfl) (fun _ _ _ h => h) (Or.inl ⟨by rfl, ?_⟩) (by assumption) ?_
  rotate_left
  · (intro w' hSw; (try dsimp only at hSw); have a0 : w'.cell? ⟨w.heap.size, 0, none⟩ = some (.bool na) := (Env.at_ hSw 4 rfl).cell 0; have a1 : w'.cell? ⟨w.heap.size, 1, none⟩ = some (.string sa) := (Env.at_ hSw 4 rfl).cell 1; go_simp; try with_reducible rfl)
  try simp only [Act.put, List.setIfInBounds_toArray, List.set_cons_zero, List.set_cons_succ]
  refine wpAnyH_take (i := 14) (oi := Oper.mk (some 85) _ _ _ _ _) (v := ?_) rfl (by kernel_rfl) (by kernel_rfl) (by kernel_rfl) (fun _ _ _ h => h) (Or.inl ⟨by rfl, ?_⟩) (by assumption) ?_
  rotate_left
  · (intro w' hSw; (try dsimp only at hSw); have a0 : w'.cell? ⟨w.heap.size + 1, 0, none⟩ = some (.bool nb) := (Env.at_ hSw 3 rfl).cell 0; have a1 : w'.cell? ⟨w.heap.size + 1, 1, none⟩ = some (.string sb) := (Env.at_ hSw 3 rfl).cell 1; go_simp; try with_reducible rfl)
  try simp only [Act.put, List.setIfInBounds_toArray, List.set_cons_zero, List.set_cons_succ]
  refine wpAnyH_ready (rs := [15]) (by kernel_rfl) (by simp) ?_
  refine AllReadyH.cons (o := Oper.mk (some 86) _ _ _ _ _) rfl (fun K hK => ?_) AllReadyH.nil
  go_simp
  refine (RS.out _).mono ?_
  rintro e w19 ⟨rfl, h19⟩
  have hNext := hHeld.call h19
  refine hK.out _ _ hNext (fun _ => ?_)
  clear hK K hHeld h19
  have hHeld := hNext
  clear hNext
  try simp only [Act.put, List.setIfInBounds_toArray, List.set_cons_zero, List.set_cons_succ]
  refine wpAnyH_ready (rs := [16]) (by kernel_rfl) (by simp) ?_
  refine AllReadyH.cons (o := Oper.mk (some 87) _ _ _ _ _) rfl (fun K hK => ?_) AllReadyH.nil
  go_simp
  refine (YS.out _).mono ?_
  rintro e w20 ⟨rfl, h20⟩
  have hNext := hHeld.call h20
  refine hK.out _ _ hNext (fun _ => ?_)
  clear hK K hHeld h20
  have hHeld := hNext
  clear hNext
  try simp only [Act.put, List.setIfInBounds_toArray, List.set_cons_zero, List.set_cons_succ]
  refine wpAnyH_take (i := 17) (oi := Oper.mk (some 88) _ _ _ _ _) (v := ?_) rfl (by kernel_rfl) (by kernel_rfl) (by kernel_rfl) (fun _ _ _ h => h) (Or.inl ⟨by rfl, ?_⟩) (by assumption) ?_
  rotate_left
  · (intro w' hSw; (try dsimp only at hSw); go_simp; try with_reducible rfl)
  try simp only [Act.put, List.setIfInBounds_toArray, List.set_cons_zero, List.set_cons_succ]
  refine wpAnyH_take (i := 18) (oi := Oper.mk (some 89) _ _ _ _ _) (v := ?_) rfl (by kernel_rfl) (by kernel_rfl) (by kernel_rfl) (fun _ _ _ h => h) (Or.inl ⟨by rfl, ?_⟩) (by assumption) ?_
  rotate_left
  · (intro w' hSw; (try dsimp only at hSw); go_simp; try with_reducible rfl)
  try simp only [Act.put, List.setIfInBounds_toArray, List.set_cons_zero, List.set_cons_succ]
  refine wpAnyH_take (i := 19) (oi := Oper.mk (some 90) _ _ _ _ _) (v := ?_) rfl (by kernel_rfl) (by kernel_rfl) (by kernel_rfl) (fun _ _ _ h => h) (Or.inl ⟨by rfl, ?_⟩) (by assumption) ?_
  rotate_left
  · (intro w' hSw; (try dsimp only at hSw); have a0 : w'.cell? ⟨w9.heap.size, 0, none⟩ = some (.bool sd) := (Env.at_ hSw 1 rfl).cell 0; have a1 : w'.cell? ⟨w9.heap.size, 1, none⟩ = some (.string bd) := (Env.at_ hSw 1 rfl).cell 1; go_simp; try with_reducible rfl)
  try simp only [Act.put, List.setIfInBounds_toArray, List.set_cons_zero, List.set_cons_succ]
  refine wpAnyH_take (i := 20) (oi := Oper.mk (some 91) _ _ _ _ _) (v := ?_) rfl (by kernel_rfl) (by kernel_rfl) (by kernel_rfl) (fun _ _ _ h => h) (Or.inl ⟨by rfl, ?_⟩) (by assumption) ?_
  rotate_left
  · (intro w' hSw; (try dsimp only at hSw); go_simp; try with_reducible rfl)
  try simp only [Act.put, List.setIfInBounds_toArray, List.set_cons_zero, List.set_cons_succ]
  refine wpAnyH_take (i := 21) (oi := Oper.mk (some 92) _ _ _ _ _) (v := ?_) rfl (by kernel_rfl) (by kernel_rfl) (by kernel_rfl) (fun _ _ _ h => h) (Or.inl ⟨by rfl, ?_⟩) (by assumption) ?_
  rotate_left
  · (intro w' hSw; (try dsimp only at hSw); have a0 : w'.cell? ⟨w.heap.size, 0, none⟩ = some (.bool na) := (Env.at_ hSw 4 rfl).cell 0; have a1 : w'.cell? ⟨w.heap.size, 1, none⟩ = some (.string sa) := (Env.at_ hSw 4 rfl).cell 1; go_simp; try with_reducible rfl)
  try simp only [Act.put, List.setIfInBounds_toArray, List.set_cons_zero, List.set_cons_succ]
  refine wpAnyH_take (i := 22) (oi := Oper.mk (some 93) _ _ _ _ _) (v := ?_) rfl (by kernel_rfl) (by kernel_rfl) (by kernel_rfl) (fun _ _ _ h => h) (Or.inl ⟨by rfl, ?_⟩) (by assumption) ?_
  rotate_left
  · (intro w' hSw; (try dsimp only at hSw); have a0 : w'.cell? ⟨w.heap.size + 1, 0, none⟩ = some (.bool nb) := (Env.at_ hSw 3 rfl).cell 0; have a1 : w'.cell? ⟨w.heap.size + 1, 1, none⟩ = some (.string sb) := (Env.at_ hSw 3 rfl).cell 1; go_simp; try with_reducible rfl)
  try simp only [Act.put, List.setIfInBounds_toArray, List.set_cons_zero, List.set_cons_succ]
  refine wpAnyH_ready (rs := [23]) (by kernel_rfl) (by simp) ?_
  refine AllReadyH.cons (o := Oper.mk (some 94) _ _ _ _ _) rfl (fun K hK => ?_) AllReadyH.nil
  go_simp
  refine (RD.out _).mono ?_
  rintro e w21 ⟨rfl, h21⟩
  have hNext := hHeld.call h21
  refine hK.out _ _ hNext (fun _ => ?_)
  clear hK K hHeld h21
  have hHeld := hNext
  clear hNext
  try simp only [Act.put, List.setIfInBounds_toArray, List.set_cons_zero, List.set_cons_succ]
  refine wpAnyH_ready (rs := [24]) (by kernel_rfl) (by simp) ?_
  refine AllReadyH.cons (o := Oper.mk (some 95) _ _ _ _ _) rfl (fun K hK => ?_) AllReadyH.nil
  go_simp
  refine (YD.out _).mono ?_
  rintro e w22 ⟨rfl, h22⟩
  have hNext := hHeld.call h22
  refine hK.out _ _ hNext (fun _ => ?_)
  clear hK K hHeld h22
  have hHeld := hNext
  clear hNext
  try simp only [Act.put, List.setIfInBounds_toArray, List.set_cons_zero, List.set_cons_succ]
  refine wpAnyH_take (i := 25) (oi := Oper.mk (some 96) _ _ _ _ _) (v := ?_) rfl (by kernel_rfl) (by kernel_rfl) (by kernel_rfl) (fun _ _ _ h => h) (Or.inl ⟨by rfl, ?_⟩) (by assumption) ?_
  rotate_left
  · (intro w' hSw; (try dsimp only at hSw); go_simp; try with_reducible rfl)
  try simp only [Act.put, List.setIfInBounds_toArray, List.set_cons_zero, List.set_cons_succ]
  refine wpAnyH_take (i := 26) (oi := Oper.mk (some 97) _ _ _ _ _) (v := ?_) rfl (by kernel_rfl) (by kernel_rfl) (by kernel_rfl) (fun _ _ _ h => h) (Or.inl ⟨by rfl, ?_⟩) (by assumption) ?_
  rotate_left
  · (intro w' hSw; (try dsimp only at hSw); go_simp; try with_reducible rfl)
  try simp only [Act.put, List.setIfInBounds_toArray, List.set_cons_zero, List.set_cons_succ]
  refine wpAnyH_take (i := 27) (oi := Oper.mk (some 98) _ _ _ _ _) (v := ?_) rfl (by kernel_rfl) (by kernel_rfl) (by kernel_rfl) (fun _ _ _ h => h) (Or.inl ⟨by rfl, ?_⟩) (by assumption) ?_
  rotate_left
  · (intro w' hSw; (try dsimp only at hSw); have a0 : w'.cell? ⟨w12.heap.size, 0, none⟩ = some (.bool sm) := (Env.at_ hSw 0 rfl).cell 0; have a1 : w'.cell? ⟨w12.heap.size, 1, none⟩ = some (.string bm) := (Env.at_ hSw 0 rfl).cell 1; go_simp; try with_reducible rfl)
  try simp only [Act.put, List.setIfInBounds_toArray, List.set_cons_zero, List.set_cons_succ]
  refine wpAnyH_take (i := 28) (oi := Oper.mk (some 99) _ _ _ _ _) (v := ?_) rfl (by kernel_rfl) (by kernel_rfl) (by kernel_rfl) (fun _ _ _ h => h) (Or.inl ⟨by rfl, ?_⟩) (by assumption) ?_
  rotate_left
  · (intro w' hSw; (try dsimp only at hSw); go_simp; try with_reducible rfl)
  try simp only [Act.put, List.setIfInBounds_toArray, List.set_cons_zero, List.set_cons_succ]
  refine wpAnyH_take (i := 29) (oi := Oper.mk (some 100) _ _ _ _ _) (v := ?_) rfl (by kernel_rfl) (by kernel_rfl) (by kernel_rfl) (fun _ _ _ h => h) (Or.inl ⟨by rfl, ?_⟩) (by assumption) ?_
  rotate_left
  · (intro w' hSw; (try dsimp only at hSw); have a0 : w'.cell? ⟨w.heap.size, 0, none⟩ = some (.bool na) := (Env.at_ hSw 4 rfl).cell 0; have a1 : w'.cell? ⟨w.heap.size, 1, none⟩ = some (.string sa) := (Env.at_ hSw 4 rfl).cell 1; go_simp; try with_reducible rfl)
  try simp only [Act.put, List.setIfInBounds_toArray, List.set_cons_zero, List.set_cons_succ]
  refine wpAnyH_take (i := 30) (oi := Oper.mk (some 101) _ _ _ _ _) (v := ?_) rfl (by kernel_rfl) (by kernel_rfl) (by kernel_rfl) (fun _ _ _ h => h) (Or.inl ⟨by rfl, ?_⟩) (by assumption) ?_
  rotate_left
  · (intro w' hSw; (try dsimp only at hSw); have a0 : w'.cell? ⟨w.heap.size + 1, 0, none⟩ = some (.bool nb) := (Env.at_ hSw 3 rfl).cell 0; have a1 : w'.cell? ⟨w.heap.size + 1, 1, none⟩ = some (.string sb) := (Env.at_ hSw 3 rfl).cell 1; go_simp; try with_reducible rfl)
  try simp only [Act.put, List.setIfInBounds_toArray, List.set_cons_zero, List.set_cons_succ]
  refine wpAnyH_ready (rs := [31]) (by kernel_rfl) (by simp) ?_
  refine AllReadyH.cons (o := Oper.mk (some 102) _ _ _ _ _) rfl (fun K hK => ?_) AllReadyH.nil
  go_simp
  refine (RP.out _).mono ?_
  rintro e w23 ⟨rfl, h23⟩
  have hNext := hHeld.call h23
  refine hK.out _ _ hNext (fun _ => ?_)
  clear hK K hHeld h23
  have hHeld := hNext
  clear hNext
  try simp only [Act.put, List.setIfInBounds_toArray, List.set_cons_zero, List.set_cons_succ]
  refine wpAnyH_ready (rs := [32]) (by kernel_rfl) (by simp) ?_
  refine AllReadyH.cons (o := Oper.mk (some 103) _ _ _ _ _) rfl (fun K hK => ?_) AllReadyH.nil
  go_simp
  refine (YP.out _).mono ?_
  rintro e w24 ⟨rfl, h24⟩
  have hNext := hHeld.call h24
  refine hK.out _ _ hNext (fun _ => ?_)
  clear hK K hHeld h24
  have hHeld := hNext
  clear hNext
  try simp only [Act.put, List.setIfInBounds_toArray, List.set_cons_zero, List.set_cons_succ]
  refine wpAnyH_take (i := 33) (oi := Oper.mk (some 104) _ _ _ _ _) (v := ?_) rfl (by kernel_rfl) (by kernel_rfl) (by kernel_rfl) (fun _ _ _ h => h) (Or.inl ⟨by rfl, ?_⟩) (by assumption) ?_
  rotate_left
  · (intro w' hSw; (try dsimp only at hSw); go_simp; try with_reducible rfl)
  try simp only [Act.put, List.setIfInBounds_toArray, List.set_cons_zero, List.set_cons_succ]
  refine wpAnyH_take (i := 34) (oi := Oper.mk (some 105) _ _ _ _ _) (v := ?_) rfl (by kernel_rfl) (by kernel_rfl) (by kernel_rfl) (fun _ _ _ h => h) (Or.inl ⟨by rfl, ?_⟩) (by assumption) ?_
  rotate_left
  · (intro w' hSw; (try dsimp only at hSw); go_simp; try with_reducible rfl)
  try simp only [Act.put, List.setIfInBounds_toArray, List.set_cons_zero, List.set_cons_succ]
  refine wpAnyH_ready (rs := [35]) (by kernel_rfl) (by simp) ?_
  refine AllReadyH.cons (o := Oper.mk (some 106) _ _ _ _ _) rfl (fun K hK => ?_) AllReadyH.nil
  go_simp
  refine (HW.out _).mono ?_
  rintro e w25 ⟨rfl, h25⟩
  have hNext := hHeld.call h25
  refine hK.out _ _ hNext (fun _ => ?_)
  clear hK K hHeld h25
  have hHeld := hNext
  clear hNext
  try simp only [Act.put, List.setIfInBounds_toArray, List.set_cons_zero, List.set_cons_succ]
  refine wpAnyH_take (i := 36) (oi := Oper.mk (some 107) _ _ _ _ _) (v := ?_) rfl (by kernel_rfl) (by kernel_rfl) (by kernel_rfl) (fun _ _ _ h => h) (Or.inl ⟨by rfl, ?_⟩) (by assumption) ?_
  rotate_left
  · (intro w' hSw; (try dsimp only at hSw); go_simp; try with_reducible rfl)
  try simp only [Act.put, List.setIfInBounds_toArray, List.set_cons_zero, List.set_cons_succ]
  refine wpAnyH_take (i := 37) (oi := Oper.mk (some 4) _ _ _ _ _) (v := ?_) rfl (by kernel_rfl) (by kernel_rfl) (by kernel_rfl) (fun _ _ _ h => h) (Or.inl ⟨by rfl, ?_⟩) (by assumption) ?_
  rotate_left
  · (intro w' hSw; (try dsimp only at hSw); go_simp; try with_reducible rfl)
  try simp only [Act.put, List.setIfInBounds_toArray, List.set_cons_zero, List.set_cons_succ]
  refine wpAnyH_done (by kernel_rfl) ?_ _
  refine NoPanic.normal ?_
  have E26 := Lib.hid hHeld
  clear hHeld
  go_wp2_with fail
  go_ret
  exact ⟨rfl, E26.out.1⟩
theorem sums_any {w : World} {na nb : Bool} {sa sb : ByteArray} :
    Calls Try.prog 5 #[.agg #[.bool na, .string sa], .agg #[.bool nb, .string sb]] w (fun e w' => e = .returned (.bool true) ∧ Below w.heap.size w w') := by
  by_cases hl : (isLong (na, sa) || isLong (nb, sb)) = true
  · exact sums_long hl
  have hl := Bool.not_eq_true _ ▸ hl
  by_cases hb : (isBad (na, sa) || isBad (nb, sb)) = true
  · refine sums_bad hl hb (fun hm => ?_)
    rw [isBad_no.2 hm.1, isBad_no.2 hm.2] at hb
    exact absurd hb (by decide)
  have hb := Bool.not_eq_true _ ▸ hb
  obtain ⟨h1, h2⟩ := Bool.or_eq_false_iff.1 hl
  obtain ⟨h3, h4⟩ := Bool.or_eq_false_iff.1 hb
  have hm : May2 (na, sa) (nb, sb) := ⟨isBad_no.1 h3, isBad_no.1 h4⟩
  exact sums_good hl hb hm (short_of h1 hm.1) (short_of h2 hm.2)
end Go.Proofs.Ytpnginnjbdedbaa
