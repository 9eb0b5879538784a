import Derived.Test.YtpnginnjbdedbaaC7
import Derived.Test.YtpnginnjbdedbaaC2
import Derived.Test.YtpnginnjbdedbaaC1
/- The reference's Plus, Minus, Times, Cmp (printed by gen_rops.py). -/
namespace Go.Proofs.Ytpnginnjbdedbaa
open Go.RowKit
open Wh
set_option linter.unusedSimpArgs false

theorem Env.set_ {w0 W : World} {l : List (Nat × TypeId × Array Value)} (h : Env w0 W l) {g j : Nat} (v : Value) (hg : w0.heap.size ≤ g) (hne : ∀ x ∈ l, x.1 ≠ g) : Env w0 (W.setCell ⟨g, j, none⟩ v) l :=
  ⟨h.1.setCell hg _, fun x hx => (h.2 x hx).far (p := ⟨g, j, none⟩) (hne x hx) v⟩
theorem len_sumN {a b p : Nat} (ha : (wds a).length ≤ p) (hb : (wds b).length ≤ p) : (wds (a + b)).length ≤ p + 1 := by
  refine len_wds ?_
  have h1 := lt_of_len ha
  have h2 := lt_of_len hb
  rw [Nat.pow_succ]
  have : 0 < 4294967296 ^ p := Nat.pow_pos (by decide)
  omega
theorem sgn_mulB {na nb : Bool} {a b : Nat} : sgn (na != nb) (a * b) = sgn na a * sgn nb b := by
  unfold sgn
  cases na <;> cases nb <;> simp [Int.neg_mul, Int.mul_neg]
theorem sgn_add {n : Bool} {a b : Nat} : sgn n (a + b) = sgn n a + sgn n b := by
  unfold sgn
  cases n <;> simp <;> omega
theorem sgn_sub {na nb : Bool} {a b : Nat} (h : na ≠ nb) (hle : b ≤ a) : sgn na (a - b) = sgn na a + sgn nb b := by
  unfold sgn
  cases na <;> cases nb <;> simp at h ⊢ <;> omega
theorem sgn_sub' {na nb : Bool} {a b : Nat} (h : na ≠ nb) (hle : a ≤ b) : sgn nb (b - a) = sgn na a + sgn nb b := by
  rw [sgn_sub (fun h0 => h h0.symm) hle, Int.add_comm]
set_option maxRecDepth 100000 in
set_option maxHeartbeats 4000000 in
theorem rtimes_any {w : World} {na nb : Bool} {sa sb : ByteArray} (ha : Fmd sa) (hb : Fmd sb) :
    Calls Try.prog 32 #[.agg #[.bool na, .string sa], .agg #[.bool nb, .string sb]] w (Calm w (enc (num (na, sa) * num (nb, sb)))) := by
  obtain ⟨zs, zb, ez⟩ : ∃ s b, enc (num (na, sa) * num (nb, sb)) = .agg #[.bool s, .string b] := ⟨_, _, rfl⟩
  have HA := Lib.hid (fun W : World => words_any (w := W) (by have := ha.2; omega) ha.1)
  have HB := Lib.hid (fun W : World => words_any (w := W) (by have := hb.2; omega) hb.1)
  have Hla := Lib.hid (And.intro ha.len hb.len)
  have Hab := Lib.hid (And.intro ha hb)
  obtain ⟨a, hae⟩ : ∃ a, a = bval sa.data.toList := ⟨_, rfl⟩
  obtain ⟨b, hbe⟩ : ∃ b, b = bval sb.data.toList := ⟨_, rfl⟩
  rw [← hae] at HA
  rw [← hbe] at HB
  rw [← hae, ← hbe] at Hla
  have Hnum := Lib.hid (show num (na, sa) = sgn na a ∧ num (nb, sb) = sgn nb b from ⟨by rw [hae]; rfl, by rw [hbe]; rfl⟩)
  (try rw [← hae, ← hbe])
  clear hae hbe ha hb
  have E0 := Lib.hid (Env.nil w)
  go_enter Try.func32, Try.ntmps32
  go_upto_region 1 with fail
  have E1 : Hid (Env w (((w.alloc (.cells #[.bool na, .string sa] 26)).alloc (.cells #[.bool nb, .string sb] 26)).alloc (.cells #[.bool false, .string ⟨#[]⟩] 26)) [(w.heap.size + 1 + 1, 26, #[.bool false, .string ⟨#[]⟩]), (w.heap.size + 1, 26, #[.bool nb, .string sb]), (w.heap.size, 26, #[.bool na, .string sa])]) := Lib.hid (by have h := (Env.new (Env.new (Env.new E0.out 26 #[.bool na, .string sa]) 26 #[.bool nb, .string sb]) 26 #[.bool false, .string ⟨#[]⟩]); (try simp only [World.size_alloc] at h); exact h)
  generalize (((w.alloc (.cells #[.bool na, .string sa] 26)).alloc (.cells #[.bool nb, .string sb] 26)).alloc (.cells #[.bool false, .string ⟨#[]⟩] 26)) = W1 at E1 ⊢
  have Cf1 := Lib.hid (fun (W : World) (h : Env w W [(w.heap.size + 1 + 1, 26, #[.bool false, .string ⟨#[]⟩]), (w.heap.size + 1, 26, #[.bool nb, .string sb]), (w.heap.size, 26, #[.bool na, .string sa])]) => (show W.cell? ⟨w.heap.size, 0, none⟩ = some (.bool na) ∧ W.cell? ⟨w.heap.size, 1, none⟩ = some (.string sa) ∧ W.cell? ⟨w.heap.size + 1, 0, none⟩ = some (.bool nb) ∧ W.cell? ⟨w.heap.size + 1, 1, none⟩ = some (.string sb) from ⟨(Env.at_ h 2 rfl).cell 0, (Env.at_ h 2 rfl).cell 1, (Env.at_ h 1 rfl).cell 0, (Env.at_ h 1 rfl).cell 1⟩))
  refine wp_region_noPanic ?_
  refine wp_region_HK (fun w' => w'.cell? ⟨w.heap.size, 0, none⟩ = some (.bool na) ∧ w'.cell? ⟨w.heap.size, 1, none⟩ = some (.string sa) ∧ w'.cell? ⟨w.heap.size + 1, 0, none⟩ = some (.bool nb) ∧ w'.cell? ⟨w.heap.size + 1, 1, none⟩ = some (.string sb)) 13 (by kernel_rfl) (Cf1.out _ E1.out.drew) (fun hHeld => ?_)
  refine wpHK_pure (i := 0) (oi := Oper.mk (some 5) _ _ _ _ _) (v := ?_) rfl (by kernel_rfl) (by kernel_rfl) (by kernel_rfl) (fun _ _ _ h => h) (Or.inl ⟨by rfl, ?_⟩) ?_
  rotate_left
  · (intro w' _; go_simp; try with_reducible rfl)
  try simp only [Act.put, List.setIfInBounds_toArray, List.set_cons_zero, List.set_cons_succ]
  refine wpHK_pure (i := 2) (oi := Oper.mk (some 7) _ _ _ _ _) (v := ?_) rfl (by kernel_rfl) (by kernel_rfl) (by kernel_rfl) (fun _ _ _ h => h) (Or.inl ⟨by rfl, ?_⟩) ?_
  rotate_left
  · (intro w' _; go_simp; try with_reducible rfl)
  try simp only [Act.put, List.setIfInBounds_toArray, List.set_cons_zero, List.set_cons_succ]
  refine wpHK_pure (i := 5) (oi := Oper.mk (some 10) _ _ _ _ _) (v := ?_) rfl (by kernel_rfl) (by kernel_rfl) (by kernel_rfl) (fun _ _ _ h => h) (Or.inl ⟨by rfl, ?_⟩) ?_
  rotate_left
  · (intro w' _; go_simp; try with_reducible rfl)
  try simp only [Act.put, List.setIfInBounds_toArray, List.set_cons_zero, List.set_cons_succ]
  refine wpHK_pure (i := 8) (oi := Oper.mk (some 13) _ _ _ _ _) (v := ?_) rfl (by kernel_rfl) (by kernel_rfl) (by kernel_rfl) (fun _ _ _ h => h) (Or.inl ⟨by rfl, ?_⟩) ?_
  rotate_left
  · (intro w' _; go_simp; try with_reducible rfl)
  try simp only [Act.put, List.setIfInBounds_toArray, List.set_cons_zero, List.set_cons_succ]
  refine wpHK_take (i := 1) (oi := Oper.mk (some 6) _ _ _ _ _) (v := ?_) rfl (by kernel_rfl) (by kernel_rfl) (by kernel_rfl) (by kernel_rfl) (fun _ _ _ h => h) (Or.inl ⟨by rfl, ?_⟩) (by assumption) ?_
  rotate_left
  · (intro w' hSw; (try dsimp only at hSw); (obtain ⟨s0, s1, s2, s3⟩ := hSw); go_simp; try with_reducible rfl)
  try simp only [Act.put, List.setIfInBounds_toArray, List.set_cons_zero, List.set_cons_succ]
  refine wpHK_take (i := 3) (oi := Oper.mk (some 8) _ _ _ _ _) (v := ?_) rfl (by kernel_rfl) (by kernel_rfl) (by kernel_rfl) (by kernel_rfl) (fun _ _ _ h => h) (Or.inl ⟨by rfl, ?_⟩) (by assumption) ?_
  rotate_left
  · (intro w' hSw; (try dsimp only at hSw); (obtain ⟨s0, s1, s2, s3⟩ := hSw); go_simp; try with_reducible rfl)
  try simp only [Act.put, List.setIfInBounds_toArray, List.set_cons_zero, List.set_cons_succ]
  refine wpHK_pure (i := 4) (oi := Oper.mk (some 9) _ _ _ _ _) (v := ?_) rfl (by kernel_rfl) (by kernel_rfl) (by kernel_rfl) (fun _ _ _ h => h) (Or.inl ⟨by rfl, ?_⟩) ?_
  rotate_left
  · (intro w' _; go_simp; try with_reducible rfl)
  try simp only [Act.put, List.setIfInBounds_toArray, List.set_cons_zero, List.set_cons_succ]
  refine wpHK_take (i := 6) (oi := Oper.mk (some 11) _ _ _ _ _) (v := ?_) rfl (by kernel_rfl) (by kernel_rfl) (by kernel_rfl) (by kernel_rfl) (fun _ _ _ h => h) (Or.inl ⟨by rfl, ?_⟩) (by assumption) ?_
  rotate_left
  · (intro w' hSw; (try dsimp only at hSw); (obtain ⟨s0, s1, s2, s3⟩ := hSw); go_simp; try with_reducible rfl)
  try simp only [Act.put, List.setIfInBounds_toArray, List.set_cons_zero, List.set_cons_succ]
  refine wpHK_take (i := 9) (oi := Oper.mk (some 14) _ _ _ _ _) (v := ?_) rfl (by kernel_rfl) (by kernel_rfl) (by kernel_rfl) (by kernel_rfl) (fun _ _ _ h => h) (Or.inl ⟨by rfl, ?_⟩) (by assumption) ?_
  rotate_left
  · (intro w' hSw; (try dsimp only at hSw); (obtain ⟨s0, s1, s2, s3⟩ := hSw); go_simp; try with_reducible rfl)
  try simp only [Act.put, List.setIfInBounds_toArray, List.set_cons_zero, List.set_cons_succ]
  refine wpHK_one (j := 7) (o := Oper.mk (some 12) _ _ _ _ _) rfl (by kernel_rfl) (fun K hK => ?_)
  go_simp
  refine (HA.out _).mono ?_
  rintro e V1 ⟨A1, m1, c1, rfl, hm, hmc, hcl, hr, hb⟩
  have F1 := Lib.hid (Env.call E1.out.drew hb)
  have R1 := Lib.hid (And.intro hm.out (And.intro hmc (And.intro hcl hr)))
  have hbl := Lib.hid hb
  clear hm hmc hcl hr hb
  refine hK.out _ _ (Cf1.out _ F1.out) (fun _ => ?_)
  clear hK K hHeld
  have hHeld := (Cf1.out _ F1.out)
  try simp only [Act.put, List.setIfInBounds_toArray, List.set_cons_zero, List.set_cons_succ]
  refine wpHK_one (j := 10) (o := Oper.mk (some 15) _ _ _ _ _) rfl (by kernel_rfl) (fun K hK => ?_)
  go_simp
  refine (HB.out _).mono ?_
  rintro e V2 ⟨A2, m2, c2, rfl, hm, hmc, hcl, hr, hb⟩
  have F2 := Lib.hid (Env.call F1.out hb)
  have R2 := Lib.hid (And.intro hm.out (And.intro hmc (And.intro hcl hr)))
  have hbl := Lib.hid hb
  clear hm hmc hcl hr hb
  have R1' := Lib.hid (And.intro R1.out.1 (And.intro R1.out.2.1 (And.intro R1.out.2.2.1 ((R1.out.2.2.2.below hbl.out).more hbl.out.size))))
  clear R1 hbl
  have R1 := R1'
  clear R1'
  refine hK.out _ _ (Cf1.out _ F2.out) (fun _ => ?_)
  clear hK K hHeld
  have hHeld := (Cf1.out _ F2.out)
  try simp only [Act.put, List.setIfInBounds_toArray, List.set_cons_zero, List.set_cons_succ]
  refine wpHK_one (j := 11) (o := Oper.mk (some 16) _ _ _ _ _) rfl (by kernel_rfl) (fun K hK => ?_)
  go_simp
  refine (rproduct_any R1.out.2.2.2 R2.out.2.2.2 (Nat.le_refl _) R1.out.1 R2.out.1 (by have := R1.out.1; have := Hla.out.1; omega) (by have := R2.out.1; have := Hla.out.2; omega) (wd_w _) (wd_w _)).mono ?_
  rintro e V3 ⟨A3, m3, c3, rfl, hm, hmc, hcl, hr, hb⟩
  simp only [val_w] at hm hr
  have F3 := Lib.hid (Env.call F2.out hb)
  have R3 := Lib.hid (And.intro hm.out (And.intro hmc (And.intro hcl hr)))
  clear hm hmc hcl hr hb
  refine hK.out _ _ (Cf1.out _ F3.out) (fun _ => ?_)
  clear hK K hHeld
  have hHeld := (Cf1.out _ F3.out)
  try simp only [Act.put, List.setIfInBounds_toArray, List.set_cons_zero, List.set_cons_succ]
  refine wpHK_one (j := 12) (o := Oper.mk (some 17) _ _ _ _ _) rfl (by kernel_rfl) (fun K hK => ?_)
  go_simp
  have HM := made_any (w := _) (neg := (na != nb)) R3.out.2.2.2 (Nat.le_refl _) R3.out.1 R3.out.2.1 R3.out.2.2.1 (by have := R3.out.1; have := len_mul Hla.out.1 Hla.out.2; omega) (wd_w _)
  rw [val_w, sgn_mulB, ← Hnum.out.1, ← Hnum.out.2, ez] at HM
  refine HM.mono ?_
  rintro e V4 ⟨rfl, hb⟩
  have F4 := Lib.hid (Env.call F3.out hb)
  clear hb HM
  refine hK.out _ _ (Cf1.out _ F4.out) (fun _ => ?_)
  clear hK K hHeld
  have hHeld := (Cf1.out _ F4.out)
  try simp only [Act.put, List.setIfInBounds_toArray, List.set_cons_zero, List.set_cons_succ]
  refine wpHK_tail (j := 13) (o := Oper.mk (none) _ _ _ _ _) rfl (by kernel_rfl) (by decide) (fun K hK => ?_)
  have n4 := Env.at_ F4.out 0 rfl
  have y0 := n4.cell 0
  have y1 := n4.cell 1
  have y2 := n4.frozen 0
  have y3 := n4.frozen 1
  simp at y0 y1
  go_simp
  refine hK.out _ _ ?_
  clear hK K
  try simp only [Act.put, List.setIfInBounds_toArray, List.set_cons_zero, List.set_cons_succ]
  refine wpHK_done (by kernel_rfl) ?_ _
  refine NoPanic.normal ?_
  go_wp2_with fail
  have n5 := ((Env.at_ F4.out 0 rfl).set_ 0 (.bool zs)).set_ 1 (.string zb)
  have d0 := n5.cell 0
  have d1 := n5.cell 1
  simp at d0 d1
  refine bodyPost_ret (v := .agg #[.bool zs, .string zb]) (by simp [results, Try.results32, go_sem, d0, d1]) rfl ?_
  exact ⟨by rw [ez], ((F4.out.1).setCell (by show w.heap.size ≤ w.heap.size + 1 + 1; omega) _).setCell (by show w.heap.size ≤ w.heap.size + 1 + 1; omega) _⟩
set_option maxRecDepth 100000 in
set_option maxHeartbeats 4000000 in
theorem rplus_same {w : World} {na nb : Bool} {sa sb : ByteArray} (ha : Fmd sa) (hb : Fmd sb) (hs : na = nb) :
    Calls Try.prog 17 #[.agg #[.bool na, .string sa], .agg #[.bool nb, .string sb]] w (Calm w (enc (num (na, sa) + num (nb, sb)))) := by
  obtain ⟨zs, zb, ez⟩ : ∃ s b, enc (num (na, sa) + num (nb, sb)) = .agg #[.bool s, .string b] := ⟨_, _, rfl⟩
  have HA := Lib.hid (fun W : World => words_any (w := W) (by have := ha.2; omega) ha.1)
  have HB := Lib.hid (fun W : World => words_any (w := W) (by have := hb.2; omega) hb.1)
  have Hla := Lib.hid (And.intro ha.len hb.len)
  have Hab := Lib.hid (And.intro ha hb)
  obtain ⟨a, hae⟩ : ∃ a, a = bval sa.data.toList := ⟨_, rfl⟩
  obtain ⟨b, hbe⟩ : ∃ b, b = bval sb.data.toList := ⟨_, rfl⟩
  rw [← hae] at HA
  rw [← hbe] at HB
  rw [← hae, ← hbe] at Hla
  have Hnum := Lib.hid (show num (na, sa) = sgn na a ∧ num (nb, sb) = sgn nb b from ⟨by rw [hae]; rfl, by rw [hbe]; rfl⟩)
  (try rw [← hae, ← hbe])
  clear hae hbe ha hb
  have E0 := Lib.hid (Env.nil w)
  go_enter Try.func17, Try.ntmps17
  subst hs
  go_upto_region 1 with fail
  have E1 : Hid (Env w (((w.alloc (.cells #[.bool na, .string sa] 26)).alloc (.cells #[.bool na, .string sb] 26)).alloc (.cells #[.bool false, .string ⟨#[]⟩] 26)) [(w.heap.size + 1 + 1, 26, #[.bool false, .string ⟨#[]⟩]), (w.heap.size + 1, 26, #[.bool na, .string sb]), (w.heap.size, 26, #[.bool na, .string sa])]) := Lib.hid (by have h := (Env.new (Env.new (Env.new E0.out 26 #[.bool na, .string sa]) 26 #[.bool na, .string sb]) 26 #[.bool false, .string ⟨#[]⟩]); (try simp only [World.size_alloc] at h); exact h)
  generalize (((w.alloc (.cells #[.bool na, .string sa] 26)).alloc (.cells #[.bool na, .string sb] 26)).alloc (.cells #[.bool false, .string ⟨#[]⟩] 26)) = W1 at E1 ⊢
  have Cf1 := Lib.hid (fun (W : World) (h : Env w W [(w.heap.size + 1 + 1, 26, #[.bool false, .string ⟨#[]⟩]), (w.heap.size + 1, 26, #[.bool na, .string sb]), (w.heap.size, 26, #[.bool na, .string sa])]) => (show W.cell? ⟨w.heap.size, 0, none⟩ = some (.bool na) ∧ W.cell? ⟨w.heap.size, 1, none⟩ = some (.string sa) ∧ W.cell? ⟨w.heap.size + 1, 0, none⟩ = some (.bool na) ∧ W.cell? ⟨w.heap.size + 1, 1, none⟩ = some (.string sb) from ⟨(Env.at_ h 2 rfl).cell 0, (Env.at_ h 2 rfl).cell 1, (Env.at_ h 1 rfl).cell 0, (Env.at_ h 1 rfl).cell 1⟩))
  refine wp_region_noPanic ?_
  refine wp_region_HK (fun w' => w'.cell? ⟨w.heap.size, 0, none⟩ = some (.bool na) ∧ w'.cell? ⟨w.heap.size, 1, none⟩ = some (.string sa) ∧ w'.cell? ⟨w.heap.size + 1, 0, none⟩ = some (.bool na) ∧ w'.cell? ⟨w.heap.size + 1, 1, none⟩ = some (.string sb)) 6 (by kernel_rfl) (Cf1.out _ E1.out.drew) (fun hHeld => ?_)
  refine wpHK_pure (i := 0) (oi := Oper.mk (some 7) _ _ _ _ _) (v := ?_) rfl (by kernel_rfl) (by kernel_rfl) (by kernel_rfl) (fun _ _ _ h => h) (Or.inl ⟨by rfl, ?_⟩) ?_
  rotate_left
  · (intro w' _; go_simp; try with_reducible rfl)
  try simp only [Act.put, List.setIfInBounds_toArray, List.set_cons_zero, List.set_cons_succ]
  refine wpHK_pure (i := 3) (oi := Oper.mk (some 10) _ _ _ _ _) (v := ?_) rfl (by kernel_rfl) (by kernel_rfl) (by kernel_rfl) (fun _ _ _ h => h) (Or.inl ⟨by rfl, ?_⟩) ?_
  rotate_left
  · (intro w' _; go_simp; try with_reducible rfl)
  try simp only [Act.put, List.setIfInBounds_toArray, List.set_cons_zero, List.set_cons_succ]
  refine wpHK_take (i := 1) (oi := Oper.mk (some 8) _ _ _ _ _) (v := ?_) rfl (by kernel_rfl) (by kernel_rfl) (by kernel_rfl) (by kernel_rfl) (fun _ _ _ h => h) (Or.inl ⟨by rfl, ?_⟩) (by assumption) ?_
  rotate_left
  · (intro w' hSw; (try dsimp only at hSw); (obtain ⟨s0, s1, s2, s3⟩ := hSw); go_simp; try with_reducible rfl)
  try simp only [Act.put, List.setIfInBounds_toArray, List.set_cons_zero, List.set_cons_succ]
  refine wpHK_take (i := 4) (oi := Oper.mk (some 11) _ _ _ _ _) (v := ?_) rfl (by kernel_rfl) (by kernel_rfl) (by kernel_rfl) (by kernel_rfl) (fun _ _ _ h => h) (Or.inl ⟨by rfl, ?_⟩) (by assumption) ?_
  rotate_left
  · (intro w' hSw; (try dsimp only at hSw); (obtain ⟨s0, s1, s2, s3⟩ := hSw); go_simp; try with_reducible rfl)
  try simp only [Act.put, List.setIfInBounds_toArray, List.set_cons_zero, List.set_cons_succ]
  refine wpHK_one (j := 2) (o := Oper.mk (some 9) _ _ _ _ _) rfl (by kernel_rfl) (fun K hK => ?_)
  go_simp
  refine (HA.out _).mono ?_
  rintro e V1 ⟨A1, m1, c1, rfl, hm, hmc, hcl, hr, hb⟩
  have F1 := Lib.hid (Env.call E1.out.drew hb)
  have R1 := Lib.hid (And.intro hm.out (And.intro hmc (And.intro hcl hr)))
  have hbl := Lib.hid hb
  clear hm hmc hcl hr hb
  refine hK.out _ _ (Cf1.out _ F1.out) (fun _ => ?_)
  clear hK K hHeld
  have hHeld := (Cf1.out _ F1.out)
  try simp only [Act.put, List.setIfInBounds_toArray, List.set_cons_zero, List.set_cons_succ]
  refine wpHK_one (j := 5) (o := Oper.mk (some 12) _ _ _ _ _) rfl (by kernel_rfl) (fun K hK => ?_)
  go_simp
  refine (HB.out _).mono ?_
  rintro e V2 ⟨A2, m2, c2, rfl, hm, hmc, hcl, hr, hb⟩
  have F2 := Lib.hid (Env.call F1.out hb)
  have R2 := Lib.hid (And.intro hm.out (And.intro hmc (And.intro hcl hr)))
  have hbl := Lib.hid hb
  clear hm hmc hcl hr hb
  have R1' := Lib.hid (And.intro R1.out.1 (And.intro R1.out.2.1 (And.intro R1.out.2.2.1 ((R1.out.2.2.2.below hbl.out).more hbl.out.size))))
  clear R1 hbl
  have R1 := R1'
  clear R1'
  refine hK.out _ _ (Cf1.out _ F2.out) (fun _ => ?_)
  clear hK K hHeld
  have hHeld := (Cf1.out _ F2.out)
  try simp only [Act.put, List.setIfInBounds_toArray, List.set_cons_zero, List.set_cons_succ]
  refine wpHK_pure (i := 6) (oi := Oper.mk (some 5) _ _ _ _ _) (v := ?_) rfl (by kernel_rfl) (by kernel_rfl) (by kernel_rfl) (fun _ _ _ h => h) (Or.inl ⟨by rfl, ?_⟩) ?_
  rotate_left
  · (intro w' _; go_simp; try with_reducible rfl)
  try simp only [Act.put, List.setIfInBounds_toArray, List.set_cons_zero, List.set_cons_succ]
  refine wpHK_pure (i := 7) (oi := Oper.mk (some 6) _ _ _ _ _) (v := ?_) rfl (by kernel_rfl) (by kernel_rfl) (by kernel_rfl) (fun _ _ _ h => h) (Or.inl ⟨by rfl, ?_⟩) ?_
  rotate_left
  · (intro w' _; go_simp; try with_reducible rfl)
  try simp only [Act.put, List.setIfInBounds_toArray, List.set_cons_zero, List.set_cons_succ]
  refine wpHK_done (by kernel_rfl) ?_ _
  refine NoPanic.normal ?_
  have q0 := (Env.at_ F2.out 2 rfl).cell 0
  have q1 := (Env.at_ F2.out 1 rfl).cell 0
  simp at q0 q1
  go_upto_region 3 with fail
  clear q0 q1
  have Cf3 := Lib.hid (fun (W : World) (h : Env w W [(w.heap.size + 1 + 1, 26, #[.bool false, .string ⟨#[]⟩]), (w.heap.size + 1, 26, #[.bool na, .string sb]), (w.heap.size, 26, #[.bool na, .string sa])]) => (show W.cell? ⟨w.heap.size, 0, none⟩ = some (.bool na) ∧ W.cell? ⟨w.heap.size, 1, none⟩ = some (.string sa) ∧ W.cell? ⟨w.heap.size + 1, 0, none⟩ = some (.bool na) ∧ W.cell? ⟨w.heap.size + 1, 1, none⟩ = some (.string sb) from ⟨(Env.at_ h 2 rfl).cell 0, (Env.at_ h 2 rfl).cell 1, (Env.at_ h 1 rfl).cell 0, (Env.at_ h 1 rfl).cell 1⟩))
  refine wp_region_noPanic ?_
  refine wp_region_HK (fun w' => w'.cell? ⟨w.heap.size, 0, none⟩ = some (.bool na) ∧ w'.cell? ⟨w.heap.size, 1, none⟩ = some (.string sa) ∧ w'.cell? ⟨w.heap.size + 1, 0, none⟩ = some (.bool na) ∧ w'.cell? ⟨w.heap.size + 1, 1, none⟩ = some (.string sb)) 6 (by kernel_rfl) (Cf3.out _ F2.out.drew) (fun hHeld => ?_)
  refine wpHK_pure (i := 0) (oi := Oper.mk (some 18) _ _ _ _ _) (v := ?_) rfl (by kernel_rfl) (by kernel_rfl) (by kernel_rfl) (fun _ _ _ h => h) (Or.inl ⟨by rfl, ?_⟩) ?_
  rotate_left
  · (intro w' _; go_simp; try with_reducible rfl)
  try simp only [Act.put, List.setIfInBounds_toArray, List.set_cons_zero, List.set_cons_succ]
  refine wpHK_pure (i := 2) (oi := Oper.mk (some 20) _ _ _ _ _) (v := ?_) rfl (by kernel_rfl) (by kernel_rfl) (by kernel_rfl) (fun _ _ _ h => h) (Or.inl ⟨by rfl, ?_⟩) ?_
  rotate_left
  · (intro w' _; go_simp; try with_reducible rfl)
  try simp only [Act.put, List.setIfInBounds_toArray, List.set_cons_zero, List.set_cons_succ]
  refine wpHK_pure (i := 3) (oi := Oper.mk (some 21) _ _ _ _ _) (v := ?_) rfl (by kernel_rfl) (by kernel_rfl) (by kernel_rfl) (fun _ _ _ h => h) (Or.inl ⟨by rfl, ?_⟩) ?_
  rotate_left
  · (intro w' _; go_simp; try with_reducible rfl)
  try simp only [Act.put, List.setIfInBounds_toArray, List.set_cons_zero, List.set_cons_succ]
  refine wpHK_take (i := 1) (oi := Oper.mk (some 19) _ _ _ _ _) (v := ?_) rfl (by kernel_rfl) (by kernel_rfl) (by kernel_rfl) (by kernel_rfl) (fun _ _ _ h => h) (Or.inl ⟨by rfl, ?_⟩) (by assumption) ?_
  rotate_left
  · (intro w' hSw; (try dsimp only at hSw); (obtain ⟨s0, s1, s2, s3⟩ := hSw); go_simp; try with_reducible rfl)
  try simp only [Act.put, List.setIfInBounds_toArray, List.set_cons_zero, List.set_cons_succ]
  refine wpHK_one (j := 4) (o := Oper.mk (some 22) _ _ _ _ _) rfl (by kernel_rfl) (fun K hK => ?_)
  go_simp
  refine (rmore_any (w := V2.drew) R1.out.2.2.2 R2.out.2.2.2 (Nat.le_refl _) R1.out.1 R2.out.1 (by have := R1.out.1; have := Hla.out.1; omega) (by have := R2.out.1; have := Hla.out.2; omega) (wd_w _) (wd_w _)).mono ?_
  rintro e V3 ⟨A3, m3, c3, rfl, hm, hmc, hcl, hr, hb⟩
  simp only [val_w] at hm hr
  have F3 := Lib.hid (Env.call F2.out.drew hb)
  have R3 := Lib.hid (And.intro hm.out (And.intro hmc (And.intro hcl hr)))
  clear hm hmc hcl hr hb
  refine hK.out _ _ (Cf3.out _ F3.out) (fun _ => ?_)
  clear hK K hHeld
  have hHeld := (Cf3.out _ F3.out)
  try simp only [Act.put, List.setIfInBounds_toArray, List.set_cons_zero, List.set_cons_succ]
  refine wpHK_one (j := 5) (o := Oper.mk (some 23) _ _ _ _ _) rfl (by kernel_rfl) (fun K hK => ?_)
  go_simp
  have HM := made_any (w := _) (neg := na) R3.out.2.2.2 (Nat.le_refl _) R3.out.1 R3.out.2.1 R3.out.2.2.1 (by have := R3.out.1; have := len_sumN Hla.out.1 Hla.out.2; omega) (wd_w _)
  rw [val_w, sgn_add, ← Hnum.out.1, ← Hnum.out.2, ez] at HM
  refine HM.mono ?_
  rintro e V4 ⟨rfl, hb⟩
  have F4 := Lib.hid (Env.call F3.out hb)
  clear hb HM
  refine hK.out _ _ (Cf3.out _ F4.out) (fun _ => ?_)
  clear hK K hHeld
  have hHeld := (Cf3.out _ F4.out)
  try simp only [Act.put, List.setIfInBounds_toArray, List.set_cons_zero, List.set_cons_succ]
  refine wpHK_tail (j := 6) (o := Oper.mk (none) _ _ _ _ _) rfl (by kernel_rfl) (by decide) (fun K hK => ?_)
  have n4 := Env.at_ F4.out 0 rfl
  have y0 := n4.cell 0
  have y1 := n4.cell 1
  have y2 := n4.frozen 0
  have y3 := n4.frozen 1
  simp at y0 y1
  go_simp
  refine hK.out _ _ ?_
  clear hK K
  try simp only [Act.put, List.setIfInBounds_toArray, List.set_cons_zero, List.set_cons_succ]
  refine wpHK_done (by kernel_rfl) ?_ _
  refine NoPanic.normal ?_
  go_wp2_with fail
  have n5 := ((Env.at_ F4.out 0 rfl).set_ 0 (.bool zs)).set_ 1 (.string zb)
  have d0 := n5.cell 0
  have d1 := n5.cell 1
  simp at d0 d1
  refine bodyPost_ret (v := .agg #[.bool zs, .string zb]) (by simp [results, Try.results17, go_sem, d0, d1]) rfl ?_
  exact ⟨by rw [ez], ((F4.out.1).setCell (by show w.heap.size ≤ w.heap.size + 1 + 1; omega) _).setCell (by show w.heap.size ≤ w.heap.size + 1 + 1; omega) _⟩
theorem cmpN_ge {a b : Nat} (h : b ≤ a) : 0 ≤ cmpN a b ∧ cmpN a b ≤ 1 := by unfold cmpN; split <;> first | omega | (split <;> omega)
set_option maxRecDepth 100000 in
set_option maxHeartbeats 4000000 in
theorem rplus_ge {w : World} {na nb : Bool} {sa sb : ByteArray} (ha : Fmd sa) (hb : Fmd sb) (hs : na ≠ nb) (hle : bval sb.data.toList ≤ bval sa.data.toList) :
    Calls Try.prog 17 #[.agg #[.bool na, .string sa], .agg #[.bool nb, .string sb]] w (Calm w (enc (num (na, sa) + num (nb, sb)))) := by
  obtain ⟨zs, zb, ez⟩ : ∃ s b, enc (num (na, sa) + num (nb, sb)) = .agg #[.bool s, .string b] := ⟨_, _, rfl⟩
  have hbeq : (na == nb) = false := by simp [hs]
  have Hne := Lib.hid hs
  clear hs
  have HA := Lib.hid (fun W : World => words_any (w := W) (by have := ha.2; omega) ha.1)
  have HB := Lib.hid (fun W : World => words_any (w := W) (by have := hb.2; omega) hb.1)
  have Hla := Lib.hid (And.intro ha.len hb.len)
  have Hab := Lib.hid (And.intro ha hb)
  obtain ⟨a, hae⟩ : ∃ a, a = bval sa.data.toList := ⟨_, rfl⟩
  obtain ⟨b, hbe⟩ : ∃ b, b = bval sb.data.toList := ⟨_, rfl⟩
  rw [← hae] at HA
  rw [← hbe] at HB
  rw [← hae, ← hbe] at Hla
  rw [← hae, ← hbe] at hle
  have Hle := Lib.hid hle
  have hcg := cmpN_ge hle
  obtain ⟨hcg1, hcg2⟩ := hcg
  have hdc : decide (0 ≤ cmpN a b) = true := decide_eq_true hcg1
  clear hle
  have Hnum := Lib.hid (show num (na, sa) = sgn na a ∧ num (nb, sb) = sgn nb b from ⟨by rw [hae]; rfl, by rw [hbe]; rfl⟩)
  (try rw [← hae, ← hbe])
  clear hae hbe ha hb
  have E0 := Lib.hid (Env.nil w)
  go_enter Try.func17, Try.ntmps17
  go_upto_region 1 with fail
  have E1 : Hid (Env w (((w.alloc (.cells #[.bool na, .string sa] 26)).alloc (.cells #[.bool nb, .string sb] 26)).alloc (.cells #[.bool false, .string ⟨#[]⟩] 26)) [(w.heap.size + 1 + 1, 26, #[.bool false, .string ⟨#[]⟩]), (w.heap.size + 1, 26, #[.bool nb, .string sb]), (w.heap.size, 26, #[.bool na, .string sa])]) := Lib.hid (by have h := (Env.new (Env.new (Env.new E0.out 26 #[.bool na, .string sa]) 26 #[.bool nb, .string sb]) 26 #[.bool false, .string ⟨#[]⟩]); (try simp only [World.size_alloc] at h); exact h)
  generalize (((w.alloc (.cells #[.bool na, .string sa] 26)).alloc (.cells #[.bool nb, .string sb] 26)).alloc (.cells #[.bool false, .string ⟨#[]⟩] 26)) = W1 at E1 ⊢
  have Cf1 := Lib.hid (fun (W : World) (h : Env w W [(w.heap.size + 1 + 1, 26, #[.bool false, .string ⟨#[]⟩]), (w.heap.size + 1, 26, #[.bool nb, .string sb]), (w.heap.size, 26, #[.bool na, .string sa])]) => (show W.cell? ⟨w.heap.size, 0, none⟩ = some (.bool na) ∧ W.cell? ⟨w.heap.size, 1, none⟩ = some (.string sa) ∧ W.cell? ⟨w.heap.size + 1, 0, none⟩ = some (.bool nb) ∧ W.cell? ⟨w.heap.size + 1, 1, none⟩ = some (.string sb) from ⟨(Env.at_ h 2 rfl).cell 0, (Env.at_ h 2 rfl).cell 1, (Env.at_ h 1 rfl).cell 0, (Env.at_ h 1 rfl).cell 1⟩))
  refine wp_region_noPanic ?_
  refine wp_region_HK (fun w' => w'.cell? ⟨w.heap.size, 0, none⟩ = some (.bool na) ∧ w'.cell? ⟨w.heap.size, 1, none⟩ = some (.string sa) ∧ w'.cell? ⟨w.heap.size + 1, 0, none⟩ = some (.bool nb) ∧ w'.cell? ⟨w.heap.size + 1, 1, none⟩ = some (.string sb)) 6 (by kernel_rfl) (Cf1.out _ E1.out.drew) (fun hHeld => ?_)
  refine wpHK_pure (i := 0) (oi := Oper.mk (some 7) _ _ _ _ _) (v := ?_) rfl (by kernel_rfl) (by kernel_rfl) (by kernel_rfl) (fun _ _ _ h => h) (Or.inl ⟨by rfl, ?_⟩) ?_
  rotate_left
  · (intro w' _; go_simp; try with_reducible rfl)
  try simp only [Act.put, List.setIfInBounds_toArray, List.set_cons_zero, List.set_cons_succ]
  refine wpHK_pure (i := 3) (oi := Oper.mk (some 10) _ _ _ _ _) (v := ?_) rfl (by kernel_rfl) (by kernel_rfl) (by kernel_rfl) (fun _ _ _ h => h) (Or.inl ⟨by rfl, ?_⟩) ?_
  rotate_left
  · (intro w' _; go_simp; try with_reducible rfl)
  try simp only [Act.put, List.setIfInBounds_toArray, List.set_cons_zero, List.set_cons_succ]
  refine wpHK_take (i := 1) (oi := Oper.mk (some 8) _ _ _ _ _) (v := ?_) rfl (by kernel_rfl) (by kernel_rfl) (by kernel_rfl) (by kernel_rfl) (fun _ _ _ h => h) (Or.inl ⟨by rfl, ?_⟩) (by assumption) ?_
  rotate_left
  · (intro w' hSw; (try dsimp only at hSw); (obtain ⟨s0, s1, s2, s3⟩ := hSw); go_simp; try with_reducible rfl)
  try simp only [Act.put, List.setIfInBounds_toArray, List.set_cons_zero, List.set_cons_succ]
  refine wpHK_take (i := 4) (oi := Oper.mk (some 11) _ _ _ _ _) (v := ?_) rfl (by kernel_rfl) (by kernel_rfl) (by kernel_rfl) (by kernel_rfl) (fun _ _ _ h => h) (Or.inl ⟨by rfl, ?_⟩) (by assumption) ?_
  rotate_left
  · (intro w' hSw; (try dsimp only at hSw); (obtain ⟨s0, s1, s2, s3⟩ := hSw); go_simp; try with_reducible rfl)
  try simp only [Act.put, List.setIfInBounds_toArray, List.set_cons_zero, List.set_cons_succ]
  refine wpHK_one (j := 2) (o := Oper.mk (some 9) _ _ _ _ _) rfl (by kernel_rfl) (fun K hK => ?_)
  go_simp
  refine (HA.out _).mono ?_
  rintro e V1 ⟨A1, m1, c1, rfl, hm, hmc, hcl, hr, hb⟩
  have F1 := Lib.hid (Env.call E1.out.drew hb)
  have R1 := Lib.hid (And.intro hm.out (And.intro hmc (And.intro hcl hr)))
  have hbl := Lib.hid hb
  clear hm hmc hcl hr hb
  refine hK.out _ _ (Cf1.out _ F1.out) (fun _ => ?_)
  clear hK K hHeld
  have hHeld := (Cf1.out _ F1.out)
  try simp only [Act.put, List.setIfInBounds_toArray, List.set_cons_zero, List.set_cons_succ]
  refine wpHK_one (j := 5) (o := Oper.mk (some 12) _ _ _ _ _) rfl (by kernel_rfl) (fun K hK => ?_)
  go_simp
  refine (HB.out _).mono ?_
  rintro e V2 ⟨A2, m2, c2, rfl, hm, hmc, hcl, hr, hb⟩
  have F2 := Lib.hid (Env.call F1.out hb)
  have R2 := Lib.hid (And.intro hm.out (And.intro hmc (And.intro hcl hr)))
  have hbl := Lib.hid hb
  clear hm hmc hcl hr hb
  have R1' := Lib.hid (And.intro R1.out.1 (And.intro R1.out.2.1 (And.intro R1.out.2.2.1 ((R1.out.2.2.2.below hbl.out).more hbl.out.size))))
  clear R1 hbl
  have R1 := R1'
  clear R1'
  refine hK.out _ _ (Cf1.out _ F2.out) (fun _ => ?_)
  clear hK K hHeld
  have hHeld := (Cf1.out _ F2.out)
  try simp only [Act.put, List.setIfInBounds_toArray, List.set_cons_zero, List.set_cons_succ]
  refine wpHK_pure (i := 6) (oi := Oper.mk (some 5) _ _ _ _ _) (v := ?_) rfl (by kernel_rfl) (by kernel_rfl) (by kernel_rfl) (fun _ _ _ h => h) (Or.inl ⟨by rfl, ?_⟩) ?_
  rotate_left
  · (intro w' _; go_simp; try with_reducible rfl)
  try simp only [Act.put, List.setIfInBounds_toArray, List.set_cons_zero, List.set_cons_succ]
  refine wpHK_pure (i := 7) (oi := Oper.mk (some 6) _ _ _ _ _) (v := ?_) rfl (by kernel_rfl) (by kernel_rfl) (by kernel_rfl) (fun _ _ _ h => h) (Or.inl ⟨by rfl, ?_⟩) ?_
  rotate_left
  · (intro w' _; go_simp; try with_reducible rfl)
  try simp only [Act.put, List.setIfInBounds_toArray, List.set_cons_zero, List.set_cons_succ]
  refine wpHK_done (by kernel_rfl) ?_ _
  refine NoPanic.normal ?_
  have q0 := (Env.at_ F2.out 2 rfl).cell 0
  have q1 := (Env.at_ F2.out 1 rfl).cell 0
  simp at q0 q1
  go_upto_region 4 with fail
  clear q0 q1
  have HU := runder_any (c := c1) (d := c2) R1.out.2.2.2 R2.out.2.2.2 R1.out.1 R2.out.1 (by have := R1.out.1; have := Hla.out.1; omega) (by have := R2.out.1; have := Hla.out.2; omega)
  skip
  go_wp2_with fail
  refine HU.mono ?_
  rintro e V3 ⟨q, rfl, rfl⟩
  clear HU
  have F3 := Lib.hid (F2.out.drewN q)
  have R1' := Lib.hid (And.intro R1.out.1 (And.intro R1.out.2.1 (And.intro R1.out.2.2.1 (R1.out.2.2.2.drewN q))))
  have R2' := Lib.hid (And.intro R2.out.1 (And.intro R2.out.2.1 (And.intro R2.out.2.2.1 (R2.out.2.2.2.drewN q))))
  clear R1 R2
  skip
  go_upto_region 5 with fail
  have Cf5 := Lib.hid (fun (W : World) (h : Env w W [(w.heap.size + 1 + 1, 26, #[.bool false, .string ⟨#[]⟩]), (w.heap.size + 1, 26, #[.bool nb, .string sb]), (w.heap.size, 26, #[.bool na, .string sa])]) => (show W.cell? ⟨w.heap.size, 0, none⟩ = some (.bool na) ∧ W.cell? ⟨w.heap.size, 1, none⟩ = some (.string sa) ∧ W.cell? ⟨w.heap.size + 1, 0, none⟩ = some (.bool nb) ∧ W.cell? ⟨w.heap.size + 1, 1, none⟩ = some (.string sb) from ⟨(Env.at_ h 2 rfl).cell 0, (Env.at_ h 2 rfl).cell 1, (Env.at_ h 1 rfl).cell 0, (Env.at_ h 1 rfl).cell 1⟩))
  refine wp_region_noPanic ?_
  refine wp_region_HK (fun w' => w'.cell? ⟨w.heap.size, 0, none⟩ = some (.bool na) ∧ w'.cell? ⟨w.heap.size, 1, none⟩ = some (.string sa) ∧ w'.cell? ⟨w.heap.size + 1, 0, none⟩ = some (.bool nb) ∧ w'.cell? ⟨w.heap.size + 1, 1, none⟩ = some (.string sb)) 6 (by kernel_rfl) (Cf5.out _ F3.out.drew) (fun hHeld => ?_)
  refine wpHK_pure (i := 0) (oi := Oper.mk (some 28) _ _ _ _ _) (v := ?_) rfl (by kernel_rfl) (by kernel_rfl) (by kernel_rfl) (fun _ _ _ h => h) (Or.inl ⟨by rfl, ?_⟩) ?_
  rotate_left
  · (intro w' _; go_simp; try with_reducible rfl)
  try simp only [Act.put, List.setIfInBounds_toArray, List.set_cons_zero, List.set_cons_succ]
  refine wpHK_pure (i := 2) (oi := Oper.mk (some 30) _ _ _ _ _) (v := ?_) rfl (by kernel_rfl) (by kernel_rfl) (by kernel_rfl) (fun _ _ _ h => h) (Or.inl ⟨by rfl, ?_⟩) ?_
  rotate_left
  · (intro w' _; go_simp; try with_reducible rfl)
  try simp only [Act.put, List.setIfInBounds_toArray, List.set_cons_zero, List.set_cons_succ]
  refine wpHK_pure (i := 3) (oi := Oper.mk (some 31) _ _ _ _ _) (v := ?_) rfl (by kernel_rfl) (by kernel_rfl) (by kernel_rfl) (fun _ _ _ h => h) (Or.inl ⟨by rfl, ?_⟩) ?_
  rotate_left
  · (intro w' _; go_simp; try with_reducible rfl)
  try simp only [Act.put, List.setIfInBounds_toArray, List.set_cons_zero, List.set_cons_succ]
  refine wpHK_take (i := 1) (oi := Oper.mk (some 29) _ _ _ _ _) (v := ?_) rfl (by kernel_rfl) (by kernel_rfl) (by kernel_rfl) (by kernel_rfl) (fun _ _ _ h => h) (Or.inl ⟨by rfl, ?_⟩) (by assumption) ?_
  rotate_left
  · (intro w' hSw; (try dsimp only at hSw); (obtain ⟨s0, s1, s2, s3⟩ := hSw); go_simp; try with_reducible rfl)
  try simp only [Act.put, List.setIfInBounds_toArray, List.set_cons_zero, List.set_cons_succ]
  refine wpHK_one (j := 4) (o := Oper.mk (some 32) _ _ _ _ _) rfl (by kernel_rfl) (fun K hK => ?_)
  go_simp
  refine (rless_any (w := (V2.drewN q).drew) R1'.out.2.2.2 R2'.out.2.2.2 (Nat.le_refl _) R1'.out.1 R2'.out.1 (by have := R1'.out.1; have := Hla.out.1; omega) (by rw [R1'.out.1, R2'.out.1]; exact len_mono Hle.out) (by rw [val_w, val_w]; exact Hle.out) (wd_w _) (wd_w _)).mono ?_
  rintro e V4 ⟨A3, m3, c3, rfl, hm, hmc, hcl, hr, hb⟩
  simp only [val_w] at hm hr
  have F4 := Lib.hid (Env.call F3.out.drew hb)
  have R3 := Lib.hid (And.intro hm.out (And.intro hmc (And.intro hcl hr)))
  clear hm hmc hcl hr hb
  refine hK.out _ _ (Cf5.out _ F4.out) (fun _ => ?_)
  clear hK K hHeld
  have hHeld := (Cf5.out _ F4.out)
  try simp only [Act.put, List.setIfInBounds_toArray, List.set_cons_zero, List.set_cons_succ]
  refine wpHK_one (j := 5) (o := Oper.mk (some 33) _ _ _ _ _) rfl (by kernel_rfl) (fun K hK => ?_)
  go_simp
  have HM := made_any (w := _) (neg := na) R3.out.2.2.2 (Nat.le_refl _) R3.out.1 R3.out.2.1 R3.out.2.2.1 (by have h1 := R3.out.1; have h2 := Hla.out; have h3 := len_mono (a := a - b) (b := a) (Nat.sub_le _ _); omega) (wd_w _)
  rw [val_w, sgn_sub Hne.out Hle.out, ← Hnum.out.1, ← Hnum.out.2, ez] at HM
  refine HM.mono ?_
  rintro e V5 ⟨rfl, hb⟩
  have F5 := Lib.hid (Env.call F4.out hb)
  clear hb HM
  refine hK.out _ _ (Cf5.out _ F5.out) (fun _ => ?_)
  clear hK K hHeld
  have hHeld := (Cf5.out _ F5.out)
  try simp only [Act.put, List.setIfInBounds_toArray, List.set_cons_zero, List.set_cons_succ]
  refine wpHK_tail (j := 6) (o := Oper.mk (none) _ _ _ _ _) rfl (by kernel_rfl) (by decide) (fun K hK => ?_)
  have n4 := Env.at_ F5.out 0 rfl
  have y0 := n4.cell 0
  have y1 := n4.cell 1
  have y2 := n4.frozen 0
  have y3 := n4.frozen 1
  simp at y0 y1
  go_simp
  refine hK.out _ _ ?_
  clear hK K
  try simp only [Act.put, List.setIfInBounds_toArray, List.set_cons_zero, List.set_cons_succ]
  refine wpHK_done (by kernel_rfl) ?_ _
  refine NoPanic.normal ?_
  go_wp2_with fail
  have n5 := ((Env.at_ F5.out 0 rfl).set_ 0 (.bool zs)).set_ 1 (.string zb)
  have d0 := n5.cell 0
  have d1 := n5.cell 1
  simp at d0 d1
  refine bodyPost_ret (v := .agg #[.bool zs, .string zb]) (by simp [results, Try.results17, go_sem, d0, d1]) rfl ?_
  exact ⟨by rw [ez], ((F5.out.1).setCell (by show w.heap.size ≤ w.heap.size + 1 + 1; omega) _).setCell (by show w.heap.size ≤ w.heap.size + 1 + 1; omega) _⟩
set_option maxRecDepth 100000 in
set_option maxHeartbeats 4000000 in
theorem rplus_lt {w : World} {na nb : Bool} {sa sb : ByteArray} (ha : Fmd sa) (hb : Fmd sb) (hs : na ≠ nb) (hlt : bval sa.data.toList < bval sb.data.toList) :
    Calls Try.prog 17 #[.agg #[.bool na, .string sa], .agg #[.bool nb, .string sb]] w (Calm w (enc (num (na, sa) + num (nb, sb)))) := by
  obtain ⟨zs, zb, ez⟩ : ∃ s b, enc (num (na, sa) + num (nb, sb)) = .agg #[.bool s, .string b] := ⟨_, _, rfl⟩
  have hbeq : (na == nb) = false := by simp [hs]
  have Hne := Lib.hid hs
  clear hs
  have HA := Lib.hid (fun W : World => words_any (w := W) (by have := ha.2; omega) ha.1)
  have HB := Lib.hid (fun W : World => words_any (w := W) (by have := hb.2; omega) hb.1)
  have Hla := Lib.hid (And.intro ha.len hb.len)
  have Hab := Lib.hid (And.intro ha hb)
  obtain ⟨a, hae⟩ : ∃ a, a = bval sa.data.toList := ⟨_, rfl⟩
  obtain ⟨b, hbe⟩ : ∃ b, b = bval sb.data.toList := ⟨_, rfl⟩
  rw [← hae] at HA
  rw [← hbe] at HB
  rw [← hae, ← hbe] at Hla
  rw [← hae, ← hbe] at hlt
  have Hle := Lib.hid (Nat.le_of_lt hlt)
  have HC := Lib.hid (cmpN_lt hlt)
  clear hlt
  have Hnum := Lib.hid (show num (na, sa) = sgn na a ∧ num (nb, sb) = sgn nb b from ⟨by rw [hae]; rfl, by rw [hbe]; rfl⟩)
  (try rw [← hae, ← hbe])
  clear hae hbe ha hb
  have E0 := Lib.hid (Env.nil w)
  go_enter Try.func17, Try.ntmps17
  go_upto_region 1 with fail
  have E1 : Hid (Env w (((w.alloc (.cells #[.bool na, .string sa] 26)).alloc (.cells #[.bool nb, .string sb] 26)).alloc (.cells #[.bool false, .string ⟨#[]⟩] 26)) [(w.heap.size + 1 + 1, 26, #[.bool false, .string ⟨#[]⟩]), (w.heap.size + 1, 26, #[.bool nb, .string sb]), (w.heap.size, 26, #[.bool na, .string sa])]) := Lib.hid (by have h := (Env.new (Env.new (Env.new E0.out 26 #[.bool na, .string sa]) 26 #[.bool nb, .string sb]) 26 #[.bool false, .string ⟨#[]⟩]); (try simp only [World.size_alloc] at h); exact h)
  generalize (((w.alloc (.cells #[.bool na, .string sa] 26)).alloc (.cells #[.bool nb, .string sb] 26)).alloc (.cells #[.bool false, .string ⟨#[]⟩] 26)) = W1 at E1 ⊢
  have Cf1 := Lib.hid (fun (W : World) (h : Env w W [(w.heap.size + 1 + 1, 26, #[.bool false, .string ⟨#[]⟩]), (w.heap.size + 1, 26, #[.bool nb, .string sb]), (w.heap.size, 26, #[.bool na, .string sa])]) => (show W.cell? ⟨w.heap.size, 0, none⟩ = some (.bool na) ∧ W.cell? ⟨w.heap.size, 1, none⟩ = some (.string sa) ∧ W.cell? ⟨w.heap.size + 1, 0, none⟩ = some (.bool nb) ∧ W.cell? ⟨w.heap.size + 1, 1, none⟩ = some (.string sb) from ⟨(Env.at_ h 2 rfl).cell 0, (Env.at_ h 2 rfl).cell 1, (Env.at_ h 1 rfl).cell 0, (Env.at_ h 1 rfl).cell 1⟩))
  refine wp_region_noPanic ?_
  refine wp_region_HK (fun w' => w'.cell? ⟨w.heap.size, 0, none⟩ = some (.bool na) ∧ w'.cell? ⟨w.heap.size, 1, none⟩ = some (.string sa) ∧ w'.cell? ⟨w.heap.size + 1, 0, none⟩ = some (.bool nb) ∧ w'.cell? ⟨w.heap.size + 1, 1, none⟩ = some (.string sb)) 6 (by kernel_rfl) (Cf1.out _ E1.out.drew) (fun hHeld => ?_)
  refine wpHK_pure (i := 0) (oi := Oper.mk (some 7) _ _ _ _ _) (v := ?_) rfl (by kernel_rfl) (by kernel_rfl) (by kernel_rfl) (fun _ _ _ h => h) (Or.inl ⟨by rfl, ?_⟩) ?_
  rotate_left
  · (intro w' _; go_simp; try with_reducible rfl)
  try simp only [Act.put, List.setIfInBounds_toArray, List.set_cons_zero, List.set_cons_succ]
  refine wpHK_pure (i := 3) (oi := Oper.mk (some 10) _ _ _ _ _) (v := ?_) rfl (by kernel_rfl) (by kernel_rfl) (by kernel_rfl) (fun _ _ _ h => h) (Or.inl ⟨by rfl, ?_⟩) ?_
  rotate_left
  · (intro w' _; go_simp; try with_reducible rfl)
  try simp only [Act.put, List.setIfInBounds_toArray, List.set_cons_zero, List.set_cons_succ]
  refine wpHK_take (i := 1) (oi := Oper.mk (some 8) _ _ _ _ _) (v := ?_) rfl (by kernel_rfl) (by kernel_rfl) (by kernel_rfl) (by kernel_rfl) (fun _ _ _ h => h) (Or.inl ⟨by rfl, ?_⟩) (by assumption) ?_
  rotate_left
  · (intro w' hSw; (try dsimp only at hSw); (obtain ⟨s0, s1, s2, s3⟩ := hSw); go_simp; try with_reducible rfl)
  try simp only [Act.put, List.setIfInBounds_toArray, List.set_cons_zero, List.set_cons_succ]
  refine wpHK_take (i := 4) (oi := Oper.mk (some 11) _ _ _ _ _) (v := ?_) rfl (by kernel_rfl) (by kernel_rfl) (by kernel_rfl) (by kernel_rfl) (fun _ _ _ h => h) (Or.inl ⟨by rfl, ?_⟩) (by assumption) ?_
  rotate_left
  · (intro w' hSw; (try dsimp only at hSw); (obtain ⟨s0, s1, s2, s3⟩ := hSw); go_simp; try with_reducible rfl)
  try simp only [Act.put, List.setIfInBounds_toArray, List.set_cons_zero, List.set_cons_succ]
  refine wpHK_one (j := 2) (o := Oper.mk (some 9) _ _ _ _ _) rfl (by kernel_rfl) (fun K hK => ?_)
  go_simp
  refine (HA.out _).mono ?_
  rintro e V1 ⟨A1, m1, c1, rfl, hm, hmc, hcl, hr, hb⟩
  have F1 := Lib.hid (Env.call E1.out.drew hb)
  have R1 := Lib.hid (And.intro hm.out (And.intro hmc (And.intro hcl hr)))
  have hbl := Lib.hid hb
  clear hm hmc hcl hr hb
  refine hK.out _ _ (Cf1.out _ F1.out) (fun _ => ?_)
  clear hK K hHeld
  have hHeld := (Cf1.out _ F1.out)
  try simp only [Act.put, List.setIfInBounds_toArray, List.set_cons_zero, List.set_cons_succ]
  refine wpHK_one (j := 5) (o := Oper.mk (some 12) _ _ _ _ _) rfl (by kernel_rfl) (fun K hK => ?_)
  go_simp
  refine (HB.out _).mono ?_
  rintro e V2 ⟨A2, m2, c2, rfl, hm, hmc, hcl, hr, hb⟩
  have F2 := Lib.hid (Env.call F1.out hb)
  have R2 := Lib.hid (And.intro hm.out (And.intro hmc (And.intro hcl hr)))
  have hbl := Lib.hid hb
  clear hm hmc hcl hr hb
  have R1' := Lib.hid (And.intro R1.out.1 (And.intro R1.out.2.1 (And.intro R1.out.2.2.1 ((R1.out.2.2.2.below hbl.out).more hbl.out.size))))
  clear R1 hbl
  have R1 := R1'
  clear R1'
  refine hK.out _ _ (Cf1.out _ F2.out) (fun _ => ?_)
  clear hK K hHeld
  have hHeld := (Cf1.out _ F2.out)
  try simp only [Act.put, List.setIfInBounds_toArray, List.set_cons_zero, List.set_cons_succ]
  refine wpHK_pure (i := 6) (oi := Oper.mk (some 5) _ _ _ _ _) (v := ?_) rfl (by kernel_rfl) (by kernel_rfl) (by kernel_rfl) (fun _ _ _ h => h) (Or.inl ⟨by rfl, ?_⟩) ?_
  rotate_left
  · (intro w' _; go_simp; try with_reducible rfl)
  try simp only [Act.put, List.setIfInBounds_toArray, List.set_cons_zero, List.set_cons_succ]
  refine wpHK_pure (i := 7) (oi := Oper.mk (some 6) _ _ _ _ _) (v := ?_) rfl (by kernel_rfl) (by kernel_rfl) (by kernel_rfl) (fun _ _ _ h => h) (Or.inl ⟨by rfl, ?_⟩) ?_
  rotate_left
  · (intro w' _; go_simp; try with_reducible rfl)
  try simp only [Act.put, List.setIfInBounds_toArray, List.set_cons_zero, List.set_cons_succ]
  refine wpHK_done (by kernel_rfl) ?_ _
  refine NoPanic.normal ?_
  have q0 := (Env.at_ F2.out 2 rfl).cell 0
  have q1 := (Env.at_ F2.out 1 rfl).cell 0
  simp at q0 q1
  go_upto_region 4 with fail
  clear q0 q1
  have HU := runder_any (c := c1) (d := c2) R1.out.2.2.2 R2.out.2.2.2 R1.out.1 R2.out.1 (by have := R1.out.1; have := Hla.out.1; omega) (by have := R2.out.1; have := Hla.out.2; omega)
  rw [HC.out] at HU
  go_wp2_with fail
  refine HU.mono ?_
  rintro e V3 ⟨q, rfl, rfl⟩
  clear HU
  have F3 := Lib.hid (F2.out.drewN q)
  have R1' := Lib.hid (And.intro R1.out.1 (And.intro R1.out.2.1 (And.intro R1.out.2.2.1 (R1.out.2.2.2.drewN q))))
  have R2' := Lib.hid (And.intro R2.out.1 (And.intro R2.out.2.1 (And.intro R2.out.2.2.1 (R2.out.2.2.2.drewN q))))
  clear R1 R2
  skip
  go_upto_region 6 with fail
  have Cf6 := Lib.hid (fun (W : World) (h : Env w W [(w.heap.size + 1 + 1, 26, #[.bool false, .string ⟨#[]⟩]), (w.heap.size + 1, 26, #[.bool nb, .string sb]), (w.heap.size, 26, #[.bool na, .string sa])]) => (show W.cell? ⟨w.heap.size, 0, none⟩ = some (.bool na) ∧ W.cell? ⟨w.heap.size, 1, none⟩ = some (.string sa) ∧ W.cell? ⟨w.heap.size + 1, 0, none⟩ = some (.bool nb) ∧ W.cell? ⟨w.heap.size + 1, 1, none⟩ = some (.string sb) from ⟨(Env.at_ h 2 rfl).cell 0, (Env.at_ h 2 rfl).cell 1, (Env.at_ h 1 rfl).cell 0, (Env.at_ h 1 rfl).cell 1⟩))
  refine wp_region_noPanic ?_
  refine wp_region_HK (fun w' => w'.cell? ⟨w.heap.size, 0, none⟩ = some (.bool na) ∧ w'.cell? ⟨w.heap.size, 1, none⟩ = some (.string sa) ∧ w'.cell? ⟨w.heap.size + 1, 0, none⟩ = some (.bool nb) ∧ w'.cell? ⟨w.heap.size + 1, 1, none⟩ = some (.string sb)) 6 (by kernel_rfl) (Cf6.out _ F3.out.drew) (fun hHeld => ?_)
  refine wpHK_pure (i := 0) (oi := Oper.mk (some 34) _ _ _ _ _) (v := ?_) rfl (by kernel_rfl) (by kernel_rfl) (by kernel_rfl) (fun _ _ _ h => h) (Or.inl ⟨by rfl, ?_⟩) ?_
  rotate_left
  · (intro w' _; go_simp; try with_reducible rfl)
  try simp only [Act.put, List.setIfInBounds_toArray, List.set_cons_zero, List.set_cons_succ]
  refine wpHK_pure (i := 2) (oi := Oper.mk (some 36) _ _ _ _ _) (v := ?_) rfl (by kernel_rfl) (by kernel_rfl) (by kernel_rfl) (fun _ _ _ h => h) (Or.inl ⟨by rfl, ?_⟩) ?_
  rotate_left
  · (intro w' _; go_simp; try with_reducible rfl)
  try simp only [Act.put, List.setIfInBounds_toArray, List.set_cons_zero, List.set_cons_succ]
  refine wpHK_pure (i := 3) (oi := Oper.mk (some 37) _ _ _ _ _) (v := ?_) rfl (by kernel_rfl) (by kernel_rfl) (by kernel_rfl) (fun _ _ _ h => h) (Or.inl ⟨by rfl, ?_⟩) ?_
  rotate_left
  · (intro w' _; go_simp; try with_reducible rfl)
  try simp only [Act.put, List.setIfInBounds_toArray, List.set_cons_zero, List.set_cons_succ]
  refine wpHK_take (i := 1) (oi := Oper.mk (some 35) _ _ _ _ _) (v := ?_) rfl (by kernel_rfl) (by kernel_rfl) (by kernel_rfl) (by kernel_rfl) (fun _ _ _ h => h) (Or.inl ⟨by rfl, ?_⟩) (by assumption) ?_
  rotate_left
  · (intro w' hSw; (try dsimp only at hSw); (obtain ⟨s0, s1, s2, s3⟩ := hSw); go_simp; try with_reducible rfl)
  try simp only [Act.put, List.setIfInBounds_toArray, List.set_cons_zero, List.set_cons_succ]
  refine wpHK_one (j := 4) (o := Oper.mk (some 38) _ _ _ _ _) rfl (by kernel_rfl) (fun K hK => ?_)
  go_simp
  refine (rless_any (w := (V2.drewN q).drew) R2'.out.2.2.2 R1'.out.2.2.2 (Nat.le_refl _) R2'.out.1 R1'.out.1 (by have := R2'.out.1; have := Hla.out.2; omega) (by rw [R1'.out.1, R2'.out.1]; exact len_mono Hle.out) (by rw [val_w, val_w]; exact Hle.out) (wd_w _) (wd_w _)).mono ?_
  rintro e V4 ⟨A3, m3, c3, rfl, hm, hmc, hcl, hr, hb⟩
  simp only [val_w] at hm hr
  have F4 := Lib.hid (Env.call F3.out.drew hb)
  have R3 := Lib.hid (And.intro hm.out (And.intro hmc (And.intro hcl hr)))
  clear hm hmc hcl hr hb
  refine hK.out _ _ (Cf6.out _ F4.out) (fun _ => ?_)
  clear hK K hHeld
  have hHeld := (Cf6.out _ F4.out)
  try simp only [Act.put, List.setIfInBounds_toArray, List.set_cons_zero, List.set_cons_succ]
  refine wpHK_one (j := 5) (o := Oper.mk (some 39) _ _ _ _ _) rfl (by kernel_rfl) (fun K hK => ?_)
  go_simp
  have HM := made_any (w := _) (neg := nb) R3.out.2.2.2 (Nat.le_refl _) R3.out.1 R3.out.2.1 R3.out.2.2.1 (by have h1 := R3.out.1; have h2 := Hla.out; have h3 := len_mono (a := b - a) (b := b) (Nat.sub_le _ _); omega) (wd_w _)
  rw [val_w, sgn_sub' Hne.out Hle.out, ← Hnum.out.1, ← Hnum.out.2, ez] at HM
  refine HM.mono ?_
  rintro e V5 ⟨rfl, hb⟩
  have F5 := Lib.hid (Env.call F4.out hb)
  clear hb HM
  refine hK.out _ _ (Cf6.out _ F5.out) (fun _ => ?_)
  clear hK K hHeld
  have hHeld := (Cf6.out _ F5.out)
  try simp only [Act.put, List.setIfInBounds_toArray, List.set_cons_zero, List.set_cons_succ]
  refine wpHK_tail (j := 6) (o := Oper.mk (none) _ _ _ _ _) rfl (by kernel_rfl) (by decide) (fun K hK => ?_)
  have n4 := Env.at_ F5.out 0 rfl
  have y0 := n4.cell 0
  have y1 := n4.cell 1
  have y2 := n4.frozen 0
  have y3 := n4.frozen 1
  simp at y0 y1
  go_simp
  refine hK.out _ _ ?_
  clear hK K
  try simp only [Act.put, List.setIfInBounds_toArray, List.set_cons_zero, List.set_cons_succ]
  refine wpHK_done (by kernel_rfl) ?_ _
  refine NoPanic.normal ?_
  go_wp2_with fail
  have n5 := ((Env.at_ F5.out 0 rfl).set_ 0 (.bool zs)).set_ 1 (.string zb)
  have d0 := n5.cell 0
  have d1 := n5.cell 1
  simp at d0 d1
  refine bodyPost_ret (v := .agg #[.bool zs, .string zb]) (by simp [results, Try.results17, go_sem, d0, d1]) rfl ?_
  exact ⟨by rw [ez], ((F5.out.1).setCell (by show w.heap.size ≤ w.heap.size + 1 + 1; omega) _).setCell (by show w.heap.size ≤ w.heap.size + 1 + 1; omega) _⟩
theorem rplus_any {w : World} {na nb : Bool} {sa sb : ByteArray} (ha : Fmd sa) (hb : Fmd sb) :
    Calls Try.prog 17 #[.agg #[.bool na, .string sa], .agg #[.bool nb, .string sb]] w (Calm w (enc (num (na, sa) + num (nb, sb)))) := by
  by_cases hs : na = nb
  · exact rplus_same ha hb hs
  · rcases Nat.lt_or_ge (bval sa.data.toList) (bval sb.data.toList) with h | h
    · exact rplus_lt ha hb hs h
    · exact rplus_ge ha hb hs h
theorem num_neg {n : Bool} {s : ByteArray} (hf : Fmd s) : num ((!n && decide (0 < s.size)), s) = -num (n, s) := by
  have h1 := enc_neg (n := n) hf
  have hl : s.data.toList.length = s.size := Array.length_toList
  unfold num
  dsimp only
  rcases Nat.eq_zero_or_pos s.size with h0 | h0
  · have he : s.data.toList = [] := List.eq_nil_of_length_eq_zero (by omega)
    rw [he, bval_nil]
    cases n <;> simp [sgn]
  · rw [decide_eq_true h0, Bool.and_true]
    unfold sgn
    cases n <;> simp
theorem cmp_sg {x y : Int} : (sg x ≠ sg y → cmpI x y = if sg x < sg y then -1 else 1) ∧ (sg x = sg y → sg x * cmpN x.natAbs y.natAbs = cmpI x y) := by
  unfold sg cmpI cmpN
  by_cases hx0 : x = 0 <;> by_cases hy0 : y = 0 <;> by_cases hx : x < 0 <;> by_cases hy : y < 0 <;> simp [hx0, hy0, hx, hy] <;> (try omega) <;> (repeat' split) <;> omega
theorem cmp_wrap {z : Int} {a b : Nat} (h1 : -1 ≤ z) (h2 : z ≤ 1) : IntKind.i64.wrap (z * cmpN a b) = z * cmpN a b := by
  have h3 : cmpN a b = -1 ∨ cmpN a b = 0 ∨ cmpN a b = 1 := by unfold cmpN; split <;> first | omega | (split <;> omega)
  rcases h3 with h | h | h <;> rw [h] <;> exact IntWalk.i64_in _ (by omega)
theorem sg_bounds (x : Int) : -1 ≤ sg x ∧ sg x ≤ 1 := by
  unfold sg
  by_cases h0 : x = 0
  · simp [h0]
  · rw [if_neg h0]
    split <;> omega
set_option maxRecDepth 100000 in
set_option maxHeartbeats 4000000 in
theorem rminus_any {w : World} {na nb : Bool} {sa sb : ByteArray} (ha : Fmd sa) (hb : Fmd sb) :
    Calls Try.prog 31 #[.agg #[.bool na, .string sa], .agg #[.bool nb, .string sb]] w (Calm w (enc (num (na, sa) - num (nb, sb)))) := by
  obtain ⟨zs, zb, ez⟩ : ∃ s b, enc (num (na, sa) - num (nb, sb)) = .agg #[.bool s, .string b] := ⟨_, _, rfl⟩
  have H47 := Lib.hid (fun W : World => rneg_any (w := W) (n := nb) hb)
  rw [enc_neg hb] at H47
  have Hnc := Lib.hid (num_neg (n := nb) hb)
  generalize (!nb && decide (0 < sb.size)) = nc at H47 Hnc
  have H17 := Lib.hid (fun W : World => rplus_any (w := W) (na := na) (nb := nc) ha hb)
  rw [Hnc.out, ← Int.sub_eq_add_neg, ez] at H17
  have HA := Lib.hid (fun W : World => words_any (w := W) (by have := ha.2; omega) ha.1)
  have HB := Lib.hid (fun W : World => words_any (w := W) (by have := hb.2; omega) hb.1)
  have Hla := Lib.hid (And.intro ha.len hb.len)
  have Hab := Lib.hid (And.intro ha hb)
  obtain ⟨a, hae⟩ : ∃ a, a = bval sa.data.toList := ⟨_, rfl⟩
  obtain ⟨b, hbe⟩ : ∃ b, b = bval sb.data.toList := ⟨_, rfl⟩
  rw [← hae] at HA
  rw [← hbe] at HB
  rw [← hae, ← hbe] at Hla
  have Hnum := Lib.hid (show num (na, sa) = sgn na a ∧ num (nb, sb) = sgn nb b from ⟨by rw [hae]; rfl, by rw [hbe]; rfl⟩)
  (try rw [← hae, ← hbe])
  clear hae hbe ha hb
  have E0 := Lib.hid (Env.nil w)
  go_enter Try.func31, Try.ntmps31
  clear HA HB Hla Hnum Hab
  go_upto_region 1 with fail
  have E1 : Hid (Env w (((w.alloc (.cells #[.bool na, .string sa] 26)).alloc (.cells #[.bool nb, .string sb] 26)).alloc (.cells #[.bool false, .string ⟨#[]⟩] 26)) [(w.heap.size + 1 + 1, 26, #[.bool false, .string ⟨#[]⟩]), (w.heap.size + 1, 26, #[.bool nb, .string sb]), (w.heap.size, 26, #[.bool na, .string sa])]) := Lib.hid (by have h := (Env.new (Env.new (Env.new E0.out 26 #[.bool na, .string sa]) 26 #[.bool nb, .string sb]) 26 #[.bool false, .string ⟨#[]⟩]); (try simp only [World.size_alloc] at h); exact h)
  generalize (((w.alloc (.cells #[.bool na, .string sa] 26)).alloc (.cells #[.bool nb, .string sb] 26)).alloc (.cells #[.bool false, .string ⟨#[]⟩] 26)) = W1 at E1 ⊢
  have Cf1 := Lib.hid (fun (W : World) (h : Env w W [(w.heap.size + 1 + 1, 26, #[.bool false, .string ⟨#[]⟩]), (w.heap.size + 1, 26, #[.bool nb, .string sb]), (w.heap.size, 26, #[.bool na, .string sa])]) => (show W.cell? ⟨w.heap.size, 0, none⟩ = some (.bool na) ∧ W.cell? ⟨w.heap.size, 1, none⟩ = some (.string sa) ∧ W.cell? ⟨w.heap.size + 1, 0, none⟩ = some (.bool nb) ∧ W.cell? ⟨w.heap.size + 1, 1, none⟩ = some (.string sb) from ⟨(Env.at_ h 2 rfl).cell 0, (Env.at_ h 2 rfl).cell 1, (Env.at_ h 1 rfl).cell 0, (Env.at_ h 1 rfl).cell 1⟩))
  refine wp_region_noPanic ?_
  refine wp_region_HK (fun w' => w'.cell? ⟨w.heap.size, 0, none⟩ = some (.bool na) ∧ w'.cell? ⟨w.heap.size, 1, none⟩ = some (.string sa) ∧ w'.cell? ⟨w.heap.size + 1, 0, none⟩ = some (.bool nb) ∧ w'.cell? ⟨w.heap.size + 1, 1, none⟩ = some (.string sb)) 4 (by kernel_rfl) (Cf1.out _ E1.out.drew) (fun hHeld => ?_)
  refine wpHK_take (i := 0) (oi := Oper.mk (some 5) _ _ _ _ _) (v := ?_) rfl (by kernel_rfl) (by kernel_rfl) (by kernel_rfl) (by kernel_rfl) (fun _ _ _ h => h) (Or.inl ⟨by rfl, ?_⟩) (by assumption) ?_
  rotate_left
  · (intro w' hSw; (try dsimp only at hSw); (obtain ⟨s0, s1, s2, s3⟩ := hSw); go_simp; try with_reducible rfl)
  try simp only [Act.put, List.setIfInBounds_toArray, List.set_cons_zero, List.set_cons_succ]
  refine wpHK_take (i := 1) (oi := Oper.mk (some 6) _ _ _ _ _) (v := ?_) rfl (by kernel_rfl) (by kernel_rfl) (by kernel_rfl) (by kernel_rfl) (fun _ _ _ h => h) (Or.inl ⟨by rfl, ?_⟩) (by assumption) ?_
  rotate_left
  · (intro w' hSw; (try dsimp only at hSw); (obtain ⟨s0, s1, s2, s3⟩ := hSw); go_simp; try with_reducible rfl)
  try simp only [Act.put, List.setIfInBounds_toArray, List.set_cons_zero, List.set_cons_succ]
  refine wpHK_one (j := 2) (o := Oper.mk (some 7) _ _ _ _ _) rfl (by kernel_rfl) (fun K hK => ?_)
  go_simp
  refine (H47.out _).mono ?_
  rintro e V1 ⟨rfl, hb⟩
  have F1 := Lib.hid (Env.call E1.out.drew hb)
  clear hb
  refine hK.out _ _ (Cf1.out _ F1.out) (fun _ => ?_)
  clear hK K hHeld
  have hHeld := (Cf1.out _ F1.out)
  try simp only [Act.put, List.setIfInBounds_toArray, List.set_cons_zero, List.set_cons_succ]
  refine wpHK_one (j := 3) (o := Oper.mk (some 8) _ _ _ _ _) rfl (by kernel_rfl) (fun K hK => ?_)
  go_simp
  refine (H17.out _).mono ?_
  rintro e V2 ⟨rfl, hb⟩
  have F2 := Lib.hid (Env.call F1.out hb)
  clear hb
  refine hK.out _ _ (Cf1.out _ F2.out) (fun _ => ?_)
  clear hK K hHeld
  have hHeld := (Cf1.out _ F2.out)
  try simp only [Act.put, List.setIfInBounds_toArray, List.set_cons_zero, List.set_cons_succ]
  refine wpHK_tail (j := 4) (o := Oper.mk (none) _ _ _ _ _) rfl (by kernel_rfl) (by decide) (fun K hK => ?_)
  have n4 := Env.at_ F2.out 0 rfl
  have y0 := n4.cell 0
  have y1 := n4.cell 1
  have y2 := n4.frozen 0
  have y3 := n4.frozen 1
  simp at y0 y1
  go_simp
  refine hK.out _ _ ?_
  clear hK K
  try simp only [Act.put, List.setIfInBounds_toArray, List.set_cons_zero, List.set_cons_succ]
  refine wpHK_done (by kernel_rfl) ?_ _
  refine NoPanic.normal ?_
  go_wp2_with fail
  have n5 := ((Env.at_ F2.out 0 rfl).set_ 0 (.bool zs)).set_ 1 (.string zb)
  have d0 := n5.cell 0
  have d1 := n5.cell 1
  simp at d0 d1
  refine bodyPost_ret (v := .agg #[.bool zs, .string zb]) (by simp [results, Try.results31, go_sem, d0, d1]) rfl ?_
  exact ⟨by rw [ez], ((F2.out.1).setCell (by show w.heap.size ≤ w.heap.size + 1 + 1; omega) _).setCell (by show w.heap.size ≤ w.heap.size + 1 + 1; omega) _⟩
set_option maxRecDepth 100000 in
set_option maxHeartbeats 4000000 in
theorem rcmp_lt {w : World} {na nb : Bool} {sa sb : ByteArray} (ha : Fmd sa) (hb : Fmd sb) (hs : sg (num (na, sa)) ≠ sg (num (nb, sb))) (hlt : sg (num (na, sa)) < sg (num (nb, sb))) :
    Calls Try.prog 30 #[.agg #[.bool na, .string sa], .agg #[.bool nb, .string sb]] w (Calm w (.int .i64 (cmpI (num (na, sa)) (num (nb, sb))))) := by
  have HS := Lib.hid (fun W : World => rsign_any (w := W) (n := na) ha)
  have HT := Lib.hid (fun W : World => rsign_any (w := W) (n := nb) hb)
  have hb1 := sg_bounds (num (na, sa))
  have hb2 := sg_bounds (num (nb, sb))
  obtain ⟨hb11, hb12⟩ := hb1
  obtain ⟨hb21, hb22⟩ := hb2
  have hz := cmp_sg.1 hs
  rw [hz]
  rw [if_pos hlt]
  have hbe : (sg (num (na, sa)) == sg (num (nb, sb))) = false := beq_eq_false_iff_ne.2 hs
  generalize sg (num (na, sa)) = zx at *
  generalize sg (num (nb, sb)) = zy at *
  clear hz
  have HA := Lib.hid (fun W : World => words_any (w := W) (by have := ha.2; omega) ha.1)
  have HB := Lib.hid (fun W : World => words_any (w := W) (by have := hb.2; omega) hb.1)
  have Hla := Lib.hid (And.intro ha.len hb.len)
  have Hab := Lib.hid (And.intro ha hb)
  obtain ⟨a, hae⟩ : ∃ a, a = bval sa.data.toList := ⟨_, rfl⟩
  obtain ⟨b, hbe⟩ : ∃ b, b = bval sb.data.toList := ⟨_, rfl⟩
  rw [← hae] at HA
  rw [← hbe] at HB
  rw [← hae, ← hbe] at Hla
  have Hnum := Lib.hid (show num (na, sa) = sgn na a ∧ num (nb, sb) = sgn nb b from ⟨by rw [hae]; rfl, by rw [hbe]; rfl⟩)
  (try rw [← hae, ← hbe])
  clear hae hbe ha hb
  have E0 := Lib.hid (Env.nil w)
  go_enter Try.func30, Try.ntmps30
  go_upto_region 1 with fail
  have E1 : Hid (Env w ((w.alloc (.cells #[.bool na, .string sa] 26)).alloc (.cells #[.bool nb, .string sb] 26)) [(w.heap.size + 1, 26, #[.bool nb, .string sb]), (w.heap.size, 26, #[.bool na, .string sa])]) := Lib.hid (by have h := (Env.new (Env.new E0.out 26 #[.bool na, .string sa]) 26 #[.bool nb, .string sb]); (try simp only [World.size_alloc] at h); exact h)
  generalize ((w.alloc (.cells #[.bool na, .string sa] 26)).alloc (.cells #[.bool nb, .string sb] 26)) = W1 at E1 ⊢
  have Cf1 := Lib.hid (fun (W : World) (h : Env w W [(w.heap.size + 1, 26, #[.bool nb, .string sb]), (w.heap.size, 26, #[.bool na, .string sa])]) => (show W.cell? ⟨w.heap.size, 0, none⟩ = some (.bool na) ∧ W.cell? ⟨w.heap.size, 1, none⟩ = some (.string sa) ∧ W.cell? ⟨w.heap.size + 1, 0, none⟩ = some (.bool nb) ∧ W.cell? ⟨w.heap.size + 1, 1, none⟩ = some (.string sb) from ⟨(Env.at_ h 1 rfl).cell 0, (Env.at_ h 1 rfl).cell 1, (Env.at_ h 0 rfl).cell 0, (Env.at_ h 0 rfl).cell 1⟩))
  refine wp_region_noPanic ?_
  refine wp_region_HK (fun w' => w'.cell? ⟨w.heap.size, 0, none⟩ = some (.bool na) ∧ w'.cell? ⟨w.heap.size, 1, none⟩ = some (.string sa) ∧ w'.cell? ⟨w.heap.size + 1, 0, none⟩ = some (.bool nb) ∧ w'.cell? ⟨w.heap.size + 1, 1, none⟩ = some (.string sb)) 4 (by kernel_rfl) (Cf1.out _ E1.out.drew) (fun hHeld => ?_)
  refine wpHK_take (i := 0) (oi := Oper.mk (some 7) _ _ _ _ _) (v := ?_) rfl (by kernel_rfl) (by kernel_rfl) (by kernel_rfl) (by kernel_rfl) (fun _ _ _ h => h) (Or.inl ⟨by rfl, ?_⟩) (by assumption) ?_
  rotate_left
  · (intro w' hSw; (try dsimp only at hSw); (obtain ⟨s0, s1, s2, s3⟩ := hSw); go_simp; try with_reducible rfl)
  try simp only [Act.put, List.setIfInBounds_toArray, List.set_cons_zero, List.set_cons_succ]
  refine wpHK_take (i := 2) (oi := Oper.mk (some 9) _ _ _ _ _) (v := ?_) rfl (by kernel_rfl) (by kernel_rfl) (by kernel_rfl) (by kernel_rfl) (fun _ _ _ h => h) (Or.inl ⟨by rfl, ?_⟩) (by assumption) ?_
  rotate_left
  · (intro w' hSw; (try dsimp only at hSw); (obtain ⟨s0, s1, s2, s3⟩ := hSw); go_simp; try with_reducible rfl)
  try simp only [Act.put, List.setIfInBounds_toArray, List.set_cons_zero, List.set_cons_succ]
  refine wpHK_one (j := 1) (o := Oper.mk (some 8) _ _ _ _ _) rfl (by kernel_rfl) (fun K hK => ?_)
  go_simp
  refine (HS.out _).mono ?_
  rintro e V1 ⟨rfl, hb⟩
  have F1 := Lib.hid (Env.call E1.out.drew hb)
  clear hb
  refine hK.out _ _ (Cf1.out _ F1.out) (fun _ => ?_)
  clear hK K hHeld
  have hHeld := (Cf1.out _ F1.out)
  try simp only [Act.put, List.setIfInBounds_toArray, List.set_cons_zero, List.set_cons_succ]
  refine wpHK_one (j := 3) (o := Oper.mk (some 10) _ _ _ _ _) rfl (by kernel_rfl) (fun K hK => ?_)
  go_simp
  refine (HT.out _).mono ?_
  rintro e V2 ⟨rfl, hb⟩
  have F2 := Lib.hid (Env.call F1.out hb)
  clear hb
  refine hK.out _ _ (Cf1.out _ F2.out) (fun _ => ?_)
  clear hK K hHeld
  have hHeld := (Cf1.out _ F2.out)
  try simp only [Act.put, List.setIfInBounds_toArray, List.set_cons_zero, List.set_cons_succ]
  refine wpHK_pure (i := 4) (oi := Oper.mk (some 5) _ _ _ _ _) (v := ?_) rfl (by kernel_rfl) (by kernel_rfl) (by kernel_rfl) (fun _ _ _ h => h) (Or.inl ⟨by rfl, ?_⟩) ?_
  rotate_left
  · (intro w' _; go_simp; try with_reducible rfl)
  try simp only [Act.put, List.setIfInBounds_toArray, List.set_cons_zero, List.set_cons_succ]
  refine wpHK_pure (i := 5) (oi := Oper.mk (some 6) _ _ _ _ _) (v := ?_) rfl (by kernel_rfl) (by kernel_rfl) (by kernel_rfl) (fun _ _ _ h => h) (Or.inl ⟨by rfl, ?_⟩) ?_
  rotate_left
  · (intro w' _; go_simp; try with_reducible rfl)
  try simp only [Act.put, List.setIfInBounds_toArray, List.set_cons_zero, List.set_cons_succ]
  refine wpHK_done (by kernel_rfl) ?_ _
  refine NoPanic.normal ?_
  go_wp2_with fail
  go_ret
  exact ⟨rfl, F2.out.1⟩
set_option maxRecDepth 100000 in
set_option maxHeartbeats 4000000 in
theorem rcmp_gt {w : World} {na nb : Bool} {sa sb : ByteArray} (ha : Fmd sa) (hb : Fmd sb) (hs : sg (num (na, sa)) ≠ sg (num (nb, sb))) (hlt : ¬ sg (num (na, sa)) < sg (num (nb, sb))) :
    Calls Try.prog 30 #[.agg #[.bool na, .string sa], .agg #[.bool nb, .string sb]] w (Calm w (.int .i64 (cmpI (num (na, sa)) (num (nb, sb))))) := by
  have HS := Lib.hid (fun W : World => rsign_any (w := W) (n := na) ha)
  have HT := Lib.hid (fun W : World => rsign_any (w := W) (n := nb) hb)
  have hb1 := sg_bounds (num (na, sa))
  have hb2 := sg_bounds (num (nb, sb))
  obtain ⟨hb11, hb12⟩ := hb1
  obtain ⟨hb21, hb22⟩ := hb2
  have hz := cmp_sg.1 hs
  rw [hz]
  rw [if_neg hlt]
  have hbe : (sg (num (na, sa)) == sg (num (nb, sb))) = false := beq_eq_false_iff_ne.2 hs
  generalize sg (num (na, sa)) = zx at *
  generalize sg (num (nb, sb)) = zy at *
  clear hz
  have HA := Lib.hid (fun W : World => words_any (w := W) (by have := ha.2; omega) ha.1)
  have HB := Lib.hid (fun W : World => words_any (w := W) (by have := hb.2; omega) hb.1)
  have Hla := Lib.hid (And.intro ha.len hb.len)
  have Hab := Lib.hid (And.intro ha hb)
  obtain ⟨a, hae⟩ : ∃ a, a = bval sa.data.toList := ⟨_, rfl⟩
  obtain ⟨b, hbe⟩ : ∃ b, b = bval sb.data.toList := ⟨_, rfl⟩
  rw [← hae] at HA
  rw [← hbe] at HB
  rw [← hae, ← hbe] at Hla
  have Hnum := Lib.hid (show num (na, sa) = sgn na a ∧ num (nb, sb) = sgn nb b from ⟨by rw [hae]; rfl, by rw [hbe]; rfl⟩)
  (try rw [← hae, ← hbe])
  clear hae hbe ha hb
  have E0 := Lib.hid (Env.nil w)
  go_enter Try.func30, Try.ntmps30
  go_upto_region 1 with fail
  have E1 : Hid (Env w ((w.alloc (.cells #[.bool na, .string sa] 26)).alloc (.cells #[.bool nb, .string sb] 26)) [(w.heap.size + 1, 26, #[.bool nb, .string sb]), (w.heap.size, 26, #[.bool na, .string sa])]) := Lib.hid (by have h := (Env.new (Env.new E0.out 26 #[.bool na, .string sa]) 26 #[.bool nb, .string sb]); (try simp only [World.size_alloc] at h); exact h)
  generalize ((w.alloc (.cells #[.bool na, .string sa] 26)).alloc (.cells #[.bool nb, .string sb] 26)) = W1 at E1 ⊢
  have Cf1 := Lib.hid (fun (W : World) (h : Env w W [(w.heap.size + 1, 26, #[.bool nb, .string sb]), (w.heap.size, 26, #[.bool na, .string sa])]) => (show W.cell? ⟨w.heap.size, 0, none⟩ = some (.bool na) ∧ W.cell? ⟨w.heap.size, 1, none⟩ = some (.string sa) ∧ W.cell? ⟨w.heap.size + 1, 0, none⟩ = some (.bool nb) ∧ W.cell? ⟨w.heap.size + 1, 1, none⟩ = some (.string sb) from ⟨(Env.at_ h 1 rfl).cell 0, (Env.at_ h 1 rfl).cell 1, (Env.at_ h 0 rfl).cell 0, (Env.at_ h 0 rfl).cell 1⟩))
  refine wp_region_noPanic ?_
  refine wp_region_HK (fun w' => w'.cell? ⟨w.heap.size, 0, none⟩ = some (.bool na) ∧ w'.cell? ⟨w.heap.size, 1, none⟩ = some (.string sa) ∧ w'.cell? ⟨w.heap.size + 1, 0, none⟩ = some (.bool nb) ∧ w'.cell? ⟨w.heap.size + 1, 1, none⟩ = some (.string sb)) 4 (by kernel_rfl) (Cf1.out _ E1.out.drew) (fun hHeld => ?_)
  refine wpHK_take (i := 0) (oi := Oper.mk (some 7) _ _ _ _ _) (v := ?_) rfl (by kernel_rfl) (by kernel_rfl) (by kernel_rfl) (by kernel_rfl) (fun _ _ _ h => h) (Or.inl ⟨by rfl, ?_⟩) (by assumption) ?_
  rotate_left
  · (intro w' hSw; (try dsimp only at hSw); (obtain ⟨s0, s1, s2, s3⟩ := hSw); go_simp; try with_reducible rfl)
  try simp only [Act.put, List.setIfInBounds_toArray, List.set_cons_zero, List.set_cons_succ]
  refine wpHK_take (i := 2) (oi := Oper.mk (some 9) _ _ _ _ _) (v := ?_) rfl (by kernel_rfl) (by kernel_rfl) (by kernel_rfl) (by kernel_rfl) (fun _ _ _ h => h) (Or.inl ⟨by rfl, ?_⟩) (by assumption) ?_
  rotate_left
  · (intro w' hSw; (try dsimp only at hSw); (obtain ⟨s0, s1, s2, s3⟩ := hSw); go_simp; try with_reducible rfl)
  try simp only [Act.put, List.setIfInBounds_toArray, List.set_cons_zero, List.set_cons_succ]
  refine wpHK_one (j := 1) (o := Oper.mk (some 8) _ _ _ _ _) rfl (by kernel_rfl) (fun K hK => ?_)
  go_simp
  refine (HS.out _).mono ?_
  rintro e V1 ⟨rfl, hb⟩
  have F1 := Lib.hid (Env.call E1.out.drew hb)
  clear hb
  refine hK.out _ _ (Cf1.out _ F1.out) (fun _ => ?_)
  clear hK K hHeld
  have hHeld := (Cf1.out _ F1.out)
  try simp only [Act.put, List.setIfInBounds_toArray, List.set_cons_zero, List.set_cons_succ]
  refine wpHK_one (j := 3) (o := Oper.mk (some 10) _ _ _ _ _) rfl (by kernel_rfl) (fun K hK => ?_)
  go_simp
  refine (HT.out _).mono ?_
  rintro e V2 ⟨rfl, hb⟩
  have F2 := Lib.hid (Env.call F1.out hb)
  clear hb
  refine hK.out _ _ (Cf1.out _ F2.out) (fun _ => ?_)
  clear hK K hHeld
  have hHeld := (Cf1.out _ F2.out)
  try simp only [Act.put, List.setIfInBounds_toArray, List.set_cons_zero, List.set_cons_succ]
  refine wpHK_pure (i := 4) (oi := Oper.mk (some 5) _ _ _ _ _) (v := ?_) rfl (by kernel_rfl) (by kernel_rfl) (by kernel_rfl) (fun _ _ _ h => h) (Or.inl ⟨by rfl, ?_⟩) ?_
  rotate_left
  · (intro w' _; go_simp; try with_reducible rfl)
  try simp only [Act.put, List.setIfInBounds_toArray, List.set_cons_zero, List.set_cons_succ]
  refine wpHK_pure (i := 5) (oi := Oper.mk (some 6) _ _ _ _ _) (v := ?_) rfl (by kernel_rfl) (by kernel_rfl) (by kernel_rfl) (fun _ _ _ h => h) (Or.inl ⟨by rfl, ?_⟩) ?_
  rotate_left
  · (intro w' _; go_simp; try with_reducible rfl)
  try simp only [Act.put, List.setIfInBounds_toArray, List.set_cons_zero, List.set_cons_succ]
  refine wpHK_done (by kernel_rfl) ?_ _
  refine NoPanic.normal ?_
  go_wp2_with fail
  go_ret
  exact ⟨rfl, F2.out.1⟩
set_option maxRecDepth 100000 in
set_option maxHeartbeats 4000000 in
theorem rcmp_same {w : World} {na nb : Bool} {sa sb : ByteArray} (ha : Fmd sa) (hb : Fmd sb) (hs : sg (num (na, sa)) = sg (num (nb, sb))) :
    Calls Try.prog 30 #[.agg #[.bool na, .string sa], .agg #[.bool nb, .string sb]] w (Calm w (.int .i64 (cmpI (num (na, sa)) (num (nb, sb))))) := by
  have HS := Lib.hid (fun W : World => rsign_any (w := W) (n := na) ha)
  have HT := Lib.hid (fun W : World => rsign_any (w := W) (n := nb) hb)
  have hb1 := sg_bounds (num (na, sa))
  have hb2 := sg_bounds (num (nb, sb))
  obtain ⟨hb11, hb12⟩ := hb1
  obtain ⟨hb21, hb22⟩ := hb2
  have hz := cmp_sg.2 hs
  have hbe : (sg (num (na, sa)) == sg (num (nb, sb))) = true := beq_iff_eq.2 hs
  rw [show (num (na, sa)).natAbs = bval sa.data.toList from sgn_abs _ _, show (num (nb, sb)).natAbs = bval sb.data.toList from sgn_abs _ _] at hz
  rw [← hs] at HT hbe
  rw [← hz]
  clear hz hs hb21 hb22
  generalize sg (num (na, sa)) = zx at *
  have HA := Lib.hid (fun W : World => words_any (w := W) (by have := ha.2; omega) ha.1)
  have HB := Lib.hid (fun W : World => words_any (w := W) (by have := hb.2; omega) hb.1)
  have Hla := Lib.hid (And.intro ha.len hb.len)
  have Hab := Lib.hid (And.intro ha hb)
  obtain ⟨a, hae⟩ : ∃ a, a = bval sa.data.toList := ⟨_, rfl⟩
  obtain ⟨b, hbe⟩ : ∃ b, b = bval sb.data.toList := ⟨_, rfl⟩
  rw [← hae] at HA
  rw [← hbe] at HB
  rw [← hae, ← hbe] at Hla
  have Hnum := Lib.hid (show num (na, sa) = sgn na a ∧ num (nb, sb) = sgn nb b from ⟨by rw [hae]; rfl, by rw [hbe]; rfl⟩)
  (try rw [← hae, ← hbe])
  clear hae hbe ha hb
  have E0 := Lib.hid (Env.nil w)
  go_enter Try.func30, Try.ntmps30
  go_upto_region 1 with fail
  have E1 : Hid (Env w ((w.alloc (.cells #[.bool na, .string sa] 26)).alloc (.cells #[.bool nb, .string sb] 26)) [(w.heap.size + 1, 26, #[.bool nb, .string sb]), (w.heap.size, 26, #[.bool na, .string sa])]) := Lib.hid (by have h := (Env.new (Env.new E0.out 26 #[.bool na, .string sa]) 26 #[.bool nb, .string sb]); (try simp only [World.size_alloc] at h); exact h)
  generalize ((w.alloc (.cells #[.bool na, .string sa] 26)).alloc (.cells #[.bool nb, .string sb] 26)) = W1 at E1 ⊢
  have Cf1 := Lib.hid (fun (W : World) (h : Env w W [(w.heap.size + 1, 26, #[.bool nb, .string sb]), (w.heap.size, 26, #[.bool na, .string sa])]) => (show W.cell? ⟨w.heap.size, 0, none⟩ = some (.bool na) ∧ W.cell? ⟨w.heap.size, 1, none⟩ = some (.string sa) ∧ W.cell? ⟨w.heap.size + 1, 0, none⟩ = some (.bool nb) ∧ W.cell? ⟨w.heap.size + 1, 1, none⟩ = some (.string sb) from ⟨(Env.at_ h 1 rfl).cell 0, (Env.at_ h 1 rfl).cell 1, (Env.at_ h 0 rfl).cell 0, (Env.at_ h 0 rfl).cell 1⟩))
  refine wp_region_noPanic ?_
  refine wp_region_HK (fun w' => w'.cell? ⟨w.heap.size, 0, none⟩ = some (.bool na) ∧ w'.cell? ⟨w.heap.size, 1, none⟩ = some (.string sa) ∧ w'.cell? ⟨w.heap.size + 1, 0, none⟩ = some (.bool nb) ∧ w'.cell? ⟨w.heap.size + 1, 1, none⟩ = some (.string sb)) 4 (by kernel_rfl) (Cf1.out _ E1.out.drew) (fun hHeld => ?_)
  refine wpHK_take (i := 0) (oi := Oper.mk (some 7) _ _ _ _ _) (v := ?_) rfl (by kernel_rfl) (by kernel_rfl) (by kernel_rfl) (by kernel_rfl) (fun _ _ _ h => h) (Or.inl ⟨by rfl, ?_⟩) (by assumption) ?_
  rotate_left
  · (intro w' hSw; (try dsimp only at hSw); (obtain ⟨s0, s1, s2, s3⟩ := hSw); go_simp; try with_reducible rfl)
  try simp only [Act.put, List.setIfInBounds_toArray, List.set_cons_zero, List.set_cons_succ]
  refine wpHK_take (i := 2) (oi := Oper.mk (some 9) _ _ _ _ _) (v := ?_) rfl (by kernel_rfl) (by kernel_rfl) (by kernel_rfl) (by kernel_rfl) (fun _ _ _ h => h) (Or.inl ⟨by rfl, ?_⟩) (by assumption) ?_
  rotate_left
  · (intro w' hSw; (try dsimp only at hSw); (obtain ⟨s0, s1, s2, s3⟩ := hSw); go_simp; try with_reducible rfl)
  try simp only [Act.put, List.setIfInBounds_toArray, List.set_cons_zero, List.set_cons_succ]
  refine wpHK_one (j := 1) (o := Oper.mk (some 8) _ _ _ _ _) rfl (by kernel_rfl) (fun K hK => ?_)
  go_simp
  refine (HS.out _).mono ?_
  rintro e V1 ⟨rfl, hb⟩
  have F1 := Lib.hid (Env.call E1.out.drew hb)
  clear hb
  refine hK.out _ _ (Cf1.out _ F1.out) (fun _ => ?_)
  clear hK K hHeld
  have hHeld := (Cf1.out _ F1.out)
  try simp only [Act.put, List.setIfInBounds_toArray, List.set_cons_zero, List.set_cons_succ]
  refine wpHK_one (j := 3) (o := Oper.mk (some 10) _ _ _ _ _) rfl (by kernel_rfl) (fun K hK => ?_)
  go_simp
  refine (HT.out _).mono ?_
  rintro e V2 ⟨rfl, hb⟩
  have F2 := Lib.hid (Env.call F1.out hb)
  clear hb
  refine hK.out _ _ (Cf1.out _ F2.out) (fun _ => ?_)
  clear hK K hHeld
  have hHeld := (Cf1.out _ F2.out)
  try simp only [Act.put, List.setIfInBounds_toArray, List.set_cons_zero, List.set_cons_succ]
  refine wpHK_pure (i := 4) (oi := Oper.mk (some 5) _ _ _ _ _) (v := ?_) rfl (by kernel_rfl) (by kernel_rfl) (by kernel_rfl) (fun _ _ _ h => h) (Or.inl ⟨by rfl, ?_⟩) ?_
  rotate_left
  · (intro w' _; go_simp; try with_reducible rfl)
  try simp only [Act.put, List.setIfInBounds_toArray, List.set_cons_zero, List.set_cons_succ]
  refine wpHK_pure (i := 5) (oi := Oper.mk (some 6) _ _ _ _ _) (v := ?_) rfl (by kernel_rfl) (by kernel_rfl) (by kernel_rfl) (fun _ _ _ h => h) (Or.inl ⟨by rfl, ?_⟩) ?_
  rotate_left
  · (intro w' _; go_simp; try with_reducible rfl)
  try simp only [Act.put, List.setIfInBounds_toArray, List.set_cons_zero, List.set_cons_succ]
  refine wpHK_done (by kernel_rfl) ?_ _
  refine NoPanic.normal ?_
  go_upto_region 6 with fail
  have hw := cmp_wrap (a := a) (b := b) hb11 hb12
  have Cf6 := Lib.hid (fun (W : World) (h : Env w W [(w.heap.size + 1, 26, #[.bool nb, .string sb]), (w.heap.size, 26, #[.bool na, .string sa])]) => (show W.cell? ⟨w.heap.size, 0, none⟩ = some (.bool na) ∧ W.cell? ⟨w.heap.size, 1, none⟩ = some (.string sa) ∧ W.cell? ⟨w.heap.size + 1, 0, none⟩ = some (.bool nb) ∧ W.cell? ⟨w.heap.size + 1, 1, none⟩ = some (.string sb) from ⟨(Env.at_ h 1 rfl).cell 0, (Env.at_ h 1 rfl).cell 1, (Env.at_ h 0 rfl).cell 0, (Env.at_ h 0 rfl).cell 1⟩))
  refine wp_region_noPanic ?_
  refine wp_region_HK (fun w' => w'.cell? ⟨w.heap.size, 0, none⟩ = some (.bool na) ∧ w'.cell? ⟨w.heap.size, 1, none⟩ = some (.string sa) ∧ w'.cell? ⟨w.heap.size + 1, 0, none⟩ = some (.bool nb) ∧ w'.cell? ⟨w.heap.size + 1, 1, none⟩ = some (.string sb)) 9 (by kernel_rfl) (Cf6.out _ F2.out.drew) (fun hHeld => ?_)
  refine wpHK_pure (i := 0) (oi := Oper.mk (some 17) _ _ _ _ _) (v := ?_) rfl (by kernel_rfl) (by kernel_rfl) (by kernel_rfl) (fun _ _ _ h => h) (Or.inl ⟨by rfl, ?_⟩) ?_
  rotate_left
  · (intro w' _; go_simp; try with_reducible rfl)
  try simp only [Act.put, List.setIfInBounds_toArray, List.set_cons_zero, List.set_cons_succ]
  refine wpHK_pure (i := 1) (oi := Oper.mk (some 18) _ _ _ _ _) (v := ?_) rfl (by kernel_rfl) (by kernel_rfl) (by kernel_rfl) (fun _ _ _ h => h) (Or.inl ⟨by rfl, ?_⟩) ?_
  rotate_left
  · (intro w' _; go_simp; try with_reducible rfl)
  try simp only [Act.put, List.setIfInBounds_toArray, List.set_cons_zero, List.set_cons_succ]
  refine wpHK_pure (i := 4) (oi := Oper.mk (some 21) _ _ _ _ _) (v := ?_) rfl (by kernel_rfl) (by kernel_rfl) (by kernel_rfl) (fun _ _ _ h => h) (Or.inl ⟨by rfl, ?_⟩) ?_
  rotate_left
  · (intro w' _; go_simp; try with_reducible rfl)
  try simp only [Act.put, List.setIfInBounds_toArray, List.set_cons_zero, List.set_cons_succ]
  refine wpHK_take (i := 2) (oi := Oper.mk (some 19) _ _ _ _ _) (v := ?_) rfl (by kernel_rfl) (by kernel_rfl) (by kernel_rfl) (by kernel_rfl) (fun _ _ _ h => h) (Or.inl ⟨by rfl, ?_⟩) (by assumption) ?_
  rotate_left
  · (intro w' hSw; (try dsimp only at hSw); (obtain ⟨s0, s1, s2, s3⟩ := hSw); go_simp; try with_reducible rfl)
  try simp only [Act.put, List.setIfInBounds_toArray, List.set_cons_zero, List.set_cons_succ]
  refine wpHK_take (i := 5) (oi := Oper.mk (some 22) _ _ _ _ _) (v := ?_) rfl (by kernel_rfl) (by kernel_rfl) (by kernel_rfl) (by kernel_rfl) (fun _ _ _ h => h) (Or.inl ⟨by rfl, ?_⟩) (by assumption) ?_
  rotate_left
  · (intro w' hSw; (try dsimp only at hSw); (obtain ⟨s0, s1, s2, s3⟩ := hSw); go_simp; try with_reducible rfl)
  try simp only [Act.put, List.setIfInBounds_toArray, List.set_cons_zero, List.set_cons_succ]
  refine wpHK_one (j := 3) (o := Oper.mk (some 20) _ _ _ _ _) rfl (by kernel_rfl) (fun K hK => ?_)
  go_simp
  refine (HA.out _).mono ?_
  rintro e V3 ⟨A1, m1, c1, rfl, hm, hmc, hcl, hr, hb⟩
  have F3 := Lib.hid (Env.call F2.out.drew hb)
  have R1 := Lib.hid (And.intro hm.out (And.intro hmc (And.intro hcl hr)))
  have hbl := Lib.hid hb
  clear hm hmc hcl hr hb
  refine hK.out _ _ (Cf6.out _ F3.out) (fun _ => ?_)
  clear hK K hHeld
  have hHeld := (Cf6.out _ F3.out)
  try simp only [Act.put, List.setIfInBounds_toArray, List.set_cons_zero, List.set_cons_succ]
  refine wpHK_one (j := 6) (o := Oper.mk (some 23) _ _ _ _ _) rfl (by kernel_rfl) (fun K hK => ?_)
  go_simp
  refine (HB.out _).mono ?_
  rintro e V4 ⟨A2, m2, c2, rfl, hm, hmc, hcl, hr, hb⟩
  have F4 := Lib.hid (Env.call F3.out hb)
  have R2 := Lib.hid (And.intro hm.out (And.intro hmc (And.intro hcl hr)))
  have hbl := Lib.hid hb
  clear hm hmc hcl hr hb
  have R1' := Lib.hid (And.intro R1.out.1 (And.intro R1.out.2.1 (And.intro R1.out.2.2.1 ((R1.out.2.2.2.below hbl.out).more hbl.out.size))))
  clear R1 hbl
  have R1 := R1'
  clear R1'
  refine hK.out _ _ (Cf6.out _ F4.out) (fun _ => ?_)
  clear hK K hHeld
  have hHeld := (Cf6.out _ F4.out)
  try simp only [Act.put, List.setIfInBounds_toArray, List.set_cons_zero, List.set_cons_succ]
  refine wpHK_one (j := 7) (o := Oper.mk (some 24) _ _ _ _ _) rfl (by kernel_rfl) (fun K hK => ?_)
  go_simp
  refine (runder_any (w := V4) (c := c1) (d := c2) R1.out.2.2.2 R2.out.2.2.2 R1.out.1 R2.out.1 (by have := R1.out.1; have := Hla.out.1; omega) (by have := R2.out.1; have := Hla.out.2; omega)).mono ?_
  rintro e V5 ⟨q, rfl, rfl⟩
  have F5 := Lib.hid (F4.out.drewN q)
  refine hK.out _ _ (Cf6.out _ F5.out) (fun _ => ?_)
  clear hK K hHeld
  have hHeld := (Cf6.out _ F5.out)
  try simp only [Act.put, List.setIfInBounds_toArray, List.set_cons_zero, List.set_cons_succ]
  refine wpHK_pure (i := 8) (oi := Oper.mk (some 25) _ _ _ _ _) (v := ?_) rfl (by kernel_rfl) (by kernel_rfl) (by kernel_rfl) (fun _ _ _ h => h) (Or.inl ⟨by rfl, ?_⟩) ?_
  rotate_left
  · (intro w' _; go_simp; try with_reducible rfl)
  try simp only [Act.put, List.setIfInBounds_toArray, List.set_cons_zero, List.set_cons_succ]
  refine wpHK_pure (i := 9) (oi := Oper.mk (some 4) _ _ _ _ _) (v := ?_) rfl (by kernel_rfl) (by kernel_rfl) (by kernel_rfl) (fun _ _ _ h => h) (Or.inl ⟨by rfl, ?_⟩) ?_
  rotate_left
  · (intro w' _; go_simp; try with_reducible rfl)
  try simp only [Act.put, List.setIfInBounds_toArray, List.set_cons_zero, List.set_cons_succ]
  refine wpHK_done (by kernel_rfl) ?_ _
  refine NoPanic.normal ?_
  go_wp2_with fail
  go_ret
  exact ⟨rfl, F5.out.1⟩
theorem rcmp_any {w : World} {na nb : Bool} {sa sb : ByteArray} (ha : Fmd sa) (hb : Fmd sb) :
    Calls Try.prog 30 #[.agg #[.bool na, .string sa], .agg #[.bool nb, .string sb]] w (Calm w (.int .i64 (cmpI (num (na, sa)) (num (nb, sb))))) := by
  by_cases hs : sg (num (na, sa)) = sg (num (nb, sb))
  · exact rcmp_same ha hb hs
  · by_cases hlt : sg (num (na, sa)) < sg (num (nb, sb))
    · exact rcmp_lt ha hb hs hlt
    · exact rcmp_gt ha hb hs hlt
end Go.Proofs.Ytpnginnjbdedbaa

/- The reference's bits, Bits, Bit, Small, Of. -/
namespace Go.Proofs.Ytpnginnjbdedbaa
open Go.RowKit
open Wh
set_option linter.unusedSimpArgs false

theorem bl_half {x : Nat} (h : 0 < x) : bl x = bl (x / 2) + 1 := by
  have h1 := bl_le h
  have h2 := lt_bl x
  have h0 : 0 < bl x := by
    rcases Nat.eq_zero_or_pos (bl x) with h0 | h0
    · rw [h0] at h2; omega
    · exact h0
  obtain ⟨L, hL⟩ : ∃ L, bl x = L + 1 := ⟨bl x - 1, by omega⟩
  rw [hL, Nat.add_sub_cancel] at h1
  rw [hL, Nat.pow_succ] at h2
  rw [hL]
  rcases Nat.eq_zero_or_pos L with h3 | h3
  · subst h3
    have : x / 2 = 0 := by omega
    rw [this, bl_zero]
  · obtain ⟨M, rfl⟩ : ∃ M, L = M + 1 := ⟨L - 1, by omega⟩
    rw [Nat.pow_succ] at h1 h2
    rw [bl_eq (m := x / 2) (L := M) (by omega) (by rw [Nat.pow_succ]; omega)]
theorem bl_head {m p t : Nat} (hl : (wds m).length = p + 1) (ht : at_ (wds m) p = t) : bl m = 32 * p + bl t := by
  have htp : 0 < t := by rw [← ht]; exact last_pos hl
  have e := top_one (l := wds m) (p := p) hl
  rw [at_get (by omega)] at ht
  rw [val_w, ht] at e
  have hlo := low_lt (wd_w m) (p := p) (by omega)
  have hB : (4294967296 : Nat) ^ p = 2 ^ (32 * p) := by rw [show (4294967296 : Nat) = 2 ^ 32 by decide, ← Nat.pow_mul]
  rw [hB] at e hlo
  have h1 := bl_le htp
  have h2 := lt_bl t
  have h0 : 0 < bl t := by
    rcases Nat.eq_zero_or_pos (bl t) with h0 | h0
    · rw [h0] at h2; omega
    · exact h0
  obtain ⟨L, hL⟩ : ∃ L, bl t = L + 1 := ⟨bl t - 1, by omega⟩
  rw [hL, Nat.add_sub_cancel] at h1
  rw [hL] at h2
  rw [hL, bl_eq (m := m) (L := 32 * p + L) ?_ ?_]
  · omega
  · rw [Nat.pow_add]
    have h3 : 2 ^ (32 * p) * 2 ^ L ≤ 2 ^ (32 * p) * t := Nat.mul_le_mul_left _ h1
    rw [Nat.mul_comm _ t] at h3
    omega
  · rw [show 32 * p + L + 1 = 32 * p + (L + 1) by omega, Nat.pow_add]
    have h3 : 2 ^ (32 * p) * (t + 1) ≤ 2 ^ (32 * p) * 2 ^ (L + 1) := Nat.mul_le_mul_left _ h2
    rw [Nat.mul_comm _ (t + 1), Nat.add_mul, Nat.one_mul] at h3
    omega

set_option maxRecDepth 100000 in
set_option maxHeartbeats 2000000 in
theorem rbits_any {w : World} {B n c m : Nat} {A : Option Addr} (h : ReadsW w B A (wds m)) (hn : n = (wds m).length) (hnl : n ≤ 100000000) :
    Calls Try.prog 94 #[.slice A n c] w (fun e w' => e = .returned (.int .i64 ((bl m : Nat) : Int)) ∧ w = w') := by
  rcases Nat.eq_zero_or_pos n with h0 | h0
  · have hm : m = 0 := by
      have h1 : wds m = [] := List.eq_nil_of_length_eq_zero (by omega)
      rw [← val_w m, h1]; rfl
    rw [hm, bl_zero]
    clear h hn hnl hm
    subst h0
    go_enter Try.func94, Try.ntmps94
    go_wp2
    go_ret
    exact ⟨rfl, rfl⟩
  · obtain ⟨p, rfl⟩ : ∃ p, n = p + 1 := ⟨n - 1, by omega⟩
    obtain ⟨ad, rfl, hb1, c0⟩ := h.at_ (k := p) (by omega)
    rw [← at_get] at c0
    have hbm := bl_head hn.symm rfl
    have ht := at_lt (wd_w m) p
    generalize at_ (wds m) p = t at c0 hbm ht
    have hbt : bl t ≤ 32 := bl_lt.2 ht
    have ht2 : t ≤ 4294967295 := by omega
    rw [hbm]
    clear h hn hbm ht h0
    go_enter Try.func94, Try.ntmps94
    go_wp2_with fail
    go_loopg [3, 4] t (fun k nv xv wr => ∃ (j x : Nat), nv = .int .i64 (32 * (p : Int) + (j : Int)) ∧ xv = .int .u32 (x : Int) ∧ k = x ∧ x ≤ 4294967295 ∧ j ≤ 32 ∧ w = wr ∧ Hid (j + bl x = bl t))
    case atStart => exact ⟨0, t, by simp, rfl, rfl, ht2, by omega, rfl, Lib.hid (Nat.zero_add _)⟩
    case round =>
      obtain ⟨j, x, rfl, rfl, hk, hx, hj, rfl, hjx⟩ := hrel
      have Hk := Lib.hid hk
      clear hk
      rcases Nat.eq_zero_or_pos x with hx0 | hx0
      · subst hx0
        clear hx
        go_wp2_with fail
        go_ret
        refine ⟨?_, rfl⟩
        have h1 := hjx.out
        rw [bl_zero] at h1
        exact congrArg (fun v => Ending.returned (.int .i64 v)) (show 32 * (p : Int) + (j : Int) = ((32 * p + bl t : Nat) : Int) by omega)
      · have hxi : (0 : Int) < (x : Int) := by omega
        have hd : decide ((0 : Int) < (x : Int)) = true := decide_eq_true hxi
        have hh := bl_half hx0
        have Hh := Lib.hid hh
        have hj2 : j + 1 ≤ 32 := by have := hjx.out; omega
        clear hh
        go_wp2_with fail
        go_roundg (x / 2)
        case measure => have := Hk.out; omega
        case rel =>
          exact ⟨j + 1, x / 2, by first | rfl | (congr 1; omega), rfl, rfl, by omega, hj2, rfl, by show _ = _; have := hjx.out; have := Hh.out; omega⟩
set_option maxRecDepth 100000 in
theorem rBits_any {w : World} {na : Bool} {sa : ByteArray} (hf : Fmd sa) :
    Calls Try.prog 50 #[.agg #[.bool na, .string sa]] w (Calm w (.int .i64 ((bl (num (na, sa)).natAbs : Nat) : Int))) := by
  have E0 := Lib.hid (Env.new (Env.nil w) 26 #[.bool na, .string sa])
  have HA := Lib.hid (fun W : World => words_any (w := W) (by have := hf.2; omega) hf.1)
  rw [show (num (na, sa)).natAbs = bval sa.data.toList from sgn_abs _ _]
  have Hl := Lib.hid hf.len
  generalize bval sa.data.toList = m at *
  clear hf
  go_enter Try.func50, Try.ntmps50
  go_upto_region 1 with fail
  generalize (w.alloc (.cells #[.bool na, .string sa] 26)) = W1 at E0 ⊢
  have c1 := (Env.at_ E0.out 0 rfl).cell 1
  simp at c1
  go_wp2_with fail
  refine (HA.out _).mono ?_
  rintro e w2 ⟨A1, m1, c1, rfl, hm, hmc, hcl, hr, hb⟩
  have E2 := Lib.hid (E0.out.call hb)
  have HB := Lib.hid (rbits_any (c := c1) hr hm.out (by have := hm.out; have := Hl.out; omega))
  clear hb hr
  go_wp2_with fail
  refine HB.out.mono ?_
  rintro e w3 ⟨rfl, rfl⟩
  go_wp2_with fail
  go_ret
  exact ⟨rfl, E2.out.1⟩
theorem bit_int {u s : Nat} : ((u : Int) / 2 ^ s) % 2 = ((u / 2 ^ s % 2 : Nat) : Int) := by
  rw [Int.natCast_emod, Int.natCast_ediv, Int.natCast_pow]; rfl
theorem bit_w {u s : Nat} : wrap64 (((u : Int) / 2 ^ s).tmod 2) = ((u / 2 ^ s % 2 : Nat) : Int) := by
  rw [Int.tmod_eq_emod_of_nonneg (Int.ediv_nonneg (Int.natCast_nonneg _) (Int.le_of_lt (Int.pow_pos (by decide)))), bit_int]
  unfold wrap64
  omega
set_option maxRecDepth 100000 in
theorem rBit_any {w : World} {na : Bool} {sa : ByteArray} {i : Nat} (hf : Fmd sa) (hi : i ≤ 9223372036854775807) :
    Calls Try.prog 51 #[.agg #[.bool na, .string sa], .int .i64 (i : Int)] w (Calm w (.int .i64 (((num (na, sa)).natAbs / 2 ^ i % 2 : Nat) : Int))) := by
  have E0 := Lib.hid (Env.new (Env.nil w) 26 #[.bool na, .string sa])
  have HA := Lib.hid (fun W : World => words_any (w := W) (by have := hf.2; omega) hf.1)
  rw [show (num (na, sa)).natAbs = bval sa.data.toList from sgn_abs _ _]
  have Hl := Lib.hid hf.len
  generalize bval sa.data.toList = m at *
  clear hf
  rw [bit_word]
  have hu := at_lt (wd_w m) (i / 32)
  have hrt : ∀ (W : World) (A1 : Option Addr) (m1 c1 : Nat), ReadsW W W.heap.size A1 (wds m) → m1 = (wds m).length → Calls Try.prog 93 #[.slice A1 m1 c1, .int .i64 ((i : Int) / 32)] W (fun e w' => e = .returned (.int .u64 ((at_ (wds m) (i / 32) : Nat) : Int)) ∧ w' = W) := fun W A1 m1 c1 hr hm => by
    have := rat_any (c := c1) (i := i / 32) hr hm (wd_w m)
    rw [Int.natCast_ediv] at this
    exact this
  generalize at_ (wds m) (i / 32) = u at hrt hu ⊢
  have Hrt := Lib.hid hrt
  clear hrt
  have hq : ((u / 2 ^ (i % 32) % 2 : Nat) : Int) ≤ 1 := by omega
  have hq0 : (0 : Int) ≤ ((u / 2 ^ (i % 32) % 2 : Nat) : Int) := by omega
  go_enter Try.func51, Try.ntmps51
  go_upto_region 1 with fail
  generalize (w.alloc (.cells #[.bool na, .string sa] 26)) = W1 at E0 ⊢
  have c1 := (Env.at_ E0.out 0 rfl).cell 1
  simp at c1
  go_wp2_with fail
  refine (HA.out _).mono ?_
  rintro e w2 ⟨A1, m1, c1, rfl, hm, hmc, hcl, hr, hb⟩
  have E2 := Lib.hid (E0.out.call hb)
  have HB := Lib.hid (Hrt.out w2 A1 m1 c1 hr hm.out)
  clear hb hr
  go_wp2_with fail
  refine HB.out.mono ?_
  rintro e w3 ⟨rfl, rfl⟩
  go_wp2_with fail
  go_ret
  exact ⟨congrArg (fun v => Ending.returned (.int .i64 v)) bit_w, E2.out.1⟩
/-- two words are one number -/
theorem two_list (B : Nat) : ∀ l : List Nat, l.length ≤ 2 → at_ l 1 * B + at_ l 0 = at_ l 0 + B * at_ l 1
  | _, _ => by rw [Nat.mul_comm, Nat.add_comm]
theorem two_val : ∀ l : List Nat, l.length ≤ 2 → val l = at_ l 0 + 4294967296 * at_ l 1
  | [], _ => rfl
  | [x], _ => by
    have h0 : at_ [x] 0 = x := rfl
    have h1 : at_ [x] 1 = 0 := rfl
    rw [h0, h1, val_cons, val_nil]
  | [x, y], _ => by
    have h0 : at_ [x, y] 0 = x := rfl
    have h1 : at_ [x, y] 1 = y := rfl
    rw [h0, h1, val_cons, val_cons, val_nil, Nat.mul_zero, Nat.add_zero]
theorem two_at {m : Nat} (h : (wds m).length ≤ 2) : at_ (wds m) 1 * 4294967296 + at_ (wds m) 0 = m := by
  rw [two_list _ _ h, ← two_val _ h, val_w]
set_option maxRecDepth 100000 in
theorem rSmall_long {w : World} {na : Bool} {sa : ByteArray} (h : 8 < sa.size) :
    Calls Try.prog 46 #[.agg #[.bool na, .string sa]] w (Calm w (.tuple #[.int .i64 0, .bool false])) := by
  have hi : (8 : Int) < (sa.size : Int) := by omega
  have hd := decide_eq_true hi
  clear h
  go_enter Try.func46, Try.ntmps46
  go_wp2
  refine bodyPost_ret (v := .tuple #[.int .i64 0, .bool false]) (by simp [results, Try.results46, go_sem]) rfl ?_
  exact ⟨rfl, (Below.refl _ _).alloc (Nat.le_refl _) _⟩
set_option maxRecDepth 100000 in
set_option maxHeartbeats 2000000 in
theorem rSmall_short {w : World} {na : Bool} {sa : ByteArray} (h : sa.size ≤ 8) (hf : Fmd sa) :
    Calls Try.prog 46 #[.agg #[.bool na, .string sa]] w (fun e w' => ∃ y : Int, e = .returned (.tuple #[.int .i64 y, .bool (decide (-9223372036854775808 ≤ num (na, sa) ∧ num (na, sa) ≤ 9223372036854775807))]) ∧ (-9223372036854775808 ≤ num (na, sa) ∧ num (na, sa) ≤ 9223372036854775807 → y = num (na, sa)) ∧ Below w.heap.size w w') := by
  have hi : (sa.size : Int) ≤ 8 := by omega
  have hd : decide ((8 : Int) < (sa.size : Int)) = false := decide_eq_false (by omega)
  have E0 := Lib.hid (Env.new (Env.nil w) 26 #[.bool na, .string sa])
  have HA := Lib.hid (fun W : World => words_any (w := W) (by have := hf.2; omega) hf.1)
  have hl : (wds (bval sa.data.toList)).length ≤ 2 := by
    rw [words_len hf.1]
    have hl : sa.data.toList.length = sa.size := Array.length_toList
    omega
  unfold num
  dsimp only
  generalize bval sa.data.toList = m at *
  have htw := two_at hl
  have hu0 := at_lt (wd_w m) 0
  have hu1 := at_lt (wd_w m) 1
  have HR := Lib.hid (fun (W : World) (A1 : Option Addr) (m1 c1 : Nat) (hr : ReadsW W W.heap.size A1 (wds m)) (hm : m1 = (wds m).length) => And.intro (rat_any (c := c1) (i := 0) hr hm (wd_w m)) (rat_any (c := c1) (i := 1) hr hm (wd_w m)))
  generalize at_ (wds m) 0 = u0 at *
  generalize at_ (wds m) 1 = u1 at *
  have Htw := Lib.hid htw
  clear hf h hl htw
  have hq1 : (u1 : Int) * 4294967296 ≤ 18446744069414584320 := by omega
  have hq2 : (u1 : Int) * 4294967296 + (u0 : Int) ≤ 18446744073709551615 := by omega
  go_enter Try.func46, Try.ntmps46
  go_upto_region 1 with fail
  generalize (w.alloc (.cells #[.bool na, .string sa] 26)) = W1 at E0 ⊢
  have c1 := (Env.at_ E0.out 0 rfl).cell 1
  simp at c1
  go_wp2_with fail
  refine (HA.out _).mono ?_
  rintro e w2 ⟨A1, m1, c1, rfl, hm, hmc, hcl, hr, hb⟩
  have E2 := Lib.hid (E0.out.call hb)
  have HB := Lib.hid (HR.out w2 A1 m1 c1 hr hm.out)
  clear hb hr
  have d0 := (Env.at_ E2.out 0 rfl).cell 0
  simp at d0
  go_wp2_with fail
  refine HB.out.2.mono ?_
  rintro e w3 ⟨rfl, rfl⟩
  go_wp2_with fail
  refine HB.out.1.mono ?_
  rintro e w4 ⟨rfl, rfl⟩
  cases na
  · go_wp2_with fail
    refine bodyPost_ret (v := .tuple #[.int .i64 (wrap64 ((u1 : Int) * 4294967296 + (u0 : Int))), .bool (decide ((u1 : Int) * 4294967296 + (u0 : Int) < 9223372036854775808))]) (by simp [results, Try.results46, go_sem]) rfl ?_
    have h5 := Htw.out
    have h6 : sgn false m = (u1 : Int) * 4294967296 + (u0 : Int) := by rw [← h5]; unfold sgn; simp
    rw [h6]
    refine ⟨wrap64 ((u1 : Int) * 4294967296 + (u0 : Int)), ?_, fun h => by unfold wrap64; omega, E2.out.1⟩
    rw [show decide ((u1 : Int) * 4294967296 + (u0 : Int) < 9223372036854775808) = decide (-9223372036854775808 ≤ (u1 : Int) * 4294967296 + (u0 : Int) ∧ (u1 : Int) * 4294967296 + (u0 : Int) ≤ 9223372036854775807) from decide_eq_decide.2 (by omega)]
  · go_wp2_with fail
    refine bodyPost_ret (v := .tuple #[.int .i64 (wrap64 (IntKind.u64.wrap (-((u1 : Int) * 4294967296 + (u0 : Int))))), .bool (decide ((u1 : Int) * 4294967296 + (u0 : Int) ≤ 9223372036854775808))]) (by simp [results, Try.results46, go_sem]) rfl ?_
    have h5 := Htw.out
    have h6 : sgn true m = -((u1 : Int) * 4294967296 + (u0 : Int)) := by rw [← h5]; unfold sgn; simp
    rw [h6]
    refine ⟨wrap64 (IntKind.u64.wrap (-((u1 : Int) * 4294967296 + (u0 : Int)))), ?_, fun h => by rw [IntKind.wrap_u64]; unfold wrap64; omega, E2.out.1⟩
    rw [show decide ((u1 : Int) * 4294967296 + (u0 : Int) ≤ 9223372036854775808) = decide (-9223372036854775808 ≤ -((u1 : Int) * 4294967296 + (u0 : Int)) ∧ -((u1 : Int) * 4294967296 + (u0 : Int)) ≤ 9223372036854775807) from decide_eq_decide.2 (by omega)]
set_option maxRecDepth 100000 in
set_option maxHeartbeats 2000000 in
theorem rOf_any {w : World} {n : Int} (h1 : -9223372036854775808 ≤ n) (h2 : n ≤ 9223372036854775807) :
    Calls Try.prog 42 #[.int .i64 n] w (Calm w (enc n)) := by
  obtain ⟨m, hm⟩ : ∃ m, m = n.natAbs := ⟨_, rfl⟩
  have hmle : m ≤ 9223372036854775808 := by omega
  obtain ⟨s, b, he⟩ : ∃ s b, enc n = .agg #[.bool s, .string b] := ⟨_, _, rfl⟩
  rw [he]
  obtain ⟨y, hy⟩ : ∃ y, y = m / 4294967296 := ⟨_, rfl⟩
  obtain ⟨x, hx⟩ : ∃ x, x = m % 4294967296 := ⟨_, rfl⟩
  have hv : val [x, y] = m := by rw [val_cons, val_cons, val_nil]; omega
  have hwd : Wd [x, y] := by rw [wd_cons, wd_cons]; exact ⟨by omega, by omega, wd_nil⟩
  have HM := Lib.hid (fun W : World => made_any (w := W.alloc (.cells (wcells [x, y]) 98)) (neg := decide (n < 0)) (reads_blk (Blk.new W 98 (wcells [x, y])) (B := W.heap.size + 1) (by omega)) (by simp) rfl (Nat.le_refl _) (by simp) (by simp) hwd)
  rw [hv, hm, sgn_of, he] at HM
  have Hxy := Lib.hid (And.intro hx hy)
  have hx2 : x ≤ 4294967295 := by omega
  have hy2 : y ≤ 2147483648 := by omega
  have E0 := Lib.hid (Env.new (Env.nil w) 26 #[.bool false, .string ⟨#[]⟩])
  clear hv hwd hx hy he
  by_cases hn : n < 0
  · have hd : decide (n < 0) = true := decide_eq_true hn
    have e1 : IntKind.u64.wrap n = n + 18446744073709551616 := by rw [IntKind.wrap_u64]; omega
    have e2 : IntKind.u64.wrap (-(n + 18446744073709551616)) = (m : Int) := by rw [IntKind.wrap_u64]; omega
    rw [hd] at HM
    clear hm
    go_enter Try.func42, Try.ntmps42
    go_upto_region 4 with fail
    generalize (w.alloc (.cells #[.bool false, .string ⟨#[]⟩] 26)) = W1 at E0 ⊢
    go_wp2_with fail
    rw [show (m : Int) % 4294967296 = (x : Int) by have := Hxy.out.1; omega, show (m : Int) / 4294967296 = (y : Int) by have := Hxy.out.2; omega]
    refine (HM.out W1).mono ?_
    rintro e w2 ⟨rfl, h2⟩
    have E2 := Lib.hid ((Env.other E0.out (.cells (wcells [x, y]) 98)).call h2)
    clear h2
    have n4 := Env.at_ E2.out 0 rfl
    have y0 := n4.cell 0
    have y1 := n4.cell 1
    have y2 := n4.frozen 0
    have y3 := n4.frozen 1
    simp at y0 y1
    have n5 := (n4.set_ 0 (.bool s)).set_ 1 (.string b)
    have d0 := n5.cell 0
    have d1 := n5.cell 1
    simp at d0 d1
    have D := Lib.hid (And.intro d0 d1)
    clear n4 n5 d0 d1
    go_wp2_with fail
    refine bodyPost_ret (v := .agg #[.bool s, .string b]) (by simp [results, Try.results42, go_sem, D.out.1, D.out.2]) rfl ?_
    exact ⟨rfl, ((E2.out.1).setCell (Nat.le_refl _) _).setCell (Nat.le_refl _) _⟩
  · have hd : decide (n < 0) = false := decide_eq_false hn
    have e1 : IntKind.u64.wrap n = (m : Int) := by rw [IntKind.wrap_u64]; omega
    rw [hd] at HM
    clear hm
    go_enter Try.func42, Try.ntmps42
    go_upto_region 4 with fail
    generalize (w.alloc (.cells #[.bool false, .string ⟨#[]⟩] 26)) = W1 at E0 ⊢
    go_wp2_with fail
    rw [show (m : Int) % 4294967296 = (x : Int) by have := Hxy.out.1; omega, show (m : Int) / 4294967296 = (y : Int) by have := Hxy.out.2; omega]
    refine (HM.out W1).mono ?_
    rintro e w2 ⟨rfl, h2⟩
    have E2 := Lib.hid ((Env.other E0.out (.cells (wcells [x, y]) 98)).call h2)
    clear h2
    have n4 := Env.at_ E2.out 0 rfl
    have y0 := n4.cell 0
    have y1 := n4.cell 1
    have y2 := n4.frozen 0
    have y3 := n4.frozen 1
    simp at y0 y1
    have n5 := (n4.set_ 0 (.bool s)).set_ 1 (.string b)
    have d0 := n5.cell 0
    have d1 := n5.cell 1
    simp at d0 d1
    have D := Lib.hid (And.intro d0 d1)
    clear n4 n5 d0 d1
    go_wp2_with fail
    refine bodyPost_ret (v := .agg #[.bool s, .string b]) (by simp [results, Try.results42, go_sem, D.out.1, D.out.2]) rfl ?_
    exact ⟨rfl, ((E2.out.1).setCell (Nat.le_refl _) _).setCell (Nat.le_refl _) _⟩
end Go.Proofs.Ytpnginnjbdedbaa

/- The reference's up, down (printed by gen_rup.py). -/
namespace Go.Proofs.Ytpnginnjbdedbaa
open Go.RowKit
open Wh
set_option linter.unusedSimpArgs false

theorem up_add {cy x s : Nat} (hs : s < 32) (hc : cy < 2 ^ s) (hx : x < 4294967296) :
    IntKind.u64.wrap ((cy : Int) + IntKind.u64.wrap ((x : Int) * 2 ^ s)) = ((cy + x * 2 ^ s : Nat) : Int) ∧ (cy + x * 2 ^ s) / 4294967296 < 2 ^ s ∧ cy + x * 2 ^ s ≤ 9223372036854775807 := by
  have h1 : (2 : Nat) ^ s ≤ 2 ^ 31 := Nat.pow_le_pow_right (by decide) (by omega)
  have h2 : (x + 1) * 2 ^ s ≤ 4294967296 * 2 ^ s := Nat.mul_le_mul_right _ hx
  rw [Nat.add_mul, Nat.one_mul] at h2
  have e1 : ((x : Int) * 2 ^ s) = ((x * 2 ^ s : Nat) : Int) := by rw [Int.natCast_mul, Int.natCast_pow]; rfl
  refine ⟨?_, ?_, by omega⟩
  · rw [e1]
    generalize x * 2 ^ s = q at *
    rw [IntWalk.u64_in (q : Int) (by omega), IntWalk.u64_in _ (by omega)]
    omega
  · exact (Nat.div_lt_iff_lt_mul (by decide)).2 (by omega)

set_option maxRecDepth 100000 in
set_option maxHeartbeats 2000000 in
theorem rup_some {w : World} {B n m c : Nat} {A : Option Addr} {la : List Nat} (h1 : ReadsW w B A la) (hB : B ≤ w.heap.size) (hm : m = la.length) (hml : m ≤ 1000000000) (hnl : n ≤ 1000000000) (ha : Wd la) (hpos : 0 < m) :
    Calls Try.prog 77 #[.slice A m c, .int .i64 (n : Int)] w (CutW w (val la * 2 ^ n)) := by
  have Hm := Lib.hid hm
  have hmk : ∀ w : World, (Instr.makeSlice 80 (.int .i64 ((n : Int) / 32)) (.int .i64 ((n : Int) / 32 + (m : Int) + 1))).run Try.prog w = .ok (.slice (some ⟨w.heap.size, 0, none⟩) (n / 32) (n / 32 + m + 1)) (w.alloc (.cells (wcells (List.replicate (n / 32 + m + 1) 0)) 98)) := fun w => by
    have := run_makeWc (n / 32) (n / 32 + m + 1) (by omega) (by omega) w
    rw [← this]
    congr 3
  have hm0 : ((m : Int) == 0) = false := by simp; omega
  have hmne : ¬ m = 0 := by omega
  clear hm
  go_enter Try.func77, Try.ntmps77
  go_wp2
  go_loopg [5, 6, 7] m (fun k ov cy iv wr => ∃ (A' : Option Addr) (n' c' i c : Nat) (L : List Nat), ov = .slice A' n' c' ∧ cy = .int .u64 (c : Int) ∧ iv = .int .i64 (i : Int) ∧ k = m - i ∧ i ≤ m ∧ c < 4294967296 ∧ OwnW wr w.heap.size (.slice A' n' c') L ∧ Below w.heap.size w wr ∧
    Hid (L.length = n / 32 + i ∧ Wd L ∧ c < 2 ^ (n % 32) ∧ val L + 4294967296 ^ (n / 32 + i) * c = 2 ^ n * val (la.take i)))
  case atStart => exact ⟨_, _, _, 0, 0, List.replicate (n / 32) 0, rfl, rfl, rfl, by omega, by omega, by omega, OwnW.made w (by omega) (by omega), (Below.refl _ _).alloc (Nat.le_refl _) _, by simp, wd_zeros _, Nat.two_pow_pos _, by simp [val_nil, val_zeros]⟩
  case round =>
    obtain ⟨A', n', c', i, cy, L, rfl, rfl, rfl, hk, hi, hc, hown, hbel, hL⟩ := hrel
    have Hk := Lib.hid hk
    clear hk
    have h1' := h1.below (hbel.mono hB)
    have hsz := hbel.size
    by_cases hin : i < m
    · have hia : i < la.length := by rw [← Hm.out]; exact hin
      obtain ⟨ad, rfl, hb1, c1⟩ := h1'.at_ hia
      have w1 := wd_get ha _ hia
      have hii : (i : Int) < (m : Int) := by omega
      have E1 := Lib.hid (val_take_succ hia)
      clear h1' h1
      generalize hx : la[i] = x at *
      clear hx
      have hlo := up_add (Nat.mod_lt n (by decide)) hL.out.2.2.1 w1
      obtain ⟨T, hT⟩ : ∃ T : Nat, T = cy + x * 2 ^ (n % 32) := ⟨_, rfl⟩
      rw [← hT] at hlo
      obtain ⟨hso, ht1, ht2⟩ := hlo
      have HT := Lib.hid (And.intro hT ht1)
      have hLl : L.length ≤ 2000000000 := by have := hL.out.1; omega
      clear ht1 hT
      go_wp2_with (at_builtin; refine wpW_push rfl (.tmp 36) (.tmp 40) rfl w.heap.size _ L hown rfl (y := T % 4294967296) (by rw [Int.natCast_emod]; rfl) rfl (by omega) (by omega) ?_; intro A2 n2 c2 w1 ho hkeep _)
      rw [show (T : Int) / 4294967296 = ((T / 4294967296 : Nat) : Int) by omega]
      go_roundg (m - (i + 1))
      case measure => have := Hk.out; omega
      case rel =>
        refine ⟨A2, n2, c2, i + 1, T / 4294967296, L ++ [T % 4294967296], rfl, rfl, rfl, rfl, by omega, by omega, ho, hkeep w hbel, ?_⟩
        have hl := hL.out
        refine ⟨by rw [List.length_append, hl.1]; rfl, wd_append.2 ⟨hl.2.1, wd_cons.2 ⟨Nat.mod_lt _ (by decide), wd_nil⟩⟩, HT.out.2, ?_⟩
        rw [val_snoc, hl.1, E1.out, Nat.mul_add, ← Nat.add_assoc, Nat.pow_succ]
        rw [← Nat.mul_assoc (2 ^ n)]
        exact left_step hl.2.2.2 HT.out.1 (left_pow n i).symm
    · have hi' : i = m := by omega
      subst hi'
      have hl := hL.out
      have hz : val (L ++ [cy]) = val la * 2 ^ n := by
        rw [val_snoc, hl.1, hl.2.2.2, List.take_of_length_le (by rw [Hm.out]; exact Nat.le_refl _), Nat.mul_comm]
      have Hz := Lib.hid hz
      have hLl : L.length ≤ 2000000000 := by have := hl.1; omega
      have Hw := Lib.hid (wd_append.2 ⟨hl.2.1, wd_cons.2 ⟨hc, wd_nil⟩⟩)
      have hcc : (cy : Int) % 4294967296 = (cy : Int) := by omega
      clear h1' h1 hz hl
      go_wp2_with (at_builtin; refine wpW_push rfl (.tmp 44) (.tmp 47) rfl w.heap.size _ L hown rfl (y := cy) rfl rfl (by omega) (by omega) ?_; intro A2 n2 c2 w1 ho hkeep _)
      have hcut := rcut_any ho.reads ho.len.1 ho.len.2.1 ho.len.2.2 Hw.out
      have Hc := Lib.hid (And.intro ho hcut)
      have Hk2 := Lib.hid (hkeep w hbel)
      clear ho hcut hkeep
      go_wp2_with (go_at_call 86; refine Hc.out.2.mono ?_; rintro e w' ⟨q, rfl, hq, rfl⟩; have Hq := Lib.hid hq; clear hq)
      go_ret
      have hwt := (wds_take _ _ rfl Hw.out).2
      have hn2 := Hc.out.1.len
      refine ⟨_, _, _, rfl, by rw [← Hz.out]; exact Hq.out, ?_, hn2.2.2, by rw [← Hz.out]; exact reads_cut Hc.out.1.reads Hw.out, Hk2.out⟩
      have := Hq.out
      omega
set_option maxRecDepth 100000 in
theorem rup_none {w : World} {n c : Nat} {A : Option Addr} :
    Calls Try.prog 77 #[.slice A 0 c, .int .i64 (n : Int)] w (CutW w 0) := by
  go_enter Try.func77, Try.ntmps77
  go_wp2
  go_ret
  exact ⟨none, 0, 0, rfl, by rw [wds_zero]; rfl, by omega, by omega, by rw [wds_zero]; exact ReadsW.none_ _ _ _, Below.refl _ _⟩
theorem rup_any {w : World} {B n m c : Nat} {A : Option Addr} {la : List Nat} (h1 : ReadsW w B A la) (hB : B ≤ w.heap.size) (hm : m = la.length) (hml : m ≤ 1000000000) (hnl : n ≤ 1000000000) (ha : Wd la) :
    Calls Try.prog 77 #[.slice A m c, .int .i64 (n : Int)] w (CutW w (val la * 2 ^ n)) := by
  rcases Nat.eq_zero_or_pos m with h | h
  · have h2 : la = [] := List.eq_nil_of_length_eq_zero (by omega)
    subst h2
    rw [h, val_nil, Nat.zero_mul]
    exact rup_none
  · exact rup_some h1 hB hm hml hnl ha h
theorem at_drop (la : List Nat) (k i : Nat) : at_ (la.drop k) i = at_ la (k + i) := by
  unfold at_
  rw [List.getD_eq_getElem?_getD, List.getD_eq_getElem?_getD, List.getElem?_drop]
theorem down_val {la : List Nat} (ha : Wd la) (n : Nat) : val la / 2 ^ n = val (la.drop (n / 32)) / 2 ^ (n % 32) := by
  rcases Nat.lt_or_ge (n / 32) la.length with h | h
  · exact div_words ha (by omega)
  · rw [List.drop_of_length_le h, val_nil, Nat.zero_div]
    refine Nat.div_eq_of_lt ?_
    have h1 := val_lt ha
    have h2 : 4294967296 ^ la.length ≤ 2 ^ n := by
      rw [show (4294967296 : Nat) = 2 ^ 32 by decide, ← Nat.pow_mul]
      exact Nat.pow_le_pow_right (by decide) (by omega)
    omega
theorem down_q {x y s : Nat} : (((y : Int) * 4294967296 + (x : Int)) / 2 ^ s) % 4294967296 = (((x + 4294967296 * y) / 2 ^ s % 4294967296 : Nat) : Int) := by
  rw [Int.natCast_emod, Int.natCast_ediv, Int.natCast_pow]
  congr 2
  omega
set_option maxRecDepth 100000 in
set_option maxHeartbeats 2000000 in
theorem rdown_any {w : World} {B n m c : Nat} {A : Option Addr} {la : List Nat} (h1 : ReadsW w B A la) (hB : B ≤ w.heap.size) (hm : m = la.length) (hml : m ≤ 1000000000) (hnl : n ≤ 1000000000) (ha : Wd la) :
    Calls Try.prog 78 #[.slice A m c, .int .i64 (n : Int)] w (CutW w (val la / 2 ^ n)) := by
  have Hm := Lib.hid (And.intro hm ha)
  have Hv := Lib.hid (down_val ha n)
  have H1 := Lib.hid h1
  obtain ⟨ld, hld⟩ : ∃ ld, ld = la.drop (n / 32) := ⟨_, rfl⟩
  rw [← hld] at Hv
  obtain ⟨p, hp⟩ : ∃ p, p = m - n / 32 := ⟨_, rfl⟩
  have hpl : p = ld.length := by rw [hld, List.length_drop]; omega
  have Hp := Lib.hid (And.intro hp (And.intro hpl hld))
  have hpb : p ≤ 1000000000 := by omega
  clear hm ha h1 hld hp hpl
  go_enter Try.func78, Try.ntmps78
  go_wp2_with fail
  go_loopg [5, 6] p (fun k ov iv wr => ∃ (A' : Option Addr) (n' c' t i : Nat) (L : List Nat), ov = .slice A' n' c' ∧ iv = .int .i64 (i : Int) ∧ Hid (i = n / 32 + t) ∧ k = p - t ∧ t ≤ p ∧ OwnW wr w.heap.size (.slice A' n' c') L ∧ Below w.heap.size w wr ∧
    Hid (L.length = t ∧ Wd L ∧ 2 ^ (n % 32) * val L + at_ ld 0 % 2 ^ (n % 32) = val (ld.take t) + 4294967296 ^ t * (at_ ld t % 2 ^ (n % 32))))
  case atStart => exact ⟨_, _, _, 0, n / 32, [], rfl, rfl, Lib.hid rfl, by omega, by omega, OwnW.nil w _, Below.refl _ _, rfl, wd_nil, by simp [val_nil]⟩
  case round =>
    obtain ⟨A', n', c', t, i, L, rfl, rfl, Hi, hk, ht, hown, hbel, hL⟩ := hrel
    have Hk := Lib.hid hk
    clear hk
    have hsz := hbel.size
    by_cases hin : i < m
    · have hil : i < la.length := by rw [← Hm.out.1]; exact hin
      have hid : t < ld.length := by rw [← Hp.out.2.1]; have := Hp.out.1; have := Hi.out; omega
      have hrd := (H1.out.below (hbel.mono hB))
      have HR' : Calls Try.prog 93 #[.slice A m c, .int .i64 ((i : Int) + 1)] wr.drew (fun e w' => e = .returned (.int .u64 ((at_ la (i + 1) : Nat) : Int)) ∧ w' = wr.drew) := by
        have := rat_any (w := wr.drew) (c := c) (i := i + 1) hrd Hm.out.1 Hm.out.2
        exact this
      obtain ⟨ad, rfl, hb1, c1⟩ := hrd.at_ hil
      have E1 := Lib.hid (And.intro (val_take_succ hid) (And.intro (at_get hid) (at_drop la (n / 32) (t + 1))))
      have hx0 : ld[t] = la[i] := by have := Hp.out.2.2; subst this; rw [List.getElem_drop]; simp only [Hi.out]
      rw [hx0, ← Hp.out.2.2] at E1
      have w1 := wd_get Hm.out.2 _ hil
      have w2 := at_lt Hm.out.2 (i + 1)
      rw [show n / 32 + (t + 1) = i + 1 by have := Hi.out; omega] at E1
      generalize at_ la (i + 1) = y at *
      generalize la[i] = x at *
      have HR := Lib.hid HR'
      have hii : (i : Int) < (m : Int) := by omega
      have hLl : L.length ≤ 2000000000 := by have := hL.out.1; omega
      clear HR' hrd hx0 hil hid
      obtain ⟨S, hS⟩ : ∃ S, S = n % 32 := ⟨_, rfl⟩
      have q4 : (n : Int).tmod 32 = (S : Int) := by rw [hS]; rfl
      have q5 : S ≤ 31 := by omega
      have HS := Lib.hid hS
      clear hS
      have q1 : IntKind.i64.wrap ((i : Int) + 1) = (i : Int) + 1 := IntWalk.i64_in _ (by omega)
      have q2 : IntKind.u64.wrap ((y : Int) * 4294967296) = (y : Int) * 4294967296 := IntWalk.u64_in _ (by omega)
      have q3 : IntKind.u64.wrap ((y : Int) * 4294967296 + (x : Int)) = (y : Int) * 4294967296 + (x : Int) := IntWalk.u64_in _ (by omega)
      go_wp2_with fail
      refine wp_region_noPanic ?_
      refine wp_region_HK (fun w' => w'.cell? (ad.add i) = some (.int .u32 (x : Int))) 14 (by kernel_rfl) c1 (fun hHeld => ?_)
      refine wpHK_pure (i := 0) (oi := Oper.mk (some 16) _ _ _ _ _) (v := ?_) rfl (by kernel_rfl) (by kernel_rfl) (by kernel_rfl) (fun _ _ _ h => h) (Or.inl ⟨by rfl, ?_⟩) ?_
      rotate_left
      · (intro w' _; go_simp; try with_reducible rfl)
      try simp only [Act.put, List.setIfInBounds_toArray, List.set_cons_zero, List.set_cons_succ]
      refine wpHK_pure (i := 1) (oi := Oper.mk (some 17) _ _ _ _ _) (v := ?_) rfl (by kernel_rfl) (by kernel_rfl) (by kernel_rfl) (fun _ _ _ h => h) (Or.inl ⟨by rfl, ?_⟩) ?_
      rotate_left
      · (intro w' _; go_simp; try with_reducible rfl)
      try simp only [Act.put, List.setIfInBounds_toArray, List.set_cons_zero, List.set_cons_succ]
      refine wpHK_pure (i := 2) (oi := Oper.mk (some 18) _ _ _ _ _) (v := ?_) rfl (by kernel_rfl) (by kernel_rfl) (by kernel_rfl) (fun _ _ _ h => h) (Or.inl ⟨by rfl, ?_⟩) ?_
      rotate_left
      · (intro w' _; go_simp; try with_reducible rfl)
      try simp only [Act.put, List.setIfInBounds_toArray, List.set_cons_zero, List.set_cons_succ]
      refine wpHK_pure (i := 5) (oi := Oper.mk (some 21) _ _ _ _ _) (v := ?_) rfl (by kernel_rfl) (by kernel_rfl) (by kernel_rfl) (fun _ _ _ h => h) (Or.inl ⟨by rfl, ?_⟩) ?_
      rotate_left
      · (intro w' _; go_simp; try with_reducible rfl)
      try simp only [Act.put, List.setIfInBounds_toArray, List.set_cons_zero, List.set_cons_succ]
      refine wpHK_pure (i := 6) (oi := Oper.mk (some 22) _ _ _ _ _) (v := ?_) rfl (by kernel_rfl) (by kernel_rfl) (by kernel_rfl) (fun _ _ _ h => h) (Or.inl ⟨by rfl, ?_⟩) ?_
      rotate_left
      · (intro w' _; go_simp; try with_reducible rfl)
      try simp only [Act.put, List.setIfInBounds_toArray, List.set_cons_zero, List.set_cons_succ]
      refine wpHK_pure (i := 7) (oi := Oper.mk (some 23) _ _ _ _ _) (v := ?_) rfl (by kernel_rfl) (by kernel_rfl) (by kernel_rfl) (fun _ _ _ h => h) (Or.inl ⟨by rfl, ?_⟩) ?_
      rotate_left
      · (intro w' _; go_simp; try with_reducible rfl)
      try simp only [Act.put, List.setIfInBounds_toArray, List.set_cons_zero, List.set_cons_succ]
      refine wpHK_pure (i := 11) (oi := Oper.mk (some 27) _ _ _ _ _) (v := ?_) rfl (by kernel_rfl) (by kernel_rfl) (by kernel_rfl) (fun _ _ _ h => h) (Or.inl ⟨by rfl, ?_⟩) ?_
      rotate_left
      · (intro w' _; go_simp; try with_reducible rfl)
      try simp only [Act.put, List.setIfInBounds_toArray, List.set_cons_zero, List.set_cons_succ]
      refine wpHK_pure (i := 12) (oi := Oper.mk (some 28) _ _ _ _ _) (v := ?_) rfl (by kernel_rfl) (by kernel_rfl) (by kernel_rfl) (fun _ _ _ h => h) (Or.inl ⟨by rfl, ?_⟩) ?_
      rotate_left
      · (intro w' _; go_simp; try with_reducible rfl)
      try simp only [Act.put, List.setIfInBounds_toArray, List.set_cons_zero, List.set_cons_succ]
      refine wpHK_take (i := 8) (oi := Oper.mk (some 24) _ _ _ _ _) (v := ?_) rfl (by kernel_rfl) (by kernel_rfl) (by kernel_rfl) (by kernel_rfl) (fun _ _ _ h => h) (Or.inl ⟨by rfl, ?_⟩) (by assumption) ?_
      rotate_left
      · (intro w' hSw; (try dsimp only at hSw); (obtain s1 := hSw); go_simp; try with_reducible rfl)
      try simp only [Act.put, List.setIfInBounds_toArray, List.set_cons_zero, List.set_cons_succ]
      refine wpHK_pure (i := 9) (oi := Oper.mk (some 25) _ _ _ _ _) (v := ?_) rfl (by kernel_rfl) (by kernel_rfl) (by kernel_rfl) (fun _ _ _ h => h) (Or.inl ⟨by rfl, ?_⟩) ?_
      rotate_left
      · (intro w' _; go_simp; try with_reducible rfl)
      try simp only [Act.put, List.setIfInBounds_toArray, List.set_cons_zero, List.set_cons_succ]
      refine wpHK_one (j := 3) (o := Oper.mk (some 19) _ _ _ _ _) rfl (by kernel_rfl) (fun K hK => ?_)
      go_simp
      refine (HR.out).mono ?_
      rintro e w9 ⟨rfl, rfl⟩
      refine hK.out _ _ c1 (fun _ => ?_)
      clear hK K hHeld
      have hHeld := c1
      try simp only [Act.put, List.setIfInBounds_toArray, List.set_cons_zero, List.set_cons_succ]
      refine wpHK_pure (i := 4) (oi := Oper.mk (some 20) _ _ _ _ _) (v := ?_) rfl (by kernel_rfl) (by kernel_rfl) (by kernel_rfl) (fun _ _ _ h => h) (Or.inl ⟨by rfl, ?_⟩) ?_
      rotate_left
      · (intro w' _; go_simp; try with_reducible rfl)
      try simp only [Act.put, List.setIfInBounds_toArray, List.set_cons_zero, List.set_cons_succ]
      refine wpHK_pure (i := 10) (oi := Oper.mk (some 26) _ _ _ _ _) (v := ?_) rfl (by kernel_rfl) (by kernel_rfl) (by kernel_rfl) (fun _ _ _ h => h) (Or.inl ⟨by rfl, ?_⟩) ?_
      rotate_left
      · (intro w' _; go_simp; try with_reducible rfl)
      try simp only [Act.put, List.setIfInBounds_toArray, List.set_cons_zero, List.set_cons_succ]
      refine wpHK_pure (i := 13) (oi := Oper.mk (some 29) _ _ _ _ _) (v := ?_) rfl (by kernel_rfl) (by kernel_rfl) (by kernel_rfl) (fun _ _ _ h => h) (Or.inl ⟨by rfl, ?_⟩) ?_
      rotate_left
      · (intro w' _; go_simp; try with_reducible rfl)
      try simp only [Act.put, List.setIfInBounds_toArray, List.set_cons_zero, List.set_cons_succ]
      refine wpHK_pure (i := 14) (oi := Oper.mk (some 7) _ _ _ _ _) (v := ?_) rfl (by kernel_rfl) (by kernel_rfl) (by kernel_rfl) (fun _ _ _ h => h) (Or.inl ⟨by rfl, ?_⟩) ?_
      rotate_left
      · (intro w' _; go_simp; try with_reducible rfl)
      try simp only [Act.put, List.setIfInBounds_toArray, List.set_cons_zero, List.set_cons_succ]
      refine wpHK_done (by kernel_rfl) ?_ _
      refine NoPanic.normal ?_
      have q6 : (((y : Int) * 4294967296 + (x : Int)) / 2 ^ S) % 4294967296 = (((x + 4294967296 * y) / 2 ^ S % 4294967296 : Nat) : Int) := down_q
      clear q2 q3 q4 q5 c1
      go_wp2_with (at_builtin; refine wpW_push (w := wr.drew) rfl (.tmp 30) (.tmp 34) rfl w.heap.size _ L (hown.drewN 1) rfl (y := (x + 4294967296 * y) / 2 ^ S % 4294967296) (by rw [← q6, Int.tmod_eq_emod_of_nonneg (Int.ediv_nonneg (by omega) (Int.le_of_lt (Int.pow_pos (by decide)))), Int.emod_emod]) rfl (by omega) hbel.size ?_; intro A2 n2 c2 W1 ho hkeep _)
      go_roundg (p - (t + 1))
      case measure => have := Hk.out; have := Hp.out.1; have := Hi.out; omega
      case rel =>
        refine ⟨A2, n2, c2, t + 1, i + 1, L ++ [(x + 4294967296 * y) / 2 ^ S % 4294967296], rfl, rfl, Lib.hid (by have := Hi.out; omega), rfl, by have := Hp.out.1; have := Hi.out; omega, ho, hkeep w hbel.drew, ?_⟩
        have hl := hL.out
        refine ⟨by rw [List.length_append, hl.1]; rfl, wd_append.2 ⟨hl.2.1, wd_cons.2 ⟨Nat.mod_lt _ (by decide), wd_nil⟩⟩, ?_⟩
        have h3 := hl.2.2
        rw [E1.out.2.1] at h3
        rw [val_snoc, hl.1, E1.out.1, ← E1.out.2.2, Nat.pow_succ, HS.out]
        exact right_step h3 (by omega) w1
    · have hi' : t = p := by have := Hp.out.1; have := Hi.out; omega
      subst hi'
      have hL1 := hL.out.1
      have hz : val L = val la / 2 ^ n := by
        have h3 := hL.out.2.2
        rw [List.take_of_length_le (by rw [← Hp.out.2.1]; exact Nat.le_refl _), at_end (i := t) (by rw [← Hp.out.2.1]; exact Nat.le_refl _), Nat.zero_mod, Nat.mul_zero, Nat.add_zero] at h3
        rw [Hv.out, ← right_end h3 (Nat.mod_lt _ (Nat.two_pow_pos _))]
      have HT := Lib.hid (rcut_any hown.reads hown.len.1 hown.len.2.1 hown.len.2.2 hL.out.2.1)
      have H3 := Lib.hid hz
      have Ho := Lib.hid hown
      have Hw := Lib.hid hL.out.2.1
      have him : (m : Int) ≤ (i : Int) := by omega
      clear hL1 hz H1 hown
      go_wp2_with (go_at_call 86; refine HT.out.mono ?_; rintro e w' ⟨q, rfl, hq, rfl⟩; have Hq := Lib.hid hq; clear hq)
      go_ret
      have hwt := (wds_take _ _ rfl Hw.out).2
      have hn2 := Ho.out.len
      refine ⟨_, _, _, rfl, by rw [← H3.out]; exact Hq.out, ?_, hn2.2.2, by rw [← H3.out]; exact reads_cut Ho.out.reads Hw.out, hbel⟩
      have := Hq.out
      omega
end Go.Proofs.Ytpnginnjbdedbaa

/- The reference's Root (printed by gen_rroot.py). -/
namespace Go.Proofs.Ytpnginnjbdedbaa
open Go.RowKit
open Wh
set_option linter.unusedSimpArgs false

/-- root and rest, as the document has them -/
def RRooted (w : World) (m : Nat) (e : Ending) (w' : World) : Prop :=
  ∃ r : Nat, r * r ≤ m ∧ m < (r + 1) * (r + 1) ∧ e = .returned (.tuple #[enc (r : Int), enc ((m : Int) - (r : Int) * (r : Int))]) ∧ Below w.heap.size w w'
theorem root_start {m : Nat} : m < (0 + 2 ^ (bl m / 2 + 1)) * (0 + 2 ^ (bl m / 2 + 1)) := by
  rw [Nat.zero_add, ← Nat.pow_add]
  exact Nat.lt_of_lt_of_le (bl_lt.1 (Nat.le_refl (bl m))) (Nat.pow_le_pow_right (by decide) (by omega))
theorem cmpN_le {a b : Nat} : decide (cmpN a b ≤ 0) = decide (a ≤ b) := by
  unfold cmpN
  by_cases h1 : a < b
  · rw [if_pos h1, decide_eq_true (by omega), decide_eq_true (by omega)]
  · rw [if_neg h1]
    by_cases h2 : a = b
    · simp [h2]
    · have : b < a := by omega
      simp [h2]
      omega
theorem sgn_false (m : Nat) : sgn false m = (m : Int) := rfl
theorem blk_unit (w : World) : ReadsW (w.alloc (.cells #[.int .u32 1] 98)) (w.heap.size + 1) (some ⟨w.heap.size, 0, none⟩) [1] := by
  have := reads_blk (w := w.alloc (.cells #[.int .u32 1] 98)) (B := w.heap.size + 1) (l := [1]) (Blk.new w 98 (wcells [1])) (by omega)
  exact this
theorem ReadsW.call {w w' : World} {A : Option Addr} {l : List Nat} (h : ReadsW w w.heap.size A l) (hb : Below w.heap.size w w') : ReadsW w' w'.heap.size A l := (h.below hb).more hb.size
theorem len_pow2 {j k : Nat} (h : j < 32 * k) : (wds (2 ^ j)).length ≤ k := len_bl (bl_lt.2 ((Nat.pow_lt_pow_iff_right (by decide)).2 h))
set_option maxRecDepth 100000 in
set_option maxHeartbeats 2000000 in
theorem rroot_any {w : World} {na : Bool} {sa : ByteArray} (hm : MayL na sa.data.toList) :
    Calls Try.prog 56 #[.agg #[.bool na, .string sa]] w (RRooted w (bval sa.data.toList)) := by
  have hf := Fmd.of_may hm
  have HA := Lib.hid (fun W : World => words_any (w := W) (by have := hf.2; omega) hf.1)
  obtain ⟨m, hme⟩ : ∃ m, m = bval sa.data.toList := ⟨_, rfl⟩
  have hbl : bl m ≤ 131072 := by rw [hme]; exact fits_len (by have := hm.1; omega)
  have hml : (wds m).length ≤ 4096 := len_bl (by omega)
  rw [← hme] at HA ⊢
  have E0 := Lib.hid (Env.new (Env.new (Env.new (Env.nil w) 26 #[.bool na, .string sa]) 26 #[.bool false, .string ⟨#[]⟩]) 26 #[.bool false, .string ⟨#[]⟩])
  have Hml := Lib.hid hml
  clear hf hme hm hml
  go_enter Try.func56, Try.ntmps56
  go_wp2_with fail
  refine (HA.out _).mono ?_
  rintro e V1 ⟨A1, n1, c1, rfl, hn1, hc1, hc1', hr1, hb1⟩
  have E1' := Env.call E0.out hb1
  (try simp only [World.size_alloc] at E1')
  have E1 := Lib.hid E1'
  have R1 := Lib.hid (And.intro hn1.out (And.intro hc1 (And.intro hc1' hr1)))
  clear E1' hb1 hn1 hc1 hc1' hr1 E0 HA
  have HB := Lib.hid (rbits_any (c := c1) R1.out.2.2.2 R1.out.1 (by have := R1.out.1; have := Hml.out; omega))
  go_wp2_with fail
  refine HB.out.mono ?_
  rintro e V1' ⟨rfl, rfl⟩
  obtain ⟨K, hK⟩ : ∃ K, K = bl m := ⟨_, rfl⟩
  have hkb : K ≤ 131072 := by omega
  have Hs := Lib.hid (root_start (m := m))
  rw [← hK] at Hs ⊢
  have q0 : IntKind.i64.wrap ((K : Int) / 2) = ((K / 2 + 1 : Nat) : Int) - 1 := by rw [IntWalk.i64_in _ (by omega)]; omega
  clear hK hbl HB
  go_wp2_with fail
  go_loopg [5, 6, 7] (K / 2 + 1) (fun k sv iv xv wr => ∃ (A : Option Addr) (n c R k0 : Nat), Hid (k = k0) ∧ sv = .slice A n c ∧ iv = .int .i64 ((k0 : Int) - 1) ∧ k0 ≤ 65537 ∧ Hid (n = (wds R).length) ∧ n ≤ c ∧ c ≤ 9223372036854775807 ∧ Hid (ReadsW wr wr.heap.size A (wds R)) ∧ Hid (Below V1.heap.size V1 wr) ∧ Hid (R * R ≤ m ∧ m < (R + 2 ^ k0) * (R + 2 ^ k0)))
  case atStart => exact ⟨none, 0, 0, 0, _, Lib.hid rfl, rfl, by rw [show (K : Int) / 2 = ((K / 2 + 1 : Nat) : Int) - 1 by omega], by omega, Lib.hid (by rw [wds_zero]; rfl), by omega, by omega, Lib.hid (by rw [wds_zero]; exact ReadsW.none_ _ _ _), Lib.hid (Below.refl _ _), Lib.hid ⟨Nat.zero_le _, Hs.out⟩⟩
  case round =>
    obtain ⟨A, n, c, R, k, Hk, rfl, rfl, hk, Hn, hnc, hcl, Hr, Hb, HR⟩ := hrel
    have Hc := Lib.hid (And.intro hnc hcl)
    have hRl : (wds R).length ≤ 4096 := Nat.le_trans (len_mono (root_le HR.out.1)) Hml.out
    have HRl := Lib.hid hRl
    clear hRl
    rcases Nat.eq_zero_or_pos k with h0 | h0
    case inr =>
      obtain ⟨j, rfl⟩ : ∃ j, k = j + 1 := ⟨k - 1, by omega⟩
      clear h0
      rw [show ((j + 1 : Nat) : Int) - 1 = (j : Int) by omega]
      have HU0 := rup_any (c := 1) (n := j) (blk_unit wr) (by simp) rfl (by simp) (by omega) (wd_cons.2 ⟨by decide, wd_nil⟩)
      rw [show val [1] * 2 ^ j = 2 ^ j by rw [show val [1] = 1 from rfl, Nat.one_mul]] at HU0
      have HU := Lib.hid HU0
      have Hj := Lib.hid (len_pow2 (j := j) (k := 2049) (by omega))
      clear HU0
      go_wp2_with fail
      refine HU.out.mono ?_
      rintro e W2 ⟨A2, n2, c2, rfl, hn2, hc2, hc2', hr2, hb2⟩
      have hbA := (Below.refl wr.heap.size wr).alloc (Nat.le_refl _) (.cells #[.int .u32 1] 98)
      have hb02 := hbA.trans (hb2.mono (by simp))
      have HM0 := rmore_any (c := c) (d := c2) (Hr.out.call hb02) hr2 (Nat.le_refl _) Hn.out hn2.out (by have := Hn.out; have := HRl.out; omega) (by have := hn2.out; have := Hj.out; omega) (wd_w _) (wd_w _)
      rw [val_w, val_w] at HM0
      have HM := Lib.hid HM0
      have Hb02 := Lib.hid hb02
      clear HM0 hbA hb02 hb2 hr2 hn2 hc2 hc2' HU
      go_wp2_with fail
      refine HM.out.mono ?_
      rintro e W3 ⟨A3, n3, c3, rfl, hn3, hc3, hc3', hr3, hb3⟩
      have Hb03 := Lib.hid (Hb02.out.trans (hb3.mono Hb02.out.size))
      have R3 := Lib.hid (And.intro hn3.out (And.intro hc3 (And.intro hc3' hr3)))
      obtain ⟨X, hX⟩ : ∃ X, X = R + 2 ^ j := ⟨_, rfl⟩
      rw [← hX] at R3
      have hXl : (wds X).length ≤ 4097 := by rw [hX]; exact len_sumN HRl.out (Nat.le_trans Hj.out (by omega))
      have HX := Lib.hid (And.intro hX hXl)
      clear hb3 hn3 hc3 hc3' hr3 HM Hb02 hX hXl
      have HP0 := rproduct_any (c := c3) (d := c3) R3.out.2.2.2 R3.out.2.2.2 (Nat.le_refl _) R3.out.1 R3.out.1 (by have := R3.out.1; have := HX.out.2; omega) (by have := R3.out.1; have := HX.out.2; omega) (wd_w _) (wd_w _)
      rw [val_w] at HP0
      have HP := Lib.hid HP0
      clear HP0
      go_wp2_with fail
      refine HP.out.mono ?_
      rintro e W4 ⟨A4, n4, c4, rfl, hn4, hc4, hc4', hr4, hb4⟩
      have Hb04 := Lib.hid (Hb03.out.trans (hb4.mono Hb03.out.size))
      have R3' := Lib.hid (R3.out.2.2.2.call hb4)
      have Hb1 := Lib.hid (Hb.out.trans (Hb04.out.mono Hb.out.size))
      have hXX : (wds (X * X)).length ≤ 8194 := len_mul HX.out.2 HX.out.2
      have HC := Lib.hid (runder_any (a := X * X) (b := m) (c := c4) (d := c1) hr4 (R1.out.2.2.2.call Hb1.out) hn4.out R1.out.1 (by have := hn4.out; omega) (by have := R1.out.1; have := Hml.out; omega))
      clear hn4 hc4 hc4' hr4 hb4 HP Hb03 hXX
      go_wp2_with fail
      refine HC.out.mono ?_
      rintro e W5 ⟨q, rfl, rfl⟩
      have hd := cmpN_le (a := X * X) (b := m)
      by_cases hle : X * X ≤ m
      · rw [decide_eq_true hle] at hd
        have Hle := Lib.hid hle
        clear hle HC
        go_wp2_with fail
        go_roundg j
        case measure => have := Hk.out; omega
        case rel => exact ⟨_, _, _, X, j, Lib.hid rfl, rfl, by rw [show (j : Int) - 1 = (j : Int) - 1 from rfl], by omega, Lib.hid R3.out.1, R3.out.2.1, R3.out.2.2.1, Lib.hid (R3'.out.drewN q), Lib.hid (below_drewN Hb1.out q), Lib.hid ⟨Hle.out, by rw [HX.out.1]; have h := HR.out.2; rwa [Nat.pow_succ, Nat.mul_two, ← Nat.add_assoc] at h⟩⟩
      · rw [decide_eq_false hle] at hd
        have Hle := Lib.hid hle
        clear hle HC
        go_wp2_with fail
        go_roundg j
        case measure => have := Hk.out; omega
        case rel => exact ⟨_, _, _, R, j, Lib.hid rfl, rfl, rfl, by omega, Hn, Hc.out.1, Hc.out.2, Lib.hid ((Hr.out.call Hb04.out).drewN q), Lib.hid (below_drewN Hb1.out q), Lib.hid ⟨HR.out.1, by have := HX.out.1; have := Hle.out; rw [← HX.out.1]; omega⟩⟩
    case inl =>
      subst h0
      rw [show ((0 : Nat) : Int) - 1 = -1 by omega]
      have HM0 := made_any (neg := false) Hr.out (Nat.le_refl _) Hn.out Hc.out.1 Hc.out.2 (by have := Hn.out; have := HRl.out; omega) (wd_w _)
      rw [val_w, sgn_false] at HM0
      obtain ⟨zs, zb, ez⟩ : ∃ s b, enc (R : Int) = .agg #[.bool s, .string b] := ⟨_, _, rfl⟩
      obtain ⟨ys, yb, ey⟩ : ∃ s b, enc ((m : Int) - (R : Int) * (R : Int)) = .agg #[.bool s, .string b] := ⟨_, _, rfl⟩
      rw [ez] at HM0
      have HM := Lib.hid HM0
      have Hz := Lib.hid (And.intro ez ey)
      have F0 := Lib.hid (E1.out.call Hb.out)
      have RA := Lib.hid (R1.out.2.2.2.call Hb.out)
      clear HM0 ez ey Hb E1 Hs
      go_wp2_with fail
      refine HM.out.mono ?_
      rintro e W2 ⟨rfl, hb2⟩
      have F2 := Lib.hid (F0.out.call hb2)
      have RA2 := Lib.hid (RA.out.call hb2)
      have Hr2 := Lib.hid (Hr.out.call hb2)
      clear hb2 HM F0 RA Hr
      have HP0 := rproduct_any (c := c) (d := c) Hr2.out Hr2.out (Nat.le_refl _) Hn.out Hn.out (by have := Hn.out; have := HRl.out; omega) (by have := Hn.out; have := HRl.out; omega) (wd_w _) (wd_w _)
      rw [val_w] at HP0
      have HP := Lib.hid HP0
      clear HP0
      go_wp2_with fail
      refine HP.out.mono ?_
      rintro e W3 ⟨A3, n3, c3, rfl, hn3, hc3, hc3', hr3, hb3⟩
      have F3 := Lib.hid (F2.out.call hb3)
      have HL0 := rless_any (c := c1) (d := c3) (RA2.out.call hb3) hr3 (Nat.le_refl _) R1.out.1 hn3.out (by have := R1.out.1; have := Hml.out; omega) (by rw [R1.out.1, hn3.out]; exact len_mono HR.out.1) (by rw [val_w, val_w]; exact HR.out.1) (wd_w _) (wd_w _)
      rw [val_w, val_w] at HL0
      have HL := Lib.hid HL0
      clear HL0 hb3 hn3 hc3 hc3' hr3 HP F2 RA2 Hr2
      go_wp2_with fail
      refine HL.out.mono ?_
      rintro e W4 ⟨A4, n4, c4, rfl, hn4, hc4, hc4', hr4, hb4⟩
      have F4 := Lib.hid (F3.out.call hb4)
      have HM0 := made_any (neg := false) hr4 (Nat.le_refl _) hn4.out hc4 hc4' (by have := hn4.out; have := Hml.out; have := len_mono (Nat.sub_le m (R * R)); omega) (wd_w _)
      rw [val_w, sgn_false, show ((m - R * R : Nat) : Int) = (m : Int) - (R : Int) * (R : Int) by rw [Int.ofNat_sub HR.out.1, Int.natCast_mul], Hz.out.2] at HM0
      have HM := Lib.hid HM0
      clear HM0 hb4 hn4 hc4 hc4' hr4 HL F3
      go_wp2_with fail
      refine HM.out.mono ?_
      rintro e W5 ⟨rfl, hb5⟩
      have F5 := Lib.hid (F4.out.call hb5)
      clear hb5 HM F4
      have n2 := Env.at_ F5.out 1 rfl
      have n3 := Env.at_ F5.out 0 rfl
      have y0 := n2.cell 0
      have y1 := n2.cell 1
      have y2 := n2.frozen 0
      have y3 := n2.frozen 1
      have z0 := n3.cell 0
      have z1 := n3.cell 1
      have z2 := n3.frozen 0
      have z3 := n3.frozen 1
      simp at y0 y1 z0 z1
      go_wp2_with fail
      refine bodyPost_ret (v := .tuple #[.agg #[.bool zs, .string zb], .agg #[.bool ys, .string yb]]) (by simp [results, Try.results56, go_sem, y0, y1, z0, z1]) rfl ?_
      exact ⟨R, HR.out.1, by have h := HR.out.2; rwa [Nat.pow_zero] at h, by rw [Hz.out.1, Hz.out.2], ((((F5.out.1).setCell (by show w.heap.size ≤ w.heap.size + 1; omega) _).setCell (by show w.heap.size ≤ w.heap.size + 1; omega) _).setCell (by show w.heap.size ≤ w.heap.size + 1 + 1; omega) _).setCell (by show w.heap.size ≤ w.heap.size + 1 + 1; omega) _⟩
end Go.Proofs.Ytpnginnjbdedbaa
