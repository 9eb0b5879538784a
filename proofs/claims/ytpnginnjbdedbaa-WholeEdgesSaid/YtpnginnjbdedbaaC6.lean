import Derived.Test.YtpnginnjbdedbaaC5
import Derived.BigQuiet
import Derived.Deep.DeepCutAuto
import Derived.Deep.RegionHeld3
/- whole.Div (printed by gen_div.py). -/
namespace Go.Proofs.Ytpnginnjbdedbaa
open Go.RowKit
open Wh
set_option linter.unusedSimpArgs false

/-- quotient and rest -/
def Quots (w : World) (a b : Bool × ByteArray) (e : Ending) (w' : World) : Prop :=
  (¬ May2 a b → e = .returned (.tuple #[none_, none_, .int .i64 2])) ∧ (May2 a b → num b = 0 → e = .returned (.tuple #[none_, none_, .int .i64 5])) ∧
  (May2 a b → num b ≠ 0 → e = .returned (.tuple #[enc (num a / num b), enc (num a % num b), .int .i64 0])) ∧ Below w.heap.size w w'
theorem same_pair {w : World} {g : Nat} {t : TypeId} {u v : Value} (h : Blk w g t #[u, v]) : Blk ((w.setCell ⟨g, 0, none⟩ u).setCell ⟨g, 1, none⟩ v) g t #[u, v] := (h.set_ 0 u).set_ 1 v
theorem put_pair {w : World} {g : Nat} {t : TypeId} {x y : Value} (u v : Value) (h : Blk w g t #[x, y]) : Blk ((w.setCell ⟨g, 0, none⟩ u).setCell ⟨g, 1, none⟩ v) g t #[u, v] := (h.set_ 0 u).set_ 1 v
theorem far_pair {w : World} {g g' : Nat} {t : TypeId} {cs : Array Value} (u v : Value) (h : Blk w g t cs) (hne : g ≠ g') : Blk ((w.setCell ⟨g', 0, none⟩ u).setCell ⟨g', 1, none⟩ v) g t cs := (Blk.far h (p := ⟨g', 0, none⟩) hne u).far (p := ⟨g', 1, none⟩) hne v
theorem Blk.two {w : World} {g : Nat} {t : TypeId} {u v : Value} (h : Blk w g t #[u, v]) : w.cell? ⟨g, 0, none⟩ = some u ∧ w.cell? ⟨g, 1, none⟩ = some v := ⟨h.cell 0, h.cell 1⟩
theorem num_nil {b : Bool × ByteArray} (hm : MayL b.1 b.2.data.toList) : num b = 0 ↔ b.2.size = 0 := by
  have hl : b.2.data.toList.length = b.2.size := Array.length_toList
  constructor
  · intro h
    rcases Nat.eq_zero_or_pos b.2.size with h0 | h0
    · exact h0
    · have h1 : 0 < bval b.2.data.toList := bval_pos hm.2.2 (by intro h; rw [h] at hl; simp at hl; omega)
      obtain ⟨n, s⟩ := b
      have h2 := sg_num (n := n) (s := s) h1
      rw [h] at h2
      cases n <;> exact absurd h2 (by decide)
  · intro h
    have h2 := str_empty (s := b.2) (List.eq_nil_of_length_eq_zero (by omega))
    obtain ⟨n, s⟩ := b
    dsimp only at h2
    subst h2
    cases n <;> rfl
theorem fits_len {l : List UInt8} {k : Nat} (h : 8 * l.length ≤ k) : bl (bval l) ≤ k := by
  refine bl_lt.2 (Nat.lt_of_lt_of_le (bval_lt _) ?_)
  rw [show (256 : Nat) = 2 ^ 8 by decide, ← Nat.pow_mul]
  exact Nat.pow_le_pow_right (by decide) h
theorem bl_mono {a m k : Nat} (h : a ≤ m) (hm : bl m ≤ k) : bl a ≤ k := bl_lt.2 (Nat.lt_of_le_of_lt h (bl_lt.1 hm))
theorem len_bl {a k : Nat} (h : bl a ≤ 32 * k) : (wds a).length ≤ k :=
  len_wds (Nat.lt_of_lt_of_le (bl_lt.1 h) (by rw [show (4294967296 : Nat) = 2 ^ 32 by decide, ← Nat.pow_mul]; exact Nat.le_refl _))
theorem fits_num {a : Bool × ByteArray} (h : MayL a.1 a.2.data.toList) : bl (num a).natAbs ≤ 131072 := by
  unfold num
  rw [sgn_abs]
  exact fits_len (by have := h.1; omega)
theorem fits_le {z : Int} {m : Nat} (h : z.natAbs ≤ m) (hm : bl m ≤ 131072) : fits z := bl_mono h hm
theorem len_fits {z : Int} (h : fits z) : (wds z.natAbs).length ≤ 5000 := Nat.le_trans (len_bl (k := 4096) h) (by decide)
set_option maxRecDepth 100000 in
set_option maxHeartbeats 4000000 in
theorem wdiv_bad {w : World} {na nb : Bool} {sa sb : ByteArray} (hm : ¬ May2 (na, sa) (nb, sb)) :
    Calls Try.prog 21 #[.agg #[.bool na, .string sa], .agg #[.bool nb, .string sb]] w (Quots w (na, sa) (nb, sb)) := by
  have hb1 := new_below w (.cells #[.bool na, .string sa] 26)
  have hb2 := hb1.alloc (by simp) (.cells #[.bool nb, .string sb] 26)
  have hb3 := hb2.alloc (by simp <;> omega) (.cells #[.bool false, .string ⟨#[]⟩] 26)
  have hb4 := hb3.alloc (by simp <;> omega) (.cells #[.bool false, .string ⟨#[]⟩] 26)
  have k2 := ((Blk.new (w.alloc (.cells #[.bool na, .string sa] 26)) 26 #[.bool nb, .string sb]).alloc (.cells #[.bool false, .string ⟨#[]⟩] 26)).alloc (.cells #[.bool false, .string ⟨#[]⟩] 26)
  have k3 := (Blk.new ((w.alloc (.cells #[.bool na, .string sa] 26)).alloc (.cells #[.bool nb, .string sb] 26)) 26 #[.bool false, .string ⟨#[]⟩]).alloc (.cells #[.bool false, .string ⟨#[]⟩] 26)
  have k4 := Blk.new (((w.alloc (.cells #[.bool na, .string sa] 26)).alloc (.cells #[.bool nb, .string sb] 26)).alloc (.cells #[.bool false, .string ⟨#[]⟩] 26)) 26 #[.bool false, .string ⟨#[]⟩]
  have hO := of_pair (w := (((w.alloc (.cells #[.bool na, .string sa] 26)).alloc (.cells #[.bool nb, .string sb] 26)).alloc (.cells #[.bool false, .string ⟨#[]⟩] 26)).alloc (.cells #[.bool false, .string ⟨#[]⟩] 26)) (na := na) (sa := sa) (nb := nb) (sb := sb)
  rw [World.size_alloc, World.size_alloc, World.size_alloc, World.size_alloc] at hO
  rw [World.size_alloc] at k2
  rw [World.size_alloc, World.size_alloc] at k3
  rw [World.size_alloc, World.size_alloc, World.size_alloc] at k4
  have HO := Lib.hid hO
  have Hb := Lib.hid (And.intro hb4 (And.intro k2 (And.intro k3 k4)))
  have Hm := Lib.hid hm
  clear hm
  clear hO hb1 hb2 hb3 hb4 k2 k3 k4
  go_enter Try.func21, Try.ntmps21
  go_wp2_with fail
  refine HO.out.mono ?_
  rintro e w5 ⟨h1, h2, hb5⟩
  have hb05 := Hb.out.1.trans (hb5.mono (by simp <;> omega))
  have m2 := Hb.out.2.1.below hb5 (by simp <;> omega)
  have m3 := Hb.out.2.2.1.below hb5 (by simp)
  have m4 := Hb.out.2.2.2.below hb5 (by simp)
  have c0 : w5.cell? ⟨w.heap.size + 1, 0, none⟩ = some (.bool nb) := m2.cell 0
  have c1 : w5.cell? ⟨w.heap.size + 1, 1, none⟩ = some (.string sb) := m2.cell 1
  have d0 : w5.cell? ⟨w.heap.size + 1 + 1, 0, none⟩ = some (.bool false) := m3.cell 0
  have d1 : w5.cell? ⟨w.heap.size + 1 + 1, 1, none⟩ = some (.string ⟨#[]⟩) := m3.cell 1
  have e0 : w5.cell? ⟨w.heap.size + 1 + 1 + 1, 0, none⟩ = some (.bool false) := m4.cell 0
  have e1 : w5.cell? ⟨w.heap.size + 1 + 1 + 1, 1, none⟩ = some (.string ⟨#[]⟩) := m4.cell 1
  have d2 := m3.frozen 0
  have d3 := m3.frozen 1
  have e2 := m4.frozen 0
  have e3 := m4.frozen 1
  have H5 := Lib.hid (And.intro hb05 (And.intro m3 m4))
  have Hsz := Lib.hid (show w.heap.size + 1 + 1 + 1 + 1 ≤ w5.heap.size by have := hb5.size; simp at this; omega)
  clear hb5 hb05 m2 m3 m4
  obtain ⟨A5, n5, c5, rfl⟩ := h2 Hm.out
  clear h1 h2
  go_wp2_with fail
  refine wp_region_noPanic ?_
  refine wp_region_HK (fun w' => (w'.cell? ⟨w.heap.size + 1 + 1, 0, none⟩ = some (.bool false) ∧ w'.cell? ⟨w.heap.size + 1 + 1, 1, none⟩ = some (.string ⟨#[]⟩)) ∧ w'.cell? ⟨w.heap.size + 1 + 1 + 1, 0, none⟩ = some (.bool false) ∧ w'.cell? ⟨w.heap.size + 1 + 1 + 1, 1, none⟩ = some (.string ⟨#[]⟩)) 3 (by kernel_rfl) ⟨⟨d0, d1⟩, e0, e1⟩ (fun hHeld => ?_)
  refine wpHK_take (i := 0) (oi := Oper.mk (some 21) _ _ _ _ _) (v := ?_) rfl (by kernel_rfl) (by kernel_rfl) (by kernel_rfl) (by kernel_rfl) (fun _ _ _ h => h) (Or.inl ⟨by rfl, ?_⟩) (by assumption) ?_
  rotate_left
  · (intro w' hSw; (try dsimp only at hSw); (obtain ⟨⟨s1, s2⟩, s3, s4⟩ := hSw); go_simp; try with_reducible rfl)
  try simp only [Act.put, List.setIfInBounds_toArray, List.set_cons_zero, List.set_cons_succ]
  refine wpHK_take (i := 1) (oi := Oper.mk (some 22) _ _ _ _ _) (v := ?_) rfl (by kernel_rfl) (by kernel_rfl) (by kernel_rfl) (by kernel_rfl) (fun _ _ _ h => h) (Or.inl ⟨by rfl, ?_⟩) (by assumption) ?_
  rotate_left
  · (intro w' hSw; (try dsimp only at hSw); (obtain ⟨⟨s1, s2⟩, s3, s4⟩ := hSw); go_simp; try with_reducible rfl)
  try simp only [Act.put, List.setIfInBounds_toArray, List.set_cons_zero, List.set_cons_succ]
  refine wpHK_one (j := 2) (o := Oper.mk (none) _ _ _ _ _) rfl (by kernel_rfl) (fun K hK => ?_)
  go_simp
  refine hK.out _ _ (And.intro (same_pair H5.out.2.1).two (far_pair (.bool false) (.string ⟨#[]⟩) H5.out.2.2 (show w.heap.size + 1 + 1 + 1 ≠ w.heap.size + 1 + 1 by omega)).two) (fun _ => ?_)
  clear hK K hHeld
  have hHeld := (And.intro (same_pair H5.out.2.1).two (far_pair (.bool false) (.string ⟨#[]⟩) H5.out.2.2 (show w.heap.size + 1 + 1 + 1 ≠ w.heap.size + 1 + 1 by omega)).two)
  try simp only [Act.put, List.setIfInBounds_toArray, List.set_cons_zero, List.set_cons_succ]
  refine wpHK_tail (j := 3) (o := Oper.mk (none) _ _ _ _ _) rfl (by kernel_rfl) (by decide) (fun K hK => ?_)
  go_simp
  refine hK.out _ _ ?_
  clear hK K
  try simp only [Act.put, List.setIfInBounds_toArray, List.set_cons_zero, List.set_cons_succ]
  refine wpHK_pure (i := 4) (oi := Oper.mk (some 6) _ _ _ _ _) (v := ?_) rfl (by kernel_rfl) (by kernel_rfl) (by kernel_rfl) (fun _ _ _ h => h) (Or.inl ⟨by rfl, ?_⟩) ?_
  rotate_left
  · (intro w' _; go_simp; try with_reducible rfl)
  try simp only [Act.put, List.setIfInBounds_toArray, List.set_cons_zero, List.set_cons_succ]
  refine wpHK_done (by kernel_rfl) ?_ _
  refine NoPanic.normal ?_
  go_wp2_with fail
  refine bodyPost_ret (v := .tuple #[.agg #[.bool false, .string ⟨#[]⟩], .agg #[.bool false, .string ⟨#[]⟩], .int .i64 2]) (by simp [results, Try.results21, go_sem, d0, d1, e0, e1]) rfl ?_
  exact ⟨fun _ => rfl, fun h => absurd h Hm.out, fun h => absurd h Hm.out, (((((H5.out.1.drew).setCell (by show w.heap.size ≤ w.heap.size + 1 + 1; omega) _).setCell (by show w.heap.size ≤ w.heap.size + 1 + 1; omega) _).setCell (by show w.heap.size ≤ w.heap.size + 1 + 1 + 1; omega) _).setCell (by show w.heap.size ≤ w.heap.size + 1 + 1 + 1; omega) _)⟩
set_option maxRecDepth 100000 in
set_option maxHeartbeats 4000000 in
theorem wdiv_zero {w : World} {na nb : Bool} {sa sb : ByteArray} (hm : May2 (na, sa) (nb, sb)) (h0 : num (nb, sb) = 0) :
    Calls Try.prog 21 #[.agg #[.bool na, .string sa], .agg #[.bool nb, .string sb]] w (Quots w (na, sa) (nb, sb)) := by
  have hb1 := new_below w (.cells #[.bool na, .string sa] 26)
  have hb2 := hb1.alloc (by simp) (.cells #[.bool nb, .string sb] 26)
  have hb3 := hb2.alloc (by simp <;> omega) (.cells #[.bool false, .string ⟨#[]⟩] 26)
  have hb4 := hb3.alloc (by simp <;> omega) (.cells #[.bool false, .string ⟨#[]⟩] 26)
  have k2 := ((Blk.new (w.alloc (.cells #[.bool na, .string sa] 26)) 26 #[.bool nb, .string sb]).alloc (.cells #[.bool false, .string ⟨#[]⟩] 26)).alloc (.cells #[.bool false, .string ⟨#[]⟩] 26)
  have k3 := (Blk.new ((w.alloc (.cells #[.bool na, .string sa] 26)).alloc (.cells #[.bool nb, .string sb] 26)) 26 #[.bool false, .string ⟨#[]⟩]).alloc (.cells #[.bool false, .string ⟨#[]⟩] 26)
  have k4 := Blk.new (((w.alloc (.cells #[.bool na, .string sa] 26)).alloc (.cells #[.bool nb, .string sb] 26)).alloc (.cells #[.bool false, .string ⟨#[]⟩] 26)) 26 #[.bool false, .string ⟨#[]⟩]
  have hO := of_pair (w := (((w.alloc (.cells #[.bool na, .string sa] 26)).alloc (.cells #[.bool nb, .string sb] 26)).alloc (.cells #[.bool false, .string ⟨#[]⟩] 26)).alloc (.cells #[.bool false, .string ⟨#[]⟩] 26)) (na := na) (sa := sa) (nb := nb) (sb := sb)
  rw [World.size_alloc, World.size_alloc, World.size_alloc, World.size_alloc] at hO
  rw [World.size_alloc] at k2
  rw [World.size_alloc, World.size_alloc] at k3
  rw [World.size_alloc, World.size_alloc, World.size_alloc] at k4
  have HO := Lib.hid hO
  have Hb := Lib.hid (And.intro hb4 (And.intro k2 (And.intro k3 k4)))
  have Hm := Lib.hid (And.intro hm h0)
  clear hm h0
  clear hO hb1 hb2 hb3 hb4 k2 k3 k4
  go_enter Try.func21, Try.ntmps21
  go_wp2_with fail
  refine HO.out.mono ?_
  rintro e w5 ⟨h1, h2, hb5⟩
  have hb05 := Hb.out.1.trans (hb5.mono (by simp <;> omega))
  have m2 := Hb.out.2.1.below hb5 (by simp <;> omega)
  have m3 := Hb.out.2.2.1.below hb5 (by simp)
  have m4 := Hb.out.2.2.2.below hb5 (by simp)
  have c0 : w5.cell? ⟨w.heap.size + 1, 0, none⟩ = some (.bool nb) := m2.cell 0
  have c1 : w5.cell? ⟨w.heap.size + 1, 1, none⟩ = some (.string sb) := m2.cell 1
  have d0 : w5.cell? ⟨w.heap.size + 1 + 1, 0, none⟩ = some (.bool false) := m3.cell 0
  have d1 : w5.cell? ⟨w.heap.size + 1 + 1, 1, none⟩ = some (.string ⟨#[]⟩) := m3.cell 1
  have e0 : w5.cell? ⟨w.heap.size + 1 + 1 + 1, 0, none⟩ = some (.bool false) := m4.cell 0
  have e1 : w5.cell? ⟨w.heap.size + 1 + 1 + 1, 1, none⟩ = some (.string ⟨#[]⟩) := m4.cell 1
  have d2 := m3.frozen 0
  have d3 := m3.frozen 1
  have e2 := m4.frozen 0
  have e3 := m4.frozen 1
  have H5 := Lib.hid (And.intro hb05 (And.intro m3 m4))
  have Hsz := Lib.hid (show w.heap.size + 1 + 1 + 1 + 1 ≤ w5.heap.size by have := hb5.size; simp at this; omega)
  clear hb5 hb05 m2 m3 m4
  obtain ⟨ad, c, g1, g2, rfl, hadb, p0, p1, hx, hy, hg1, hg2, hne⟩ := h1 Hm.out.1
  clear h1 h2 hx hy
  have hsz := (num_nil Hm.out.1.2).1 Hm.out.2
  have hl : sb.data.toList.length = sb.size := Array.length_toList
  dsimp only at hsz
  have he := List.eq_nil_of_length_eq_zero (show sb.data.toList.length = 0 by omega)
  obtain rfl := str_empty he
  obtain rfl := Hm.out.1.2.2.1 he
  clear hsz hl he hg1 hg2 hne
  go_wp2_with fail
  refine wp_region_noPanic ?_
  refine wp_region_HK (fun w' => (w'.cell? ⟨w.heap.size + 1 + 1, 0, none⟩ = some (.bool false) ∧ w'.cell? ⟨w.heap.size + 1 + 1, 1, none⟩ = some (.string ⟨#[]⟩)) ∧ w'.cell? ⟨w.heap.size + 1 + 1 + 1, 0, none⟩ = some (.bool false) ∧ w'.cell? ⟨w.heap.size + 1 + 1 + 1, 1, none⟩ = some (.string ⟨#[]⟩)) 3 (by kernel_rfl) ⟨⟨d0, d1⟩, e0, e1⟩ (fun hHeld => ?_)
  refine wpHK_take (i := 0) (oi := Oper.mk (some 27) _ _ _ _ _) (v := ?_) rfl (by kernel_rfl) (by kernel_rfl) (by kernel_rfl) (by kernel_rfl) (fun _ _ _ h => h) (Or.inl ⟨by rfl, ?_⟩) (by assumption) ?_
  rotate_left
  · (intro w' hSw; (try dsimp only at hSw); (obtain ⟨⟨s1, s2⟩, s3, s4⟩ := hSw); go_simp; try with_reducible rfl)
  try simp only [Act.put, List.setIfInBounds_toArray, List.set_cons_zero, List.set_cons_succ]
  refine wpHK_take (i := 1) (oi := Oper.mk (some 28) _ _ _ _ _) (v := ?_) rfl (by kernel_rfl) (by kernel_rfl) (by kernel_rfl) (by kernel_rfl) (fun _ _ _ h => h) (Or.inl ⟨by rfl, ?_⟩) (by assumption) ?_
  rotate_left
  · (intro w' hSw; (try dsimp only at hSw); (obtain ⟨⟨s1, s2⟩, s3, s4⟩ := hSw); go_simp; try with_reducible rfl)
  try simp only [Act.put, List.setIfInBounds_toArray, List.set_cons_zero, List.set_cons_succ]
  refine wpHK_one (j := 2) (o := Oper.mk (none) _ _ _ _ _) rfl (by kernel_rfl) (fun K hK => ?_)
  go_simp
  refine hK.out _ _ (And.intro (same_pair H5.out.2.1).two (far_pair (.bool false) (.string ⟨#[]⟩) H5.out.2.2 (show w.heap.size + 1 + 1 + 1 ≠ w.heap.size + 1 + 1 by omega)).two) (fun _ => ?_)
  clear hK K hHeld
  have hHeld := (And.intro (same_pair H5.out.2.1).two (far_pair (.bool false) (.string ⟨#[]⟩) H5.out.2.2 (show w.heap.size + 1 + 1 + 1 ≠ w.heap.size + 1 + 1 by omega)).two)
  try simp only [Act.put, List.setIfInBounds_toArray, List.set_cons_zero, List.set_cons_succ]
  refine wpHK_tail (j := 3) (o := Oper.mk (none) _ _ _ _ _) rfl (by kernel_rfl) (by decide) (fun K hK => ?_)
  go_simp
  refine hK.out _ _ ?_
  clear hK K
  try simp only [Act.put, List.setIfInBounds_toArray, List.set_cons_zero, List.set_cons_succ]
  refine wpHK_pure (i := 4) (oi := Oper.mk (some 6) _ _ _ _ _) (v := ?_) rfl (by kernel_rfl) (by kernel_rfl) (by kernel_rfl) (fun _ _ _ h => h) (Or.inl ⟨by rfl, ?_⟩) ?_
  rotate_left
  · (intro w' _; go_simp; try with_reducible rfl)
  try simp only [Act.put, List.setIfInBounds_toArray, List.set_cons_zero, List.set_cons_succ]
  refine wpHK_done (by kernel_rfl) ?_ _
  refine NoPanic.normal ?_
  go_wp2_with fail
  refine bodyPost_ret (v := .tuple #[.agg #[.bool false, .string ⟨#[]⟩], .agg #[.bool false, .string ⟨#[]⟩], .int .i64 5]) (by simp [results, Try.results21, go_sem, d0, d1, e0, e1]) rfl ?_
  exact ⟨fun h => absurd Hm.out.1 h, fun _ _ => rfl, fun _ h => absurd Hm.out.2 h, (((((H5.out.1.drew).setCell (by show w.heap.size ≤ w.heap.size + 1 + 1; omega) _).setCell (by show w.heap.size ≤ w.heap.size + 1 + 1; omega) _).setCell (by show w.heap.size ≤ w.heap.size + 1 + 1 + 1; omega) _).setCell (by show w.heap.size ≤ w.heap.size + 1 + 1 + 1; omega) _)⟩
theorem rest_le {x y : Int} (hy : y ≠ 0) : (x % y).natAbs ≤ y.natAbs := by
  have h1 := Int.emod_nonneg x hy
  have h2 := Int.emod_lt x hy
  omega
set_option maxRecDepth 100000 in
set_option maxHeartbeats 4000000 in
theorem wdiv_main {w : World} {na nb : Bool} {sa sb : ByteArray} (hm : May2 (na, sa) (nb, sb)) (h0 : num (nb, sb) ≠ 0) :
    Calls Try.prog 21 #[.agg #[.bool na, .string sa], .agg #[.bool nb, .string sb]] w (Quots w (na, sa) (nb, sb)) := by
  have hb1 := new_below w (.cells #[.bool na, .string sa] 26)
  have hb2 := hb1.alloc (by simp) (.cells #[.bool nb, .string sb] 26)
  have hb3 := hb2.alloc (by simp <;> omega) (.cells #[.bool false, .string ⟨#[]⟩] 26)
  have hb4 := hb3.alloc (by simp <;> omega) (.cells #[.bool false, .string ⟨#[]⟩] 26)
  have k2 := ((Blk.new (w.alloc (.cells #[.bool na, .string sa] 26)) 26 #[.bool nb, .string sb]).alloc (.cells #[.bool false, .string ⟨#[]⟩] 26)).alloc (.cells #[.bool false, .string ⟨#[]⟩] 26)
  have k3 := (Blk.new ((w.alloc (.cells #[.bool na, .string sa] 26)).alloc (.cells #[.bool nb, .string sb] 26)) 26 #[.bool false, .string ⟨#[]⟩]).alloc (.cells #[.bool false, .string ⟨#[]⟩] 26)
  have k4 := Blk.new (((w.alloc (.cells #[.bool na, .string sa] 26)).alloc (.cells #[.bool nb, .string sb] 26)).alloc (.cells #[.bool false, .string ⟨#[]⟩] 26)) 26 #[.bool false, .string ⟨#[]⟩]
  have hO := of_pair (w := (((w.alloc (.cells #[.bool na, .string sa] 26)).alloc (.cells #[.bool nb, .string sb] 26)).alloc (.cells #[.bool false, .string ⟨#[]⟩] 26)).alloc (.cells #[.bool false, .string ⟨#[]⟩] 26)) (na := na) (sa := sa) (nb := nb) (sb := sb)
  rw [World.size_alloc, World.size_alloc, World.size_alloc, World.size_alloc] at hO
  rw [World.size_alloc] at k2
  rw [World.size_alloc, World.size_alloc] at k3
  rw [World.size_alloc, World.size_alloc, World.size_alloc] at k4
  have HO := Lib.hid hO
  have Hb := Lib.hid (And.intro hb4 (And.intro k2 (And.intro k3 k4)))
  have Hm := Lib.hid (And.intro hm h0)
  clear hm h0
  clear hO hb1 hb2 hb3 hb4 k2 k3 k4
  go_enter Try.func21, Try.ntmps21
  go_wp2_with fail
  refine HO.out.mono ?_
  rintro e w5 ⟨h1, h2, hb5⟩
  have hb05 := Hb.out.1.trans (hb5.mono (by simp <;> omega))
  have m2 := Hb.out.2.1.below hb5 (by simp <;> omega)
  have m3 := Hb.out.2.2.1.below hb5 (by simp)
  have m4 := Hb.out.2.2.2.below hb5 (by simp)
  have c0 : w5.cell? ⟨w.heap.size + 1, 0, none⟩ = some (.bool nb) := m2.cell 0
  have c1 : w5.cell? ⟨w.heap.size + 1, 1, none⟩ = some (.string sb) := m2.cell 1
  have d0 : w5.cell? ⟨w.heap.size + 1 + 1, 0, none⟩ = some (.bool false) := m3.cell 0
  have d1 : w5.cell? ⟨w.heap.size + 1 + 1, 1, none⟩ = some (.string ⟨#[]⟩) := m3.cell 1
  have e0 : w5.cell? ⟨w.heap.size + 1 + 1 + 1, 0, none⟩ = some (.bool false) := m4.cell 0
  have e1 : w5.cell? ⟨w.heap.size + 1 + 1 + 1, 1, none⟩ = some (.string ⟨#[]⟩) := m4.cell 1
  have d2 := m3.frozen 0
  have d3 := m3.frozen 1
  have e2 := m4.frozen 0
  have e3 := m4.frozen 1
  have H5 := Lib.hid (And.intro hb05 (And.intro m3 m4))
  have Hsz := Lib.hid (show w.heap.size + 1 + 1 + 1 + 1 ≤ w5.heap.size by have := hb5.size; simp at this; omega)
  clear hb5 hb05 m2 m3 m4
  obtain ⟨ad, c, g1, g2, rfl, hadb, p0, p1, hx, hy, hg1, hg2, hne⟩ := h1 Hm.out.1
  clear h1 h2
  have hl : 0 < sb.size := by
    rcases Nat.eq_zero_or_pos sb.size with h | h
    · exact absurd ((num_nil Hm.out.1.2).2 h) Hm.out.2
    · exact h
  obtain ⟨q1, q2⟩ := str_facts hl
  have hba1 : Below w5.heap.size w5 (w5.drew.alloc (.cells #[.bool false, .slice none 0 0] 82)) := (Below.refl _ _).drew.alloc (Nat.le_refl _) _
  have hba := hba1.alloc (by simp) (.cells #[.bool false, .slice none 0 0] 82)
  have hz1 := (IntB.zero w5.drew).below (new_below (w5.drew.alloc (.cells #[.bool false, .slice none 0 0] 82)) (.cells #[.bool false, .slice none 0 0] 82))
  have hz2 : IntB ((w5.drew.alloc (.cells #[.bool false, .slice none 0 0] 82)).alloc (.cells #[.bool false, .slice none 0 0] 82)) (w5.heap.size + 1) 0 := by
    have := IntB.zero (w5.drew.alloc (.cells #[.bool false, .slice none 0 0] 82))
    rw [World.size_alloc] at this
    exact this
  have l1 := len_num Hm.out.1.1
  have l2 := len_num Hm.out.1.2
  have HC1 := Lib.hid (divmod_any (g := w5.heap.size) (gr := w5.heap.size + 1) hz1.slot hz2.slot (by omega) (hx.below hba) (hy.below hba) (by omega) (by omega) Hm.out.2)
  have HC2 := Lib.hid (divmod_any (g := w5.heap.size + 1) (gr := w5.heap.size) hz2.slot hz1.slot (by omega) (hx.below hba) (hy.below hba) (by omega) (by omega) Hm.out.2)
  have hcell : ∀ w' : World, Below w5.heap.size w5 w' → w'.cell? ad = some (.pointer (some ⟨g1, 0, none⟩)) ∧ w'.cell? ⟨ad.block, ad.off + 1, none⟩ = some (.pointer (some ⟨g2, 0, none⟩)) := fun w' hb => ⟨(hb.cell hadb).trans p0, (hb.cell (p := ⟨ad.block, ad.off + 1, none⟩) hadb).trans p1⟩
  have Hcell := Lib.hid hcell
  have Hba1 := Lib.hid hba1
  have Hba := Lib.hid hba
  clear hl hba1 hba hz1 hz2 l1 l2 hcell hx hy hg1 hg2 hne
  go_wp2_with fail
  apply cut_goal2 (F := fun g gr W => IntB W g (num (na, sa) / num (nb, sb)) ∧ IntB W gr (num (na, sa) % num (nb, sb)) ∧ Below w5.heap.size w5 W)
  · intro hcont
    refine wp_region_noPanic ?_
    refine wp_region_HK (fun w' => w'.cell? ad = some (.pointer (some ⟨g1, 0, none⟩)) ∧ w'.cell? ⟨ad.block, ad.off + 1, none⟩ = some (.pointer (some ⟨g2, 0, none⟩))) 8 (by kernel_rfl) ⟨p0, p1⟩ (fun hHeld => ?_)
    refine wpHK_take (i := 1) (oi := Oper.mk (some 31) _ _ _ _ _) (v := ?_) rfl (by kernel_rfl) (by kernel_rfl) (by kernel_rfl) (by kernel_rfl) (fun _ _ _ h => h) (Or.inl ⟨by rfl, ?_⟩) (by assumption) ?_
    rotate_left
    · (intro w' hSw; (try dsimp only at hSw); (obtain ⟨s1, s2⟩ := hSw); go_simp; try with_reducible rfl)
    try simp only [Act.put, List.setIfInBounds_toArray, List.set_cons_zero, List.set_cons_succ]
    refine wpHK_take (i := 2) (oi := Oper.mk (some 32) _ _ _ _ _) (v := ?_) rfl (by kernel_rfl) (by kernel_rfl) (by kernel_rfl) (by kernel_rfl) (fun _ _ _ h => h) (Or.inl ⟨by rfl, ?_⟩) (by assumption) ?_
    rotate_left
    · (intro w' hSw; (try dsimp only at hSw); (obtain ⟨s1, s2⟩ := hSw); go_simp; try with_reducible rfl)
    try simp only [Act.put, List.setIfInBounds_toArray, List.set_cons_zero, List.set_cons_succ]
    refine wpHK_take (i := 3) (oi := Oper.mk (some 33) _ _ _ _ _) (v := ?_) rfl (by kernel_rfl) (by kernel_rfl) (by kernel_rfl) (by kernel_rfl) (fun _ _ _ h => h) (Or.inl ⟨by rfl, ?_⟩) (by assumption) ?_
    rotate_left
    · (intro w' hSw; (try dsimp only at hSw); (obtain ⟨s1, s2⟩ := hSw); go_simp; try with_reducible rfl)
    try simp only [Act.put, List.setIfInBounds_toArray, List.set_cons_zero, List.set_cons_succ]
    refine wpHK_take (i := 4) (oi := Oper.mk (some 34) _ _ _ _ _) (v := ?_) rfl (by kernel_rfl) (by kernel_rfl) (by kernel_rfl) (by kernel_rfl) (fun _ _ _ h => h) (Or.inl ⟨by rfl, ?_⟩) (by assumption) ?_
    rotate_left
    · (intro w' hSw; (try dsimp only at hSw); (obtain ⟨s1, s2⟩ := hSw); go_simp; try with_reducible rfl)
    try simp only [Act.put, List.setIfInBounds_toArray, List.set_cons_zero, List.set_cons_succ]
    refine wpHK_take (i := 5) (oi := Oper.mk (some 35) _ _ _ _ _) (v := ?_) rfl (by kernel_rfl) (by kernel_rfl) (by kernel_rfl) (by kernel_rfl) (fun _ _ _ h => h) (Or.inl ⟨by rfl, ?_⟩) (by assumption) ?_
    rotate_left
    · (intro w' hSw; (try dsimp only at hSw); (obtain ⟨s1, s2⟩ := hSw); go_simp; try with_reducible rfl)
    try simp only [Act.put, List.setIfInBounds_toArray, List.set_cons_zero, List.set_cons_succ]
    refine wpHK_take (i := 6) (oi := Oper.mk (some 36) _ _ _ _ _) (v := ?_) rfl (by kernel_rfl) (by kernel_rfl) (by kernel_rfl) (by kernel_rfl) (fun _ _ _ h => h) (Or.inl ⟨by rfl, ?_⟩) (by assumption) ?_
    rotate_left
    · (intro w' hSw; (try dsimp only at hSw); (obtain ⟨s1, s2⟩ := hSw); go_simp; try with_reducible rfl)
    try simp only [Act.put, List.setIfInBounds_toArray, List.set_cons_zero, List.set_cons_succ]
    refine wpHK_two (i := 0) (j := 7) (oi := Oper.mk (some 30) _ _ _ _ _) (oj := Oper.mk (some 37) _ _ _ _ _) rfl rfl (by kernel_rfl) (fun K hK => ?_) (fun K hK => ?_)
    · go_simp
      refine hK.out _ _ (Hcell.out _ Hba1.out) (fun _ => ?_)
      clear hK K hHeld
      have hHeld := (Hcell.out _ Hba1.out)
      try simp only [Act.put, List.setIfInBounds_toArray, List.set_cons_zero, List.set_cons_succ]
      refine wpHK_one (j := 7) (o := Oper.mk (some 37) _ _ _ _ _) rfl (by kernel_rfl) (fun K hK => ?_)
      go_simp
      refine hK.out _ _ (Hcell.out _ Hba.out) (fun _ => ?_)
      clear hK K hHeld
      have hHeld := (Hcell.out _ Hba.out)
      try simp only [Act.put, List.setIfInBounds_toArray, List.set_cons_zero, List.set_cons_succ]
      refine wpHK_tail (j := 8) (o := Oper.mk (some 38) _ _ _ _ _) rfl (by kernel_rfl) (by decide) (fun K hK => ?_)
      go_simp
      refine HC1.out.mono ?_
      rintro e w6 ⟨rfl, hq6, hr6, hup6⟩
      try simp only []
      refine hK.out _ _ ?_
      clear hK K
      try simp only [Act.put, List.setIfInBounds_toArray, List.set_cons_zero, List.set_cons_succ]
      refine wpHK_pure (i := 9) (oi := Oper.mk (some 29) _ _ _ _ _) (v := ?_) rfl (by kernel_rfl) (by kernel_rfl) (by kernel_rfl) (fun _ _ _ h => h) (Or.inl ⟨by rfl, ?_⟩) ?_
      rotate_left
      · (intro w' _; go_simp; try with_reducible rfl)
      try simp only [Act.put, List.setIfInBounds_toArray, List.set_cons_zero, List.set_cons_succ]
      refine wpHK_pure (i := 10) (oi := Oper.mk (some 39) _ _ _ _ _) (v := ?_) rfl (by kernel_rfl) (by kernel_rfl) (by kernel_rfl) (fun _ _ _ h => h) (Or.inl ⟨by rfl, ?_⟩) ?_
      rotate_left
      · (intro w' _; go_simp; try with_reducible rfl)
      try simp only [Act.put, List.setIfInBounds_toArray, List.set_cons_zero, List.set_cons_succ]
      refine wpHK_pure (i := 11) (oi := Oper.mk (some 40) _ _ _ _ _) (v := ?_) rfl (by kernel_rfl) (by kernel_rfl) (by kernel_rfl) (fun _ _ _ h => h) (Or.inl ⟨by rfl, ?_⟩) ?_
      rotate_left
      · (intro w' _; go_simp; try with_reducible rfl)
      try simp only [Act.put, List.setIfInBounds_toArray, List.set_cons_zero, List.set_cons_succ]
      refine wpHK_pure (i := 12) (oi := Oper.mk (some 9) _ _ _ _ _) (v := ?_) rfl (by kernel_rfl) (by kernel_rfl) (by kernel_rfl) (fun _ _ _ h => h) (Or.inl ⟨by rfl, ?_⟩) ?_
      rotate_left
      · (intro w' _; go_simp; try with_reducible rfl)
      try simp only [Act.put, List.setIfInBounds_toArray, List.set_cons_zero, List.set_cons_succ]
      refine wpHK_pure (i := 13) (oi := Oper.mk (some 10) _ _ _ _ _) (v := ?_) rfl (by kernel_rfl) (by kernel_rfl) (by kernel_rfl) (fun _ _ _ h => h) (Or.inl ⟨by rfl, ?_⟩) ?_
      rotate_left
      · (intro w' _; go_simp; try with_reducible rfl)
      try simp only [Act.put, List.setIfInBounds_toArray, List.set_cons_zero, List.set_cons_succ]
      refine wpHK_done (by kernel_rfl) ?_ _
      refine NoPanic.normal ?_
      have hb6 := hup6 w5.heap.size w5 Hba.out (by omega) (by omega) Hba.out.size
      generalize w5.heap.size + 1 = t5 at hr6 ⊢
      have hb6' := Lib.hid hb6
      clear hup6 hb6
      generalize hs5 : w5.heap.size = s5 at hq6 ⊢
      exact hcont _ _ _ ⟨hq6, hr6, hb6'.out⟩
    · go_simp
      refine hK.out _ _ (Hcell.out _ Hba1.out) (fun _ => ?_)
      clear hK K hHeld
      have hHeld := (Hcell.out _ Hba1.out)
      try simp only [Act.put, List.setIfInBounds_toArray, List.set_cons_zero, List.set_cons_succ]
      refine wpHK_one (j := 0) (o := Oper.mk (some 30) _ _ _ _ _) rfl (by kernel_rfl) (fun K hK => ?_)
      go_simp
      refine hK.out _ _ (Hcell.out _ Hba.out) (fun _ => ?_)
      clear hK K hHeld
      have hHeld := (Hcell.out _ Hba.out)
      try simp only [Act.put, List.setIfInBounds_toArray, List.set_cons_zero, List.set_cons_succ]
      refine wpHK_tail (j := 8) (o := Oper.mk (some 38) _ _ _ _ _) rfl (by kernel_rfl) (by decide) (fun K hK => ?_)
      go_simp
      refine HC2.out.mono ?_
      rintro e w6 ⟨rfl, hq6, hr6, hup6⟩
      try simp only []
      refine hK.out _ _ ?_
      clear hK K
      try simp only [Act.put, List.setIfInBounds_toArray, List.set_cons_zero, List.set_cons_succ]
      refine wpHK_pure (i := 9) (oi := Oper.mk (some 29) _ _ _ _ _) (v := ?_) rfl (by kernel_rfl) (by kernel_rfl) (by kernel_rfl) (fun _ _ _ h => h) (Or.inl ⟨by rfl, ?_⟩) ?_
      rotate_left
      · (intro w' _; go_simp; try with_reducible rfl)
      try simp only [Act.put, List.setIfInBounds_toArray, List.set_cons_zero, List.set_cons_succ]
      refine wpHK_pure (i := 10) (oi := Oper.mk (some 39) _ _ _ _ _) (v := ?_) rfl (by kernel_rfl) (by kernel_rfl) (by kernel_rfl) (fun _ _ _ h => h) (Or.inl ⟨by rfl, ?_⟩) ?_
      rotate_left
      · (intro w' _; go_simp; try with_reducible rfl)
      try simp only [Act.put, List.setIfInBounds_toArray, List.set_cons_zero, List.set_cons_succ]
      refine wpHK_pure (i := 11) (oi := Oper.mk (some 40) _ _ _ _ _) (v := ?_) rfl (by kernel_rfl) (by kernel_rfl) (by kernel_rfl) (fun _ _ _ h => h) (Or.inl ⟨by rfl, ?_⟩) ?_
      rotate_left
      · (intro w' _; go_simp; try with_reducible rfl)
      try simp only [Act.put, List.setIfInBounds_toArray, List.set_cons_zero, List.set_cons_succ]
      refine wpHK_pure (i := 12) (oi := Oper.mk (some 9) _ _ _ _ _) (v := ?_) rfl (by kernel_rfl) (by kernel_rfl) (by kernel_rfl) (fun _ _ _ h => h) (Or.inl ⟨by rfl, ?_⟩) ?_
      rotate_left
      · (intro w' _; go_simp; try with_reducible rfl)
      try simp only [Act.put, List.setIfInBounds_toArray, List.set_cons_zero, List.set_cons_succ]
      refine wpHK_pure (i := 13) (oi := Oper.mk (some 10) _ _ _ _ _) (v := ?_) rfl (by kernel_rfl) (by kernel_rfl) (by kernel_rfl) (fun _ _ _ h => h) (Or.inl ⟨by rfl, ?_⟩) ?_
      rotate_left
      · (intro w' _; go_simp; try with_reducible rfl)
      try simp only [Act.put, List.setIfInBounds_toArray, List.set_cons_zero, List.set_cons_succ]
      refine wpHK_done (by kernel_rfl) ?_ _
      refine NoPanic.normal ?_
      have hb6 := hup6 w5.heap.size w5 Hba.out (by omega) (by omega) Hba.out.size
      exact hcont _ _ _ ⟨hq6, hr6, hb6⟩
  · rintro g gr w6 ⟨hq6, hr6, hb6⟩
    have fq := fits_le (z := num (na, sa) / num (nb, sb)) (m := (num (na, sa)).natAbs) (Int.natAbs_ediv_le_natAbs _ _) (fits_num Hm.out.1.1)
    have fr := fits_le (z := num (na, sa) % num (nb, sb)) (m := (num (nb, sb)).natAbs) (rest_le Hm.out.2) (fits_num Hm.out.1.2)
    have HT := Lib.hid (told_any hq6 (Nat.le_trans (len_fits fq) (by omega)))
    have Fq := Lib.hid fq
    have Fr := Lib.hid fr
    obtain ⟨sq, bq, hqe⟩ : ∃ (sq : Bool) (bq : ByteArray), enc (num (na, sa) / num (nb, sb)) = .agg #[.bool sq, .string bq] := ⟨_, _, rfl⟩
    obtain ⟨sr, br, hre⟩ : ∃ (sr : Bool) (br : ByteArray), enc (num (na, sa) % num (nb, sb)) = .agg #[.bool sr, .string br] := ⟨_, _, rfl⟩
    have Hqr := Lib.hid (And.intro hqe hre)
    have Hr6 := Lib.hid hr6
    have Hb6 := Lib.hid hb6
    clear hq6 fq fr hqe hre hr6 hb6
    have m3 := H5.out.2.1.below Hb6.out (by have := Hsz.out; omega)
    have m4 := H5.out.2.2.below Hb6.out (by have := Hsz.out; omega)
    have Hsz6 := Lib.hid (Nat.le_trans Hsz.out Hb6.out.size)
    have Hm6 := Lib.hid (And.intro m3 m4)
    have hb06 := H5.out.1.trans (Hb6.out.mono (by have := Hsz.out; omega))
    have Hb06 := Lib.hid hb06
    clear m3 m4 hb06
    go_wp2_with fail
    refine HT.out.mono ?_
    rintro e w7 ⟨t1, _, hb7⟩
    have t1 := t1 Fq.out
    rw [Hqr.out.1] at t1
    subst t1
    have m3 := Hm6.out.1.below hb7 (by have := Hsz6.out; omega)
    have m4 := Hm6.out.2.below hb7 (by have := Hsz6.out; omega)
    have x0 : w7.cell? ⟨w.heap.size + 1 + 1, 0, none⟩ = some (.bool false) := m3.cell 0
    have x1 : w7.cell? ⟨w.heap.size + 1 + 1, 1, none⟩ = some (.string ⟨#[]⟩) := m3.cell 1
    have x2 := m3.frozen 0
    have x3 := m3.frozen 1
    have hr7 := Hr6.out.below hb7
    have hgr := only_setCell (p := ⟨w.heap.size + 1 + 1, 1, none⟩) (only_setCell (p := ⟨w.heap.size + 1 + 1, 0, none⟩) (World.grownBy.refl w7 (some (w.heap.size + 1 + 1))) (.inl rfl) (.bool sq)) (.inl rfl) (.string bq)
    have hr8 := hr7.other hgr (fun r hr => by injection hr with hr; subst hr; exact ⟨_, _, _, m3, by decide, by decide⟩)
    have HR := Lib.hid (told_any hr8 (Nat.le_trans (len_fits Fr.out) (by omega)))
    have m3' := put_pair (.bool sq) (.string bq) m3
    have m4' := far_pair (.bool sq) (.string bq) m4 (show w.heap.size + 1 + 1 + 1 ≠ w.heap.size + 1 + 1 by omega)
    have hb08 := ((Hb06.out.trans (hb7.mono (by have := Hsz6.out; omega))).setCell (p := ⟨w.heap.size + 1 + 1, 0, none⟩) (by show w.heap.size ≤ w.heap.size + 1 + 1; omega) (.bool sq)).setCell (p := ⟨w.heap.size + 1 + 1, 1, none⟩) (by show w.heap.size ≤ w.heap.size + 1 + 1; omega) (.string bq)
    have Hm8 := Lib.hid (And.intro m3' (And.intro m4' (And.intro hb08 (show w.heap.size + 1 + 1 + 1 + 1 ≤ w7.heap.size by have := Hsz6.out; have := hb7.size; omega))))
    clear hb7 m3 m4 hr7 hgr hr8 m3' m4' hb08
    go_wp2_with fail
    refine HR.out.mono ?_
    rintro e w9 ⟨t2, _, hb9⟩
    have t2 := t2 Fr.out
    rw [Hqr.out.2] at t2
    subst t2
    have hs9 : w.heap.size + 1 + 1 + 1 + 1 ≤ ((w7.setCell ⟨w.heap.size + 1 + 1, 0, none⟩ (.bool sq)).setCell ⟨w.heap.size + 1 + 1, 1, none⟩ (.string bq)).heap.size := by rw [World.size_setCell, World.size_setCell]; exact Hm8.out.2.2.2
    have n3 := Hm8.out.1.below hb9 (by omega)
    have n4 := Hm8.out.2.1.below hb9 (by omega)
    have hb09 := Hm8.out.2.2.1.trans (hb9.mono (by omega))
    have y0 : w9.cell? ⟨w.heap.size + 1 + 1, 0, none⟩ = some (.bool sq) := n3.cell 0
    have y1 : w9.cell? ⟨w.heap.size + 1 + 1, 1, none⟩ = some (.string bq) := n3.cell 1
    have y2 := n3.frozen 0
    have y3 := n3.frozen 1
    have z0 : w9.cell? ⟨w.heap.size + 1 + 1 + 1, 0, none⟩ = some (.bool false) := n4.cell 0
    have z1 : w9.cell? ⟨w.heap.size + 1 + 1 + 1, 1, none⟩ = some (.string ⟨#[]⟩) := n4.cell 1
    have z2 := n4.frozen 0
    have z3 := n4.frozen 1
    have Hn := Lib.hid (And.intro (far_pair (.bool sr) (.string br) n3 (show w.heap.size + 1 + 1 ≠ w.heap.size + 1 + 1 + 1 by omega)) (And.intro (put_pair (.bool sr) (.string br) n4) ((hb09.setCell (p := ⟨w.heap.size + 1 + 1 + 1, 0, none⟩) (by show w.heap.size ≤ w.heap.size + 1 + 1 + 1; omega) (.bool sr)).setCell (p := ⟨w.heap.size + 1 + 1 + 1, 1, none⟩) (by show w.heap.size ≤ w.heap.size + 1 + 1 + 1; omega) (.string br))))
    clear hb9 n3 n4 hb09 hs9
    go_wp2_with fail
    generalize hW9 : (w9.setCell ⟨w.heap.size + 1 + 1 + 1, 0, none⟩ (.bool sr)).setCell ⟨w.heap.size + 1 + 1 + 1, 1, none⟩ (.string br) = W9 at Hn ⊢
    clear hW9 y0 y1 y2 y3 z0 z1 z2 z3
    have d0 : W9.cell? ⟨w.heap.size + 1 + 1, 0, none⟩ = some (.bool sq) := Hn.out.1.cell 0
    have d1 : W9.cell? ⟨w.heap.size + 1 + 1, 1, none⟩ = some (.string bq) := Hn.out.1.cell 1
    have e0 : W9.cell? ⟨w.heap.size + 1 + 1 + 1, 0, none⟩ = some (.bool sr) := Hn.out.2.1.cell 0
    have e1 : W9.cell? ⟨w.heap.size + 1 + 1 + 1, 1, none⟩ = some (.string br) := Hn.out.2.1.cell 1
    have d2 := Hn.out.1.frozen 0
    have d3 := Hn.out.1.frozen 1
    have e2 := Hn.out.2.1.frozen 0
    have e3 := Hn.out.2.1.frozen 1
    refine wp_region_noPanic ?_
    refine wp_region_HK (fun w' => (w'.cell? ⟨w.heap.size + 1 + 1, 0, none⟩ = some (.bool sq) ∧ w'.cell? ⟨w.heap.size + 1 + 1, 1, none⟩ = some (.string bq)) ∧ w'.cell? ⟨w.heap.size + 1 + 1 + 1, 0, none⟩ = some (.bool sr) ∧ w'.cell? ⟨w.heap.size + 1 + 1 + 1, 1, none⟩ = some (.string br)) 3 (by kernel_rfl) ⟨⟨d0, d1⟩, e0, e1⟩ (fun hHeld => ?_)
    refine wpHK_take (i := 0) (oi := Oper.mk (some 51) _ _ _ _ _) (v := ?_) rfl (by kernel_rfl) (by kernel_rfl) (by kernel_rfl) (by kernel_rfl) (fun _ _ _ h => h) (Or.inl ⟨by rfl, ?_⟩) (by assumption) ?_
    rotate_left
    · (intro w' hSw; (try dsimp only at hSw); (obtain ⟨⟨s1, s2⟩, s3, s4⟩ := hSw); go_simp; try with_reducible rfl)
    try simp only [Act.put, List.setIfInBounds_toArray, List.set_cons_zero, List.set_cons_succ]
    refine wpHK_take (i := 1) (oi := Oper.mk (some 52) _ _ _ _ _) (v := ?_) rfl (by kernel_rfl) (by kernel_rfl) (by kernel_rfl) (by kernel_rfl) (fun _ _ _ h => h) (Or.inl ⟨by rfl, ?_⟩) (by assumption) ?_
    rotate_left
    · (intro w' hSw; (try dsimp only at hSw); (obtain ⟨⟨s1, s2⟩, s3, s4⟩ := hSw); go_simp; try with_reducible rfl)
    try simp only [Act.put, List.setIfInBounds_toArray, List.set_cons_zero, List.set_cons_succ]
    refine wpHK_one (j := 2) (o := Oper.mk (none) _ _ _ _ _) rfl (by kernel_rfl) (fun K hK => ?_)
    go_simp
    refine hK.out _ _ (And.intro (same_pair Hn.out.1.drew).two (far_pair (.bool sq) (.string bq) Hn.out.2.1.drew (show w.heap.size + 1 + 1 + 1 ≠ w.heap.size + 1 + 1 by omega)).two) (fun _ => ?_)
    clear hK K hHeld
    have hHeld := (And.intro (same_pair Hn.out.1.drew).two (far_pair (.bool sq) (.string bq) Hn.out.2.1.drew (show w.heap.size + 1 + 1 + 1 ≠ w.heap.size + 1 + 1 by omega)).two)
    try simp only [Act.put, List.setIfInBounds_toArray, List.set_cons_zero, List.set_cons_succ]
    refine wpHK_tail (j := 3) (o := Oper.mk (none) _ _ _ _ _) rfl (by kernel_rfl) (by decide) (fun K hK => ?_)
    go_simp
    refine hK.out _ _ ?_
    clear hK K
    try simp only [Act.put, List.setIfInBounds_toArray, List.set_cons_zero, List.set_cons_succ]
    refine wpHK_pure (i := 4) (oi := Oper.mk (some 6) _ _ _ _ _) (v := ?_) rfl (by kernel_rfl) (by kernel_rfl) (by kernel_rfl) (fun _ _ _ h => h) (Or.inl ⟨by rfl, ?_⟩) ?_
    rotate_left
    · (intro w' _; go_simp; try with_reducible rfl)
    try simp only [Act.put, List.setIfInBounds_toArray, List.set_cons_zero, List.set_cons_succ]
    refine wpHK_done (by kernel_rfl) ?_ _
    refine NoPanic.normal ?_
    go_wp2_with fail
    refine bodyPost_ret (v := .tuple #[.agg #[.bool sq, .string bq], .agg #[.bool sr, .string br], .int .i64 0]) (by simp [results, Try.results21, go_sem, d0, d1, e0, e1]) rfl ?_
    exact ⟨fun h => absurd Hm.out.1 h, fun _ h => absurd h Hm.out.2, fun _ _ => by rw [Hqr.out.1, Hqr.out.2], (((((Hn.out.2.2.drew).setCell (by show w.heap.size ≤ w.heap.size + 1 + 1; omega) _).setCell (by show w.heap.size ≤ w.heap.size + 1 + 1; omega) _).setCell (by show w.heap.size ≤ w.heap.size + 1 + 1 + 1; omega) _).setCell (by show w.heap.size ≤ w.heap.size + 1 + 1 + 1; omega) _)⟩
theorem wdiv_any {w : World} {na nb : Bool} {sa sb : ByteArray} :
    Calls Try.prog 21 #[.agg #[.bool na, .string sa], .agg #[.bool nb, .string sb]] w (Quots w (na, sa) (nb, sb)) := by
  by_cases hm : May2 (na, sa) (nb, sb)
  · by_cases h0 : num (nb, sb) = 0
    · exact wdiv_zero hm h0
    · exact wdiv_main hm h0
  · exact wdiv_bad hm
end Go.Proofs.Ytpnginnjbdedbaa

/- whole.Root (printed by gen_root.py). -/
namespace Go.Proofs.Ytpnginnjbdedbaa
open Go.RowKit
open Wh
set_option linter.unusedSimpArgs false

/-- root and rest -/
def Rooted (w : World) (a : Bool × ByteArray) (e : Ending) (w' : World) : Prop :=
  (¬ MayL a.1 a.2.data.toList → e = .returned (.tuple #[none_, none_, .int .i64 2])) ∧ (MayL a.1 a.2.data.toList → a.1 = true → e = .returned (.tuple #[none_, none_, .int .i64 7])) ∧
  (MayL a.1 a.2.data.toList → a.1 = false → ∃ r : Nat, r * r ≤ bval a.2.data.toList ∧ bval a.2.data.toList < (r + 1) * (r + 1) ∧ e = .returned (.tuple #[enc (r : Int), enc ((bval a.2.data.toList : Int) - (r : Int) * (r : Int)), .int .i64 0])) ∧ Below w.heap.size w w'
theorem root_le {r m : Nat} (h : r * r ≤ m) : r ≤ m := by
  rcases Nat.eq_zero_or_pos r with h0 | h0
  · omega
  · exact Nat.le_trans (Nat.le_mul_of_pos_left r h0) h
theorem rest_abs {r m : Nat} (h : r * r ≤ m) : ((m : Int) - (r : Int) * (r : Int)).natAbs ≤ m := by
  rw [show (r : Int) * (r : Int) = ((r * r : Nat) : Int) from (Int.natCast_mul r r).symm]
  generalize r * r = q at *
  omega
/-- where the square lies ready to be taken off -/
def Rdy (W V : World) (t u gx : Nat) (x q : Int) : Prop := IntS V t ∧ IntB V u q ∧ IntB V gx x ∧ Below W.heap.size W V ∧ W.heap.size ≤ t
theorem zslot (V : World) : IntS (V.alloc (.cells #[.bool false, .slice none 0 0] 82)) V.heap.size := (IntB.zero V).slot
/-- the square, both places made ahead: into u -/
theorem mul_rdy {W V : World} {t u gr gx : Nat} {r x : Int} (hV : Below W.heap.size W V) (ht : IntS V t) (hu : IntS V u) (htu : t ≠ u) (htl : W.heap.size ≤ t) (hul : W.heap.size ≤ u) (hr : IntB W gr r) (hx : IntB W gx x) (hl : (wds r.natAbs).length ≤ 5000) :
    Calls Try.prog 82 #[.pointer (some ⟨u, 0, none⟩), .pointer (some ⟨gr, 0, none⟩), .pointer (some ⟨gr, 0, none⟩)] V (fun e w' => e = .returned (.pointer (some ⟨u, 0, none⟩)) ∧ Rdy W w' t u gx x (r * r)) := by
  refine (mul_any hu (hr.below hV) (hr.below hV) (by omega) (by omega)).mono ?_
  rintro e w' ⟨he, hi, hg⟩
  have h1 := hx.lt
  exact ⟨he, ht.off hg htu, hi, (hx.below hV).off hu hg (by omega), up_row hV hg hV.size hul, htl⟩
/-- the square, its own place alone made ahead -/
theorem mul_then {W V : World} {u gr gx : Nat} {r x : Int} (hV : Below W.heap.size W V) (hu : IntS V u) (hul : W.heap.size ≤ u) (hr : IntB W gr r) (hx : IntB W gx x) (hl : (wds r.natAbs).length ≤ 5000) :
    Calls Try.prog 82 #[.pointer (some ⟨u, 0, none⟩), .pointer (some ⟨gr, 0, none⟩), .pointer (some ⟨gr, 0, none⟩)] V (fun e w' => e = .returned (.pointer (some ⟨u, 0, none⟩)) ∧ Below W.heap.size W w' ∧ Rdy W (w'.alloc (.cells #[.bool false, .slice none 0 0] 82)) w'.heap.size u gx x (r * r)) := by
  refine (mul_any hu (hr.below hV) (hr.below hV) (by omega) (by omega)).mono ?_
  rintro e w' ⟨he, hi, hg⟩
  have h1 := hx.lt
  have hb := up_row hV hg hV.size hul
  have hn := new_below w' (.cells #[.bool false, .slice none 0 0] 82)
  exact ⟨he, hb, zslot w', hi.below hn, ((hx.below hV).off hu hg (by omega)).below hn, hb.trans (hn.mono hb.size), hb.size⟩
theorem sub_rdy {W V : World} {t u gx : Nat} {x q : Int} (h : Rdy W V t u gx x q) (h1 : (wds x.natAbs).length ≤ 5000) (h2 : (wds q.natAbs).length ≤ 5000) :
    Calls Try.prog 81 #[.pointer (some ⟨t, 0, none⟩), .pointer (some ⟨gx, 0, none⟩), .pointer (some ⟨u, 0, none⟩)] V (fun e w' => e = .returned (.pointer (some ⟨t, 0, none⟩)) ∧ IntB w' t (x - q) ∧ Below W.heap.size W w') := by
  obtain ⟨a1, a2, a3, a4, a5⟩ := h
  refine (sub2_any a1 a3 a2 (by omega) (by omega)).mono ?_
  rintro e w' ⟨he, hi, hg⟩
  exact ⟨he, hi, up_row a4 hg a4.size a5⟩
set_option maxRecDepth 100000 in
set_option maxHeartbeats 4000000 in
theorem wroot_bad {w : World} {na : Bool} {sa : ByteArray} (hm : ¬ MayL na sa.data.toList) :
    Calls Try.prog 53 #[.agg #[.bool na, .string sa]] w (Rooted w (na, sa)) := by
  have hb1 := new_below w (.cells #[.bool na, .string sa] 26)
  have hb2 := hb1.alloc (by simp) (.cells #[.bool false, .string ⟨#[]⟩] 26)
  have hb3 := hb2.alloc (by simp <;> omega) (.cells #[.bool false, .string ⟨#[]⟩] 26)
  have k1 := ((Blk.new w 26 #[.bool na, .string sa]).alloc (.cells #[.bool false, .string ⟨#[]⟩] 26)).alloc (.cells #[.bool false, .string ⟨#[]⟩] 26)
  have k2 := (Blk.new (w.alloc (.cells #[.bool na, .string sa] 26)) 26 #[.bool false, .string ⟨#[]⟩]).alloc (.cells #[.bool false, .string ⟨#[]⟩] 26)
  have k3 := Blk.new ((w.alloc (.cells #[.bool na, .string sa] 26)).alloc (.cells #[.bool false, .string ⟨#[]⟩] 26)) 26 #[.bool false, .string ⟨#[]⟩]
  have hO := of_one (w := ((w.alloc (.cells #[.bool na, .string sa] 26)).alloc (.cells #[.bool false, .string ⟨#[]⟩] 26)).alloc (.cells #[.bool false, .string ⟨#[]⟩] 26)) (na := na) (sa := sa)
  rw [World.size_alloc, World.size_alloc, World.size_alloc] at hO
  rw [World.size_alloc] at k2
  rw [World.size_alloc, World.size_alloc] at k3
  have HO := Lib.hid hO
  have Hb := Lib.hid (And.intro hb3 (And.intro k1 (And.intro k2 k3)))
  have Hm := Lib.hid hm
  clear hm
  clear hO hb1 hb2 hb3 k1 k2 k3
  go_enter Try.func53, Try.ntmps53
  go_wp2_with fail
  refine HO.out.mono ?_
  rintro e w5 ⟨h1, h2, hb5⟩
  have hb05 := Hb.out.1.trans (hb5.mono (by simp <;> omega))
  have m1 := Hb.out.2.1.below hb5 (by simp <;> omega)
  have m2 := Hb.out.2.2.1.below hb5 (by simp <;> omega)
  have m3 := Hb.out.2.2.2.below hb5 (by simp <;> omega)
  have c0 : w5.cell? ⟨w.heap.size, 0, none⟩ = some (.bool na) := m1.cell 0
  have d0 : w5.cell? ⟨w.heap.size + 1, 0, none⟩ = some (.bool false) := m2.cell 0
  have d1 : w5.cell? ⟨w.heap.size + 1, 1, none⟩ = some (.string ⟨#[]⟩) := m2.cell 1
  have e0 : w5.cell? ⟨w.heap.size + 1 + 1, 0, none⟩ = some (.bool false) := m3.cell 0
  have e1 : w5.cell? ⟨w.heap.size + 1 + 1, 1, none⟩ = some (.string ⟨#[]⟩) := m3.cell 1
  have d2 := m2.frozen 0
  have d3 := m2.frozen 1
  have e2 := m3.frozen 0
  have e3 := m3.frozen 1
  have H5 := Lib.hid (And.intro hb05 (And.intro m2 m3))
  have Hsz := Lib.hid (show w.heap.size + 1 + 1 + 1 ≤ w5.heap.size by have := hb5.size; simp at this; omega)
  clear hb5 hb05 m1 m2 m3
  obtain ⟨A5, n5, c5, rfl⟩ := h2 Hm.out
  clear h1 h2
  go_wp2_with fail
  refine wp_region_noPanic ?_
  refine wp_region_HK (fun w' => (w'.cell? ⟨w.heap.size + 1, 0, none⟩ = some (.bool false) ∧ w'.cell? ⟨w.heap.size + 1, 1, none⟩ = some (.string ⟨#[]⟩)) ∧ w'.cell? ⟨w.heap.size + 1 + 1, 0, none⟩ = some (.bool false) ∧ w'.cell? ⟨w.heap.size + 1 + 1, 1, none⟩ = some (.string ⟨#[]⟩)) 3 (by kernel_rfl) ⟨⟨d0, d1⟩, e0, e1⟩ (fun hHeld => ?_)
  refine wpHK_take (i := 0) (oi := Oper.mk (some 17) _ _ _ _ _) (v := ?_) rfl (by kernel_rfl) (by kernel_rfl) (by kernel_rfl) (by kernel_rfl) (fun _ _ _ h => h) (Or.inl ⟨by rfl, ?_⟩) (by assumption) ?_
  rotate_left
  · (intro w' hSw; (try dsimp only at hSw); (obtain ⟨⟨s1, s2⟩, s3, s4⟩ := hSw); go_simp; try with_reducible rfl)
  try simp only [Act.put, List.setIfInBounds_toArray, List.set_cons_zero, List.set_cons_succ]
  refine wpHK_take (i := 1) (oi := Oper.mk (some 18) _ _ _ _ _) (v := ?_) rfl (by kernel_rfl) (by kernel_rfl) (by kernel_rfl) (by kernel_rfl) (fun _ _ _ h => h) (Or.inl ⟨by rfl, ?_⟩) (by assumption) ?_
  rotate_left
  · (intro w' hSw; (try dsimp only at hSw); (obtain ⟨⟨s1, s2⟩, s3, s4⟩ := hSw); go_simp; try with_reducible rfl)
  try simp only [Act.put, List.setIfInBounds_toArray, List.set_cons_zero, List.set_cons_succ]
  refine wpHK_one (j := 2) (o := Oper.mk (none) _ _ _ _ _) rfl (by kernel_rfl) (fun K hK => ?_)
  go_simp
  refine hK.out _ _ (And.intro (same_pair H5.out.2.1).two (far_pair (.bool false) (.string ⟨#[]⟩) H5.out.2.2 (show w.heap.size + 1 + 1 ≠ w.heap.size + 1 by omega)).two) (fun _ => ?_)
  clear hK K hHeld
  have hHeld := (And.intro (same_pair H5.out.2.1).two (far_pair (.bool false) (.string ⟨#[]⟩) H5.out.2.2 (show w.heap.size + 1 + 1 ≠ w.heap.size + 1 by omega)).two)
  try simp only [Act.put, List.setIfInBounds_toArray, List.set_cons_zero, List.set_cons_succ]
  refine wpHK_tail (j := 3) (o := Oper.mk (none) _ _ _ _ _) rfl (by kernel_rfl) (by decide) (fun K hK => ?_)
  go_simp
  refine hK.out _ _ ?_
  clear hK K
  try simp only [Act.put, List.setIfInBounds_toArray, List.set_cons_zero, List.set_cons_succ]
  refine wpHK_pure (i := 4) (oi := Oper.mk (some 4) _ _ _ _ _) (v := ?_) rfl (by kernel_rfl) (by kernel_rfl) (by kernel_rfl) (fun _ _ _ h => h) (Or.inl ⟨by rfl, ?_⟩) ?_
  rotate_left
  · (intro w' _; go_simp; try with_reducible rfl)
  try simp only [Act.put, List.setIfInBounds_toArray, List.set_cons_zero, List.set_cons_succ]
  refine wpHK_done (by kernel_rfl) ?_ _
  refine NoPanic.normal ?_
  go_wp2_with fail
  refine bodyPost_ret (v := .tuple #[.agg #[.bool false, .string ⟨#[]⟩], .agg #[.bool false, .string ⟨#[]⟩], .int .i64 2]) (by simp [results, Try.results53, go_sem, d0, d1, e0, e1]) rfl ?_
  exact ⟨fun _ => rfl, fun h => absurd h Hm.out, fun h => absurd h Hm.out, (((((H5.out.1.drew).setCell (by show w.heap.size ≤ w.heap.size + 1; omega) _).setCell (by show w.heap.size ≤ w.heap.size + 1; omega) _).setCell (by show w.heap.size ≤ w.heap.size + 1 + 1; omega) _).setCell (by show w.heap.size ≤ w.heap.size + 1 + 1; omega) _)⟩
set_option maxRecDepth 100000 in
set_option maxHeartbeats 4000000 in
theorem wroot_neg {w : World} {na : Bool} {sa : ByteArray} (hm : MayL na sa.data.toList) (hn : na = true) :
    Calls Try.prog 53 #[.agg #[.bool na, .string sa]] w (Rooted w (na, sa)) := by
  have hb1 := new_below w (.cells #[.bool na, .string sa] 26)
  have hb2 := hb1.alloc (by simp) (.cells #[.bool false, .string ⟨#[]⟩] 26)
  have hb3 := hb2.alloc (by simp <;> omega) (.cells #[.bool false, .string ⟨#[]⟩] 26)
  have k1 := ((Blk.new w 26 #[.bool na, .string sa]).alloc (.cells #[.bool false, .string ⟨#[]⟩] 26)).alloc (.cells #[.bool false, .string ⟨#[]⟩] 26)
  have k2 := (Blk.new (w.alloc (.cells #[.bool na, .string sa] 26)) 26 #[.bool false, .string ⟨#[]⟩]).alloc (.cells #[.bool false, .string ⟨#[]⟩] 26)
  have k3 := Blk.new ((w.alloc (.cells #[.bool na, .string sa] 26)).alloc (.cells #[.bool false, .string ⟨#[]⟩] 26)) 26 #[.bool false, .string ⟨#[]⟩]
  have hO := of_one (w := ((w.alloc (.cells #[.bool na, .string sa] 26)).alloc (.cells #[.bool false, .string ⟨#[]⟩] 26)).alloc (.cells #[.bool false, .string ⟨#[]⟩] 26)) (na := na) (sa := sa)
  rw [World.size_alloc, World.size_alloc, World.size_alloc] at hO
  rw [World.size_alloc] at k2
  rw [World.size_alloc, World.size_alloc] at k3
  have HO := Lib.hid hO
  have Hb := Lib.hid (And.intro hb3 (And.intro k1 (And.intro k2 k3)))
  have Hm := Lib.hid hm
  subst hn
  clear hm
  clear hO hb1 hb2 hb3 k1 k2 k3
  go_enter Try.func53, Try.ntmps53
  go_wp2_with fail
  refine HO.out.mono ?_
  rintro e w5 ⟨h1, h2, hb5⟩
  have hb05 := Hb.out.1.trans (hb5.mono (by simp <;> omega))
  have m1 := Hb.out.2.1.below hb5 (by simp <;> omega)
  have m2 := Hb.out.2.2.1.below hb5 (by simp <;> omega)
  have m3 := Hb.out.2.2.2.below hb5 (by simp <;> omega)
  have c0 : w5.cell? ⟨w.heap.size, 0, none⟩ = some (.bool true) := m1.cell 0
  have d0 : w5.cell? ⟨w.heap.size + 1, 0, none⟩ = some (.bool false) := m2.cell 0
  have d1 : w5.cell? ⟨w.heap.size + 1, 1, none⟩ = some (.string ⟨#[]⟩) := m2.cell 1
  have e0 : w5.cell? ⟨w.heap.size + 1 + 1, 0, none⟩ = some (.bool false) := m3.cell 0
  have e1 : w5.cell? ⟨w.heap.size + 1 + 1, 1, none⟩ = some (.string ⟨#[]⟩) := m3.cell 1
  have d2 := m2.frozen 0
  have d3 := m2.frozen 1
  have e2 := m3.frozen 0
  have e3 := m3.frozen 1
  have H5 := Lib.hid (And.intro hb05 (And.intro m2 m3))
  have Hsz := Lib.hid (show w.heap.size + 1 + 1 + 1 ≤ w5.heap.size by have := hb5.size; simp at this; omega)
  clear hb5 hb05 m1 m2 m3
  obtain ⟨ad, c, g1, rfl, hadb, p0, hx, hg1⟩ := h1 Hm.out
  clear h1 h2 hx hg1
  go_wp2_with fail
  refine wp_region_noPanic ?_
  refine wp_region_HK (fun w' => (w'.cell? ⟨w.heap.size + 1, 0, none⟩ = some (.bool false) ∧ w'.cell? ⟨w.heap.size + 1, 1, none⟩ = some (.string ⟨#[]⟩)) ∧ w'.cell? ⟨w.heap.size + 1 + 1, 0, none⟩ = some (.bool false) ∧ w'.cell? ⟨w.heap.size + 1 + 1, 1, none⟩ = some (.string ⟨#[]⟩)) 3 (by kernel_rfl) ⟨⟨d0, d1⟩, e0, e1⟩ (fun hHeld => ?_)
  refine wpHK_take (i := 0) (oi := Oper.mk (some 22) _ _ _ _ _) (v := ?_) rfl (by kernel_rfl) (by kernel_rfl) (by kernel_rfl) (by kernel_rfl) (fun _ _ _ h => h) (Or.inl ⟨by rfl, ?_⟩) (by assumption) ?_
  rotate_left
  · (intro w' hSw; (try dsimp only at hSw); (obtain ⟨⟨s1, s2⟩, s3, s4⟩ := hSw); go_simp; try with_reducible rfl)
  try simp only [Act.put, List.setIfInBounds_toArray, List.set_cons_zero, List.set_cons_succ]
  refine wpHK_take (i := 1) (oi := Oper.mk (some 23) _ _ _ _ _) (v := ?_) rfl (by kernel_rfl) (by kernel_rfl) (by kernel_rfl) (by kernel_rfl) (fun _ _ _ h => h) (Or.inl ⟨by rfl, ?_⟩) (by assumption) ?_
  rotate_left
  · (intro w' hSw; (try dsimp only at hSw); (obtain ⟨⟨s1, s2⟩, s3, s4⟩ := hSw); go_simp; try with_reducible rfl)
  try simp only [Act.put, List.setIfInBounds_toArray, List.set_cons_zero, List.set_cons_succ]
  refine wpHK_one (j := 2) (o := Oper.mk (none) _ _ _ _ _) rfl (by kernel_rfl) (fun K hK => ?_)
  go_simp
  refine hK.out _ _ (And.intro (same_pair H5.out.2.1).two (far_pair (.bool false) (.string ⟨#[]⟩) H5.out.2.2 (show w.heap.size + 1 + 1 ≠ w.heap.size + 1 by omega)).two) (fun _ => ?_)
  clear hK K hHeld
  have hHeld := (And.intro (same_pair H5.out.2.1).two (far_pair (.bool false) (.string ⟨#[]⟩) H5.out.2.2 (show w.heap.size + 1 + 1 ≠ w.heap.size + 1 by omega)).two)
  try simp only [Act.put, List.setIfInBounds_toArray, List.set_cons_zero, List.set_cons_succ]
  refine wpHK_tail (j := 3) (o := Oper.mk (none) _ _ _ _ _) rfl (by kernel_rfl) (by decide) (fun K hK => ?_)
  go_simp
  refine hK.out _ _ ?_
  clear hK K
  try simp only [Act.put, List.setIfInBounds_toArray, List.set_cons_zero, List.set_cons_succ]
  refine wpHK_pure (i := 4) (oi := Oper.mk (some 4) _ _ _ _ _) (v := ?_) rfl (by kernel_rfl) (by kernel_rfl) (by kernel_rfl) (fun _ _ _ h => h) (Or.inl ⟨by rfl, ?_⟩) ?_
  rotate_left
  · (intro w' _; go_simp; try with_reducible rfl)
  try simp only [Act.put, List.setIfInBounds_toArray, List.set_cons_zero, List.set_cons_succ]
  refine wpHK_done (by kernel_rfl) ?_ _
  refine NoPanic.normal ?_
  go_wp2_with fail
  refine bodyPost_ret (v := .tuple #[.agg #[.bool false, .string ⟨#[]⟩], .agg #[.bool false, .string ⟨#[]⟩], .int .i64 7]) (by simp [results, Try.results53, go_sem, d0, d1, e0, e1]) rfl ?_
  exact ⟨fun h => absurd Hm.out h, fun _ _ => rfl, fun _ h => absurd (show true = false from h) (by decide), (((((H5.out.1.drew).setCell (by show w.heap.size ≤ w.heap.size + 1; omega) _).setCell (by show w.heap.size ≤ w.heap.size + 1; omega) _).setCell (by show w.heap.size ≤ w.heap.size + 1 + 1; omega) _).setCell (by show w.heap.size ≤ w.heap.size + 1 + 1; omega) _)⟩
set_option maxRecDepth 100000 in
set_option maxHeartbeats 4000000 in
theorem wroot_main {w : World} {na : Bool} {sa : ByteArray} (hm : MayL na sa.data.toList) (hn : na = false) :
    Calls Try.prog 53 #[.agg #[.bool na, .string sa]] w (Rooted w (na, sa)) := by
  have hb1 := new_below w (.cells #[.bool na, .string sa] 26)
  have hb2 := hb1.alloc (by simp) (.cells #[.bool false, .string ⟨#[]⟩] 26)
  have hb3 := hb2.alloc (by simp <;> omega) (.cells #[.bool false, .string ⟨#[]⟩] 26)
  have k1 := ((Blk.new w 26 #[.bool na, .string sa]).alloc (.cells #[.bool false, .string ⟨#[]⟩] 26)).alloc (.cells #[.bool false, .string ⟨#[]⟩] 26)
  have k2 := (Blk.new (w.alloc (.cells #[.bool na, .string sa] 26)) 26 #[.bool false, .string ⟨#[]⟩]).alloc (.cells #[.bool false, .string ⟨#[]⟩] 26)
  have k3 := Blk.new ((w.alloc (.cells #[.bool na, .string sa] 26)).alloc (.cells #[.bool false, .string ⟨#[]⟩] 26)) 26 #[.bool false, .string ⟨#[]⟩]
  have hO := of_one (w := ((w.alloc (.cells #[.bool na, .string sa] 26)).alloc (.cells #[.bool false, .string ⟨#[]⟩] 26)).alloc (.cells #[.bool false, .string ⟨#[]⟩] 26)) (na := na) (sa := sa)
  rw [World.size_alloc, World.size_alloc, World.size_alloc] at hO
  rw [World.size_alloc] at k2
  rw [World.size_alloc, World.size_alloc] at k3
  have HO := Lib.hid hO
  have Hb := Lib.hid (And.intro hb3 (And.intro k1 (And.intro k2 k3)))
  have Hm := Lib.hid hm
  subst hn
  clear hm
  clear hO hb1 hb2 hb3 k1 k2 k3
  go_enter Try.func53, Try.ntmps53
  go_wp2_with fail
  refine HO.out.mono ?_
  rintro e w5 ⟨h1, h2, hb5⟩
  have hb05 := Hb.out.1.trans (hb5.mono (by simp <;> omega))
  have m1 := Hb.out.2.1.below hb5 (by simp <;> omega)
  have m2 := Hb.out.2.2.1.below hb5 (by simp <;> omega)
  have m3 := Hb.out.2.2.2.below hb5 (by simp <;> omega)
  have c0 : w5.cell? ⟨w.heap.size, 0, none⟩ = some (.bool false) := m1.cell 0
  have d0 : w5.cell? ⟨w.heap.size + 1, 0, none⟩ = some (.bool false) := m2.cell 0
  have d1 : w5.cell? ⟨w.heap.size + 1, 1, none⟩ = some (.string ⟨#[]⟩) := m2.cell 1
  have e0 : w5.cell? ⟨w.heap.size + 1 + 1, 0, none⟩ = some (.bool false) := m3.cell 0
  have e1 : w5.cell? ⟨w.heap.size + 1 + 1, 1, none⟩ = some (.string ⟨#[]⟩) := m3.cell 1
  have d2 := m2.frozen 0
  have d3 := m2.frozen 1
  have e2 := m3.frozen 0
  have e3 := m3.frozen 1
  have H5 := Lib.hid (And.intro hb05 (And.intro m2 m3))
  have Hsz := Lib.hid (show w.heap.size + 1 + 1 + 1 ≤ w5.heap.size by have := hb5.size; simp at this; omega)
  clear hb5 hb05 m1 m2 m3
  obtain ⟨ad, c, g1, rfl, hadb, p0, hx, hg1⟩ := h1 Hm.out
  clear h1 h2
  obtain ⟨m, hmm⟩ : ∃ m : Nat, m = bval sa.data.toList := ⟨_, rfl⟩
  have hnum : num (false, sa) = (m : Int) := by rw [hmm]; rfl
  rw [hnum] at hx
  have hlen : (wds m).length ≤ 5000 := by rw [hmm]; exact len_mag Hm.out.1
  have hfit : bl m ≤ 131072 := by rw [hmm]; exact fits_len (by have := Hm.out.1; omega)
  have hba : Below w5.heap.size w5 (w5.alloc (.cells #[.bool false, .slice none 0 0] 82)) := (Below.refl _ _).alloc (Nat.le_refl _) _
  have HC := Lib.hid (sqrt_any (g := w5.heap.size) (IntB.zero w5).slot (hx.below hba) (by omega))
  have Hx := Lib.hid (And.intro hx (And.intro hmm (And.intro hlen hfit)))
  have Hba := Lib.hid hba
  clear hx hg1 hmm hlen hfit hba hnum
  go_wp2_with fail
  refine HC.out.mono ?_
  rintro e w6 ⟨r, hr1, hr2, rfl, hi6, hg6⟩
  have hb6 := up_row Hba.out hg6 Hba.out.size (Nat.le_refl _)
  have fr := bl_mono (root_le hr1) Hx.out.2.2.2
  have HT := Lib.hid (told_any hi6 (Nat.le_trans (len_fits (z := (r : Int)) (by unfold fits; rw [Int.natAbs_natCast]; exact fr)) (by omega)))
  have Fr := Lib.hid (show fits (r : Int) by unfold fits; rw [Int.natAbs_natCast]; exact fr)
  have Fs := Lib.hid (show fits ((m : Int) - (r : Int) * (r : Int)) from bl_mono (rest_abs hr1) Hx.out.2.2.2)
  have Hr := Lib.hid (And.intro hr1 hr2)
  obtain ⟨sq, bq, hqe⟩ : ∃ (sq : Bool) (bq : ByteArray), enc (r : Int) = .agg #[.bool sq, .string bq] := ⟨_, _, rfl⟩
  obtain ⟨sr, br, hre⟩ : ∃ (sr : Bool) (br : ByteArray), enc ((m : Int) - (r : Int) * (r : Int)) = .agg #[.bool sr, .string br] := ⟨_, _, rfl⟩
  have Hqr := Lib.hid (And.intro hqe hre)
  have Hi6 := Lib.hid (And.intro hi6 (And.intro hb6 (hb6.cell hadb)))
  clear hr1 hr2 fr hqe hre hi6 hg6 hb6
  go_wp2_with fail
  refine HT.out.mono ?_
  rintro e w7 ⟨t1, _, hb7⟩
  have t1 := t1 Fr.out
  rw [Hqr.out.1] at t1
  subst t1
  have hs6 := Hi6.out.2.1.size
  have hb57 := Hi6.out.2.1.trans (hb7.mono hs6)
  have m2 := H5.out.2.1.below hb57 (by have := Hsz.out; omega)
  have m3 := H5.out.2.2.below hb57 (by have := Hsz.out; omega)
  have x0 : w7.cell? ⟨w.heap.size + 1, 0, none⟩ = some (.bool false) := m2.cell 0
  have x1 : w7.cell? ⟨w.heap.size + 1, 1, none⟩ = some (.string ⟨#[]⟩) := m2.cell 1
  have x2 := m2.frozen 0
  have x3 := m2.frozen 1
  have hgr := only_setCell (p := ⟨w.heap.size + 1, 1, none⟩) (only_setCell (p := ⟨w.heap.size + 1, 0, none⟩) (World.grownBy.refl w7 (some (w.heap.size + 1))) (.inl rfl) (.bool sq)) (.inl rfl) (.string bq)
  have hother : ∀ r' : Nat, some r' = some (w.heap.size + 1) → ∃ cs t fz, w7.heap[r']? = some (.cells cs t fz) ∧ t ≠ 98 ∧ t ≠ 82 := fun r' hr => by injection hr with hr; subst hr; exact ⟨_, _, _, m2, by decide, by decide⟩
  have hr8 := (Hi6.out.1.below hb7).other hgr (fun r' hr => hother r' hr.symm)
  have hx8 := (Hx.out.1.below hb57).other hgr (fun r' hr => hother r' hr.symm)
  have hx82 : IntB ((w7.setCell ⟨w.heap.size + 1, 0, none⟩ (.bool sq)).setCell ⟨w.heap.size + 1, 1, none⟩ (.string bq)) g1 (m : Int) := hx8
  have p7 : w7.cell? ad = some (.pointer (some ⟨g1, 0, none⟩)) := (hb57.cell hadb).trans p0
  have hne1 : ad.block ≠ w.heap.size + 1 := fun h => by
    have hs := World.cell?_spot p7
    have h2 : ad = ⟨w.heap.size + 1, ad.off, none⟩ := by cases ad; simp_all
    rw [h2, m2.cell] at p7
    match ad.off, p7 with
    | 0, p => exact absurd p (by simp)
    | 1, p => exact absurd p (by simp)
    | _ + 2, p => exact absurd p (by simp)
  have p8 := hgr.cell p7 (by intro h; injection h with h; exact hne1 h)
  have m2' := put_pair (.bool sq) (.string bq) m2
  have m3' := far_pair (.bool sq) (.string bq) m3 (show w.heap.size + 1 + 1 ≠ w.heap.size + 1 by omega)
  have hb08 := ((H5.out.1.trans (hb57.mono (by have := Hsz.out; omega))).setCell (p := ⟨w.heap.size + 1, 0, none⟩) (by show w.heap.size ≤ w.heap.size + 1; omega) (.bool sq)).setCell (p := ⟨w.heap.size + 1, 1, none⟩) (by show w.heap.size ≤ w.heap.size + 1; omega) (.string bq)
  have hs8 : w.heap.size + 1 + 1 + 1 ≤ ((w7.setCell ⟨w.heap.size + 1, 0, none⟩ (.bool sq)).setCell ⟨w.heap.size + 1, 1, none⟩ (.string bq)).heap.size := by rw [World.size_setCell, World.size_setCell]; have := Hsz.out; have := hb57.size; omega
  have had8 : ad.block < ((w7.setCell ⟨w.heap.size + 1, 0, none⟩ (.bool sq)).setCell ⟨w.heap.size + 1, 1, none⟩ (.string bq)).heap.size := by rw [World.size_setCell, World.size_setCell]; have := hb57.size; omega
  have H8 := Lib.hid (And.intro hr8 (And.intro hx8 (And.intro p8 (And.intro m2' (And.intro m3' (And.intro hb08 (And.intro hs8 had8)))))))
  clear hs6 hb57 hb7 m2 m3 hgr hother hr8 hx8 hx82 p7 hne1 p8 m2' m3' hb08 hs8 had8
  go_wp2_with fail
  generalize ((w7.setCell ⟨w.heap.size + 1, 0, none⟩ (.bool sq)).setCell ⟨w.heap.size + 1, 1, none⟩ (.string bq)) = W at H8 ⊢
  clear x0 x1 x2 x3 Hba Hi6
  have p8 := H8.out.2.2.1
  have hcell : ∀ w' : World, Below W.heap.size W w' → w'.cell? ad = some (.pointer (some ⟨g1, 0, none⟩)) := fun w' hb => (hb.cell H8.out.2.2.2.2.2.2.2).trans p8
  have hba1 : Below W.heap.size W (W.drew.alloc (.cells #[.bool false, .slice none 0 0] 82)) := (Below.refl _ _).drew.alloc (Nat.le_refl _) _
  have hba2 := hba1.alloc (by simp) (.cells #[.bool false, .slice none 0 0] 82)
  have hz1 := zslot W.drew
  have hz2 : IntS ((W.drew.alloc (.cells #[.bool false, .slice none 0 0] 82)).alloc (.cells #[.bool false, .slice none 0 0] 82)) (W.heap.size + 1) := by
    have := zslot (W.drew.alloc (.cells #[.bool false, .slice none 0 0] 82))
    rw [World.size_alloc] at this
    exact this
  have hz3 := hz1.below (new_below (W.drew.alloc (.cells #[.bool false, .slice none 0 0] 82)) (.cells #[.bool false, .slice none 0 0] 82))
  have hl1 : (wds (r : Int).natAbs).length ≤ 5000 := len_fits Fr.out
  have M1 := Lib.hid (mul_rdy hba2 hz3 hz2 (show W.heap.size ≠ W.heap.size + 1 by omega) (Nat.le_refl _) (Nat.le_succ _) H8.out.1 H8.out.2.1 hl1)
  have M2 := Lib.hid (mul_rdy hba2 hz2 hz3 (show W.heap.size + 1 ≠ W.heap.size by omega) (Nat.le_succ _) (Nat.le_refl _) H8.out.1 H8.out.2.1 hl1)
  have M3 := Lib.hid (mul_then hba1 hz1 (Nat.le_refl _) H8.out.1 H8.out.2.1 hl1)
  have hx1 : (wds (m : Int).natAbs).length ≤ 5000 := by rw [Int.natAbs_natCast]; exact Hx.out.2.2.1
  have hq1 : (wds ((r : Int) * (r : Int)).natAbs).length ≤ 5000 := by
    rw [show (r : Int) * (r : Int) = ((r * r : Nat) : Int) from (Int.natCast_mul r r).symm, Int.natAbs_natCast]
    exact Nat.le_trans (len_mono Hr.out.1) Hx.out.2.2.1
  have hlf := Nat.le_trans (len_fits Fs.out) (show 5000 ≤ 100000000 by decide)
  have Hc := Lib.hid hcell
  have Hb1 := Lib.hid hba1
  have Hb2 := Lib.hid hba2
  have Hl := Lib.hid (And.intro hx1 (And.intro hq1 hlf))
  clear hcell hba1 hba2 hz1 hz2 hz3 hl1 hx1 hq1 hlf
  apply cut_goal2 (F := fun _ _ V => Below W.heap.size W V)
  · intro hcont
    refine wp_region_noPanic ?_
    refine wp_region_HK (fun w' => w'.cell? ad = some (.pointer (some ⟨g1, 0, none⟩))) 8 (by kernel_rfl) p8 (fun hHeld => ?_)
    refine wpHK_take (i := 1) (oi := Oper.mk (some 36) _ _ _ _ _) (v := ?_) rfl (by kernel_rfl) (by kernel_rfl) (by kernel_rfl) (by kernel_rfl) (fun _ _ _ h => h) (Or.inl ⟨by rfl, ?_⟩) (by assumption) ?_
    rotate_left
    · (intro w' hSw; (try dsimp only at hSw); (obtain s1 := hSw); go_simp; try with_reducible rfl)
    try simp only [Act.put, List.setIfInBounds_toArray, List.set_cons_zero, List.set_cons_succ]
    refine wpHK_take (i := 2) (oi := Oper.mk (some 37) _ _ _ _ _) (v := ?_) rfl (by kernel_rfl) (by kernel_rfl) (by kernel_rfl) (by kernel_rfl) (fun _ _ _ h => h) (Or.inl ⟨by rfl, ?_⟩) (by assumption) ?_
    rotate_left
    · (intro w' hSw; (try dsimp only at hSw); (obtain s1 := hSw); go_simp; try with_reducible rfl)
    try simp only [Act.put, List.setIfInBounds_toArray, List.set_cons_zero, List.set_cons_succ]
    refine wpHK_take (i := 3) (oi := Oper.mk (some 38) _ _ _ _ _) (v := ?_) rfl (by kernel_rfl) (by kernel_rfl) (by kernel_rfl) (by kernel_rfl) (fun _ _ _ h => h) (Or.inl ⟨by rfl, ?_⟩) (by assumption) ?_
    rotate_left
    · (intro w' hSw; (try dsimp only at hSw); (obtain s1 := hSw); go_simp; try with_reducible rfl)
    try simp only [Act.put, List.setIfInBounds_toArray, List.set_cons_zero, List.set_cons_succ]
    refine wpHK_take (i := 5) (oi := Oper.mk (some 40) _ _ _ _ _) (v := ?_) rfl (by kernel_rfl) (by kernel_rfl) (by kernel_rfl) (by kernel_rfl) (fun _ _ _ h => h) (Or.inl ⟨by rfl, ?_⟩) (by assumption) ?_
    rotate_left
    · (intro w' hSw; (try dsimp only at hSw); (obtain s1 := hSw); go_simp; try with_reducible rfl)
    try simp only [Act.put, List.setIfInBounds_toArray, List.set_cons_zero, List.set_cons_succ]
    refine wpHK_take (i := 6) (oi := Oper.mk (some 41) _ _ _ _ _) (v := ?_) rfl (by kernel_rfl) (by kernel_rfl) (by kernel_rfl) (by kernel_rfl) (fun _ _ _ h => h) (Or.inl ⟨by rfl, ?_⟩) (by assumption) ?_
    rotate_left
    · (intro w' hSw; (try dsimp only at hSw); (obtain s1 := hSw); go_simp; try with_reducible rfl)
    try simp only [Act.put, List.setIfInBounds_toArray, List.set_cons_zero, List.set_cons_succ]
    refine wpHK_two (i := 0) (j := 4) (oi := Oper.mk (some 35) _ _ _ _ _) (oj := Oper.mk (some 39) _ _ _ _ _) rfl rfl (by kernel_rfl) (fun K hK => ?_) (fun K hK => ?_)
    · go_simp
      refine hK.out _ _ (Hc.out _ Hb1.out) (fun _ => ?_)
      clear hK K hHeld
      have hHeld := (Hc.out _ Hb1.out)
      try simp only [Act.put, List.setIfInBounds_toArray, List.set_cons_zero, List.set_cons_succ]
      refine wpHK_one (j := 4) (o := Oper.mk (some 39) _ _ _ _ _) rfl (by kernel_rfl) (fun K hK => ?_)
      go_simp
      refine hK.out _ _ (Hc.out _ Hb2.out) (fun _ => ?_)
      clear hK K hHeld
      have hHeld := (Hc.out _ Hb2.out)
      try simp only [Act.put, List.setIfInBounds_toArray, List.set_cons_zero, List.set_cons_succ]
      refine wpHK_one (j := 7) (o := Oper.mk (some 42) _ _ _ _ _) rfl (by kernel_rfl) (fun K hK => ?_)
      go_simp
      refine M1.out.mono ?_
      rintro e V ⟨rfl, hrd⟩
      have hrd := Lib.hid hrd
      refine hK.out _ _ (Hc.out _ hrd.out.2.2.2.1) (fun _ => ?_)
      clear hK K hHeld
      have hHeld := (Hc.out _ hrd.out.2.2.2.1)
      try simp only [Act.put, List.setIfInBounds_toArray, List.set_cons_zero, List.set_cons_succ]
      refine wpHK_tail (j := 8) (o := Oper.mk (some 43) _ _ _ _ _) rfl (by kernel_rfl) (by decide) (fun K hK => ?_)
      go_simp
      have HS := Lib.hid (sub_rdy hrd.out Hl.out.1 Hl.out.2.1)
      refine HS.out.mono ?_
      rintro e V2 ⟨rfl, hi2, hb2⟩
      have HT2 := Lib.hid (told_any hi2 Hl.out.2.2)
      have hb2 := Lib.hid hb2
      clear hi2 HS
      refine hK.out _ _ ?_
      clear hK K
      try simp only [Act.put, List.setIfInBounds_toArray, List.set_cons_zero, List.set_cons_succ]
      refine wpHK_tail (j := 9) (o := Oper.mk (some 44) _ _ _ _ _) rfl (by kernel_rfl) (by decide) (fun K hK => ?_)
      go_simp
      refine HT2.out.mono ?_
      rintro e V3 ⟨t2, _, hb3⟩
      have t2 := t2 Fs.out
      rw [Hqr.out.2] at t2
      subst t2
      have hb3 := Lib.hid (hb2.out.trans (hb3.mono hb2.out.size))
      clear HT2 hb2
      refine hK.out _ _ ?_
      clear hK K
      try simp only [Act.put, List.setIfInBounds_toArray, List.set_cons_zero, List.set_cons_succ]
      refine wpHK_pure (i := 10) (oi := Oper.mk (some 34) _ _ _ _ _) (v := ?_) rfl (by kernel_rfl) (by kernel_rfl) (by kernel_rfl) (fun _ _ _ h => h) (Or.inl ⟨by rfl, ?_⟩) ?_
      rotate_left
      · (intro w' _; go_simp; try with_reducible rfl)
      try simp only [Act.put, List.setIfInBounds_toArray, List.set_cons_zero, List.set_cons_succ]
      refine wpHK_pure (i := 11) (oi := Oper.mk (some 45) _ _ _ _ _) (v := ?_) rfl (by kernel_rfl) (by kernel_rfl) (by kernel_rfl) (fun _ _ _ h => h) (Or.inl ⟨by rfl, ?_⟩) ?_
      rotate_left
      · (intro w' _; go_simp; try with_reducible rfl)
      try simp only [Act.put, List.setIfInBounds_toArray, List.set_cons_zero, List.set_cons_succ]
      refine wpHK_pure (i := 12) (oi := Oper.mk (some 46) _ _ _ _ _) (v := ?_) rfl (by kernel_rfl) (by kernel_rfl) (by kernel_rfl) (fun _ _ _ h => h) (Or.inl ⟨by rfl, ?_⟩) ?_
      rotate_left
      · (intro w' _; go_simp; try with_reducible rfl)
      try simp only [Act.put, List.setIfInBounds_toArray, List.set_cons_zero, List.set_cons_succ]
      refine wpHK_tail (j := 13) (o := Oper.mk (none) _ _ _ _ _) rfl (by kernel_rfl) (by decide) (fun K hK => ?_)
      have n3 := H8.out.2.2.2.2.1.below hb3.out H8.out.2.2.2.2.2.2.1
      have z0 : V3.cell? ⟨w.heap.size + 1 + 1, 0, none⟩ = some (.bool false) := n3.cell 0
      have z1 : V3.cell? ⟨w.heap.size + 1 + 1, 1, none⟩ = some (.string ⟨#[]⟩) := n3.cell 1
      have z2 := n3.frozen 0
      have z3 := n3.frozen 1
      clear n3
      go_simp
      refine hK.out _ _ ?_
      clear hK K
      try simp only [Act.put, List.setIfInBounds_toArray, List.set_cons_zero, List.set_cons_succ]
      refine wpHK_done (by kernel_rfl) ?_ _
      refine NoPanic.normal ?_
      have hb3 := hb3.out
      clear z0 z1 z2 z3
      generalize W.heap.size + 1 = t5
      generalize W.heap.size = s5
      exact hcont s5 t5 V3 hb3
    · go_simp
      refine hK.out _ _ (Hc.out _ Hb1.out) (fun _ => ?_)
      clear hK K hHeld
      have hHeld := (Hc.out _ Hb1.out)
      try simp only [Act.put, List.setIfInBounds_toArray, List.set_cons_zero, List.set_cons_succ]
      refine wpHK_two (i := 0) (j := 7) (oi := Oper.mk (some 35) _ _ _ _ _) (oj := Oper.mk (some 42) _ _ _ _ _) rfl rfl (by kernel_rfl) (fun K hK => ?_) (fun K hK => ?_)
      · go_simp
        refine hK.out _ _ (Hc.out _ Hb2.out) (fun _ => ?_)
        clear hK K hHeld
        have hHeld := (Hc.out _ Hb2.out)
        try simp only [Act.put, List.setIfInBounds_toArray, List.set_cons_zero, List.set_cons_succ]
        refine wpHK_one (j := 7) (o := Oper.mk (some 42) _ _ _ _ _) rfl (by kernel_rfl) (fun K hK => ?_)
        go_simp
        refine M2.out.mono ?_
        rintro e V ⟨rfl, hrd⟩
        have hrd := Lib.hid hrd
        refine hK.out _ _ (Hc.out _ hrd.out.2.2.2.1) (fun _ => ?_)
        clear hK K hHeld
        have hHeld := (Hc.out _ hrd.out.2.2.2.1)
        try simp only [Act.put, List.setIfInBounds_toArray, List.set_cons_zero, List.set_cons_succ]
        refine wpHK_tail (j := 8) (o := Oper.mk (some 43) _ _ _ _ _) rfl (by kernel_rfl) (by decide) (fun K hK => ?_)
        go_simp
        have HS := Lib.hid (sub_rdy hrd.out Hl.out.1 Hl.out.2.1)
        refine HS.out.mono ?_
        rintro e V2 ⟨rfl, hi2, hb2⟩
        have HT2 := Lib.hid (told_any hi2 Hl.out.2.2)
        have hb2 := Lib.hid hb2
        clear hi2 HS
        refine hK.out _ _ ?_
        clear hK K
        try simp only [Act.put, List.setIfInBounds_toArray, List.set_cons_zero, List.set_cons_succ]
        refine wpHK_tail (j := 9) (o := Oper.mk (some 44) _ _ _ _ _) rfl (by kernel_rfl) (by decide) (fun K hK => ?_)
        go_simp
        refine HT2.out.mono ?_
        rintro e V3 ⟨t2, _, hb3⟩
        have t2 := t2 Fs.out
        rw [Hqr.out.2] at t2
        subst t2
        have hb3 := Lib.hid (hb2.out.trans (hb3.mono hb2.out.size))
        clear HT2 hb2
        refine hK.out _ _ ?_
        clear hK K
        try simp only [Act.put, List.setIfInBounds_toArray, List.set_cons_zero, List.set_cons_succ]
        refine wpHK_pure (i := 10) (oi := Oper.mk (some 34) _ _ _ _ _) (v := ?_) rfl (by kernel_rfl) (by kernel_rfl) (by kernel_rfl) (fun _ _ _ h => h) (Or.inl ⟨by rfl, ?_⟩) ?_
        rotate_left
        · (intro w' _; go_simp; try with_reducible rfl)
        try simp only [Act.put, List.setIfInBounds_toArray, List.set_cons_zero, List.set_cons_succ]
        refine wpHK_pure (i := 11) (oi := Oper.mk (some 45) _ _ _ _ _) (v := ?_) rfl (by kernel_rfl) (by kernel_rfl) (by kernel_rfl) (fun _ _ _ h => h) (Or.inl ⟨by rfl, ?_⟩) ?_
        rotate_left
        · (intro w' _; go_simp; try with_reducible rfl)
        try simp only [Act.put, List.setIfInBounds_toArray, List.set_cons_zero, List.set_cons_succ]
        refine wpHK_pure (i := 12) (oi := Oper.mk (some 46) _ _ _ _ _) (v := ?_) rfl (by kernel_rfl) (by kernel_rfl) (by kernel_rfl) (fun _ _ _ h => h) (Or.inl ⟨by rfl, ?_⟩) ?_
        rotate_left
        · (intro w' _; go_simp; try with_reducible rfl)
        try simp only [Act.put, List.setIfInBounds_toArray, List.set_cons_zero, List.set_cons_succ]
        refine wpHK_tail (j := 13) (o := Oper.mk (none) _ _ _ _ _) rfl (by kernel_rfl) (by decide) (fun K hK => ?_)
        have n3 := H8.out.2.2.2.2.1.below hb3.out H8.out.2.2.2.2.2.2.1
        have z0 : V3.cell? ⟨w.heap.size + 1 + 1, 0, none⟩ = some (.bool false) := n3.cell 0
        have z1 : V3.cell? ⟨w.heap.size + 1 + 1, 1, none⟩ = some (.string ⟨#[]⟩) := n3.cell 1
        have z2 := n3.frozen 0
        have z3 := n3.frozen 1
        clear n3
        go_simp
        refine hK.out _ _ ?_
        clear hK K
        try simp only [Act.put, List.setIfInBounds_toArray, List.set_cons_zero, List.set_cons_succ]
        refine wpHK_done (by kernel_rfl) ?_ _
        refine NoPanic.normal ?_
        have hb3 := hb3.out
        clear z0 z1 z2 z3
        exact hcont (W.heap.size + 1) W.heap.size V3 hb3
      · go_simp
        refine M3.out.mono ?_
        rintro e V ⟨rfl, hbv, hrd⟩
        have hbv := Lib.hid hbv
        have hrd := Lib.hid hrd
        refine hK.out _ _ (Hc.out _ hbv.out) (fun _ => ?_)
        clear hK K hHeld
        have hHeld := (Hc.out _ hbv.out)
        try simp only [Act.put, List.setIfInBounds_toArray, List.set_cons_zero, List.set_cons_succ]
        refine wpHK_one (j := 0) (o := Oper.mk (some 35) _ _ _ _ _) rfl (by kernel_rfl) (fun K hK => ?_)
        go_simp
        refine hK.out _ _ (Hc.out _ (hrd.out.2.2.2.1)) (fun _ => ?_)
        clear hK K hHeld
        have hHeld := (Hc.out _ (hrd.out.2.2.2.1))
        try simp only [Act.put, List.setIfInBounds_toArray, List.set_cons_zero, List.set_cons_succ]
        refine wpHK_tail (j := 8) (o := Oper.mk (some 43) _ _ _ _ _) rfl (by kernel_rfl) (by decide) (fun K hK => ?_)
        go_simp
        have HS := Lib.hid (sub_rdy hrd.out Hl.out.1 Hl.out.2.1)
        refine HS.out.mono ?_
        rintro e V2 ⟨rfl, hi2, hb2⟩
        have HT2 := Lib.hid (told_any hi2 Hl.out.2.2)
        have hb2 := Lib.hid hb2
        clear hi2 HS
        refine hK.out _ _ ?_
        clear hK K
        try simp only [Act.put, List.setIfInBounds_toArray, List.set_cons_zero, List.set_cons_succ]
        refine wpHK_tail (j := 9) (o := Oper.mk (some 44) _ _ _ _ _) rfl (by kernel_rfl) (by decide) (fun K hK => ?_)
        go_simp
        refine HT2.out.mono ?_
        rintro e V3 ⟨t2, _, hb3⟩
        have t2 := t2 Fs.out
        rw [Hqr.out.2] at t2
        subst t2
        have hb3 := Lib.hid (hb2.out.trans (hb3.mono hb2.out.size))
        clear HT2 hb2
        refine hK.out _ _ ?_
        clear hK K
        try simp only [Act.put, List.setIfInBounds_toArray, List.set_cons_zero, List.set_cons_succ]
        refine wpHK_pure (i := 10) (oi := Oper.mk (some 34) _ _ _ _ _) (v := ?_) rfl (by kernel_rfl) (by kernel_rfl) (by kernel_rfl) (fun _ _ _ h => h) (Or.inl ⟨by rfl, ?_⟩) ?_
        rotate_left
        · (intro w' _; go_simp; try with_reducible rfl)
        try simp only [Act.put, List.setIfInBounds_toArray, List.set_cons_zero, List.set_cons_succ]
        refine wpHK_pure (i := 11) (oi := Oper.mk (some 45) _ _ _ _ _) (v := ?_) rfl (by kernel_rfl) (by kernel_rfl) (by kernel_rfl) (fun _ _ _ h => h) (Or.inl ⟨by rfl, ?_⟩) ?_
        rotate_left
        · (intro w' _; go_simp; try with_reducible rfl)
        try simp only [Act.put, List.setIfInBounds_toArray, List.set_cons_zero, List.set_cons_succ]
        refine wpHK_pure (i := 12) (oi := Oper.mk (some 46) _ _ _ _ _) (v := ?_) rfl (by kernel_rfl) (by kernel_rfl) (by kernel_rfl) (fun _ _ _ h => h) (Or.inl ⟨by rfl, ?_⟩) ?_
        rotate_left
        · (intro w' _; go_simp; try with_reducible rfl)
        try simp only [Act.put, List.setIfInBounds_toArray, List.set_cons_zero, List.set_cons_succ]
        refine wpHK_tail (j := 13) (o := Oper.mk (none) _ _ _ _ _) rfl (by kernel_rfl) (by decide) (fun K hK => ?_)
        have n3 := H8.out.2.2.2.2.1.below hb3.out H8.out.2.2.2.2.2.2.1
        have z0 : V3.cell? ⟨w.heap.size + 1 + 1, 0, none⟩ = some (.bool false) := n3.cell 0
        have z1 : V3.cell? ⟨w.heap.size + 1 + 1, 1, none⟩ = some (.string ⟨#[]⟩) := n3.cell 1
        have z2 := n3.frozen 0
        have z3 := n3.frozen 1
        clear n3
        go_simp
        refine hK.out _ _ ?_
        clear hK K
        try simp only [Act.put, List.setIfInBounds_toArray, List.set_cons_zero, List.set_cons_succ]
        refine wpHK_done (by kernel_rfl) ?_ _
        refine NoPanic.normal ?_
        have hb3 := hb3.out
        clear z0 z1 z2 z3
        exact hcont V.heap.size W.heap.size V3 hb3
  · rintro t u V hV
    have n2 := far_pair (.bool sr) (.string br) (H8.out.2.2.2.1.below hV (by have := H8.out.2.2.2.2.2.2.1; omega)) (show w.heap.size + 1 ≠ w.heap.size + 1 + 1 by omega)
    have n3 := put_pair (.bool sr) (.string br) (H8.out.2.2.2.2.1.below hV H8.out.2.2.2.2.2.2.1)
    have hbV := ((H8.out.2.2.2.2.2.1.trans (hV.mono (by have := H8.out.2.2.2.2.2.2.1; omega))).setCell (p := ⟨w.heap.size + 1 + 1, 0, none⟩) (by show w.heap.size ≤ w.heap.size + 1 + 1; omega) (.bool sr)).setCell (p := ⟨w.heap.size + 1 + 1, 1, none⟩) (by show w.heap.size ≤ w.heap.size + 1 + 1; omega) (.string br)
    have Hn := Lib.hid (And.intro n2 (And.intro n3 hbV))
    clear n2 n3 hbV hV
    generalize (V.setCell ⟨w.heap.size + 1 + 1, 0, none⟩ (.bool sr)).setCell ⟨w.heap.size + 1 + 1, 1, none⟩ (.string br) = W9 at Hn ⊢
    have d0 : W9.cell? ⟨w.heap.size + 1, 0, none⟩ = some (.bool sq) := Hn.out.1.cell 0
    have d1 : W9.cell? ⟨w.heap.size + 1, 1, none⟩ = some (.string bq) := Hn.out.1.cell 1
    have e0 : W9.cell? ⟨w.heap.size + 1 + 1, 0, none⟩ = some (.bool sr) := Hn.out.2.1.cell 0
    have e1 : W9.cell? ⟨w.heap.size + 1 + 1, 1, none⟩ = some (.string br) := Hn.out.2.1.cell 1
    have d2 := Hn.out.1.frozen 0
    have d3 := Hn.out.1.frozen 1
    have e2 := Hn.out.2.1.frozen 0
    have e3 := Hn.out.2.1.frozen 1
    go_wp2_with fail
    refine wp_region_noPanic ?_
    refine wp_region_HK (fun w' => (w'.cell? ⟨w.heap.size + 1, 0, none⟩ = some (.bool sq) ∧ w'.cell? ⟨w.heap.size + 1, 1, none⟩ = some (.string bq)) ∧ w'.cell? ⟨w.heap.size + 1 + 1, 0, none⟩ = some (.bool sr) ∧ w'.cell? ⟨w.heap.size + 1 + 1, 1, none⟩ = some (.string br)) 3 (by kernel_rfl) ⟨⟨d0, d1⟩, e0, e1⟩ (fun hHeld => ?_)
    refine wpHK_take (i := 0) (oi := Oper.mk (some 47) _ _ _ _ _) (v := ?_) rfl (by kernel_rfl) (by kernel_rfl) (by kernel_rfl) (by kernel_rfl) (fun _ _ _ h => h) (Or.inl ⟨by rfl, ?_⟩) (by assumption) ?_
    rotate_left
    · (intro w' hSw; (try dsimp only at hSw); (obtain ⟨⟨s1, s2⟩, s3, s4⟩ := hSw); go_simp; try with_reducible rfl)
    try simp only [Act.put, List.setIfInBounds_toArray, List.set_cons_zero, List.set_cons_succ]
    refine wpHK_take (i := 1) (oi := Oper.mk (some 48) _ _ _ _ _) (v := ?_) rfl (by kernel_rfl) (by kernel_rfl) (by kernel_rfl) (by kernel_rfl) (fun _ _ _ h => h) (Or.inl ⟨by rfl, ?_⟩) (by assumption) ?_
    rotate_left
    · (intro w' hSw; (try dsimp only at hSw); (obtain ⟨⟨s1, s2⟩, s3, s4⟩ := hSw); go_simp; try with_reducible rfl)
    try simp only [Act.put, List.setIfInBounds_toArray, List.set_cons_zero, List.set_cons_succ]
    refine wpHK_one (j := 2) (o := Oper.mk (none) _ _ _ _ _) rfl (by kernel_rfl) (fun K hK => ?_)
    go_simp
    refine hK.out _ _ (And.intro (same_pair Hn.out.1.drew).two (far_pair (.bool sq) (.string bq) Hn.out.2.1.drew (show w.heap.size + 1 + 1 ≠ w.heap.size + 1 by omega)).two) (fun _ => ?_)
    clear hK K hHeld
    have hHeld := (And.intro (same_pair Hn.out.1.drew).two (far_pair (.bool sq) (.string bq) Hn.out.2.1.drew (show w.heap.size + 1 + 1 ≠ w.heap.size + 1 by omega)).two)
    try simp only [Act.put, List.setIfInBounds_toArray, List.set_cons_zero, List.set_cons_succ]
    refine wpHK_tail (j := 3) (o := Oper.mk (none) _ _ _ _ _) rfl (by kernel_rfl) (by decide) (fun K hK => ?_)
    go_simp
    refine hK.out _ _ ?_
    clear hK K
    try simp only [Act.put, List.setIfInBounds_toArray, List.set_cons_zero, List.set_cons_succ]
    refine wpHK_pure (i := 4) (oi := Oper.mk (some 4) _ _ _ _ _) (v := ?_) rfl (by kernel_rfl) (by kernel_rfl) (by kernel_rfl) (fun _ _ _ h => h) (Or.inl ⟨by rfl, ?_⟩) ?_
    rotate_left
    · (intro w' _; go_simp; try with_reducible rfl)
    try simp only [Act.put, List.setIfInBounds_toArray, List.set_cons_zero, List.set_cons_succ]
    refine wpHK_done (by kernel_rfl) ?_ _
    refine NoPanic.normal ?_
    go_wp2_with fail
    refine bodyPost_ret (v := .tuple #[.agg #[.bool sq, .string bq], .agg #[.bool sr, .string br], .int .i64 0]) (by simp [results, Try.results53, go_sem, d0, d1, e0, e1]) rfl ?_
    exact ⟨fun h => absurd Hm.out h, fun _ h => absurd (show false = true from h) (by decide), fun _ _ => ⟨r, by rw [← Hx.out.2.1]; exact Hr.out.1, by rw [← Hx.out.2.1]; exact Hr.out.2, by rw [Hqr.out.1, ← Hx.out.2.1, Hqr.out.2]⟩, (((((Hn.out.2.2.drew).setCell (by show w.heap.size ≤ w.heap.size + 1; omega) _).setCell (by show w.heap.size ≤ w.heap.size + 1; omega) _).setCell (by show w.heap.size ≤ w.heap.size + 1 + 1; omega) _).setCell (by show w.heap.size ≤ w.heap.size + 1 + 1; omega) _)⟩
theorem wroot_any {w : World} {na : Bool} {sa : ByteArray} :
    Calls Try.prog 53 #[.agg #[.bool na, .string sa]] w (Rooted w (na, sa)) := by
  by_cases hm : MayL na sa.data.toList
  · cases na
    · exact wroot_main hm rfl
    · exact wroot_neg hm rfl
  · exact wroot_bad hm
end Go.Proofs.Ytpnginnjbdedbaa

/- whole.Sum, whole.Gcd. -/
namespace Go.Proofs.Ytpnginnjbdedbaa
open Go.RowKit
open Wh
set_option linter.unusedSimpArgs false

theorem sum_abs {P : Nat} : ∀ {zs : List Int}, (∀ z ∈ zs, z.natAbs ≤ P) → zs.sum.natAbs ≤ zs.length * P
  | [], _ => by simp
  | z :: zs, h => by
    have h1 := h z (by simp)
    have h2 := sum_abs (zs := zs) (fun y hy => h y (by simp [hy]))
    rw [List.sum_cons, List.length_cons, Nat.succ_mul]
    have := Int.natAbs_add_le z zs.sum
    omega
theorem sum_bl {k : Nat} {zs : List Int} (h : ∀ z ∈ zs, bl z.natAbs ≤ k) (hl : zs.length ≤ 100000) : bl zs.sum.natAbs ≤ 32 + k := by
  have h1 := sum_abs (P := 2 ^ k) (zs := zs) (fun z hz => Nat.le_of_lt (bl_lt.1 (h z hz)))
  refine bl_lt.2 (Nat.lt_of_le_of_lt h1 ?_)
  rw [Nat.pow_add]
  exact Nat.mul_lt_mul_of_pos_right (by omega) (Nat.pow_pos (by decide))
theorem sum_len {zs : List Int} (h : ∀ z ∈ zs, bl z.natAbs ≤ 131072) (hl : zs.length ≤ 100000) : (wds zs.sum.natAbs).length ≤ 5000 :=
  Nat.le_trans (len_bl (k := 4097) (sum_bl h hl)) (by omega)
theorem sum_take {zs : List Int} {i : Nat} (h : i < zs.length) : (zs.take (i + 1)).sum = (zs.take i).sum + zs[i] := by
  rw [List.take_succ_eq_append_getElem h, List.sum_append]; simp
theorem Ints.len {w : World} : ∀ {gs : List Nat} {zs : List Int}, Ints w gs zs → gs.length = zs.length
  | [], [], _ => rfl
  | _ :: _, _ :: _, ⟨_, _, h⟩ => by rw [List.length_cons, List.length_cons, h.len]
  | [], _ :: _, h => h.elim
  | _ :: _, [], h => h.elim
theorem Ints.drop {w : World} : ∀ {gs : List Nat} {zs : List Int} (i : Nat), Ints w gs zs → Ints w (gs.drop i) (zs.drop i)
  | _, _, 0, h => h
  | _ :: _, _ :: _, i + 1, ⟨_, _, h⟩ => h.drop i
  | [], [], _ + 1, _ => trivial
  | [], _ :: _, _, h => h.elim
  | _ :: _, [], _, h => h.elim
theorem Ints.at_ {w : World} {gs : List Nat} {zs : List Int} {i : Nat} (h : Ints w (gs.drop i) (zs.drop i)) (h1 : i < gs.length) (h2 : i < zs.length) : IntB w gs[i] zs[i] ∧ gs[i] ∉ gs.drop (i + 1) ∧ Ints w (gs.drop (i + 1)) (zs.drop (i + 1)) := by
  rw [List.drop_eq_getElem_cons h1, List.drop_eq_getElem_cons h2] at h
  exact h
/-- the pointers stay where a number's block changes -/
theorem slot_ptr_ne {w : World} {ad : Addr} {g : Nat} {q : Option Addr} (hi : IntS w g) (p : w.cell? ad = some (.pointer q)) : ad.block ≠ g := by
  intro h
  have hs := World.cell?_spot p
  obtain ⟨s, A, n, c, hb⟩ := hi
  have h2 : ad = ⟨g, ad.off, none⟩ := by cases ad; simp_all
  rw [h2, hb.cell] at p
  match ad.off, p with
  | 0, p => exact absurd p (by simp [icells])
  | 1, p => exact absurd p (by simp [icells])
  | _ + 2, p => exact absurd p (by simp [icells])
theorem ReadsP.off {w w' : World} {B g : Nat} {A : Option Addr} {l : List Nat} (h : ReadsP w B A l) (hi : IntS w g) (hg : w.grownBy w' (some g)) : ReadsP w' B A l := by
  refine ⟨h.1, fun hn => ?_⟩
  obtain ⟨ad, e, hb, hc⟩ := h.2 hn
  refine ⟨ad, e, hb, fun j u hu => ?_⟩
  have h1 := hc j u hu
  obtain ⟨b, _, rfl⟩ : ∃ b, b ∈ l ∧ u = pv b := by
    obtain ⟨b, hb2, hb3⟩ := List.mem_map.1 (List.mem_of_getElem? hu)
    exact ⟨b, hb2, hb3.symm⟩
  have hne := slot_ptr_ne hi h1
  exact hg.cell h1 (by intro h5; injection h5 with h5; exact hne h5)

set_option maxRecDepth 100000 in
set_option maxHeartbeats 8000000 in
theorem wsum_any {w : World} {B n c : Nat} {A : Option Addr} {l : List (Bool × ByteArray)} (hr : ReadsWh w B A l) (hB : B ≤ w.heap.size) (hn : n = l.length) (hnl : n ≤ 100000) :
    Calls Try.prog 14 #[.slice A n c] w (Ans w (AllMay l) (l.map num).sum) := by
  have hb1 := new_below w (.cells #[.bool false, .string ⟨#[]⟩] 26)
  have k1 := Blk.new w 26 #[.bool false, .string ⟨#[]⟩]
  have hO := ofs_any (c := c) (Reads.alloc hr hB (.cells #[.bool false, .string ⟨#[]⟩] 26)) (by simp; omega) hn hnl
  have HO := Lib.hid hO
  have Hb := Lib.hid (And.intro hb1 k1)
  have Hn := Lib.hid (And.intro hn hnl)
  clear hO hb1 k1 hr hn hnl
  go_enter Try.func14, Try.ntmps14
  go_wp2_with fail
  refine HO.out.mono ?_
  rintro e w5 ⟨h1, h2⟩
  by_cases hm : AllMay l
  · obtain ⟨A5, n5, c5, gs, rfl, hlen, hrp, hints, hb5, hge⟩ := h1 hm
    obtain ⟨zs, hzs⟩ : ∃ zs, zs = l.map num := ⟨_, rfl⟩
    rw [← hzs] at hints hlen
    have hbz : ∀ z ∈ zs, bl z.natAbs ≤ 131072 := by
      intro z hz
      rw [hzs] at hz
      obtain ⟨a, ha, rfl⟩ := List.mem_map.1 hz
      exact fits_num (hm a ha)
    have hzl : zs.length ≤ 100000 := by rw [hzs, List.length_map, ← Hn.out.1]; exact Hn.out.2
    have m1 := Hb.out.2.below hb5 (by simp)
    have hb05 := Hb.out.1.trans (hb5.mono (by simp))
    have hsz5 : w.heap.size + 1 ≤ w5.heap.size := by have := hb5.size; simp at this; omega
    have H5 := Lib.hid (And.intro m1 (And.intro hb05 (And.intro hrp (And.intro hints (And.intro hsz5 hbz)))))
    have Hz := Lib.hid hzl
    have Hzs := Lib.hid hzs
    have hn5 : n5 ≤ 100000 := by rw [hlen.out.1, hlen.out.2]; exact hzl
    have Hm := Lib.hid hm
    clear h1 h2 hb5 hge m1 hb05 hrp hints hsz5 hbz hzl hzs hm
    go_wp2_with fail
    go_loopg [20] n5 (fun k iv wr => ∃ i : Nat, iv = .int .i64 (i : Int) ∧ k = n5 - i ∧ i ≤ n5 ∧ Below w5.heap.size w5 wr ∧ IntB wr w5.heap.size (zs.take i).sum)
    case atStart => exact ⟨0, rfl, rfl, by omega, new_below w5 _, IntB.zero w5⟩
    case round =>
      obtain ⟨i, rfl, hk, hi, hbel, hacc⟩ := hrel
      have Hk := Lib.hid hk
      clear hk
      by_cases hin : i < n5
      · have hig : i < gs.length := by rw [← hlen.out.1]; exact hin
        have hiz : i < zs.length := by rw [← hlen.out.2]; exact hig
        obtain ⟨ad, rfl, hadb, c0⟩ := H5.out.2.2.1.at_ hig
        have c0' := (hbel.cell (p := ad.add i) (by rw [block_of_add]; exact hadb)).trans c0
        have hx := ((H5.out.2.2.2.1.drop i).at_ hig hiz).1.below hbel
        have hii : (i : Int) < (n5 : Int) := by omega
        have hs1 := sum_len (zs := zs.take i) (fun z hz => H5.out.2.2.2.2.2 z (List.mem_of_mem_take hz)) (by have := Hz.out; rw [List.length_take]; omega)
        have hs2 := Nat.le_trans (len_bl (k := 4096) (H5.out.2.2.2.2.2 zs[i] (List.getElem_mem hiz))) (show 4096 ≤ 5000 by omega)
        have HA := Lib.hid (add2_any hacc.slot hacc hx (by omega) (by omega))
        have Hst := Lib.hid (And.intro (sum_take hiz) hbel)
        generalize hgi : gs[i] = gi at c0 c0' hx HA
        clear c0 hx hs1 hs2 hacc hgi hbel
        go_wp2_with fail
        refine HA.out.mono ?_
        rintro e w6 ⟨rfl, hi6, hg6⟩
        have hb6 := up_row Hst.out.2 hg6 Hst.out.2.size (Nat.le_refl _)
        have H6 := Lib.hid (And.intro hi6 hb6)
        clear hi6 hg6 hb6
        go_wp2_with fail
        go_roundg (n5 - (i + 1))
        case measure => have := Hk.out; omega
        case rel => exact ⟨i + 1, rfl, rfl, by omega, H6.out.2, by rw [Hst.out.1]; exact H6.out.1⟩
      · have hi' : i = n5 := by omega
        have hii : (n5 : Int) ≤ (i : Int) := by omega
        have htk : zs.take i = zs := List.take_of_length_le (by have := hlen.out; omega)
        rw [htk] at hacc
        have hs1 := sum_len (zs := zs) H5.out.2.2.2.2.2 Hz.out
        have HT := Lib.hid (told_any hacc (by omega))
        have Hst := Lib.hid hbel
        clear hacc hi' htk hs1 hbel
        go_wp2_with fail
        refine HT.out.mono ?_
        rintro e w7 ⟨t1, t2, hb7⟩
        obtain ⟨sn, bn, cd, rfl, hans⟩ := ans_form (ok := True) ⟨fun _ => t1, fun _ => t2, fun h => absurd trivial h, hb7⟩
        have hbw7 := Hst.out.trans (hb7.mono Hst.out.size)
        have n1 := H5.out.1.below hbw7 (by have := H5.out.2.2.2.2.1; omega)
        have hbw := H5.out.2.1.trans (hbw7.mono (by have := H5.out.2.2.2.2.1; omega))
        have d0 : w7.cell? ⟨w.heap.size, 0, none⟩ = some (.bool false) := n1.cell 0
        have d1 : w7.cell? ⟨w.heap.size, 1, none⟩ = some (.string ⟨#[]⟩) := n1.cell 1
        have d2 := n1.frozen 0
        have d3 := n1.frozen 1
        have Ha := Lib.hid (And.intro (fun W => hans w W) hbw)
        clear t1 t2 hb7 hans hbw7 n1 hbw
        go_wp2_with fail
        refine bodyPost_ret (v := .tuple #[.agg #[.bool sn, .string bn], .int .i64 cd]) (by simp [results, Try.results14, go_sem, d0, d1]) rfl ?_
        have := Ha.out.1 _ ((Ha.out.2.setCell (p := ⟨w.heap.size, 0, none⟩) (Nat.le_refl _) (.bool sn)).setCell (p := ⟨w.heap.size, 1, none⟩) (Nat.le_refl _) (.string bn))
        rw [Hzs.out] at this
        exact ⟨fun _ h => this.1 trivial h, fun _ h => this.2.1 trivial h, fun h => absurd Hm.out h, this.2.2.2⟩
  · obtain ⟨A5, n5, c5, rfl, hb5⟩ := h2 hm
    have m1 := Hb.out.2.below hb5 (by simp)
    have hb05 := Hb.out.1.trans (hb5.mono (by simp))
    have d0 : w5.cell? ⟨w.heap.size, 0, none⟩ = some (.bool false) := m1.cell 0
    have d1 : w5.cell? ⟨w.heap.size, 1, none⟩ = some (.string ⟨#[]⟩) := m1.cell 1
    have d2 := m1.frozen 0
    have d3 := m1.frozen 1
    have H5 := Lib.hid hb05
    have Hm := Lib.hid hm
    clear h1 h2 hb5 hb05 m1 hm
    go_wp2_with fail
    refine bodyPost_ret (v := .tuple #[.agg #[.bool false, .string ⟨#[]⟩], .int .i64 2]) (by simp [results, Try.results14, go_sem, d0, d1]) rfl ?_
    exact ⟨fun h => absurd h Hm.out, fun h => absurd h Hm.out, fun _ => rfl, (H5.out.setCell (p := ⟨w.heap.size, 0, none⟩) (Nat.le_refl _) _).setCell (p := ⟨w.heap.size, 1, none⟩) (Nat.le_refl _) _⟩
/-- the greatest divisor of all -/
def gcdl (zs : List Int) : Nat := zs.foldl (fun g z => Nat.gcd g z.natAbs) 0
theorem gcdl_take {zs : List Int} {i : Nat} (h : i < zs.length) : gcdl (zs.take (i + 1)) = Nat.gcd (gcdl (zs.take i)) zs[i].natAbs := by
  unfold gcdl
  rw [List.take_succ_eq_append_getElem h, List.foldl_append]
  rfl
theorem gcd_bl {g z : Nat} (hg : bl g ≤ 131072) (hz : bl z ≤ 131072) : bl (Nat.gcd g z) ≤ 131072 := by
  rcases Nat.eq_zero_or_pos g with h | h
  · rw [h, Nat.gcd_zero_left]; exact hz
  · exact bl_mono (Nat.gcd_le_left z h) hg
theorem gcdl_bl : ∀ {zs : List Int} {g : Nat}, bl g ≤ 131072 → (∀ z ∈ zs, bl z.natAbs ≤ 131072) → bl (zs.foldl (fun g z => Nat.gcd g z.natAbs) g) ≤ 131072
  | [], _, h, _ => h
  | z :: zs, g, h, hz => by
    rw [List.foldl_cons]
    exact gcdl_bl (gcd_bl h (hz z (by simp))) (fun y hy => hz y (by simp [hy]))
theorem gcdl_fits {zs : List Int} (h : ∀ z ∈ zs, bl z.natAbs ≤ 131072) : bl (gcdl zs) ≤ 131072 := gcdl_bl (Nat.le_trans ((bl_lt (k := 1)).2 (by decide)) (by decide)) h
theorem gcdl_len {zs : List Int} (h : ∀ z ∈ zs, bl z.natAbs ≤ 131072) : (wds (gcdl zs)).length ≤ 5000 := Nat.le_trans (len_bl (k := 4096) (gcdl_fits h)) (by omega)
set_option maxRecDepth 100000 in
set_option maxHeartbeats 8000000 in
theorem wgcd_any {w : World} {B n c : Nat} {A : Option Addr} {l : List (Bool × ByteArray)} (hr : ReadsWh w B A l) (hB : B ≤ w.heap.size) (hn : n = l.length) (hnl : n ≤ 100000) :
    Calls Try.prog 15 #[.slice A n c] w (Ans w (AllMay l) (gcdl (l.map num) : Int)) := by
  have hb1 := new_below w (.cells #[.bool false, .string ⟨#[]⟩] 26)
  have k1 := Blk.new w 26 #[.bool false, .string ⟨#[]⟩]
  have hO := ofs_any (c := c) (Reads.alloc hr hB (.cells #[.bool false, .string ⟨#[]⟩] 26)) (by simp; omega) hn hnl
  have HO := Lib.hid hO
  have Hb := Lib.hid (And.intro hb1 k1)
  have Hn := Lib.hid (And.intro hn hnl)
  clear hO hb1 k1 hr hn hnl
  go_enter Try.func15, Try.ntmps15
  go_wp2_with fail
  refine HO.out.mono ?_
  rintro e w5 ⟨h1, h2⟩
  by_cases hm : AllMay l
  · obtain ⟨A5, n5, c5, gs, rfl, hlen, hrp, hints, hb5, hge⟩ := h1 hm
    obtain ⟨zs, hzs⟩ : ∃ zs, zs = l.map num := ⟨_, rfl⟩
    rw [← hzs] at hints hlen
    have hbz : ∀ z ∈ zs, bl z.natAbs ≤ 131072 := by
      intro z hz
      rw [hzs] at hz
      obtain ⟨a, ha, rfl⟩ := List.mem_map.1 hz
      exact fits_num (hm a ha)
    have hzl : zs.length ≤ 100000 := by rw [hzs, List.length_map, ← Hn.out.1]; exact Hn.out.2
    have m1 := Hb.out.2.below hb5 (by simp)
    have hb05 := Hb.out.1.trans (hb5.mono (by simp))
    have hsz5 : w.heap.size + 1 ≤ w5.heap.size := by have := hb5.size; simp at this; omega
    have H5 := Lib.hid (And.intro m1 (And.intro hb05 (And.intro hrp (And.intro hints (And.intro hsz5 hbz)))))
    have Hge := Lib.hid hge
    have Hz := Lib.hid hzl
    have Hzs := Lib.hid hzs
    have hn5 : n5 ≤ 100000 := by rw [hlen.out.1, hlen.out.2]; exact hzl
    have Hm := Lib.hid hm
    clear h1 h2 hb5 hge m1 hb05 hrp hints hsz5 hbz hzl hzs hm
    go_wp2_with fail
    go_loopg [20] n5 (fun k iv wr => ∃ i : Nat, iv = .int .i64 (i : Int) ∧ k = n5 - i ∧ i ≤ n5 ∧ Below (w.heap.size + 1) w5 wr ∧ IntB wr w5.heap.size (gcdl (zs.take i) : Int) ∧ Ints wr (gs.drop i) (zs.drop i) ∧ ReadsP wr w5.heap.size A5 gs)
    case atStart => exact ⟨0, rfl, rfl, by omega, (new_below w5 _).mono H5.out.2.2.2.2.1, IntB.zero w5, H5.out.2.2.2.1.keep (fun g _ z hz => hz.below (new_below w5 _)), Reads.alloc H5.out.2.2.1 (Nat.le_refl _) _⟩
    case round =>
      obtain ⟨i, rfl, hk, hi, hbel, hacc, hints, hrp⟩ := hrel
      have Hk := Lib.hid hk
      clear hk
      by_cases hin : i < n5
      · have hig : i < gs.length := by rw [← hlen.out.1]; exact hin
        have hiz : i < zs.length := by rw [← hlen.out.2]; exact hig
        obtain ⟨ad, rfl, hadb, c0'⟩ := hrp.at_ hig
        obtain ⟨hx, hnot, hrest⟩ := hints.at_ hig hiz
        have hii : (i : Int) < (n5 : Int) := by omega
        have hs1 : (wds (gcdl (zs.take i))).length ≤ 5000 := gcdl_len (fun z hz => H5.out.2.2.2.2.2 z (List.mem_of_mem_take hz))
        have hs2 := Nat.le_trans (len_bl (k := 4096) (H5.out.2.2.2.2.2 zs[i] (List.getElem_mem hiz))) (show 4096 ≤ 5000 by omega)
        have hgl := H5.out.2.2.2.1.lt gs[i] (List.getElem_mem hig)
        have hgb := Hge.out gs[i] (List.getElem_mem hig)
        have hst := gcdl_take hiz
        generalize hgi : gs[i] = gi at c0' hx hnot hgl hgb
        generalize zs[i] = zi at hx hs2 hst
        have HA := Lib.hid (abs_any hx.slot hx (by omega))
        have Hst := Lib.hid (And.intro hst (And.intro hbel (And.intro hx.slot (And.intro hacc (And.intro hrest (And.intro hnot (And.intro hrp (And.intro hs1 (And.intro hs2 (And.intro hgl hgb))))))))))
        clear hx hs1 hs2 hst hacc hgi hbel hrest hnot hrp hints hgl hgb
        go_wp2_with fail
        refine HA.out.mono ?_
        rintro e w6 ⟨rfl, hi6, hg6⟩
        have hne : w5.heap.size ≠ gi := by have := Hst.out.2.2.2.2.2.2.2.2.2.1; omega
        have hacc6 := Hst.out.2.2.2.1.off Hst.out.2.2.1 hg6 hne
        have HG := Lib.hid (gcd_any hacc6.slot hacc6 hi6 (by rw [Int.natAbs_natCast]; have := Hst.out.2.2.2.2.2.2.2.1; omega) (by rw [Int.natAbs_natCast]; have := Hst.out.2.2.2.2.2.2.2.2.1; omega))
        have H6 := Lib.hid (And.intro hacc6.slot hg6)
        clear hi6 hacc6 hg6
        go_wp2_with fail
        refine HG.out.mono ?_
        rintro e w7 ⟨rfl, hi7, hg7⟩
        rw [Int.natAbs_natCast, Int.natAbs_natCast, ← Hst.out.1] at hi7
        have hb6 := up_row Hst.out.2.1 H6.out.2 (Nat.le_trans H5.out.2.2.2.2.1 Hst.out.2.1.size) (by have := Hst.out.2.2.2.2.2.2.2.2.2.2; simp at this; omega)
        have hb7 := up_row hb6 hg7 (Nat.le_trans (Nat.le_trans H5.out.2.2.2.2.1 Hst.out.2.1.size) H6.out.2.size) H5.out.2.2.2.2.1
        have hr6 := Hst.out.2.2.2.2.1.keep (w' := w6) (fun g hg z hz => hz.off Hst.out.2.2.1 H6.out.2 (fun h => Hst.out.2.2.2.2.2.1 (h ▸ hg)))
        have hr7 := hr6.keep (w' := w7) (fun g hg z hz => hz.off H6.out.1 hg7 (fun h => by
          have := H5.out.2.2.2.1.lt g (List.mem_of_mem_drop hg)
          omega))
        have hp7 := (Hst.out.2.2.2.2.2.2.1.off Hst.out.2.2.1 H6.out.2).off H6.out.1 hg7
        have H7 := Lib.hid (And.intro hb7 (And.intro hi7 (And.intro hr7 hp7)))
        clear hi7 hg7 hb6 hb7 hr6 hr7 hp7
        go_wp2_with fail
        go_roundg (n5 - (i + 1))
        case measure => have := Hk.out; omega
        case rel => exact ⟨i + 1, rfl, rfl, by omega, H7.out.1, H7.out.2.1, H7.out.2.2.1, H7.out.2.2.2⟩
      · have hi' : i = n5 := by omega
        have hii : (n5 : Int) ≤ (i : Int) := by omega
        have htk : zs.take i = zs := List.take_of_length_le (by have := hlen.out; omega)
        rw [htk] at hacc
        have hs1 := gcdl_len (zs := zs) H5.out.2.2.2.2.2
        have HT := Lib.hid (told_any hacc (by rw [Int.natAbs_natCast]; omega))
        have Hst := Lib.hid hbel
        clear hacc hi' htk hs1 hbel
        go_wp2_with fail
        refine HT.out.mono ?_
        rintro e w7 ⟨t1, t2, hb7⟩
        obtain ⟨sn, bn, cd, rfl, hans⟩ := ans_form (ok := True) ⟨fun _ => t1, fun _ => t2, fun h => absurd trivial h, hb7⟩
        have hbw7 := Hst.out.trans (hb7.mono (Nat.le_trans H5.out.2.2.2.2.1 Hst.out.size))
        have n1 := H5.out.1.below hbw7 (by omega)
        have hbw := H5.out.2.1.trans (hbw7.mono (by omega))
        have d0 : w7.cell? ⟨w.heap.size, 0, none⟩ = some (.bool false) := n1.cell 0
        have d1 : w7.cell? ⟨w.heap.size, 1, none⟩ = some (.string ⟨#[]⟩) := n1.cell 1
        have d2 := n1.frozen 0
        have d3 := n1.frozen 1
        have Ha := Lib.hid (And.intro (fun W => hans w W) hbw)
        clear t1 t2 hb7 hans hbw7 n1 hbw
        go_wp2_with fail
        refine bodyPost_ret (v := .tuple #[.agg #[.bool sn, .string bn], .int .i64 cd]) (by simp [results, Try.results15, go_sem, d0, d1]) rfl ?_
        have := Ha.out.1 _ ((Ha.out.2.setCell (p := ⟨w.heap.size, 0, none⟩) (Nat.le_refl _) (.bool sn)).setCell (p := ⟨w.heap.size, 1, none⟩) (Nat.le_refl _) (.string bn))
        rw [Hzs.out] at this
        exact ⟨fun _ h => this.1 trivial h, fun _ h => this.2.1 trivial h, fun h => absurd Hm.out h, this.2.2.2⟩
  · obtain ⟨A5, n5, c5, rfl, hb5⟩ := h2 hm
    have m1 := Hb.out.2.below hb5 (by simp)
    have hb05 := Hb.out.1.trans (hb5.mono (by simp))
    have d0 : w5.cell? ⟨w.heap.size, 0, none⟩ = some (.bool false) := m1.cell 0
    have d1 : w5.cell? ⟨w.heap.size, 1, none⟩ = some (.string ⟨#[]⟩) := m1.cell 1
    have d2 := m1.frozen 0
    have d3 := m1.frozen 1
    have H5 := Lib.hid hb05
    have Hm := Lib.hid hm
    clear h1 h2 hb5 hb05 m1 hm
    go_wp2_with fail
    refine bodyPost_ret (v := .tuple #[.agg #[.bool false, .string ⟨#[]⟩], .int .i64 2]) (by simp [results, Try.results15, go_sem, d0, d1]) rfl ?_
    exact ⟨fun h => absurd h Hm.out, fun h => absurd h Hm.out, fun _ => rfl, (H5.out.setCell (p := ⟨w.heap.size, 0, none⟩) (Nat.le_refl _) _).setCell (p := ⟨w.heap.size, 1, none⟩) (Nat.le_refl _) _⟩
end Go.Proofs.Ytpnginnjbdedbaa

/- What the laws on whole numbers share: num, ok, enc's form. -/
namespace Go.Proofs.Ytpnginnjbdedbaa
open Go.RowKit
open Wh
set_option linter.unusedSimpArgs false

set_option maxRecDepth 100000 in
theorem num_any {w : World} {n : Int} : Calls Try.prog 23 #[.int .i64 n] w (fun e w' => e = .returned (.int .i64 n) ∧ w = w') := by
  go_enter Try.func23, Try.ntmps23
  go_wp2
  go_ret
  exact ⟨rfl, rfl⟩
theorem reads_zero {w : World} {B n k : Nat} {A : Option Addr} (h : Reads w B 1 A n (List.replicate n (.int .i64 0))) (hk : k < n) : ∃ ad, A = some ad ∧ w.cell? (ad.add k) = some (.int .i64 0) := by
  obtain ⟨ad, u, e, _, hu, hc⟩ := h.at_ hk
  refine ⟨ad, e, ?_⟩
  rw [hc]
  rw [List.getElem?_replicate, if_pos hk] at hu
  exact hu.symm
set_option maxRecDepth 100000 in
set_option maxHeartbeats 1000000 in
theorem ok_any {w : World} {B n c : Nat} {A : Option Addr} (h : Reads w B 1 A n (List.replicate n (.int .i64 0))) (hn : n ≤ 100) :
    Calls Try.prog 52 #[.slice A n c] w (fun e w' => e = .returned (.bool true) ∧ w = w') := by
  go_enter Try.func52, Try.ntmps52
  go_wp2_with fail
  go_loopg [3] n (fun k iv wr => ∃ i : Nat, iv = .int .i64 (i : Int) ∧ k = n - i ∧ i ≤ n ∧ w = wr)
  case atStart => exact ⟨0, rfl, rfl, by omega, rfl⟩
  case round =>
    obtain ⟨i, rfl, hk, hi, rfl⟩ := hrel
    have Hk := Lib.hid hk
    clear hk
    by_cases hin : i < n
    · obtain ⟨ad, rfl, c0⟩ := reads_zero h hin
      have hii : (i : Int) < (n : Int) := by omega
      have HN := Lib.hid (num_any (w := w) (n := 0))
      clear h
      go_wp2_with fail
      refine HN.out.mono ?_
      rintro e w6 ⟨rfl, rfl⟩
      go_wp2_with fail
      go_roundg (n - (i + 1))
      case measure => have := Hk.out; omega
      case rel => exact ⟨i + 1, rfl, rfl, by omega, rfl⟩
    · have hii : (n : Int) ≤ (i : Int) := by omega
      clear h
      go_wp2_with fail
      go_ret
      exact ⟨rfl, rfl⟩
theorem pow_bytes (k : Nat) : 256 ^ k = 2 ^ (8 * k) := by rw [show (256 : Nat) = 2 ^ 8 by decide, ← Nat.pow_mul]
theorem bl_bytes {n k : Nat} (h : bl n ≤ 8 * k) : (bys n).length ≤ k := bys_len (by rw [pow_bytes]; exact bl_lt.1 h)
/-- a number's value: a sign and bytes that may be -/
theorem enc_form {z : Int} (hf : fits z) : ∃ s b, enc z = .agg #[.bool s, .string b] ∧ num (s, b) = z ∧ MayL s b.data.toList := by
  refine ⟨_, _, rfl, ?_, ?_, ?_, ?_⟩
  · show sgn _ (bval (bys z.natAbs)) = z
    rw [bval_b, sgn_of]
  · show (bys z.natAbs).length ≤ 16384
    exact bl_bytes (k := 16384) hf
  · intro h
    have h1 : bval (bys z.natAbs) = 0 := by rw [show bys z.natAbs = [] from h]; rfl
    rw [bval_b] at h1
    simp; omega
  · exact formed_b _
theorem fits_small {z : Int} (h : z.natAbs ≤ 18446744073709551615) : fits z := bl_small h
end Go.Proofs.Ytpnginnjbdedbaa

/- The variables of a law in the heap. -/
namespace Go.Proofs.Ytpnginnjbdedbaa
open Go.RowKit
open Wh
set_option linter.unusedSimpArgs false

/-- blocks that a law has made, since w0 -/
def Env (w0 W : World) (l : List (Nat × TypeId × Array Value)) : Prop := Below w0.heap.size w0 W ∧ ∀ x ∈ l, Blk W x.1 x.2.1 x.2.2
section
variable {w0 W W' : World} {l : List (Nat × TypeId × Array Value)} {g : Nat} {t : TypeId} {cs : Array Value}
theorem Env.nil (w : World) : Env w w [] := ⟨Below.refl _ _, fun _ h => by cases h⟩
theorem Env.call (h : Env w0 W l) (hb : Below W.heap.size W W') : Env w0 W' l := ⟨h.1.trans (hb.mono h.1.size), fun x hx => (h.2 x hx).below hb (h.2 x hx).lt⟩
theorem Env.calm (h : Env w0 W l) (hb : W = W') : Env w0 W' l := hb ▸ h
theorem Env.drew (h : Env w0 W l) : Env w0 W.drew l := ⟨h.1.drew, h.2⟩
theorem Env.drewN (h : Env w0 W l) (k : Nat) : Env w0 (W.drewN k) l := ⟨below_drewN h.1 k, h.2⟩
theorem Env.new (h : Env w0 W l) (t : TypeId) (cs : Array Value) : Env w0 (W.alloc (.cells cs t)) ((W.heap.size, t, cs) :: l) :=
  ⟨h.1.alloc h.1.size _, fun x hx => by
    rcases List.mem_cons.1 hx with rfl | hx
    · exact Blk.new W t _
    · exact (h.2 x hx).alloc _⟩
theorem Env.other (h : Env w0 W l) (o : Obj) : Env w0 (W.alloc o) l := ⟨h.1.alloc h.1.size _, fun x hx => (h.2 x hx).alloc _⟩
theorem Env.drop (h : Env w0 W l) (n : Nat) : Env w0 W (l.drop n) := ⟨h.1, fun x hx => h.2 x (List.mem_of_mem_drop hx)⟩
theorem Env.at_ (h : Env w0 W l) (i : Nat) (hx : l[i]? = some (g, t, cs)) : Blk W g t cs := h.2 _ (List.mem_of_getElem? hx)
end
/-- what stands behind the first n statements of a function's text -/
def codeRest : Nat → Code → Code
  | n + 1, .seq _ b => codeRest n b
  | _, c => c
def bodyOf (f : Func) : Code := f.body.getD .skip
/-- Of, of a number whose form is known -/
theorem of_form {w : World} {z : Int} {s : Bool} {b : ByteArray} (h1 : -9223372036854775808 ≤ z) (h2 : z ≤ 9223372036854775807) (he : enc z = .agg #[.bool s, .string b]) :
    Calls Try.prog 41 #[.int .i64 z] w (fun e w' => e = .returned (.agg #[.bool s, .string b]) ∧ Below w.heap.size w w') := by
  have h := of64_any (w := w) h1 h2
  rw [he] at h
  exact h
end Go.Proofs.Ytpnginnjbdedbaa

/- law.works (printed by gen_works.py). -/
namespace Go.Proofs.Ytpnginnjbdedbaa
open Go.RowKit
open Wh
set_option linter.unusedSimpArgs false

theorem txt300 : (⟨(txt (-300)).toArray⟩ : ByteArray) = ⟨#[45, 51, 48, 48]⟩ := by
  have h : txt (-300) = [45, 51, 48, 48] := by
    unfold txt
    rw [if_neg (by decide), if_pos (by decide), show (-300 : Int).natAbs = 300 from rfl, dec_pos (by decide), dec_pos (n := 300 / 10) (by decide), dec_pos (n := 300 / 10 / 10) (by decide), show 300 / 10 / 10 / 10 = 0 from rfl, dec_zero]
    rfl
  rw [h]
set_option maxRecDepth 100000 in
set_option maxHeartbeats 4000000 in
theorem works_any {w : World} : Calls Try.prog 13 #[] w (fun e w' => e = .returned (.bool true) ∧ Below w.heap.size w w') := by
  obtain ⟨s7, b7, e7, n7, m7⟩ := enc_form (z := -7) (fits_small (by decide))
  have HO7 := Lib.hid (fun W : World => of_form (w := W) (by decide) (by decide) e7)
  obtain ⟨s2, b2, e2, n2, m2⟩ := enc_form (z := 2) (fits_small (by decide))
  have HO2 := Lib.hid (fun W : World => of_form (w := W) (by decide) (by decide) e2)
  obtain ⟨s4, b4, e4, n4, m4⟩ := enc_form (z := -4) (fits_small (by decide))
  have HO4 := Lib.hid (fun W : World => of_form (w := W) (by decide) (by decide) e4)
  obtain ⟨s1, b1, e1, n1, m1⟩ := enc_form (z := 1) (fits_small (by decide))
  have HO1 := Lib.hid (fun W : World => of_form (w := W) (by decide) (by decide) e1)
  obtain ⟨s12, b12, e12, n12, m12⟩ := enc_form (z := 12) (fits_small (by decide))
  have HO12 := Lib.hid (fun W : World => of_form (w := W) (by decide) (by decide) e12)
  obtain ⟨s18, b18, e18, n18, m18⟩ := enc_form (z := -18) (fits_small (by decide))
  have HO18 := Lib.hid (fun W : World => of_form (w := W) (by decide) (by decide) e18)
  obtain ⟨s6, b6, e6, n6, m6⟩ := enc_form (z := 6) (fits_small (by decide))
  have HO6 := Lib.hid (fun W : World => of_form (w := W) (by decide) (by decide) e6)
  obtain ⟨s3, b3, e3, n3, m3⟩ := enc_form (z := -300) (fits_small (by decide))
  have HO3 := Lib.hid (fun W : World => of_form (w := W) (by decide) (by decide) e3)
  have HD := Lib.hid (fun W : World => wdiv_any (w := W) (na := s7) (sa := b7) (nb := s2) (sb := b2))
  have HG := Lib.hid (fun W : World => wgcd_any (c := 2) (blk_pair (w := W) (s12, b12) (s18, b18)) (by simp) rfl (by simp))
  have HT := Lib.hid (fun W : World => text_any (w := W) (na := s3) (sa := b3))
  have HN := Lib.hid (fun (W : World) (n : Int) => num_any (w := W) (n := n))
  have HK := Lib.hid (fun W : World => check_no (w := W) (neg := true) (s := ⟨#[]⟩) (fun h => absurd (h.2.1 rfl) (by decide)))
  have Hq := Lib.hid (And.intro (And.intro m7 m2 : May2 (s7, b7) (s2, b2)) (And.intro (show num (s2, b2) ≠ 0 by rw [n2]; decide) (And.intro (show enc (num (s7, b7) / num (s2, b2)) = .agg #[.bool s4, .string b4] by rw [n7, n2]; exact e4) (show enc (num (s7, b7) % num (s2, b2)) = .agg #[.bool s1, .string b1] by rw [n7, n2]; exact e1))))
  have Hg := Lib.hid (And.intro (may2_all.2 (And.intro m12 m18 : May2 (s12, b12) (s18, b18))) (And.intro (show fits (gcdl ([(s12, b12), (s18, b18)].map num) : Int) by rw [List.map_cons, List.map_cons, n12, n18]; exact fits_small (by decide)) (show enc (gcdl ([(s12, b12), (s18, b18)].map num) : Int) = .agg #[.bool s6, .string b6] by rw [List.map_cons, List.map_cons, n12, n18]; exact e6)))
  have Ht := Lib.hid (And.intro m3 (show (⟨(txt (num (s3, b3))).toArray⟩ : ByteArray) = ⟨#[45, 51, 48, 48]⟩ by rw [n3]; exact txt300))
  have E0 := Lib.hid (Env.nil w)
  clear e7 n7 m7 e2 n2 m2 e4 n4 m4 e1 n1 m1 e12 n12 m12 e18 n18 m18 e6 n6 m6 e3 n3 m3
  go_enter Try.func13, Try.ntmps13
  go_upto_region 1 with fail
  go_wp2_with fail
  refine (HO7.out w).mono ?_
  rintro e w1 ⟨rfl, h1⟩
  have E2 := Lib.hid (E0.out.call h1)
  clear h1
  go_wp2_with fail
  refine (HO2.out w1).mono ?_
  rintro e w3 ⟨rfl, h3⟩
  have E4 := Lib.hid (E2.out.call h3)
  clear h3
  go_wp2_with fail
  refine (HD.out w3).mono ?_
  rintro e w5 ⟨_, _, e3, h5⟩
  have e3 := e3 Hq.out.1 Hq.out.2.1
  rw [Hq.out.2.2.1, Hq.out.2.2.2] at e3
  subst e3
  have E6 := Lib.hid (E4.out.call h5)
  clear h5
  go_upto_region 2 with fail
  have E7 : Hid (Env w ((w5.alloc (.cells #[.bool s4, .string b4] 26)).alloc (.cells #[.bool s1, .string b1] 26)) [(w5.heap.size + 1, 26, #[.bool s1, .string b1]), (w5.heap.size, 26, #[.bool s4, .string b4])]) := Lib.hid (by have h := (Env.new (Env.new E6.out 26 #[.bool s4, .string b4]) 26 #[.bool s1, .string b1]); (try simp only [World.size_alloc] at h); exact h)
  generalize ((w5.alloc (.cells #[.bool s4, .string b4] 26)).alloc (.cells #[.bool s1, .string b1] 26)) = W7 at E7 ⊢
  go_wp2_with fail
  refine (HO12.out W7).mono ?_
  rintro e w8 ⟨rfl, h8⟩
  have E9 := Lib.hid (E7.out.call h8)
  clear h8
  go_wp2_with fail
  refine (HO18.out w8).mono ?_
  rintro e w10 ⟨rfl, h10⟩
  have E11 := Lib.hid (E9.out.call h10)
  clear h10
  go_wp2_with fail
  refine (HG.out _).mono ?_
  rintro e w12 ⟨e3, _, _, h12⟩
  have e3 := e3 Hg.out.1 Hg.out.2.1
  rw [Hg.out.2.2] at e3
  subst e3
  have E13 := Lib.hid ((Env.other E11.out (.cells #[.bool s12, .string b12, .bool s18, .string b18] 26)).call h12)
  clear h12
  go_upto_region 3 with fail
  have E14 : Hid (Env w (w12.alloc (.cells #[.bool s6, .string b6] 26)) [(w12.heap.size, 26, #[.bool s6, .string b6]), (w5.heap.size + 1, 26, #[.bool s1, .string b1]), (w5.heap.size, 26, #[.bool s4, .string b4])]) := Lib.hid (by have h := (Env.new E13.out 26 #[.bool s6, .string b6]); (try simp only [World.size_alloc] at h); exact h)
  generalize (w12.alloc (.cells #[.bool s6, .string b6] 26)) = W14 at E14 ⊢
  go_wp2_with fail
  refine (HO3.out W14).mono ?_
  rintro e w15 ⟨rfl, h15⟩
  have E16 := Lib.hid (E14.out.call h15)
  clear h15
  go_wp2_with fail
  refine (HT.out _).mono ?_
  rintro e w17 ⟨e3, _, h17⟩
  have e3 := e3 Ht.out.1
  rw [Ht.out.2] at e3
  subst e3
  have E18 := Lib.hid (E16.out.call h17)
  clear h17
  go_upto_region 4 with fail
  skip
  refine wp_region_noPanic ?_
  refine wp_region_held_drew (S := fun w' => Env w w' [(w12.heap.size, 26, #[.bool s6, .string b6]), (w5.heap.size + 1, 26, #[.bool s1, .string b1]), (w5.heap.size, 26, #[.bool s4, .string b4])]) (by kernel_rfl) (Env.drew E18.out) (fun hHeld => ?_)
  refine wpAnyH_take (i := 0) (oi := Oper.mk (some 27) _ _ _ _ _) (v := ?_) rfl (by kernel_rfl) (by kernel_rfl) (by kernel_rfl) (fun _ _ _ h => h) (Or.inl ⟨by rfl, ?_⟩) (by assumption) ?_
  rotate_left
  · (intro w' hSw; (try dsimp only at hSw); go_simp; try with_reducible rfl)
  try simp only [Act.put, List.setIfInBounds_toArray, List.set_cons_zero, List.set_cons_succ]
  refine wpAnyH_ready (rs := [1]) (by kernel_rfl) (by simp) ?_
  refine AllReadyH.cons (o := Oper.mk (some 28) _ _ _ _ _) rfl (fun K hK => ?_) AllReadyH.nil
  go_simp
  refine (HN.out _ 0).mono ?_
  rintro e w19 ⟨rfl, h19⟩
  subst h19
  have hNext := hHeld
  refine hK.out _ _ hNext (fun _ => ?_)
  clear hK K hHeld
  have hHeld := hNext
  clear hNext
  try simp only [Act.put, List.setIfInBounds_toArray, List.set_cons_zero, List.set_cons_succ]
  refine wpAnyH_take (i := 2) (oi := Oper.mk (some 29) _ _ _ _ _) (v := ?_) rfl (by kernel_rfl) (by kernel_rfl) (by kernel_rfl) (fun _ _ _ h => h) (Or.inl ⟨by rfl, ?_⟩) (by assumption) ?_
  rotate_left
  · (intro w' hSw; (try dsimp only at hSw); go_simp; try with_reducible rfl)
  try simp only [Act.put, List.setIfInBounds_toArray, List.set_cons_zero, List.set_cons_succ]
  refine wpAnyH_take (i := 3) (oi := Oper.mk (some 30) _ _ _ _ _) (v := ?_) rfl (by kernel_rfl) (by kernel_rfl) (by kernel_rfl) (fun _ _ _ h => h) (Or.inl ⟨by rfl, ?_⟩) (by assumption) ?_
  rotate_left
  · (intro w' hSw; (try dsimp only at hSw); go_simp; try with_reducible rfl)
  try simp only [Act.put, List.setIfInBounds_toArray, List.set_cons_zero, List.set_cons_succ]
  refine wpAnyH_take (i := 4) (oi := Oper.mk (some 31) _ _ _ _ _) (v := ?_) rfl (by kernel_rfl) (by kernel_rfl) (by kernel_rfl) (fun _ _ _ h => h) (Or.inl ⟨by rfl, ?_⟩) (by assumption) ?_
  rotate_left
  · (intro w' hSw; (try dsimp only at hSw); have a0 : w'.cell? ⟨w5.heap.size, 0, none⟩ = some (.bool s4) := (Env.at_ hSw 2 rfl).cell 0; have a1 : w'.cell? ⟨w5.heap.size, 1, none⟩ = some (.string b4) := (Env.at_ hSw 2 rfl).cell 1; go_simp; try with_reducible rfl)
  try simp only [Act.put, List.setIfInBounds_toArray, List.set_cons_zero, List.set_cons_succ]
  refine wpAnyH_ready (rs := [5]) (by kernel_rfl) (by simp) ?_
  refine AllReadyH.cons (o := Oper.mk (some 32) _ _ _ _ _) rfl (fun K hK => ?_) AllReadyH.nil
  go_simp
  refine (HO4.out w17.drew).mono ?_
  rintro e w20 ⟨rfl, h20⟩
  have hNext := hHeld.call h20
  refine hK.out _ _ hNext (fun _ => ?_)
  clear hK K hHeld h20
  have hHeld := hNext
  clear hNext
  try simp only [Act.put, List.setIfInBounds_toArray, List.set_cons_zero, List.set_cons_succ]
  refine wpAnyH_take (i := 6) (oi := Oper.mk (some 33) _ _ _ _ _) (v := ?_) rfl (by kernel_rfl) (by kernel_rfl) (by kernel_rfl) (fun _ _ _ h => h) (Or.inl ⟨by rfl, ?_⟩) (by assumption) ?_
  rotate_left
  · (intro w' hSw; (try dsimp only at hSw); go_simp; try with_reducible rfl)
  try simp only [Act.put, List.setIfInBounds_toArray, List.set_cons_zero, List.set_cons_succ]
  refine wpAnyH_take (i := 7) (oi := Oper.mk (some 34) _ _ _ _ _) (v := ?_) rfl (by kernel_rfl) (by kernel_rfl) (by kernel_rfl) (fun _ _ _ h => h) (Or.inl ⟨by rfl, ?_⟩) (by assumption) ?_
  rotate_left
  · (intro w' hSw; (try dsimp only at hSw); go_simp; try with_reducible rfl)
  try simp only [Act.put, List.setIfInBounds_toArray, List.set_cons_zero, List.set_cons_succ]
  refine wpAnyH_take (i := 8) (oi := Oper.mk (some 35) _ _ _ _ _) (v := ?_) rfl (by kernel_rfl) (by kernel_rfl) (by kernel_rfl) (fun _ _ _ h => h) (Or.inl ⟨by rfl, ?_⟩) (by assumption) ?_
  rotate_left
  · (intro w' hSw; (try dsimp only at hSw); go_simp; try with_reducible rfl)
  try simp only [Act.put, List.setIfInBounds_toArray, List.set_cons_zero, List.set_cons_succ]
  refine wpAnyH_take (i := 9) (oi := Oper.mk (some 36) _ _ _ _ _) (v := ?_) rfl (by kernel_rfl) (by kernel_rfl) (by kernel_rfl) (fun _ _ _ h => h) (Or.inl ⟨by rfl, ?_⟩) (by assumption) ?_
  rotate_left
  · (intro w' hSw; (try dsimp only at hSw); have a0 : w'.cell? ⟨w5.heap.size + 1, 0, none⟩ = some (.bool s1) := (Env.at_ hSw 1 rfl).cell 0; have a1 : w'.cell? ⟨w5.heap.size + 1, 1, none⟩ = some (.string b1) := (Env.at_ hSw 1 rfl).cell 1; go_simp; try with_reducible rfl)
  try simp only [Act.put, List.setIfInBounds_toArray, List.set_cons_zero, List.set_cons_succ]
  refine wpAnyH_ready (rs := [10]) (by kernel_rfl) (by simp) ?_
  refine AllReadyH.cons (o := Oper.mk (some 37) _ _ _ _ _) rfl (fun K hK => ?_) AllReadyH.nil
  go_simp
  refine (HO1.out w20).mono ?_
  rintro e w21 ⟨rfl, h21⟩
  have hNext := hHeld.call h21
  refine hK.out _ _ hNext (fun _ => ?_)
  clear hK K hHeld h21
  have hHeld := hNext
  clear hNext
  try simp only [Act.put, List.setIfInBounds_toArray, List.set_cons_zero, List.set_cons_succ]
  refine wpAnyH_take (i := 11) (oi := Oper.mk (some 38) _ _ _ _ _) (v := ?_) rfl (by kernel_rfl) (by kernel_rfl) (by kernel_rfl) (fun _ _ _ h => h) (Or.inl ⟨by rfl, ?_⟩) (by assumption) ?_
  rotate_left
  · (intro w' hSw; (try dsimp only at hSw); go_simp; try with_reducible rfl)
  try simp only [Act.put, List.setIfInBounds_toArray, List.set_cons_zero, List.set_cons_succ]
  refine wpAnyH_take (i := 12) (oi := Oper.mk (some 39) _ _ _ _ _) (v := ?_) rfl (by kernel_rfl) (by kernel_rfl) (by kernel_rfl) (fun _ _ _ h => h) (Or.inl ⟨by rfl, ?_⟩) (by assumption) ?_
  rotate_left
  · (intro w' hSw; (try dsimp only at hSw); go_simp; try with_reducible rfl)
  try simp only [Act.put, List.setIfInBounds_toArray, List.set_cons_zero, List.set_cons_succ]
  refine wpAnyH_take (i := 13) (oi := Oper.mk (some 40) _ _ _ _ _) (v := ?_) rfl (by kernel_rfl) (by kernel_rfl) (by kernel_rfl) (fun _ _ _ h => h) (Or.inl ⟨by rfl, ?_⟩) (by assumption) ?_
  rotate_left
  · (intro w' hSw; (try dsimp only at hSw); go_simp; try with_reducible rfl)
  try simp only [Act.put, List.setIfInBounds_toArray, List.set_cons_zero, List.set_cons_succ]
  refine wpAnyH_take (i := 14) (oi := Oper.mk (some 41) _ _ _ _ _) (v := ?_) rfl (by kernel_rfl) (by kernel_rfl) (by kernel_rfl) (fun _ _ _ h => h) (Or.inl ⟨by rfl, ?_⟩) (by assumption) ?_
  rotate_left
  · (intro w' hSw; (try dsimp only at hSw); go_simp; try with_reducible rfl)
  try simp only [Act.put, List.setIfInBounds_toArray, List.set_cons_zero, List.set_cons_succ]
  refine wpAnyH_ready (rs := [15]) (by kernel_rfl) (by simp) ?_
  refine AllReadyH.cons (o := Oper.mk (some 42) _ _ _ _ _) rfl (fun K hK => ?_) AllReadyH.nil
  go_simp
  refine (HN.out _ 0).mono ?_
  rintro e w22 ⟨rfl, h22⟩
  subst h22
  have hNext := hHeld
  refine hK.out _ _ hNext (fun _ => ?_)
  clear hK K hHeld
  have hHeld := hNext
  clear hNext
  try simp only [Act.put, List.setIfInBounds_toArray, List.set_cons_zero, List.set_cons_succ]
  refine wpAnyH_take (i := 16) (oi := Oper.mk (some 43) _ _ _ _ _) (v := ?_) rfl (by kernel_rfl) (by kernel_rfl) (by kernel_rfl) (fun _ _ _ h => h) (Or.inl ⟨by rfl, ?_⟩) (by assumption) ?_
  rotate_left
  · (intro w' hSw; (try dsimp only at hSw); go_simp; try with_reducible rfl)
  try simp only [Act.put, List.setIfInBounds_toArray, List.set_cons_zero, List.set_cons_succ]
  refine wpAnyH_take (i := 17) (oi := Oper.mk (some 44) _ _ _ _ _) (v := ?_) rfl (by kernel_rfl) (by kernel_rfl) (by kernel_rfl) (fun _ _ _ h => h) (Or.inl ⟨by rfl, ?_⟩) (by assumption) ?_
  rotate_left
  · (intro w' hSw; (try dsimp only at hSw); go_simp; try with_reducible rfl)
  try simp only [Act.put, List.setIfInBounds_toArray, List.set_cons_zero, List.set_cons_succ]
  refine wpAnyH_take (i := 18) (oi := Oper.mk (some 45) _ _ _ _ _) (v := ?_) rfl (by kernel_rfl) (by kernel_rfl) (by kernel_rfl) (fun _ _ _ h => h) (Or.inl ⟨by rfl, ?_⟩) (by assumption) ?_
  rotate_left
  · (intro w' hSw; (try dsimp only at hSw); go_simp; try with_reducible rfl)
  try simp only [Act.put, List.setIfInBounds_toArray, List.set_cons_zero, List.set_cons_succ]
  refine wpAnyH_take (i := 19) (oi := Oper.mk (some 46) _ _ _ _ _) (v := ?_) rfl (by kernel_rfl) (by kernel_rfl) (by kernel_rfl) (fun _ _ _ h => h) (Or.inl ⟨by rfl, ?_⟩) (by assumption) ?_
  rotate_left
  · (intro w' hSw; (try dsimp only at hSw); have a0 : w'.cell? ⟨w12.heap.size, 0, none⟩ = some (.bool s6) := (Env.at_ hSw 0 rfl).cell 0; have a1 : w'.cell? ⟨w12.heap.size, 1, none⟩ = some (.string b6) := (Env.at_ hSw 0 rfl).cell 1; go_simp; try with_reducible rfl)
  try simp only [Act.put, List.setIfInBounds_toArray, List.set_cons_zero, List.set_cons_succ]
  refine wpAnyH_ready (rs := [20]) (by kernel_rfl) (by simp) ?_
  refine AllReadyH.cons (o := Oper.mk (some 47) _ _ _ _ _) rfl (fun K hK => ?_) AllReadyH.nil
  go_simp
  refine (HO6.out w21).mono ?_
  rintro e w23 ⟨rfl, h23⟩
  have hNext := hHeld.call h23
  refine hK.out _ _ hNext (fun _ => ?_)
  clear hK K hHeld h23
  have hHeld := hNext
  clear hNext
  try simp only [Act.put, List.setIfInBounds_toArray, List.set_cons_zero, List.set_cons_succ]
  refine wpAnyH_take (i := 21) (oi := Oper.mk (some 48) _ _ _ _ _) (v := ?_) rfl (by kernel_rfl) (by kernel_rfl) (by kernel_rfl) (fun _ _ _ h => h) (Or.inl ⟨by rfl, ?_⟩) (by assumption) ?_
  rotate_left
  · (intro w' hSw; (try dsimp only at hSw); go_simp; try with_reducible rfl)
  try simp only [Act.put, List.setIfInBounds_toArray, List.set_cons_zero, List.set_cons_succ]
  refine wpAnyH_take (i := 22) (oi := Oper.mk (some 49) _ _ _ _ _) (v := ?_) rfl (by kernel_rfl) (by kernel_rfl) (by kernel_rfl) (fun _ _ _ h => h) (Or.inl ⟨by rfl, ?_⟩) (by assumption) ?_
  rotate_left
  · (intro w' hSw; (try dsimp only at hSw); go_simp; try with_reducible rfl)
  try simp only [Act.put, List.setIfInBounds_toArray, List.set_cons_zero, List.set_cons_succ]
  refine wpAnyH_take (i := 23) (oi := Oper.mk (some 50) _ _ _ _ _) (v := ?_) rfl (by kernel_rfl) (by kernel_rfl) (by kernel_rfl) (fun _ _ _ h => h) (Or.inl ⟨by rfl, ?_⟩) (by assumption) ?_
  rotate_left
  · (intro w' hSw; (try dsimp only at hSw); go_simp; try with_reducible rfl)
  try simp only [Act.put, List.setIfInBounds_toArray, List.set_cons_zero, List.set_cons_succ]
  refine wpAnyH_take (i := 24) (oi := Oper.mk (some 51) _ _ _ _ _) (v := ?_) rfl (by kernel_rfl) (by kernel_rfl) (by kernel_rfl) (fun _ _ _ h => h) (Or.inl ⟨by rfl, ?_⟩) (by assumption) ?_
  rotate_left
  · (intro w' hSw; (try dsimp only at hSw); go_simp; try with_reducible rfl)
  try simp only [Act.put, List.setIfInBounds_toArray, List.set_cons_zero, List.set_cons_succ]
  refine wpAnyH_ready (rs := [25]) (by kernel_rfl) (by simp) ?_
  refine AllReadyH.cons (o := Oper.mk (some 52) _ _ _ _ _) rfl (fun K hK => ?_) AllReadyH.nil
  go_simp
  refine (HN.out _ 0).mono ?_
  rintro e w24 ⟨rfl, h24⟩
  subst h24
  have hNext := hHeld
  refine hK.out _ _ hNext (fun _ => ?_)
  clear hK K hHeld
  have hHeld := hNext
  clear hNext
  try simp only [Act.put, List.setIfInBounds_toArray, List.set_cons_zero, List.set_cons_succ]
  refine wpAnyH_take (i := 26) (oi := Oper.mk (some 53) _ _ _ _ _) (v := ?_) rfl (by kernel_rfl) (by kernel_rfl) (by kernel_rfl) (fun _ _ _ h => h) (Or.inl ⟨by rfl, ?_⟩) (by assumption) ?_
  rotate_left
  · (intro w' hSw; (try dsimp only at hSw); go_simp; try with_reducible rfl)
  try simp only [Act.put, List.setIfInBounds_toArray, List.set_cons_zero, List.set_cons_succ]
  refine wpAnyH_take (i := 27) (oi := Oper.mk (some 54) _ _ _ _ _) (v := ?_) rfl (by kernel_rfl) (by kernel_rfl) (by kernel_rfl) (fun _ _ _ h => h) (Or.inl ⟨by rfl, ?_⟩) (by assumption) ?_
  rotate_left
  · (intro w' hSw; (try dsimp only at hSw); go_simp; try with_reducible rfl)
  try simp only [Act.put, List.setIfInBounds_toArray, List.set_cons_zero, List.set_cons_succ]
  refine wpAnyH_take (i := 28) (oi := Oper.mk (some 55) _ _ _ _ _) (v := ?_) rfl (by kernel_rfl) (by kernel_rfl) (by kernel_rfl) (fun _ _ _ h => h) (Or.inl ⟨by rfl, ?_⟩) (by assumption) ?_
  rotate_left
  · (intro w' hSw; (try dsimp only at hSw); go_simp; try with_reducible rfl)
  try simp only [Act.put, List.setIfInBounds_toArray, List.set_cons_zero, List.set_cons_succ]
  refine wpAnyH_take (i := 29) (oi := Oper.mk (some 56) _ _ _ _ _) (v := ?_) rfl (by kernel_rfl) (by kernel_rfl) (by kernel_rfl) (fun _ _ _ h => h) (Or.inl ⟨by rfl, ?_⟩) (by assumption) ?_
  rotate_left
  · (intro w' hSw; (try dsimp only at hSw); go_simp; try with_reducible rfl)
  try simp only [Act.put, List.setIfInBounds_toArray, List.set_cons_zero, List.set_cons_succ]
  refine wpAnyH_take (i := 30) (oi := Oper.mk (some 57) _ _ _ _ _) (v := ?_) rfl (by kernel_rfl) (by kernel_rfl) (by kernel_rfl) (fun _ _ _ h => h) (Or.inl ⟨by rfl, ?_⟩) (by assumption) ?_
  rotate_left
  · (intro w' hSw; (try dsimp only at hSw); go_simp; try with_reducible rfl)
  try simp only [Act.put, List.setIfInBounds_toArray, List.set_cons_zero, List.set_cons_succ]
  refine wpAnyH_take (i := 31) (oi := Oper.mk (some 58) _ _ _ _ _) (v := ?_) rfl (by kernel_rfl) (by kernel_rfl) (by kernel_rfl) (fun _ _ _ h => h) (Or.inl ⟨by rfl, ?_⟩) (by assumption) ?_
  rotate_left
  · (intro w' hSw; (try dsimp only at hSw); go_simp; try with_reducible rfl)
  try simp only [Act.put, List.setIfInBounds_toArray, List.set_cons_zero, List.set_cons_succ]
  refine wpAnyH_take (i := 32) (oi := Oper.mk (some 59) _ _ _ _ _) (v := ?_) rfl (by kernel_rfl) (by kernel_rfl) (by kernel_rfl) (fun _ _ _ h => h) (Or.inl ⟨by rfl, ?_⟩) (by assumption) ?_
  rotate_left
  · (intro w' hSw; (try dsimp only at hSw); go_simp; try with_reducible rfl)
  try simp only [Act.put, List.setIfInBounds_toArray, List.set_cons_zero, List.set_cons_succ]
  refine wpAnyH_take (i := 33) (oi := Oper.mk (some 60) _ _ _ _ _) (v := ?_) rfl (by kernel_rfl) (by kernel_rfl) (by kernel_rfl) (fun _ _ _ h => h) (Or.inl ⟨by rfl, ?_⟩) (by assumption) ?_
  rotate_left
  · (intro w' hSw; (try dsimp only at hSw); go_simp; try with_reducible rfl)
  try simp only [Act.put, List.setIfInBounds_toArray, List.set_cons_zero, List.set_cons_succ]
  refine wpAnyH_ready (rs := [34]) (by kernel_rfl) (by simp) ?_
  refine AllReadyH.cons (o := Oper.mk (some 61) _ _ _ _ _) rfl (fun K hK => ?_) AllReadyH.nil
  go_simp
  refine (HK.out _).mono ?_
  rintro e w25 ⟨rfl, h25⟩
  have hNext := hHeld.call h25
  refine hK.out _ _ hNext (fun _ => ?_)
  clear hK K hHeld h25
  have hHeld := hNext
  clear hNext
  try simp only [Act.put, List.setIfInBounds_toArray, List.set_cons_zero, List.set_cons_succ]
  refine wpAnyH_ready (rs := [35]) (by kernel_rfl) (by simp) ?_
  refine AllReadyH.cons (o := Oper.mk (some 62) _ _ _ _ _) rfl (fun K hK => ?_) AllReadyH.nil
  go_simp
  refine (HN.out _ 2).mono ?_
  rintro e w26 ⟨rfl, h26⟩
  subst h26
  have hNext := hHeld
  refine hK.out _ _ hNext (fun _ => ?_)
  clear hK K hHeld
  have hHeld := hNext
  clear hNext
  try simp only [Act.put, List.setIfInBounds_toArray, List.set_cons_zero, List.set_cons_succ]
  refine wpAnyH_take (i := 36) (oi := Oper.mk (some 63) _ _ _ _ _) (v := ?_) rfl (by kernel_rfl) (by kernel_rfl) (by kernel_rfl) (fun _ _ _ h => h) (Or.inl ⟨by rfl, ?_⟩) (by assumption) ?_
  rotate_left
  · (intro w' hSw; (try dsimp only at hSw); go_simp; try with_reducible rfl)
  try simp only [Act.put, List.setIfInBounds_toArray, List.set_cons_zero, List.set_cons_succ]
  refine wpAnyH_take (i := 37) (oi := Oper.mk (some 64) _ _ _ _ _) (v := ?_) rfl (by kernel_rfl) (by kernel_rfl) (by kernel_rfl) (fun _ _ _ h => h) (Or.inl ⟨by rfl, ?_⟩) (by assumption) ?_
  rotate_left
  · (intro w' hSw; (try dsimp only at hSw); go_simp; try with_reducible rfl)
  try simp only [Act.put, List.setIfInBounds_toArray, List.set_cons_zero, List.set_cons_succ]
  refine wpAnyH_take (i := 38) (oi := Oper.mk (some 0) _ _ _ _ _) (v := ?_) rfl (by kernel_rfl) (by kernel_rfl) (by kernel_rfl) (fun _ _ _ h => h) (Or.inl ⟨by rfl, ?_⟩) (by assumption) ?_
  rotate_left
  · (intro w' hSw; (try dsimp only at hSw); go_simp; try with_reducible rfl)
  try simp only [Act.put, List.setIfInBounds_toArray, List.set_cons_zero, List.set_cons_succ]
  refine wpAnyH_done (by kernel_rfl) ?_ _
  refine NoPanic.normal ?_
  have E27 := Lib.hid hHeld
  clear hHeld
  go_wp2_with fail
  go_ret
  exact ⟨rfl, E27.out.1⟩
end Go.Proofs.Ytpnginnjbdedbaa
