import Derived.Test.YtebpggfccljagaaGreatDoorC10
import Derived.Test.YtebpggfccljagaaGreatDoorC6
import Derived.Test.YtebpggfccljagaaGreatDoorC5
import Derived.Test.YtebpggfccljagaaGreatDoorC4
import Derived.Test.YtebpggfccljagaaGreatDoorC9
/- Rat.SetInt, SetInt64; frac.Int at nought (printed by gen_setint.py). -/
namespace Go.Proofs.YtebpggfccljagaaGreatDoor
open Go.RowKit
open Wh
set_option linter.unusedSimpArgs false
set_option linter.unusedVariables false

theorem grow_trans {a b c : World} {r : Option Nat} (h : a.grownBy b r) (h2 : b.grownBy c r) : a.grownBy c r :=
  ⟨h2.os.trans h.os, h2.tape.trans h.tape, h2.output.trans h.output, Nat.le_trans h.size h2.size, fun i hi hne => (h2.block i (Nat.lt_of_lt_of_le hi h.size) hne).trans (h.block i hi hne)⟩
theorem grown_of_below {a b : World} {r : Option Nat} (h : Below a.heap.size a b) : a.grownBy b r := ⟨h.os, h.tape, h.output, h.size, fun i hi _ => h.block i hi⟩
set_option maxRecDepth 100000 in
set_option maxHeartbeats 4000000 in
theorem ratint_any {w : World} {g gx : Nat} {x : Int} (hz : RatS w g) (hx : IntB w gx x) (hgx : gx ≠ g) (hxl : (wds x.natAbs).length ≤ 900000000) :
    Calls Tryz.prog 139 #[.pointer (some ⟨g, 0, none⟩), .pointer (some ⟨gx, 0, none⟩)] w (fun e w' => e = .returned (.pointer (some ⟨g, 0, none⟩)) ∧ RatB w' g x 1 ∧ w.grownBy w' (some g)) := by
  have HA := Lib.hid (And.intro hz (And.intro hx hgx))
  have HL := Lib.hid hxl
  have hgl := hz.lt
  clear hz hx hgx hxl
  go_enter Tryz.func139, Tryz.ntmps139
  go_wp2_with fail
  refine wp_region_noPanic ?_
  refine wp_region_held_drew (S := fun w' => World.grownBy (w) w' (some g)) (by kernel_rfl) (grown_of_below (r := some g) (Below.refl w.heap.size w).drew) (fun hHeld => ?_)
  refine wpAnyH_take (i := 0) (oi := Oper.mk (some 5) _ _ _ _ _) (v := ?_) rfl (by kernel_rfl) (by kernel_rfl) (by kernel_rfl) (fun _ _ _ h => h) (Or.inl ⟨by rfl, ?_⟩) (by assumption) ?_
  rotate_left
  · (intro w' hSw; (try dsimp only at hSw); go_simp; try with_reducible rfl)
  try simp only [Act.put, List.setIfInBounds_toArray, List.set_cons_zero, List.set_cons_succ]
  refine wpAnyH_take (i := 1) (oi := Oper.mk (some 6) _ _ _ _ _) (v := ?_) rfl (by kernel_rfl) (by kernel_rfl) (by kernel_rfl) (fun _ _ _ h => h) (Or.inl ⟨by rfl, ?_⟩) (by assumption) ?_
  rotate_left
  · (intro w' hSw; (try dsimp only at hSw); go_simp; try with_reducible rfl)
  try simp only [Act.put, List.setIfInBounds_toArray, List.set_cons_zero, List.set_cons_succ]
  refine wpAnyH_take (i := 3) (oi := Oper.mk (some 8) _ _ _ _ _) (v := ?_) rfl (by kernel_rfl) (by kernel_rfl) (by kernel_rfl) (fun _ _ _ h => h) (Or.inl ⟨by rfl, ?_⟩) (by assumption) ?_
  rotate_left
  · (intro w' hSw; (try dsimp only at hSw); go_simp; try with_reducible rfl)
  try simp only [Act.put, List.setIfInBounds_toArray, List.set_cons_zero, List.set_cons_succ]
  refine wpAnyH_ready (rs := [2]) (by kernel_rfl) (by simp) ?_
  refine AllReadyH.cons (o := Oper.mk (some 7) _ _ _ _ _) rfl (fun K hK => ?_) AllReadyH.nil
  go_simp
  refine hK.out _ _ (grown_of_below (r := some g) ((Below.refl w.heap.size w).alloc (Nat.le_refl _) _).drew) (fun _ => ?_)
  clear hK K hHeld
  have hHeld := (grown_of_below (r := some g) ((Below.refl w.heap.size w).alloc (Nat.le_refl _) (.cells #[.bool false, .slice none 0 0] 151)).drew)
  try simp only [Act.put, List.setIfInBounds_toArray, List.set_cons_zero, List.set_cons_succ]
  refine wpAnyH_ready (rs := [4]) (by kernel_rfl) (by simp) ?_
  refine AllReadyH.cons (o := Oper.mk (some 9) _ _ _ _ _) rfl (fun K hK => ?_) AllReadyH.nil
  go_simp
  have hz7 : IntS (w.alloc (.cells #[.bool false, .slice none 0 0] 151)) w.heap.size := (IntB.zero w).slot
  refine (set_any (w := (w.alloc (.cells #[.bool false, .slice none 0 0] 151)).drew) hz7 (HA.out.2.1.below (new_below _ _).drew) HL.out).mono ?_
  rintro _ W1 ⟨rfl, hi1, hg1⟩
  have hg1z : World.grownBy (w.alloc (.cells #[.bool false, .slice none 0 0] 151)) W1 (some w.heap.size) := ⟨hg1.os, hg1.tape, hg1.output, hg1.size, hg1.block⟩
  have hb1 : Below w.heap.size w W1 := below_new hg1z
  obtain ⟨s1, A1, n1, c1, p0, p1, Hp, hp1, hp2, hpr⟩ := hi1.opened
  have hl1 := hi1.lt
  have hne1 : w.heap.size ≠ g := by omega
  refine hK.out _ _ (grown_of_below (r := some g) hb1) (fun _ => ?_)
  clear hK K hHeld
  refine wpAnyH_more (S' := fun w' => World.grownBy (W1) w' (some g)) (fun w' h => grow_trans ((grown_of_below (r := some g) hb1)) h) ?_
  have hHeld := (World.grownBy.refl W1 (some g))
  try simp only [Act.put, List.setIfInBounds_toArray, List.set_cons_zero, List.set_cons_succ]
  refine wpAnyH_take (i := 5) (oi := Oper.mk (some 10) _ _ _ _ _) (v := ?_) rfl (by kernel_rfl) (by kernel_rfl) (by kernel_rfl) (fun _ _ _ h => h) (Or.inl ⟨by rfl, ?_⟩) (by assumption) ?_
  rotate_left
  · (intro w' hSw; (try dsimp only at hSw); go_simp; try with_reducible rfl)
  try simp only [Act.put, List.setIfInBounds_toArray, List.set_cons_zero, List.set_cons_succ]
  refine wpAnyH_take (i := 6) (oi := Oper.mk (some 11) _ _ _ _ _) (v := ?_) rfl (by kernel_rfl) (by kernel_rfl) (by kernel_rfl) (fun _ _ _ h => h) (Or.inl ⟨by rfl, ?_⟩) (by assumption) ?_
  rotate_left
  · (intro w' hSw; (try dsimp only at hSw); have t0 := (grown_cell hSw hl1 hne1 (o := 0)).trans p0; have t1 := (grown_cell hSw hl1 hne1 (o := 1)).trans p1; go_simp; try with_reducible rfl)
  try simp only [Act.put, List.setIfInBounds_toArray, List.set_cons_zero, List.set_cons_succ]
  refine wpAnyH_ready (rs := [7]) (by kernel_rfl) (by simp) ?_
  refine AllReadyH.cons (o := Oper.mk (some 12) _ _ _ _ _) rfl (fun K hK => ?_) AllReadyH.nil
  go_simp
  refine (newint_any (w := W1) (n := 1) (by decide) (by decide)).mono ?_
  rintro _ W2 ⟨rfl, hi2, hb2⟩
  obtain ⟨s2, A2, n2, c2, q0, q1, Hq, hq1, hq2, hqr⟩ := hi2.opened
  have hne2 : W1.heap.size ≠ g := by have := hb1.size; omega
  have hl2 := hi2.lt
  have hz2 := (HA.out.1.below (hb1)).below hb2
  have Hz2 := Lib.hid hz2
  obtain ⟨cs, hk, hcs⟩ := hz2
  obtain ⟨z0, e0⟩ : ∃ z, W2.cell? ⟨g, 0, none⟩ = some z := ⟨cs[0]'(by omega), by rw [hk.cell]; exact Array.getElem?_eq_getElem (by omega)⟩
  obtain ⟨z1, e1⟩ : ∃ z, W2.cell? ⟨g, 1, none⟩ = some z := ⟨cs[1]'(by omega), by rw [hk.cell]; exact Array.getElem?_eq_getElem (by omega)⟩
  obtain ⟨z2, e2⟩ : ∃ z, W2.cell? ⟨g, 2, none⟩ = some z := ⟨cs[2]'(by omega), by rw [hk.cell]; exact Array.getElem?_eq_getElem (by omega)⟩
  obtain ⟨z3, e3⟩ : ∃ z, W2.cell? ⟨g, 3, none⟩ = some z := ⟨cs[3]'(by omega), by rw [hk.cell]; exact Array.getElem?_eq_getElem (by omega)⟩
  have f0 := hk.frozen 0
  have f1 := hk.frozen 1
  have f2 := hk.frozen 2
  have f3 := hk.frozen 3
  refine hK.out _ _ (grown_of_below (r := some g) hb2) (fun _ => ?_)
  clear hK K hHeld
  refine wpAnyH_more (S' := fun w' => World.grownBy (W2) w' (some g)) (fun w' h => grow_trans ((grown_of_below (r := some g) hb2)) h) ?_
  have hHeld := (World.grownBy.refl W2 (some g))
  try simp only [Act.put, List.setIfInBounds_toArray, List.set_cons_zero, List.set_cons_succ]
  refine wpAnyH_take (i := 8) (oi := Oper.mk (some 13) _ _ _ _ _) (v := ?_) rfl (by kernel_rfl) (by kernel_rfl) (by kernel_rfl) (fun _ _ _ h => h) (Or.inl ⟨by rfl, ?_⟩) (by assumption) ?_
  rotate_left
  · (intro w' hSw; (try dsimp only at hSw); go_simp; try with_reducible rfl)
  try simp only [Act.put, List.setIfInBounds_toArray, List.set_cons_zero, List.set_cons_succ]
  refine wpAnyH_take (i := 9) (oi := Oper.mk (some 14) _ _ _ _ _) (v := ?_) rfl (by kernel_rfl) (by kernel_rfl) (by kernel_rfl) (fun _ _ _ h => h) (Or.inl ⟨by rfl, ?_⟩) (by assumption) ?_
  rotate_left
  · (intro w' hSw; (try dsimp only at hSw); have t0 := (grown_cell hSw hl2 hne2 (o := 0)).trans q0; have t1 := (grown_cell hSw hl2 hne2 (o := 1)).trans q1; go_simp; try with_reducible rfl)
  try simp only [Act.put, List.setIfInBounds_toArray, List.set_cons_zero, List.set_cons_succ]
  refine wpAnyH_take (i := 10) (oi := Oper.mk (some 15) _ _ _ _ _) (v := ?_) rfl (by kernel_rfl) (by kernel_rfl) (by kernel_rfl) (fun _ _ _ h => h) (Or.inl ⟨by rfl, ?_⟩) (by assumption) ?_
  rotate_left
  · (intro w' hSw; (try dsimp only at hSw); go_simp; try with_reducible rfl)
  try simp only [Act.put, List.setIfInBounds_toArray, List.set_cons_zero, List.set_cons_succ]
  refine wpAnyH_take (i := 11) (oi := Oper.mk (some 16) _ _ _ _ _) (v := ?_) rfl (by kernel_rfl) (by kernel_rfl) (by kernel_rfl) (fun _ _ _ h => h) (Or.inl ⟨by rfl, ?_⟩) (by assumption) ?_
  rotate_left
  · (intro w' hSw; (try dsimp only at hSw); go_simp; try with_reducible rfl)
  try simp only [Act.put, List.setIfInBounds_toArray, List.set_cons_zero, List.set_cons_succ]
  refine wpAnyH_ready (rs := [12]) (by kernel_rfl) (by simp) ?_
  refine AllReadyH.cons (o := Oper.mk (none) _ _ _ _ _) rfl (fun K hK => ?_) AllReadyH.nil
  go_simp
  refine hK.out _ _ (only_setCell (p := ⟨g, 1, none⟩) (only_setCell (p := ⟨g, 0, none⟩) (World.grownBy.refl W2 (some g)) (.inl rfl) _) (.inl rfl) _) (fun _ => ?_)
  clear hK K hHeld
  refine wpAnyH_more (S' := fun w' => World.grownBy (((W2.setCell ⟨g, 0, none⟩ (.bool s1)).setCell ⟨g, 1, none⟩ (.slice A1 n1 c1))) w' (some g)) (fun w' h => grow_trans ((only_setCell (p := ⟨g, 1, none⟩) (only_setCell (p := ⟨g, 0, none⟩) (World.grownBy.refl W2 (some g)) (.inl rfl) _) (.inl rfl) _)) h) ?_
  have hHeld := (World.grownBy.refl ((W2.setCell ⟨g, 0, none⟩ (.bool s1)).setCell ⟨g, 1, none⟩ (.slice A1 n1 c1)) (some g))
  try simp only [Act.put, List.setIfInBounds_toArray, List.set_cons_zero, List.set_cons_succ]
  refine wpAnyH_take (i := 13) (oi := Oper.mk (some 17) _ _ _ _ _) (v := ?_) rfl (by kernel_rfl) (by kernel_rfl) (by kernel_rfl) (fun _ _ _ h => h) (Or.inl ⟨by rfl, ?_⟩) (by assumption) ?_
  rotate_left
  · (intro w' hSw; (try dsimp only at hSw); go_simp; try with_reducible rfl)
  try simp only [Act.put, List.setIfInBounds_toArray, List.set_cons_zero, List.set_cons_succ]
  refine wpAnyH_take (i := 14) (oi := Oper.mk (some 18) _ _ _ _ _) (v := ?_) rfl (by kernel_rfl) (by kernel_rfl) (by kernel_rfl) (fun _ _ _ h => h) (Or.inl ⟨by rfl, ?_⟩) (by assumption) ?_
  rotate_left
  · (intro w' hSw; (try dsimp only at hSw); go_simp; try with_reducible rfl)
  try simp only [Act.put, List.setIfInBounds_toArray, List.set_cons_zero, List.set_cons_succ]
  refine wpAnyH_ready (rs := [15]) (by kernel_rfl) (by simp) ?_
  refine AllReadyH.cons (o := Oper.mk (none) _ _ _ _ _) rfl (fun K hK => ?_) AllReadyH.nil
  go_simp
  refine hK.out _ _ (only_setCell (p := ⟨g, 3, none⟩) (only_setCell (p := ⟨g, 2, none⟩) (World.grownBy.refl ((W2.setCell ⟨g, 0, none⟩ (.bool s1)).setCell ⟨g, 1, none⟩ (.slice A1 n1 c1)) (some g)) (.inl rfl) _) (.inl rfl) _) (fun _ => ?_)
  clear hK K hHeld
  have hHeld := (only_setCell (p := ⟨g, 3, none⟩) (only_setCell (p := ⟨g, 2, none⟩) (World.grownBy.refl ((W2.setCell ⟨g, 0, none⟩ (.bool s1)).setCell ⟨g, 1, none⟩ (.slice A1 n1 c1)) (some g)) (.inl rfl) (.bool s2)) (.inl rfl) (.slice A2 n2 c2))
  try simp only [Act.put, List.setIfInBounds_toArray, List.set_cons_zero, List.set_cons_succ]
  refine wpAnyH_done (by kernel_rfl) ?_ _
  refine NoPanic.normal ?_
  go_wp2_with fail
  go_ret
  obtain ⟨r1, r2⟩ := rat_made Hz2.out Hp hp1 hp2 ((hpr.below hb2).more hb2.size) Hq hq1 hq2 hqr (by decide)
  exact ⟨rfl, r1, grow_trans (grown_of_below (r := some g) (hb1.trans (hb2.mono hb1.size))) r2⟩

set_option maxRecDepth 100000 in
theorem ratint64_any {w : World} {g : Nat} {x : Int} (hz : RatS w g) (h1 : -9223372036854775808 ≤ x) (h2 : x ≤ 9223372036854775807) (hx : (wds x.natAbs).length ≤ 900000000) :
    Calls Tryz.prog 104 #[.pointer (some ⟨g, 0, none⟩), .int .i64 x] w (fun e w' => e = .returned (.pointer (some ⟨g, 0, none⟩)) ∧ RatB w' g x 1 ∧ w.grownBy w' (some g)) := by
  have HN := Lib.hid (newint_any (w := w) h1 h2)
  have HX := Lib.hid hx
  have hgl := hz.lt
  have HZ := Lib.hid hz
  clear hz
  go_enter Tryz.func104, Tryz.ntmps104
  go_wp2_with (first
    | (go_at_call 94; (with_reducible refine HN.out.mono ?_); rintro _ W1 ⟨rfl, hi, hb⟩; have hgx : w.heap.size ≠ g := (by omega))
    | (go_at_call 139; (with_reducible refine (ratint_any (HZ.out.below hb) hi hgx HX.out).mono ?_); rintro _ W2 ⟨rfl, hr, hg⟩))
  go_ret
  exact ⟨rfl, hr, grow_trans (grown_of_below hb) hg⟩
theorem encF_01 : encF 0 1 = .agg #[.bool false, .string ⟨#[]⟩, .bool false, .string ⟨#[1]⟩] := by
  unfold encF
  rw [show (bys (0 : Int).natAbs).toArray = #[] by decide +kernel, show (bys (1 : Int).natAbs).toArray = #[1] by decide +kernel]
  rfl
set_option maxRecDepth 100000 in
set_option maxHeartbeats 2000000 in
theorem fint_zero {w : World} :
    Calls Tryz.prog 85 #[.int .i64 0] w (fun e w' => e = .returned (.agg #[.bool false, .string ⟨#[]⟩, .bool false, .string ⟨#[1]⟩]) ∧ Below w.heap.size w w') := by
  have h0 := ratint64_any (x := 0) (RatS.zero (w.alloc (.cells #[.bool false, .string ⟨#[]⟩, .bool false, .string ⟨#[]⟩] 36))) (by decide) (by decide) (by simp [wds_zero])
  have hN := new_below (w.alloc (.cells #[.bool false, .string ⟨#[]⟩, .bool false, .string ⟨#[]⟩] 36)) (.cells #[.bool false, .slice none 0 0, .bool false, .slice none 0 0] 153)
  rw [World.size_alloc] at h0
  have H0 := Lib.hid h0
  have HN := Lib.hid hN
  clear h0 hN
  have HT : Hid (∀ W g, RatB W g 0 1 → Calls Tryz.prog 103 #[.pointer (some ⟨g, 0, none⟩)] W (fun e w' => e = .returned (.agg #[.bool false, .string ⟨#[]⟩, .bool false, .string ⟨#[1]⟩]) ∧ Below W.heap.size W w')) :=
    Lib.hid fun W g h => by
      have := toldf_any h (by simp [wds_zero]) len_oneG
      rw [encF_01] at this
      exact this
  have hbx := Box.new w 36 #[.bool false, .string ⟨#[]⟩, .bool false, .string ⟨#[]⟩]
  go_enter Tryz.func85, Tryz.ntmps85
  go_wp2_with (first
    | (go_at_call 104; (refine H0.out.mono ?_); rintro _ W1 ⟨rfl, hr, hg⟩; have hbx := hbx.next (HN.out.grown hg (by simp) (fun k hk => by injection hk with hk; simp at hk ⊢; omega)))
    | (go_at_call 103; (refine (HT.out _ _ hr).mono ?_); rintro _ W2 ⟨rfl, hb2⟩; have hbx := hbx.next hb2; have c0 := hbx.1.cell 0; have c1 := hbx.1.cell 1; have c2 := hbx.1.cell 2; have c3 := hbx.1.cell 3; have f0 := hbx.1.frozen 0; have f1 := hbx.1.frozen 1; have f2 := hbx.1.frozen 2; have f3 := hbx.1.frozen 3))
  refine bodyPost_ret (v := .agg #[.bool false, .string ⟨#[]⟩, .bool false, .string ⟨#[1]⟩]) (by simp [results, Tryz.results85, go_sem, c0, c1, c2, c3]) rfl ?_
  exact ⟨rfl, (((hbx.2.setCell (Nat.le_refl _) _).setCell (Nat.le_refl _) _).setCell (Nat.le_refl _) _).setCell (Nat.le_refl _) _⟩
end Go.Proofs.YtebpggfccljagaaGreatDoor

/- frac.Read (printed by gen_fread.py). -/
namespace Go.Proofs.YtebpggfccljagaaGreatDoor
open Go.RowKit
open Wh
set_option linter.unusedSimpArgs false
set_option linter.unusedVariables false

theorem piece_good {l : List UInt8} {a b : Int} (h : l = txtF a b) : ∀ p ∈ parts 47 l, Good p := by
  intro p hp
  rw [h, parts_txtF] at hp
  split at hp
  · rw [List.mem_singleton.1 hp]; exact good_txt a
  · simp only [List.mem_cons, List.not_mem_nil, or_false] at hp
    rcases hp with rfl | rfl <;> exact good_txt _
theorem fr_bad {l p : List UInt8} (hp : p ∈ parts 47 l) (hg : ¬ Good p) : ∀ a b, MayZ a b → l ≠ txtF a b := fun a b _ h => hg (piece_good h p hp)
theorem fr_off {l : List UInt8} {a b : Int} (h : inF l = some (a, b)) (hn : ¬ (MayZ a b ∧ l = txtF a b)) : ∀ a' b', MayZ a' b' → l ≠ txtF a' b' := fun a' b' hm he => by
  rw [he, inF_txt] at h
  injection h with h
  injection h with h1 h2
  subst h1 h2
  exact hn ⟨hm, he⟩
theorem OwnS.get {w : World} {B n c : Nat} {g : Nat} {l : List (List UInt8)} (h : OwnS w B (.slice (some ⟨g, 0, none⟩) n c) l) {i : Nat} (hi : i < l.length) : w.cell? ⟨g, i, none⟩ = some (.string ⟨l[i].toArray⟩) := by
  have h' : w.ownsRow B 9 1 (.slice (some ⟨g, 0, none⟩) n c) l.length (l.map bs) := h
  have hc := h'.cells (g := g) rfl i (bs l[i]) (by rw [List.getElem?_map, List.getElem?_eq_getElem hi]; rfl)
  have e : (⟨g, 0, none⟩ : Addr).add i = ⟨g, i, none⟩ := by rw [Addr.add_lit, Nat.zero_add]
  rw [e] at hc
  exact hc
theorem enc_agg (z : Int) : enc z = .agg #[.bool (decide (z < 0)), .string ⟨(bys z.natAbs).toArray⟩] := rfl
/-- the fraction told, and held against the text -/
theorem encF_back {a b : Int} : num (decide (a < 0), ⟨(bys a.natAbs).toArray⟩) = a ∧ num (decide (b < 0), ⟨(bys b.natAbs).toArray⟩) = b := ⟨num_back a, num_back b⟩
def TextOut (a b : Int) (W : World) (e : Ending) (w' : World) : Prop :=
  ((MayZ a b ∧ e = .returned (.tuple #[.string ⟨(txtF a b).toArray⟩, .int .i64 0])) ∨ (¬ MayZ a b ∧ e = .returned (.tuple #[.string ⟨#[]⟩, .int .i64 2]))) ∧ Below W.heap.size W w'
theorem text_out (a b : Int) (W : World) : Calls Tryz.prog 71 #[encF a b] W (TextOut a b W) := by
  by_cases h : MayZ a b
  · refine (textf_yes (w := W) h).mono ?_
    rintro e w' ⟨he, hb⟩
    refine ⟨.inl ⟨h, ?_⟩, hb⟩
    rw [he, num_back, num_back]
  · refine (textf_no (w := W) h).mono ?_
    rintro e w' ⟨he, hb⟩
    exact ⟨.inr ⟨h, he⟩, hb⟩
theorem read_out {p : List UInt8} (hp : p.length ≤ 6000) (W : World) : Calls Tryz.prog 86 #[.string ⟨p.toArray⟩] W (fun e w' => ((Good p ∧ e = .returned (.tuple #[enc (rval p), .int .i64 0])) ∨ (¬ Good p ∧ e = .returned (.tuple #[none_, .int .i64 120]))) ∧ Below W.heap.size W w') := by
  refine (wread_any (w := W) (s := ⟨p.toArray⟩)).mono ?_
  rintro e w' ⟨h1, h2, h3, h4, h5⟩
  simp only at h2 h3
  refine ⟨?_, h5⟩
  by_cases hg : Good p
  · exact .inl ⟨hg, h3 (by omega) hg (fit_piece hg hp)⟩
  · exact .inr ⟨hg, h2 (by omega) hg⟩
theorem text_yes4 {A B : Int} {x0 x1 : Bool} {t0 t1 : ByteArray} (hV : encF A B = .agg #[.bool x0, .string t0, .bool x1, .string t1]) (hm : MayZ A B) (W : World) :
    Calls Tryz.prog 71 #[.agg #[.bool x0, .string t0, .bool x1, .string t1]] W (fun e w' => e = .returned (.tuple #[.string ⟨(txtF A B).toArray⟩, .int .i64 0]) ∧ Below W.heap.size W w') := by
  rw [← hV]
  refine (text_out A B W).mono ?_
  rintro e w' ⟨h, hb⟩
  exact ⟨h.elim (fun h => h.2) (fun h => absurd hm h.1), hb⟩
theorem text_no4 {A B : Int} {x0 x1 : Bool} {t0 t1 : ByteArray} (hV : encF A B = .agg #[.bool x0, .string t0, .bool x1, .string t1]) (hm : ¬ MayZ A B) (W : World) :
    Calls Tryz.prog 71 #[.agg #[.bool x0, .string t0, .bool x1, .string t1]] W (fun e w' => e = .returned (.tuple #[.string ⟨#[]⟩, .int .i64 2]) ∧ Below W.heap.size W w') := by
  rw [← hV]
  refine (text_out A B W).mono ?_
  rintro e w' ⟨h, hb⟩
  exact ⟨h.elim (fun h => absurd h.1 hm) (fun h => h.2), hb⟩
theorem read_yes {p : List UInt8} (hp : p.length ≤ 6000) (hg : Good p) (W : World) : Calls Tryz.prog 86 #[.string ⟨p.toArray⟩] W (fun e w' => e = .returned (.tuple #[.agg #[.bool (decide (rval p < 0)), .string ⟨(bys (rval p).natAbs).toArray⟩], .int .i64 0]) ∧ Below W.heap.size W w') := by
  refine (read_out hp W).mono ?_
  rintro e w' ⟨h, hb⟩
  exact ⟨h.elim (fun h => h.2) (fun h => absurd hg h.1), hb⟩
theorem read_no {p : List UInt8} (hp : p.length ≤ 6000) (hg : ¬ Good p) (W : World) : Calls Tryz.prog 86 #[.string ⟨p.toArray⟩] W (fun e w' => e = .returned (.tuple #[.agg #[.bool false, .string ⟨#[]⟩], .int .i64 120]) ∧ Below W.heap.size W w') := by
  refine (read_out hp W).mono ?_
  rintro e w' ⟨h, hb⟩
  exact ⟨h.elim (fun h => absurd h.1 hg) (fun h => h.2), hb⟩
theorem encF_1 (A : Int) : encF A 1 = .agg #[.bool (decide (A < 0)), .string ⟨(bys A.natAbs).toArray⟩, .bool false, .string ⟨#[1]⟩] := by
  unfold encF
  rw [show (bys (1 : Int).natAbs).toArray = #[1] by decide +kernel]
  rfl
/-- what is held while a fraction is read: the result's block, x's block, the pieces, the world -/
structure FrS (w wr : World) (g4 gS n c : Nat) (xs : Array Value) (L : List (List UInt8)) : Prop where
  r : Blk wr w.heap.size 36 #[.bool false, .string ⟨#[]⟩, .bool false, .string ⟨#[]⟩]
  x : Blk wr g4 36 xs
  ow : OwnS wr gS (.slice (some ⟨gS, 0, none⟩) n c) L
  b : Below w.heap.size w wr
  l4 : w.heap.size < g4
  l5 : g4 < gS
theorem FrS.below {w wr w' : World} {g4 gS n c : Nat} {xs : Array Value} {L : List (List UInt8)} (h : FrS w wr g4 gS n c xs L) (hb : Below wr.heap.size wr w') : FrS w w' g4 gS n c xs L :=
  ⟨h.r.below hb h.r.lt, h.x.below hb h.x.lt, h.ow.kept hb, h.b.trans (hb.mono h.b.size), h.l4, h.l5⟩
theorem FrS.alloc {w wr : World} {g4 gS n c : Nat} {xs : Array Value} {L : List (List UInt8)} (h : FrS w wr g4 gS n c xs L) (o : Obj) : FrS w (wr.alloc o) g4 gS n c xs L := h.below (new_below _ _)
theorem FrS.put {w wr : World} {g4 gS n c : Nat} {xs : Array Value} {L : List (List UInt8)} (h : FrS w wr g4 gS n c xs L) (o : Nat) (v : Value) : FrS w (wr.setCell ⟨g4, o, none⟩ v) g4 gS n c (xs.setIfInBounds o v) L :=
  ⟨h.r.far (p := ⟨g4, o, none⟩) (by have := h.l4; show w.heap.size ≠ g4; omega) v, h.x.set_ o v, ownsRow_setCell_below h.ow (by show g4 < gS; exact h.l5) v, h.b.setCell (by have := h.l4; show w.heap.size ≤ g4; omega) v, h.l4, h.l5⟩
theorem FrS.done {w wr : World} {g4 gS n c : Nat} {xs : Array Value} {L : List (List UInt8)} (h : FrS w wr g4 gS n c xs L) (u0 u1 u2 u3 : Value) : Below w.heap.size w ((((wr.setCell ⟨w.heap.size, 0, none⟩ u0).setCell ⟨w.heap.size, 1, none⟩ u1).setCell ⟨w.heap.size, 2, none⟩ u2).setCell ⟨w.heap.size, 3, none⟩ u3) :=
  (((h.b.setCell (Nat.le_refl _) _).setCell (Nat.le_refl _) _).setCell (Nat.le_refl _) _).setCell (Nat.le_refl _) _
set_option maxRecDepth 100000 in
set_option maxHeartbeats 4000000 in
theorem fread_any {w : World} {s : ByteArray} {m : Int} (hs : s.size ≤ 6000) (hm : w.cell? ⟨0, 0, none⟩ = some (.int .i64 m)) :
    Calls Tryz.prog 66 #[.string s] w (FRead w s.data.toList) := by
  have HI := Lib.hid (fun W => fint_zero (w := W))
  have HSP := Lib.hid (fun W (hb : Below w.heap.size w W) => splitw_any (w := W) s 47 m (by omega) ((hb.cell (p := ⟨0, 0, none⟩) (block_lt_of_cell hm)).trans hm))
  have HLen : Hid (∀ p ∈ cutB s.data.toList 47, p.length ≤ 6000) := Lib.hid fun p hp => by
    rw [cutB_parts] at hp
    have h1 := mem_join_len (c := 47) (l := parts 47 s.data.toList) p hp
    rw [join_parts] at h1
    have h2 : s.data.toList.length = s.size := Array.length_toList
    omega
  have HT := Lib.hid text_out
  have HBad := Lib.hid (fun (p : List UInt8) (hp : p ∈ cutB s.data.toList 47) => fr_bad (l := s.data.toList) (p := p) (by rw [← cutB_parts]; exact hp))
  have HOff := Lib.hid (fun (a b : Int) => fr_off (l := s.data.toList) (a := a) (b := b))
  have HIn : Hid (inF s.data.toList = match cutB s.data.toList 47 with | [p] => some (rval p, 1) | p :: q :: _ => some (rval p, rval q) | [] => none) := Lib.hid (by rw [cutB_parts]; rfl)
  have HNe : Hid (cutB s.data.toList 47 ≠ []) := Lib.hid (by rw [cutB_parts]; obtain ⟨q, qs, h⟩ := parts_ne 47 s.data.toList; rw [h]; simp)
  clear hm
  generalize cutB s.data.toList 47 = L at *
  have hbx := Box.new w 36 #[.bool false, .string ⟨#[]⟩, .bool false, .string ⟨#[]⟩]
  go_enter Tryz.func66, Tryz.ntmps66
  go_wp2_with fail
  go_step3
  go_wp2_with (go_at_call 85; (with_reducible refine (HI.out _).mono ?_); rintro _ W1 ⟨rfl, hb1⟩; have hbx1 := hbx.next hb1; have hz1 := hb1.size)
  go_step3
  have hbx2 := hbx1.next (new_below W1 (.cells #[.bool false, .string ⟨#[]⟩, .bool false, .string ⟨#[1]⟩] 36))
  have hx2 := Blk.new W1 36 #[.bool false, .string ⟨#[]⟩, .bool false, .string ⟨#[1]⟩]
  have hw1 := hbx1.1.lt
  go_wp2_with (go_at_call 34; (refine (HSP.out _ hbx2.2).mono ?_); rintro _ W2 ⟨n, rfl, ho2, hb2⟩; have hz2 := hb2.size; rw [World.size_alloc] at ho2 hz2)
  generalize hg4 : W1.heap.size = g4 at *
  have hS2 : FrS w W2 g4 (g4 + 1) n n #[.bool false, .string ⟨#[]⟩, .bool false, .string ⟨#[1]⟩] L :=
    ⟨hbx2.1.below hb2 hbx2.1.lt, hx2.below hb2 hx2.lt, ho2, hbx2.2.trans (hb2.mono hbx2.2.size), hw1, by omega⟩
  have hnL : n = L.length := by
    obtain ⟨A', c', e, _⟩ := ho2.form
    injection e
  have Hst := Lib.hid hS2
  clear hS2 hbx hbx1 hbx2 hx2 ho2 hb1 hb2 hz1 hz2 hw1 HSP HI
  go_loopg [15] 2 (fun k iv wr => ∃ i : Nat, iv = .int .i64 (i : Int) ∧ k = 2 - i ∧ i ≤ 1 ∧ i ≤ n ∧ Hid ((i = 0 ∧ FrS w wr g4 (g4 + 1) n n #[.bool false, .string ⟨#[]⟩, .bool false, .string ⟨#[1]⟩] L) ∨ (i = 1 ∧ ∃ p, L[0]? = some p ∧ Good p ∧ FrS w wr g4 (g4 + 1) n n #[.bool (decide (rval p < 0)), .string ⟨(bys (rval p).natAbs).toArray⟩, .bool false, .string ⟨#[1]⟩] L)))
  case atStart => exact ⟨0, rfl, rfl, by omega, by omega, Lib.hid (.inl ⟨rfl, Hst.out⟩)⟩
  case round =>
    obtain ⟨i, rfl, hk, hi1, hin, hO⟩ := hrel
    subst hk
    have hO' := hO.out
    rcases hO' with ⟨rfl, hS⟩ | ⟨rfl, p, hp, hgp, hS⟩
    · -- the first piece
      obtain ⟨p, rest, rfl⟩ : ∃ p rest, L = p :: rest := by
        cases L with
        | nil => exact absurd rfl HNe.out
        | cons p rest => exact ⟨p, rest, rfl⟩
      have hn0 : (0 : Int) < (n : Int) := by rw [hnL, List.length_cons]; omega
      have hc := hS.ow.get (i := 0) (by simp)
      simp only [List.getElem_cons_zero] at hc
      have HS0 := Lib.hid hS
      have HnL := Lib.hid hnL
      have HP := Lib.hid (HLen.out p (by simp))
      have Hb := Lib.hid (HBad.out p (by simp))
      clear hS hnL hO hin
      by_cases hg : Good p
      · have HR := Lib.hid (read_yes HP.out hg)
        have Hg := Lib.hid hg
        clear hg
        go_wp2_with (go_at_call 86; (with_reducible refine (HR.out _).mono ?_); rintro _ W3 ⟨rfl, hb3⟩; have HS3 := Lib.hid ((HS0.out.below hb3).alloc (.cells #[.bool (decide (rval p < 0)), .string ⟨(bys (rval p).natAbs).toArray⟩] 34)); have rb0 := HS3.out.r.cell 0; have rb1 := HS3.out.r.cell 1; have rb2 := HS3.out.r.cell 2; have rb3 := HS3.out.r.cell 3; have rf0 := HS3.out.r.frozen 0; have rf1 := HS3.out.r.frozen 1; have rf2 := HS3.out.r.frozen 2; have rf3 := HS3.out.r.frozen 3; have c0 := HS3.out.x.cell 0; have c1 := HS3.out.x.cell 1; have c2 := HS3.out.x.cell 2; have c3 := HS3.out.x.cell 3; have f0 := HS3.out.x.frozen 0; have f1 := HS3.out.x.frozen 1; have f2 := HS3.out.x.frozen 2; have f3 := HS3.out.x.frozen 3)
        go_roundg 1
        case measure => omega
        case rel => exact ⟨1, rfl, rfl, by omega, by have := HnL.out; rw [List.length_cons] at this; omega, Lib.hid (.inr ⟨rfl, p, rfl, Hg.out, (HS3.out.put 0 _).put 1 _⟩)⟩
      · have HR := Lib.hid (read_no HP.out hg)
        have Hno := Lib.hid (Hb.out hg)
        clear hg
        go_wp2_with (go_at_call 86; (with_reducible refine (HR.out _).mono ?_); rintro _ W3 ⟨rfl, hb3⟩; have HS3 := Lib.hid ((HS0.out.below hb3).alloc (.cells #[.bool false, .string ⟨#[]⟩] 34)); have rb0 := HS3.out.r.cell 0; have rb1 := HS3.out.r.cell 1; have rb2 := HS3.out.r.cell 2; have rb3 := HS3.out.r.cell 3; have rf0 := HS3.out.r.frozen 0; have rf1 := HS3.out.r.frozen 1; have rf2 := HS3.out.r.frozen 2; have rf3 := HS3.out.r.frozen 3; have c0 := HS3.out.x.cell 0; have c1 := HS3.out.x.cell 1; have c2 := HS3.out.x.cell 2; have c3 := HS3.out.x.cell 3; have f0 := HS3.out.x.frozen 0; have f1 := HS3.out.x.frozen 1; have f2 := HS3.out.x.frozen 2; have f3 := HS3.out.x.frozen 3)
        rw [Exit.noGoto_ret]
        refine bodyPost_ret (v := .tuple #[.agg #[.bool false, .string ⟨#[]⟩, .bool false, .string ⟨#[]⟩], .int .i64 130]) (by simp [results, Tryz.results66, go_sem, rb0, rb1, rb2, rb3]) rfl ?_
        exact ⟨.inr ⟨rfl, Hno.out⟩, HS3.out.done _ _ _ _⟩
    · -- the second one
      obtain ⟨p', rest, rfl⟩ : ∃ p rest, L = p :: rest := by
        cases L with
        | nil => exact absurd rfl HNe.out
        | cons p rest => exact ⟨p, rest, rfl⟩
      obtain rfl : p' = p := by simpa using hp
      clear hp
      cases rest with
      | nil =>
        have hn0 : ¬ (1 : Int) < (n : Int) := by rw [hnL]; simp
        have HIn2 := Lib.hid (show inF s.data.toList = some (rval p', 1) by rw [HIn.out])
        have HV := Lib.hid (encF_1 (rval p'))
        clear hO hin
        have hV : encF (rval p') (1) = .agg #[.bool (decide ((rval p') < 0)), .string ⟨(bys (rval p').natAbs).toArray⟩, .bool (false), .string ⟨#[1]⟩] := HV.out
        have HS := Lib.hid hS
        have c0 := hS.x.cell 0
        have c1 := hS.x.cell 1
        have c2 := hS.x.cell 2
        have c3 := hS.x.cell 3
        have rb0 := hS.r.cell 0
        have rf0 := hS.r.frozen 0
        have rb1 := hS.r.cell 1
        have rf1 := hS.r.frozen 1
        have rb2 := hS.r.cell 2
        have rf2 := hS.r.frozen 2
        have rb3 := hS.r.cell 3
        have rf3 := hS.r.frozen 3
        by_cases hM : MayZ (rval p') (1)
        · have HX := Lib.hid (text_yes4 hV hM)
          obtain ⟨tq, hq⟩ : ∃ tq : ByteArray, tq = ⟨(txtF (rval p') (1)).toArray⟩ := ⟨_, rfl⟩
          rw [← hq] at HX
          by_cases he : tq = s
          · have Hq := Lib.hid (And.intro hM (show s.data.toList = txtF (rval p') (1) by rw [← he, hq]))
            have HV2 := Lib.hid hV
            subst he
            have e5 : (tq.toList == tq.toList) = true := by simp
            have e6 : (tq.toList != tq.toList) = false := by simp
            clear hq hV hM
            go_wp2_with (go_at_call 71; (with_reducible refine (HX.out _).mono ?_); rintro _ W9 ⟨rfl, hb9⟩; have HS9 := Lib.hid (HS.out.below hb9); have d0 := HS9.out.x.cell 0; have d1 := HS9.out.x.cell 1; have d2 := HS9.out.x.cell 2; have d3 := HS9.out.x.cell 3; have rb0 := HS9.out.r.cell 0; have rb1 := HS9.out.r.cell 1; have rb2 := HS9.out.r.cell 2; have rb3 := HS9.out.r.cell 3; have rf0 := HS9.out.r.frozen 0; have rf1 := HS9.out.r.frozen 1; have rf2 := HS9.out.r.frozen 2; have rf3 := HS9.out.r.frozen 3)
            rw [Exit.noGoto_ret]
            refine bodyPost_ret (v := .tuple #[.agg #[.bool (decide ((rval p') < 0)), .string ⟨(bys (rval p').natAbs).toArray⟩, .bool (false), .string ⟨#[1]⟩], .int .i64 0]) (by simp [results, Tryz.results66, go_sem, rb0, rb1, rb2, rb3]) rfl ?_
            exact ⟨.inl ⟨_, _, by rw [HV2.out], Hq.out.1, Hq.out.2⟩, HS9.out.done _ _ _ _⟩
          · have Hno := Lib.hid (HOff.out _ _ HIn2.out fun h => he (by rw [hq, ← h.2]))
            have e4 : ¬ tq.toList = s.toList := fun h => he (tl_inj h)
            have e5 : (tq.toList == s.toList) = false := by simpa using e4
            have e6 : (tq.toList != s.toList) = true := by simpa using e4
            clear hq hV hM
            go_wp2_with (go_at_call 71; (with_reducible refine (HX.out _).mono ?_); rintro _ W9 ⟨rfl, hb9⟩; have HS9 := Lib.hid (HS.out.below hb9); have rb0 := HS9.out.r.cell 0; have rb1 := HS9.out.r.cell 1; have rb2 := HS9.out.r.cell 2; have rb3 := HS9.out.r.cell 3; have rf0 := HS9.out.r.frozen 0; have rf1 := HS9.out.r.frozen 1; have rf2 := HS9.out.r.frozen 2; have rf3 := HS9.out.r.frozen 3)
            rw [Exit.noGoto_ret]
            refine bodyPost_ret (v := .tuple #[.agg #[.bool false, .string ⟨#[]⟩, .bool false, .string ⟨#[]⟩], .int .i64 130]) (by simp [results, Tryz.results66, go_sem, rb0, rb1, rb2, rb3]) rfl ?_
            exact ⟨.inr ⟨rfl, Hno.out⟩, HS9.out.done _ _ _ _⟩
        · have HX := Lib.hid (text_no4 hV hM)
          have Hno := Lib.hid (HOff.out _ _ HIn2.out fun h => hM h.1)
          clear hV hM
          go_wp2_with (go_at_call 71; (with_reducible refine (HX.out _).mono ?_); rintro _ W9 ⟨rfl, hb9⟩; have HS9 := Lib.hid (HS.out.below hb9); have rb0 := HS9.out.r.cell 0; have rb1 := HS9.out.r.cell 1; have rb2 := HS9.out.r.cell 2; have rb3 := HS9.out.r.cell 3; have rf0 := HS9.out.r.frozen 0; have rf1 := HS9.out.r.frozen 1; have rf2 := HS9.out.r.frozen 2; have rf3 := HS9.out.r.frozen 3)
          rw [Exit.noGoto_ret]
          refine bodyPost_ret (v := .tuple #[.agg #[.bool false, .string ⟨#[]⟩, .bool false, .string ⟨#[]⟩], .int .i64 130]) (by simp [results, Tryz.results66, go_sem, rb0, rb1, rb2, rb3]) rfl ?_
          exact ⟨.inr ⟨rfl, Hno.out⟩, HS9.out.done _ _ _ _⟩
      | cons q rest =>
        have hn0 : (1 : Int) < (n : Int) := by rw [hnL]; simp; omega
        have hc := hS.ow.get (i := 1) (by simp)
        simp only [List.getElem_cons_succ, List.getElem_cons_zero] at hc
        have HS0 := Lib.hid hS
        have HIn2 := Lib.hid (show inF s.data.toList = some (rval p', rval q) by rw [HIn.out])
        have HP := Lib.hid (HLen.out q (by simp))
        have Hb := Lib.hid (HBad.out q (by simp))
        have HV := Lib.hid (show encF (rval p') (rval q) = .agg #[.bool (decide (rval p' < 0)), .string ⟨(bys (rval p').natAbs).toArray⟩, .bool (decide (rval q < 0)), .string ⟨(bys (rval q).natAbs).toArray⟩] from rfl)
        clear hS hnL hO hin
        by_cases hg : Good q
        · have HR := Lib.hid (read_yes HP.out hg)
          clear hg
          have hV : encF (rval p') (rval q) = .agg #[.bool (decide ((rval p') < 0)), .string ⟨(bys (rval p').natAbs).toArray⟩, .bool (decide (rval q < 0)), .string ⟨(bys (rval q).natAbs).toArray⟩] := HV.out
          by_cases hM : MayZ (rval p') (rval q)
          · have HX := Lib.hid (text_yes4 hV hM)
            obtain ⟨tq, hq⟩ : ∃ tq : ByteArray, tq = ⟨(txtF (rval p') (rval q)).toArray⟩ := ⟨_, rfl⟩
            rw [← hq] at HX
            by_cases he : tq = s
            · have Hq := Lib.hid (And.intro hM (show s.data.toList = txtF (rval p') (rval q) by rw [← he, hq]))
              have HV2 := Lib.hid hV
              subst he
              have e5 : (tq.toList == tq.toList) = true := by simp
              have e6 : (tq.toList != tq.toList) = false := by simp
              clear hq hV hM
              go_wp2_with (first | (go_at_call 86; (with_reducible refine (HR.out _).mono ?_); rintro _ W3 ⟨rfl, hb3⟩; have HS3 := Lib.hid ((HS0.out.below hb3).alloc (.cells #[.bool (decide (rval q < 0)), .string ⟨(bys (rval q).natAbs).toArray⟩] 34)); have rb0 := HS3.out.r.cell 0; have rb1 := HS3.out.r.cell 1; have rb2 := HS3.out.r.cell 2; have rb3 := HS3.out.r.cell 3; have rf0 := HS3.out.r.frozen 0; have rf1 := HS3.out.r.frozen 1; have rf2 := HS3.out.r.frozen 2; have rf3 := HS3.out.r.frozen 3; have c0 := HS3.out.x.cell 0; have c1 := HS3.out.x.cell 1; have c2 := HS3.out.x.cell 2; have c3 := HS3.out.x.cell 3; have f0 := HS3.out.x.frozen 0; have f1 := HS3.out.x.frozen 1; have f2 := HS3.out.x.frozen 2; have f3 := HS3.out.x.frozen 3) | (go_at_call 71; (with_reducible refine (HX.out _).mono ?_); rintro _ W9 ⟨rfl, hb9⟩; have HS := Lib.hid ((HS3.out.put 2 (.bool (decide (rval q < 0)))).put 3 (.string ⟨(bys (rval q).natAbs).toArray⟩)); have HS9 := Lib.hid (HS.out.below hb9); have d0 := HS9.out.x.cell 0; have d1 := HS9.out.x.cell 1; have d2 := HS9.out.x.cell 2; have d3 := HS9.out.x.cell 3; have rb0 := HS9.out.r.cell 0; have rb1 := HS9.out.r.cell 1; have rb2 := HS9.out.r.cell 2; have rb3 := HS9.out.r.cell 3; have rf0 := HS9.out.r.frozen 0; have rf1 := HS9.out.r.frozen 1; have rf2 := HS9.out.r.frozen 2; have rf3 := HS9.out.r.frozen 3))
              rw [Exit.noGoto_ret]
              refine bodyPost_ret (v := .tuple #[.agg #[.bool (decide ((rval p') < 0)), .string ⟨(bys (rval p').natAbs).toArray⟩, .bool (decide (rval q < 0)), .string ⟨(bys (rval q).natAbs).toArray⟩], .int .i64 0]) (by simp [results, Tryz.results66, go_sem, rb0, rb1, rb2, rb3]) rfl ?_
              exact ⟨.inl ⟨_, _, by rw [HV2.out], Hq.out.1, Hq.out.2⟩, HS9.out.done _ _ _ _⟩
            · have Hno := Lib.hid (HOff.out _ _ HIn2.out fun h => he (by rw [hq, ← h.2]))
              have e4 : ¬ tq.toList = s.toList := fun h => he (tl_inj h)
              have e5 : (tq.toList == s.toList) = false := by simpa using e4
              have e6 : (tq.toList != s.toList) = true := by simpa using e4
              clear hq hV hM
              go_wp2_with (first | (go_at_call 86; (with_reducible refine (HR.out _).mono ?_); rintro _ W3 ⟨rfl, hb3⟩; have HS3 := Lib.hid ((HS0.out.below hb3).alloc (.cells #[.bool (decide (rval q < 0)), .string ⟨(bys (rval q).natAbs).toArray⟩] 34)); have rb0 := HS3.out.r.cell 0; have rb1 := HS3.out.r.cell 1; have rb2 := HS3.out.r.cell 2; have rb3 := HS3.out.r.cell 3; have rf0 := HS3.out.r.frozen 0; have rf1 := HS3.out.r.frozen 1; have rf2 := HS3.out.r.frozen 2; have rf3 := HS3.out.r.frozen 3; have c0 := HS3.out.x.cell 0; have c1 := HS3.out.x.cell 1; have c2 := HS3.out.x.cell 2; have c3 := HS3.out.x.cell 3; have f0 := HS3.out.x.frozen 0; have f1 := HS3.out.x.frozen 1; have f2 := HS3.out.x.frozen 2; have f3 := HS3.out.x.frozen 3) | (go_at_call 71; (with_reducible refine (HX.out _).mono ?_); rintro _ W9 ⟨rfl, hb9⟩; have HS := Lib.hid ((HS3.out.put 2 (.bool (decide (rval q < 0)))).put 3 (.string ⟨(bys (rval q).natAbs).toArray⟩)); have HS9 := Lib.hid (HS.out.below hb9); have rb0 := HS9.out.r.cell 0; have rb1 := HS9.out.r.cell 1; have rb2 := HS9.out.r.cell 2; have rb3 := HS9.out.r.cell 3; have rf0 := HS9.out.r.frozen 0; have rf1 := HS9.out.r.frozen 1; have rf2 := HS9.out.r.frozen 2; have rf3 := HS9.out.r.frozen 3))
              rw [Exit.noGoto_ret]
              refine bodyPost_ret (v := .tuple #[.agg #[.bool false, .string ⟨#[]⟩, .bool false, .string ⟨#[]⟩], .int .i64 130]) (by simp [results, Tryz.results66, go_sem, rb0, rb1, rb2, rb3]) rfl ?_
              exact ⟨.inr ⟨rfl, Hno.out⟩, HS9.out.done _ _ _ _⟩
          · have HX := Lib.hid (text_no4 hV hM)
            have Hno := Lib.hid (HOff.out _ _ HIn2.out fun h => hM h.1)
            clear hV hM
            go_wp2_with (first | (go_at_call 86; (with_reducible refine (HR.out _).mono ?_); rintro _ W3 ⟨rfl, hb3⟩; have HS3 := Lib.hid ((HS0.out.below hb3).alloc (.cells #[.bool (decide (rval q < 0)), .string ⟨(bys (rval q).natAbs).toArray⟩] 34)); have rb0 := HS3.out.r.cell 0; have rb1 := HS3.out.r.cell 1; have rb2 := HS3.out.r.cell 2; have rb3 := HS3.out.r.cell 3; have rf0 := HS3.out.r.frozen 0; have rf1 := HS3.out.r.frozen 1; have rf2 := HS3.out.r.frozen 2; have rf3 := HS3.out.r.frozen 3; have c0 := HS3.out.x.cell 0; have c1 := HS3.out.x.cell 1; have c2 := HS3.out.x.cell 2; have c3 := HS3.out.x.cell 3; have f0 := HS3.out.x.frozen 0; have f1 := HS3.out.x.frozen 1; have f2 := HS3.out.x.frozen 2; have f3 := HS3.out.x.frozen 3) | (go_at_call 71; (with_reducible refine (HX.out _).mono ?_); rintro _ W9 ⟨rfl, hb9⟩; have HS := Lib.hid ((HS3.out.put 2 (.bool (decide (rval q < 0)))).put 3 (.string ⟨(bys (rval q).natAbs).toArray⟩)); have HS9 := Lib.hid (HS.out.below hb9); have rb0 := HS9.out.r.cell 0; have rb1 := HS9.out.r.cell 1; have rb2 := HS9.out.r.cell 2; have rb3 := HS9.out.r.cell 3; have rf0 := HS9.out.r.frozen 0; have rf1 := HS9.out.r.frozen 1; have rf2 := HS9.out.r.frozen 2; have rf3 := HS9.out.r.frozen 3))
            rw [Exit.noGoto_ret]
            refine bodyPost_ret (v := .tuple #[.agg #[.bool false, .string ⟨#[]⟩, .bool false, .string ⟨#[]⟩], .int .i64 130]) (by simp [results, Tryz.results66, go_sem, rb0, rb1, rb2, rb3]) rfl ?_
            exact ⟨.inr ⟨rfl, Hno.out⟩, HS9.out.done _ _ _ _⟩
        · have HR := Lib.hid (read_no HP.out hg)
          have Hno := Lib.hid (Hb.out hg)
          clear hg
          go_wp2_with (go_at_call 86; (with_reducible refine (HR.out _).mono ?_); rintro _ W3 ⟨rfl, hb3⟩; have HS3 := Lib.hid ((HS0.out.below hb3).alloc (.cells #[.bool false, .string ⟨#[]⟩] 34)); have rb0 := HS3.out.r.cell 0; have rb1 := HS3.out.r.cell 1; have rb2 := HS3.out.r.cell 2; have rb3 := HS3.out.r.cell 3; have rf0 := HS3.out.r.frozen 0; have rf1 := HS3.out.r.frozen 1; have rf2 := HS3.out.r.frozen 2; have rf3 := HS3.out.r.frozen 3; have c0 := HS3.out.x.cell 0; have c1 := HS3.out.x.cell 1; have c2 := HS3.out.x.cell 2; have c3 := HS3.out.x.cell 3; have f0 := HS3.out.x.frozen 0; have f1 := HS3.out.x.frozen 1; have f2 := HS3.out.x.frozen 2; have f3 := HS3.out.x.frozen 3)
          rw [Exit.noGoto_ret]
          refine bodyPost_ret (v := .tuple #[.agg #[.bool false, .string ⟨#[]⟩, .bool false, .string ⟨#[]⟩], .int .i64 130]) (by simp [results, Tryz.results66, go_sem, rb0, rb1, rb2, rb3]) rfl ?_
          exact ⟨.inr ⟨rfl, Hno.out⟩, HS3.out.done _ _ _ _⟩
end Go.Proofs.YtebpggfccljagaaGreatDoor

/- The reference's Root (printed by gen_rroot.py). -/
namespace Go.Proofs.YtebpggfccljagaaGreatDoor
open Go.RowKit
open Wh
set_option linter.unusedSimpArgs false

/-- root and rest, as the document has them -/
def RRooted (w : World) (m : Nat) (e : Ending) (w' : World) : Prop :=
  ∃ r : Nat, r * r ≤ m ∧ m < (r + 1) * (r + 1) ∧ e = .returned (.tuple #[enc (r : Int), enc ((m : Int) - (r : Int) * (r : Int))]) ∧ Below w.heap.size w w'
theorem root_start {m : Nat} : m < (0 + 2 ^ (bl m / 2 + 1)) * (0 + 2 ^ (bl m / 2 + 1)) := by
  rw [Nat.zero_add, ← Nat.pow_add]
  exact Nat.lt_of_lt_of_le (bl_lt.1 (Nat.le_refl (bl m))) (Nat.pow_le_pow_right (by decide) (by omega))
theorem cmpN_le {a b : Nat} : decide (cmpN a b ≤ 0) = decide (a ≤ b) := by
  unfold cmpN
  by_cases h1 : a < b
  · rw [if_pos h1, decide_eq_true (by omega), decide_eq_true (by omega)]
  · rw [if_neg h1]
    by_cases h2 : a = b
    · simp [h2]
    · have : b < a := by omega
      simp [h2]
      omega
theorem sgn_false (m : Nat) : sgn false m = (m : Int) := rfl
theorem blk_unit (w : World) : ReadsW (w.alloc (.cells #[.int .u32 1] 163)) (w.heap.size + 1) (some ⟨w.heap.size, 0, none⟩) [1] := by
  have := reads_blk (w := w.alloc (.cells #[.int .u32 1] 163)) (B := w.heap.size + 1) (l := [1]) (Blk.new w 163 (wcells [1])) (by omega)
  exact this
theorem ReadsW.call {w w' : World} {A : Option Addr} {l : List Nat} (h : ReadsW w w.heap.size A l) (hb : Below w.heap.size w w') : ReadsW w' w'.heap.size A l := (h.below hb).more hb.size
theorem len_pow2 {j k : Nat} (h : j < 32 * k) : (wds (2 ^ j)).length ≤ k := len_bl (bl_lt.2 ((Nat.pow_lt_pow_iff_right (by decide)).2 h))
end Go.Proofs.YtebpggfccljagaaGreatDoor

/- The reference's Read (printed by gen_rread.py). -/
namespace Go.Proofs.YtebpggfccljagaaGreatDoor
open Go.RowKit
open Wh
set_option linter.unusedSimpArgs false
set_option linter.unusedVariables false

/-- what digits read are -/
def DigRead (w : World) (neg : Bool) (ds : List UInt8) (e : Ending) (w' : World) : Prop :=
  (AllDig ds → e = .returned (.tuple #[enc (sgn neg (dv ds)), .int .i64 0])) ∧ (¬ AllDig ds → e = .returned (.tuple #[.agg #[.bool false, .string ⟨#[]⟩], .int .i64 120])) ∧ Below w.heap.size w w'
def RReadd (w : World) (l : List UInt8) (e : Ending) (w' : World) : Prop :=
  (Good l → e = .returned (.tuple #[enc (rval l), .int .i64 0])) ∧ (¬ Good l → e = .returned (.tuple #[.agg #[.bool false, .string ⟨#[]⟩], .int .i64 120])) ∧ Below w.heap.size w w'
theorem blk_word (w : World) (P : Nat) : ReadsW (w.alloc (.cells #[.int .u32 (P : Int)] 163)) (w.heap.size + 1) (some ⟨w.heap.size, 0, none⟩) [P] := by
  have := reads_blk (w := w.alloc (.cells #[.int .u32 (P : Int)] 163)) (B := w.heap.size + 1) (l := [P]) (Blk.new w 163 (wcells [P])) (by omega)
  exact this
theorem val_one_ (P : Nat) : val [P] = P := by rw [show [P] = ([] : List Nat) ++ [P] from rfl, val_snoc, val_nil]; simp
theorem digs_len {l : List UInt8} {k : Nat} (h : AllDig l) (hl : l.length ≤ k) : (wds (dv l)).length ≤ k := by
  refine Nat.le_trans (len_wds (k := l.length) ?_) hl
  exact Nat.lt_of_lt_of_le (dv_lt _ l rfl h) (Nat.pow_le_pow_left (by decide) _)
set_option maxRecDepth 100000 in
set_option maxHeartbeats 2000000 in
theorem rread_core {w W : World} {s t : ByteArray} {neg : Bool} {u1 u3 u6 u7 u8 u9 u10 u11 u12 u13 u14 u15 u16 u17 u18 u19 u20 u21 u22 u23 u24 u25 u26 u27 u28 u29 u30 u31 u32 u33 u34 u35 u36 u37 u38 u39 u40 u41 u42 u43 u44 u45 u46 u47 u48 u49 u50 u51 u52 u53 u54 u55 u56 u57 u58 u59 u60 u61 u62 u63 u64 u65 u66 u67 u68 u69 u70 u71 u72 u73 u74 u75 u76 u77 u78 u79 u80 u81 u82 u83 u84 u85 u86 u87 u88 : Value} {Q : Ending → World → Prop} (hl : t.size ≤ 40000) (E0 : Hid (Env w W [(w.heap.size, 34, #[.bool false, .string ⟨#[]⟩])])) (hQ0 : ∀ e w', DigRead w neg t.data.toList e w' → Q e w') :
    (codeRest 5 (bodyOf Tryz.f89)).wp Tryz.prog (bodyPost Tryz.prog Tryz.f89 Q) ⟨#[.string s, u1, .pointer (some ⟨w.heap.size, 0, none⟩), u3, .string t, .bool neg, u6, u7, u8, u9, u10, u11, u12, u13, u14, u15, u16, u17, u18, u19, u20, u21, u22, u23, u24, u25, u26, u27, u28, u29, u30, u31, u32, u33, u34, u35, u36, u37, u38, u39, u40, u41, u42, u43, u44, u45, u46, u47, u48, u49, u50, u51, u52, u53, u54, u55, u56, u57, u58, u59, u60, u61, u62, u63, u64, u65, u66, u67, u68, u69, u70, u71, u72, u73, u74, u75, u76, u77, u78, u79, u80, u81, u82, u83, u84, u85, u86, u87, u88], []⟩ W := by
  conv => enter [2]; dsimp only [codeRest, bodyOf, Tryz.f89, Option.getD_some]
  obtain ⟨ds, hle⟩ : ∃ l, l = t.data.toList := ⟨_, rfl⟩
  have hll : ds.length = t.size := by rw [hle]; exact Array.length_toList
  have hget : ∀ j (h : j < t.size) (h' : j < ds.length), t[j] = ds[j] := by subst hle; intro j h h'; rfl
  rw [← hle] at hQ0
  have hQ := Lib.hid hQ0
  obtain ⟨n, hn⟩ : ∃ n, n = t.size := ⟨_, rfl⟩
  have Hn := Lib.hid (And.intro hn (And.intro hll hget))
  have htn : t.size = n := hn.symm
  have hnl : n ≤ 40000 := by omega
  clear hQ0 hll hle hget hn hl
  go_wp2_with fail
  go_loopg [6, 7] n (fun k lv iv wr => ∃ (A : Option Addr) (m c i V : Nat), lv = .slice A m c ∧ iv = .int .i64 (i : Int) ∧ Hid (k = n - i) ∧ i ≤ n ∧ Hid (m = (wds V).length) ∧ Hid (m ≤ c ∧ c ≤ 9223372036854775807) ∧ Hid (ReadsW wr wr.heap.size A (wds V)) ∧ Hid (Below W.heap.size W wr) ∧ Hid (AllDig (ds.take i) ∧ V = dv (ds.take i)))
  case atStart => exact ⟨none, 0, 0, 0, 0, rfl, rfl, Lib.hid rfl, Nat.zero_le _, Lib.hid (by rw [wds_zero]; rfl), Lib.hid ⟨by omega, by omega⟩, Lib.hid (by rw [wds_zero]; exact ReadsW.none_ _ _ _), Lib.hid (Below.refl _ _), Lib.hid ⟨fun b hb => (by simp at hb), rfl⟩⟩
  case round =>
    obtain ⟨A, m, c, i0, V, rfl, rfl, Hk, hi0, Hm, Hc, Hr, Hb, HV⟩ := hrel
    have HVl := Lib.hid (show (wds V).length ≤ 40000 by rw [HV.out.2]; exact digs_len HV.out.1 (by rw [List.length_take]; omega))
    by_cases hin : i0 < n
    · have hii : (i0 : Int) < (n : Int) := by omega
      go_wp2_with fail
      go_loopg [7, 8, 9, 10] 9 (fun k iv pv dv_ kv wi => ∃ (q P D : Nat), iv = .int .i64 ((i0 + q : Nat) : Int) ∧ pv = .int .u64 (P : Int) ∧ dv_ = .int .u64 (D : Int) ∧ kv = .int .i64 (q : Int) ∧ Hid (k = 9 - q) ∧ q ≤ 9 ∧ i0 + q ≤ n ∧ P ≤ 1000000000 ∧ D ≤ 999999999 ∧ Hid (P = 10 ^ q ∧ D = dv ((ds.drop i0).take q) ∧ AllDig (ds.take (i0 + q)) ∧ AllDig ((ds.drop i0).take q)) ∧ wr = wi)
      case atStart => exact ⟨0, 1, 0, rfl, rfl, rfl, rfl, Lib.hid rfl, by omega, by omega, by omega, by omega, Lib.hid ⟨rfl, rfl, HV.out.1, fun b hb => (by simp at hb)⟩, rfl⟩
      case round =>
        obtain ⟨q, P, D, rfl, rfl, rfl, rfl, Hkq, hq, hqn, hP, hD, HP, rfl⟩ := hrel
        obtain ⟨x, hx⟩ : ∃ x, x = i0 + q := ⟨_, rfl⟩
        rw [← hx] at hqn ⊢
        have Hx := Lib.hid hx
        clear hx
        by_cases hgo : q < 9 ∧ x < n
        · obtain ⟨g1, g2⟩ := hgo
          have hxl : x < ds.length := by have := Hn.out; omega
          have hyi : t[x]'(by omega) = ds[x] := Hn.out.2.2 x (by omega) hxl
          have htake := List.take_succ_eq_append_getElem hxl
          have hdl : q < (ds.drop i0).length := by rw [List.length_drop]; have := Hx.out; omega
          have hdq : (ds.drop i0)[q] = ds[x] := by rw [List.getElem_drop]; simp only [Hx.out]
          have hdt := dv_take hdl
          have hat : ∀ h : AllDig ((ds.drop i0).take q), IsDig ds[x] → AllDig ((ds.drop i0).take (q + 1)) := fun h h2 => allDig_take hdl h (by rw [hdq]; exact h2)
          rw [hdq] at hdt
          have hall : AllDig ds → IsDig ds[x] := fun h => h _ (List.getElem_mem hxl)
          obtain ⟨y, hy⟩ : ∃ y, y = ds[x] := ⟨_, rfl⟩
          rw [← hy] at hyi htake hdt hat hall
          have hyn : (t[x]'(by omega)).toNat = y.toNat := by rw [hyi]
          have Hy := Lib.hid (And.intro htake (And.intro hdt (And.intro hat hall)))
          have hy8 := UInt8.toNat_lt y
          have g3 : (q : Int) < 9 := by omega
          have g4 : (x : Int) < (n : Int) := by omega
          have Hten := Lib.hid (ten_le (n := q + 1) (by omega))
          clear hy hyi htake hdt hat hall hdq hdl hxl
          by_cases hd : IsDig y
          · have Hd := Lib.hid hd
            obtain ⟨e1, e2⟩ := hd
            have e3 : (48 : Int) ≤ (y.toNat : Int) := by omega
            have e4 : (y.toNat : Int) ≤ 57 := by omega
            go_wp2_with fail
            go_roundg (9 - (q + 1))
            case measure => have := Hkq.out; omega
            case rel =>
              have ha := Hy.out.2.2.1 HP.out.2.2.2 Hd.out
              have hdn : 10 * D + (y.toNat - 48) = dv ((ds.drop i0).take (q + 1)) := by rw [Hy.out.2.1, HP.out.2.1]
              have hlt := dv_lt (q + 1) ((ds.drop i0).take (q + 1)) (by rw [List.length_take, List.length_drop]; have := Hx.out; have := Hn.out; omega) ha
              have hten := Hten.out
              refine ⟨q + 1, P * 10, 10 * D + (y.toNat - 48), ?_, ?_, ?_, rfl, Lib.hid rfl, by omega, by have := Hx.out; omega, ?_, ?_, Lib.hid ⟨by rw [HP.out.1, Nat.pow_succ], hdn, ?_, ha⟩, rfl⟩
              · have := Hx.out; congr 1; omega
              · congr 1; omega
              · congr 1; omega
              · rw [HP.out.1, ← Nat.pow_succ]; exact hten
              · rw [← hdn] at hlt; omega
              · rw [show i0 + (q + 1) = x + 1 by have := Hx.out; omega, Hy.out.1]
                have h5 := HP.out.2.2.1
                rw [← Hx.out] at h5
                exact allDig_app.2 ⟨h5, allDig_cons.2 ⟨Hd.out, fun b hb => by cases hb⟩⟩
          · have Hno := Lib.hid (fun h : AllDig ds => hd (Hy.out.2.2.2 h))
            have Hd := Lib.hid hd
            have F0 := Lib.hid (E0.out.call Hb.out)
            have n2 := Env.at_ F0.out 0 rfl
            have y0 := n2.cell 0
            have y1 := n2.cell 1
            have y2 := n2.frozen 0
            have y3 := n2.frozen 1
            simp at y0 y1
            clear n2
            rcases Nat.lt_or_ge y.toNat 48 with h1 | h1
            · have e3 : (y.toNat : Int) < 48 := by omega
              clear hd
              go_wp2_with fail
              refine bodyPost_ret (v := .tuple #[.agg #[.bool false, .string ⟨#[]⟩], .int .i64 120]) (by simp [results, Tryz.results89, go_sem, y0, y1]) rfl ?_
              exact hQ.out _ _ ⟨fun h => absurd h Hno.out, fun _ => rfl, (F0.out.1.setCell (Nat.le_refl w.heap.size) _).setCell (Nat.le_refl w.heap.size) _⟩
            · have e3 : (48 : Int) ≤ (y.toNat : Int) := by omega
              have e4 : (57 : Int) < (y.toNat : Int) := by
                have := Hd.out
                unfold IsDig at this
                omega
              clear hd
              go_wp2_with fail
              refine bodyPost_ret (v := .tuple #[.agg #[.bool false, .string ⟨#[]⟩], .int .i64 120]) (by simp [results, Tryz.results89, go_sem, y0, y1]) rfl ?_
              exact hQ.out _ _ ⟨fun h => absurd h Hno.out, fun _ => rfl, (F0.out.1.setCell (Nat.le_refl w.heap.size) _).setCell (Nat.le_refl w.heap.size) _⟩
        · have hq1 : 1 ≤ q := by have := Hx.out; omega
          have hstop : (9 : Int) ≤ (q : Int) ∨ ((q : Int) < 9 ∧ (n : Int) ≤ (x : Int)) := by omega
          have hPw : IntKind.u32.wrap (P : Int) = (P : Int) := by rw [IntKind.wrap_u32]; omega
          have hDw : IntKind.u32.wrap (D : Int) = (D : Int) := by rw [IntKind.wrap_u32]; omega
          have HPr := Lib.hid (fun W2 : World => blk_word W2 P)
          have HDr := Lib.hid (fun W2 : World => blk_word W2 D)
          have hbp := (Below.refl wr.heap.size wr).alloc (Nat.le_refl _) (.cells #[.int .u32 (P : Int)] 163)
          have HM0 := rproduct_any (m := 1) (c := c) (d := 1) ((Hr.out.call hbp).more (by simp)) ((blk_word wr P).more (B' := (wr.alloc (.cells #[.int .u32 (P : Int)] 163)).heap.size) (by simp)) (Nat.le_refl _) Hm.out rfl (by have := Hm.out; have := HVl.out; omega) (by omega) (wd_w _) (wd_cons.2 ⟨by omega, wd_nil⟩)
          rw [val_w, val_one_] at HM0
          have HM := Lib.hid HM0
          have Hbp := Lib.hid hbp
          have Hq1 := Lib.hid hq1
          clear HM0 hbp hgo hq1
          rcases hstop with h9 | h9
          · go_wp2_with fail
            refine HM.out.mono ?_
            rintro e W2 ⟨A2, m2, c2, rfl, hm2, hc2, hc2', hr2, hb2⟩
            have Hb2 := Lib.hid (Hbp.out.trans (hb2.mono Hbp.out.size))
            have R2 := Lib.hid (And.intro hm2.out hr2)
            have HX0 := rcut_any (c := 1) (HDr.out W2) (by simp : 1 = [D].length) (Nat.le_refl _) (by omega) (wd_cons.2 ⟨by omega, wd_nil⟩)
            have HX := Lib.hid HX0
            clear HX0 hm2 hc2 hc2' hr2 hb2 HM
            go_wp2_with fail
            refine HX.out.mono ?_
            rintro e W3 ⟨m3, rfl, hm3, rfl⟩
            have hbd := (Below.refl W2.heap.size W2).alloc (Nat.le_refl _) (.cells #[.int .u32 (D : Int)] 163)
            have hrd := reads_cut (HDr.out W2) (wd_cons.2 ⟨by omega, wd_nil⟩)
            rw [val_one_] at hm3 hrd
            have hDl : (wds D).length ≤ 1 := len_wds (by omega)
            have hVP : (wds (V * P)).length ≤ 40001 := len_mul HVl.out (len_wds (k := 1) (by omega))
            have HO0 := rmore_any (c := c2) (d := 1) ((R2.out.2.call hbd).more (Nat.le_refl _)) (hrd.more (B' := (W2.alloc (.cells #[.int .u32 (D : Int)] 163)).heap.size) (by simp)) (Nat.le_refl _) R2.out.1 hm3 (by have := R2.out.1; omega) (by omega) (wd_w _) (wd_w _)
            rw [val_w, val_w] at HO0
            have HO := Lib.hid HO0
            have Hbd := Lib.hid (Hb2.out.trans (hbd.mono Hb2.out.size))
            clear HO0 hbd hrd hm3 hDl hVP HX
            go_wp2_with fail
            refine HO.out.mono ?_
            rintro e W4 ⟨A4, m4, c4, rfl, hm4, hc4, hc4', hr4, hb4⟩
            have Hb4 := Lib.hid (Hb.out.trans ((Hbd.out.trans (hb4.mono Hbd.out.size)).mono Hb.out.size))
            have HV4 := Lib.hid (show V * P + D = dv (ds.take x) by
              rw [HV.out.2, HP.out.1, HP.out.2.1, ← dv_app _ q _ (by rw [List.length_take, List.length_drop]; have := Hx.out; have := Hn.out; omega), ← List.take_add, Hx.out])
            have Hr4 := Lib.hid (And.intro hm4.out (And.intro hc4 (And.intro hc4' hr4)))
            clear hm4 hc4 hc4' hr4 hb4 HO Hbd
            go_wp2_with fail
            go_roundg (n - x)
            case measure => have := Hk.out; have := Hx.out; have := Hq1.out; omega
            case rel => exact ⟨A4, m4, c4, x, V * P + D, rfl, rfl, Lib.hid rfl, by omega, Lib.hid Hr4.out.1, Lib.hid ⟨Hr4.out.2.1, Hr4.out.2.2.1⟩, Lib.hid Hr4.out.2.2.2, Hb4, Lib.hid ⟨by have h := HP.out.2.2.1; rwa [← Hx.out] at h, HV4.out⟩⟩
          · obtain ⟨h91, h92⟩ := h9
            go_wp2_with fail
            refine HM.out.mono ?_
            rintro e W2 ⟨A2, m2, c2, rfl, hm2, hc2, hc2', hr2, hb2⟩
            have Hb2 := Lib.hid (Hbp.out.trans (hb2.mono Hbp.out.size))
            have R2 := Lib.hid (And.intro hm2.out hr2)
            have HX0 := rcut_any (c := 1) (HDr.out W2) (by simp : 1 = [D].length) (Nat.le_refl _) (by omega) (wd_cons.2 ⟨by omega, wd_nil⟩)
            have HX := Lib.hid HX0
            clear HX0 hm2 hc2 hc2' hr2 hb2 HM
            go_wp2_with fail
            refine HX.out.mono ?_
            rintro e W3 ⟨m3, rfl, hm3, rfl⟩
            have hbd := (Below.refl W2.heap.size W2).alloc (Nat.le_refl _) (.cells #[.int .u32 (D : Int)] 163)
            have hrd := reads_cut (HDr.out W2) (wd_cons.2 ⟨by omega, wd_nil⟩)
            rw [val_one_] at hm3 hrd
            have hDl : (wds D).length ≤ 1 := len_wds (by omega)
            have hVP : (wds (V * P)).length ≤ 40001 := len_mul HVl.out (len_wds (k := 1) (by omega))
            have HO0 := rmore_any (c := c2) (d := 1) ((R2.out.2.call hbd).more (Nat.le_refl _)) (hrd.more (B' := (W2.alloc (.cells #[.int .u32 (D : Int)] 163)).heap.size) (by simp)) (Nat.le_refl _) R2.out.1 hm3 (by have := R2.out.1; omega) (by omega) (wd_w _) (wd_w _)
            rw [val_w, val_w] at HO0
            have HO := Lib.hid HO0
            have Hbd := Lib.hid (Hb2.out.trans (hbd.mono Hb2.out.size))
            clear HO0 hbd hrd hm3 hDl hVP HX
            go_wp2_with fail
            refine HO.out.mono ?_
            rintro e W4 ⟨A4, m4, c4, rfl, hm4, hc4, hc4', hr4, hb4⟩
            have Hb4 := Lib.hid (Hb.out.trans ((Hbd.out.trans (hb4.mono Hbd.out.size)).mono Hb.out.size))
            have HV4 := Lib.hid (show V * P + D = dv (ds.take x) by
              rw [HV.out.2, HP.out.1, HP.out.2.1, ← dv_app _ q _ (by rw [List.length_take, List.length_drop]; have := Hx.out; have := Hn.out; omega), ← List.take_add, Hx.out])
            have Hr4 := Lib.hid (And.intro hm4.out (And.intro hc4 (And.intro hc4' hr4)))
            clear hm4 hc4 hc4' hr4 hb4 HO Hbd
            go_wp2_with fail
            go_roundg (n - x)
            case measure => have := Hk.out; have := Hx.out; have := Hq1.out; omega
            case rel => exact ⟨A4, m4, c4, x, V * P + D, rfl, rfl, Lib.hid rfl, by omega, Lib.hid Hr4.out.1, Lib.hid ⟨Hr4.out.2.1, Hr4.out.2.2.1⟩, Lib.hid Hr4.out.2.2.2, Hb4, Lib.hid ⟨by have h := HP.out.2.2.1; rwa [← Hx.out] at h, HV4.out⟩⟩
    · have hi : i0 = n := by omega
      subst hi
      have hiq : (i0 : Int) ≤ (i0 : Int) := Int.le_refl _
      have hall : AllDig ds := by
        have h := HV.out.1
        rwa [List.take_of_length_le (by have := Hn.out; omega)] at h
      have hval : V = dv ds := by
        have h := HV.out.2
        rwa [List.take_of_length_le (by have := Hn.out; omega)] at h
      have HM0 := made_any (neg := neg) Hr.out (Nat.le_refl _) Hm.out Hc.out.1 Hc.out.2 (by have := Hm.out; have := HVl.out; omega) (wd_w _)
      rw [val_w, hval] at HM0
      obtain ⟨zs, zb, ez⟩ : ∃ s b, enc (sgn neg (dv ds)) = .agg #[.bool s, .string b] := ⟨_, _, rfl⟩
      rw [ez] at HM0
      have HM := Lib.hid HM0
      have Hz := Lib.hid (And.intro ez hall)
      have F0 := Lib.hid (E0.out.call Hb.out)
      clear HM0 ez hall hval hin
      go_wp2_with fail
      refine HM.out.mono ?_
      rintro e W2 ⟨rfl, hb2⟩
      have F2 := Lib.hid (F0.out.call hb2)
      have n2 := Env.at_ F2.out 0 rfl
      have y0 := n2.cell 0
      have y1 := n2.cell 1
      have y2 := n2.frozen 0
      have y3 := n2.frozen 1
      simp at y0 y1
      clear n2 hb2 F0
      go_wp2_with fail
      refine bodyPost_ret (v := .tuple #[.agg #[.bool zs, .string zb], .int .i64 0]) (by simp [results, Tryz.results89, go_sem, y0, y1]) rfl ?_
      exact hQ.out _ _ ⟨fun _ => by rw [Hz.out.1], fun h => absurd Hz.out.2 h, (F2.out.1.setCell (Nat.le_refl w.heap.size) _).setCell (Nat.le_refl w.heap.size) _⟩
theorem good_iff {l : List UInt8} {F : Nat} (hF : rfirst l = F) (hlt : F < l.length) (hlead : l[F]? = some 48 → l.length ≤ 1) : Good l ↔ AllDig (l.drop F) := by
  unfold Good
  rw [hF]
  refine ⟨fun h => (good_dig h).1, fun h => ⟨fun j b h1 h2 => ?_, hlt, hlead⟩⟩
  refine h b (List.mem_iff_getElem?.2 ⟨j - F, ?_⟩)
  rw [List.getElem?_drop, show F + (j - F) = j by omega, h2]
set_option maxRecDepth 100000 in
set_option maxHeartbeats 1000000 in
theorem rread_neg_none {w : World} {s : ByteArray} (hs : s.size ≤ 40000) (h0 : 0 < s.size) (hc : s[0] = 45) (h1 : s.size = 1) : Calls Tryz.prog 89 #[.string s] w (RReadd w s.data.toList) := by
  have hb := drop_bytes s 1 (by omega)
  have hd : s[0].toNat = 45 := by rw [hc]; rfl
  have hh := head_of h0
  rw [hc] at hh
  have hl : s.data.toList.length = s.size := Array.length_toList
  have hr : rfirst s.data.toList = 1 := by unfold rfirst signOf; rw [hh]; rfl
  have hsg : signOf s.data.toList = true := by unfold signOf; rw [hh]; rfl
  have hi0 : (0 : Int) < (s.size : Int) := by omega
  obtain ⟨t, ht⟩ : ∃ t, s.extract 1 s.size = t := ⟨_, rfl⟩
  rw [ht] at hb
  obtain ⟨q1, q2⟩ := str_facts h0
  have hz : t.size = 0 := by omega
  obtain ⟨z1, z2⟩ := str_none hz
  have HB := Lib.hid (show ¬ Good s.data.toList by
    unfold Good
    rw [hr]
    intro h
    have := h.2.1
    omega)
  clear hb hc hh hr hsg hl
  have E0 := Lib.hid (Env.new (Env.nil w) 34 #[.bool false, .string ⟨#[]⟩])
  go_enter Tryz.func89, Tryz.ntmps89
  go_wp2_with fail
  refine bodyPost_ret (v := .tuple #[.agg #[.bool false, .string ⟨#[]⟩], .int .i64 120]) (by simp [results, Tryz.results89, go_sem]) rfl ?_
  exact ⟨fun h => absurd h HB.out, fun _ => rfl, E0.out.1⟩
set_option maxRecDepth 100000 in
set_option maxHeartbeats 1000000 in
theorem rread_neg_zero {w : World} {s : ByteArray} (hs : s.size ≤ 40000) (h0 : 0 < s.size) (hc : s[0] = 45) (h1 : 1 < s.size) (h2 : s[1] = 48) : Calls Tryz.prog 89 #[.string s] w (RReadd w s.data.toList) := by
  have hb := drop_bytes s 1 (by omega)
  have hd : s[0].toNat = 45 := by rw [hc]; rfl
  have hh := head_of h0
  rw [hc] at hh
  have hl : s.data.toList.length = s.size := Array.length_toList
  have hr : rfirst s.data.toList = 1 := by unfold rfirst signOf; rw [hh]; rfl
  have hsg : signOf s.data.toList = true := by unfold signOf; rw [hh]; rfl
  have hi0 : (0 : Int) < (s.size : Int) := by omega
  obtain ⟨t, ht⟩ : ∃ t, s.extract 1 s.size = t := ⟨_, rfl⟩
  rw [ht] at hb
  obtain ⟨q1, q2⟩ := str_facts h0
  have htp : 0 < t.size := by omega
  obtain ⟨z1, z2⟩ := str_facts htp
  have ht0 : t[0].toNat = 48 := by
    have e1 := head_of htp
    rw [hb.1, List.head?_drop, List.getElem?_eq_getElem (by omega)] at e1
    injection e1 with e1
    rw [← e1]
    have e2 : s.data.toList[1] = s[1] := rfl
    rw [e2, h2]; rfl
  have HB := Lib.hid (show ¬ Good s.data.toList by
    unfold Good
    rw [hr]
    intro h
    have e3 := h.2.2 (by rw [List.getElem?_eq_getElem (by omega)]; exact congrArg some h2)
    omega)
  clear hb hc hh hr hsg hl
  have E0 := Lib.hid (Env.new (Env.nil w) 34 #[.bool false, .string ⟨#[]⟩])
  go_enter Tryz.func89, Tryz.ntmps89
  go_wp2_with fail
  refine bodyPost_ret (v := .tuple #[.agg #[.bool false, .string ⟨#[]⟩], .int .i64 120]) (by simp [results, Tryz.results89, go_sem]) rfl ?_
  exact ⟨fun h => absurd h HB.out, fun _ => rfl, E0.out.1⟩
set_option maxRecDepth 100000 in
set_option maxHeartbeats 1000000 in
theorem rread_neg_go {w : World} {s : ByteArray} (hs : s.size ≤ 40000) (h0 : 0 < s.size) (hc : s[0] = 45) (h1 : 1 < s.size) (h2 : s[1] ≠ 48) : Calls Tryz.prog 89 #[.string s] w (RReadd w s.data.toList) := by
  have hb := drop_bytes s 1 (by omega)
  have hd : s[0].toNat = 45 := by rw [hc]; rfl
  have hh := head_of h0
  rw [hc] at hh
  have hl : s.data.toList.length = s.size := Array.length_toList
  have hr : rfirst s.data.toList = 1 := by unfold rfirst signOf; rw [hh]; rfl
  have hsg : signOf s.data.toList = true := by unfold signOf; rw [hh]; rfl
  have hi0 : (0 : Int) < (s.size : Int) := by omega
  obtain ⟨t, ht⟩ : ∃ t, s.extract 1 s.size = t := ⟨_, rfl⟩
  rw [ht] at hb
  obtain ⟨q1, q2⟩ := str_facts h0
  have htp : 0 < t.size := by omega
  obtain ⟨z1, z2⟩ := str_facts htp
  have htl : t.size ≤ 40000 := by omega
  have ht0 : t[0].toNat ≠ 48 := by
    have e1 := head_of htp
    rw [hb.1, List.head?_drop, List.getElem?_eq_getElem (by omega)] at e1
    injection e1 with e1
    rw [← e1]
    exact fun h => h2 (UInt8.toNat_inj.1 h)
  have ht1 : ((t[0].toNat : Int) == 48) = false := beq_eq_false_iff_ne.2 (by omega)
  have HB := Lib.hid (And.intro (show Good s.data.toList ↔ AllDig t.data.toList by
    rw [hb.1]
    exact good_iff hr (by omega) (fun h => by
      rw [List.getElem?_eq_getElem (by omega)] at h
      injection h with h
      exact absurd h h2)) (And.intro True.intro (And.intro (show rval s.data.toList = sgn true (dv t.data.toList) by unfold rval; rw [hsg, hr, hb.1]) True.intro)))
  clear hb hc hh hr hsg hl
  have E0 := Lib.hid (Env.new (Env.nil w) 34 #[.bool false, .string ⟨#[]⟩])
  go_enter Tryz.func89, Tryz.ntmps89
  go_upto_if 37 with fail
  go_cut [] (fun wx => Env w wx [(w.heap.size, 34, #[.bool false, .string ⟨#[]⟩])])
  case first =>
    go_wp2_with fail
    go_meet
    case rel => exact E0.out
  case rest =>
    go_step
    refine rread_core (neg := true) (s := s) (t := t) (by omega) (Lib.hid hcut) ?_
    rintro e w' ⟨h1, h2, hb⟩
    exact ⟨fun h => by rw [HB.out.2.2.1]; exact h1 (HB.out.1.1 h), fun h => h2 (fun h3 => h (HB.out.1.2 h3)), hb⟩
set_option maxRecDepth 100000 in
set_option maxHeartbeats 1000000 in
theorem rread_bare_zero {w : World} {s : ByteArray} (hs : s.size ≤ 40000) (h0 : 0 < s.size) (hc : s[0] ≠ 45) (h1 : 1 < s.size) (h2 : s[0] = 48) : Calls Tryz.prog 89 #[.string s] w (RReadd w s.data.toList) := by
  have hh := head_of h0
  have hl : s.data.toList.length = s.size := Array.length_toList
  have hsg : signOf s.data.toList = false := by
    unfold signOf
    rw [hh]
    exact beq_eq_false_iff_ne.2 (fun h => hc (by injection h))
  have hr : rfirst s.data.toList = 0 := by unfold rfirst; rw [hsg]; rfl
  have hi0 : (0 : Int) < (s.size : Int) := by omega
  obtain ⟨q1, q2⟩ := str_facts h0
  have hd0 : s[0].toNat ≠ 45 := fun h => hc (UInt8.toNat_inj.1 h)
  have hd : s[0].toNat = 48 := by rw [h2]; rfl
  have hi1 : (1 : Int) < (s.size : Int) := by omega
  have HB := Lib.hid (show ¬ Good s.data.toList by
    unfold Good
    rw [hr]
    intro h
    have e3 := h.2.2 (by rw [← List.head?_eq_getElem?, hh, h2])
    omega)
  clear hc hh hr hsg hl hd0
  have E0 := Lib.hid (Env.new (Env.nil w) 34 #[.bool false, .string ⟨#[]⟩])
  go_enter Tryz.func89, Tryz.ntmps89
  go_wp2_with fail
  refine bodyPost_ret (v := .tuple #[.agg #[.bool false, .string ⟨#[]⟩], .int .i64 120]) (by simp [results, Tryz.results89, go_sem]) rfl ?_
  exact ⟨fun h => absurd h HB.out, fun _ => rfl, E0.out.1⟩
set_option maxRecDepth 100000 in
set_option maxHeartbeats 1000000 in
theorem rread_bare_go {w : World} {s : ByteArray} (hs : s.size ≤ 40000) (h0 : 0 < s.size) (hc : s[0] ≠ 45) (h2 : s[0] ≠ 48) : Calls Tryz.prog 89 #[.string s] w (RReadd w s.data.toList) := by
  have hh := head_of h0
  have hl : s.data.toList.length = s.size := Array.length_toList
  have hsg : signOf s.data.toList = false := by
    unfold signOf
    rw [hh]
    exact beq_eq_false_iff_ne.2 (fun h => hc (by injection h))
  have hr : rfirst s.data.toList = 0 := by unfold rfirst; rw [hsg]; rfl
  have hi0 : (0 : Int) < (s.size : Int) := by omega
  obtain ⟨q1, q2⟩ := str_facts h0
  have hd0 : s[0].toNat ≠ 45 := fun h => hc (UInt8.toNat_inj.1 h)
  have HB := Lib.hid (And.intro (show Good s.data.toList ↔ AllDig s.data.toList by
    have := good_iff (l := s.data.toList) hr (by omega) (fun h => by
      rw [← List.head?_eq_getElem?, hh] at h
      injection h with h
      first | omega | exact absurd h h2)
    rwa [List.drop_zero] at this) (And.intro True.intro (And.intro (show rval s.data.toList = sgn false (dv s.data.toList) by unfold rval; rw [hsg, hr, List.drop_zero]) True.intro)))
  have hd1 : ((s[0].toNat : Int) == 45) = false := beq_eq_false_iff_ne.2 (by omega)
  have hd2 : s[0].toNat ≠ 48 := fun h => h2 (UInt8.toNat_inj.1 h)
  have hd3 : ((s[0].toNat : Int) == 48) = false := beq_eq_false_iff_ne.2 (by omega)
  clear hc hh hr hsg hl
  have E0 := Lib.hid (Env.new (Env.nil w) 34 #[.bool false, .string ⟨#[]⟩])
  go_enter Tryz.func89, Tryz.ntmps89
  go_upto_if 37 with fail
  go_cut [] (fun wx => Env w wx [(w.heap.size, 34, #[.bool false, .string ⟨#[]⟩])])
  case first =>
    go_wp2_with fail
    go_meet
    case rel => exact E0.out
  case rest =>
    go_step
    refine rread_core (neg := false) (s := s) (t := s) (by omega) (Lib.hid hcut) ?_
    rintro e w' ⟨h1, h2, hb⟩
    exact ⟨fun h => by rw [HB.out.2.2.1]; exact h1 (HB.out.1.1 h), fun h => h2 (fun h3 => h (HB.out.1.2 h3)), hb⟩
set_option maxRecDepth 100000 in
set_option maxHeartbeats 1000000 in
theorem rread_bare_one {w : World} {s : ByteArray} (hs : s.size ≤ 40000) (h0 : 0 < s.size) (hc : s[0] ≠ 45) (h1 : s.size = 1) (h2 : s[0] = 48) : Calls Tryz.prog 89 #[.string s] w (RReadd w s.data.toList) := by
  have hh := head_of h0
  have hl : s.data.toList.length = s.size := Array.length_toList
  have hsg : signOf s.data.toList = false := by
    unfold signOf
    rw [hh]
    exact beq_eq_false_iff_ne.2 (fun h => hc (by injection h))
  have hr : rfirst s.data.toList = 0 := by unfold rfirst; rw [hsg]; rfl
  have hi0 : (0 : Int) < (s.size : Int) := by omega
  obtain ⟨q1, q2⟩ := str_facts h0
  have hd0 : s[0].toNat ≠ 45 := fun h => hc (UInt8.toNat_inj.1 h)
  have HB := Lib.hid (And.intro (show Good s.data.toList ↔ AllDig s.data.toList by
    have := good_iff (l := s.data.toList) hr (by omega) (fun h => by
      rw [← List.head?_eq_getElem?, hh] at h
      injection h with h
      first | omega | exact absurd h h2)
    rwa [List.drop_zero] at this) (And.intro True.intro (And.intro (show rval s.data.toList = sgn false (dv s.data.toList) by unfold rval; rw [hsg, hr, List.drop_zero]) True.intro)))
  have hd : s[0].toNat = 48 := by rw [h2]; rfl
  have hi1 : (s.size : Int) ≤ 1 := by omega
  clear hc hh hr hsg hl hd0
  have E0 := Lib.hid (Env.new (Env.nil w) 34 #[.bool false, .string ⟨#[]⟩])
  go_enter Tryz.func89, Tryz.ntmps89
  go_upto_if 37 with fail
  go_cut [] (fun wx => Env w wx [(w.heap.size, 34, #[.bool false, .string ⟨#[]⟩])])
  case first =>
    go_wp2_with fail
    go_meet
    case rel => exact E0.out
  case rest =>
    go_step
    refine rread_core (neg := false) (s := s) (t := s) (by omega) (Lib.hid hcut) ?_
    rintro e w' ⟨h1, h2, hb⟩
    exact ⟨fun h => by rw [HB.out.2.2.1]; exact h1 (HB.out.1.1 h), fun h => h2 (fun h3 => h (HB.out.1.2 h3)), hb⟩
theorem rread_none {w : World} : Calls Tryz.prog 89 #[.string ⟨#[]⟩] w (RReadd w []) := by
  have E0 := Lib.hid (Env.new (Env.nil w) 34 #[.bool false, .string ⟨#[]⟩])
  have Hno := Lib.hid (show ¬ Good [] from fun h => absurd h.2.1 (by simp))
  go_enter Tryz.func89, Tryz.ntmps89
  go_wp2_with fail
  refine bodyPost_ret (v := .tuple #[.agg #[.bool false, .string ⟨#[]⟩], .int .i64 120]) (by simp [results, Tryz.results89, go_sem]) rfl ?_
  exact ⟨fun h => absurd h Hno.out, fun _ => rfl, E0.out.1⟩
theorem rread_any {w : World} {s : ByteArray} (hs : s.size ≤ 40000) : Calls Tryz.prog 89 #[.string s] w (RReadd w s.data.toList) := by
  rcases Nat.eq_zero_or_pos s.size with h0 | h0
  · have hl : s.data.toList.length = s.size := Array.length_toList
    obtain rfl := str_empty (List.eq_nil_of_length_eq_zero (show s.data.toList.length = 0 by omega))
    exact rread_none
  · by_cases hc : s[0] = 45
    · by_cases h1 : s.size = 1
      · exact rread_neg_none hs h0 hc h1
      · by_cases h2 : s[1]'(by omega) = 48
        · exact rread_neg_zero hs h0 hc (by omega) h2
        · exact rread_neg_go hs h0 hc (by omega) h2
    · by_cases h2 : s[0] = 48
      · by_cases h1 : s.size = 1
        · exact rread_bare_one hs h0 hc h1 h2
        · exact rread_bare_zero hs h0 hc (by omega) h2
      · exact rread_bare_go hs h0 hc h2
end Go.Proofs.YtebpggfccljagaaGreatDoor

/- What an argument's text says: plain. -/
namespace Go.Proofs.YtebpggfccljagaaGreatDoor
open Go.RowKit
open Wh
set_option linter.unusedSimpArgs false
set_option linter.unusedVariables false

def nameP (nm : ByteArray) : ArgP := ⟨1, nm, false, ⟨#[]⟩, false, ⟨#[]⟩, false, ⟨#[]⟩, false, ⟨#[]⟩, [], 0⟩
def numP (a b c d : Int) : ArgP := ⟨2, ⟨#[]⟩, decide (a < 0), ⟨(bys a.natAbs).toArray⟩, decide (b < 0), ⟨(bys b.natAbs).toArray⟩, decide (c < 0), ⟨(bys c.natAbs).toArray⟩, decide (d < 0), ⟨(bys d.natAbs).toArray⟩, [], 0⟩
def infP : ArgP := ⟨3, ⟨#[]⟩, false, ⟨#[]⟩, false, ⟨#[]⟩, false, ⟨#[]⟩, false, ⟨#[]⟩, [], 0⟩
def wordP (wd : List Int) : ArgP := ⟨4, ⟨#[]⟩, false, ⟨#[]⟩, false, ⟨#[]⟩, false, ⟨#[]⟩, false, ⟨#[]⟩, wd, 0⟩
def countP (ct : Int) : ArgP := ⟨5, ⟨#[]⟩, false, ⟨#[]⟩, false, ⟨#[]⟩, false, ⟨#[]⟩, false, ⟨#[]⟩, [], ct⟩
def noneP : ArgP := ⟨0, ⟨#[]⟩, false, ⟨#[]⟩, false, ⟨#[]⟩, false, ⟨#[]⟩, false, ⟨#[]⟩, [], 0⟩
theorem argT_name (nm : ByteArray) : argT (nameP nm) = nm.data.toList := rfl
theorem argT_num (a b c d : Int) : argT (numP a b c d) = 40 :: (txtF a b ++ [44] ++ txtF c d ++ [41]) := by
  have e : argT (numP a b c d) = 40 :: (txtF (num (decide (a < 0), ⟨(bys a.natAbs).toArray⟩)) (num (decide (b < 0), ⟨(bys b.natAbs).toArray⟩)) ++ [44] ++ txtF (num (decide (c < 0), ⟨(bys c.natAbs).toArray⟩)) (num (decide (d < 0), ⟨(bys d.natAbs).toArray⟩)) ++ [41]) := rfl
  rw [e, num_back, num_back, num_back, num_back]
theorem argT_inf : argT infP = [40, 105, 110, 102, 41] := rfl
theorem argT_word (wd : List Int) : argT (wordP wd) = 91 :: (wtx wd ++ [93]) := rfl
theorem argT_count (ct : Int) : argT (countP ct) = 35 :: Lib.itoa ct := rfl
theorem not_ok_none : ¬ noneP.ok := fun h => by
  unfold ArgP.ok noneP at h
  simp at h
theorem may_back {na nb : Bool} {sa sb : ByteArray} (h : MayFr na sa nb sb) : ∃ a b, na = decide (a < 0) ∧ sa = ⟨(bys a.natAbs).toArray⟩ ∧ nb = decide (b < 0) ∧ sb = ⟨(bys b.natAbs).toArray⟩ ∧ MayZ a b := by
  have h1 := enc_parts h.a
  have h2 := enc_parts h.b
  refine ⟨num (na, sa), num (nb, sb), h1.1.symm, h1.2.symm, h2.1.symm, h2.2.symm, ?_⟩
  unfold MayZ
  rw [h1.1, h1.2, h2.1, h2.2]
  exact h
theorem ok_cases {y : ArgP} (h : y.ok) : (∃ nm, y = nameP nm ∧ Sc.namedB nm.data.toList = true) ∨ (∃ a b c d, y = numP a b c d ∧ MayZ a b ∧ MayZ c d) ∨ y = infP ∨ (∃ wd, y = wordP wd ∧ wd.all letA = true ∧ wd.length ≤ 4096) ∨ (∃ ct, y = countP ct ∧ 0 ≤ ct ∧ ct ≤ 2147483647) := by
  obtain ⟨k, nm, n0, s0, n1, s1, n2, s2, n3, s3, wd, ct⟩ := y
  unfold ArgP.ok at h
  unfold ArgP.zero at h
  unfold ArgP.gs at h
  simp only at h
  by_cases h1 : k = 1
  · subst h1
    rw [if_pos rfl] at h
    obtain ⟨h0, ⟨rfl, rfl, rfl, rfl, rfl, rfl, rfl, rfl⟩, rfl, rfl⟩ := h
    exact .inl ⟨nm, rfl, h0⟩
  rw [if_neg h1] at h
  by_cases h2 : k = 2
  · subst h2
    rw [if_pos rfl] at h
    obtain ⟨rfl, hg, rfl, rfl⟩ := h
    obtain ⟨a, b, rfl, rfl, rfl, rfl, hm⟩ := may_back hg.re
    obtain ⟨c, d, rfl, rfl, rfl, rfl, hm2⟩ := may_back hg.im
    exact .inr (.inl ⟨a, b, c, d, rfl, hm, hm2⟩)
  rw [if_neg h2] at h
  by_cases h3 : k = 3
  · subst h3
    rw [if_pos rfl] at h
    obtain ⟨rfl, ⟨rfl, rfl, rfl, rfl, rfl, rfl, rfl, rfl⟩, rfl, rfl⟩ := h
    exact .inr (.inr (.inl rfl))
  rw [if_neg h3] at h
  by_cases h4 : k = 4
  · subst h4
    rw [if_pos rfl] at h
    obtain ⟨rfl, ⟨rfl, rfl, rfl, rfl, rfl, rfl, rfl, rfl⟩, ha, hl, rfl⟩ := h
    exact .inr (.inr (.inr (.inl ⟨wd, rfl, ha, hl⟩)))
  rw [if_neg h4] at h
  by_cases h5 : k = 5
  · subst h5
    rw [if_pos rfl] at h
    obtain ⟨rfl, ⟨rfl, rfl, rfl, rfl, rfl, rfl, rfl, rfl⟩, rfl, ha, hl⟩ := h
    exact .inr (.inr (.inr (.inr ⟨ct, rfl, ha, hl⟩)))
  rw [if_neg h5] at h
  exact h.elim
theorem itoa_ne (k : Int) : Lib.itoa k ≠ [] := by
  unfold Lib.itoa
  have h : ∀ u : Nat, Lib.decDigits u ≠ [] := fun u h => by
    rw [Lib.decDigits] at h
    split at h <;> simp at h
  split
  · simp
  · exact h _
theorem itoa_byte {k : Int} {b : UInt8} (h : b ∈ Lib.itoa k) : b = 45 ∨ IsDig b := by
  have hd : ∀ u : Nat, b ∈ Lib.decDigits u → IsDig b := by
    intro u
    induction u using Nat.strongRecOn with
    | ind u ih =>
      intro hb
      by_cases h : u < 10
      · have e : Lib.decDigits u = [UInt8.ofNat (48 + u)] := by rw [Lib.decDigits, dif_pos h]
        rw [e] at hb
        rw [List.mem_singleton.1 hb]
        exact ⟨by rw [dec_byte h]; omega, by rw [dec_byte h]; omega⟩
      · have e : Lib.decDigits u = Lib.decDigits (u / 10) ++ [UInt8.ofNat (48 + u % 10)] := by rw [Lib.decDigits, dif_neg h]
        rw [e] at hb
        rcases List.mem_append.1 hb with h2 | h2
        · exact ih (u / 10) (by omega) h2
        · rw [List.mem_singleton.1 h2]
          exact ⟨by rw [dec_byte (by omega)]; omega, by rw [dec_byte (by omega)]; omega⟩
  unfold Lib.itoa at h
  split at h
  · rcases List.mem_cons.1 h with h | h
    · exact .inl h
    · exact .inr (hd _ h)
  · exact .inr (hd _ h)
theorem dig_len : ∀ (k u : Nat), u < 10 ^ k → 1 ≤ k → (Lib.decDigits u).length ≤ k
  | 0, _, _, h => absurd h (by decide)
  | 1, u, hu, _ => by
    have h : u < 10 := by simpa using hu
    rw [Lib.decDigits, dif_pos h]; simp
  | k + 2, u, hu, _ => by
    by_cases h : u < 10
    · rw [Lib.decDigits, dif_pos h]; simp
    · rw [Lib.decDigits, dif_neg h, List.length_append]
      have := dig_len (k + 1) (u / 10) (by rw [Nat.pow_succ] at hu; omega) (by omega)
      simp only [List.length_cons, List.length_nil]
      omega
theorem itoa_small {k : Int} (h1 : -9999999999 ≤ k) (h2 : k ≤ 9999999999) : (Lib.itoa k).length ≤ 12 := by
  unfold Lib.itoa
  split
  · have := dig_len 10 k.natAbs (by omega) (by decide)
    simp only [List.length_cons]
    omega
  · have := dig_len 10 k.toNat (by omega) (by decide)
    omega
theorem itoa_inj {a b : Int} (h : Lib.itoa a = Lib.itoa b) : a = b := by
  have hp : ∀ (p : List UInt8), numTo p p.length = 0 → ∀ u v : Nat, p ++ Lib.decDigits u = p ++ Lib.decDigits v → u = v := fun p hp u v h => by
    have h1 := numTo_dec p hp u
    have h2 := numTo_dec p hp v
    have h3 := List.append_cancel_left h
    rw [h3, h2] at h1
    omega
  have hh : ∀ u : Nat, ∀ r, Lib.decDigits u ≠ 45 :: r := fun u r h => by
    have := dec_ge u 45 (by rw [h]; exact List.mem_cons_self)
    exact absurd this (by decide)
  unfold Lib.itoa at h
  split at h <;> split at h
  · have := hp [] rfl _ _ (List.cons.inj h).2
    omega
  · exact absurd h.symm (hh _ _)
  · exact absurd h (hh _ _)
  · have := hp [] rfl _ _ h
    omega
theorem map_itoa_inj : ∀ {a b : List Int}, a.map Lib.itoa = b.map Lib.itoa → a = b
  | [], [], _ => rfl
  | [], _ :: _, h => by simp at h
  | _ :: _, [], h => by simp at h
  | x :: a, y :: b, h => by
    simp only [List.map_cons, List.cons.injEq] at h
    rw [itoa_inj h.1, map_itoa_inj h.2]
theorem dot_no (k : Int) : (46 : UInt8) ∉ Lib.itoa k := fun h => (itoa_byte h).elim (by decide) (no_dig (.inl (by decide)))
theorem wtx_ne {l : List Int} (h : l ≠ []) : wtx l ≠ [] := by
  cases l with
  | nil => exact absurd rfl h
  | cons k r =>
    unfold wtx
    rw [List.map_cons, Lib.join_cons]
    intro h
    exact itoa_ne k (List.append_eq_nil_iff.1 h).1
theorem wtx_parts {l : List Int} (h : l ≠ []) : parts 46 (wtx l) = l.map Lib.itoa := by
  unfold wtx
  refine parts_join (by simpa using h) fun t ht => ?_
  obtain ⟨k, _, rfl⟩ := List.mem_map.1 ht
  exact dot_no k
theorem wtx_byte {l : List Int} {b : UInt8} (h : b ∈ wtx l) : b = 46 ∨ b = 45 ∨ IsDig b := by
  unfold wtx at h
  cases l with
  | nil => simp [Lib.join] at h
  | cons k r =>
    rw [List.map_cons, Lib.join_cons] at h
    rcases List.mem_append.1 h with h | h
    · exact .inr (itoa_byte h)
    · unfold Lib.joinTail at h
      rw [List.mem_flatten] at h
      obtain ⟨t, ht, hb⟩ := h
      rw [List.mem_map] at ht
      obtain ⟨q, hq, rfl⟩ := ht
      rw [List.mem_map] at hq
      obtain ⟨z, _, rfl⟩ := hq
      rcases List.mem_append.1 hb with hb | hb
      · exact .inl (List.mem_singleton.1 hb)
      · exact .inr (itoa_byte hb)
theorem wtx_inj {a b : List Int} (h : wtx a = wtx b) : a = b := by
  by_cases ha : a = []
  · subst ha
    by_cases hb : b = []
    · exact hb.symm
    · exact absurd h.symm (wtx_ne hb)
  · by_cases hb : b = []
    · subst hb
      exact absurd h (wtx_ne ha)
    · have h1 := wtx_parts ha
      rw [h, wtx_parts hb] at h1
      exact (map_itoa_inj h1).symm
theorem named_head {l : List UInt8} (h : Sc.namedB l = true) : ∃ c r, l = c :: r ∧ 97 ≤ c.toNat ∧ c.toNat ≤ 122 ∧ ∀ b ∈ l, b.toNat = 45 ∨ 48 ≤ b.toNat := by
  cases l with
  | nil => exact absurd h (by decide)
  | cons c r =>
    unfold Sc.namedB at h
    simp only [Bool.and_eq_true, decide_eq_true_eq] at h
    obtain ⟨_, hc, hr⟩ := h
    unfold Sc.letB at hc
    simp only [Bool.and_eq_true, decide_eq_true_eq] at hc
    refine ⟨c, r, rfl, hc.1, hc.2, fun b hb => ?_⟩
    rcases List.mem_cons.1 hb with rfl | hb
    · omega
    · have := List.all_eq_true.1 hr b hb
      unfold Sc.behB Sc.letB Sc.digB at this
      simp only [Bool.or_eq_true, Bool.and_eq_true, decide_eq_true_eq, beq_iff_eq] at this
      rcases this with (h | h) | h
      · omega
      · omega
      · subst h; exact .inl rfl
/-- the one argument that may be and whose text it is, if there is one -/
def GuessIs (l : List UInt8) (x : ArgP) : Prop := ∀ y : ArgP, y.ok → argT y = l → y = x
def ArgIs (l : List UInt8) (x : ArgP) : Prop := (x.ok → argT x = l) ∧ GuessIs l x
def ArgNot (l : List UInt8) : Prop := ∀ y : ArgP, y.ok → argT y ≠ l
theorem ArgNot.guess {l : List UInt8} (h : ArgNot l) (x : ArgP) : GuessIs l x := fun y hy he => absurd he (h y hy)
theorem not_nil : ArgNot [] := fun y hy he => by
  rcases ok_cases hy with ⟨nm, rfl, h⟩ | ⟨a, b, c, d, rfl, _, _⟩ | rfl | ⟨wd, rfl, _⟩ | ⟨ct, rfl, _⟩
  · rw [argT_name] at he; obtain ⟨c, r, hl, _⟩ := named_head h; rw [he] at hl; cases hl
  · rw [argT_num] at he; cases he
  · cases he
  · cases he
  · cases he
/-- by the first byte -/
theorem head_paren {y : ArgP} {r : List UInt8} (hy : y.ok) (he : argT y = 40 :: r) : (∃ a b c d, y = numP a b c d ∧ MayZ a b ∧ MayZ c d ∧ r = txtF a b ++ [44] ++ txtF c d ++ [41]) ∨ (y = infP ∧ r = [105, 110, 102, 41]) := by
  rcases ok_cases hy with ⟨nm, rfl, h⟩ | ⟨a, b, c, d, rfl, h1, h2⟩ | rfl | ⟨wd, rfl, _⟩ | ⟨ct, rfl, _⟩
  · rw [argT_name] at he; obtain ⟨c, q, hl, h1, _⟩ := named_head h; rw [he] at hl; injection hl with hl; rw [← hl] at h1; exact absurd h1 (by decide)
  · rw [argT_num] at he
    exact .inl ⟨a, b, c, d, rfl, h1, h2, (List.cons.inj he).2.symm⟩
  · exact .inr ⟨rfl, (List.cons.inj he).2.symm⟩
  · rw [argT_word] at he; exact absurd (List.cons.inj he).1 (by decide)
  · rw [argT_count] at he; exact absurd (List.cons.inj he).1 (by decide)
theorem head_brack {y : ArgP} {r : List UInt8} (hy : y.ok) (he : argT y = 91 :: r) : ∃ wd, y = wordP wd ∧ wd.all letA = true ∧ wd.length ≤ 4096 ∧ r = wtx wd ++ [93] := by
  rcases ok_cases hy with ⟨nm, rfl, h⟩ | ⟨a, b, c, d, rfl, h1, h2⟩ | rfl | ⟨wd, rfl, h1, h2⟩ | ⟨ct, rfl, _⟩
  · rw [argT_name] at he; obtain ⟨c, q, hl, h1, _⟩ := named_head h; rw [he] at hl; injection hl with hl; rw [← hl] at h1; exact absurd h1 (by decide)
  · rw [argT_num] at he; exact absurd (List.cons.inj he).1 (by decide)
  · exact absurd (List.cons.inj he).1 (by decide)
  · rw [argT_word] at he
    exact ⟨wd, rfl, h1, h2, (List.cons.inj he).2.symm⟩
  · rw [argT_count] at he; exact absurd (List.cons.inj he).1 (by decide)
theorem head_hash {y : ArgP} {r : List UInt8} (hy : y.ok) (he : argT y = 35 :: r) : ∃ ct, y = countP ct ∧ 0 ≤ ct ∧ ct ≤ 2147483647 ∧ r = Lib.itoa ct := by
  rcases ok_cases hy with ⟨nm, rfl, h⟩ | ⟨a, b, c, d, rfl, h1, h2⟩ | rfl | ⟨wd, rfl, h1, h2⟩ | ⟨ct, rfl, h1, h2⟩
  · rw [argT_name] at he; obtain ⟨c, q, hl, h1, _⟩ := named_head h; rw [he] at hl; injection hl with hl; rw [← hl] at h1; exact absurd h1 (by decide)
  · rw [argT_num] at he; exact absurd (List.cons.inj he).1 (by decide)
  · exact absurd (List.cons.inj he).1 (by decide)
  · rw [argT_word] at he; exact absurd (List.cons.inj he).1 (by decide)
  · rw [argT_count] at he
    exact ⟨ct, rfl, h1, h2, (List.cons.inj he).2.symm⟩
theorem is_name {s : ByteArray} {c : UInt8} {r : List UInt8} (hl : s.data.toList = c :: r) (h1 : c ≠ 40) (h2 : c ≠ 91) (h3 : c ≠ 35) : ArgIs s.data.toList (nameP s) :=
  ⟨fun _ => rfl, fun y hy he => by
    rcases ok_cases hy with ⟨nm, rfl, h⟩ | ⟨a, b, c, d, rfl, _, _⟩ | rfl | ⟨wd, rfl, _, _⟩ | ⟨ct, rfl, _, _⟩
    · rw [argT_name] at he
      rw [ByteArray.ext (Array.toList_inj.1 he)]
    · rw [hl, argT_num] at he; exact absurd (List.cons.inj he).1.symm h1
    · rw [hl] at he; exact absurd (List.cons.inj he).1.symm h1
    · rw [hl, argT_word] at he; exact absurd (List.cons.inj he).1.symm h2
    · rw [hl, argT_count] at he; exact absurd (List.cons.inj he).1.symm h3⟩
/-- what lies between a bracket and its end -/
theorem paren_end {r : List UInt8} (h : ∀ q, r ≠ q ++ [41]) : ArgNot (40 :: r) := fun y hy he => by
  rcases head_paren hy he with ⟨a, b, c, d, rfl, _, _, hr⟩ | ⟨rfl, hr⟩
  · exact h _ hr
  · exact h [105, 110, 102] hr
theorem brack_end {r : List UInt8} (h : ∀ q, r ≠ q ++ [93]) : ArgNot (91 :: r) := fun y hy he => by
  obtain ⟨wd, rfl, _, _, hr⟩ := head_brack hy he
  exact h _ hr
theorem comma_no (a b : Int) : (44 : UInt8) ∉ txtF a b := fun h => by
  rcases txtF_byte h with h | h | h
  · exact absurd h (by decide)
  · exact absurd h (by decide)
  · exact no_dig (.inl (by decide)) h
theorem is_inf : ArgIs [40, 105, 110, 102, 41] infP :=
  ⟨fun _ => rfl, fun y hy he => by
    rcases head_paren hy he with ⟨a, b, c, d, rfl, _, _, hr⟩ | ⟨rfl, _⟩
    · have h1 : (44 : UInt8) ∈ ([105, 110, 102, 41] : List UInt8) := by rw [hr]; simp
      exact absurd h1 (by decide)
    · rfl⟩
/-- no comma: no number -/
theorem paren_plain {q : List UInt8} (h1 : q ≠ [105, 110, 102]) (h2 : (44 : UInt8) ∉ q) : ArgNot (40 :: (q ++ [41])) := fun y hy he => by
  rcases head_paren hy he with ⟨a, b, c, d, rfl, _, _, hr⟩ | ⟨rfl, hr⟩
  · have := List.append_cancel_right hr
    exact h2 (by rw [this]; simp)
  · exact h1 (List.append_cancel_right (bs := [41]) hr)
/-- split at the first comma -/
theorem split_first {c : UInt8} : ∀ {x y u v : List UInt8}, c ∉ x → c ∉ u → x ++ c :: y = u ++ c :: v → x = u ∧ y = v
  | [], y, [], v, _, _, h => ⟨rfl, (List.cons.inj h).2⟩
  | [], y, b :: u, v, _, hu, h => absurd (List.cons.inj h).1 (fun e => hu (by rw [← e]; exact List.mem_cons_self))
  | b :: x, y, [], v, hx, _, h => absurd (List.cons.inj h).1 (fun e => hx (by rw [e]; exact List.mem_cons_self))
  | b :: x, y, d :: u, v, hx, hu, h => by
    obtain ⟨e1, e2⟩ := List.cons.inj h
    obtain ⟨h1, h2⟩ := split_first (fun hh => hx (List.mem_cons_of_mem _ hh)) (fun hh => hu (List.mem_cons_of_mem _ hh)) e2
    exact ⟨by rw [e1, h1], h2⟩
theorem paren_two {y : ArgP} {p q : List UInt8} (hy : y.ok) (hp : (44 : UInt8) ∉ p) (he : argT y = 40 :: ((p ++ 44 :: q) ++ [41])) : ∃ a b c d, y = numP a b c d ∧ MayZ a b ∧ MayZ c d ∧ p = txtF a b ∧ q = txtF c d := by
  rcases head_paren hy he with ⟨a, b, c, d, rfl, h1, h2, hr⟩ | ⟨rfl, hr⟩
  · have h3 : p ++ 44 :: q = txtF a b ++ 44 :: txtF c d := by
      have := List.append_cancel_right hr
      rw [this]; simp
    obtain ⟨h4, h5⟩ := split_first hp (comma_no a b) h3
    exact ⟨a, b, c, d, rfl, h1, h2, h4, h5⟩
  · have h1 : p ++ 44 :: q = [105, 110, 102] := List.append_cancel_right (bs := [41]) hr
    have h2 : (44 : UInt8) ∈ ([105, 110, 102] : List UInt8) := by rw [← h1]; simp
    exact absurd h2 (by decide)
theorem paren_bad {p q : List UInt8} (hp : (44 : UInt8) ∉ p) (h : (∀ a b, MayZ a b → p ≠ txtF a b) ∨ (∀ a b, MayZ a b → q ≠ txtF a b)) : ArgNot (40 :: ((p ++ 44 :: q) ++ [41])) := fun y hy he => by
  obtain ⟨a, b, c, d, rfl, h1, h2, h3, h4⟩ := paren_two hy hp he
  exact h.elim (fun h => h a b h1 h3) (fun h => h c d h2 h4)
theorem txtF_inj {a b c d : Int} (h : txtF a b = txtF c d) : a = c ∧ b = d := by
  have h1 := inF_txt (a := a) (b := b)
  rw [h, inF_txt] at h1
  injection h1 with h1
  injection h1 with h1 h2
  exact ⟨h1.symm, h2.symm⟩
theorem paren_is {p q : List UInt8} {a b c d : Int} (hp : p = txtF a b) (hq : q = txtF c d) : ArgIs (40 :: ((p ++ 44 :: q) ++ [41])) (numP a b c d) :=
  ⟨fun _ => by rw [argT_num, hp, hq]; simp, fun y hy he => by
    obtain ⟨a', b', c', d', rfl, _, _, h3, h4⟩ := paren_two hy (by rw [hp]; exact comma_no a b) he
    obtain ⟨rfl, rfl⟩ := txtF_inj (hp.symm.trans h3)
    obtain ⟨rfl, rfl⟩ := txtF_inj (hq.symm.trans h4)
    rfl⟩
theorem brack_is {q : List UInt8} {wd : List Int} (h : q = wtx wd) : ArgIs (91 :: (q ++ [93])) (wordP wd) :=
  ⟨fun _ => by rw [argT_word, h], fun y hy he => by
    obtain ⟨wd', rfl, _, _, hr⟩ := head_brack hy he
    have h1 := List.append_cancel_right hr
    rw [h] at h1
    rw [wtx_inj h1]⟩
/-- a piece that is no number's text -/
theorem brack_bad {q p : List UInt8} (hq : q ≠ []) (hp : p ∈ parts 46 q) (h : ∀ k : Int, (Lib.itoa k).length ≤ 12 → Lib.itoa k ≠ p) : ArgNot (91 :: (q ++ [93])) := fun y hy he => by
  obtain ⟨wd, rfl, ha, hl, hr⟩ := head_brack hy he
  have h1 := List.append_cancel_right hr
  have hne : wd ≠ [] := fun e => hq (by rw [h1, e]; rfl)
  rw [h1, wtx_parts hne] at hp
  obtain ⟨k, hk, rfl⟩ := List.mem_map.1 hp
  have h2 := of_decide_eq_true (List.all_eq_true.1 ha k hk)
  exact h k (itoa_small (by omega) (by omega)) rfl
theorem brack_long {q : List UInt8} {wd : List Int} (h : q = wtx wd) (hl : 4096 < wd.length) : ArgNot (91 :: (q ++ [93])) := fun y hy he => by
  obtain ⟨wd', rfl, _, h2, hr⟩ := head_brack hy he
  have h1 := List.append_cancel_right hr
  rw [h] at h1
  rw [← wtx_inj h1] at h2
  omega
theorem hash_is {q : List UInt8} {ct : Int} (h : Lib.itoa ct = q) : ArgIs (35 :: q) (countP ct) :=
  ⟨fun _ => by rw [argT_count, h], fun y hy he => by
    obtain ⟨ct', rfl, _, _, hr⟩ := head_hash hy he
    rw [itoa_inj (h.trans hr)]⟩
theorem hash_bad {q : List UInt8} (h : ∀ k : Int, (Lib.itoa k).length ≤ 12 → Lib.itoa k ≠ q) : ArgNot (35 :: q) := fun y hy he => by
  obtain ⟨ct, rfl, h1, h2, hr⟩ := head_hash hy he
  exact h ct (itoa_small (by omega) (by omega)) hr.symm
end Go.Proofs.YtebpggfccljagaaGreatDoor
