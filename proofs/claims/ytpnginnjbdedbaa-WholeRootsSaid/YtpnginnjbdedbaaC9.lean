import Derived.Test.YtpnginnjbdedbaaC6
import Derived.Test.YtpnginnjbdedbaaC4
import Derived.Test.YtpnginnjbdedbaaC7
import Derived.Test.YtpnginnjbdedbaaC8
import Derived.BigQuiet
/- whole.Shift (printed by gen_shift.py). -/
namespace Go.Proofs.Ytpnginnjbdedbaa
open Go.RowKit
open Wh
set_option linter.unusedSimpArgs false

/-- a number shifted -/
def shf (x n : Int) : Int := if 0 ≤ n then x * 2 ^ n.toNat else x / 2 ^ (-n).toNat
theorem shf_zero (n : Int) : shf 0 n = 0 := by
  unfold shf
  by_cases h : 0 ≤ n
  · rw [if_pos h, Int.zero_mul]
  · rw [if_neg h, Int.zero_ediv]
theorem shr_far {x : Int} {a n : Nat} (h : x.natAbs < 2 ^ a) (hn : a ≤ n) : x / 2 ^ n = if x < 0 then -1 else 0 := by
  have h1 : (2 : Nat) ^ a ≤ 2 ^ n := Nat.pow_le_pow_right (by decide) hn
  have hp := pow2_pos n
  have hc := pow2_cast n
  generalize (2 : Int) ^ n = P at *
  generalize (2 : Nat) ^ n = Q at *
  by_cases h0 : x < 0
  · rw [if_pos h0]
    exact ((Int.ediv_emod_unique (r := x + P) hp).2 ⟨by omega, by omega, by omega⟩).1
  · rw [if_neg h0]
    exact Int.ediv_eq_zero_of_lt (by omega) (by omega)
theorem bl_shl {m n k : Nat} (h : bl m ≤ k) : bl (m * 2 ^ n) ≤ k + n := by
  refine bl_lt.2 ?_
  rw [Nat.pow_add]
  exact Nat.mul_lt_mul_of_pos_right (bl_lt.1 h) (Nat.two_pow_pos n)
theorem bl_shl_ge {m n k : Nat} (h0 : 0 < m) (h : bl (m * 2 ^ n) ≤ k) : n < k := by
  have h1 := bl_lt.1 h
  have h2 : (2 : Nat) ^ n ≤ m * 2 ^ n := Nat.le_mul_of_pos_left _ h0
  exact (Nat.pow_lt_pow_iff_right (by decide)).1 (Nat.lt_of_le_of_lt h2 h1)
theorem shl_abs (x : Int) (n : Nat) : (x * 2 ^ n).natAbs = x.natAbs * 2 ^ n := by rw [Int.natAbs_mul, pow2_abs]
theorem shf_big {x n : Int} {k : Nat} (h0 : x ≠ 0) (hn : (k : Int) < n) : ¬ bl (shf x n).natAbs ≤ k := by
  intro h
  unfold shf at h
  rw [if_pos (by omega), shl_abs] at h
  have := bl_shl_ge (by omega) h
  omega
theorem shf_far {x n : Int} {k a : Nat} (hx : bl x.natAbs ≤ k) (hn : n < -(a : Int)) (ha : k ≤ a) : x / 2 ^ a = shf x n := by
  unfold shf
  rw [if_neg (by omega), shr_far (bl_lt.1 hx) ha, shr_far (bl_lt.1 hx) (show k ≤ (-n).toNat by omega)]
set_option maxRecDepth 100000 in
set_option maxHeartbeats 4000000 in
theorem wshift_bad {w : World} {na : Bool} {sa : ByteArray} {n : Int} (hm : ¬ MayL na sa.data.toList) :
    Calls Try.prog 22 #[.agg #[.bool na, .string sa], .int .i64 n] w (Ans w (MayL na sa.data.toList) (shf (num (na, sa)) n)) := by
  have hb1 := new_below w (.cells #[.bool na, .string sa] 26)
  have hb2 := hb1.alloc (by simp) (.cells #[.bool false, .string ⟨#[]⟩] 26)
  have k1 := (Blk.new w 26 #[.bool na, .string sa]).alloc (.cells #[.bool false, .string ⟨#[]⟩] 26)
  have k2 := Blk.new (w.alloc (.cells #[.bool na, .string sa] 26)) 26 #[.bool false, .string ⟨#[]⟩]
  have hO := of_one (w := (w.alloc (.cells #[.bool na, .string sa] 26)).alloc (.cells #[.bool false, .string ⟨#[]⟩] 26)) (na := na) (sa := sa)
  rw [World.size_alloc, World.size_alloc] at hO
  rw [World.size_alloc] at k2
  have HO := Lib.hid hO
  have Hb := Lib.hid (And.intro hb2 (And.intro k1 k2))
  have Hm := Lib.hid hm
  clear hm
  clear hO hb1 hb2 k1 k2
  go_enter Try.func22, Try.ntmps22
  go_wp2_with fail
  refine HO.out.mono ?_
  rintro e w5 ⟨h1, h2, hb5⟩
  have hb05 := Hb.out.1.trans (hb5.mono (by simp <;> omega))
  have m1 := Hb.out.2.1.below hb5 (by simp <;> omega)
  have m2 := Hb.out.2.2.below hb5 (by simp)
  have c0 : w5.cell? ⟨w.heap.size, 0, none⟩ = some (.bool na) := m1.cell 0
  have c1 : w5.cell? ⟨w.heap.size, 1, none⟩ = some (.string sa) := m1.cell 1
  have d0 : w5.cell? ⟨w.heap.size + 1, 0, none⟩ = some (.bool false) := m2.cell 0
  have d1 : w5.cell? ⟨w.heap.size + 1, 1, none⟩ = some (.string ⟨#[]⟩) := m2.cell 1
  have d2 := m2.frozen 0
  have d3 := m2.frozen 1
  have H5 := Lib.hid (And.intro hb05 m2)
  have Hsz := Lib.hid (show w.heap.size + 1 + 1 ≤ w5.heap.size by have := hb5.size; simp at this; omega)
  clear hb5 hb05 m1 m2
  obtain ⟨A5, n5, c5, rfl⟩ := h2 Hm.out
  clear h1 h2
  go_wp2_with fail
  refine bodyPost_ret (v := .tuple #[.agg #[.bool false, .string ⟨#[]⟩], .int .i64 2]) (by simp [results, Try.results22, go_sem, d0, d1]) rfl ?_
  exact ⟨fun h => absurd h Hm.out, fun h => absurd h Hm.out, fun _ => rfl, ((H5.out.1.setCell (by show w.heap.size ≤ w.heap.size + 1; omega) _).setCell (by show w.heap.size ≤ w.heap.size + 1; omega) _)⟩
set_option maxRecDepth 100000 in
set_option maxHeartbeats 4000000 in
theorem wshift_zero {w : World} {na : Bool} {sa : ByteArray} {n : Int} (hm : MayL na sa.data.toList) (h0 : num (na, sa) = 0) :
    Calls Try.prog 22 #[.agg #[.bool na, .string sa], .int .i64 n] w (Ans w (MayL na sa.data.toList) (shf (num (na, sa)) n)) := by
  have hb1 := new_below w (.cells #[.bool na, .string sa] 26)
  have hb2 := hb1.alloc (by simp) (.cells #[.bool false, .string ⟨#[]⟩] 26)
  have k1 := (Blk.new w 26 #[.bool na, .string sa]).alloc (.cells #[.bool false, .string ⟨#[]⟩] 26)
  have k2 := Blk.new (w.alloc (.cells #[.bool na, .string sa] 26)) 26 #[.bool false, .string ⟨#[]⟩]
  have hO := of_one (w := (w.alloc (.cells #[.bool na, .string sa] 26)).alloc (.cells #[.bool false, .string ⟨#[]⟩] 26)) (na := na) (sa := sa)
  rw [World.size_alloc, World.size_alloc] at hO
  rw [World.size_alloc] at k2
  have HO := Lib.hid hO
  have Hb := Lib.hid (And.intro hb2 (And.intro k1 k2))
  have Hm := Lib.hid (And.intro hm h0)
  clear hm h0
  clear hO hb1 hb2 k1 k2
  go_enter Try.func22, Try.ntmps22
  go_wp2_with fail
  refine HO.out.mono ?_
  rintro e w5 ⟨h1, h2, hb5⟩
  have hb05 := Hb.out.1.trans (hb5.mono (by simp <;> omega))
  have m1 := Hb.out.2.1.below hb5 (by simp <;> omega)
  have m2 := Hb.out.2.2.below hb5 (by simp)
  have c0 : w5.cell? ⟨w.heap.size, 0, none⟩ = some (.bool na) := m1.cell 0
  have c1 : w5.cell? ⟨w.heap.size, 1, none⟩ = some (.string sa) := m1.cell 1
  have d0 : w5.cell? ⟨w.heap.size + 1, 0, none⟩ = some (.bool false) := m2.cell 0
  have d1 : w5.cell? ⟨w.heap.size + 1, 1, none⟩ = some (.string ⟨#[]⟩) := m2.cell 1
  have d2 := m2.frozen 0
  have d3 := m2.frozen 1
  have H5 := Lib.hid (And.intro hb05 m2)
  have Hsz := Lib.hid (show w.heap.size + 1 + 1 ≤ w5.heap.size by have := hb5.size; simp at this; omega)
  clear hb5 hb05 m1 m2
  obtain ⟨ad, c, g1, rfl, hadb, p0, hx, hg1⟩ := h1 Hm.out.1
  clear h1 h2 hx hg1
  have hsz := (num_nil Hm.out.1).1 Hm.out.2
  have hl : sa.data.toList.length = sa.size := Array.length_toList
  dsimp only at hsz
  have he := List.eq_nil_of_length_eq_zero (show sa.data.toList.length = 0 by omega)
  obtain rfl := str_empty he
  obtain rfl := Hm.out.1.2.1 he
  clear hsz hl he
  go_wp2_with fail
  refine bodyPost_ret (v := .tuple #[.agg #[.bool false, .string ⟨#[]⟩], .int .i64 0]) (by simp [results, Try.results22, go_sem, d0, d1]) rfl ?_
  exact ⟨fun _ _ => by rw [num_zero, shf_zero, enc_zero], fun _ h => absurd (show fits (shf (num (false, ⟨#[]⟩)) n) by rw [num_zero, shf_zero]; exact Nat.zero_le _) h, fun h => absurd Hm.out.1 h, ((H5.out.1.setCell (by show w.heap.size ≤ w.heap.size + 1; omega) _).setCell (by show w.heap.size ≤ w.heap.size + 1; omega) _)⟩
set_option maxRecDepth 100000 in
set_option maxHeartbeats 4000000 in
theorem wshift_big {w : World} {na : Bool} {sa : ByteArray} {n : Int} (hm : MayL na sa.data.toList) (h0 : num (na, sa) ≠ 0) (hn : 131072 < n) :
    Calls Try.prog 22 #[.agg #[.bool na, .string sa], .int .i64 n] w (Ans w (MayL na sa.data.toList) (shf (num (na, sa)) n)) := by
  have hb1 := new_below w (.cells #[.bool na, .string sa] 26)
  have hb2 := hb1.alloc (by simp) (.cells #[.bool false, .string ⟨#[]⟩] 26)
  have k1 := (Blk.new w 26 #[.bool na, .string sa]).alloc (.cells #[.bool false, .string ⟨#[]⟩] 26)
  have k2 := Blk.new (w.alloc (.cells #[.bool na, .string sa] 26)) 26 #[.bool false, .string ⟨#[]⟩]
  have hO := of_one (w := (w.alloc (.cells #[.bool na, .string sa] 26)).alloc (.cells #[.bool false, .string ⟨#[]⟩] 26)) (na := na) (sa := sa)
  rw [World.size_alloc, World.size_alloc] at hO
  rw [World.size_alloc] at k2
  have HO := Lib.hid hO
  have Hb := Lib.hid (And.intro hb2 (And.intro k1 k2))
  have Hm := Lib.hid (And.intro hm h0)
  clear hm h0
  clear hO hb1 hb2 k1 k2
  go_enter Try.func22, Try.ntmps22
  go_wp2_with fail
  refine HO.out.mono ?_
  rintro e w5 ⟨h1, h2, hb5⟩
  have hb05 := Hb.out.1.trans (hb5.mono (by simp <;> omega))
  have m1 := Hb.out.2.1.below hb5 (by simp <;> omega)
  have m2 := Hb.out.2.2.below hb5 (by simp)
  have c0 : w5.cell? ⟨w.heap.size, 0, none⟩ = some (.bool na) := m1.cell 0
  have c1 : w5.cell? ⟨w.heap.size, 1, none⟩ = some (.string sa) := m1.cell 1
  have d0 : w5.cell? ⟨w.heap.size + 1, 0, none⟩ = some (.bool false) := m2.cell 0
  have d1 : w5.cell? ⟨w.heap.size + 1, 1, none⟩ = some (.string ⟨#[]⟩) := m2.cell 1
  have d2 := m2.frozen 0
  have d3 := m2.frozen 1
  have H5 := Lib.hid (And.intro hb05 m2)
  have Hsz := Lib.hid (show w.heap.size + 1 + 1 ≤ w5.heap.size by have := hb5.size; simp at this; omega)
  clear hb5 hb05 m1 m2
  obtain ⟨ad, c, g1, rfl, hadb, p0, hx, hg1⟩ := h1 Hm.out.1
  clear h1 h2
  have hl : 0 < sa.size := by
    rcases Nat.eq_zero_or_pos sa.size with h | h
    · exact absurd ((num_nil Hm.out.1).2 h) Hm.out.2
    · exact h
  obtain ⟨q1, q2⟩ := str_facts hl
  clear hl
  clear hx hg1
  go_wp2_with fail
  refine bodyPost_ret (v := .tuple #[.agg #[.bool false, .string ⟨#[]⟩], .int .i64 4]) (by simp [results, Try.results22, go_sem, d0, d1]) rfl ?_
  exact ⟨fun _ h => absurd h (shf_big Hm.out.2 (k := 131072) hn), fun _ _ => rfl, fun h => absurd Hm.out.1 h, ((H5.out.1.setCell (by show w.heap.size ≤ w.heap.size + 1; omega) _).setCell (by show w.heap.size ≤ w.heap.size + 1; omega) _)⟩
theorem tells_form {W w5 : World} {z : Int} {e : Ending} (h : Tells W z e w5) : ∃ (sn : Bool) (bn : ByteArray) (cd : Int), e = .returned (.tuple #[.agg #[.bool sn, .string bn], .int .i64 cd]) ∧ Below W.heap.size W w5 ∧ ∀ w w' (ok : Prop), ok → Below w.heap.size w w' → Ans w ok z (.returned (.tuple #[.agg #[.bool sn, .string bn], .int .i64 cd])) w' := by
  obtain ⟨t1, t2, hb⟩ := h
  by_cases hf : fits z
  · exact ⟨_, _, 0, t1 hf, hb, fun w w' ok hok hb => ⟨fun _ _ => rfl, fun _ h => absurd hf h, fun h => absurd hok h, hb⟩⟩
  · exact ⟨_, _, 4, t2 hf, hb, fun w w' ok hok hb => ⟨fun _ h => absurd h hf, fun _ _ => rfl, fun h => absurd hok h, hb⟩⟩
set_option maxRecDepth 100000 in
set_option maxHeartbeats 4000000 in
theorem wshift_up {w : World} {na : Bool} {sa : ByteArray} {n : Int} (hm : MayL na sa.data.toList) (h0 : num (na, sa) ≠ 0) (hn0 : 0 ≤ n) (hn : n ≤ 131072) :
    Calls Try.prog 22 #[.agg #[.bool na, .string sa], .int .i64 n] w (Ans w (MayL na sa.data.toList) (shf (num (na, sa)) n)) := by
  have hb1 := new_below w (.cells #[.bool na, .string sa] 26)
  have hb2 := hb1.alloc (by simp) (.cells #[.bool false, .string ⟨#[]⟩] 26)
  have k1 := (Blk.new w 26 #[.bool na, .string sa]).alloc (.cells #[.bool false, .string ⟨#[]⟩] 26)
  have k2 := Blk.new (w.alloc (.cells #[.bool na, .string sa] 26)) 26 #[.bool false, .string ⟨#[]⟩]
  have hO := of_one (w := (w.alloc (.cells #[.bool na, .string sa] 26)).alloc (.cells #[.bool false, .string ⟨#[]⟩] 26)) (na := na) (sa := sa)
  rw [World.size_alloc, World.size_alloc] at hO
  rw [World.size_alloc] at k2
  have HO := Lib.hid hO
  have Hb := Lib.hid (And.intro hb2 (And.intro k1 k2))
  have Hm := Lib.hid (And.intro hm h0)
  clear hm h0
  clear hO hb1 hb2 k1 k2
  go_enter Try.func22, Try.ntmps22
  go_wp2_with fail
  refine HO.out.mono ?_
  rintro e w5 ⟨h1, h2, hb5⟩
  have hb05 := Hb.out.1.trans (hb5.mono (by simp <;> omega))
  have m1 := Hb.out.2.1.below hb5 (by simp <;> omega)
  have m2 := Hb.out.2.2.below hb5 (by simp)
  have c0 : w5.cell? ⟨w.heap.size, 0, none⟩ = some (.bool na) := m1.cell 0
  have c1 : w5.cell? ⟨w.heap.size, 1, none⟩ = some (.string sa) := m1.cell 1
  have d0 : w5.cell? ⟨w.heap.size + 1, 0, none⟩ = some (.bool false) := m2.cell 0
  have d1 : w5.cell? ⟨w.heap.size + 1, 1, none⟩ = some (.string ⟨#[]⟩) := m2.cell 1
  have d2 := m2.frozen 0
  have d3 := m2.frozen 1
  have H5 := Lib.hid (And.intro hb05 m2)
  have Hsz := Lib.hid (show w.heap.size + 1 + 1 ≤ w5.heap.size by have := hb5.size; simp at this; omega)
  clear hb5 hb05 m1 m2
  obtain ⟨ad, c, g1, rfl, hadb, p0, hx, hg1⟩ := h1 Hm.out.1
  clear h1 h2
  have hl : 0 < sa.size := by
    rcases Nat.eq_zero_or_pos sa.size with h | h
    · exact absurd ((num_nil Hm.out.1).2 h) Hm.out.2
    · exact h
  obtain ⟨q1, q2⟩ := str_facts hl
  clear hl
  have hz : num (na, sa) * 2 ^ n.toNat = shf (num (na, sa)) n := by unfold shf; rw [if_pos hn0]
  have hlb := bl_shl (n := n.toNat) (fits_num (a := (na, sa)) Hm.out.1)
  rw [← shl_abs] at hlb
  have Hl := Lib.hid (show (wds (num (na, sa) * 2 ^ n.toNat).natAbs).length ≤ 100000000 from Nat.le_trans (len_bl (k := 8192) (by omega)) (by omega))
  have l1 := len_num (a := (na, sa)) Hm.out.1
  have hC := lsh_any (n := n.toNat) (hx.drewN 1).slot (hx.drewN 1) (by omega) (by omega)
  rw [show ((n.toNat : Nat) : Int) = n by omega] at hC
  rw [hz] at hC Hl
  have HC := Lib.hid hC
  have Hg := Lib.hid (show w.heap.size + 1 + 1 ≤ g1 by simp at hg1; omega)
  have q3 : IntKind.u64.wrap n = n := IntWalk.u64_in _ (by omega)
  clear hC hlb hz l1 hx hg1
  go_wp2_with fail
  refine wp_region_noPanic ?_
  refine wp_region_HK (fun w' => w'.cell? ad = some (.pointer (some ⟨g1, 0, none⟩))) 8 (by kernel_rfl) p0 (fun hHeld => ?_)
  refine wpHK_take (i := 0) (oi := Oper.mk (some 30) _ _ _ _ _) (v := ?_) rfl (by kernel_rfl) (by kernel_rfl) (by kernel_rfl) (by kernel_rfl) (fun _ _ _ h => h) (Or.inl ⟨by rfl, ?_⟩) (by assumption) ?_
  rotate_left
  · (intro w' hSw; (try dsimp only at hSw); (obtain s1 := hSw); go_simp; try with_reducible rfl)
  try simp only [Act.put, List.setIfInBounds_toArray, List.set_cons_zero, List.set_cons_succ]
  refine wpHK_take (i := 1) (oi := Oper.mk (some 31) _ _ _ _ _) (v := ?_) rfl (by kernel_rfl) (by kernel_rfl) (by kernel_rfl) (by kernel_rfl) (fun _ _ _ h => h) (Or.inl ⟨by rfl, ?_⟩) (by assumption) ?_
  rotate_left
  · (intro w' hSw; (try dsimp only at hSw); (obtain s1 := hSw); go_simp; try with_reducible rfl)
  try simp only [Act.put, List.setIfInBounds_toArray, List.set_cons_zero, List.set_cons_succ]
  refine wpHK_take (i := 2) (oi := Oper.mk (some 32) _ _ _ _ _) (v := ?_) rfl (by kernel_rfl) (by kernel_rfl) (by kernel_rfl) (by kernel_rfl) (fun _ _ _ h => h) (Or.inl ⟨by rfl, ?_⟩) (by assumption) ?_
  rotate_left
  · (intro w' hSw; (try dsimp only at hSw); (obtain s1 := hSw); go_simp; try with_reducible rfl)
  try simp only [Act.put, List.setIfInBounds_toArray, List.set_cons_zero, List.set_cons_succ]
  refine wpHK_take (i := 3) (oi := Oper.mk (some 33) _ _ _ _ _) (v := ?_) rfl (by kernel_rfl) (by kernel_rfl) (by kernel_rfl) (by kernel_rfl) (fun _ _ _ h => h) (Or.inl ⟨by rfl, ?_⟩) (by assumption) ?_
  rotate_left
  · (intro w' hSw; (try dsimp only at hSw); (obtain s1 := hSw); go_simp; try with_reducible rfl)
  try simp only [Act.put, List.setIfInBounds_toArray, List.set_cons_zero, List.set_cons_succ]
  refine wpHK_take (i := 4) (oi := Oper.mk (some 34) _ _ _ _ _) (v := ?_) rfl (by kernel_rfl) (by kernel_rfl) (by kernel_rfl) (by kernel_rfl) (fun _ _ _ h => h) (Or.inl ⟨by rfl, ?_⟩) (by assumption) ?_
  rotate_left
  · (intro w' hSw; (try dsimp only at hSw); (obtain s1 := hSw); go_simp; try with_reducible rfl)
  try simp only [Act.put, List.setIfInBounds_toArray, List.set_cons_zero, List.set_cons_succ]
  refine wpHK_take (i := 5) (oi := Oper.mk (some 35) _ _ _ _ _) (v := ?_) rfl (by kernel_rfl) (by kernel_rfl) (by kernel_rfl) (by kernel_rfl) (fun _ _ _ h => h) (Or.inl ⟨by rfl, ?_⟩) (by assumption) ?_
  rotate_left
  · (intro w' hSw; (try dsimp only at hSw); (obtain s1 := hSw); go_simp; try with_reducible rfl)
  try simp only [Act.put, List.setIfInBounds_toArray, List.set_cons_zero, List.set_cons_succ]
  refine wpHK_take (i := 6) (oi := Oper.mk (some 36) _ _ _ _ _) (v := ?_) rfl (by kernel_rfl) (by kernel_rfl) (by kernel_rfl) (by kernel_rfl) (fun _ _ _ h => h) (Or.inl ⟨by rfl, ?_⟩) (by assumption) ?_
  rotate_left
  · (intro w' hSw; (try dsimp only at hSw); (obtain s1 := hSw); go_simp; try with_reducible rfl)
  try simp only [Act.put, List.setIfInBounds_toArray, List.set_cons_zero, List.set_cons_succ]
  refine wpHK_take (i := 7) (oi := Oper.mk (some 37) _ _ _ _ _) (v := ?_) rfl (by kernel_rfl) (by kernel_rfl) (by kernel_rfl) (by kernel_rfl) (fun _ _ _ h => h) (Or.inl ⟨by rfl, ?_⟩) (by assumption) ?_
  rotate_left
  · (intro w' hSw; (try dsimp only at hSw); (obtain s1 := hSw); go_simp; try with_reducible rfl)
  try simp only [Act.put, List.setIfInBounds_toArray, List.set_cons_zero, List.set_cons_succ]
  refine wpHK_tail (j := 8) (o := Oper.mk (some 38) _ _ _ _ _) rfl (by kernel_rfl) (by decide) (fun K hK => ?_)
  go_simp
  refine HC.out.mono ?_
  rintro e w6 ⟨rfl, hi6, hg6⟩
  have HT := Lib.hid (told_any hi6 Hl.out)
  have hb6 : Below (w.heap.size + 1 + 1) w5 w6 := up_row (Below.refl _ _).drew hg6 Hsz.out Hg.out
  have mb := H5.out.2.below hb6 (by omega)
  have hb06 := H5.out.1.trans (hb6.mono (by omega))
  have hw6s : w.heap.size + 1 < w6.heap.size := by have := hb6.size; have := Hsz.out; omega
  clear hi6 hg6 hb6
  refine hK.out _ _ ?_
  clear hK K
  try simp only [Act.put, List.setIfInBounds_toArray, List.set_cons_zero, List.set_cons_succ]
  refine wpHK_tail (j := 9) (o := Oper.mk (some 39) _ _ _ _ _) rfl (by kernel_rfl) (by decide) (fun K hK => ?_)
  go_simp
  refine HT.out.mono ?_
  intro e w7 hT
  obtain ⟨sn, bn, cd, rfl, hb7, hfin⟩ := tells_form hT
  clear hT
  have n2 := mb.below hb7 hw6s
  have y0 : w7.cell? ⟨w.heap.size + 1, 0, none⟩ = some (.bool false) := n2.cell 0
  have y1 : w7.cell? ⟨w.heap.size + 1, 1, none⟩ = some (.string ⟨#[]⟩) := n2.cell 1
  have y2 := n2.frozen 0
  have y3 := n2.frozen 1
  have hb07 := Lib.hid (hb06.trans (hb7.mono hb06.size))
  clear n2 hb7
  refine hK.out _ _ ?_
  clear hK K
  try simp only [Act.put, List.setIfInBounds_toArray, List.set_cons_zero, List.set_cons_succ]
  refine wpHK_pure (i := 10) (oi := Oper.mk (some 40) _ _ _ _ _) (v := ?_) rfl (by kernel_rfl) (by kernel_rfl) (by kernel_rfl) (fun _ _ _ h => h) (Or.inl ⟨by rfl, ?_⟩) ?_
  rotate_left
  · (intro w' _; go_simp; try with_reducible rfl)
  try simp only [Act.put, List.setIfInBounds_toArray, List.set_cons_zero, List.set_cons_succ]
  refine wpHK_pure (i := 11) (oi := Oper.mk (some 41) _ _ _ _ _) (v := ?_) rfl (by kernel_rfl) (by kernel_rfl) (by kernel_rfl) (fun _ _ _ h => h) (Or.inl ⟨by rfl, ?_⟩) ?_
  rotate_left
  · (intro w' _; go_simp; try with_reducible rfl)
  try simp only [Act.put, List.setIfInBounds_toArray, List.set_cons_zero, List.set_cons_succ]
  refine wpHK_tail (j := 12) (o := Oper.mk (none) _ _ _ _ _) rfl (by kernel_rfl) (by decide) (fun K hK => ?_)
  go_simp
  refine hK.out _ _ ?_
  clear hK K
  try simp only [Act.put, List.setIfInBounds_toArray, List.set_cons_zero, List.set_cons_succ]
  refine wpHK_pure (i := 13) (oi := Oper.mk (some 5) _ _ _ _ _) (v := ?_) rfl (by kernel_rfl) (by kernel_rfl) (by kernel_rfl) (fun _ _ _ h => h) (Or.inl ⟨by rfl, ?_⟩) ?_
  rotate_left
  · (intro w' _; go_simp; try with_reducible rfl)
  try simp only [Act.put, List.setIfInBounds_toArray, List.set_cons_zero, List.set_cons_succ]
  refine wpHK_done (by kernel_rfl) ?_ _
  refine NoPanic.normal ?_
  go_wp2_with fail
  refine bodyPost_ret (v := .tuple #[.agg #[.bool sn, .string bn], .int .i64 cd]) (by simp [results, Try.results22, go_sem, y0, y1]) rfl ?_
  exact hfin _ _ _ Hm.out.1 ((hb07.out.setCell (by show w.heap.size ≤ w.heap.size + 1; omega) _).setCell (by show w.heap.size ≤ w.heap.size + 1; omega) _)
set_option maxRecDepth 100000 in
set_option maxHeartbeats 800000 in
theorem wshift_down {w : World} {na : Bool} {sa : ByteArray} {n : Int} (hm : MayL na sa.data.toList) (h0 : num (na, sa) ≠ 0) (hn0 : n < 0) (hnb : -9223372036854775808 ≤ n) :
    Calls Try.prog 22 #[.agg #[.bool na, .string sa], .int .i64 n] w (Ans w (MayL na sa.data.toList) (shf (num (na, sa)) n)) := by
  have hb1 := new_below w (.cells #[.bool na, .string sa] 26)
  have hb2 := hb1.alloc (by simp) (.cells #[.bool false, .string ⟨#[]⟩] 26)
  have k1 := (Blk.new w 26 #[.bool na, .string sa]).alloc (.cells #[.bool false, .string ⟨#[]⟩] 26)
  have k2 := Blk.new (w.alloc (.cells #[.bool na, .string sa] 26)) 26 #[.bool false, .string ⟨#[]⟩]
  have hO := of_one (w := (w.alloc (.cells #[.bool na, .string sa] 26)).alloc (.cells #[.bool false, .string ⟨#[]⟩] 26)) (na := na) (sa := sa)
  rw [World.size_alloc, World.size_alloc] at hO
  rw [World.size_alloc] at k2
  have HO := Lib.hid hO
  have Hb := Lib.hid (And.intro hb2 (And.intro k1 k2))
  have Hm := Lib.hid (And.intro hm h0)
  clear hm h0
  clear hO hb1 hb2 k1 k2
  go_enter Try.func22, Try.ntmps22
  go_wp2_with fail
  refine HO.out.mono ?_
  rintro e w5 ⟨h1, h2, hb5⟩
  have hb05 := Hb.out.1.trans (hb5.mono (by simp <;> omega))
  have m1 := Hb.out.2.1.below hb5 (by simp <;> omega)
  have m2 := Hb.out.2.2.below hb5 (by simp)
  have c0 : w5.cell? ⟨w.heap.size, 0, none⟩ = some (.bool na) := m1.cell 0
  have c1 : w5.cell? ⟨w.heap.size, 1, none⟩ = some (.string sa) := m1.cell 1
  have d0 : w5.cell? ⟨w.heap.size + 1, 0, none⟩ = some (.bool false) := m2.cell 0
  have d1 : w5.cell? ⟨w.heap.size + 1, 1, none⟩ = some (.string ⟨#[]⟩) := m2.cell 1
  have d2 := m2.frozen 0
  have d3 := m2.frozen 1
  have H5 := Lib.hid (And.intro hb05 m2)
  have Hsz := Lib.hid (show w.heap.size + 1 + 1 ≤ w5.heap.size by have := hb5.size; simp at this; omega)
  clear hb5 hb05 m1 m2
  obtain ⟨ad, c, g1, rfl, hadb, p0, hx, hg1⟩ := h1 Hm.out.1
  clear h1 h2
  have hl : 0 < sa.size := by
    rcases Nat.eq_zero_or_pos sa.size with h | h
    · exact absurd ((num_nil Hm.out.1).2 h) Hm.out.2
    · exact h
  obtain ⟨q1, q2⟩ := str_facts hl
  clear hl
  obtain ⟨M, hM⟩ : ∃ M : Int, M = if n < -131073 then -131073 else n := ⟨_, rfl⟩
  obtain ⟨K, hK⟩ : ∃ K : Nat, (K : Int) = -M := ⟨(-M).toNat, by omega⟩
  have hz : num (na, sa) / 2 ^ K = shf (num (na, sa)) n := by
    rcases Int.lt_or_le n (-131073) with h | h
    · exact shf_far (k := 131072) (a := K) (fits_num (a := (na, sa)) Hm.out.1) (by omega) (by omega)
    · unfold shf; rw [if_neg (by omega), show (-n).toNat = K by omega]
  have hl2 : (num (na, sa) / 2 ^ K).natAbs ≤ (num (na, sa)).natAbs := Int.natAbs_ediv_le_natAbs _ _
  have l1 := len_num (a := (na, sa)) Hm.out.1
  have Hl := Lib.hid (show (wds (num (na, sa) / 2 ^ K).natAbs).length ≤ 100000000 from Nat.le_trans (len_mono hl2) (by omega))
  have hC := rsh_any (n := K) (hx.drewN 1).slot (hx.drewN 1) (by omega) (by omega)
  rw [hz] at hC Hl
  have HC := Lib.hid hC
  have Hg := Lib.hid (show w.heap.size + 1 + 1 ≤ g1 by simp at hg1; omega)
  have q3 : IntKind.u64.wrap (K : Int) = (K : Int) := IntWalk.u64_in _ (by omega)
  have q4 : IntKind.i64.wrap (-M) = (K : Int) := by rw [← hK]; exact IntWalk.i64_in _ (by omega)
  have q5 : (if n < -131073 then -131073 else n) = M := hM.symm
  have q6 : decide (131072 < n) = false := decide_eq_false (by omega)
  have q7 : decide (0 ≤ n) = false := decide_eq_false (by omega)
  clear hC hl2 hz l1 hx hg1 hM hK
  go_wp2_with fail
  refine wp_region_noPanic ?_
  refine wp_region_HK (fun w' => w'.cell? ad = some (.pointer (some ⟨g1, 0, none⟩))) 10 (by kernel_rfl) p0 (fun hHeld => ?_)
  refine wpHK_take (i := 0) (oi := Oper.mk (some 42) _ _ _ _ _) (v := ?_) rfl (by kernel_rfl) (by kernel_rfl) (by kernel_rfl) (by kernel_rfl) (fun _ _ _ h => h) (Or.inl ⟨by rfl, ?_⟩) (by assumption) ?_
  rotate_left
  · (intro w' hSw; (try dsimp only at hSw); (obtain s1 := hSw); go_simp; try with_reducible rfl)
  try simp only [Act.put, List.setIfInBounds_toArray, List.set_cons_zero, List.set_cons_succ]
  refine wpHK_take (i := 1) (oi := Oper.mk (some 43) _ _ _ _ _) (v := ?_) rfl (by kernel_rfl) (by kernel_rfl) (by kernel_rfl) (by kernel_rfl) (fun _ _ _ h => h) (Or.inl ⟨by rfl, ?_⟩) (by assumption) ?_
  rotate_left
  · (intro w' hSw; (try dsimp only at hSw); (obtain s1 := hSw); go_simp; try with_reducible rfl)
  try simp only [Act.put, List.setIfInBounds_toArray, List.set_cons_zero, List.set_cons_succ]
  refine wpHK_take (i := 2) (oi := Oper.mk (some 44) _ _ _ _ _) (v := ?_) rfl (by kernel_rfl) (by kernel_rfl) (by kernel_rfl) (by kernel_rfl) (fun _ _ _ h => h) (Or.inl ⟨by rfl, ?_⟩) (by assumption) ?_
  rotate_left
  · (intro w' hSw; (try dsimp only at hSw); (obtain s1 := hSw); go_simp; try with_reducible rfl)
  try simp only [Act.put, List.setIfInBounds_toArray, List.set_cons_zero, List.set_cons_succ]
  refine wpHK_take (i := 3) (oi := Oper.mk (some 45) _ _ _ _ _) (v := ?_) rfl (by kernel_rfl) (by kernel_rfl) (by kernel_rfl) (by kernel_rfl) (fun _ _ _ h => h) (Or.inl ⟨by rfl, ?_⟩) (by assumption) ?_
  rotate_left
  · (intro w' hSw; (try dsimp only at hSw); (obtain s1 := hSw); go_simp; try with_reducible rfl)
  try simp only [Act.put, List.setIfInBounds_toArray, List.set_cons_zero, List.set_cons_succ]
  refine wpHK_take (i := 4) (oi := Oper.mk (some 46) _ _ _ _ _) (v := ?_) rfl (by kernel_rfl) (by kernel_rfl) (by kernel_rfl) (by kernel_rfl) (fun _ _ _ h => h) (Or.inl ⟨by rfl, ?_⟩) (by assumption) ?_
  rotate_left
  · (intro w' hSw; (try dsimp only at hSw); (obtain s1 := hSw); go_simp; try with_reducible rfl)
  try simp only [Act.put, List.setIfInBounds_toArray, List.set_cons_zero, List.set_cons_succ]
  refine wpHK_take (i := 5) (oi := Oper.mk (some 47) _ _ _ _ _) (v := ?_) rfl (by kernel_rfl) (by kernel_rfl) (by kernel_rfl) (by kernel_rfl) (fun _ _ _ h => h) (Or.inl ⟨by rfl, ?_⟩) (by assumption) ?_
  rotate_left
  · (intro w' hSw; (try dsimp only at hSw); (obtain s1 := hSw); go_simp; try with_reducible rfl)
  try simp only [Act.put, List.setIfInBounds_toArray, List.set_cons_zero, List.set_cons_succ]
  refine wpHK_take (i := 6) (oi := Oper.mk (some 48) _ _ _ _ _) (v := ?_) rfl (by kernel_rfl) (by kernel_rfl) (by kernel_rfl) (by kernel_rfl) (fun _ _ _ h => h) (Or.inl ⟨by rfl, ?_⟩) (by assumption) ?_
  rotate_left
  · (intro w' hSw; (try dsimp only at hSw); (obtain s1 := hSw); go_simp; try with_reducible rfl)
  try simp only [Act.put, List.setIfInBounds_toArray, List.set_cons_zero, List.set_cons_succ]
  refine wpHK_one (j := 7) (o := Oper.mk (some 49) _ _ _ _ _) rfl (by kernel_rfl) (fun K hK => ?_)
  go_simp
  refine hK.out _ _ p0 (fun _ => ?_)
  clear hK K hHeld
  have hHeld := p0
  try simp only [Act.put, List.setIfInBounds_toArray, List.set_cons_zero, List.set_cons_succ]
  refine wpHK_take (i := 8) (oi := Oper.mk (some 50) _ _ _ _ _) (v := ?_) rfl (by kernel_rfl) (by kernel_rfl) (by kernel_rfl) (by kernel_rfl) (fun _ _ _ h => h) (Or.inl ⟨by rfl, ?_⟩) (by assumption) ?_
  rotate_left
  · (intro w' hSw; (try dsimp only at hSw); (obtain s1 := hSw); go_simp; try with_reducible rfl)
  try simp only [Act.put, List.setIfInBounds_toArray, List.set_cons_zero, List.set_cons_succ]
  refine wpHK_take (i := 9) (oi := Oper.mk (some 51) _ _ _ _ _) (v := ?_) rfl (by kernel_rfl) (by kernel_rfl) (by kernel_rfl) (by kernel_rfl) (fun _ _ _ h => h) (Or.inl ⟨by rfl, ?_⟩) (by assumption) ?_
  rotate_left
  · (intro w' hSw; (try dsimp only at hSw); (obtain s1 := hSw); go_simp; try with_reducible rfl)
  try simp only [Act.put, List.setIfInBounds_toArray, List.set_cons_zero, List.set_cons_succ]
  refine wpHK_tail (j := 10) (o := Oper.mk (some 52) _ _ _ _ _) rfl (by kernel_rfl) (by decide) (fun K hK => ?_)
  go_simp
  refine HC.out.mono ?_
  rintro e w6 ⟨rfl, hi6, hg6⟩
  have HT := Lib.hid (told_any hi6 Hl.out)
  have hb6 : Below (w.heap.size + 1 + 1) w5 w6 := up_row (Below.refl _ _).drew hg6 Hsz.out Hg.out
  have mb := H5.out.2.below hb6 (by omega)
  have hb06 := H5.out.1.trans (hb6.mono (by omega))
  have hw6s : w.heap.size + 1 < w6.heap.size := by have := hb6.size; have := Hsz.out; omega
  clear hi6 hg6 hb6
  refine hK.out _ _ ?_
  clear hK K
  try simp only [Act.put, List.setIfInBounds_toArray, List.set_cons_zero, List.set_cons_succ]
  refine wpHK_tail (j := 11) (o := Oper.mk (some 53) _ _ _ _ _) rfl (by kernel_rfl) (by decide) (fun K hK => ?_)
  go_simp
  refine HT.out.mono ?_
  intro e w7 hT
  obtain ⟨sn, bn, cd, rfl, hb7, hfin⟩ := tells_form hT
  clear hT
  have n2 := mb.below hb7 hw6s
  have y0 : w7.cell? ⟨w.heap.size + 1, 0, none⟩ = some (.bool false) := n2.cell 0
  have y1 : w7.cell? ⟨w.heap.size + 1, 1, none⟩ = some (.string ⟨#[]⟩) := n2.cell 1
  have y2 := n2.frozen 0
  have y3 := n2.frozen 1
  have hb07 := Lib.hid (hb06.trans (hb7.mono hb06.size))
  clear n2 hb7
  refine hK.out _ _ ?_
  clear hK K
  try simp only [Act.put, List.setIfInBounds_toArray, List.set_cons_zero, List.set_cons_succ]
  refine wpHK_pure (i := 12) (oi := Oper.mk (some 54) _ _ _ _ _) (v := ?_) rfl (by kernel_rfl) (by kernel_rfl) (by kernel_rfl) (fun _ _ _ h => h) (Or.inl ⟨by rfl, ?_⟩) ?_
  rotate_left
  · (intro w' _; go_simp; try with_reducible rfl)
  try simp only [Act.put, List.setIfInBounds_toArray, List.set_cons_zero, List.set_cons_succ]
  refine wpHK_pure (i := 13) (oi := Oper.mk (some 55) _ _ _ _ _) (v := ?_) rfl (by kernel_rfl) (by kernel_rfl) (by kernel_rfl) (fun _ _ _ h => h) (Or.inl ⟨by rfl, ?_⟩) ?_
  rotate_left
  · (intro w' _; go_simp; try with_reducible rfl)
  try simp only [Act.put, List.setIfInBounds_toArray, List.set_cons_zero, List.set_cons_succ]
  refine wpHK_tail (j := 14) (o := Oper.mk (none) _ _ _ _ _) rfl (by kernel_rfl) (by decide) (fun K hK => ?_)
  go_simp
  refine hK.out _ _ ?_
  clear hK K
  try simp only [Act.put, List.setIfInBounds_toArray, List.set_cons_zero, List.set_cons_succ]
  refine wpHK_pure (i := 15) (oi := Oper.mk (some 5) _ _ _ _ _) (v := ?_) rfl (by kernel_rfl) (by kernel_rfl) (by kernel_rfl) (fun _ _ _ h => h) (Or.inl ⟨by rfl, ?_⟩) ?_
  rotate_left
  · (intro w' _; go_simp; try with_reducible rfl)
  try simp only [Act.put, List.setIfInBounds_toArray, List.set_cons_zero, List.set_cons_succ]
  refine wpHK_done (by kernel_rfl) ?_ _
  refine NoPanic.normal ?_
  go_wp2_with fail
  refine bodyPost_ret (v := .tuple #[.agg #[.bool sn, .string bn], .int .i64 cd]) (by simp [results, Try.results22, go_sem, y0, y1]) rfl ?_
  exact hfin _ _ _ Hm.out.1 ((hb07.out.setCell (by show w.heap.size ≤ w.heap.size + 1; omega) _).setCell (by show w.heap.size ≤ w.heap.size + 1; omega) _)
theorem wshift_any {w : World} {na : Bool} {sa : ByteArray} {n : Int} (hn1 : -9223372036854775808 ≤ n) :
    Calls Try.prog 22 #[.agg #[.bool na, .string sa], .int .i64 n] w (Ans w (MayL na sa.data.toList) (shf (num (na, sa)) n)) := by
  by_cases hm : MayL na sa.data.toList
  · by_cases h0 : num (na, sa) = 0
    · exact wshift_zero hm h0
    · rcases Int.lt_or_le 131072 n with h | h
      · exact wshift_big hm h0 h
      · rcases Int.lt_or_le n 0 with h1 | h1
        · exact wshift_down hm h0 h1 hn1
        · exact wshift_up hm h0 h1 h
  · exact wshift_bad hm
end Go.Proofs.Ytpnginnjbdedbaa

/- whole.Pow, whole.Square (printed by gen_pow.py). -/
namespace Go.Proofs.Ytpnginnjbdedbaa
open Go.RowKit
open Wh
set_option linter.unusedSimpArgs false
set_option linter.unusedVariables false

theorem len_pow {m n : Nat} (h : bl m ≤ 1 ∨ n * (bl m - 1) ≤ 131072) : (wds (m ^ n)).length ≤ 10000 := by
  rcases Nat.lt_or_ge 1 (bl m) with h1 | h1
  · have h2 : n * (bl m - 1) ≤ 131072 := by omega
    have h3 : m ^ n ≤ (2 ^ bl m) ^ n := Nat.pow_le_pow_left (Nat.le_of_lt (bl_lt.1 (Nat.le_refl _))) n
    rw [← Nat.pow_mul] at h3
    refine len_bl (Nat.le_trans (bl_lt.2 (Nat.lt_of_le_of_lt h3 ((Nat.pow_lt_pow_iff_right (by decide)).2 (Nat.lt_succ_self _)))) ?_)
    obtain ⟨j, hj⟩ : ∃ j, bl m = j + 2 := ⟨bl m - 2, by omega⟩
    rw [hj] at h2 ⊢
    rw [show j + 2 - 1 = j + 1 by omega, Nat.mul_add, Nat.mul_one] at h2
    rw [Nat.mul_comm, Nat.mul_add]
    omega
  · have h2 : m ≤ 1 := by have := bl_lt.1 h1; omega
    have h3 : m ^ n ≤ 1 ^ n := Nat.pow_le_pow_left h2 n
    rw [Nat.one_pow] at h3
    exact len_bl (Nat.le_trans (bl_lt.2 (show m ^ n < 2 ^ 1 by omega)) (by omega))
theorem pow_big {m n K : Nat} (h1 : 2 ≤ bl m) (h2 : K < n * (bl m - 1)) : ¬ bl (m ^ n) ≤ K := by
  intro h
  have h3 := bl_lt.1 h
  have hm : 0 < m := by
    rcases Nat.eq_zero_or_pos m with h0 | h0
    · subst h0; rw [bl_zero] at h1; omega
    · exact h0
  have h4 : (2 ^ (bl m - 1)) ^ n ≤ m ^ n := Nat.pow_le_pow_left (bl_le hm) n
  rw [← Nat.pow_mul, Nat.mul_comm] at h4
  have := (Nat.pow_lt_pow_iff_right (by decide)).1 (Nat.lt_of_le_of_lt h4 h3)
  omega
theorem exp_rdy {W V : World} {g gy gx n : Nat} {x : Int} (hV : Below W.heap.size W V) (hg : IntS V g) (hgl : W.heap.size ≤ g) (hy : IntB V gy (n : Int)) (hx : IntB W gx x) (hl : (wds (x.natAbs ^ n)).length ≤ 10000) (hxl : (wds x.natAbs).length ≤ 5000) (hn : n ≤ 9223372036854775807) :
    Calls Try.prog 96 #[.pointer (some ⟨g, 0, none⟩), .pointer (some ⟨gx, 0, none⟩), .pointer (some ⟨gy, 0, none⟩), .pointer none] V (fun e w' => e = .returned (.pointer (some ⟨g, 0, none⟩)) ∧ IntB w' g (x ^ n) ∧ Below W.heap.size W w') := by
  refine (exp_any hg (hx.below hV) hy (by omega) (by omega) (Nat.le_trans (len_bl (k := 2) (bl_lt.2 (show n < 2 ^ (32 * 2) by omega))) (by omega))).mono ?_
  rintro e w' ⟨he, hi, hgr⟩
  exact ⟨he, hi, up_row hV hgr hV.size hgl⟩
set_option maxRecDepth 100000 in
set_option maxHeartbeats 1000000 in
theorem wpow_bad {w : World} {na : Bool} {sa : ByteArray} {n : Int} (hm : ¬ MayL na sa.data.toList) :
    Calls Try.prog 55 #[.agg #[.bool na, .string sa], .int .i64 n] w (Ans w (MayL na sa.data.toList ∧ 0 ≤ (n : Int)) (num (na, sa) ^ n.toNat)) := by
  have hb1 := new_below w (.cells #[.bool na, .string sa] 26)
  have hb2 := hb1.alloc (by simp) (.cells #[.bool false, .string ⟨#[]⟩] 26)
  have k2 := Blk.new (w.alloc (.cells #[.bool na, .string sa] 26)) 26 #[.bool false, .string ⟨#[]⟩]
  have hO := of_one (w := (w.alloc (.cells #[.bool na, .string sa] 26)).alloc (.cells #[.bool false, .string ⟨#[]⟩] 26)) (na := na) (sa := sa)
  rw [World.size_alloc, World.size_alloc] at hO
  rw [World.size_alloc] at k2
  have HO := Lib.hid hO
  have Hb := Lib.hid (And.intro hb2 k2)
  have Hm := Lib.hid hm
  clear hm
  clear hO hb1 hb2 k2
  go_enter Try.func55, Try.ntmps55
  go_wp2_with fail
  refine HO.out.mono ?_
  rintro e w5 ⟨h1, h2, hb5⟩
  have hb05 := Hb.out.1.trans (hb5.mono (by simp <;> omega))
  have m2 := Hb.out.2.below hb5 (by simp)
  have d0 : w5.cell? ⟨w.heap.size + 1, 0, none⟩ = some (.bool false) := m2.cell 0
  have d1 : w5.cell? ⟨w.heap.size + 1, 1, none⟩ = some (.string ⟨#[]⟩) := m2.cell 1
  have d2 := m2.frozen 0
  have d3 := m2.frozen 1
  have H5 := Lib.hid (And.intro hb05 m2)
  have Hsz := Lib.hid (show w.heap.size + 1 + 1 ≤ w5.heap.size by have := hb5.size; simp at this; omega)
  clear hb5 hb05 m2
  obtain ⟨A5, n5, c5, rfl⟩ := h2 Hm.out
  clear h1 h2
  go_wp2_with fail
  refine bodyPost_ret (v := .tuple #[.agg #[.bool false, .string ⟨#[]⟩], .int .i64 2]) (by simp [results, Try.results55, go_sem, d0, d1]) rfl ?_
  exact ⟨fun h => absurd h.1 Hm.out, fun h => absurd h.1 Hm.out, fun _ => rfl, ((H5.out.1.setCell (by show w.heap.size ≤ w.heap.size + 1; omega) _).setCell (by show w.heap.size ≤ w.heap.size + 1; omega) _)⟩
set_option maxRecDepth 100000 in
set_option maxHeartbeats 1000000 in
theorem wpow_neg {w : World} {na : Bool} {sa : ByteArray} {n : Int} (hm : MayL na sa.data.toList) (hn : n < 0) :
    Calls Try.prog 55 #[.agg #[.bool na, .string sa], .int .i64 n] w (Ans w (MayL na sa.data.toList ∧ 0 ≤ (n : Int)) (num (na, sa) ^ n.toNat)) := by
  have hb1 := new_below w (.cells #[.bool na, .string sa] 26)
  have hb2 := hb1.alloc (by simp) (.cells #[.bool false, .string ⟨#[]⟩] 26)
  have k2 := Blk.new (w.alloc (.cells #[.bool na, .string sa] 26)) 26 #[.bool false, .string ⟨#[]⟩]
  have hO := of_one (w := (w.alloc (.cells #[.bool na, .string sa] 26)).alloc (.cells #[.bool false, .string ⟨#[]⟩] 26)) (na := na) (sa := sa)
  rw [World.size_alloc, World.size_alloc] at hO
  rw [World.size_alloc] at k2
  have HO := Lib.hid hO
  have Hb := Lib.hid (And.intro hb2 k2)
  have Hm := Lib.hid hm
  clear hm
  clear hO hb1 hb2 k2
  go_enter Try.func55, Try.ntmps55
  go_wp2_with fail
  refine HO.out.mono ?_
  rintro e w5 ⟨h1, h2, hb5⟩
  have hb05 := Hb.out.1.trans (hb5.mono (by simp <;> omega))
  have m2 := Hb.out.2.below hb5 (by simp)
  have d0 : w5.cell? ⟨w.heap.size + 1, 0, none⟩ = some (.bool false) := m2.cell 0
  have d1 : w5.cell? ⟨w.heap.size + 1, 1, none⟩ = some (.string ⟨#[]⟩) := m2.cell 1
  have d2 := m2.frozen 0
  have d3 := m2.frozen 1
  have H5 := Lib.hid (And.intro hb05 m2)
  have Hsz := Lib.hid (show w.heap.size + 1 + 1 ≤ w5.heap.size by have := hb5.size; simp at this; omega)
  clear hb5 hb05 m2
  obtain ⟨ad, c, g1, rfl, hadb, p0, hx, hg1⟩ := h1 Hm.out
  clear h1 h2 hx hg1
  go_wp2_with fail
  refine bodyPost_ret (v := .tuple #[.agg #[.bool false, .string ⟨#[]⟩], .int .i64 2]) (by simp [results, Try.results55, go_sem, d0, d1]) rfl ?_
  exact ⟨fun h => absurd h.2 (by omega), fun h => absurd h.2 (by omega), fun _ => rfl, ((H5.out.1.setCell (by show w.heap.size ≤ w.heap.size + 1; omega) _).setCell (by show w.heap.size ≤ w.heap.size + 1; omega) _)⟩
set_option maxRecDepth 100000 in
set_option maxHeartbeats 1000000 in
theorem wpow_big {w : World} {na : Bool} {sa : ByteArray} {n : Nat} (hm : MayL na sa.data.toList) (hk : 2 ≤ bl (num (na, sa)).natAbs) (hg : 131072 < n * (bl (num (na, sa)).natAbs - 1)) (hn : n ≤ 9223372036854775807) :
    Calls Try.prog 55 #[.agg #[.bool na, .string sa], .int .i64 n] w (Ans w (MayL na sa.data.toList ∧ 0 ≤ (n : Int)) (num (na, sa) ^ n)) := by
  have hb1 := new_below w (.cells #[.bool na, .string sa] 26)
  have hb2 := hb1.alloc (by simp) (.cells #[.bool false, .string ⟨#[]⟩] 26)
  have k2 := Blk.new (w.alloc (.cells #[.bool na, .string sa] 26)) 26 #[.bool false, .string ⟨#[]⟩]
  have hO := of_one (w := (w.alloc (.cells #[.bool na, .string sa] 26)).alloc (.cells #[.bool false, .string ⟨#[]⟩] 26)) (na := na) (sa := sa)
  rw [World.size_alloc, World.size_alloc] at hO
  rw [World.size_alloc] at k2
  have HO := Lib.hid hO
  have Hb := Lib.hid (And.intro hb2 k2)
  obtain ⟨K, hK⟩ : ∃ K, K = bl (num (na, sa)).natAbs := ⟨_, rfl⟩
  have Hg := Lib.hid (pow_big hk hg)
  rw [← hK] at hk hg
  obtain ⟨J, hJ⟩ : ∃ J, K = J + 1 := ⟨K - 1, by omega⟩
  have hq : 131072 / J < n := by rw [hJ] at hg; exact Nat.div_lt_of_lt_mul (by rw [Nat.mul_comm]; exact hg)
  clear hg
  have j1 : K ≤ 131072 := by rw [hK]; exact fits_num (a := (na, sa)) hm
  have HK := Lib.hid hK
  have Hm := Lib.hid hm
  clear hm hK
  obtain ⟨Q, hQ⟩ : ∃ Q, Q = 131072 / J := ⟨_, rfl⟩
  have j2 : 1 ≤ J := by omega
  have j3 : (Q : Int) < (n : Int) := by omega
  have j4 : ((J : Int) == 0) = false := by simp <;> omega
  have j5 : (131072 : Int) / (J : Int) = (Q : Int) := by rw [hQ]; rfl
  have j9 : wrap64 (Q : Int) = (Q : Int) := by
    have : Q ≤ 131072 := by rw [hQ]; exact Nat.div_le_self _ _
    exact IntWalk.wrap64_in _ (by omega)
  have j6 : (131072 : Int).tdiv (J : Int) = (Q : Int) := by rw [hQ]; rfl
  have j7 : (K : Int) - 1 = (J : Int) := by omega
  have j8 : IntKind.i64.wrap ((K : Int) - 1) = (J : Int) := by rw [j7]; exact IntWalk.i64_in _ (by omega)
  clear hQ hJ hq
  clear hO hb1 hb2 k2
  go_enter Try.func55, Try.ntmps55
  go_wp2_with fail
  refine HO.out.mono ?_
  rintro e w5 ⟨h1, h2, hb5⟩
  have hb05 := Hb.out.1.trans (hb5.mono (by simp <;> omega))
  have m2 := Hb.out.2.below hb5 (by simp)
  have d0 : w5.cell? ⟨w.heap.size + 1, 0, none⟩ = some (.bool false) := m2.cell 0
  have d1 : w5.cell? ⟨w.heap.size + 1, 1, none⟩ = some (.string ⟨#[]⟩) := m2.cell 1
  have d2 := m2.frozen 0
  have d3 := m2.frozen 1
  have H5 := Lib.hid (And.intro hb05 m2)
  have Hsz := Lib.hid (show w.heap.size + 1 + 1 ≤ w5.heap.size by have := hb5.size; simp at this; omega)
  clear hb5 hb05 m2
  obtain ⟨ad, c, g1, rfl, hadb, p0, hx, hg1⟩ := h1 Hm.out
  clear h1 h2 hg1
  have Hlen := Lib.hid (len_num (a := (na, sa)) Hm.out)
  have hB := bitlen_any hx (by have := Hlen.out; omega)
  unfold Bitted at hB
  rw [← HK.out] at hB
  have HB := Lib.hid hB
  have Hx := Lib.hid hx
  clear hx hB
  go_wp2_with fail
  refine HB.out.mono ?_
  rintro e w6 ⟨q, rfl, rfl⟩
  go_wp2_with fail
  refine bodyPost_ret (v := .tuple #[.agg #[.bool false, .string ⟨#[]⟩], .int .i64 4]) (by simp [results, Try.results55, go_sem, d0, d1]) rfl ?_
  exact ⟨fun _ h => absurd (by unfold fits at h; rwa [Int.natAbs_pow] at h) Hg.out, fun _ _ => rfl, fun h => absurd ⟨Hm.out, Int.natCast_nonneg n⟩ h, (((below_drewN H5.out.1 q).setCell (by show w.heap.size ≤ w.heap.size + 1; omega) _).setCell (by show w.heap.size ≤ w.heap.size + 1; omega) _)⟩
set_option maxRecDepth 100000 in
set_option maxHeartbeats 1000000 in
theorem wpow_one {w : World} {na : Bool} {sa : ByteArray} {n : Nat} (hm : MayL na sa.data.toList) (hk : bl (num (na, sa)).natAbs ≤ 1) (hn : n ≤ 9223372036854775807) :
    Calls Try.prog 55 #[.agg #[.bool na, .string sa], .int .i64 n] w (Ans w (MayL na sa.data.toList ∧ 0 ≤ (n : Int)) (num (na, sa) ^ n)) := by
  have hb1 := new_below w (.cells #[.bool na, .string sa] 26)
  have hb2 := hb1.alloc (by simp) (.cells #[.bool false, .string ⟨#[]⟩] 26)
  have k2 := Blk.new (w.alloc (.cells #[.bool na, .string sa] 26)) 26 #[.bool false, .string ⟨#[]⟩]
  have hO := of_one (w := (w.alloc (.cells #[.bool na, .string sa] 26)).alloc (.cells #[.bool false, .string ⟨#[]⟩] 26)) (na := na) (sa := sa)
  rw [World.size_alloc, World.size_alloc] at hO
  rw [World.size_alloc] at k2
  have HO := Lib.hid hO
  have Hb := Lib.hid (And.intro hb2 k2)
  obtain ⟨K, hK⟩ : ∃ K, K = bl (num (na, sa)).natAbs := ⟨_, rfl⟩
  have Hl := Lib.hid (And.intro (len_pow (n := n) (.inl hk)) (And.intro (Nat.le_trans (len_num (a := (na, sa)) hm) (show 5000 ≤ 5000 by omega)) hn))
  rw [← hK] at hk
  have j1 : K ≤ 131072 := by rw [hK]; exact fits_num (a := (na, sa)) hm
  have HK := Lib.hid hK
  have Hm := Lib.hid hm
  clear hm hK
  clear hO hb1 hb2 k2
  go_enter Try.func55, Try.ntmps55
  go_wp2_with fail
  refine HO.out.mono ?_
  rintro e w5 ⟨h1, h2, hb5⟩
  have hb05 := Hb.out.1.trans (hb5.mono (by simp <;> omega))
  have m2 := Hb.out.2.below hb5 (by simp)
  have d0 : w5.cell? ⟨w.heap.size + 1, 0, none⟩ = some (.bool false) := m2.cell 0
  have d1 : w5.cell? ⟨w.heap.size + 1, 1, none⟩ = some (.string ⟨#[]⟩) := m2.cell 1
  have d2 := m2.frozen 0
  have d3 := m2.frozen 1
  have H5 := Lib.hid (And.intro hb05 m2)
  have Hsz := Lib.hid (show w.heap.size + 1 + 1 ≤ w5.heap.size by have := hb5.size; simp at this; omega)
  clear hb5 hb05 m2
  obtain ⟨ad, c, g1, rfl, hadb, p0, hx, hg1⟩ := h1 Hm.out
  clear h1 h2 hg1
  have Hlen := Lib.hid (len_num (a := (na, sa)) Hm.out)
  have hB := bitlen_any hx (by have := Hlen.out; omega)
  unfold Bitted at hB
  rw [← HK.out] at hB
  have HB := Lib.hid hB
  have Hx := Lib.hid hx
  clear hx hB
  go_wp2_with fail
  refine HB.out.mono ?_
  rintro e w6 ⟨q, rfl, rfl⟩
  have Hx6 := Lib.hid (Hx.out.drewN q)
  have m6 := Lib.hid (show Blk (w5.drewN q) (w.heap.size + 1) 26 #[.bool false, .string ⟨#[]⟩] from H5.out.2)
  have Hs6 := Lib.hid (show w.heap.size + 1 < (w5.drewN q).heap.size from Hsz.out)
  have H6 := Lib.hid (below_drewN H5.out.1 q)
  have p6 : (w5.drewN q).cell? ad = some (.pointer (some ⟨g1, 0, none⟩)) := p0
  have had6 : ad.block < (w5.drewN q).heap.size := hadb
  clear H5 Hsz p0 hadb Hx d0 d1 d2 d3 HB
  generalize w5.drewN q = W at *
  have hb1 : Below W.heap.size W (W.drew.alloc (.cells #[.bool false, .slice none 0 0] 82)) := (Below.refl _ _).drew.alloc (Nat.le_refl _) _
  have hcell : ∀ w' : World, Below W.heap.size W w' → w'.cell? ad = some (.pointer (some ⟨g1, 0, none⟩)) := fun w' hb => (hb.cell had6).trans p6
  have Hc := Lib.hid hcell
  have Hb1 := Lib.hid hb1
  have N1 : Hid (Calls Try.prog 91 #[.int .i64 (n : Int)] (W.drew.alloc (.cells #[.bool false, .slice none 0 0] 82)) (fun e w' => e = .returned (.pointer (some ⟨W.heap.size + 1, 0, none⟩)) ∧ IntB w' (W.heap.size + 1) (n : Int) ∧ Below W.heap.size W w' ∧ IntS w' W.heap.size)) := by
    refine Lib.hid ((newint_any (w := W.drew.alloc (.cells #[.bool false, .slice none 0 0] 82)) (n := (n : Int)) (by omega) (by omega)).mono ?_)
    rintro e w' ⟨h1, h2, h3⟩
    rw [World.size_alloc] at h1 h2
    exact ⟨h1, h2, hb1.trans (h3.mono hb1.size), by
      obtain ⟨s, A, n, c, hb⟩ := zslot W.drew
      exact ⟨s, A, n, c, hb.below h3 (by rw [World.size_alloc]; exact Nat.lt_succ_self _)⟩⟩
  have N2 : Hid (Calls Try.prog 91 #[.int .i64 (n : Int)] W.drew (fun e w' => e = .returned (.pointer (some ⟨W.heap.size, 0, none⟩)) ∧ IntB w' W.heap.size (n : Int) ∧ Below W.heap.size W w' ∧ True)) := by
    refine Lib.hid ((newint_any (w := W.drew) (n := (n : Int)) (by omega) (by omega)).mono ?_)
    rintro e w' ⟨h1, h2, h3⟩
    exact ⟨h1, h2, (Below.refl _ _).drew.trans h3, trivial⟩
  clear hcell hb1 had6
  go_wp2_with fail
  refine wp_region_noPanic ?_
  refine wp_region_HK (fun w' => w'.cell? ad = some (.pointer (some ⟨g1, 0, none⟩))) 6 (by kernel_rfl) p6 (fun hHeld => ?_)
  refine wpHK_take (i := 1) (oi := Oper.mk (some 37) _ _ _ _ _) (v := ?_) rfl (by kernel_rfl) (by kernel_rfl) (by kernel_rfl) (by kernel_rfl) (fun _ _ _ h => h) (Or.inl ⟨by rfl, ?_⟩) (by assumption) ?_
  rotate_left
  · (intro w' hSw; (try dsimp only at hSw); (obtain s1 := hSw); go_simp; try with_reducible rfl)
  try simp only [Act.put, List.setIfInBounds_toArray, List.set_cons_zero, List.set_cons_succ]
  refine wpHK_take (i := 2) (oi := Oper.mk (some 38) _ _ _ _ _) (v := ?_) rfl (by kernel_rfl) (by kernel_rfl) (by kernel_rfl) (by kernel_rfl) (fun _ _ _ h => h) (Or.inl ⟨by rfl, ?_⟩) (by assumption) ?_
  rotate_left
  · (intro w' hSw; (try dsimp only at hSw); (obtain s1 := hSw); go_simp; try with_reducible rfl)
  try simp only [Act.put, List.setIfInBounds_toArray, List.set_cons_zero, List.set_cons_succ]
  refine wpHK_take (i := 3) (oi := Oper.mk (some 39) _ _ _ _ _) (v := ?_) rfl (by kernel_rfl) (by kernel_rfl) (by kernel_rfl) (by kernel_rfl) (fun _ _ _ h => h) (Or.inl ⟨by rfl, ?_⟩) (by assumption) ?_
  rotate_left
  · (intro w' hSw; (try dsimp only at hSw); (obtain s1 := hSw); go_simp; try with_reducible rfl)
  try simp only [Act.put, List.setIfInBounds_toArray, List.set_cons_zero, List.set_cons_succ]
  refine wpHK_take (i := 4) (oi := Oper.mk (some 40) _ _ _ _ _) (v := ?_) rfl (by kernel_rfl) (by kernel_rfl) (by kernel_rfl) (by kernel_rfl) (fun _ _ _ h => h) (Or.inl ⟨by rfl, ?_⟩) (by assumption) ?_
  rotate_left
  · (intro w' hSw; (try dsimp only at hSw); (obtain s1 := hSw); go_simp; try with_reducible rfl)
  try simp only [Act.put, List.setIfInBounds_toArray, List.set_cons_zero, List.set_cons_succ]
  refine wpHK_two (i := 0) (j := 5) (oi := Oper.mk (some 36) _ _ _ _ _) (oj := Oper.mk (some 41) _ _ _ _ _) rfl rfl (by kernel_rfl) (fun K hK => ?_) (fun K hK => ?_)
  · go_simp
    refine hK.out _ _ (Hc.out _ Hb1.out) (fun _ => ?_)
    clear hK K hHeld
    have hHeld := (Hc.out _ Hb1.out)
    try simp only [Act.put, List.setIfInBounds_toArray, List.set_cons_zero, List.set_cons_succ]
    refine wpHK_one (j := 5) (o := Oper.mk (some 41) _ _ _ _ _) rfl (by kernel_rfl) (fun K hK => ?_)
    go_simp
    refine N1.out.mono ?_
    rintro e V ⟨rfl, hvi, hvb, hvg⟩
    have hvb := Lib.hid hvb
    have hvi := Lib.hid hvi
    have hvg := Lib.hid hvg
    refine hK.out _ _ (Hc.out _ hvb.out) (fun _ => ?_)
    clear hK K hHeld
    have hHeld := (Hc.out _ hvb.out)
    try simp only [Act.put, List.setIfInBounds_toArray, List.set_cons_zero, List.set_cons_succ]
    refine wpHK_tail (j := 6) (o := Oper.mk (some 42) _ _ _ _ _) rfl (by kernel_rfl) (by decide) (fun K hK => ?_)
    go_simp
    have HE := Lib.hid (exp_rdy hvb.out hvg.out (Nat.le_refl _) hvi.out Hx6.out Hl.out.1 Hl.out.2.1 Hl.out.2.2)
    refine HE.out.mono ?_
    rintro e V2 ⟨rfl, hi2, hb2⟩
    have HT := Lib.hid (told_any hi2 (by rw [Int.natAbs_pow]; have := Hl.out.1; omega))
    have hb2 := Lib.hid hb2
    clear hi2 HE
    refine hK.out _ _ ?_
    clear hK K
    try simp only [Act.put, List.setIfInBounds_toArray, List.set_cons_zero, List.set_cons_succ]
    refine wpHK_tail (j := 7) (o := Oper.mk (some 43) _ _ _ _ _) rfl (by kernel_rfl) (by decide) (fun K hK => ?_)
    go_simp
    refine HT.out.mono ?_
    intro e V3 hT
    obtain ⟨sn, bn, cd, rfl, hb7, hfin⟩ := tells_form hT
    have hb3 := hb2.out.trans (hb7.mono hb2.out.size)
    have n2 := m6.out.below hb3 Hs6.out
    have z0 : V3.cell? ⟨w.heap.size + 1, 0, none⟩ = some (.bool false) := n2.cell 0
    have z1 : V3.cell? ⟨w.heap.size + 1, 1, none⟩ = some (.string ⟨#[]⟩) := n2.cell 1
    have z2 := n2.frozen 0
    have z3 := n2.frozen 1
    have hb03 := Lib.hid (H6.out.trans (hb3.mono H6.out.size))
    clear hT n2 hb7 HT hb2 hb3
    refine hK.out _ _ ?_
    clear hK K
    try simp only [Act.put, List.setIfInBounds_toArray, List.set_cons_zero, List.set_cons_succ]
    refine wpHK_pure (i := 8) (oi := Oper.mk (some 44) _ _ _ _ _) (v := ?_) rfl (by kernel_rfl) (by kernel_rfl) (by kernel_rfl) (fun _ _ _ h => h) (Or.inl ⟨by rfl, ?_⟩) ?_
    rotate_left
    · (intro w' _; go_simp; try with_reducible rfl)
    try simp only [Act.put, List.setIfInBounds_toArray, List.set_cons_zero, List.set_cons_succ]
    refine wpHK_pure (i := 9) (oi := Oper.mk (some 45) _ _ _ _ _) (v := ?_) rfl (by kernel_rfl) (by kernel_rfl) (by kernel_rfl) (fun _ _ _ h => h) (Or.inl ⟨by rfl, ?_⟩) ?_
    rotate_left
    · (intro w' _; go_simp; try with_reducible rfl)
    try simp only [Act.put, List.setIfInBounds_toArray, List.set_cons_zero, List.set_cons_succ]
    refine wpHK_tail (j := 10) (o := Oper.mk (none) _ _ _ _ _) rfl (by kernel_rfl) (by decide) (fun K hK => ?_)
    go_simp
    refine hK.out _ _ ?_
    clear hK K
    try simp only [Act.put, List.setIfInBounds_toArray, List.set_cons_zero, List.set_cons_succ]
    refine wpHK_pure (i := 11) (oi := Oper.mk (some 5) _ _ _ _ _) (v := ?_) rfl (by kernel_rfl) (by kernel_rfl) (by kernel_rfl) (fun _ _ _ h => h) (Or.inl ⟨by rfl, ?_⟩) ?_
    rotate_left
    · (intro w' _; go_simp; try with_reducible rfl)
    try simp only [Act.put, List.setIfInBounds_toArray, List.set_cons_zero, List.set_cons_succ]
    refine wpHK_done (by kernel_rfl) ?_ _
    refine NoPanic.normal ?_
    go_wp2_with fail
    refine bodyPost_ret (v := .tuple #[.agg #[.bool sn, .string bn], .int .i64 cd]) (by simp [results, Try.results55, go_sem, z0, z1]) rfl ?_
    exact hfin _ _ _ ⟨Hm.out, Int.natCast_nonneg n⟩ ((hb03.out.setCell (by show w.heap.size ≤ w.heap.size + 1; omega) _).setCell (by show w.heap.size ≤ w.heap.size + 1; omega) _)
  · go_simp
    refine N2.out.mono ?_
    rintro e V ⟨rfl, hvi, hvb, hvg⟩
    have hvb := Lib.hid hvb
    have hvi := Lib.hid hvi
    have hvg := Lib.hid hvg
    refine hK.out _ _ (Hc.out _ hvb.out) (fun _ => ?_)
    clear hK K hHeld
    have hHeld := (Hc.out _ hvb.out)
    try simp only [Act.put, List.setIfInBounds_toArray, List.set_cons_zero, List.set_cons_succ]
    refine wpHK_one (j := 0) (o := Oper.mk (some 36) _ _ _ _ _) rfl (by kernel_rfl) (fun K hK => ?_)
    go_simp
    refine hK.out _ _ (Hc.out _ (hvb.out.trans ((new_below V (.cells #[.bool false, .slice none 0 0] 82)).mono hvb.out.size))) (fun _ => ?_)
    clear hK K hHeld
    have hHeld := (Hc.out _ (hvb.out.trans ((new_below V (.cells #[.bool false, .slice none 0 0] 82)).mono hvb.out.size)))
    try simp only [Act.put, List.setIfInBounds_toArray, List.set_cons_zero, List.set_cons_succ]
    refine wpHK_tail (j := 6) (o := Oper.mk (some 42) _ _ _ _ _) rfl (by kernel_rfl) (by decide) (fun K hK => ?_)
    go_simp
    have HE := Lib.hid (exp_rdy (hvb.out.trans ((new_below V (.cells #[.bool false, .slice none 0 0] 82)).mono hvb.out.size)) (zslot V) hvb.out.size (hvi.out.below (new_below V (.cells #[.bool false, .slice none 0 0] 82))) Hx6.out Hl.out.1 Hl.out.2.1 Hl.out.2.2)
    refine HE.out.mono ?_
    rintro e V2 ⟨rfl, hi2, hb2⟩
    have HT := Lib.hid (told_any hi2 (by rw [Int.natAbs_pow]; have := Hl.out.1; omega))
    have hb2 := Lib.hid hb2
    clear hi2 HE
    refine hK.out _ _ ?_
    clear hK K
    try simp only [Act.put, List.setIfInBounds_toArray, List.set_cons_zero, List.set_cons_succ]
    refine wpHK_tail (j := 7) (o := Oper.mk (some 43) _ _ _ _ _) rfl (by kernel_rfl) (by decide) (fun K hK => ?_)
    go_simp
    refine HT.out.mono ?_
    intro e V3 hT
    obtain ⟨sn, bn, cd, rfl, hb7, hfin⟩ := tells_form hT
    have hb3 := hb2.out.trans (hb7.mono hb2.out.size)
    have n2 := m6.out.below hb3 Hs6.out
    have z0 : V3.cell? ⟨w.heap.size + 1, 0, none⟩ = some (.bool false) := n2.cell 0
    have z1 : V3.cell? ⟨w.heap.size + 1, 1, none⟩ = some (.string ⟨#[]⟩) := n2.cell 1
    have z2 := n2.frozen 0
    have z3 := n2.frozen 1
    have hb03 := Lib.hid (H6.out.trans (hb3.mono H6.out.size))
    clear hT n2 hb7 HT hb2 hb3
    refine hK.out _ _ ?_
    clear hK K
    try simp only [Act.put, List.setIfInBounds_toArray, List.set_cons_zero, List.set_cons_succ]
    refine wpHK_pure (i := 8) (oi := Oper.mk (some 44) _ _ _ _ _) (v := ?_) rfl (by kernel_rfl) (by kernel_rfl) (by kernel_rfl) (fun _ _ _ h => h) (Or.inl ⟨by rfl, ?_⟩) ?_
    rotate_left
    · (intro w' _; go_simp; try with_reducible rfl)
    try simp only [Act.put, List.setIfInBounds_toArray, List.set_cons_zero, List.set_cons_succ]
    refine wpHK_pure (i := 9) (oi := Oper.mk (some 45) _ _ _ _ _) (v := ?_) rfl (by kernel_rfl) (by kernel_rfl) (by kernel_rfl) (fun _ _ _ h => h) (Or.inl ⟨by rfl, ?_⟩) ?_
    rotate_left
    · (intro w' _; go_simp; try with_reducible rfl)
    try simp only [Act.put, List.setIfInBounds_toArray, List.set_cons_zero, List.set_cons_succ]
    refine wpHK_tail (j := 10) (o := Oper.mk (none) _ _ _ _ _) rfl (by kernel_rfl) (by decide) (fun K hK => ?_)
    go_simp
    refine hK.out _ _ ?_
    clear hK K
    try simp only [Act.put, List.setIfInBounds_toArray, List.set_cons_zero, List.set_cons_succ]
    refine wpHK_pure (i := 11) (oi := Oper.mk (some 5) _ _ _ _ _) (v := ?_) rfl (by kernel_rfl) (by kernel_rfl) (by kernel_rfl) (fun _ _ _ h => h) (Or.inl ⟨by rfl, ?_⟩) ?_
    rotate_left
    · (intro w' _; go_simp; try with_reducible rfl)
    try simp only [Act.put, List.setIfInBounds_toArray, List.set_cons_zero, List.set_cons_succ]
    refine wpHK_done (by kernel_rfl) ?_ _
    refine NoPanic.normal ?_
    go_wp2_with fail
    refine bodyPost_ret (v := .tuple #[.agg #[.bool sn, .string bn], .int .i64 cd]) (by simp [results, Try.results55, go_sem, z0, z1]) rfl ?_
    exact hfin _ _ _ ⟨Hm.out, Int.natCast_nonneg n⟩ ((hb03.out.setCell (by show w.heap.size ≤ w.heap.size + 1; omega) _).setCell (by show w.heap.size ≤ w.heap.size + 1; omega) _)
set_option maxRecDepth 100000 in
set_option maxHeartbeats 1000000 in
theorem wpow_main {w : World} {na : Bool} {sa : ByteArray} {n : Nat} (hm : MayL na sa.data.toList) (hk : 2 ≤ bl (num (na, sa)).natAbs) (hg : n * (bl (num (na, sa)).natAbs - 1) ≤ 131072) (hn : n ≤ 9223372036854775807) :
    Calls Try.prog 55 #[.agg #[.bool na, .string sa], .int .i64 n] w (Ans w (MayL na sa.data.toList ∧ 0 ≤ (n : Int)) (num (na, sa) ^ n)) := by
  have hb1 := new_below w (.cells #[.bool na, .string sa] 26)
  have hb2 := hb1.alloc (by simp) (.cells #[.bool false, .string ⟨#[]⟩] 26)
  have k2 := Blk.new (w.alloc (.cells #[.bool na, .string sa] 26)) 26 #[.bool false, .string ⟨#[]⟩]
  have hO := of_one (w := (w.alloc (.cells #[.bool na, .string sa] 26)).alloc (.cells #[.bool false, .string ⟨#[]⟩] 26)) (na := na) (sa := sa)
  rw [World.size_alloc, World.size_alloc] at hO
  rw [World.size_alloc] at k2
  have HO := Lib.hid hO
  have Hb := Lib.hid (And.intro hb2 k2)
  obtain ⟨K, hK⟩ : ∃ K, K = bl (num (na, sa)).natAbs := ⟨_, rfl⟩
  have Hl := Lib.hid (And.intro (len_pow (n := n) (.inr hg)) (And.intro (Nat.le_trans (len_num (a := (na, sa)) hm) (show 5000 ≤ 5000 by omega)) hn))
  rw [← hK] at hk hg
  obtain ⟨J, hJ⟩ : ∃ J, K = J + 1 := ⟨K - 1, by omega⟩
  have hq : n ≤ 131072 / J := (Nat.le_div_iff_mul_le (by omega)).2 (by rw [hJ] at hg; exact hg)
  obtain ⟨Q, hQ⟩ : ∃ Q, Q = 131072 / J := ⟨_, rfl⟩
  have j2 : 1 ≤ J := by omega
  have j3 : (n : Int) ≤ (Q : Int) := by omega
  have j4 : ((J : Int) == 0) = false := by simp <;> omega
  have j5 : (131072 : Int) / (J : Int) = (Q : Int) := by rw [hQ]; rfl
  have j9 : wrap64 (Q : Int) = (Q : Int) := by
    have : Q ≤ 131072 := by rw [hQ]; exact Nat.div_le_self _ _
    exact IntWalk.wrap64_in _ (by omega)
  have j6 : (131072 : Int).tdiv (J : Int) = (Q : Int) := by rw [hQ]; rfl
  have j7 : (K : Int) - 1 = (J : Int) := by omega
  have j8 : IntKind.i64.wrap ((K : Int) - 1) = (J : Int) := by have := fits_num (a := (na, sa)) hm; rw [← hK] at this; rw [j7]; exact IntWalk.i64_in _ (by omega)
  clear hQ hJ hq hg
  have j1 : K ≤ 131072 := by rw [hK]; exact fits_num (a := (na, sa)) hm
  have HK := Lib.hid hK
  have Hm := Lib.hid hm
  clear hm hK
  clear hO hb1 hb2 k2
  go_enter Try.func55, Try.ntmps55
  go_wp2_with fail
  refine HO.out.mono ?_
  rintro e w5 ⟨h1, h2, hb5⟩
  have hb05 := Hb.out.1.trans (hb5.mono (by simp <;> omega))
  have m2 := Hb.out.2.below hb5 (by simp)
  have d0 : w5.cell? ⟨w.heap.size + 1, 0, none⟩ = some (.bool false) := m2.cell 0
  have d1 : w5.cell? ⟨w.heap.size + 1, 1, none⟩ = some (.string ⟨#[]⟩) := m2.cell 1
  have d2 := m2.frozen 0
  have d3 := m2.frozen 1
  have H5 := Lib.hid (And.intro hb05 m2)
  have Hsz := Lib.hid (show w.heap.size + 1 + 1 ≤ w5.heap.size by have := hb5.size; simp at this; omega)
  clear hb5 hb05 m2
  obtain ⟨ad, c, g1, rfl, hadb, p0, hx, hg1⟩ := h1 Hm.out
  clear h1 h2 hg1
  have Hlen := Lib.hid (len_num (a := (na, sa)) Hm.out)
  have hB := bitlen_any hx (by have := Hlen.out; omega)
  unfold Bitted at hB
  rw [← HK.out] at hB
  have HB := Lib.hid hB
  have Hx := Lib.hid hx
  clear hx hB
  go_wp2_with fail
  refine HB.out.mono ?_
  rintro e w6 ⟨q, rfl, rfl⟩
  have Hx6 := Lib.hid (Hx.out.drewN q)
  have m6 := Lib.hid (show Blk (w5.drewN q) (w.heap.size + 1) 26 #[.bool false, .string ⟨#[]⟩] from H5.out.2)
  have Hs6 := Lib.hid (show w.heap.size + 1 < (w5.drewN q).heap.size from Hsz.out)
  have H6 := Lib.hid (below_drewN H5.out.1 q)
  have p6 : (w5.drewN q).cell? ad = some (.pointer (some ⟨g1, 0, none⟩)) := p0
  have had6 : ad.block < (w5.drewN q).heap.size := hadb
  clear H5 Hsz p0 hadb Hx d0 d1 d2 d3 HB
  generalize w5.drewN q = W at *
  have hb1 : Below W.heap.size W (W.drew.alloc (.cells #[.bool false, .slice none 0 0] 82)) := (Below.refl _ _).drew.alloc (Nat.le_refl _) _
  have hcell : ∀ w' : World, Below W.heap.size W w' → w'.cell? ad = some (.pointer (some ⟨g1, 0, none⟩)) := fun w' hb => (hb.cell had6).trans p6
  have Hc := Lib.hid hcell
  have Hb1 := Lib.hid hb1
  have N1 : Hid (Calls Try.prog 91 #[.int .i64 (n : Int)] (W.drew.alloc (.cells #[.bool false, .slice none 0 0] 82)) (fun e w' => e = .returned (.pointer (some ⟨W.heap.size + 1, 0, none⟩)) ∧ IntB w' (W.heap.size + 1) (n : Int) ∧ Below W.heap.size W w' ∧ IntS w' W.heap.size)) := by
    refine Lib.hid ((newint_any (w := W.drew.alloc (.cells #[.bool false, .slice none 0 0] 82)) (n := (n : Int)) (by omega) (by omega)).mono ?_)
    rintro e w' ⟨h1, h2, h3⟩
    rw [World.size_alloc] at h1 h2
    exact ⟨h1, h2, hb1.trans (h3.mono hb1.size), by
      obtain ⟨s, A, n, c, hb⟩ := zslot W.drew
      exact ⟨s, A, n, c, hb.below h3 (by rw [World.size_alloc]; exact Nat.lt_succ_self _)⟩⟩
  have N2 : Hid (Calls Try.prog 91 #[.int .i64 (n : Int)] W.drew (fun e w' => e = .returned (.pointer (some ⟨W.heap.size, 0, none⟩)) ∧ IntB w' W.heap.size (n : Int) ∧ Below W.heap.size W w' ∧ True)) := by
    refine Lib.hid ((newint_any (w := W.drew) (n := (n : Int)) (by omega) (by omega)).mono ?_)
    rintro e w' ⟨h1, h2, h3⟩
    exact ⟨h1, h2, (Below.refl _ _).drew.trans h3, trivial⟩
  clear hcell hb1 had6
  go_wp2_with fail
  refine wp_region_noPanic ?_
  refine wp_region_HK (fun w' => w'.cell? ad = some (.pointer (some ⟨g1, 0, none⟩))) 6 (by kernel_rfl) p6 (fun hHeld => ?_)
  refine wpHK_take (i := 1) (oi := Oper.mk (some 37) _ _ _ _ _) (v := ?_) rfl (by kernel_rfl) (by kernel_rfl) (by kernel_rfl) (by kernel_rfl) (fun _ _ _ h => h) (Or.inl ⟨by rfl, ?_⟩) (by assumption) ?_
  rotate_left
  · (intro w' hSw; (try dsimp only at hSw); (obtain s1 := hSw); go_simp; try with_reducible rfl)
  try simp only [Act.put, List.setIfInBounds_toArray, List.set_cons_zero, List.set_cons_succ]
  refine wpHK_take (i := 2) (oi := Oper.mk (some 38) _ _ _ _ _) (v := ?_) rfl (by kernel_rfl) (by kernel_rfl) (by kernel_rfl) (by kernel_rfl) (fun _ _ _ h => h) (Or.inl ⟨by rfl, ?_⟩) (by assumption) ?_
  rotate_left
  · (intro w' hSw; (try dsimp only at hSw); (obtain s1 := hSw); go_simp; try with_reducible rfl)
  try simp only [Act.put, List.setIfInBounds_toArray, List.set_cons_zero, List.set_cons_succ]
  refine wpHK_take (i := 3) (oi := Oper.mk (some 39) _ _ _ _ _) (v := ?_) rfl (by kernel_rfl) (by kernel_rfl) (by kernel_rfl) (by kernel_rfl) (fun _ _ _ h => h) (Or.inl ⟨by rfl, ?_⟩) (by assumption) ?_
  rotate_left
  · (intro w' hSw; (try dsimp only at hSw); (obtain s1 := hSw); go_simp; try with_reducible rfl)
  try simp only [Act.put, List.setIfInBounds_toArray, List.set_cons_zero, List.set_cons_succ]
  refine wpHK_take (i := 4) (oi := Oper.mk (some 40) _ _ _ _ _) (v := ?_) rfl (by kernel_rfl) (by kernel_rfl) (by kernel_rfl) (by kernel_rfl) (fun _ _ _ h => h) (Or.inl ⟨by rfl, ?_⟩) (by assumption) ?_
  rotate_left
  · (intro w' hSw; (try dsimp only at hSw); (obtain s1 := hSw); go_simp; try with_reducible rfl)
  try simp only [Act.put, List.setIfInBounds_toArray, List.set_cons_zero, List.set_cons_succ]
  refine wpHK_two (i := 0) (j := 5) (oi := Oper.mk (some 36) _ _ _ _ _) (oj := Oper.mk (some 41) _ _ _ _ _) rfl rfl (by kernel_rfl) (fun K hK => ?_) (fun K hK => ?_)
  · go_simp
    refine hK.out _ _ (Hc.out _ Hb1.out) (fun _ => ?_)
    clear hK K hHeld
    have hHeld := (Hc.out _ Hb1.out)
    try simp only [Act.put, List.setIfInBounds_toArray, List.set_cons_zero, List.set_cons_succ]
    refine wpHK_one (j := 5) (o := Oper.mk (some 41) _ _ _ _ _) rfl (by kernel_rfl) (fun K hK => ?_)
    go_simp
    refine N1.out.mono ?_
    rintro e V ⟨rfl, hvi, hvb, hvg⟩
    have hvb := Lib.hid hvb
    have hvi := Lib.hid hvi
    have hvg := Lib.hid hvg
    refine hK.out _ _ (Hc.out _ hvb.out) (fun _ => ?_)
    clear hK K hHeld
    have hHeld := (Hc.out _ hvb.out)
    try simp only [Act.put, List.setIfInBounds_toArray, List.set_cons_zero, List.set_cons_succ]
    refine wpHK_tail (j := 6) (o := Oper.mk (some 42) _ _ _ _ _) rfl (by kernel_rfl) (by decide) (fun K hK => ?_)
    go_simp
    have HE := Lib.hid (exp_rdy hvb.out hvg.out (Nat.le_refl _) hvi.out Hx6.out Hl.out.1 Hl.out.2.1 Hl.out.2.2)
    refine HE.out.mono ?_
    rintro e V2 ⟨rfl, hi2, hb2⟩
    have HT := Lib.hid (told_any hi2 (by rw [Int.natAbs_pow]; have := Hl.out.1; omega))
    have hb2 := Lib.hid hb2
    clear hi2 HE
    refine hK.out _ _ ?_
    clear hK K
    try simp only [Act.put, List.setIfInBounds_toArray, List.set_cons_zero, List.set_cons_succ]
    refine wpHK_tail (j := 7) (o := Oper.mk (some 43) _ _ _ _ _) rfl (by kernel_rfl) (by decide) (fun K hK => ?_)
    go_simp
    refine HT.out.mono ?_
    intro e V3 hT
    obtain ⟨sn, bn, cd, rfl, hb7, hfin⟩ := tells_form hT
    have hb3 := hb2.out.trans (hb7.mono hb2.out.size)
    have n2 := m6.out.below hb3 Hs6.out
    have z0 : V3.cell? ⟨w.heap.size + 1, 0, none⟩ = some (.bool false) := n2.cell 0
    have z1 : V3.cell? ⟨w.heap.size + 1, 1, none⟩ = some (.string ⟨#[]⟩) := n2.cell 1
    have z2 := n2.frozen 0
    have z3 := n2.frozen 1
    have hb03 := Lib.hid (H6.out.trans (hb3.mono H6.out.size))
    clear hT n2 hb7 HT hb2 hb3
    refine hK.out _ _ ?_
    clear hK K
    try simp only [Act.put, List.setIfInBounds_toArray, List.set_cons_zero, List.set_cons_succ]
    refine wpHK_pure (i := 8) (oi := Oper.mk (some 44) _ _ _ _ _) (v := ?_) rfl (by kernel_rfl) (by kernel_rfl) (by kernel_rfl) (fun _ _ _ h => h) (Or.inl ⟨by rfl, ?_⟩) ?_
    rotate_left
    · (intro w' _; go_simp; try with_reducible rfl)
    try simp only [Act.put, List.setIfInBounds_toArray, List.set_cons_zero, List.set_cons_succ]
    refine wpHK_pure (i := 9) (oi := Oper.mk (some 45) _ _ _ _ _) (v := ?_) rfl (by kernel_rfl) (by kernel_rfl) (by kernel_rfl) (fun _ _ _ h => h) (Or.inl ⟨by rfl, ?_⟩) ?_
    rotate_left
    · (intro w' _; go_simp; try with_reducible rfl)
    try simp only [Act.put, List.setIfInBounds_toArray, List.set_cons_zero, List.set_cons_succ]
    refine wpHK_tail (j := 10) (o := Oper.mk (none) _ _ _ _ _) rfl (by kernel_rfl) (by decide) (fun K hK => ?_)
    go_simp
    refine hK.out _ _ ?_
    clear hK K
    try simp only [Act.put, List.setIfInBounds_toArray, List.set_cons_zero, List.set_cons_succ]
    refine wpHK_pure (i := 11) (oi := Oper.mk (some 5) _ _ _ _ _) (v := ?_) rfl (by kernel_rfl) (by kernel_rfl) (by kernel_rfl) (fun _ _ _ h => h) (Or.inl ⟨by rfl, ?_⟩) ?_
    rotate_left
    · (intro w' _; go_simp; try with_reducible rfl)
    try simp only [Act.put, List.setIfInBounds_toArray, List.set_cons_zero, List.set_cons_succ]
    refine wpHK_done (by kernel_rfl) ?_ _
    refine NoPanic.normal ?_
    go_wp2_with fail
    refine bodyPost_ret (v := .tuple #[.agg #[.bool sn, .string bn], .int .i64 cd]) (by simp [results, Try.results55, go_sem, z0, z1]) rfl ?_
    exact hfin _ _ _ ⟨Hm.out, Int.natCast_nonneg n⟩ ((hb03.out.setCell (by show w.heap.size ≤ w.heap.size + 1; omega) _).setCell (by show w.heap.size ≤ w.heap.size + 1; omega) _)
  · go_simp
    refine N2.out.mono ?_
    rintro e V ⟨rfl, hvi, hvb, hvg⟩
    have hvb := Lib.hid hvb
    have hvi := Lib.hid hvi
    have hvg := Lib.hid hvg
    refine hK.out _ _ (Hc.out _ hvb.out) (fun _ => ?_)
    clear hK K hHeld
    have hHeld := (Hc.out _ hvb.out)
    try simp only [Act.put, List.setIfInBounds_toArray, List.set_cons_zero, List.set_cons_succ]
    refine wpHK_one (j := 0) (o := Oper.mk (some 36) _ _ _ _ _) rfl (by kernel_rfl) (fun K hK => ?_)
    go_simp
    refine hK.out _ _ (Hc.out _ (hvb.out.trans ((new_below V (.cells #[.bool false, .slice none 0 0] 82)).mono hvb.out.size))) (fun _ => ?_)
    clear hK K hHeld
    have hHeld := (Hc.out _ (hvb.out.trans ((new_below V (.cells #[.bool false, .slice none 0 0] 82)).mono hvb.out.size)))
    try simp only [Act.put, List.setIfInBounds_toArray, List.set_cons_zero, List.set_cons_succ]
    refine wpHK_tail (j := 6) (o := Oper.mk (some 42) _ _ _ _ _) rfl (by kernel_rfl) (by decide) (fun K hK => ?_)
    go_simp
    have HE := Lib.hid (exp_rdy (hvb.out.trans ((new_below V (.cells #[.bool false, .slice none 0 0] 82)).mono hvb.out.size)) (zslot V) hvb.out.size (hvi.out.below (new_below V (.cells #[.bool false, .slice none 0 0] 82))) Hx6.out Hl.out.1 Hl.out.2.1 Hl.out.2.2)
    refine HE.out.mono ?_
    rintro e V2 ⟨rfl, hi2, hb2⟩
    have HT := Lib.hid (told_any hi2 (by rw [Int.natAbs_pow]; have := Hl.out.1; omega))
    have hb2 := Lib.hid hb2
    clear hi2 HE
    refine hK.out _ _ ?_
    clear hK K
    try simp only [Act.put, List.setIfInBounds_toArray, List.set_cons_zero, List.set_cons_succ]
    refine wpHK_tail (j := 7) (o := Oper.mk (some 43) _ _ _ _ _) rfl (by kernel_rfl) (by decide) (fun K hK => ?_)
    go_simp
    refine HT.out.mono ?_
    intro e V3 hT
    obtain ⟨sn, bn, cd, rfl, hb7, hfin⟩ := tells_form hT
    have hb3 := hb2.out.trans (hb7.mono hb2.out.size)
    have n2 := m6.out.below hb3 Hs6.out
    have z0 : V3.cell? ⟨w.heap.size + 1, 0, none⟩ = some (.bool false) := n2.cell 0
    have z1 : V3.cell? ⟨w.heap.size + 1, 1, none⟩ = some (.string ⟨#[]⟩) := n2.cell 1
    have z2 := n2.frozen 0
    have z3 := n2.frozen 1
    have hb03 := Lib.hid (H6.out.trans (hb3.mono H6.out.size))
    clear hT n2 hb7 HT hb2 hb3
    refine hK.out _ _ ?_
    clear hK K
    try simp only [Act.put, List.setIfInBounds_toArray, List.set_cons_zero, List.set_cons_succ]
    refine wpHK_pure (i := 8) (oi := Oper.mk (some 44) _ _ _ _ _) (v := ?_) rfl (by kernel_rfl) (by kernel_rfl) (by kernel_rfl) (fun _ _ _ h => h) (Or.inl ⟨by rfl, ?_⟩) ?_
    rotate_left
    · (intro w' _; go_simp; try with_reducible rfl)
    try simp only [Act.put, List.setIfInBounds_toArray, List.set_cons_zero, List.set_cons_succ]
    refine wpHK_pure (i := 9) (oi := Oper.mk (some 45) _ _ _ _ _) (v := ?_) rfl (by kernel_rfl) (by kernel_rfl) (by kernel_rfl) (fun _ _ _ h => h) (Or.inl ⟨by rfl, ?_⟩) ?_
    rotate_left
    · (intro w' _; go_simp; try with_reducible rfl)
    try simp only [Act.put, List.setIfInBounds_toArray, List.set_cons_zero, List.set_cons_succ]
    refine wpHK_tail (j := 10) (o := Oper.mk (none) _ _ _ _ _) rfl (by kernel_rfl) (by decide) (fun K hK => ?_)
    go_simp
    refine hK.out _ _ ?_
    clear hK K
    try simp only [Act.put, List.setIfInBounds_toArray, List.set_cons_zero, List.set_cons_succ]
    refine wpHK_pure (i := 11) (oi := Oper.mk (some 5) _ _ _ _ _) (v := ?_) rfl (by kernel_rfl) (by kernel_rfl) (by kernel_rfl) (fun _ _ _ h => h) (Or.inl ⟨by rfl, ?_⟩) ?_
    rotate_left
    · (intro w' _; go_simp; try with_reducible rfl)
    try simp only [Act.put, List.setIfInBounds_toArray, List.set_cons_zero, List.set_cons_succ]
    refine wpHK_done (by kernel_rfl) ?_ _
    refine NoPanic.normal ?_
    go_wp2_with fail
    refine bodyPost_ret (v := .tuple #[.agg #[.bool sn, .string bn], .int .i64 cd]) (by simp [results, Try.results55, go_sem, z0, z1]) rfl ?_
    exact hfin _ _ _ ⟨Hm.out, Int.natCast_nonneg n⟩ ((hb03.out.setCell (by show w.heap.size ≤ w.heap.size + 1; omega) _).setCell (by show w.heap.size ≤ w.heap.size + 1; omega) _)
theorem wpow_any {w : World} {na : Bool} {sa : ByteArray} {n : Int} (hn : n ≤ 9223372036854775807) :
    Calls Try.prog 55 #[.agg #[.bool na, .string sa], .int .i64 n] w (Ans w (MayL na sa.data.toList ∧ 0 ≤ n) (num (na, sa) ^ n.toNat)) := by
  by_cases hm : MayL na sa.data.toList
  · rcases Int.lt_or_le n 0 with h | h
    · exact wpow_neg hm h
    · obtain ⟨m, rfl⟩ := Int.eq_ofNat_of_zero_le h
      have h1 : m ≤ 9223372036854775807 := by omega
      rw [Int.toNat_natCast]
      rcases Nat.lt_or_ge (bl (num (na, sa)).natAbs) 2 with h2 | h2
      · exact wpow_one hm (by omega) h1
      · rcases Nat.lt_or_ge 131072 (m * (bl (num (na, sa)).natAbs - 1)) with h3 | h3
        · exact wpow_big hm h2 h3 h1
        · exact wpow_main hm h2 h3 h1
  · exact wpow_bad hm
end Go.Proofs.Ytpnginnjbdedbaa

/- The law's long, bad, is, arg. -/
namespace Go.Proofs.Ytpnginnjbdedbaa
open Go.RowKit
open Wh
set_option linter.unusedSimpArgs false

def isLong (a : Bool × ByteArray) : Bool := decide (400 < a.2.size) && mayB a.1 a.2
def isBad (a : Bool × ByteArray) : Bool := !mayB a.1 a.2
theorem any_take {f : Bool × ByteArray → Bool} {l : List (Bool × ByteArray)} {i : Nat} (h : i < l.length) (h0 : (l.take i).any f = false) (h1 : f l[i] = false) : (l.take (i + 1)).any f = false := by
  rw [List.take_succ_eq_append_getElem h, List.any_append, h0]
  simp [h1]
theorem any_hit {f : Bool × ByteArray → Bool} {l : List (Bool × ByteArray)} {i : Nat} (h : i < l.length) (h1 : f l[i] = true) : l.any f = true := List.any_eq_true.2 ⟨_, List.getElem_mem h, h1⟩
set_option maxRecDepth 100000 in
set_option maxHeartbeats 4000000 in
theorem bad_any {w : World} {B n c : Nat} {A : Option Addr} {l : List (Bool × ByteArray)} (hr : ReadsWh w B A l) (hB : B ≤ w.heap.size) (hn : n = l.length) (hnl : n ≤ 1000000000) :
    Calls Try.prog 16 #[.slice A n c] w (Calm w (.bool (l.any isBad))) := by
  have Hn := Lib.hid hn
  have Hr := Lib.hid hr
  have HM := Lib.hid (fun (W : World) (n : Bool) (s : ByteArray) => may_any (w := W) (n := n) (s := s))
  clear hn hr
  go_enter Try.func16, Try.ntmps16
  go_wp2_with fail
  go_loopg [3] n (fun k iv wr => ∃ (i : Nat), iv = .int .i64 (i : Int) ∧ k = n - i ∧ i ≤ n ∧ Below w.heap.size w wr ∧ Hid ((l.take i).any isBad = false))
  case atStart => exact ⟨0, rfl, by omega, by omega, Below.refl _ _, by rw [List.take_zero]; rfl⟩
  case round =>
    obtain ⟨i, rfl, hk, hi, hbel, ht⟩ := hrel
    have Hk := Lib.hid hk
    clear hk
    by_cases hin : i < n
    · have hil : i < l.length := by rw [← Hn.out]; exact hin
      obtain ⟨ad, rfl, hb1, c0, c1⟩ := ReadsWh.at_ (Reads.below Hr.out (hbel.mono hB)) hil
      have hii : (i : Int) < (n : Int) := by omega
      have Hhit := Lib.hid (any_hit (f := isBad) hil)
      have Htk := Lib.hid (any_take (f := isBad) hil ht.out)
      generalize l[i] = a at c0 c1 Hhit Htk
      obtain ⟨na, sa⟩ := a
      dsimp only at c0 c1
      go_wp2_with fail
      refine (HM.out _ _ _).mono ?_
      rintro e w2 ⟨rfl, h2⟩
      have hb2 := hbel.trans (h2.mono hbel.size)
      clear h2 c0 c1
      obtain ⟨b, hb⟩ : ∃ b, b = mayB na sa := ⟨_, rfl⟩
      rw [← hb]
      have Hb := Lib.hid hb
      clear hb
      cases b
      · go_wp2_with fail
        go_ret
        exact ⟨by rw [Hhit.out (by show (!mayB na sa) = true; rw [← Hb.out]; rfl)]; rfl, hb2⟩
      · go_wp2_with fail
        go_roundg (n - (i + 1))
        case measure => have := Hk.out; omega
        case rel => exact ⟨i + 1, rfl, rfl, by omega, hb2, Lib.hid (Htk.out (by show (!mayB na sa) = false; rw [← Hb.out]; rfl))⟩
    · have hii : (n : Int) ≤ (i : Int) := by omega
      have hfin : l.any isBad = false := by
        have h1 := ht.out
        rw [show i = l.length by have := Hn.out; omega, List.take_length] at h1
        exact h1
      have Hfin := Lib.hid hfin
      clear hfin
      go_wp2_with fail
      go_ret
      exact ⟨by rw [Hfin.out]; rfl, hbel⟩
set_option maxRecDepth 100000 in
set_option maxHeartbeats 4000000 in
theorem long_any {w : World} {B n c : Nat} {A : Option Addr} {l : List (Bool × ByteArray)} (hr : ReadsWh w B A l) (hB : B ≤ w.heap.size) (hn : n = l.length) (hnl : n ≤ 1000000000) :
    Calls Try.prog 12 #[.slice A n c] w (Calm w (.bool (l.any isLong))) := by
  have Hn := Lib.hid hn
  have Hr := Lib.hid hr
  have HM := Lib.hid (fun (W : World) (n : Bool) (s : ByteArray) => may_any (w := W) (n := n) (s := s))
  clear hn hr
  go_enter Try.func12, Try.ntmps12
  go_wp2_with fail
  go_loopg [3] n (fun k iv wr => ∃ (i : Nat), iv = .int .i64 (i : Int) ∧ k = n - i ∧ i ≤ n ∧ Below w.heap.size w wr ∧ Hid ((l.take i).any isLong = false))
  case atStart => exact ⟨0, rfl, by omega, by omega, Below.refl _ _, by rw [List.take_zero]; rfl⟩
  case round =>
    obtain ⟨i, rfl, hk, hi, hbel, ht⟩ := hrel
    have Hk := Lib.hid hk
    clear hk
    by_cases hin : i < n
    · have hil : i < l.length := by rw [← Hn.out]; exact hin
      obtain ⟨ad, rfl, hb1, c0, c1⟩ := ReadsWh.at_ (Reads.below Hr.out (hbel.mono hB)) hil
      have hii : (i : Int) < (n : Int) := by omega
      have Hhit := Lib.hid (any_hit (f := isLong) hil)
      have Htk := Lib.hid (any_take (f := isLong) hil ht.out)
      generalize l[i] = a at c0 c1 Hhit Htk
      obtain ⟨na, sa⟩ := a
      dsimp only at c0 c1
      by_cases h4 : 400 < sa.size
      · have d4 : decide ((400 : Int) < (sa.size : Int)) = true := decide_eq_true (by omega)
        have e4 := decide_eq_true h4
        have He := Lib.hid e4
        clear e4
        go_wp2_with fail
        refine (HM.out _ _ _).mono ?_
        rintro e w2 ⟨rfl, h2⟩
        have hb2 := hbel.trans (h2.mono hbel.size)
        clear h2 c0 c1
        obtain ⟨b, hb⟩ : ∃ b, b = mayB na sa := ⟨_, rfl⟩
        rw [← hb]
        have Hb := Lib.hid hb
        clear hb
        cases b
        · go_wp2_with fail
          go_roundg (n - (i + 1))
          case measure => have := Hk.out; omega
          case rel => exact ⟨i + 1, rfl, rfl, by omega, hb2, Lib.hid (Htk.out (by show (decide (400 < sa.size) && mayB na sa) = false; rw [← Hb.out, He.out]; rfl))⟩
        · go_wp2_with fail
          go_ret
          exact ⟨by rw [Hhit.out (by show (decide (400 < sa.size) && mayB na sa) = true; rw [← Hb.out, He.out]; rfl)]; rfl, hb2⟩
      · have d4 : decide ((400 : Int) < (sa.size : Int)) = false := decide_eq_false (by omega)
        have He := Lib.hid (decide_eq_false h4)
        go_wp2_with fail
        go_roundg (n - (i + 1))
        case measure => have := Hk.out; omega
        case rel => exact ⟨i + 1, rfl, rfl, by omega, hbel, Lib.hid (Htk.out (by show (decide (400 < sa.size) && mayB na sa) = false; rw [He.out]; rfl))⟩
    · have hii : (n : Int) ≤ (i : Int) := by omega
      have hfin : l.any isLong = false := by
        have h1 := ht.out
        rw [show i = l.length by have := Hn.out; omega, List.take_length] at h1
        exact h1
      have Hfin := Lib.hid hfin
      clear hfin
      go_wp2_with fail
      go_ret
      exact ⟨by rw [Hfin.out]; rfl, hbel⟩

set_option maxRecDepth 100000 in
/-- what is refused -/
theorem arg_any {w : World} : Calls Try.prog 19 #[.agg #[.bool false, .string ⟨#[]⟩], .int .i64 2] w (Calm w (.bool true)) := by
  have HN := Lib.hid (fun W : World => num_any (w := W) (n := 2))
  have hb := Lib.hid ((Below.refl w.heap.size w).alloc (Nat.le_refl _) (.cells #[.bool false, .string ⟨#[]⟩] 26))
  go_enter Try.func19, Try.ntmps19
  go_wp2_with fail
  refine (HN.out _).mono ?_
  rintro e w2 ⟨rfl, rfl⟩
  go_wp2_with fail
  go_ret
  exact ⟨rfl, hb.out⟩
theorem bytes_bl {n k : Nat} (h : (bys n).length ≤ k) : bl n ≤ 8 * k := bl_lt.2 (by rw [← pow_bytes]; exact lt_of_bys h)
theorem fits_iff {z : Int} {s : Bool} {b : ByteArray} (he : enc z = .agg #[.bool s, .string b]) : fits z ↔ b.size ≤ 16384 := by
  unfold enc at he
  injection he with he
  have h2 : (⟨(bys z.natAbs).toArray⟩ : ByteArray) = b := by
    have := congrArg (fun x => x[1]?) he
    simpa using this
  have h3 : b.size = (bys z.natAbs).length := by rw [← h2]; exact List.size_toArray
  rw [h3]
  unfold fits
  constructor
  · exact fun h => bl_bytes (k := 16384) h
  · intro h
    exact bytes_bl (k := 16384) h
set_option maxRecDepth 100000 in
/-- an answer that fits -/
theorem is_yes {w : World} {z : Int} {s : Bool} {b : ByteArray} (hf : fits z) (he : enc z = .agg #[.bool s, .string b]) :
    Calls Try.prog 20 #[.agg #[.bool s, .string b], .int .i64 0, .agg #[.bool s, .string b]] w (Calm w (.bool true)) := by
  have HN := Lib.hid (fun W : World => num_any (w := W) (n := 0))
  have HF := Lib.hid (fun W : World => fits_any (w := W) (n := s) (s := b))
  rw [decide_eq_true ((fits_iff he).1 hf)] at HF
  have E0 := Lib.hid (Env.new (Env.new (Env.nil w) 26 #[.bool s, .string b]) 26 #[.bool s, .string b])
  clear hf he
  go_enter Try.func20, Try.ntmps20
  go_upto_region 1 with fail
  rw [World.size_alloc] at E0
  generalize ((w.alloc (.cells #[.bool s, .string b] 26)).alloc (.cells #[.bool s, .string b] 26)) = W1 at E0 ⊢
  have c0 := (Env.at_ E0.out 0 rfl).cell 0
  have c1 := (Env.at_ E0.out 0 rfl).cell 1
  simp at c0 c1
  go_wp2_with fail
  refine (HF.out _).mono ?_
  rintro e w2 ⟨rfl, h2⟩
  have E2 := Lib.hid (E0.out.call h2)
  clear c0 c1 h2
  have c0 := (Env.at_ E2.out 0 rfl).cell 0
  have c1 := (Env.at_ E2.out 0 rfl).cell 1
  have d0 := (Env.at_ E2.out 1 rfl).cell 0
  have d1 := (Env.at_ E2.out 1 rfl).cell 1
  simp at c0 c1 d0 d1
  go_wp2_with fail
  refine (HN.out _).mono ?_
  rintro e w3 ⟨rfl, rfl⟩
  go_wp2_with fail
  go_ret
  exact ⟨rfl, E2.out.1⟩
set_option maxRecDepth 100000 in
/-- an answer that is too great -/
theorem is_no {w : World} {z : Int} {s : Bool} {b : ByteArray} (hf : ¬ fits z) (he : enc z = .agg #[.bool s, .string b]) :
    Calls Try.prog 20 #[.agg #[.bool false, .string ⟨#[]⟩], .int .i64 4, .agg #[.bool s, .string b]] w (Calm w (.bool true)) := by
  have HN := Lib.hid (fun W : World => num_any (w := W) (n := 4))
  have HF := Lib.hid (fun W : World => fits_any (w := W) (n := s) (s := b))
  rw [decide_eq_false (fun h => hf ((fits_iff he).2 h))] at HF
  have E0 := Lib.hid (Env.new (Env.new (Env.nil w) 26 #[.bool false, .string ⟨#[]⟩]) 26 #[.bool s, .string b])
  clear hf he
  go_enter Try.func20, Try.ntmps20
  go_upto_region 1 with fail
  rw [World.size_alloc] at E0
  generalize ((w.alloc (.cells #[.bool false, .string ⟨#[]⟩] 26)).alloc (.cells #[.bool s, .string b] 26)) = W1 at E0 ⊢
  have c0 := (Env.at_ E0.out 0 rfl).cell 0
  have c1 := (Env.at_ E0.out 0 rfl).cell 1
  simp at c0 c1
  go_wp2_with fail
  refine (HF.out _).mono ?_
  rintro e w2 ⟨rfl, h2⟩
  have E2 := Lib.hid (E0.out.call h2)
  clear c0 c1 h2
  have d0 := (Env.at_ E2.out 1 rfl).cell 0
  have d1 := (Env.at_ E2.out 1 rfl).cell 1
  simp at d0 d1
  go_wp2_with fail
  refine (HN.out _).mono ?_
  rintro e w3 ⟨rfl, rfl⟩
  go_wp2_with fail
  go_ret
  exact ⟨rfl, E2.out.1⟩
end Go.Proofs.Ytpnginnjbdedbaa

/- The laws' common contracts: what is refused, what is long or bad, the reference's answers. -/
namespace Go.Proofs.Ytpnginnjbdedbaa
open Go.RowKit
open Wh
set_option linter.unusedSimpArgs false

section
variable {w : World} {na nb : Bool} {sa sb : ByteArray} {z : Int} {s : Bool} {b : ByteArray}
/-- refused: nothing, and an error -/
def T2no (w : World) (cd : Int) (e : Ending) (w' : World) : Prop := e = .returned (.tuple #[.agg #[.bool false, .string ⟨#[]⟩], .int .i64 cd]) ∧ Below w.heap.size w w'
theorem add_bad (hm : ¬ May2 (na, sa) (nb, sb)) : Calls Try.prog 27 #[.agg #[.bool na, .string sa], .agg #[.bool nb, .string sb]] w (T2no w 2) := wadd_any.mono fun _ _ h => ⟨h.2.2.1 hm, h.2.2.2⟩
theorem sub_bad (hm : ¬ May2 (na, sa) (nb, sb)) : Calls Try.prog 28 #[.agg #[.bool na, .string sa], .agg #[.bool nb, .string sb]] w (T2no w 2) := wsub_any.mono fun _ _ h => ⟨h.2.2.1 hm, h.2.2.2⟩
theorem mul_bad (hm : ¬ May2 (na, sa) (nb, sb)) : Calls Try.prog 29 #[.agg #[.bool na, .string sa], .agg #[.bool nb, .string sb]] w (T2no w 2) := wmul_any.mono fun _ _ h => ⟨h.2.2.1 hm, h.2.2.2⟩
theorem cmp_bad (hm : ¬ May2 (na, sa) (nb, sb)) : Calls Try.prog 26 #[.agg #[.bool na, .string sa], .agg #[.bool nb, .string sb]] w (Calm w (.tuple #[.int .i64 0, .int .i64 2])) :=
  wcmp_any.mono fun _ _ h => ⟨h.2.1 hm, h.2.2⟩
theorem long_two : Calls Try.prog 12 #[.slice (some ⟨w.heap.size, 0, none⟩) 2 2] (w.alloc (.cells #[.bool na, .string sa, .bool nb, .string sb] 26)) (Calm (w.alloc (.cells #[.bool na, .string sa, .bool nb, .string sb] 26)) (.bool (isLong (na, sa) || isLong (nb, sb)))) := by
  have h := long_any (c := 2) (blk_pair (w := w) (na, sa) (nb, sb)) (by simp) (n := 2) rfl (by omega)
  rw [List.any_cons, List.any_cons, List.any_nil, Bool.or_false] at h
  exact h
theorem bad_two : Calls Try.prog 16 #[.slice (some ⟨w.heap.size, 0, none⟩) 2 2] (w.alloc (.cells #[.bool na, .string sa, .bool nb, .string sb] 26)) (Calm (w.alloc (.cells #[.bool na, .string sa, .bool nb, .string sb] 26)) (.bool (isBad (na, sa) || isBad (nb, sb)))) := by
  have h := bad_any (c := 2) (blk_pair (w := w) (na, sa) (nb, sb)) (by simp) (n := 2) rfl (by omega)
  rw [List.any_cons, List.any_cons, List.any_nil, Bool.or_false] at h
  exact h
theorem long_one : Calls Try.prog 12 #[.slice (some ⟨w.heap.size, 0, none⟩) 1 1] (w.alloc (.cells #[.bool na, .string sa] 26)) (Calm (w.alloc (.cells #[.bool na, .string sa] 26)) (.bool (isLong (na, sa)))) := by
  have h := long_any (c := 1) (blk_one (w := w) (na, sa)) (by simp) (n := 1) rfl (by omega)
  rw [List.any_cons, List.any_nil, Bool.or_false] at h
  exact h
theorem bad_one : Calls Try.prog 16 #[.slice (some ⟨w.heap.size, 0, none⟩) 1 1] (w.alloc (.cells #[.bool na, .string sa] 26)) (Calm (w.alloc (.cells #[.bool na, .string sa] 26)) (.bool (isBad (na, sa)))) := by
  have h := bad_any (c := 1) (blk_one (w := w) (na, sa)) (by simp) (n := 1) rfl (by omega)
  rw [List.any_cons, List.any_nil, Bool.or_false] at h
  exact h
theorem calm_eq {F : FuncId} {args : Array Value} {v v' : Value} (h : Calls Try.prog F args w (Calm w v)) (he : v = v') : Calls Try.prog F args w (Calm w v') := he ▸ h
theorem isBad_no {a : Bool × ByteArray} : isBad a = false ↔ MayL a.1 a.2.data.toList := by unfold isBad; rw [← mayB_iff, Bool.not_eq_false']
theorem isBad_yes {a : Bool × ByteArray} : isBad a = true ↔ ¬ MayL a.1 a.2.data.toList := by rw [← isBad_no, Bool.not_eq_false]
theorem short_of {a : Bool × ByteArray} (hl : isLong a = false) (hm : MayL a.1 a.2.data.toList) : a.2.size ≤ 400 := by
  unfold isLong at hl
  rw [mayB_iff.2 hm, Bool.and_true, decide_eq_false_iff_not] at hl
  omega
end
end Go.Proofs.Ytpnginnjbdedbaa

/- Common contracts of WholeTells. -/
namespace Go.Proofs.Ytpnginnjbdedbaa
open Go.RowKit
open Wh
set_option linter.unusedSimpArgs false

section
variable {w : World} {na : Bool} {sa : ByteArray}
abbrev Ranged (z : Int) : Prop := -9223372036854775808 ≤ z ∧ z ≤ 9223372036854775807
theorem neg_bad (hm : ¬ MayL na sa.data.toList) : Calls Try.prog 37 #[.agg #[.bool na, .string sa]] w (T2no w 2) := wneg_any.mono fun _ _ h => ⟨h.2.2.1 hm, h.2.2.2⟩
theorem abs_bad (hm : ¬ MayL na sa.data.toList) : Calls Try.prog 38 #[.agg #[.bool na, .string sa]] w (T2no w 2) := wabs_any.mono fun _ _ h => ⟨h.2.2.1 hm, h.2.2.2⟩
theorem small_bad (hm : ¬ MayL na sa.data.toList) : Calls Try.prog 39 #[.agg #[.bool na, .string sa]] w (Calm w (.tuple #[.int .i64 0, .bool false])) := small_any.mono fun _ _ h => ⟨h.2.1 hm, h.2.2⟩
theorem small_in (hm : MayL na sa.data.toList) (hr : Ranged (num (na, sa))) : Calls Try.prog 39 #[.agg #[.bool na, .string sa]] w (Calm w (.tuple #[.int .i64 (num (na, sa)), .bool true])) := small_any.mono fun _ _ h => ⟨by rw [h.1 hm, if_pos hr], h.2.2⟩
theorem small_out (hm : MayL na sa.data.toList) (hr : ¬ Ranged (num (na, sa))) : Calls Try.prog 39 #[.agg #[.bool na, .string sa]] w (Calm w (.tuple #[.int .i64 0, .bool false])) := small_any.mono fun _ _ h => ⟨by rw [h.1 hm, if_neg hr], h.2.2⟩
theorem sign_bad (hm : ¬ MayL na sa.data.toList) : Calls Try.prog 44 #[.agg #[.bool na, .string sa]] w (Calm w (.int .i64 0)) := wsign_any.mono fun _ _ h => ⟨h.2.1 hm, h.2.2⟩
theorem bits_bad (hm : ¬ MayL na sa.data.toList) : Calls Try.prog 45 #[.agg #[.bool na, .string sa]] w (Calm w (.int .i64 0)) := bits_any.mono fun _ _ h => ⟨h.2.1 hm, h.2.2⟩
theorem bits_told (hm : MayL na sa.data.toList) : Calls Try.prog 45 #[.agg #[.bool na, .string sa]] w (Calm w (.int .i64 ((bl (num (na, sa)).natAbs : Nat) : Int))) := bits_any.mono fun _ _ h => ⟨h.1 hm, h.2.2⟩
theorem bit_no {i : Int} (hi : i ≤ 9223372036854775807) (h : ¬ (MayL na sa.data.toList ∧ 0 ≤ i)) : Calls Try.prog 40 #[.agg #[.bool na, .string sa], .int .i64 i] w (Calm w (.tuple #[.int .i64 0, .int .i64 2])) := (bit_of hi).mono fun _ _ h' => ⟨h'.2.1 h, h'.2.2⟩
theorem bit_told {i : Nat} (hi : i ≤ 9223372036854775807) (hm : MayL na sa.data.toList) : Calls Try.prog 40 #[.agg #[.bool na, .string sa], .int .i64 (i : Int)] w (Calm w (.tuple #[.int .i64 (((num (na, sa)).natAbs / 2 ^ i % 2 : Nat) : Int), .int .i64 0])) :=
  (bit_of (by omega)).mono fun _ _ h' => ⟨h'.1 ⟨hm, Int.natCast_nonneg _⟩, h'.2.2⟩
theorem num_len (hf : Fmd sa) (h : 8 < sa.size) : ¬ Ranged (num (na, sa)) := by
  have hl : sa.data.toList.length = sa.size := Array.length_toList
  have h1 : 256 ^ 8 ≤ bval sa.data.toList := by
    rcases Nat.lt_or_ge (bval sa.data.toList) (256 ^ 8) with h2 | h2
    · exfalso
      have h3 := bys_len h2
      rw [bys_bval _ _ rfl hf.1] at h3
      omega
    · exact h2
  have h2 : (num (na, sa)).natAbs = bval sa.data.toList := sgn_abs _ _
  rintro ⟨h3, h4⟩
  have h5 : (256 : Nat) ^ 8 = 18446744073709551616 := by decide
  omega
theorem rsmall_in (hf : Fmd sa) (hr : Ranged (num (na, sa))) : Calls Try.prog 46 #[.agg #[.bool na, .string sa]] w (Calm w (.tuple #[.int .i64 (num (na, sa)), .bool true])) := by
  rcases Nat.lt_or_ge 8 sa.size with h | h
  · exact absurd hr (num_len hf h)
  · refine (rSmall_short h hf).mono ?_
    rintro e w' ⟨y, he, hy, hb⟩
    exact ⟨by rw [he, hy hr, decide_eq_true hr], hb⟩
theorem rsmall_out (hf : Fmd sa) (hr : ¬ Ranged (num (na, sa))) : Calls Try.prog 46 #[.agg #[.bool na, .string sa]] w (fun e w' => ∃ y : Int, e = .returned (.tuple #[.int .i64 y, .bool false]) ∧ Below w.heap.size w w') := by
  rcases Nat.lt_or_ge 8 sa.size with h | h
  · exact (rSmall_long h).mono fun e w' ⟨he, hb⟩ => ⟨0, he, hb⟩
  · refine (rSmall_short h hf).mono ?_
    rintro e w' ⟨y, he, hy, hb⟩
    exact ⟨y, by rw [he, show decide (-9223372036854775808 ≤ num (na, sa) ∧ num (na, sa) ≤ 9223372036854775807) = false from decide_eq_false hr], hb⟩
end
end Go.Proofs.Ytpnginnjbdedbaa

/- The reference's Vast, Pow (printed by gen_rpow.py). -/
namespace Go.Proofs.Ytpnginnjbdedbaa
open Go.RowKit
open Wh
set_option linter.unusedSimpArgs false
set_option linter.unusedVariables false

def vast (m n : Nat) : Bool := decide (2 ≤ bl m) && decide (131072 < n * (bl m - 1))
theorem vast_div {K n : Nat} (hk : 2 ≤ K) : decide (131072 < n * (K - 1)) = decide (131072 / (K - 1) < n) := by
  by_cases h : 131072 < n * (K - 1)
  · rw [decide_eq_true h, decide_eq_true]
    have := Nat.div_lt_of_lt_mul (m := 131072) (n := K - 1) (k := n) (by rw [Nat.mul_comm]; exact h)
    omega
  · rw [decide_eq_false h, decide_eq_false]
    have := (Nat.le_div_iff_mul_le (by omega)).2 (Nat.le_of_not_lt h)
    omega
set_option maxRecDepth 100000 in
set_option maxHeartbeats 1000000 in
theorem rvast_any {w : World} {na : Bool} {sa : ByteArray} {n : Nat} (hm : MayL na sa.data.toList) (hn : n ≤ 9223372036854775807) :
    Calls Try.prog 57 #[.agg #[.bool na, .string sa], .int .i64 (n : Int)] w (Calm w (.bool (vast (num (na, sa)).natAbs n))) := by
  have HB0 := fun W : World => rBits_any (w := W) (na := na) (Fmd.of_may hm)
  have hK : bl (num (na, sa)).natAbs ≤ 131072 := fits_num (a := (na, sa)) hm
  unfold vast
  generalize bl (num (na, sa)).natAbs = K at *
  have HB := Lib.hid HB0
  have E0 := Lib.hid (Env.new (Env.nil w) 26 #[.bool na, .string sa])
  clear HB0 hm
  have q1 : IntKind.i64.wrap ((K : Int) - 1) = (K : Int) - 1 := IntWalk.i64_in _ (by omega)
  rcases Nat.lt_or_ge K 2 with h | h
  · have q2 : decide ((K : Int) ≤ 1) = true := decide_eq_true (by omega)
    have q3 : decide (0 < (K : Int) - 1) = false := decide_eq_false (by omega)
    have hv : (decide (2 ≤ K) && decide (131072 < n * (K - 1))) = false := by rw [decide_eq_false (by omega)]; rfl
    have Hv := Lib.hid hv
    generalize (decide (2 ≤ K) && decide (131072 < n * (K - 1))) = v at *
    clear hv
    go_enter Try.func57, Try.ntmps57
    go_wp2_with fail
    refine (HB.out _).mono ?_
    rintro e W1 ⟨rfl, hb1⟩
    have E1 := Lib.hid (Env.call E0.out hb1)
    clear hb1
    go_wp2
    go_ret
    exact ⟨by rw [Hv.out]; rfl, E1.out.1⟩
  · have hv : (decide (2 ≤ K) && decide (131072 < n * (K - 1))) = decide (131072 / (K - 1) < n) := by rw [decide_eq_true h, Bool.true_and, vast_div h]
    rw [hv]
    clear hv
    obtain ⟨J, hJ⟩ : ∃ J, K = J + 1 := ⟨K - 1, by omega⟩
    rw [show K - 1 = J by omega]
    obtain ⟨Q, hQ⟩ : ∃ Q, Q = 131072 / J := ⟨_, rfl⟩
    rw [← hQ]
    have j2 : 1 ≤ J := by omega
    have j4 : ((J : Int) == 0) = false := by simp <;> omega
    have j5 : (131072 : Int) / (J : Int) = (Q : Int) := by rw [hQ]; rfl
    have j9 : wrap64 (Q : Int) = (Q : Int) := by
      have : Q ≤ 131072 := by rw [hQ]; exact Nat.div_le_self _ _
      exact IntWalk.wrap64_in _ (by omega)
    have j6 : (131072 : Int).tdiv (J : Int) = (Q : Int) := by rw [hQ]; rfl
    have j7 : (K : Int) - 1 = (J : Int) := by omega
    have j8 : IntKind.i64.wrap ((K : Int) - 1) = (J : Int) := by rw [j7]; exact IntWalk.i64_in _ (by omega)
    have j10 : decide (0 < (J : Int)) = true := decide_eq_true (by omega)
    clear hQ hJ h q1
    go_enter Try.func57, Try.ntmps57
    go_wp2_with fail
    refine (HB.out _).mono ?_
    rintro e W1 ⟨rfl, hb1⟩
    have E1 := Lib.hid (Env.call E0.out hb1)
    clear hb1
    go_wp2
    go_ret
    exact ⟨rfl, E1.out.1⟩
theorem enc_fmd {z : Int} (h : (bys z.natAbs).length ≤ 100000000) : ∃ s b, enc z = .agg #[.bool s, .string b] ∧ num (s, b) = z ∧ Fmd b := by
  refine ⟨_, _, rfl, ?_, ?_, ?_⟩
  · show sgn _ (bval (bys z.natAbs)) = z
    rw [bval_b, sgn_of]
  · exact formed_b _
  · show (bys z.natAbs).toArray.size ≤ 100000000
    rw [List.size_toArray]; exact h
theorem bys_mono {a b : Nat} (h : a ≤ b) : (bys a).length ≤ (bys b).length := by
  have h1 := bval_lt (bys b)
  rw [bval_b] at h1
  exact bys_len (Nat.lt_of_le_of_lt h h1)
theorem two_div {n j : Nat} : n / 2 ^ j = 2 * (n / 2 ^ (j + 1)) + n / 2 ^ j % 2 := by
  rw [Nat.pow_succ, ← Nat.div_div_eq_div_mul]
  omega
theorem pow_dbl (x : Int) (q : Nat) : x ^ q * x ^ q = x ^ (2 * q) := by rw [← pow_plus]; congr 1; omega
theorem one_mag {n : Bool} : num (n, ⟨#[1]⟩) = if n then -1 else 1 := by cases n <;> rfl
theorem pow_one_ {n : Bool} {k : Nat} : num (n, ⟨#[1]⟩) ^ k = num (n && decide (k % 2 = 1), ⟨#[1]⟩) := by
  induction k with
  | zero => cases n <;> rfl
  | succ k ih =>
    rw [Int.pow_succ, ih]
    rcases Nat.mod_two_eq_zero_or_one k with h | h
    · rw [show decide (k % 2 = 1) = false from decide_eq_false (by omega), show decide ((k + 1) % 2 = 1) = true from decide_eq_true (by omega)]
      cases n <;> rfl
    · rw [show decide (k % 2 = 1) = true from decide_eq_true (by omega), show decide ((k + 1) % 2 = 1) = false from decide_eq_false (by omega)]
      cases n <;> rfl
theorem odd_dec (n : Nat) : ((n : Int) % 2 == 1) = decide (n % 2 = 1) := by
  by_cases h : n % 2 = 1
  · rw [decide_eq_true h]; exact beq_iff_eq.2 (by omega)
  · rw [decide_eq_false h]; exact beq_eq_false_iff_ne.2 (by omega)
theorem not_one {s : ByteArray} (h : s ≠ ⟨#[1]⟩) : ¬ s.toList = [1] := by
  rw [toL]
  intro h1
  exact h (by cases s with | mk d => cases d with | mk l => simp at h1; subst h1; rfl)
theorem may_one {n : Bool} : MayL n (⟨#[1]⟩ : ByteArray).data.toList := ⟨by decide, fun h => by simp at h, fun x h => by simp at h; subst h; decide⟩
def Env3 (w wr : World) (g : Nat) (s : Bool) (b : ByteArray) (na : Bool) (sa : ByteArray) : Prop := Env w wr [(g, 26, #[.bool s, .string b]), (w.heap.size + 1, 26, #[.bool false, .string ⟨#[]⟩]), (w.heap.size, 26, #[.bool na, .string sa])]
set_option maxRecDepth 100000 in
set_option maxHeartbeats 1000000 in
theorem rpow_nought {w : World} {na : Bool} {sa : ByteArray} :
    Calls Try.prog 58 #[.agg #[.bool na, .string sa], .int .i64 0] w (Calm w (enc (num (na, sa) ^ 0))) := by
  rw [Int.pow_zero]
  have HO := Lib.hid (fun W : World => calm_eq (rOf_any (w := W) (n := 1) (by decide) (by decide)) enc_one)
  rw [enc_one]
  have E0 := Lib.hid (Env.new (Env.new (Env.nil w) 26 #[.bool na, .string sa]) 26 #[.bool false, .string ⟨#[]⟩])
  go_enter Try.func58, Try.ntmps58
  go_wp2_with fail
  refine (HO.out _).mono ?_
  rintro e W1 ⟨rfl, hb1⟩
  have E1' := Env.call E0.out hb1
  (try simp only [World.size_alloc] at E1')
  have E1 := Lib.hid E1'
  have n2 := Env.at_ E1' 0 rfl
  have y0 := n2.cell 0
  have y1 := n2.cell 1
  have y2 := n2.frozen 0
  have y3 := n2.frozen 1
  simp at y0 y1
  clear E1' hb1 E0 n2
  go_wp2_with fail
  refine bodyPost_ret (v := .agg #[.bool false, .string ⟨#[1]⟩]) (by simp [results, Try.results58, go_sem, y0, y1]) rfl ?_
  exact ⟨rfl, (E1.out.1.setCell (by show w.heap.size ≤ w.heap.size + 1; omega) _).setCell (by show w.heap.size ≤ w.heap.size + 1; omega) _⟩
set_option maxRecDepth 100000 in
set_option maxHeartbeats 1000000 in
theorem rpow_zero {w : World} {n : Nat} (hn : n ≤ 9223372036854775807) (h0 : 0 < n) :
    Calls Try.prog 58 #[.agg #[.bool false, .string ⟨#[]⟩], .int .i64 (n : Int)] w (Calm w (enc (num (false, ⟨#[]⟩) ^ n))) := by
  rw [num_zero, Int.zero_pow (by omega), enc_zero]
  have E0 := Lib.hid (Env.new (Env.new (Env.nil w) 26 #[.bool false, .string ⟨#[]⟩]) 26 #[.bool false, .string ⟨#[]⟩])
  have hne : ((n : Int) == 0) = false := by simp; omega
  go_enter Try.func58, Try.ntmps58
  go_wp2_with fail
  refine bodyPost_ret (v := .agg #[.bool false, .string ⟨#[]⟩]) (by simp [results, Try.results58, go_sem]) rfl ?_
  exact ⟨rfl, E0.out.1⟩
set_option maxRecDepth 100000 in
set_option maxHeartbeats 1000000 in
theorem rpow_one {w : World} {na : Bool} {n : Nat} (hn : n ≤ 9223372036854775807) (h0 : 0 < n) :
    Calls Try.prog 58 #[.agg #[.bool na, .string ⟨#[1]⟩], .int .i64 (n : Int)] w (Calm w (enc (num (na, ⟨#[1]⟩) ^ n))) := by
  rw [pow_one_, may_num may_one]
  have E0 := Lib.hid (Env.new (Env.new (Env.nil w) 26 #[.bool na, .string ⟨#[1]⟩]) 26 #[.bool false, .string ⟨#[]⟩])
  have hne : ((n : Int) == 0) = false := by simp; omega
  cases na
  all_goals go_enter Try.func58, Try.ntmps58
  all_goals go_wp2_with fail
  · refine bodyPost_ret (v := .agg #[.bool false, .string ⟨#[1]⟩]) (by simp [results, Try.results58, go_sem]) rfl ?_
    exact ⟨rfl, ((Below.refl _ _).alloc (Nat.le_refl _) _).alloc (by simp) _⟩
  · refine bodyPost_ret (v := .agg #[.bool ((n : Int) % 2 == 1), .string ⟨#[1]⟩]) (by simp [results, Try.results58, go_sem]) rfl ?_
    refine ⟨?_, ((Below.refl _ _).alloc (Nat.le_refl _) _).alloc (by simp) _⟩
    rw [Bool.true_and, show ((n : Int) % 2 == 1) = decide (n % 2 = 1) from odd_dec n]
theorem Env.put {w0 W : World} {l : List (Nat × TypeId × Array Value)} {g : Nat} {t : TypeId} {a b : Value} (h : Env w0 W ((g, t, #[a, b]) :: l)) (u v : Value) (hg : w0.heap.size ≤ g) (hne : ∀ x ∈ l, x.1 ≠ g) : Env w0 ((W.setCell ⟨g, 0, none⟩ u).setCell ⟨g, 1, none⟩ v) ((g, t, #[u, v]) :: l) := by
  refine ⟨(h.1.setCell hg _).setCell hg _, fun x hx => ?_⟩
  rcases List.mem_cons.1 hx with rfl | hx
  · exact ((h.2 _ List.mem_cons_self).set_ 0 u).set_ 1 v
  · exact ((h.2 x (List.mem_cons_of_mem _ hx)).far (p := ⟨g, 0, none⟩) (hne x hx) u).far (p := ⟨g, 1, none⟩) (hne x hx) v
theorem and_bit {n j P : Nat} (hn : n < 2097152) (hj : j < 21) (hP : P = 2 ^ j) : bits .and .i64 (n : Int) (P : Int) = (((n / 2 ^ j % 2) * P : Nat) : Int) := by
  subst hP
  have hp : (2 : Nat) ^ j ≤ 2 ^ 20 := Nat.pow_le_pow_right (by decide) (by omega)
  have h1 : n &&& 2 ^ j = n / 2 ^ j % 2 * 2 ^ j := by
    apply Nat.eq_of_testBit_eq
    intro i
    rw [Nat.testBit_and, Nat.testBit_two_pow]
    by_cases hij : j = i
    · subst hij
      rw [decide_eq_true rfl, Bool.and_true, Nat.testBit_eq_decide_div_mod_eq]
      rcases Nat.mod_two_eq_zero_or_one (n / 2 ^ j) with h | h <;> rw [h]
      · rw [Nat.zero_mul, Nat.zero_testBit]; rfl
      · rw [Nat.one_mul, Nat.testBit_two_pow_self]; rfl
    · rw [decide_eq_false hij, Bool.and_false]
      rcases Nat.mod_two_eq_zero_or_one (n / 2 ^ j) with h | h <;> rw [h]
      · rw [Nat.zero_mul, Nat.zero_testBit]
      · rw [Nat.one_mul, Nat.testBit_two_pow, decide_eq_false hij]
  have h2 : n / 2 ^ j % 2 * 2 ^ j ≤ 1 * 2 ^ j := Nat.mul_le_mul_right _ (by omega)
  rw [Nat.one_mul] at h2
  rw [← h1] at h2 ⊢
  show IntKind.i64.wrap ((BitVec.ofInt 64 (n : Int) &&& BitVec.ofInt 64 ((2 ^ j : Nat) : Int)).toNat : Int) = _
  rw [BitVec.toNat_and, ofInt_u64 n (by omega), ofInt_u64 (2 ^ j) (by omega)]
  exact IntWalk.i64_in _ (by omega)
theorem pow_part {x : Int} {n q : Nat} (hx : x ≠ 0) (hq : q ≤ n) (hb : (bys (x.natAbs ^ n)).length ≤ 100000000) : (bys (x ^ q).natAbs).length ≤ 100000000 := by
  rw [Int.natAbs_pow]
  exact Nat.le_trans (bys_mono (Nat.pow_le_pow_right (by omega) hq)) hb
set_option maxRecDepth 100000 in
set_option maxHeartbeats 1000000 in
theorem rpow_main {w : World} {na : Bool} {sa : ByteArray} {n : Nat} (hm : MayL na sa.data.toList) (hn : n < 2097152) (h0 : 0 < n) (hs0 : 0 < sa.size) (hs1 : sa ≠ ⟨#[1]⟩) (hb : (bys ((num (na, sa)).natAbs ^ n)).length ≤ 100000000) :
    Calls Try.prog 58 #[.agg #[.bool na, .string sa], .int .i64 (n : Int)] w (Calm w (enc (num (na, sa) ^ n))) := by
  have hne : ((n : Int) == 0) = false := by simp; omega
  obtain ⟨q1, q2⟩ := str_facts hs0
  have HO := Lib.hid (fun W : World => calm_eq (rOf_any (w := W) (n := 1) (by decide) (by decide)) enc_one)
  have E0 := Lib.hid (Env.new (Env.new (Env.nil w) 26 #[.bool na, .string sa]) 26 #[.bool false, .string ⟨#[]⟩])
  have q3 := not_one hs1
  have q4 : (sa.toList == [1]) = false := by rw [beq_eq_false_iff_ne]; exact q3
  have hx : num (na, sa) ≠ 0 := fun h => by have := (num_nil (b := (na, sa)) hm).1 h; dsimp only at this; omega
  clear hs0
  go_enter Try.func58, Try.ntmps58
  go_wp2_with fail
  refine (HO.out _).mono ?_
  rintro e W1 ⟨rfl, hb1⟩
  have E1' := Env.call E0.out hb1
  (try simp only [World.size_alloc] at E1')
  have hg : w.heap.size + 1 + 1 ≤ W1.heap.size := by have := hb1.size; simp at this; omega
  have E1 := Lib.hid (Env.new E1' 26 #[.bool false, .string ⟨#[1]⟩])
  have Hx := Lib.hid hx
  clear E1' hb1 E0 HO
  go_wp2_with fail
  obtain ⟨g, hgg⟩ : ∃ g, g = W1.heap.size := ⟨_, rfl⟩
  rw [← hgg] at hg E1 ⊢
  have hne1 : ∀ x ∈ [(w.heap.size + 1, (26 : TypeId), #[Value.bool false, .string ⟨#[]⟩]), (w.heap.size, 26, #[.bool na, .string sa])], x.1 ≠ g := by
    intro x hx
    rcases List.mem_cons.1 hx with rfl | hx
    · show w.heap.size + 1 ≠ g; omega
    · rcases List.mem_cons.1 hx with rfl | hx
      · show w.heap.size ≠ g; omega
      · cases hx
  have Hne := Lib.hid hne1
  clear hgg hne1
  go_loopg [6] 21 (fun k bv wr => ∃ (k0 : Nat) (s : Bool) (b : ByteArray) (P : Nat), Hid (k = k0) ∧ Hid (k0 ≤ 21) ∧ bv = .int .i64 (P : Int) ∧ P ≤ 1048576 ∧ Hid (P = if k0 = 0 then 0 else 2 ^ (k0 - 1)) ∧ Hid (Env3 w wr g s b na sa) ∧ Hid (enc (num (na, sa) ^ (n / 2 ^ k0)) = .agg #[.bool s, .string b] ∧ num (s, b) = num (na, sa) ^ (n / 2 ^ k0) ∧ Fmd b))
  case atStart =>
    refine ⟨21, false, ⟨#[1]⟩, 1048576, Lib.hid rfl, Lib.hid (by omega), rfl, by omega, Lib.hid (by decide), E1, Lib.hid ?_⟩
    rw [Nat.div_eq_of_lt (by omega), Int.pow_zero]
    exact ⟨enc_one, rfl, Fmd.of_may (n := false) may_one⟩
  case round =>
    obtain ⟨k0, s, b, P, Hk, Hk0, rfl, hP, HP, HE, HF⟩ := hrel
    have hE : Env w wr [(g, 26, #[.bool s, .string b]), (w.heap.size + 1, 26, #[.bool false, .string ⟨#[]⟩]), (w.heap.size, 26, #[.bool na, .string sa])] := HE.out
    have m5 := Env.at_ hE 0 rfl
    have c0 := m5.cell 0
    have c1 := m5.cell 1
    simp at c0 c1
    rcases Nat.eq_zero_or_pos k0 with h | h
    case inl =>
      subst h
      have hP0 := HP.out
      rw [if_pos rfl] at hP0
      subst hP0
      have m4 := Env.at_ hE 1 rfl
      have d0 := m4.cell 0
      have d1 := m4.cell 1
      have d2 := m4.frozen 0
      have d3 := m4.frozen 1
      simp at d0 d1
      clear m4 m5 hE
      go_wp2_with fail
      refine bodyPost_ret (v := .agg #[.bool s, .string b]) (by simp [results, Try.results58, go_sem, d0, d1]) rfl ?_
      have h1 := HF.out.1
      rw [Nat.pow_zero, Nat.div_one] at h1
      exact ⟨by rw [h1], (HE.out.1.setCell (by show w.heap.size ≤ w.heap.size + 1; omega) _).setCell (by show w.heap.size ≤ w.heap.size + 1; omega) _⟩
    case inr =>
      obtain ⟨j, rfl⟩ : ∃ j, k0 = j + 1 := ⟨k0 - 1, by omega⟩
      clear h
      have hP0 := HP.out
      rw [if_neg (by omega), show j + 1 - 1 = j by omega] at hP0
      have hj : j < 21 := by have := Hk0.out; omega
      have hp : 0 < P := by rw [hP0]; exact Nat.two_pow_pos _
      have hdiv : n / 2 ^ j = 2 * (n / 2 ^ (j + 1)) + n / 2 ^ j % 2 := two_div
      have hle : n / 2 ^ j ≤ n := Nat.div_le_self _ _
      have hand := and_bit (n := n) hn hj hP0
      have hT := fun W : World => rtimes_any (w := W) (na := s) (nb := s) HF.out.2.2 HF.out.2.2
      rw [HF.out.2.1, pow_dbl] at hT
      obtain ⟨q, hq⟩ : ∃ q, q = n / 2 ^ (j + 1) := ⟨_, rfl⟩
      rw [← hq] at hT hdiv
      obtain ⟨s2, b2, e2, n2, f2⟩ := enc_fmd (z := num (na, sa) ^ (2 * q)) (pow_part Hx.out (n := n) (by omega) hb)
      rw [e2] at hT
      have HT := Lib.hid hT
      have hT2 := fun W : World => rtimes_any (w := W) (na := s2) (nb := na) f2 (Fmd.of_may hm)
      rw [n2, ← Int.pow_succ] at hT2
      have m2 := Env.at_ hE 2 rfl
      have HJ := Lib.hid (And.intro hP0 hj)
      clear hT hE m5 HF hP0
      go_wp2_with fail
      refine (HT.out _).mono ?_
      rintro e W2 ⟨rfl, hb2⟩
      have E2 := Env.call HE.out hb2
      have m5 := Env.at_ E2 0 rfl
      have x0 := m5.cell 0
      have x1 := m5.cell 1
      have x2 := m5.frozen 0
      have x3 := m5.frozen 1
      simp at x0 x1
      have E3 := Env.put E2 (.bool s2) (.string b2) (by omega) Hne.out
      clear E2 m5 hb2 c0 c1 m2 HT
      go_upto_region 12 with fail
      have HE3 := Lib.hid E3
      generalize ((W2.setCell ⟨g, 0, none⟩ (.bool s2)).setCell ⟨g, 1, none⟩ (.string b2)) = W3 at HE3 ⊢
      clear x0 x1 x2 x3 E3
      have hEn : n / 2 ^ j % 2 = 0 ∨ n / 2 ^ j % 2 = 1 := Nat.mod_two_eq_zero_or_one _
      have HPd := Lib.hid (show (P : Int) / 2 = ((P / 2 : Nat) : Int) by omega)
      have hPn : P / 2 = if j = 0 then 0 else 2 ^ (j - 1) := by
        rw [HJ.out.1]
        rcases Nat.eq_zero_or_pos j with h0 | h0
        · subst h0; rfl
        · obtain ⟨i, rfl⟩ : ∃ i, j = i + 1 := ⟨j - 1, by omega⟩
          rw [if_neg (by omega), Nat.pow_succ, Nat.mul_div_cancel _ (by decide)]
          rfl
      have HPn := Lib.hid hPn
      clear hPn
      rcases hEn with h0 | h0
      · rw [h0, Nat.zero_mul] at hand
        have hjq : n / 2 ^ j = 2 * q := by omega
        have Hjq := Lib.hid hjq
        have Hf2 := Lib.hid (And.intro e2 (And.intro n2 f2))
        clear hjq e2 n2 f2 hT2 hdiv h0 hle hq hb
        go_wp2_with fail
        go_roundg j
        case measure => have := Hk.out; omega
        case rel => exact ⟨j, s2, b2, P / 2, Lib.hid rfl, Lib.hid (by omega), by rw [← HPd.out], by omega, HPn, HE3, Lib.hid (by rw [Hjq.out]; exact Hf2.out)⟩
      · rw [h0, Nat.one_mul] at hand
        have hjq : n / 2 ^ j = 2 * q + 1 := by omega
        have Hjq := Lib.hid hjq
        obtain ⟨s3, b3, e3, n3, f3⟩ := enc_fmd (z := num (na, sa) ^ (2 * q + 1)) (pow_part Hx.out (n := n) (by omega) hb)
        rw [e3] at hT2
        have Hf3 := Lib.hid (And.intro e3 (And.intro n3 f3))
        have HT2 := Lib.hid hT2
        have m5 := Env.at_ HE3.out 0 rfl
        have m2 := Env.at_ HE3.out 2 rfl
        have x0 := m5.cell 0
        have x1 := m5.cell 1
        have y0 := m2.cell 0
        have y1 := m2.cell 1
        simp at x0 x1 y0 y1
        have hpb : ((P : Int) == 0) = false := by simp; omega
        clear hjq e2 n2 f2 e3 n3 f3 hT2 hdiv h0 hle hq hb m5 m2
        go_wp2_with fail
        refine (HT2.out _).mono ?_
        rintro e W4 ⟨rfl, hb4⟩
        have E4 := Env.call HE3.out hb4
        have m5 := Env.at_ E4 0 rfl
        have z0 := m5.cell 0
        have z1 := m5.cell 1
        have z2 := m5.frozen 0
        have z3 := m5.frozen 1
        simp at z0 z1
        have E5 := Lib.hid (Env.put E4 (.bool s3) (.string b3) (by omega) Hne.out)
        clear E4 m5 hb4 x0 x1 y0 y1 HT2
        go_wp2_with fail
        go_roundg j
        case measure => have := Hk.out; omega
        case rel => exact ⟨j, s3, b3, P / 2, Lib.hid rfl, Lib.hid (by omega), by rw [← HPd.out], by omega, HPn, E5, Lib.hid (by rw [Hjq.out]; exact Hf3.out)⟩
theorem rpow_any {w : World} {na : Bool} {sa : ByteArray} {n : Nat} (hm : MayL na sa.data.toList) (hn : n ≤ 9223372036854775807) (hc : (num (na, sa)).natAbs ≤ 1 ∨ (n < 2097152 ∧ (bys ((num (na, sa)).natAbs ^ n)).length ≤ 100000000)) :
    Calls Try.prog 58 #[.agg #[.bool na, .string sa], .int .i64 (n : Int)] w (Calm w (enc (num (na, sa) ^ n))) := by
  rcases Nat.eq_zero_or_pos n with h | h
  · subst h; exact rpow_nought
  · rcases Nat.eq_zero_or_pos sa.size with h1 | h1
    · obtain ⟨rfl, rfl⟩ := may_none hm h1
      exact rpow_zero hn h
    · by_cases h2 : sa = ⟨#[1]⟩
      · subst h2; exact rpow_one hn h
      · rcases hc with hc | hc
        · exfalso
          have hl : sa.data.toList.length = sa.size := Array.length_toList
          have h3 : 0 < bval sa.data.toList := bval_pos hm.2.2 (by intro h; rw [h] at hl; simp at hl; omega)
          have h4 : (num (na, sa)).natAbs = bval sa.data.toList := sgn_abs _ _
          have h5 : bval sa.data.toList = 1 := by omega
          have h6 := bys_bval _ _ rfl hm.2.2
          rw [h5, bys_pos (by decide), show 1 / 256 = 0 from rfl, bys_zero] at h6
          exact not_one h2 (by rw [toL, ← h6]; rfl)
        · exact rpow_main hm hc.1 h h1 h2 hc.2
end Go.Proofs.Ytpnginnjbdedbaa

/- whole.Square (printed by gen_square.py). -/
namespace Go.Proofs.Ytpnginnjbdedbaa
open Go.RowKit
open Wh
set_option linter.unusedSimpArgs false

/-- what the root answered -/
def RT (W : World) (s1 : Bool) (b1 : ByteArray) (s2 : Bool) (b2 : ByteArray) (c : Int) (e : Ending) (w' : World) : Prop :=
  e = .returned (.tuple #[.agg #[.bool s1, .string b1], .agg #[.bool s2, .string b2], .int .i64 c]) ∧ Below W.heap.size W w'
set_option maxRecDepth 100000 in
set_option maxHeartbeats 1000000 in
theorem wsq_err2 {w : World} {na : Bool} {sa : ByteArray} {s1 s2 : Bool} {b1 b2 : ByteArray} {c : Int} (h : Calls Try.prog 53 #[.agg #[.bool na, .string sa]] ((w.alloc (.cells #[.bool na, .string sa] 26)).alloc (.cells #[.bool false, .string ⟨#[]⟩] 26)) (RT ((w.alloc (.cells #[.bool na, .string sa] 26)).alloc (.cells #[.bool false, .string ⟨#[]⟩] 26)) s1 b1 s2 b2 c)) (hc : c = 2) (hs : s2 = false) (hl : b2 = ⟨#[]⟩) :
    Calls Try.prog 54 #[.agg #[.bool na, .string sa]] w (fun e w' => e = .returned (.tuple #[.agg #[.bool false, .string ⟨#[]⟩], .bool false]) ∧ Below w.heap.size w w') := by
  have hb1 := new_below w (.cells #[.bool na, .string sa] 26)
  have hb2 := hb1.alloc (by simp) (.cells #[.bool false, .string ⟨#[]⟩] 26)
  have k2 := Blk.new (w.alloc (.cells #[.bool na, .string sa] 26)) 26 #[.bool false, .string ⟨#[]⟩]
  rw [World.size_alloc] at k2
  have HO := Lib.hid h
  have Hb := Lib.hid (And.intro hb2 k2)
  subst hc hs hl
  clear h hb1 hb2 k2
  go_enter Try.func54, Try.ntmps54
  go_wp2_with fail
  refine HO.out.mono ?_
  rintro e w5 ⟨rfl, hb5⟩
  have hb05 := Hb.out.1.trans (hb5.mono (by simp <;> omega))
  have m2 := Hb.out.2.below hb5 (by simp)
  have m3 := (m2.alloc (.cells #[.bool s1, .string b1] 26)).alloc (.cells #[.bool false, .string ⟨#[]⟩] 26)
  have d0 := m2.cell 0
  have d1 := m2.cell 1
  have d2 := m3.frozen 0
  have d3 := m3.frozen 1
  have f0 : ((w5.alloc (.cells #[.bool s1, .string b1] 26)).alloc (.cells #[.bool false, .string ⟨#[]⟩] 26)).cell? ⟨w.heap.size + 1, 0, none⟩ = some (.bool false) := m3.cell 0
  have f1 : ((w5.alloc (.cells #[.bool s1, .string b1] 26)).alloc (.cells #[.bool false, .string ⟨#[]⟩] 26)).cell? ⟨w.heap.size + 1, 1, none⟩ = some (.string ⟨#[]⟩) := m3.cell 1
  have hsz : w.heap.size + 1 + 1 ≤ w5.heap.size := by have := hb5.size; simp at this; omega
  have H5 := Lib.hid hb05
  clear hb5 hb05 m2 m3 d0 d1
  go_wp2
  refine bodyPost_ret (v := .tuple #[.agg #[.bool false, .string ⟨#[]⟩], .bool false]) (by simp [results, Try.results54, go_sem, f0, f1]) rfl ?_
  exact ⟨rfl, ((((H5.out.alloc (by omega) _).alloc (by simp <;> omega) _).setCell (by show w.heap.size ≤ w.heap.size + 1; omega) _).setCell (by show w.heap.size ≤ w.heap.size + 1; omega) _)⟩
set_option maxRecDepth 100000 in
set_option maxHeartbeats 1000000 in
theorem wsq_err7 {w : World} {na : Bool} {sa : ByteArray} {s1 s2 : Bool} {b1 b2 : ByteArray} {c : Int} (h : Calls Try.prog 53 #[.agg #[.bool na, .string sa]] ((w.alloc (.cells #[.bool na, .string sa] 26)).alloc (.cells #[.bool false, .string ⟨#[]⟩] 26)) (RT ((w.alloc (.cells #[.bool na, .string sa] 26)).alloc (.cells #[.bool false, .string ⟨#[]⟩] 26)) s1 b1 s2 b2 c)) (hc : c = 7) (hs : s2 = false) (hl : b2 = ⟨#[]⟩) :
    Calls Try.prog 54 #[.agg #[.bool na, .string sa]] w (fun e w' => e = .returned (.tuple #[.agg #[.bool false, .string ⟨#[]⟩], .bool false]) ∧ Below w.heap.size w w') := by
  have hb1 := new_below w (.cells #[.bool na, .string sa] 26)
  have hb2 := hb1.alloc (by simp) (.cells #[.bool false, .string ⟨#[]⟩] 26)
  have k2 := Blk.new (w.alloc (.cells #[.bool na, .string sa] 26)) 26 #[.bool false, .string ⟨#[]⟩]
  rw [World.size_alloc] at k2
  have HO := Lib.hid h
  have Hb := Lib.hid (And.intro hb2 k2)
  subst hc hs hl
  clear h hb1 hb2 k2
  go_enter Try.func54, Try.ntmps54
  go_wp2_with fail
  refine HO.out.mono ?_
  rintro e w5 ⟨rfl, hb5⟩
  have hb05 := Hb.out.1.trans (hb5.mono (by simp <;> omega))
  have m2 := Hb.out.2.below hb5 (by simp)
  have m3 := (m2.alloc (.cells #[.bool s1, .string b1] 26)).alloc (.cells #[.bool false, .string ⟨#[]⟩] 26)
  have d0 := m2.cell 0
  have d1 := m2.cell 1
  have d2 := m3.frozen 0
  have d3 := m3.frozen 1
  have f0 : ((w5.alloc (.cells #[.bool s1, .string b1] 26)).alloc (.cells #[.bool false, .string ⟨#[]⟩] 26)).cell? ⟨w.heap.size + 1, 0, none⟩ = some (.bool false) := m3.cell 0
  have f1 : ((w5.alloc (.cells #[.bool s1, .string b1] 26)).alloc (.cells #[.bool false, .string ⟨#[]⟩] 26)).cell? ⟨w.heap.size + 1, 1, none⟩ = some (.string ⟨#[]⟩) := m3.cell 1
  have hsz : w.heap.size + 1 + 1 ≤ w5.heap.size := by have := hb5.size; simp at this; omega
  have H5 := Lib.hid hb05
  clear hb5 hb05 m2 m3 d0 d1
  go_wp2
  refine bodyPost_ret (v := .tuple #[.agg #[.bool false, .string ⟨#[]⟩], .bool false]) (by simp [results, Try.results54, go_sem, f0, f1]) rfl ?_
  exact ⟨rfl, ((((H5.out.alloc (by omega) _).alloc (by simp <;> omega) _).setCell (by show w.heap.size ≤ w.heap.size + 1; omega) _).setCell (by show w.heap.size ≤ w.heap.size + 1; omega) _)⟩
set_option maxRecDepth 100000 in
set_option maxHeartbeats 1000000 in
theorem wsq_rest {w : World} {na : Bool} {sa : ByteArray} {s1 s2 : Bool} {b1 b2 : ByteArray} {c : Int} (h : Calls Try.prog 53 #[.agg #[.bool na, .string sa]] ((w.alloc (.cells #[.bool na, .string sa] 26)).alloc (.cells #[.bool false, .string ⟨#[]⟩] 26)) (RT ((w.alloc (.cells #[.bool na, .string sa] 26)).alloc (.cells #[.bool false, .string ⟨#[]⟩] 26)) s1 b1 s2 b2 c)) (hc : c = 0) (hs : s2 = false) (hl : 0 < b2.size) :
    Calls Try.prog 54 #[.agg #[.bool na, .string sa]] w (fun e w' => e = .returned (.tuple #[.agg #[.bool false, .string ⟨#[]⟩], .bool false]) ∧ Below w.heap.size w w') := by
  have hb1 := new_below w (.cells #[.bool na, .string sa] 26)
  have hb2 := hb1.alloc (by simp) (.cells #[.bool false, .string ⟨#[]⟩] 26)
  have k2 := Blk.new (w.alloc (.cells #[.bool na, .string sa] 26)) 26 #[.bool false, .string ⟨#[]⟩]
  rw [World.size_alloc] at k2
  have HO := Lib.hid h
  have Hb := Lib.hid (And.intro hb2 k2)
  subst hc hs
  obtain ⟨q1, q2⟩ := str_facts hl
  clear hl
  clear h hb1 hb2 k2
  go_enter Try.func54, Try.ntmps54
  go_wp2_with fail
  refine HO.out.mono ?_
  rintro e w5 ⟨rfl, hb5⟩
  have hb05 := Hb.out.1.trans (hb5.mono (by simp <;> omega))
  have m2 := Hb.out.2.below hb5 (by simp)
  have m3 := (m2.alloc (.cells #[.bool s1, .string b1] 26)).alloc (.cells #[.bool false, .string b2] 26)
  have d0 := m2.cell 0
  have d1 := m2.cell 1
  have d2 := m3.frozen 0
  have d3 := m3.frozen 1
  have f0 : ((w5.alloc (.cells #[.bool s1, .string b1] 26)).alloc (.cells #[.bool false, .string b2] 26)).cell? ⟨w.heap.size + 1, 0, none⟩ = some (.bool false) := m3.cell 0
  have f1 : ((w5.alloc (.cells #[.bool s1, .string b1] 26)).alloc (.cells #[.bool false, .string b2] 26)).cell? ⟨w.heap.size + 1, 1, none⟩ = some (.string ⟨#[]⟩) := m3.cell 1
  have hsz : w.heap.size + 1 + 1 ≤ w5.heap.size := by have := hb5.size; simp at this; omega
  have H5 := Lib.hid hb05
  clear hb5 hb05 m2 m3 d0 d1
  go_wp2
  refine bodyPost_ret (v := .tuple #[.agg #[.bool false, .string ⟨#[]⟩], .bool false]) (by simp [results, Try.results54, go_sem, f0, f1]) rfl ?_
  exact ⟨rfl, ((((H5.out.alloc (by omega) _).alloc (by simp <;> omega) _).setCell (by show w.heap.size ≤ w.heap.size + 1; omega) _).setCell (by show w.heap.size ≤ w.heap.size + 1; omega) _)⟩
set_option maxRecDepth 100000 in
set_option maxHeartbeats 1000000 in
theorem wsq_yes {w : World} {na : Bool} {sa : ByteArray} {s1 s2 : Bool} {b1 b2 : ByteArray} {c : Int} (h : Calls Try.prog 53 #[.agg #[.bool na, .string sa]] ((w.alloc (.cells #[.bool na, .string sa] 26)).alloc (.cells #[.bool false, .string ⟨#[]⟩] 26)) (RT ((w.alloc (.cells #[.bool na, .string sa] 26)).alloc (.cells #[.bool false, .string ⟨#[]⟩] 26)) s1 b1 s2 b2 c)) (hc : c = 0) (hs : s2 = false) (hl : b2 = ⟨#[]⟩) :
    Calls Try.prog 54 #[.agg #[.bool na, .string sa]] w (fun e w' => e = .returned (.tuple #[.agg #[.bool s1, .string b1], .bool true]) ∧ Below w.heap.size w w') := by
  have hb1 := new_below w (.cells #[.bool na, .string sa] 26)
  have hb2 := hb1.alloc (by simp) (.cells #[.bool false, .string ⟨#[]⟩] 26)
  have k2 := Blk.new (w.alloc (.cells #[.bool na, .string sa] 26)) 26 #[.bool false, .string ⟨#[]⟩]
  rw [World.size_alloc] at k2
  have HO := Lib.hid h
  have Hb := Lib.hid (And.intro hb2 k2)
  subst hc hs hl
  clear h hb1 hb2 k2
  go_enter Try.func54, Try.ntmps54
  go_wp2_with fail
  refine HO.out.mono ?_
  rintro e w5 ⟨rfl, hb5⟩
  have hb05 := Hb.out.1.trans (hb5.mono (by simp <;> omega))
  have m2 := Hb.out.2.below hb5 (by simp)
  have m3 := (m2.alloc (.cells #[.bool s1, .string b1] 26)).alloc (.cells #[.bool false, .string ⟨#[]⟩] 26)
  have d0 := m2.cell 0
  have d1 := m2.cell 1
  have d2 := m3.frozen 0
  have d3 := m3.frozen 1
  have f0 : ((w5.alloc (.cells #[.bool s1, .string b1] 26)).alloc (.cells #[.bool false, .string ⟨#[]⟩] 26)).cell? ⟨w.heap.size + 1, 0, none⟩ = some (.bool false) := m3.cell 0
  have f1 : ((w5.alloc (.cells #[.bool s1, .string b1] 26)).alloc (.cells #[.bool false, .string ⟨#[]⟩] 26)).cell? ⟨w.heap.size + 1, 1, none⟩ = some (.string ⟨#[]⟩) := m3.cell 1
  have hsz : w.heap.size + 1 + 1 ≤ w5.heap.size := by have := hb5.size; simp at this; omega
  have H5 := Lib.hid hb05
  clear hb5 hb05 m2 m3 d0 d1
  go_wp2
  refine bodyPost_ret (v := .tuple #[.agg #[.bool s1, .string b1], .bool true]) (by simp [results, Try.results54, go_sem, f0, f1]) rfl ?_
  exact ⟨rfl, ((((H5.out.alloc (by omega) _).alloc (by simp <;> omega) _).setCell (by show w.heap.size ≤ w.heap.size + 1; omega) _).setCell (by show w.heap.size ≤ w.heap.size + 1; omega) _)⟩
/-- a square's root -/
def Squared (w : World) (a : Bool × ByteArray) (e : Ending) (w' : World) : Prop :=
  (¬ MayL a.1 a.2.data.toList → e = .returned (.tuple #[none_, .bool false])) ∧ (MayL a.1 a.2.data.toList → a.1 = true → e = .returned (.tuple #[none_, .bool false])) ∧
  (MayL a.1 a.2.data.toList → a.1 = false → ∃ r : Nat, r * r ≤ bval a.2.data.toList ∧ bval a.2.data.toList < (r + 1) * (r + 1) ∧ (r * r = bval a.2.data.toList → e = .returned (.tuple #[enc (r : Int), .bool true])) ∧ (r * r ≠ bval a.2.data.toList → e = .returned (.tuple #[none_, .bool false]))) ∧ Below w.heap.size w w'
theorem enc_pos_len {x : Nat} (h : 0 < x) : 0 < (⟨(bys x).toArray⟩ : ByteArray).size := by
  show 0 < (bys x).toArray.size
  rw [List.size_toArray]
  rcases Nat.eq_zero_or_pos (bys x).length with h0 | h0
  · have h1 : bys x = [] := List.eq_nil_of_length_eq_zero h0
    have h2 := bval_bys x x (Nat.le_refl _)
    rw [h1] at h2
    have h3 : bval [] = 0 := rfl
    omega
  · exact h0
theorem wsq_any {w : World} {na : Bool} {sa : ByteArray} : Calls Try.prog 54 #[.agg #[.bool na, .string sa]] w (Squared w (na, sa)) := by
  have hR := wroot_any (w := (w.alloc (.cells #[.bool na, .string sa] 26)).alloc (.cells #[.bool false, .string ⟨#[]⟩] 26)) (na := na) (sa := sa)
  by_cases hm : MayL na sa.data.toList
  · cases na with
    | true => exact (wsq_err7 (hR.mono fun e w' h => ⟨h.2.1 hm rfl, h.2.2.2⟩) rfl rfl rfl).mono fun e w' h => ⟨fun h' => absurd hm h', fun _ _ => h.1, fun _ h' => absurd (show true = false from h') (by decide), h.2⟩
    | false =>
      obtain ⟨r, hr1, hr2⟩ := root_ex (bval sa.data.toList)
      have hR2 : ∀ {s1 s2 : Bool} {b1 b2 : ByteArray}, enc (r : Int) = .agg #[.bool s1, .string b1] → enc ((bval sa.data.toList : Int) - (r : Int) * (r : Int)) = .agg #[.bool s2, .string b2] → Calls Try.prog 53 #[.agg #[.bool false, .string sa]] ((w.alloc (.cells #[.bool false, .string sa] 26)).alloc (.cells #[.bool false, .string ⟨#[]⟩] 26)) (RT ((w.alloc (.cells #[.bool false, .string sa] 26)).alloc (.cells #[.bool false, .string ⟨#[]⟩] 26)) s1 b1 s2 b2 0) := by
        intro s1 s2 b1 b2 e1 e2
        refine hR.mono fun e w' h => ?_
        obtain ⟨r', h1, h2, h3⟩ := h.2.2.1 hm rfl
        obtain rfl := root_only hr1 hr2 h1 h2
        exact ⟨by rw [h3, e1, e2], h.2.2.2⟩
      have hmul : (r : Int) * (r : Int) = ((r * r : Nat) : Int) := (Int.natCast_mul r r).symm
      rcases Nat.eq_zero_or_pos (bval sa.data.toList - r * r) with h0 | h0
      · have he : (bval sa.data.toList : Int) - (r : Int) * (r : Int) = 0 := by rw [hmul]; omega
        refine (wsq_yes (hR2 rfl (by rw [he]; exact enc_zero)) rfl rfl rfl).mono fun e w' h => ⟨fun h' => absurd hm h', fun _ h' => absurd (show false = true from h') (by decide), fun _ _ => ⟨r, hr1, hr2, fun _ => h.1, fun h' => absurd (show r * r = bval sa.data.toList by omega) h'⟩, h.2⟩
      · obtain ⟨x, hx⟩ : ∃ x : Nat, x = bval sa.data.toList - r * r := ⟨_, rfl⟩
        have he : (bval sa.data.toList : Int) - (r : Int) * (r : Int) = (x : Int) := by rw [hmul]; omega
        have hd : decide ((x : Int) < 0) = false := decide_eq_false (by omega)
        refine (wsq_rest (s2 := false) (b2 := ⟨(bys x).toArray⟩) (hR2 rfl (by rw [he]; unfold enc; rw [hd]; rfl)) rfl rfl (enc_pos_len (by omega))).mono fun e w' h => ⟨fun h' => absurd hm h', fun _ h' => absurd (show false = true from h') (by decide), fun _ _ => ⟨r, hr1, hr2, fun h' => absurd (show r * r = bval sa.data.toList from h') (by omega), fun _ => h.1⟩, h.2⟩
  · exact (wsq_err2 (hR.mono fun e w' h => ⟨h.1 hm, h.2.2.2⟩) rfl rfl rfl).mono fun e w' h => ⟨fun _ => h.1, fun h' => absurd h' hm, fun h' => absurd h' hm, h.2⟩
end Go.Proofs.Ytpnginnjbdedbaa
