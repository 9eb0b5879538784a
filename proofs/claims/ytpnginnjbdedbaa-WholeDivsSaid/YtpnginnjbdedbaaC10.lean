import Derived.Test.YtpnginnjbdedbaaC6
import Derived.Test.YtpnginnjbdedbaaC4
import Derived.Test.YtpnginnjbdedbaaC7
import Derived.Test.YtpnginnjbdedbaaC9
/- whole.Shift (printed by gen_shift.py). -/
namespace Go.Proofs.Ytpnginnjbdedbaa
open Go.RowKit
open Wh
set_option linter.unusedSimpArgs false

/-- a number shifted -/
def shf (x n : Int) : Int := if 0 ≤ n then x * 2 ^ n.toNat else x / 2 ^ (-n).toNat
theorem shf_zero (n : Int) : shf 0 n = 0 := by
  unfold shf
  by_cases h : 0 ≤ n
  · rw [if_pos h, Int.zero_mul]
  · rw [if_neg h, Int.zero_ediv]
theorem shr_far {x : Int} {a n : Nat} (h : x.natAbs < 2 ^ a) (hn : a ≤ n) : x / 2 ^ n = if x < 0 then -1 else 0 := by
  have h1 : (2 : Nat) ^ a ≤ 2 ^ n := Nat.pow_le_pow_right (by decide) hn
  have hp := pow2_pos n
  have hc := pow2_cast n
  generalize (2 : Int) ^ n = P at *
  generalize (2 : Nat) ^ n = Q at *
  by_cases h0 : x < 0
  · rw [if_pos h0]
    exact ((Int.ediv_emod_unique (r := x + P) hp).2 ⟨by omega, by omega, by omega⟩).1
  · rw [if_neg h0]
    exact Int.ediv_eq_zero_of_lt (by omega) (by omega)
theorem bl_shl {m n k : Nat} (h : bl m ≤ k) : bl (m * 2 ^ n) ≤ k + n := by
  refine bl_lt.2 ?_
  rw [Nat.pow_add]
  exact Nat.mul_lt_mul_of_pos_right (bl_lt.1 h) (Nat.two_pow_pos n)
theorem bl_shl_ge {m n k : Nat} (h0 : 0 < m) (h : bl (m * 2 ^ n) ≤ k) : n < k := by
  have h1 := bl_lt.1 h
  have h2 : (2 : Nat) ^ n ≤ m * 2 ^ n := Nat.le_mul_of_pos_left _ h0
  exact (Nat.pow_lt_pow_iff_right (by decide)).1 (Nat.lt_of_le_of_lt h2 h1)
theorem shl_abs (x : Int) (n : Nat) : (x * 2 ^ n).natAbs = x.natAbs * 2 ^ n := by rw [Int.natAbs_mul, pow2_abs]
theorem shf_big {x n : Int} {k : Nat} (h0 : x ≠ 0) (hn : (k : Int) < n) : ¬ bl (shf x n).natAbs ≤ k := by
  intro h
  unfold shf at h
  rw [if_pos (by omega), shl_abs] at h
  have := bl_shl_ge (by omega) h
  omega
theorem shf_far {x n : Int} {k a : Nat} (hx : bl x.natAbs ≤ k) (hn : n < -(a : Int)) (ha : k ≤ a) : x / 2 ^ a = shf x n := by
  unfold shf
  rw [if_neg (by omega), shr_far (bl_lt.1 hx) ha, shr_far (bl_lt.1 hx) (show k ≤ (-n).toNat by omega)]
set_option maxRecDepth 100000 in
set_option maxHeartbeats 4000000 in
theorem wshift_bad {w : World} {na : Bool} {sa : ByteArray} {n : Int} (hm : ¬ MayL na sa.data.toList) :
    Calls Try.prog 22 #[.agg #[.bool na, .string sa], .int .i64 n] w (Ans w (MayL na sa.data.toList) (shf (num (na, sa)) n)) := by
  have hb1 := new_below w (.cells #[.bool na, .string sa] 26)
  have hb2 := hb1.alloc (by simp) (.cells #[.bool false, .string ⟨#[]⟩] 26)
  have k1 := (Blk.new w 26 #[.bool na, .string sa]).alloc (.cells #[.bool false, .string ⟨#[]⟩] 26)
  have k2 := Blk.new (w.alloc (.cells #[.bool na, .string sa] 26)) 26 #[.bool false, .string ⟨#[]⟩]
  have hO := of_one (w := (w.alloc (.cells #[.bool na, .string sa] 26)).alloc (.cells #[.bool false, .string ⟨#[]⟩] 26)) (na := na) (sa := sa)
  rw [World.size_alloc, World.size_alloc] at hO
  rw [World.size_alloc] at k2
  have HO := Lib.hid hO
  have Hb := Lib.hid (And.intro hb2 (And.intro k1 k2))
  have Hm := Lib.hid hm
  clear hm
  clear hO hb1 hb2 k1 k2
  go_enter Try.func22, Try.ntmps22
  go_wp2_with fail
  refine HO.out.mono ?_
  rintro e w5 ⟨h1, h2, hb5⟩
  have hb05 := Hb.out.1.trans (hb5.mono (by simp <;> omega))
  have m1 := Hb.out.2.1.below hb5 (by simp <;> omega)
  have m2 := Hb.out.2.2.below hb5 (by simp)
  have c0 : w5.cell? ⟨w.heap.size, 0, none⟩ = some (.bool na) := m1.cell 0
  have c1 : w5.cell? ⟨w.heap.size, 1, none⟩ = some (.string sa) := m1.cell 1
  have d0 : w5.cell? ⟨w.heap.size + 1, 0, none⟩ = some (.bool false) := m2.cell 0
  have d1 : w5.cell? ⟨w.heap.size + 1, 1, none⟩ = some (.string ⟨#[]⟩) := m2.cell 1
  have d2 := m2.frozen 0
  have d3 := m2.frozen 1
  have H5 := Lib.hid (And.intro hb05 m2)
  have Hsz := Lib.hid (show w.heap.size + 1 + 1 ≤ w5.heap.size by have := hb5.size; simp at this; omega)
  clear hb5 hb05 m1 m2
  obtain ⟨A5, n5, c5, rfl⟩ := h2 Hm.out
  clear h1 h2
  go_wp2_with fail
  refine bodyPost_ret (v := .tuple #[.agg #[.bool false, .string ⟨#[]⟩], .int .i64 2]) (by simp [results, Try.results22, go_sem, d0, d1]) rfl ?_
  exact ⟨fun h => absurd h Hm.out, fun h => absurd h Hm.out, fun _ => rfl, ((H5.out.1.setCell (by show w.heap.size ≤ w.heap.size + 1; omega) _).setCell (by show w.heap.size ≤ w.heap.size + 1; omega) _)⟩
set_option maxRecDepth 100000 in
set_option maxHeartbeats 4000000 in
theorem wshift_zero {w : World} {na : Bool} {sa : ByteArray} {n : Int} (hm : MayL na sa.data.toList) (h0 : num (na, sa) = 0) :
    Calls Try.prog 22 #[.agg #[.bool na, .string sa], .int .i64 n] w (Ans w (MayL na sa.data.toList) (shf (num (na, sa)) n)) := by
  have hb1 := new_below w (.cells #[.bool na, .string sa] 26)
  have hb2 := hb1.alloc (by simp) (.cells #[.bool false, .string ⟨#[]⟩] 26)
  have k1 := (Blk.new w 26 #[.bool na, .string sa]).alloc (.cells #[.bool false, .string ⟨#[]⟩] 26)
  have k2 := Blk.new (w.alloc (.cells #[.bool na, .string sa] 26)) 26 #[.bool false, .string ⟨#[]⟩]
  have hO := of_one (w := (w.alloc (.cells #[.bool na, .string sa] 26)).alloc (.cells #[.bool false, .string ⟨#[]⟩] 26)) (na := na) (sa := sa)
  rw [World.size_alloc, World.size_alloc] at hO
  rw [World.size_alloc] at k2
  have HO := Lib.hid hO
  have Hb := Lib.hid (And.intro hb2 (And.intro k1 k2))
  have Hm := Lib.hid (And.intro hm h0)
  clear hm h0
  clear hO hb1 hb2 k1 k2
  go_enter Try.func22, Try.ntmps22
  go_wp2_with fail
  refine HO.out.mono ?_
  rintro e w5 ⟨h1, h2, hb5⟩
  have hb05 := Hb.out.1.trans (hb5.mono (by simp <;> omega))
  have m1 := Hb.out.2.1.below hb5 (by simp <;> omega)
  have m2 := Hb.out.2.2.below hb5 (by simp)
  have c0 : w5.cell? ⟨w.heap.size, 0, none⟩ = some (.bool na) := m1.cell 0
  have c1 : w5.cell? ⟨w.heap.size, 1, none⟩ = some (.string sa) := m1.cell 1
  have d0 : w5.cell? ⟨w.heap.size + 1, 0, none⟩ = some (.bool false) := m2.cell 0
  have d1 : w5.cell? ⟨w.heap.size + 1, 1, none⟩ = some (.string ⟨#[]⟩) := m2.cell 1
  have d2 := m2.frozen 0
  have d3 := m2.frozen 1
  have H5 := Lib.hid (And.intro hb05 m2)
  have Hsz := Lib.hid (show w.heap.size + 1 + 1 ≤ w5.heap.size by have := hb5.size; simp at this; omega)
  clear hb5 hb05 m1 m2
  obtain ⟨ad, c, g1, rfl, hadb, p0, hx, hg1⟩ := h1 Hm.out.1
  clear h1 h2 hx hg1
  have hsz := (num_nil Hm.out.1).1 Hm.out.2
  have hl : sa.data.toList.length = sa.size := Array.length_toList
  dsimp only at hsz
  have he := List.eq_nil_of_length_eq_zero (show sa.data.toList.length = 0 by omega)
  obtain rfl := str_empty he
  obtain rfl := Hm.out.1.2.1 he
  clear hsz hl he
  go_wp2_with fail
  refine bodyPost_ret (v := .tuple #[.agg #[.bool false, .string ⟨#[]⟩], .int .i64 0]) (by simp [results, Try.results22, go_sem, d0, d1]) rfl ?_
  exact ⟨fun _ _ => by rw [num_zero, shf_zero, enc_zero], fun _ h => absurd (show fits (shf (num (false, ⟨#[]⟩)) n) by rw [num_zero, shf_zero]; exact Nat.zero_le _) h, fun h => absurd Hm.out.1 h, ((H5.out.1.setCell (by show w.heap.size ≤ w.heap.size + 1; omega) _).setCell (by show w.heap.size ≤ w.heap.size + 1; omega) _)⟩
set_option maxRecDepth 100000 in
set_option maxHeartbeats 4000000 in
theorem wshift_big {w : World} {na : Bool} {sa : ByteArray} {n : Int} (hm : MayL na sa.data.toList) (h0 : num (na, sa) ≠ 0) (hn : 131072 < n) :
    Calls Try.prog 22 #[.agg #[.bool na, .string sa], .int .i64 n] w (Ans w (MayL na sa.data.toList) (shf (num (na, sa)) n)) := by
  have hb1 := new_below w (.cells #[.bool na, .string sa] 26)
  have hb2 := hb1.alloc (by simp) (.cells #[.bool false, .string ⟨#[]⟩] 26)
  have k1 := (Blk.new w 26 #[.bool na, .string sa]).alloc (.cells #[.bool false, .string ⟨#[]⟩] 26)
  have k2 := Blk.new (w.alloc (.cells #[.bool na, .string sa] 26)) 26 #[.bool false, .string ⟨#[]⟩]
  have hO := of_one (w := (w.alloc (.cells #[.bool na, .string sa] 26)).alloc (.cells #[.bool false, .string ⟨#[]⟩] 26)) (na := na) (sa := sa)
  rw [World.size_alloc, World.size_alloc] at hO
  rw [World.size_alloc] at k2
  have HO := Lib.hid hO
  have Hb := Lib.hid (And.intro hb2 (And.intro k1 k2))
  have Hm := Lib.hid (And.intro hm h0)
  clear hm h0
  clear hO hb1 hb2 k1 k2
  go_enter Try.func22, Try.ntmps22
  go_wp2_with fail
  refine HO.out.mono ?_
  rintro e w5 ⟨h1, h2, hb5⟩
  have hb05 := Hb.out.1.trans (hb5.mono (by simp <;> omega))
  have m1 := Hb.out.2.1.below hb5 (by simp <;> omega)
  have m2 := Hb.out.2.2.below hb5 (by simp)
  have c0 : w5.cell? ⟨w.heap.size, 0, none⟩ = some (.bool na) := m1.cell 0
  have c1 : w5.cell? ⟨w.heap.size, 1, none⟩ = some (.string sa) := m1.cell 1
  have d0 : w5.cell? ⟨w.heap.size + 1, 0, none⟩ = some (.bool false) := m2.cell 0
  have d1 : w5.cell? ⟨w.heap.size + 1, 1, none⟩ = some (.string ⟨#[]⟩) := m2.cell 1
  have d2 := m2.frozen 0
  have d3 := m2.frozen 1
  have H5 := Lib.hid (And.intro hb05 m2)
  have Hsz := Lib.hid (show w.heap.size + 1 + 1 ≤ w5.heap.size by have := hb5.size; simp at this; omega)
  clear hb5 hb05 m1 m2
  obtain ⟨ad, c, g1, rfl, hadb, p0, hx, hg1⟩ := h1 Hm.out.1
  clear h1 h2
  have hl : 0 < sa.size := by
    rcases Nat.eq_zero_or_pos sa.size with h | h
    · exact absurd ((num_nil Hm.out.1).2 h) Hm.out.2
    · exact h
  obtain ⟨q1, q2⟩ := str_facts hl
  clear hl
  clear hx hg1
  go_wp2_with fail
  refine bodyPost_ret (v := .tuple #[.agg #[.bool false, .string ⟨#[]⟩], .int .i64 4]) (by simp [results, Try.results22, go_sem, d0, d1]) rfl ?_
  exact ⟨fun _ h => absurd h (shf_big Hm.out.2 (k := 131072) hn), fun _ _ => rfl, fun h => absurd Hm.out.1 h, ((H5.out.1.setCell (by show w.heap.size ≤ w.heap.size + 1; omega) _).setCell (by show w.heap.size ≤ w.heap.size + 1; omega) _)⟩
theorem tells_form {W w5 : World} {z : Int} {e : Ending} (h : Tells W z e w5) : ∃ (sn : Bool) (bn : ByteArray) (cd : Int), e = .returned (.tuple #[.agg #[.bool sn, .string bn], .int .i64 cd]) ∧ Below W.heap.size W w5 ∧ ∀ w w' (ok : Prop), ok → Below w.heap.size w w' → Ans w ok z (.returned (.tuple #[.agg #[.bool sn, .string bn], .int .i64 cd])) w' := by
  obtain ⟨t1, t2, hb⟩ := h
  by_cases hf : fits z
  · exact ⟨_, _, 0, t1 hf, hb, fun w w' ok hok hb => ⟨fun _ _ => rfl, fun _ h => absurd hf h, fun h => absurd hok h, hb⟩⟩
  · exact ⟨_, _, 4, t2 hf, hb, fun w w' ok hok hb => ⟨fun _ h => absurd h hf, fun _ _ => rfl, fun h => absurd hok h, hb⟩⟩
set_option maxRecDepth 100000 in
set_option maxHeartbeats 4000000 in
theorem wshift_up {w : World} {na : Bool} {sa : ByteArray} {n : Int} (hm : MayL na sa.data.toList) (h0 : num (na, sa) ≠ 0) (hn0 : 0 ≤ n) (hn : n ≤ 131072) :
    Calls Try.prog 22 #[.agg #[.bool na, .string sa], .int .i64 n] w (Ans w (MayL na sa.data.toList) (shf (num (na, sa)) n)) := by
  have hb1 := new_below w (.cells #[.bool na, .string sa] 26)
  have hb2 := hb1.alloc (by simp) (.cells #[.bool false, .string ⟨#[]⟩] 26)
  have k1 := (Blk.new w 26 #[.bool na, .string sa]).alloc (.cells #[.bool false, .string ⟨#[]⟩] 26)
  have k2 := Blk.new (w.alloc (.cells #[.bool na, .string sa] 26)) 26 #[.bool false, .string ⟨#[]⟩]
  have hO := of_one (w := (w.alloc (.cells #[.bool na, .string sa] 26)).alloc (.cells #[.bool false, .string ⟨#[]⟩] 26)) (na := na) (sa := sa)
  rw [World.size_alloc, World.size_alloc] at hO
  rw [World.size_alloc] at k2
  have HO := Lib.hid hO
  have Hb := Lib.hid (And.intro hb2 (And.intro k1 k2))
  have Hm := Lib.hid (And.intro hm h0)
  clear hm h0
  clear hO hb1 hb2 k1 k2
  go_enter Try.func22, Try.ntmps22
  go_wp2_with fail
  refine HO.out.mono ?_
  rintro e w5 ⟨h1, h2, hb5⟩
  have hb05 := Hb.out.1.trans (hb5.mono (by simp <;> omega))
  have m1 := Hb.out.2.1.below hb5 (by simp <;> omega)
  have m2 := Hb.out.2.2.below hb5 (by simp)
  have c0 : w5.cell? ⟨w.heap.size, 0, none⟩ = some (.bool na) := m1.cell 0
  have c1 : w5.cell? ⟨w.heap.size, 1, none⟩ = some (.string sa) := m1.cell 1
  have d0 : w5.cell? ⟨w.heap.size + 1, 0, none⟩ = some (.bool false) := m2.cell 0
  have d1 : w5.cell? ⟨w.heap.size + 1, 1, none⟩ = some (.string ⟨#[]⟩) := m2.cell 1
  have d2 := m2.frozen 0
  have d3 := m2.frozen 1
  have H5 := Lib.hid (And.intro hb05 m2)
  have Hsz := Lib.hid (show w.heap.size + 1 + 1 ≤ w5.heap.size by have := hb5.size; simp at this; omega)
  clear hb5 hb05 m1 m2
  obtain ⟨ad, c, g1, rfl, hadb, p0, hx, hg1⟩ := h1 Hm.out.1
  clear h1 h2
  have hl : 0 < sa.size := by
    rcases Nat.eq_zero_or_pos sa.size with h | h
    · exact absurd ((num_nil Hm.out.1).2 h) Hm.out.2
    · exact h
  obtain ⟨q1, q2⟩ := str_facts hl
  clear hl
  have hz : num (na, sa) * 2 ^ n.toNat = shf (num (na, sa)) n := by unfold shf; rw [if_pos hn0]
  have hlb := bl_shl (n := n.toNat) (fits_num (a := (na, sa)) Hm.out.1)
  rw [← shl_abs] at hlb
  have Hl := Lib.hid (show (wds (num (na, sa) * 2 ^ n.toNat).natAbs).length ≤ 100000000 from Nat.le_trans (len_bl (k := 8192) (by omega)) (by omega))
  have l1 := len_num (a := (na, sa)) Hm.out.1
  have hC := lsh_any (n := n.toNat) (hx.drewN 1).slot (hx.drewN 1) (by omega) (by omega)
  rw [show ((n.toNat : Nat) : Int) = n by omega] at hC
  rw [hz] at hC Hl
  have HC := Lib.hid hC
  have Hg := Lib.hid (show w.heap.size + 1 + 1 ≤ g1 by simp at hg1; omega)
  have q3 : IntKind.u64.wrap n = n := IntWalk.u64_in _ (by omega)
  clear hC hlb hz l1 hx hg1
  go_wp2_with fail
  refine wp_region_noPanic ?_
  refine wp_region_HK (fun w' => w'.cell? ad = some (.pointer (some ⟨g1, 0, none⟩))) 8 (by kernel_rfl) p0 (fun hHeld => ?_)
  refine wpHK_take (i := 0) (oi := Oper.mk (some 30) _ _ _ _ _) (v := ?_) rfl (by kernel_rfl) (by kernel_rfl) (by kernel_rfl) (by kernel_rfl) (fun _ _ _ h => h) (Or.inl ⟨by rfl, ?_⟩) (by assumption) ?_
  rotate_left
  · (intro w' hSw; (try dsimp only at hSw); (obtain s1 := hSw); go_simp; try with_reducible rfl)
  try simp only [Act.put, List.setIfInBounds_toArray, List.set_cons_zero, List.set_cons_succ]
  refine wpHK_take (i := 1) (oi := Oper.mk (some 31) _ _ _ _ _) (v := ?_) rfl (by kernel_rfl) (by kernel_rfl) (by kernel_rfl) (by kernel_rfl) (fun _ _ _ h => h) (Or.inl ⟨by rfl, ?_⟩) (by assumption) ?_
  rotate_left
  · (intro w' hSw; (try dsimp only at hSw); (obtain s1 := hSw); go_simp; try with_reducible rfl)
  try simp only [Act.put, List.setIfInBounds_toArray, List.set_cons_zero, List.set_cons_succ]
  refine wpHK_take (i := 2) (oi := Oper.mk (some 32) _ _ _ _ _) (v := ?_) rfl (by kernel_rfl) (by kernel_rfl) (by kernel_rfl) (by kernel_rfl) (fun _ _ _ h => h) (Or.inl ⟨by rfl, ?_⟩) (by assumption) ?_
  rotate_left
  · (intro w' hSw; (try dsimp only at hSw); (obtain s1 := hSw); go_simp; try with_reducible rfl)
  try simp only [Act.put, List.setIfInBounds_toArray, List.set_cons_zero, List.set_cons_succ]
  refine wpHK_take (i := 3) (oi := Oper.mk (some 33) _ _ _ _ _) (v := ?_) rfl (by kernel_rfl) (by kernel_rfl) (by kernel_rfl) (by kernel_rfl) (fun _ _ _ h => h) (Or.inl ⟨by rfl, ?_⟩) (by assumption) ?_
  rotate_left
  · (intro w' hSw; (try dsimp only at hSw); (obtain s1 := hSw); go_simp; try with_reducible rfl)
  try simp only [Act.put, List.setIfInBounds_toArray, List.set_cons_zero, List.set_cons_succ]
  refine wpHK_take (i := 4) (oi := Oper.mk (some 34) _ _ _ _ _) (v := ?_) rfl (by kernel_rfl) (by kernel_rfl) (by kernel_rfl) (by kernel_rfl) (fun _ _ _ h => h) (Or.inl ⟨by rfl, ?_⟩) (by assumption) ?_
  rotate_left
  · (intro w' hSw; (try dsimp only at hSw); (obtain s1 := hSw); go_simp; try with_reducible rfl)
  try simp only [Act.put, List.setIfInBounds_toArray, List.set_cons_zero, List.set_cons_succ]
  refine wpHK_take (i := 5) (oi := Oper.mk (some 35) _ _ _ _ _) (v := ?_) rfl (by kernel_rfl) (by kernel_rfl) (by kernel_rfl) (by kernel_rfl) (fun _ _ _ h => h) (Or.inl ⟨by rfl, ?_⟩) (by assumption) ?_
  rotate_left
  · (intro w' hSw; (try dsimp only at hSw); (obtain s1 := hSw); go_simp; try with_reducible rfl)
  try simp only [Act.put, List.setIfInBounds_toArray, List.set_cons_zero, List.set_cons_succ]
  refine wpHK_take (i := 6) (oi := Oper.mk (some 36) _ _ _ _ _) (v := ?_) rfl (by kernel_rfl) (by kernel_rfl) (by kernel_rfl) (by kernel_rfl) (fun _ _ _ h => h) (Or.inl ⟨by rfl, ?_⟩) (by assumption) ?_
  rotate_left
  · (intro w' hSw; (try dsimp only at hSw); (obtain s1 := hSw); go_simp; try with_reducible rfl)
  try simp only [Act.put, List.setIfInBounds_toArray, List.set_cons_zero, List.set_cons_succ]
  refine wpHK_take (i := 7) (oi := Oper.mk (some 37) _ _ _ _ _) (v := ?_) rfl (by kernel_rfl) (by kernel_rfl) (by kernel_rfl) (by kernel_rfl) (fun _ _ _ h => h) (Or.inl ⟨by rfl, ?_⟩) (by assumption) ?_
  rotate_left
  · (intro w' hSw; (try dsimp only at hSw); (obtain s1 := hSw); go_simp; try with_reducible rfl)
  try simp only [Act.put, List.setIfInBounds_toArray, List.set_cons_zero, List.set_cons_succ]
  refine wpHK_tail (j := 8) (o := Oper.mk (some 38) _ _ _ _ _) rfl (by kernel_rfl) (by decide) (fun K hK => ?_)
  go_simp
  refine HC.out.mono ?_
  rintro e w6 ⟨rfl, hi6, hg6⟩
  have HT := Lib.hid (told_any hi6 Hl.out)
  have hb6 : Below (w.heap.size + 1 + 1) w5 w6 := up_row (Below.refl _ _).drew hg6 Hsz.out Hg.out
  have mb := H5.out.2.below hb6 (by omega)
  have hb06 := H5.out.1.trans (hb6.mono (by omega))
  have hw6s : w.heap.size + 1 < w6.heap.size := by have := hb6.size; have := Hsz.out; omega
  clear hi6 hg6 hb6
  refine hK.out _ _ ?_
  clear hK K
  try simp only [Act.put, List.setIfInBounds_toArray, List.set_cons_zero, List.set_cons_succ]
  refine wpHK_tail (j := 9) (o := Oper.mk (some 39) _ _ _ _ _) rfl (by kernel_rfl) (by decide) (fun K hK => ?_)
  go_simp
  refine HT.out.mono ?_
  intro e w7 hT
  obtain ⟨sn, bn, cd, rfl, hb7, hfin⟩ := tells_form hT
  clear hT
  have n2 := mb.below hb7 hw6s
  have y0 : w7.cell? ⟨w.heap.size + 1, 0, none⟩ = some (.bool false) := n2.cell 0
  have y1 : w7.cell? ⟨w.heap.size + 1, 1, none⟩ = some (.string ⟨#[]⟩) := n2.cell 1
  have y2 := n2.frozen 0
  have y3 := n2.frozen 1
  have hb07 := Lib.hid (hb06.trans (hb7.mono hb06.size))
  clear n2 hb7
  refine hK.out _ _ ?_
  clear hK K
  try simp only [Act.put, List.setIfInBounds_toArray, List.set_cons_zero, List.set_cons_succ]
  refine wpHK_pure (i := 10) (oi := Oper.mk (some 40) _ _ _ _ _) (v := ?_) rfl (by kernel_rfl) (by kernel_rfl) (by kernel_rfl) (fun _ _ _ h => h) (Or.inl ⟨by rfl, ?_⟩) ?_
  rotate_left
  · (intro w' _; go_simp; try with_reducible rfl)
  try simp only [Act.put, List.setIfInBounds_toArray, List.set_cons_zero, List.set_cons_succ]
  refine wpHK_pure (i := 11) (oi := Oper.mk (some 41) _ _ _ _ _) (v := ?_) rfl (by kernel_rfl) (by kernel_rfl) (by kernel_rfl) (fun _ _ _ h => h) (Or.inl ⟨by rfl, ?_⟩) ?_
  rotate_left
  · (intro w' _; go_simp; try with_reducible rfl)
  try simp only [Act.put, List.setIfInBounds_toArray, List.set_cons_zero, List.set_cons_succ]
  refine wpHK_tail (j := 12) (o := Oper.mk (none) _ _ _ _ _) rfl (by kernel_rfl) (by decide) (fun K hK => ?_)
  go_simp
  refine hK.out _ _ ?_
  clear hK K
  try simp only [Act.put, List.setIfInBounds_toArray, List.set_cons_zero, List.set_cons_succ]
  refine wpHK_pure (i := 13) (oi := Oper.mk (some 5) _ _ _ _ _) (v := ?_) rfl (by kernel_rfl) (by kernel_rfl) (by kernel_rfl) (fun _ _ _ h => h) (Or.inl ⟨by rfl, ?_⟩) ?_
  rotate_left
  · (intro w' _; go_simp; try with_reducible rfl)
  try simp only [Act.put, List.setIfInBounds_toArray, List.set_cons_zero, List.set_cons_succ]
  refine wpHK_done (by kernel_rfl) ?_ _
  refine NoPanic.normal ?_
  go_wp2_with fail
  refine bodyPost_ret (v := .tuple #[.agg #[.bool sn, .string bn], .int .i64 cd]) (by simp [results, Try.results22, go_sem, y0, y1]) rfl ?_
  exact hfin _ _ _ Hm.out.1 ((hb07.out.setCell (by show w.heap.size ≤ w.heap.size + 1; omega) _).setCell (by show w.heap.size ≤ w.heap.size + 1; omega) _)
set_option maxRecDepth 100000 in
set_option maxHeartbeats 800000 in
theorem wshift_down {w : World} {na : Bool} {sa : ByteArray} {n : Int} (hm : MayL na sa.data.toList) (h0 : num (na, sa) ≠ 0) (hn0 : n < 0) (hnb : -9223372036854775808 ≤ n) :
    Calls Try.prog 22 #[.agg #[.bool na, .string sa], .int .i64 n] w (Ans w (MayL na sa.data.toList) (shf (num (na, sa)) n)) := by
  have hb1 := new_below w (.cells #[.bool na, .string sa] 26)
  have hb2 := hb1.alloc (by simp) (.cells #[.bool false, .string ⟨#[]⟩] 26)
  have k1 := (Blk.new w 26 #[.bool na, .string sa]).alloc (.cells #[.bool false, .string ⟨#[]⟩] 26)
  have k2 := Blk.new (w.alloc (.cells #[.bool na, .string sa] 26)) 26 #[.bool false, .string ⟨#[]⟩]
  have hO := of_one (w := (w.alloc (.cells #[.bool na, .string sa] 26)).alloc (.cells #[.bool false, .string ⟨#[]⟩] 26)) (na := na) (sa := sa)
  rw [World.size_alloc, World.size_alloc] at hO
  rw [World.size_alloc] at k2
  have HO := Lib.hid hO
  have Hb := Lib.hid (And.intro hb2 (And.intro k1 k2))
  have Hm := Lib.hid (And.intro hm h0)
  clear hm h0
  clear hO hb1 hb2 k1 k2
  go_enter Try.func22, Try.ntmps22
  go_wp2_with fail
  refine HO.out.mono ?_
  rintro e w5 ⟨h1, h2, hb5⟩
  have hb05 := Hb.out.1.trans (hb5.mono (by simp <;> omega))
  have m1 := Hb.out.2.1.below hb5 (by simp <;> omega)
  have m2 := Hb.out.2.2.below hb5 (by simp)
  have c0 : w5.cell? ⟨w.heap.size, 0, none⟩ = some (.bool na) := m1.cell 0
  have c1 : w5.cell? ⟨w.heap.size, 1, none⟩ = some (.string sa) := m1.cell 1
  have d0 : w5.cell? ⟨w.heap.size + 1, 0, none⟩ = some (.bool false) := m2.cell 0
  have d1 : w5.cell? ⟨w.heap.size + 1, 1, none⟩ = some (.string ⟨#[]⟩) := m2.cell 1
  have d2 := m2.frozen 0
  have d3 := m2.frozen 1
  have H5 := Lib.hid (And.intro hb05 m2)
  have Hsz := Lib.hid (show w.heap.size + 1 + 1 ≤ w5.heap.size by have := hb5.size; simp at this; omega)
  clear hb5 hb05 m1 m2
  obtain ⟨ad, c, g1, rfl, hadb, p0, hx, hg1⟩ := h1 Hm.out.1
  clear h1 h2
  have hl : 0 < sa.size := by
    rcases Nat.eq_zero_or_pos sa.size with h | h
    · exact absurd ((num_nil Hm.out.1).2 h) Hm.out.2
    · exact h
  obtain ⟨q1, q2⟩ := str_facts hl
  clear hl
  obtain ⟨M, hM⟩ : ∃ M : Int, M = if n < -131073 then -131073 else n := ⟨_, rfl⟩
  obtain ⟨K, hK⟩ : ∃ K : Nat, (K : Int) = -M := ⟨(-M).toNat, by omega⟩
  have hz : num (na, sa) / 2 ^ K = shf (num (na, sa)) n := by
    rcases Int.lt_or_le n (-131073) with h | h
    · exact shf_far (k := 131072) (a := K) (fits_num (a := (na, sa)) Hm.out.1) (by omega) (by omega)
    · unfold shf; rw [if_neg (by omega), show (-n).toNat = K by omega]
  have hl2 : (num (na, sa) / 2 ^ K).natAbs ≤ (num (na, sa)).natAbs := Int.natAbs_ediv_le_natAbs _ _
  have l1 := len_num (a := (na, sa)) Hm.out.1
  have Hl := Lib.hid (show (wds (num (na, sa) / 2 ^ K).natAbs).length ≤ 100000000 from Nat.le_trans (len_mono hl2) (by omega))
  have hC := rsh_any (n := K) (hx.drewN 1).slot (hx.drewN 1) (by omega) (by omega)
  rw [hz] at hC Hl
  have HC := Lib.hid hC
  have Hg := Lib.hid (show w.heap.size + 1 + 1 ≤ g1 by simp at hg1; omega)
  have q3 : IntKind.u64.wrap (K : Int) = (K : Int) := IntWalk.u64_in _ (by omega)
  have q4 : IntKind.i64.wrap (-M) = (K : Int) := by rw [← hK]; exact IntWalk.i64_in _ (by omega)
  have q5 : (if n < -131073 then -131073 else n) = M := hM.symm
  have q6 : decide (131072 < n) = false := decide_eq_false (by omega)
  have q7 : decide (0 ≤ n) = false := decide_eq_false (by omega)
  clear hC hl2 hz l1 hx hg1 hM hK
  go_wp2_with fail
  refine wp_region_noPanic ?_
  refine wp_region_HK (fun w' => w'.cell? ad = some (.pointer (some ⟨g1, 0, none⟩))) 10 (by kernel_rfl) p0 (fun hHeld => ?_)
  refine wpHK_take (i := 0) (oi := Oper.mk (some 42) _ _ _ _ _) (v := ?_) rfl (by kernel_rfl) (by kernel_rfl) (by kernel_rfl) (by kernel_rfl) (fun _ _ _ h => h) (Or.inl ⟨by rfl, ?_⟩) (by assumption) ?_
  rotate_left
  · (intro w' hSw; (try dsimp only at hSw); (obtain s1 := hSw); go_simp; try with_reducible rfl)
  try simp only [Act.put, List.setIfInBounds_toArray, List.set_cons_zero, List.set_cons_succ]
  refine wpHK_take (i := 1) (oi := Oper.mk (some 43) _ _ _ _ _) (v := ?_) rfl (by kernel_rfl) (by kernel_rfl) (by kernel_rfl) (by kernel_rfl) (fun _ _ _ h => h) (Or.inl ⟨by rfl, ?_⟩) (by assumption) ?_
  rotate_left
  · (intro w' hSw; (try dsimp only at hSw); (obtain s1 := hSw); go_simp; try with_reducible rfl)
  try simp only [Act.put, List.setIfInBounds_toArray, List.set_cons_zero, List.set_cons_succ]
  refine wpHK_take (i := 2) (oi := Oper.mk (some 44) _ _ _ _ _) (v := ?_) rfl (by kernel_rfl) (by kernel_rfl) (by kernel_rfl) (by kernel_rfl) (fun _ _ _ h => h) (Or.inl ⟨by rfl, ?_⟩) (by assumption) ?_
  rotate_left
  · (intro w' hSw; (try dsimp only at hSw); (obtain s1 := hSw); go_simp; try with_reducible rfl)
  try simp only [Act.put, List.setIfInBounds_toArray, List.set_cons_zero, List.set_cons_succ]
  refine wpHK_take (i := 3) (oi := Oper.mk (some 45) _ _ _ _ _) (v := ?_) rfl (by kernel_rfl) (by kernel_rfl) (by kernel_rfl) (by kernel_rfl) (fun _ _ _ h => h) (Or.inl ⟨by rfl, ?_⟩) (by assumption) ?_
  rotate_left
  · (intro w' hSw; (try dsimp only at hSw); (obtain s1 := hSw); go_simp; try with_reducible rfl)
  try simp only [Act.put, List.setIfInBounds_toArray, List.set_cons_zero, List.set_cons_succ]
  refine wpHK_take (i := 4) (oi := Oper.mk (some 46) _ _ _ _ _) (v := ?_) rfl (by kernel_rfl) (by kernel_rfl) (by kernel_rfl) (by kernel_rfl) (fun _ _ _ h => h) (Or.inl ⟨by rfl, ?_⟩) (by assumption) ?_
  rotate_left
  · (intro w' hSw; (try dsimp only at hSw); (obtain s1 := hSw); go_simp; try with_reducible rfl)
  try simp only [Act.put, List.setIfInBounds_toArray, List.set_cons_zero, List.set_cons_succ]
  refine wpHK_take (i := 5) (oi := Oper.mk (some 47) _ _ _ _ _) (v := ?_) rfl (by kernel_rfl) (by kernel_rfl) (by kernel_rfl) (by kernel_rfl) (fun _ _ _ h => h) (Or.inl ⟨by rfl, ?_⟩) (by assumption) ?_
  rotate_left
  · (intro w' hSw; (try dsimp only at hSw); (obtain s1 := hSw); go_simp; try with_reducible rfl)
  try simp only [Act.put, List.setIfInBounds_toArray, List.set_cons_zero, List.set_cons_succ]
  refine wpHK_take (i := 6) (oi := Oper.mk (some 48) _ _ _ _ _) (v := ?_) rfl (by kernel_rfl) (by kernel_rfl) (by kernel_rfl) (by kernel_rfl) (fun _ _ _ h => h) (Or.inl ⟨by rfl, ?_⟩) (by assumption) ?_
  rotate_left
  · (intro w' hSw; (try dsimp only at hSw); (obtain s1 := hSw); go_simp; try with_reducible rfl)
  try simp only [Act.put, List.setIfInBounds_toArray, List.set_cons_zero, List.set_cons_succ]
  refine wpHK_one (j := 7) (o := Oper.mk (some 49) _ _ _ _ _) rfl (by kernel_rfl) (fun K hK => ?_)
  go_simp
  refine hK.out _ _ p0 (fun _ => ?_)
  clear hK K hHeld
  have hHeld := p0
  try simp only [Act.put, List.setIfInBounds_toArray, List.set_cons_zero, List.set_cons_succ]
  refine wpHK_take (i := 8) (oi := Oper.mk (some 50) _ _ _ _ _) (v := ?_) rfl (by kernel_rfl) (by kernel_rfl) (by kernel_rfl) (by kernel_rfl) (fun _ _ _ h => h) (Or.inl ⟨by rfl, ?_⟩) (by assumption) ?_
  rotate_left
  · (intro w' hSw; (try dsimp only at hSw); (obtain s1 := hSw); go_simp; try with_reducible rfl)
  try simp only [Act.put, List.setIfInBounds_toArray, List.set_cons_zero, List.set_cons_succ]
  refine wpHK_take (i := 9) (oi := Oper.mk (some 51) _ _ _ _ _) (v := ?_) rfl (by kernel_rfl) (by kernel_rfl) (by kernel_rfl) (by kernel_rfl) (fun _ _ _ h => h) (Or.inl ⟨by rfl, ?_⟩) (by assumption) ?_
  rotate_left
  · (intro w' hSw; (try dsimp only at hSw); (obtain s1 := hSw); go_simp; try with_reducible rfl)
  try simp only [Act.put, List.setIfInBounds_toArray, List.set_cons_zero, List.set_cons_succ]
  refine wpHK_tail (j := 10) (o := Oper.mk (some 52) _ _ _ _ _) rfl (by kernel_rfl) (by decide) (fun K hK => ?_)
  go_simp
  refine HC.out.mono ?_
  rintro e w6 ⟨rfl, hi6, hg6⟩
  have HT := Lib.hid (told_any hi6 Hl.out)
  have hb6 : Below (w.heap.size + 1 + 1) w5 w6 := up_row (Below.refl _ _).drew hg6 Hsz.out Hg.out
  have mb := H5.out.2.below hb6 (by omega)
  have hb06 := H5.out.1.trans (hb6.mono (by omega))
  have hw6s : w.heap.size + 1 < w6.heap.size := by have := hb6.size; have := Hsz.out; omega
  clear hi6 hg6 hb6
  refine hK.out _ _ ?_
  clear hK K
  try simp only [Act.put, List.setIfInBounds_toArray, List.set_cons_zero, List.set_cons_succ]
  refine wpHK_tail (j := 11) (o := Oper.mk (some 53) _ _ _ _ _) rfl (by kernel_rfl) (by decide) (fun K hK => ?_)
  go_simp
  refine HT.out.mono ?_
  intro e w7 hT
  obtain ⟨sn, bn, cd, rfl, hb7, hfin⟩ := tells_form hT
  clear hT
  have n2 := mb.below hb7 hw6s
  have y0 : w7.cell? ⟨w.heap.size + 1, 0, none⟩ = some (.bool false) := n2.cell 0
  have y1 : w7.cell? ⟨w.heap.size + 1, 1, none⟩ = some (.string ⟨#[]⟩) := n2.cell 1
  have y2 := n2.frozen 0
  have y3 := n2.frozen 1
  have hb07 := Lib.hid (hb06.trans (hb7.mono hb06.size))
  clear n2 hb7
  refine hK.out _ _ ?_
  clear hK K
  try simp only [Act.put, List.setIfInBounds_toArray, List.set_cons_zero, List.set_cons_succ]
  refine wpHK_pure (i := 12) (oi := Oper.mk (some 54) _ _ _ _ _) (v := ?_) rfl (by kernel_rfl) (by kernel_rfl) (by kernel_rfl) (fun _ _ _ h => h) (Or.inl ⟨by rfl, ?_⟩) ?_
  rotate_left
  · (intro w' _; go_simp; try with_reducible rfl)
  try simp only [Act.put, List.setIfInBounds_toArray, List.set_cons_zero, List.set_cons_succ]
  refine wpHK_pure (i := 13) (oi := Oper.mk (some 55) _ _ _ _ _) (v := ?_) rfl (by kernel_rfl) (by kernel_rfl) (by kernel_rfl) (fun _ _ _ h => h) (Or.inl ⟨by rfl, ?_⟩) ?_
  rotate_left
  · (intro w' _; go_simp; try with_reducible rfl)
  try simp only [Act.put, List.setIfInBounds_toArray, List.set_cons_zero, List.set_cons_succ]
  refine wpHK_tail (j := 14) (o := Oper.mk (none) _ _ _ _ _) rfl (by kernel_rfl) (by decide) (fun K hK => ?_)
  go_simp
  refine hK.out _ _ ?_
  clear hK K
  try simp only [Act.put, List.setIfInBounds_toArray, List.set_cons_zero, List.set_cons_succ]
  refine wpHK_pure (i := 15) (oi := Oper.mk (some 5) _ _ _ _ _) (v := ?_) rfl (by kernel_rfl) (by kernel_rfl) (by kernel_rfl) (fun _ _ _ h => h) (Or.inl ⟨by rfl, ?_⟩) ?_
  rotate_left
  · (intro w' _; go_simp; try with_reducible rfl)
  try simp only [Act.put, List.setIfInBounds_toArray, List.set_cons_zero, List.set_cons_succ]
  refine wpHK_done (by kernel_rfl) ?_ _
  refine NoPanic.normal ?_
  go_wp2_with fail
  refine bodyPost_ret (v := .tuple #[.agg #[.bool sn, .string bn], .int .i64 cd]) (by simp [results, Try.results22, go_sem, y0, y1]) rfl ?_
  exact hfin _ _ _ Hm.out.1 ((hb07.out.setCell (by show w.heap.size ≤ w.heap.size + 1; omega) _).setCell (by show w.heap.size ≤ w.heap.size + 1; omega) _)
theorem wshift_any {w : World} {na : Bool} {sa : ByteArray} {n : Int} (hn1 : -9223372036854775808 ≤ n) :
    Calls Try.prog 22 #[.agg #[.bool na, .string sa], .int .i64 n] w (Ans w (MayL na sa.data.toList) (shf (num (na, sa)) n)) := by
  by_cases hm : MayL na sa.data.toList
  · by_cases h0 : num (na, sa) = 0
    · exact wshift_zero hm h0
    · rcases Int.lt_or_le 131072 n with h | h
      · exact wshift_big hm h0 h
      · rcases Int.lt_or_le n 0 with h1 | h1
        · exact wshift_down hm h0 h1 hn1
        · exact wshift_up hm h0 h1 h
  · exact wshift_bad hm
end Go.Proofs.Ytpnginnjbdedbaa

/- The reference's Shift (printed by gen_rshift.py). -/
namespace Go.Proofs.Ytpnginnjbdedbaa
open Go.RowKit
open Wh
set_option linter.unusedSimpArgs false
set_option linter.unusedVariables false

theorem shl_sgn {n : Bool} {a k : Nat} : sgn n (a * 2 ^ k) = sgn n a * 2 ^ k := by
  rw [pow2_cast]
  generalize 2 ^ k = P
  cases n
  · exact Int.natCast_mul a P
  · show -((a * P : Nat) : Int) = -(a : Int) * (P : Int)
    rw [Int.natCast_mul, Int.neg_mul]
theorem shr_pos_ {a k : Nat} : sgn false a / 2 ^ k = sgn false (a / 2 ^ k) := by
  rw [pow2_cast]; rfl
theorem shr_exact {a k : Nat} (h : a / 2 ^ k * 2 ^ k = a) : sgn true a / 2 ^ k = sgn true (a / 2 ^ k) := by
  have hp := Nat.two_pow_pos k
  have h0 : a % 2 ^ k = 0 := by have := Nat.div_add_mod a (2 ^ k); rw [Nat.mul_comm] at this; omega
  have := (dm_neg (a := a) hp h0).1
  rw [pow2_cast]
  exact this
theorem shr_inexact {a k : Nat} (h : ¬ a / 2 ^ k * 2 ^ k = a) : sgn true a / 2 ^ k = sgn true (a / 2 ^ k + 1) := by
  have hp := Nat.two_pow_pos k
  have h0 : 0 < a % 2 ^ k := by
    rcases Nat.eq_zero_or_pos (a % 2 ^ k) with h1 | h1
    · exfalso; apply h; have := Nat.div_add_mod a (2 ^ k); rw [Nat.mul_comm] at this; omega
    · exact h1
  have := (dm_low (a := a) hp h0).1
  rw [pow2_cast]
  refine this.trans ?_
  show -((a / 2 ^ k : Nat) : Int) - 1 = -((a / 2 ^ k + 1 : Nat) : Int)
  omega
theorem cmpN_eqz {a b : Nat} : (cmpN a b = 0) ↔ a = b := by
  unfold cmpN
  by_cases h1 : a < b
  · rw [if_pos h1]; constructor <;> intro h <;> omega
  · by_cases h2 : b < a
    · rw [if_neg h1, if_pos h2]; constructor <;> intro h <;> omega
    · rw [if_neg h1, if_neg h2]; constructor <;> intro h <;> omega
theorem len_upn {a k m : Nat} (h : (wds a).length ≤ m) : (wds (a * 2 ^ k)).length ≤ m + k := by
  refine len_wds ?_
  have h1 := lt_of_len h
  rw [Nat.pow_add]
  have h2 : (2 : Nat) ^ k ≤ 4294967296 ^ k := Nat.pow_le_pow_left (by decide) _
  exact Nat.mul_lt_mul_of_lt_of_le h1 h2 (Nat.pow_pos (by decide))
set_option maxRecDepth 100000 in
set_option maxHeartbeats 4000000 in
theorem rshift_up {w : World} {na : Bool} {sa : ByteArray} {n : Nat} (ha : Fmd sa) (hn : n ≤ 131072) :
    Calls Try.prog 24 #[.agg #[.bool na, .string sa], .int .i64 (n : Int)] w (Calm w (enc (shf (num (na, sa)) (n : Int)))) := by
  obtain ⟨zs, zb, ez⟩ : ∃ s b, enc (shf (num (na, sa)) (n : Int)) = .agg #[.bool s, .string b] := ⟨_, _, rfl⟩
  have HA := Lib.hid (fun W : World => words_any (w := W) (by have := ha.2; omega) ha.1)
  have Hla := Lib.hid ha.len
  obtain ⟨a, hae⟩ : ∃ a, a = bval sa.data.toList := ⟨_, rfl⟩
  rw [← hae] at HA Hla
  have Hnum := Lib.hid (show num (na, sa) = sgn na a from by rw [hae]; rfl)
  have Hz := Lib.hid (show shf (num (na, sa)) (n : Int) = sgn na (a * 2 ^ n) by rw [Hnum.out, shl_sgn]; unfold shf; rw [if_pos (by omega)]; rfl)
  clear hae
  have E0 := Lib.hid (Env.nil w)
  go_enter Try.func24, Try.ntmps24
  go_upto_region 1 with fail
  have E1 : Hid (Env w ((w.alloc (.cells #[.bool na, .string sa] 26)).alloc (.cells #[.bool false, .string ⟨#[]⟩] 26)) [(w.heap.size + 1, 26, #[.bool false, .string ⟨#[]⟩]), (w.heap.size, 26, #[.bool na, .string sa])]) := Lib.hid (by have h := (Env.new (Env.new E0.out 26 #[.bool na, .string sa]) 26 #[.bool false, .string ⟨#[]⟩]); (try simp only [World.size_alloc] at h); exact h)
  generalize ((w.alloc (.cells #[.bool na, .string sa] 26)).alloc (.cells #[.bool false, .string ⟨#[]⟩] 26)) = W1 at E1 ⊢
  have q1 := (Env.at_ E1.out 1 rfl).cell 1
  simp at q1
  have hn0 : (0 : Int) ≤ (n : Int) := by omega
  go_wp2_with fail
  refine (HA.out _).mono ?_
  rintro e V1 ⟨A1, m1, c1, rfl, hm, hmc, hcl, hr, hb⟩
  have F1 := Lib.hid (Env.call E1.out hb)
  have R1 := Lib.hid (And.intro hm.out (And.intro hmc (And.intro hcl hr)))
  have hbl := Lib.hid hb
  clear hm hmc hcl hr hb
  clear q1
  go_upto_region 3 with fail
  have Cf3 := Lib.hid (fun (W : World) (h : Env w W [(w.heap.size + 1, 26, #[.bool false, .string ⟨#[]⟩]), (w.heap.size, 26, #[.bool na, .string sa])]) => (show W.cell? ⟨w.heap.size, 0, none⟩ = some (.bool na) ∧ W.cell? ⟨w.heap.size, 1, none⟩ = some (.string sa) from ⟨(Env.at_ h 1 rfl).cell 0, (Env.at_ h 1 rfl).cell 1⟩))
  refine wp_region_noPanic ?_
  refine wp_region_HK (fun w' => w'.cell? ⟨w.heap.size, 0, none⟩ = some (.bool na) ∧ w'.cell? ⟨w.heap.size, 1, none⟩ = some (.string sa)) 6 (by kernel_rfl) (Cf3.out _ F1.out.drew) (fun hHeld => ?_)
  refine wpHK_pure (i := 0) (oi := Oper.mk (some 12) _ _ _ _ _) (v := ?_) rfl (by kernel_rfl) (by kernel_rfl) (by kernel_rfl) (fun _ _ _ h => h) (Or.inl ⟨by rfl, ?_⟩) ?_
  rotate_left
  · (intro w' _; go_simp; try with_reducible rfl)
  try simp only [Act.put, List.setIfInBounds_toArray, List.set_cons_zero, List.set_cons_succ]
  refine wpHK_pure (i := 2) (oi := Oper.mk (some 14) _ _ _ _ _) (v := ?_) rfl (by kernel_rfl) (by kernel_rfl) (by kernel_rfl) (fun _ _ _ h => h) (Or.inl ⟨by rfl, ?_⟩) ?_
  rotate_left
  · (intro w' _; go_simp; try with_reducible rfl)
  try simp only [Act.put, List.setIfInBounds_toArray, List.set_cons_zero, List.set_cons_succ]
  refine wpHK_pure (i := 3) (oi := Oper.mk (some 15) _ _ _ _ _) (v := ?_) rfl (by kernel_rfl) (by kernel_rfl) (by kernel_rfl) (fun _ _ _ h => h) (Or.inl ⟨by rfl, ?_⟩) ?_
  rotate_left
  · (intro w' _; go_simp; try with_reducible rfl)
  try simp only [Act.put, List.setIfInBounds_toArray, List.set_cons_zero, List.set_cons_succ]
  refine wpHK_take (i := 1) (oi := Oper.mk (some 13) _ _ _ _ _) (v := ?_) rfl (by kernel_rfl) (by kernel_rfl) (by kernel_rfl) (by kernel_rfl) (fun _ _ _ h => h) (Or.inl ⟨by rfl, ?_⟩) (by assumption) ?_
  rotate_left
  · (intro w' hSw; (try dsimp only at hSw); (obtain ⟨s0, s1⟩ := hSw); go_simp; try with_reducible rfl)
  try simp only [Act.put, List.setIfInBounds_toArray, List.set_cons_zero, List.set_cons_succ]
  refine wpHK_one (j := 4) (o := Oper.mk (some 16) _ _ _ _ _) rfl (by kernel_rfl) (fun K hK => ?_)
  go_simp
  refine (rup_any (w := V1.drew) (n := n) R1.out.2.2.2 (Nat.le_refl _) R1.out.1 (by have := R1.out.1; have := Hla.out; omega) (by omega) (wd_w _)).mono ?_
  rintro e V3 ⟨A3, m3, c3, rfl, hm, hmc, hcl, hr, hb⟩
  simp only [val_w] at hm hr
  have F3 := Lib.hid (Env.call F1.out.drew hb)
  have R3 := Lib.hid (And.intro hm.out (And.intro hmc (And.intro hcl hr)))
  clear hm hmc hcl hr hb
  refine hK.out _ _ (Cf3.out _ F3.out) (fun _ => ?_)
  clear hK K hHeld
  have hHeld := (Cf3.out _ F3.out)
  try simp only [Act.put, List.setIfInBounds_toArray, List.set_cons_zero, List.set_cons_succ]
  refine wpHK_one (j := 5) (o := Oper.mk (some 17) _ _ _ _ _) rfl (by kernel_rfl) (fun K hK => ?_)
  go_simp
  have HM := made_any (w := _) (neg := na) R3.out.2.2.2 (Nat.le_refl _) R3.out.1 R3.out.2.1 R3.out.2.2.1 (by have h1 := R3.out.1; have h2 := len_upn (k := n) Hla.out; omega) (wd_w _)
  rw [val_w, ← Hz.out, ez] at HM
  refine HM.mono ?_
  rintro e V4 ⟨rfl, hb⟩
  have F4 := Lib.hid (Env.call F3.out hb)
  clear hb HM
  refine hK.out _ _ (Cf3.out _ F4.out) (fun _ => ?_)
  clear hK K hHeld
  have hHeld := (Cf3.out _ F4.out)
  try simp only [Act.put, List.setIfInBounds_toArray, List.set_cons_zero, List.set_cons_succ]
  refine wpHK_tail (j := 6) (o := Oper.mk (none) _ _ _ _ _) rfl (by kernel_rfl) (by decide) (fun K hK => ?_)
  have n4 := Env.at_ F4.out 0 rfl
  have y0 := n4.cell 0
  have y1 := n4.cell 1
  have y2 := n4.frozen 0
  have y3 := n4.frozen 1
  simp at y0 y1
  go_simp
  refine hK.out _ _ ?_
  clear hK K
  try simp only [Act.put, List.setIfInBounds_toArray, List.set_cons_zero, List.set_cons_succ]
  refine wpHK_done (by kernel_rfl) ?_ _
  refine NoPanic.normal ?_
  go_wp2_with fail
  have n5 := ((Env.at_ F4.out 0 rfl).set_ 0 (.bool zs)).set_ 1 (.string zb)
  have d0 := n5.cell 0
  have d1 := n5.cell 1
  simp at d0 d1
  refine bodyPost_ret (v := .agg #[.bool zs, .string zb]) (by simp [results, Try.results24, go_sem, d0, d1]) rfl ?_
  exact ⟨by rw [ez], ((F4.out.1).setCell (by show w.heap.size ≤ w.heap.size + 1; omega) _).setCell (by show w.heap.size ≤ w.heap.size + 1; omega) _⟩
theorem shf_farr {x n : Int} {j k : Nat} (hx : bl x.natAbs ≤ j) (hn : n < -(j : Int)) (hk : k = j + 1) : shf x n = x / 2 ^ k := by
  subst hk
  rw [shr_far (bl_lt.1 hx) (show j ≤ j + 1 by omega)]
  unfold shf
  rw [if_neg (by omega), shr_far (bl_lt.1 hx) (show j ≤ (-n).toNat by omega)]
set_option maxRecDepth 100000 in
set_option maxHeartbeats 4000000 in
theorem rshift_near_pos {w : World} {na : Bool} {sa : ByteArray} {k : Nat} (ha : Fmd sa) (hs : sa.size ≤ 16384) (hk0 : 0 < k) (hk : k ≤ 8 * sa.size) (hna : na = false) :
    Calls Try.prog 24 #[.agg #[.bool na, .string sa], .int .i64 (-(k : Int))] w (Calm w (enc (shf (num (na, sa)) (-(k : Int))))) := by
  obtain ⟨zs, zb, ez⟩ : ∃ s b, enc (shf (num (na, sa)) (-(k : Int))) = .agg #[.bool s, .string b] := ⟨_, _, rfl⟩
  have HA := Lib.hid (fun W : World => words_any (w := W) (by have := ha.2; omega) ha.1)
  have Hla := Lib.hid ha.len
  obtain ⟨a, hae⟩ : ∃ a, a = bval sa.data.toList := ⟨_, rfl⟩
  rw [← hae] at HA Hla
  have Hnum := Lib.hid (show num (na, sa) = sgn na a from by rw [hae]; rfl)
  have Hz := Lib.hid (show shf (num (na, sa)) (-(k : Int)) = sgn false (a / 2 ^ k) by
    have h1 : shf (num (na, sa)) (-(k : Int)) = num (na, sa) / 2 ^ k := by unfold shf; rw [if_neg (by omega), Int.neg_neg]; rfl
    rw [h1, Hnum.out, hna]
    exact shr_pos_)
  subst hna
  clear hae
  have E0 := Lib.hid (Env.nil w)
  go_enter Try.func24, Try.ntmps24
  go_upto_region 1 with fail
  have E1 : Hid (Env w ((w.alloc (.cells #[.bool false, .string sa] 26)).alloc (.cells #[.bool false, .string ⟨#[]⟩] 26)) [(w.heap.size + 1, 26, #[.bool false, .string ⟨#[]⟩]), (w.heap.size, 26, #[.bool false, .string sa])]) := Lib.hid (by have h := (Env.new (Env.new E0.out 26 #[.bool false, .string sa]) 26 #[.bool false, .string ⟨#[]⟩]); (try simp only [World.size_alloc] at h); exact h)
  generalize ((w.alloc (.cells #[.bool false, .string sa] 26)).alloc (.cells #[.bool false, .string ⟨#[]⟩] 26)) = W1 at E1 ⊢
  have q0 := (Env.at_ E1.out 1 rfl).cell 0
  have q1 := (Env.at_ E1.out 1 rfl).cell 1
  simp at q0 q1
  have hn0 : -(k : Int) < 0 := by omega
  have hn1 : -8 * (sa.size : Int) ≤ -(k : Int) := by omega
  have hk1 : k ≤ 131073 := by omega
  go_wp2_with fail
  refine (HA.out _).mono ?_
  rintro e V1 ⟨A1, m1, c1, rfl, hm, hmc, hcl, hr, hb⟩
  have F1 := Lib.hid (Env.call E1.out hb)
  have R1 := Lib.hid (And.intro hm.out (And.intro hmc (And.intro hcl hr)))
  have hbl := Lib.hid hb
  clear hm hmc hcl hr hb
  clear q0 q1
  have q0 := (Env.at_ F1.out 1 rfl).cell 0
  have q1 := (Env.at_ F1.out 1 rfl).cell 1
  simp at q0 q1
  go_upto_region 6 with fail
  clear hn0 hn1 hk
  have HD := Lib.hid (rdown_any (w := V1) (c := c1) (n := k) R1.out.2.2.2 (Nat.le_refl _) R1.out.1 (by have := R1.out.1; have := Hla.out; omega) (by omega) (wd_w _))
  go_wp2_with fail
  (try rw [Int.neg_neg])
  refine HD.out.mono ?_
  rintro e V2 ⟨A2, m2, c2, rfl, hm, hmc, hcl, hr, hb⟩
  simp only [val_w] at hm hr
  have F2 := Lib.hid (Env.call F1.out hb)
  have R2 := Lib.hid (And.intro hm.out (And.intro hmc (And.intro hcl hr)))
  have R1' := Lib.hid (And.intro R1.out.1 (And.intro R1.out.2.1 (And.intro R1.out.2.2.1 ((R1.out.2.2.2.below hb).more hb.size))))
  clear R1 hm hmc hcl hr hb q0 q1 HD
  have HL2 := Lib.hid (len_mono (Nat.div_le_self a (2 ^ k)))
  have q0 := (Env.at_ F2.out 1 rfl).cell 0
  simp at q0
  have HM := made_any (neg := false) R2.out.2.2.2 (Nat.le_refl _) R2.out.1 R2.out.2.1 R2.out.2.2.1 (by have h1 := R2.out.1; have h2 := Hla.out; have h3 := HL2.out; omega) (wd_w _)
  rw [val_w, ← Hz.out, ez] at HM
  have HM' := Lib.hid HM
  clear HM
  go_wp2_with fail
  refine HM'.out.mono ?_
  rintro e V9 ⟨rfl, hb⟩
  have F9 := Lib.hid (Env.call F2.out hb)
  clear hb q0
  have n4 := Env.at_ F9.out 0 rfl
  have y0 := n4.cell 0
  have y1 := n4.cell 1
  have y2 := n4.frozen 0
  have y3 := n4.frozen 1
  simp at y0 y1
  clear n4
  go_wp2_with fail
  have n5 := ((Env.at_ F9.out 0 rfl).set_ 0 (.bool zs)).set_ 1 (.string zb)
  have d0 := n5.cell 0
  have d1 := n5.cell 1
  simp at d0 d1
  refine bodyPost_ret (v := .agg #[.bool zs, .string zb]) (by simp [results, Try.results24, go_sem, d0, d1]) rfl ?_
  exact ⟨by rw [ez], ((F9.out.1).setCell (by show w.heap.size ≤ w.heap.size + 1; omega) _).setCell (by show w.heap.size ≤ w.heap.size + 1; omega) _⟩
set_option maxRecDepth 100000 in
set_option maxHeartbeats 4000000 in
theorem rshift_near_exact {w : World} {na : Bool} {sa : ByteArray} {k : Nat} (ha : Fmd sa) (hs : sa.size ≤ 16384) (hk0 : 0 < k) (hk : k ≤ 8 * sa.size) (hna : na = true) (hx : bval sa.data.toList / 2 ^ k * 2 ^ k = bval sa.data.toList) :
    Calls Try.prog 24 #[.agg #[.bool na, .string sa], .int .i64 (-(k : Int))] w (Calm w (enc (shf (num (na, sa)) (-(k : Int))))) := by
  obtain ⟨zs, zb, ez⟩ : ∃ s b, enc (shf (num (na, sa)) (-(k : Int))) = .agg #[.bool s, .string b] := ⟨_, _, rfl⟩
  have HA := Lib.hid (fun W : World => words_any (w := W) (by have := ha.2; omega) ha.1)
  have Hla := Lib.hid ha.len
  obtain ⟨a, hae⟩ : ∃ a, a = bval sa.data.toList := ⟨_, rfl⟩
  rw [← hae] at HA Hla
  have Hnum := Lib.hid (show num (na, sa) = sgn na a from by rw [hae]; rfl)
  have Hz := Lib.hid (show shf (num (na, sa)) (-(k : Int)) = sgn true (a / 2 ^ k) by
    have h1 : shf (num (na, sa)) (-(k : Int)) = num (na, sa) / 2 ^ k := by unfold shf; rw [if_neg (by omega), Int.neg_neg]; rfl
    rw [h1, Hnum.out, hna]
    exact shr_exact (by rw [hae]; exact hx))
  rw [← hae] at hx
  have Hx := Lib.hid hx
  clear hx
  subst hna
  clear hae
  have E0 := Lib.hid (Env.nil w)
  go_enter Try.func24, Try.ntmps24
  go_upto_region 1 with fail
  have E1 : Hid (Env w ((w.alloc (.cells #[.bool true, .string sa] 26)).alloc (.cells #[.bool false, .string ⟨#[]⟩] 26)) [(w.heap.size + 1, 26, #[.bool false, .string ⟨#[]⟩]), (w.heap.size, 26, #[.bool true, .string sa])]) := Lib.hid (by have h := (Env.new (Env.new E0.out 26 #[.bool true, .string sa]) 26 #[.bool false, .string ⟨#[]⟩]); (try simp only [World.size_alloc] at h); exact h)
  generalize ((w.alloc (.cells #[.bool true, .string sa] 26)).alloc (.cells #[.bool false, .string ⟨#[]⟩] 26)) = W1 at E1 ⊢
  have q0 := (Env.at_ E1.out 1 rfl).cell 0
  have q1 := (Env.at_ E1.out 1 rfl).cell 1
  simp at q0 q1
  have hn0 : -(k : Int) < 0 := by omega
  have hn1 : -8 * (sa.size : Int) ≤ -(k : Int) := by omega
  have hk1 : k ≤ 131073 := by omega
  go_wp2_with fail
  refine (HA.out _).mono ?_
  rintro e V1 ⟨A1, m1, c1, rfl, hm, hmc, hcl, hr, hb⟩
  have F1 := Lib.hid (Env.call E1.out hb)
  have R1 := Lib.hid (And.intro hm.out (And.intro hmc (And.intro hcl hr)))
  have hbl := Lib.hid hb
  clear hm hmc hcl hr hb
  clear q0 q1
  have q0 := (Env.at_ F1.out 1 rfl).cell 0
  have q1 := (Env.at_ F1.out 1 rfl).cell 1
  simp at q0 q1
  go_upto_region 6 with fail
  clear hn0 hn1 hk
  have HD := Lib.hid (rdown_any (w := V1) (c := c1) (n := k) R1.out.2.2.2 (Nat.le_refl _) R1.out.1 (by have := R1.out.1; have := Hla.out; omega) (by omega) (wd_w _))
  go_wp2_with fail
  (try rw [Int.neg_neg])
  refine HD.out.mono ?_
  rintro e V2 ⟨A2, m2, c2, rfl, hm, hmc, hcl, hr, hb⟩
  simp only [val_w] at hm hr
  have F2 := Lib.hid (Env.call F1.out hb)
  have R2 := Lib.hid (And.intro hm.out (And.intro hmc (And.intro hcl hr)))
  have R1' := Lib.hid (And.intro R1.out.1 (And.intro R1.out.2.1 (And.intro R1.out.2.2.1 ((R1.out.2.2.2.below hb).more hb.size))))
  clear R1 hm hmc hcl hr hb q0 q1 HD
  have HL2 := Lib.hid (len_mono (Nat.div_le_self a (2 ^ k)))
  have q0 := (Env.at_ F2.out 1 rfl).cell 0
  simp at q0
  have HUp := Lib.hid (rup_any (w := V2) (c := c2) (n := k) R2.out.2.2.2 (Nat.le_refl _) R2.out.1 (by have := R2.out.1; have := Hla.out; have := HL2.out; omega) (by omega) (wd_w _))
  go_wp2_with fail
  (try rw [Int.neg_neg])
  refine HUp.out.mono ?_
  rintro e V3 ⟨A3, m3, c3, rfl, hm, hmc, hcl, hr, hb⟩
  simp only [val_w] at hm hr
  have F3 := Lib.hid (Env.call F2.out hb)
  have hU := runder_any (c := c3) (d := c1) hr ((R1'.out.2.2.2.below hb).more hb.size) hm.out R1'.out.1 (by have h1 := hm.out; have h2 := len_mono (Nat.div_mul_le_self a (2 ^ k)); have := Hla.out; omega) (by have := R1'.out.1; have := Hla.out; omega)
  have R2' := Lib.hid (And.intro R2.out.1 (And.intro R2.out.2.1 (And.intro R2.out.2.2.1 ((R2.out.2.2.2.below hb).more hb.size))))
  clear R2 hm hmc hcl hr hb q0
  obtain ⟨zc, hzc⟩ : ∃ zc, zc = cmpN (a / 2 ^ k * 2 ^ k) a := ⟨_, rfl⟩
  rw [← hzc] at hU
  have HU := Lib.hid hU
  clear hU
  have q0 := (Env.at_ F3.out 1 rfl).cell 0
  simp at q0
  have hz0 : zc = 0 := by rw [hzc]; exact cmpN_eqz.2 Hx.out
  subst hz0
  clear hzc
  go_wp2_with fail
  refine HU.out.mono ?_
  rintro e V4 ⟨q, rfl, rfl⟩
  have F4 := Lib.hid (F3.out.drewN q)
  have R4 := Lib.hid (And.intro R2'.out.1 (And.intro R2'.out.2.1 (And.intro R2'.out.2.2.1 (R2'.out.2.2.2.drewN q))))
  clear R2' q0 HU
  have q0 := (Env.at_ F4.out 1 rfl).cell 0
  simp at q0
  have HM := made_any (neg := true) R4.out.2.2.2 (Nat.le_refl _) R4.out.1 R4.out.2.1 R4.out.2.2.1 (by have h1 := R4.out.1; have h2 := Hla.out; have h3 := HL2.out; omega) (wd_w _)
  rw [val_w, ← Hz.out, ez] at HM
  have HM' := Lib.hid HM
  clear HM
  go_wp2_with fail
  refine HM'.out.mono ?_
  rintro e V9 ⟨rfl, hb⟩
  have F9 := Lib.hid (Env.call F4.out hb)
  clear hb q0
  have n4 := Env.at_ F9.out 0 rfl
  have y0 := n4.cell 0
  have y1 := n4.cell 1
  have y2 := n4.frozen 0
  have y3 := n4.frozen 1
  simp at y0 y1
  clear n4
  go_wp2_with fail
  have n5 := ((Env.at_ F9.out 0 rfl).set_ 0 (.bool zs)).set_ 1 (.string zb)
  have d0 := n5.cell 0
  have d1 := n5.cell 1
  simp at d0 d1
  refine bodyPost_ret (v := .agg #[.bool zs, .string zb]) (by simp [results, Try.results24, go_sem, d0, d1]) rfl ?_
  exact ⟨by rw [ez], ((F9.out.1).setCell (by show w.heap.size ≤ w.heap.size + 1; omega) _).setCell (by show w.heap.size ≤ w.heap.size + 1; omega) _⟩
set_option maxRecDepth 100000 in
set_option maxHeartbeats 4000000 in
theorem rshift_near_inexact {w : World} {na : Bool} {sa : ByteArray} {k : Nat} (ha : Fmd sa) (hs : sa.size ≤ 16384) (hk0 : 0 < k) (hk : k ≤ 8 * sa.size) (hna : na = true) (hx : ¬ bval sa.data.toList / 2 ^ k * 2 ^ k = bval sa.data.toList) :
    Calls Try.prog 24 #[.agg #[.bool na, .string sa], .int .i64 (-(k : Int))] w (Calm w (enc (shf (num (na, sa)) (-(k : Int))))) := by
  obtain ⟨zs, zb, ez⟩ : ∃ s b, enc (shf (num (na, sa)) (-(k : Int))) = .agg #[.bool s, .string b] := ⟨_, _, rfl⟩
  have HA := Lib.hid (fun W : World => words_any (w := W) (by have := ha.2; omega) ha.1)
  have Hla := Lib.hid ha.len
  obtain ⟨a, hae⟩ : ∃ a, a = bval sa.data.toList := ⟨_, rfl⟩
  rw [← hae] at HA Hla
  have Hnum := Lib.hid (show num (na, sa) = sgn na a from by rw [hae]; rfl)
  have Hz := Lib.hid (show shf (num (na, sa)) (-(k : Int)) = sgn true (a / 2 ^ k + 1) by
    have h1 : shf (num (na, sa)) (-(k : Int)) = num (na, sa) / 2 ^ k := by unfold shf; rw [if_neg (by omega), Int.neg_neg]; rfl
    rw [h1, Hnum.out, hna]
    exact shr_inexact (by rw [hae]; exact hx))
  rw [← hae] at hx
  have Hx := Lib.hid hx
  clear hx
  subst hna
  clear hae
  have E0 := Lib.hid (Env.nil w)
  go_enter Try.func24, Try.ntmps24
  go_upto_region 1 with fail
  have E1 : Hid (Env w ((w.alloc (.cells #[.bool true, .string sa] 26)).alloc (.cells #[.bool false, .string ⟨#[]⟩] 26)) [(w.heap.size + 1, 26, #[.bool false, .string ⟨#[]⟩]), (w.heap.size, 26, #[.bool true, .string sa])]) := Lib.hid (by have h := (Env.new (Env.new E0.out 26 #[.bool true, .string sa]) 26 #[.bool false, .string ⟨#[]⟩]); (try simp only [World.size_alloc] at h); exact h)
  generalize ((w.alloc (.cells #[.bool true, .string sa] 26)).alloc (.cells #[.bool false, .string ⟨#[]⟩] 26)) = W1 at E1 ⊢
  have q0 := (Env.at_ E1.out 1 rfl).cell 0
  have q1 := (Env.at_ E1.out 1 rfl).cell 1
  simp at q0 q1
  have hn0 : -(k : Int) < 0 := by omega
  have hn1 : -8 * (sa.size : Int) ≤ -(k : Int) := by omega
  have hk1 : k ≤ 131073 := by omega
  go_wp2_with fail
  refine (HA.out _).mono ?_
  rintro e V1 ⟨A1, m1, c1, rfl, hm, hmc, hcl, hr, hb⟩
  have F1 := Lib.hid (Env.call E1.out hb)
  have R1 := Lib.hid (And.intro hm.out (And.intro hmc (And.intro hcl hr)))
  have hbl := Lib.hid hb
  clear hm hmc hcl hr hb
  clear q0 q1
  have q0 := (Env.at_ F1.out 1 rfl).cell 0
  have q1 := (Env.at_ F1.out 1 rfl).cell 1
  simp at q0 q1
  go_upto_region 6 with fail
  clear hn0 hn1 hk
  have HD := Lib.hid (rdown_any (w := V1) (c := c1) (n := k) R1.out.2.2.2 (Nat.le_refl _) R1.out.1 (by have := R1.out.1; have := Hla.out; omega) (by omega) (wd_w _))
  go_wp2_with fail
  (try rw [Int.neg_neg])
  refine HD.out.mono ?_
  rintro e V2 ⟨A2, m2, c2, rfl, hm, hmc, hcl, hr, hb⟩
  simp only [val_w] at hm hr
  have F2 := Lib.hid (Env.call F1.out hb)
  have R2 := Lib.hid (And.intro hm.out (And.intro hmc (And.intro hcl hr)))
  have R1' := Lib.hid (And.intro R1.out.1 (And.intro R1.out.2.1 (And.intro R1.out.2.2.1 ((R1.out.2.2.2.below hb).more hb.size))))
  clear R1 hm hmc hcl hr hb q0 q1 HD
  have HL2 := Lib.hid (len_mono (Nat.div_le_self a (2 ^ k)))
  have q0 := (Env.at_ F2.out 1 rfl).cell 0
  simp at q0
  have HUp := Lib.hid (rup_any (w := V2) (c := c2) (n := k) R2.out.2.2.2 (Nat.le_refl _) R2.out.1 (by have := R2.out.1; have := Hla.out; have := HL2.out; omega) (by omega) (wd_w _))
  go_wp2_with fail
  (try rw [Int.neg_neg])
  refine HUp.out.mono ?_
  rintro e V3 ⟨A3, m3, c3, rfl, hm, hmc, hcl, hr, hb⟩
  simp only [val_w] at hm hr
  have F3 := Lib.hid (Env.call F2.out hb)
  have hU := runder_any (c := c3) (d := c1) hr ((R1'.out.2.2.2.below hb).more hb.size) hm.out R1'.out.1 (by have h1 := hm.out; have h2 := len_mono (Nat.div_mul_le_self a (2 ^ k)); have := Hla.out; omega) (by have := R1'.out.1; have := Hla.out; omega)
  have R2' := Lib.hid (And.intro R2.out.1 (And.intro R2.out.2.1 (And.intro R2.out.2.2.1 ((R2.out.2.2.2.below hb).more hb.size))))
  clear R2 hm hmc hcl hr hb q0
  obtain ⟨zc, hzc⟩ : ∃ zc, zc = cmpN (a / 2 ^ k * 2 ^ k) a := ⟨_, rfl⟩
  rw [← hzc] at hU
  have HU := Lib.hid hU
  clear hU
  have q0 := (Env.at_ F3.out 1 rfl).cell 0
  simp at q0
  have hz0 : (zc == 0) = false := by rw [beq_eq_false_iff_ne, hzc]; exact fun h => Hx.out (cmpN_eqz.1 h)
  clear hzc
  go_wp2_with fail
  refine HU.out.mono ?_
  rintro e V4 ⟨q, rfl, rfl⟩
  have F4 := Lib.hid (F3.out.drewN q)
  have R4 := Lib.hid (And.intro R2'.out.1 (And.intro R2'.out.2.1 (And.intro R2'.out.2.2.1 (R2'.out.2.2.2.drewN q))))
  clear R2' q0 HU
  have q0 := (Env.at_ F4.out 1 rfl).cell 0
  simp at q0
  have HMo := Lib.hid (rmore_any (c := c2) (d := 1) (R4.out.2.2.2.alloc (Nat.le_refl _) (.cells (wcells [1]) 98) |>.more (Nat.le_succ _)) (reads_blk (Blk.new (V3.drewN q) 98 (wcells [1])) (Nat.lt_succ_self _)) (by simp) R4.out.1 (m := 1) rfl (by have := R4.out.1; have := Hla.out; have := HL2.out; omega) (by omega) (wd_w _) (wd_cons.2 ⟨by decide, wd_nil⟩))
  go_wp2_with fail
  refine HMo.out.mono ?_
  rintro e V6 ⟨A6, m6, c6, rfl, hm, hmc, hcl, hr, hb⟩
  simp only [val_w, val_single] at hm hr
  have F6 := Lib.hid (Env.call (Env.other F4.out (.cells (wcells [1]) 98)) hb)
  have R6 := Lib.hid (And.intro hm.out (And.intro hmc (And.intro hcl hr)))
  clear hm hmc hcl hr hb q0 HMo
  have q0 := (Env.at_ F6.out 1 rfl).cell 0
  simp at q0
  have HM := made_any (neg := true) R6.out.2.2.2 (Nat.le_refl _) R6.out.1 R6.out.2.1 R6.out.2.2.1 (by have h1 := R6.out.1; have h2 := Hla.out; have h3 := HL2.out; have h4 := len_sumN (a := a / 2 ^ k) (b := 1) (p := 25000001) (by omega) (Nat.le_trans (len_wds (k := 1) (by decide)) (by omega)); omega) (wd_w _)
  rw [val_w, ← Hz.out, ez] at HM
  have HM' := Lib.hid HM
  clear HM
  go_wp2_with fail
  refine HM'.out.mono ?_
  rintro e V9 ⟨rfl, hb⟩
  have F9 := Lib.hid (Env.call F6.out hb)
  clear hb q0
  have n4 := Env.at_ F9.out 0 rfl
  have y0 := n4.cell 0
  have y1 := n4.cell 1
  have y2 := n4.frozen 0
  have y3 := n4.frozen 1
  simp at y0 y1
  clear n4
  go_wp2_with fail
  have n5 := ((Env.at_ F9.out 0 rfl).set_ 0 (.bool zs)).set_ 1 (.string zb)
  have d0 := n5.cell 0
  have d1 := n5.cell 1
  simp at d0 d1
  refine bodyPost_ret (v := .agg #[.bool zs, .string zb]) (by simp [results, Try.results24, go_sem, d0, d1]) rfl ?_
  exact ⟨by rw [ez], ((F9.out.1).setCell (by show w.heap.size ≤ w.heap.size + 1; omega) _).setCell (by show w.heap.size ≤ w.heap.size + 1; omega) _⟩
set_option maxRecDepth 100000 in
set_option maxHeartbeats 4000000 in
theorem rshift_far_pos {w : World} {na : Bool} {sa : ByteArray} {k : Nat} {n : Int} (ha : Fmd sa) (hs : sa.size ≤ 16384) (hn : n < -(8 * (sa.size : Int))) (hk : k = 8 * sa.size + 1) (hna : na = false) :
    Calls Try.prog 24 #[.agg #[.bool na, .string sa], .int .i64 n] w (Calm w (enc (shf (num (na, sa)) n))) := by
  obtain ⟨zs, zb, ez⟩ : ∃ s b, enc (shf (num (na, sa)) n) = .agg #[.bool s, .string b] := ⟨_, _, rfl⟩
  have HA := Lib.hid (fun W : World => words_any (w := W) (by have := ha.2; omega) ha.1)
  have Hla := Lib.hid ha.len
  obtain ⟨a, hae⟩ : ∃ a, a = bval sa.data.toList := ⟨_, rfl⟩
  rw [← hae] at HA Hla
  have Hnum := Lib.hid (show num (na, sa) = sgn na a from by rw [hae]; rfl)
  have Hz := Lib.hid (show shf (num (na, sa)) n = sgn false (a / 2 ^ k) by
    have h1 : shf (num (na, sa)) n = num (na, sa) / 2 ^ k := shf_farr (j := 8 * sa.size) (by rw [Hnum.out, sgn_abs, hae]; exact fits_len (by have hl : sa.data.toList.length = sa.size := Array.length_toList; omega)) (by omega) (by omega)
    rw [h1, Hnum.out, hna]
    exact shr_pos_)
  subst hna
  clear hae
  have E0 := Lib.hid (Env.nil w)
  go_enter Try.func24, Try.ntmps24
  go_upto_region 1 with fail
  have E1 : Hid (Env w ((w.alloc (.cells #[.bool false, .string sa] 26)).alloc (.cells #[.bool false, .string ⟨#[]⟩] 26)) [(w.heap.size + 1, 26, #[.bool false, .string ⟨#[]⟩]), (w.heap.size, 26, #[.bool false, .string sa])]) := Lib.hid (by have h := (Env.new (Env.new E0.out 26 #[.bool false, .string sa]) 26 #[.bool false, .string ⟨#[]⟩]); (try simp only [World.size_alloc] at h); exact h)
  generalize ((w.alloc (.cells #[.bool false, .string sa] 26)).alloc (.cells #[.bool false, .string ⟨#[]⟩] 26)) = W1 at E1 ⊢
  have q0 := (Env.at_ E1.out 1 rfl).cell 0
  have q1 := (Env.at_ E1.out 1 rfl).cell 1
  simp at q0 q1
  have hn0 : n < 0 := by omega
  have hn1 : n < -8 * (sa.size : Int) := by omega
  have hk1 : k ≤ 131073 := by omega
  go_wp2_with fail
  refine (HA.out _).mono ?_
  rintro e V1 ⟨A1, m1, c1, rfl, hm, hmc, hcl, hr, hb⟩
  have F1 := Lib.hid (Env.call E1.out hb)
  have R1 := Lib.hid (And.intro hm.out (And.intro hmc (And.intro hcl hr)))
  have hbl := Lib.hid hb
  clear hm hmc hcl hr hb
  clear q0 q1
  have q0 := (Env.at_ F1.out 1 rfl).cell 0
  have q1 := (Env.at_ F1.out 1 rfl).cell 1
  simp at q0 q1
  go_upto_region 6 with fail
  rw [show (-8 * (sa.size : Int) - 1) = -(k : Int) by omega]
  clear hn0 hn1 hk hn
  have HD := Lib.hid (rdown_any (w := V1) (c := c1) (n := k) R1.out.2.2.2 (Nat.le_refl _) R1.out.1 (by have := R1.out.1; have := Hla.out; omega) (by omega) (wd_w _))
  go_wp2_with fail
  (try rw [Int.neg_neg])
  refine HD.out.mono ?_
  rintro e V2 ⟨A2, m2, c2, rfl, hm, hmc, hcl, hr, hb⟩
  simp only [val_w] at hm hr
  have F2 := Lib.hid (Env.call F1.out hb)
  have R2 := Lib.hid (And.intro hm.out (And.intro hmc (And.intro hcl hr)))
  have R1' := Lib.hid (And.intro R1.out.1 (And.intro R1.out.2.1 (And.intro R1.out.2.2.1 ((R1.out.2.2.2.below hb).more hb.size))))
  clear R1 hm hmc hcl hr hb q0 q1 HD
  have HL2 := Lib.hid (len_mono (Nat.div_le_self a (2 ^ k)))
  have q0 := (Env.at_ F2.out 1 rfl).cell 0
  simp at q0
  have HM := made_any (neg := false) R2.out.2.2.2 (Nat.le_refl _) R2.out.1 R2.out.2.1 R2.out.2.2.1 (by have h1 := R2.out.1; have h2 := Hla.out; have h3 := HL2.out; omega) (wd_w _)
  rw [val_w, ← Hz.out, ez] at HM
  have HM' := Lib.hid HM
  clear HM
  go_wp2_with fail
  refine HM'.out.mono ?_
  rintro e V9 ⟨rfl, hb⟩
  have F9 := Lib.hid (Env.call F2.out hb)
  clear hb q0
  have n4 := Env.at_ F9.out 0 rfl
  have y0 := n4.cell 0
  have y1 := n4.cell 1
  have y2 := n4.frozen 0
  have y3 := n4.frozen 1
  simp at y0 y1
  clear n4
  go_wp2_with fail
  have n5 := ((Env.at_ F9.out 0 rfl).set_ 0 (.bool zs)).set_ 1 (.string zb)
  have d0 := n5.cell 0
  have d1 := n5.cell 1
  simp at d0 d1
  refine bodyPost_ret (v := .agg #[.bool zs, .string zb]) (by simp [results, Try.results24, go_sem, d0, d1]) rfl ?_
  exact ⟨by rw [ez], ((F9.out.1).setCell (by show w.heap.size ≤ w.heap.size + 1; omega) _).setCell (by show w.heap.size ≤ w.heap.size + 1; omega) _⟩
set_option maxRecDepth 100000 in
set_option maxHeartbeats 4000000 in
theorem rshift_far_exact {w : World} {na : Bool} {sa : ByteArray} {k : Nat} {n : Int} (ha : Fmd sa) (hs : sa.size ≤ 16384) (hn : n < -(8 * (sa.size : Int))) (hk : k = 8 * sa.size + 1) (hna : na = true) (hx : bval sa.data.toList / 2 ^ k * 2 ^ k = bval sa.data.toList) :
    Calls Try.prog 24 #[.agg #[.bool na, .string sa], .int .i64 n] w (Calm w (enc (shf (num (na, sa)) n))) := by
  obtain ⟨zs, zb, ez⟩ : ∃ s b, enc (shf (num (na, sa)) n) = .agg #[.bool s, .string b] := ⟨_, _, rfl⟩
  have HA := Lib.hid (fun W : World => words_any (w := W) (by have := ha.2; omega) ha.1)
  have Hla := Lib.hid ha.len
  obtain ⟨a, hae⟩ : ∃ a, a = bval sa.data.toList := ⟨_, rfl⟩
  rw [← hae] at HA Hla
  have Hnum := Lib.hid (show num (na, sa) = sgn na a from by rw [hae]; rfl)
  have Hz := Lib.hid (show shf (num (na, sa)) n = sgn true (a / 2 ^ k) by
    have h1 : shf (num (na, sa)) n = num (na, sa) / 2 ^ k := shf_farr (j := 8 * sa.size) (by rw [Hnum.out, sgn_abs, hae]; exact fits_len (by have hl : sa.data.toList.length = sa.size := Array.length_toList; omega)) (by omega) (by omega)
    rw [h1, Hnum.out, hna]
    exact shr_exact (by rw [hae]; exact hx))
  rw [← hae] at hx
  have Hx := Lib.hid hx
  clear hx
  subst hna
  clear hae
  have E0 := Lib.hid (Env.nil w)
  go_enter Try.func24, Try.ntmps24
  go_upto_region 1 with fail
  have E1 : Hid (Env w ((w.alloc (.cells #[.bool true, .string sa] 26)).alloc (.cells #[.bool false, .string ⟨#[]⟩] 26)) [(w.heap.size + 1, 26, #[.bool false, .string ⟨#[]⟩]), (w.heap.size, 26, #[.bool true, .string sa])]) := Lib.hid (by have h := (Env.new (Env.new E0.out 26 #[.bool true, .string sa]) 26 #[.bool false, .string ⟨#[]⟩]); (try simp only [World.size_alloc] at h); exact h)
  generalize ((w.alloc (.cells #[.bool true, .string sa] 26)).alloc (.cells #[.bool false, .string ⟨#[]⟩] 26)) = W1 at E1 ⊢
  have q0 := (Env.at_ E1.out 1 rfl).cell 0
  have q1 := (Env.at_ E1.out 1 rfl).cell 1
  simp at q0 q1
  have hn0 : n < 0 := by omega
  have hn1 : n < -8 * (sa.size : Int) := by omega
  have hk1 : k ≤ 131073 := by omega
  go_wp2_with fail
  refine (HA.out _).mono ?_
  rintro e V1 ⟨A1, m1, c1, rfl, hm, hmc, hcl, hr, hb⟩
  have F1 := Lib.hid (Env.call E1.out hb)
  have R1 := Lib.hid (And.intro hm.out (And.intro hmc (And.intro hcl hr)))
  have hbl := Lib.hid hb
  clear hm hmc hcl hr hb
  clear q0 q1
  have q0 := (Env.at_ F1.out 1 rfl).cell 0
  have q1 := (Env.at_ F1.out 1 rfl).cell 1
  simp at q0 q1
  go_upto_region 6 with fail
  rw [show (-8 * (sa.size : Int) - 1) = -(k : Int) by omega]
  clear hn0 hn1 hk hn
  have HD := Lib.hid (rdown_any (w := V1) (c := c1) (n := k) R1.out.2.2.2 (Nat.le_refl _) R1.out.1 (by have := R1.out.1; have := Hla.out; omega) (by omega) (wd_w _))
  go_wp2_with fail
  (try rw [Int.neg_neg])
  refine HD.out.mono ?_
  rintro e V2 ⟨A2, m2, c2, rfl, hm, hmc, hcl, hr, hb⟩
  simp only [val_w] at hm hr
  have F2 := Lib.hid (Env.call F1.out hb)
  have R2 := Lib.hid (And.intro hm.out (And.intro hmc (And.intro hcl hr)))
  have R1' := Lib.hid (And.intro R1.out.1 (And.intro R1.out.2.1 (And.intro R1.out.2.2.1 ((R1.out.2.2.2.below hb).more hb.size))))
  clear R1 hm hmc hcl hr hb q0 q1 HD
  have HL2 := Lib.hid (len_mono (Nat.div_le_self a (2 ^ k)))
  have q0 := (Env.at_ F2.out 1 rfl).cell 0
  simp at q0
  have HUp := Lib.hid (rup_any (w := V2) (c := c2) (n := k) R2.out.2.2.2 (Nat.le_refl _) R2.out.1 (by have := R2.out.1; have := Hla.out; have := HL2.out; omega) (by omega) (wd_w _))
  go_wp2_with fail
  (try rw [Int.neg_neg])
  refine HUp.out.mono ?_
  rintro e V3 ⟨A3, m3, c3, rfl, hm, hmc, hcl, hr, hb⟩
  simp only [val_w] at hm hr
  have F3 := Lib.hid (Env.call F2.out hb)
  have hU := runder_any (c := c3) (d := c1) hr ((R1'.out.2.2.2.below hb).more hb.size) hm.out R1'.out.1 (by have h1 := hm.out; have h2 := len_mono (Nat.div_mul_le_self a (2 ^ k)); have := Hla.out; omega) (by have := R1'.out.1; have := Hla.out; omega)
  have R2' := Lib.hid (And.intro R2.out.1 (And.intro R2.out.2.1 (And.intro R2.out.2.2.1 ((R2.out.2.2.2.below hb).more hb.size))))
  clear R2 hm hmc hcl hr hb q0
  obtain ⟨zc, hzc⟩ : ∃ zc, zc = cmpN (a / 2 ^ k * 2 ^ k) a := ⟨_, rfl⟩
  rw [← hzc] at hU
  have HU := Lib.hid hU
  clear hU
  have q0 := (Env.at_ F3.out 1 rfl).cell 0
  simp at q0
  have hz0 : zc = 0 := by rw [hzc]; exact cmpN_eqz.2 Hx.out
  subst hz0
  clear hzc
  go_wp2_with fail
  refine HU.out.mono ?_
  rintro e V4 ⟨q, rfl, rfl⟩
  have F4 := Lib.hid (F3.out.drewN q)
  have R4 := Lib.hid (And.intro R2'.out.1 (And.intro R2'.out.2.1 (And.intro R2'.out.2.2.1 (R2'.out.2.2.2.drewN q))))
  clear R2' q0 HU
  have q0 := (Env.at_ F4.out 1 rfl).cell 0
  simp at q0
  have HM := made_any (neg := true) R4.out.2.2.2 (Nat.le_refl _) R4.out.1 R4.out.2.1 R4.out.2.2.1 (by have h1 := R4.out.1; have h2 := Hla.out; have h3 := HL2.out; omega) (wd_w _)
  rw [val_w, ← Hz.out, ez] at HM
  have HM' := Lib.hid HM
  clear HM
  go_wp2_with fail
  refine HM'.out.mono ?_
  rintro e V9 ⟨rfl, hb⟩
  have F9 := Lib.hid (Env.call F4.out hb)
  clear hb q0
  have n4 := Env.at_ F9.out 0 rfl
  have y0 := n4.cell 0
  have y1 := n4.cell 1
  have y2 := n4.frozen 0
  have y3 := n4.frozen 1
  simp at y0 y1
  clear n4
  go_wp2_with fail
  have n5 := ((Env.at_ F9.out 0 rfl).set_ 0 (.bool zs)).set_ 1 (.string zb)
  have d0 := n5.cell 0
  have d1 := n5.cell 1
  simp at d0 d1
  refine bodyPost_ret (v := .agg #[.bool zs, .string zb]) (by simp [results, Try.results24, go_sem, d0, d1]) rfl ?_
  exact ⟨by rw [ez], ((F9.out.1).setCell (by show w.heap.size ≤ w.heap.size + 1; omega) _).setCell (by show w.heap.size ≤ w.heap.size + 1; omega) _⟩
set_option maxRecDepth 100000 in
set_option maxHeartbeats 4000000 in
theorem rshift_far_inexact {w : World} {na : Bool} {sa : ByteArray} {k : Nat} {n : Int} (ha : Fmd sa) (hs : sa.size ≤ 16384) (hn : n < -(8 * (sa.size : Int))) (hk : k = 8 * sa.size + 1) (hna : na = true) (hx : ¬ bval sa.data.toList / 2 ^ k * 2 ^ k = bval sa.data.toList) :
    Calls Try.prog 24 #[.agg #[.bool na, .string sa], .int .i64 n] w (Calm w (enc (shf (num (na, sa)) n))) := by
  obtain ⟨zs, zb, ez⟩ : ∃ s b, enc (shf (num (na, sa)) n) = .agg #[.bool s, .string b] := ⟨_, _, rfl⟩
  have HA := Lib.hid (fun W : World => words_any (w := W) (by have := ha.2; omega) ha.1)
  have Hla := Lib.hid ha.len
  obtain ⟨a, hae⟩ : ∃ a, a = bval sa.data.toList := ⟨_, rfl⟩
  rw [← hae] at HA Hla
  have Hnum := Lib.hid (show num (na, sa) = sgn na a from by rw [hae]; rfl)
  have Hz := Lib.hid (show shf (num (na, sa)) n = sgn true (a / 2 ^ k + 1) by
    have h1 : shf (num (na, sa)) n = num (na, sa) / 2 ^ k := shf_farr (j := 8 * sa.size) (by rw [Hnum.out, sgn_abs, hae]; exact fits_len (by have hl : sa.data.toList.length = sa.size := Array.length_toList; omega)) (by omega) (by omega)
    rw [h1, Hnum.out, hna]
    exact shr_inexact (by rw [hae]; exact hx))
  rw [← hae] at hx
  have Hx := Lib.hid hx
  clear hx
  subst hna
  clear hae
  have E0 := Lib.hid (Env.nil w)
  go_enter Try.func24, Try.ntmps24
  go_upto_region 1 with fail
  have E1 : Hid (Env w ((w.alloc (.cells #[.bool true, .string sa] 26)).alloc (.cells #[.bool false, .string ⟨#[]⟩] 26)) [(w.heap.size + 1, 26, #[.bool false, .string ⟨#[]⟩]), (w.heap.size, 26, #[.bool true, .string sa])]) := Lib.hid (by have h := (Env.new (Env.new E0.out 26 #[.bool true, .string sa]) 26 #[.bool false, .string ⟨#[]⟩]); (try simp only [World.size_alloc] at h); exact h)
  generalize ((w.alloc (.cells #[.bool true, .string sa] 26)).alloc (.cells #[.bool false, .string ⟨#[]⟩] 26)) = W1 at E1 ⊢
  have q0 := (Env.at_ E1.out 1 rfl).cell 0
  have q1 := (Env.at_ E1.out 1 rfl).cell 1
  simp at q0 q1
  have hn0 : n < 0 := by omega
  have hn1 : n < -8 * (sa.size : Int) := by omega
  have hk1 : k ≤ 131073 := by omega
  go_wp2_with fail
  refine (HA.out _).mono ?_
  rintro e V1 ⟨A1, m1, c1, rfl, hm, hmc, hcl, hr, hb⟩
  have F1 := Lib.hid (Env.call E1.out hb)
  have R1 := Lib.hid (And.intro hm.out (And.intro hmc (And.intro hcl hr)))
  have hbl := Lib.hid hb
  clear hm hmc hcl hr hb
  clear q0 q1
  have q0 := (Env.at_ F1.out 1 rfl).cell 0
  have q1 := (Env.at_ F1.out 1 rfl).cell 1
  simp at q0 q1
  go_upto_region 6 with fail
  rw [show (-8 * (sa.size : Int) - 1) = -(k : Int) by omega]
  clear hn0 hn1 hk hn
  have HD := Lib.hid (rdown_any (w := V1) (c := c1) (n := k) R1.out.2.2.2 (Nat.le_refl _) R1.out.1 (by have := R1.out.1; have := Hla.out; omega) (by omega) (wd_w _))
  go_wp2_with fail
  (try rw [Int.neg_neg])
  refine HD.out.mono ?_
  rintro e V2 ⟨A2, m2, c2, rfl, hm, hmc, hcl, hr, hb⟩
  simp only [val_w] at hm hr
  have F2 := Lib.hid (Env.call F1.out hb)
  have R2 := Lib.hid (And.intro hm.out (And.intro hmc (And.intro hcl hr)))
  have R1' := Lib.hid (And.intro R1.out.1 (And.intro R1.out.2.1 (And.intro R1.out.2.2.1 ((R1.out.2.2.2.below hb).more hb.size))))
  clear R1 hm hmc hcl hr hb q0 q1 HD
  have HL2 := Lib.hid (len_mono (Nat.div_le_self a (2 ^ k)))
  have q0 := (Env.at_ F2.out 1 rfl).cell 0
  simp at q0
  have HUp := Lib.hid (rup_any (w := V2) (c := c2) (n := k) R2.out.2.2.2 (Nat.le_refl _) R2.out.1 (by have := R2.out.1; have := Hla.out; have := HL2.out; omega) (by omega) (wd_w _))
  go_wp2_with fail
  (try rw [Int.neg_neg])
  refine HUp.out.mono ?_
  rintro e V3 ⟨A3, m3, c3, rfl, hm, hmc, hcl, hr, hb⟩
  simp only [val_w] at hm hr
  have F3 := Lib.hid (Env.call F2.out hb)
  have hU := runder_any (c := c3) (d := c1) hr ((R1'.out.2.2.2.below hb).more hb.size) hm.out R1'.out.1 (by have h1 := hm.out; have h2 := len_mono (Nat.div_mul_le_self a (2 ^ k)); have := Hla.out; omega) (by have := R1'.out.1; have := Hla.out; omega)
  have R2' := Lib.hid (And.intro R2.out.1 (And.intro R2.out.2.1 (And.intro R2.out.2.2.1 ((R2.out.2.2.2.below hb).more hb.size))))
  clear R2 hm hmc hcl hr hb q0
  obtain ⟨zc, hzc⟩ : ∃ zc, zc = cmpN (a / 2 ^ k * 2 ^ k) a := ⟨_, rfl⟩
  rw [← hzc] at hU
  have HU := Lib.hid hU
  clear hU
  have q0 := (Env.at_ F3.out 1 rfl).cell 0
  simp at q0
  have hz0 : (zc == 0) = false := by rw [beq_eq_false_iff_ne, hzc]; exact fun h => Hx.out (cmpN_eqz.1 h)
  clear hzc
  go_wp2_with fail
  refine HU.out.mono ?_
  rintro e V4 ⟨q, rfl, rfl⟩
  have F4 := Lib.hid (F3.out.drewN q)
  have R4 := Lib.hid (And.intro R2'.out.1 (And.intro R2'.out.2.1 (And.intro R2'.out.2.2.1 (R2'.out.2.2.2.drewN q))))
  clear R2' q0 HU
  have q0 := (Env.at_ F4.out 1 rfl).cell 0
  simp at q0
  have HMo := Lib.hid (rmore_any (c := c2) (d := 1) (R4.out.2.2.2.alloc (Nat.le_refl _) (.cells (wcells [1]) 98) |>.more (Nat.le_succ _)) (reads_blk (Blk.new (V3.drewN q) 98 (wcells [1])) (Nat.lt_succ_self _)) (by simp) R4.out.1 (m := 1) rfl (by have := R4.out.1; have := Hla.out; have := HL2.out; omega) (by omega) (wd_w _) (wd_cons.2 ⟨by decide, wd_nil⟩))
  go_wp2_with fail
  refine HMo.out.mono ?_
  rintro e V6 ⟨A6, m6, c6, rfl, hm, hmc, hcl, hr, hb⟩
  simp only [val_w, val_single] at hm hr
  have F6 := Lib.hid (Env.call (Env.other F4.out (.cells (wcells [1]) 98)) hb)
  have R6 := Lib.hid (And.intro hm.out (And.intro hmc (And.intro hcl hr)))
  clear hm hmc hcl hr hb q0 HMo
  have q0 := (Env.at_ F6.out 1 rfl).cell 0
  simp at q0
  have HM := made_any (neg := true) R6.out.2.2.2 (Nat.le_refl _) R6.out.1 R6.out.2.1 R6.out.2.2.1 (by have h1 := R6.out.1; have h2 := Hla.out; have h3 := HL2.out; have h4 := len_sumN (a := a / 2 ^ k) (b := 1) (p := 25000001) (by omega) (Nat.le_trans (len_wds (k := 1) (by decide)) (by omega)); omega) (wd_w _)
  rw [val_w, ← Hz.out, ez] at HM
  have HM' := Lib.hid HM
  clear HM
  go_wp2_with fail
  refine HM'.out.mono ?_
  rintro e V9 ⟨rfl, hb⟩
  have F9 := Lib.hid (Env.call F6.out hb)
  clear hb q0
  have n4 := Env.at_ F9.out 0 rfl
  have y0 := n4.cell 0
  have y1 := n4.cell 1
  have y2 := n4.frozen 0
  have y3 := n4.frozen 1
  simp at y0 y1
  clear n4
  go_wp2_with fail
  have n5 := ((Env.at_ F9.out 0 rfl).set_ 0 (.bool zs)).set_ 1 (.string zb)
  have d0 := n5.cell 0
  have d1 := n5.cell 1
  simp at d0 d1
  refine bodyPost_ret (v := .agg #[.bool zs, .string zb]) (by simp [results, Try.results24, go_sem, d0, d1]) rfl ?_
  exact ⟨by rw [ez], ((F9.out.1).setCell (by show w.heap.size ≤ w.heap.size + 1; omega) _).setCell (by show w.heap.size ≤ w.heap.size + 1; omega) _⟩
theorem rshift_any {w : World} {na : Bool} {sa : ByteArray} {n : Int} (ha : Fmd sa) (hs : sa.size ≤ 16384) (hn : n ≤ 131072) :
    Calls Try.prog 24 #[.agg #[.bool na, .string sa], .int .i64 n] w (Calm w (enc (shf (num (na, sa)) n))) := by
  rcases Int.lt_or_le n 0 with h | h
  · rcases Int.lt_or_le n (-(8 * (sa.size : Int))) with h1 | h1
    · cases na
      · exact rshift_far_pos ha hs h1 rfl rfl
      · by_cases hx : bval sa.data.toList / 2 ^ (8 * sa.size + 1) * 2 ^ (8 * sa.size + 1) = bval sa.data.toList
        · exact rshift_far_exact ha hs h1 rfl rfl hx
        · exact rshift_far_inexact ha hs h1 rfl rfl hx
    · obtain ⟨k, rfl⟩ : ∃ k : Nat, n = -(k : Int) := ⟨n.natAbs, by omega⟩
      cases na
      · exact rshift_near_pos ha hs (by omega) (by omega) rfl
      · by_cases hx : bval sa.data.toList / 2 ^ k * 2 ^ k = bval sa.data.toList
        · exact rshift_near_exact ha hs (by omega) (by omega) rfl hx
        · exact rshift_near_inexact ha hs (by omega) (by omega) rfl hx
  · obtain ⟨k, rfl⟩ : ∃ k : Nat, n = (k : Int) := ⟨n.toNat, by omega⟩
    exact rshift_up ha (by omega)
end Go.Proofs.Ytpnginnjbdedbaa
