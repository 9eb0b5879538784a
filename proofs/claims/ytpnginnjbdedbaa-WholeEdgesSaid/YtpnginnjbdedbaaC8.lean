import Derived.Test.YtpnginnjbdedbaaC7
import Derived.Test.YtpnginnjbdedbaaC6
import Derived.Test.YtpnginnjbdedbaaC4
import Derived.Test.YtpnginnjbdedbaaRows
import Derived.Test.YtpnginnjbdedbaaC1
import Derived.WalkKit
import Derived.ProofKit
import Derived.OpenShut
import Derived.Carry
import Derived.JoinedCond
import Derived.ChangeSlices
/- whole.Pow, whole.Square (printed by gen_pow.py). -/
namespace Go.Proofs.Ytpnginnjbdedbaa
open Go.RowKit
open Wh
set_option linter.unusedSimpArgs false
set_option linter.unusedVariables false

theorem len_pow {m n : Nat} (h : bl m ≤ 1 ∨ n * (bl m - 1) ≤ 131072) : (wds (m ^ n)).length ≤ 10000 := by
  rcases Nat.lt_or_ge 1 (bl m) with h1 | h1
  · have h2 : n * (bl m - 1) ≤ 131072 := by omega
    have h3 : m ^ n ≤ (2 ^ bl m) ^ n := Nat.pow_le_pow_left (Nat.le_of_lt (bl_lt.1 (Nat.le_refl _))) n
    rw [← Nat.pow_mul] at h3
    refine len_bl (Nat.le_trans (bl_lt.2 (Nat.lt_of_le_of_lt h3 ((Nat.pow_lt_pow_iff_right (by decide)).2 (Nat.lt_succ_self _)))) ?_)
    obtain ⟨j, hj⟩ : ∃ j, bl m = j + 2 := ⟨bl m - 2, by omega⟩
    rw [hj] at h2 ⊢
    rw [show j + 2 - 1 = j + 1 by omega, Nat.mul_add, Nat.mul_one] at h2
    rw [Nat.mul_comm, Nat.mul_add]
    omega
  · have h2 : m ≤ 1 := by have := bl_lt.1 h1; omega
    have h3 : m ^ n ≤ 1 ^ n := Nat.pow_le_pow_left h2 n
    rw [Nat.one_pow] at h3
    exact len_bl (Nat.le_trans (bl_lt.2 (show m ^ n < 2 ^ 1 by omega)) (by omega))
theorem pow_big {m n K : Nat} (h1 : 2 ≤ bl m) (h2 : K < n * (bl m - 1)) : ¬ bl (m ^ n) ≤ K := by
  intro h
  have h3 := bl_lt.1 h
  have hm : 0 < m := by
    rcases Nat.eq_zero_or_pos m with h0 | h0
    · subst h0; rw [bl_zero] at h1; omega
    · exact h0
  have h4 : (2 ^ (bl m - 1)) ^ n ≤ m ^ n := Nat.pow_le_pow_left (bl_le hm) n
  rw [← Nat.pow_mul, Nat.mul_comm] at h4
  have := (Nat.pow_lt_pow_iff_right (by decide)).1 (Nat.lt_of_le_of_lt h4 h3)
  omega
theorem exp_rdy {W V : World} {g gy gx n : Nat} {x : Int} (hV : Below W.heap.size W V) (hg : IntS V g) (hgl : W.heap.size ≤ g) (hy : IntB V gy (n : Int)) (hx : IntB W gx x) (hl : (wds (x.natAbs ^ n)).length ≤ 10000) (hxl : (wds x.natAbs).length ≤ 5000) (hn : n ≤ 9223372036854775807) :
    Calls Try.prog 96 #[.pointer (some ⟨g, 0, none⟩), .pointer (some ⟨gx, 0, none⟩), .pointer (some ⟨gy, 0, none⟩), .pointer none] V (fun e w' => e = .returned (.pointer (some ⟨g, 0, none⟩)) ∧ IntB w' g (x ^ n) ∧ Below W.heap.size W w') := by
  refine (exp_any hg (hx.below hV) hy (by omega) (by omega) (Nat.le_trans (len_bl (k := 2) (bl_lt.2 (show n < 2 ^ (32 * 2) by omega))) (by omega))).mono ?_
  rintro e w' ⟨he, hi, hgr⟩
  exact ⟨he, hi, up_row hV hgr hV.size hgl⟩
set_option maxRecDepth 100000 in
set_option maxHeartbeats 1000000 in
theorem wpow_bad {w : World} {na : Bool} {sa : ByteArray} {n : Int} (hm : ¬ MayL na sa.data.toList) :
    Calls Try.prog 55 #[.agg #[.bool na, .string sa], .int .i64 n] w (Ans w (MayL na sa.data.toList ∧ 0 ≤ (n : Int)) (num (na, sa) ^ n.toNat)) := by
  have hb1 := new_below w (.cells #[.bool na, .string sa] 26)
  have hb2 := hb1.alloc (by simp) (.cells #[.bool false, .string ⟨#[]⟩] 26)
  have k2 := Blk.new (w.alloc (.cells #[.bool na, .string sa] 26)) 26 #[.bool false, .string ⟨#[]⟩]
  have hO := of_one (w := (w.alloc (.cells #[.bool na, .string sa] 26)).alloc (.cells #[.bool false, .string ⟨#[]⟩] 26)) (na := na) (sa := sa)
  rw [World.size_alloc, World.size_alloc] at hO
  rw [World.size_alloc] at k2
  have HO := Lib.hid hO
  have Hb := Lib.hid (And.intro hb2 k2)
  have Hm := Lib.hid hm
  clear hm
  clear hO hb1 hb2 k2
  go_enter Try.func55, Try.ntmps55
  go_wp2_with fail
  refine HO.out.mono ?_
  rintro e w5 ⟨h1, h2, hb5⟩
  have hb05 := Hb.out.1.trans (hb5.mono (by simp <;> omega))
  have m2 := Hb.out.2.below hb5 (by simp)
  have d0 : w5.cell? ⟨w.heap.size + 1, 0, none⟩ = some (.bool false) := m2.cell 0
  have d1 : w5.cell? ⟨w.heap.size + 1, 1, none⟩ = some (.string ⟨#[]⟩) := m2.cell 1
  have d2 := m2.frozen 0
  have d3 := m2.frozen 1
  have H5 := Lib.hid (And.intro hb05 m2)
  have Hsz := Lib.hid (show w.heap.size + 1 + 1 ≤ w5.heap.size by have := hb5.size; simp at this; omega)
  clear hb5 hb05 m2
  obtain ⟨A5, n5, c5, rfl⟩ := h2 Hm.out
  clear h1 h2
  go_wp2_with fail
  refine bodyPost_ret (v := .tuple #[.agg #[.bool false, .string ⟨#[]⟩], .int .i64 2]) (by simp [results, Try.results55, go_sem, d0, d1]) rfl ?_
  exact ⟨fun h => absurd h.1 Hm.out, fun h => absurd h.1 Hm.out, fun _ => rfl, ((H5.out.1.setCell (by show w.heap.size ≤ w.heap.size + 1; omega) _).setCell (by show w.heap.size ≤ w.heap.size + 1; omega) _)⟩
set_option maxRecDepth 100000 in
set_option maxHeartbeats 1000000 in
theorem wpow_neg {w : World} {na : Bool} {sa : ByteArray} {n : Int} (hm : MayL na sa.data.toList) (hn : n < 0) :
    Calls Try.prog 55 #[.agg #[.bool na, .string sa], .int .i64 n] w (Ans w (MayL na sa.data.toList ∧ 0 ≤ (n : Int)) (num (na, sa) ^ n.toNat)) := by
  have hb1 := new_below w (.cells #[.bool na, .string sa] 26)
  have hb2 := hb1.alloc (by simp) (.cells #[.bool false, .string ⟨#[]⟩] 26)
  have k2 := Blk.new (w.alloc (.cells #[.bool na, .string sa] 26)) 26 #[.bool false, .string ⟨#[]⟩]
  have hO := of_one (w := (w.alloc (.cells #[.bool na, .string sa] 26)).alloc (.cells #[.bool false, .string ⟨#[]⟩] 26)) (na := na) (sa := sa)
  rw [World.size_alloc, World.size_alloc] at hO
  rw [World.size_alloc] at k2
  have HO := Lib.hid hO
  have Hb := Lib.hid (And.intro hb2 k2)
  have Hm := Lib.hid hm
  clear hm
  clear hO hb1 hb2 k2
  go_enter Try.func55, Try.ntmps55
  go_wp2_with fail
  refine HO.out.mono ?_
  rintro e w5 ⟨h1, h2, hb5⟩
  have hb05 := Hb.out.1.trans (hb5.mono (by simp <;> omega))
  have m2 := Hb.out.2.below hb5 (by simp)
  have d0 : w5.cell? ⟨w.heap.size + 1, 0, none⟩ = some (.bool false) := m2.cell 0
  have d1 : w5.cell? ⟨w.heap.size + 1, 1, none⟩ = some (.string ⟨#[]⟩) := m2.cell 1
  have d2 := m2.frozen 0
  have d3 := m2.frozen 1
  have H5 := Lib.hid (And.intro hb05 m2)
  have Hsz := Lib.hid (show w.heap.size + 1 + 1 ≤ w5.heap.size by have := hb5.size; simp at this; omega)
  clear hb5 hb05 m2
  obtain ⟨ad, c, g1, rfl, hadb, p0, hx, hg1⟩ := h1 Hm.out
  clear h1 h2 hx hg1
  go_wp2_with fail
  refine bodyPost_ret (v := .tuple #[.agg #[.bool false, .string ⟨#[]⟩], .int .i64 2]) (by simp [results, Try.results55, go_sem, d0, d1]) rfl ?_
  exact ⟨fun h => absurd h.2 (by omega), fun h => absurd h.2 (by omega), fun _ => rfl, ((H5.out.1.setCell (by show w.heap.size ≤ w.heap.size + 1; omega) _).setCell (by show w.heap.size ≤ w.heap.size + 1; omega) _)⟩
set_option maxRecDepth 100000 in
set_option maxHeartbeats 1000000 in
theorem wpow_big {w : World} {na : Bool} {sa : ByteArray} {n : Nat} (hm : MayL na sa.data.toList) (hk : 2 ≤ bl (num (na, sa)).natAbs) (hg : 131072 < n * (bl (num (na, sa)).natAbs - 1)) (hn : n ≤ 9223372036854775807) :
    Calls Try.prog 55 #[.agg #[.bool na, .string sa], .int .i64 n] w (Ans w (MayL na sa.data.toList ∧ 0 ≤ (n : Int)) (num (na, sa) ^ n)) := by
  have hb1 := new_below w (.cells #[.bool na, .string sa] 26)
  have hb2 := hb1.alloc (by simp) (.cells #[.bool false, .string ⟨#[]⟩] 26)
  have k2 := Blk.new (w.alloc (.cells #[.bool na, .string sa] 26)) 26 #[.bool false, .string ⟨#[]⟩]
  have hO := of_one (w := (w.alloc (.cells #[.bool na, .string sa] 26)).alloc (.cells #[.bool false, .string ⟨#[]⟩] 26)) (na := na) (sa := sa)
  rw [World.size_alloc, World.size_alloc] at hO
  rw [World.size_alloc] at k2
  have HO := Lib.hid hO
  have Hb := Lib.hid (And.intro hb2 k2)
  obtain ⟨K, hK⟩ : ∃ K, K = bl (num (na, sa)).natAbs := ⟨_, rfl⟩
  have Hg := Lib.hid (pow_big hk hg)
  rw [← hK] at hk hg
  obtain ⟨J, hJ⟩ : ∃ J, K = J + 1 := ⟨K - 1, by omega⟩
  have hq : 131072 / J < n := by rw [hJ] at hg; exact Nat.div_lt_of_lt_mul (by rw [Nat.mul_comm]; exact hg)
  clear hg
  have j1 : K ≤ 131072 := by rw [hK]; exact fits_num (a := (na, sa)) hm
  have HK := Lib.hid hK
  have Hm := Lib.hid hm
  clear hm hK
  obtain ⟨Q, hQ⟩ : ∃ Q, Q = 131072 / J := ⟨_, rfl⟩
  have j2 : 1 ≤ J := by omega
  have j3 : (Q : Int) < (n : Int) := by omega
  have j4 : ((J : Int) == 0) = false := by simp <;> omega
  have j5 : (131072 : Int) / (J : Int) = (Q : Int) := by rw [hQ]; rfl
  have j9 : wrap64 (Q : Int) = (Q : Int) := by
    have : Q ≤ 131072 := by rw [hQ]; exact Nat.div_le_self _ _
    exact IntWalk.wrap64_in _ (by omega)
  have j6 : (131072 : Int).tdiv (J : Int) = (Q : Int) := by rw [hQ]; rfl
  have j7 : (K : Int) - 1 = (J : Int) := by omega
  have j8 : IntKind.i64.wrap ((K : Int) - 1) = (J : Int) := by rw [j7]; exact IntWalk.i64_in _ (by omega)
  clear hQ hJ hq
  clear hO hb1 hb2 k2
  go_enter Try.func55, Try.ntmps55
  go_wp2_with fail
  refine HO.out.mono ?_
  rintro e w5 ⟨h1, h2, hb5⟩
  have hb05 := Hb.out.1.trans (hb5.mono (by simp <;> omega))
  have m2 := Hb.out.2.below hb5 (by simp)
  have d0 : w5.cell? ⟨w.heap.size + 1, 0, none⟩ = some (.bool false) := m2.cell 0
  have d1 : w5.cell? ⟨w.heap.size + 1, 1, none⟩ = some (.string ⟨#[]⟩) := m2.cell 1
  have d2 := m2.frozen 0
  have d3 := m2.frozen 1
  have H5 := Lib.hid (And.intro hb05 m2)
  have Hsz := Lib.hid (show w.heap.size + 1 + 1 ≤ w5.heap.size by have := hb5.size; simp at this; omega)
  clear hb5 hb05 m2
  obtain ⟨ad, c, g1, rfl, hadb, p0, hx, hg1⟩ := h1 Hm.out
  clear h1 h2 hg1
  have Hlen := Lib.hid (len_num (a := (na, sa)) Hm.out)
  have hB := bitlen_any hx (by have := Hlen.out; omega)
  unfold Bitted at hB
  rw [← HK.out] at hB
  have HB := Lib.hid hB
  have Hx := Lib.hid hx
  clear hx hB
  go_wp2_with fail
  refine HB.out.mono ?_
  rintro e w6 ⟨q, rfl, rfl⟩
  go_wp2_with fail
  refine bodyPost_ret (v := .tuple #[.agg #[.bool false, .string ⟨#[]⟩], .int .i64 4]) (by simp [results, Try.results55, go_sem, d0, d1]) rfl ?_
  exact ⟨fun _ h => absurd (by unfold fits at h; rwa [Int.natAbs_pow] at h) Hg.out, fun _ _ => rfl, fun h => absurd ⟨Hm.out, Int.natCast_nonneg n⟩ h, (((below_drewN H5.out.1 q).setCell (by show w.heap.size ≤ w.heap.size + 1; omega) _).setCell (by show w.heap.size ≤ w.heap.size + 1; omega) _)⟩
set_option maxRecDepth 100000 in
set_option maxHeartbeats 1000000 in
theorem wpow_one {w : World} {na : Bool} {sa : ByteArray} {n : Nat} (hm : MayL na sa.data.toList) (hk : bl (num (na, sa)).natAbs ≤ 1) (hn : n ≤ 9223372036854775807) :
    Calls Try.prog 55 #[.agg #[.bool na, .string sa], .int .i64 n] w (Ans w (MayL na sa.data.toList ∧ 0 ≤ (n : Int)) (num (na, sa) ^ n)) := by
  have hb1 := new_below w (.cells #[.bool na, .string sa] 26)
  have hb2 := hb1.alloc (by simp) (.cells #[.bool false, .string ⟨#[]⟩] 26)
  have k2 := Blk.new (w.alloc (.cells #[.bool na, .string sa] 26)) 26 #[.bool false, .string ⟨#[]⟩]
  have hO := of_one (w := (w.alloc (.cells #[.bool na, .string sa] 26)).alloc (.cells #[.bool false, .string ⟨#[]⟩] 26)) (na := na) (sa := sa)
  rw [World.size_alloc, World.size_alloc] at hO
  rw [World.size_alloc] at k2
  have HO := Lib.hid hO
  have Hb := Lib.hid (And.intro hb2 k2)
  obtain ⟨K, hK⟩ : ∃ K, K = bl (num (na, sa)).natAbs := ⟨_, rfl⟩
  have Hl := Lib.hid (And.intro (len_pow (n := n) (.inl hk)) (And.intro (Nat.le_trans (len_num (a := (na, sa)) hm) (show 5000 ≤ 5000 by omega)) hn))
  rw [← hK] at hk
  have j1 : K ≤ 131072 := by rw [hK]; exact fits_num (a := (na, sa)) hm
  have HK := Lib.hid hK
  have Hm := Lib.hid hm
  clear hm hK
  clear hO hb1 hb2 k2
  go_enter Try.func55, Try.ntmps55
  go_wp2_with fail
  refine HO.out.mono ?_
  rintro e w5 ⟨h1, h2, hb5⟩
  have hb05 := Hb.out.1.trans (hb5.mono (by simp <;> omega))
  have m2 := Hb.out.2.below hb5 (by simp)
  have d0 : w5.cell? ⟨w.heap.size + 1, 0, none⟩ = some (.bool false) := m2.cell 0
  have d1 : w5.cell? ⟨w.heap.size + 1, 1, none⟩ = some (.string ⟨#[]⟩) := m2.cell 1
  have d2 := m2.frozen 0
  have d3 := m2.frozen 1
  have H5 := Lib.hid (And.intro hb05 m2)
  have Hsz := Lib.hid (show w.heap.size + 1 + 1 ≤ w5.heap.size by have := hb5.size; simp at this; omega)
  clear hb5 hb05 m2
  obtain ⟨ad, c, g1, rfl, hadb, p0, hx, hg1⟩ := h1 Hm.out
  clear h1 h2 hg1
  have Hlen := Lib.hid (len_num (a := (na, sa)) Hm.out)
  have hB := bitlen_any hx (by have := Hlen.out; omega)
  unfold Bitted at hB
  rw [← HK.out] at hB
  have HB := Lib.hid hB
  have Hx := Lib.hid hx
  clear hx hB
  go_wp2_with fail
  refine HB.out.mono ?_
  rintro e w6 ⟨q, rfl, rfl⟩
  have Hx6 := Lib.hid (Hx.out.drewN q)
  have m6 := Lib.hid (show Blk (w5.drewN q) (w.heap.size + 1) 26 #[.bool false, .string ⟨#[]⟩] from H5.out.2)
  have Hs6 := Lib.hid (show w.heap.size + 1 < (w5.drewN q).heap.size from Hsz.out)
  have H6 := Lib.hid (below_drewN H5.out.1 q)
  have p6 : (w5.drewN q).cell? ad = some (.pointer (some ⟨g1, 0, none⟩)) := p0
  have had6 : ad.block < (w5.drewN q).heap.size := hadb
  clear H5 Hsz p0 hadb Hx d0 d1 d2 d3 HB
  generalize w5.drewN q = W at *
  have hb1 : Below W.heap.size W (W.drew.alloc (.cells #[.bool false, .slice none 0 0] 82)) := (Below.refl _ _).drew.alloc (Nat.le_refl _) _
  have hcell : ∀ w' : World, Below W.heap.size W w' → w'.cell? ad = some (.pointer (some ⟨g1, 0, none⟩)) := fun w' hb => (hb.cell had6).trans p6
  have Hc := Lib.hid hcell
  have Hb1 := Lib.hid hb1
  have N1 : Hid (Calls Try.prog 91 #[.int .i64 (n : Int)] (W.drew.alloc (.cells #[.bool false, .slice none 0 0] 82)) (fun e w' => e = .returned (.pointer (some ⟨W.heap.size + 1, 0, none⟩)) ∧ IntB w' (W.heap.size + 1) (n : Int) ∧ Below W.heap.size W w' ∧ IntS w' W.heap.size)) := by
    refine Lib.hid ((newint_any (w := W.drew.alloc (.cells #[.bool false, .slice none 0 0] 82)) (n := (n : Int)) (by omega) (by omega)).mono ?_)
    rintro e w' ⟨h1, h2, h3⟩
    rw [World.size_alloc] at h1 h2
    exact ⟨h1, h2, hb1.trans (h3.mono hb1.size), by
      obtain ⟨s, A, n, c, hb⟩ := zslot W.drew
      exact ⟨s, A, n, c, hb.below h3 (by rw [World.size_alloc]; exact Nat.lt_succ_self _)⟩⟩
  have N2 : Hid (Calls Try.prog 91 #[.int .i64 (n : Int)] W.drew (fun e w' => e = .returned (.pointer (some ⟨W.heap.size, 0, none⟩)) ∧ IntB w' W.heap.size (n : Int) ∧ Below W.heap.size W w' ∧ True)) := by
    refine Lib.hid ((newint_any (w := W.drew) (n := (n : Int)) (by omega) (by omega)).mono ?_)
    rintro e w' ⟨h1, h2, h3⟩
    exact ⟨h1, h2, (Below.refl _ _).drew.trans h3, trivial⟩
  clear hcell hb1 had6
  go_wp2_with fail
  refine wp_region_noPanic ?_
  refine wp_region_HK (fun w' => w'.cell? ad = some (.pointer (some ⟨g1, 0, none⟩))) 6 (by kernel_rfl) p6 (fun hHeld => ?_)
  refine wpHK_take (i := 1) (oi := Oper.mk (some 37) _ _ _ _ _) (v := ?_) rfl (by kernel_rfl) (by kernel_rfl) (by kernel_rfl) (by kernel_rfl) (fun _ _ _ h => h) (Or.inl ⟨by rfl, ?_⟩) (by assumption) ?_
  rotate_left
  · (intro w' hSw; (try dsimp only at hSw); (obtain s1 := hSw); go_simp; try with_reducible rfl)
  try simp only [Act.put, List.setIfInBounds_toArray, List.set_cons_zero, List.set_cons_succ]
  refine wpHK_take (i := 2) (oi := Oper.mk (some 38) _ _ _ _ _) (v := ?_) rfl (by kernel_rfl) (by kernel_rfl) (by kernel_rfl) (by kernel_rfl) (fun _ _ _ h => h) (Or.inl ⟨by rfl, ?_⟩) (by assumption) ?_
  rotate_left
  · (intro w' hSw; (try dsimp only at hSw); (obtain s1 := hSw); go_simp; try with_reducible rfl)
  try simp only [Act.put, List.setIfInBounds_toArray, List.set_cons_zero, List.set_cons_succ]
  refine wpHK_take (i := 3) (oi := Oper.mk (some 39) _ _ _ _ _) (v := ?_) rfl (by kernel_rfl) (by kernel_rfl) (by kernel_rfl) (by kernel_rfl) (fun _ _ _ h => h) (Or.inl ⟨by rfl, ?_⟩) (by assumption) ?_
  rotate_left
  · (intro w' hSw; (try dsimp only at hSw); (obtain s1 := hSw); go_simp; try with_reducible rfl)
  try simp only [Act.put, List.setIfInBounds_toArray, List.set_cons_zero, List.set_cons_succ]
  refine wpHK_take (i := 4) (oi := Oper.mk (some 40) _ _ _ _ _) (v := ?_) rfl (by kernel_rfl) (by kernel_rfl) (by kernel_rfl) (by kernel_rfl) (fun _ _ _ h => h) (Or.inl ⟨by rfl, ?_⟩) (by assumption) ?_
  rotate_left
  · (intro w' hSw; (try dsimp only at hSw); (obtain s1 := hSw); go_simp; try with_reducible rfl)
  try simp only [Act.put, List.setIfInBounds_toArray, List.set_cons_zero, List.set_cons_succ]
  refine wpHK_two (i := 0) (j := 5) (oi := Oper.mk (some 36) _ _ _ _ _) (oj := Oper.mk (some 41) _ _ _ _ _) rfl rfl (by kernel_rfl) (fun K hK => ?_) (fun K hK => ?_)
  · go_simp
    refine hK.out _ _ (Hc.out _ Hb1.out) (fun _ => ?_)
    clear hK K hHeld
    have hHeld := (Hc.out _ Hb1.out)
    try simp only [Act.put, List.setIfInBounds_toArray, List.set_cons_zero, List.set_cons_succ]
    refine wpHK_one (j := 5) (o := Oper.mk (some 41) _ _ _ _ _) rfl (by kernel_rfl) (fun K hK => ?_)
    go_simp
    refine N1.out.mono ?_
    rintro e V ⟨rfl, hvi, hvb, hvg⟩
    have hvb := Lib.hid hvb
    have hvi := Lib.hid hvi
    have hvg := Lib.hid hvg
    refine hK.out _ _ (Hc.out _ hvb.out) (fun _ => ?_)
    clear hK K hHeld
    have hHeld := (Hc.out _ hvb.out)
    try simp only [Act.put, List.setIfInBounds_toArray, List.set_cons_zero, List.set_cons_succ]
    refine wpHK_tail (j := 6) (o := Oper.mk (some 42) _ _ _ _ _) rfl (by kernel_rfl) (by decide) (fun K hK => ?_)
    go_simp
    have HE := Lib.hid (exp_rdy hvb.out hvg.out (Nat.le_refl _) hvi.out Hx6.out Hl.out.1 Hl.out.2.1 Hl.out.2.2)
    refine HE.out.mono ?_
    rintro e V2 ⟨rfl, hi2, hb2⟩
    have HT := Lib.hid (told_any hi2 (by rw [Int.natAbs_pow]; have := Hl.out.1; omega))
    have hb2 := Lib.hid hb2
    clear hi2 HE
    refine hK.out _ _ ?_
    clear hK K
    try simp only [Act.put, List.setIfInBounds_toArray, List.set_cons_zero, List.set_cons_succ]
    refine wpHK_tail (j := 7) (o := Oper.mk (some 43) _ _ _ _ _) rfl (by kernel_rfl) (by decide) (fun K hK => ?_)
    go_simp
    refine HT.out.mono ?_
    intro e V3 hT
    obtain ⟨sn, bn, cd, rfl, hb7, hfin⟩ := tells_form hT
    have hb3 := hb2.out.trans (hb7.mono hb2.out.size)
    have n2 := m6.out.below hb3 Hs6.out
    have z0 : V3.cell? ⟨w.heap.size + 1, 0, none⟩ = some (.bool false) := n2.cell 0
    have z1 : V3.cell? ⟨w.heap.size + 1, 1, none⟩ = some (.string ⟨#[]⟩) := n2.cell 1
    have z2 := n2.frozen 0
    have z3 := n2.frozen 1
    have hb03 := Lib.hid (H6.out.trans (hb3.mono H6.out.size))
    clear hT n2 hb7 HT hb2 hb3
    refine hK.out _ _ ?_
    clear hK K
    try simp only [Act.put, List.setIfInBounds_toArray, List.set_cons_zero, List.set_cons_succ]
    refine wpHK_pure (i := 8) (oi := Oper.mk (some 44) _ _ _ _ _) (v := ?_) rfl (by kernel_rfl) (by kernel_rfl) (by kernel_rfl) (fun _ _ _ h => h) (Or.inl ⟨by rfl, ?_⟩) ?_
    rotate_left
    · (intro w' _; go_simp; try with_reducible rfl)
    try simp only [Act.put, List.setIfInBounds_toArray, List.set_cons_zero, List.set_cons_succ]
    refine wpHK_pure (i := 9) (oi := Oper.mk (some 45) _ _ _ _ _) (v := ?_) rfl (by kernel_rfl) (by kernel_rfl) (by kernel_rfl) (fun _ _ _ h => h) (Or.inl ⟨by rfl, ?_⟩) ?_
    rotate_left
    · (intro w' _; go_simp; try with_reducible rfl)
    try simp only [Act.put, List.setIfInBounds_toArray, List.set_cons_zero, List.set_cons_succ]
    refine wpHK_tail (j := 10) (o := Oper.mk (none) _ _ _ _ _) rfl (by kernel_rfl) (by decide) (fun K hK => ?_)
    go_simp
    refine hK.out _ _ ?_
    clear hK K
    try simp only [Act.put, List.setIfInBounds_toArray, List.set_cons_zero, List.set_cons_succ]
    refine wpHK_pure (i := 11) (oi := Oper.mk (some 5) _ _ _ _ _) (v := ?_) rfl (by kernel_rfl) (by kernel_rfl) (by kernel_rfl) (fun _ _ _ h => h) (Or.inl ⟨by rfl, ?_⟩) ?_
    rotate_left
    · (intro w' _; go_simp; try with_reducible rfl)
    try simp only [Act.put, List.setIfInBounds_toArray, List.set_cons_zero, List.set_cons_succ]
    refine wpHK_done (by kernel_rfl) ?_ _
    refine NoPanic.normal ?_
    go_wp2_with fail
    refine bodyPost_ret (v := .tuple #[.agg #[.bool sn, .string bn], .int .i64 cd]) (by simp [results, Try.results55, go_sem, z0, z1]) rfl ?_
    exact hfin _ _ _ ⟨Hm.out, Int.natCast_nonneg n⟩ ((hb03.out.setCell (by show w.heap.size ≤ w.heap.size + 1; omega) _).setCell (by show w.heap.size ≤ w.heap.size + 1; omega) _)
  · go_simp
    refine N2.out.mono ?_
    rintro e V ⟨rfl, hvi, hvb, hvg⟩
    have hvb := Lib.hid hvb
    have hvi := Lib.hid hvi
    have hvg := Lib.hid hvg
    refine hK.out _ _ (Hc.out _ hvb.out) (fun _ => ?_)
    clear hK K hHeld
    have hHeld := (Hc.out _ hvb.out)
    try simp only [Act.put, List.setIfInBounds_toArray, List.set_cons_zero, List.set_cons_succ]
    refine wpHK_one (j := 0) (o := Oper.mk (some 36) _ _ _ _ _) rfl (by kernel_rfl) (fun K hK => ?_)
    go_simp
    refine hK.out _ _ (Hc.out _ (hvb.out.trans ((new_below V (.cells #[.bool false, .slice none 0 0] 82)).mono hvb.out.size))) (fun _ => ?_)
    clear hK K hHeld
    have hHeld := (Hc.out _ (hvb.out.trans ((new_below V (.cells #[.bool false, .slice none 0 0] 82)).mono hvb.out.size)))
    try simp only [Act.put, List.setIfInBounds_toArray, List.set_cons_zero, List.set_cons_succ]
    refine wpHK_tail (j := 6) (o := Oper.mk (some 42) _ _ _ _ _) rfl (by kernel_rfl) (by decide) (fun K hK => ?_)
    go_simp
    have HE := Lib.hid (exp_rdy (hvb.out.trans ((new_below V (.cells #[.bool false, .slice none 0 0] 82)).mono hvb.out.size)) (zslot V) hvb.out.size (hvi.out.below (new_below V (.cells #[.bool false, .slice none 0 0] 82))) Hx6.out Hl.out.1 Hl.out.2.1 Hl.out.2.2)
    refine HE.out.mono ?_
    rintro e V2 ⟨rfl, hi2, hb2⟩
    have HT := Lib.hid (told_any hi2 (by rw [Int.natAbs_pow]; have := Hl.out.1; omega))
    have hb2 := Lib.hid hb2
    clear hi2 HE
    refine hK.out _ _ ?_
    clear hK K
    try simp only [Act.put, List.setIfInBounds_toArray, List.set_cons_zero, List.set_cons_succ]
    refine wpHK_tail (j := 7) (o := Oper.mk (some 43) _ _ _ _ _) rfl (by kernel_rfl) (by decide) (fun K hK => ?_)
    go_simp
    refine HT.out.mono ?_
    intro e V3 hT
    obtain ⟨sn, bn, cd, rfl, hb7, hfin⟩ := tells_form hT
    have hb3 := hb2.out.trans (hb7.mono hb2.out.size)
    have n2 := m6.out.below hb3 Hs6.out
    have z0 : V3.cell? ⟨w.heap.size + 1, 0, none⟩ = some (.bool false) := n2.cell 0
    have z1 : V3.cell? ⟨w.heap.size + 1, 1, none⟩ = some (.string ⟨#[]⟩) := n2.cell 1
    have z2 := n2.frozen 0
    have z3 := n2.frozen 1
    have hb03 := Lib.hid (H6.out.trans (hb3.mono H6.out.size))
    clear hT n2 hb7 HT hb2 hb3
    refine hK.out _ _ ?_
    clear hK K
    try simp only [Act.put, List.setIfInBounds_toArray, List.set_cons_zero, List.set_cons_succ]
    refine wpHK_pure (i := 8) (oi := Oper.mk (some 44) _ _ _ _ _) (v := ?_) rfl (by kernel_rfl) (by kernel_rfl) (by kernel_rfl) (fun _ _ _ h => h) (Or.inl ⟨by rfl, ?_⟩) ?_
    rotate_left
    · (intro w' _; go_simp; try with_reducible rfl)
    try simp only [Act.put, List.setIfInBounds_toArray, List.set_cons_zero, List.set_cons_succ]
    refine wpHK_pure (i := 9) (oi := Oper.mk (some 45) _ _ _ _ _) (v := ?_) rfl (by kernel_rfl) (by kernel_rfl) (by kernel_rfl) (fun _ _ _ h => h) (Or.inl ⟨by rfl, ?_⟩) ?_
    rotate_left
    · (intro w' _; go_simp; try with_reducible rfl)
    try simp only [Act.put, List.setIfInBounds_toArray, List.set_cons_zero, List.set_cons_succ]
    refine wpHK_tail (j := 10) (o := Oper.mk (none) _ _ _ _ _) rfl (by kernel_rfl) (by decide) (fun K hK => ?_)
    go_simp
    refine hK.out _ _ ?_
    clear hK K
    try simp only [Act.put, List.setIfInBounds_toArray, List.set_cons_zero, List.set_cons_succ]
    refine wpHK_pure (i := 11) (oi := Oper.mk (some 5) _ _ _ _ _) (v := ?_) rfl (by kernel_rfl) (by kernel_rfl) (by kernel_rfl) (fun _ _ _ h => h) (Or.inl ⟨by rfl, ?_⟩) ?_
    rotate_left
    · (intro w' _; go_simp; try with_reducible rfl)
    try simp only [Act.put, List.setIfInBounds_toArray, List.set_cons_zero, List.set_cons_succ]
    refine wpHK_done (by kernel_rfl) ?_ _
    refine NoPanic.normal ?_
    go_wp2_with fail
    refine bodyPost_ret (v := .tuple #[.agg #[.bool sn, .string bn], .int .i64 cd]) (by simp [results, Try.results55, go_sem, z0, z1]) rfl ?_
    exact hfin _ _ _ ⟨Hm.out, Int.natCast_nonneg n⟩ ((hb03.out.setCell (by show w.heap.size ≤ w.heap.size + 1; omega) _).setCell (by show w.heap.size ≤ w.heap.size + 1; omega) _)
set_option maxRecDepth 100000 in
set_option maxHeartbeats 1000000 in
theorem wpow_main {w : World} {na : Bool} {sa : ByteArray} {n : Nat} (hm : MayL na sa.data.toList) (hk : 2 ≤ bl (num (na, sa)).natAbs) (hg : n * (bl (num (na, sa)).natAbs - 1) ≤ 131072) (hn : n ≤ 9223372036854775807) :
    Calls Try.prog 55 #[.agg #[.bool na, .string sa], .int .i64 n] w (Ans w (MayL na sa.data.toList ∧ 0 ≤ (n : Int)) (num (na, sa) ^ n)) := by
  have hb1 := new_below w (.cells #[.bool na, .string sa] 26)
  have hb2 := hb1.alloc (by simp) (.cells #[.bool false, .string ⟨#[]⟩] 26)
  have k2 := Blk.new (w.alloc (.cells #[.bool na, .string sa] 26)) 26 #[.bool false, .string ⟨#[]⟩]
  have hO := of_one (w := (w.alloc (.cells #[.bool na, .string sa] 26)).alloc (.cells #[.bool false, .string ⟨#[]⟩] 26)) (na := na) (sa := sa)
  rw [World.size_alloc, World.size_alloc] at hO
  rw [World.size_alloc] at k2
  have HO := Lib.hid hO
  have Hb := Lib.hid (And.intro hb2 k2)
  obtain ⟨K, hK⟩ : ∃ K, K = bl (num (na, sa)).natAbs := ⟨_, rfl⟩
  have Hl := Lib.hid (And.intro (len_pow (n := n) (.inr hg)) (And.intro (Nat.le_trans (len_num (a := (na, sa)) hm) (show 5000 ≤ 5000 by omega)) hn))
  rw [← hK] at hk hg
  obtain ⟨J, hJ⟩ : ∃ J, K = J + 1 := ⟨K - 1, by omega⟩
  have hq : n ≤ 131072 / J := (Nat.le_div_iff_mul_le (by omega)).2 (by rw [hJ] at hg; exact hg)
  obtain ⟨Q, hQ⟩ : ∃ Q, Q = 131072 / J := ⟨_, rfl⟩
  have j2 : 1 ≤ J := by omega
  have j3 : (n : Int) ≤ (Q : Int) := by omega
  have j4 : ((J : Int) == 0) = false := by simp <;> omega
  have j5 : (131072 : Int) / (J : Int) = (Q : Int) := by rw [hQ]; rfl
  have j9 : wrap64 (Q : Int) = (Q : Int) := by
    have : Q ≤ 131072 := by rw [hQ]; exact Nat.div_le_self _ _
    exact IntWalk.wrap64_in _ (by omega)
  have j6 : (131072 : Int).tdiv (J : Int) = (Q : Int) := by rw [hQ]; rfl
  have j7 : (K : Int) - 1 = (J : Int) := by omega
  have j8 : IntKind.i64.wrap ((K : Int) - 1) = (J : Int) := by have := fits_num (a := (na, sa)) hm; rw [← hK] at this; rw [j7]; exact IntWalk.i64_in _ (by omega)
  clear hQ hJ hq hg
  have j1 : K ≤ 131072 := by rw [hK]; exact fits_num (a := (na, sa)) hm
  have HK := Lib.hid hK
  have Hm := Lib.hid hm
  clear hm hK
  clear hO hb1 hb2 k2
  go_enter Try.func55, Try.ntmps55
  go_wp2_with fail
  refine HO.out.mono ?_
  rintro e w5 ⟨h1, h2, hb5⟩
  have hb05 := Hb.out.1.trans (hb5.mono (by simp <;> omega))
  have m2 := Hb.out.2.below hb5 (by simp)
  have d0 : w5.cell? ⟨w.heap.size + 1, 0, none⟩ = some (.bool false) := m2.cell 0
  have d1 : w5.cell? ⟨w.heap.size + 1, 1, none⟩ = some (.string ⟨#[]⟩) := m2.cell 1
  have d2 := m2.frozen 0
  have d3 := m2.frozen 1
  have H5 := Lib.hid (And.intro hb05 m2)
  have Hsz := Lib.hid (show w.heap.size + 1 + 1 ≤ w5.heap.size by have := hb5.size; simp at this; omega)
  clear hb5 hb05 m2
  obtain ⟨ad, c, g1, rfl, hadb, p0, hx, hg1⟩ := h1 Hm.out
  clear h1 h2 hg1
  have Hlen := Lib.hid (len_num (a := (na, sa)) Hm.out)
  have hB := bitlen_any hx (by have := Hlen.out; omega)
  unfold Bitted at hB
  rw [← HK.out] at hB
  have HB := Lib.hid hB
  have Hx := Lib.hid hx
  clear hx hB
  go_wp2_with fail
  refine HB.out.mono ?_
  rintro e w6 ⟨q, rfl, rfl⟩
  have Hx6 := Lib.hid (Hx.out.drewN q)
  have m6 := Lib.hid (show Blk (w5.drewN q) (w.heap.size + 1) 26 #[.bool false, .string ⟨#[]⟩] from H5.out.2)
  have Hs6 := Lib.hid (show w.heap.size + 1 < (w5.drewN q).heap.size from Hsz.out)
  have H6 := Lib.hid (below_drewN H5.out.1 q)
  have p6 : (w5.drewN q).cell? ad = some (.pointer (some ⟨g1, 0, none⟩)) := p0
  have had6 : ad.block < (w5.drewN q).heap.size := hadb
  clear H5 Hsz p0 hadb Hx d0 d1 d2 d3 HB
  generalize w5.drewN q = W at *
  have hb1 : Below W.heap.size W (W.drew.alloc (.cells #[.bool false, .slice none 0 0] 82)) := (Below.refl _ _).drew.alloc (Nat.le_refl _) _
  have hcell : ∀ w' : World, Below W.heap.size W w' → w'.cell? ad = some (.pointer (some ⟨g1, 0, none⟩)) := fun w' hb => (hb.cell had6).trans p6
  have Hc := Lib.hid hcell
  have Hb1 := Lib.hid hb1
  have N1 : Hid (Calls Try.prog 91 #[.int .i64 (n : Int)] (W.drew.alloc (.cells #[.bool false, .slice none 0 0] 82)) (fun e w' => e = .returned (.pointer (some ⟨W.heap.size + 1, 0, none⟩)) ∧ IntB w' (W.heap.size + 1) (n : Int) ∧ Below W.heap.size W w' ∧ IntS w' W.heap.size)) := by
    refine Lib.hid ((newint_any (w := W.drew.alloc (.cells #[.bool false, .slice none 0 0] 82)) (n := (n : Int)) (by omega) (by omega)).mono ?_)
    rintro e w' ⟨h1, h2, h3⟩
    rw [World.size_alloc] at h1 h2
    exact ⟨h1, h2, hb1.trans (h3.mono hb1.size), by
      obtain ⟨s, A, n, c, hb⟩ := zslot W.drew
      exact ⟨s, A, n, c, hb.below h3 (by rw [World.size_alloc]; exact Nat.lt_succ_self _)⟩⟩
  have N2 : Hid (Calls Try.prog 91 #[.int .i64 (n : Int)] W.drew (fun e w' => e = .returned (.pointer (some ⟨W.heap.size, 0, none⟩)) ∧ IntB w' W.heap.size (n : Int) ∧ Below W.heap.size W w' ∧ True)) := by
    refine Lib.hid ((newint_any (w := W.drew) (n := (n : Int)) (by omega) (by omega)).mono ?_)
    rintro e w' ⟨h1, h2, h3⟩
    exact ⟨h1, h2, (Below.refl _ _).drew.trans h3, trivial⟩
  clear hcell hb1 had6
  go_wp2_with fail
  refine wp_region_noPanic ?_
  refine wp_region_HK (fun w' => w'.cell? ad = some (.pointer (some ⟨g1, 0, none⟩))) 6 (by kernel_rfl) p6 (fun hHeld => ?_)
  refine wpHK_take (i := 1) (oi := Oper.mk (some 37) _ _ _ _ _) (v := ?_) rfl (by kernel_rfl) (by kernel_rfl) (by kernel_rfl) (by kernel_rfl) (fun _ _ _ h => h) (Or.inl ⟨by rfl, ?_⟩) (by assumption) ?_
  rotate_left
  · (intro w' hSw; (try dsimp only at hSw); (obtain s1 := hSw); go_simp; try with_reducible rfl)
  try simp only [Act.put, List.setIfInBounds_toArray, List.set_cons_zero, List.set_cons_succ]
  refine wpHK_take (i := 2) (oi := Oper.mk (some 38) _ _ _ _ _) (v := ?_) rfl (by kernel_rfl) (by kernel_rfl) (by kernel_rfl) (by kernel_rfl) (fun _ _ _ h => h) (Or.inl ⟨by rfl, ?_⟩) (by assumption) ?_
  rotate_left
  · (intro w' hSw; (try dsimp only at hSw); (obtain s1 := hSw); go_simp; try with_reducible rfl)
  try simp only [Act.put, List.setIfInBounds_toArray, List.set_cons_zero, List.set_cons_succ]
  refine wpHK_take (i := 3) (oi := Oper.mk (some 39) _ _ _ _ _) (v := ?_) rfl (by kernel_rfl) (by kernel_rfl) (by kernel_rfl) (by kernel_rfl) (fun _ _ _ h => h) (Or.inl ⟨by rfl, ?_⟩) (by assumption) ?_
  rotate_left
  · (intro w' hSw; (try dsimp only at hSw); (obtain s1 := hSw); go_simp; try with_reducible rfl)
  try simp only [Act.put, List.setIfInBounds_toArray, List.set_cons_zero, List.set_cons_succ]
  refine wpHK_take (i := 4) (oi := Oper.mk (some 40) _ _ _ _ _) (v := ?_) rfl (by kernel_rfl) (by kernel_rfl) (by kernel_rfl) (by kernel_rfl) (fun _ _ _ h => h) (Or.inl ⟨by rfl, ?_⟩) (by assumption) ?_
  rotate_left
  · (intro w' hSw; (try dsimp only at hSw); (obtain s1 := hSw); go_simp; try with_reducible rfl)
  try simp only [Act.put, List.setIfInBounds_toArray, List.set_cons_zero, List.set_cons_succ]
  refine wpHK_two (i := 0) (j := 5) (oi := Oper.mk (some 36) _ _ _ _ _) (oj := Oper.mk (some 41) _ _ _ _ _) rfl rfl (by kernel_rfl) (fun K hK => ?_) (fun K hK => ?_)
  · go_simp
    refine hK.out _ _ (Hc.out _ Hb1.out) (fun _ => ?_)
    clear hK K hHeld
    have hHeld := (Hc.out _ Hb1.out)
    try simp only [Act.put, List.setIfInBounds_toArray, List.set_cons_zero, List.set_cons_succ]
    refine wpHK_one (j := 5) (o := Oper.mk (some 41) _ _ _ _ _) rfl (by kernel_rfl) (fun K hK => ?_)
    go_simp
    refine N1.out.mono ?_
    rintro e V ⟨rfl, hvi, hvb, hvg⟩
    have hvb := Lib.hid hvb
    have hvi := Lib.hid hvi
    have hvg := Lib.hid hvg
    refine hK.out _ _ (Hc.out _ hvb.out) (fun _ => ?_)
    clear hK K hHeld
    have hHeld := (Hc.out _ hvb.out)
    try simp only [Act.put, List.setIfInBounds_toArray, List.set_cons_zero, List.set_cons_succ]
    refine wpHK_tail (j := 6) (o := Oper.mk (some 42) _ _ _ _ _) rfl (by kernel_rfl) (by decide) (fun K hK => ?_)
    go_simp
    have HE := Lib.hid (exp_rdy hvb.out hvg.out (Nat.le_refl _) hvi.out Hx6.out Hl.out.1 Hl.out.2.1 Hl.out.2.2)
    refine HE.out.mono ?_
    rintro e V2 ⟨rfl, hi2, hb2⟩
    have HT := Lib.hid (told_any hi2 (by rw [Int.natAbs_pow]; have := Hl.out.1; omega))
    have hb2 := Lib.hid hb2
    clear hi2 HE
    refine hK.out _ _ ?_
    clear hK K
    try simp only [Act.put, List.setIfInBounds_toArray, List.set_cons_zero, List.set_cons_succ]
    refine wpHK_tail (j := 7) (o := Oper.mk (some 43) _ _ _ _ _) rfl (by kernel_rfl) (by decide) (fun K hK => ?_)
    go_simp
    refine HT.out.mono ?_
    intro e V3 hT
    obtain ⟨sn, bn, cd, rfl, hb7, hfin⟩ := tells_form hT
    have hb3 := hb2.out.trans (hb7.mono hb2.out.size)
    have n2 := m6.out.below hb3 Hs6.out
    have z0 : V3.cell? ⟨w.heap.size + 1, 0, none⟩ = some (.bool false) := n2.cell 0
    have z1 : V3.cell? ⟨w.heap.size + 1, 1, none⟩ = some (.string ⟨#[]⟩) := n2.cell 1
    have z2 := n2.frozen 0
    have z3 := n2.frozen 1
    have hb03 := Lib.hid (H6.out.trans (hb3.mono H6.out.size))
    clear hT n2 hb7 HT hb2 hb3
    refine hK.out _ _ ?_
    clear hK K
    try simp only [Act.put, List.setIfInBounds_toArray, List.set_cons_zero, List.set_cons_succ]
    refine wpHK_pure (i := 8) (oi := Oper.mk (some 44) _ _ _ _ _) (v := ?_) rfl (by kernel_rfl) (by kernel_rfl) (by kernel_rfl) (fun _ _ _ h => h) (Or.inl ⟨by rfl, ?_⟩) ?_
    rotate_left
    · (intro w' _; go_simp; try with_reducible rfl)
    try simp only [Act.put, List.setIfInBounds_toArray, List.set_cons_zero, List.set_cons_succ]
    refine wpHK_pure (i := 9) (oi := Oper.mk (some 45) _ _ _ _ _) (v := ?_) rfl (by kernel_rfl) (by kernel_rfl) (by kernel_rfl) (fun _ _ _ h => h) (Or.inl ⟨by rfl, ?_⟩) ?_
    rotate_left
    · (intro w' _; go_simp; try with_reducible rfl)
    try simp only [Act.put, List.setIfInBounds_toArray, List.set_cons_zero, List.set_cons_succ]
    refine wpHK_tail (j := 10) (o := Oper.mk (none) _ _ _ _ _) rfl (by kernel_rfl) (by decide) (fun K hK => ?_)
    go_simp
    refine hK.out _ _ ?_
    clear hK K
    try simp only [Act.put, List.setIfInBounds_toArray, List.set_cons_zero, List.set_cons_succ]
    refine wpHK_pure (i := 11) (oi := Oper.mk (some 5) _ _ _ _ _) (v := ?_) rfl (by kernel_rfl) (by kernel_rfl) (by kernel_rfl) (fun _ _ _ h => h) (Or.inl ⟨by rfl, ?_⟩) ?_
    rotate_left
    · (intro w' _; go_simp; try with_reducible rfl)
    try simp only [Act.put, List.setIfInBounds_toArray, List.set_cons_zero, List.set_cons_succ]
    refine wpHK_done (by kernel_rfl) ?_ _
    refine NoPanic.normal ?_
    go_wp2_with fail
    refine bodyPost_ret (v := .tuple #[.agg #[.bool sn, .string bn], .int .i64 cd]) (by simp [results, Try.results55, go_sem, z0, z1]) rfl ?_
    exact hfin _ _ _ ⟨Hm.out, Int.natCast_nonneg n⟩ ((hb03.out.setCell (by show w.heap.size ≤ w.heap.size + 1; omega) _).setCell (by show w.heap.size ≤ w.heap.size + 1; omega) _)
  · go_simp
    refine N2.out.mono ?_
    rintro e V ⟨rfl, hvi, hvb, hvg⟩
    have hvb := Lib.hid hvb
    have hvi := Lib.hid hvi
    have hvg := Lib.hid hvg
    refine hK.out _ _ (Hc.out _ hvb.out) (fun _ => ?_)
    clear hK K hHeld
    have hHeld := (Hc.out _ hvb.out)
    try simp only [Act.put, List.setIfInBounds_toArray, List.set_cons_zero, List.set_cons_succ]
    refine wpHK_one (j := 0) (o := Oper.mk (some 36) _ _ _ _ _) rfl (by kernel_rfl) (fun K hK => ?_)
    go_simp
    refine hK.out _ _ (Hc.out _ (hvb.out.trans ((new_below V (.cells #[.bool false, .slice none 0 0] 82)).mono hvb.out.size))) (fun _ => ?_)
    clear hK K hHeld
    have hHeld := (Hc.out _ (hvb.out.trans ((new_below V (.cells #[.bool false, .slice none 0 0] 82)).mono hvb.out.size)))
    try simp only [Act.put, List.setIfInBounds_toArray, List.set_cons_zero, List.set_cons_succ]
    refine wpHK_tail (j := 6) (o := Oper.mk (some 42) _ _ _ _ _) rfl (by kernel_rfl) (by decide) (fun K hK => ?_)
    go_simp
    have HE := Lib.hid (exp_rdy (hvb.out.trans ((new_below V (.cells #[.bool false, .slice none 0 0] 82)).mono hvb.out.size)) (zslot V) hvb.out.size (hvi.out.below (new_below V (.cells #[.bool false, .slice none 0 0] 82))) Hx6.out Hl.out.1 Hl.out.2.1 Hl.out.2.2)
    refine HE.out.mono ?_
    rintro e V2 ⟨rfl, hi2, hb2⟩
    have HT := Lib.hid (told_any hi2 (by rw [Int.natAbs_pow]; have := Hl.out.1; omega))
    have hb2 := Lib.hid hb2
    clear hi2 HE
    refine hK.out _ _ ?_
    clear hK K
    try simp only [Act.put, List.setIfInBounds_toArray, List.set_cons_zero, List.set_cons_succ]
    refine wpHK_tail (j := 7) (o := Oper.mk (some 43) _ _ _ _ _) rfl (by kernel_rfl) (by decide) (fun K hK => ?_)
    go_simp
    refine HT.out.mono ?_
    intro e V3 hT
    obtain ⟨sn, bn, cd, rfl, hb7, hfin⟩ := tells_form hT
    have hb3 := hb2.out.trans (hb7.mono hb2.out.size)
    have n2 := m6.out.below hb3 Hs6.out
    have z0 : V3.cell? ⟨w.heap.size + 1, 0, none⟩ = some (.bool false) := n2.cell 0
    have z1 : V3.cell? ⟨w.heap.size + 1, 1, none⟩ = some (.string ⟨#[]⟩) := n2.cell 1
    have z2 := n2.frozen 0
    have z3 := n2.frozen 1
    have hb03 := Lib.hid (H6.out.trans (hb3.mono H6.out.size))
    clear hT n2 hb7 HT hb2 hb3
    refine hK.out _ _ ?_
    clear hK K
    try simp only [Act.put, List.setIfInBounds_toArray, List.set_cons_zero, List.set_cons_succ]
    refine wpHK_pure (i := 8) (oi := Oper.mk (some 44) _ _ _ _ _) (v := ?_) rfl (by kernel_rfl) (by kernel_rfl) (by kernel_rfl) (fun _ _ _ h => h) (Or.inl ⟨by rfl, ?_⟩) ?_
    rotate_left
    · (intro w' _; go_simp; try with_reducible rfl)
    try simp only [Act.put, List.setIfInBounds_toArray, List.set_cons_zero, List.set_cons_succ]
    refine wpHK_pure (i := 9) (oi := Oper.mk (some 45) _ _ _ _ _) (v := ?_) rfl (by kernel_rfl) (by kernel_rfl) (by kernel_rfl) (fun _ _ _ h => h) (Or.inl ⟨by rfl, ?_⟩) ?_
    rotate_left
    · (intro w' _; go_simp; try with_reducible rfl)
    try simp only [Act.put, List.setIfInBounds_toArray, List.set_cons_zero, List.set_cons_succ]
    refine wpHK_tail (j := 10) (o := Oper.mk (none) _ _ _ _ _) rfl (by kernel_rfl) (by decide) (fun K hK => ?_)
    go_simp
    refine hK.out _ _ ?_
    clear hK K
    try simp only [Act.put, List.setIfInBounds_toArray, List.set_cons_zero, List.set_cons_succ]
    refine wpHK_pure (i := 11) (oi := Oper.mk (some 5) _ _ _ _ _) (v := ?_) rfl (by kernel_rfl) (by kernel_rfl) (by kernel_rfl) (fun _ _ _ h => h) (Or.inl ⟨by rfl, ?_⟩) ?_
    rotate_left
    · (intro w' _; go_simp; try with_reducible rfl)
    try simp only [Act.put, List.setIfInBounds_toArray, List.set_cons_zero, List.set_cons_succ]
    refine wpHK_done (by kernel_rfl) ?_ _
    refine NoPanic.normal ?_
    go_wp2_with fail
    refine bodyPost_ret (v := .tuple #[.agg #[.bool sn, .string bn], .int .i64 cd]) (by simp [results, Try.results55, go_sem, z0, z1]) rfl ?_
    exact hfin _ _ _ ⟨Hm.out, Int.natCast_nonneg n⟩ ((hb03.out.setCell (by show w.heap.size ≤ w.heap.size + 1; omega) _).setCell (by show w.heap.size ≤ w.heap.size + 1; omega) _)
theorem wpow_any {w : World} {na : Bool} {sa : ByteArray} {n : Int} (hn : n ≤ 9223372036854775807) :
    Calls Try.prog 55 #[.agg #[.bool na, .string sa], .int .i64 n] w (Ans w (MayL na sa.data.toList ∧ 0 ≤ n) (num (na, sa) ^ n.toNat)) := by
  by_cases hm : MayL na sa.data.toList
  · rcases Int.lt_or_le n 0 with h | h
    · exact wpow_neg hm h
    · obtain ⟨m, rfl⟩ := Int.eq_ofNat_of_zero_le h
      have h1 : m ≤ 9223372036854775807 := by omega
      rw [Int.toNat_natCast]
      rcases Nat.lt_or_ge (bl (num (na, sa)).natAbs) 2 with h2 | h2
      · exact wpow_one hm (by omega) h1
      · rcases Nat.lt_or_ge 131072 (m * (bl (num (na, sa)).natAbs - 1)) with h3 | h3
        · exact wpow_big hm h2 h3 h1
        · exact wpow_main hm h2 h3 h1
  · exact wpow_bad hm
end Go.Proofs.Ytpnginnjbdedbaa

/- The limits' numbers: plain. -/
namespace Go.Proofs.Ytpnginnjbdedbaa
open Go.RowKit
open Wh
set_option linter.unusedSimpArgs false
set_option linter.unusedVariables false

theorem bval_top : ∀ n : Nat, bval (List.replicate n 255) + 1 = 256 ^ n
  | 0 => rfl
  | n + 1 => by
    have h := bval_top n
    rw [List.replicate_succ', bval_snoc, Nat.pow_succ]
    have e : (255 : UInt8).toNat = 255 := rfl
    rw [e]
    omega
theorem dv_nines : ∀ n : Nat, dv (List.replicate n 57) + 1 = 10 ^ n
  | 0 => rfl
  | n + 1 => by
    have h := dv_nines n
    rw [List.replicate_succ', dv_snoc, Nat.pow_succ]
    have e : (57 : UInt8).toNat - 48 = 9 := rfl
    rw [e]
    omega
theorem dv_noughts : ∀ n : Nat, dv (49 :: List.replicate n 48) = 10 ^ n
  | 0 => rfl
  | n + 1 => by
    have h := dv_noughts n
    rw [List.replicate_succ', ← List.cons_append, dv_snoc, h, Nat.pow_succ]
    have e : (48 : UInt8).toNat - 48 = 0 := rfl
    rw [e, Nat.mul_comm, Nat.add_zero]
theorem good_digits {l : List UInt8} (hd : AllDig l) (h0 : ∀ b, l[0]? = some b → b ≠ 48) (hp : 0 < l.length) : Good l ∧ rval l = (dv l : Int) := by
  have hs : signOf l = false := by
    unfold signOf
    cases l with
    | nil => rfl
    | cons b r =>
      have := hd b (by simp)
      unfold IsDig at this
      simp only [List.head?_cons]
      cases h : (some b == some (45 : UInt8)) with
      | false => rfl
      | true =>
        exfalso
        have h2 := eq_of_beq h
        injection h2 with h2
        subst h2
        exact absurd this.1 (by decide)
  have hf : rfirst l = 0 := by unfold rfirst; rw [hs]; rfl
  refine ⟨?_, ?_⟩
  · unfold Good
    rw [hf]
    refine ⟨fun j b _ hb => hd b (List.mem_of_getElem? hb), hp, fun h => absurd rfl (h0 _ h)⟩
  · unfold rval
    rw [hf, hs, List.drop_zero]
    rfl
theorem nine_good {n : Nat} (h : 0 < n) : Good (List.replicate n 57) ∧ rval (List.replicate n 57) = ((10 ^ n - 1 : Nat) : Int) := by
  have h1 := good_digits (l := List.replicate n 57) (fun b hb => by rw [List.eq_of_mem_replicate hb]; exact ⟨by decide, by decide⟩) (fun b hb => by
    have := List.mem_of_getElem? hb
    rw [List.eq_of_mem_replicate this]; decide) (by simp; omega)
  refine ⟨h1.1, ?_⟩
  rw [h1.2]
  have := dv_nines n
  congr 1
  omega
theorem ten_good {n : Nat} : Good (49 :: List.replicate n 48) ∧ rval (49 :: List.replicate n 48) = ((10 ^ n : Nat) : Int) := by
  have h1 := good_digits (l := 49 :: List.replicate n 48) (fun b hb => by
    rcases List.mem_cons.1 hb with rfl | hb
    · exact ⟨by decide, by decide⟩
    · rw [List.eq_of_mem_replicate hb]; exact ⟨by decide, by decide⟩) (fun b hb => by simp at hb; subst hb; decide) (by simp)
  exact ⟨h1.1, by rw [h1.2, dv_noughts]⟩
theorem ten_low : Nat.blt (10 ^ 39456) (2 ^ 131072) = true := by kernel_rfl
theorem ten_high : Nat.blt (2 ^ 131064) (10 ^ 39456) = true := by kernel_rfl
theorem nine_high : Nat.blt (2 ^ 131072) (10 ^ 40000) = true := by kernel_rfl
end Go.Proofs.Ytpnginnjbdedbaa

/- law.WholeEdges (printed by gen_edges.py). -/
namespace Go.Proofs.Ytpnginnjbdedbaa
open Go.RowKit
open Wh
set_option linter.unusedSimpArgs false
set_option linter.unusedVariables false

/-- a value, and the blocks that were there stay -/
def Tlm (w : World) (v : Value) (e : Ending) (w' : World) : Prop := e = .returned v ∧ Below w.heap.size w w'
def T2nq (w : World) (cd : Int) (e : Ending) (w' : World) : Prop := e = .returned (.tuple #[.agg #[.bool false, .string ⟨#[]⟩], .int .i64 cd]) ∧ Below w.heap.size w w'
set_option maxRecDepth 100000 in
set_option maxHeartbeats 8000000 in
theorem edges_walk {w : World} {FF ZZ N0 N1 N2 bh bc : ByteArray} {sh sc : Bool} (H60a : Hid (∀ W : World, Calls Try.prog 60 #[.string ⟨#[255]⟩, .int .i64 16384] W (Tlm W (.string FF)))) (H60b : Hid (∀ W : World, Calls Try.prog 60 #[.string ⟨#[0]⟩, .int .i64 16384] W (Tlm W (.string ZZ)))) (H27a : Hid (∀ W : World, Calls Try.prog 27 #[.agg #[.bool false, .string FF], .agg #[.bool false, .string ⟨#[1]⟩]] W (T2nq W 4))) (H28a : Hid (∀ W : World, Calls Try.prog 28 #[.agg #[.bool true, .string FF], .agg #[.bool false, .string ⟨#[1]⟩]] W (T2nq W 4))) (H28b : Hid (∀ W : World, Calls Try.prog 28 #[.agg #[.bool false, .string FF], .agg #[.bool false, .string FF]] W (T2 W false ⟨#[]⟩))) (H22a : Hid (∀ W : World, Calls Try.prog 22 #[.agg #[.bool false, .string ⟨#[1]⟩], .int .i64 131071] W (T2 W sh bh))) (H22b : Hid (∀ W : World, Calls Try.prog 22 #[.agg #[.bool false, .string ⟨#[1]⟩], .int .i64 131072] W (T2nq W 4))) (H22c : Hid (∀ W : World, Calls Try.prog 22 #[.agg #[.bool false, .string ⟨#[3]⟩], .int .i64 131071] W (T2nq W 4))) (H27b : Hid (∀ W : World, Calls Try.prog 27 #[.agg #[.bool false, .string (⟨#[1]⟩ ++ ZZ)], .agg #[.bool false, .string ⟨#[1]⟩]] W (T2nq W 2))) (H55 : Hid (∀ W : World, Calls Try.prog 55 #[.agg #[.bool false, .string ⟨#[2]⟩], .int .i64 131072] W (T2nq W 4))) (H14 : Hid (∀ W : World, Calls Try.prog 14 #[.slice (some ⟨W.heap.size, 0, none⟩) 3 3] (W.alloc (.cells #[.bool false, .string FF, .bool false, .string ⟨#[1]⟩, .bool true, .string ⟨#[1]⟩] 26)) (T2 (W.alloc (.cells #[.bool false, .string FF, .bool false, .string ⟨#[1]⟩, .bool true, .string ⟨#[1]⟩] 26)) false FF))) (H43a : Hid (∀ W : World, Calls Try.prog 43 #[.agg #[.bool false, .string (⟨#[1]⟩ ++ ZZ)]] W (Tlm W (.int .i64 2)))) (H43b : Hid (∀ W : World, Calls Try.prog 43 #[.agg #[.bool false, .string FF]] W (Tlm W (.int .i64 0)))) (H45 : Hid (∀ W : World, Calls Try.prog 45 #[.agg #[.bool false, .string FF]] W (Tlm W (.int .i64 131072)))) (H60c : Hid (∀ W : World, Calls Try.prog 60 #[.string ⟨#[57]⟩, .int .i64 40000] W (Tlm W (.string N0)))) (H34a : Hid (∀ W : World, Calls Try.prog 34 #[.string N0] W (T2nq W 4))) (H60d : Hid (∀ W : World, Calls Try.prog 60 #[.string ⟨#[57]⟩, .int .i64 40001] W (Tlm W (.string N1)))) (H34b : Hid (∀ W : World, Calls Try.prog 34 #[.string N1] W (T2nq W 3))) (H60e : Hid (∀ W : World, Calls Try.prog 60 #[.string ⟨#[48]⟩, .int .i64 39456] W (Tlm W (.string N2)))) (H34c : Hid (∀ W : World, Calls Try.prog 34 #[.string (⟨#[49]⟩ ++ N2)] W (T2 W sc bc))) (Hbh : bh.size = 16384) (Hbc : bc.size = 16384) (hz : ZZ.size ≤ 100000) (hn2 : N2.size ≤ 100000) :
    Calls Try.prog 11 #[] w (fun e w' => e = .returned (.bool true) ∧ Below w.heap.size w w') := by
  have HW := Lib.hid (fun W : World => works_any (w := W))
  have HN := Lib.hid (fun (W : World) (n : Int) => num_any (w := W) (n := n))
  have E0 := Lib.hid (Env.nil w)
  have q1 : (bh.size : Int) = 16384 := by omega
  have q2 : (bc.size : Int) = 16384 := by omega
  clear Hbh Hbc
  go_enter Try.func11, Try.ntmps11
  go_upto_region 1 with fail
  go_wp2_with fail
  refine (H60a.out _).mono ?_
  rintro e w1 ⟨rfl, h1⟩
  have E2 := Lib.hid (E0.out.call h1)
  clear h1
  go_upto_region 2 with fail
  have E3 : Hid (Env w (w1.alloc (.cells #[.bool false, .string FF] 26)) [(w1.heap.size, 26, #[.bool false, .string FF])]) := Lib.hid (by have h := (Env.new E2.out 26 #[.bool false, .string FF]); (try simp only [World.size_alloc] at h); exact h)
  generalize (w1.alloc (.cells #[.bool false, .string FF] 26)) = W3 at E3 ⊢
  go_upto_region 3 with fail
  have E4 : Hid (Env w (W3.alloc (.cells #[.bool false, .string ⟨#[1]⟩] 26)) [(W3.heap.size, 26, #[.bool false, .string ⟨#[1]⟩]), (w1.heap.size, 26, #[.bool false, .string FF])]) := Lib.hid (by have h := (Env.new E3.out 26 #[.bool false, .string ⟨#[1]⟩]); (try simp only [World.size_alloc] at h); exact h)
  generalize (W3.alloc (.cells #[.bool false, .string ⟨#[1]⟩] 26)) = W4 at E4 ⊢
  go_wp2_with fail
  refine (H60b.out _).mono ?_
  rintro e w5 ⟨rfl, h5⟩
  have E6 := Lib.hid (E4.out.call h5)
  clear h5
  go_upto_region 4 with fail
  have E7 : Hid (Env w (w5.alloc (.cells #[.bool false, .string (⟨#[1]⟩ ++ ZZ)] 26)) [(w5.heap.size, 26, #[.bool false, .string (⟨#[1]⟩ ++ ZZ)]), (W3.heap.size, 26, #[.bool false, .string ⟨#[1]⟩]), (w1.heap.size, 26, #[.bool false, .string FF])]) := Lib.hid (by have h := (Env.new E6.out 26 #[.bool false, .string (⟨#[1]⟩ ++ ZZ)]); (try simp only [World.size_alloc] at h); exact h)
  generalize (w5.alloc (.cells #[.bool false, .string (⟨#[1]⟩ ++ ZZ)] 26)) = W7 at E7 ⊢
  have q0_0 : W7.cell? ⟨w1.heap.size, 0, none⟩ = some (.bool false) := (Env.at_ E7.out 2 rfl).cell 0
  have q0_1 : W7.cell? ⟨w1.heap.size, 1, none⟩ = some (.string FF) := (Env.at_ E7.out 2 rfl).cell 1
  have q1_0 : W7.cell? ⟨W3.heap.size, 0, none⟩ = some (.bool false) := (Env.at_ E7.out 1 rfl).cell 0
  have q1_1 : W7.cell? ⟨W3.heap.size, 1, none⟩ = some (.string ⟨#[1]⟩) := (Env.at_ E7.out 1 rfl).cell 1
  go_wp2_with fail
  refine (H27a.out _).mono ?_
  rintro e w8 ⟨rfl, h8⟩
  have E9 := Lib.hid (E7.out.call h8)
  clear q0_0 q0_1 q1_0 q1_1 h8
  go_upto_region 5 with fail
  have E10 : Hid (Env w (w8.alloc (.cells #[.bool false, .string ⟨#[]⟩] 26)) [(w8.heap.size, 26, #[.bool false, .string ⟨#[]⟩]), (w5.heap.size, 26, #[.bool false, .string (⟨#[1]⟩ ++ ZZ)]), (W3.heap.size, 26, #[.bool false, .string ⟨#[1]⟩]), (w1.heap.size, 26, #[.bool false, .string FF])]) := Lib.hid (by have h := (Env.new E9.out 26 #[.bool false, .string ⟨#[]⟩]); (try simp only [World.size_alloc] at h); exact h)
  generalize (w8.alloc (.cells #[.bool false, .string ⟨#[]⟩] 26)) = W10 at E10 ⊢
  have q1_1 : W10.cell? ⟨w1.heap.size, 1, none⟩ = some (.string FF) := (Env.at_ E10.out 3 rfl).cell 1
  have q3_0 : W10.cell? ⟨W3.heap.size, 0, none⟩ = some (.bool false) := (Env.at_ E10.out 2 rfl).cell 0
  have q3_1 : W10.cell? ⟨W3.heap.size, 1, none⟩ = some (.string ⟨#[1]⟩) := (Env.at_ E10.out 2 rfl).cell 1
  go_wp2_with fail
  refine (H28a.out _).mono ?_
  rintro e w11 ⟨rfl, h11⟩
  have E12 := Lib.hid (E10.out.call h11)
  clear q1_1 q3_0 q3_1 h11
  go_upto_region 6 with fail
  have E13 : Hid (Env w (w11.alloc (.cells #[.bool false, .string ⟨#[]⟩] 26)) [(w11.heap.size, 26, #[.bool false, .string ⟨#[]⟩]), (w8.heap.size, 26, #[.bool false, .string ⟨#[]⟩]), (w5.heap.size, 26, #[.bool false, .string (⟨#[1]⟩ ++ ZZ)]), (W3.heap.size, 26, #[.bool false, .string ⟨#[1]⟩]), (w1.heap.size, 26, #[.bool false, .string FF])]) := Lib.hid (by have h := (Env.new E12.out 26 #[.bool false, .string ⟨#[]⟩]); (try simp only [World.size_alloc] at h); exact h)
  generalize (w11.alloc (.cells #[.bool false, .string ⟨#[]⟩] 26)) = W13 at E13 ⊢
  have q0_0 : W13.cell? ⟨w1.heap.size, 0, none⟩ = some (.bool false) := (Env.at_ E13.out 4 rfl).cell 0
  have q0_1 : W13.cell? ⟨w1.heap.size, 1, none⟩ = some (.string FF) := (Env.at_ E13.out 4 rfl).cell 1
  go_wp2_with fail
  refine (H28b.out _).mono ?_
  rintro e w14 ⟨rfl, h14⟩
  have E15 := Lib.hid (E13.out.call h14)
  clear q0_0 q0_1 h14
  go_upto_region 7 with fail
  have E16 : Hid (Env w (w14.alloc (.cells #[.bool false, .string ⟨#[]⟩] 26)) [(w14.heap.size, 26, #[.bool false, .string ⟨#[]⟩]), (w11.heap.size, 26, #[.bool false, .string ⟨#[]⟩]), (w8.heap.size, 26, #[.bool false, .string ⟨#[]⟩]), (w5.heap.size, 26, #[.bool false, .string (⟨#[1]⟩ ++ ZZ)]), (W3.heap.size, 26, #[.bool false, .string ⟨#[1]⟩]), (w1.heap.size, 26, #[.bool false, .string FF])]) := Lib.hid (by have h := (Env.new E15.out 26 #[.bool false, .string ⟨#[]⟩]); (try simp only [World.size_alloc] at h); exact h)
  generalize (w14.alloc (.cells #[.bool false, .string ⟨#[]⟩] 26)) = W16 at E16 ⊢
  have q0_0 : W16.cell? ⟨W3.heap.size, 0, none⟩ = some (.bool false) := (Env.at_ E16.out 4 rfl).cell 0
  have q0_1 : W16.cell? ⟨W3.heap.size, 1, none⟩ = some (.string ⟨#[1]⟩) := (Env.at_ E16.out 4 rfl).cell 1
  go_wp2_with fail
  refine (H22a.out _).mono ?_
  rintro e w17 ⟨rfl, h17⟩
  have E18 := Lib.hid (E16.out.call h17)
  clear q0_0 q0_1 h17
  go_upto_region 8 with fail
  have E19 : Hid (Env w (w17.alloc (.cells #[.bool sh, .string bh] 26)) [(w17.heap.size, 26, #[.bool sh, .string bh]), (w14.heap.size, 26, #[.bool false, .string ⟨#[]⟩]), (w11.heap.size, 26, #[.bool false, .string ⟨#[]⟩]), (w8.heap.size, 26, #[.bool false, .string ⟨#[]⟩]), (w5.heap.size, 26, #[.bool false, .string (⟨#[1]⟩ ++ ZZ)]), (W3.heap.size, 26, #[.bool false, .string ⟨#[1]⟩]), (w1.heap.size, 26, #[.bool false, .string FF])]) := Lib.hid (by have h := (Env.new E18.out 26 #[.bool sh, .string bh]); (try simp only [World.size_alloc] at h); exact h)
  generalize (w17.alloc (.cells #[.bool sh, .string bh] 26)) = W19 at E19 ⊢
  have q0_0 : W19.cell? ⟨W3.heap.size, 0, none⟩ = some (.bool false) := (Env.at_ E19.out 5 rfl).cell 0
  have q0_1 : W19.cell? ⟨W3.heap.size, 1, none⟩ = some (.string ⟨#[1]⟩) := (Env.at_ E19.out 5 rfl).cell 1
  go_wp2_with fail
  refine (H22b.out _).mono ?_
  rintro e w20 ⟨rfl, h20⟩
  have E21 := Lib.hid (E19.out.call h20)
  clear q0_0 q0_1 h20
  go_upto_region 9 with fail
  have E22 : Hid (Env w (w20.alloc (.cells #[.bool false, .string ⟨#[]⟩] 26)) [(w20.heap.size, 26, #[.bool false, .string ⟨#[]⟩]), (w17.heap.size, 26, #[.bool sh, .string bh]), (w14.heap.size, 26, #[.bool false, .string ⟨#[]⟩]), (w11.heap.size, 26, #[.bool false, .string ⟨#[]⟩]), (w8.heap.size, 26, #[.bool false, .string ⟨#[]⟩]), (w5.heap.size, 26, #[.bool false, .string (⟨#[1]⟩ ++ ZZ)]), (W3.heap.size, 26, #[.bool false, .string ⟨#[1]⟩]), (w1.heap.size, 26, #[.bool false, .string FF])]) := Lib.hid (by have h := (Env.new E21.out 26 #[.bool false, .string ⟨#[]⟩]); (try simp only [World.size_alloc] at h); exact h)
  generalize (w20.alloc (.cells #[.bool false, .string ⟨#[]⟩] 26)) = W22 at E22 ⊢
  go_wp2_with fail
  refine (H22c.out _).mono ?_
  rintro e w23 ⟨rfl, h23⟩
  have E24 := Lib.hid (E22.out.call h23)
  clear h23
  go_upto_region 10 with fail
  have E25 : Hid (Env w (w23.alloc (.cells #[.bool false, .string ⟨#[]⟩] 26)) [(w23.heap.size, 26, #[.bool false, .string ⟨#[]⟩]), (w20.heap.size, 26, #[.bool false, .string ⟨#[]⟩]), (w17.heap.size, 26, #[.bool sh, .string bh]), (w14.heap.size, 26, #[.bool false, .string ⟨#[]⟩]), (w11.heap.size, 26, #[.bool false, .string ⟨#[]⟩]), (w8.heap.size, 26, #[.bool false, .string ⟨#[]⟩]), (w5.heap.size, 26, #[.bool false, .string (⟨#[1]⟩ ++ ZZ)]), (W3.heap.size, 26, #[.bool false, .string ⟨#[1]⟩]), (w1.heap.size, 26, #[.bool false, .string FF])]) := Lib.hid (by have h := (Env.new E24.out 26 #[.bool false, .string ⟨#[]⟩]); (try simp only [World.size_alloc] at h); exact h)
  generalize (w23.alloc (.cells #[.bool false, .string ⟨#[]⟩] 26)) = W25 at E25 ⊢
  have q0_0 : W25.cell? ⟨w5.heap.size, 0, none⟩ = some (.bool false) := (Env.at_ E25.out 6 rfl).cell 0
  have q0_1 : W25.cell? ⟨w5.heap.size, 1, none⟩ = some (.string (⟨#[1]⟩ ++ ZZ)) := (Env.at_ E25.out 6 rfl).cell 1
  have q1_0 : W25.cell? ⟨W3.heap.size, 0, none⟩ = some (.bool false) := (Env.at_ E25.out 7 rfl).cell 0
  have q1_1 : W25.cell? ⟨W3.heap.size, 1, none⟩ = some (.string ⟨#[1]⟩) := (Env.at_ E25.out 7 rfl).cell 1
  go_wp2_with fail
  refine (H27b.out _).mono ?_
  rintro e w26 ⟨rfl, h26⟩
  have E27 := Lib.hid (E25.out.call h26)
  clear q0_0 q0_1 q1_0 q1_1 h26
  go_upto_region 11 with fail
  have E28 : Hid (Env w (w26.alloc (.cells #[.bool false, .string ⟨#[]⟩] 26)) [(w26.heap.size, 26, #[.bool false, .string ⟨#[]⟩]), (w23.heap.size, 26, #[.bool false, .string ⟨#[]⟩]), (w20.heap.size, 26, #[.bool false, .string ⟨#[]⟩]), (w17.heap.size, 26, #[.bool sh, .string bh]), (w14.heap.size, 26, #[.bool false, .string ⟨#[]⟩]), (w11.heap.size, 26, #[.bool false, .string ⟨#[]⟩]), (w8.heap.size, 26, #[.bool false, .string ⟨#[]⟩]), (w5.heap.size, 26, #[.bool false, .string (⟨#[1]⟩ ++ ZZ)]), (W3.heap.size, 26, #[.bool false, .string ⟨#[1]⟩]), (w1.heap.size, 26, #[.bool false, .string FF])]) := Lib.hid (by have h := (Env.new E27.out 26 #[.bool false, .string ⟨#[]⟩]); (try simp only [World.size_alloc] at h); exact h)
  generalize (w26.alloc (.cells #[.bool false, .string ⟨#[]⟩] 26)) = W28 at E28 ⊢
  go_wp2_with fail
  refine (H55.out _).mono ?_
  rintro e w29 ⟨rfl, h29⟩
  have E30 := Lib.hid (E28.out.call h29)
  clear h29
  go_upto_region 12 with fail
  have E31 : Hid (Env w (w29.alloc (.cells #[.bool false, .string ⟨#[]⟩] 26)) [(w29.heap.size, 26, #[.bool false, .string ⟨#[]⟩]), (w26.heap.size, 26, #[.bool false, .string ⟨#[]⟩]), (w23.heap.size, 26, #[.bool false, .string ⟨#[]⟩]), (w20.heap.size, 26, #[.bool false, .string ⟨#[]⟩]), (w17.heap.size, 26, #[.bool sh, .string bh]), (w14.heap.size, 26, #[.bool false, .string ⟨#[]⟩]), (w11.heap.size, 26, #[.bool false, .string ⟨#[]⟩]), (w8.heap.size, 26, #[.bool false, .string ⟨#[]⟩]), (w5.heap.size, 26, #[.bool false, .string (⟨#[1]⟩ ++ ZZ)]), (W3.heap.size, 26, #[.bool false, .string ⟨#[1]⟩]), (w1.heap.size, 26, #[.bool false, .string FF])]) := Lib.hid (by have h := (Env.new E30.out 26 #[.bool false, .string ⟨#[]⟩]); (try simp only [World.size_alloc] at h); exact h)
  generalize (w29.alloc (.cells #[.bool false, .string ⟨#[]⟩] 26)) = W31 at E31 ⊢
  have q0_0 : W31.cell? ⟨w1.heap.size, 0, none⟩ = some (.bool false) := (Env.at_ E31.out 10 rfl).cell 0
  have q0_1 : W31.cell? ⟨w1.heap.size, 1, none⟩ = some (.string FF) := (Env.at_ E31.out 10 rfl).cell 1
  have q1_0 : W31.cell? ⟨W3.heap.size, 0, none⟩ = some (.bool false) := (Env.at_ E31.out 9 rfl).cell 0
  have q1_1 : W31.cell? ⟨W3.heap.size, 1, none⟩ = some (.string ⟨#[1]⟩) := (Env.at_ E31.out 9 rfl).cell 1
  go_wp2_with fail
  refine (H14.out _).mono ?_
  rintro e w32 ⟨rfl, h32⟩
  have E33 := Lib.hid ((Env.other E31.out (.cells #[.bool false, .string FF, .bool false, .string ⟨#[1]⟩, .bool true, .string ⟨#[1]⟩] 26)).call h32)
  clear q0_0 q0_1 q1_0 q1_1 h32
  go_upto_region 13 with fail
  have E34 : Hid (Env w (w32.alloc (.cells #[.bool false, .string FF] 26)) [(w32.heap.size, 26, #[.bool false, .string FF]), (w29.heap.size, 26, #[.bool false, .string ⟨#[]⟩]), (w26.heap.size, 26, #[.bool false, .string ⟨#[]⟩]), (w23.heap.size, 26, #[.bool false, .string ⟨#[]⟩]), (w20.heap.size, 26, #[.bool false, .string ⟨#[]⟩]), (w17.heap.size, 26, #[.bool sh, .string bh]), (w14.heap.size, 26, #[.bool false, .string ⟨#[]⟩]), (w11.heap.size, 26, #[.bool false, .string ⟨#[]⟩]), (w8.heap.size, 26, #[.bool false, .string ⟨#[]⟩]), (w5.heap.size, 26, #[.bool false, .string (⟨#[1]⟩ ++ ZZ)]), (W3.heap.size, 26, #[.bool false, .string ⟨#[1]⟩]), (w1.heap.size, 26, #[.bool false, .string FF])]) := Lib.hid (by have h := (Env.new E33.out 26 #[.bool false, .string FF]); (try simp only [World.size_alloc] at h); exact h)
  generalize (w32.alloc (.cells #[.bool false, .string FF] 26)) = W34 at E34 ⊢
  have q0_0 : W34.cell? ⟨w8.heap.size, 0, none⟩ = some (.bool false) := (Env.at_ E34.out 8 rfl).cell 0
  have q0_1 : W34.cell? ⟨w8.heap.size, 1, none⟩ = some (.string ⟨#[]⟩) := (Env.at_ E34.out 8 rfl).cell 1
  go_wp2_with fail
  refine (HN.out _ 4).mono ?_
  rintro e w35 ⟨rfl, h35⟩
  subst h35
  have E36 := Lib.hid (E34.out)
  clear q0_0 q0_1
  have q9_0 : W34.cell? ⟨w11.heap.size, 0, none⟩ = some (.bool false) := (Env.at_ E36.out 7 rfl).cell 0
  have q9_1 : W34.cell? ⟨w11.heap.size, 1, none⟩ = some (.string ⟨#[]⟩) := (Env.at_ E36.out 7 rfl).cell 1
  go_wp2_with fail
  refine (HN.out _ 4).mono ?_
  rintro e w37 ⟨rfl, h37⟩
  subst h37
  have E38 := Lib.hid (E36.out)
  clear q9_0 q9_1
  have q19_0 : W34.cell? ⟨w14.heap.size, 0, none⟩ = some (.bool false) := (Env.at_ E38.out 6 rfl).cell 0
  have q19_1 : W34.cell? ⟨w14.heap.size, 1, none⟩ = some (.string ⟨#[]⟩) := (Env.at_ E38.out 6 rfl).cell 1
  go_wp2_with fail
  refine (HN.out _ 0).mono ?_
  rintro e w39 ⟨rfl, h39⟩
  subst h39
  have E40 := Lib.hid (E38.out)
  clear q19_0 q19_1
  have q30_1 : W34.cell? ⟨w17.heap.size, 1, none⟩ = some (.string bh) := (Env.at_ E40.out 5 rfl).cell 1
  go_wp2_with fail
  refine (HN.out _ 0).mono ?_
  rintro e w41 ⟨rfl, h41⟩
  subst h41
  have E42 := Lib.hid (E40.out)
  clear q30_1
  have q40_0 : W34.cell? ⟨w20.heap.size, 0, none⟩ = some (.bool false) := (Env.at_ E42.out 4 rfl).cell 0
  have q40_1 : W34.cell? ⟨w20.heap.size, 1, none⟩ = some (.string ⟨#[]⟩) := (Env.at_ E42.out 4 rfl).cell 1
  go_wp2_with fail
  refine (HN.out _ 4).mono ?_
  rintro e w43 ⟨rfl, h43⟩
  subst h43
  have E44 := Lib.hid (E42.out)
  clear q40_0 q40_1
  have q50_0 : W34.cell? ⟨w23.heap.size, 0, none⟩ = some (.bool false) := (Env.at_ E44.out 3 rfl).cell 0
  have q50_1 : W34.cell? ⟨w23.heap.size, 1, none⟩ = some (.string ⟨#[]⟩) := (Env.at_ E44.out 3 rfl).cell 1
  go_wp2_with fail
  refine (HN.out _ 4).mono ?_
  rintro e w45 ⟨rfl, h45⟩
  subst h45
  have E46 := Lib.hid (E44.out)
  clear q50_0 q50_1
  go_upto_region 15 with fail
  have q0_0 : W34.cell? ⟨w26.heap.size, 0, none⟩ = some (.bool false) := (Env.at_ E46.out 2 rfl).cell 0
  have q0_1 : W34.cell? ⟨w26.heap.size, 1, none⟩ = some (.string ⟨#[]⟩) := (Env.at_ E46.out 2 rfl).cell 1
  go_wp2_with fail
  refine (HN.out _ 2).mono ?_
  rintro e w47 ⟨rfl, h47⟩
  subst h47
  have E48 := Lib.hid (E46.out)
  clear q0_0 q0_1
  have q9_0 : W34.cell? ⟨w29.heap.size, 0, none⟩ = some (.bool false) := (Env.at_ E48.out 1 rfl).cell 0
  have q9_1 : W34.cell? ⟨w29.heap.size, 1, none⟩ = some (.string ⟨#[]⟩) := (Env.at_ E48.out 1 rfl).cell 1
  go_wp2_with fail
  refine (HN.out _ 4).mono ?_
  rintro e w49 ⟨rfl, h49⟩
  subst h49
  have E50 := Lib.hid (E48.out)
  clear q9_0 q9_1
  have q19_0 : W34.cell? ⟨w32.heap.size, 0, none⟩ = some (.bool false) := (Env.at_ E50.out 0 rfl).cell 0
  have q19_1 : W34.cell? ⟨w32.heap.size, 1, none⟩ = some (.string FF) := (Env.at_ E50.out 0 rfl).cell 1
  have q20_0 : W34.cell? ⟨w1.heap.size, 0, none⟩ = some (.bool false) := (Env.at_ E50.out 11 rfl).cell 0
  have q20_1 : W34.cell? ⟨w1.heap.size, 1, none⟩ = some (.string FF) := (Env.at_ E50.out 11 rfl).cell 1
  go_wp2_with fail
  refine (HN.out _ 0).mono ?_
  rintro e w51 ⟨rfl, h51⟩
  subst h51
  have E52 := Lib.hid (E50.out)
  clear q19_0 q19_1 q20_0 q20_1
  have q29_0 : W34.cell? ⟨w5.heap.size, 0, none⟩ = some (.bool false) := (Env.at_ E52.out 9 rfl).cell 0
  have q29_1 : W34.cell? ⟨w5.heap.size, 1, none⟩ = some (.string (⟨#[1]⟩ ++ ZZ)) := (Env.at_ E52.out 9 rfl).cell 1
  go_wp2_with fail
  refine (H43a.out _).mono ?_
  rintro e w53 ⟨rfl, h53⟩
  have E54 := Lib.hid (E52.out.call h53)
  clear q29_0 q29_1 h53
  go_wp2_with fail
  refine (HN.out _ 2).mono ?_
  rintro e w55 ⟨rfl, h55⟩
  subst h55
  have E56 := Lib.hid (E54.out)
  have q35_0 : w53.cell? ⟨w1.heap.size, 0, none⟩ = some (.bool false) := (Env.at_ E56.out 11 rfl).cell 0
  have q35_1 : w53.cell? ⟨w1.heap.size, 1, none⟩ = some (.string FF) := (Env.at_ E56.out 11 rfl).cell 1
  go_wp2_with fail
  refine (H43b.out _).mono ?_
  rintro e w57 ⟨rfl, h57⟩
  have E58 := Lib.hid (E56.out.call h57)
  clear q35_0 q35_1 h57
  go_wp2_with fail
  refine (HN.out _ 0).mono ?_
  rintro e w59 ⟨rfl, h59⟩
  subst h59
  have E60 := Lib.hid (E58.out)
  have q41_0 : w57.cell? ⟨w1.heap.size, 0, none⟩ = some (.bool false) := (Env.at_ E60.out 11 rfl).cell 0
  have q41_1 : w57.cell? ⟨w1.heap.size, 1, none⟩ = some (.string FF) := (Env.at_ E60.out 11 rfl).cell 1
  go_wp2_with fail
  refine (H45.out _).mono ?_
  rintro e w61 ⟨rfl, h61⟩
  have E62 := Lib.hid (E60.out.call h61)
  clear q41_0 q41_1 h61
  go_upto_region 17 with fail
  go_wp2_with fail
  refine (H60c.out _).mono ?_
  rintro e w63 ⟨rfl, h63⟩
  have E64 := Lib.hid (E62.out.call h63)
  clear h63
  go_wp2_with fail
  refine (H34a.out _).mono ?_
  rintro e w65 ⟨rfl, h65⟩
  have E66 := Lib.hid (E64.out.call h65)
  clear h65
  go_upto_region 18 with fail
  have E67 : Hid (Env w (w65.alloc (.cells #[.bool false, .string ⟨#[]⟩] 26)) [(w65.heap.size, 26, #[.bool false, .string ⟨#[]⟩]), (w32.heap.size, 26, #[.bool false, .string FF]), (w29.heap.size, 26, #[.bool false, .string ⟨#[]⟩]), (w26.heap.size, 26, #[.bool false, .string ⟨#[]⟩]), (w23.heap.size, 26, #[.bool false, .string ⟨#[]⟩]), (w20.heap.size, 26, #[.bool false, .string ⟨#[]⟩]), (w17.heap.size, 26, #[.bool sh, .string bh]), (w14.heap.size, 26, #[.bool false, .string ⟨#[]⟩]), (w11.heap.size, 26, #[.bool false, .string ⟨#[]⟩]), (w8.heap.size, 26, #[.bool false, .string ⟨#[]⟩]), (w5.heap.size, 26, #[.bool false, .string (⟨#[1]⟩ ++ ZZ)]), (W3.heap.size, 26, #[.bool false, .string ⟨#[1]⟩]), (w1.heap.size, 26, #[.bool false, .string FF])]) := Lib.hid (by have h := (Env.new E66.out 26 #[.bool false, .string ⟨#[]⟩]); (try simp only [World.size_alloc] at h); exact h)
  generalize (w65.alloc (.cells #[.bool false, .string ⟨#[]⟩] 26)) = W67 at E67 ⊢
  go_wp2_with fail
  refine (H60d.out _).mono ?_
  rintro e w68 ⟨rfl, h68⟩
  have E69 := Lib.hid (E67.out.call h68)
  clear h68
  go_wp2_with fail
  refine (H34b.out _).mono ?_
  rintro e w70 ⟨rfl, h70⟩
  have E71 := Lib.hid (E69.out.call h70)
  clear h70
  go_upto_region 19 with fail
  have E72 : Hid (Env w (w70.alloc (.cells #[.bool false, .string ⟨#[]⟩] 26)) [(w70.heap.size, 26, #[.bool false, .string ⟨#[]⟩]), (w65.heap.size, 26, #[.bool false, .string ⟨#[]⟩]), (w32.heap.size, 26, #[.bool false, .string FF]), (w29.heap.size, 26, #[.bool false, .string ⟨#[]⟩]), (w26.heap.size, 26, #[.bool false, .string ⟨#[]⟩]), (w23.heap.size, 26, #[.bool false, .string ⟨#[]⟩]), (w20.heap.size, 26, #[.bool false, .string ⟨#[]⟩]), (w17.heap.size, 26, #[.bool sh, .string bh]), (w14.heap.size, 26, #[.bool false, .string ⟨#[]⟩]), (w11.heap.size, 26, #[.bool false, .string ⟨#[]⟩]), (w8.heap.size, 26, #[.bool false, .string ⟨#[]⟩]), (w5.heap.size, 26, #[.bool false, .string (⟨#[1]⟩ ++ ZZ)]), (W3.heap.size, 26, #[.bool false, .string ⟨#[1]⟩]), (w1.heap.size, 26, #[.bool false, .string FF])]) := Lib.hid (by have h := (Env.new E71.out 26 #[.bool false, .string ⟨#[]⟩]); (try simp only [World.size_alloc] at h); exact h)
  generalize (w70.alloc (.cells #[.bool false, .string ⟨#[]⟩] 26)) = W72 at E72 ⊢
  go_wp2_with fail
  refine (H60e.out _).mono ?_
  rintro e w73 ⟨rfl, h73⟩
  have E74 := Lib.hid (E72.out.call h73)
  clear h73
  go_wp2_with fail
  refine (H34c.out _).mono ?_
  rintro e w75 ⟨rfl, h75⟩
  have E76 := Lib.hid (E74.out.call h75)
  clear h75
  go_upto_region 20 with fail
  have E77 : Hid (Env w (w75.alloc (.cells #[.bool sc, .string bc] 26)) [(w75.heap.size, 26, #[.bool sc, .string bc]), (w70.heap.size, 26, #[.bool false, .string ⟨#[]⟩]), (w65.heap.size, 26, #[.bool false, .string ⟨#[]⟩]), (w32.heap.size, 26, #[.bool false, .string FF]), (w29.heap.size, 26, #[.bool false, .string ⟨#[]⟩]), (w26.heap.size, 26, #[.bool false, .string ⟨#[]⟩]), (w23.heap.size, 26, #[.bool false, .string ⟨#[]⟩]), (w20.heap.size, 26, #[.bool false, .string ⟨#[]⟩]), (w17.heap.size, 26, #[.bool sh, .string bh]), (w14.heap.size, 26, #[.bool false, .string ⟨#[]⟩]), (w11.heap.size, 26, #[.bool false, .string ⟨#[]⟩]), (w8.heap.size, 26, #[.bool false, .string ⟨#[]⟩]), (w5.heap.size, 26, #[.bool false, .string (⟨#[1]⟩ ++ ZZ)]), (W3.heap.size, 26, #[.bool false, .string ⟨#[1]⟩]), (w1.heap.size, 26, #[.bool false, .string FF])]) := Lib.hid (by have h := (Env.new E76.out 26 #[.bool sc, .string bc]); (try simp only [World.size_alloc] at h); exact h)
  generalize (w75.alloc (.cells #[.bool sc, .string bc] 26)) = W77 at E77 ⊢
  have q0_0 : W77.cell? ⟨w65.heap.size, 0, none⟩ = some (.bool false) := (Env.at_ E77.out 2 rfl).cell 0
  have q0_1 : W77.cell? ⟨w65.heap.size, 1, none⟩ = some (.string ⟨#[]⟩) := (Env.at_ E77.out 2 rfl).cell 1
  go_wp2_with fail
  refine (HN.out _ 4).mono ?_
  rintro e w78 ⟨rfl, h78⟩
  subst h78
  have E79 := Lib.hid (E77.out)
  clear q0_0 q0_1
  have q9_0 : W77.cell? ⟨w70.heap.size, 0, none⟩ = some (.bool false) := (Env.at_ E79.out 1 rfl).cell 0
  have q9_1 : W77.cell? ⟨w70.heap.size, 1, none⟩ = some (.string ⟨#[]⟩) := (Env.at_ E79.out 1 rfl).cell 1
  go_wp2_with fail
  refine (HN.out _ 3).mono ?_
  rintro e w80 ⟨rfl, h80⟩
  subst h80
  have E81 := Lib.hid (E79.out)
  clear q9_0 q9_1
  have q20_1 : W77.cell? ⟨w75.heap.size, 1, none⟩ = some (.string bc) := (Env.at_ E81.out 0 rfl).cell 1
  go_wp2_with fail
  refine (HN.out _ 0).mono ?_
  rintro e w82 ⟨rfl, h82⟩
  subst h82
  have E83 := Lib.hid (E81.out)
  clear q20_1
  go_wp2_with fail
  refine (HW.out _).mono ?_
  rintro e w84 ⟨rfl, h84⟩
  have E85 := Lib.hid (E83.out.call h84)
  clear h84
  go_wp2_with fail
  go_ret
  exact ⟨rfl, E85.out.1⟩
end Go.Proofs.Ytpnginnjbdedbaa

/- law.WholeEdges: its contracts. -/
namespace Go.Proofs.Ytpnginnjbdedbaa
open Go.RowKit
open Wh
set_option linter.unusedSimpArgs false
set_option linter.unusedVariables false

theorem nine_high' {J K : Nat} (hJ : J = 131072) (hK : K = 40000) : 2 ^ J < 10 ^ K := by
  rw [hJ, hK]; exact Nat.blt_eq.mp nine_high
theorem ten_low' {J K : Nat} (hJ : J = 131072) (hK : K = 39456) : 10 ^ K < 2 ^ J := by
  rw [hJ, hK]; exact Nat.blt_eq.mp ten_low
theorem ten_high' {J K : Nat} (hJ : J = 131064) (hK : K = 39456) : 2 ^ J < 10 ^ K := by
  rw [hJ, hK]; exact Nat.blt_eq.mp ten_high
theorem may_byte {n : Bool} {b : UInt8} (h : b ≠ 0) : MayL n (⟨#[b]⟩ : ByteArray).data.toList := ⟨by show 1 ≤ 16384; omega, fun h => by simp at h, fun x hx => by simp at hx; subst hx; exact h⟩
theorem many_len {K : Nat} {b : UInt8} : (⟨(List.replicate K b).toArray⟩ : ByteArray).data.toList = List.replicate K b := rfl
theorem many_size {K : Nat} {b : UInt8} : (⟨(List.replicate K b).toArray⟩ : ByteArray).size = K := by show (List.replicate K b).toArray.size = K; simp
theorem may_top {n : Bool} {K : Nat} (hK : K ≤ 16384) (h0 : 0 < K) : MayL n (⟨(List.replicate K 255).toArray⟩ : ByteArray).data.toList := by
  rw [many_len]
  refine ⟨by simp; exact hK, fun h => by simp at h; omega, fun x hx => ?_⟩
  have := List.mem_of_mem_head? hx
  rw [List.eq_of_mem_replicate this]; decide
theorem not_fits {z : Int} {J : Nat} (hJ : J = 131072) (h : 2 ^ J ≤ z.natAbs) : ¬ fits z := fun hf => by
  unfold fits at hf
  have := bl_lt.1 hf
  rw [← hJ] at this
  omega
theorem is_fits {z : Int} {J : Nat} (hJ : J = 131072) (h : z.natAbs < 2 ^ J) : fits z := by
  rw [hJ] at h
  exact bl_lt.2 h
theorem form_len {z : Int} {s : Bool} {b : ByteArray} (he : enc z = .agg #[.bool s, .string b]) : b.size = (bys z.natAbs).length := by
  unfold enc at he
  injection he with he
  have h2 : (⟨(bys z.natAbs).toArray⟩ : ByteArray) = b := by
    have := congrArg (fun x => x[1]?) he
    simpa using this
  rw [← h2]; exact List.size_toArray
theorem bys_exact {m J I K : Nat} (hJ : J = 8 * K) (hI : I + 8 = J) (hK : 0 < K) (h1 : m < 2 ^ J) (h2 : 2 ^ I ≤ m) : (bys m).length = K := by
  have a1 : (bys m).length ≤ K := bys_len (by rw [pow_bytes, ← hJ]; exact h1)
  rcases Nat.lt_or_ge (bys m).length K with h | h
  · exfalso
    have a2 : (bys m).length ≤ K - 1 := by omega
    have a3 := lt_of_bys a2
    rw [pow_bytes, show 8 * (K - 1) = I by omega] at a3
    omega
  · omega
theorem top_val {n : Bool} {K J : Nat} (hJ : J = 8 * K) : num (n, ⟨(List.replicate K 255).toArray⟩) = sgn n (2 ^ J - 1) := by
  unfold num
  have h := bval_top K
  rw [pow_bytes, ← hJ] at h
  show sgn n (bval (List.replicate K 255)) = _
  congr 1
  omega
theorem blk_trio {w : World} (a b c : Bool × ByteArray) : ReadsWh (w.alloc (.cells #[.bool a.1, .string a.2, .bool b.1, .string b.2, .bool c.1, .string c.2] 26)) (w.heap.size + 1) (some ⟨w.heap.size, 0, none⟩) [a, b, c] := by
  refine ⟨rfl, fun _ => ⟨_, rfl, Nat.lt_succ_self _, fun j u hu => ?_⟩⟩
  rw [Addr.add_lit, Nat.zero_add, (Blk.new w 26 #[.bool a.1, .string a.2, .bool b.1, .string b.2, .bool c.1, .string c.2]).cell j]
  rw [← hu]
  match j with
  | 0 => rfl
  | 1 => rfl
  | 2 => rfl
  | 3 => rfl
  | 4 => rfl
  | 5 => rfl
  | _ + 6 => rfl
theorem one_num (n : Bool) (b : UInt8) : num (n, ⟨#[b]⟩) = sgn n b.toNat := by
  unfold num
  show sgn n (bval [b]) = _
  rw [show [b] = ([] : List UInt8) ++ [b] from rfl, bval_snoc]
  congr 1
  show 0 * 256 + b.toNat = b.toNat
  omega
theorem app_list (b : UInt8) (K : Nat) (c : UInt8) : ((⟨#[b]⟩ : ByteArray) ++ ⟨(List.replicate K c).toArray⟩).data.toList = b :: List.replicate K c := by
  rw [ByteArray.data_append]
  simp
set_option maxRecDepth 10000 in
theorem edges_any {w : World} : Calls Try.prog 11 #[] w (fun e w' => e = .returned (.bool true) ∧ Below w.heap.size w w') := by
  obtain ⟨K, hK⟩ : ∃ K, K = 16384 := ⟨_, rfl⟩
  obtain ⟨J, hJ⟩ : ∃ J, J = 131072 := ⟨_, rfl⟩
  obtain ⟨M, hM⟩ : ∃ M, M = 131071 := ⟨_, rfl⟩
  obtain ⟨I, hI⟩ : ∃ I, I = 131064 := ⟨_, rfl⟩
  obtain ⟨A0, hA0⟩ : ∃ A, A = 40000 := ⟨_, rfl⟩
  obtain ⟨A1, hA1⟩ : ∃ A, A = 40001 := ⟨_, rfl⟩
  obtain ⟨A2, hA2⟩ : ∃ A, A = 39456 := ⟨_, rfl⟩
  have cK : ((K : Nat) : Int) = 16384 := by omega
  have cJ : ((J : Nat) : Int) = 131072 := by omega
  have cM : ((M : Nat) : Int) = 131071 := by omega
  have c0 : ((A0 : Nat) : Int) = 40000 := by omega
  have c1 : ((A1 : Nat) : Int) = 40001 := by omega
  have c2 : ((A2 : Nat) : Int) = 39456 := by omega
  have hJK : J = 8 * K := by omega
  have hJM : J = M + 1 := by omega
  have pJ : 2 ^ J = 2 * 2 ^ M := by rw [hJM, Nat.pow_succ, Nat.mul_comm]
  have pM := Nat.two_pow_pos M
  have mt := fun n : Bool => may_top (n := n) (K := K) (by omega) (by omega)
  have vt := fun n : Bool => top_val (n := n) hJK
  have m1 := fun n : Bool => may_byte (n := n) (b := 1) (by decide)
  have v1 : num (false, ⟨#[1]⟩) = 1 := one_num false 1
  have v1n : num (true, ⟨#[1]⟩) = -1 := one_num true 1
  have v2 : num (false, ⟨#[2]⟩) = 2 := one_num false 2
  have v3 : num (false, ⟨#[3]⟩) = 3 := one_num false 3
  have st : sgn false (2 ^ J - 1) = ((2 ^ J : Nat) : Int) - 1 := by show ((2 ^ J - 1 : Nat) : Int) = _; omega
  have stn : sgn true (2 ^ J - 1) = -(((2 ^ J : Nat) : Int) - 1) := by show -((2 ^ J - 1 : Nat) : Int) = _; omega
  have hlong : ¬ MayL false ((⟨#[1]⟩ : ByteArray) ++ ⟨(List.replicate K 0).toArray⟩).data.toList := fun h => by
    have := h.1
    rw [app_list] at this
    simp at this
    omega
  -- shifts
  have s1 : shf 1 (M : Int) = ((2 ^ M : Nat) : Int) := by unfold shf; rw [if_pos (by omega), Int.toNat_natCast, Int.one_mul, pow2_cast]
  have s2 : shf 1 (J : Int) = ((2 ^ J : Nat) : Int) := by unfold shf; rw [if_pos (by omega), Int.toNat_natCast, Int.one_mul, pow2_cast]
  have s3 : shf 3 (M : Int) = ((3 * 2 ^ M : Nat) : Int) := by unfold shf; rw [if_pos (by omega), Int.toNat_natCast, pow2_cast]; omega
  have f1 : fits ((2 ^ M : Nat) : Int) := is_fits hJ (by rw [Int.natAbs_natCast]; omega)
  obtain ⟨sh, bh, eh, nh, mh⟩ := enc_form f1
  have zh : bh.size = K := by
    rw [form_len eh, Int.natAbs_natCast]
    refine bys_exact (J := J) (I := I) hJK (by omega) (by omega) (by omega) (Nat.pow_le_pow_right (by decide) (by omega))
  -- texts
  obtain ⟨g9, r9⟩ := nine_good (n := A0) (by omega)
  obtain ⟨g1, r1⟩ := ten_good (n := A2)
  have x9 := nine_high' hJ hA0
  have x1 := ten_low' hJ hA2
  have x2 := ten_high' hI hA2
  have f2 : fits ((10 ^ A2 : Nat) : Int) := is_fits hJ (by rw [Int.natAbs_natCast]; exact x1)
  obtain ⟨sc, bc, ec, nc, mc⟩ := enc_form f2
  have zc : bc.size = K := by
    rw [form_len ec, Int.natAbs_natCast]
    exact bys_exact (J := J) (I := I) hJK (by omega) (by omega) x1 (Nat.le_of_lt x2)
  refine edges_walk (FF := ⟨(List.replicate K 255).toArray⟩) (ZZ := ⟨(List.replicate K 0).toArray⟩) (N0 := ⟨(List.replicate A0 57).toArray⟩) (N1 := ⟨(List.replicate A1 57).toArray⟩) (N2 := ⟨(List.replicate A2 48).toArray⟩) (sh := sh) (bh := bh) (sc := sc) (bc := bc)
    (Lib.hid fun W => ?h60a) (Lib.hid fun W => ?h60b) (Lib.hid fun W => ?h27a) (Lib.hid fun W => ?h28a) (Lib.hid fun W => ?h28b) (Lib.hid fun W => ?h22a) (Lib.hid fun W => ?h22b) (Lib.hid fun W => ?h22c) (Lib.hid fun W => ?h27b) (Lib.hid fun W => ?h55) (Lib.hid fun W => ?h14) (Lib.hid fun W => ?h43a) (Lib.hid fun W => ?h43b) (Lib.hid fun W => ?h45) (Lib.hid fun W => ?h60c) (Lib.hid fun W => ?h34a) (Lib.hid fun W => ?h60d) (Lib.hid fun W => ?h34b) (Lib.hid fun W => ?h60e) (Lib.hid fun W => ?h34c) (by omega) (by omega) (by rw [many_size]; omega) (by rw [many_size]; omega)
  case h60a => rw [← cK]; exact many_any rfl (by omega)
  case h60b => rw [← cK]; exact many_any rfl (by omega)
  case h60c => rw [← c0]; exact many_any rfl (by omega)
  case h60d => rw [← c1]; exact many_any rfl (by omega)
  case h60e => rw [← c2]; exact many_any rfl (by omega)
  case h27a => exact wadd_any.mono fun _ _ h => ⟨h.2.1 ⟨mt _, m1 _⟩ (not_fits hJ (by rw [vt, v1, st]; omega)), h.2.2.2⟩
  case h28a => exact wsub_any.mono fun _ _ h => ⟨h.2.1 ⟨mt _, m1 _⟩ (not_fits hJ (by rw [vt, v1, stn]; omega)), h.2.2.2⟩
  case h28b => exact sub_told (And.intro (mt _) (mt _)) (Int.sub_self _) (fits_small (by decide)) enc_zero
  case h22a => rw [← cM]; exact (wshift_any (by omega)).mono fun _ _ h => ans_told h (m1 _) (by rw [v1, s1]) f1 eh
  case h22b => rw [← cJ]; exact (wshift_any (by omega)).mono fun _ _ h => ⟨h.2.1 (m1 _) (by rw [v1, s2]; exact not_fits hJ (by rw [Int.natAbs_natCast]; exact Nat.le_refl _)), h.2.2.2⟩
  case h22c => rw [← cM]; exact (wshift_any (by omega)).mono fun _ _ h => ⟨h.2.1 (may_byte (by decide)) (by rw [v3, s3]; exact not_fits hJ (by rw [Int.natAbs_natCast]; omega)), h.2.2.2⟩
  case h27b => exact wadd_any.mono fun _ _ h => ⟨h.2.2.1 (fun h => hlong h.1), h.2.2.2⟩
  case h55 => rw [← cJ]; exact (wpow_any (by omega)).mono fun _ _ h => ⟨h.2.1 ⟨may_byte (by decide), by omega⟩ (not_fits hJ (by rw [v2, Int.toNat_natCast, Int.natAbs_pow]; exact Nat.le_refl _)), h.2.2.2⟩
  case h14 =>
    refine (wsum_any (c := 3) (blk_trio (w := W) (false, ⟨(List.replicate K 255).toArray⟩) (false, ⟨#[1]⟩) (true, ⟨#[1]⟩)) (by simp) rfl (by simp)).mono fun e w' h => ?_
    have hall : AllMay [(false, (⟨(List.replicate K 255).toArray⟩ : ByteArray)), (false, ⟨#[1]⟩), (true, ⟨#[1]⟩)] := fun a ha => by
      simp only [List.mem_cons, List.not_mem_nil, or_false] at ha
      rcases ha with rfl | rfl | rfl
      · exact mt _
      · exact m1 _
      · exact m1 _
    have hs : ([(false, (⟨(List.replicate K 255).toArray⟩ : ByteArray)), (false, ⟨#[1]⟩), (true, ⟨#[1]⟩)].map num).sum = num (false, ⟨(List.replicate K 255).toArray⟩) := by
      simp only [List.map_cons, List.map_nil, List.sum_cons, List.sum_nil, v1, v1n]
      omega
    have hf : fits (num (false, (⟨(List.replicate K 255).toArray⟩ : ByteArray))) := fits_num (a := (false, ⟨(List.replicate K 255).toArray⟩)) (mt false)
    refine ⟨?_, h.2.2.2⟩
    rw [h.1 hall (by rw [hs]; exact hf), hs, may_num (mt false)]
  case h43a => exact (check_no hlong).mono fun _ _ h => h
  case h43b => exact (check_ok (mt false)).mono fun _ _ h => h
  case h45 =>
    refine (bits_any (na := false)).mono fun e w' h => ⟨?_, h.2.2⟩
    rw [h.1 (mt false), vt, st]
    have hb : bl (((2 ^ J : Nat) : Int) - 1).natAbs = J := by
      have e1 : (((2 ^ J : Nat) : Int) - 1).natAbs = 2 ^ J - 1 := by omega
      rw [e1]
      have a1 : bl (2 ^ J - 1) ≤ J := bl_lt.2 (by omega)
      have a2 : ¬ bl (2 ^ J - 1) ≤ M := fun h => by have := bl_lt.1 h; omega
      omega
    rw [hb, cJ]
  case h34a =>
    refine wread_any.mono fun e w' h => ⟨?_, h.2.2.2.2⟩
    rw [many_len] at h
    exact h.2.2.2.1 (by simp; omega) g9 (by rw [r9]; exact not_fits hJ (by rw [Int.natAbs_natCast]; omega))
  case h34b =>
    refine wread_any.mono fun e w' h => ⟨?_, h.2.2.2.2⟩
    rw [many_len] at h
    exact h.1 (by simp; omega)
  case h34c =>
    refine wread_any.mono fun e w' h => ⟨?_, h.2.2.2.2⟩
    rw [app_list] at h
    rw [h.2.2.1 (by simp; omega) g1 (by rw [r1]; exact f2), r1, ec]
end Go.Proofs.Ytpnginnjbdedbaa

/- The frame of a law's row: what came in reads as it did. -/
namespace Go.Proofs.Ytpnginnjbdedbaa
open Go.ChangeShapes Go.WideShapes Go.ChangeAt Go.RowKit

theorem own : ownKnob Try.prog.godebug = none := by kernel_rfl

theorem trodAll_keep {H : Type} {enc : TypeId × Value → H} {P : Program} (hl : laidOutB P = true) {W W' : World} (hb : Below W.heap.size W W') {sp : Nat → Bool} :
    ∀ (ts : List TypeId) (vs : List Value) (ds : List (DataW H)) (ps : List MemPlace), DataW.TrodAll enc P W 0 (fun _ => true) true ts vs ds ps → (∀ t ∈ ts, P.readableRec t = true ∧ t < P.types.size) →
      (∀ x ∈ ps, x.block < W.heap.size) → (∀ x ∈ ps, sp x.block = true) → DataW.TrodAll enc P W' 0 sp true ts vs ds ps
  | [], vs, ds, ps, h, _, _, _ => by
    obtain ⟨rfl, rfl, rfl⟩ := trodAll_nil h
    exact trodAll_mk0
  | t :: ts, vs, ds, ps, h, ht, hlt, hsp => by
    obtain ⟨v, vs', d, ds', p, q, rfl, rfl, rfl, h0, h1⟩ := trodAll_cons h
    refine trodAll_cons_mk ?_ (trodAll_keep hl hb ts vs' ds' q h1 (fun t' h' => ht t' (List.mem_cons_of_mem _ h')) (fun x hx => hlt x (List.mem_append_right _ hx)) (fun x hx => hsp x (List.mem_append_right _ hx)))
    obtain ⟨hr, hrow⟩ := ht t List.mem_cons_self
    exact WideElems.Trod_stays hl hr hrow h0 (fun x hx => hb.same (hlt x (List.mem_append_left _ hx))) (fun x hx => hsp x (List.mem_append_left _ hx))

theorem laidOut : laidOutB Try.prog = true := by kernel_rfl

set_option maxRecDepth 100000 in
/-- the post of a law that has returned true and written nothing that was there -/
theorem law_post {H : Type} {enc : TypeId × Value → H} {f : Func} {s : ChangeSpec} {W W' : World} {args : Array Value} {ds gs : List (DataW H)} {before : List MemPlace} {bt : TypeId}
    (hW : DataW.Whole enc Try.prog f.params.toList s.vars false W args.toList ds gs before) (hb : Below W.heap.size W W') (hv : s.vars = []) (hrt : f.resultTypes = #[bt]) (hbt : Try.prog.underlying bt = some .bool)
    (hpar : ∀ t ∈ f.params.toList, Try.prog.readableRec t = true ∧ t < Try.prog.types.size)
    (hres : (s.fn H (ds ++ gs)).results = [.lit (.bool true)]) (hargs : (s.fn H (ds ++ gs)).args = ds) (hvs : (s.fn H (ds ++ gs)).vars = []) :
    s.post enc Try.prog f false true false false W args (.bool true) W' := by
  have hlt : ∀ p ∈ before, p.block < W.heap.size := fun p hp => hW.lt p hp
  have hW' := hW
  obtain ⟨p, q, hA, hV, rfl, hfz, hnd⟩ := hW
  have hq : q = [] := by
    rw [hv] at hV
    exact (trodVars_none hV).2
  subst hq
  refine post_of_below (pa := p) (pv := []) hW' (fun _ _ _ => ?_) (fun sp hsp => ?_) (fun sp hsp => ?_) rfl hb ?_
  · rw [hres, hrt]
    exact trodAll_cons_mk (shut_bool hbt _) trodAll_mk0
  · rw [hargs]
    exact trodAll_keep laidOut hb _ _ _ _ hA hpar (fun x hx => hlt x (List.mem_append_left _ hx)) (fun x hx => hsp x (List.mem_append_left _ hx))
  · rw [hv, hvs]
    rfl
  · exact ok_one hrt rfl (okWide_bool_mk hbt _)
end Go.Proofs.Ytpnginnjbdedbaa

/- Arguments opened: a whole number. -/
namespace Go.Proofs.Ytpnginnjbdedbaa.Opened
open Go.ChangeShapes Go.WideShapes Go.ChangeAt Go.RowKit

section
variable {H : Type} {enc : TypeId × Value → H} {w : World} {base fuel : Nat} {spare : Nat → Bool} {held : Bool}
theorem c26 : Try.prog.cellsOf 26 = 2 := by kernel_rfl
theorem c9 : Try.prog.cellsOf 9 = 1 := by kernel_rfl
theorem c4 : Try.prog.cellsOf 4 = 1 := by kernel_rfl
set_option maxRecDepth 100000 in
theorem open_whole {cs : List Value} {x : DataW H × List MemPlace} (h : DataW.trod enc Try.prog w base spare held fuel 26 cs = some x) :
    ∃ (b : Bool) (s : ByteArray), cs = [.bool b, .string s] ∧ x.1 = .agg [.lit (.bool b), .lit (.string s.data.toList)] := by
  obtain ⟨xs, n, _, rfl, hl, hx, hf⟩ := DataW.trod_struct Try.underlying26 h
  rw [c26] at hl
  match cs, hl, xs, hx with
  | [d0, d1], _, [x0, x1], _ =>
    have h0 : DataW.trod enc Try.prog w base spare held n 4 ((List.drop 0 [d0, d1]).take (Try.prog.cellsOf 4)) = some x0 := hf 0 _ rfl
    have h1 : DataW.trod enc Try.prog w base spare held n 9 ((List.drop 1 [d0, d1]).take (Try.prog.cellsOf 9)) = some x1 := hf 1 _ rfl
    rw [c4] at h0
    rw [c9] at h1
    obtain ⟨b, hb, hx0⟩ := DataW.trod_bool Try.underlying4 h0
    obtain ⟨s, hs, hx1, _⟩ := DataW.trod_string Try.underlying9 h1
    simp only [List.drop, List.take, List.cons.injEq, and_true] at hb hs
    subst hb hs hx0 hx1
    exact ⟨b, s, rfl, rfl⟩
set_option maxRecDepth 100000 in
/-- an argument that is a whole number -/
theorem open_arg {W : World} {b0 : Nat} {v : Value} {d : DataW H} {p : List MemPlace} {P0 : Nat → Bool} (hval : Value.okWide Try.prog W .any b0 26 v) (h : DataW.Trod enc Try.prog W 0 P0 true 26 v d p) :
    ∃ (b : Bool) (s : ByteArray), v = .agg #[.bool b, .string s] ∧ d = .agg [.lit (.bool b), .lit (.string s.data.toList)] := by
  obtain ⟨cs, rfl, hsz⟩ := okWide_struct Try.underlying26 hval
  obtain ⟨fuel, hf⟩ := h
  obtain ⟨b, s, hcs, hd⟩ := open_whole hf
  have ecs : cs = #[.bool b, .string s] := by
    have : cs.toList = _ := hcs
    rw [← Array.toArray_toList (xs := cs), this]
  exact ⟨b, s, by rw [ecs], hd⟩
/-- an argument that is a text -/
theorem open_str {P : Program} {r : Reach} {b0 : Nat} {t : TypeId} {v : Value} {d : DataW H} {ps : List MemPlace} (ht : P.underlying t = some .string) (hval : Value.okWide P w r b0 t v) (hd : DataW.Trod enc P w base spare held t v d ps) :
    ∃ s : ByteArray, v = .string s ∧ d = .lit (.string s.data.toList) ∧ ps = [] := by
  obtain ⟨s, rfl⟩ := okWide_string ht hval
  obtain ⟨fuel, hf⟩ := hd
  obtain ⟨s', h, hx, _⟩ := DataW.trod_string ht hf
  simp [Value.cells] at h
  subst h
  simp only [Prod.mk.injEq] at hx
  exact ⟨s, rfl, hx.1, hx.2⟩
end
end Go.Proofs.Ytpnginnjbdedbaa.Opened
