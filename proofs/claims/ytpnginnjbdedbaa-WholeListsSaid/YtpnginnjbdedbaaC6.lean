import Derived.Test.YtpnginnjbdedbaaC5
import Derived.BigQuiet
/- whole: what a number is (printed by gen_ask.py). -/
namespace Go.Proofs.Ytpnginnjbdedbaa
open Go.RowKit
open Wh
set_option linter.unusedSimpArgs false

theorem blk_one {w : World} (a : Bool × ByteArray) : ReadsWh (w.alloc (.cells #[.bool a.1, .string a.2] 26)) (w.heap.size + 1) (some ⟨w.heap.size, 0, none⟩) [a] := by
  refine ⟨rfl, fun _ => ⟨_, rfl, Nat.lt_succ_self _, fun j u hu => ?_⟩⟩
  rw [Addr.add_lit, Nat.zero_add, (Blk.new w 26 #[.bool a.1, .string a.2]).cell j]
  rw [← hu]
  match j with
  | 0 => rfl
  | 1 => rfl
  | _ + 2 => rfl
/-- one number, as the library has it -/
def One (w : World) (na : Bool) (sa : ByteArray) (e : Ending) (w' : World) : Prop :=
  (MayL na sa.data.toList → ∃ ad c g, e = .returned (.tuple #[.slice (some ad) 1 c, .bool true]) ∧ ad.block < w'.heap.size ∧ w'.cell? ad = some (.pointer (some ⟨g, 0, none⟩)) ∧ IntB w' g (num (na, sa)) ∧ w.heap.size ≤ g) ∧
  (¬ MayL na sa.data.toList → ∃ A n c, e = .returned (.tuple #[.slice A n c, .bool false])) ∧ Below w.heap.size w w'
theorem of_one {w : World} {na : Bool} {sa : ByteArray} :
    Calls Try.prog 62 #[.slice (some ⟨w.heap.size, 0, none⟩) 1 1] (w.alloc (.cells #[.bool na, .string sa] 26)) (One w na sa) := by
  refine (ofs_any (c := 1) (n := 1) (blk_one (w := w) (na, sa)) (by simp) rfl (by omega)).mono ?_
  rintro e w5 ⟨h1, h2⟩
  have hb0 := new_below w (.cells #[.bool na, .string sa] 26)
  have hall : AllMay [(na, sa)] ↔ MayL na sa.data.toList := by unfold AllMay; simp
  by_cases hm : MayL na sa.data.toList
  · obtain ⟨A5, n5, c5, gs, rfl, hn5, hr5, hi5, hb5, hge⟩ := h1 (hall.2 hm)
    match gs, hi5, hn5, hr5, hge with
    | [g], ⟨hi, _⟩, hn5, hr5, hge =>
      obtain ⟨ad, rfl, hadb, p0⟩ := hr5.at_ (k := 0) (by simp)
      rw [Addr.add_zero'] at p0
      obtain rfl : n5 = 1 := hn5.out.1
      have h5 := hge g (List.mem_singleton.2 rfl)
      rw [World.size_alloc] at h5
      exact ⟨fun _ => ⟨ad, c5, g, rfl, hadb, p0, hi, by omega⟩, fun h => absurd hm h, hb0.trans (hb5.mono (by simp))⟩
    | [], h, _, _, _ => exact h.elim
    | _ :: _ :: _, ⟨_, _, h⟩, _, _, _ => exact h.elim
  · obtain ⟨A5, n5, c5, rfl, hb5⟩ := h2 (fun h => hm (hall.1 h))
    exact ⟨fun h => absurd h hm, fun _ => ⟨_, _, _, rfl⟩, hb0.trans (hb5.mono (by simp))⟩
/-- two numbers, as the library has them -/
def Pair (w : World) (a b : Bool × ByteArray) (e : Ending) (w' : World) : Prop :=
  (May2 a b → ∃ ad c g1 g2, e = .returned (.tuple #[.slice (some ad) 2 c, .bool true]) ∧ ad.block < w'.heap.size ∧ w'.cell? ad = some (.pointer (some ⟨g1, 0, none⟩)) ∧ w'.cell? ⟨ad.block, ad.off + 1, none⟩ = some (.pointer (some ⟨g2, 0, none⟩)) ∧ IntB w' g1 (num a) ∧ IntB w' g2 (num b) ∧ w.heap.size ≤ g1 ∧ w.heap.size ≤ g2 ∧ g1 ≠ g2) ∧
  (¬ May2 a b → ∃ A n c, e = .returned (.tuple #[.slice A n c, .bool false])) ∧ Below w.heap.size w w'
theorem of_pair {w : World} {na nb : Bool} {sa sb : ByteArray} :
    Calls Try.prog 62 #[.slice (some ⟨w.heap.size, 0, none⟩) 2 2] (w.alloc (.cells #[.bool na, .string sa, .bool nb, .string sb] 26)) (Pair w (na, sa) (nb, sb)) := by
  refine (ofs_any (c := 2) (n := 2) (blk_pair (w := w) (na, sa) (nb, sb)) (by simp) rfl (by omega)).mono ?_
  rintro e w5 ⟨h1, h2⟩
  have hb0 := new_below w (.cells #[.bool na, .string sa, .bool nb, .string sb] 26)
  by_cases hm : May2 (na, sa) (nb, sb)
  · obtain ⟨A5, n5, c5, gs, rfl, hn5, hr5, hi5, hb5, hge⟩ := h1 (may2_all.2 hm)
    obtain ⟨g1, g2, rfl, hx, hy, hne⟩ := ints_two hi5
    obtain ⟨ad, rfl, hadb, p0⟩ := hr5.at_ (k := 0) (by simp)
    obtain ⟨ad', e', _, p1⟩ := hr5.at_ (k := 1) (by simp)
    injection e' with e'
    subst e'
    rw [Addr.add_zero'] at p0
    rw [add_pos (by decide)] at p1
    obtain rfl : n5 = 2 := hn5.out.1
    have h5 := hge g1 (by simp)
    have h6 := hge g2 (by simp)
    rw [World.size_alloc] at h5 h6
    exact ⟨fun _ => ⟨ad, c5, g1, g2, rfl, hadb, p0, p1, hx, hy, by omega, by omega, hne⟩, fun h => absurd hm h, hb0.trans (hb5.mono (by simp))⟩
  · obtain ⟨A5, n5, c5, rfl, hb5⟩ := h2 (fun h => hm (may2_all.1 h))
    exact ⟨fun h => absurd h hm, fun _ => ⟨_, _, _, rfl⟩, hb0.trans (hb5.mono (by simp))⟩
theorem bval_pos : ∀ {l : List UInt8}, Formed l → l ≠ [] → 0 < bval l
  | [], _, h => absurd rfl h
  | b :: r, h, _ => by
    rw [bval_cons]
    have h1 : b ≠ 0 := h b rfl
    have h2 : 0 < b.toNat := by
      rcases Nat.eq_zero_or_pos b.toNat with h0 | h0
      · exact absurd (UInt8.toNat_inj.1 h0) h1
      · exact h0
    exact Nat.lt_of_lt_of_le (Nat.mul_pos h2 (Nat.pow_pos (by decide))) (Nat.le_add_right _ _)
theorem ptr_ne {w : World} {ad : Addr} {g : Nat} {z : Int} {q : Option Addr} (hi : IntB w g z) (p : w.cell? ad = some (.pointer q)) : ad.block ≠ g := by
  intro h
  have hs := World.cell?_spot p
  obtain ⟨s, A, n, c, hb⟩ := hi.slot
  have h2 : ad = ⟨g, ad.off, none⟩ := by cases ad; simp_all
  rw [h2, hb.cell] at p
  match ad.off, p with
  | 0, p => exact absurd p (by simp [icells])
  | 1, p => exact absurd p (by simp [icells])
  | _ + 2, p => exact absurd p (by simp [icells])
theorem sg_num {n : Bool} {s : ByteArray} (h : 0 < bval s.data.toList) : sg (num (n, s)) = if n then -1 else 1 := by
  unfold num
  cases n
  · show sg ((bval s.data.toList : Nat) : Int) = 1
    unfold sg; rw [if_neg (by omega), if_neg (by omega)]
  · show sg (-((bval s.data.toList : Nat) : Int)) = -1
    unfold sg; rw [if_neg (by omega), if_pos (by omega)]
/-- an answer of two, whose second is an error's number or a truth; refused: no -/
def Said (w : World) (ok : Prop) (v no : Value) (e : Ending) (w' : World) : Prop := (ok → e = .returned v) ∧ (¬ ok → e = .returned no) ∧ Below w.heap.size w w'

set_option maxRecDepth 100000 in
set_option maxHeartbeats 2000000 in
theorem bits_any {w : World} {na : Bool} {sa : ByteArray} :
    Calls Try.prog 45 #[.agg #[.bool na, .string sa]] w (Said w (MayL na sa.data.toList) (.int .i64 ((bl (num (na, sa)).natAbs : Nat) : Int)) (.int .i64 0)) := by
  have hb1 := new_below w (.cells #[.bool na, .string sa] 26)
  have hO := of_one (w := w.alloc (.cells #[.bool na, .string sa] 26)) (na := na) (sa := sa)
  rw [World.size_alloc] at hO
  have HO := Lib.hid hO
  have Hb := Lib.hid hb1
  clear hO hb1
  go_enter Try.func45, Try.ntmps45
  go_wp2_with fail
  refine HO.out.mono ?_
  rintro e w5 ⟨h1, h2, hb5⟩
  have hb05 := Hb.out.trans (hb5.mono (by simp))
  have H5 := Lib.hid hb05
  clear hb5 hb05
  by_cases hm : MayL na sa.data.toList
  · obtain ⟨ad, c, g, rfl, hadb, p0, hi, hg⟩ := h1 hm
    have Hlen := Lib.hid (len_num (a := (na, sa)) hm)
    have HB := Lib.hid (bitlen_any hi (by have := Hlen.out; omega))
    have Hm := Lib.hid hm
    clear h1 h2 hm hi
    go_wp2_with fail
    refine HB.out.mono ?_
    rintro e w6 ⟨q, rfl, rfl⟩
    go_wp2
    go_ret
    exact ⟨fun _ => rfl, fun h => absurd Hm.out h, below_drewN H5.out q⟩
  · obtain ⟨A5, n5, c5, rfl⟩ := h2 hm
    have Hm := Lib.hid hm
    clear h1 h2 hm
    go_wp2
    go_ret
    exact ⟨fun h => absurd h Hm.out, fun _ => rfl, H5.out⟩
set_option maxRecDepth 100000 in
set_option maxHeartbeats 2000000 in
theorem text_any {w : World} {na : Bool} {sa : ByteArray} :
    Calls Try.prog 33 #[.agg #[.bool na, .string sa]] w (Said w (MayL na sa.data.toList) (.tuple #[.string ⟨(txt (num (na, sa))).toArray⟩, .int .i64 0]) (.tuple #[.string ⟨#[]⟩, .int .i64 2])) := by
  have hb1 := new_below w (.cells #[.bool na, .string sa] 26)
  have hO := of_one (w := w.alloc (.cells #[.bool na, .string sa] 26)) (na := na) (sa := sa)
  rw [World.size_alloc] at hO
  have HO := Lib.hid hO
  have Hb := Lib.hid hb1
  clear hO hb1
  go_enter Try.func33, Try.ntmps33
  go_wp2_with fail
  refine HO.out.mono ?_
  rintro e w5 ⟨h1, h2, hb5⟩
  have hb05 := Hb.out.trans (hb5.mono (by simp))
  have H5 := Lib.hid hb05
  clear hb5 hb05
  by_cases hm : MayL na sa.data.toList
  · obtain ⟨ad, c, g, rfl, hadb, p0, hi, hg⟩ := h1 hm
    have Hlen := Lib.hid (len_num (a := (na, sa)) hm)
    have HB := Lib.hid (string_any hi (by have := Hlen.out; omega))
    have Hm := Lib.hid hm
    clear h1 h2 hm hi
    go_wp2_with fail
    refine HB.out.mono ?_
    rintro e w6 ⟨rfl, hb6⟩
    go_wp2
    refine bodyPost_ret (v := .tuple #[.string ⟨(txt (num (na, sa))).toArray⟩, .int .i64 0]) (by simp [results, Try.results33, go_sem]) rfl ?_
    exact ⟨fun _ => rfl, fun h => absurd Hm.out h, H5.out.trans (hb6.mono H5.out.size)⟩
  · obtain ⟨A5, n5, c5, rfl⟩ := h2 hm
    have Hm := Lib.hid hm
    clear h1 h2 hm
    go_wp2
    refine bodyPost_ret (v := .tuple #[.string ⟨#[]⟩, .int .i64 2]) (by simp [results, Try.results33, go_sem]) rfl ?_
    exact ⟨fun h => absurd h Hm.out, fun _ => rfl, H5.out⟩
set_option maxRecDepth 100000 in
set_option maxHeartbeats 2000000 in
theorem small_any {w : World} {na : Bool} {sa : ByteArray} :
    Calls Try.prog 39 #[.agg #[.bool na, .string sa]] w (Said w (MayL na sa.data.toList) (if -9223372036854775808 ≤ num (na, sa) ∧ num (na, sa) ≤ 9223372036854775807 then .tuple #[.int .i64 (num (na, sa)), .bool true] else .tuple #[.int .i64 0, .bool false]) (.tuple #[.int .i64 0, .bool false])) := by
  have hb1 := new_below w (.cells #[.bool na, .string sa] 26)
  have hO := of_one (w := w.alloc (.cells #[.bool na, .string sa] 26)) (na := na) (sa := sa)
  rw [World.size_alloc] at hO
  have HO := Lib.hid hO
  have Hb := Lib.hid hb1
  obtain ⟨v, hv⟩ : ∃ v : Value, v = (if -9223372036854775808 ≤ num (na, sa) ∧ num (na, sa) ≤ 9223372036854775807 then .tuple #[.int .i64 (num (na, sa)), .bool true] else .tuple #[.int .i64 0, .bool false]) := ⟨_, rfl⟩
  rw [← hv]
  have Hv := Lib.hid hv
  clear hO hb1 hv
  go_enter Try.func39, Try.ntmps39
  go_wp2_with fail
  refine HO.out.mono ?_
  rintro e w5 ⟨h1, h2, hb5⟩
  have hb05 := Hb.out.trans (hb5.mono (by simp))
  have H5 := Lib.hid hb05
  clear hb5 hb05
  by_cases hm : MayL na sa.data.toList
  · obtain ⟨ad, c, g, rfl, hadb, p0, hi, hg⟩ := h1 hm
    have Hlen := Lib.hid (len_num (a := (na, sa)) hm)
    have HI := Lib.hid (isint64_any hi)
    have Hm := Lib.hid hm
    by_cases hf : -9223372036854775808 ≤ num (na, sa) ∧ num (na, sa) ≤ 9223372036854775807
    · have HS := Lib.hid (int64_any hi hf.1 hf.2)
      have Hf := Lib.hid hf
      have hd : decide (-9223372036854775808 ≤ num (na, sa) ∧ num (na, sa) ≤ 9223372036854775807) = true := decide_eq_true hf
      rw [hd] at HI
      clear h1 h2 hm hi hf hd
      go_wp2_with fail
      refine HI.out.mono ?_
      rintro e w6 ⟨rfl, rfl⟩
      go_wp2_with fail
      refine HS.out.mono ?_
      rintro e w6 ⟨rfl, rfl⟩
      go_wp2
      refine bodyPost_ret (v := .tuple #[.int .i64 (num (na, sa)), .bool true]) (by simp [results, Try.results39, go_sem]) rfl ?_
      exact ⟨fun _ => by rw [Hv.out, if_pos Hf.out], fun h => absurd Hm.out h, H5.out⟩
    · have hd : decide (-9223372036854775808 ≤ num (na, sa) ∧ num (na, sa) ≤ 9223372036854775807) = false := decide_eq_false hf
      rw [hd] at HI
      have Hf := Lib.hid hf
      clear h1 h2 hm hi hf hd
      go_wp2_with fail
      refine HI.out.mono ?_
      rintro e w6 ⟨rfl, rfl⟩
      go_wp2
      refine bodyPost_ret (v := .tuple #[.int .i64 0, .bool false]) (by simp [results, Try.results39, go_sem]) rfl ?_
      exact ⟨fun _ => by rw [Hv.out, if_neg Hf.out], fun h => absurd Hm.out h, H5.out⟩
  · obtain ⟨A5, n5, c5, rfl⟩ := h2 hm
    have Hm := Lib.hid hm
    clear h1 h2 hm
    go_wp2
    refine bodyPost_ret (v := .tuple #[.int .i64 0, .bool false]) (by simp [results, Try.results39, go_sem]) rfl ?_
    exact ⟨fun h => absurd h Hm.out, fun _ => rfl, H5.out⟩
set_option maxRecDepth 100000 in
set_option maxHeartbeats 2000000 in
theorem wsign_any {w : World} {na : Bool} {sa : ByteArray} :
    Calls Try.prog 44 #[.agg #[.bool na, .string sa]] w (Said w (MayL na sa.data.toList) (.int .i64 (sg (num (na, sa)))) (.int .i64 0)) := by
  have hb1 := new_below w (.cells #[.bool na, .string sa] 26)
  by_cases hm : MayL na sa.data.toList
  · have HC := Lib.hid (check_ok (w := w.alloc (.cells #[.bool na, .string sa] 26)) hm)
    have hl : sa.data.toList.length = sa.size := Array.length_toList
    have Hm := Lib.hid hm
    rcases Nat.eq_zero_or_pos sa.size with h0 | h0
    · have he : sa.data.toList = [] := List.eq_nil_of_length_eq_zero (by omega)
      obtain rfl := str_empty he
      obtain rfl := hm.2.1 he
      have Hb := Lib.hid hb1
      clear hl h0 he hb1 hm
      go_enter Try.func44, Try.ntmps44
      go_wp2_with fail
      refine HC.out.mono ?_
      rintro e w6 ⟨rfl, hb6⟩
      have hc0 : w6.cell? ⟨w.heap.size, 0, none⟩ = some (.bool false) := ((Blk.new w 26 #[.bool false, .string ⟨#[]⟩]).below hb6 (by simp)).cell 0
      have hc1 : w6.cell? ⟨w.heap.size, 1, none⟩ = some (.string ⟨#[]⟩) := ((Blk.new w 26 #[.bool false, .string ⟨#[]⟩]).below hb6 (by simp)).cell 1
      have Hb6 := Lib.hid hb6
      clear hb6
      go_wp2
      go_ret
      exact ⟨fun _ => rfl, fun h => absurd Hm.out h, Hb.out.trans (Hb6.out.mono (by simp))⟩
    · obtain ⟨e1, e2⟩ := str_facts h0
      have hpos : 0 < bval sa.data.toList := bval_pos hm.2.2 (by intro h; rw [h] at hl; simp at hl; omega)
      have Hb := Lib.hid hb1
      have Hpos := Lib.hid hpos
      clear hl h0 hb1 hm hpos
      cases na with
      | true =>
        go_enter Try.func44, Try.ntmps44
        go_wp2_with fail
        refine HC.out.mono ?_
        rintro e w6 ⟨rfl, hb6⟩
        have hc0 : w6.cell? ⟨w.heap.size, 0, none⟩ = some (.bool true) := ((Blk.new w 26 #[.bool true, .string sa]).below hb6 (by simp)).cell 0
        have hc1 : w6.cell? ⟨w.heap.size, 1, none⟩ = some (.string sa) := ((Blk.new w 26 #[.bool true, .string sa]).below hb6 (by simp)).cell 1
        have Hb6 := Lib.hid hb6
        clear hb6
        go_wp2
        go_ret
        exact ⟨fun _ => by rw [sg_num Hpos.out]; rfl, fun h => absurd Hm.out h, Hb.out.trans (Hb6.out.mono (by simp))⟩
      | false =>
        go_enter Try.func44, Try.ntmps44
        go_wp2_with fail
        refine HC.out.mono ?_
        rintro e w6 ⟨rfl, hb6⟩
        have hc0 : w6.cell? ⟨w.heap.size, 0, none⟩ = some (.bool false) := ((Blk.new w 26 #[.bool false, .string sa]).below hb6 (by simp)).cell 0
        have hc1 : w6.cell? ⟨w.heap.size, 1, none⟩ = some (.string sa) := ((Blk.new w 26 #[.bool false, .string sa]).below hb6 (by simp)).cell 1
        have Hb6 := Lib.hid hb6
        clear hb6
        go_wp2
        go_ret
        exact ⟨fun _ => by rw [sg_num Hpos.out]; rfl, fun h => absurd Hm.out h, Hb.out.trans (Hb6.out.mono (by simp))⟩
  · have HC := Lib.hid (check_no (w := w.alloc (.cells #[.bool na, .string sa] 26)) hm)
    have Hm := Lib.hid hm
    have Hb := Lib.hid hb1
    clear hm hb1
    go_enter Try.func44, Try.ntmps44
    go_wp2_with fail
    refine HC.out.mono ?_
    rintro e w6 ⟨rfl, hb6⟩
    have Hb6 := Lib.hid hb6
    clear hb6
    go_wp2
    go_ret
    exact ⟨fun h => absurd h Hm.out, fun _ => rfl, Hb.out.trans (Hb6.out.mono (by simp))⟩
set_option maxRecDepth 100000 in
set_option maxHeartbeats 2000000 in
theorem wcmp_any {w : World} {na nb : Bool} {sa sb : ByteArray} :
    Calls Try.prog 26 #[.agg #[.bool na, .string sa], .agg #[.bool nb, .string sb]] w (Said w (May2 (na, sa) (nb, sb)) (.tuple #[.int .i64 (cmpI (num (na, sa)) (num (nb, sb))), .int .i64 0]) (.tuple #[.int .i64 0, .int .i64 2])) := by
  have hb1 := new_below w (.cells #[.bool na, .string sa] 26)
  have hb2 := hb1.alloc (by simp) (.cells #[.bool nb, .string sb] 26)
  have hO := of_pair (w := (w.alloc (.cells #[.bool na, .string sa] 26)).alloc (.cells #[.bool nb, .string sb] 26)) (na := na) (sa := sa) (nb := nb) (sb := sb)
  rw [World.size_alloc, World.size_alloc] at hO
  have HO := Lib.hid hO
  have Hb := Lib.hid hb2
  clear hO hb1 hb2
  go_enter Try.func26, Try.ntmps26
  go_wp2_with fail
  refine HO.out.mono ?_
  rintro e w5 ⟨h1, h2, hb5⟩
  have hb05 := Hb.out.trans (hb5.mono (by simp; omega))
  have H5 := Lib.hid hb05
  clear hb5 hb05
  by_cases hm : May2 (na, sa) (nb, sb)
  · obtain ⟨ad, c, g1, g2, rfl, hadb, p0, p1, hx, hy, _, _, _⟩ := h1 hm
    have HK := Lib.hid (fun q => cmp_any (hx.drewN q) (hy.drewN q) (by have := len_num hm.1; omega) (by have := len_num hm.2; omega))
    have Hm := Lib.hid hm
    clear h1 h2 hm hx hy
    go_wp2_with fail
    refine wp_region_noPanic ?_
    refine wp_region_HK (fun w' => w'.cell? ad = some (.pointer (some ⟨g1, 0, none⟩)) ∧ w'.cell? ⟨ad.block, ad.off + 1, none⟩ = some (.pointer (some ⟨g2, 0, none⟩))) 7 (by kernel_rfl) ⟨p0, p1⟩ (fun hHeld => ?_)
    refine wpHK_take (i := 0) (oi := Oper.mk (some 17) _ _ _ _ _) (v := ?_) rfl (by kernel_rfl) (by kernel_rfl) (by kernel_rfl) (by kernel_rfl) (fun _ _ _ h => h) (Or.inl ⟨by rfl, ?_⟩) (by assumption) ?_
    rotate_left
    · (intro w' hSw; (try dsimp only at hSw); (obtain ⟨s1, s2⟩ := hSw); go_simp; try with_reducible rfl)
    try simp only [Act.put, List.setIfInBounds_toArray, List.set_cons_zero, List.set_cons_succ]
    refine wpHK_take (i := 1) (oi := Oper.mk (some 18) _ _ _ _ _) (v := ?_) rfl (by kernel_rfl) (by kernel_rfl) (by kernel_rfl) (by kernel_rfl) (fun _ _ _ h => h) (Or.inl ⟨by rfl, ?_⟩) (by assumption) ?_
    rotate_left
    · (intro w' hSw; (try dsimp only at hSw); (obtain ⟨s1, s2⟩ := hSw); go_simp; try with_reducible rfl)
    try simp only [Act.put, List.setIfInBounds_toArray, List.set_cons_zero, List.set_cons_succ]
    refine wpHK_take (i := 2) (oi := Oper.mk (some 19) _ _ _ _ _) (v := ?_) rfl (by kernel_rfl) (by kernel_rfl) (by kernel_rfl) (by kernel_rfl) (fun _ _ _ h => h) (Or.inl ⟨by rfl, ?_⟩) (by assumption) ?_
    rotate_left
    · (intro w' hSw; (try dsimp only at hSw); (obtain ⟨s1, s2⟩ := hSw); go_simp; try with_reducible rfl)
    try simp only [Act.put, List.setIfInBounds_toArray, List.set_cons_zero, List.set_cons_succ]
    refine wpHK_take (i := 3) (oi := Oper.mk (some 20) _ _ _ _ _) (v := ?_) rfl (by kernel_rfl) (by kernel_rfl) (by kernel_rfl) (by kernel_rfl) (fun _ _ _ h => h) (Or.inl ⟨by rfl, ?_⟩) (by assumption) ?_
    rotate_left
    · (intro w' hSw; (try dsimp only at hSw); (obtain ⟨s1, s2⟩ := hSw); go_simp; try with_reducible rfl)
    try simp only [Act.put, List.setIfInBounds_toArray, List.set_cons_zero, List.set_cons_succ]
    refine wpHK_take (i := 4) (oi := Oper.mk (some 21) _ _ _ _ _) (v := ?_) rfl (by kernel_rfl) (by kernel_rfl) (by kernel_rfl) (by kernel_rfl) (fun _ _ _ h => h) (Or.inl ⟨by rfl, ?_⟩) (by assumption) ?_
    rotate_left
    · (intro w' hSw; (try dsimp only at hSw); (obtain ⟨s1, s2⟩ := hSw); go_simp; try with_reducible rfl)
    try simp only [Act.put, List.setIfInBounds_toArray, List.set_cons_zero, List.set_cons_succ]
    refine wpHK_take (i := 5) (oi := Oper.mk (some 22) _ _ _ _ _) (v := ?_) rfl (by kernel_rfl) (by kernel_rfl) (by kernel_rfl) (by kernel_rfl) (fun _ _ _ h => h) (Or.inl ⟨by rfl, ?_⟩) (by assumption) ?_
    rotate_left
    · (intro w' hSw; (try dsimp only at hSw); (obtain ⟨s1, s2⟩ := hSw); go_simp; try with_reducible rfl)
    try simp only [Act.put, List.setIfInBounds_toArray, List.set_cons_zero, List.set_cons_succ]
    refine wpHK_one (j := 6) (o := Oper.mk (some 23) _ _ _ _ _) rfl (by kernel_rfl) (fun K hK => ?_)
    go_simp
    refine (HK.out _).mono ?_
    rintro e w6 ⟨q, rfl, rfl⟩
    try simp only []
    refine hK.out _ _ (And.intro p0 p1) (fun _ => ?_)
    clear hK K hHeld
    have hHeld := (And.intro p0 p1)
    try simp only [Act.put, List.setIfInBounds_toArray, List.set_cons_zero, List.set_cons_succ]
    refine wpHK_pure (i := 7) (oi := Oper.mk (some 4) _ _ _ _ _) (v := ?_) rfl (by kernel_rfl) (by kernel_rfl) (by kernel_rfl) (fun _ _ _ h => h) (Or.inl ⟨by rfl, ?_⟩) ?_
    rotate_left
    · (intro w' _; go_simp; try with_reducible rfl)
    try simp only [Act.put, List.setIfInBounds_toArray, List.set_cons_zero, List.set_cons_succ]
    refine wpHK_pure (i := 8) (oi := Oper.mk (some 5) _ _ _ _ _) (v := ?_) rfl (by kernel_rfl) (by kernel_rfl) (by kernel_rfl) (fun _ _ _ h => h) (Or.inl ⟨by rfl, ?_⟩) ?_
    rotate_left
    · (intro w' _; go_simp; try with_reducible rfl)
    try simp only [Act.put, List.setIfInBounds_toArray, List.set_cons_zero, List.set_cons_succ]
    refine wpHK_done (by kernel_rfl) ?_ _
    refine NoPanic.normal ?_
    go_wp2_with fail
    refine bodyPost_ret (v := .tuple #[.int .i64 (cmpI (num (na, sa)) (num (nb, sb))), .int .i64 0]) (by simp [results, Try.results26, go_sem]) rfl ?_
    exact ⟨fun _ => rfl, fun h => absurd Hm.out h, below_drewN (below_drewN H5.out 1) q⟩
  · obtain ⟨A5, n5, c5, rfl⟩ := h2 hm
    have Hm := Lib.hid hm
    clear h1 h2 hm
    go_wp2
    refine bodyPost_ret (v := .tuple #[.int .i64 0, .int .i64 2]) (by simp [results, Try.results26, go_sem]) rfl ?_
    exact ⟨fun h => absurd h Hm.out, fun _ => rfl, H5.out⟩
theorem ans_form {W w5 : World} {ok : Prop} {z : Int} {e : Ending} (h : Ans W ok z e w5) : ∃ (sn : Bool) (bn : ByteArray) (cd : Int), e = .returned (.tuple #[.agg #[.bool sn, .string bn], .int .i64 cd]) ∧ ∀ w w', Below w.heap.size w w' → Ans w ok z (.returned (.tuple #[.agg #[.bool sn, .string bn], .int .i64 cd])) w' := by
  obtain ⟨t1, t2, t3, _⟩ := h
  by_cases hm : ok
  · by_cases hf : fits z
    · exact ⟨_, _, 0, t1 hm hf, fun w w' hb => ⟨fun _ _ => rfl, fun _ h => absurd hf h, fun h => absurd hm h, hb⟩⟩
    · exact ⟨_, _, 4, t2 hm hf, fun w w' hb => ⟨fun _ h => absurd h hf, fun _ _ => rfl, fun h => absurd hm h, hb⟩⟩
  · exact ⟨_, _, 2, t3 hm, fun w w' hb => ⟨fun h => absurd h hm, fun h => absurd h hm, fun _ => rfl, hb⟩⟩
theorem mayL_zero : MayL false (⟨#[]⟩ : ByteArray).data.toList := ⟨Nat.zero_le _, fun _ => rfl, fun x hx => by cases hx⟩
theorem num_zero : num (false, ⟨#[]⟩) = 0 := rfl
theorem may2_left {a : Bool × ByteArray} : May2 (false, ⟨#[]⟩) a ↔ MayL a.1 a.2.data.toList := ⟨fun h => h.2, fun h => ⟨mayL_zero, h⟩⟩
theorem may2_right {a : Bool × ByteArray} : May2 a (false, ⟨#[]⟩) ↔ MayL a.1 a.2.data.toList := ⟨fun h => h.1, fun h => ⟨h, mayL_zero⟩⟩
set_option maxRecDepth 100000 in
set_option maxHeartbeats 2000000 in
theorem wneg_any {w : World} {na : Bool} {sa : ByteArray} :
    Calls Try.prog 37 #[.agg #[.bool na, .string sa]] w (Ans w (MayL na sa.data.toList) (-num (na, sa))) := by
  have hb1 := new_below w (.cells #[.bool na, .string sa] 26)
  have hb3 := hb1.alloc (by simp) (.cells #[.bool false, .string ⟨#[]⟩] 26)
  have hT := two81_any (w := (w.alloc (.cells #[.bool na, .string sa] 26)).alloc (.cells #[.bool false, .string ⟨#[]⟩] 26)) (na := false) (nb := na) (sa := ⟨#[]⟩) (sb := sa) does81 len_sub
  rw [propext may2_left] at hT
  dsimp only at hT
  rw [num_zero, Int.zero_sub] at hT
  have hbk := (Blk.new (w.alloc (.cells #[.bool na, .string sa] 26)) 26 #[.bool false, .string ⟨#[]⟩])
  have HT := Lib.hid hT
  have Hb := Lib.hid (And.intro hb3 hbk)
  clear hT hb1 hb3 hbk
  generalize -num (na, sa) = z at *
  go_enter Try.func37, Try.ntmps37
  go_wp2_with fail
  refine HT.out.mono ?_
  intro e w5 hA
  have hb5 := hA.2.2.2
  obtain ⟨sn, bn, cd, rfl, hans⟩ := ans_form hA
  have hblk5 := Hb.out.2.below hb5 (by simp)
  rw [World.size_alloc] at hblk5
  have hb05 := Hb.out.1.trans (hb5.mono (by simp; omega))
  have d0 : w5.cell? ⟨w.heap.size + 1, 0, none⟩ = some (.bool false) := hblk5.cell 0
  have d1 : w5.cell? ⟨w.heap.size + 1, 1, none⟩ = some (.string ⟨#[]⟩) := hblk5.cell 1
  have f0 := hblk5.frozen 0
  have f1 := hblk5.frozen 1
  have Hans := Lib.hid hans
  clear hb5 hblk5 hans hA
  go_wp2_with fail
  refine bodyPost_ret (v := .tuple #[.agg #[.bool sn, .string bn], .int .i64 cd]) (by simp [results, Try.results37, go_sem, d0, d1]) rfl ?_
  exact Hans.out _ _ ((hb05.setCell (by show w.heap.size ≤ w.heap.size + 1; omega) _).setCell (by show w.heap.size ≤ w.heap.size + 1; omega) _)
set_option maxRecDepth 100000 in
set_option maxHeartbeats 2000000 in
theorem wabs_any {w : World} {na : Bool} {sa : ByteArray} :
    Calls Try.prog 38 #[.agg #[.bool na, .string sa]] w (Ans w (MayL na sa.data.toList) ((num (na, sa)).natAbs : Int)) := by
  have hb1 := new_below w (.cells #[.bool na, .string sa] 26)
  have hb3 := hb1.alloc (by simp) (.cells #[.bool false, .string ⟨#[]⟩] 26)
  have HS := Lib.hid (wsign_any (w := (w.alloc (.cells #[.bool na, .string sa] 26)).alloc (.cells #[.bool false, .string ⟨#[]⟩] 26)) (na := na) (sa := sa))
  have hbk := (Blk.new (w.alloc (.cells #[.bool na, .string sa] 26)) 26 #[.bool false, .string ⟨#[]⟩])
  have hbx := (Blk.new w 26 #[.bool na, .string sa]).alloc (.cells #[.bool false, .string ⟨#[]⟩] 26)
  have Hb := Lib.hid (And.intro hb3 (And.intro hbk hbx))
  have HT : Hid (∀ W : World, Calls Try.prog 80 #[.agg #[.bool na, .string sa], .agg #[.bool false, .string ⟨#[]⟩], .func (.func 63) #[] #[]] W (Ans W (MayL na sa.data.toList) (num (na, sa)))) := by
    intro W
    have hT := two63_any (w := W) (na := na) (nb := false) (sa := sa) (sb := ⟨#[]⟩) does63 len_add
    rw [propext may2_right] at hT
    dsimp only at hT
    rw [num_zero, Int.add_zero] at hT
    exact hT
  have HN := Lib.hid (fun W : World => wneg_any (w := W) (na := na) (sa := sa))
  clear hb1 hb3 hbk hbx
  obtain ⟨z, hz⟩ : ∃ z : Int, z = ((num (na, sa)).natAbs : Int) := ⟨_, rfl⟩
  rw [← hz]
  obtain ⟨x, hx⟩ : ∃ x : Int, x = num (na, sa) := ⟨_, rfl⟩
  rw [← hx] at HS HT HN hz
  by_cases hc : MayL na sa.data.toList ∧ x < 0
  · have hzx : z = -x := by omega
    rw [← hzx] at HN
    have hs : (Value.int .i64 (sg x)) = .int .i64 (-1) := by unfold sg; rw [if_neg (by omega), if_pos hc.2]
    rw [hs] at HS
    have Hc := Lib.hid hc
    clear hc hz hx hzx hs HT
    go_enter Try.func38, Try.ntmps38
    go_wp2_with fail
    refine HS.out.mono ?_
    rintro e w4 ⟨h1, _, hb4⟩
    obtain rfl := h1 Hc.out.1
    have hbx4 := Hb.out.2.2.below hb4 (by simp; omega)
    have c0 : w4.cell? ⟨w.heap.size, 0, none⟩ = some (.bool na) := hbx4.cell 0
    have c1 : w4.cell? ⟨w.heap.size, 1, none⟩ = some (.string sa) := hbx4.cell 1
    have hblk4 := Hb.out.2.1.below hb4 (by simp)
    have hsz4 := hb4.size
    rw [World.size_alloc, World.size_alloc] at hsz4
    have Hb04 := Lib.hid (And.intro (Hb.out.1.trans (hb4.mono (by simp; omega))) (And.intro hblk4 hsz4))
    clear h1 hb4 hbx4 hblk4 hsz4
    go_wp2_with fail
    refine (HN.out _).mono ?_
    intro e w5 hA
    have hb5 := hA.2.2.2
    obtain ⟨sn, bn, cd, rfl, hans⟩ := ans_form hA
    have hblk5 := Hb04.out.2.1.below hb5 (by have := Hb04.out.2.2; simp; omega)
    rw [World.size_alloc] at hblk5
    have hb05 := Hb04.out.1.trans (hb5.mono Hb04.out.1.size)
    have d0 : w5.cell? ⟨w.heap.size + 1, 0, none⟩ = some (.bool false) := hblk5.cell 0
    have d1 : w5.cell? ⟨w.heap.size + 1, 1, none⟩ = some (.string ⟨#[]⟩) := hblk5.cell 1
    have f0 := hblk5.frozen 0
    have f1 := hblk5.frozen 1
    have Hans := Lib.hid hans
    clear hb5 hblk5 hans hA
    go_wp2_with fail
    refine bodyPost_ret (v := .tuple #[.agg #[.bool sn, .string bn], .int .i64 cd]) (by simp [results, Try.results38, go_sem, d0, d1]) rfl ?_
    exact Hans.out _ _ ((hb05.setCell (by show w.heap.size ≤ w.heap.size + 1; omega) _).setCell (by show w.heap.size ≤ w.heap.size + 1; omega) _)
  · have Hfin : Hid (∀ v w', Ans w (MayL na sa.data.toList) x v w' → Ans w (MayL na sa.data.toList) z v w') := by
      intro v w' h
      by_cases hm : MayL na sa.data.toList
      · have : z = x := by
          have : ¬ x < 0 := fun h => hc ⟨hm, h⟩
          omega
        rw [this]; exact h
      · exact ⟨fun h => absurd h hm, fun h => absurd h hm, fun h' => h.2.2.1 h', h.2.2.2⟩
    have Hs : Hid (∀ e w', Said ((w.alloc (.cells #[.bool na, .string sa] 26)).alloc (.cells #[.bool false, .string ⟨#[]⟩] 26)) (MayL na sa.data.toList) (.int .i64 (sg x)) (.int .i64 0) e w' → ∃ s : Int, e = .returned (.int .i64 s) ∧ decide (s < 0) = false) := by
      intro e w' h
      by_cases hm : MayL na sa.data.toList
      · refine ⟨_, h.1 hm, ?_⟩
        have : ¬ x < 0 := fun h => hc ⟨hm, h⟩
        by_cases h0 : x = 0
        · rw [h0]; rfl
        · unfold sg; rw [if_neg h0, if_neg this]; rfl
      · exact ⟨_, h.2.1 hm, rfl⟩
    clear hc hz hx HN
    go_enter Try.func38, Try.ntmps38
    go_wp2_with fail
    refine HS.out.mono ?_
    intro e w4 hS
    have hb4 := hS.2.2
    obtain ⟨s, rfl, hs⟩ := Hs.out _ _ hS
    have hbx4 := Hb.out.2.2.below hb4 (by simp; omega)
    have c0 : w4.cell? ⟨w.heap.size, 0, none⟩ = some (.bool na) := hbx4.cell 0
    have c1 : w4.cell? ⟨w.heap.size, 1, none⟩ = some (.string sa) := hbx4.cell 1
    have hblk4 := Hb.out.2.1.below hb4 (by simp)
    have hsz4 := hb4.size
    rw [World.size_alloc, World.size_alloc] at hsz4
    have Hb04 := Lib.hid (And.intro (Hb.out.1.trans (hb4.mono (by simp; omega))) (And.intro hblk4 hsz4))
    clear hS hb4 hbx4 hblk4 hsz4
    go_wp2_with fail
    refine (HT.out _).mono ?_
    intro e w5 hA
    have hb5 := hA.2.2.2
    obtain ⟨sn, bn, cd, rfl, hans⟩ := ans_form hA
    have hblk5 := Hb04.out.2.1.below hb5 (by have := Hb04.out.2.2; simp; omega)
    rw [World.size_alloc] at hblk5
    have hb05 := Hb04.out.1.trans (hb5.mono Hb04.out.1.size)
    have d0 : w5.cell? ⟨w.heap.size + 1, 0, none⟩ = some (.bool false) := hblk5.cell 0
    have d1 : w5.cell? ⟨w.heap.size + 1, 1, none⟩ = some (.string ⟨#[]⟩) := hblk5.cell 1
    have f0 := hblk5.frozen 0
    have f1 := hblk5.frozen 1
    have Hans := Lib.hid hans
    clear hb5 hblk5 hans hA
    go_wp2_with fail
    refine bodyPost_ret (v := .tuple #[.agg #[.bool sn, .string bn], .int .i64 cd]) (by simp [results, Try.results38, go_sem, d0, d1]) rfl ?_
    exact Hfin.out _ _ <| Hans.out _ _ ((hb05.setCell (by show w.heap.size ≤ w.heap.size + 1; omega) _).setCell (by show w.heap.size ≤ w.heap.size + 1; omega) _)
set_option maxRecDepth 100000 in
set_option maxHeartbeats 2000000 in
theorem bit_of {w : World} {na : Bool} {sa : ByteArray} {i : Int} (hi : i ≤ 9223372036854775807) :
    Calls Try.prog 40 #[.agg #[.bool na, .string sa], .int .i64 i] w (Said w (MayL na sa.data.toList ∧ 0 ≤ i) (.tuple #[.int .i64 (((num (na, sa)).natAbs / 2 ^ i.toNat % 2 : Nat) : Int), .int .i64 0]) (.tuple #[.int .i64 0, .int .i64 2])) := by
  have hb1 := new_below w (.cells #[.bool na, .string sa] 26)
  have hO := of_one (w := w.alloc (.cells #[.bool na, .string sa] 26)) (na := na) (sa := sa)
  rw [World.size_alloc] at hO
  have HO := Lib.hid hO
  have Hb := Lib.hid hb1
  have Hii := Lib.hid hi
  clear hO hb1 hi
  go_enter Try.func40, Try.ntmps40
  go_wp2_with fail
  refine HO.out.mono ?_
  rintro e w5 ⟨h1, h2, hb5⟩
  have hb05 := Hb.out.trans (hb5.mono (by simp))
  have H5 := Lib.hid hb05
  clear hb5 hb05
  by_cases hm : MayL na sa.data.toList
  · obtain ⟨ad, c, g, rfl, hadb, p0, hi, hg⟩ := h1 hm
    have Hlen := Lib.hid (len_num (a := (na, sa)) hm)
    by_cases hi0 : i < 0
    · have Hm := Lib.hid hm
      have Hi := Lib.hid hi0
      have hd : decide (i < 0) = true := decide_eq_true hi0
      clear h1 h2 hm hi hi0
      go_wp2
      refine bodyPost_ret (v := .tuple #[.int .i64 0, .int .i64 2]) (by simp [results, Try.results40, go_sem]) rfl ?_
      exact ⟨fun h => absurd Hi.out (by omega), fun _ => rfl, H5.out⟩
    · obtain ⟨k, rfl⟩ := Int.eq_ofNat_of_zero_le (show 0 ≤ i by omega)
      obtain ⟨b, hb⟩ : ∃ b : Nat, b = (num (na, sa)).natAbs / 2 ^ k % 2 := ⟨_, rfl⟩
      have hb2 : b < 2 := by rw [hb]; exact Nat.mod_lt _ (by decide)
      have hd : decide ((k : Int) < 0) = false := decide_eq_false (by omega)
      have hne := ptr_ne hi p0
      have HA := Lib.hid (fun q => abs_any (hi.drewN q).slot (hi.drewN q) (by have := Hlen.out; omega))
      have Hk := Lib.hid (And.intro (show k ≤ 9223372036854775807 by have := Hii.out; omega) hi.slot)
      have Hm := Lib.hid hm
      have Hb1 := Lib.hid (And.intro hb hb2)
      have Hg := Lib.hid hg
      clear h1 h2 hm hi hi0 hb hb2 hg
      go_wp2_with fail
      refine wp_region_noPanic ?_
      refine wp_region_HK (fun w' => w'.cell? ad = some (.pointer (some ⟨g, 0, none⟩))) 8 (by kernel_rfl) p0 (fun hHeld => ?_)
      refine wpHK_take (i := 0) (oi := Oper.mk (some 20) _ _ _ _ _) (v := ?_) rfl (by kernel_rfl) (by kernel_rfl) (by kernel_rfl) (by kernel_rfl) (fun _ _ _ h => h) (Or.inl ⟨by rfl, ?_⟩) (by assumption) ?_
      rotate_left
      · (intro w' hSw; (try dsimp only at hSw); (obtain s1 := hSw); go_simp; try with_reducible rfl)
      try simp only [Act.put, List.setIfInBounds_toArray, List.set_cons_zero, List.set_cons_succ]
      refine wpHK_take (i := 1) (oi := Oper.mk (some 21) _ _ _ _ _) (v := ?_) rfl (by kernel_rfl) (by kernel_rfl) (by kernel_rfl) (by kernel_rfl) (fun _ _ _ h => h) (Or.inl ⟨by rfl, ?_⟩) (by assumption) ?_
      rotate_left
      · (intro w' hSw; (try dsimp only at hSw); (obtain s1 := hSw); go_simp; try with_reducible rfl)
      try simp only [Act.put, List.setIfInBounds_toArray, List.set_cons_zero, List.set_cons_succ]
      refine wpHK_take (i := 2) (oi := Oper.mk (some 22) _ _ _ _ _) (v := ?_) rfl (by kernel_rfl) (by kernel_rfl) (by kernel_rfl) (by kernel_rfl) (fun _ _ _ h => h) (Or.inl ⟨by rfl, ?_⟩) (by assumption) ?_
      rotate_left
      · (intro w' hSw; (try dsimp only at hSw); (obtain s1 := hSw); go_simp; try with_reducible rfl)
      try simp only [Act.put, List.setIfInBounds_toArray, List.set_cons_zero, List.set_cons_succ]
      refine wpHK_take (i := 3) (oi := Oper.mk (some 23) _ _ _ _ _) (v := ?_) rfl (by kernel_rfl) (by kernel_rfl) (by kernel_rfl) (by kernel_rfl) (fun _ _ _ h => h) (Or.inl ⟨by rfl, ?_⟩) (by assumption) ?_
      rotate_left
      · (intro w' hSw; (try dsimp only at hSw); (obtain s1 := hSw); go_simp; try with_reducible rfl)
      try simp only [Act.put, List.setIfInBounds_toArray, List.set_cons_zero, List.set_cons_succ]
      refine wpHK_take (i := 4) (oi := Oper.mk (some 24) _ _ _ _ _) (v := ?_) rfl (by kernel_rfl) (by kernel_rfl) (by kernel_rfl) (by kernel_rfl) (fun _ _ _ h => h) (Or.inl ⟨by rfl, ?_⟩) (by assumption) ?_
      rotate_left
      · (intro w' hSw; (try dsimp only at hSw); (obtain s1 := hSw); go_simp; try with_reducible rfl)
      try simp only [Act.put, List.setIfInBounds_toArray, List.set_cons_zero, List.set_cons_succ]
      refine wpHK_take (i := 5) (oi := Oper.mk (some 25) _ _ _ _ _) (v := ?_) rfl (by kernel_rfl) (by kernel_rfl) (by kernel_rfl) (by kernel_rfl) (fun _ _ _ h => h) (Or.inl ⟨by rfl, ?_⟩) (by assumption) ?_
      rotate_left
      · (intro w' hSw; (try dsimp only at hSw); (obtain s1 := hSw); go_simp; try with_reducible rfl)
      try simp only [Act.put, List.setIfInBounds_toArray, List.set_cons_zero, List.set_cons_succ]
      refine wpHK_take (i := 7) (oi := Oper.mk (some 27) _ _ _ _ _) (v := ?_) rfl (by kernel_rfl) (by kernel_rfl) (by kernel_rfl) (by kernel_rfl) (fun _ _ _ h => h) (Or.inl ⟨by rfl, ?_⟩) (by assumption) ?_
      rotate_left
      · (intro w' hSw; (try dsimp only at hSw); (obtain s1 := hSw); go_simp; try with_reducible rfl)
      try simp only [Act.put, List.setIfInBounds_toArray, List.set_cons_zero, List.set_cons_succ]
      refine wpHK_one (j := 6) (o := Oper.mk (some 26) _ _ _ _ _) rfl (by kernel_rfl) (fun K hK => ?_)
      go_simp
      refine (HA.out _).mono ?_
      rintro e w6 ⟨rfl, hi6, hg6⟩
      have p6 : w6.cell? ad = some (.pointer (some ⟨g, 0, none⟩)) := hg6.cell (show (w5.drewN 1).cell? ad = _ from p0) (by intro h; injection h with h; exact hne h)
      have HBB := Lib.hid (bit_any (i := k) hi6 (by have := Hlen.out; rw [Int.natAbs_natCast]; omega) Hk.out.1)
      have Hg6 := Lib.hid hg6
      clear hi6 hg6
      try simp only []
      refine hK.out _ _ p6 (fun _ => ?_)
      clear hK K hHeld
      have hHeld := p6
      try simp only [Act.put, List.setIfInBounds_toArray, List.set_cons_zero, List.set_cons_succ]
      refine wpHK_tail (j := 8) (o := Oper.mk (some 28) _ _ _ _ _) rfl (by kernel_rfl) (by decide) (fun K hK => ?_)
      go_simp
      refine HBB.out.mono ?_
      rintro e w7 ⟨rfl, rfl⟩
      rw [Int.natAbs_natCast, ← Hb1.out.1]
      try simp only []
      refine hK.out _ _ ?_
      clear hK K
      try simp only [Act.put, List.setIfInBounds_toArray, List.set_cons_zero, List.set_cons_succ]
      refine wpHK_pure (i := 9) (oi := Oper.mk (some 29) _ _ _ _ _) (v := ?_) rfl (by kernel_rfl) (by kernel_rfl) (by kernel_rfl) (fun _ _ _ h => h) (Or.inl ⟨by rfl, ?_⟩) ?_
      rotate_left
      · (intro w' _; go_simp; try with_reducible rfl)
      try simp only [Act.put, List.setIfInBounds_toArray, List.set_cons_zero, List.set_cons_succ]
      refine wpHK_pure (i := 10) (oi := Oper.mk (some 4) _ _ _ _ _) (v := ?_) rfl (by kernel_rfl) (by kernel_rfl) (by kernel_rfl) (fun _ _ _ h => h) (Or.inl ⟨by rfl, ?_⟩) ?_
      rotate_left
      · (intro w' _; go_simp; try with_reducible rfl)
      try simp only [Act.put, List.setIfInBounds_toArray, List.set_cons_zero, List.set_cons_succ]
      refine wpHK_pure (i := 11) (oi := Oper.mk (some 5) _ _ _ _ _) (v := ?_) rfl (by kernel_rfl) (by kernel_rfl) (by kernel_rfl) (fun _ _ _ h => h) (Or.inl ⟨by rfl, ?_⟩) ?_
      rotate_left
      · (intro w' _; go_simp; try with_reducible rfl)
      try simp only [Act.put, List.setIfInBounds_toArray, List.set_cons_zero, List.set_cons_succ]
      refine wpHK_done (by kernel_rfl) ?_ _
      refine NoPanic.normal ?_
      go_wp2_with fail
      have hwr : IntKind.i64.wrap (b : Int) = (b : Int) := IntWalk.i64_in _ (by have := Hb1.out.2; omega)
      refine bodyPost_ret (v := .tuple #[.int .i64 (b : Int), .int .i64 0]) (by simp [results, Try.results40, go_sem, hwr]) rfl ?_
      exact ⟨fun _ => by rw [Hb1.out.1]; rfl, fun h => absurd ⟨Hm.out, by omega⟩ h, up_row (below_drewN H5.out 1) Hg6.out H5.out.size (by have := Hg.out; rw [World.size_alloc] at this; omega)⟩
  · obtain ⟨A5, n5, c5, rfl⟩ := h2 hm
    have Hm := Lib.hid hm
    clear h1 h2 hm
    go_wp2
    refine bodyPost_ret (v := .tuple #[.int .i64 0, .int .i64 2]) (by simp [results, Try.results40, go_sem]) rfl ?_
    exact ⟨fun h => absurd h (fun h => Hm.out h.1), fun _ => rfl, H5.out⟩
end Go.Proofs.Ytpnginnjbdedbaa

/- whole.Div (printed by gen_div.py). -/
namespace Go.Proofs.Ytpnginnjbdedbaa
open Go.RowKit
open Wh
set_option linter.unusedSimpArgs false

/-- quotient and rest -/
def Quots (w : World) (a b : Bool × ByteArray) (e : Ending) (w' : World) : Prop :=
  (¬ May2 a b → e = .returned (.tuple #[none_, none_, .int .i64 2])) ∧ (May2 a b → num b = 0 → e = .returned (.tuple #[none_, none_, .int .i64 5])) ∧
  (May2 a b → num b ≠ 0 → e = .returned (.tuple #[enc (num a / num b), enc (num a % num b), .int .i64 0])) ∧ Below w.heap.size w w'
theorem same_pair {w : World} {g : Nat} {t : TypeId} {u v : Value} (h : Blk w g t #[u, v]) : Blk ((w.setCell ⟨g, 0, none⟩ u).setCell ⟨g, 1, none⟩ v) g t #[u, v] := (h.set_ 0 u).set_ 1 v
theorem put_pair {w : World} {g : Nat} {t : TypeId} {x y : Value} (u v : Value) (h : Blk w g t #[x, y]) : Blk ((w.setCell ⟨g, 0, none⟩ u).setCell ⟨g, 1, none⟩ v) g t #[u, v] := (h.set_ 0 u).set_ 1 v
theorem far_pair {w : World} {g g' : Nat} {t : TypeId} {cs : Array Value} (u v : Value) (h : Blk w g t cs) (hne : g ≠ g') : Blk ((w.setCell ⟨g', 0, none⟩ u).setCell ⟨g', 1, none⟩ v) g t cs := (Blk.far h (p := ⟨g', 0, none⟩) hne u).far (p := ⟨g', 1, none⟩) hne v
theorem Blk.two {w : World} {g : Nat} {t : TypeId} {u v : Value} (h : Blk w g t #[u, v]) : w.cell? ⟨g, 0, none⟩ = some u ∧ w.cell? ⟨g, 1, none⟩ = some v := ⟨h.cell 0, h.cell 1⟩
theorem num_nil {b : Bool × ByteArray} (hm : MayL b.1 b.2.data.toList) : num b = 0 ↔ b.2.size = 0 := by
  have hl : b.2.data.toList.length = b.2.size := Array.length_toList
  constructor
  · intro h
    rcases Nat.eq_zero_or_pos b.2.size with h0 | h0
    · exact h0
    · have h1 : 0 < bval b.2.data.toList := bval_pos hm.2.2 (by intro h; rw [h] at hl; simp at hl; omega)
      obtain ⟨n, s⟩ := b
      have h2 := sg_num (n := n) (s := s) h1
      rw [h] at h2
      cases n <;> exact absurd h2 (by decide)
  · intro h
    have h2 := str_empty (s := b.2) (List.eq_nil_of_length_eq_zero (by omega))
    obtain ⟨n, s⟩ := b
    dsimp only at h2
    subst h2
    cases n <;> rfl
theorem fits_len {l : List UInt8} {k : Nat} (h : 8 * l.length ≤ k) : bl (bval l) ≤ k := by
  refine bl_lt.2 (Nat.lt_of_lt_of_le (bval_lt _) ?_)
  rw [show (256 : Nat) = 2 ^ 8 by decide, ← Nat.pow_mul]
  exact Nat.pow_le_pow_right (by decide) h
theorem bl_mono {a m k : Nat} (h : a ≤ m) (hm : bl m ≤ k) : bl a ≤ k := bl_lt.2 (Nat.lt_of_le_of_lt h (bl_lt.1 hm))
theorem len_bl {a k : Nat} (h : bl a ≤ 32 * k) : (wds a).length ≤ k :=
  len_wds (Nat.lt_of_lt_of_le (bl_lt.1 h) (by rw [show (4294967296 : Nat) = 2 ^ 32 by decide, ← Nat.pow_mul]; exact Nat.le_refl _))
theorem fits_num {a : Bool × ByteArray} (h : MayL a.1 a.2.data.toList) : bl (num a).natAbs ≤ 131072 := by
  unfold num
  rw [sgn_abs]
  exact fits_len (by have := h.1; omega)
theorem fits_le {z : Int} {m : Nat} (h : z.natAbs ≤ m) (hm : bl m ≤ 131072) : fits z := bl_mono h hm
theorem len_fits {z : Int} (h : fits z) : (wds z.natAbs).length ≤ 5000 := Nat.le_trans (len_bl (k := 4096) h) (by decide)
set_option maxRecDepth 100000 in
set_option maxHeartbeats 4000000 in
theorem wdiv_bad {w : World} {na nb : Bool} {sa sb : ByteArray} (hm : ¬ May2 (na, sa) (nb, sb)) :
    Calls Try.prog 21 #[.agg #[.bool na, .string sa], .agg #[.bool nb, .string sb]] w (Quots w (na, sa) (nb, sb)) := by
  have hb1 := new_below w (.cells #[.bool na, .string sa] 26)
  have hb2 := hb1.alloc (by simp) (.cells #[.bool nb, .string sb] 26)
  have hb3 := hb2.alloc (by simp <;> omega) (.cells #[.bool false, .string ⟨#[]⟩] 26)
  have hb4 := hb3.alloc (by simp <;> omega) (.cells #[.bool false, .string ⟨#[]⟩] 26)
  have k2 := ((Blk.new (w.alloc (.cells #[.bool na, .string sa] 26)) 26 #[.bool nb, .string sb]).alloc (.cells #[.bool false, .string ⟨#[]⟩] 26)).alloc (.cells #[.bool false, .string ⟨#[]⟩] 26)
  have k3 := (Blk.new ((w.alloc (.cells #[.bool na, .string sa] 26)).alloc (.cells #[.bool nb, .string sb] 26)) 26 #[.bool false, .string ⟨#[]⟩]).alloc (.cells #[.bool false, .string ⟨#[]⟩] 26)
  have k4 := Blk.new (((w.alloc (.cells #[.bool na, .string sa] 26)).alloc (.cells #[.bool nb, .string sb] 26)).alloc (.cells #[.bool false, .string ⟨#[]⟩] 26)) 26 #[.bool false, .string ⟨#[]⟩]
  have hO := of_pair (w := (((w.alloc (.cells #[.bool na, .string sa] 26)).alloc (.cells #[.bool nb, .string sb] 26)).alloc (.cells #[.bool false, .string ⟨#[]⟩] 26)).alloc (.cells #[.bool false, .string ⟨#[]⟩] 26)) (na := na) (sa := sa) (nb := nb) (sb := sb)
  rw [World.size_alloc, World.size_alloc, World.size_alloc, World.size_alloc] at hO
  rw [World.size_alloc] at k2
  rw [World.size_alloc, World.size_alloc] at k3
  rw [World.size_alloc, World.size_alloc, World.size_alloc] at k4
  have HO := Lib.hid hO
  have Hb := Lib.hid (And.intro hb4 (And.intro k2 (And.intro k3 k4)))
  have Hm := Lib.hid hm
  clear hm
  clear hO hb1 hb2 hb3 hb4 k2 k3 k4
  go_enter Try.func21, Try.ntmps21
  go_wp2_with fail
  refine HO.out.mono ?_
  rintro e w5 ⟨h1, h2, hb5⟩
  have hb05 := Hb.out.1.trans (hb5.mono (by simp <;> omega))
  have m2 := Hb.out.2.1.below hb5 (by simp <;> omega)
  have m3 := Hb.out.2.2.1.below hb5 (by simp)
  have m4 := Hb.out.2.2.2.below hb5 (by simp)
  have c0 : w5.cell? ⟨w.heap.size + 1, 0, none⟩ = some (.bool nb) := m2.cell 0
  have c1 : w5.cell? ⟨w.heap.size + 1, 1, none⟩ = some (.string sb) := m2.cell 1
  have d0 : w5.cell? ⟨w.heap.size + 1 + 1, 0, none⟩ = some (.bool false) := m3.cell 0
  have d1 : w5.cell? ⟨w.heap.size + 1 + 1, 1, none⟩ = some (.string ⟨#[]⟩) := m3.cell 1
  have e0 : w5.cell? ⟨w.heap.size + 1 + 1 + 1, 0, none⟩ = some (.bool false) := m4.cell 0
  have e1 : w5.cell? ⟨w.heap.size + 1 + 1 + 1, 1, none⟩ = some (.string ⟨#[]⟩) := m4.cell 1
  have d2 := m3.frozen 0
  have d3 := m3.frozen 1
  have e2 := m4.frozen 0
  have e3 := m4.frozen 1
  have H5 := Lib.hid (And.intro hb05 (And.intro m3 m4))
  have Hsz := Lib.hid (show w.heap.size + 1 + 1 + 1 + 1 ≤ w5.heap.size by have := hb5.size; simp at this; omega)
  clear hb5 hb05 m2 m3 m4
  obtain ⟨A5, n5, c5, rfl⟩ := h2 Hm.out
  clear h1 h2
  go_wp2_with fail
  refine wp_region_noPanic ?_
  refine wp_region_HK (fun w' => (w'.cell? ⟨w.heap.size + 1 + 1, 0, none⟩ = some (.bool false) ∧ w'.cell? ⟨w.heap.size + 1 + 1, 1, none⟩ = some (.string ⟨#[]⟩)) ∧ w'.cell? ⟨w.heap.size + 1 + 1 + 1, 0, none⟩ = some (.bool false) ∧ w'.cell? ⟨w.heap.size + 1 + 1 + 1, 1, none⟩ = some (.string ⟨#[]⟩)) 3 (by kernel_rfl) ⟨⟨d0, d1⟩, e0, e1⟩ (fun hHeld => ?_)
  refine wpHK_take (i := 0) (oi := Oper.mk (some 21) _ _ _ _ _) (v := ?_) rfl (by kernel_rfl) (by kernel_rfl) (by kernel_rfl) (by kernel_rfl) (fun _ _ _ h => h) (Or.inl ⟨by rfl, ?_⟩) (by assumption) ?_
  rotate_left
  · (intro w' hSw; (try dsimp only at hSw); (obtain ⟨⟨s1, s2⟩, s3, s4⟩ := hSw); go_simp; try with_reducible rfl)
  try simp only [Act.put, List.setIfInBounds_toArray, List.set_cons_zero, List.set_cons_succ]
  refine wpHK_take (i := 1) (oi := Oper.mk (some 22) _ _ _ _ _) (v := ?_) rfl (by kernel_rfl) (by kernel_rfl) (by kernel_rfl) (by kernel_rfl) (fun _ _ _ h => h) (Or.inl ⟨by rfl, ?_⟩) (by assumption) ?_
  rotate_left
  · (intro w' hSw; (try dsimp only at hSw); (obtain ⟨⟨s1, s2⟩, s3, s4⟩ := hSw); go_simp; try with_reducible rfl)
  try simp only [Act.put, List.setIfInBounds_toArray, List.set_cons_zero, List.set_cons_succ]
  refine wpHK_one (j := 2) (o := Oper.mk (none) _ _ _ _ _) rfl (by kernel_rfl) (fun K hK => ?_)
  go_simp
  refine hK.out _ _ (And.intro (same_pair H5.out.2.1).two (far_pair (.bool false) (.string ⟨#[]⟩) H5.out.2.2 (show w.heap.size + 1 + 1 + 1 ≠ w.heap.size + 1 + 1 by omega)).two) (fun _ => ?_)
  clear hK K hHeld
  have hHeld := (And.intro (same_pair H5.out.2.1).two (far_pair (.bool false) (.string ⟨#[]⟩) H5.out.2.2 (show w.heap.size + 1 + 1 + 1 ≠ w.heap.size + 1 + 1 by omega)).two)
  try simp only [Act.put, List.setIfInBounds_toArray, List.set_cons_zero, List.set_cons_succ]
  refine wpHK_tail (j := 3) (o := Oper.mk (none) _ _ _ _ _) rfl (by kernel_rfl) (by decide) (fun K hK => ?_)
  go_simp
  refine hK.out _ _ ?_
  clear hK K
  try simp only [Act.put, List.setIfInBounds_toArray, List.set_cons_zero, List.set_cons_succ]
  refine wpHK_pure (i := 4) (oi := Oper.mk (some 6) _ _ _ _ _) (v := ?_) rfl (by kernel_rfl) (by kernel_rfl) (by kernel_rfl) (fun _ _ _ h => h) (Or.inl ⟨by rfl, ?_⟩) ?_
  rotate_left
  · (intro w' _; go_simp; try with_reducible rfl)
  try simp only [Act.put, List.setIfInBounds_toArray, List.set_cons_zero, List.set_cons_succ]
  refine wpHK_done (by kernel_rfl) ?_ _
  refine NoPanic.normal ?_
  go_wp2_with fail
  refine bodyPost_ret (v := .tuple #[.agg #[.bool false, .string ⟨#[]⟩], .agg #[.bool false, .string ⟨#[]⟩], .int .i64 2]) (by simp [results, Try.results21, go_sem, d0, d1, e0, e1]) rfl ?_
  exact ⟨fun _ => rfl, fun h => absurd h Hm.out, fun h => absurd h Hm.out, (((((H5.out.1.drew).setCell (by show w.heap.size ≤ w.heap.size + 1 + 1; omega) _).setCell (by show w.heap.size ≤ w.heap.size + 1 + 1; omega) _).setCell (by show w.heap.size ≤ w.heap.size + 1 + 1 + 1; omega) _).setCell (by show w.heap.size ≤ w.heap.size + 1 + 1 + 1; omega) _)⟩
set_option maxRecDepth 100000 in
set_option maxHeartbeats 4000000 in
theorem wdiv_zero {w : World} {na nb : Bool} {sa sb : ByteArray} (hm : May2 (na, sa) (nb, sb)) (h0 : num (nb, sb) = 0) :
    Calls Try.prog 21 #[.agg #[.bool na, .string sa], .agg #[.bool nb, .string sb]] w (Quots w (na, sa) (nb, sb)) := by
  have hb1 := new_below w (.cells #[.bool na, .string sa] 26)
  have hb2 := hb1.alloc (by simp) (.cells #[.bool nb, .string sb] 26)
  have hb3 := hb2.alloc (by simp <;> omega) (.cells #[.bool false, .string ⟨#[]⟩] 26)
  have hb4 := hb3.alloc (by simp <;> omega) (.cells #[.bool false, .string ⟨#[]⟩] 26)
  have k2 := ((Blk.new (w.alloc (.cells #[.bool na, .string sa] 26)) 26 #[.bool nb, .string sb]).alloc (.cells #[.bool false, .string ⟨#[]⟩] 26)).alloc (.cells #[.bool false, .string ⟨#[]⟩] 26)
  have k3 := (Blk.new ((w.alloc (.cells #[.bool na, .string sa] 26)).alloc (.cells #[.bool nb, .string sb] 26)) 26 #[.bool false, .string ⟨#[]⟩]).alloc (.cells #[.bool false, .string ⟨#[]⟩] 26)
  have k4 := Blk.new (((w.alloc (.cells #[.bool na, .string sa] 26)).alloc (.cells #[.bool nb, .string sb] 26)).alloc (.cells #[.bool false, .string ⟨#[]⟩] 26)) 26 #[.bool false, .string ⟨#[]⟩]
  have hO := of_pair (w := (((w.alloc (.cells #[.bool na, .string sa] 26)).alloc (.cells #[.bool nb, .string sb] 26)).alloc (.cells #[.bool false, .string ⟨#[]⟩] 26)).alloc (.cells #[.bool false, .string ⟨#[]⟩] 26)) (na := na) (sa := sa) (nb := nb) (sb := sb)
  rw [World.size_alloc, World.size_alloc, World.size_alloc, World.size_alloc] at hO
  rw [World.size_alloc] at k2
  rw [World.size_alloc, World.size_alloc] at k3
  rw [World.size_alloc, World.size_alloc, World.size_alloc] at k4
  have HO := Lib.hid hO
  have Hb := Lib.hid (And.intro hb4 (And.intro k2 (And.intro k3 k4)))
  have Hm := Lib.hid (And.intro hm h0)
  clear hm h0
  clear hO hb1 hb2 hb3 hb4 k2 k3 k4
  go_enter Try.func21, Try.ntmps21
  go_wp2_with fail
  refine HO.out.mono ?_
  rintro e w5 ⟨h1, h2, hb5⟩
  have hb05 := Hb.out.1.trans (hb5.mono (by simp <;> omega))
  have m2 := Hb.out.2.1.below hb5 (by simp <;> omega)
  have m3 := Hb.out.2.2.1.below hb5 (by simp)
  have m4 := Hb.out.2.2.2.below hb5 (by simp)
  have c0 : w5.cell? ⟨w.heap.size + 1, 0, none⟩ = some (.bool nb) := m2.cell 0
  have c1 : w5.cell? ⟨w.heap.size + 1, 1, none⟩ = some (.string sb) := m2.cell 1
  have d0 : w5.cell? ⟨w.heap.size + 1 + 1, 0, none⟩ = some (.bool false) := m3.cell 0
  have d1 : w5.cell? ⟨w.heap.size + 1 + 1, 1, none⟩ = some (.string ⟨#[]⟩) := m3.cell 1
  have e0 : w5.cell? ⟨w.heap.size + 1 + 1 + 1, 0, none⟩ = some (.bool false) := m4.cell 0
  have e1 : w5.cell? ⟨w.heap.size + 1 + 1 + 1, 1, none⟩ = some (.string ⟨#[]⟩) := m4.cell 1
  have d2 := m3.frozen 0
  have d3 := m3.frozen 1
  have e2 := m4.frozen 0
  have e3 := m4.frozen 1
  have H5 := Lib.hid (And.intro hb05 (And.intro m3 m4))
  have Hsz := Lib.hid (show w.heap.size + 1 + 1 + 1 + 1 ≤ w5.heap.size by have := hb5.size; simp at this; omega)
  clear hb5 hb05 m2 m3 m4
  obtain ⟨ad, c, g1, g2, rfl, hadb, p0, p1, hx, hy, hg1, hg2, hne⟩ := h1 Hm.out.1
  clear h1 h2 hx hy
  have hsz := (num_nil Hm.out.1.2).1 Hm.out.2
  have hl : sb.data.toList.length = sb.size := Array.length_toList
  dsimp only at hsz
  have he := List.eq_nil_of_length_eq_zero (show sb.data.toList.length = 0 by omega)
  obtain rfl := str_empty he
  obtain rfl := Hm.out.1.2.2.1 he
  clear hsz hl he hg1 hg2 hne
  go_wp2_with fail
  refine wp_region_noPanic ?_
  refine wp_region_HK (fun w' => (w'.cell? ⟨w.heap.size + 1 + 1, 0, none⟩ = some (.bool false) ∧ w'.cell? ⟨w.heap.size + 1 + 1, 1, none⟩ = some (.string ⟨#[]⟩)) ∧ w'.cell? ⟨w.heap.size + 1 + 1 + 1, 0, none⟩ = some (.bool false) ∧ w'.cell? ⟨w.heap.size + 1 + 1 + 1, 1, none⟩ = some (.string ⟨#[]⟩)) 3 (by kernel_rfl) ⟨⟨d0, d1⟩, e0, e1⟩ (fun hHeld => ?_)
  refine wpHK_take (i := 0) (oi := Oper.mk (some 27) _ _ _ _ _) (v := ?_) rfl (by kernel_rfl) (by kernel_rfl) (by kernel_rfl) (by kernel_rfl) (fun _ _ _ h => h) (Or.inl ⟨by rfl, ?_⟩) (by assumption) ?_
  rotate_left
  · (intro w' hSw; (try dsimp only at hSw); (obtain ⟨⟨s1, s2⟩, s3, s4⟩ := hSw); go_simp; try with_reducible rfl)
  try simp only [Act.put, List.setIfInBounds_toArray, List.set_cons_zero, List.set_cons_succ]
  refine wpHK_take (i := 1) (oi := Oper.mk (some 28) _ _ _ _ _) (v := ?_) rfl (by kernel_rfl) (by kernel_rfl) (by kernel_rfl) (by kernel_rfl) (fun _ _ _ h => h) (Or.inl ⟨by rfl, ?_⟩) (by assumption) ?_
  rotate_left
  · (intro w' hSw; (try dsimp only at hSw); (obtain ⟨⟨s1, s2⟩, s3, s4⟩ := hSw); go_simp; try with_reducible rfl)
  try simp only [Act.put, List.setIfInBounds_toArray, List.set_cons_zero, List.set_cons_succ]
  refine wpHK_one (j := 2) (o := Oper.mk (none) _ _ _ _ _) rfl (by kernel_rfl) (fun K hK => ?_)
  go_simp
  refine hK.out _ _ (And.intro (same_pair H5.out.2.1).two (far_pair (.bool false) (.string ⟨#[]⟩) H5.out.2.2 (show w.heap.size + 1 + 1 + 1 ≠ w.heap.size + 1 + 1 by omega)).two) (fun _ => ?_)
  clear hK K hHeld
  have hHeld := (And.intro (same_pair H5.out.2.1).two (far_pair (.bool false) (.string ⟨#[]⟩) H5.out.2.2 (show w.heap.size + 1 + 1 + 1 ≠ w.heap.size + 1 + 1 by omega)).two)
  try simp only [Act.put, List.setIfInBounds_toArray, List.set_cons_zero, List.set_cons_succ]
  refine wpHK_tail (j := 3) (o := Oper.mk (none) _ _ _ _ _) rfl (by kernel_rfl) (by decide) (fun K hK => ?_)
  go_simp
  refine hK.out _ _ ?_
  clear hK K
  try simp only [Act.put, List.setIfInBounds_toArray, List.set_cons_zero, List.set_cons_succ]
  refine wpHK_pure (i := 4) (oi := Oper.mk (some 6) _ _ _ _ _) (v := ?_) rfl (by kernel_rfl) (by kernel_rfl) (by kernel_rfl) (fun _ _ _ h => h) (Or.inl ⟨by rfl, ?_⟩) ?_
  rotate_left
  · (intro w' _; go_simp; try with_reducible rfl)
  try simp only [Act.put, List.setIfInBounds_toArray, List.set_cons_zero, List.set_cons_succ]
  refine wpHK_done (by kernel_rfl) ?_ _
  refine NoPanic.normal ?_
  go_wp2_with fail
  refine bodyPost_ret (v := .tuple #[.agg #[.bool false, .string ⟨#[]⟩], .agg #[.bool false, .string ⟨#[]⟩], .int .i64 5]) (by simp [results, Try.results21, go_sem, d0, d1, e0, e1]) rfl ?_
  exact ⟨fun h => absurd Hm.out.1 h, fun _ _ => rfl, fun _ h => absurd Hm.out.2 h, (((((H5.out.1.drew).setCell (by show w.heap.size ≤ w.heap.size + 1 + 1; omega) _).setCell (by show w.heap.size ≤ w.heap.size + 1 + 1; omega) _).setCell (by show w.heap.size ≤ w.heap.size + 1 + 1 + 1; omega) _).setCell (by show w.heap.size ≤ w.heap.size + 1 + 1 + 1; omega) _)⟩
theorem rest_le {x y : Int} (hy : y ≠ 0) : (x % y).natAbs ≤ y.natAbs := by
  have h1 := Int.emod_nonneg x hy
  have h2 := Int.emod_lt x hy
  omega
set_option maxRecDepth 100000 in
set_option maxHeartbeats 4000000 in
theorem wdiv_main {w : World} {na nb : Bool} {sa sb : ByteArray} (hm : May2 (na, sa) (nb, sb)) (h0 : num (nb, sb) ≠ 0) :
    Calls Try.prog 21 #[.agg #[.bool na, .string sa], .agg #[.bool nb, .string sb]] w (Quots w (na, sa) (nb, sb)) := by
  have hb1 := new_below w (.cells #[.bool na, .string sa] 26)
  have hb2 := hb1.alloc (by simp) (.cells #[.bool nb, .string sb] 26)
  have hb3 := hb2.alloc (by simp <;> omega) (.cells #[.bool false, .string ⟨#[]⟩] 26)
  have hb4 := hb3.alloc (by simp <;> omega) (.cells #[.bool false, .string ⟨#[]⟩] 26)
  have k2 := ((Blk.new (w.alloc (.cells #[.bool na, .string sa] 26)) 26 #[.bool nb, .string sb]).alloc (.cells #[.bool false, .string ⟨#[]⟩] 26)).alloc (.cells #[.bool false, .string ⟨#[]⟩] 26)
  have k3 := (Blk.new ((w.alloc (.cells #[.bool na, .string sa] 26)).alloc (.cells #[.bool nb, .string sb] 26)) 26 #[.bool false, .string ⟨#[]⟩]).alloc (.cells #[.bool false, .string ⟨#[]⟩] 26)
  have k4 := Blk.new (((w.alloc (.cells #[.bool na, .string sa] 26)).alloc (.cells #[.bool nb, .string sb] 26)).alloc (.cells #[.bool false, .string ⟨#[]⟩] 26)) 26 #[.bool false, .string ⟨#[]⟩]
  have hO := of_pair (w := (((w.alloc (.cells #[.bool na, .string sa] 26)).alloc (.cells #[.bool nb, .string sb] 26)).alloc (.cells #[.bool false, .string ⟨#[]⟩] 26)).alloc (.cells #[.bool false, .string ⟨#[]⟩] 26)) (na := na) (sa := sa) (nb := nb) (sb := sb)
  rw [World.size_alloc, World.size_alloc, World.size_alloc, World.size_alloc] at hO
  rw [World.size_alloc] at k2
  rw [World.size_alloc, World.size_alloc] at k3
  rw [World.size_alloc, World.size_alloc, World.size_alloc] at k4
  have HO := Lib.hid hO
  have Hb := Lib.hid (And.intro hb4 (And.intro k2 (And.intro k3 k4)))
  have Hm := Lib.hid (And.intro hm h0)
  clear hm h0
  clear hO hb1 hb2 hb3 hb4 k2 k3 k4
  go_enter Try.func21, Try.ntmps21
  go_wp2_with fail
  refine HO.out.mono ?_
  rintro e w5 ⟨h1, h2, hb5⟩
  have hb05 := Hb.out.1.trans (hb5.mono (by simp <;> omega))
  have m2 := Hb.out.2.1.below hb5 (by simp <;> omega)
  have m3 := Hb.out.2.2.1.below hb5 (by simp)
  have m4 := Hb.out.2.2.2.below hb5 (by simp)
  have c0 : w5.cell? ⟨w.heap.size + 1, 0, none⟩ = some (.bool nb) := m2.cell 0
  have c1 : w5.cell? ⟨w.heap.size + 1, 1, none⟩ = some (.string sb) := m2.cell 1
  have d0 : w5.cell? ⟨w.heap.size + 1 + 1, 0, none⟩ = some (.bool false) := m3.cell 0
  have d1 : w5.cell? ⟨w.heap.size + 1 + 1, 1, none⟩ = some (.string ⟨#[]⟩) := m3.cell 1
  have e0 : w5.cell? ⟨w.heap.size + 1 + 1 + 1, 0, none⟩ = some (.bool false) := m4.cell 0
  have e1 : w5.cell? ⟨w.heap.size + 1 + 1 + 1, 1, none⟩ = some (.string ⟨#[]⟩) := m4.cell 1
  have d2 := m3.frozen 0
  have d3 := m3.frozen 1
  have e2 := m4.frozen 0
  have e3 := m4.frozen 1
  have H5 := Lib.hid (And.intro hb05 (And.intro m3 m4))
  have Hsz := Lib.hid (show w.heap.size + 1 + 1 + 1 + 1 ≤ w5.heap.size by have := hb5.size; simp at this; omega)
  clear hb5 hb05 m2 m3 m4
  obtain ⟨ad, c, g1, g2, rfl, hadb, p0, p1, hx, hy, hg1, hg2, hne⟩ := h1 Hm.out.1
  clear h1 h2
  have hl : 0 < sb.size := by
    rcases Nat.eq_zero_or_pos sb.size with h | h
    · exact absurd ((num_nil Hm.out.1.2).2 h) Hm.out.2
    · exact h
  obtain ⟨q1, q2⟩ := str_facts hl
  have hba1 : Below w5.heap.size w5 (w5.drew.alloc (.cells #[.bool false, .slice none 0 0] 82)) := (Below.refl _ _).drew.alloc (Nat.le_refl _) _
  have hba := hba1.alloc (by simp) (.cells #[.bool false, .slice none 0 0] 82)
  have hz1 := (IntB.zero w5.drew).below (new_below (w5.drew.alloc (.cells #[.bool false, .slice none 0 0] 82)) (.cells #[.bool false, .slice none 0 0] 82))
  have hz2 : IntB ((w5.drew.alloc (.cells #[.bool false, .slice none 0 0] 82)).alloc (.cells #[.bool false, .slice none 0 0] 82)) (w5.heap.size + 1) 0 := by
    have := IntB.zero (w5.drew.alloc (.cells #[.bool false, .slice none 0 0] 82))
    rw [World.size_alloc] at this
    exact this
  have l1 := len_num Hm.out.1.1
  have l2 := len_num Hm.out.1.2
  have HC1 := Lib.hid (divmod_any (g := w5.heap.size) (gr := w5.heap.size + 1) hz1.slot hz2.slot (by omega) (hx.below hba) (hy.below hba) (by omega) (by omega) Hm.out.2)
  have HC2 := Lib.hid (divmod_any (g := w5.heap.size + 1) (gr := w5.heap.size) hz2.slot hz1.slot (by omega) (hx.below hba) (hy.below hba) (by omega) (by omega) Hm.out.2)
  have hcell : ∀ w' : World, Below w5.heap.size w5 w' → w'.cell? ad = some (.pointer (some ⟨g1, 0, none⟩)) ∧ w'.cell? ⟨ad.block, ad.off + 1, none⟩ = some (.pointer (some ⟨g2, 0, none⟩)) := fun w' hb => ⟨(hb.cell hadb).trans p0, (hb.cell (p := ⟨ad.block, ad.off + 1, none⟩) hadb).trans p1⟩
  have Hcell := Lib.hid hcell
  have Hba1 := Lib.hid hba1
  have Hba := Lib.hid hba
  clear hl hba1 hba hz1 hz2 l1 l2 hcell hx hy hg1 hg2 hne
  go_wp2_with fail
  apply cut_goal2 (F := fun g gr W => IntB W g (num (na, sa) / num (nb, sb)) ∧ IntB W gr (num (na, sa) % num (nb, sb)) ∧ Below w5.heap.size w5 W)
  · intro hcont
    refine wp_region_noPanic ?_
    refine wp_region_HK (fun w' => w'.cell? ad = some (.pointer (some ⟨g1, 0, none⟩)) ∧ w'.cell? ⟨ad.block, ad.off + 1, none⟩ = some (.pointer (some ⟨g2, 0, none⟩))) 8 (by kernel_rfl) ⟨p0, p1⟩ (fun hHeld => ?_)
    refine wpHK_take (i := 1) (oi := Oper.mk (some 31) _ _ _ _ _) (v := ?_) rfl (by kernel_rfl) (by kernel_rfl) (by kernel_rfl) (by kernel_rfl) (fun _ _ _ h => h) (Or.inl ⟨by rfl, ?_⟩) (by assumption) ?_
    rotate_left
    · (intro w' hSw; (try dsimp only at hSw); (obtain ⟨s1, s2⟩ := hSw); go_simp; try with_reducible rfl)
    try simp only [Act.put, List.setIfInBounds_toArray, List.set_cons_zero, List.set_cons_succ]
    refine wpHK_take (i := 2) (oi := Oper.mk (some 32) _ _ _ _ _) (v := ?_) rfl (by kernel_rfl) (by kernel_rfl) (by kernel_rfl) (by kernel_rfl) (fun _ _ _ h => h) (Or.inl ⟨by rfl, ?_⟩) (by assumption) ?_
    rotate_left
    · (intro w' hSw; (try dsimp only at hSw); (obtain ⟨s1, s2⟩ := hSw); go_simp; try with_reducible rfl)
    try simp only [Act.put, List.setIfInBounds_toArray, List.set_cons_zero, List.set_cons_succ]
    refine wpHK_take (i := 3) (oi := Oper.mk (some 33) _ _ _ _ _) (v := ?_) rfl (by kernel_rfl) (by kernel_rfl) (by kernel_rfl) (by kernel_rfl) (fun _ _ _ h => h) (Or.inl ⟨by rfl, ?_⟩) (by assumption) ?_
    rotate_left
    · (intro w' hSw; (try dsimp only at hSw); (obtain ⟨s1, s2⟩ := hSw); go_simp; try with_reducible rfl)
    try simp only [Act.put, List.setIfInBounds_toArray, List.set_cons_zero, List.set_cons_succ]
    refine wpHK_take (i := 4) (oi := Oper.mk (some 34) _ _ _ _ _) (v := ?_) rfl (by kernel_rfl) (by kernel_rfl) (by kernel_rfl) (by kernel_rfl) (fun _ _ _ h => h) (Or.inl ⟨by rfl, ?_⟩) (by assumption) ?_
    rotate_left
    · (intro w' hSw; (try dsimp only at hSw); (obtain ⟨s1, s2⟩ := hSw); go_simp; try with_reducible rfl)
    try simp only [Act.put, List.setIfInBounds_toArray, List.set_cons_zero, List.set_cons_succ]
    refine wpHK_take (i := 5) (oi := Oper.mk (some 35) _ _ _ _ _) (v := ?_) rfl (by kernel_rfl) (by kernel_rfl) (by kernel_rfl) (by kernel_rfl) (fun _ _ _ h => h) (Or.inl ⟨by rfl, ?_⟩) (by assumption) ?_
    rotate_left
    · (intro w' hSw; (try dsimp only at hSw); (obtain ⟨s1, s2⟩ := hSw); go_simp; try with_reducible rfl)
    try simp only [Act.put, List.setIfInBounds_toArray, List.set_cons_zero, List.set_cons_succ]
    refine wpHK_take (i := 6) (oi := Oper.mk (some 36) _ _ _ _ _) (v := ?_) rfl (by kernel_rfl) (by kernel_rfl) (by kernel_rfl) (by kernel_rfl) (fun _ _ _ h => h) (Or.inl ⟨by rfl, ?_⟩) (by assumption) ?_
    rotate_left
    · (intro w' hSw; (try dsimp only at hSw); (obtain ⟨s1, s2⟩ := hSw); go_simp; try with_reducible rfl)
    try simp only [Act.put, List.setIfInBounds_toArray, List.set_cons_zero, List.set_cons_succ]
    refine wpHK_two (i := 0) (j := 7) (oi := Oper.mk (some 30) _ _ _ _ _) (oj := Oper.mk (some 37) _ _ _ _ _) rfl rfl (by kernel_rfl) (fun K hK => ?_) (fun K hK => ?_)
    · go_simp
      refine hK.out _ _ (Hcell.out _ Hba1.out) (fun _ => ?_)
      clear hK K hHeld
      have hHeld := (Hcell.out _ Hba1.out)
      try simp only [Act.put, List.setIfInBounds_toArray, List.set_cons_zero, List.set_cons_succ]
      refine wpHK_one (j := 7) (o := Oper.mk (some 37) _ _ _ _ _) rfl (by kernel_rfl) (fun K hK => ?_)
      go_simp
      refine hK.out _ _ (Hcell.out _ Hba.out) (fun _ => ?_)
      clear hK K hHeld
      have hHeld := (Hcell.out _ Hba.out)
      try simp only [Act.put, List.setIfInBounds_toArray, List.set_cons_zero, List.set_cons_succ]
      refine wpHK_tail (j := 8) (o := Oper.mk (some 38) _ _ _ _ _) rfl (by kernel_rfl) (by decide) (fun K hK => ?_)
      go_simp
      refine HC1.out.mono ?_
      rintro e w6 ⟨rfl, hq6, hr6, hup6⟩
      try simp only []
      refine hK.out _ _ ?_
      clear hK K
      try simp only [Act.put, List.setIfInBounds_toArray, List.set_cons_zero, List.set_cons_succ]
      refine wpHK_pure (i := 9) (oi := Oper.mk (some 29) _ _ _ _ _) (v := ?_) rfl (by kernel_rfl) (by kernel_rfl) (by kernel_rfl) (fun _ _ _ h => h) (Or.inl ⟨by rfl, ?_⟩) ?_
      rotate_left
      · (intro w' _; go_simp; try with_reducible rfl)
      try simp only [Act.put, List.setIfInBounds_toArray, List.set_cons_zero, List.set_cons_succ]
      refine wpHK_pure (i := 10) (oi := Oper.mk (some 39) _ _ _ _ _) (v := ?_) rfl (by kernel_rfl) (by kernel_rfl) (by kernel_rfl) (fun _ _ _ h => h) (Or.inl ⟨by rfl, ?_⟩) ?_
      rotate_left
      · (intro w' _; go_simp; try with_reducible rfl)
      try simp only [Act.put, List.setIfInBounds_toArray, List.set_cons_zero, List.set_cons_succ]
      refine wpHK_pure (i := 11) (oi := Oper.mk (some 40) _ _ _ _ _) (v := ?_) rfl (by kernel_rfl) (by kernel_rfl) (by kernel_rfl) (fun _ _ _ h => h) (Or.inl ⟨by rfl, ?_⟩) ?_
      rotate_left
      · (intro w' _; go_simp; try with_reducible rfl)
      try simp only [Act.put, List.setIfInBounds_toArray, List.set_cons_zero, List.set_cons_succ]
      refine wpHK_pure (i := 12) (oi := Oper.mk (some 9) _ _ _ _ _) (v := ?_) rfl (by kernel_rfl) (by kernel_rfl) (by kernel_rfl) (fun _ _ _ h => h) (Or.inl ⟨by rfl, ?_⟩) ?_
      rotate_left
      · (intro w' _; go_simp; try with_reducible rfl)
      try simp only [Act.put, List.setIfInBounds_toArray, List.set_cons_zero, List.set_cons_succ]
      refine wpHK_pure (i := 13) (oi := Oper.mk (some 10) _ _ _ _ _) (v := ?_) rfl (by kernel_rfl) (by kernel_rfl) (by kernel_rfl) (fun _ _ _ h => h) (Or.inl ⟨by rfl, ?_⟩) ?_
      rotate_left
      · (intro w' _; go_simp; try with_reducible rfl)
      try simp only [Act.put, List.setIfInBounds_toArray, List.set_cons_zero, List.set_cons_succ]
      refine wpHK_done (by kernel_rfl) ?_ _
      refine NoPanic.normal ?_
      have hb6 := hup6 w5.heap.size w5 Hba.out (by omega) (by omega) Hba.out.size
      generalize w5.heap.size + 1 = t5 at hr6 ⊢
      have hb6' := Lib.hid hb6
      clear hup6 hb6
      generalize hs5 : w5.heap.size = s5 at hq6 ⊢
      exact hcont _ _ _ ⟨hq6, hr6, hb6'.out⟩
    · go_simp
      refine hK.out _ _ (Hcell.out _ Hba1.out) (fun _ => ?_)
      clear hK K hHeld
      have hHeld := (Hcell.out _ Hba1.out)
      try simp only [Act.put, List.setIfInBounds_toArray, List.set_cons_zero, List.set_cons_succ]
      refine wpHK_one (j := 0) (o := Oper.mk (some 30) _ _ _ _ _) rfl (by kernel_rfl) (fun K hK => ?_)
      go_simp
      refine hK.out _ _ (Hcell.out _ Hba.out) (fun _ => ?_)
      clear hK K hHeld
      have hHeld := (Hcell.out _ Hba.out)
      try simp only [Act.put, List.setIfInBounds_toArray, List.set_cons_zero, List.set_cons_succ]
      refine wpHK_tail (j := 8) (o := Oper.mk (some 38) _ _ _ _ _) rfl (by kernel_rfl) (by decide) (fun K hK => ?_)
      go_simp
      refine HC2.out.mono ?_
      rintro e w6 ⟨rfl, hq6, hr6, hup6⟩
      try simp only []
      refine hK.out _ _ ?_
      clear hK K
      try simp only [Act.put, List.setIfInBounds_toArray, List.set_cons_zero, List.set_cons_succ]
      refine wpHK_pure (i := 9) (oi := Oper.mk (some 29) _ _ _ _ _) (v := ?_) rfl (by kernel_rfl) (by kernel_rfl) (by kernel_rfl) (fun _ _ _ h => h) (Or.inl ⟨by rfl, ?_⟩) ?_
      rotate_left
      · (intro w' _; go_simp; try with_reducible rfl)
      try simp only [Act.put, List.setIfInBounds_toArray, List.set_cons_zero, List.set_cons_succ]
      refine wpHK_pure (i := 10) (oi := Oper.mk (some 39) _ _ _ _ _) (v := ?_) rfl (by kernel_rfl) (by kernel_rfl) (by kernel_rfl) (fun _ _ _ h => h) (Or.inl ⟨by rfl, ?_⟩) ?_
      rotate_left
      · (intro w' _; go_simp; try with_reducible rfl)
      try simp only [Act.put, List.setIfInBounds_toArray, List.set_cons_zero, List.set_cons_succ]
      refine wpHK_pure (i := 11) (oi := Oper.mk (some 40) _ _ _ _ _) (v := ?_) rfl (by kernel_rfl) (by kernel_rfl) (by kernel_rfl) (fun _ _ _ h => h) (Or.inl ⟨by rfl, ?_⟩) ?_
      rotate_left
      · (intro w' _; go_simp; try with_reducible rfl)
      try simp only [Act.put, List.setIfInBounds_toArray, List.set_cons_zero, List.set_cons_succ]
      refine wpHK_pure (i := 12) (oi := Oper.mk (some 9) _ _ _ _ _) (v := ?_) rfl (by kernel_rfl) (by kernel_rfl) (by kernel_rfl) (fun _ _ _ h => h) (Or.inl ⟨by rfl, ?_⟩) ?_
      rotate_left
      · (intro w' _; go_simp; try with_reducible rfl)
      try simp only [Act.put, List.setIfInBounds_toArray, List.set_cons_zero, List.set_cons_succ]
      refine wpHK_pure (i := 13) (oi := Oper.mk (some 10) _ _ _ _ _) (v := ?_) rfl (by kernel_rfl) (by kernel_rfl) (by kernel_rfl) (fun _ _ _ h => h) (Or.inl ⟨by rfl, ?_⟩) ?_
      rotate_left
      · (intro w' _; go_simp; try with_reducible rfl)
      try simp only [Act.put, List.setIfInBounds_toArray, List.set_cons_zero, List.set_cons_succ]
      refine wpHK_done (by kernel_rfl) ?_ _
      refine NoPanic.normal ?_
      have hb6 := hup6 w5.heap.size w5 Hba.out (by omega) (by omega) Hba.out.size
      exact hcont _ _ _ ⟨hq6, hr6, hb6⟩
  · rintro g gr w6 ⟨hq6, hr6, hb6⟩
    have fq := fits_le (z := num (na, sa) / num (nb, sb)) (m := (num (na, sa)).natAbs) (Int.natAbs_ediv_le_natAbs _ _) (fits_num Hm.out.1.1)
    have fr := fits_le (z := num (na, sa) % num (nb, sb)) (m := (num (nb, sb)).natAbs) (rest_le Hm.out.2) (fits_num Hm.out.1.2)
    have HT := Lib.hid (told_any hq6 (Nat.le_trans (len_fits fq) (by omega)))
    have Fq := Lib.hid fq
    have Fr := Lib.hid fr
    obtain ⟨sq, bq, hqe⟩ : ∃ (sq : Bool) (bq : ByteArray), enc (num (na, sa) / num (nb, sb)) = .agg #[.bool sq, .string bq] := ⟨_, _, rfl⟩
    obtain ⟨sr, br, hre⟩ : ∃ (sr : Bool) (br : ByteArray), enc (num (na, sa) % num (nb, sb)) = .agg #[.bool sr, .string br] := ⟨_, _, rfl⟩
    have Hqr := Lib.hid (And.intro hqe hre)
    have Hr6 := Lib.hid hr6
    have Hb6 := Lib.hid hb6
    clear hq6 fq fr hqe hre hr6 hb6
    have m3 := H5.out.2.1.below Hb6.out (by have := Hsz.out; omega)
    have m4 := H5.out.2.2.below Hb6.out (by have := Hsz.out; omega)
    have Hsz6 := Lib.hid (Nat.le_trans Hsz.out Hb6.out.size)
    have Hm6 := Lib.hid (And.intro m3 m4)
    have hb06 := H5.out.1.trans (Hb6.out.mono (by have := Hsz.out; omega))
    have Hb06 := Lib.hid hb06
    clear m3 m4 hb06
    go_wp2_with fail
    refine HT.out.mono ?_
    rintro e w7 ⟨t1, _, hb7⟩
    have t1 := t1 Fq.out
    rw [Hqr.out.1] at t1
    subst t1
    have m3 := Hm6.out.1.below hb7 (by have := Hsz6.out; omega)
    have m4 := Hm6.out.2.below hb7 (by have := Hsz6.out; omega)
    have x0 : w7.cell? ⟨w.heap.size + 1 + 1, 0, none⟩ = some (.bool false) := m3.cell 0
    have x1 : w7.cell? ⟨w.heap.size + 1 + 1, 1, none⟩ = some (.string ⟨#[]⟩) := m3.cell 1
    have x2 := m3.frozen 0
    have x3 := m3.frozen 1
    have hr7 := Hr6.out.below hb7
    have hgr := only_setCell (p := ⟨w.heap.size + 1 + 1, 1, none⟩) (only_setCell (p := ⟨w.heap.size + 1 + 1, 0, none⟩) (World.grownBy.refl w7 (some (w.heap.size + 1 + 1))) (.inl rfl) (.bool sq)) (.inl rfl) (.string bq)
    have hr8 := hr7.other hgr (fun r hr => by injection hr with hr; subst hr; exact ⟨_, _, _, m3, by decide, by decide⟩)
    have HR := Lib.hid (told_any hr8 (Nat.le_trans (len_fits Fr.out) (by omega)))
    have m3' := put_pair (.bool sq) (.string bq) m3
    have m4' := far_pair (.bool sq) (.string bq) m4 (show w.heap.size + 1 + 1 + 1 ≠ w.heap.size + 1 + 1 by omega)
    have hb08 := ((Hb06.out.trans (hb7.mono (by have := Hsz6.out; omega))).setCell (p := ⟨w.heap.size + 1 + 1, 0, none⟩) (by show w.heap.size ≤ w.heap.size + 1 + 1; omega) (.bool sq)).setCell (p := ⟨w.heap.size + 1 + 1, 1, none⟩) (by show w.heap.size ≤ w.heap.size + 1 + 1; omega) (.string bq)
    have Hm8 := Lib.hid (And.intro m3' (And.intro m4' (And.intro hb08 (show w.heap.size + 1 + 1 + 1 + 1 ≤ w7.heap.size by have := Hsz6.out; have := hb7.size; omega))))
    clear hb7 m3 m4 hr7 hgr hr8 m3' m4' hb08
    go_wp2_with fail
    refine HR.out.mono ?_
    rintro e w9 ⟨t2, _, hb9⟩
    have t2 := t2 Fr.out
    rw [Hqr.out.2] at t2
    subst t2
    have hs9 : w.heap.size + 1 + 1 + 1 + 1 ≤ ((w7.setCell ⟨w.heap.size + 1 + 1, 0, none⟩ (.bool sq)).setCell ⟨w.heap.size + 1 + 1, 1, none⟩ (.string bq)).heap.size := by rw [World.size_setCell, World.size_setCell]; exact Hm8.out.2.2.2
    have n3 := Hm8.out.1.below hb9 (by omega)
    have n4 := Hm8.out.2.1.below hb9 (by omega)
    have hb09 := Hm8.out.2.2.1.trans (hb9.mono (by omega))
    have y0 : w9.cell? ⟨w.heap.size + 1 + 1, 0, none⟩ = some (.bool sq) := n3.cell 0
    have y1 : w9.cell? ⟨w.heap.size + 1 + 1, 1, none⟩ = some (.string bq) := n3.cell 1
    have y2 := n3.frozen 0
    have y3 := n3.frozen 1
    have z0 : w9.cell? ⟨w.heap.size + 1 + 1 + 1, 0, none⟩ = some (.bool false) := n4.cell 0
    have z1 : w9.cell? ⟨w.heap.size + 1 + 1 + 1, 1, none⟩ = some (.string ⟨#[]⟩) := n4.cell 1
    have z2 := n4.frozen 0
    have z3 := n4.frozen 1
    have Hn := Lib.hid (And.intro (far_pair (.bool sr) (.string br) n3 (show w.heap.size + 1 + 1 ≠ w.heap.size + 1 + 1 + 1 by omega)) (And.intro (put_pair (.bool sr) (.string br) n4) ((hb09.setCell (p := ⟨w.heap.size + 1 + 1 + 1, 0, none⟩) (by show w.heap.size ≤ w.heap.size + 1 + 1 + 1; omega) (.bool sr)).setCell (p := ⟨w.heap.size + 1 + 1 + 1, 1, none⟩) (by show w.heap.size ≤ w.heap.size + 1 + 1 + 1; omega) (.string br))))
    clear hb9 n3 n4 hb09 hs9
    go_wp2_with fail
    generalize hW9 : (w9.setCell ⟨w.heap.size + 1 + 1 + 1, 0, none⟩ (.bool sr)).setCell ⟨w.heap.size + 1 + 1 + 1, 1, none⟩ (.string br) = W9 at Hn ⊢
    clear hW9 y0 y1 y2 y3 z0 z1 z2 z3
    have d0 : W9.cell? ⟨w.heap.size + 1 + 1, 0, none⟩ = some (.bool sq) := Hn.out.1.cell 0
    have d1 : W9.cell? ⟨w.heap.size + 1 + 1, 1, none⟩ = some (.string bq) := Hn.out.1.cell 1
    have e0 : W9.cell? ⟨w.heap.size + 1 + 1 + 1, 0, none⟩ = some (.bool sr) := Hn.out.2.1.cell 0
    have e1 : W9.cell? ⟨w.heap.size + 1 + 1 + 1, 1, none⟩ = some (.string br) := Hn.out.2.1.cell 1
    have d2 := Hn.out.1.frozen 0
    have d3 := Hn.out.1.frozen 1
    have e2 := Hn.out.2.1.frozen 0
    have e3 := Hn.out.2.1.frozen 1
    refine wp_region_noPanic ?_
    refine wp_region_HK (fun w' => (w'.cell? ⟨w.heap.size + 1 + 1, 0, none⟩ = some (.bool sq) ∧ w'.cell? ⟨w.heap.size + 1 + 1, 1, none⟩ = some (.string bq)) ∧ w'.cell? ⟨w.heap.size + 1 + 1 + 1, 0, none⟩ = some (.bool sr) ∧ w'.cell? ⟨w.heap.size + 1 + 1 + 1, 1, none⟩ = some (.string br)) 3 (by kernel_rfl) ⟨⟨d0, d1⟩, e0, e1⟩ (fun hHeld => ?_)
    refine wpHK_take (i := 0) (oi := Oper.mk (some 51) _ _ _ _ _) (v := ?_) rfl (by kernel_rfl) (by kernel_rfl) (by kernel_rfl) (by kernel_rfl) (fun _ _ _ h => h) (Or.inl ⟨by rfl, ?_⟩) (by assumption) ?_
    rotate_left
    · (intro w' hSw; (try dsimp only at hSw); (obtain ⟨⟨s1, s2⟩, s3, s4⟩ := hSw); go_simp; try with_reducible rfl)
    try simp only [Act.put, List.setIfInBounds_toArray, List.set_cons_zero, List.set_cons_succ]
    refine wpHK_take (i := 1) (oi := Oper.mk (some 52) _ _ _ _ _) (v := ?_) rfl (by kernel_rfl) (by kernel_rfl) (by kernel_rfl) (by kernel_rfl) (fun _ _ _ h => h) (Or.inl ⟨by rfl, ?_⟩) (by assumption) ?_
    rotate_left
    · (intro w' hSw; (try dsimp only at hSw); (obtain ⟨⟨s1, s2⟩, s3, s4⟩ := hSw); go_simp; try with_reducible rfl)
    try simp only [Act.put, List.setIfInBounds_toArray, List.set_cons_zero, List.set_cons_succ]
    refine wpHK_one (j := 2) (o := Oper.mk (none) _ _ _ _ _) rfl (by kernel_rfl) (fun K hK => ?_)
    go_simp
    refine hK.out _ _ (And.intro (same_pair Hn.out.1.drew).two (far_pair (.bool sq) (.string bq) Hn.out.2.1.drew (show w.heap.size + 1 + 1 + 1 ≠ w.heap.size + 1 + 1 by omega)).two) (fun _ => ?_)
    clear hK K hHeld
    have hHeld := (And.intro (same_pair Hn.out.1.drew).two (far_pair (.bool sq) (.string bq) Hn.out.2.1.drew (show w.heap.size + 1 + 1 + 1 ≠ w.heap.size + 1 + 1 by omega)).two)
    try simp only [Act.put, List.setIfInBounds_toArray, List.set_cons_zero, List.set_cons_succ]
    refine wpHK_tail (j := 3) (o := Oper.mk (none) _ _ _ _ _) rfl (by kernel_rfl) (by decide) (fun K hK => ?_)
    go_simp
    refine hK.out _ _ ?_
    clear hK K
    try simp only [Act.put, List.setIfInBounds_toArray, List.set_cons_zero, List.set_cons_succ]
    refine wpHK_pure (i := 4) (oi := Oper.mk (some 6) _ _ _ _ _) (v := ?_) rfl (by kernel_rfl) (by kernel_rfl) (by kernel_rfl) (fun _ _ _ h => h) (Or.inl ⟨by rfl, ?_⟩) ?_
    rotate_left
    · (intro w' _; go_simp; try with_reducible rfl)
    try simp only [Act.put, List.setIfInBounds_toArray, List.set_cons_zero, List.set_cons_succ]
    refine wpHK_done (by kernel_rfl) ?_ _
    refine NoPanic.normal ?_
    go_wp2_with fail
    refine bodyPost_ret (v := .tuple #[.agg #[.bool sq, .string bq], .agg #[.bool sr, .string br], .int .i64 0]) (by simp [results, Try.results21, go_sem, d0, d1, e0, e1]) rfl ?_
    exact ⟨fun h => absurd Hm.out.1 h, fun _ h => absurd h Hm.out.2, fun _ _ => by rw [Hqr.out.1, Hqr.out.2], (((((Hn.out.2.2.drew).setCell (by show w.heap.size ≤ w.heap.size + 1 + 1; omega) _).setCell (by show w.heap.size ≤ w.heap.size + 1 + 1; omega) _).setCell (by show w.heap.size ≤ w.heap.size + 1 + 1 + 1; omega) _).setCell (by show w.heap.size ≤ w.heap.size + 1 + 1 + 1; omega) _)⟩
theorem wdiv_any {w : World} {na nb : Bool} {sa sb : ByteArray} :
    Calls Try.prog 21 #[.agg #[.bool na, .string sa], .agg #[.bool nb, .string sb]] w (Quots w (na, sa) (nb, sb)) := by
  by_cases hm : May2 (na, sa) (nb, sb)
  · by_cases h0 : num (nb, sb) = 0
    · exact wdiv_zero hm h0
    · exact wdiv_main hm h0
  · exact wdiv_bad hm
end Go.Proofs.Ytpnginnjbdedbaa

/- whole.Root (printed by gen_root.py). -/
namespace Go.Proofs.Ytpnginnjbdedbaa
open Go.RowKit
open Wh
set_option linter.unusedSimpArgs false

/-- root and rest -/
def Rooted (w : World) (a : Bool × ByteArray) (e : Ending) (w' : World) : Prop :=
  (¬ MayL a.1 a.2.data.toList → e = .returned (.tuple #[none_, none_, .int .i64 2])) ∧ (MayL a.1 a.2.data.toList → a.1 = true → e = .returned (.tuple #[none_, none_, .int .i64 7])) ∧
  (MayL a.1 a.2.data.toList → a.1 = false → ∃ r : Nat, r * r ≤ bval a.2.data.toList ∧ bval a.2.data.toList < (r + 1) * (r + 1) ∧ e = .returned (.tuple #[enc (r : Int), enc ((bval a.2.data.toList : Int) - (r : Int) * (r : Int)), .int .i64 0])) ∧ Below w.heap.size w w'
theorem root_le {r m : Nat} (h : r * r ≤ m) : r ≤ m := by
  rcases Nat.eq_zero_or_pos r with h0 | h0
  · omega
  · exact Nat.le_trans (Nat.le_mul_of_pos_left r h0) h
theorem rest_abs {r m : Nat} (h : r * r ≤ m) : ((m : Int) - (r : Int) * (r : Int)).natAbs ≤ m := by
  rw [show (r : Int) * (r : Int) = ((r * r : Nat) : Int) from (Int.natCast_mul r r).symm]
  generalize r * r = q at *
  omega
/-- where the square lies ready to be taken off -/
def Rdy (W V : World) (t u gx : Nat) (x q : Int) : Prop := IntS V t ∧ IntB V u q ∧ IntB V gx x ∧ Below W.heap.size W V ∧ W.heap.size ≤ t
theorem zslot (V : World) : IntS (V.alloc (.cells #[.bool false, .slice none 0 0] 82)) V.heap.size := (IntB.zero V).slot
/-- the square, both places made ahead: into u -/
theorem mul_rdy {W V : World} {t u gr gx : Nat} {r x : Int} (hV : Below W.heap.size W V) (ht : IntS V t) (hu : IntS V u) (htu : t ≠ u) (htl : W.heap.size ≤ t) (hul : W.heap.size ≤ u) (hr : IntB W gr r) (hx : IntB W gx x) (hl : (wds r.natAbs).length ≤ 5000) :
    Calls Try.prog 82 #[.pointer (some ⟨u, 0, none⟩), .pointer (some ⟨gr, 0, none⟩), .pointer (some ⟨gr, 0, none⟩)] V (fun e w' => e = .returned (.pointer (some ⟨u, 0, none⟩)) ∧ Rdy W w' t u gx x (r * r)) := by
  refine (mul_any hu (hr.below hV) (hr.below hV) (by omega) (by omega)).mono ?_
  rintro e w' ⟨he, hi, hg⟩
  have h1 := hx.lt
  exact ⟨he, ht.off hg htu, hi, (hx.below hV).off hu hg (by omega), up_row hV hg hV.size hul, htl⟩
/-- the square, its own place alone made ahead -/
theorem mul_then {W V : World} {u gr gx : Nat} {r x : Int} (hV : Below W.heap.size W V) (hu : IntS V u) (hul : W.heap.size ≤ u) (hr : IntB W gr r) (hx : IntB W gx x) (hl : (wds r.natAbs).length ≤ 5000) :
    Calls Try.prog 82 #[.pointer (some ⟨u, 0, none⟩), .pointer (some ⟨gr, 0, none⟩), .pointer (some ⟨gr, 0, none⟩)] V (fun e w' => e = .returned (.pointer (some ⟨u, 0, none⟩)) ∧ Below W.heap.size W w' ∧ Rdy W (w'.alloc (.cells #[.bool false, .slice none 0 0] 82)) w'.heap.size u gx x (r * r)) := by
  refine (mul_any hu (hr.below hV) (hr.below hV) (by omega) (by omega)).mono ?_
  rintro e w' ⟨he, hi, hg⟩
  have h1 := hx.lt
  have hb := up_row hV hg hV.size hul
  have hn := new_below w' (.cells #[.bool false, .slice none 0 0] 82)
  exact ⟨he, hb, zslot w', hi.below hn, ((hx.below hV).off hu hg (by omega)).below hn, hb.trans (hn.mono hb.size), hb.size⟩
theorem sub_rdy {W V : World} {t u gx : Nat} {x q : Int} (h : Rdy W V t u gx x q) (h1 : (wds x.natAbs).length ≤ 5000) (h2 : (wds q.natAbs).length ≤ 5000) :
    Calls Try.prog 81 #[.pointer (some ⟨t, 0, none⟩), .pointer (some ⟨gx, 0, none⟩), .pointer (some ⟨u, 0, none⟩)] V (fun e w' => e = .returned (.pointer (some ⟨t, 0, none⟩)) ∧ IntB w' t (x - q) ∧ Below W.heap.size W w') := by
  obtain ⟨a1, a2, a3, a4, a5⟩ := h
  refine (sub2_any a1 a3 a2 (by omega) (by omega)).mono ?_
  rintro e w' ⟨he, hi, hg⟩
  exact ⟨he, hi, up_row a4 hg a4.size a5⟩
set_option maxRecDepth 100000 in
set_option maxHeartbeats 4000000 in
theorem wroot_bad {w : World} {na : Bool} {sa : ByteArray} (hm : ¬ MayL na sa.data.toList) :
    Calls Try.prog 53 #[.agg #[.bool na, .string sa]] w (Rooted w (na, sa)) := by
  have hb1 := new_below w (.cells #[.bool na, .string sa] 26)
  have hb2 := hb1.alloc (by simp) (.cells #[.bool false, .string ⟨#[]⟩] 26)
  have hb3 := hb2.alloc (by simp <;> omega) (.cells #[.bool false, .string ⟨#[]⟩] 26)
  have k1 := ((Blk.new w 26 #[.bool na, .string sa]).alloc (.cells #[.bool false, .string ⟨#[]⟩] 26)).alloc (.cells #[.bool false, .string ⟨#[]⟩] 26)
  have k2 := (Blk.new (w.alloc (.cells #[.bool na, .string sa] 26)) 26 #[.bool false, .string ⟨#[]⟩]).alloc (.cells #[.bool false, .string ⟨#[]⟩] 26)
  have k3 := Blk.new ((w.alloc (.cells #[.bool na, .string sa] 26)).alloc (.cells #[.bool false, .string ⟨#[]⟩] 26)) 26 #[.bool false, .string ⟨#[]⟩]
  have hO := of_one (w := ((w.alloc (.cells #[.bool na, .string sa] 26)).alloc (.cells #[.bool false, .string ⟨#[]⟩] 26)).alloc (.cells #[.bool false, .string ⟨#[]⟩] 26)) (na := na) (sa := sa)
  rw [World.size_alloc, World.size_alloc, World.size_alloc] at hO
  rw [World.size_alloc] at k2
  rw [World.size_alloc, World.size_alloc] at k3
  have HO := Lib.hid hO
  have Hb := Lib.hid (And.intro hb3 (And.intro k1 (And.intro k2 k3)))
  have Hm := Lib.hid hm
  clear hm
  clear hO hb1 hb2 hb3 k1 k2 k3
  go_enter Try.func53, Try.ntmps53
  go_wp2_with fail
  refine HO.out.mono ?_
  rintro e w5 ⟨h1, h2, hb5⟩
  have hb05 := Hb.out.1.trans (hb5.mono (by simp <;> omega))
  have m1 := Hb.out.2.1.below hb5 (by simp <;> omega)
  have m2 := Hb.out.2.2.1.below hb5 (by simp <;> omega)
  have m3 := Hb.out.2.2.2.below hb5 (by simp <;> omega)
  have c0 : w5.cell? ⟨w.heap.size, 0, none⟩ = some (.bool na) := m1.cell 0
  have d0 : w5.cell? ⟨w.heap.size + 1, 0, none⟩ = some (.bool false) := m2.cell 0
  have d1 : w5.cell? ⟨w.heap.size + 1, 1, none⟩ = some (.string ⟨#[]⟩) := m2.cell 1
  have e0 : w5.cell? ⟨w.heap.size + 1 + 1, 0, none⟩ = some (.bool false) := m3.cell 0
  have e1 : w5.cell? ⟨w.heap.size + 1 + 1, 1, none⟩ = some (.string ⟨#[]⟩) := m3.cell 1
  have d2 := m2.frozen 0
  have d3 := m2.frozen 1
  have e2 := m3.frozen 0
  have e3 := m3.frozen 1
  have H5 := Lib.hid (And.intro hb05 (And.intro m2 m3))
  have Hsz := Lib.hid (show w.heap.size + 1 + 1 + 1 ≤ w5.heap.size by have := hb5.size; simp at this; omega)
  clear hb5 hb05 m1 m2 m3
  obtain ⟨A5, n5, c5, rfl⟩ := h2 Hm.out
  clear h1 h2
  go_wp2_with fail
  refine wp_region_noPanic ?_
  refine wp_region_HK (fun w' => (w'.cell? ⟨w.heap.size + 1, 0, none⟩ = some (.bool false) ∧ w'.cell? ⟨w.heap.size + 1, 1, none⟩ = some (.string ⟨#[]⟩)) ∧ w'.cell? ⟨w.heap.size + 1 + 1, 0, none⟩ = some (.bool false) ∧ w'.cell? ⟨w.heap.size + 1 + 1, 1, none⟩ = some (.string ⟨#[]⟩)) 3 (by kernel_rfl) ⟨⟨d0, d1⟩, e0, e1⟩ (fun hHeld => ?_)
  refine wpHK_take (i := 0) (oi := Oper.mk (some 17) _ _ _ _ _) (v := ?_) rfl (by kernel_rfl) (by kernel_rfl) (by kernel_rfl) (by kernel_rfl) (fun _ _ _ h => h) (Or.inl ⟨by rfl, ?_⟩) (by assumption) ?_
  rotate_left
  · (intro w' hSw; (try dsimp only at hSw); (obtain ⟨⟨s1, s2⟩, s3, s4⟩ := hSw); go_simp; try with_reducible rfl)
  try simp only [Act.put, List.setIfInBounds_toArray, List.set_cons_zero, List.set_cons_succ]
  refine wpHK_take (i := 1) (oi := Oper.mk (some 18) _ _ _ _ _) (v := ?_) rfl (by kernel_rfl) (by kernel_rfl) (by kernel_rfl) (by kernel_rfl) (fun _ _ _ h => h) (Or.inl ⟨by rfl, ?_⟩) (by assumption) ?_
  rotate_left
  · (intro w' hSw; (try dsimp only at hSw); (obtain ⟨⟨s1, s2⟩, s3, s4⟩ := hSw); go_simp; try with_reducible rfl)
  try simp only [Act.put, List.setIfInBounds_toArray, List.set_cons_zero, List.set_cons_succ]
  refine wpHK_one (j := 2) (o := Oper.mk (none) _ _ _ _ _) rfl (by kernel_rfl) (fun K hK => ?_)
  go_simp
  refine hK.out _ _ (And.intro (same_pair H5.out.2.1).two (far_pair (.bool false) (.string ⟨#[]⟩) H5.out.2.2 (show w.heap.size + 1 + 1 ≠ w.heap.size + 1 by omega)).two) (fun _ => ?_)
  clear hK K hHeld
  have hHeld := (And.intro (same_pair H5.out.2.1).two (far_pair (.bool false) (.string ⟨#[]⟩) H5.out.2.2 (show w.heap.size + 1 + 1 ≠ w.heap.size + 1 by omega)).two)
  try simp only [Act.put, List.setIfInBounds_toArray, List.set_cons_zero, List.set_cons_succ]
  refine wpHK_tail (j := 3) (o := Oper.mk (none) _ _ _ _ _) rfl (by kernel_rfl) (by decide) (fun K hK => ?_)
  go_simp
  refine hK.out _ _ ?_
  clear hK K
  try simp only [Act.put, List.setIfInBounds_toArray, List.set_cons_zero, List.set_cons_succ]
  refine wpHK_pure (i := 4) (oi := Oper.mk (some 4) _ _ _ _ _) (v := ?_) rfl (by kernel_rfl) (by kernel_rfl) (by kernel_rfl) (fun _ _ _ h => h) (Or.inl ⟨by rfl, ?_⟩) ?_
  rotate_left
  · (intro w' _; go_simp; try with_reducible rfl)
  try simp only [Act.put, List.setIfInBounds_toArray, List.set_cons_zero, List.set_cons_succ]
  refine wpHK_done (by kernel_rfl) ?_ _
  refine NoPanic.normal ?_
  go_wp2_with fail
  refine bodyPost_ret (v := .tuple #[.agg #[.bool false, .string ⟨#[]⟩], .agg #[.bool false, .string ⟨#[]⟩], .int .i64 2]) (by simp [results, Try.results53, go_sem, d0, d1, e0, e1]) rfl ?_
  exact ⟨fun _ => rfl, fun h => absurd h Hm.out, fun h => absurd h Hm.out, (((((H5.out.1.drew).setCell (by show w.heap.size ≤ w.heap.size + 1; omega) _).setCell (by show w.heap.size ≤ w.heap.size + 1; omega) _).setCell (by show w.heap.size ≤ w.heap.size + 1 + 1; omega) _).setCell (by show w.heap.size ≤ w.heap.size + 1 + 1; omega) _)⟩
set_option maxRecDepth 100000 in
set_option maxHeartbeats 4000000 in
theorem wroot_neg {w : World} {na : Bool} {sa : ByteArray} (hm : MayL na sa.data.toList) (hn : na = true) :
    Calls Try.prog 53 #[.agg #[.bool na, .string sa]] w (Rooted w (na, sa)) := by
  have hb1 := new_below w (.cells #[.bool na, .string sa] 26)
  have hb2 := hb1.alloc (by simp) (.cells #[.bool false, .string ⟨#[]⟩] 26)
  have hb3 := hb2.alloc (by simp <;> omega) (.cells #[.bool false, .string ⟨#[]⟩] 26)
  have k1 := ((Blk.new w 26 #[.bool na, .string sa]).alloc (.cells #[.bool false, .string ⟨#[]⟩] 26)).alloc (.cells #[.bool false, .string ⟨#[]⟩] 26)
  have k2 := (Blk.new (w.alloc (.cells #[.bool na, .string sa] 26)) 26 #[.bool false, .string ⟨#[]⟩]).alloc (.cells #[.bool false, .string ⟨#[]⟩] 26)
  have k3 := Blk.new ((w.alloc (.cells #[.bool na, .string sa] 26)).alloc (.cells #[.bool false, .string ⟨#[]⟩] 26)) 26 #[.bool false, .string ⟨#[]⟩]
  have hO := of_one (w := ((w.alloc (.cells #[.bool na, .string sa] 26)).alloc (.cells #[.bool false, .string ⟨#[]⟩] 26)).alloc (.cells #[.bool false, .string ⟨#[]⟩] 26)) (na := na) (sa := sa)
  rw [World.size_alloc, World.size_alloc, World.size_alloc] at hO
  rw [World.size_alloc] at k2
  rw [World.size_alloc, World.size_alloc] at k3
  have HO := Lib.hid hO
  have Hb := Lib.hid (And.intro hb3 (And.intro k1 (And.intro k2 k3)))
  have Hm := Lib.hid hm
  subst hn
  clear hm
  clear hO hb1 hb2 hb3 k1 k2 k3
  go_enter Try.func53, Try.ntmps53
  go_wp2_with fail
  refine HO.out.mono ?_
  rintro e w5 ⟨h1, h2, hb5⟩
  have hb05 := Hb.out.1.trans (hb5.mono (by simp <;> omega))
  have m1 := Hb.out.2.1.below hb5 (by simp <;> omega)
  have m2 := Hb.out.2.2.1.below hb5 (by simp <;> omega)
  have m3 := Hb.out.2.2.2.below hb5 (by simp <;> omega)
  have c0 : w5.cell? ⟨w.heap.size, 0, none⟩ = some (.bool true) := m1.cell 0
  have d0 : w5.cell? ⟨w.heap.size + 1, 0, none⟩ = some (.bool false) := m2.cell 0
  have d1 : w5.cell? ⟨w.heap.size + 1, 1, none⟩ = some (.string ⟨#[]⟩) := m2.cell 1
  have e0 : w5.cell? ⟨w.heap.size + 1 + 1, 0, none⟩ = some (.bool false) := m3.cell 0
  have e1 : w5.cell? ⟨w.heap.size + 1 + 1, 1, none⟩ = some (.string ⟨#[]⟩) := m3.cell 1
  have d2 := m2.frozen 0
  have d3 := m2.frozen 1
  have e2 := m3.frozen 0
  have e3 := m3.frozen 1
  have H5 := Lib.hid (And.intro hb05 (And.intro m2 m3))
  have Hsz := Lib.hid (show w.heap.size + 1 + 1 + 1 ≤ w5.heap.size by have := hb5.size; simp at this; omega)
  clear hb5 hb05 m1 m2 m3
  obtain ⟨ad, c, g1, rfl, hadb, p0, hx, hg1⟩ := h1 Hm.out
  clear h1 h2 hx hg1
  go_wp2_with fail
  refine wp_region_noPanic ?_
  refine wp_region_HK (fun w' => (w'.cell? ⟨w.heap.size + 1, 0, none⟩ = some (.bool false) ∧ w'.cell? ⟨w.heap.size + 1, 1, none⟩ = some (.string ⟨#[]⟩)) ∧ w'.cell? ⟨w.heap.size + 1 + 1, 0, none⟩ = some (.bool false) ∧ w'.cell? ⟨w.heap.size + 1 + 1, 1, none⟩ = some (.string ⟨#[]⟩)) 3 (by kernel_rfl) ⟨⟨d0, d1⟩, e0, e1⟩ (fun hHeld => ?_)
  refine wpHK_take (i := 0) (oi := Oper.mk (some 22) _ _ _ _ _) (v := ?_) rfl (by kernel_rfl) (by kernel_rfl) (by kernel_rfl) (by kernel_rfl) (fun _ _ _ h => h) (Or.inl ⟨by rfl, ?_⟩) (by assumption) ?_
  rotate_left
  · (intro w' hSw; (try dsimp only at hSw); (obtain ⟨⟨s1, s2⟩, s3, s4⟩ := hSw); go_simp; try with_reducible rfl)
  try simp only [Act.put, List.setIfInBounds_toArray, List.set_cons_zero, List.set_cons_succ]
  refine wpHK_take (i := 1) (oi := Oper.mk (some 23) _ _ _ _ _) (v := ?_) rfl (by kernel_rfl) (by kernel_rfl) (by kernel_rfl) (by kernel_rfl) (fun _ _ _ h => h) (Or.inl ⟨by rfl, ?_⟩) (by assumption) ?_
  rotate_left
  · (intro w' hSw; (try dsimp only at hSw); (obtain ⟨⟨s1, s2⟩, s3, s4⟩ := hSw); go_simp; try with_reducible rfl)
  try simp only [Act.put, List.setIfInBounds_toArray, List.set_cons_zero, List.set_cons_succ]
  refine wpHK_one (j := 2) (o := Oper.mk (none) _ _ _ _ _) rfl (by kernel_rfl) (fun K hK => ?_)
  go_simp
  refine hK.out _ _ (And.intro (same_pair H5.out.2.1).two (far_pair (.bool false) (.string ⟨#[]⟩) H5.out.2.2 (show w.heap.size + 1 + 1 ≠ w.heap.size + 1 by omega)).two) (fun _ => ?_)
  clear hK K hHeld
  have hHeld := (And.intro (same_pair H5.out.2.1).two (far_pair (.bool false) (.string ⟨#[]⟩) H5.out.2.2 (show w.heap.size + 1 + 1 ≠ w.heap.size + 1 by omega)).two)
  try simp only [Act.put, List.setIfInBounds_toArray, List.set_cons_zero, List.set_cons_succ]
  refine wpHK_tail (j := 3) (o := Oper.mk (none) _ _ _ _ _) rfl (by kernel_rfl) (by decide) (fun K hK => ?_)
  go_simp
  refine hK.out _ _ ?_
  clear hK K
  try simp only [Act.put, List.setIfInBounds_toArray, List.set_cons_zero, List.set_cons_succ]
  refine wpHK_pure (i := 4) (oi := Oper.mk (some 4) _ _ _ _ _) (v := ?_) rfl (by kernel_rfl) (by kernel_rfl) (by kernel_rfl) (fun _ _ _ h => h) (Or.inl ⟨by rfl, ?_⟩) ?_
  rotate_left
  · (intro w' _; go_simp; try with_reducible rfl)
  try simp only [Act.put, List.setIfInBounds_toArray, List.set_cons_zero, List.set_cons_succ]
  refine wpHK_done (by kernel_rfl) ?_ _
  refine NoPanic.normal ?_
  go_wp2_with fail
  refine bodyPost_ret (v := .tuple #[.agg #[.bool false, .string ⟨#[]⟩], .agg #[.bool false, .string ⟨#[]⟩], .int .i64 7]) (by simp [results, Try.results53, go_sem, d0, d1, e0, e1]) rfl ?_
  exact ⟨fun h => absurd Hm.out h, fun _ _ => rfl, fun _ h => absurd (show true = false from h) (by decide), (((((H5.out.1.drew).setCell (by show w.heap.size ≤ w.heap.size + 1; omega) _).setCell (by show w.heap.size ≤ w.heap.size + 1; omega) _).setCell (by show w.heap.size ≤ w.heap.size + 1 + 1; omega) _).setCell (by show w.heap.size ≤ w.heap.size + 1 + 1; omega) _)⟩
set_option maxRecDepth 100000 in
set_option maxHeartbeats 4000000 in
theorem wroot_main {w : World} {na : Bool} {sa : ByteArray} (hm : MayL na sa.data.toList) (hn : na = false) :
    Calls Try.prog 53 #[.agg #[.bool na, .string sa]] w (Rooted w (na, sa)) := by
  have hb1 := new_below w (.cells #[.bool na, .string sa] 26)
  have hb2 := hb1.alloc (by simp) (.cells #[.bool false, .string ⟨#[]⟩] 26)
  have hb3 := hb2.alloc (by simp <;> omega) (.cells #[.bool false, .string ⟨#[]⟩] 26)
  have k1 := ((Blk.new w 26 #[.bool na, .string sa]).alloc (.cells #[.bool false, .string ⟨#[]⟩] 26)).alloc (.cells #[.bool false, .string ⟨#[]⟩] 26)
  have k2 := (Blk.new (w.alloc (.cells #[.bool na, .string sa] 26)) 26 #[.bool false, .string ⟨#[]⟩]).alloc (.cells #[.bool false, .string ⟨#[]⟩] 26)
  have k3 := Blk.new ((w.alloc (.cells #[.bool na, .string sa] 26)).alloc (.cells #[.bool false, .string ⟨#[]⟩] 26)) 26 #[.bool false, .string ⟨#[]⟩]
  have hO := of_one (w := ((w.alloc (.cells #[.bool na, .string sa] 26)).alloc (.cells #[.bool false, .string ⟨#[]⟩] 26)).alloc (.cells #[.bool false, .string ⟨#[]⟩] 26)) (na := na) (sa := sa)
  rw [World.size_alloc, World.size_alloc, World.size_alloc] at hO
  rw [World.size_alloc] at k2
  rw [World.size_alloc, World.size_alloc] at k3
  have HO := Lib.hid hO
  have Hb := Lib.hid (And.intro hb3 (And.intro k1 (And.intro k2 k3)))
  have Hm := Lib.hid hm
  subst hn
  clear hm
  clear hO hb1 hb2 hb3 k1 k2 k3
  go_enter Try.func53, Try.ntmps53
  go_wp2_with fail
  refine HO.out.mono ?_
  rintro e w5 ⟨h1, h2, hb5⟩
  have hb05 := Hb.out.1.trans (hb5.mono (by simp <;> omega))
  have m1 := Hb.out.2.1.below hb5 (by simp <;> omega)
  have m2 := Hb.out.2.2.1.below hb5 (by simp <;> omega)
  have m3 := Hb.out.2.2.2.below hb5 (by simp <;> omega)
  have c0 : w5.cell? ⟨w.heap.size, 0, none⟩ = some (.bool false) := m1.cell 0
  have d0 : w5.cell? ⟨w.heap.size + 1, 0, none⟩ = some (.bool false) := m2.cell 0
  have d1 : w5.cell? ⟨w.heap.size + 1, 1, none⟩ = some (.string ⟨#[]⟩) := m2.cell 1
  have e0 : w5.cell? ⟨w.heap.size + 1 + 1, 0, none⟩ = some (.bool false) := m3.cell 0
  have e1 : w5.cell? ⟨w.heap.size + 1 + 1, 1, none⟩ = some (.string ⟨#[]⟩) := m3.cell 1
  have d2 := m2.frozen 0
  have d3 := m2.frozen 1
  have e2 := m3.frozen 0
  have e3 := m3.frozen 1
  have H5 := Lib.hid (And.intro hb05 (And.intro m2 m3))
  have Hsz := Lib.hid (show w.heap.size + 1 + 1 + 1 ≤ w5.heap.size by have := hb5.size; simp at this; omega)
  clear hb5 hb05 m1 m2 m3
  obtain ⟨ad, c, g1, rfl, hadb, p0, hx, hg1⟩ := h1 Hm.out
  clear h1 h2
  obtain ⟨m, hmm⟩ : ∃ m : Nat, m = bval sa.data.toList := ⟨_, rfl⟩
  have hnum : num (false, sa) = (m : Int) := by rw [hmm]; rfl
  rw [hnum] at hx
  have hlen : (wds m).length ≤ 5000 := by rw [hmm]; exact len_mag Hm.out.1
  have hfit : bl m ≤ 131072 := by rw [hmm]; exact fits_len (by have := Hm.out.1; omega)
  have hba : Below w5.heap.size w5 (w5.alloc (.cells #[.bool false, .slice none 0 0] 82)) := (Below.refl _ _).alloc (Nat.le_refl _) _
  have HC := Lib.hid (sqrt_any (g := w5.heap.size) (IntB.zero w5).slot (hx.below hba) (by omega))
  have Hx := Lib.hid (And.intro hx (And.intro hmm (And.intro hlen hfit)))
  have Hba := Lib.hid hba
  clear hx hg1 hmm hlen hfit hba hnum
  go_wp2_with fail
  refine HC.out.mono ?_
  rintro e w6 ⟨r, hr1, hr2, rfl, hi6, hg6⟩
  have hb6 := up_row Hba.out hg6 Hba.out.size (Nat.le_refl _)
  have fr := bl_mono (root_le hr1) Hx.out.2.2.2
  have HT := Lib.hid (told_any hi6 (Nat.le_trans (len_fits (z := (r : Int)) (by unfold fits; rw [Int.natAbs_natCast]; exact fr)) (by omega)))
  have Fr := Lib.hid (show fits (r : Int) by unfold fits; rw [Int.natAbs_natCast]; exact fr)
  have Fs := Lib.hid (show fits ((m : Int) - (r : Int) * (r : Int)) from bl_mono (rest_abs hr1) Hx.out.2.2.2)
  have Hr := Lib.hid (And.intro hr1 hr2)
  obtain ⟨sq, bq, hqe⟩ : ∃ (sq : Bool) (bq : ByteArray), enc (r : Int) = .agg #[.bool sq, .string bq] := ⟨_, _, rfl⟩
  obtain ⟨sr, br, hre⟩ : ∃ (sr : Bool) (br : ByteArray), enc ((m : Int) - (r : Int) * (r : Int)) = .agg #[.bool sr, .string br] := ⟨_, _, rfl⟩
  have Hqr := Lib.hid (And.intro hqe hre)
  have Hi6 := Lib.hid (And.intro hi6 (And.intro hb6 (hb6.cell hadb)))
  clear hr1 hr2 fr hqe hre hi6 hg6 hb6
  go_wp2_with fail
  refine HT.out.mono ?_
  rintro e w7 ⟨t1, _, hb7⟩
  have t1 := t1 Fr.out
  rw [Hqr.out.1] at t1
  subst t1
  have hs6 := Hi6.out.2.1.size
  have hb57 := Hi6.out.2.1.trans (hb7.mono hs6)
  have m2 := H5.out.2.1.below hb57 (by have := Hsz.out; omega)
  have m3 := H5.out.2.2.below hb57 (by have := Hsz.out; omega)
  have x0 : w7.cell? ⟨w.heap.size + 1, 0, none⟩ = some (.bool false) := m2.cell 0
  have x1 : w7.cell? ⟨w.heap.size + 1, 1, none⟩ = some (.string ⟨#[]⟩) := m2.cell 1
  have x2 := m2.frozen 0
  have x3 := m2.frozen 1
  have hgr := only_setCell (p := ⟨w.heap.size + 1, 1, none⟩) (only_setCell (p := ⟨w.heap.size + 1, 0, none⟩) (World.grownBy.refl w7 (some (w.heap.size + 1))) (.inl rfl) (.bool sq)) (.inl rfl) (.string bq)
  have hother : ∀ r' : Nat, some r' = some (w.heap.size + 1) → ∃ cs t fz, w7.heap[r']? = some (.cells cs t fz) ∧ t ≠ 98 ∧ t ≠ 82 := fun r' hr => by injection hr with hr; subst hr; exact ⟨_, _, _, m2, by decide, by decide⟩
  have hr8 := (Hi6.out.1.below hb7).other hgr (fun r' hr => hother r' hr.symm)
  have hx8 := (Hx.out.1.below hb57).other hgr (fun r' hr => hother r' hr.symm)
  have hx82 : IntB ((w7.setCell ⟨w.heap.size + 1, 0, none⟩ (.bool sq)).setCell ⟨w.heap.size + 1, 1, none⟩ (.string bq)) g1 (m : Int) := hx8
  have p7 : w7.cell? ad = some (.pointer (some ⟨g1, 0, none⟩)) := (hb57.cell hadb).trans p0
  have hne1 : ad.block ≠ w.heap.size + 1 := fun h => by
    have hs := World.cell?_spot p7
    have h2 : ad = ⟨w.heap.size + 1, ad.off, none⟩ := by cases ad; simp_all
    rw [h2, m2.cell] at p7
    match ad.off, p7 with
    | 0, p => exact absurd p (by simp)
    | 1, p => exact absurd p (by simp)
    | _ + 2, p => exact absurd p (by simp)
  have p8 := hgr.cell p7 (by intro h; injection h with h; exact hne1 h)
  have m2' := put_pair (.bool sq) (.string bq) m2
  have m3' := far_pair (.bool sq) (.string bq) m3 (show w.heap.size + 1 + 1 ≠ w.heap.size + 1 by omega)
  have hb08 := ((H5.out.1.trans (hb57.mono (by have := Hsz.out; omega))).setCell (p := ⟨w.heap.size + 1, 0, none⟩) (by show w.heap.size ≤ w.heap.size + 1; omega) (.bool sq)).setCell (p := ⟨w.heap.size + 1, 1, none⟩) (by show w.heap.size ≤ w.heap.size + 1; omega) (.string bq)
  have hs8 : w.heap.size + 1 + 1 + 1 ≤ ((w7.setCell ⟨w.heap.size + 1, 0, none⟩ (.bool sq)).setCell ⟨w.heap.size + 1, 1, none⟩ (.string bq)).heap.size := by rw [World.size_setCell, World.size_setCell]; have := Hsz.out; have := hb57.size; omega
  have had8 : ad.block < ((w7.setCell ⟨w.heap.size + 1, 0, none⟩ (.bool sq)).setCell ⟨w.heap.size + 1, 1, none⟩ (.string bq)).heap.size := by rw [World.size_setCell, World.size_setCell]; have := hb57.size; omega
  have H8 := Lib.hid (And.intro hr8 (And.intro hx8 (And.intro p8 (And.intro m2' (And.intro m3' (And.intro hb08 (And.intro hs8 had8)))))))
  clear hs6 hb57 hb7 m2 m3 hgr hother hr8 hx8 hx82 p7 hne1 p8 m2' m3' hb08 hs8 had8
  go_wp2_with fail
  generalize ((w7.setCell ⟨w.heap.size + 1, 0, none⟩ (.bool sq)).setCell ⟨w.heap.size + 1, 1, none⟩ (.string bq)) = W at H8 ⊢
  clear x0 x1 x2 x3 Hba Hi6
  have p8 := H8.out.2.2.1
  have hcell : ∀ w' : World, Below W.heap.size W w' → w'.cell? ad = some (.pointer (some ⟨g1, 0, none⟩)) := fun w' hb => (hb.cell H8.out.2.2.2.2.2.2.2).trans p8
  have hba1 : Below W.heap.size W (W.drew.alloc (.cells #[.bool false, .slice none 0 0] 82)) := (Below.refl _ _).drew.alloc (Nat.le_refl _) _
  have hba2 := hba1.alloc (by simp) (.cells #[.bool false, .slice none 0 0] 82)
  have hz1 := zslot W.drew
  have hz2 : IntS ((W.drew.alloc (.cells #[.bool false, .slice none 0 0] 82)).alloc (.cells #[.bool false, .slice none 0 0] 82)) (W.heap.size + 1) := by
    have := zslot (W.drew.alloc (.cells #[.bool false, .slice none 0 0] 82))
    rw [World.size_alloc] at this
    exact this
  have hz3 := hz1.below (new_below (W.drew.alloc (.cells #[.bool false, .slice none 0 0] 82)) (.cells #[.bool false, .slice none 0 0] 82))
  have hl1 : (wds (r : Int).natAbs).length ≤ 5000 := len_fits Fr.out
  have M1 := Lib.hid (mul_rdy hba2 hz3 hz2 (show W.heap.size ≠ W.heap.size + 1 by omega) (Nat.le_refl _) (Nat.le_succ _) H8.out.1 H8.out.2.1 hl1)
  have M2 := Lib.hid (mul_rdy hba2 hz2 hz3 (show W.heap.size + 1 ≠ W.heap.size by omega) (Nat.le_succ _) (Nat.le_refl _) H8.out.1 H8.out.2.1 hl1)
  have M3 := Lib.hid (mul_then hba1 hz1 (Nat.le_refl _) H8.out.1 H8.out.2.1 hl1)
  have hx1 : (wds (m : Int).natAbs).length ≤ 5000 := by rw [Int.natAbs_natCast]; exact Hx.out.2.2.1
  have hq1 : (wds ((r : Int) * (r : Int)).natAbs).length ≤ 5000 := by
    rw [show (r : Int) * (r : Int) = ((r * r : Nat) : Int) from (Int.natCast_mul r r).symm, Int.natAbs_natCast]
    exact Nat.le_trans (len_mono Hr.out.1) Hx.out.2.2.1
  have hlf := Nat.le_trans (len_fits Fs.out) (show 5000 ≤ 100000000 by decide)
  have Hc := Lib.hid hcell
  have Hb1 := Lib.hid hba1
  have Hb2 := Lib.hid hba2
  have Hl := Lib.hid (And.intro hx1 (And.intro hq1 hlf))
  clear hcell hba1 hba2 hz1 hz2 hz3 hl1 hx1 hq1 hlf
  apply cut_goal2 (F := fun _ _ V => Below W.heap.size W V)
  · intro hcont
    refine wp_region_noPanic ?_
    refine wp_region_HK (fun w' => w'.cell? ad = some (.pointer (some ⟨g1, 0, none⟩))) 8 (by kernel_rfl) p8 (fun hHeld => ?_)
    refine wpHK_take (i := 1) (oi := Oper.mk (some 36) _ _ _ _ _) (v := ?_) rfl (by kernel_rfl) (by kernel_rfl) (by kernel_rfl) (by kernel_rfl) (fun _ _ _ h => h) (Or.inl ⟨by rfl, ?_⟩) (by assumption) ?_
    rotate_left
    · (intro w' hSw; (try dsimp only at hSw); (obtain s1 := hSw); go_simp; try with_reducible rfl)
    try simp only [Act.put, List.setIfInBounds_toArray, List.set_cons_zero, List.set_cons_succ]
    refine wpHK_take (i := 2) (oi := Oper.mk (some 37) _ _ _ _ _) (v := ?_) rfl (by kernel_rfl) (by kernel_rfl) (by kernel_rfl) (by kernel_rfl) (fun _ _ _ h => h) (Or.inl ⟨by rfl, ?_⟩) (by assumption) ?_
    rotate_left
    · (intro w' hSw; (try dsimp only at hSw); (obtain s1 := hSw); go_simp; try with_reducible rfl)
    try simp only [Act.put, List.setIfInBounds_toArray, List.set_cons_zero, List.set_cons_succ]
    refine wpHK_take (i := 3) (oi := Oper.mk (some 38) _ _ _ _ _) (v := ?_) rfl (by kernel_rfl) (by kernel_rfl) (by kernel_rfl) (by kernel_rfl) (fun _ _ _ h => h) (Or.inl ⟨by rfl, ?_⟩) (by assumption) ?_
    rotate_left
    · (intro w' hSw; (try dsimp only at hSw); (obtain s1 := hSw); go_simp; try with_reducible rfl)
    try simp only [Act.put, List.setIfInBounds_toArray, List.set_cons_zero, List.set_cons_succ]
    refine wpHK_take (i := 5) (oi := Oper.mk (some 40) _ _ _ _ _) (v := ?_) rfl (by kernel_rfl) (by kernel_rfl) (by kernel_rfl) (by kernel_rfl) (fun _ _ _ h => h) (Or.inl ⟨by rfl, ?_⟩) (by assumption) ?_
    rotate_left
    · (intro w' hSw; (try dsimp only at hSw); (obtain s1 := hSw); go_simp; try with_reducible rfl)
    try simp only [Act.put, List.setIfInBounds_toArray, List.set_cons_zero, List.set_cons_succ]
    refine wpHK_take (i := 6) (oi := Oper.mk (some 41) _ _ _ _ _) (v := ?_) rfl (by kernel_rfl) (by kernel_rfl) (by kernel_rfl) (by kernel_rfl) (fun _ _ _ h => h) (Or.inl ⟨by rfl, ?_⟩) (by assumption) ?_
    rotate_left
    · (intro w' hSw; (try dsimp only at hSw); (obtain s1 := hSw); go_simp; try with_reducible rfl)
    try simp only [Act.put, List.setIfInBounds_toArray, List.set_cons_zero, List.set_cons_succ]
    refine wpHK_two (i := 0) (j := 4) (oi := Oper.mk (some 35) _ _ _ _ _) (oj := Oper.mk (some 39) _ _ _ _ _) rfl rfl (by kernel_rfl) (fun K hK => ?_) (fun K hK => ?_)
    · go_simp
      refine hK.out _ _ (Hc.out _ Hb1.out) (fun _ => ?_)
      clear hK K hHeld
      have hHeld := (Hc.out _ Hb1.out)
      try simp only [Act.put, List.setIfInBounds_toArray, List.set_cons_zero, List.set_cons_succ]
      refine wpHK_one (j := 4) (o := Oper.mk (some 39) _ _ _ _ _) rfl (by kernel_rfl) (fun K hK => ?_)
      go_simp
      refine hK.out _ _ (Hc.out _ Hb2.out) (fun _ => ?_)
      clear hK K hHeld
      have hHeld := (Hc.out _ Hb2.out)
      try simp only [Act.put, List.setIfInBounds_toArray, List.set_cons_zero, List.set_cons_succ]
      refine wpHK_one (j := 7) (o := Oper.mk (some 42) _ _ _ _ _) rfl (by kernel_rfl) (fun K hK => ?_)
      go_simp
      refine M1.out.mono ?_
      rintro e V ⟨rfl, hrd⟩
      have hrd := Lib.hid hrd
      refine hK.out _ _ (Hc.out _ hrd.out.2.2.2.1) (fun _ => ?_)
      clear hK K hHeld
      have hHeld := (Hc.out _ hrd.out.2.2.2.1)
      try simp only [Act.put, List.setIfInBounds_toArray, List.set_cons_zero, List.set_cons_succ]
      refine wpHK_tail (j := 8) (o := Oper.mk (some 43) _ _ _ _ _) rfl (by kernel_rfl) (by decide) (fun K hK => ?_)
      go_simp
      have HS := Lib.hid (sub_rdy hrd.out Hl.out.1 Hl.out.2.1)
      refine HS.out.mono ?_
      rintro e V2 ⟨rfl, hi2, hb2⟩
      have HT2 := Lib.hid (told_any hi2 Hl.out.2.2)
      have hb2 := Lib.hid hb2
      clear hi2 HS
      refine hK.out _ _ ?_
      clear hK K
      try simp only [Act.put, List.setIfInBounds_toArray, List.set_cons_zero, List.set_cons_succ]
      refine wpHK_tail (j := 9) (o := Oper.mk (some 44) _ _ _ _ _) rfl (by kernel_rfl) (by decide) (fun K hK => ?_)
      go_simp
      refine HT2.out.mono ?_
      rintro e V3 ⟨t2, _, hb3⟩
      have t2 := t2 Fs.out
      rw [Hqr.out.2] at t2
      subst t2
      have hb3 := Lib.hid (hb2.out.trans (hb3.mono hb2.out.size))
      clear HT2 hb2
      refine hK.out _ _ ?_
      clear hK K
      try simp only [Act.put, List.setIfInBounds_toArray, List.set_cons_zero, List.set_cons_succ]
      refine wpHK_pure (i := 10) (oi := Oper.mk (some 34) _ _ _ _ _) (v := ?_) rfl (by kernel_rfl) (by kernel_rfl) (by kernel_rfl) (fun _ _ _ h => h) (Or.inl ⟨by rfl, ?_⟩) ?_
      rotate_left
      · (intro w' _; go_simp; try with_reducible rfl)
      try simp only [Act.put, List.setIfInBounds_toArray, List.set_cons_zero, List.set_cons_succ]
      refine wpHK_pure (i := 11) (oi := Oper.mk (some 45) _ _ _ _ _) (v := ?_) rfl (by kernel_rfl) (by kernel_rfl) (by kernel_rfl) (fun _ _ _ h => h) (Or.inl ⟨by rfl, ?_⟩) ?_
      rotate_left
      · (intro w' _; go_simp; try with_reducible rfl)
      try simp only [Act.put, List.setIfInBounds_toArray, List.set_cons_zero, List.set_cons_succ]
      refine wpHK_pure (i := 12) (oi := Oper.mk (some 46) _ _ _ _ _) (v := ?_) rfl (by kernel_rfl) (by kernel_rfl) (by kernel_rfl) (fun _ _ _ h => h) (Or.inl ⟨by rfl, ?_⟩) ?_
      rotate_left
      · (intro w' _; go_simp; try with_reducible rfl)
      try simp only [Act.put, List.setIfInBounds_toArray, List.set_cons_zero, List.set_cons_succ]
      refine wpHK_tail (j := 13) (o := Oper.mk (none) _ _ _ _ _) rfl (by kernel_rfl) (by decide) (fun K hK => ?_)
      have n3 := H8.out.2.2.2.2.1.below hb3.out H8.out.2.2.2.2.2.2.1
      have z0 : V3.cell? ⟨w.heap.size + 1 + 1, 0, none⟩ = some (.bool false) := n3.cell 0
      have z1 : V3.cell? ⟨w.heap.size + 1 + 1, 1, none⟩ = some (.string ⟨#[]⟩) := n3.cell 1
      have z2 := n3.frozen 0
      have z3 := n3.frozen 1
      clear n3
      go_simp
      refine hK.out _ _ ?_
      clear hK K
      try simp only [Act.put, List.setIfInBounds_toArray, List.set_cons_zero, List.set_cons_succ]
      refine wpHK_done (by kernel_rfl) ?_ _
      refine NoPanic.normal ?_
      have hb3 := hb3.out
      clear z0 z1 z2 z3
      generalize W.heap.size + 1 = t5
      generalize W.heap.size = s5
      exact hcont s5 t5 V3 hb3
    · go_simp
      refine hK.out _ _ (Hc.out _ Hb1.out) (fun _ => ?_)
      clear hK K hHeld
      have hHeld := (Hc.out _ Hb1.out)
      try simp only [Act.put, List.setIfInBounds_toArray, List.set_cons_zero, List.set_cons_succ]
      refine wpHK_two (i := 0) (j := 7) (oi := Oper.mk (some 35) _ _ _ _ _) (oj := Oper.mk (some 42) _ _ _ _ _) rfl rfl (by kernel_rfl) (fun K hK => ?_) (fun K hK => ?_)
      · go_simp
        refine hK.out _ _ (Hc.out _ Hb2.out) (fun _ => ?_)
        clear hK K hHeld
        have hHeld := (Hc.out _ Hb2.out)
        try simp only [Act.put, List.setIfInBounds_toArray, List.set_cons_zero, List.set_cons_succ]
        refine wpHK_one (j := 7) (o := Oper.mk (some 42) _ _ _ _ _) rfl (by kernel_rfl) (fun K hK => ?_)
        go_simp
        refine M2.out.mono ?_
        rintro e V ⟨rfl, hrd⟩
        have hrd := Lib.hid hrd
        refine hK.out _ _ (Hc.out _ hrd.out.2.2.2.1) (fun _ => ?_)
        clear hK K hHeld
        have hHeld := (Hc.out _ hrd.out.2.2.2.1)
        try simp only [Act.put, List.setIfInBounds_toArray, List.set_cons_zero, List.set_cons_succ]
        refine wpHK_tail (j := 8) (o := Oper.mk (some 43) _ _ _ _ _) rfl (by kernel_rfl) (by decide) (fun K hK => ?_)
        go_simp
        have HS := Lib.hid (sub_rdy hrd.out Hl.out.1 Hl.out.2.1)
        refine HS.out.mono ?_
        rintro e V2 ⟨rfl, hi2, hb2⟩
        have HT2 := Lib.hid (told_any hi2 Hl.out.2.2)
        have hb2 := Lib.hid hb2
        clear hi2 HS
        refine hK.out _ _ ?_
        clear hK K
        try simp only [Act.put, List.setIfInBounds_toArray, List.set_cons_zero, List.set_cons_succ]
        refine wpHK_tail (j := 9) (o := Oper.mk (some 44) _ _ _ _ _) rfl (by kernel_rfl) (by decide) (fun K hK => ?_)
        go_simp
        refine HT2.out.mono ?_
        rintro e V3 ⟨t2, _, hb3⟩
        have t2 := t2 Fs.out
        rw [Hqr.out.2] at t2
        subst t2
        have hb3 := Lib.hid (hb2.out.trans (hb3.mono hb2.out.size))
        clear HT2 hb2
        refine hK.out _ _ ?_
        clear hK K
        try simp only [Act.put, List.setIfInBounds_toArray, List.set_cons_zero, List.set_cons_succ]
        refine wpHK_pure (i := 10) (oi := Oper.mk (some 34) _ _ _ _ _) (v := ?_) rfl (by kernel_rfl) (by kernel_rfl) (by kernel_rfl) (fun _ _ _ h => h) (Or.inl ⟨by rfl, ?_⟩) ?_
        rotate_left
        · (intro w' _; go_simp; try with_reducible rfl)
        try simp only [Act.put, List.setIfInBounds_toArray, List.set_cons_zero, List.set_cons_succ]
        refine wpHK_pure (i := 11) (oi := Oper.mk (some 45) _ _ _ _ _) (v := ?_) rfl (by kernel_rfl) (by kernel_rfl) (by kernel_rfl) (fun _ _ _ h => h) (Or.inl ⟨by rfl, ?_⟩) ?_
        rotate_left
        · (intro w' _; go_simp; try with_reducible rfl)
        try simp only [Act.put, List.setIfInBounds_toArray, List.set_cons_zero, List.set_cons_succ]
        refine wpHK_pure (i := 12) (oi := Oper.mk (some 46) _ _ _ _ _) (v := ?_) rfl (by kernel_rfl) (by kernel_rfl) (by kernel_rfl) (fun _ _ _ h => h) (Or.inl ⟨by rfl, ?_⟩) ?_
        rotate_left
        · (intro w' _; go_simp; try with_reducible rfl)
        try simp only [Act.put, List.setIfInBounds_toArray, List.set_cons_zero, List.set_cons_succ]
        refine wpHK_tail (j := 13) (o := Oper.mk (none) _ _ _ _ _) rfl (by kernel_rfl) (by decide) (fun K hK => ?_)
        have n3 := H8.out.2.2.2.2.1.below hb3.out H8.out.2.2.2.2.2.2.1
        have z0 : V3.cell? ⟨w.heap.size + 1 + 1, 0, none⟩ = some (.bool false) := n3.cell 0
        have z1 : V3.cell? ⟨w.heap.size + 1 + 1, 1, none⟩ = some (.string ⟨#[]⟩) := n3.cell 1
        have z2 := n3.frozen 0
        have z3 := n3.frozen 1
        clear n3
        go_simp
        refine hK.out _ _ ?_
        clear hK K
        try simp only [Act.put, List.setIfInBounds_toArray, List.set_cons_zero, List.set_cons_succ]
        refine wpHK_done (by kernel_rfl) ?_ _
        refine NoPanic.normal ?_
        have hb3 := hb3.out
        clear z0 z1 z2 z3
        exact hcont (W.heap.size + 1) W.heap.size V3 hb3
      · go_simp
        refine M3.out.mono ?_
        rintro e V ⟨rfl, hbv, hrd⟩
        have hbv := Lib.hid hbv
        have hrd := Lib.hid hrd
        refine hK.out _ _ (Hc.out _ hbv.out) (fun _ => ?_)
        clear hK K hHeld
        have hHeld := (Hc.out _ hbv.out)
        try simp only [Act.put, List.setIfInBounds_toArray, List.set_cons_zero, List.set_cons_succ]
        refine wpHK_one (j := 0) (o := Oper.mk (some 35) _ _ _ _ _) rfl (by kernel_rfl) (fun K hK => ?_)
        go_simp
        refine hK.out _ _ (Hc.out _ (hrd.out.2.2.2.1)) (fun _ => ?_)
        clear hK K hHeld
        have hHeld := (Hc.out _ (hrd.out.2.2.2.1))
        try simp only [Act.put, List.setIfInBounds_toArray, List.set_cons_zero, List.set_cons_succ]
        refine wpHK_tail (j := 8) (o := Oper.mk (some 43) _ _ _ _ _) rfl (by kernel_rfl) (by decide) (fun K hK => ?_)
        go_simp
        have HS := Lib.hid (sub_rdy hrd.out Hl.out.1 Hl.out.2.1)
        refine HS.out.mono ?_
        rintro e V2 ⟨rfl, hi2, hb2⟩
        have HT2 := Lib.hid (told_any hi2 Hl.out.2.2)
        have hb2 := Lib.hid hb2
        clear hi2 HS
        refine hK.out _ _ ?_
        clear hK K
        try simp only [Act.put, List.setIfInBounds_toArray, List.set_cons_zero, List.set_cons_succ]
        refine wpHK_tail (j := 9) (o := Oper.mk (some 44) _ _ _ _ _) rfl (by kernel_rfl) (by decide) (fun K hK => ?_)
        go_simp
        refine HT2.out.mono ?_
        rintro e V3 ⟨t2, _, hb3⟩
        have t2 := t2 Fs.out
        rw [Hqr.out.2] at t2
        subst t2
        have hb3 := Lib.hid (hb2.out.trans (hb3.mono hb2.out.size))
        clear HT2 hb2
        refine hK.out _ _ ?_
        clear hK K
        try simp only [Act.put, List.setIfInBounds_toArray, List.set_cons_zero, List.set_cons_succ]
        refine wpHK_pure (i := 10) (oi := Oper.mk (some 34) _ _ _ _ _) (v := ?_) rfl (by kernel_rfl) (by kernel_rfl) (by kernel_rfl) (fun _ _ _ h => h) (Or.inl ⟨by rfl, ?_⟩) ?_
        rotate_left
        · (intro w' _; go_simp; try with_reducible rfl)
        try simp only [Act.put, List.setIfInBounds_toArray, List.set_cons_zero, List.set_cons_succ]
        refine wpHK_pure (i := 11) (oi := Oper.mk (some 45) _ _ _ _ _) (v := ?_) rfl (by kernel_rfl) (by kernel_rfl) (by kernel_rfl) (fun _ _ _ h => h) (Or.inl ⟨by rfl, ?_⟩) ?_
        rotate_left
        · (intro w' _; go_simp; try with_reducible rfl)
        try simp only [Act.put, List.setIfInBounds_toArray, List.set_cons_zero, List.set_cons_succ]
        refine wpHK_pure (i := 12) (oi := Oper.mk (some 46) _ _ _ _ _) (v := ?_) rfl (by kernel_rfl) (by kernel_rfl) (by kernel_rfl) (fun _ _ _ h => h) (Or.inl ⟨by rfl, ?_⟩) ?_
        rotate_left
        · (intro w' _; go_simp; try with_reducible rfl)
        try simp only [Act.put, List.setIfInBounds_toArray, List.set_cons_zero, List.set_cons_succ]
        refine wpHK_tail (j := 13) (o := Oper.mk (none) _ _ _ _ _) rfl (by kernel_rfl) (by decide) (fun K hK => ?_)
        have n3 := H8.out.2.2.2.2.1.below hb3.out H8.out.2.2.2.2.2.2.1
        have z0 : V3.cell? ⟨w.heap.size + 1 + 1, 0, none⟩ = some (.bool false) := n3.cell 0
        have z1 : V3.cell? ⟨w.heap.size + 1 + 1, 1, none⟩ = some (.string ⟨#[]⟩) := n3.cell 1
        have z2 := n3.frozen 0
        have z3 := n3.frozen 1
        clear n3
        go_simp
        refine hK.out _ _ ?_
        clear hK K
        try simp only [Act.put, List.setIfInBounds_toArray, List.set_cons_zero, List.set_cons_succ]
        refine wpHK_done (by kernel_rfl) ?_ _
        refine NoPanic.normal ?_
        have hb3 := hb3.out
        clear z0 z1 z2 z3
        exact hcont V.heap.size W.heap.size V3 hb3
  · rintro t u V hV
    have n2 := far_pair (.bool sr) (.string br) (H8.out.2.2.2.1.below hV (by have := H8.out.2.2.2.2.2.2.1; omega)) (show w.heap.size + 1 ≠ w.heap.size + 1 + 1 by omega)
    have n3 := put_pair (.bool sr) (.string br) (H8.out.2.2.2.2.1.below hV H8.out.2.2.2.2.2.2.1)
    have hbV := ((H8.out.2.2.2.2.2.1.trans (hV.mono (by have := H8.out.2.2.2.2.2.2.1; omega))).setCell (p := ⟨w.heap.size + 1 + 1, 0, none⟩) (by show w.heap.size ≤ w.heap.size + 1 + 1; omega) (.bool sr)).setCell (p := ⟨w.heap.size + 1 + 1, 1, none⟩) (by show w.heap.size ≤ w.heap.size + 1 + 1; omega) (.string br)
    have Hn := Lib.hid (And.intro n2 (And.intro n3 hbV))
    clear n2 n3 hbV hV
    generalize (V.setCell ⟨w.heap.size + 1 + 1, 0, none⟩ (.bool sr)).setCell ⟨w.heap.size + 1 + 1, 1, none⟩ (.string br) = W9 at Hn ⊢
    have d0 : W9.cell? ⟨w.heap.size + 1, 0, none⟩ = some (.bool sq) := Hn.out.1.cell 0
    have d1 : W9.cell? ⟨w.heap.size + 1, 1, none⟩ = some (.string bq) := Hn.out.1.cell 1
    have e0 : W9.cell? ⟨w.heap.size + 1 + 1, 0, none⟩ = some (.bool sr) := Hn.out.2.1.cell 0
    have e1 : W9.cell? ⟨w.heap.size + 1 + 1, 1, none⟩ = some (.string br) := Hn.out.2.1.cell 1
    have d2 := Hn.out.1.frozen 0
    have d3 := Hn.out.1.frozen 1
    have e2 := Hn.out.2.1.frozen 0
    have e3 := Hn.out.2.1.frozen 1
    go_wp2_with fail
    refine wp_region_noPanic ?_
    refine wp_region_HK (fun w' => (w'.cell? ⟨w.heap.size + 1, 0, none⟩ = some (.bool sq) ∧ w'.cell? ⟨w.heap.size + 1, 1, none⟩ = some (.string bq)) ∧ w'.cell? ⟨w.heap.size + 1 + 1, 0, none⟩ = some (.bool sr) ∧ w'.cell? ⟨w.heap.size + 1 + 1, 1, none⟩ = some (.string br)) 3 (by kernel_rfl) ⟨⟨d0, d1⟩, e0, e1⟩ (fun hHeld => ?_)
    refine wpHK_take (i := 0) (oi := Oper.mk (some 47) _ _ _ _ _) (v := ?_) rfl (by kernel_rfl) (by kernel_rfl) (by kernel_rfl) (by kernel_rfl) (fun _ _ _ h => h) (Or.inl ⟨by rfl, ?_⟩) (by assumption) ?_
    rotate_left
    · (intro w' hSw; (try dsimp only at hSw); (obtain ⟨⟨s1, s2⟩, s3, s4⟩ := hSw); go_simp; try with_reducible rfl)
    try simp only [Act.put, List.setIfInBounds_toArray, List.set_cons_zero, List.set_cons_succ]
    refine wpHK_take (i := 1) (oi := Oper.mk (some 48) _ _ _ _ _) (v := ?_) rfl (by kernel_rfl) (by kernel_rfl) (by kernel_rfl) (by kernel_rfl) (fun _ _ _ h => h) (Or.inl ⟨by rfl, ?_⟩) (by assumption) ?_
    rotate_left
    · (intro w' hSw; (try dsimp only at hSw); (obtain ⟨⟨s1, s2⟩, s3, s4⟩ := hSw); go_simp; try with_reducible rfl)
    try simp only [Act.put, List.setIfInBounds_toArray, List.set_cons_zero, List.set_cons_succ]
    refine wpHK_one (j := 2) (o := Oper.mk (none) _ _ _ _ _) rfl (by kernel_rfl) (fun K hK => ?_)
    go_simp
    refine hK.out _ _ (And.intro (same_pair Hn.out.1.drew).two (far_pair (.bool sq) (.string bq) Hn.out.2.1.drew (show w.heap.size + 1 + 1 ≠ w.heap.size + 1 by omega)).two) (fun _ => ?_)
    clear hK K hHeld
    have hHeld := (And.intro (same_pair Hn.out.1.drew).two (far_pair (.bool sq) (.string bq) Hn.out.2.1.drew (show w.heap.size + 1 + 1 ≠ w.heap.size + 1 by omega)).two)
    try simp only [Act.put, List.setIfInBounds_toArray, List.set_cons_zero, List.set_cons_succ]
    refine wpHK_tail (j := 3) (o := Oper.mk (none) _ _ _ _ _) rfl (by kernel_rfl) (by decide) (fun K hK => ?_)
    go_simp
    refine hK.out _ _ ?_
    clear hK K
    try simp only [Act.put, List.setIfInBounds_toArray, List.set_cons_zero, List.set_cons_succ]
    refine wpHK_pure (i := 4) (oi := Oper.mk (some 4) _ _ _ _ _) (v := ?_) rfl (by kernel_rfl) (by kernel_rfl) (by kernel_rfl) (fun _ _ _ h => h) (Or.inl ⟨by rfl, ?_⟩) ?_
    rotate_left
    · (intro w' _; go_simp; try with_reducible rfl)
    try simp only [Act.put, List.setIfInBounds_toArray, List.set_cons_zero, List.set_cons_succ]
    refine wpHK_done (by kernel_rfl) ?_ _
    refine NoPanic.normal ?_
    go_wp2_with fail
    refine bodyPost_ret (v := .tuple #[.agg #[.bool sq, .string bq], .agg #[.bool sr, .string br], .int .i64 0]) (by simp [results, Try.results53, go_sem, d0, d1, e0, e1]) rfl ?_
    exact ⟨fun h => absurd Hm.out h, fun _ h => absurd (show false = true from h) (by decide), fun _ _ => ⟨r, by rw [← Hx.out.2.1]; exact Hr.out.1, by rw [← Hx.out.2.1]; exact Hr.out.2, by rw [Hqr.out.1, ← Hx.out.2.1, Hqr.out.2]⟩, (((((Hn.out.2.2.drew).setCell (by show w.heap.size ≤ w.heap.size + 1; omega) _).setCell (by show w.heap.size ≤ w.heap.size + 1; omega) _).setCell (by show w.heap.size ≤ w.heap.size + 1 + 1; omega) _).setCell (by show w.heap.size ≤ w.heap.size + 1 + 1; omega) _)⟩
theorem wroot_any {w : World} {na : Bool} {sa : ByteArray} :
    Calls Try.prog 53 #[.agg #[.bool na, .string sa]] w (Rooted w (na, sa)) := by
  by_cases hm : MayL na sa.data.toList
  · cases na
    · exact wroot_main hm rfl
    · exact wroot_neg hm rfl
  · exact wroot_bad hm
end Go.Proofs.Ytpnginnjbdedbaa
