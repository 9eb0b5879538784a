import Derived.Test.YtpnginnjbdedbaaC6
import Derived.BigQuiet
import Derived.Deep.DeepCutAuto
import Derived.Deep.RegionHeld3
import Derived.Test.YtpnginnjbdedbaaC5
import Derived.Test.YtpnginnjbdedbaaC2
import Derived.Test.YtpnginnjbdedbaaC1
/- whole.Sum, whole.Gcd. -/
namespace Go.Proofs.Ytpnginnjbdedbaa
open Go.RowKit
open Wh
set_option linter.unusedSimpArgs false

theorem sum_abs {P : Nat} : ∀ {zs : List Int}, (∀ z ∈ zs, z.natAbs ≤ P) → zs.sum.natAbs ≤ zs.length * P
  | [], _ => by simp
  | z :: zs, h => by
    have h1 := h z (by simp)
    have h2 := sum_abs (zs := zs) (fun y hy => h y (by simp [hy]))
    rw [List.sum_cons, List.length_cons, Nat.succ_mul]
    have := Int.natAbs_add_le z zs.sum
    omega
theorem sum_bl {k : Nat} {zs : List Int} (h : ∀ z ∈ zs, bl z.natAbs ≤ k) (hl : zs.length ≤ 100000) : bl zs.sum.natAbs ≤ 32 + k := by
  have h1 := sum_abs (P := 2 ^ k) (zs := zs) (fun z hz => Nat.le_of_lt (bl_lt.1 (h z hz)))
  refine bl_lt.2 (Nat.lt_of_le_of_lt h1 ?_)
  rw [Nat.pow_add]
  exact Nat.mul_lt_mul_of_pos_right (by omega) (Nat.pow_pos (by decide))
theorem sum_len {zs : List Int} (h : ∀ z ∈ zs, bl z.natAbs ≤ 131072) (hl : zs.length ≤ 100000) : (wds zs.sum.natAbs).length ≤ 5000 :=
  Nat.le_trans (len_bl (k := 4097) (sum_bl h hl)) (by omega)
theorem sum_take {zs : List Int} {i : Nat} (h : i < zs.length) : (zs.take (i + 1)).sum = (zs.take i).sum + zs[i] := by
  rw [List.take_succ_eq_append_getElem h, List.sum_append]; simp
theorem Ints.len {w : World} : ∀ {gs : List Nat} {zs : List Int}, Ints w gs zs → gs.length = zs.length
  | [], [], _ => rfl
  | _ :: _, _ :: _, ⟨_, _, h⟩ => by rw [List.length_cons, List.length_cons, h.len]
  | [], _ :: _, h => h.elim
  | _ :: _, [], h => h.elim
theorem Ints.drop {w : World} : ∀ {gs : List Nat} {zs : List Int} (i : Nat), Ints w gs zs → Ints w (gs.drop i) (zs.drop i)
  | _, _, 0, h => h
  | _ :: _, _ :: _, i + 1, ⟨_, _, h⟩ => h.drop i
  | [], [], _ + 1, _ => trivial
  | [], _ :: _, _, h => h.elim
  | _ :: _, [], _, h => h.elim
theorem Ints.at_ {w : World} {gs : List Nat} {zs : List Int} {i : Nat} (h : Ints w (gs.drop i) (zs.drop i)) (h1 : i < gs.length) (h2 : i < zs.length) : IntB w gs[i] zs[i] ∧ gs[i] ∉ gs.drop (i + 1) ∧ Ints w (gs.drop (i + 1)) (zs.drop (i + 1)) := by
  rw [List.drop_eq_getElem_cons h1, List.drop_eq_getElem_cons h2] at h
  exact h
/-- the pointers stay where a number's block changes -/
theorem slot_ptr_ne {w : World} {ad : Addr} {g : Nat} {q : Option Addr} (hi : IntS w g) (p : w.cell? ad = some (.pointer q)) : ad.block ≠ g := by
  intro h
  have hs := World.cell?_spot p
  obtain ⟨s, A, n, c, hb⟩ := hi
  have h2 : ad = ⟨g, ad.off, none⟩ := by cases ad; simp_all
  rw [h2, hb.cell] at p
  match ad.off, p with
  | 0, p => exact absurd p (by simp [icells])
  | 1, p => exact absurd p (by simp [icells])
  | _ + 2, p => exact absurd p (by simp [icells])
theorem ReadsP.off {w w' : World} {B g : Nat} {A : Option Addr} {l : List Nat} (h : ReadsP w B A l) (hi : IntS w g) (hg : w.grownBy w' (some g)) : ReadsP w' B A l := by
  refine ⟨h.1, fun hn => ?_⟩
  obtain ⟨ad, e, hb, hc⟩ := h.2 hn
  refine ⟨ad, e, hb, fun j u hu => ?_⟩
  have h1 := hc j u hu
  obtain ⟨b, _, rfl⟩ : ∃ b, b ∈ l ∧ u = pv b := by
    obtain ⟨b, hb2, hb3⟩ := List.mem_map.1 (List.mem_of_getElem? hu)
    exact ⟨b, hb2, hb3.symm⟩
  have hne := slot_ptr_ne hi h1
  exact hg.cell h1 (by intro h5; injection h5 with h5; exact hne h5)

set_option maxRecDepth 100000 in
set_option maxHeartbeats 8000000 in
theorem wsum_any {w : World} {B n c : Nat} {A : Option Addr} {l : List (Bool × ByteArray)} (hr : ReadsWh w B A l) (hB : B ≤ w.heap.size) (hn : n = l.length) (hnl : n ≤ 100000) :
    Calls Try.prog 14 #[.slice A n c] w (Ans w (AllMay l) (l.map num).sum) := by
  have hb1 := new_below w (.cells #[.bool false, .string ⟨#[]⟩] 26)
  have k1 := Blk.new w 26 #[.bool false, .string ⟨#[]⟩]
  have hO := ofs_any (c := c) (Reads.alloc hr hB (.cells #[.bool false, .string ⟨#[]⟩] 26)) (by simp; omega) hn hnl
  have HO := Lib.hid hO
  have Hb := Lib.hid (And.intro hb1 k1)
  have Hn := Lib.hid (And.intro hn hnl)
  clear hO hb1 k1 hr hn hnl
  go_enter Try.func14, Try.ntmps14
  go_wp2_with fail
  refine HO.out.mono ?_
  rintro e w5 ⟨h1, h2⟩
  by_cases hm : AllMay l
  · obtain ⟨A5, n5, c5, gs, rfl, hlen, hrp, hints, hb5, hge⟩ := h1 hm
    obtain ⟨zs, hzs⟩ : ∃ zs, zs = l.map num := ⟨_, rfl⟩
    rw [← hzs] at hints hlen
    have hbz : ∀ z ∈ zs, bl z.natAbs ≤ 131072 := by
      intro z hz
      rw [hzs] at hz
      obtain ⟨a, ha, rfl⟩ := List.mem_map.1 hz
      exact fits_num (hm a ha)
    have hzl : zs.length ≤ 100000 := by rw [hzs, List.length_map, ← Hn.out.1]; exact Hn.out.2
    have m1 := Hb.out.2.below hb5 (by simp)
    have hb05 := Hb.out.1.trans (hb5.mono (by simp))
    have hsz5 : w.heap.size + 1 ≤ w5.heap.size := by have := hb5.size; simp at this; omega
    have H5 := Lib.hid (And.intro m1 (And.intro hb05 (And.intro hrp (And.intro hints (And.intro hsz5 hbz)))))
    have Hz := Lib.hid hzl
    have Hzs := Lib.hid hzs
    have hn5 : n5 ≤ 100000 := by rw [hlen.out.1, hlen.out.2]; exact hzl
    have Hm := Lib.hid hm
    clear h1 h2 hb5 hge m1 hb05 hrp hints hsz5 hbz hzl hzs hm
    go_wp2_with fail
    go_loopg [20] n5 (fun k iv wr => ∃ i : Nat, iv = .int .i64 (i : Int) ∧ k = n5 - i ∧ i ≤ n5 ∧ Below w5.heap.size w5 wr ∧ IntB wr w5.heap.size (zs.take i).sum)
    case atStart => exact ⟨0, rfl, rfl, by omega, new_below w5 _, IntB.zero w5⟩
    case round =>
      obtain ⟨i, rfl, hk, hi, hbel, hacc⟩ := hrel
      have Hk := Lib.hid hk
      clear hk
      by_cases hin : i < n5
      · have hig : i < gs.length := by rw [← hlen.out.1]; exact hin
        have hiz : i < zs.length := by rw [← hlen.out.2]; exact hig
        obtain ⟨ad, rfl, hadb, c0⟩ := H5.out.2.2.1.at_ hig
        have c0' := (hbel.cell (p := ad.add i) (by rw [block_of_add]; exact hadb)).trans c0
        have hx := ((H5.out.2.2.2.1.drop i).at_ hig hiz).1.below hbel
        have hii : (i : Int) < (n5 : Int) := by omega
        have hs1 := sum_len (zs := zs.take i) (fun z hz => H5.out.2.2.2.2.2 z (List.mem_of_mem_take hz)) (by have := Hz.out; rw [List.length_take]; omega)
        have hs2 := Nat.le_trans (len_bl (k := 4096) (H5.out.2.2.2.2.2 zs[i] (List.getElem_mem hiz))) (show 4096 ≤ 5000 by omega)
        have HA := Lib.hid (add2_any hacc.slot hacc hx (by omega) (by omega))
        have Hst := Lib.hid (And.intro (sum_take hiz) hbel)
        generalize hgi : gs[i] = gi at c0 c0' hx HA
        clear c0 hx hs1 hs2 hacc hgi hbel
        go_wp2_with fail
        refine HA.out.mono ?_
        rintro e w6 ⟨rfl, hi6, hg6⟩
        have hb6 := up_row Hst.out.2 hg6 Hst.out.2.size (Nat.le_refl _)
        have H6 := Lib.hid (And.intro hi6 hb6)
        clear hi6 hg6 hb6
        go_wp2_with fail
        go_roundg (n5 - (i + 1))
        case measure => have := Hk.out; omega
        case rel => exact ⟨i + 1, rfl, rfl, by omega, H6.out.2, by rw [Hst.out.1]; exact H6.out.1⟩
      · have hi' : i = n5 := by omega
        have hii : (n5 : Int) ≤ (i : Int) := by omega
        have htk : zs.take i = zs := List.take_of_length_le (by have := hlen.out; omega)
        rw [htk] at hacc
        have hs1 := sum_len (zs := zs) H5.out.2.2.2.2.2 Hz.out
        have HT := Lib.hid (told_any hacc (by omega))
        have Hst := Lib.hid hbel
        clear hacc hi' htk hs1 hbel
        go_wp2_with fail
        refine HT.out.mono ?_
        rintro e w7 ⟨t1, t2, hb7⟩
        obtain ⟨sn, bn, cd, rfl, hans⟩ := ans_form (ok := True) ⟨fun _ => t1, fun _ => t2, fun h => absurd trivial h, hb7⟩
        have hbw7 := Hst.out.trans (hb7.mono Hst.out.size)
        have n1 := H5.out.1.below hbw7 (by have := H5.out.2.2.2.2.1; omega)
        have hbw := H5.out.2.1.trans (hbw7.mono (by have := H5.out.2.2.2.2.1; omega))
        have d0 : w7.cell? ⟨w.heap.size, 0, none⟩ = some (.bool false) := n1.cell 0
        have d1 : w7.cell? ⟨w.heap.size, 1, none⟩ = some (.string ⟨#[]⟩) := n1.cell 1
        have d2 := n1.frozen 0
        have d3 := n1.frozen 1
        have Ha := Lib.hid (And.intro (fun W => hans w W) hbw)
        clear t1 t2 hb7 hans hbw7 n1 hbw
        go_wp2_with fail
        refine bodyPost_ret (v := .tuple #[.agg #[.bool sn, .string bn], .int .i64 cd]) (by simp [results, Try.results14, go_sem, d0, d1]) rfl ?_
        have := Ha.out.1 _ ((Ha.out.2.setCell (p := ⟨w.heap.size, 0, none⟩) (Nat.le_refl _) (.bool sn)).setCell (p := ⟨w.heap.size, 1, none⟩) (Nat.le_refl _) (.string bn))
        rw [Hzs.out] at this
        exact ⟨fun _ h => this.1 trivial h, fun _ h => this.2.1 trivial h, fun h => absurd Hm.out h, this.2.2.2⟩
  · obtain ⟨A5, n5, c5, rfl, hb5⟩ := h2 hm
    have m1 := Hb.out.2.below hb5 (by simp)
    have hb05 := Hb.out.1.trans (hb5.mono (by simp))
    have d0 : w5.cell? ⟨w.heap.size, 0, none⟩ = some (.bool false) := m1.cell 0
    have d1 : w5.cell? ⟨w.heap.size, 1, none⟩ = some (.string ⟨#[]⟩) := m1.cell 1
    have d2 := m1.frozen 0
    have d3 := m1.frozen 1
    have H5 := Lib.hid hb05
    have Hm := Lib.hid hm
    clear h1 h2 hb5 hb05 m1 hm
    go_wp2_with fail
    refine bodyPost_ret (v := .tuple #[.agg #[.bool false, .string ⟨#[]⟩], .int .i64 2]) (by simp [results, Try.results14, go_sem, d0, d1]) rfl ?_
    exact ⟨fun h => absurd h Hm.out, fun h => absurd h Hm.out, fun _ => rfl, (H5.out.setCell (p := ⟨w.heap.size, 0, none⟩) (Nat.le_refl _) _).setCell (p := ⟨w.heap.size, 1, none⟩) (Nat.le_refl _) _⟩
/-- the greatest divisor of all -/
def gcdl (zs : List Int) : Nat := zs.foldl (fun g z => Nat.gcd g z.natAbs) 0
theorem gcdl_take {zs : List Int} {i : Nat} (h : i < zs.length) : gcdl (zs.take (i + 1)) = Nat.gcd (gcdl (zs.take i)) zs[i].natAbs := by
  unfold gcdl
  rw [List.take_succ_eq_append_getElem h, List.foldl_append]
  rfl
theorem gcd_bl {g z : Nat} (hg : bl g ≤ 131072) (hz : bl z ≤ 131072) : bl (Nat.gcd g z) ≤ 131072 := by
  rcases Nat.eq_zero_or_pos g with h | h
  · rw [h, Nat.gcd_zero_left]; exact hz
  · exact bl_mono (Nat.gcd_le_left z h) hg
theorem gcdl_bl : ∀ {zs : List Int} {g : Nat}, bl g ≤ 131072 → (∀ z ∈ zs, bl z.natAbs ≤ 131072) → bl (zs.foldl (fun g z => Nat.gcd g z.natAbs) g) ≤ 131072
  | [], _, h, _ => h
  | z :: zs, g, h, hz => by
    rw [List.foldl_cons]
    exact gcdl_bl (gcd_bl h (hz z (by simp))) (fun y hy => hz y (by simp [hy]))
theorem gcdl_fits {zs : List Int} (h : ∀ z ∈ zs, bl z.natAbs ≤ 131072) : bl (gcdl zs) ≤ 131072 := gcdl_bl (Nat.le_trans ((bl_lt (k := 1)).2 (by decide)) (by decide)) h
theorem gcdl_len {zs : List Int} (h : ∀ z ∈ zs, bl z.natAbs ≤ 131072) : (wds (gcdl zs)).length ≤ 5000 := Nat.le_trans (len_bl (k := 4096) (gcdl_fits h)) (by omega)
set_option maxRecDepth 100000 in
set_option maxHeartbeats 8000000 in
theorem wgcd_any {w : World} {B n c : Nat} {A : Option Addr} {l : List (Bool × ByteArray)} (hr : ReadsWh w B A l) (hB : B ≤ w.heap.size) (hn : n = l.length) (hnl : n ≤ 100000) :
    Calls Try.prog 15 #[.slice A n c] w (Ans w (AllMay l) (gcdl (l.map num) : Int)) := by
  have hb1 := new_below w (.cells #[.bool false, .string ⟨#[]⟩] 26)
  have k1 := Blk.new w 26 #[.bool false, .string ⟨#[]⟩]
  have hO := ofs_any (c := c) (Reads.alloc hr hB (.cells #[.bool false, .string ⟨#[]⟩] 26)) (by simp; omega) hn hnl
  have HO := Lib.hid hO
  have Hb := Lib.hid (And.intro hb1 k1)
  have Hn := Lib.hid (And.intro hn hnl)
  clear hO hb1 k1 hr hn hnl
  go_enter Try.func15, Try.ntmps15
  go_wp2_with fail
  refine HO.out.mono ?_
  rintro e w5 ⟨h1, h2⟩
  by_cases hm : AllMay l
  · obtain ⟨A5, n5, c5, gs, rfl, hlen, hrp, hints, hb5, hge⟩ := h1 hm
    obtain ⟨zs, hzs⟩ : ∃ zs, zs = l.map num := ⟨_, rfl⟩
    rw [← hzs] at hints hlen
    have hbz : ∀ z ∈ zs, bl z.natAbs ≤ 131072 := by
      intro z hz
      rw [hzs] at hz
      obtain ⟨a, ha, rfl⟩ := List.mem_map.1 hz
      exact fits_num (hm a ha)
    have hzl : zs.length ≤ 100000 := by rw [hzs, List.length_map, ← Hn.out.1]; exact Hn.out.2
    have m1 := Hb.out.2.below hb5 (by simp)
    have hb05 := Hb.out.1.trans (hb5.mono (by simp))
    have hsz5 : w.heap.size + 1 ≤ w5.heap.size := by have := hb5.size; simp at this; omega
    have H5 := Lib.hid (And.intro m1 (And.intro hb05 (And.intro hrp (And.intro hints (And.intro hsz5 hbz)))))
    have Hge := Lib.hid hge
    have Hz := Lib.hid hzl
    have Hzs := Lib.hid hzs
    have hn5 : n5 ≤ 100000 := by rw [hlen.out.1, hlen.out.2]; exact hzl
    have Hm := Lib.hid hm
    clear h1 h2 hb5 hge m1 hb05 hrp hints hsz5 hbz hzl hzs hm
    go_wp2_with fail
    go_loopg [20] n5 (fun k iv wr => ∃ i : Nat, iv = .int .i64 (i : Int) ∧ k = n5 - i ∧ i ≤ n5 ∧ Below (w.heap.size + 1) w5 wr ∧ IntB wr w5.heap.size (gcdl (zs.take i) : Int) ∧ Ints wr (gs.drop i) (zs.drop i) ∧ ReadsP wr w5.heap.size A5 gs)
    case atStart => exact ⟨0, rfl, rfl, by omega, (new_below w5 _).mono H5.out.2.2.2.2.1, IntB.zero w5, H5.out.2.2.2.1.keep (fun g _ z hz => hz.below (new_below w5 _)), Reads.alloc H5.out.2.2.1 (Nat.le_refl _) _⟩
    case round =>
      obtain ⟨i, rfl, hk, hi, hbel, hacc, hints, hrp⟩ := hrel
      have Hk := Lib.hid hk
      clear hk
      by_cases hin : i < n5
      · have hig : i < gs.length := by rw [← hlen.out.1]; exact hin
        have hiz : i < zs.length := by rw [← hlen.out.2]; exact hig
        obtain ⟨ad, rfl, hadb, c0'⟩ := hrp.at_ hig
        obtain ⟨hx, hnot, hrest⟩ := hints.at_ hig hiz
        have hii : (i : Int) < (n5 : Int) := by omega
        have hs1 : (wds (gcdl (zs.take i))).length ≤ 5000 := gcdl_len (fun z hz => H5.out.2.2.2.2.2 z (List.mem_of_mem_take hz))
        have hs2 := Nat.le_trans (len_bl (k := 4096) (H5.out.2.2.2.2.2 zs[i] (List.getElem_mem hiz))) (show 4096 ≤ 5000 by omega)
        have hgl := H5.out.2.2.2.1.lt gs[i] (List.getElem_mem hig)
        have hgb := Hge.out gs[i] (List.getElem_mem hig)
        have hst := gcdl_take hiz
        generalize hgi : gs[i] = gi at c0' hx hnot hgl hgb
        generalize zs[i] = zi at hx hs2 hst
        have HA := Lib.hid (abs_any hx.slot hx (by omega))
        have Hst := Lib.hid (And.intro hst (And.intro hbel (And.intro hx.slot (And.intro hacc (And.intro hrest (And.intro hnot (And.intro hrp (And.intro hs1 (And.intro hs2 (And.intro hgl hgb))))))))))
        clear hx hs1 hs2 hst hacc hgi hbel hrest hnot hrp hints hgl hgb
        go_wp2_with fail
        refine HA.out.mono ?_
        rintro e w6 ⟨rfl, hi6, hg6⟩
        have hne : w5.heap.size ≠ gi := by have := Hst.out.2.2.2.2.2.2.2.2.2.1; omega
        have hacc6 := Hst.out.2.2.2.1.off Hst.out.2.2.1 hg6 hne
        have HG := Lib.hid (gcd_any hacc6.slot hacc6 hi6 (by rw [Int.natAbs_natCast]; have := Hst.out.2.2.2.2.2.2.2.1; omega) (by rw [Int.natAbs_natCast]; have := Hst.out.2.2.2.2.2.2.2.2.1; omega))
        have H6 := Lib.hid (And.intro hacc6.slot hg6)
        clear hi6 hacc6 hg6
        go_wp2_with fail
        refine HG.out.mono ?_
        rintro e w7 ⟨rfl, hi7, hg7⟩
        rw [Int.natAbs_natCast, Int.natAbs_natCast, ← Hst.out.1] at hi7
        have hb6 := up_row Hst.out.2.1 H6.out.2 (Nat.le_trans H5.out.2.2.2.2.1 Hst.out.2.1.size) (by have := Hst.out.2.2.2.2.2.2.2.2.2.2; simp at this; omega)
        have hb7 := up_row hb6 hg7 (Nat.le_trans (Nat.le_trans H5.out.2.2.2.2.1 Hst.out.2.1.size) H6.out.2.size) H5.out.2.2.2.2.1
        have hr6 := Hst.out.2.2.2.2.1.keep (w' := w6) (fun g hg z hz => hz.off Hst.out.2.2.1 H6.out.2 (fun h => Hst.out.2.2.2.2.2.1 (h ▸ hg)))
        have hr7 := hr6.keep (w' := w7) (fun g hg z hz => hz.off H6.out.1 hg7 (fun h => by
          have := H5.out.2.2.2.1.lt g (List.mem_of_mem_drop hg)
          omega))
        have hp7 := (Hst.out.2.2.2.2.2.2.1.off Hst.out.2.2.1 H6.out.2).off H6.out.1 hg7
        have H7 := Lib.hid (And.intro hb7 (And.intro hi7 (And.intro hr7 hp7)))
        clear hi7 hg7 hb6 hb7 hr6 hr7 hp7
        go_wp2_with fail
        go_roundg (n5 - (i + 1))
        case measure => have := Hk.out; omega
        case rel => exact ⟨i + 1, rfl, rfl, by omega, H7.out.1, H7.out.2.1, H7.out.2.2.1, H7.out.2.2.2⟩
      · have hi' : i = n5 := by omega
        have hii : (n5 : Int) ≤ (i : Int) := by omega
        have htk : zs.take i = zs := List.take_of_length_le (by have := hlen.out; omega)
        rw [htk] at hacc
        have hs1 := gcdl_len (zs := zs) H5.out.2.2.2.2.2
        have HT := Lib.hid (told_any hacc (by rw [Int.natAbs_natCast]; omega))
        have Hst := Lib.hid hbel
        clear hacc hi' htk hs1 hbel
        go_wp2_with fail
        refine HT.out.mono ?_
        rintro e w7 ⟨t1, t2, hb7⟩
        obtain ⟨sn, bn, cd, rfl, hans⟩ := ans_form (ok := True) ⟨fun _ => t1, fun _ => t2, fun h => absurd trivial h, hb7⟩
        have hbw7 := Hst.out.trans (hb7.mono (Nat.le_trans H5.out.2.2.2.2.1 Hst.out.size))
        have n1 := H5.out.1.below hbw7 (by omega)
        have hbw := H5.out.2.1.trans (hbw7.mono (by omega))
        have d0 : w7.cell? ⟨w.heap.size, 0, none⟩ = some (.bool false) := n1.cell 0
        have d1 : w7.cell? ⟨w.heap.size, 1, none⟩ = some (.string ⟨#[]⟩) := n1.cell 1
        have d2 := n1.frozen 0
        have d3 := n1.frozen 1
        have Ha := Lib.hid (And.intro (fun W => hans w W) hbw)
        clear t1 t2 hb7 hans hbw7 n1 hbw
        go_wp2_with fail
        refine bodyPost_ret (v := .tuple #[.agg #[.bool sn, .string bn], .int .i64 cd]) (by simp [results, Try.results15, go_sem, d0, d1]) rfl ?_
        have := Ha.out.1 _ ((Ha.out.2.setCell (p := ⟨w.heap.size, 0, none⟩) (Nat.le_refl _) (.bool sn)).setCell (p := ⟨w.heap.size, 1, none⟩) (Nat.le_refl _) (.string bn))
        rw [Hzs.out] at this
        exact ⟨fun _ h => this.1 trivial h, fun _ h => this.2.1 trivial h, fun h => absurd Hm.out h, this.2.2.2⟩
  · obtain ⟨A5, n5, c5, rfl, hb5⟩ := h2 hm
    have m1 := Hb.out.2.below hb5 (by simp)
    have hb05 := Hb.out.1.trans (hb5.mono (by simp))
    have d0 : w5.cell? ⟨w.heap.size, 0, none⟩ = some (.bool false) := m1.cell 0
    have d1 : w5.cell? ⟨w.heap.size, 1, none⟩ = some (.string ⟨#[]⟩) := m1.cell 1
    have d2 := m1.frozen 0
    have d3 := m1.frozen 1
    have H5 := Lib.hid hb05
    have Hm := Lib.hid hm
    clear h1 h2 hb5 hb05 m1 hm
    go_wp2_with fail
    refine bodyPost_ret (v := .tuple #[.agg #[.bool false, .string ⟨#[]⟩], .int .i64 2]) (by simp [results, Try.results15, go_sem, d0, d1]) rfl ?_
    exact ⟨fun h => absurd h Hm.out, fun h => absurd h Hm.out, fun _ => rfl, (H5.out.setCell (p := ⟨w.heap.size, 0, none⟩) (Nat.le_refl _) _).setCell (p := ⟨w.heap.size, 1, none⟩) (Nat.le_refl _) _⟩
end Go.Proofs.Ytpnginnjbdedbaa

/- What the laws on whole numbers share: num, ok, enc's form. -/
namespace Go.Proofs.Ytpnginnjbdedbaa
open Go.RowKit
open Wh
set_option linter.unusedSimpArgs false

set_option maxRecDepth 100000 in
theorem num_any {w : World} {n : Int} : Calls Try.prog 23 #[.int .i64 n] w (fun e w' => e = .returned (.int .i64 n) ∧ w = w') := by
  go_enter Try.func23, Try.ntmps23
  go_wp2
  go_ret
  exact ⟨rfl, rfl⟩
theorem reads_zero {w : World} {B n k : Nat} {A : Option Addr} (h : Reads w B 1 A n (List.replicate n (.int .i64 0))) (hk : k < n) : ∃ ad, A = some ad ∧ w.cell? (ad.add k) = some (.int .i64 0) := by
  obtain ⟨ad, u, e, _, hu, hc⟩ := h.at_ hk
  refine ⟨ad, e, ?_⟩
  rw [hc]
  rw [List.getElem?_replicate, if_pos hk] at hu
  exact hu.symm
set_option maxRecDepth 100000 in
set_option maxHeartbeats 1000000 in
theorem ok_any {w : World} {B n c : Nat} {A : Option Addr} (h : Reads w B 1 A n (List.replicate n (.int .i64 0))) (hn : n ≤ 100) :
    Calls Try.prog 52 #[.slice A n c] w (fun e w' => e = .returned (.bool true) ∧ w = w') := by
  go_enter Try.func52, Try.ntmps52
  go_wp2_with fail
  go_loopg [3] n (fun k iv wr => ∃ i : Nat, iv = .int .i64 (i : Int) ∧ k = n - i ∧ i ≤ n ∧ w = wr)
  case atStart => exact ⟨0, rfl, rfl, by omega, rfl⟩
  case round =>
    obtain ⟨i, rfl, hk, hi, rfl⟩ := hrel
    have Hk := Lib.hid hk
    clear hk
    by_cases hin : i < n
    · obtain ⟨ad, rfl, c0⟩ := reads_zero h hin
      have hii : (i : Int) < (n : Int) := by omega
      have HN := Lib.hid (num_any (w := w) (n := 0))
      clear h
      go_wp2_with fail
      refine HN.out.mono ?_
      rintro e w6 ⟨rfl, rfl⟩
      go_wp2_with fail
      go_roundg (n - (i + 1))
      case measure => have := Hk.out; omega
      case rel => exact ⟨i + 1, rfl, rfl, by omega, rfl⟩
    · have hii : (n : Int) ≤ (i : Int) := by omega
      clear h
      go_wp2_with fail
      go_ret
      exact ⟨rfl, rfl⟩
theorem pow_bytes (k : Nat) : 256 ^ k = 2 ^ (8 * k) := by rw [show (256 : Nat) = 2 ^ 8 by decide, ← Nat.pow_mul]
theorem bl_bytes {n k : Nat} (h : bl n ≤ 8 * k) : (bys n).length ≤ k := bys_len (by rw [pow_bytes]; exact bl_lt.1 h)
/-- a number's value: a sign and bytes that may be -/
theorem enc_form {z : Int} (hf : fits z) : ∃ s b, enc z = .agg #[.bool s, .string b] ∧ num (s, b) = z ∧ MayL s b.data.toList := by
  refine ⟨_, _, rfl, ?_, ?_, ?_, ?_⟩
  · show sgn _ (bval (bys z.natAbs)) = z
    rw [bval_b, sgn_of]
  · show (bys z.natAbs).length ≤ 16384
    exact bl_bytes (k := 16384) hf
  · intro h
    have h1 : bval (bys z.natAbs) = 0 := by rw [show bys z.natAbs = [] from h]; rfl
    rw [bval_b] at h1
    simp; omega
  · exact formed_b _
theorem fits_small {z : Int} (h : z.natAbs ≤ 18446744073709551615) : fits z := bl_small h
end Go.Proofs.Ytpnginnjbdedbaa

/- The variables of a law in the heap. -/
namespace Go.Proofs.Ytpnginnjbdedbaa
open Go.RowKit
open Wh
set_option linter.unusedSimpArgs false

/-- blocks that a law has made, since w0 -/
def Env (w0 W : World) (l : List (Nat × TypeId × Array Value)) : Prop := Below w0.heap.size w0 W ∧ ∀ x ∈ l, Blk W x.1 x.2.1 x.2.2
section
variable {w0 W W' : World} {l : List (Nat × TypeId × Array Value)} {g : Nat} {t : TypeId} {cs : Array Value}
theorem Env.nil (w : World) : Env w w [] := ⟨Below.refl _ _, fun _ h => by cases h⟩
theorem Env.call (h : Env w0 W l) (hb : Below W.heap.size W W') : Env w0 W' l := ⟨h.1.trans (hb.mono h.1.size), fun x hx => (h.2 x hx).below hb (h.2 x hx).lt⟩
theorem Env.calm (h : Env w0 W l) (hb : W = W') : Env w0 W' l := hb ▸ h
theorem Env.drew (h : Env w0 W l) : Env w0 W.drew l := ⟨h.1.drew, h.2⟩
theorem Env.drewN (h : Env w0 W l) (k : Nat) : Env w0 (W.drewN k) l := ⟨below_drewN h.1 k, h.2⟩
theorem Env.new (h : Env w0 W l) (t : TypeId) (cs : Array Value) : Env w0 (W.alloc (.cells cs t)) ((W.heap.size, t, cs) :: l) :=
  ⟨h.1.alloc h.1.size _, fun x hx => by
    rcases List.mem_cons.1 hx with rfl | hx
    · exact Blk.new W t _
    · exact (h.2 x hx).alloc _⟩
theorem Env.other (h : Env w0 W l) (o : Obj) : Env w0 (W.alloc o) l := ⟨h.1.alloc h.1.size _, fun x hx => (h.2 x hx).alloc _⟩
theorem Env.drop (h : Env w0 W l) (n : Nat) : Env w0 W (l.drop n) := ⟨h.1, fun x hx => h.2 x (List.mem_of_mem_drop hx)⟩
theorem Env.at_ (h : Env w0 W l) (i : Nat) (hx : l[i]? = some (g, t, cs)) : Blk W g t cs := h.2 _ (List.mem_of_getElem? hx)
end
/-- what stands behind the first n statements of a function's text -/
def codeRest : Nat → Code → Code
  | n + 1, .seq _ b => codeRest n b
  | _, c => c
def bodyOf (f : Func) : Code := f.body.getD .skip
/-- Of, of a number whose form is known -/
theorem of_form {w : World} {z : Int} {s : Bool} {b : ByteArray} (h1 : -9223372036854775808 ≤ z) (h2 : z ≤ 9223372036854775807) (he : enc z = .agg #[.bool s, .string b]) :
    Calls Try.prog 41 #[.int .i64 z] w (fun e w' => e = .returned (.agg #[.bool s, .string b]) ∧ Below w.heap.size w w') := by
  have h := of64_any (w := w) h1 h2
  rw [he] at h
  exact h
end Go.Proofs.Ytpnginnjbdedbaa

/- law.works (printed by gen_works.py). -/
namespace Go.Proofs.Ytpnginnjbdedbaa
open Go.RowKit
open Wh
set_option linter.unusedSimpArgs false

theorem txt300 : (⟨(txt (-300)).toArray⟩ : ByteArray) = ⟨#[45, 51, 48, 48]⟩ := by
  have h : txt (-300) = [45, 51, 48, 48] := by
    unfold txt
    rw [if_neg (by decide), if_pos (by decide), show (-300 : Int).natAbs = 300 from rfl, dec_pos (by decide), dec_pos (n := 300 / 10) (by decide), dec_pos (n := 300 / 10 / 10) (by decide), show 300 / 10 / 10 / 10 = 0 from rfl, dec_zero]
    rfl
  rw [h]
set_option maxRecDepth 100000 in
set_option maxHeartbeats 4000000 in
theorem works_any {w : World} : Calls Try.prog 13 #[] w (fun e w' => e = .returned (.bool true) ∧ Below w.heap.size w w') := by
  obtain ⟨s7, b7, e7, n7, m7⟩ := enc_form (z := -7) (fits_small (by decide))
  have HO7 := Lib.hid (fun W : World => of_form (w := W) (by decide) (by decide) e7)
  obtain ⟨s2, b2, e2, n2, m2⟩ := enc_form (z := 2) (fits_small (by decide))
  have HO2 := Lib.hid (fun W : World => of_form (w := W) (by decide) (by decide) e2)
  obtain ⟨s4, b4, e4, n4, m4⟩ := enc_form (z := -4) (fits_small (by decide))
  have HO4 := Lib.hid (fun W : World => of_form (w := W) (by decide) (by decide) e4)
  obtain ⟨s1, b1, e1, n1, m1⟩ := enc_form (z := 1) (fits_small (by decide))
  have HO1 := Lib.hid (fun W : World => of_form (w := W) (by decide) (by decide) e1)
  obtain ⟨s12, b12, e12, n12, m12⟩ := enc_form (z := 12) (fits_small (by decide))
  have HO12 := Lib.hid (fun W : World => of_form (w := W) (by decide) (by decide) e12)
  obtain ⟨s18, b18, e18, n18, m18⟩ := enc_form (z := -18) (fits_small (by decide))
  have HO18 := Lib.hid (fun W : World => of_form (w := W) (by decide) (by decide) e18)
  obtain ⟨s6, b6, e6, n6, m6⟩ := enc_form (z := 6) (fits_small (by decide))
  have HO6 := Lib.hid (fun W : World => of_form (w := W) (by decide) (by decide) e6)
  obtain ⟨s3, b3, e3, n3, m3⟩ := enc_form (z := -300) (fits_small (by decide))
  have HO3 := Lib.hid (fun W : World => of_form (w := W) (by decide) (by decide) e3)
  have HD := Lib.hid (fun W : World => wdiv_any (w := W) (na := s7) (sa := b7) (nb := s2) (sb := b2))
  have HG := Lib.hid (fun W : World => wgcd_any (c := 2) (blk_pair (w := W) (s12, b12) (s18, b18)) (by simp) rfl (by simp))
  have HT := Lib.hid (fun W : World => text_any (w := W) (na := s3) (sa := b3))
  have HN := Lib.hid (fun (W : World) (n : Int) => num_any (w := W) (n := n))
  have HK := Lib.hid (fun W : World => check_no (w := W) (neg := true) (s := ⟨#[]⟩) (fun h => absurd (h.2.1 rfl) (by decide)))
  have Hq := Lib.hid (And.intro (And.intro m7 m2 : May2 (s7, b7) (s2, b2)) (And.intro (show num (s2, b2) ≠ 0 by rw [n2]; decide) (And.intro (show enc (num (s7, b7) / num (s2, b2)) = .agg #[.bool s4, .string b4] by rw [n7, n2]; exact e4) (show enc (num (s7, b7) % num (s2, b2)) = .agg #[.bool s1, .string b1] by rw [n7, n2]; exact e1))))
  have Hg := Lib.hid (And.intro (may2_all.2 (And.intro m12 m18 : May2 (s12, b12) (s18, b18))) (And.intro (show fits (gcdl ([(s12, b12), (s18, b18)].map num) : Int) by rw [List.map_cons, List.map_cons, n12, n18]; exact fits_small (by decide)) (show enc (gcdl ([(s12, b12), (s18, b18)].map num) : Int) = .agg #[.bool s6, .string b6] by rw [List.map_cons, List.map_cons, n12, n18]; exact e6)))
  have Ht := Lib.hid (And.intro m3 (show (⟨(txt (num (s3, b3))).toArray⟩ : ByteArray) = ⟨#[45, 51, 48, 48]⟩ by rw [n3]; exact txt300))
  have E0 := Lib.hid (Env.nil w)
  clear e7 n7 m7 e2 n2 m2 e4 n4 m4 e1 n1 m1 e12 n12 m12 e18 n18 m18 e6 n6 m6 e3 n3 m3
  go_enter Try.func13, Try.ntmps13
  go_upto_region 1 with fail
  go_wp2_with fail
  refine (HO7.out w).mono ?_
  rintro e w1 ⟨rfl, h1⟩
  have E2 := Lib.hid (E0.out.call h1)
  clear h1
  go_wp2_with fail
  refine (HO2.out w1).mono ?_
  rintro e w3 ⟨rfl, h3⟩
  have E4 := Lib.hid (E2.out.call h3)
  clear h3
  go_wp2_with fail
  refine (HD.out w3).mono ?_
  rintro e w5 ⟨_, _, e3, h5⟩
  have e3 := e3 Hq.out.1 Hq.out.2.1
  rw [Hq.out.2.2.1, Hq.out.2.2.2] at e3
  subst e3
  have E6 := Lib.hid (E4.out.call h5)
  clear h5
  go_upto_region 2 with fail
  have E7 : Hid (Env w ((w5.alloc (.cells #[.bool s4, .string b4] 26)).alloc (.cells #[.bool s1, .string b1] 26)) [(w5.heap.size + 1, 26, #[.bool s1, .string b1]), (w5.heap.size, 26, #[.bool s4, .string b4])]) := Lib.hid (by have h := (Env.new (Env.new E6.out 26 #[.bool s4, .string b4]) 26 #[.bool s1, .string b1]); (try simp only [World.size_alloc] at h); exact h)
  generalize ((w5.alloc (.cells #[.bool s4, .string b4] 26)).alloc (.cells #[.bool s1, .string b1] 26)) = W7 at E7 ⊢
  go_wp2_with fail
  refine (HO12.out W7).mono ?_
  rintro e w8 ⟨rfl, h8⟩
  have E9 := Lib.hid (E7.out.call h8)
  clear h8
  go_wp2_with fail
  refine (HO18.out w8).mono ?_
  rintro e w10 ⟨rfl, h10⟩
  have E11 := Lib.hid (E9.out.call h10)
  clear h10
  go_wp2_with fail
  refine (HG.out _).mono ?_
  rintro e w12 ⟨e3, _, _, h12⟩
  have e3 := e3 Hg.out.1 Hg.out.2.1
  rw [Hg.out.2.2] at e3
  subst e3
  have E13 := Lib.hid ((Env.other E11.out (.cells #[.bool s12, .string b12, .bool s18, .string b18] 26)).call h12)
  clear h12
  go_upto_region 3 with fail
  have E14 : Hid (Env w (w12.alloc (.cells #[.bool s6, .string b6] 26)) [(w12.heap.size, 26, #[.bool s6, .string b6]), (w5.heap.size + 1, 26, #[.bool s1, .string b1]), (w5.heap.size, 26, #[.bool s4, .string b4])]) := Lib.hid (by have h := (Env.new E13.out 26 #[.bool s6, .string b6]); (try simp only [World.size_alloc] at h); exact h)
  generalize (w12.alloc (.cells #[.bool s6, .string b6] 26)) = W14 at E14 ⊢
  go_wp2_with fail
  refine (HO3.out W14).mono ?_
  rintro e w15 ⟨rfl, h15⟩
  have E16 := Lib.hid (E14.out.call h15)
  clear h15
  go_wp2_with fail
  refine (HT.out _).mono ?_
  rintro e w17 ⟨e3, _, h17⟩
  have e3 := e3 Ht.out.1
  rw [Ht.out.2] at e3
  subst e3
  have E18 := Lib.hid (E16.out.call h17)
  clear h17
  go_upto_region 4 with fail
  skip
  refine wp_region_noPanic ?_
  refine wp_region_held_drew (S := fun w' => Env w w' [(w12.heap.size, 26, #[.bool s6, .string b6]), (w5.heap.size + 1, 26, #[.bool s1, .string b1]), (w5.heap.size, 26, #[.bool s4, .string b4])]) (by kernel_rfl) (Env.drew E18.out) (fun hHeld => ?_)
  refine wpAnyH_take (i := 0) (oi := Oper.mk (some 27) _ _ _ _ _) (v := ?_) rfl (by kernel_rfl) (by kernel_rfl) (by kernel_rfl) (fun _ _ _ h => h) (Or.inl ⟨by rfl, ?_⟩) (by assumption) ?_
  rotate_left
  · (intro w' hSw; (try dsimp only at hSw); go_simp; try with_reducible rfl)
  try simp only [Act.put, List.setIfInBounds_toArray, List.set_cons_zero, List.set_cons_succ]
  refine wpAnyH_ready (rs := [1]) (by kernel_rfl) (by simp) ?_
  refine AllReadyH.cons (o := Oper.mk (some 28) _ _ _ _ _) rfl (fun K hK => ?_) AllReadyH.nil
  go_simp
  refine (HN.out _ 0).mono ?_
  rintro e w19 ⟨rfl, h19⟩
  subst h19
  have hNext := hHeld
  refine hK.out _ _ hNext (fun _ => ?_)
  clear hK K hHeld
  have hHeld := hNext
  clear hNext
  try simp only [Act.put, List.setIfInBounds_toArray, List.set_cons_zero, List.set_cons_succ]
  refine wpAnyH_take (i := 2) (oi := Oper.mk (some 29) _ _ _ _ _) (v := ?_) rfl (by kernel_rfl) (by kernel_rfl) (by kernel_rfl) (fun _ _ _ h => h) (Or.inl ⟨by rfl, ?_⟩) (by assumption) ?_
  rotate_left
  · (intro w' hSw; (try dsimp only at hSw); go_simp; try with_reducible rfl)
  try simp only [Act.put, List.setIfInBounds_toArray, List.set_cons_zero, List.set_cons_succ]
  refine wpAnyH_take (i := 3) (oi := Oper.mk (some 30) _ _ _ _ _) (v := ?_) rfl (by kernel_rfl) (by kernel_rfl) (by kernel_rfl) (fun _ _ _ h => h) (Or.inl ⟨by rfl, ?_⟩) (by assumption) ?_
  rotate_left
  · (intro w' hSw; (try dsimp only at hSw); go_simp; try with_reducible rfl)
  try simp only [Act.put, List.setIfInBounds_toArray, List.set_cons_zero, List.set_cons_succ]
  refine wpAnyH_take (i := 4) (oi := Oper.mk (some 31) _ _ _ _ _) (v := ?_) rfl (by kernel_rfl) (by kernel_rfl) (by kernel_rfl) (fun _ _ _ h => h) (Or.inl ⟨by rfl, ?_⟩) (by assumption) ?_
  rotate_left
  · (intro w' hSw; (try dsimp only at hSw); have a0 : w'.cell? ⟨w5.heap.size, 0, none⟩ = some (.bool s4) := (Env.at_ hSw 2 rfl).cell 0; have a1 : w'.cell? ⟨w5.heap.size, 1, none⟩ = some (.string b4) := (Env.at_ hSw 2 rfl).cell 1; go_simp; try with_reducible rfl)
  try simp only [Act.put, List.setIfInBounds_toArray, List.set_cons_zero, List.set_cons_succ]
  refine wpAnyH_ready (rs := [5]) (by kernel_rfl) (by simp) ?_
  refine AllReadyH.cons (o := Oper.mk (some 32) _ _ _ _ _) rfl (fun K hK => ?_) AllReadyH.nil
  go_simp
  refine (HO4.out w17.drew).mono ?_
  rintro e w20 ⟨rfl, h20⟩
  have hNext := hHeld.call h20
  refine hK.out _ _ hNext (fun _ => ?_)
  clear hK K hHeld h20
  have hHeld := hNext
  clear hNext
  try simp only [Act.put, List.setIfInBounds_toArray, List.set_cons_zero, List.set_cons_succ]
  refine wpAnyH_take (i := 6) (oi := Oper.mk (some 33) _ _ _ _ _) (v := ?_) rfl (by kernel_rfl) (by kernel_rfl) (by kernel_rfl) (fun _ _ _ h => h) (Or.inl ⟨by rfl, ?_⟩) (by assumption) ?_
  rotate_left
  · (intro w' hSw; (try dsimp only at hSw); go_simp; try with_reducible rfl)
  try simp only [Act.put, List.setIfInBounds_toArray, List.set_cons_zero, List.set_cons_succ]
  refine wpAnyH_take (i := 7) (oi := Oper.mk (some 34) _ _ _ _ _) (v := ?_) rfl (by kernel_rfl) (by kernel_rfl) (by kernel_rfl) (fun _ _ _ h => h) (Or.inl ⟨by rfl, ?_⟩) (by assumption) ?_
  rotate_left
  · (intro w' hSw; (try dsimp only at hSw); go_simp; try with_reducible rfl)
  try simp only [Act.put, List.setIfInBounds_toArray, List.set_cons_zero, List.set_cons_succ]
  refine wpAnyH_take (i := 8) (oi := Oper.mk (some 35) _ _ _ _ _) (v := ?_) rfl (by kernel_rfl) (by kernel_rfl) (by kernel_rfl) (fun _ _ _ h => h) (Or.inl ⟨by rfl, ?_⟩) (by assumption) ?_
  rotate_left
  · (intro w' hSw; (try dsimp only at hSw); go_simp; try with_reducible rfl)
  try simp only [Act.put, List.setIfInBounds_toArray, List.set_cons_zero, List.set_cons_succ]
  refine wpAnyH_take (i := 9) (oi := Oper.mk (some 36) _ _ _ _ _) (v := ?_) rfl (by kernel_rfl) (by kernel_rfl) (by kernel_rfl) (fun _ _ _ h => h) (Or.inl ⟨by rfl, ?_⟩) (by assumption) ?_
  rotate_left
  · (intro w' hSw; (try dsimp only at hSw); have a0 : w'.cell? ⟨w5.heap.size + 1, 0, none⟩ = some (.bool s1) := (Env.at_ hSw 1 rfl).cell 0; have a1 : w'.cell? ⟨w5.heap.size + 1, 1, none⟩ = some (.string b1) := (Env.at_ hSw 1 rfl).cell 1; go_simp; try with_reducible rfl)
  try simp only [Act.put, List.setIfInBounds_toArray, List.set_cons_zero, List.set_cons_succ]
  refine wpAnyH_ready (rs := [10]) (by kernel_rfl) (by simp) ?_
  refine AllReadyH.cons (o := Oper.mk (some 37) _ _ _ _ _) rfl (fun K hK => ?_) AllReadyH.nil
  go_simp
  refine (HO1.out w20).mono ?_
  rintro e w21 ⟨rfl, h21⟩
  have hNext := hHeld.call h21
  refine hK.out _ _ hNext (fun _ => ?_)
  clear hK K hHeld h21
  have hHeld := hNext
  clear hNext
  try simp only [Act.put, List.setIfInBounds_toArray, List.set_cons_zero, List.set_cons_succ]
  refine wpAnyH_take (i := 11) (oi := Oper.mk (some 38) _ _ _ _ _) (v := ?_) rfl (by kernel_rfl) (by kernel_rfl) (by kernel_rfl) (fun _ _ _ h => h) (Or.inl ⟨by rfl, ?_⟩) (by assumption) ?_
  rotate_left
  · (intro w' hSw; (try dsimp only at hSw); go_simp; try with_reducible rfl)
  try simp only [Act.put, List.setIfInBounds_toArray, List.set_cons_zero, List.set_cons_succ]
  refine wpAnyH_take (i := 12) (oi := Oper.mk (some 39) _ _ _ _ _) (v := ?_) rfl (by kernel_rfl) (by kernel_rfl) (by kernel_rfl) (fun _ _ _ h => h) (Or.inl ⟨by rfl, ?_⟩) (by assumption) ?_
  rotate_left
  · (intro w' hSw; (try dsimp only at hSw); go_simp; try with_reducible rfl)
  try simp only [Act.put, List.setIfInBounds_toArray, List.set_cons_zero, List.set_cons_succ]
  refine wpAnyH_take (i := 13) (oi := Oper.mk (some 40) _ _ _ _ _) (v := ?_) rfl (by kernel_rfl) (by kernel_rfl) (by kernel_rfl) (fun _ _ _ h => h) (Or.inl ⟨by rfl, ?_⟩) (by assumption) ?_
  rotate_left
  · (intro w' hSw; (try dsimp only at hSw); go_simp; try with_reducible rfl)
  try simp only [Act.put, List.setIfInBounds_toArray, List.set_cons_zero, List.set_cons_succ]
  refine wpAnyH_take (i := 14) (oi := Oper.mk (some 41) _ _ _ _ _) (v := ?_) rfl (by kernel_rfl) (by kernel_rfl) (by kernel_rfl) (fun _ _ _ h => h) (Or.inl ⟨by rfl, ?_⟩) (by assumption) ?_
  rotate_left
  · (intro w' hSw; (try dsimp only at hSw); go_simp; try with_reducible rfl)
  try simp only [Act.put, List.setIfInBounds_toArray, List.set_cons_zero, List.set_cons_succ]
  refine wpAnyH_ready (rs := [15]) (by kernel_rfl) (by simp) ?_
  refine AllReadyH.cons (o := Oper.mk (some 42) _ _ _ _ _) rfl (fun K hK => ?_) AllReadyH.nil
  go_simp
  refine (HN.out _ 0).mono ?_
  rintro e w22 ⟨rfl, h22⟩
  subst h22
  have hNext := hHeld
  refine hK.out _ _ hNext (fun _ => ?_)
  clear hK K hHeld
  have hHeld := hNext
  clear hNext
  try simp only [Act.put, List.setIfInBounds_toArray, List.set_cons_zero, List.set_cons_succ]
  refine wpAnyH_take (i := 16) (oi := Oper.mk (some 43) _ _ _ _ _) (v := ?_) rfl (by kernel_rfl) (by kernel_rfl) (by kernel_rfl) (fun _ _ _ h => h) (Or.inl ⟨by rfl, ?_⟩) (by assumption) ?_
  rotate_left
  · (intro w' hSw; (try dsimp only at hSw); go_simp; try with_reducible rfl)
  try simp only [Act.put, List.setIfInBounds_toArray, List.set_cons_zero, List.set_cons_succ]
  refine wpAnyH_take (i := 17) (oi := Oper.mk (some 44) _ _ _ _ _) (v := ?_) rfl (by kernel_rfl) (by kernel_rfl) (by kernel_rfl) (fun _ _ _ h => h) (Or.inl ⟨by rfl, ?_⟩) (by assumption) ?_
  rotate_left
  · (intro w' hSw; (try dsimp only at hSw); go_simp; try with_reducible rfl)
  try simp only [Act.put, List.setIfInBounds_toArray, List.set_cons_zero, List.set_cons_succ]
  refine wpAnyH_take (i := 18) (oi := Oper.mk (some 45) _ _ _ _ _) (v := ?_) rfl (by kernel_rfl) (by kernel_rfl) (by kernel_rfl) (fun _ _ _ h => h) (Or.inl ⟨by rfl, ?_⟩) (by assumption) ?_
  rotate_left
  · (intro w' hSw; (try dsimp only at hSw); go_simp; try with_reducible rfl)
  try simp only [Act.put, List.setIfInBounds_toArray, List.set_cons_zero, List.set_cons_succ]
  refine wpAnyH_take (i := 19) (oi := Oper.mk (some 46) _ _ _ _ _) (v := ?_) rfl (by kernel_rfl) (by kernel_rfl) (by kernel_rfl) (fun _ _ _ h => h) (Or.inl ⟨by rfl, ?_⟩) (by assumption) ?_
  rotate_left
  · (intro w' hSw; (try dsimp only at hSw); have a0 : w'.cell? ⟨w12.heap.size, 0, none⟩ = some (.bool s6) := (Env.at_ hSw 0 rfl).cell 0; have a1 : w'.cell? ⟨w12.heap.size, 1, none⟩ = some (.string b6) := (Env.at_ hSw 0 rfl).cell 1; go_simp; try with_reducible rfl)
  try simp only [Act.put, List.setIfInBounds_toArray, List.set_cons_zero, List.set_cons_succ]
  refine wpAnyH_ready (rs := [20]) (by kernel_rfl) (by simp) ?_
  refine AllReadyH.cons (o := Oper.mk (some 47) _ _ _ _ _) rfl (fun K hK => ?_) AllReadyH.nil
  go_simp
  refine (HO6.out w21).mono ?_
  rintro e w23 ⟨rfl, h23⟩
  have hNext := hHeld.call h23
  refine hK.out _ _ hNext (fun _ => ?_)
  clear hK K hHeld h23
  have hHeld := hNext
  clear hNext
  try simp only [Act.put, List.setIfInBounds_toArray, List.set_cons_zero, List.set_cons_succ]
  refine wpAnyH_take (i := 21) (oi := Oper.mk (some 48) _ _ _ _ _) (v := ?_) rfl (by kernel_rfl) (by kernel_rfl) (by kernel_rfl) (fun _ _ _ h => h) (Or.inl ⟨by rfl, ?_⟩) (by assumption) ?_
  rotate_left
  · (intro w' hSw; (try dsimp only at hSw); go_simp; try with_reducible rfl)
  try simp only [Act.put, List.setIfInBounds_toArray, List.set_cons_zero, List.set_cons_succ]
  refine wpAnyH_take (i := 22) (oi := Oper.mk (some 49) _ _ _ _ _) (v := ?_) rfl (by kernel_rfl) (by kernel_rfl) (by kernel_rfl) (fun _ _ _ h => h) (Or.inl ⟨by rfl, ?_⟩) (by assumption) ?_
  rotate_left
  · (intro w' hSw; (try dsimp only at hSw); go_simp; try with_reducible rfl)
  try simp only [Act.put, List.setIfInBounds_toArray, List.set_cons_zero, List.set_cons_succ]
  refine wpAnyH_take (i := 23) (oi := Oper.mk (some 50) _ _ _ _ _) (v := ?_) rfl (by kernel_rfl) (by kernel_rfl) (by kernel_rfl) (fun _ _ _ h => h) (Or.inl ⟨by rfl, ?_⟩) (by assumption) ?_
  rotate_left
  · (intro w' hSw; (try dsimp only at hSw); go_simp; try with_reducible rfl)
  try simp only [Act.put, List.setIfInBounds_toArray, List.set_cons_zero, List.set_cons_succ]
  refine wpAnyH_take (i := 24) (oi := Oper.mk (some 51) _ _ _ _ _) (v := ?_) rfl (by kernel_rfl) (by kernel_rfl) (by kernel_rfl) (fun _ _ _ h => h) (Or.inl ⟨by rfl, ?_⟩) (by assumption) ?_
  rotate_left
  · (intro w' hSw; (try dsimp only at hSw); go_simp; try with_reducible rfl)
  try simp only [Act.put, List.setIfInBounds_toArray, List.set_cons_zero, List.set_cons_succ]
  refine wpAnyH_ready (rs := [25]) (by kernel_rfl) (by simp) ?_
  refine AllReadyH.cons (o := Oper.mk (some 52) _ _ _ _ _) rfl (fun K hK => ?_) AllReadyH.nil
  go_simp
  refine (HN.out _ 0).mono ?_
  rintro e w24 ⟨rfl, h24⟩
  subst h24
  have hNext := hHeld
  refine hK.out _ _ hNext (fun _ => ?_)
  clear hK K hHeld
  have hHeld := hNext
  clear hNext
  try simp only [Act.put, List.setIfInBounds_toArray, List.set_cons_zero, List.set_cons_succ]
  refine wpAnyH_take (i := 26) (oi := Oper.mk (some 53) _ _ _ _ _) (v := ?_) rfl (by kernel_rfl) (by kernel_rfl) (by kernel_rfl) (fun _ _ _ h => h) (Or.inl ⟨by rfl, ?_⟩) (by assumption) ?_
  rotate_left
  · (intro w' hSw; (try dsimp only at hSw); go_simp; try with_reducible rfl)
  try simp only [Act.put, List.setIfInBounds_toArray, List.set_cons_zero, List.set_cons_succ]
  refine wpAnyH_take (i := 27) (oi := Oper.mk (some 54) _ _ _ _ _) (v := ?_) rfl (by kernel_rfl) (by kernel_rfl) (by kernel_rfl) (fun _ _ _ h => h) (Or.inl ⟨by rfl, ?_⟩) (by assumption) ?_
  rotate_left
  · (intro w' hSw; (try dsimp only at hSw); go_simp; try with_reducible rfl)
  try simp only [Act.put, List.setIfInBounds_toArray, List.set_cons_zero, List.set_cons_succ]
  refine wpAnyH_take (i := 28) (oi := Oper.mk (some 55) _ _ _ _ _) (v := ?_) rfl (by kernel_rfl) (by kernel_rfl) (by kernel_rfl) (fun _ _ _ h => h) (Or.inl ⟨by rfl, ?_⟩) (by assumption) ?_
  rotate_left
  · (intro w' hSw; (try dsimp only at hSw); go_simp; try with_reducible rfl)
  try simp only [Act.put, List.setIfInBounds_toArray, List.set_cons_zero, List.set_cons_succ]
  refine wpAnyH_take (i := 29) (oi := Oper.mk (some 56) _ _ _ _ _) (v := ?_) rfl (by kernel_rfl) (by kernel_rfl) (by kernel_rfl) (fun _ _ _ h => h) (Or.inl ⟨by rfl, ?_⟩) (by assumption) ?_
  rotate_left
  · (intro w' hSw; (try dsimp only at hSw); go_simp; try with_reducible rfl)
  try simp only [Act.put, List.setIfInBounds_toArray, List.set_cons_zero, List.set_cons_succ]
  refine wpAnyH_take (i := 30) (oi := Oper.mk (some 57) _ _ _ _ _) (v := ?_) rfl (by kernel_rfl) (by kernel_rfl) (by kernel_rfl) (fun _ _ _ h => h) (Or.inl ⟨by rfl, ?_⟩) (by assumption) ?_
  rotate_left
  · (intro w' hSw; (try dsimp only at hSw); go_simp; try with_reducible rfl)
  try simp only [Act.put, List.setIfInBounds_toArray, List.set_cons_zero, List.set_cons_succ]
  refine wpAnyH_take (i := 31) (oi := Oper.mk (some 58) _ _ _ _ _) (v := ?_) rfl (by kernel_rfl) (by kernel_rfl) (by kernel_rfl) (fun _ _ _ h => h) (Or.inl ⟨by rfl, ?_⟩) (by assumption) ?_
  rotate_left
  · (intro w' hSw; (try dsimp only at hSw); go_simp; try with_reducible rfl)
  try simp only [Act.put, List.setIfInBounds_toArray, List.set_cons_zero, List.set_cons_succ]
  refine wpAnyH_take (i := 32) (oi := Oper.mk (some 59) _ _ _ _ _) (v := ?_) rfl (by kernel_rfl) (by kernel_rfl) (by kernel_rfl) (fun _ _ _ h => h) (Or.inl ⟨by rfl, ?_⟩) (by assumption) ?_
  rotate_left
  · (intro w' hSw; (try dsimp only at hSw); go_simp; try with_reducible rfl)
  try simp only [Act.put, List.setIfInBounds_toArray, List.set_cons_zero, List.set_cons_succ]
  refine wpAnyH_take (i := 33) (oi := Oper.mk (some 60) _ _ _ _ _) (v := ?_) rfl (by kernel_rfl) (by kernel_rfl) (by kernel_rfl) (fun _ _ _ h => h) (Or.inl ⟨by rfl, ?_⟩) (by assumption) ?_
  rotate_left
  · (intro w' hSw; (try dsimp only at hSw); go_simp; try with_reducible rfl)
  try simp only [Act.put, List.setIfInBounds_toArray, List.set_cons_zero, List.set_cons_succ]
  refine wpAnyH_ready (rs := [34]) (by kernel_rfl) (by simp) ?_
  refine AllReadyH.cons (o := Oper.mk (some 61) _ _ _ _ _) rfl (fun K hK => ?_) AllReadyH.nil
  go_simp
  refine (HK.out _).mono ?_
  rintro e w25 ⟨rfl, h25⟩
  have hNext := hHeld.call h25
  refine hK.out _ _ hNext (fun _ => ?_)
  clear hK K hHeld h25
  have hHeld := hNext
  clear hNext
  try simp only [Act.put, List.setIfInBounds_toArray, List.set_cons_zero, List.set_cons_succ]
  refine wpAnyH_ready (rs := [35]) (by kernel_rfl) (by simp) ?_
  refine AllReadyH.cons (o := Oper.mk (some 62) _ _ _ _ _) rfl (fun K hK => ?_) AllReadyH.nil
  go_simp
  refine (HN.out _ 2).mono ?_
  rintro e w26 ⟨rfl, h26⟩
  subst h26
  have hNext := hHeld
  refine hK.out _ _ hNext (fun _ => ?_)
  clear hK K hHeld
  have hHeld := hNext
  clear hNext
  try simp only [Act.put, List.setIfInBounds_toArray, List.set_cons_zero, List.set_cons_succ]
  refine wpAnyH_take (i := 36) (oi := Oper.mk (some 63) _ _ _ _ _) (v := ?_) rfl (by kernel_rfl) (by kernel_rfl) (by kernel_rfl) (fun _ _ _ h => h) (Or.inl ⟨by rfl, ?_⟩) (by assumption) ?_
  rotate_left
  · (intro w' hSw; (try dsimp only at hSw); go_simp; try with_reducible rfl)
  try simp only [Act.put, List.setIfInBounds_toArray, List.set_cons_zero, List.set_cons_succ]
  refine wpAnyH_take (i := 37) (oi := Oper.mk (some 64) _ _ _ _ _) (v := ?_) rfl (by kernel_rfl) (by kernel_rfl) (by kernel_rfl) (fun _ _ _ h => h) (Or.inl ⟨by rfl, ?_⟩) (by assumption) ?_
  rotate_left
  · (intro w' hSw; (try dsimp only at hSw); go_simp; try with_reducible rfl)
  try simp only [Act.put, List.setIfInBounds_toArray, List.set_cons_zero, List.set_cons_succ]
  refine wpAnyH_take (i := 38) (oi := Oper.mk (some 0) _ _ _ _ _) (v := ?_) rfl (by kernel_rfl) (by kernel_rfl) (by kernel_rfl) (fun _ _ _ h => h) (Or.inl ⟨by rfl, ?_⟩) (by assumption) ?_
  rotate_left
  · (intro w' hSw; (try dsimp only at hSw); go_simp; try with_reducible rfl)
  try simp only [Act.put, List.setIfInBounds_toArray, List.set_cons_zero, List.set_cons_succ]
  refine wpAnyH_done (by kernel_rfl) ?_ _
  refine NoPanic.normal ?_
  have E27 := Lib.hid hHeld
  clear hHeld
  go_wp2_with fail
  go_ret
  exact ⟨rfl, E27.out.1⟩
end Go.Proofs.Ytpnginnjbdedbaa

/- Whole numbers' sizes; the plain laws of division, greatest divisors, roots. -/
namespace Go.Proofs.Ytpnginnjbdedbaa
open Go.RowKit
open Wh
set_option linter.unusedSimpArgs false

/-- a number of at most k bits -/
def SB (k : Nat) (z : Int) : Prop := z.natAbs < 2 ^ k
theorem SB.mono {k j : Nat} {z : Int} (h : SB k z) (hk : k ≤ j) : SB j z := Nat.lt_of_lt_of_le h (Nat.pow_le_pow_right (by decide) hk)
theorem SB.bl {k n : Nat} {z : Int} (h : SB k z) (hk : k ≤ n) : bl z.natAbs ≤ n := bl_lt.2 (h.mono hk)
theorem SB.fits {k : Nat} {z : Int} (h : SB k z) (hk : k ≤ 131072) : fits z := h.bl hk
theorem SB.le {k : Nat} {z y : Int} (h : SB k z) (hy : y.natAbs ≤ z.natAbs) : SB k y := Nat.lt_of_le_of_lt hy h
theorem SB.mul {k j : Nat} {x y : Int} (hx : SB k x) (hy : SB j y) : SB (k + j) (x * y) := by
  unfold SB
  rw [Int.natAbs_mul, Nat.pow_add]
  exact Nat.mul_lt_mul'' hx hy
theorem SB.add {k : Nat} {x y : Int} (hx : SB k x) (hy : SB k y) : SB (k + 1) (x + y) := by
  have h1 := Int.natAbs_add_le x y
  unfold SB at *
  rw [Nat.pow_succ]
  omega
theorem SB.sub {k : Nat} {x y : Int} (hx : SB k x) (hy : SB k y) : SB (k + 1) (x - y) := by
  have h1 := Int.natAbs_sub_le x y
  unfold SB at *
  rw [Nat.pow_succ]
  omega
theorem SB.neg {k : Nat} {x : Int} (hx : SB k x) : SB k (-x) := hx.le (by omega)
theorem SB.zero (k : Nat) : SB k 0 := Nat.pow_pos (by decide)
theorem may_sb {n : Bool} {s : ByteArray} {k : Nat} (h : s.size ≤ k) : SB (8 * k) (num (n, s)) := by
  unfold SB num
  rw [sgn_abs, ← pow_bytes]
  have hl : s.data.toList.length = s.size := Array.length_toList
  exact Nat.lt_of_lt_of_le (bval_lt _) (Nat.pow_le_pow_right (by decide) (by show s.data.toList.length ≤ k; omega))
theorem may_num {n : Bool} {s : ByteArray} (h : MayL n s.data.toList) : enc (num (n, s)) = .agg #[.bool n, .string s] := by
  unfold enc num
  rw [sgn_neg, sgn_abs, show bys (bval s.data.toList) = s.data.toList from bys_bval _ _ rfl h.2.2]
  have h1 : (n && decide (0 < bval s.data.toList)) = n := by
    cases n
    · rfl
    · have hne : s.data.toList ≠ [] := fun h0 => absurd (h.2.1 h0) (by decide)
      rw [Bool.true_and, decide_eq_true (bval_pos h.2.2 hne)]
  rw [h1]
theorem enc_zero : enc 0 = .agg #[.bool false, .string ⟨#[]⟩] := by
  unfold enc
  rw [Int.natAbs_zero, bys_zero]
  rfl
theorem enc_one : enc 1 = .agg #[.bool false, .string ⟨#[1]⟩] := by
  unfold enc
  rw [show (1 : Int).natAbs = 1 from rfl, bys_pos (by decide), show 1 / 256 = 0 from rfl, bys_zero]
  rfl
theorem may_none {n : Bool} {s : ByteArray} (hm : MayL n s.data.toList) (h : s.size = 0) : n = false ∧ s = ⟨#[]⟩ := by
  have hl : s.data.toList.length = s.size := Array.length_toList
  have h1 := List.eq_nil_of_length_eq_zero (show s.data.toList.length = 0 by omega)
  exact ⟨hm.2.1 h1, str_empty h1⟩
/-- the form of a number that is not nought -/
theorem form_pos {z : Int} {s : Bool} {b : ByteArray} (hn : num (s, b) = z) (hz : z ≠ 0) : 0 < b.size := by
  rcases Nat.eq_zero_or_pos b.size with h | h
  · exfalso
    have hl : b.data.toList.length = b.size := Array.length_toList
    obtain rfl := str_empty (s := b) (List.eq_nil_of_length_eq_zero (by omega))
    apply hz
    rw [← hn]
    cases s <;> rfl
  · exact h
theorem form_sign {z : Int} {s : Bool} {b : ByteArray} (hn : num (s, b) = z) (hm : MayL s b.data.toList) (hz : 0 ≤ z) : s = false := by
  cases s
  · rfl
  · exfalso
    have hne : b.data.toList ≠ [] := fun h0 => absurd (hm.2.1 h0) (by decide)
    have h1 : 0 < bval b.data.toList := bval_pos hm.2.2 hne
    have h2 : num (true, b) = -(bval b.data.toList : Int) := rfl
    rw [h2] at hn
    omega
theorem gcdl_two (x y : Int) : gcdl [x, y] = Nat.gcd x.natAbs y.natAbs := by
  unfold gcdl
  rw [List.foldl_cons, List.foldl_cons, List.foldl_nil, Nat.gcd_zero_left]
theorem gcdl_swap (x y : Int) : gcdl [y, x] = gcdl [x, y] := by rw [gcdl_two, gcdl_two, Nat.gcd_comm]
theorem gcdl_minus (x y : Int) : gcdl [-y, x] = gcdl [x, y] := by rw [gcdl_two, gcdl_two, Int.natAbs_neg, Nat.gcd_comm]
theorem gcdl_none {x y : Int} (h : (gcdl [x, y] : Int) = 0) : x = 0 ∧ y = 0 := by
  rw [gcdl_two] at h
  have h1 : Nat.gcd x.natAbs y.natAbs = 0 := by omega
  have h2 := Nat.gcd_eq_zero_iff.1 h1
  omega
theorem gcdl_sb {x y : Int} {k : Nat} (hx : SB k x) (hy : SB k y) : SB k (gcdl [x, y] : Int) := by
  unfold SB
  rw [Int.natAbs_natCast, gcdl_two]
  rcases Nat.eq_zero_or_pos x.natAbs with h | h
  · rw [h, Nat.gcd_zero_left]; exact hy
  · exact Nat.lt_of_le_of_lt (Nat.gcd_le_left _ h) hx
theorem gcd_div_left {x y : Int} : x % (gcdl [x, y] : Int) = 0 := by
  rw [gcdl_two]
  exact Int.emod_eq_zero_of_dvd (Int.ofNat_dvd_left.2 (Nat.gcd_dvd_left _ _))
theorem gcd_div_right {x y : Int} : y % (gcdl [x, y] : Int) = 0 := by
  rw [gcdl_two]
  exact Int.emod_eq_zero_of_dvd (Int.ofNat_dvd_left.2 (Nat.gcd_dvd_right _ _))
theorem gcd_one {x y : Int} (h : (gcdl [x, y] : Int) ≠ 0) : gcdl [x / (gcdl [x, y] : Int), y / (gcdl [x, y] : Int)] = 1 := by
  rw [gcdl_two] at *
  have h0 : 0 < Nat.gcd x.natAbs y.natAbs := by omega
  rw [gcdl_two, Int.natAbs_ediv_of_dvd (Int.ofNat_dvd_left.2 (Nat.gcd_dvd_left _ _)), Int.natAbs_ediv_of_dvd (Int.ofNat_dvd_left.2 (Nat.gcd_dvd_right _ _)), Int.natAbs_natCast]
  exact Nat.coprime_div_gcd_div_gcd h0
end Go.Proofs.Ytpnginnjbdedbaa

/- whole's operations, their answers' forms known. -/
namespace Go.Proofs.Ytpnginnjbdedbaa
open Go.RowKit
open Wh
set_option linter.unusedSimpArgs false

section
variable {w : World} {na nb : Bool} {sa sb : ByteArray} {z : Int} {s : Bool} {b : ByteArray}
/-- a number and no error -/
def T2 (w : World) (s : Bool) (b : ByteArray) (e : Ending) (w' : World) : Prop := e = .returned (.tuple #[.agg #[.bool s, .string b], .int .i64 0]) ∧ Below w.heap.size w w'
theorem ans_told {ok : Prop} {z' : Int} {e : Ending} {w' : World} (h : Ans w ok z' e w') (hok : ok) (hz : z' = z) (hf : fits z) (he : enc z = .agg #[.bool s, .string b]) : T2 w s b e w' := by
  subst hz
  exact ⟨by rw [h.1 hok hf, he], h.2.2.2⟩
theorem add_told (hm : May2 (na, sa) (nb, sb)) (hz : num (na, sa) + num (nb, sb) = z) (hf : fits z) (he : enc z = .agg #[.bool s, .string b]) : Calls Try.prog 27 #[.agg #[.bool na, .string sa], .agg #[.bool nb, .string sb]] w (T2 w s b) :=
  wadd_any.mono fun _ _ h => ans_told h hm hz hf he
theorem sub_told (hm : May2 (na, sa) (nb, sb)) (hz : num (na, sa) - num (nb, sb) = z) (hf : fits z) (he : enc z = .agg #[.bool s, .string b]) : Calls Try.prog 28 #[.agg #[.bool na, .string sa], .agg #[.bool nb, .string sb]] w (T2 w s b) :=
  wsub_any.mono fun _ _ h => ans_told h hm hz hf he
theorem mul_told (hm : May2 (na, sa) (nb, sb)) (hz : num (na, sa) * num (nb, sb) = z) (hf : fits z) (he : enc z = .agg #[.bool s, .string b]) : Calls Try.prog 29 #[.agg #[.bool na, .string sa], .agg #[.bool nb, .string sb]] w (T2 w s b) :=
  wmul_any.mono fun _ _ h => ans_told h hm hz hf he
theorem neg_told (hm : MayL na sa.data.toList) (hz : -num (na, sa) = z) (hf : fits z) (he : enc z = .agg #[.bool s, .string b]) : Calls Try.prog 37 #[.agg #[.bool na, .string sa]] w (T2 w s b) :=
  wneg_any.mono fun _ _ h => ans_told h hm hz hf he
theorem abs_told (hm : MayL na sa.data.toList) (hz : ((num (na, sa)).natAbs : Int) = z) (hf : fits z) (he : enc z = .agg #[.bool s, .string b]) : Calls Try.prog 38 #[.agg #[.bool na, .string sa]] w (T2 w s b) :=
  wabs_any.mono fun _ _ h => ans_told h hm hz hf he
/-- the greatest divisor of two that were laid side by side -/
theorem gcd_told (hm : May2 (na, sa) (nb, sb)) (hz : (gcdl [num (na, sa), num (nb, sb)] : Int) = z) (hf : fits z) (he : enc z = .agg #[.bool s, .string b]) :
    Calls Try.prog 15 #[.slice (some ⟨w.heap.size, 0, none⟩) 2 2] (w.alloc (.cells #[.bool na, .string sa, .bool nb, .string sb] 26)) (T2 (w.alloc (.cells #[.bool na, .string sa, .bool nb, .string sb] 26)) s b) :=
  (wgcd_any (c := 2) (blk_pair (w := w) (na, sa) (nb, sb)) (by simp) rfl (by simp)).mono fun _ _ h => ans_told h (may2_all.2 hm) hz hf he
theorem cmp_told (hm : May2 (na, sa) (nb, sb)) : Calls Try.prog 26 #[.agg #[.bool na, .string sa], .agg #[.bool nb, .string sb]] w (fun e w' => e = .returned (.tuple #[.int .i64 (cmpI (num (na, sa)) (num (nb, sb))), .int .i64 0]) ∧ Below w.heap.size w w') :=
  wcmp_any.mono fun _ _ h => ⟨h.1 hm, h.2.2⟩
theorem sign_told (hm : MayL na sa.data.toList) : Calls Try.prog 44 #[.agg #[.bool na, .string sa]] w (fun e w' => e = .returned (.int .i64 (sg (num (na, sa)))) ∧ Below w.heap.size w w') :=
  wsign_any.mono fun _ _ h => ⟨h.1 hm, h.2.2⟩
/-- two numbers and no error -/
def T3 (w : World) (s : Bool) (b : ByteArray) (s' : Bool) (b' : ByteArray) (e : Ending) (w' : World) : Prop := e = .returned (.tuple #[.agg #[.bool s, .string b], .agg #[.bool s', .string b'], .int .i64 0]) ∧ Below w.heap.size w w'
theorem div_told {q r : Int} {s' : Bool} {b' : ByteArray} (hm : May2 (na, sa) (nb, sb)) (h0 : num (nb, sb) ≠ 0) (hq : num (na, sa) / num (nb, sb) = q) (hr : num (na, sa) % num (nb, sb) = r) (he : enc q = .agg #[.bool s, .string b]) (he' : enc r = .agg #[.bool s', .string b']) :
    Calls Try.prog 21 #[.agg #[.bool na, .string sa], .agg #[.bool nb, .string sb]] w (T3 w s b s' b') :=
  wdiv_any.mono fun e w' h => by
    have h1 := h.2.2.1 hm h0
    rw [hq, hr, he, he'] at h1
    exact ⟨h1, h.2.2.2⟩
theorem ok_told {n : Nat} (hn : n ≤ 100) : Calls Try.prog 52 #[.slice (some ⟨w.heap.size, 0, none⟩) n n] (w.alloc (.cells (List.replicate n (.int .i64 0)).toArray 27)) (fun e w' => e = .returned (.bool true) ∧ (w.alloc (.cells (List.replicate n (.int .i64 0)).toArray 27)) = w') := by
  refine ok_any (B := w.heap.size + 1) ⟨by simp, fun _ => ⟨_, rfl, Nat.lt_succ_self _, fun j u hu => ?_⟩⟩ hn
  rw [Addr.add_lit, Nat.zero_add, (Blk.new w 27 _).cell j, ← hu]
  rw [List.getElem?_toArray]
end
theorem sg_nonneg {z : Int} (h : 0 ≤ z) : 0 ≤ sg z ∧ sg z ≤ 1 := by
  unfold sg
  by_cases h0 : z = 0
  · simp [h0]
  · rw [if_neg h0, if_neg (by omega)]; omega
theorem cmp_lt {x y : Int} (h : x < y) : cmpI x y = -1 := by unfold cmpI; rw [if_pos h]
theorem cmp_le {x y : Int} (h : x ≤ y) : -1 ≤ cmpI x y ∧ cmpI x y ≤ 0 := by
  unfold cmpI
  by_cases h1 : x < y
  · rw [if_pos h1]; omega
  · rw [if_neg h1, if_neg (by omega)]; omega
theorem root_ex : ∀ m : Nat, ∃ r : Nat, r * r ≤ m ∧ m < (r + 1) * (r + 1)
  | 0 => ⟨0, by decide, by decide⟩
  | m + 1 => by
    obtain ⟨r, h1, h2⟩ := root_ex m
    by_cases h : m + 1 < (r + 1) * (r + 1)
    · exact ⟨r, by omega, h⟩
    · refine ⟨r + 1, by omega, ?_⟩
      have : (r + 1 + 1) * (r + 1 + 1) = (r + 1) * (r + 1) + (r + 1) + (r + 1) + 1 := by
        rw [Nat.add_mul (r + 1) 1, Nat.mul_add]
        omega
      omega
theorem root_only {m r s : Nat} (h1 : r * r ≤ m) (h2 : m < (r + 1) * (r + 1)) (h3 : s * s ≤ m) (h4 : m < (s + 1) * (s + 1)) : r = s := by
  rcases Nat.lt_trichotomy r s with h | h | h
  · have := Nat.mul_le_mul h h
    simp only [Nat.succ_eq_add_one] at this
    omega
  · exact h
  · have := Nat.mul_le_mul h h
    simp only [Nat.succ_eq_add_one] at this
    omega
theorem root_told {w : World} {sa : ByteArray} {r : Nat} {s s' : Bool} {b b' : ByteArray} (hm : MayL false sa.data.toList) (h1 : r * r ≤ bval sa.data.toList) (h2 : bval sa.data.toList < (r + 1) * (r + 1)) (he : enc (r : Int) = .agg #[.bool s, .string b]) (he' : enc (num (false, sa) - (r : Int) * (r : Int)) = .agg #[.bool s', .string b']) :
    Calls Try.prog 53 #[.agg #[.bool false, .string sa]] w (T3 w s b s' b') :=
  wroot_any.mono fun e w' h => by
    obtain ⟨q, h3, h4, h5⟩ := h.2.2.1 hm rfl
    obtain rfl := root_only h1 h2 h3 h4
    refine ⟨?_, h.2.2.2⟩
    rw [h5, he]
    have : ((bval sa.data.toList : Nat) : Int) - (r : Int) * (r : Int) = num (false, sa) - (r : Int) * (r : Int) := rfl
    rw [this, he']
theorem root_rest {r m : Nat} (h1 : r * r ≤ m) (h2 : m < (r + 1) * (r + 1)) : 0 ≤ (m : Int) - (r : Int) * (r : Int) ∧ (m : Int) - (r : Int) * (r : Int) ≤ (r : Int) + (r : Int) := by
  rw [show (r : Int) * (r : Int) = ((r * r : Nat) : Int) from (Int.natCast_mul r r).symm]
  have : (r + 1) * (r + 1) = r * r + r + r + 1 := by rw [Nat.add_mul, Nat.mul_add]; omega
  rw [this] at h2
  generalize r * r = q at *
  omega
theorem root_small {r m : Nat} (h1 : r * r ≤ m) : r ≤ m := Nat.le_trans (Nat.le_mul_self r) h1
theorem root_sizes {sa : ByteArray} {r k : Nat} (h1 : r * r ≤ bval sa.data.toList) (hs : SB k (num (false, sa))) : SB k (r : Int) ∧ SB k ((r : Int) * (r : Int)) ∧ SB k (num (false, sa) - (r : Int) * (r : Int)) := by
  have he : num (false, sa) = ((bval sa.data.toList : Nat) : Int) := rfl
  have h2 := root_small h1
  rw [show (r : Int) * (r : Int) = ((r * r : Nat) : Int) from (Int.natCast_mul r r).symm]
  rw [he] at hs ⊢
  refine ⟨hs.le ?_, hs.le ?_, hs.le ?_⟩ <;> omega
/-- nothing, by its length -/
theorem str_none {s : ByteArray} (h : s.size = 0) : s.toList.isEmpty = true ∧ s.toList = [] := by
  have hl : s.data.toList.length = s.size := Array.length_toList
  rw [toL]
  have : s.data.toList = [] := List.eq_nil_of_length_eq_zero (by omega)
  rw [this]
  exact ⟨rfl, rfl⟩
end Go.Proofs.Ytpnginnjbdedbaa

/- The reference's Formed, Fits, May, Sign, Neg, Abs. -/
namespace Go.Proofs.Ytpnginnjbdedbaa
open Go.RowKit
open Wh
set_option linter.unusedSimpArgs false

/-- a magnitude that is formed, however long -/
def Fmd (s : ByteArray) : Prop := Formed s.data.toList ∧ s.size ≤ 100000000
theorem Fmd.of_may {n : Bool} {s : ByteArray} (h : MayL n s.data.toList) : Fmd s := ⟨h.2.2, by have hl : s.data.toList.length = s.size := Array.length_toList; have := h.1; omega⟩
theorem Fmd.len {s : ByteArray} (h : Fmd s) : (wds (bval s.data.toList)).length ≤ 25000001 := by
  rw [words_len h.1]
  have hl : s.data.toList.length = s.size := Array.length_toList
  have := h.2
  omega
/-- is a magnitude in its one form? -/
def mayF (n : Bool) (s : ByteArray) : Bool := if s.size = 0 then !n else match s.data.toList.head? with | some b => b != 0 | none => false
theorem mayF_pos {n : Bool} {s : ByteArray} (h : 0 < s.size) : mayF n s = !((s[0].toNat : Int) == 0) := by
  unfold mayF
  rw [if_neg (by omega), str_head h]
  show (s[0] != 0) = _
  rw [bne, Bool.not_inj_iff, Bool.eq_iff_iff, beq_iff_eq, beq_iff_eq, ← UInt8.toNat_inj]
  constructor
  · intro h; rw [h]; rfl
  · intro h; exact Int.ofNat.inj h
/-- may it be? -/
def mayB (n : Bool) (s : ByteArray) : Bool := mayF n s && decide (s.size ≤ 16384)
theorem mayB_iff {n : Bool} {s : ByteArray} : mayB n s = true ↔ MayL n s.data.toList := by
  have hl : s.data.toList.length = s.size := Array.length_toList
  unfold mayB
  rw [Bool.and_eq_true, decide_eq_true_iff]
  rcases Nat.eq_zero_or_pos s.size with h0 | h0
  · have he : s.data.toList = [] := List.eq_nil_of_length_eq_zero (by omega)
    unfold mayF
    rw [if_pos h0]
    constructor
    · rintro ⟨h1, h2⟩
      exact ⟨by omega, fun _ => by simpa using h1, by rw [he]; intro x hx; cases hx⟩
    · rintro ⟨h1, h2, h3⟩
      exact ⟨by rw [h2 he]; rfl, by omega⟩
  · unfold mayF
    rw [if_neg (by omega), str_head h0]
    constructor
    · rintro ⟨h1, h2⟩
      refine ⟨by omega, fun h => by rw [h] at hl; simp at hl; omega, fun x hx => ?_⟩
      rw [str_head h0] at hx
      injection hx with hx
      subst hx
      exact bne_iff_ne.1 h1
    · rintro ⟨h1, h2, h3⟩
      exact ⟨bne_iff_ne.2 (h3 _ (str_head h0)), by omega⟩
theorem mayB_false {n : Bool} {s : ByteArray} : mayB n s = false ↔ ¬ MayL n s.data.toList := by
  rw [← mayB_iff, Bool.not_eq_true]
def Calm (w : World) (v : Value) (e : Ending) (w' : World) : Prop := e = .returned v ∧ Below w.heap.size w w'
set_option maxRecDepth 100000 in
theorem formed_any {w : World} {n : Bool} {s : ByteArray} :
    Calls Try.prog 97 #[.agg #[.bool n, .string s]] w (Calm w (.bool (mayF n s))) := by
  rcases Nat.eq_zero_or_pos s.size with h0 | h0
  · obtain ⟨z1, z2⟩ := str_none h0
    have hm : mayF n s = !n := by unfold mayF; rw [h0]; cases n <;> simp
    rw [hm]
    clear hm h0
    go_enter Try.func97, Try.ntmps97
    go_wp2
    go_ret
    exact ⟨rfl, (Below.refl _ _).alloc (Nat.le_refl _) _⟩
  · obtain ⟨z1, z2⟩ := str_facts h0
    have hi0 : (0 : Int) < (s.size : Int) := by omega
    have hm := mayF_pos (n := n) h0
    rw [hm]
    clear hm
    go_enter Try.func97, Try.ntmps97
    go_wp2
    go_ret
    exact ⟨rfl, (Below.refl _ _).alloc (Nat.le_refl _) _⟩
set_option maxRecDepth 100000 in
theorem fits_any {w : World} {n : Bool} {s : ByteArray} :
    Calls Try.prog 73 #[.agg #[.bool n, .string s]] w (Calm w (.bool (decide (s.size ≤ 16384)))) := by
  have hd : decide ((s.size : Int) ≤ 16384) = decide (s.size ≤ 16384) := by rw [decide_eq_decide]; omega
  go_enter Try.func73, Try.ntmps73
  go_wp2
  go_ret
  exact ⟨rfl, (Below.refl _ _).alloc (Nat.le_refl _) _⟩
set_option maxRecDepth 100000 in
theorem may_any {w : World} {n : Bool} {s : ByteArray} :
    Calls Try.prog 61 #[.agg #[.bool n, .string s]] w (Calm w (.bool (mayB n s))) := by
  have E0 := Lib.hid (Env.new (Env.nil w) 26 #[.bool n, .string s])
  have HA := Lib.hid (fun W : World => formed_any (w := W) (n := n) (s := s))
  have HB := Lib.hid (fun W : World => fits_any (w := W) (n := n) (s := s))
  have hm : (mayF n s && decide (s.size ≤ 16384)) = mayB n s := rfl
  have Hm := Lib.hid hm
  clear hm
  have Hb1 : ∃ b, b = mayF n s := ⟨_, rfl⟩
  obtain ⟨b, hb⟩ := Hb1
  rw [← hb] at HA Hm
  have Hb2 : ∃ b, b = decide (s.size ≤ 16384) := ⟨_, rfl⟩
  obtain ⟨b2, hb2⟩ := Hb2
  rw [← hb2] at HB Hm
  clear hb hb2
  rw [← Hm.out]
  go_enter Try.func61, Try.ntmps61
  go_upto_region 1 with fail
  generalize (w.alloc (.cells #[.bool n, .string s] 26)) = W1 at E0 ⊢
  have c0 := (Env.at_ E0.out 0 rfl).cell 0
  have c1 := (Env.at_ E0.out 0 rfl).cell 1
  simp at c0 c1
  go_wp2_with fail
  refine (HA.out _).mono ?_
  rintro e w2 ⟨rfl, h2⟩
  have E2 := Lib.hid (E0.out.call h2)
  clear c0 c1 h2
  have c0 := (Env.at_ E2.out 0 rfl).cell 0
  have c1 := (Env.at_ E2.out 0 rfl).cell 1
  simp at c0 c1
  cases b
  · go_wp2_with fail
    go_ret
    exact ⟨rfl, E2.out.1⟩
  · go_wp2_with fail
    refine (HB.out _).mono ?_
    rintro e w3 ⟨rfl, h3⟩
    have E3 := Lib.hid (E2.out.call h3)
    clear h3
    go_wp2_with fail
    go_ret
    exact ⟨by simp, E3.out.1⟩
set_option maxRecDepth 100000 in
theorem rsign_any {w : World} {n : Bool} {s : ByteArray} (hf : Fmd s) :
    Calls Try.prog 49 #[.agg #[.bool n, .string s]] w (Calm w (.int .i64 (sg (num (n, s))))) := by
  have hl : s.data.toList.length = s.size := Array.length_toList
  rcases Nat.eq_zero_or_pos s.size with h0 | h0
  · obtain ⟨z1, z2⟩ := str_none h0
    have hz : sg (num (n, s)) = 0 := by
      have he : s.data.toList = [] := List.eq_nil_of_length_eq_zero (by omega)
      unfold num
      rw [he]
      cases n <;> rfl
    rw [hz]
    clear hz hf hl h0
    go_enter Try.func49, Try.ntmps49
    go_wp2
    go_ret
    exact ⟨rfl, (Below.refl _ _).alloc (Nat.le_refl _) _⟩
  · obtain ⟨z1, z2⟩ := str_facts h0
    have hb := bval_pos hf.1 (fun h => by rw [h] at hl; simp at hl; omega)
    rw [sg_num hb]
    clear hf hl h0 hb
    cases n
    · go_enter Try.func49, Try.ntmps49
      go_wp2
      go_ret
      exact ⟨rfl, (Below.refl _ _).alloc (Nat.le_refl _) _⟩
    · go_enter Try.func49, Try.ntmps49
      go_wp2
      go_ret
      exact ⟨rfl, (Below.refl _ _).alloc (Nat.le_refl _) _⟩
theorem enc_neg {n : Bool} {s : ByteArray} (hf : Fmd s) : enc (-num (n, s)) = .agg #[.bool (!n && decide (0 < s.size)), .string s] := by
  have hl : s.data.toList.length = s.size := Array.length_toList
  have h1 : -num (n, s) = sgn (!n) (bval s.data.toList) := by unfold num sgn; cases n <;> simp
  have h2 : (⟨(bys (bval s.data.toList)).toArray⟩ : ByteArray) = s := by rw [bys_bval _ _ rfl hf.1]
  rw [h1]
  rcases Nat.eq_zero_or_pos s.size with h0 | h0
  · have he : s.data.toList = [] := List.eq_nil_of_length_eq_zero (by omega)
    rw [he, bval_nil, enc_nil, h0, str_empty he]
    simp
  · have hb := bval_pos hf.1 (fun h => by rw [h] at hl; simp at hl; omega)
    rw [enc_sgn hb, h2, decide_eq_true h0, Bool.and_true]
theorem enc_abs {n : Bool} {s : ByteArray} (hf : Fmd s) : enc ((num (n, s)).natAbs : Int) = .agg #[.bool false, .string s] := by
  have h2 : (⟨(bys (bval s.data.toList)).toArray⟩ : ByteArray) = s := by rw [bys_bval _ _ rfl hf.1]
  unfold num enc
  rw [Int.natAbs_natCast, sgn_abs, h2]
  simp
set_option maxRecDepth 100000 in
theorem rneg_any {w : World} {n : Bool} {s : ByteArray} (hf : Fmd s) :
    Calls Try.prog 47 #[.agg #[.bool n, .string s]] w (Calm w (enc (-num (n, s)))) := by
  rw [enc_neg hf]
  clear hf
  rcases Nat.eq_zero_or_pos s.size with h0 | h0
  · obtain ⟨z1, z2⟩ := str_none h0
    rw [h0]
    clear h0
    cases n
    · go_enter Try.func47, Try.ntmps47
      go_wp2
      refine bodyPost_ret (v := .agg #[.bool false, .string s]) (by simp [results, Try.results47, go_sem]) rfl ?_
      exact ⟨rfl, ((Below.refl _ _).alloc (Nat.le_refl _) _).alloc (by simp) _⟩
    · go_enter Try.func47, Try.ntmps47
      go_wp2
      refine bodyPost_ret (v := .agg #[.bool false, .string s]) (by simp [results, Try.results47, go_sem]) rfl ?_
      exact ⟨rfl, ((Below.refl _ _).alloc (Nat.le_refl _) _).alloc (by simp) _⟩
  · obtain ⟨z1, z2⟩ := str_facts h0
    rw [decide_eq_true h0]
    clear h0
    cases n
    · go_enter Try.func47, Try.ntmps47
      go_wp2
      refine bodyPost_ret (v := .agg #[.bool true, .string s]) (by simp [results, Try.results47, go_sem]) rfl ?_
      exact ⟨rfl, ((Below.refl _ _).alloc (Nat.le_refl _) _).alloc (by simp) _⟩
    · go_enter Try.func47, Try.ntmps47
      go_wp2
      refine bodyPost_ret (v := .agg #[.bool false, .string s]) (by simp [results, Try.results47, go_sem]) rfl ?_
      exact ⟨rfl, ((Below.refl _ _).alloc (Nat.le_refl _) _).alloc (by simp) _⟩
set_option maxRecDepth 100000 in
theorem rabs_any {w : World} {n : Bool} {s : ByteArray} (hf : Fmd s) :
    Calls Try.prog 48 #[.agg #[.bool n, .string s]] w (Calm w (enc ((num (n, s)).natAbs : Int))) := by
  rw [enc_abs hf]
  clear hf
  go_enter Try.func48, Try.ntmps48
  go_wp2
  refine bodyPost_ret (v := .agg #[.bool false, .string s]) (by simp [results, Try.results48, go_sem]) rfl ?_
  exact ⟨rfl, ((Below.refl _ _).alloc (Nat.le_refl _) _).alloc (by simp) _⟩
end Go.Proofs.Ytpnginnjbdedbaa

/- The reference's up, down (printed by gen_rup.py). -/
namespace Go.Proofs.Ytpnginnjbdedbaa
open Go.RowKit
open Wh
set_option linter.unusedSimpArgs false

theorem up_add {cy x s : Nat} (hs : s < 32) (hc : cy < 2 ^ s) (hx : x < 4294967296) :
    IntKind.u64.wrap ((cy : Int) + IntKind.u64.wrap ((x : Int) * 2 ^ s)) = ((cy + x * 2 ^ s : Nat) : Int) ∧ (cy + x * 2 ^ s) / 4294967296 < 2 ^ s ∧ cy + x * 2 ^ s ≤ 9223372036854775807 := by
  have h1 : (2 : Nat) ^ s ≤ 2 ^ 31 := Nat.pow_le_pow_right (by decide) (by omega)
  have h2 : (x + 1) * 2 ^ s ≤ 4294967296 * 2 ^ s := Nat.mul_le_mul_right _ hx
  rw [Nat.add_mul, Nat.one_mul] at h2
  have e1 : ((x : Int) * 2 ^ s) = ((x * 2 ^ s : Nat) : Int) := by rw [Int.natCast_mul, Int.natCast_pow]; rfl
  refine ⟨?_, ?_, by omega⟩
  · rw [e1]
    generalize x * 2 ^ s = q at *
    rw [IntWalk.u64_in (q : Int) (by omega), IntWalk.u64_in _ (by omega)]
    omega
  · exact (Nat.div_lt_iff_lt_mul (by decide)).2 (by omega)

set_option maxRecDepth 100000 in
set_option maxHeartbeats 2000000 in
theorem rup_some {w : World} {B n m c : Nat} {A : Option Addr} {la : List Nat} (h1 : ReadsW w B A la) (hB : B ≤ w.heap.size) (hm : m = la.length) (hml : m ≤ 1000000000) (hnl : n ≤ 1000000000) (ha : Wd la) (hpos : 0 < m) :
    Calls Try.prog 77 #[.slice A m c, .int .i64 (n : Int)] w (CutW w (val la * 2 ^ n)) := by
  have Hm := Lib.hid hm
  have hmk : ∀ w : World, (Instr.makeSlice 80 (.int .i64 ((n : Int) / 32)) (.int .i64 ((n : Int) / 32 + (m : Int) + 1))).run Try.prog w = .ok (.slice (some ⟨w.heap.size, 0, none⟩) (n / 32) (n / 32 + m + 1)) (w.alloc (.cells (wcells (List.replicate (n / 32 + m + 1) 0)) 98)) := fun w => by
    have := run_makeWc (n / 32) (n / 32 + m + 1) (by omega) (by omega) w
    rw [← this]
    congr 3
  have hm0 : ((m : Int) == 0) = false := by simp; omega
  have hmne : ¬ m = 0 := by omega
  clear hm
  go_enter Try.func77, Try.ntmps77
  go_wp2
  go_loopg [5, 6, 7] m (fun k ov cy iv wr => ∃ (A' : Option Addr) (n' c' i c : Nat) (L : List Nat), ov = .slice A' n' c' ∧ cy = .int .u64 (c : Int) ∧ iv = .int .i64 (i : Int) ∧ k = m - i ∧ i ≤ m ∧ c < 4294967296 ∧ OwnW wr w.heap.size (.slice A' n' c') L ∧ Below w.heap.size w wr ∧
    Hid (L.length = n / 32 + i ∧ Wd L ∧ c < 2 ^ (n % 32) ∧ val L + 4294967296 ^ (n / 32 + i) * c = 2 ^ n * val (la.take i)))
  case atStart => exact ⟨_, _, _, 0, 0, List.replicate (n / 32) 0, rfl, rfl, rfl, by omega, by omega, by omega, OwnW.made w (by omega) (by omega), (Below.refl _ _).alloc (Nat.le_refl _) _, by simp, wd_zeros _, Nat.two_pow_pos _, by simp [val_nil, val_zeros]⟩
  case round =>
    obtain ⟨A', n', c', i, cy, L, rfl, rfl, rfl, hk, hi, hc, hown, hbel, hL⟩ := hrel
    have Hk := Lib.hid hk
    clear hk
    have h1' := h1.below (hbel.mono hB)
    have hsz := hbel.size
    by_cases hin : i < m
    · have hia : i < la.length := by rw [← Hm.out]; exact hin
      obtain ⟨ad, rfl, hb1, c1⟩ := h1'.at_ hia
      have w1 := wd_get ha _ hia
      have hii : (i : Int) < (m : Int) := by omega
      have E1 := Lib.hid (val_take_succ hia)
      clear h1' h1
      generalize hx : la[i] = x at *
      clear hx
      have hlo := up_add (Nat.mod_lt n (by decide)) hL.out.2.2.1 w1
      obtain ⟨T, hT⟩ : ∃ T : Nat, T = cy + x * 2 ^ (n % 32) := ⟨_, rfl⟩
      rw [← hT] at hlo
      obtain ⟨hso, ht1, ht2⟩ := hlo
      have HT := Lib.hid (And.intro hT ht1)
      have hLl : L.length ≤ 2000000000 := by have := hL.out.1; omega
      clear ht1 hT
      go_wp2_with (at_builtin; refine wpW_push rfl (.tmp 36) (.tmp 40) rfl w.heap.size _ L hown rfl (y := T % 4294967296) (by rw [Int.natCast_emod]; rfl) rfl (by omega) (by omega) ?_; intro A2 n2 c2 w1 ho hkeep _)
      rw [show (T : Int) / 4294967296 = ((T / 4294967296 : Nat) : Int) by omega]
      go_roundg (m - (i + 1))
      case measure => have := Hk.out; omega
      case rel =>
        refine ⟨A2, n2, c2, i + 1, T / 4294967296, L ++ [T % 4294967296], rfl, rfl, rfl, rfl, by omega, by omega, ho, hkeep w hbel, ?_⟩
        have hl := hL.out
        refine ⟨by rw [List.length_append, hl.1]; rfl, wd_append.2 ⟨hl.2.1, wd_cons.2 ⟨Nat.mod_lt _ (by decide), wd_nil⟩⟩, HT.out.2, ?_⟩
        rw [val_snoc, hl.1, E1.out, Nat.mul_add, ← Nat.add_assoc, Nat.pow_succ]
        rw [← Nat.mul_assoc (2 ^ n)]
        exact left_step hl.2.2.2 HT.out.1 (left_pow n i).symm
    · have hi' : i = m := by omega
      subst hi'
      have hl := hL.out
      have hz : val (L ++ [cy]) = val la * 2 ^ n := by
        rw [val_snoc, hl.1, hl.2.2.2, List.take_of_length_le (by rw [Hm.out]; exact Nat.le_refl _), Nat.mul_comm]
      have Hz := Lib.hid hz
      have hLl : L.length ≤ 2000000000 := by have := hl.1; omega
      have Hw := Lib.hid (wd_append.2 ⟨hl.2.1, wd_cons.2 ⟨hc, wd_nil⟩⟩)
      have hcc : (cy : Int) % 4294967296 = (cy : Int) := by omega
      clear h1' h1 hz hl
      go_wp2_with (at_builtin; refine wpW_push rfl (.tmp 44) (.tmp 47) rfl w.heap.size _ L hown rfl (y := cy) rfl rfl (by omega) (by omega) ?_; intro A2 n2 c2 w1 ho hkeep _)
      have hcut := rcut_any ho.reads ho.len.1 ho.len.2.1 ho.len.2.2 Hw.out
      have Hc := Lib.hid (And.intro ho hcut)
      have Hk2 := Lib.hid (hkeep w hbel)
      clear ho hcut hkeep
      go_wp2_with (go_at_call 86; refine Hc.out.2.mono ?_; rintro e w' ⟨q, rfl, hq, rfl⟩; have Hq := Lib.hid hq; clear hq)
      go_ret
      have hwt := (wds_take _ _ rfl Hw.out).2
      have hn2 := Hc.out.1.len
      refine ⟨_, _, _, rfl, by rw [← Hz.out]; exact Hq.out, ?_, hn2.2.2, by rw [← Hz.out]; exact reads_cut Hc.out.1.reads Hw.out, Hk2.out⟩
      have := Hq.out
      omega
set_option maxRecDepth 100000 in
theorem rup_none {w : World} {n c : Nat} {A : Option Addr} :
    Calls Try.prog 77 #[.slice A 0 c, .int .i64 (n : Int)] w (CutW w 0) := by
  go_enter Try.func77, Try.ntmps77
  go_wp2
  go_ret
  exact ⟨none, 0, 0, rfl, by rw [wds_zero]; rfl, by omega, by omega, by rw [wds_zero]; exact ReadsW.none_ _ _ _, Below.refl _ _⟩
theorem rup_any {w : World} {B n m c : Nat} {A : Option Addr} {la : List Nat} (h1 : ReadsW w B A la) (hB : B ≤ w.heap.size) (hm : m = la.length) (hml : m ≤ 1000000000) (hnl : n ≤ 1000000000) (ha : Wd la) :
    Calls Try.prog 77 #[.slice A m c, .int .i64 (n : Int)] w (CutW w (val la * 2 ^ n)) := by
  rcases Nat.eq_zero_or_pos m with h | h
  · have h2 : la = [] := List.eq_nil_of_length_eq_zero (by omega)
    subst h2
    rw [h, val_nil, Nat.zero_mul]
    exact rup_none
  · exact rup_some h1 hB hm hml hnl ha h
theorem at_drop (la : List Nat) (k i : Nat) : at_ (la.drop k) i = at_ la (k + i) := by
  unfold at_
  rw [List.getD_eq_getElem?_getD, List.getD_eq_getElem?_getD, List.getElem?_drop]
theorem down_val {la : List Nat} (ha : Wd la) (n : Nat) : val la / 2 ^ n = val (la.drop (n / 32)) / 2 ^ (n % 32) := by
  rcases Nat.lt_or_ge (n / 32) la.length with h | h
  · exact div_words ha (by omega)
  · rw [List.drop_of_length_le h, val_nil, Nat.zero_div]
    refine Nat.div_eq_of_lt ?_
    have h1 := val_lt ha
    have h2 : 4294967296 ^ la.length ≤ 2 ^ n := by
      rw [show (4294967296 : Nat) = 2 ^ 32 by decide, ← Nat.pow_mul]
      exact Nat.pow_le_pow_right (by decide) (by omega)
    omega
theorem down_q {x y s : Nat} : (((y : Int) * 4294967296 + (x : Int)) / 2 ^ s) % 4294967296 = (((x + 4294967296 * y) / 2 ^ s % 4294967296 : Nat) : Int) := by
  rw [Int.natCast_emod, Int.natCast_ediv, Int.natCast_pow]
  congr 2
  omega
set_option maxRecDepth 100000 in
set_option maxHeartbeats 2000000 in
theorem rdown_any {w : World} {B n m c : Nat} {A : Option Addr} {la : List Nat} (h1 : ReadsW w B A la) (hB : B ≤ w.heap.size) (hm : m = la.length) (hml : m ≤ 1000000000) (hnl : n ≤ 1000000000) (ha : Wd la) :
    Calls Try.prog 78 #[.slice A m c, .int .i64 (n : Int)] w (CutW w (val la / 2 ^ n)) := by
  have Hm := Lib.hid (And.intro hm ha)
  have Hv := Lib.hid (down_val ha n)
  have H1 := Lib.hid h1
  obtain ⟨ld, hld⟩ : ∃ ld, ld = la.drop (n / 32) := ⟨_, rfl⟩
  rw [← hld] at Hv
  obtain ⟨p, hp⟩ : ∃ p, p = m - n / 32 := ⟨_, rfl⟩
  have hpl : p = ld.length := by rw [hld, List.length_drop]; omega
  have Hp := Lib.hid (And.intro hp (And.intro hpl hld))
  have hpb : p ≤ 1000000000 := by omega
  clear hm ha h1 hld hp hpl
  go_enter Try.func78, Try.ntmps78
  go_wp2_with fail
  go_loopg [5, 6] p (fun k ov iv wr => ∃ (A' : Option Addr) (n' c' t i : Nat) (L : List Nat), ov = .slice A' n' c' ∧ iv = .int .i64 (i : Int) ∧ Hid (i = n / 32 + t) ∧ k = p - t ∧ t ≤ p ∧ OwnW wr w.heap.size (.slice A' n' c') L ∧ Below w.heap.size w wr ∧
    Hid (L.length = t ∧ Wd L ∧ 2 ^ (n % 32) * val L + at_ ld 0 % 2 ^ (n % 32) = val (ld.take t) + 4294967296 ^ t * (at_ ld t % 2 ^ (n % 32))))
  case atStart => exact ⟨_, _, _, 0, n / 32, [], rfl, rfl, Lib.hid rfl, by omega, by omega, OwnW.nil w _, Below.refl _ _, rfl, wd_nil, by simp [val_nil]⟩
  case round =>
    obtain ⟨A', n', c', t, i, L, rfl, rfl, Hi, hk, ht, hown, hbel, hL⟩ := hrel
    have Hk := Lib.hid hk
    clear hk
    have hsz := hbel.size
    by_cases hin : i < m
    · have hil : i < la.length := by rw [← Hm.out.1]; exact hin
      have hid : t < ld.length := by rw [← Hp.out.2.1]; have := Hp.out.1; have := Hi.out; omega
      have hrd := (H1.out.below (hbel.mono hB))
      have HR' : Calls Try.prog 93 #[.slice A m c, .int .i64 ((i : Int) + 1)] wr.drew (fun e w' => e = .returned (.int .u64 ((at_ la (i + 1) : Nat) : Int)) ∧ w' = wr.drew) := by
        have := rat_any (w := wr.drew) (c := c) (i := i + 1) hrd Hm.out.1 Hm.out.2
        exact this
      obtain ⟨ad, rfl, hb1, c1⟩ := hrd.at_ hil
      have E1 := Lib.hid (And.intro (val_take_succ hid) (And.intro (at_get hid) (at_drop la (n / 32) (t + 1))))
      have hx0 : ld[t] = la[i] := by have := Hp.out.2.2; subst this; rw [List.getElem_drop]; simp only [Hi.out]
      rw [hx0, ← Hp.out.2.2] at E1
      have w1 := wd_get Hm.out.2 _ hil
      have w2 := at_lt Hm.out.2 (i + 1)
      rw [show n / 32 + (t + 1) = i + 1 by have := Hi.out; omega] at E1
      generalize at_ la (i + 1) = y at *
      generalize la[i] = x at *
      have HR := Lib.hid HR'
      have hii : (i : Int) < (m : Int) := by omega
      have hLl : L.length ≤ 2000000000 := by have := hL.out.1; omega
      clear HR' hrd hx0 hil hid
      obtain ⟨S, hS⟩ : ∃ S, S = n % 32 := ⟨_, rfl⟩
      have q4 : (n : Int).tmod 32 = (S : Int) := by rw [hS]; rfl
      have q5 : S ≤ 31 := by omega
      have HS := Lib.hid hS
      clear hS
      have q1 : IntKind.i64.wrap ((i : Int) + 1) = (i : Int) + 1 := IntWalk.i64_in _ (by omega)
      have q2 : IntKind.u64.wrap ((y : Int) * 4294967296) = (y : Int) * 4294967296 := IntWalk.u64_in _ (by omega)
      have q3 : IntKind.u64.wrap ((y : Int) * 4294967296 + (x : Int)) = (y : Int) * 4294967296 + (x : Int) := IntWalk.u64_in _ (by omega)
      go_wp2_with fail
      refine wp_region_noPanic ?_
      refine wp_region_HK (fun w' => w'.cell? (ad.add i) = some (.int .u32 (x : Int))) 14 (by kernel_rfl) c1 (fun hHeld => ?_)
      refine wpHK_pure (i := 0) (oi := Oper.mk (some 16) _ _ _ _ _) (v := ?_) rfl (by kernel_rfl) (by kernel_rfl) (by kernel_rfl) (fun _ _ _ h => h) (Or.inl ⟨by rfl, ?_⟩) ?_
      rotate_left
      · (intro w' _; go_simp; try with_reducible rfl)
      try simp only [Act.put, List.setIfInBounds_toArray, List.set_cons_zero, List.set_cons_succ]
      refine wpHK_pure (i := 1) (oi := Oper.mk (some 17) _ _ _ _ _) (v := ?_) rfl (by kernel_rfl) (by kernel_rfl) (by kernel_rfl) (fun _ _ _ h => h) (Or.inl ⟨by rfl, ?_⟩) ?_
      rotate_left
      · (intro w' _; go_simp; try with_reducible rfl)
      try simp only [Act.put, List.setIfInBounds_toArray, List.set_cons_zero, List.set_cons_succ]
      refine wpHK_pure (i := 2) (oi := Oper.mk (some 18) _ _ _ _ _) (v := ?_) rfl (by kernel_rfl) (by kernel_rfl) (by kernel_rfl) (fun _ _ _ h => h) (Or.inl ⟨by rfl, ?_⟩) ?_
      rotate_left
      · (intro w' _; go_simp; try with_reducible rfl)
      try simp only [Act.put, List.setIfInBounds_toArray, List.set_cons_zero, List.set_cons_succ]
      refine wpHK_pure (i := 5) (oi := Oper.mk (some 21) _ _ _ _ _) (v := ?_) rfl (by kernel_rfl) (by kernel_rfl) (by kernel_rfl) (fun _ _ _ h => h) (Or.inl ⟨by rfl, ?_⟩) ?_
      rotate_left
      · (intro w' _; go_simp; try with_reducible rfl)
      try simp only [Act.put, List.setIfInBounds_toArray, List.set_cons_zero, List.set_cons_succ]
      refine wpHK_pure (i := 6) (oi := Oper.mk (some 22) _ _ _ _ _) (v := ?_) rfl (by kernel_rfl) (by kernel_rfl) (by kernel_rfl) (fun _ _ _ h => h) (Or.inl ⟨by rfl, ?_⟩) ?_
      rotate_left
      · (intro w' _; go_simp; try with_reducible rfl)
      try simp only [Act.put, List.setIfInBounds_toArray, List.set_cons_zero, List.set_cons_succ]
      refine wpHK_pure (i := 7) (oi := Oper.mk (some 23) _ _ _ _ _) (v := ?_) rfl (by kernel_rfl) (by kernel_rfl) (by kernel_rfl) (fun _ _ _ h => h) (Or.inl ⟨by rfl, ?_⟩) ?_
      rotate_left
      · (intro w' _; go_simp; try with_reducible rfl)
      try simp only [Act.put, List.setIfInBounds_toArray, List.set_cons_zero, List.set_cons_succ]
      refine wpHK_pure (i := 11) (oi := Oper.mk (some 27) _ _ _ _ _) (v := ?_) rfl (by kernel_rfl) (by kernel_rfl) (by kernel_rfl) (fun _ _ _ h => h) (Or.inl ⟨by rfl, ?_⟩) ?_
      rotate_left
      · (intro w' _; go_simp; try with_reducible rfl)
      try simp only [Act.put, List.setIfInBounds_toArray, List.set_cons_zero, List.set_cons_succ]
      refine wpHK_pure (i := 12) (oi := Oper.mk (some 28) _ _ _ _ _) (v := ?_) rfl (by kernel_rfl) (by kernel_rfl) (by kernel_rfl) (fun _ _ _ h => h) (Or.inl ⟨by rfl, ?_⟩) ?_
      rotate_left
      · (intro w' _; go_simp; try with_reducible rfl)
      try simp only [Act.put, List.setIfInBounds_toArray, List.set_cons_zero, List.set_cons_succ]
      refine wpHK_take (i := 8) (oi := Oper.mk (some 24) _ _ _ _ _) (v := ?_) rfl (by kernel_rfl) (by kernel_rfl) (by kernel_rfl) (by kernel_rfl) (fun _ _ _ h => h) (Or.inl ⟨by rfl, ?_⟩) (by assumption) ?_
      rotate_left
      · (intro w' hSw; (try dsimp only at hSw); (obtain s1 := hSw); go_simp; try with_reducible rfl)
      try simp only [Act.put, List.setIfInBounds_toArray, List.set_cons_zero, List.set_cons_succ]
      refine wpHK_pure (i := 9) (oi := Oper.mk (some 25) _ _ _ _ _) (v := ?_) rfl (by kernel_rfl) (by kernel_rfl) (by kernel_rfl) (fun _ _ _ h => h) (Or.inl ⟨by rfl, ?_⟩) ?_
      rotate_left
      · (intro w' _; go_simp; try with_reducible rfl)
      try simp only [Act.put, List.setIfInBounds_toArray, List.set_cons_zero, List.set_cons_succ]
      refine wpHK_one (j := 3) (o := Oper.mk (some 19) _ _ _ _ _) rfl (by kernel_rfl) (fun K hK => ?_)
      go_simp
      refine (HR.out).mono ?_
      rintro e w9 ⟨rfl, rfl⟩
      refine hK.out _ _ c1 (fun _ => ?_)
      clear hK K hHeld
      have hHeld := c1
      try simp only [Act.put, List.setIfInBounds_toArray, List.set_cons_zero, List.set_cons_succ]
      refine wpHK_pure (i := 4) (oi := Oper.mk (some 20) _ _ _ _ _) (v := ?_) rfl (by kernel_rfl) (by kernel_rfl) (by kernel_rfl) (fun _ _ _ h => h) (Or.inl ⟨by rfl, ?_⟩) ?_
      rotate_left
      · (intro w' _; go_simp; try with_reducible rfl)
      try simp only [Act.put, List.setIfInBounds_toArray, List.set_cons_zero, List.set_cons_succ]
      refine wpHK_pure (i := 10) (oi := Oper.mk (some 26) _ _ _ _ _) (v := ?_) rfl (by kernel_rfl) (by kernel_rfl) (by kernel_rfl) (fun _ _ _ h => h) (Or.inl ⟨by rfl, ?_⟩) ?_
      rotate_left
      · (intro w' _; go_simp; try with_reducible rfl)
      try simp only [Act.put, List.setIfInBounds_toArray, List.set_cons_zero, List.set_cons_succ]
      refine wpHK_pure (i := 13) (oi := Oper.mk (some 29) _ _ _ _ _) (v := ?_) rfl (by kernel_rfl) (by kernel_rfl) (by kernel_rfl) (fun _ _ _ h => h) (Or.inl ⟨by rfl, ?_⟩) ?_
      rotate_left
      · (intro w' _; go_simp; try with_reducible rfl)
      try simp only [Act.put, List.setIfInBounds_toArray, List.set_cons_zero, List.set_cons_succ]
      refine wpHK_pure (i := 14) (oi := Oper.mk (some 7) _ _ _ _ _) (v := ?_) rfl (by kernel_rfl) (by kernel_rfl) (by kernel_rfl) (fun _ _ _ h => h) (Or.inl ⟨by rfl, ?_⟩) ?_
      rotate_left
      · (intro w' _; go_simp; try with_reducible rfl)
      try simp only [Act.put, List.setIfInBounds_toArray, List.set_cons_zero, List.set_cons_succ]
      refine wpHK_done (by kernel_rfl) ?_ _
      refine NoPanic.normal ?_
      have q6 : (((y : Int) * 4294967296 + (x : Int)) / 2 ^ S) % 4294967296 = (((x + 4294967296 * y) / 2 ^ S % 4294967296 : Nat) : Int) := down_q
      clear q2 q3 q4 q5 c1
      go_wp2_with (at_builtin; refine wpW_push (w := wr.drew) rfl (.tmp 30) (.tmp 34) rfl w.heap.size _ L (hown.drewN 1) rfl (y := (x + 4294967296 * y) / 2 ^ S % 4294967296) (by rw [← q6, Int.tmod_eq_emod_of_nonneg (Int.ediv_nonneg (by omega) (Int.le_of_lt (Int.pow_pos (by decide)))), Int.emod_emod]) rfl (by omega) hbel.size ?_; intro A2 n2 c2 W1 ho hkeep _)
      go_roundg (p - (t + 1))
      case measure => have := Hk.out; have := Hp.out.1; have := Hi.out; omega
      case rel =>
        refine ⟨A2, n2, c2, t + 1, i + 1, L ++ [(x + 4294967296 * y) / 2 ^ S % 4294967296], rfl, rfl, Lib.hid (by have := Hi.out; omega), rfl, by have := Hp.out.1; have := Hi.out; omega, ho, hkeep w hbel.drew, ?_⟩
        have hl := hL.out
        refine ⟨by rw [List.length_append, hl.1]; rfl, wd_append.2 ⟨hl.2.1, wd_cons.2 ⟨Nat.mod_lt _ (by decide), wd_nil⟩⟩, ?_⟩
        have h3 := hl.2.2
        rw [E1.out.2.1] at h3
        rw [val_snoc, hl.1, E1.out.1, ← E1.out.2.2, Nat.pow_succ, HS.out]
        exact right_step h3 (by omega) w1
    · have hi' : t = p := by have := Hp.out.1; have := Hi.out; omega
      subst hi'
      have hL1 := hL.out.1
      have hz : val L = val la / 2 ^ n := by
        have h3 := hL.out.2.2
        rw [List.take_of_length_le (by rw [← Hp.out.2.1]; exact Nat.le_refl _), at_end (i := t) (by rw [← Hp.out.2.1]; exact Nat.le_refl _), Nat.zero_mod, Nat.mul_zero, Nat.add_zero] at h3
        rw [Hv.out, ← right_end h3 (Nat.mod_lt _ (Nat.two_pow_pos _))]
      have HT := Lib.hid (rcut_any hown.reads hown.len.1 hown.len.2.1 hown.len.2.2 hL.out.2.1)
      have H3 := Lib.hid hz
      have Ho := Lib.hid hown
      have Hw := Lib.hid hL.out.2.1
      have him : (m : Int) ≤ (i : Int) := by omega
      clear hL1 hz H1 hown
      go_wp2_with (go_at_call 86; refine HT.out.mono ?_; rintro e w' ⟨q, rfl, hq, rfl⟩; have Hq := Lib.hid hq; clear hq)
      go_ret
      have hwt := (wds_take _ _ rfl Hw.out).2
      have hn2 := Ho.out.len
      refine ⟨_, _, _, rfl, by rw [← H3.out]; exact Hq.out, ?_, hn2.2.2, by rw [← H3.out]; exact reads_cut Ho.out.reads Hw.out, hbel⟩
      have := Hq.out
      omega
end Go.Proofs.Ytpnginnjbdedbaa

/- The reference's fits. -/
namespace Go.Proofs.Ytpnginnjbdedbaa
open Go.RowKit
open Wh
set_option linter.unusedSimpArgs false
set_option linter.unusedVariables false

theorem reads_from {w : World} {g B j : Nat} {l : List Nat} (h : Blk w g 98 (wcells l)) (hB : g < B) : ReadsW w B (some ⟨g, j, none⟩) (l.drop j) := by
  refine ⟨⟨by simp, fun _ => ⟨_, rfl, hB, fun i u hu => ?_⟩⟩, fun _ => ⟨_, _, _, rfl, h⟩⟩
  have := h.cell (j + i)
  rw [wcells_get] at this
  rw [List.getElem?_map, List.getElem?_drop] at hu
  rw [hu] at this
  rw [← this]
  unfold Addr.add
  split
  · rename_i h0; subst h0; rfl
  · rfl
theorem cmpN_nonpos {a b : Nat} : decide (cmpN a b ≤ 0) = decide (a ≤ b) := by
  unfold cmpN
  by_cases h1 : a < b
  · rw [if_pos h1, decide_eq_true (show a ≤ b by omega)]; rfl
  · by_cases h2 : b < a
    · rw [if_neg h1, if_pos h2, decide_eq_false (show ¬ a ≤ b by omega)]; rfl
    · rw [if_neg h1, if_neg h2, decide_eq_true (show a ≤ b by omega)]; rfl
theorem mul_len {x V m : Nat} (hx : x < 4294967296) (hm : (wds V).length ≤ m) : (wds (x * V)).length ≤ m + 1 := by
  refine len_wds ?_
  rw [Nat.pow_succ, Nat.mul_comm]
  exact Nat.mul_lt_mul_of_lt_of_le (lt_of_len hm) (Nat.le_of_lt hx) (by decide)
theorem val_single (x : Nat) : val [x] = x := by rw [val_cons, val_nil, Nat.mul_zero, Nat.add_zero]
set_option maxRecDepth 100000 in
set_option maxHeartbeats 4000000 in
theorem rfits_any {w : World} {g N m d j x V : Nat} {C : Option Addr} {L : List Nat} (hblk : Blk w g 98 (wcells L)) (hv : ReadsW w w.heap.size C (wds V)) (hN : N = L.length) (hm : m = (wds V).length) (hj : j + m + 1 ≤ N) (hw : Wd L) (hx : x ≤ 4294967295) (hNl : N ≤ 1000000000) :
    Calls Try.prog 106 #[.slice (some ⟨g, 0, none⟩) N N, .slice C m d, .int .i64 (j : Int), .int .u64 (x : Int)] w (Calm w (.bool (decide (x * V ≤ val ((L.drop j).take (m + 1)))))) := by
  have hw1 : Wd [x] := wd_cons.2 ⟨by omega, wd_nil⟩
  have hP := rproduct_any (reads_blk (Blk.new w 98 (wcells [x])) (Nat.lt_succ_self _)) (hv.alloc (Nat.le_refl _) (.cells (wcells [x]) 98) |>.more (Nat.le_succ _)) (by simp) (n := 1) (m := m) (c := 1) (d := d) rfl hm (by omega) (by omega) hw1 (wd_w V)
  rw [val_w, val_single] at hP
  have HP := Lib.hid hP
  have Hh := Lib.hid (And.intro hblk (And.intro hN (And.intro hm hw)))
  clear hP hw1 hblk hN hm hw hv
  go_enter Try.func106, Try.ntmps106
  go_wp2_with fail
  refine HP.out.mono ?_
  rintro e w2 ⟨A2, n2, c2, rfl, hn2, hc2a, hc2b, hr2, hb2⟩
  have hblk2 := (Hh.out.1.alloc (.cells (wcells [x]) 98)).below hb2 (by have := Hh.out.1.lt; simp; omega)
  have hb0 := (new_below w (.cells (wcells [x]) 98)).trans (hb2.mono (by simp))
  obtain ⟨M, hM⟩ : ∃ M, M = (L.drop j).take (m + 1) := ⟨_, rfl⟩
  have hrM : ReadsW w2 w2.heap.size (some ⟨g, j, none⟩) M := by rw [hM]; exact (reads_from hblk2 hblk2.lt).take _
  have hwM : Wd M := by rw [hM]; exact wd_take (wd_drop Hh.out.2.2.2 _) _
  have hlM : j + m + 1 - j = M.length := by rw [hM, List.length_take, List.length_drop]; have := Hh.out.2.1; omega
  have hC := rcut_any hrM (c := N - j) hlM (by omega) (by omega) hwM
  have hrc := reads_cut hrM hwM
  have HM := Lib.hid hM
  have hU := fun (n3 : Nat) (h3 : n3 = (wds (val M)).length) (hl3 : n3 ≤ 1000000000) => runder_any (c := c2) (d := N - j) hr2 hrc hn2.out h3 (by have := hn2.out; have := mul_len (x := x) (V := V) (m := m) (by omega) (by rw [Hh.out.2.2.1]; exact Nat.le_refl _); omega) (by omega)
  have hlw := (wds_take _ _ rfl hwM).2
  have Hm := Lib.hid (And.intro hlw hlM)
  have HU := Lib.hid hU
  have HC := Lib.hid hC
  have Hb0 := Lib.hid hb0
  clear hU hC hrc hrM hwM hlM hM hblk2 hb0 hb2 hr2 hn2 hlw
  go_wp2_with fail
  refine HC.out.mono ?_
  rintro e w3 ⟨m3, rfl, hm3, rfl⟩
  have HU2 := Lib.hid (HU.out m3 hm3 (by have := Hm.out; omega))
  clear hm3
  go_wp2_with fail
  refine HU2.out.mono ?_
  rintro e w4 ⟨q, rfl, rfl⟩
  go_wp2_with fail
  go_ret
  exact ⟨by rw [← HM.out]; exact congrArg (fun b => Ending.returned (.bool b)) cmpN_nonpos, below_drewN Hb0.out _⟩
end Go.Proofs.Ytpnginnjbdedbaa
