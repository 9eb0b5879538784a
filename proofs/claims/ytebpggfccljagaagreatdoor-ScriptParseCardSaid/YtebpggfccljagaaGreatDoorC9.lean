import Derived.Test.YtebpggfccljagaaGreatDoorC4
import Derived.Test.YtebpggfccljagaaGreatDoorC5
import Derived.Test.YtebpggfccljagaaGreatDoorC8
import Derived.Test.YtebpggfccljagaaGreatDoorC7
namespace Go.Proofs.YtebpggfccljagaaGreatDoor
open Go.RowKit
open Wh
set_option linter.unusedSimpArgs false
set_option linter.unusedVariables false
def DigRead (w : World) (neg : Bool) (ds : List UInt8) (e : Ending) (w' : World) : Prop :=
 (AllDig ds → e = .returned (.tuple #[enc (sgn neg (dv ds)), .int .i64 0])) ∧ (¬ AllDig ds → e = .returned (.tuple #[.agg #[.bool false, .string ⟨#[]⟩], .int .i64 120])) ∧ Below w.heap.size w w'
def RReadd (w : World) (l : List UInt8) (e : Ending) (w' : World) : Prop :=
 (Good l → e = .returned (.tuple #[enc (rval l), .int .i64 0])) ∧ (¬ Good l → e = .returned (.tuple #[.agg #[.bool false, .string ⟨#[]⟩], .int .i64 120])) ∧ Below w.heap.size w w'
theorem blk_word (w : World) (P : Nat) : ReadsW (w.alloc (.cells #[.int .u32 (P : Int)] 163)) (w.heap.size + 1) (some ⟨w.heap.size, 0, none⟩) [P] := by
 have := reads_blk (w := w.alloc (.cells #[.int .u32 (P : Int)] 163)) (B := w.heap.size + 1) (l := [P]) (Blk.new w 163 (wcells [P])) (by omega)
 exact this
theorem val_one_ (P : Nat) : val [P] = P := by rw [show [P] = ([] : List Nat) ++ [P] from rfl, val_snoc, val_nil]; simp
theorem digs_len {l : List UInt8} {k : Nat} (h : AllDig l) (hl : l.length ≤ k) : (wds (dv l)).length ≤ k := by
 refine Nat.le_trans (len_wds (k := l.length) ?_) hl
 exact Nat.lt_of_lt_of_le (dv_lt _ l rfl h) (Nat.pow_le_pow_left (by decide) _)
set_option maxRecDepth 100000 in
set_option maxHeartbeats 2000000 in
theorem rread_core {w W : World} {s t : ByteArray} {neg : Bool} {u1 u3 u6 u7 u8 u9 u10 u11 u12 u13 u14 u15 u16 u17 u18 u19 u20 u21 u22 u23 u24 u25 u26 u27 u28 u29 u30 u31 u32 u33 u34 u35 u36 u37 u38 u39 u40 u41 u42 u43 u44 u45 u46 u47 u48 u49 u50 u51 u52 u53 u54 u55 u56 u57 u58 u59 u60 u61 u62 u63 u64 u65 u66 u67 u68 u69 u70 u71 u72 u73 u74 u75 u76 u77 u78 u79 u80 u81 u82 u83 u84 u85 u86 u87 u88 : Value} {Q : Ending → World → Prop} (hl : t.size ≤ 40000) (E0 : Hid (Env w W [(w.heap.size, 34, #[.bool false, .string ⟨#[]⟩])])) (hQ0 : ∀ e w', DigRead w neg t.data.toList e w' → Q e w') :
  (codeRest 5 (bodyOf Tryz.f89)).wp Tryz.prog (bodyPost Tryz.prog Tryz.f89 Q) ⟨#[.string s, u1, .pointer (some ⟨w.heap.size, 0, none⟩), u3, .string t, .bool neg, u6, u7, u8, u9, u10, u11, u12, u13, u14, u15, u16, u17, u18, u19, u20, u21, u22, u23, u24, u25, u26, u27, u28, u29, u30, u31, u32, u33, u34, u35, u36, u37, u38, u39, u40, u41, u42, u43, u44, u45, u46, u47, u48, u49, u50, u51, u52, u53, u54, u55, u56, u57, u58, u59, u60, u61, u62, u63, u64, u65, u66, u67, u68, u69, u70, u71, u72, u73, u74, u75, u76, u77, u78, u79, u80, u81, u82, u83, u84, u85, u86, u87, u88], []⟩ W := by
 conv => enter [2]; dsimp only [codeRest, bodyOf, Tryz.f89, Option.getD_some]
 obtain ⟨ds, hle⟩ : ∃ l, l = t.data.toList := ⟨_, rfl⟩
 have hll : ds.length = t.size := by rw [hle]; exact Array.length_toList
 have hget : ∀ j (h : j < t.size) (h' : j < ds.length), t[j] = ds[j] := by subst hle; intro j h h'; rfl
 rw [← hle] at hQ0
 have hQ := Lib.hid hQ0
 obtain ⟨n, hn⟩ : ∃ n, n = t.size := ⟨_, rfl⟩
 have Hn := Lib.hid (And.intro hn (And.intro hll hget))
 have htn : t.size = n := hn.symm
 have hnl : n ≤ 40000 := by omega
 clear hQ0 hll hle hget hn hl
 go_wp2_with fail
 go_loopg [6, 7] n (fun k lv iv wr => ∃ (A : Option Addr) (m c i V : Nat), lv = .slice A m c ∧ iv = .int .i64 (i : Int) ∧ Hid (k = n - i) ∧ i ≤ n ∧ Hid (m = (wds V).length) ∧ Hid (m ≤ c ∧ c ≤ 9223372036854775807) ∧ Hid (ReadsW wr wr.heap.size A (wds V)) ∧ Hid (Below W.heap.size W wr) ∧ Hid (AllDig (ds.take i) ∧ V = dv (ds.take i)))
 case atStart => exact ⟨none, 0, 0, 0, 0, rfl, rfl, Lib.hid rfl, Nat.zero_le _, Lib.hid (by rw [wds_zero]; rfl), Lib.hid ⟨by omega, by omega⟩, Lib.hid (by rw [wds_zero]; exact ReadsW.none_ _ _ _), Lib.hid (Below.refl _ _), Lib.hid ⟨fun b hb => (by simp at hb), rfl⟩⟩
 case round =>
  obtain ⟨A, m, c, i0, V, rfl, rfl, Hk, hi0, Hm, Hc, Hr, Hb, HV⟩ := hrel
  have HVl := Lib.hid (show (wds V).length ≤ 40000 by rw [HV.out.2]; exact digs_len HV.out.1 (by rw [List.length_take]; omega))
  by_cases hin : i0 < n
  ·have hii : (i0 : Int) < (n : Int) := by omega
   go_wp2_with fail
   go_loopg [7, 8, 9, 10] 9 (fun k iv pv dv_ kv wi => ∃ (q P D : Nat), iv = .int .i64 ((i0 + q : Nat) : Int) ∧ pv = .int .u64 (P : Int) ∧ dv_ = .int .u64 (D : Int) ∧ kv = .int .i64 (q : Int) ∧ Hid (k = 9 - q) ∧ q ≤ 9 ∧ i0 + q ≤ n ∧ P ≤ 1000000000 ∧ D ≤ 999999999 ∧ Hid (P = 10 ^ q ∧ D = dv ((ds.drop i0).take q) ∧ AllDig (ds.take (i0 + q)) ∧ AllDig ((ds.drop i0).take q)) ∧ wr = wi)
   case atStart => exact ⟨0, 1, 0, rfl, rfl, rfl, rfl, Lib.hid rfl, by omega, by omega, by omega, by omega, Lib.hid ⟨rfl, rfl, HV.out.1, fun b hb => (by simp at hb)⟩, rfl⟩
   case round =>
    obtain ⟨q, P, D, rfl, rfl, rfl, rfl, Hkq, hq, hqn, hP, hD, HP, rfl⟩ := hrel
    obtain ⟨x, hx⟩ : ∃ x, x = i0 + q := ⟨_, rfl⟩
    rw [← hx] at hqn ⊢
    have Hx := Lib.hid hx
    clear hx
    by_cases hgo : q < 9 ∧ x < n
    ·obtain ⟨g1, g2⟩ := hgo
     have hxl : x < ds.length := by have := Hn.out; omega
     have hyi : t[x]'(by omega) = ds[x] := Hn.out.2.2 x (by omega) hxl
     have htake := List.take_succ_eq_append_getElem hxl
     have hdl : q < (ds.drop i0).length := by rw [List.length_drop]; have := Hx.out; omega
     have hdq : (ds.drop i0)[q] = ds[x] := by rw [List.getElem_drop]; simp only [Hx.out]
     have hdt := dv_take hdl
     have hat : ∀ h : AllDig ((ds.drop i0).take q), IsDig ds[x] → AllDig ((ds.drop i0).take (q + 1)) := fun h h2 => allDig_take hdl h (by rw [hdq]; exact h2)
     rw [hdq] at hdt
     have hall : AllDig ds → IsDig ds[x] := fun h => h _ (List.getElem_mem hxl)
     obtain ⟨y, hy⟩ : ∃ y, y = ds[x] := ⟨_, rfl⟩
     rw [← hy] at hyi htake hdt hat hall
     have hyn : (t[x]'(by omega)).toNat = y.toNat := by rw [hyi]
     have Hy := Lib.hid (And.intro htake (And.intro hdt (And.intro hat hall)))
     have hy8 := UInt8.toNat_lt y
     have g3 : (q : Int) < 9 := by omega
     have g4 : (x : Int) < (n : Int) := by omega
     have Hten := Lib.hid (ten_le (n := q + 1) (by omega))
     clear hy hyi htake hdt hat hall hdq hdl hxl
     by_cases hd : IsDig y
     ·have Hd := Lib.hid hd
      obtain ⟨e1, e2⟩ := hd
      have e3 : (48 : Int) ≤ (y.toNat : Int) := by omega
      have e4 : (y.toNat : Int) ≤ 57 := by omega
      go_wp2_with fail
      go_roundg (9 - (q + 1))
      case measure => have := Hkq.out; omega
      case rel =>
       have ha := Hy.out.2.2.1 HP.out.2.2.2 Hd.out
       have hdn : 10 * D + (y.toNat - 48) = dv ((ds.drop i0).take (q + 1)) := by rw [Hy.out.2.1, HP.out.2.1]
       have hlt := dv_lt (q + 1) ((ds.drop i0).take (q + 1)) (by rw [List.length_take, List.length_drop]; have := Hx.out; have := Hn.out; omega) ha
       have hten := Hten.out
       refine ⟨q + 1, P * 10, 10 * D + (y.toNat - 48), ?_, ?_, ?_, rfl, Lib.hid rfl, by omega, by have := Hx.out; omega, ?_, ?_, Lib.hid ⟨by rw [HP.out.1, Nat.pow_succ], hdn, ?_, ha⟩, rfl⟩
       ·have := Hx.out; congr 1; omega
       ·congr 1; omega
       ·congr 1; omega
       ·rw [HP.out.1, ← Nat.pow_succ]; exact hten
       ·rw [← hdn] at hlt; omega
       ·rw [show i0 + (q + 1) = x + 1 by have := Hx.out; omega, Hy.out.1]
        have h5 := HP.out.2.2.1
        rw [← Hx.out] at h5
        exact allDig_app.2 ⟨h5, allDig_cons.2 ⟨Hd.out, fun b hb => by cases hb⟩⟩
     ·have Hno := Lib.hid (fun h : AllDig ds => hd (Hy.out.2.2.2 h))
      have Hd := Lib.hid hd
      have F0 := Lib.hid (E0.out.call Hb.out)
      have n2 := Env.at_ F0.out 0 rfl
      have y0 := n2.cell 0
      have y1 := n2.cell 1
      have y2 := n2.frozen 0
      have y3 := n2.frozen 1
      simp at y0 y1
      clear n2
      rcases Nat.lt_or_ge y.toNat 48 with h1 | h1
      ·have e3 : (y.toNat : Int) < 48 := by omega
       clear hd
       go_wp2_with fail
       refine bodyPost_ret (v := .tuple #[.agg #[.bool false, .string ⟨#[]⟩], .int .i64 120]) (by simp [results, Tryz.results89, go_sem, y0, y1]) rfl ?_
       exact hQ.out _ _ ⟨fun h => absurd h Hno.out, fun _ => rfl, (F0.out.1.setCell (Nat.le_refl w.heap.size) _).setCell (Nat.le_refl w.heap.size) _⟩
      ·have e3 : (48 : Int) ≤ (y.toNat : Int) := by omega
       have e4 : (57 : Int) < (y.toNat : Int) := by
        have := Hd.out
        unfold IsDig at this
        omega
       clear hd
       go_wp2_with fail
       refine bodyPost_ret (v := .tuple #[.agg #[.bool false, .string ⟨#[]⟩], .int .i64 120]) (by simp [results, Tryz.results89, go_sem, y0, y1]) rfl ?_
       exact hQ.out _ _ ⟨fun h => absurd h Hno.out, fun _ => rfl, (F0.out.1.setCell (Nat.le_refl w.heap.size) _).setCell (Nat.le_refl w.heap.size) _⟩
    ·have hq1 : 1 ≤ q := by have := Hx.out; omega
     have hstop : (9 : Int) ≤ (q : Int) ∨ ((q : Int) < 9 ∧ (n : Int) ≤ (x : Int)) := by omega
     have hPw : IntKind.u32.wrap (P : Int) = (P : Int) := by rw [IntKind.wrap_u32]; omega
     have hDw : IntKind.u32.wrap (D : Int) = (D : Int) := by rw [IntKind.wrap_u32]; omega
     have HPr := Lib.hid (fun W2 : World => blk_word W2 P)
     have HDr := Lib.hid (fun W2 : World => blk_word W2 D)
     have hbp := (Below.refl wr.heap.size wr).alloc (Nat.le_refl _) (.cells #[.int .u32 (P : Int)] 163)
     have HM0 := rproduct_any (m := 1) (c := c) (d := 1) ((Hr.out.call hbp).more (by simp)) ((blk_word wr P).more (B' := (wr.alloc (.cells #[.int .u32 (P : Int)] 163)).heap.size) (by simp)) (Nat.le_refl _) Hm.out rfl (by have := Hm.out; have := HVl.out; omega) (by omega) (wd_w _) (wd_cons.2 ⟨by omega, wd_nil⟩)
     rw [val_w, val_one_] at HM0
     have HM := Lib.hid HM0
     have Hbp := Lib.hid hbp
     have Hq1 := Lib.hid hq1
     clear HM0 hbp hgo hq1
     rcases hstop with h9 | h9
     ·go_wp2_with fail
      refine HM.out.mono ?_
      rintro e W2 ⟨A2, m2, c2, rfl, hm2, hc2, hc2', hr2, hb2⟩
      have Hb2 := Lib.hid (Hbp.out.trans (hb2.mono Hbp.out.size))
      have R2 := Lib.hid (And.intro hm2.out hr2)
      have HX0 := rcut_any (c := 1) (HDr.out W2) (by simp : 1 = [D].length) (Nat.le_refl _) (by omega) (wd_cons.2 ⟨by omega, wd_nil⟩)
      have HX := Lib.hid HX0
      clear HX0 hm2 hc2 hc2' hr2 hb2 HM
      go_wp2_with fail
      refine HX.out.mono ?_
      rintro e W3 ⟨m3, rfl, hm3, rfl⟩
      have hbd := (Below.refl W2.heap.size W2).alloc (Nat.le_refl _) (.cells #[.int .u32 (D : Int)] 163)
      have hrd := reads_cut (HDr.out W2) (wd_cons.2 ⟨by omega, wd_nil⟩)
      rw [val_one_] at hm3 hrd
      have hDl : (wds D).length ≤ 1 := len_wds (by omega)
      have hVP : (wds (V * P)).length ≤ 40001 := len_mul HVl.out (len_wds (k := 1) (by omega))
      have HO0 := rmore_any (c := c2) (d := 1) ((R2.out.2.call hbd).more (Nat.le_refl _)) (hrd.more (B' := (W2.alloc (.cells #[.int .u32 (D : Int)] 163)).heap.size) (by simp)) (Nat.le_refl _) R2.out.1 hm3 (by have := R2.out.1; omega) (by omega) (wd_w _) (wd_w _)
      rw [val_w, val_w] at HO0
      have HO := Lib.hid HO0
      have Hbd := Lib.hid (Hb2.out.trans (hbd.mono Hb2.out.size))
      clear HO0 hbd hrd hm3 hDl hVP HX
      go_wp2_with fail
      refine HO.out.mono ?_
      rintro e W4 ⟨A4, m4, c4, rfl, hm4, hc4, hc4', hr4, hb4⟩
      have Hb4 := Lib.hid (Hb.out.trans ((Hbd.out.trans (hb4.mono Hbd.out.size)).mono Hb.out.size))
      have HV4 := Lib.hid (show V * P + D = dv (ds.take x) by
       rw [HV.out.2, HP.out.1, HP.out.2.1, ← dv_app _ q _ (by rw [List.length_take, List.length_drop]; have := Hx.out; have := Hn.out; omega), ← List.take_add, Hx.out])
      have Hr4 := Lib.hid (And.intro hm4.out (And.intro hc4 (And.intro hc4' hr4)))
      clear hm4 hc4 hc4' hr4 hb4 HO Hbd
      go_wp2_with fail
      go_roundg (n - x)
      case measure => have := Hk.out; have := Hx.out; have := Hq1.out; omega
      case rel => exact ⟨A4, m4, c4, x, V * P + D, rfl, rfl, Lib.hid rfl, by omega, Lib.hid Hr4.out.1, Lib.hid ⟨Hr4.out.2.1, Hr4.out.2.2.1⟩, Lib.hid Hr4.out.2.2.2, Hb4, Lib.hid ⟨by have h := HP.out.2.2.1; rwa [← Hx.out] at h, HV4.out⟩⟩
     ·obtain ⟨h91, h92⟩ := h9
      go_wp2_with fail
      refine HM.out.mono ?_
      rintro e W2 ⟨A2, m2, c2, rfl, hm2, hc2, hc2', hr2, hb2⟩
      have Hb2 := Lib.hid (Hbp.out.trans (hb2.mono Hbp.out.size))
      have R2 := Lib.hid (And.intro hm2.out hr2)
      have HX0 := rcut_any (c := 1) (HDr.out W2) (by simp : 1 = [D].length) (Nat.le_refl _) (by omega) (wd_cons.2 ⟨by omega, wd_nil⟩)
      have HX := Lib.hid HX0
      clear HX0 hm2 hc2 hc2' hr2 hb2 HM
      go_wp2_with fail
      refine HX.out.mono ?_
      rintro e W3 ⟨m3, rfl, hm3, rfl⟩
      have hbd := (Below.refl W2.heap.size W2).alloc (Nat.le_refl _) (.cells #[.int .u32 (D : Int)] 163)
      have hrd := reads_cut (HDr.out W2) (wd_cons.2 ⟨by omega, wd_nil⟩)
      rw [val_one_] at hm3 hrd
      have hDl : (wds D).length ≤ 1 := len_wds (by omega)
      have hVP : (wds (V * P)).length ≤ 40001 := len_mul HVl.out (len_wds (k := 1) (by omega))
      have HO0 := rmore_any (c := c2) (d := 1) ((R2.out.2.call hbd).more (Nat.le_refl _)) (hrd.more (B' := (W2.alloc (.cells #[.int .u32 (D : Int)] 163)).heap.size) (by simp)) (Nat.le_refl _) R2.out.1 hm3 (by have := R2.out.1; omega) (by omega) (wd_w _) (wd_w _)
      rw [val_w, val_w] at HO0
      have HO := Lib.hid HO0
      have Hbd := Lib.hid (Hb2.out.trans (hbd.mono Hb2.out.size))
      clear HO0 hbd hrd hm3 hDl hVP HX
      go_wp2_with fail
      refine HO.out.mono ?_
      rintro e W4 ⟨A4, m4, c4, rfl, hm4, hc4, hc4', hr4, hb4⟩
      have Hb4 := Lib.hid (Hb.out.trans ((Hbd.out.trans (hb4.mono Hbd.out.size)).mono Hb.out.size))
      have HV4 := Lib.hid (show V * P + D = dv (ds.take x) by
       rw [HV.out.2, HP.out.1, HP.out.2.1, ← dv_app _ q _ (by rw [List.length_take, List.length_drop]; have := Hx.out; have := Hn.out; omega), ← List.take_add, Hx.out])
      have Hr4 := Lib.hid (And.intro hm4.out (And.intro hc4 (And.intro hc4' hr4)))
      clear hm4 hc4 hc4' hr4 hb4 HO Hbd
      go_wp2_with fail
      go_roundg (n - x)
      case measure => have := Hk.out; have := Hx.out; have := Hq1.out; omega
      case rel => exact ⟨A4, m4, c4, x, V * P + D, rfl, rfl, Lib.hid rfl, by omega, Lib.hid Hr4.out.1, Lib.hid ⟨Hr4.out.2.1, Hr4.out.2.2.1⟩, Lib.hid Hr4.out.2.2.2, Hb4, Lib.hid ⟨by have h := HP.out.2.2.1; rwa [← Hx.out] at h, HV4.out⟩⟩
  ·have hi : i0 = n := by omega
   subst hi
   have hiq : (i0 : Int) ≤ (i0 : Int) := Int.le_refl _
   have hall : AllDig ds := by
    have h := HV.out.1
    rwa [List.take_of_length_le (by have := Hn.out; omega)] at h
   have hval : V = dv ds := by
    have h := HV.out.2
    rwa [List.take_of_length_le (by have := Hn.out; omega)] at h
   have HM0 := made_any (neg := neg) Hr.out (Nat.le_refl _) Hm.out Hc.out.1 Hc.out.2 (by have := Hm.out; have := HVl.out; omega) (wd_w _)
   rw [val_w, hval] at HM0
   obtain ⟨zs, zb, ez⟩ : ∃ s b, enc (sgn neg (dv ds)) = .agg #[.bool s, .string b] := ⟨_, _, rfl⟩
   rw [ez] at HM0
   have HM := Lib.hid HM0
   have Hz := Lib.hid (And.intro ez hall)
   have F0 := Lib.hid (E0.out.call Hb.out)
   clear HM0 ez hall hval hin
   go_wp2_with fail
   refine HM.out.mono ?_
   rintro e W2 ⟨rfl, hb2⟩
   have F2 := Lib.hid (F0.out.call hb2)
   have n2 := Env.at_ F2.out 0 rfl
   have y0 := n2.cell 0
   have y1 := n2.cell 1
   have y2 := n2.frozen 0
   have y3 := n2.frozen 1
   simp at y0 y1
   clear n2 hb2 F0
   go_wp2_with fail
   refine bodyPost_ret (v := .tuple #[.agg #[.bool zs, .string zb], .int .i64 0]) (by simp [results, Tryz.results89, go_sem, y0, y1]) rfl ?_
   exact hQ.out _ _ ⟨fun _ => by rw [Hz.out.1], fun h => absurd Hz.out.2 h, (F2.out.1.setCell (Nat.le_refl w.heap.size) _).setCell (Nat.le_refl w.heap.size) _⟩
theorem good_iff {l : List UInt8} {F : Nat} (hF : rfirst l = F) (hlt : F < l.length) (hlead : l[F]? = some 48 → l.length ≤ 1) : Good l ↔ AllDig (l.drop F) := by
 unfold Good
 rw [hF]
 refine ⟨fun h => (good_dig h).1, fun h => ⟨fun j b h1 h2 => ?_, hlt, hlead⟩⟩
 refine h b (List.mem_iff_getElem?.2 ⟨j - F, ?_⟩)
 rw [List.getElem?_drop, show F + (j - F) = j by omega, h2]
set_option maxRecDepth 100000 in
set_option maxHeartbeats 1000000 in
theorem rread_neg_none {w : World} {s : ByteArray} (hs : s.size ≤ 40000) (h0 : 0 < s.size) (hc : s[0] = 45) (h1 : s.size = 1) : Calls Tryz.prog 89 #[.string s] w (RReadd w s.data.toList) := by
 have hb := drop_bytes s 1 (by omega)
 have hd : s[0].toNat = 45 := by rw [hc]; rfl
 have hh := head_of h0
 rw [hc] at hh
 have hl : s.data.toList.length = s.size := Array.length_toList
 have hr : rfirst s.data.toList = 1 := by unfold rfirst signOf; rw [hh]; rfl
 have hsg : signOf s.data.toList = true := by unfold signOf; rw [hh]; rfl
 have hi0 : (0 : Int) < (s.size : Int) := by omega
 obtain ⟨t, ht⟩ : ∃ t, s.extract 1 s.size = t := ⟨_, rfl⟩
 rw [ht] at hb
 obtain ⟨q1, q2⟩ := str_facts h0
 have hz : t.size = 0 := by omega
 obtain ⟨z1, z2⟩ := str_none hz
 have HB := Lib.hid (show ¬ Good s.data.toList by
  unfold Good
  rw [hr]
  intro h
  have := h.2.1
  omega)
 clear hb hc hh hr hsg hl
 have E0 := Lib.hid (Env.new (Env.nil w) 34 #[.bool false, .string ⟨#[]⟩])
 go_enter Tryz.func89, Tryz.ntmps89
 go_wp2_with fail
 refine bodyPost_ret (v := .tuple #[.agg #[.bool false, .string ⟨#[]⟩], .int .i64 120]) (by simp [results, Tryz.results89, go_sem]) rfl ?_
 exact ⟨fun h => absurd h HB.out, fun _ => rfl, E0.out.1⟩
set_option maxRecDepth 100000 in
set_option maxHeartbeats 1000000 in
theorem rread_neg_zero {w : World} {s : ByteArray} (hs : s.size ≤ 40000) (h0 : 0 < s.size) (hc : s[0] = 45) (h1 : 1 < s.size) (h2 : s[1] = 48) : Calls Tryz.prog 89 #[.string s] w (RReadd w s.data.toList) := by
 have hb := drop_bytes s 1 (by omega)
 have hd : s[0].toNat = 45 := by rw [hc]; rfl
 have hh := head_of h0
 rw [hc] at hh
 have hl : s.data.toList.length = s.size := Array.length_toList
 have hr : rfirst s.data.toList = 1 := by unfold rfirst signOf; rw [hh]; rfl
 have hsg : signOf s.data.toList = true := by unfold signOf; rw [hh]; rfl
 have hi0 : (0 : Int) < (s.size : Int) := by omega
 obtain ⟨t, ht⟩ : ∃ t, s.extract 1 s.size = t := ⟨_, rfl⟩
 rw [ht] at hb
 obtain ⟨q1, q2⟩ := str_facts h0
 have htp : 0 < t.size := by omega
 obtain ⟨z1, z2⟩ := str_facts htp
 have ht0 : t[0].toNat = 48 := by
  have e1 := head_of htp
  rw [hb.1, List.head?_drop, List.getElem?_eq_getElem (by omega)] at e1
  injection e1 with e1
  rw [← e1]
  have e2 : s.data.toList[1] = s[1] := rfl
  rw [e2, h2]; rfl
 have HB := Lib.hid (show ¬ Good s.data.toList by
  unfold Good
  rw [hr]
  intro h
  have e3 := h.2.2 (by rw [List.getElem?_eq_getElem (by omega)]; exact congrArg some h2)
  omega)
 clear hb hc hh hr hsg hl
 have E0 := Lib.hid (Env.new (Env.nil w) 34 #[.bool false, .string ⟨#[]⟩])
 go_enter Tryz.func89, Tryz.ntmps89
 go_wp2_with fail
 refine bodyPost_ret (v := .tuple #[.agg #[.bool false, .string ⟨#[]⟩], .int .i64 120]) (by simp [results, Tryz.results89, go_sem]) rfl ?_
 exact ⟨fun h => absurd h HB.out, fun _ => rfl, E0.out.1⟩
set_option maxRecDepth 100000 in
set_option maxHeartbeats 1000000 in
theorem rread_neg_go {w : World} {s : ByteArray} (hs : s.size ≤ 40000) (h0 : 0 < s.size) (hc : s[0] = 45) (h1 : 1 < s.size) (h2 : s[1] ≠ 48) : Calls Tryz.prog 89 #[.string s] w (RReadd w s.data.toList) := by
 have hb := drop_bytes s 1 (by omega)
 have hd : s[0].toNat = 45 := by rw [hc]; rfl
 have hh := head_of h0
 rw [hc] at hh
 have hl : s.data.toList.length = s.size := Array.length_toList
 have hr : rfirst s.data.toList = 1 := by unfold rfirst signOf; rw [hh]; rfl
 have hsg : signOf s.data.toList = true := by unfold signOf; rw [hh]; rfl
 have hi0 : (0 : Int) < (s.size : Int) := by omega
 obtain ⟨t, ht⟩ : ∃ t, s.extract 1 s.size = t := ⟨_, rfl⟩
 rw [ht] at hb
 obtain ⟨q1, q2⟩ := str_facts h0
 have htp : 0 < t.size := by omega
 obtain ⟨z1, z2⟩ := str_facts htp
 have htl : t.size ≤ 40000 := by omega
 have ht0 : t[0].toNat ≠ 48 := by
  have e1 := head_of htp
  rw [hb.1, List.head?_drop, List.getElem?_eq_getElem (by omega)] at e1
  injection e1 with e1
  rw [← e1]
  exact fun h => h2 (UInt8.toNat_inj.1 h)
 have ht1 : ((t[0].toNat : Int) == 48) = false := beq_eq_false_iff_ne.2 (by omega)
 have HB := Lib.hid (And.intro (show Good s.data.toList ↔ AllDig t.data.toList by
  rw [hb.1]
  exact good_iff hr (by omega) (fun h => by
   rw [List.getElem?_eq_getElem (by omega)] at h
   injection h with h
   exact absurd h h2)) (And.intro True.intro (And.intro (show rval s.data.toList = sgn true (dv t.data.toList) by unfold rval; rw [hsg, hr, hb.1]) True.intro)))
 clear hb hc hh hr hsg hl
 have E0 := Lib.hid (Env.new (Env.nil w) 34 #[.bool false, .string ⟨#[]⟩])
 go_enter Tryz.func89, Tryz.ntmps89
 go_upto_if 37 with fail
 go_cut [] (fun wx => Env w wx [(w.heap.size, 34, #[.bool false, .string ⟨#[]⟩])])
 case first =>
  go_wp2_with fail
  go_meet
  case rel => exact E0.out
 case rest =>
  go_step
  refine rread_core (neg := true) (s := s) (t := t) (by omega) (Lib.hid hcut) ?_
  rintro e w' ⟨h1, h2, hb⟩
  exact ⟨fun h => by rw [HB.out.2.2.1]; exact h1 (HB.out.1.1 h), fun h => h2 (fun h3 => h (HB.out.1.2 h3)), hb⟩
set_option maxRecDepth 100000 in
set_option maxHeartbeats 1000000 in
theorem rread_bare_zero {w : World} {s : ByteArray} (hs : s.size ≤ 40000) (h0 : 0 < s.size) (hc : s[0] ≠ 45) (h1 : 1 < s.size) (h2 : s[0] = 48) : Calls Tryz.prog 89 #[.string s] w (RReadd w s.data.toList) := by
 have hh := head_of h0
 have hl : s.data.toList.length = s.size := Array.length_toList
 have hsg : signOf s.data.toList = false := by
  unfold signOf
  rw [hh]
  exact beq_eq_false_iff_ne.2 (fun h => hc (by injection h))
 have hr : rfirst s.data.toList = 0 := by unfold rfirst; rw [hsg]; rfl
 have hi0 : (0 : Int) < (s.size : Int) := by omega
 obtain ⟨q1, q2⟩ := str_facts h0
 have hd0 : s[0].toNat ≠ 45 := fun h => hc (UInt8.toNat_inj.1 h)
 have hd : s[0].toNat = 48 := by rw [h2]; rfl
 have hi1 : (1 : Int) < (s.size : Int) := by omega
 have HB := Lib.hid (show ¬ Good s.data.toList by
  unfold Good
  rw [hr]
  intro h
  have e3 := h.2.2 (by rw [← List.head?_eq_getElem?, hh, h2])
  omega)
 clear hc hh hr hsg hl hd0
 have E0 := Lib.hid (Env.new (Env.nil w) 34 #[.bool false, .string ⟨#[]⟩])
 go_enter Tryz.func89, Tryz.ntmps89
 go_wp2_with fail
 refine bodyPost_ret (v := .tuple #[.agg #[.bool false, .string ⟨#[]⟩], .int .i64 120]) (by simp [results, Tryz.results89, go_sem]) rfl ?_
 exact ⟨fun h => absurd h HB.out, fun _ => rfl, E0.out.1⟩
set_option maxRecDepth 100000 in
set_option maxHeartbeats 1000000 in
theorem rread_bare_go {w : World} {s : ByteArray} (hs : s.size ≤ 40000) (h0 : 0 < s.size) (hc : s[0] ≠ 45) (h2 : s[0] ≠ 48) : Calls Tryz.prog 89 #[.string s] w (RReadd w s.data.toList) := by
 have hh := head_of h0
 have hl : s.data.toList.length = s.size := Array.length_toList
 have hsg : signOf s.data.toList = false := by
  unfold signOf
  rw [hh]
  exact beq_eq_false_iff_ne.2 (fun h => hc (by injection h))
 have hr : rfirst s.data.toList = 0 := by unfold rfirst; rw [hsg]; rfl
 have hi0 : (0 : Int) < (s.size : Int) := by omega
 obtain ⟨q1, q2⟩ := str_facts h0
 have hd0 : s[0].toNat ≠ 45 := fun h => hc (UInt8.toNat_inj.1 h)
 have HB := Lib.hid (And.intro (show Good s.data.toList ↔ AllDig s.data.toList by
  have := good_iff (l := s.data.toList) hr (by omega) (fun h => by
   rw [← List.head?_eq_getElem?, hh] at h
   injection h with h
   first | omega | exact absurd h h2)
  rwa [List.drop_zero] at this) (And.intro True.intro (And.intro (show rval s.data.toList = sgn false (dv s.data.toList) by unfold rval; rw [hsg, hr, List.drop_zero]) True.intro)))
 have hd1 : ((s[0].toNat : Int) == 45) = false := beq_eq_false_iff_ne.2 (by omega)
 have hd2 : s[0].toNat ≠ 48 := fun h => h2 (UInt8.toNat_inj.1 h)
 have hd3 : ((s[0].toNat : Int) == 48) = false := beq_eq_false_iff_ne.2 (by omega)
 clear hc hh hr hsg hl
 have E0 := Lib.hid (Env.new (Env.nil w) 34 #[.bool false, .string ⟨#[]⟩])
 go_enter Tryz.func89, Tryz.ntmps89
 go_upto_if 37 with fail
 go_cut [] (fun wx => Env w wx [(w.heap.size, 34, #[.bool false, .string ⟨#[]⟩])])
 case first =>
  go_wp2_with fail
  go_meet
  case rel => exact E0.out
 case rest =>
  go_step
  refine rread_core (neg := false) (s := s) (t := s) (by omega) (Lib.hid hcut) ?_
  rintro e w' ⟨h1, h2, hb⟩
  exact ⟨fun h => by rw [HB.out.2.2.1]; exact h1 (HB.out.1.1 h), fun h => h2 (fun h3 => h (HB.out.1.2 h3)), hb⟩
set_option maxRecDepth 100000 in
set_option maxHeartbeats 1000000 in
theorem rread_bare_one {w : World} {s : ByteArray} (hs : s.size ≤ 40000) (h0 : 0 < s.size) (hc : s[0] ≠ 45) (h1 : s.size = 1) (h2 : s[0] = 48) : Calls Tryz.prog 89 #[.string s] w (RReadd w s.data.toList) := by
 have hh := head_of h0
 have hl : s.data.toList.length = s.size := Array.length_toList
 have hsg : signOf s.data.toList = false := by
  unfold signOf
  rw [hh]
  exact beq_eq_false_iff_ne.2 (fun h => hc (by injection h))
 have hr : rfirst s.data.toList = 0 := by unfold rfirst; rw [hsg]; rfl
 have hi0 : (0 : Int) < (s.size : Int) := by omega
 obtain ⟨q1, q2⟩ := str_facts h0
 have hd0 : s[0].toNat ≠ 45 := fun h => hc (UInt8.toNat_inj.1 h)
 have HB := Lib.hid (And.intro (show Good s.data.toList ↔ AllDig s.data.toList by
  have := good_iff (l := s.data.toList) hr (by omega) (fun h => by
   rw [← List.head?_eq_getElem?, hh] at h
   injection h with h
   first | omega | exact absurd h h2)
  rwa [List.drop_zero] at this) (And.intro True.intro (And.intro (show rval s.data.toList = sgn false (dv s.data.toList) by unfold rval; rw [hsg, hr, List.drop_zero]) True.intro)))
 have hd : s[0].toNat = 48 := by rw [h2]; rfl
 have hi1 : (s.size : Int) ≤ 1 := by omega
 clear hc hh hr hsg hl hd0
 have E0 := Lib.hid (Env.new (Env.nil w) 34 #[.bool false, .string ⟨#[]⟩])
 go_enter Tryz.func89, Tryz.ntmps89
 go_upto_if 37 with fail
 go_cut [] (fun wx => Env w wx [(w.heap.size, 34, #[.bool false, .string ⟨#[]⟩])])
 case first =>
  go_wp2_with fail
  go_meet
  case rel => exact E0.out
 case rest =>
  go_step
  refine rread_core (neg := false) (s := s) (t := s) (by omega) (Lib.hid hcut) ?_
  rintro e w' ⟨h1, h2, hb⟩
  exact ⟨fun h => by rw [HB.out.2.2.1]; exact h1 (HB.out.1.1 h), fun h => h2 (fun h3 => h (HB.out.1.2 h3)), hb⟩
theorem rread_none {w : World} : Calls Tryz.prog 89 #[.string ⟨#[]⟩] w (RReadd w []) := by
 have E0 := Lib.hid (Env.new (Env.nil w) 34 #[.bool false, .string ⟨#[]⟩])
 have Hno := Lib.hid (show ¬ Good [] from fun h => absurd h.2.1 (by simp))
 go_enter Tryz.func89, Tryz.ntmps89
 go_wp2_with fail
 refine bodyPost_ret (v := .tuple #[.agg #[.bool false, .string ⟨#[]⟩], .int .i64 120]) (by simp [results, Tryz.results89, go_sem]) rfl ?_
 exact ⟨fun h => absurd h Hno.out, fun _ => rfl, E0.out.1⟩
theorem rread_any {w : World} {s : ByteArray} (hs : s.size ≤ 40000) : Calls Tryz.prog 89 #[.string s] w (RReadd w s.data.toList) := by
 rcases Nat.eq_zero_or_pos s.size with h0 | h0
 ·have hl : s.data.toList.length = s.size := Array.length_toList
  obtain rfl := str_empty (List.eq_nil_of_length_eq_zero (show s.data.toList.length = 0 by omega))
  exact rread_none
 ·by_cases hc : s[0] = 45
  ·by_cases h1 : s.size = 1
   ·exact rread_neg_none hs h0 hc h1
   ·by_cases h2 : s[1]'(by omega) = 48
    ·exact rread_neg_zero hs h0 hc (by omega) h2
    ·exact rread_neg_go hs h0 hc (by omega) h2
  ·by_cases h2 : s[0] = 48
   ·by_cases h1 : s.size = 1
    ·exact rread_bare_one hs h0 hc h1 h2
    ·exact rread_bare_zero hs h0 hc (by omega) h2
   ·exact rread_bare_go hs h0 hc h2
def nameP (nm : ByteArray) : ArgP := ⟨1, nm, false, ⟨#[]⟩, false, ⟨#[]⟩, false, ⟨#[]⟩, false, ⟨#[]⟩, [], 0⟩
def numP (a b c d : Int) : ArgP := ⟨2, ⟨#[]⟩, decide (a < 0), ⟨(bys a.natAbs).toArray⟩, decide (b < 0), ⟨(bys b.natAbs).toArray⟩, decide (c < 0), ⟨(bys c.natAbs).toArray⟩, decide (d < 0), ⟨(bys d.natAbs).toArray⟩, [], 0⟩
def infP : ArgP := ⟨3, ⟨#[]⟩, false, ⟨#[]⟩, false, ⟨#[]⟩, false, ⟨#[]⟩, false, ⟨#[]⟩, [], 0⟩
def wordP (wd : List Int) : ArgP := ⟨4, ⟨#[]⟩, false, ⟨#[]⟩, false, ⟨#[]⟩, false, ⟨#[]⟩, false, ⟨#[]⟩, wd, 0⟩
def countP (ct : Int) : ArgP := ⟨5, ⟨#[]⟩, false, ⟨#[]⟩, false, ⟨#[]⟩, false, ⟨#[]⟩, false, ⟨#[]⟩, [], ct⟩
def noneP : ArgP := ⟨0, ⟨#[]⟩, false, ⟨#[]⟩, false, ⟨#[]⟩, false, ⟨#[]⟩, false, ⟨#[]⟩, [], 0⟩
theorem argT_name (nm : ByteArray) : argT (nameP nm) = nm.data.toList := rfl
theorem argT_num (a b c d : Int) : argT (numP a b c d) = 40 :: (txtF a b ++ [44] ++ txtF c d ++ [41]) := by
 have e : argT (numP a b c d) = 40 :: (txtF (num (decide (a < 0), ⟨(bys a.natAbs).toArray⟩)) (num (decide (b < 0), ⟨(bys b.natAbs).toArray⟩)) ++ [44] ++ txtF (num (decide (c < 0), ⟨(bys c.natAbs).toArray⟩)) (num (decide (d < 0), ⟨(bys d.natAbs).toArray⟩)) ++ [41]) := rfl
 rw [e, num_back, num_back, num_back, num_back]
theorem argT_inf : argT infP = [40, 105, 110, 102, 41] := rfl
theorem argT_word (wd : List Int) : argT (wordP wd) = 91 :: (wtx wd ++ [93]) := rfl
theorem argT_count (ct : Int) : argT (countP ct) = 35 :: Lib.itoa ct := rfl
theorem may_back {na nb : Bool} {sa sb : ByteArray} (h : MayFr na sa nb sb) : ∃ a b, na = decide (a < 0) ∧ sa = ⟨(bys a.natAbs).toArray⟩ ∧ nb = decide (b < 0) ∧ sb = ⟨(bys b.natAbs).toArray⟩ ∧ MayZ a b := by
 have h1 := enc_parts h.a
 have h2 := enc_parts h.b
 refine ⟨num (na, sa), num (nb, sb), h1.1.symm, h1.2.symm, h2.1.symm, h2.2.symm, ?_⟩
 unfold MayZ
 rw [h1.1, h1.2, h2.1, h2.2]
 exact h
theorem ok_cases {y : ArgP} (h : y.ok) : (∃ nm, y = nameP nm ∧ Sc.namedB nm.data.toList = true) ∨ (∃ a b c d, y = numP a b c d ∧ MayZ a b ∧ MayZ c d) ∨ y = infP ∨ (∃ wd, y = wordP wd ∧ wd.all letA = true ∧ wd.length ≤ 4096) ∨ (∃ ct, y = countP ct ∧ 0 ≤ ct ∧ ct ≤ 2147483647) := by
 obtain ⟨k, nm, n0, s0, n1, s1, n2, s2, n3, s3, wd, ct⟩ := y
 unfold ArgP.ok at h
 unfold ArgP.zero at h
 unfold ArgP.gs at h
 simp only at h
 by_cases h1 : k = 1
 ·subst h1
  rw [if_pos rfl] at h
  obtain ⟨h0, ⟨rfl, rfl, rfl, rfl, rfl, rfl, rfl, rfl⟩, rfl, rfl⟩ := h
  exact .inl ⟨nm, rfl, h0⟩
 rw [if_neg h1] at h
 by_cases h2 : k = 2
 ·subst h2
  rw [if_pos rfl] at h
  obtain ⟨rfl, hg, rfl, rfl⟩ := h
  obtain ⟨a, b, rfl, rfl, rfl, rfl, hm⟩ := may_back hg.re
  obtain ⟨c, d, rfl, rfl, rfl, rfl, hm2⟩ := may_back hg.im
  exact .inr (.inl ⟨a, b, c, d, rfl, hm, hm2⟩)
 rw [if_neg h2] at h
 by_cases h3 : k = 3
 ·subst h3
  rw [if_pos rfl] at h
  obtain ⟨rfl, ⟨rfl, rfl, rfl, rfl, rfl, rfl, rfl, rfl⟩, rfl, rfl⟩ := h
  exact .inr (.inr (.inl rfl))
 rw [if_neg h3] at h
 by_cases h4 : k = 4
 ·subst h4
  rw [if_pos rfl] at h
  obtain ⟨rfl, ⟨rfl, rfl, rfl, rfl, rfl, rfl, rfl, rfl⟩, ha, hl, rfl⟩ := h
  exact .inr (.inr (.inr (.inl ⟨wd, rfl, ha, hl⟩)))
 rw [if_neg h4] at h
 by_cases h5 : k = 5
 ·subst h5
  rw [if_pos rfl] at h
  obtain ⟨rfl, ⟨rfl, rfl, rfl, rfl, rfl, rfl, rfl, rfl⟩, rfl, ha, hl⟩ := h
  exact .inr (.inr (.inr (.inr ⟨ct, rfl, ha, hl⟩)))
 rw [if_neg h5] at h
 exact h.elim
theorem itoa_ne (k : Int) : Lib.itoa k ≠ [] := by
 unfold Lib.itoa
 have h : ∀ u : Nat, Lib.decDigits u ≠ [] := fun u h => by
  rw [Lib.decDigits] at h
  split at h <;> simp at h
 split
 ·simp
 ·exact h _
theorem itoa_byte {k : Int} {b : UInt8} (h : b ∈ Lib.itoa k) : b = 45 ∨ IsDig b := by
 have hd : ∀ u : Nat, b ∈ Lib.decDigits u → IsDig b := by
  intro u
  induction u using Nat.strongRecOn with
  | ind u ih =>
   intro hb
   by_cases h : u < 10
   ·have e : Lib.decDigits u = [UInt8.ofNat (48 + u)] := by rw [Lib.decDigits, dif_pos h]
    rw [e] at hb
    rw [List.mem_singleton.1 hb]
    exact ⟨by rw [dec_byte h]; omega, by rw [dec_byte h]; omega⟩
   ·have e : Lib.decDigits u = Lib.decDigits (u / 10) ++ [UInt8.ofNat (48 + u % 10)] := by rw [Lib.decDigits, dif_neg h]
    rw [e] at hb
    rcases List.mem_append.1 hb with h2 | h2
    ·exact ih (u / 10) (by omega) h2
    ·rw [List.mem_singleton.1 h2]
     exact ⟨by rw [dec_byte (by omega)]; omega, by rw [dec_byte (by omega)]; omega⟩
 unfold Lib.itoa at h
 split at h
 ·rcases List.mem_cons.1 h with h | h
  ·exact .inl h
  ·exact .inr (hd _ h)
 ·exact .inr (hd _ h)
theorem dig_len : ∀ (k u : Nat), u < 10 ^ k → 1 ≤ k → (Lib.decDigits u).length ≤ k
 | 0, _, _, h => absurd h (by decide)
 | 1, u, hu, _ => by
  have h : u < 10 := by simpa using hu
  rw [Lib.decDigits, dif_pos h]; simp
 | k + 2, u, hu, _ => by
  by_cases h : u < 10
  ·rw [Lib.decDigits, dif_pos h]; simp
  ·rw [Lib.decDigits, dif_neg h, List.length_append]
   have := dig_len (k + 1) (u / 10) (by rw [Nat.pow_succ] at hu; omega) (by omega)
   simp only [List.length_cons, List.length_nil]
   omega
theorem itoa_small {k : Int} (h1 : -9999999999 ≤ k) (h2 : k ≤ 9999999999) : (Lib.itoa k).length ≤ 12 := by
 unfold Lib.itoa
 split
 ·have := dig_len 10 k.natAbs (by omega) (by decide)
  simp only [List.length_cons]
  omega
 ·have := dig_len 10 k.toNat (by omega) (by decide)
  omega
theorem itoa_inj {a b : Int} (h : Lib.itoa a = Lib.itoa b) : a = b := by
 have hp : ∀ (p : List UInt8), numTo p p.length = 0 → ∀ u v : Nat, p ++ Lib.decDigits u = p ++ Lib.decDigits v → u = v := fun p hp u v h => by
  have h1 := numTo_dec p hp u
  have h2 := numTo_dec p hp v
  have h3 := List.append_cancel_left h
  rw [h3, h2] at h1
  omega
 have hh : ∀ u : Nat, ∀ r, Lib.decDigits u ≠ 45 :: r := fun u r h => by
  have := dec_ge u 45 (by rw [h]; exact List.mem_cons_self)
  exact absurd this (by decide)
 unfold Lib.itoa at h
 split at h <;> split at h
 ·have := hp [] rfl _ _ (List.cons.inj h).2
  omega
 ·exact absurd h.symm (hh _ _)
 ·exact absurd h (hh _ _)
 ·have := hp [] rfl _ _ h
  omega
theorem map_itoa_inj : ∀ {a b : List Int}, a.map Lib.itoa = b.map Lib.itoa → a = b
 | [], [], _ => rfl
 | [], _ :: _, h => by simp at h
 | _ :: _, [], h => by simp at h
 | x :: a, y :: b, h => by
  simp only [List.map_cons, List.cons.injEq] at h
  rw [itoa_inj h.1, map_itoa_inj h.2]
theorem dot_no (k : Int) : (46 : UInt8) ∉ Lib.itoa k := fun h => (itoa_byte h).elim (by decide) (no_dig (.inl (by decide)))
theorem wtx_ne {l : List Int} (h : l ≠ []) : wtx l ≠ [] := by
 cases l with
 | nil => exact absurd rfl h
 | cons k r =>
  unfold wtx
  rw [List.map_cons, Lib.join_cons]
  intro h
  exact itoa_ne k (List.append_eq_nil_iff.1 h).1
theorem wtx_parts {l : List Int} (h : l ≠ []) : parts 46 (wtx l) = l.map Lib.itoa := by
 unfold wtx
 refine parts_join (by simpa using h) fun t ht => ?_
 obtain ⟨k, _, rfl⟩ := List.mem_map.1 ht
 exact dot_no k
theorem wtx_byte {l : List Int} {b : UInt8} (h : b ∈ wtx l) : b = 46 ∨ b = 45 ∨ IsDig b := by
 unfold wtx at h
 cases l with
 | nil => simp [Lib.join] at h
 | cons k r =>
  rw [List.map_cons, Lib.join_cons] at h
  rcases List.mem_append.1 h with h | h
  ·exact .inr (itoa_byte h)
  ·unfold Lib.joinTail at h
   rw [List.mem_flatten] at h
   obtain ⟨t, ht, hb⟩ := h
   rw [List.mem_map] at ht
   obtain ⟨q, hq, rfl⟩ := ht
   rw [List.mem_map] at hq
   obtain ⟨z, _, rfl⟩ := hq
   rcases List.mem_append.1 hb with hb | hb
   ·exact .inl (List.mem_singleton.1 hb)
   ·exact .inr (itoa_byte hb)
theorem wtx_inj {a b : List Int} (h : wtx a = wtx b) : a = b := by
 by_cases ha : a = []
 ·subst ha
  by_cases hb : b = []
  ·exact hb.symm
  ·exact absurd h.symm (wtx_ne hb)
 ·by_cases hb : b = []
  ·subst hb
   exact absurd h (wtx_ne ha)
  ·have h1 := wtx_parts ha
   rw [h, wtx_parts hb] at h1
   exact (map_itoa_inj h1).symm
theorem named_head {l : List UInt8} (h : Sc.namedB l = true) : ∃ c r, l = c :: r ∧ 97 ≤ c.toNat ∧ c.toNat ≤ 122 ∧ ∀ b ∈ l, b.toNat = 45 ∨ 48 ≤ b.toNat := by
 cases l with
 | nil => exact absurd h (by decide)
 | cons c r =>
  unfold Sc.namedB at h
  simp only [Bool.and_eq_true, decide_eq_true_eq] at h
  obtain ⟨_, hc, hr⟩ := h
  unfold Sc.letB at hc
  simp only [Bool.and_eq_true, decide_eq_true_eq] at hc
  refine ⟨c, r, rfl, hc.1, hc.2, fun b hb => ?_⟩
  rcases List.mem_cons.1 hb with rfl | hb
  ·omega
  ·have := List.all_eq_true.1 hr b hb
   unfold Sc.behB Sc.letB Sc.digB at this
   simp only [Bool.or_eq_true, Bool.and_eq_true, decide_eq_true_eq, beq_iff_eq] at this
   rcases this with (h | h) | h
   ·omega
   ·omega
   ·subst h; exact .inl rfl
def GuessIs (l : List UInt8) (x : ArgP) : Prop := ∀ y : ArgP, y.ok → argT y = l → y = x
def ArgIs (l : List UInt8) (x : ArgP) : Prop := (x.ok → argT x = l) ∧ GuessIs l x
def ArgNot (l : List UInt8) : Prop := ∀ y : ArgP, y.ok → argT y ≠ l
theorem ArgNot.guess {l : List UInt8} (h : ArgNot l) (x : ArgP) : GuessIs l x := fun y hy he => absurd he (h y hy)
theorem not_nil : ArgNot [] := fun y hy he => by
 rcases ok_cases hy with ⟨nm, rfl, h⟩ | ⟨a, b, c, d, rfl, _, _⟩ | rfl | ⟨wd, rfl, _⟩ | ⟨ct, rfl, _⟩
 ·rw [argT_name] at he; obtain ⟨c, r, hl, _⟩ := named_head h; rw [he] at hl; cases hl
 ·rw [argT_num] at he; cases he
 ·cases he
 ·cases he
 ·cases he
theorem head_paren {y : ArgP} {r : List UInt8} (hy : y.ok) (he : argT y = 40 :: r) : (∃ a b c d, y = numP a b c d ∧ MayZ a b ∧ MayZ c d ∧ r = txtF a b ++ [44] ++ txtF c d ++ [41]) ∨ (y = infP ∧ r = [105, 110, 102, 41]) := by
 rcases ok_cases hy with ⟨nm, rfl, h⟩ | ⟨a, b, c, d, rfl, h1, h2⟩ | rfl | ⟨wd, rfl, _⟩ | ⟨ct, rfl, _⟩
 ·rw [argT_name] at he; obtain ⟨c, q, hl, h1, _⟩ := named_head h; rw [he] at hl; injection hl with hl; rw [← hl] at h1; exact absurd h1 (by decide)
 ·rw [argT_num] at he
  exact .inl ⟨a, b, c, d, rfl, h1, h2, (List.cons.inj he).2.symm⟩
 ·exact .inr ⟨rfl, (List.cons.inj he).2.symm⟩
 ·rw [argT_word] at he; exact absurd (List.cons.inj he).1 (by decide)
 ·rw [argT_count] at he; exact absurd (List.cons.inj he).1 (by decide)
theorem head_brack {y : ArgP} {r : List UInt8} (hy : y.ok) (he : argT y = 91 :: r) : ∃ wd, y = wordP wd ∧ wd.all letA = true ∧ wd.length ≤ 4096 ∧ r = wtx wd ++ [93] := by
 rcases ok_cases hy with ⟨nm, rfl, h⟩ | ⟨a, b, c, d, rfl, h1, h2⟩ | rfl | ⟨wd, rfl, h1, h2⟩ | ⟨ct, rfl, _⟩
 ·rw [argT_name] at he; obtain ⟨c, q, hl, h1, _⟩ := named_head h; rw [he] at hl; injection hl with hl; rw [← hl] at h1; exact absurd h1 (by decide)
 ·rw [argT_num] at he; exact absurd (List.cons.inj he).1 (by decide)
 ·exact absurd (List.cons.inj he).1 (by decide)
 ·rw [argT_word] at he
  exact ⟨wd, rfl, h1, h2, (List.cons.inj he).2.symm⟩
 ·rw [argT_count] at he; exact absurd (List.cons.inj he).1 (by decide)
theorem head_hash {y : ArgP} {r : List UInt8} (hy : y.ok) (he : argT y = 35 :: r) : ∃ ct, y = countP ct ∧ 0 ≤ ct ∧ ct ≤ 2147483647 ∧ r = Lib.itoa ct := by
 rcases ok_cases hy with ⟨nm, rfl, h⟩ | ⟨a, b, c, d, rfl, h1, h2⟩ | rfl | ⟨wd, rfl, h1, h2⟩ | ⟨ct, rfl, h1, h2⟩
 ·rw [argT_name] at he; obtain ⟨c, q, hl, h1, _⟩ := named_head h; rw [he] at hl; injection hl with hl; rw [← hl] at h1; exact absurd h1 (by decide)
 ·rw [argT_num] at he; exact absurd (List.cons.inj he).1 (by decide)
 ·exact absurd (List.cons.inj he).1 (by decide)
 ·rw [argT_word] at he; exact absurd (List.cons.inj he).1 (by decide)
 ·rw [argT_count] at he
  exact ⟨ct, rfl, h1, h2, (List.cons.inj he).2.symm⟩
theorem is_name {s : ByteArray} {c : UInt8} {r : List UInt8} (hl : s.data.toList = c :: r) (h1 : c ≠ 40) (h2 : c ≠ 91) (h3 : c ≠ 35) : ArgIs s.data.toList (nameP s) :=
 ⟨fun _ => rfl, fun y hy he => by
  rcases ok_cases hy with ⟨nm, rfl, h⟩ | ⟨a, b, c, d, rfl, _, _⟩ | rfl | ⟨wd, rfl, _, _⟩ | ⟨ct, rfl, _, _⟩
  ·rw [argT_name] at he
   rw [ByteArray.ext (Array.toList_inj.1 he)]
  ·rw [hl, argT_num] at he; exact absurd (List.cons.inj he).1.symm h1
  ·rw [hl] at he; exact absurd (List.cons.inj he).1.symm h1
  ·rw [hl, argT_word] at he; exact absurd (List.cons.inj he).1.symm h2
  ·rw [hl, argT_count] at he; exact absurd (List.cons.inj he).1.symm h3⟩
theorem paren_end {r : List UInt8} (h : ∀ q, r ≠ q ++ [41]) : ArgNot (40 :: r) := fun y hy he => by
 rcases head_paren hy he with ⟨a, b, c, d, rfl, _, _, hr⟩ | ⟨rfl, hr⟩
 ·exact h _ hr
 ·exact h [105, 110, 102] hr
theorem brack_end {r : List UInt8} (h : ∀ q, r ≠ q ++ [93]) : ArgNot (91 :: r) := fun y hy he => by
 obtain ⟨wd, rfl, _, _, hr⟩ := head_brack hy he
 exact h _ hr
theorem comma_no (a b : Int) : (44 : UInt8) ∉ txtF a b := fun h => by
 rcases txtF_byte h with h | h | h
 ·exact absurd h (by decide)
 ·exact absurd h (by decide)
 ·exact no_dig (.inl (by decide)) h
theorem is_inf : ArgIs [40, 105, 110, 102, 41] infP :=
 ⟨fun _ => rfl, fun y hy he => by
  rcases head_paren hy he with ⟨a, b, c, d, rfl, _, _, hr⟩ | ⟨rfl, _⟩
  ·have h1 : (44 : UInt8) ∈ ([105, 110, 102, 41] : List UInt8) := by rw [hr]; simp
   exact absurd h1 (by decide)
  ·rfl⟩
theorem paren_plain {q : List UInt8} (h1 : q ≠ [105, 110, 102]) (h2 : (44 : UInt8) ∉ q) : ArgNot (40 :: (q ++ [41])) := fun y hy he => by
 rcases head_paren hy he with ⟨a, b, c, d, rfl, _, _, hr⟩ | ⟨rfl, hr⟩
 ·have := List.append_cancel_right hr
  exact h2 (by rw [this]; simp)
 ·exact h1 (List.append_cancel_right (bs := [41]) hr)
theorem split_first {c : UInt8} : ∀ {x y u v : List UInt8}, c ∉ x → c ∉ u → x ++ c :: y = u ++ c :: v → x = u ∧ y = v
 | [], y, [], v, _, _, h => ⟨rfl, (List.cons.inj h).2⟩
 | [], y, b :: u, v, _, hu, h => absurd (List.cons.inj h).1 (fun e => hu (by rw [← e]; exact List.mem_cons_self))
 | b :: x, y, [], v, hx, _, h => absurd (List.cons.inj h).1 (fun e => hx (by rw [e]; exact List.mem_cons_self))
 | b :: x, y, d :: u, v, hx, hu, h => by
  obtain ⟨e1, e2⟩ := List.cons.inj h
  obtain ⟨h1, h2⟩ := split_first (fun hh => hx (List.mem_cons_of_mem _ hh)) (fun hh => hu (List.mem_cons_of_mem _ hh)) e2
  exact ⟨by rw [e1, h1], h2⟩
theorem paren_two {y : ArgP} {p q : List UInt8} (hy : y.ok) (hp : (44 : UInt8) ∉ p) (he : argT y = 40 :: ((p ++ 44 :: q) ++ [41])) : ∃ a b c d, y = numP a b c d ∧ MayZ a b ∧ MayZ c d ∧ p = txtF a b ∧ q = txtF c d := by
 rcases head_paren hy he with ⟨a, b, c, d, rfl, h1, h2, hr⟩ | ⟨rfl, hr⟩
 ·have h3 : p ++ 44 :: q = txtF a b ++ 44 :: txtF c d := by
   have := List.append_cancel_right hr
   rw [this]; simp
  obtain ⟨h4, h5⟩ := split_first hp (comma_no a b) h3
  exact ⟨a, b, c, d, rfl, h1, h2, h4, h5⟩
 ·have h1 : p ++ 44 :: q = [105, 110, 102] := List.append_cancel_right (bs := [41]) hr
  have h2 : (44 : UInt8) ∈ ([105, 110, 102] : List UInt8) := by rw [← h1]; simp
  exact absurd h2 (by decide)
theorem paren_bad {p q : List UInt8} (hp : (44 : UInt8) ∉ p) (h : (∀ a b, MayZ a b → p ≠ txtF a b) ∨ (∀ a b, MayZ a b → q ≠ txtF a b)) : ArgNot (40 :: ((p ++ 44 :: q) ++ [41])) := fun y hy he => by
 obtain ⟨a, b, c, d, rfl, h1, h2, h3, h4⟩ := paren_two hy hp he
 exact h.elim (fun h => h a b h1 h3) (fun h => h c d h2 h4)
theorem txtF_inj {a b c d : Int} (h : txtF a b = txtF c d) : a = c ∧ b = d := by
 have h1 := inF_txt (a := a) (b := b)
 rw [h, inF_txt] at h1
 injection h1 with h1
 injection h1 with h1 h2
 exact ⟨h1.symm, h2.symm⟩
theorem paren_is {p q : List UInt8} {a b c d : Int} (hp : p = txtF a b) (hq : q = txtF c d) : ArgIs (40 :: ((p ++ 44 :: q) ++ [41])) (numP a b c d) :=
 ⟨fun _ => by rw [argT_num, hp, hq]; simp, fun y hy he => by
  obtain ⟨a', b', c', d', rfl, _, _, h3, h4⟩ := paren_two hy (by rw [hp]; exact comma_no a b) he
  obtain ⟨rfl, rfl⟩ := txtF_inj (hp.symm.trans h3)
  obtain ⟨rfl, rfl⟩ := txtF_inj (hq.symm.trans h4)
  rfl⟩
theorem brack_is {q : List UInt8} {wd : List Int} (h : q = wtx wd) : ArgIs (91 :: (q ++ [93])) (wordP wd) :=
 ⟨fun _ => by rw [argT_word, h], fun y hy he => by
  obtain ⟨wd', rfl, _, _, hr⟩ := head_brack hy he
  have h1 := List.append_cancel_right hr
  rw [h] at h1
  rw [wtx_inj h1]⟩
theorem brack_bad {q p : List UInt8} (hq : q ≠ []) (hp : p ∈ parts 46 q) (h : ∀ k : Int, (Lib.itoa k).length ≤ 12 → Lib.itoa k ≠ p) : ArgNot (91 :: (q ++ [93])) := fun y hy he => by
 obtain ⟨wd, rfl, ha, hl, hr⟩ := head_brack hy he
 have h1 := List.append_cancel_right hr
 have hne : wd ≠ [] := fun e => hq (by rw [h1, e]; rfl)
 rw [h1, wtx_parts hne] at hp
 obtain ⟨k, hk, rfl⟩ := List.mem_map.1 hp
 have h2 := of_decide_eq_true (List.all_eq_true.1 ha k hk)
 exact h k (itoa_small (by omega) (by omega)) rfl
theorem brack_long {q : List UInt8} {wd : List Int} (h : q = wtx wd) (hl : 4096 < wd.length) : ArgNot (91 :: (q ++ [93])) := fun y hy he => by
 obtain ⟨wd', rfl, _, h2, hr⟩ := head_brack hy he
 have h1 := List.append_cancel_right hr
 rw [h] at h1
 rw [← wtx_inj h1] at h2
 omega
theorem hash_is {q : List UInt8} {ct : Int} (h : Lib.itoa ct = q) : ArgIs (35 :: q) (countP ct) :=
 ⟨fun _ => by rw [argT_count, h], fun y hy he => by
  obtain ⟨ct', rfl, _, _, hr⟩ := head_hash hy he
  rw [itoa_inj (h.trans hr)]⟩
theorem hash_bad {q : List UInt8} (h : ∀ k : Int, (Lib.itoa k).length ≤ 12 → Lib.itoa k ≠ q) : ArgNot (35 :: q) := fun y hy he => by
 obtain ⟨ct, rfl, h1, h2, hr⟩ := head_hash hy he
 exact h ct (itoa_small (by omega) (by omega)) hr.symm
theorem rf_split {p q : List UInt8} {a b : Int} (hp : (47 : UInt8) ∉ p) (h : p ++ 47 :: q = txtF a b) : p = txt a ∧ q = txt b := by
 by_cases hb : b = 1
 ·subst hb
  rw [txtF_one] at h
  exact absurd (show (47 : UInt8) ∈ txt a by rw [← h]; simp) (slash_no a)
 ·rw [txtF_two hb] at h
  exact split_first hp (slash_no a) h
theorem rf_badp {p q : List UInt8} (hp : (47 : UInt8) ∉ p) (hg : ¬ Good p) : ∀ a b, MayZ a b → p ++ 47 :: q ≠ txtF a b := fun a b _ h => hg (by rw [(rf_split hp h).1]; exact good_txt a)
theorem rf_badq {p q : List UInt8} (hp : (47 : UInt8) ∉ p) (hg : ¬ Good q) : ∀ a b, MayZ a b → p ++ 47 :: q ≠ txtF a b := fun a b _ h => hg (by rw [(rf_split hp h).2]; exact good_txt b)
theorem rf_off {p q : List UInt8} (hp : (47 : UInt8) ∉ p) (hn : ¬ (MayZ (rval p) (rval q) ∧ p ++ 47 :: q = txtF (rval p) (rval q))) : ∀ a b, MayZ a b → p ++ 47 :: q ≠ txtF a b := fun a b hm h => by
 obtain ⟨h1, h2⟩ := rf_split hp h
 rw [h1, h2, rval_txt, rval_txt, ← h1, ← h2] at hn
 exact hn ⟨hm, h⟩
theorem rf_bad1 {l : List UInt8} (h : (47 : UInt8) ∉ l) (hg : ¬ Good l) : ∀ a b, MayZ a b → l ≠ txtF a b := fr_bad (p := l) (by rw [parts_none h]; simp) hg
theorem rf_off1 {l : List UInt8} (h : (47 : UInt8) ∉ l) (hn : ¬ (MayZ (rval l) 1 ∧ l = txtF (rval l) 1)) : ∀ a b, MayZ a b → l ≠ txtF a b := fr_off (by unfold inF; rw [parts_none h]) hn
theorem take_slash {l : List UInt8} {i : Nat} (h : (47 : UInt8) ∉ l.take i) (hi : i < l.length) (hb : l[i] ≠ 47) : (47 : UInt8) ∉ l.take (i + 1) := by
 rw [List.take_succ_eq_append_getElem hi]
 intro hm
 rcases List.mem_append.1 hm with hm | hm
 ·exact h hm
 ·exact hb (List.mem_singleton.1 hm).symm
theorem at_slash {l : List UInt8} {i : Nat} (hi : i < l.length) (hb : l[i] = 47) : l = l.take i ++ 47 :: l.drop (i + 1) := by
 have h1 := (List.take_append_drop i l).symm
 rw [List.drop_eq_getElem_cons hi, hb] at h1
 exact h1
theorem rread_yes {t : ByteArray} (hp : t.size ≤ 6000) (hg : Good t.data.toList) (W : World) : Calls Tryz.prog 89 #[.string t] W (fun e w' => e = .returned (.tuple #[.agg #[.bool (decide (rval t.data.toList < 0)), .string ⟨(bys (rval t.data.toList).natAbs).toArray⟩], .int .i64 0]) ∧ Below W.heap.size W w') :=
 (rread_any (w := W) (s := t) (by omega)).mono fun e w' ⟨h1, _, h3⟩ => ⟨h1 hg, h3⟩
theorem rread_no {t : ByteArray} (hp : t.size ≤ 6000) (hg : ¬ Good t.data.toList) (W : World) : Calls Tryz.prog 89 #[.string t] W (fun e w' => e = .returned (.tuple #[.agg #[.bool false, .string ⟨#[]⟩], .int .i64 120]) ∧ Below W.heap.size W w') :=
 (rread_any (w := W) (s := t) (by omega)).mono fun e w' ⟨_, h2, h3⟩ => ⟨h2 hg, h3⟩
theorem rread_two {t : ByteArray} (hp : t.size ≤ 6000) : ∃ (x0 : Bool) (t0 : ByteArray) (z : Int), ∀ W, Calls Tryz.prog 89 #[.string t] W (fun e w' => e = .returned (.tuple #[.agg #[.bool x0, .string t0], .int .i64 z]) ∧ Below W.heap.size W w') := by
 by_cases hg : Good t.data.toList
 ·exact ⟨_, _, _, fun W => rread_yes hp hg W⟩
 ·exact ⟨_, _, _, fun W => rread_no hp hg W⟩
theorem rmay4 {A B : Int} {x0 x1 r : Bool} {t0 t1 : ByteArray} (hV : encF A B = .agg #[.bool x0, .string t0, .bool x1, .string t1]) (hm : r = true ↔ MayZ A B) (W : World) :
  Calls Tryz.prog 90 #[.agg #[.bool x0, .string t0, .bool x1, .string t1]] W (fun e w' => e = .returned (.bool r) ∧ Below W.heap.size W w') := by
 rw [← hV]
 exact rmayf_any (w := W) hm
theorem rtext4 {A B : Int} {x0 x1 : Bool} {t0 t1 : ByteArray} (hV : encF A B = .agg #[.bool x0, .string t0, .bool x1, .string t1]) (hm : MayZ A B) (W : World) :
  Calls Tryz.prog 74 #[.agg #[.bool x0, .string t0, .bool x1, .string t1]] W (fun e w' => e = .returned (.string ⟨(txtF A B).toArray⟩) ∧ Below W.heap.size W w') := by
 rw [← hV]
 refine (rtextf_yes (w := W) hm).mono ?_
 rintro e w' ⟨he, hb⟩
 exact ⟨by rw [he, num_back, num_back], hb⟩
structure RfS (w wr : World) (g : Nat) (xs : Array Value) : Prop where
 r : Blk wr w.heap.size 36 #[.bool false, .string ⟨#[]⟩, .bool false, .string ⟨#[]⟩]
 x : Blk wr g 36 xs
 b : Below w.heap.size w wr
 l : w.heap.size < g
theorem RfS.below {w wr w' : World} {g : Nat} {xs : Array Value} (h : RfS w wr g xs) (hb : Below wr.heap.size wr w') : RfS w w' g xs := ⟨h.r.below hb h.r.lt, h.x.below hb h.x.lt, h.b.trans (hb.mono h.b.size), h.l⟩
theorem RfS.alloc {w wr : World} {g : Nat} {xs : Array Value} (h : RfS w wr g xs) (o : Obj) : RfS w (wr.alloc o) g xs := h.below (new_below _ _)
theorem RfS.put {w wr : World} {g : Nat} {xs : Array Value} (h : RfS w wr g xs) (o : Nat) (v : Value) : RfS w (wr.setCell ⟨g, o, none⟩ v) g (xs.setIfInBounds o v) :=
 ⟨h.r.far (p := ⟨g, o, none⟩) (by have := h.l; show w.heap.size ≠ g; omega) v, h.x.set_ o v, h.b.setCell (by have := h.l; show w.heap.size ≤ g; omega) v, h.l⟩
theorem RfS.done {w wr : World} {g : Nat} {xs : Array Value} (h : RfS w wr g xs) (u0 u1 u2 u3 : Value) : Below w.heap.size w ((((wr.setCell ⟨w.heap.size, 0, none⟩ u0).setCell ⟨w.heap.size, 1, none⟩ u1).setCell ⟨w.heap.size, 2, none⟩ u2).setCell ⟨w.heap.size, 3, none⟩ u3) :=
 (((h.b.setCell (Nat.le_refl _) _).setCell (Nat.le_refl _) _).setCell (Nat.le_refl _) _).setCell (Nat.le_refl _) _
theorem RfS.new {w W1 : World} (hbx : Box w W1 36 #[.bool false, .string ⟨#[]⟩, .bool false, .string ⟨#[]⟩]) (xs : Array Value) : RfS w (W1.alloc (.cells xs 36)) W1.heap.size xs :=
 ⟨hbx.1.alloc _, Blk.new _ _ _, hbx.2.alloc (by have := hbx.1.lt; omega) _, hbx.1.lt⟩
set_option maxRecDepth 100000 in
set_option maxHeartbeats 4000000 in
theorem rfread_any {w : World} {s : ByteArray} (hs : s.size ≤ 6000) :
  Calls Tryz.prog 69 #[.string s] w (FRead w s.data.toList) := by
 have HI := Lib.hid (fun W => rint_zero (w := W))
 have HL := Lib.hid (show s.data.toList.length = s.size by simp)
 have hs1 : ¬ 6000 < (s.size : Int) := by omega
 have hbx := Box.new w 36 #[.bool false, .string ⟨#[]⟩, .bool false, .string ⟨#[]⟩]
 have Hbx := Lib.hid hbx
 clear hbx
 go_enter Tryz.func69, Tryz.ntmps69
 go_wp2_with fail
 go_loopg [4, 5] s.size (fun k av iv wr => ∃ (t i : Nat), av = .int .i64 (t : Int) ∧ iv = .int .i64 (i : Int) ∧ k = s.size - i ∧ i ≤ s.size ∧ Hid ((t = s.size ∧ (47 : UInt8) ∉ s.data.toList.take i) ∨ (t < s.size ∧ i = t + 1 ∧ s.data.toList[t]? = some 47 ∧ (47 : UInt8) ∉ s.data.toList.take t)) ∧ Hid (wr = w.alloc (.cells #[.bool false, .string ⟨#[]⟩, .bool false, .string ⟨#[]⟩] 36)))
 case atStart => exact ⟨s.size, 0, rfl, rfl, by omega, by omega, Lib.hid (.inl ⟨rfl, by simp⟩), Lib.hid rfl⟩
 case round =>
  obtain ⟨t, i, rfl, rfl, hk, hi, hO, hW⟩ := hrel
  have Hk := Lib.hid hk
  clear hk
  have e := hW.out
  subst e
  have hbx := Hbx.out
  have hO' := hO.out
  rcases hO' with ⟨rfl, hno⟩ | ⟨ht, rfl, h47, hno⟩
  ·have e1 : ((s.size : Int) == (s.size : Int)) = true := by simp
   by_cases hin : i < s.size
   ·obtain ⟨b, hc, hl, hcl⟩ := byte_at hin
    have hb256 : b.toNat < 256 := b.toNat_lt
    have hii : (i : Int) < (s.size : Int) := by omega
    have hi0 : (0 : Int) ≤ (i : Int) := by omega
    by_cases hb : b = 47
    ·have e2 : ((b.toNat : Int) == 47) = true := by simp [hb]
     have Hg := Lib.hid (show s.data.toList[i]? = some 47 by rw [List.getElem?_eq_getElem hl, hcl, hb])
     have Hno := Lib.hid hno
     clear hcl hb hno
     go_wp2_with fail
     go_roundg (s.size - (i + 1))
     case measure => have := Hk.out; omega
     case rel => exact ⟨i, i + 1, rfl, rfl, rfl, by omega, Lib.hid (.inr ⟨hin, rfl, Hg.out, Hno.out⟩), Lib.hid rfl⟩
    ·have e2 : ((b.toNat : Int) == 47) = false := by
      refine beq_eq_false_iff_ne.2 fun h => hb (UInt8.toNat_inj.1 ?_)
      show b.toNat = 47
      omega
     have Hno := Lib.hid (take_slash hno hl (by rw [hcl]; exact hb))
     clear hcl hb hno
     go_wp2_with fail
     go_roundg (s.size - (i + 1))
     case measure => have := Hk.out; omega
     case rel => exact ⟨s.size, i + 1, rfl, rfl, rfl, by omega, Lib.hid (.inl ⟨rfl, Hno.out⟩), Lib.hid rfl⟩
   ·-- no slash
    have hii : ¬ (i : Int) < (s.size : Int) := by omega
    rw [List.take_of_length_le (by rw [HL.out]; omega)] at hno
    have hss : ¬ (s.size : Int) < (s.size : Int) := by omega
    have hs0 : (0 : Int) ≤ (s.size : Int) := by omega
    have Hno0 := Lib.hid hno
    clear hno
    by_cases hg : Good s.data.toList
    ·have HR := Lib.hid (rread_yes hs hg)
     have hV := encF_1 (rval s.data.toList)
     have HOff := Lib.hid (rf_off1 Hno0.out)
     clear hg
     by_cases hM : MayZ (rval s.data.toList) (1)
     ·have HM := Lib.hid (rmay4 (r := true) hV ⟨fun _ => hM, fun _ => rfl⟩)
      have HX := Lib.hid (rtext4 hV hM)
      obtain ⟨tq, hq⟩ : ∃ tq : ByteArray, tq = ⟨(txtF (rval s.data.toList) (1)).toArray⟩ := ⟨_, rfl⟩
      rw [← hq] at HX
      by_cases he : tq = s
      ·have Hq := Lib.hid (And.intro hM (show s.data.toList = txtF (rval s.data.toList) (1) from (congrArg (fun t : ByteArray => t.data.toList) (hq.symm.trans he)).symm))
       have HV2 := Lib.hid hV
       have e4 : tq.toList = s.toList := by rw [he]
       have e5 : (tq.toList == s.toList) = true := by simp [he]
       have e6 : (tq.toList != s.toList) = false := by simp [he]
       clear hq hV hM he
       go_wp2_with (first | (go_at_call 88; (with_reducible refine (HI.out _).mono ?_); rintro _ W1 ⟨rfl, hb1⟩; have hbx1 := hbx.next hb1; have HS0 := Lib.hid (RfS.new hbx1 #[.bool false, .string ⟨#[]⟩, .bool false, .string ⟨#[1]⟩]); have hne1 : ¬ w.heap.size = W1.heap.size := (by have := HS0.out.l; omega); have hne2 : ¬ W1.heap.size = w.heap.size := (by have := HS0.out.l; omega); have c0 := HS0.out.x.cell 0; have c1 := HS0.out.x.cell 1; have c2 := HS0.out.x.cell 2; have c3 := HS0.out.x.cell 3; have f0 := HS0.out.x.frozen 0; have f1 := HS0.out.x.frozen 1; have f2 := HS0.out.x.frozen 2; have f3 := HS0.out.x.frozen 3; have rb0 := HS0.out.r.cell 0; have rb1 := HS0.out.r.cell 1; have rb2 := HS0.out.r.cell 2; have rb3 := HS0.out.r.cell 3; have rf0 := HS0.out.r.frozen 0; have rf1 := HS0.out.r.frozen 1; have rf2 := HS0.out.r.frozen 2; have rf3 := HS0.out.r.frozen 3) | (go_at_call 89; (with_reducible refine (HR.out _).mono ?_); rintro _ W2 ⟨rfl, hbW2⟩; have HS2 := Lib.hid ((HS0.out.below hbW2).alloc (.cells #[.bool (decide (rval s.data.toList < 0)), .string ⟨(bys (rval s.data.toList).natAbs).toArray⟩] 34)); have c0 := HS2.out.x.cell 0; have c1 := HS2.out.x.cell 1; have c2 := HS2.out.x.cell 2; have c3 := HS2.out.x.cell 3; have f0 := HS2.out.x.frozen 0; have f1 := HS2.out.x.frozen 1; have f2 := HS2.out.x.frozen 2; have f3 := HS2.out.x.frozen 3; have rb0 := HS2.out.r.cell 0; have rb1 := HS2.out.r.cell 1; have rb2 := HS2.out.r.cell 2; have rb3 := HS2.out.r.cell 3; have rf0 := HS2.out.r.frozen 0; have rf1 := HS2.out.r.frozen 1; have rf2 := HS2.out.r.frozen 2; have rf3 := HS2.out.r.frozen 3; have HS3 := Lib.hid ((HS2.out.put 0 (.bool (decide (rval s.data.toList < 0)))).put 1 (.string ⟨(bys (rval s.data.toList).natAbs).toArray⟩))) | (go_at_call 90; (with_reducible refine (HM.out _).mono ?_); rintro _ W6 ⟨rfl, hb6⟩; have HS6 := Lib.hid (HS3.out.below hb6); have c0 := HS6.out.x.cell 0; have c1 := HS6.out.x.cell 1; have c2 := HS6.out.x.cell 2; have c3 := HS6.out.x.cell 3; have f0 := HS6.out.x.frozen 0; have f1 := HS6.out.x.frozen 1; have f2 := HS6.out.x.frozen 2; have f3 := HS6.out.x.frozen 3; have rb0 := HS6.out.r.cell 0; have rb1 := HS6.out.r.cell 1; have rb2 := HS6.out.r.cell 2; have rb3 := HS6.out.r.cell 3; have rf0 := HS6.out.r.frozen 0; have rf1 := HS6.out.r.frozen 1; have rf2 := HS6.out.r.frozen 2; have rf3 := HS6.out.r.frozen 3) | (go_at_call 74; (with_reducible refine (HX.out _).mono ?_); rintro _ W7 ⟨rfl, hb7⟩; have HS7 := Lib.hid (HS6.out.below hb7); have c0 := HS7.out.x.cell 0; have c1 := HS7.out.x.cell 1; have c2 := HS7.out.x.cell 2; have c3 := HS7.out.x.cell 3; have f0 := HS7.out.x.frozen 0; have f1 := HS7.out.x.frozen 1; have f2 := HS7.out.x.frozen 2; have f3 := HS7.out.x.frozen 3; have rb0 := HS7.out.r.cell 0; have rb1 := HS7.out.r.cell 1; have rb2 := HS7.out.r.cell 2; have rb3 := HS7.out.r.cell 3; have rf0 := HS7.out.r.frozen 0; have rf1 := HS7.out.r.frozen 1; have rf2 := HS7.out.r.frozen 2; have rf3 := HS7.out.r.frozen 3))
       refine bodyPost_ret (v := .tuple #[.agg #[.bool (decide (rval s.data.toList < 0)), .string ⟨(bys (rval s.data.toList).natAbs).toArray⟩, .bool false, .string ⟨#[1]⟩], .int .i64 0]) (by simp [results, Tryz.results69, go_sem, rb0, rb1, rb2, rb3]) rfl ?_
       exact ⟨.inl ⟨_, _, by rw [HV2.out], Hq.out.1, Hq.out.2⟩, HS7.out.done _ _ _ _⟩
      ·have Hno := Lib.hid (HOff.out fun h => he (by rw [hq, ← h.2]))
       have e4 : ¬ tq.toList = s.toList := fun h => he (tl_inj h)
       have e5 : (tq.toList == s.toList) = false := by simpa using e4
       have e6 : (tq.toList != s.toList) = true := by simpa using e4
       clear hq hV hM
       go_wp2_with (first | (go_at_call 88; (with_reducible refine (HI.out _).mono ?_); rintro _ W1 ⟨rfl, hb1⟩; have hbx1 := hbx.next hb1; have HS0 := Lib.hid (RfS.new hbx1 #[.bool false, .string ⟨#[]⟩, .bool false, .string ⟨#[1]⟩]); have hne1 : ¬ w.heap.size = W1.heap.size := (by have := HS0.out.l; omega); have hne2 : ¬ W1.heap.size = w.heap.size := (by have := HS0.out.l; omega); have c0 := HS0.out.x.cell 0; have c1 := HS0.out.x.cell 1; have c2 := HS0.out.x.cell 2; have c3 := HS0.out.x.cell 3; have f0 := HS0.out.x.frozen 0; have f1 := HS0.out.x.frozen 1; have f2 := HS0.out.x.frozen 2; have f3 := HS0.out.x.frozen 3; have rb0 := HS0.out.r.cell 0; have rb1 := HS0.out.r.cell 1; have rb2 := HS0.out.r.cell 2; have rb3 := HS0.out.r.cell 3; have rf0 := HS0.out.r.frozen 0; have rf1 := HS0.out.r.frozen 1; have rf2 := HS0.out.r.frozen 2; have rf3 := HS0.out.r.frozen 3) | (go_at_call 89; (with_reducible refine (HR.out _).mono ?_); rintro _ W2 ⟨rfl, hbW2⟩; have HS2 := Lib.hid ((HS0.out.below hbW2).alloc (.cells #[.bool (decide (rval s.data.toList < 0)), .string ⟨(bys (rval s.data.toList).natAbs).toArray⟩] 34)); have c0 := HS2.out.x.cell 0; have c1 := HS2.out.x.cell 1; have c2 := HS2.out.x.cell 2; have c3 := HS2.out.x.cell 3; have f0 := HS2.out.x.frozen 0; have f1 := HS2.out.x.frozen 1; have f2 := HS2.out.x.frozen 2; have f3 := HS2.out.x.frozen 3; have rb0 := HS2.out.r.cell 0; have rb1 := HS2.out.r.cell 1; have rb2 := HS2.out.r.cell 2; have rb3 := HS2.out.r.cell 3; have rf0 := HS2.out.r.frozen 0; have rf1 := HS2.out.r.frozen 1; have rf2 := HS2.out.r.frozen 2; have rf3 := HS2.out.r.frozen 3; have HS3 := Lib.hid ((HS2.out.put 0 (.bool (decide (rval s.data.toList < 0)))).put 1 (.string ⟨(bys (rval s.data.toList).natAbs).toArray⟩))) | (go_at_call 90; (with_reducible refine (HM.out _).mono ?_); rintro _ W6 ⟨rfl, hb6⟩; have HS6 := Lib.hid (HS3.out.below hb6); have c0 := HS6.out.x.cell 0; have c1 := HS6.out.x.cell 1; have c2 := HS6.out.x.cell 2; have c3 := HS6.out.x.cell 3; have f0 := HS6.out.x.frozen 0; have f1 := HS6.out.x.frozen 1; have f2 := HS6.out.x.frozen 2; have f3 := HS6.out.x.frozen 3; have rb0 := HS6.out.r.cell 0; have rb1 := HS6.out.r.cell 1; have rb2 := HS6.out.r.cell 2; have rb3 := HS6.out.r.cell 3; have rf0 := HS6.out.r.frozen 0; have rf1 := HS6.out.r.frozen 1; have rf2 := HS6.out.r.frozen 2; have rf3 := HS6.out.r.frozen 3) | (go_at_call 74; (with_reducible refine (HX.out _).mono ?_); rintro _ W7 ⟨rfl, hb7⟩; have HS7 := Lib.hid (HS6.out.below hb7); have c0 := HS7.out.x.cell 0; have c1 := HS7.out.x.cell 1; have c2 := HS7.out.x.cell 2; have c3 := HS7.out.x.cell 3; have f0 := HS7.out.x.frozen 0; have f1 := HS7.out.x.frozen 1; have f2 := HS7.out.x.frozen 2; have f3 := HS7.out.x.frozen 3; have rb0 := HS7.out.r.cell 0; have rb1 := HS7.out.r.cell 1; have rb2 := HS7.out.r.cell 2; have rb3 := HS7.out.r.cell 3; have rf0 := HS7.out.r.frozen 0; have rf1 := HS7.out.r.frozen 1; have rf2 := HS7.out.r.frozen 2; have rf3 := HS7.out.r.frozen 3))
       refine bodyPost_ret (v := .tuple #[.agg #[.bool false, .string ⟨#[]⟩, .bool false, .string ⟨#[]⟩], .int .i64 130]) (by simp [results, Tryz.results69, go_sem, rb0, rb1, rb2, rb3]) rfl ?_
       exact ⟨.inr ⟨rfl, Hno.out⟩, HS7.out.done _ _ _ _⟩
     ·have HM := Lib.hid (rmay4 (r := false) hV ⟨fun h => (by cases h), fun h => absurd h hM⟩)
      have Hno := Lib.hid (HOff.out fun h => hM h.1)
      clear hV hM
      go_wp2_with (first | (go_at_call 88; (with_reducible refine (HI.out _).mono ?_); rintro _ W1 ⟨rfl, hb1⟩; have hbx1 := hbx.next hb1; have HS0 := Lib.hid (RfS.new hbx1 #[.bool false, .string ⟨#[]⟩, .bool false, .string ⟨#[1]⟩]); have hne1 : ¬ w.heap.size = W1.heap.size := (by have := HS0.out.l; omega); have hne2 : ¬ W1.heap.size = w.heap.size := (by have := HS0.out.l; omega); have c0 := HS0.out.x.cell 0; have c1 := HS0.out.x.cell 1; have c2 := HS0.out.x.cell 2; have c3 := HS0.out.x.cell 3; have f0 := HS0.out.x.frozen 0; have f1 := HS0.out.x.frozen 1; have f2 := HS0.out.x.frozen 2; have f3 := HS0.out.x.frozen 3; have rb0 := HS0.out.r.cell 0; have rb1 := HS0.out.r.cell 1; have rb2 := HS0.out.r.cell 2; have rb3 := HS0.out.r.cell 3; have rf0 := HS0.out.r.frozen 0; have rf1 := HS0.out.r.frozen 1; have rf2 := HS0.out.r.frozen 2; have rf3 := HS0.out.r.frozen 3) | (go_at_call 89; (with_reducible refine (HR.out _).mono ?_); rintro _ W2 ⟨rfl, hbW2⟩; have HS2 := Lib.hid ((HS0.out.below hbW2).alloc (.cells #[.bool (decide (rval s.data.toList < 0)), .string ⟨(bys (rval s.data.toList).natAbs).toArray⟩] 34)); have c0 := HS2.out.x.cell 0; have c1 := HS2.out.x.cell 1; have c2 := HS2.out.x.cell 2; have c3 := HS2.out.x.cell 3; have f0 := HS2.out.x.frozen 0; have f1 := HS2.out.x.frozen 1; have f2 := HS2.out.x.frozen 2; have f3 := HS2.out.x.frozen 3; have rb0 := HS2.out.r.cell 0; have rb1 := HS2.out.r.cell 1; have rb2 := HS2.out.r.cell 2; have rb3 := HS2.out.r.cell 3; have rf0 := HS2.out.r.frozen 0; have rf1 := HS2.out.r.frozen 1; have rf2 := HS2.out.r.frozen 2; have rf3 := HS2.out.r.frozen 3; have HS3 := Lib.hid ((HS2.out.put 0 (.bool (decide (rval s.data.toList < 0)))).put 1 (.string ⟨(bys (rval s.data.toList).natAbs).toArray⟩))) | (go_at_call 90; (with_reducible refine (HM.out _).mono ?_); rintro _ W6 ⟨rfl, hb6⟩; have HS6 := Lib.hid (HS3.out.below hb6); have c0 := HS6.out.x.cell 0; have c1 := HS6.out.x.cell 1; have c2 := HS6.out.x.cell 2; have c3 := HS6.out.x.cell 3; have f0 := HS6.out.x.frozen 0; have f1 := HS6.out.x.frozen 1; have f2 := HS6.out.x.frozen 2; have f3 := HS6.out.x.frozen 3; have rb0 := HS6.out.r.cell 0; have rb1 := HS6.out.r.cell 1; have rb2 := HS6.out.r.cell 2; have rb3 := HS6.out.r.cell 3; have rf0 := HS6.out.r.frozen 0; have rf1 := HS6.out.r.frozen 1; have rf2 := HS6.out.r.frozen 2; have rf3 := HS6.out.r.frozen 3))
      refine bodyPost_ret (v := .tuple #[.agg #[.bool false, .string ⟨#[]⟩, .bool false, .string ⟨#[]⟩], .int .i64 130]) (by simp [results, Tryz.results69, go_sem, rb0, rb1, rb2, rb3]) rfl ?_
      exact ⟨.inr ⟨rfl, Hno.out⟩, HS6.out.done _ _ _ _⟩
    ·have HR := Lib.hid (rread_no hs hg)
     have Hno := Lib.hid (rf_bad1 Hno0.out hg)
     clear hg
     go_wp2_with (first | (go_at_call 88; (with_reducible refine (HI.out _).mono ?_); rintro _ W1 ⟨rfl, hb1⟩; have hbx1 := hbx.next hb1; have HS0 := Lib.hid (RfS.new hbx1 #[.bool false, .string ⟨#[]⟩, .bool false, .string ⟨#[1]⟩]); have hne1 : ¬ w.heap.size = W1.heap.size := (by have := HS0.out.l; omega); have hne2 : ¬ W1.heap.size = w.heap.size := (by have := HS0.out.l; omega); have c0 := HS0.out.x.cell 0; have c1 := HS0.out.x.cell 1; have c2 := HS0.out.x.cell 2; have c3 := HS0.out.x.cell 3; have f0 := HS0.out.x.frozen 0; have f1 := HS0.out.x.frozen 1; have f2 := HS0.out.x.frozen 2; have f3 := HS0.out.x.frozen 3; have rb0 := HS0.out.r.cell 0; have rb1 := HS0.out.r.cell 1; have rb2 := HS0.out.r.cell 2; have rb3 := HS0.out.r.cell 3; have rf0 := HS0.out.r.frozen 0; have rf1 := HS0.out.r.frozen 1; have rf2 := HS0.out.r.frozen 2; have rf3 := HS0.out.r.frozen 3) | (go_at_call 89; (with_reducible refine (HR.out _).mono ?_); rintro _ W2 ⟨rfl, hbW2⟩; have HS2 := Lib.hid ((HS0.out.below hbW2).alloc (.cells #[.bool false, .string ⟨#[]⟩] 34)); have c0 := HS2.out.x.cell 0; have c1 := HS2.out.x.cell 1; have c2 := HS2.out.x.cell 2; have c3 := HS2.out.x.cell 3; have f0 := HS2.out.x.frozen 0; have f1 := HS2.out.x.frozen 1; have f2 := HS2.out.x.frozen 2; have f3 := HS2.out.x.frozen 3; have rb0 := HS2.out.r.cell 0; have rb1 := HS2.out.r.cell 1; have rb2 := HS2.out.r.cell 2; have rb3 := HS2.out.r.cell 3; have rf0 := HS2.out.r.frozen 0; have rf1 := HS2.out.r.frozen 1; have rf2 := HS2.out.r.frozen 2; have rf3 := HS2.out.r.frozen 3; have HS3 := Lib.hid ((HS2.out.put 0 (.bool false)).put 1 (.string ⟨#[]⟩))))
     refine bodyPost_ret (v := .tuple #[.agg #[.bool false, .string ⟨#[]⟩, .bool false, .string ⟨#[]⟩], .int .i64 130]) (by simp [results, Tryz.results69, go_sem, rb0, rb1, rb2, rb3]) rfl ?_
     exact ⟨.inr ⟨rfl, Hno.out⟩, HS3.out.done _ _ _ _⟩
  ·-- a slash
   have h1 : t < s.data.toList.length := by rw [HL.out]; exact ht
   have hbyte : s.data.toList[t] = 47 := by rw [List.getElem?_eq_getElem h1] at h47; injection h47
   have Hl := Lib.hid (at_slash h1 hbyte)
   have hn0 : ((t : Int) == (s.size : Int)) = false := by simp; omega
   have hti : (t : Int) < (s.size : Int) := by omega
   have ht0 : (0 : Int) ≤ (t : Int) := by omega
   have htn : (t : Int) ≤ (s.size : Int) := by omega
   have ht1 : (0 : Int) ≤ (t : Int) + 1 := by omega
   have ht2 : (t : Int) + 1 ≤ (s.size : Int) := by omega
   obtain ⟨hp1, hp2⟩ := take_bytes s t (by omega)
   obtain ⟨hq1, hq2⟩ := drop_bytes s (t + 1) (by omega)
   rw [← hp1, ← hq1] at Hl
   rw [← hp1] at hno
   have HPz := Lib.hid (And.intro (show (s.extract 0 t).size ≤ 6000 by omega) (show (s.extract (t + 1) s.size).size ≤ 6000 by omega))
   have HOff := Lib.hid (fun hh => rf_off hno (q := (s.extract (t + 1) s.size).data.toList) hh)
   have HBp := Lib.hid (fun hh => rf_badp (q := (s.extract (t + 1) s.size).data.toList) hno hh)
   have HBq := Lib.hid (fun hh => rf_badq (q := (s.extract (t + 1) s.size).data.toList) hno hh)
   rw [← Hl.out] at HOff HBp HBq
   obtain ⟨pl, hpl⟩ : ∃ pl : List UInt8, pl = (s.extract 0 t).data.toList := ⟨_, rfl⟩
   obtain ⟨ql, hql⟩ : ∃ ql : List UInt8, ql = (s.extract (t + 1) s.size).data.toList := ⟨_, rfl⟩
   rw [← hpl, ← hql] at HOff
   rw [← hpl] at HBp
   rw [← hql] at HBq
   clear hp1 hp2 hq1 hq2 h47 hno hbyte h1 hO hi
   rcases Classical.em ((t : Int) + 1 < (s.size : Int)) with hii | hii
   all_goals
    by_cases hgq : Good ql
    ·by_cases hgp : Good pl
     ·have HR1 := Lib.hid (rread_yes HPz.out.1 (by rw [← hpl]; exact hgp))
      have HR2 := Lib.hid (rread_yes HPz.out.2 (by rw [← hql]; exact hgq))
      rw [← hpl] at HR1
      rw [← hql] at HR2
      have hV : encF (rval pl) (rval ql) = .agg #[.bool (decide (rval pl < 0)), .string ⟨(bys (rval pl).natAbs).toArray⟩, .bool (decide (rval ql < 0)), .string ⟨(bys (rval ql).natAbs).toArray⟩] := rfl
      clear hgp hgq hpl hql
      by_cases hM : MayZ (rval pl) (rval ql)
      ·have HM := Lib.hid (rmay4 (r := true) hV ⟨fun _ => hM, fun _ => rfl⟩)
       have HX := Lib.hid (rtext4 hV hM)
       obtain ⟨tq, hq⟩ : ∃ tq : ByteArray, tq = ⟨(txtF (rval pl) (rval ql)).toArray⟩ := ⟨_, rfl⟩
       rw [← hq] at HX
       by_cases he : tq = s
       ·have Hq := Lib.hid (And.intro hM (show s.data.toList = txtF (rval pl) (rval ql) from (congrArg (fun t : ByteArray => t.data.toList) (hq.symm.trans he)).symm))
        have HV2 := Lib.hid hV
        have e4 : tq.toList = s.toList := by rw [he]
        have e5 : (tq.toList == s.toList) = true := by simp [he]
        have e6 : (tq.toList != s.toList) = false := by simp [he]
        clear hq hV hM he
        go_wp2_with (first | (go_at_call 88; (with_reducible refine (HI.out _).mono ?_); rintro _ W1 ⟨rfl, hb1⟩; have hbx1 := hbx.next hb1; have HS0 := Lib.hid (RfS.new hbx1 #[.bool false, .string ⟨#[]⟩, .bool false, .string ⟨#[1]⟩]); have hne1 : ¬ w.heap.size = W1.heap.size := (by have := HS0.out.l; omega); have hne2 : ¬ W1.heap.size = w.heap.size := (by have := HS0.out.l; omega); have c0 := HS0.out.x.cell 0; have c1 := HS0.out.x.cell 1; have c2 := HS0.out.x.cell 2; have c3 := HS0.out.x.cell 3; have f0 := HS0.out.x.frozen 0; have f1 := HS0.out.x.frozen 1; have f2 := HS0.out.x.frozen 2; have f3 := HS0.out.x.frozen 3; have rb0 := HS0.out.r.cell 0; have rb1 := HS0.out.r.cell 1; have rb2 := HS0.out.r.cell 2; have rb3 := HS0.out.r.cell 3; have rf0 := HS0.out.r.frozen 0; have rf1 := HS0.out.r.frozen 1; have rf2 := HS0.out.r.frozen 2; have rf3 := HS0.out.r.frozen 3) | (go_at_call 89; (with_reducible refine (HR1.out _).mono ?_); rintro _ W2 ⟨rfl, hbW2⟩; have HS2 := Lib.hid ((HS0.out.below hbW2).alloc (.cells #[.bool (decide (rval pl < 0)), .string ⟨(bys (rval pl).natAbs).toArray⟩] 34)); have c0 := HS2.out.x.cell 0; have c1 := HS2.out.x.cell 1; have c2 := HS2.out.x.cell 2; have c3 := HS2.out.x.cell 3; have f0 := HS2.out.x.frozen 0; have f1 := HS2.out.x.frozen 1; have f2 := HS2.out.x.frozen 2; have f3 := HS2.out.x.frozen 3; have rb0 := HS2.out.r.cell 0; have rb1 := HS2.out.r.cell 1; have rb2 := HS2.out.r.cell 2; have rb3 := HS2.out.r.cell 3; have rf0 := HS2.out.r.frozen 0; have rf1 := HS2.out.r.frozen 1; have rf2 := HS2.out.r.frozen 2; have rf3 := HS2.out.r.frozen 3; have HS3 := Lib.hid ((HS2.out.put 0 (.bool (decide (rval pl < 0)))).put 1 (.string ⟨(bys (rval pl).natAbs).toArray⟩))) | (go_at_call 89; (with_reducible refine (HR2.out _).mono ?_); rintro _ W4 ⟨rfl, hbW4⟩; have HS4 := Lib.hid ((HS3.out.below hbW4).alloc (.cells #[.bool (decide (rval ql < 0)), .string ⟨(bys (rval ql).natAbs).toArray⟩] 34)); have c0 := HS4.out.x.cell 0; have c1 := HS4.out.x.cell 1; have c2 := HS4.out.x.cell 2; have c3 := HS4.out.x.cell 3; have f0 := HS4.out.x.frozen 0; have f1 := HS4.out.x.frozen 1; have f2 := HS4.out.x.frozen 2; have f3 := HS4.out.x.frozen 3; have rb0 := HS4.out.r.cell 0; have rb1 := HS4.out.r.cell 1; have rb2 := HS4.out.r.cell 2; have rb3 := HS4.out.r.cell 3; have rf0 := HS4.out.r.frozen 0; have rf1 := HS4.out.r.frozen 1; have rf2 := HS4.out.r.frozen 2; have rf3 := HS4.out.r.frozen 3; have HS5 := Lib.hid ((HS4.out.put 2 (.bool (decide (rval ql < 0)))).put 3 (.string ⟨(bys (rval ql).natAbs).toArray⟩))) | (go_at_call 90; (with_reducible refine (HM.out _).mono ?_); rintro _ W6 ⟨rfl, hb6⟩; have HS6 := Lib.hid (HS5.out.below hb6); have c0 := HS6.out.x.cell 0; have c1 := HS6.out.x.cell 1; have c2 := HS6.out.x.cell 2; have c3 := HS6.out.x.cell 3; have f0 := HS6.out.x.frozen 0; have f1 := HS6.out.x.frozen 1; have f2 := HS6.out.x.frozen 2; have f3 := HS6.out.x.frozen 3; have rb0 := HS6.out.r.cell 0; have rb1 := HS6.out.r.cell 1; have rb2 := HS6.out.r.cell 2; have rb3 := HS6.out.r.cell 3; have rf0 := HS6.out.r.frozen 0; have rf1 := HS6.out.r.frozen 1; have rf2 := HS6.out.r.frozen 2; have rf3 := HS6.out.r.frozen 3) | (go_at_call 74; (with_reducible refine (HX.out _).mono ?_); rintro _ W7 ⟨rfl, hb7⟩; have HS7 := Lib.hid (HS6.out.below hb7); have c0 := HS7.out.x.cell 0; have c1 := HS7.out.x.cell 1; have c2 := HS7.out.x.cell 2; have c3 := HS7.out.x.cell 3; have f0 := HS7.out.x.frozen 0; have f1 := HS7.out.x.frozen 1; have f2 := HS7.out.x.frozen 2; have f3 := HS7.out.x.frozen 3; have rb0 := HS7.out.r.cell 0; have rb1 := HS7.out.r.cell 1; have rb2 := HS7.out.r.cell 2; have rb3 := HS7.out.r.cell 3; have rf0 := HS7.out.r.frozen 0; have rf1 := HS7.out.r.frozen 1; have rf2 := HS7.out.r.frozen 2; have rf3 := HS7.out.r.frozen 3))
        refine bodyPost_ret (v := .tuple #[.agg #[.bool (decide (rval pl < 0)), .string ⟨(bys (rval pl).natAbs).toArray⟩, .bool (decide (rval ql < 0)), .string ⟨(bys (rval ql).natAbs).toArray⟩], .int .i64 0]) (by simp [results, Tryz.results69, go_sem, rb0, rb1, rb2, rb3]) rfl ?_
        exact ⟨.inl ⟨_, _, by rw [HV2.out], Hq.out.1, Hq.out.2⟩, HS7.out.done _ _ _ _⟩
       ·have Hno := Lib.hid (HOff.out fun h => he (by rw [hq, ← h.2]))
        have e4 : ¬ tq.toList = s.toList := fun h => he (tl_inj h)
        have e5 : (tq.toList == s.toList) = false := by simpa using e4
        have e6 : (tq.toList != s.toList) = true := by simpa using e4
        clear hq hV hM
        go_wp2_with (first | (go_at_call 88; (with_reducible refine (HI.out _).mono ?_); rintro _ W1 ⟨rfl, hb1⟩; have hbx1 := hbx.next hb1; have HS0 := Lib.hid (RfS.new hbx1 #[.bool false, .string ⟨#[]⟩, .bool false, .string ⟨#[1]⟩]); have hne1 : ¬ w.heap.size = W1.heap.size := (by have := HS0.out.l; omega); have hne2 : ¬ W1.heap.size = w.heap.size := (by have := HS0.out.l; omega); have c0 := HS0.out.x.cell 0; have c1 := HS0.out.x.cell 1; have c2 := HS0.out.x.cell 2; have c3 := HS0.out.x.cell 3; have f0 := HS0.out.x.frozen 0; have f1 := HS0.out.x.frozen 1; have f2 := HS0.out.x.frozen 2; have f3 := HS0.out.x.frozen 3; have rb0 := HS0.out.r.cell 0; have rb1 := HS0.out.r.cell 1; have rb2 := HS0.out.r.cell 2; have rb3 := HS0.out.r.cell 3; have rf0 := HS0.out.r.frozen 0; have rf1 := HS0.out.r.frozen 1; have rf2 := HS0.out.r.frozen 2; have rf3 := HS0.out.r.frozen 3) | (go_at_call 89; (with_reducible refine (HR1.out _).mono ?_); rintro _ W2 ⟨rfl, hbW2⟩; have HS2 := Lib.hid ((HS0.out.below hbW2).alloc (.cells #[.bool (decide (rval pl < 0)), .string ⟨(bys (rval pl).natAbs).toArray⟩] 34)); have c0 := HS2.out.x.cell 0; have c1 := HS2.out.x.cell 1; have c2 := HS2.out.x.cell 2; have c3 := HS2.out.x.cell 3; have f0 := HS2.out.x.frozen 0; have f1 := HS2.out.x.frozen 1; have f2 := HS2.out.x.frozen 2; have f3 := HS2.out.x.frozen 3; have rb0 := HS2.out.r.cell 0; have rb1 := HS2.out.r.cell 1; have rb2 := HS2.out.r.cell 2; have rb3 := HS2.out.r.cell 3; have rf0 := HS2.out.r.frozen 0; have rf1 := HS2.out.r.frozen 1; have rf2 := HS2.out.r.frozen 2; have rf3 := HS2.out.r.frozen 3; have HS3 := Lib.hid ((HS2.out.put 0 (.bool (decide (rval pl < 0)))).put 1 (.string ⟨(bys (rval pl).natAbs).toArray⟩))) | (go_at_call 89; (with_reducible refine (HR2.out _).mono ?_); rintro _ W4 ⟨rfl, hbW4⟩; have HS4 := Lib.hid ((HS3.out.below hbW4).alloc (.cells #[.bool (decide (rval ql < 0)), .string ⟨(bys (rval ql).natAbs).toArray⟩] 34)); have c0 := HS4.out.x.cell 0; have c1 := HS4.out.x.cell 1; have c2 := HS4.out.x.cell 2; have c3 := HS4.out.x.cell 3; have f0 := HS4.out.x.frozen 0; have f1 := HS4.out.x.frozen 1; have f2 := HS4.out.x.frozen 2; have f3 := HS4.out.x.frozen 3; have rb0 := HS4.out.r.cell 0; have rb1 := HS4.out.r.cell 1; have rb2 := HS4.out.r.cell 2; have rb3 := HS4.out.r.cell 3; have rf0 := HS4.out.r.frozen 0; have rf1 := HS4.out.r.frozen 1; have rf2 := HS4.out.r.frozen 2; have rf3 := HS4.out.r.frozen 3; have HS5 := Lib.hid ((HS4.out.put 2 (.bool (decide (rval ql < 0)))).put 3 (.string ⟨(bys (rval ql).natAbs).toArray⟩))) | (go_at_call 90; (with_reducible refine (HM.out _).mono ?_); rintro _ W6 ⟨rfl, hb6⟩; have HS6 := Lib.hid (HS5.out.below hb6); have c0 := HS6.out.x.cell 0; have c1 := HS6.out.x.cell 1; have c2 := HS6.out.x.cell 2; have c3 := HS6.out.x.cell 3; have f0 := HS6.out.x.frozen 0; have f1 := HS6.out.x.frozen 1; have f2 := HS6.out.x.frozen 2; have f3 := HS6.out.x.frozen 3; have rb0 := HS6.out.r.cell 0; have rb1 := HS6.out.r.cell 1; have rb2 := HS6.out.r.cell 2; have rb3 := HS6.out.r.cell 3; have rf0 := HS6.out.r.frozen 0; have rf1 := HS6.out.r.frozen 1; have rf2 := HS6.out.r.frozen 2; have rf3 := HS6.out.r.frozen 3) | (go_at_call 74; (with_reducible refine (HX.out _).mono ?_); rintro _ W7 ⟨rfl, hb7⟩; have HS7 := Lib.hid (HS6.out.below hb7); have c0 := HS7.out.x.cell 0; have c1 := HS7.out.x.cell 1; have c2 := HS7.out.x.cell 2; have c3 := HS7.out.x.cell 3; have f0 := HS7.out.x.frozen 0; have f1 := HS7.out.x.frozen 1; have f2 := HS7.out.x.frozen 2; have f3 := HS7.out.x.frozen 3; have rb0 := HS7.out.r.cell 0; have rb1 := HS7.out.r.cell 1; have rb2 := HS7.out.r.cell 2; have rb3 := HS7.out.r.cell 3; have rf0 := HS7.out.r.frozen 0; have rf1 := HS7.out.r.frozen 1; have rf2 := HS7.out.r.frozen 2; have rf3 := HS7.out.r.frozen 3))
        refine bodyPost_ret (v := .tuple #[.agg #[.bool false, .string ⟨#[]⟩, .bool false, .string ⟨#[]⟩], .int .i64 130]) (by simp [results, Tryz.results69, go_sem, rb0, rb1, rb2, rb3]) rfl ?_
        exact ⟨.inr ⟨rfl, Hno.out⟩, HS7.out.done _ _ _ _⟩
      ·have HM := Lib.hid (rmay4 (r := false) hV ⟨fun h => (by cases h), fun h => absurd h hM⟩)
       have Hno := Lib.hid (HOff.out fun h => hM h.1)
       clear hV hM
       go_wp2_with (first | (go_at_call 88; (with_reducible refine (HI.out _).mono ?_); rintro _ W1 ⟨rfl, hb1⟩; have hbx1 := hbx.next hb1; have HS0 := Lib.hid (RfS.new hbx1 #[.bool false, .string ⟨#[]⟩, .bool false, .string ⟨#[1]⟩]); have hne1 : ¬ w.heap.size = W1.heap.size := (by have := HS0.out.l; omega); have hne2 : ¬ W1.heap.size = w.heap.size := (by have := HS0.out.l; omega); have c0 := HS0.out.x.cell 0; have c1 := HS0.out.x.cell 1; have c2 := HS0.out.x.cell 2; have c3 := HS0.out.x.cell 3; have f0 := HS0.out.x.frozen 0; have f1 := HS0.out.x.frozen 1; have f2 := HS0.out.x.frozen 2; have f3 := HS0.out.x.frozen 3; have rb0 := HS0.out.r.cell 0; have rb1 := HS0.out.r.cell 1; have rb2 := HS0.out.r.cell 2; have rb3 := HS0.out.r.cell 3; have rf0 := HS0.out.r.frozen 0; have rf1 := HS0.out.r.frozen 1; have rf2 := HS0.out.r.frozen 2; have rf3 := HS0.out.r.frozen 3) | (go_at_call 89; (with_reducible refine (HR1.out _).mono ?_); rintro _ W2 ⟨rfl, hbW2⟩; have HS2 := Lib.hid ((HS0.out.below hbW2).alloc (.cells #[.bool (decide (rval pl < 0)), .string ⟨(bys (rval pl).natAbs).toArray⟩] 34)); have c0 := HS2.out.x.cell 0; have c1 := HS2.out.x.cell 1; have c2 := HS2.out.x.cell 2; have c3 := HS2.out.x.cell 3; have f0 := HS2.out.x.frozen 0; have f1 := HS2.out.x.frozen 1; have f2 := HS2.out.x.frozen 2; have f3 := HS2.out.x.frozen 3; have rb0 := HS2.out.r.cell 0; have rb1 := HS2.out.r.cell 1; have rb2 := HS2.out.r.cell 2; have rb3 := HS2.out.r.cell 3; have rf0 := HS2.out.r.frozen 0; have rf1 := HS2.out.r.frozen 1; have rf2 := HS2.out.r.frozen 2; have rf3 := HS2.out.r.frozen 3; have HS3 := Lib.hid ((HS2.out.put 0 (.bool (decide (rval pl < 0)))).put 1 (.string ⟨(bys (rval pl).natAbs).toArray⟩))) | (go_at_call 89; (with_reducible refine (HR2.out _).mono ?_); rintro _ W4 ⟨rfl, hbW4⟩; have HS4 := Lib.hid ((HS3.out.below hbW4).alloc (.cells #[.bool (decide (rval ql < 0)), .string ⟨(bys (rval ql).natAbs).toArray⟩] 34)); have c0 := HS4.out.x.cell 0; have c1 := HS4.out.x.cell 1; have c2 := HS4.out.x.cell 2; have c3 := HS4.out.x.cell 3; have f0 := HS4.out.x.frozen 0; have f1 := HS4.out.x.frozen 1; have f2 := HS4.out.x.frozen 2; have f3 := HS4.out.x.frozen 3; have rb0 := HS4.out.r.cell 0; have rb1 := HS4.out.r.cell 1; have rb2 := HS4.out.r.cell 2; have rb3 := HS4.out.r.cell 3; have rf0 := HS4.out.r.frozen 0; have rf1 := HS4.out.r.frozen 1; have rf2 := HS4.out.r.frozen 2; have rf3 := HS4.out.r.frozen 3; have HS5 := Lib.hid ((HS4.out.put 2 (.bool (decide (rval ql < 0)))).put 3 (.string ⟨(bys (rval ql).natAbs).toArray⟩))) | (go_at_call 90; (with_reducible refine (HM.out _).mono ?_); rintro _ W6 ⟨rfl, hb6⟩; have HS6 := Lib.hid (HS5.out.below hb6); have c0 := HS6.out.x.cell 0; have c1 := HS6.out.x.cell 1; have c2 := HS6.out.x.cell 2; have c3 := HS6.out.x.cell 3; have f0 := HS6.out.x.frozen 0; have f1 := HS6.out.x.frozen 1; have f2 := HS6.out.x.frozen 2; have f3 := HS6.out.x.frozen 3; have rb0 := HS6.out.r.cell 0; have rb1 := HS6.out.r.cell 1; have rb2 := HS6.out.r.cell 2; have rb3 := HS6.out.r.cell 3; have rf0 := HS6.out.r.frozen 0; have rf1 := HS6.out.r.frozen 1; have rf2 := HS6.out.r.frozen 2; have rf3 := HS6.out.r.frozen 3))
       refine bodyPost_ret (v := .tuple #[.agg #[.bool false, .string ⟨#[]⟩, .bool false, .string ⟨#[]⟩], .int .i64 130]) (by simp [results, Tryz.results69, go_sem, rb0, rb1, rb2, rb3]) rfl ?_
       exact ⟨.inr ⟨rfl, Hno.out⟩, HS6.out.done _ _ _ _⟩
     ·have HR1 := Lib.hid (rread_no HPz.out.1 (by rw [← hpl]; exact hgp))
      have HR2 := Lib.hid (rread_yes HPz.out.2 (by rw [← hql]; exact hgq))
      rw [← hql] at HR2
      have Hno := Lib.hid (HBp.out hgp)
      clear hgp hgq hpl hql
      go_wp2_with (first | (go_at_call 88; (with_reducible refine (HI.out _).mono ?_); rintro _ W1 ⟨rfl, hb1⟩; have hbx1 := hbx.next hb1; have HS0 := Lib.hid (RfS.new hbx1 #[.bool false, .string ⟨#[]⟩, .bool false, .string ⟨#[1]⟩]); have hne1 : ¬ w.heap.size = W1.heap.size := (by have := HS0.out.l; omega); have hne2 : ¬ W1.heap.size = w.heap.size := (by have := HS0.out.l; omega); have c0 := HS0.out.x.cell 0; have c1 := HS0.out.x.cell 1; have c2 := HS0.out.x.cell 2; have c3 := HS0.out.x.cell 3; have f0 := HS0.out.x.frozen 0; have f1 := HS0.out.x.frozen 1; have f2 := HS0.out.x.frozen 2; have f3 := HS0.out.x.frozen 3; have rb0 := HS0.out.r.cell 0; have rb1 := HS0.out.r.cell 1; have rb2 := HS0.out.r.cell 2; have rb3 := HS0.out.r.cell 3; have rf0 := HS0.out.r.frozen 0; have rf1 := HS0.out.r.frozen 1; have rf2 := HS0.out.r.frozen 2; have rf3 := HS0.out.r.frozen 3) | (go_at_call 89; (with_reducible refine (HR1.out _).mono ?_); rintro _ W2 ⟨rfl, hbW2⟩; have HS2 := Lib.hid ((HS0.out.below hbW2).alloc (.cells #[.bool false, .string ⟨#[]⟩] 34)); have c0 := HS2.out.x.cell 0; have c1 := HS2.out.x.cell 1; have c2 := HS2.out.x.cell 2; have c3 := HS2.out.x.cell 3; have f0 := HS2.out.x.frozen 0; have f1 := HS2.out.x.frozen 1; have f2 := HS2.out.x.frozen 2; have f3 := HS2.out.x.frozen 3; have rb0 := HS2.out.r.cell 0; have rb1 := HS2.out.r.cell 1; have rb2 := HS2.out.r.cell 2; have rb3 := HS2.out.r.cell 3; have rf0 := HS2.out.r.frozen 0; have rf1 := HS2.out.r.frozen 1; have rf2 := HS2.out.r.frozen 2; have rf3 := HS2.out.r.frozen 3; have HS3 := Lib.hid ((HS2.out.put 0 (.bool false)).put 1 (.string ⟨#[]⟩))) | (go_at_call 89; (with_reducible refine (HR2.out _).mono ?_); rintro _ W4 ⟨rfl, hbW4⟩; have HS4 := Lib.hid ((HS3.out.below hbW4).alloc (.cells #[.bool (decide (rval ql < 0)), .string ⟨(bys (rval ql).natAbs).toArray⟩] 34)); have c0 := HS4.out.x.cell 0; have c1 := HS4.out.x.cell 1; have c2 := HS4.out.x.cell 2; have c3 := HS4.out.x.cell 3; have f0 := HS4.out.x.frozen 0; have f1 := HS4.out.x.frozen 1; have f2 := HS4.out.x.frozen 2; have f3 := HS4.out.x.frozen 3; have rb0 := HS4.out.r.cell 0; have rb1 := HS4.out.r.cell 1; have rb2 := HS4.out.r.cell 2; have rb3 := HS4.out.r.cell 3; have rf0 := HS4.out.r.frozen 0; have rf1 := HS4.out.r.frozen 1; have rf2 := HS4.out.r.frozen 2; have rf3 := HS4.out.r.frozen 3; have HS5 := Lib.hid ((HS4.out.put 2 (.bool (decide (rval ql < 0)))).put 3 (.string ⟨(bys (rval ql).natAbs).toArray⟩))))
      refine bodyPost_ret (v := .tuple #[.agg #[.bool false, .string ⟨#[]⟩, .bool false, .string ⟨#[]⟩], .int .i64 130]) (by simp [results, Tryz.results69, go_sem, rb0, rb1, rb2, rb3]) rfl ?_
      exact ⟨.inr ⟨rfl, Hno.out⟩, HS5.out.done _ _ _ _⟩
    ·obtain ⟨x0, t0, z, hr1⟩ := rread_two HPz.out.1
     have HR1 := Lib.hid hr1
     have HR2 := Lib.hid (rread_no HPz.out.2 (by rw [← hql]; exact hgq))
     have Hno := Lib.hid (HBq.out hgq)
     clear hgq hpl hql hr1
     go_wp2_with (first | (go_at_call 88; (with_reducible refine (HI.out _).mono ?_); rintro _ W1 ⟨rfl, hb1⟩; have hbx1 := hbx.next hb1; have HS0 := Lib.hid (RfS.new hbx1 #[.bool false, .string ⟨#[]⟩, .bool false, .string ⟨#[1]⟩]); have hne1 : ¬ w.heap.size = W1.heap.size := (by have := HS0.out.l; omega); have hne2 : ¬ W1.heap.size = w.heap.size := (by have := HS0.out.l; omega); have c0 := HS0.out.x.cell 0; have c1 := HS0.out.x.cell 1; have c2 := HS0.out.x.cell 2; have c3 := HS0.out.x.cell 3; have f0 := HS0.out.x.frozen 0; have f1 := HS0.out.x.frozen 1; have f2 := HS0.out.x.frozen 2; have f3 := HS0.out.x.frozen 3; have rb0 := HS0.out.r.cell 0; have rb1 := HS0.out.r.cell 1; have rb2 := HS0.out.r.cell 2; have rb3 := HS0.out.r.cell 3; have rf0 := HS0.out.r.frozen 0; have rf1 := HS0.out.r.frozen 1; have rf2 := HS0.out.r.frozen 2; have rf3 := HS0.out.r.frozen 3) | (go_at_call 89; (with_reducible refine (HR1.out _).mono ?_); rintro _ W2 ⟨rfl, hbW2⟩; have HS2 := Lib.hid ((HS0.out.below hbW2).alloc (.cells #[.bool x0, .string t0] 34)); have c0 := HS2.out.x.cell 0; have c1 := HS2.out.x.cell 1; have c2 := HS2.out.x.cell 2; have c3 := HS2.out.x.cell 3; have f0 := HS2.out.x.frozen 0; have f1 := HS2.out.x.frozen 1; have f2 := HS2.out.x.frozen 2; have f3 := HS2.out.x.frozen 3; have rb0 := HS2.out.r.cell 0; have rb1 := HS2.out.r.cell 1; have rb2 := HS2.out.r.cell 2; have rb3 := HS2.out.r.cell 3; have rf0 := HS2.out.r.frozen 0; have rf1 := HS2.out.r.frozen 1; have rf2 := HS2.out.r.frozen 2; have rf3 := HS2.out.r.frozen 3; have HS3 := Lib.hid ((HS2.out.put 0 (.bool x0)).put 1 (.string t0))) | (go_at_call 89; (with_reducible refine (HR2.out _).mono ?_); rintro _ W4 ⟨rfl, hbW4⟩; have HS4 := Lib.hid ((HS3.out.below hbW4).alloc (.cells #[.bool false, .string ⟨#[]⟩] 34)); have c0 := HS4.out.x.cell 0; have c1 := HS4.out.x.cell 1; have c2 := HS4.out.x.cell 2; have c3 := HS4.out.x.cell 3; have f0 := HS4.out.x.frozen 0; have f1 := HS4.out.x.frozen 1; have f2 := HS4.out.x.frozen 2; have f3 := HS4.out.x.frozen 3; have rb0 := HS4.out.r.cell 0; have rb1 := HS4.out.r.cell 1; have rb2 := HS4.out.r.cell 2; have rb3 := HS4.out.r.cell 3; have rf0 := HS4.out.r.frozen 0; have rf1 := HS4.out.r.frozen 1; have rf2 := HS4.out.r.frozen 2; have rf3 := HS4.out.r.frozen 3; have HS5 := Lib.hid ((HS4.out.put 2 (.bool false)).put 3 (.string ⟨#[]⟩))))
     refine bodyPost_ret (v := .tuple #[.agg #[.bool false, .string ⟨#[]⟩, .bool false, .string ⟨#[]⟩], .int .i64 130]) (by simp [results, Tryz.results69, go_sem, rb0, rb1, rb2, rb3]) rfl ?_
     exact ⟨.inr ⟨rfl, Hno.out⟩, HS5.out.done _ _ _ _⟩
theorem itoa_tail {z : Int} {b : UInt8} {r : List UInt8} (h : Lib.itoa z = b :: r) : (∀ c ∈ r, IsDig c) ∧ (b ≠ 45 → IsDig b) := by
 refine ⟨fun c hc => ?_, fun hb => ?_⟩
 ·have hd : ∀ u : Nat, ∀ e ∈ Lib.decDigits u, IsDig e := fun u e he => by
   rcases itoa_byte (k := (u : Int)) (b := e) (by unfold Lib.itoa; rw [if_neg (by omega)]; simpa using he) with h1 | h1
   ·have := dec_ge u e he
    rw [h1] at this
    exact absurd this (by decide)
   ·exact h1
  unfold Lib.itoa at h
  split at h
  ·rw [← (List.cons.inj h).2] at hc
   exact hd _ c hc
  ·exact hd _ c (by rw [h]; exact List.mem_cons_of_mem _ hc)
 ·rcases itoa_byte (k := z) (b := b) (by rw [h]; exact List.mem_cons_self) with h1 | h1
  ·exact absurd h1 hb
  ·exact h1
theorem itoa_minus (z : Int) : Lib.itoa z ≠ [45] := fun h => by
 unfold Lib.itoa at h
 split at h
 ·have h1 := (List.cons.inj h).2
  rw [Lib.decDigits] at h1
  split at h1 <;> simp at h1
 ·have := dec_ge z.toNat 45 (by rw [h]; simp)
  exact absurd this (by decide)
def NoNum (l : List UInt8) : Prop := ∀ k : Int, (Lib.itoa k).length ≤ 12 → Lib.itoa k ≠ l
def dig0 (l : List UInt8) : Nat := if l.getD 0 0 = 45 then 1 else 0
theorem nonum_len {l : List UInt8} (h : 12 < l.length) : NoNum l := fun k hk e => by rw [e] at hk; omega
theorem nonum_short {l : List UInt8} (h : l.length ≤ dig0 l) : NoNum l := fun k hk e => by
 unfold dig0 at h
 split at h
 ·rename_i h1
  cases l with
  | nil => exact itoa_ne k e
  | cons b r =>
   have h2 : r = [] := List.eq_nil_of_length_eq_zero (by simp at h; simp [h])
   subst h2
   have h3 : b = 45 := by simpa using h1
   rw [h3] at e
   exact itoa_minus k e
 ·exact itoa_ne k (e.trans (List.eq_nil_of_length_eq_zero (by omega)))
theorem nonum_dig {l : List UInt8} {i : Nat} (hi : i < l.length) (h0 : dig0 l ≤ i) (h : ¬ IsDig l[i]) : NoNum l := fun k hk e => by
 cases l with
 | nil => simp at hi
 | cons b r =>
  obtain ⟨h1, h2⟩ := itoa_tail e
  cases i with
  | zero =>
   refine h (h2 fun hb => ?_)
   unfold dig0 at h0
   rw [if_pos (by simpa using hb)] at h0
   omega
  | succ j => exact h (h1 _ (by rw [List.getElem_cons_succ]; exact List.getElem_mem _))
theorem nonum_back {l : List UInt8} (h : Lib.itoa (numB l) ≠ l) : NoNum l := fun k hk e => by
 have h1 := numB_itoa hk
 rw [e] at h1
 rw [h1] at h
 exact h e
theorem wp_scope_two {P : Program} {a : Act} {w : World} {Q : Exit → Act → World → Prop} {c r0 r1 : Code} (J0 J1 : Act → World → Prop) (μ : Act → World → Nat) (h0 : findLabel c 0 = some r0) (h1 : findLabel c 1 = some (.seq .skip r1))
  (first : (∀ a w, J1 a w → r1.wp P (jumpsTo (fun l a w => (l = 0 ∧ J0 a w) ∨ (l = 1 ∧ J1 a w)) Q) a w) → c.wp P (jumpsTo (fun l a w => (l = 0 ∧ J0 a w) ∨ (l = 1 ∧ J1 a w)) Q) a w)
  (pass1 : ∀ a w, J1 a w → r1.wp P (jumpsTo (fun l a' w' => (l = 0 ∧ J0 a' w') ∨ (l = 1 ∧ J1 a' w' ∧ μ a' w' < μ a w)) Q) a w)
  (pass0 : ∀ a w, J0 a w → r0.wp P (jumpsTo (fun _ _ _ => False) Q) a w) : (Code.scope c).wp P Q a w := by
 have weak : ∀ a w, J1 a w → r1.wp P (jumpsTo (fun l a w => (l = 0 ∧ J0 a w) ∨ (l = 1 ∧ J1 a w)) Q) a w := fun a w h =>
  wp_mono (pass1 a w h) fun e a w hq => by
   cases e with
   | goto l => exact hq.imp id (fun h => ⟨h.1, h.2.1⟩)
   | _ => exact hq
 refine wp_scope_jumps2 (fun l => if l = 0 then r0 else .seq .skip r1) (fun l a w => (l = 0 ∧ J0 a w) ∨ (l = 1 ∧ J1 a w)) (fun l a w => if l = 1 then μ a w + 1 else 0) ?_ (first weak) ?_
 ·rintro l a w (⟨rfl, _⟩ | ⟨rfl, _⟩)
  ·exact h0
  ·exact h1
 ·rintro l a w (⟨rfl, hJ⟩ | ⟨rfl, hJ⟩)
  ·refine wp_mono (pass0 a w hJ) fun e a w hq => ?_
   cases e with
   | goto l => exact hq.elim
   | _ => exact hq
  ·refine wp_seq (wp_skip ?_)
   refine wp_mono (pass1 a w hJ) fun e a' w' hq => ?_
   cases e with
   | goto l =>
    rcases hq with ⟨rfl, h⟩ | ⟨rfl, h, hm⟩
    ·exact ⟨.inl ⟨rfl, h⟩, by simp⟩
    ·exact ⟨.inr ⟨rfl, h⟩, by simpa using hm⟩
   | _ => exact hq
def SmallOut (w : World) (l : List UInt8) (e : Ending) (w' : World) : Prop := ((∃ z, e = .returned (.int .i64 z) ∧ Lib.itoa z = l ∧ l.length ≤ 12 ∧ -30000000000000 ≤ z ∧ z ≤ 30000000000000) ∨ (e = thrown ∧ NoNum l)) ∧ Below w.heap.size w w'
def smFr (s : ByteArray) (v : Nat → Value) (i : Nat) (acc sg : Int) : Array Value := #[.string s, v 1, .int .i64 0, .int .i64 (i : Int), .int .i64 acc, .int .i64 sg, v 6, v 7, v 8, v 9, v 10, v 11, v 12, v 13, v 14, v 15, v 16, v 17, v 18, v 19, v 20, v 21, v 22, v 23, v 24, v 25, v 26, v 27, v 28, v 29, v 30, v 31, v 32, v 33, v 34, v 35, v 36, v 37, v 38, v 39, v 40, v 41, v 42, v 43, v 44, v 45, v 46, v 47, v 48, v 49, v 50, v 51, v 52, v 53, v 54, v 55, v 56, v 57, v 58, v 59]
def smSg (l : List UInt8) : Int := if l.getD 0 0 = 45 then -1 else 1
theorem smSg_num {l : List UInt8} (h : l.length ≤ 12) : smSg l * numTo l l.length = numB l := by
 unfold smSg numB
 rw [Nat.min_eq_left h]
 split <;> omega
theorem sm_J {t : Array Value} {s : ByteArray} {i : Nat} {A sg : Int} (acc g : Int) (he : A = acc) (hg : sg = g) (h : t = smFr s (fun k => t.getD k undef) i acc g) : ∃ v, (⟨t, []⟩ : Act) = ⟨smFr s v i A sg, []⟩ := ⟨_, by rw [he, hg, ← h]⟩
set_option maxRecDepth 100000 in
set_option maxHeartbeats 4000000 in
theorem small_any {w : World} {B : Nat} {s : ByteArray} (ht : Tab B w) (hB : B ≤ w.heap.size) (hs : s.size ≤ 1000000) :
  Calls Tryz.prog 67 #[.string s] w (SmallOut w s.data.toList) := by
 have HG := Lib.hid (give_yes (w := w))
 have HN := Lib.hid (give_no (w := w))
 have HL := Lib.hid (show s.data.toList.length = s.size by simp)
 have HT := Lib.hid (And.intro ht hB)
 clear ht hB
 unfold thrown at HN
 go_enter Tryz.func67, Tryz.ntmps67
 go_wp2_with fail
 refine wp_scope_two (fun a' w' => w' = w ∧ (∃ (v : Nat → Value), a' = ⟨smFr s v s.size (numTo s.data.toList s.size) (smSg s.data.toList), []⟩) ∧ s.size ≤ 12 ∧ 0 < s.size) (fun a' w' => w' = w ∧ ∃ i : Nat, (∃ (v : Nat → Value), a' = ⟨smFr s v i (numTo s.data.toList i) (smSg s.data.toList), []⟩) ∧ s.size ≤ 12 ∧ 0 < s.size ∧ dig0 s.data.toList ≤ i ∧ i ≤ s.size) (fun a' _ => s.size - (match a'.tmps.getD 3 undef with | .int _ z => z.toNat | _ => 0)) rfl rfl (fun again => ?_) ?_ ?_
 ·-- to the first label
  have Hag := Lib.hid again
  clear again
  rcases Nat.eq_zero_or_pos s.size with h0 | h0
  ·have he := str_empty (s := s) (List.eq_nil_of_length_eq_zero (by rw [HL.out]; exact h0))
   subst he
   go_wp2_with (go_at_call 37; (with_reducible refine HN.out.mono ?_); rintro _ _ ⟨rfl, rfl⟩)
   exact ⟨rfl, .inr ⟨rfl, nonum_short (by decide)⟩, Below.refl _ _⟩
  ·obtain ⟨b, hc, hl, hcl⟩ := byte_at h0
   have hb256 : b.toNat < 256 := b.toNat_lt
   have hne := str_facts h0
   have hgd : s.data.toList.getD 0 0 = b := by rw [List.getD_eq_getElem?_getD, List.getElem?_eq_getElem hl, hcl]; rfl
   by_cases h45 : b = 45
   ·have e1 : ((b.toNat : Int) == 45) = true := by simp [h45]
    have Hd := Lib.hid (show dig0 s.data.toList = 1 ∧ smSg s.data.toList = -1 by unfold dig0 smSg; rw [hgd, if_pos h45, if_pos h45]; exact ⟨rfl, rfl⟩)
    by_cases h12 : (s.size : Int) ≤ 12
    ·by_cases h1 : (1 : Int) < (s.size : Int)
     ·go_wp2_with (go_at_call 37; (with_reducible refine HG.out.mono ?_); rintro _ _ ⟨rfl, rfl⟩)
      go_step3
      rename_i _ hK
      exact hK _ _ (Hag.out _ _ ⟨rfl, 1, sm_J 0 (-1) (numTo_skip (by rw [HL.out]; exact h0) (by rw [hcl, h45]; rfl)) Hd.out.2 rfl, by omega, h0, by rw [Hd.out.1]; omega, by omega⟩)
     ·go_wp2_with (go_at_call 37; (with_reducible refine HN.out.mono ?_); rintro _ _ ⟨rfl, rfl⟩)
      exact ⟨rfl, .inr ⟨rfl, nonum_short (by rw [Hd.out.1, HL.out]; omega)⟩, Below.refl _ _⟩
    ·go_wp2_with (go_at_call 37; (with_reducible refine HN.out.mono ?_); rintro _ _ ⟨rfl, rfl⟩)
     all_goals exact ⟨rfl, .inr ⟨rfl, nonum_len (by rw [HL.out]; omega)⟩, Below.refl _ _⟩
   ·have e1 : ((b.toNat : Int) == 45) = false := by
     refine beq_eq_false_iff_ne.2 fun h => h45 (UInt8.toNat_inj.1 ?_)
     show b.toNat = 45
     omega
    have e2 : (0 : Int) < (s.size : Int) := by omega
    have Hd := Lib.hid (show dig0 s.data.toList = 0 ∧ smSg s.data.toList = 1 by unfold dig0 smSg; rw [hgd, if_neg h45, if_neg h45]; exact ⟨rfl, rfl⟩)
    by_cases h12 : (s.size : Int) ≤ 12
    ·go_wp2_with (go_at_call 37; (with_reducible refine HG.out.mono ?_); rintro _ _ ⟨rfl, rfl⟩)
     go_step3
     rename_i _ hK
     exact hK _ _ (Hag.out _ _ ⟨rfl, 0, sm_J 0 1 rfl Hd.out.2 rfl, by omega, h0, by rw [Hd.out.1]; omega, by omega⟩)
    ·go_wp2_with (go_at_call 37; (with_reducible refine HN.out.mono ?_); rintro _ _ ⟨rfl, rfl⟩)
     all_goals exact ⟨rfl, .inr ⟨rfl, nonum_len (by rw [HL.out]; omega)⟩, Below.refl _ _⟩
 ·rintro a w' ⟨hww, i, ⟨v, rfl⟩, h12, h0, hd0, hi⟩
  subst w'
  unfold smFr
  have HTo := Lib.hid (numTo_z s.data.toList (show i ≤ 12 by omega))
  by_cases hin : i < s.size
  ·obtain ⟨b, hc, hl, hcl⟩ := byte_at hin
   have hb256 : b.toNat < 256 := b.toNat_lt
   have e1 : ((i : Int) == (s.size : Int)) = false := by simp; omega
   have e2 : (i : Int) < (s.size : Int) := by omega
   have e3 : (0 : Int) ≤ (i : Int) := by omega
   by_cases h48 : (48 : Int) ≤ (b.toNat : Int)
   ·by_cases h57 : (b.toNat : Int) ≤ 57
    ·have Hst := Lib.hid (numTo_step (l := s.data.toList) (i := i) hl (by rw [hcl]; intro h; omega))
     rw [hcl] at Hst
     obtain ⟨hz1, hz2⟩ := HTo.out
     generalize numTo s.data.toList i = acc at *
     clear hcl
     go_wp2_with (go_at_call 37; (with_reducible refine HG.out.mono ?_); rintro _ _ ⟨rfl, rfl⟩)
     go_step3
     exact .inr ⟨rfl, ⟨rfl, i + 1, sm_J _ _ (by rw [Hst.out]; omega) rfl rfl, h12, h0, by omega, by omega⟩, by show s.size - ((i : Int) + 1).toNat < s.size - ((i : Int)).toNat; omega⟩
    ·go_wp2_with (go_at_call 37; (with_reducible refine HN.out.mono ?_); rintro _ _ ⟨rfl, rfl⟩)
     exact ⟨rfl, .inr ⟨rfl, nonum_dig hl hd0 (by rw [hcl]; unfold IsDig; omega)⟩, Below.refl _ _⟩
   ·go_wp2_with (go_at_call 37; (with_reducible refine HN.out.mono ?_); rintro _ _ ⟨rfl, rfl⟩)
    exact ⟨rfl, .inr ⟨rfl, nonum_dig hl hd0 (by rw [hcl]; unfold IsDig; omega)⟩, Below.refl _ _⟩
  ·obtain rfl : i = s.size := by omega
   have e1 : ((s.size : Int) == (s.size : Int)) = true := by simp
   go_wp2_with fail
   go_step3
   exact .inl ⟨rfl, rfl, sm_J _ _ rfl rfl rfl, h12, h0⟩
 ·rintro a w' ⟨hww, ⟨v, rfl⟩, h12, h0⟩
  subst w'
  have Hnb := Lib.hid (smSg_num (l := s.data.toList) (by rw [HL.out]; exact h12))
  rw [HL.out] at Hnb
  have HTo := Lib.hid (numTo_z s.data.toList (show s.size ≤ 12 by omega))
  obtain ⟨hz1, hz2⟩ := HTo.out
  have hsg : smSg s.data.toList = 1 ∨ smSg s.data.toList = -1 := by unfold smSg; split <;> simp
  unfold smFr
  have HB := Lib.hid (fun h => nonum_back (l := s.data.toList) h)
  generalize hN : numB s.data.toList = N at *
  generalize numTo s.data.toList s.size = acc at *
  generalize smSg s.data.toList = sg at *
  clear hN
  have Hno := Hnb.out
  have hN1 : -30000000000000 ≤ N := by rcases hsg with rfl | rfl <;> omega
  have hN2 : N ≤ 30000000000000 := by rcases hsg with rfl | rfl <;> omega
  have HI : Hid (Calls Tryz.prog 72 #[.int .i64 N] w (fun e w' => e = .returned (.string ⟨(Lib.itoa N).toArray⟩) ∧ Below w.heap.size w w')) := Lib.hid ((Tryz.strconv_Itoa N (by omega) (by omega) w HT.out.1.here).mono fun e w' ⟨e1, k, os, e2⟩ => ⟨e1, by rw [e2]; exact Lib.below_grow _ _ (Nat.le_refl _) _ _⟩)
  obtain ⟨q, hq⟩ : ∃ q : ByteArray, q = ⟨(Lib.itoa N).toArray⟩ := ⟨_, rfl⟩
  rw [← hq] at HI
  have Hmul := Lib.hid Hno
  have HG2 := Lib.hid (fun W => give_yes (w := W))
  have HN2 := Lib.hid (fun W => give_no (w := W))
  unfold thrown at HN2
  by_cases he : q = s
  ·have Hq := Lib.hid (show Lib.itoa N = s.data.toList by rw [← he, hq])
   subst he
   have e5 : (q.toList == q.toList) = true := by simp
   rcases hsg with rfl | rfl
   ·obtain rfl : acc = N := by omega
    clear hq
    go_wp2_with (first | (go_at_call 72; (refine HI.out.mono ?_); rintro _ W1 ⟨rfl, hb1⟩) | (go_at_call 37; (with_reducible refine (HG2.out _).mono ?_); rintro _ _ ⟨rfl, rfl⟩))
    show bodyPost _ _ _ Exit.ret _ _
    go_ret
    exact ⟨.inl ⟨_, rfl, Hq.out, by rw [HL.out]; exact h12, hN1, hN2⟩, hb1⟩
   ·obtain rfl : N = -acc := by omega
    clear hq
    go_wp2_with (first | (go_at_call 72; (refine HI.out.mono ?_); rintro _ W1 ⟨rfl, hb1⟩) | (go_at_call 37; (with_reducible refine (HG2.out _).mono ?_); rintro _ _ ⟨rfl, rfl⟩))
    show bodyPost _ _ _ Exit.ret _ _
    go_ret
    exact ⟨.inl ⟨_, rfl, Hq.out, by rw [HL.out]; exact h12, hN1, hN2⟩, hb1⟩
  ·have Hno2 := Lib.hid (HB.out fun h => he (by rw [hq]; exact ByteArray.ext (by rw [h])))
   have e4 : ¬ q.toList = s.toList := fun h => he (tl_inj h)
   have e5 : (q.toList == s.toList) = false := by simpa using e4
   rcases hsg with rfl | rfl
   ·obtain rfl : acc = N := by omega
    clear hq
    go_wp2_with (first | (go_at_call 72; (refine HI.out.mono ?_); rintro _ W1 ⟨rfl, hb1⟩) | (go_at_call 37; (with_reducible refine (HN2.out _).mono ?_); rintro _ _ ⟨rfl, rfl⟩))
    exact ⟨rfl, .inr ⟨rfl, Hno2.out⟩, hb1⟩
   ·obtain rfl : N = -acc := by omega
    clear hq
    go_wp2_with (first | (go_at_call 72; (refine HI.out.mono ?_); rintro _ W1 ⟨rfl, hb1⟩) | (go_at_call 37; (with_reducible refine (HN2.out _).mono ?_); rintro _ _ ⟨rfl, rfl⟩))
    exact ⟨rfl, .inr ⟨rfl, Hno2.out⟩, hb1⟩
theorem ge_no {l : List UInt8} (h : ∀ b ∈ l, 33 ≤ b.toNat) : (32 : UInt8) ∉ l := fun h2 => absurd (h 32 h2) (by decide)
theorem txtF_ge (a b : Int) : ∀ c ∈ txtF a b, 33 ≤ c.toNat := fun c hc => by
 rcases txtF_byte hc with rfl | rfl | h
 ·decide
 ·decide
 ·have := h.1; omega
theorem wtx_ge (l : List Int) : ∀ c ∈ wtx l, 33 ≤ c.toNat := fun c hc => by
 rcases wtx_byte hc with rfl | rfl | h
 ·decide
 ·decide
 ·have := h.1; omega
theorem argT_ge {y : ArgP} (hy : y.ok) : ∀ c ∈ argT y, 33 ≤ c.toNat := by
 intro c hc
 rcases ok_cases hy with ⟨nm, rfl, h⟩ | ⟨a, b, c', d, rfl, _, _⟩ | rfl | ⟨wd, rfl, _, _⟩ | ⟨ct, rfl, _, _⟩
 ·obtain ⟨_, _, _, _, _, h4⟩ := named_head h
  have := h4 c hc
  omega
 ·rw [argT_num] at hc
  simp only [List.mem_cons, List.mem_append, List.not_mem_nil, or_false] at hc
  rcases hc with rfl | (((h | rfl) | h) | rfl)
  ·decide
  ·exact txtF_ge _ _ _ h
  ·decide
  ·exact txtF_ge _ _ _ h
  ·decide
 ·rw [argT_inf] at hc
  simp only [List.mem_cons, List.not_mem_nil, or_false] at hc
  rcases hc with rfl | rfl | rfl | rfl | rfl <;> decide
 ·rw [argT_word] at hc
  simp only [List.mem_cons, List.mem_append, List.not_mem_nil, or_false] at hc
  rcases hc with rfl | (h | rfl)
  ·decide
  ·exact wtx_ge _ _ h
  ·decide
 ·rw [argT_count] at hc
  rcases List.mem_cons.1 hc with rfl | h
  ·decide
  ·rcases itoa_byte h with rfl | h
   ·decide
   ·have := h.1; omega
theorem argT_not_eq {y : ArgP} (hy : y.ok) (r : List UInt8) : argT y ≠ 61 :: r := fun h => by
 rcases ok_cases hy with ⟨nm, rfl, h1⟩ | ⟨a, b, c', d, rfl, _, _⟩ | rfl | ⟨wd, rfl, _, _⟩ | ⟨ct, rfl, _, _⟩
 ·rw [argT_name] at h
  obtain ⟨c, q, h2, h3, _⟩ := named_head h1
  rw [h] at h2
  rw [← (List.cons.inj h2).1] at h3
  exact absurd h3 (by decide)
 ·rw [argT_num] at h; exact absurd (List.cons.inj h).1 (by decide)
 ·exact absurd (List.cons.inj h).1 (by decide)
 ·rw [argT_word] at h; exact absurd (List.cons.inj h).1 (by decide)
 ·rw [argT_count] at h; exact absurd (List.cons.inj h).1 (by decide)
theorem letters_ge {l : List UInt8} (h : Sc.lettersB l = true) : ∀ c ∈ l, 33 ≤ c.toNat := fun c hc => by
 unfold Sc.lettersB at h
 simp only [Bool.and_eq_true] at h
 have := List.all_eq_true.1 h.2 c hc
 unfold Sc.letB at this
 simp only [Bool.and_eq_true, decide_eq_true_eq] at this
 omega
theorem named_ge {l : List UInt8} (h : Sc.namedB l = true) : ∀ c ∈ l, 33 ≤ c.toNat := fun c hc => by
 obtain ⟨_, _, _, _, _, h4⟩ := named_head h
 have := h4 c hc
 omega
theorem line_parts {p : StP} (h : p.ok) : parts 32 (lineT p) = headT p.v p.nm ++ p.xs.map argT := by
 refine parts_join (head_ne _ _ _) fun t ht => ge_no fun c hc => ?_
 rcases List.mem_append.1 ht with h1 | h1
 ·unfold headT at h1
  rcases List.mem_cons.1 h1 with rfl | h1
  ·exact letters_ge h.v c hc
  ·split at h1
   ·simp at h1
   ·rename_i hn
    rw [List.mem_singleton.1 h1] at hc
    rcases List.mem_cons.1 hc with rfl | hc
    ·decide
    ·exact named_ge (h.nm.resolve_left hn) c hc
 ·obtain ⟨x, hx, rfl⟩ := List.mem_map.1 h1
  exact argT_ge (h.all x hx) c hc
def nameOf : List (List UInt8) → List UInt8 × List (List UInt8)
 | (61 :: n) :: r => (n, r)
 | r => ([], r)
theorem nameOf_eq (n : List UInt8) (r : List (List UInt8)) : nameOf ((61 :: n) :: r) = (n, r) := rfl
theorem nameOf_ne {r : List (List UInt8)} (h : ∀ n q, r ≠ (61 :: n) :: q) : nameOf r = ([], r) := by
 unfold nameOf
 split
 ·exact absurd rfl (h _ _)
 ·rfl
theorem toL_ne {s : ByteArray} (h : s ≠ ⟨#[]⟩) : s.data.toList ≠ [] := fun h2 => h (str_empty h2)
theorem dec_line {q : StP} (hq : q.ok) {v : List UInt8} {rest : List (List UInt8)} (h : parts 32 (lineT q) = v :: rest) :
  q.v.data.toList = v ∧ nameOf rest = (q.nm.data.toList, q.xs.map argT) ∧ (∀ r, rest ≠ [61] :: r) := by
 rw [line_parts hq] at h
 unfold headT at h
 by_cases hn : q.nm = ⟨#[]⟩
 ·rw [if_pos hn] at h
  obtain ⟨h1, h2⟩ := List.cons.inj h
  have h2 : q.xs.map argT = rest := h2
  have hx : ∀ n r, rest ≠ (61 :: n) :: r := fun n r e => by
   rw [← h2] at e
   cases hxs : q.xs with
   | nil => rw [hxs] at e; simp at e
   | cons x xs =>
    rw [hxs, List.map_cons] at e
    exact argT_not_eq (hq.all x (by rw [hxs]; simp)) n (List.cons.inj e).1
  exact ⟨h1, by rw [nameOf_ne hx, ← h2, hn], hx []⟩
 ·rw [if_neg hn] at h
  obtain ⟨h1, h2⟩ := List.cons.inj h
  rw [← h2]
  refine ⟨h1, rfl, fun r e => ?_⟩
  have h3 := (List.cons.inj (List.cons.inj e).1).2
  exact toL_ne hn h3
theorem enc_line {l v n : List UInt8} {rest ts : List (List UInt8)} (h : parts 32 l = v :: rest) (hn : nameOf rest = (n, ts)) (hne : ∀ r, rest ≠ [61] :: r) {xs : List ArgP} (hx : ts = xs.map argT) : lineT ⟨⟨v.toArray⟩, ⟨n.toArray⟩, xs⟩ = l := by
 have h1 := join_parts 32 l
 rw [h] at h1
 unfold lineT headT
 rw [← h1]
 simp only
 by_cases hr : ∃ m q, rest = (61 :: m) :: q
 ·obtain ⟨m, q, rfl⟩ := hr
  rw [nameOf_eq] at hn
  injection hn with e1 e2
  subst e1 e2
  rw [if_neg (fun e => by
   have : m = [] := by
    have h2 := congrArg (fun s : ByteArray => s.data.toList) e
    simpa using h2
   exact hne q (by rw [this])), hx]
  rfl
 ·have hr' : ∀ m q, rest ≠ (61 :: m) :: q := fun m q e => hr ⟨m, q, e⟩
  rw [nameOf_ne hr'] at hn
  injection hn with e1 e2
  subst e1 e2
  rw [if_pos rfl, hx]
  rfl
theorem guess_map : ∀ {ts : List (List UInt8)} {xs ys : List ArgP}, ts.length = xs.length → (∀ i (h : i < ts.length) (h' : i < xs.length), GuessIs ts[i] xs[i]) → (∀ y ∈ ys, y.ok) → ts = ys.map argT → ys = xs
 | [], [], ys, _, _, _, h => by
  cases ys with
  | nil => rfl
  | cons y ys => simp at h
 | [], _ :: _, _, hl, _, _, _ => by simp at hl
 | _ :: _, [], _, hl, _, _, _ => by simp at hl
 | t :: ts, x :: xs, ys, hl, hg, hok, h => by
  cases ys with
  | nil => simp at h
  | cons y ys =>
   rw [List.map_cons] at h
   obtain ⟨h1, h2⟩ := List.cons.inj h
   have h3 := hg 0 (by simp) (by simp) y (hok y (by simp)) h1.symm
   have h4 := guess_map (ts := ts) (xs := xs) (ys := ys) (by simpa using hl) (fun i hi hi' => hg (i + 1) (by simpa using hi) (by simpa using hi')) (fun z hz => hok z (by simp [hz])) h2
   rw [h4]
   simp only [List.getElem_cons_zero] at h3
   rw [h3]
def NoLine (l : List UInt8) : Prop := ∀ q : StP, q.ok → lineT q ≠ l
theorem no_eq {l v : List UInt8} {r : List (List UInt8)} (h : parts 32 l = v :: [61] :: r) : NoLine l := fun q hq he => by
 rw [← he] at h
 exact (dec_line hq h).2.2 r rfl
theorem no_many {l v n : List UInt8} {rest ts : List (List UInt8)} (h : parts 32 l = v :: rest) (hn : nameOf rest = (n, ts)) (hl : 64 < ts.length) : NoLine l := fun q hq he => by
 rw [← he] at h
 have h1 := (dec_line hq h).2.1
 rw [hn] at h1
 injection h1 with _ h2
 have h3 := hq.len
 rw [h2, List.length_map] at hl
 omega
theorem no_arg {l v n : List UInt8} {rest ts : List (List UInt8)} (h : parts 32 l = v :: rest) (hn : nameOf rest = (n, ts)) {t : List UInt8} (ht : t ∈ ts) (hb : ArgNot t) : NoLine l := fun q hq he => by
 rw [← he] at h
 have h1 := (dec_line hq h).2.1
 rw [hn] at h1
 injection h1 with _ h2
 rw [h2] at ht
 obtain ⟨x, hx, rfl⟩ := List.mem_map.1 ht
 exact hb x (hq.all x hx) rfl
theorem only_line {l v n : List UInt8} {rest ts : List (List UInt8)} (h : parts 32 l = v :: rest) (hn : nameOf rest = (n, ts)) {xs : List ArgP} (hl : ts.length = xs.length) (hg : ∀ i (h : i < ts.length) (h' : i < xs.length), GuessIs ts[i] xs[i])
  {q : StP} (hq : q.ok) (he : lineT q = l) : q = ⟨⟨v.toArray⟩, ⟨n.toArray⟩, xs⟩ := by
 rw [← he] at h
 obtain ⟨h1, h2, _⟩ := dec_line hq h
 rw [hn] at h2
 injection h2 with e1 e2
 have e3 := guess_map hl hg hq.all e2
 obtain ⟨qv, qn, qx⟩ := q
 simp only at h1 e1 e3
 subst e3
 rw [← h1, e1]
theorem read_line {l v n : List UInt8} {rest ts : List (List UInt8)} (h : parts 32 l = v :: rest) (hn : nameOf rest = (n, ts)) (hne : ∀ r, rest ≠ [61] :: r) {xs : List ArgP} (hl : ts.length = xs.length) (hg : ∀ i (h : i < ts.length) (h' : i < xs.length), ArgIs ts[i] xs[i]) :
  ((⟨⟨v.toArray⟩, ⟨n.toArray⟩, xs⟩ : StP).ok → lineT ⟨⟨v.toArray⟩, ⟨n.toArray⟩, xs⟩ = l) ∧ (¬ (⟨⟨v.toArray⟩, ⟨n.toArray⟩, xs⟩ : StP).ok → NoLine l) := by
 refine ⟨fun hok => enc_line h hn hne (List.ext_getElem (by simpa using hl) fun i h1 h2 => ?_), fun hno q hq he => hno ?_⟩
 ·rw [List.getElem_map]
  have hi : i < xs.length := by simpa using h2
  exact ((hg i h1 hi).1 (hok.all _ (List.getElem_mem hi))).symm
 ·rw [← only_line h hn hl (fun i h1 h2 => (hg i h1 h2).2) hq he]
  exact hq
theorem tl_inj' {a b : ByteArray} (h : a.data.toList = b.data.toList) : a = b := ByteArray.ext (Array.toList_inj.1 h)
theorem argT_inj {x y : ArgP} (hx : x.ok) (hy : y.ok) (h : argT x = argT y) : x = y := by
 rcases ok_cases hx with ⟨nm, rfl, h1⟩ | ⟨a, b, c, d, rfl, _, _⟩ | rfl | ⟨wd, rfl, _, _⟩ | ⟨ct, rfl, _, _⟩
 ·obtain ⟨c, r, hl, h2, _⟩ := named_head h1
  rw [argT_name] at h
  refine ((is_name (s := nm) hl ?_ ?_ ?_).2 y hy h.symm).symm <;> (rintro rfl; exact absurd h2 (by decide))
 ·rw [argT_num] at h
  have e : 40 :: (txtF a b ++ [44] ++ txtF c d ++ [41]) = 40 :: ((txtF a b ++ 44 :: txtF c d) ++ [41]) := by simp
  exact ((paren_is rfl rfl).2 y hy (h.symm.trans e)).symm
 ·exact (is_inf.2 y hy h.symm).symm
 ·exact ((brack_is rfl).2 y hy h.symm).symm
 ·exact ((hash_is rfl).2 y hy h.symm).symm
theorem lineT_inj {p q : StP} (hp : p.ok) (hq : q.ok) (h : lineT p = lineT q) : p = q := by
 obtain ⟨v, rest, hv⟩ := parts_ne 32 (lineT q)
 have h1 := dec_line hq hv
 rw [← h] at hv
 have h2 := dec_line hp hv
 have e1 := h1.1.trans h2.1.symm
 have e2 := h1.2.1.symm.trans h2.2.1
 injection e2 with e2 e3
 have e4 : q.xs = p.xs := by
  refine List.ext_getElem (by have := congrArg List.length e3; simpa using this) fun i h3 h4 => ?_
  have h5 : (q.xs.map argT)[i]? = (p.xs.map argT)[i]? := by rw [e3]
  rw [List.getElem?_map, List.getElem?_map, List.getElem?_eq_getElem h3, List.getElem?_eq_getElem h4] at h5
  simp only [Option.map_some, Option.some.injEq] at h5
  exact argT_inj (hq.all _ (List.getElem_mem h3)) (hp.all _ (List.getElem_mem h4)) h5
 obtain ⟨v1, n1, x1⟩ := p
 obtain ⟨v2, n2, x2⟩ := q
 simp only at e1 e2 e4
 rw [tl_inj' e1, tl_inj' e2, e4]
structure Gl (B : Nat) (w : World) : Prop where
 tab : Tab B w
 m : ∃ m, w.cell? ⟨0, 0, none⟩ = some (.int .i64 m)
 hB : B ≤ w.heap.size
theorem Gl.below {B : Nat} {w w' : World} (h : Gl B w) (hb : Below w.heap.size w w') : Gl B w' := by
 obtain ⟨m, hm⟩ := h.m
 exact ⟨h.tab.below hb h.hB, ⟨m, (hb.cell (p := ⟨0, 0, none⟩) (block_lt_of_cell hm)).trans hm⟩, Nat.le_trans h.hB hb.size⟩
structure ArgMade (w : World) (B : Nat) (r : ARow) : Prop where
 kz : -9223372036854775808 ≤ r.2.2.k ∧ r.2.2.k ≤ 9223372036854775807
 cz : -9223372036854775808 ≤ r.2.2.ct ∧ r.2.2.ct ≤ 9223372036854775807
 own : OwnI w B (.slice r.1 r.2.2.wd.length r.2.1) r.2.2.wd
 fit : r.2.2.fit
theorem ArgMade.plain {w : World} {B : Nat} {x : ArgP} (hw : x.wd = []) (hk : -9223372036854775808 ≤ x.k ∧ x.k ≤ 9223372036854775807) (hc : -9223372036854775808 ≤ x.ct ∧ x.ct ≤ 9223372036854775807) (hn : x.nm.size ≤ 1000000) : ArgMade w B (none, 0, x) :=
 ⟨hk, hc, by simp only [hw]; exact OwnI.nil _ _, ⟨hn, by simp [hw]⟩⟩
def ArgOut (w : World) (l : List UInt8) (e : Ending) (w' : World) : Prop :=
 ((∃ r : ARow, e = .returned (argV r) ∧ ArgMade w' w.heap.size r ∧ ArgIs l r.2.2) ∨ (e = thrown ∧ ArgNot l)) ∧ Below w.heap.size w w'
structure ArgS (w wr : World) (s : ByteArray) : Prop where
 s : Blk wr w.heap.size 9 #[.string s]
 r : Blk wr (w.heap.size + 1) 41 #[.int .i64 0, .string ⟨#[]⟩, .bool false, .string ⟨#[]⟩, .bool false, .string ⟨#[]⟩, .bool false, .string ⟨#[]⟩, .bool false, .string ⟨#[]⟩, .slice none 0 0, .int .i64 0]
 b : Below w.heap.size w wr
theorem ArgS.new (w : World) (s : ByteArray) : ArgS w ((w.alloc (.cells #[.string s] 9)).alloc (.cells #[.int .i64 0, .string ⟨#[]⟩, .bool false, .string ⟨#[]⟩, .bool false, .string ⟨#[]⟩, .bool false, .string ⟨#[]⟩, .bool false, .string ⟨#[]⟩, .slice none 0 0, .int .i64 0] 41)) s := by
 have h := Blk.new (w.alloc (.cells #[.string s] 9)) 41 #[.int .i64 0, .string ⟨#[]⟩, .bool false, .string ⟨#[]⟩, .bool false, .string ⟨#[]⟩, .bool false, .string ⟨#[]⟩, .bool false, .string ⟨#[]⟩, .slice none 0 0, .int .i64 0]
 rw [World.size_alloc] at h
 exact ⟨(Blk.new w 9 _).alloc _, h, (new_below w _).alloc (by simp) _⟩
theorem ArgS.below {w wr w' : World} {s : ByteArray} (h : ArgS w wr s) (hb : Below wr.heap.size wr w') : ArgS w w' s := ⟨h.s.below hb h.s.lt, h.r.below hb h.r.lt, h.b.trans (hb.mono h.b.size)⟩
theorem ArgS.done {w wr : World} {s : ByteArray} (h : ArgS w wr s) (u0 u1 u2 u3 u4 u5 u6 u7 u8 u9 u10 u11 : Value) : Below w.heap.size w ((((((((((((wr.setCell ⟨w.heap.size + 1, 0, none⟩ u0).setCell ⟨w.heap.size + 1, 1, none⟩ u1).setCell ⟨w.heap.size + 1, 2, none⟩ u2).setCell ⟨w.heap.size + 1, 3, none⟩ u3).setCell ⟨w.heap.size + 1, 4, none⟩ u4).setCell ⟨w.heap.size + 1, 5, none⟩ u5).setCell ⟨w.heap.size + 1, 6, none⟩ u6).setCell ⟨w.heap.size + 1, 7, none⟩ u7).setCell ⟨w.heap.size + 1, 8, none⟩ u8).setCell ⟨w.heap.size + 1, 9, none⟩ u9).setCell ⟨w.heap.size + 1, 10, none⟩ u10).setCell ⟨w.heap.size + 1, 11, none⟩ u11) :=
 ((((((((((((h.b.setCell (p := ⟨w.heap.size + 1, 0, none⟩) (by show w.heap.size ≤ w.heap.size + 1; omega) u0).setCell (p := ⟨w.heap.size + 1, 1, none⟩) (by show w.heap.size ≤ w.heap.size + 1; omega) u1).setCell (p := ⟨w.heap.size + 1, 2, none⟩) (by show w.heap.size ≤ w.heap.size + 1; omega) u2).setCell (p := ⟨w.heap.size + 1, 3, none⟩) (by show w.heap.size ≤ w.heap.size + 1; omega) u3).setCell (p := ⟨w.heap.size + 1, 4, none⟩) (by show w.heap.size ≤ w.heap.size + 1; omega) u4).setCell (p := ⟨w.heap.size + 1, 5, none⟩) (by show w.heap.size ≤ w.heap.size + 1; omega) u5).setCell (p := ⟨w.heap.size + 1, 6, none⟩) (by show w.heap.size ≤ w.heap.size + 1; omega) u6).setCell (p := ⟨w.heap.size + 1, 7, none⟩) (by show w.heap.size ≤ w.heap.size + 1; omega) u7).setCell (p := ⟨w.heap.size + 1, 8, none⟩) (by show w.heap.size ≤ w.heap.size + 1; omega) u8).setCell (p := ⟨w.heap.size + 1, 9, none⟩) (by show w.heap.size ≤ w.heap.size + 1; omega) u9).setCell (p := ⟨w.heap.size + 1, 10, none⟩) (by show w.heap.size ≤ w.heap.size + 1; omega) u10).setCell (p := ⟨w.heap.size + 1, 11, none⟩) (by show w.heap.size ≤ w.heap.size + 1; omega) u11)
set_option maxRecDepth 100000 in
set_option maxHeartbeats 4000000 in
theorem arg_nil {w : World} : Calls Tryz.prog 38 #[.string ⟨#[]⟩] w (ArgOut w []) := by
 have HN := Lib.hid (fun W => give_no (w := W))
 unfold thrown at HN
 have hA := (ArgS.new w ⟨#[]⟩).b
 go_enter Tryz.func38, Tryz.ntmps38
 go_wp2_with (go_at_call 37; (with_reducible refine (HN.out _).mono ?_); rintro _ _ ⟨rfl, rfl⟩)
 exact ⟨rfl, .inr ⟨rfl, not_nil⟩, hA⟩
set_option maxRecDepth 100000 in
set_option maxHeartbeats 4000000 in
theorem arg_name {w : World} {s : ByteArray} (hs : s.size ≤ 6000) (h0 : 0 < s.size) {b : UInt8} (hc : s[0] = b) (h1 : b ≠ 40) (h2 : b ≠ 91) (h3 : b ≠ 35) : Calls Tryz.prog 38 #[.string s] w (ArgOut w s.data.toList) := by
 have HY := Lib.hid (fun W => give_yes (w := W))
 have hA := ArgS.new w s
 have hne := str_facts h0
 have hb256 : b.toNat < 256 := b.toNat_lt
 have n1 : ((b.toNat : Int) == 40) = false := by
  refine beq_eq_false_iff_ne.2 fun h => h1 (UInt8.toNat_inj.1 ?_)
  show b.toNat = 40; omega
 have n2 : ((b.toNat : Int) == 91) = false := by
  refine beq_eq_false_iff_ne.2 fun h => h2 (UInt8.toNat_inj.1 ?_)
  show b.toNat = 91; omega
 have n3 : ((b.toNat : Int) == 35) = false := by
  refine beq_eq_false_iff_ne.2 fun h => h3 (UInt8.toNat_inj.1 ?_)
  show b.toNat = 35; omega
 have hi : (0 : Int) < (s.size : Int) := by omega
 have Hfin := Lib.hid (And.intro hs (And.intro h0 (And.intro h1 (And.intro h2 h3))))
 clear hs h1 h2 h3
 go_enter Tryz.func38, Tryz.ntmps38
 go_wp2_with (go_at_call 37; (with_reducible refine (HY.out _).mono ?_); rintro _ _ ⟨rfl, rfl⟩)
 refine bodyPost_ret (v := argV (none, 0, nameP s)) (by simp [results, Tryz.results38, go_sem, argV, nameP]) rfl ?_
 refine ⟨.inl ⟨(none, 0, nameP s), rfl, ArgMade.plain rfl ⟨by show (-9223372036854775808 : Int) ≤ 1; decide, by show (1 : Int) ≤ 9223372036854775807; decide⟩ ⟨by show (-9223372036854775808 : Int) ≤ 0; decide, by show (0 : Int) ≤ 9223372036854775807; decide⟩ (Nat.le_trans Hfin.out.1 (by decide)), ?_⟩, ((new_below w _).alloc (by simp) _)⟩
 obtain ⟨hs, h0, h1, h2, h3⟩ := Hfin.out
 have hl : 0 < s.data.toList.length := by simpa using h0
 have e : s.data.toList = s.data.toList[0] :: s.data.toList.drop 1 := by
  have := List.drop_eq_getElem_cons hl
  rwa [List.drop_zero] at this
 have eb : s.data.toList[0] = b := hc
 exact is_name e (by rw [eb]; exact h1) (by rw [eb]; exact h2) (by rw [eb]; exact h3)
theorem small_yes {w : World} {B : Nat} {s : ByteArray} (hg : Gl B w) (hs : s.size ≤ 6000) {z : Int} (hz : Lib.itoa z = s.data.toList) (hl : (Lib.itoa z).length ≤ 12) :
  Calls Tryz.prog 67 #[.string s] w (fun e w' => e = .returned (.int .i64 z) ∧ Below w.heap.size w w') := by
 refine (small_any hg.tab hg.hB (by omega)).mono ?_
 rintro e w' ⟨h, hb⟩
 refine ⟨?_, hb⟩
 rcases h with ⟨z', h1, h2, _⟩ | ⟨_, h2⟩
 ·rw [itoa_inj (hz.trans h2.symm)]; exact h1
 ·exact absurd hz (h2 z hl)
theorem small_no {w : World} {B : Nat} {s : ByteArray} (hg : Gl B w) (hs : s.size ≤ 6000) (hn : ∀ z, (Lib.itoa z).length ≤ 12 → Lib.itoa z ≠ s.data.toList) :
  Calls Tryz.prog 67 #[.string s] w (fun e w' => e = thrown ∧ Below w.heap.size w w') := by
 refine (small_any hg.tab hg.hB (by omega)).mono ?_
 rintro e w' ⟨h, hb⟩
 refine ⟨?_, hb⟩
 rcases h with ⟨z', h1, h2, h3, _, _⟩ | ⟨h1, _⟩
 ·exact absurd h2 (hn z' (by rw [h2]; exact h3))
 ·exact h1
theorem dig_big {k u : Nat} (h : 10 ^ k ≤ u) : k < (Lib.decDigits u).length := by
 induction k generalizing u with
 | zero =>
  rw [Lib.decDigits]
  split <;> simp
 | succ k ih =>
  rw [Nat.pow_succ] at h
  have hp : 0 < 10 ^ k := Nat.pow_pos (by decide)
  rw [Lib.decDigits, dif_neg (by omega), List.length_append]
  have := ih (u := u / 10) (by omega)
  simp only [List.length_cons, List.length_nil]
  omega
theorem itoa_bound {z : Int} (h : (Lib.itoa z).length ≤ 12) : -9223372036854775808 ≤ z ∧ z ≤ 9223372036854775807 := by
 have hb : ∀ u : Nat, (Lib.decDigits u).length ≤ 12 → u < 1000000000000 := fun u hu => by
  rcases Nat.lt_or_ge u 1000000000000 with h1 | h1
  ·exact h1
  ·have := dig_big (k := 12) (u := u) (by simpa using h1)
   omega
 unfold Lib.itoa at h
 split at h
 ·rw [List.length_cons] at h
  have := hb z.natAbs (by omega)
  omega
 ·have := hb z.toNat h
  omega
theorem head_bytes {s : ByteArray} (h0 : 0 < s.size) {b : UInt8} (hc : s[0] = b) : s.data.toList = b :: (s.extract 1 s.size).data.toList := by
 have hl : 0 < s.data.toList.length := by simpa using h0
 have e := List.drop_eq_getElem_cons hl
 rw [List.drop_zero] at e
 rw [(drop_bytes s 1 (by omega)).1]
 have eb : s.data.toList[0] = b := hc
 rw [eb] at e
 exact e
theorem count_made {w : World} {B : Nat} {z : Int} (h1 : -9223372036854775808 ≤ z) (h2 : z ≤ 9223372036854775807) : ArgMade w B (none, 0, countP z) :=
 ArgMade.plain rfl ⟨by show (-9223372036854775808 : Int) ≤ 5; decide, by show (5 : Int) ≤ 9223372036854775807; decide⟩ ⟨h1, h2⟩ (by show (0 : Nat) ≤ _; omega)
set_option maxRecDepth 100000 in
set_option maxHeartbeats 4000000 in
theorem arg_hash {w : World} {B : Nat} {s : ByteArray} (hg : Gl B w) (hs : s.size ≤ 6000) (h0 : 0 < s.size) (hc : s[0] = 35) : Calls Tryz.prog 38 #[.string s] w (ArgOut w s.data.toList) := by
 have HY := Lib.hid (fun W => give_yes (w := W))
 have HA := Lib.hid (ArgS.new w s)
 have hne := str_facts h0
 have hi : (0 : Int) < (s.size : Int) := by omega
 have hi1 : (1 : Int) ≤ (s.size : Int) := by omega
 have HE := Lib.hid (head_bytes h0 hc)
 have HQ := Lib.hid (show (s.extract 1 s.size).size ≤ 6000 by rw [ByteArray.size_extract]; omega)
 have HG := Lib.hid hg
 clear hs hg
 rcases Classical.em (∃ z, Lib.itoa z = (s.extract 1 s.size).data.toList ∧ (Lib.itoa z).length ≤ 12) with ⟨z, hz, hl⟩ | hno
 ·have HS := Lib.hid (fun W (hb : Below w.heap.size w W) => small_yes (HG.out.below hb) HQ.out hz hl)
  have Hz := Lib.hid (hash_is hz)
  have hb1 : -9223372036854775808 ≤ z ∧ z ≤ 9223372036854775807 := itoa_bound hl
  rw [← HE.out] at Hz
  clear hz hl
  go_enter Tryz.func38, Tryz.ntmps38
  go_wp2_with (first | (go_at_call 37; (with_reducible refine (HY.out _).mono ?_); rintro _ _ ⟨rfl, rfl⟩) | (go_at_call 67; (with_reducible refine (HS.out _ HA.out.b).mono ?_); rintro _ W1 ⟨rfl, hb⟩; have HA1 := Lib.hid (HA.out.below hb); have c0 := HA1.out.r.cell 0; have c1 := HA1.out.r.cell 1; have c2 := HA1.out.r.cell 2; have c3 := HA1.out.r.cell 3; have c4 := HA1.out.r.cell 4; have c5 := HA1.out.r.cell 5; have c6 := HA1.out.r.cell 6; have c7 := HA1.out.r.cell 7; have c8 := HA1.out.r.cell 8; have c9 := HA1.out.r.cell 9; have c10 := HA1.out.r.cell 10; have c11 := HA1.out.r.cell 11; have f0 := HA1.out.r.frozen 0; have f1 := HA1.out.r.frozen 1; have f2 := HA1.out.r.frozen 2; have f3 := HA1.out.r.frozen 3; have f4 := HA1.out.r.frozen 4; have f5 := HA1.out.r.frozen 5; have f6 := HA1.out.r.frozen 6; have f7 := HA1.out.r.frozen 7; have f8 := HA1.out.r.frozen 8; have f9 := HA1.out.r.frozen 9; have f10 := HA1.out.r.frozen 10; have f11 := HA1.out.r.frozen 11))
  refine bodyPost_ret (v := argV (none, 0, countP z)) (by simp [results, Tryz.results38, go_sem, argV, countP, c0, c1, c2, c3, c4, c5, c6, c7, c8, c9, c10, c11]) rfl ?_
  exact ⟨.inl ⟨(none, 0, countP z), rfl, count_made hb1.1 hb1.2, Hz.out⟩, HA1.out.done _ _ _ _ _ _ _ _ _ _ _ _⟩
 ·have HS := Lib.hid (fun W (hb : Below w.heap.size w W) => small_no (HG.out.below hb) HQ.out fun z hl hz => hno ⟨z, hz, hl⟩)
  have Hz := Lib.hid (hash_bad fun k hk he => hno ⟨k, he, hk⟩)
  rw [← HE.out] at Hz
  unfold thrown at HS
  clear hno
  go_enter Tryz.func38, Tryz.ntmps38
  go_wp2_with (first | (go_at_call 37; (with_reducible refine (HY.out _).mono ?_); rintro _ _ ⟨rfl, rfl⟩) | (go_at_call 67; (with_reducible refine (HS.out _ HA.out.b).mono ?_); rintro _ W1 ⟨rfl, hb⟩; have HA1 := Lib.hid (HA.out.below hb)))
  exact ⟨rfl, .inr ⟨rfl, Hz.out⟩, HA1.out.b⟩
end Go.Proofs.YtebpggfccljagaaGreatDoor
