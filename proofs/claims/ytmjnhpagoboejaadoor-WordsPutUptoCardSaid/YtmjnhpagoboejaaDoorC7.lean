import Derived.Test.YtmjnhpagoboejaaDoorC6
import Derived.Test.YtmjnhpagoboejaaDoorC5
/- ref.Put. -/
namespace Go.Proofs.YtmjnhpagoboejaaDoor
open Go.RowKit
open Wd
set_option linter.unusedSimpArgs false
set_option linter.unusedVariables false

set_option maxRecDepth 100000 in
set_option maxHeartbeats 8000000 in
theorem rput_out {w : World} {B nw cw n c : Nat} {Aw A : Option Addr} {l : List Int} {rs : List SRow} (hrw : ReadsI w B Aw l) (hr : ReadsL w B A rs) (hB : B ≤ w.heap.size) (hnw : nw = l.length) (hn : n = rs.length) (hnn : n ≤ 1000) (hwl : Wf l) (hll : l.length ≤ 1000000) (hw : ∀ r ∈ rs, Wf r.2.2 ∧ r.2.2.length ≤ 1000000) (hM : ∃ M, (∀ r ∈ rs, r.2.2.length ≤ M) ∧ M * l.length ≤ 20000) :
    Calls Tryd.prog 37 #[.slice Aw nw cw, .slice A n c] w (ResOut w (putR l (rs.map (fun r => r.2.2)))) := by
  subst hnw
  have HRW := Lib.hid hrw
  have HR := Lib.hid hr
  have HB := Lib.hid hB
  have Hn := Lib.hid hn
  have hall : ∀ r ∈ (Aw, cw, l) :: rs, Wf r.2.2 ∧ r.2.2.length ≤ 1000000000000 := fun r hr => by
    rcases List.mem_cons.1 hr with rfl | hr
    · exact ⟨hwl, by show l.length ≤ _; omega⟩
    · have := hw r hr; exact ⟨this.1, by omega⟩
  have Hall := Lib.hid hall
  have Hwl := Lib.hid hwl
  have Hw1 := Lib.hid hM
  have hqb := hll
  obtain ⟨R, hR⟩ : ∃ R, R = putR l (rs.map (fun r => r.2.2)) := ⟨_, rfl⟩
  rw [← hR]
  have HRe := Lib.hid hR
  generalize hq : l.length = q at *
  have Hq := Lib.hid hq
  clear hrw hr hB hn hwl hll hw hM hR hall hq
  go_enter Tryd.func37, Tryd.ntmps37
  go_wp2_with (refine wpL_append rfl (.tmp 12) (.tmp 13) rfl w.heap.size _ [(Aw, cw, l)] rs (by have h := OwnL.lit1 w (Aw, cw, l); rw [show ((Aw, cw, l) : SRow).2.2.length = q from Hq.out] at h; exact h) rfl rfl Hn.out ((HR.out.1.alloc HB.out _)) (by simp) (by have := Hn.out; omega) (by simp) ?_; intro A2 n2 c2 w2 ho2 hn2 hc2 hg2 hb2; have H2 := Lib.hid (And.intro ho2 (hb2 _ ((Below.refl _ _).alloc (Nat.le_refl _) _))); clear ho2 hn2 hc2 hg2 hb2)
  have hrd : ∀ r ∈ [((Aw, cw, l) : SRow)] ++ rs, ReadsI w2 B r.1 r.2.2 := fun r hr => by
    rcases List.mem_append.1 hr with hr | hr
    · rw [List.mem_singleton.1 hr]; exact HRW.out.below (H2.out.2.mono HB.out)
    · exact (HR.out.2 r hr).below (H2.out.2.mono HB.out)
  have hs2 := H2.out.2.size
  have hrl := own_readsL H2.out.1 hrd (by have := HB.out; omega)
  have HC := rall_any (c := c2) hrl.1 hrl.2 (by rw [hrl.2, List.length_append]; have := Hn.out; simp; omega) Hall.out
  simp only [List.map_append, List.map_cons, List.map_nil, List.singleton_append] at HC
  by_cases hz : chk (l :: rs.map (fun r => r.2.2)) = 0
  · rw [hz] at HC
    have HC := Lib.hid HC
    have Hlet := Lib.hid (chk_words hz)
    have HRz := Lib.hid (show R = if fitsB (rs.map (fun r => r.2.2)) l then ended (putL (rs.map (fun r => r.2.2)) [] l) else ([], 2) by rw [HRe.out]; unfold putR; rw [if_pos hz])
    clear hrd hrl hz
    go_wp2_with fail
    refine HC.out.mono ?_
    rintro e w' ⟨rfl, rfl⟩
    go_wp2_with fail
    go_loopg [7] q (fun k iv wr => ∃ i : Nat, iv = .int .i64 (i : Int) ∧ k = q - i ∧ i ≤ q ∧ w2 = wr ∧ Hid (fitsB (rs.map (fun r => r.2.2)) (l.take i) = true))
    case atStart => exact ⟨0, rfl, by omega, by omega, rfl, Lib.hid (by rw [List.take_zero]; rfl)⟩
    case round =>
      obtain ⟨i, rfl, hk, hi, rfl, ht⟩ := hrel
      have Hk := Lib.hid hk
      clear hk
      by_cases hin : i < q
      · have hil : i < l.length := by rw [Hq.out]; exact hin
        obtain ⟨ad, rfl, hb1, c0⟩ := (HRW.out.below (H2.out.2.mono HB.out)).at_ hil
        have hlet := (Hlet.out l (by simp)).1 l[i] (List.getElem_mem hil)
        have Hst := Lib.hid (fun h => fits_step hil ht.out h)
        have Hno := Lib.hid (fun h => fits_no (ims := rs.map (fun r => r.2.2)) hil h)
        rw [List.length_map, ← Hn.out] at Hst Hno
        have hii : (i : Int) < (q : Int) := by omega
        generalize l[i] = k at *
        obtain ⟨hk0, hk1, hk2⟩ := hlet
        clear hb1 hil
        by_cases hkn : (k.natAbs : Int) ≤ (n : Int)
        · have hm3 : ¬ (n : Int) < k := by omega
          have hm4 : ¬ (n : Int) < -k := by omega
          have Hnx := Lib.hid (Hst.out hkn)
          clear hkn
          go_wp2_with fail
          go_roundg (q - (i + 1))
          case measure => have := Hk.out; omega
          case rel => exact ⟨i + 1, rfl, rfl, by omega, rfl, Hnx⟩
        · have Hf := Lib.hid (show R = ([], 2) by rw [HRz.out, Hno.out (by omega)]; rfl)
          by_cases hm3 : (n : Int) < k
          · clear hkn
            go_wp2_with fail
            go_ret2
            rw [Hf.out]
            exact resOut_nil H2.out.2
          · have hm4 : (n : Int) < -k := by omega
            clear hkn
            go_wp2_with fail
            go_ret2
            rw [Hf.out]
            exact resOut_nil H2.out.2
      · have hii : (q : Int) ≤ (i : Int) := by omega
        have hfa : fitsB (rs.map (fun r => r.2.2)) l = true := by
          have h := ht.out
          rw [List.take_of_length_le (by have := Hq.out; omega)] at h
          exact h
        have Hfa := Lib.hid (fits_at hfa)
        have HRf := Lib.hid (show R = ended (putL (rs.map (fun r => r.2.2)) [] l) by rw [HRz.out, hfa]; rfl)
        have Hlm := Lib.hid (fun m hm => Hlet.out m (List.mem_cons_of_mem _ hm))
        have hdec : decide (i < q) = false := by simp; omega
        clear hfa ht Hk HRz HRe hin hi
        go_wp2_with fail
        go_loopg [8, 9] q (fun k ov iv wr => ∃ (i n' c' : Nat) (A' : Option Addr) (L : List Int), ov = .slice A' n' c' ∧ iv = .int .i64 (i : Int) ∧ k = q - i ∧ i ≤ q ∧ n' ≤ 20000 ∧ Hid (L = putL (rs.map (fun r => r.2.2)) [] (l.take i)) ∧ Hid (OwnI wr w2.heap.size (.slice A' n' c') L ∧ Below w2.heap.size w2 wr))
        case atStart => exact ⟨0, 0, 0, none, [], rfl, rfl, by omega, by omega, by omega, Lib.hid (by rw [List.take_zero]; rfl), Lib.hid ⟨OwnI.nil _ _, Below.refl _ _⟩⟩
        case round =>
          obtain ⟨i, n1, c1, A1, L, rfl, rfl, hk, hi, hn1, hL, hO⟩ := hrel
          have Hk := Lib.hid hk
          have HnL := Lib.hid hO.out.1.len
          have hsz := hO.out.2.size
          clear hk
          by_cases hin : i < q
          · have hil : i < l.length := by rw [Hq.out]; exact hin
            have hb2w := H2.out.2.mono HB.out
            have hbw := hO.out.2.mono (Nat.le_trans HB.out hs2)
            obtain ⟨ad, rfl, hb1, c0⟩ := ((HRW.out.below hb2w).below hbw).at_ hil
            have hlet := (Hlet.out l (by simp)).1 l[i] (List.getElem_mem hil)
            have hkn := Hfa.out l[i] (List.getElem_mem hil)
            have Hst := Lib.hid (putL_step (ims := rs.map (fun r => r.2.2)) (o := []) hil)
            have hMx : (putL (rs.map (fun r => r.2.2)) [] (l.take (i + 1))).length ≤ 20000 := by
              obtain ⟨M, hM1, hM2⟩ := Hw1.out
              have h1 := putL_len (ims := rs.map (fun r => r.2.2)) (M := M) (fun m hm => by obtain ⟨r, hr, rfl⟩ := List.mem_map.1 hm; exact hM1 r hr) (l.take (i + 1)) []
              have h2 : M * (l.take (i + 1)).length ≤ M * l.length := Nat.mul_le_mul_left _ (by rw [List.length_take]; omega)
              rw [List.length_nil] at h1
              have h3 := Hq.out
              rw [h3] at h2
              omega
            have HMx := Lib.hid hMx
            have hredL : Red L := by rw [hL.out]; exact red_putL (fun m hm => (Hlm.out m hm).1) _ _ trivial
            have hletL : LetL L := by
              rw [hL.out]
              have hgen : ∀ (l o : List Int), LetL o → LetL (putL (rs.map (fun r => r.2.2)) o l) := by
                intro l
                induction l with
                | nil => intro o ho; exact ho
                | cons k r ih =>
                  intro o ho
                  refine ih _ ?_
                  unfold onl
                  exact letl_rev (letl_act (letl_rev ho) (letl_img (fun m hm => (Hlm.out m hm).1) k))
              exact hgen _ _ (fun k hk => by cases hk)
            have HrL := Lib.hid (And.intro hredL hletL)
            rw [List.length_map, ← Hn.out] at hkn
            have hii : (i : Int) < (q : Int) := by omega
            generalize l[i] = k at *
            obtain ⟨hk0, hk1, hk2⟩ := hlet
            clear hb1 hil hMx hredL hletL
            rcases Int.lt_or_gt_of_ne hk0 with hneg | hpos
            · obtain ⟨j, hj⟩ : ∃ j : Nat, (j : Int) = -k - 1 := ⟨(-k - 1).toNat, by omega⟩
              have hjn : j < rs.length := by have := Hn.out; omega
              obtain ⟨ad2, rfl, hb3, d0⟩ := ((HR.out.below hb2w).below hbw).at_ hjn
              have hrow := ((HR.out.below hb2w).below hbw).2 _ (List.getElem_mem hjn)
              have hml := Hlm.out rs[j].2.2 (List.mem_map.2 ⟨_, List.getElem_mem hjn, rfl⟩)
              have Himg := Lib.hid (show img (rs.map (fun r => r.2.2)) k = inv rs[j].2.2 by
                unfold img
                rw [if_neg (by omega), show (-k - 1).toNat = j by omega, List.getD_eq_getElem?_getD, List.getElem?_map, List.getElem?_eq_getElem hjn]; rfl)
              have Hm := Lib.hid hml
              obtain ⟨m, hm⟩ : ∃ m, m = rs[j].2.2 := ⟨_, rfl⟩
              rw [← hm] at d0 Himg Hm hrow
              generalize rs[j].1 = a1 at *
              generalize rs[j].2.1 = d1 at *
              have HX := Lib.hid (fun d : Nat => rinv_any (w := wr.drewN d) (c := d1) (hrow.drewN d) (show B ≤ wr.heap.size by have := HB.out; omega) rfl (letl_small Hm.out.1) (by have := Hm.out.2; omega))
              have hmx : max k (-k) = -k := by omega
              have s1 : (-k - 1).toNat = j := by omega
              have s2 : (0 : Int) ≤ -k - 1 := by omega
              have s3 : -k - 1 < (n : Int) := by omega
              have s5 : IntKind.i64.wrap (-k - 1) = -k - 1 := by rw [IntKind.wrap_i64]; omega
              have s6 : IntKind.i64.wrap (-k) = -k := by rw [IntKind.wrap_i64]; omega
              have s4 : k < 0 := by omega
              clear hjn hb3 hrow hml hm hj hkn hb2w hbw hneg
              go_wp2_with (go_quiet (fail))
              refine (HX.out _).mono ?_
              rintro e w5 ⟨A5, n5, c5, rfl, ho5, hb5⟩
              have H5 := Lib.hid (show OwnI w5 wr.heap.size (.slice A5 n5 c5) (inv m) ∧ Below wr.heap.size wr w5 from ⟨ho5, (drewN_below wr _).trans hb5⟩)
              clear ho5 hb5
              have HS := Lib.hid (rshort_any (w := w5) (c := c5) H5.out.1.reads (Nat.le_refl _) H5.out.1.len.1 (letl_inv Hm.out.1) (by have h := H5.out.1.len.1; rw [inv_len] at h; have := Hm.out.2; omega))
              go_wp2_with fail
              refine HS.out.mono ?_
              rintro e w6 ⟨A6, n6, c6, rfl, ho6, hb6⟩
              have H6 := Lib.hid (show OwnI w6 wr.heap.size (.slice A6 n6 c6) (short (inv m)) ∧ Below wr.heap.size wr w6 from ⟨ho6.lower H5.out.2.size, H5.out.2.trans (hb6.mono H5.out.2.size)⟩)
              clear ho6 hb6
              have hms := short_len_le (inv m)
              have HG := Lib.hid (rglued_any (w := w6) (cv := c1) (cu := c6) ((hO.out.1.kept H6.out.2).reads) H6.out.1.reads (Nat.le_refl _) HnL.out.1 H6.out.1.len.1 HnL.out.2.1 H6.out.1.len.2.1 (by omega) (by have h := H6.out.1.len.1; rw [inv_len] at hms; have := Hm.out.2; omega) HrL.out.2 (letl_short (letl_inv Hm.out.1)) HrL.out.1 (red_short' (nz_inv (letl_nz Hm.out.1))) HnL.out.2.2 H6.out.1.len.2.2)
              clear hms
              go_wp2_with fail
              refine HG.out.mono ?_
              rintro e w7 ⟨A7, n7, c7, rfl, ho7, hb7⟩
              have hs7 : w2.heap.size ≤ w6.heap.size := by have := H6.out.2.size; omega
              have H7 := Lib.hid (And.intro (ho7.lower hs7) (show Below w2.heap.size w2 w7 from (hO.out.2.trans (H6.out.2.mono hsz)).trans (hb7.mono hs7)))
              clear ho7 hb7
              have Hnew := Lib.hid (show putL (rs.map (fun r => r.2.2)) [] (l.take (i + 1)) = onl L (short (inv m)) by rw [Hst.out, ← hL.out, Himg.out, onl_short (red_rev' HrL.out.1) (nz_inv (letl_nz Hm.out.1))])
              go_wp2_with fail
              go_roundg (q - (i + 1))
              case measure => have := Hk.out; omega
              case rel => exact ⟨i + 1, n7, c7, A7, _, rfl, rfl, rfl, by omega, by have h1 := H7.out.1.len.1; have h2 := HMx.out; rw [Hnew.out] at h2; omega, Lib.hid Hnew.out.symm, H7⟩
            · obtain ⟨j, hj⟩ : ∃ j : Nat, (j : Int) = k - 1 := ⟨(k - 1).toNat, by omega⟩
              have hjn : j < rs.length := by have := Hn.out; omega
              obtain ⟨ad2, rfl, hb3, d0⟩ := ((HR.out.below hb2w).below hbw).at_ hjn
              have hrow := ((HR.out.below hb2w).below hbw).2 _ (List.getElem_mem hjn)
              have hml := Hlm.out rs[j].2.2 (List.mem_map.2 ⟨_, List.getElem_mem hjn, rfl⟩)
              have Himg := Lib.hid (show img (rs.map (fun r => r.2.2)) k = rs[j].2.2 by
                unfold img
                rw [if_pos (by omega), show (k - 1).toNat = j by omega, List.getD_eq_getElem?_getD, List.getElem?_map, List.getElem?_eq_getElem hjn]; rfl)
              have Hm := Lib.hid hml
              obtain ⟨m, hm⟩ : ∃ m, m = rs[j].2.2 := ⟨_, rfl⟩
              rw [← hm] at d0 Himg Hm hrow
              generalize rs[j].1 = a1 at *
              generalize rs[j].2.1 = d1 at *
              have HX := Lib.hid (fun d : Nat => rshort_any (w := wr.drewN d) (c := d1) (hrow.drewN d) (show B ≤ wr.heap.size by have := HB.out; omega) rfl Hm.out.1 (by have := Hm.out.2; omega))
              have hmx : max k (-k) = k := by omega
              have s1 : (k - 1).toNat = j := by omega
              have s2 : (0 : Int) ≤ k - 1 := by omega
              have s3 : k - 1 < (n : Int) := by omega
              have s5 : IntKind.i64.wrap (k - 1) = k - 1 := by rw [IntKind.wrap_i64]; omega
              have s6 : IntKind.i64.wrap (-k) = -k := by rw [IntKind.wrap_i64]; omega
              have s4 : ¬ k < 0 := by omega
              clear hjn hb3 hrow hml hm hj hkn hb2w hbw hpos
              go_wp2_with (go_quiet (fail))
              refine (HX.out _).mono ?_
              rintro e w5 ⟨A5, n5, c5, rfl, ho5, hb5⟩
              have H5 := Lib.hid (show OwnI w5 wr.heap.size (.slice A5 n5 c5) (short m) ∧ Below wr.heap.size wr w5 from ⟨ho5, (drewN_below wr _).trans hb5⟩)
              clear ho5 hb5
              have hms := short_len_le (m)
              have HG := Lib.hid (rglued_any (w := w5) (cv := c1) (cu := c5) ((hO.out.1.kept H5.out.2).reads) H5.out.1.reads (Nat.le_refl _) HnL.out.1 H5.out.1.len.1 HnL.out.2.1 H5.out.1.len.2.1 (by omega) (by have h := H5.out.1.len.1; have := Hm.out.2; omega) HrL.out.2 (letl_short Hm.out.1) HrL.out.1 (red_short' (letl_nz Hm.out.1)) HnL.out.2.2 H5.out.1.len.2.2)
              clear hms
              go_wp2_with fail
              refine HG.out.mono ?_
              rintro e w7 ⟨A7, n7, c7, rfl, ho7, hb7⟩
              have hs7 : w2.heap.size ≤ w5.heap.size := by have := H5.out.2.size; omega
              have H7 := Lib.hid (And.intro (ho7.lower hs7) (show Below w2.heap.size w2 w7 from (hO.out.2.trans (H5.out.2.mono hsz)).trans (hb7.mono hs7)))
              clear ho7 hb7
              have Hnew := Lib.hid (show putL (rs.map (fun r => r.2.2)) [] (l.take (i + 1)) = onl L (short (m)) by rw [Hst.out, ← hL.out, Himg.out, onl_short (red_rev' HrL.out.1) (letl_nz Hm.out.1)])
              go_wp2_with fail
              go_roundg (q - (i + 1))
              case measure => have := Hk.out; omega
              case rel => exact ⟨i + 1, n7, c7, A7, _, rfl, rfl, rfl, by omega, by have h1 := H7.out.1.len.1; have h2 := HMx.out; rw [Hnew.out] at h2; omega, Lib.hid Hnew.out.symm, H7⟩
          · have hii : (q : Int) ≤ (i : Int) := by omega
            have Hfin := Lib.hid (show R = ended L by rw [HRf.out, hL.out, List.take_of_length_le (by have := Hq.out; omega)])
            clear hin
            go_wp2_with fail
            refine (rended_any (w0 := w) (hO.out.1.lower hs2) (by omega)).mono ?_
            rintro e w5 ⟨A5, n5, k5, rfl, hg5, rfl⟩
            rw [← Hfin.out] at hg5 ⊢
            have H5 := Lib.hid hg5
            clear hg5
            go_wp2_with fail
            go_ret2
            exact ⟨A5, n5, k5, rfl, H5.out, H2.out.2.trans (hO.out.2.mono hs2)⟩
  · generalize hzz : chk (l :: rs.map (fun r => r.2.2)) = z at *
    have HC := Lib.hid HC
    have hzb : (z != 0) = true := by simp; exact hz
    have Hf := Lib.hid (show R = ([], z) by rw [HRe.out]; unfold putR; rw [hzz, if_neg hz])
    clear hrd hrl hz hzz
    go_wp2_with fail
    refine HC.out.mono ?_
    rintro e w' ⟨rfl, rfl⟩
    go_wp2_with fail
    go_ret2
    rw [Hf.out]
    exact resOut_nil H2.out.2
end Go.Proofs.YtmjnhpagoboejaaDoor

/- law.WordsPut (printed by gen_lput.py). -/
namespace Go.Proofs.YtmjnhpagoboejaaDoor
open Go.RowKit
open Wd
set_option linter.unusedSimpArgs false
set_option linter.unusedVariables false

theorem much_three {w : World} {B n c : Nat} {A : Option Addr} {l : List Int} (h : Rd w B A l) (hn : n = l.length) (hb : n ≤ 1000000000000000) :
    Calls Tryd.prog 11 #[.slice (some ⟨w.heap.size, 0, none⟩) 3 3] (w.alloc (.cells #[.slice A n c, .slice A n c, .slice A n c] 22)) (fun e w' => e = .returned (.bool (decide ((9000 : Int) < (3 * min n 10000 : Nat)))) ∧ Below w.heap.size w w') := by
  subst hn
  refine (much_any (n := 3) (c := 3) (rows_lit w [(A, c, l), (A, c, l), (A, c, l)] (B := B) (fun r hr => by
    simp only [List.mem_cons, List.mem_nil_iff, or_false, or_self] at hr
    subst hr
    exact h.1) h.2) rfl (by decide) (fun r hr => by
    simp only [List.mem_cons, List.mem_nil_iff, or_false, or_self] at hr
    subst hr
    exact hb)).mono ?_
  rintro e w' ⟨rfl, rfl⟩
  refine ⟨?_, (Below.refl _ _).alloc (Nat.le_refl _) _⟩
  have : muchN (List.map (fun r : SRow => r.2.2) [(A, c, l), (A, c, l), (A, c, l)]) = 3 * min l.length 10000 := by simp [muchN]; omega
  rw [this]
set_option maxRecDepth 100000 in
set_option maxHeartbeats 8000000 in
theorem put_many {w : World} {B n c q cq : Nat} {A Aq : Option Addr} {rs : List SRow} {l : List Int} (ht : TabX B w) (hq : Rd w B Aq l) (h : RdL w B A rs) (hqn : q = l.length) (hqc : q ≤ cq) (hqm : cq ≤ 9223372036854775807) (hwl : Wf l) (hql : q ≤ 1048576) (hn : n = rs.length) (hc : n ≤ c) (hcm : c ≤ 9223372036854775807) (hnb : n ≤ 1048576) (hw : ∀ r ∈ rs, Wf r.2.2 ∧ r.2.2.length ≤ 1048576) (h70 : 70 < n) :
    Calls Tryd.prog 5 #[.slice Aq q cq, .slice A n c] w (fun e w' => e = .returned (.bool true) ∧ Below w.heap.size w w') := by
  have h70i : (70 : Int) < (n : Int) := by omega
  have HT := Lib.hid ht
  have HR := Lib.hid h
  have HQ := Lib.hid hq
  have Hn := Lib.hid hn
  have Hqn := Lib.hid hqn
  have Hw := Lib.hid hw
  have hBw : B ≤ w.heap.size := h.2
  clear ht h hn hw hq hqn hwl
  go_enter Tryd.func5, Tryd.ntmps5
  go_wp2_with fail
  refine (known_any (HT.out).1 (HT.out).2).mono ?_
  rintro e w1 ⟨rfl, hb1⟩
  have S1 := Lib.hid hb1
  have z1 : w.heap.size ≤ w1.heap.size := S1.out.size
  clear hb1
  have BB := Lib.hid ((Below.refl w.heap.size w).trans (S1.out.mono (by omega)))
  go_wp2_with fail
  go_ret
  exact ⟨rfl, BB.out⟩
set_option maxRecDepth 100000 in
set_option maxHeartbeats 8000000 in
theorem put_much {w : World} {B n c q cq : Nat} {A Aq : Option Addr} {rs : List SRow} {l : List Int} (ht : TabX B w) (hq : Rd w B Aq l) (h : RdL w B A rs) (hqn : q = l.length) (hqc : q ≤ cq) (hqm : cq ≤ 9223372036854775807) (hwl : Wf l) (hql : q ≤ 1048576) (hn : n = rs.length) (hc : n ≤ c) (hcm : c ≤ 9223372036854775807) (hnb : n ≤ 1048576) (hw : ∀ r ∈ rs, Wf r.2.2 ∧ r.2.2.length ≤ 1048576) (h70 : n ≤ 70) (hmu : 9000 < muchN (rs.map (fun r => r.2.2))) :
    Calls Tryd.prog 5 #[.slice Aq q cq, .slice A n c] w (fun e w' => e = .returned (.bool true) ∧ Below w.heap.size w w') := by
  have HM := much_any (c := c) h.1 hn (by omega) (fun r hr => by have := (hw r hr).2; omega)
  have hd : decide ((9000 : Int) < (muchN (rs.map (fun r => r.2.2)) : Nat)) = true := decide_eq_true (by omega)
  rw [hd] at HM
  have HM := Lib.hid HM
  have h70i : (n : Int) ≤ 70 := by omega
  clear hmu hd
  have HT := Lib.hid ht
  have HR := Lib.hid h
  have HQ := Lib.hid hq
  have Hn := Lib.hid hn
  have Hqn := Lib.hid hqn
  have Hw := Lib.hid hw
  have hBw : B ≤ w.heap.size := h.2
  clear ht h hn hw hq hqn hwl
  go_enter Tryd.func5, Tryd.ntmps5
  go_wp2_with fail
  refine (HM.out).mono ?_
  rintro e w' ⟨rfl, rfl⟩
  go_wp2_with fail
  refine (known_any (HT.out).1 (HT.out).2).mono ?_
  rintro e w2 ⟨rfl, hb2⟩
  have S2 := Lib.hid hb2
  have z2 : w.heap.size ≤ w2.heap.size := S2.out.size
  clear hb2
  have BB := Lib.hid ((Below.refl w.heap.size w).trans (S2.out.mono (by omega)))
  go_wp2_with fail
  go_ret
  exact ⟨rfl, BB.out⟩
set_option maxRecDepth 100000 in
set_option maxHeartbeats 8000000 in
theorem put_muchw {w : World} {B n c q cq : Nat} {A Aq : Option Addr} {rs : List SRow} {l : List Int} (ht : TabX B w) (hq : Rd w B Aq l) (h : RdL w B A rs) (hqn : q = l.length) (hqc : q ≤ cq) (hqm : cq ≤ 9223372036854775807) (hwl : Wf l) (hql : q ≤ 1048576) (hn : n = rs.length) (hc : n ≤ c) (hcm : c ≤ 9223372036854775807) (hnb : n ≤ 1048576) (hw : ∀ r ∈ rs, Wf r.2.2 ∧ r.2.2.length ≤ 1048576) (h70 : n ≤ 70) (hmu : muchN (rs.map (fun r => r.2.2)) ≤ 9000) (hq9 : 9000 < q) :
    Calls Tryd.prog 5 #[.slice Aq q cq, .slice A n c] w (fun e w' => e = .returned (.bool true) ∧ Below w.heap.size w w') := by
  have HM := much_any (c := c) h.1 hn (by omega) (fun r hr => by have := (hw r hr).2; omega)
  have hd : decide ((9000 : Int) < (muchN (rs.map (fun r => r.2.2)) : Nat)) = false := decide_eq_false (by omega)
  rw [hd] at HM
  have HM := Lib.hid HM
  have h70i : (n : Int) ≤ 70 := by omega
  have hd1 : decide ((9000 : Int) < (min q 10000 : Nat)) = true := decide_eq_true (by omega)
  clear hmu hd
  have HT := Lib.hid ht
  have HR := Lib.hid h
  have HQ := Lib.hid hq
  have Hn := Lib.hid hn
  have Hqn := Lib.hid hqn
  have Hw := Lib.hid hw
  have hBw : B ≤ w.heap.size := h.2
  clear ht h hn hw hq hqn hwl
  go_enter Tryd.func5, Tryd.ntmps5
  go_wp2_with fail
  refine (HM.out).mono ?_
  rintro e w' ⟨rfl, rfl⟩
  go_wp2_with fail
  refine (much_one (HQ.out) Hqn.out (by omega)).mono ?_
  rintro e w2 ⟨rfl, hb2⟩
  have S2 := Lib.hid hb2
  have z2 : w.heap.size ≤ w2.heap.size := S2.out.size
  clear hb2
  go_wp2_with fail
  refine (known_any ((HT.out).next S2.out).1 ((HT.out).next S2.out).2).mono ?_
  rintro e w3 ⟨rfl, hb3⟩
  have S3 := Lib.hid hb3
  have z3 : w2.heap.size ≤ w3.heap.size := S3.out.size
  clear hb3
  have BB := Lib.hid (((Below.refl w.heap.size w).trans (S2.out.mono (by omega))).trans (S3.out.mono (by omega)))
  go_wp2_with fail
  go_ret
  exact ⟨rfl, BB.out⟩
set_option maxRecDepth 100000 in
set_option maxHeartbeats 8000000 in
theorem put_much3 {w : World} {B n c q cq : Nat} {A Aq : Option Addr} {rs : List SRow} {l : List Int} (ht : TabX B w) (hq : Rd w B Aq l) (h : RdL w B A rs) (hqn : q = l.length) (hqc : q ≤ cq) (hqm : cq ≤ 9223372036854775807) (hwl : Wf l) (hql : q ≤ 1048576) (hn : n = rs.length) (hc : n ≤ c) (hcm : c ≤ 9223372036854775807) (hnb : n ≤ 1048576) (hw : ∀ r ∈ rs, Wf r.2.2 ∧ r.2.2.length ≤ 1048576) (h70 : n ≤ 70) (hmu : muchN (rs.map (fun r => r.2.2)) ≤ 9000) (hq9 : q ≤ 9000) (hq3 : 3000 < q) :
    Calls Tryd.prog 5 #[.slice Aq q cq, .slice A n c] w (fun e w' => e = .returned (.bool true) ∧ Below w.heap.size w w') := by
  have HM := much_any (c := c) h.1 hn (by omega) (fun r hr => by have := (hw r hr).2; omega)
  have hd : decide ((9000 : Int) < (muchN (rs.map (fun r => r.2.2)) : Nat)) = false := decide_eq_false (by omega)
  rw [hd] at HM
  have HM := Lib.hid HM
  have h70i : (n : Int) ≤ 70 := by omega
  have hd1 : decide ((9000 : Int) < (min q 10000 : Nat)) = false := decide_eq_false (by omega)
  have hd2 : decide ((9000 : Int) < (3 * min q 10000 : Nat)) = true := decide_eq_true (by omega)
  have hq2 : (200 : Int) < (q : Int) := by omega
  clear hmu hd
  have HT := Lib.hid ht
  have HR := Lib.hid h
  have HQ := Lib.hid hq
  have Hn := Lib.hid hn
  have Hqn := Lib.hid hqn
  have Hw := Lib.hid hw
  have hBw : B ≤ w.heap.size := h.2
  clear ht h hn hw hq hqn hwl
  go_enter Tryd.func5, Tryd.ntmps5
  go_wp2_with fail
  refine (HM.out).mono ?_
  rintro e w' ⟨rfl, rfl⟩
  go_wp2_with fail
  refine (much_one (HQ.out) Hqn.out (by omega)).mono ?_
  rintro e w2 ⟨rfl, hb2⟩
  have S2 := Lib.hid hb2
  have z2 : w.heap.size ≤ w2.heap.size := S2.out.size
  clear hb2
  go_wp2_with fail
  refine (much_three ((HQ.out).next S2.out) Hqn.out (by omega)).mono ?_
  rintro e w3 ⟨rfl, hb3⟩
  have S3 := Lib.hid hb3
  have z3 : w2.heap.size ≤ w3.heap.size := S3.out.size
  clear hb3
  go_wp2_with fail
  refine (known_any (((HT.out).next S2.out).next S3.out).1 (((HT.out).next S2.out).next S3.out).2).mono ?_
  rintro e w4 ⟨rfl, hb4⟩
  have S4 := Lib.hid hb4
  have z4 : w3.heap.size ≤ w4.heap.size := S4.out.size
  clear hb4
  have BB := Lib.hid ((((Below.refl w.heap.size w).trans (S2.out.mono (by omega))).trans (S3.out.mono (by omega))).trans (S4.out.mono (by omega)))
  go_wp2_with fail
  go_ret
  exact ⟨rfl, BB.out⟩
set_option maxRecDepth 100000 in
set_option maxHeartbeats 8000000 in
theorem put_main {w : World} {B n c q cq : Nat} {A Aq : Option Addr} {rs : List SRow} {l : List Int} (ht : TabX B w) (hq : Rd w B Aq l) (h : RdL w B A rs) (hqn : q = l.length) (hqc : q ≤ cq) (hqm : cq ≤ 9223372036854775807) (hwl : Wf l) (hql : q ≤ 1048576) (hn : n = rs.length) (hc : n ≤ c) (hcm : c ≤ 9223372036854775807) (hnb : n ≤ 1048576) (hw : ∀ r ∈ rs, Wf r.2.2 ∧ r.2.2.length ≤ 1048576) (h70 : n ≤ 70) (hmu : muchN (rs.map (fun r => r.2.2)) ≤ 9000) (hq9 : q ≤ 3000) (hq2 : (200 : Int) < (q : Int)) :
    Calls Tryd.prog 5 #[.slice Aq q cq, .slice A n c] w (fun e w' => e = .returned (.bool true) ∧ Below w.heap.size w w') := by
  have HM := much_any (c := c) h.1 hn (by omega) (fun r hr => by have := (hw r hr).2; omega)
  have hd : decide ((9000 : Int) < (muchN (rs.map (fun r => r.2.2)) : Nat)) = false := decide_eq_false (by omega)
  rw [hd] at HM
  have HM := Lib.hid HM
  have h70i : (n : Int) ≤ 70 := by omega
  have hd1 : decide ((9000 : Int) < (min q 10000 : Nat)) = false := decide_eq_false (by omega)
  have hd2 : decide ((9000 : Int) < (3 * min q 10000 : Nat)) = false := decide_eq_false (by omega)
  have hsm := muchN_small hmu
  have Hls := Lib.hid (show ∀ r ∈ rs, r.2.2.length ≤ 9000 from fun r hr => hsm.1 _ (List.mem_map.2 ⟨r, hr, rfl⟩))
  obtain ⟨R, hR⟩ : ∃ R, R = putR l (rs.map (fun r => r.2.2)) := ⟨_, rfl⟩
  have HRl := Lib.hid (show R.1.length ≤ 4096 by rw [hR]; exact putR_len _ _)
  have HP := Lib.hid (fun (W : World) (B1 B2 c1 c2 n2 : Nat) (A1 A2 : Option Addr) (rs' : List SRow) (h1 : Rd W B1 A1 l) (h2 : ReadsL W B2 A2 rs') (hB2 : B2 ≤ W.heap.size) (e : rs'.map (fun r => r.2.2) = rs.map (fun r => r.2.2)) (hn2 : n2 = rs'.length) (hM : ∃ M, (∀ r ∈ rs, r.2.2.length ≤ M) ∧ M * l.length ≤ 20000) => show Calls Tryd.prog 36 #[.slice A1 q c1, .slice A2 n2 c2] W (ResOut W R) by
    rw [hR, ← e]
    have hlen : rs'.length = rs.length := by have := congrArg List.length e; simpa using this
    have hmem : ∀ r ∈ rs', ∃ r0 ∈ rs, r0.2.2 = r.2.2 := fun r hr => by
      have : r.2.2 ∈ rs.map (fun r => r.2.2) := by rw [← e]; exact List.mem_map.2 ⟨r, hr, rfl⟩
      obtain ⟨r0, hr0, e0⟩ := List.mem_map.1 this
      exact ⟨r0, hr0, e0⟩
    obtain ⟨M, hM1, hM2⟩ := hM
    exact put_out (B := W.heap.size) (h1.1.more h1.2) (h2.more hB2) (Nat.le_refl _) hqn hn2 (by omega) hwl (by omega) (fun r hr => by
      obtain ⟨r0, hr0, e0⟩ := hmem r hr
      have h3 := hw r0 hr0
      have h4 := hsm.1 _ (List.mem_map.2 ⟨r0, hr0, rfl⟩)
      rw [e0] at h3 h4
      exact ⟨h3.1, by omega⟩) ⟨M, fun r hr => by obtain ⟨r0, hr0, e0⟩ := hmem r hr; rw [← e0]; exact hM1 r0 hr0, hM2⟩)
  have HRP := Lib.hid (fun (W : World) (h1 : Rd W B Aq l) (h2 : RdL W B A rs) (hM : ∃ M, (∀ r ∈ rs, r.2.2.length ≤ M) ∧ M * l.length ≤ 20000) => show Calls Tryd.prog 37 #[.slice Aq q cq, .slice A n c] W (ResOut W R) by
    rw [hR]
    exact rput_out h1.1 h2.1 h1.2 hqn hn (by omega) hwl (by omega) (fun r hr => by have h3 := hw r hr; have h4 := hsm.1 _ (List.mem_map.2 ⟨r, hr, rfl⟩); exact ⟨h3.1, by omega⟩) hM)
  clear hmu hd hsm hR
  have HT := Lib.hid ht
  have HR := Lib.hid h
  have HQ := Lib.hid hq
  have Hn := Lib.hid hn
  have Hqn := Lib.hid hqn
  have Hw := Lib.hid hw
  have hBw : B ≤ w.heap.size := h.2
  clear ht h hn hw hq hqn hwl
  go_enter Tryd.func5, Tryd.ntmps5
  go_wp2_with fail
  refine (HM.out).mono ?_
  rintro e w' ⟨rfl, rfl⟩
  go_wp2_with fail
  refine (much_one (HQ.out) Hqn.out (by omega)).mono ?_
  rintro e w2 ⟨rfl, hb2⟩
  have S2 := Lib.hid hb2
  have z2 : w.heap.size ≤ w2.heap.size := S2.out.size
  clear hb2
  go_wp2_with fail
  refine (much_three ((HQ.out).next S2.out) Hqn.out (by omega)).mono ?_
  rintro e w3 ⟨rfl, hb3⟩
  have S3 := Lib.hid hb3
  have z3 : w2.heap.size ≤ w3.heap.size := S3.out.size
  clear hb3
  go_wp2_with fail
  refine (lent_rd (((HQ.out).next S2.out).next S3.out) Hqn.out (by omega)).mono ?_
  rintro e w4 ⟨A4, c4, rfl, hc4, hm4, hr4, hb4⟩
  have S4 := Lib.hid hb4
  have z4 : w3.heap.size ≤ w4.heap.size := S4.out.size
  clear hb4
  have G_m := Lib.hid hr4
  clear hr4
  have QM := Lib.hid (G_m.out)
  have QR := Lib.hid ((((HR.out).next S2.out).next S3.out).next S4.out)
  have QQ := Lib.hid ((((HQ.out).next S2.out).next S3.out).next S4.out)
  have QT := Lib.hid ((((HT.out).next S2.out).next S3.out).next S4.out)
  have QB := Lib.hid (show Below w.heap.size w w4 from (((Below.refl w.heap.size w).trans (S2.out.mono (by omega))).trans (S3.out.mono (by omega))).trans (S4.out.mono (by omega)))
  have zq : w.heap.size ≤ w4.heap.size := QB.out.size
  go_wp2_with fail
  go_loopg [6, 7, 8] n (fun k mv tv iv wr => ∃ (i n' c' T : Nat) (A' : Option Addr) (ms : List SRow), mv = .slice A' n' c' ∧ tv = .int .i64 (T : Int) ∧ iv = .int .i64 (i : Int) ∧ k = n - i ∧ i ≤ n ∧ T ≤ 9000 ∧ Hid (∀ r ∈ rs.take i, r.2.2.length ≤ T) ∧ Hid (LentOwn wr w4.heap.size (.slice A' n' c') ms ∧ ms.map (fun r => r.2.2) = (rs.take i).map (fun r => r.2.2) ∧ Below w4.heap.size w4 wr))
  case atStart => exact ⟨0, 0, 0, 0, none, [], rfl, rfl, rfl, by omega, by omega, by omega, Lib.hid (fun r hr => by rw [List.take_zero] at hr; cases hr), Lib.hid ⟨⟨OwnL.nil _ _, fun r hr => by cases hr⟩, by rw [List.take_zero], Below.refl _ _⟩⟩
  case round =>
    obtain ⟨i, n1, c1, T, A1, ms, rfl, rfl, rfl, hk, hi, hT, hTm, hO⟩ := hrel
    have Hk := Lib.hid hk
    clear hk
    have hsz := hO.out.2.2.size
    have hml : ms.length = i := by
      have := congrArg List.length hO.out.2.1
      rw [List.length_map, List.length_map, List.length_take, ← Hn.out] at this
      omega
    have Hml := Lib.hid hml
    clear hml
    by_cases hin : i < n
    · have hil : i < rs.length := by rw [← Hn.out]; exact hin
      have hrr := QR.out.1.below (hO.out.2.2.mono QR.out.2)
      obtain ⟨ad, rfl, hb1, c00⟩ := QR.out.1.at_ hil
      have HC := Lib.hid (fun (w' : World) (hb : Below w4.heap.size w4 w') => show w'.cell? (ad.add i) = some (.slice rs[i].1 rs[i].2.2.length rs[i].2.1) from (hb.cell (by rw [block_of_add]; have := QR.out.2; omega)).trans c00)
      have c0 := HC.out wr hO.out.2.2
      clear c00
      have Hrow := Lib.hid (show Rd wr B rs[i].1 rs[i].2.2 from ⟨hrr.2 rs[i] (List.getElem_mem hil), by omega⟩)
      have Hst := Lib.hid (show (rs.take (i + 1)).map (fun r => r.2.2) = (rs.take i).map (fun r => r.2.2) ++ [rs[i].2.2] by rw [List.take_succ_eq_append_getElem hil, List.map_append]; rfl)
      have Htk := Lib.hid (show rs.take (i + 1) = rs.take i ++ [rs[i]] from List.take_succ_eq_append_getElem hil)
      have hlen := Hls.out rs[i] (List.getElem_mem hil)
      have hii : (i : Int) < (n : Int) := by omega
      obtain ⟨r0, hr0⟩ : ∃ r0, r0 = rs[i] := ⟨_, rfl⟩
      rw [← hr0] at c0 HC Hrow Hst hlen Htk
      have HLe := Lib.hid (lent_any (c := r0.2.1) Hrow.out.1 Hrow.out.2 rfl (by omega))
      have Hnext := Lib.hid (show ∀ r ∈ rs.take (i + 1), r.2.2.length ≤ max T r0.2.2.length from fun r hr => by
        rw [Htk.out] at hr
        rcases List.mem_append.1 hr with hr | hr
        · have := hTm.out r hr; omega
        · rw [List.mem_singleton.1 hr]; omega)
      obtain ⟨a1, d1, l1⟩ := r0
      clear hil hb1 hrr hr0
      dsimp only at *
      go_wp2_with fail
      refine HLe.out.mono ?_
      rintro e w2 ⟨A2, c2, rfl, hc2, ho2, hb2⟩
      have H2 := Lib.hid (And.intro ho2 (And.intro hb2 (And.intro hc2 ho2.len.2.2)))
      have hs2 := hb2.size
      clear ho2 hb2 hc2
      go_wp2_with (refine wpL_append rfl (.tmp 49) (.tmp 55) rfl w4.heap.size _ ms [(A2, c2, l1)] ((hO.out.1.1.kept H2.out.2.1).alloc _) rfl rfl rfl (reads_singleL _ (A2, c2, l1)) (by have := Hml.out; omega) (by simp) (by simp; omega) ?_; intro A3 n3 c3 w3 ho3 hn3 hc3 hg3 hb3; have H3 := Lib.hid (And.intro (hO.out.1.step (r := (A2, c2, l1)) H2.out.2.1 hsz H2.out.1 H2.out.2.2 ho3 hg3) (hb3 _ ((hO.out.2.2.trans (H2.out.2.1.mono hsz)).alloc (by omega) _))); have c3' := HC.out w3 H3.out.2; clear ho3 hn3 hc3 hg3 hb3)
      go_roundg (n - (i + 1))
      case measure => have := Hk.out; omega
      case rel => exact ⟨i + 1, n3, c3, max T l1.length, A3, ms ++ [(A2, c2, l1)], rfl, by congr 1; omega, rfl, rfl, by omega, by omega, Hnext, Lib.hid ⟨H3.out.1, by rw [List.map_append, hO.out.2.1, Hst.out]; rfl, H3.out.2⟩⟩
    · have hii : (n : Int) ≤ (i : Int) := by omega
      have hTm2 : ∀ r ∈ rs, r.2.2.length ≤ T := fun r hr => hTm.out r (by rw [List.take_of_length_le (by have := Hn.out; omega)]; exact hr)
      have HTm := Lib.hid hTm2
      have hmap : ms.map (fun r => r.2.2) = rs.map (fun r => r.2.2) := by rw [hO.out.2.1, List.take_of_length_le (by have := Hn.out; omega)]
      have Hmap := Lib.hid hmap
      have HB1 := Lib.hid hO.out.2.2
      have hl1 := hO.out.1.lent
      have HM0 := Lib.hid hl1.1
      have HN1 := Lib.hid hl1.2
      have Hmn := Lib.hid (show ms.length = n by have := Hml.out; omega)
      obtain ⟨P, hP⟩ : ∃ P : Nat, (T : Int) * (q : Int) = (P : Int) := ⟨T * q, by rw [Int.natCast_mul]⟩
      have hPb : P ≤ 27000000 := by
        have h1 : T * q ≤ 9000 * 3000 := Nat.mul_le_mul hT hq9
        have h2 : ((T * q : Nat) : Int) = (P : Int) := by rw [Int.natCast_mul]; exact hP
        omega
      have hPw : IntKind.i64.wrap (P : Int) = (P : Int) := by rw [IntKind.wrap_i64]; omega
      have HPe := Lib.hid (show T * q = P by have h2 : ((T * q : Nat) : Int) = (P : Int) := by rw [Int.natCast_mul]; exact hP
                                             omega)
      clear hmap hl1 hO Hml Hk hin hi hTm hTm2
      by_cases hbig : 20000 < P
      · have hbi : (20000 : Int) < (P : Int) := by omega
        have HKn := Lib.hid (known_any (w := wr) (QT.out.next HB1.out).1 (QT.out.next HB1.out).2)
        go_wp2_with fail
        refine HKn.out.mono ?_
        rintro e w9 ⟨rfl, hb9⟩
        have Hb9 := Lib.hid hb9
        clear hb9
        go_wp2_with fail
        go_ret
        exact ⟨rfl, (QB.out.trans (HB1.out.mono (by omega))).trans (Hb9.out.mono (by omega))⟩
      · have hbi : (P : Int) ≤ 20000 := by omega
        have HMx := Lib.hid (show ∃ M, (∀ r ∈ rs, r.2.2.length ≤ M) ∧ M * l.length ≤ 20000 from ⟨T, HTm.out, by rw [← Hqn.out, HPe.out]; omega⟩)
        go_wp2_with fail
        refine (HP.out wr _ _ _ _ _ _ _ ms ((QM.out.next HB1.out)).cut (HM0.out).readsL (HM0.out).2.1 Hmap.out HN1.out HMx.out).mono ?_
        rintro e w41 ⟨A41, n41, k41, rfl, hg41, hb41⟩
        have S41 := Lib.hid hb41
        have z41 : wr.heap.size ≤ w41.heap.size := S41.out.size
        clear hb41
        have G_a := Lib.hid hg41
        clear hg41
        go_wp2_with fail
        refine (HP.out w41 _ _ _ _ _ _ _ ms (((QM.out.next HB1.out)).next S41.out).cut ((HM0.out).next S41.out).readsL ((HM0.out).next S41.out).2.1 Hmap.out HN1.out HMx.out).mono ?_
        rintro e w42 ⟨A42, n42, k42, rfl, hg42, hb42⟩
        have S42 := Lib.hid hb42
        have z42 : w41.heap.size ≤ w42.heap.size := S42.out.size
        clear hb42
        have G_b := Lib.hid hg42
        clear hg42
        go_wp2_with fail
        refine (HRP.out w42 ((((QQ.out.next HB1.out)).next S41.out).next S42.out) ((((QR.out.next HB1.out)).next S41.out).next S42.out) HMx.out).mono ?_
        rintro e w43 ⟨A43, n43, k43, rfl, hg43, hb43⟩
        have S43 := Lib.hid hb43
        have z43 : w42.heap.size ≤ w43.heap.size := S43.out.size
        clear hb43
        have G_c := Lib.hid hg43
        clear hg43
        have FL := Lib.hid ((((HM0.out).next S41.out).next S42.out).next S43.out)
        have FR := Lib.hid (((((QR.out.next HB1.out)).next S41.out).next S42.out).next S43.out)
        go_wp2_with fail
        go_loopg [15] n (fun k iv wx => ∃ (i d : Nat), iv = .int .i64 (i : Int) ∧ k = n - i ∧ i ≤ n ∧ Hid (w43.drewN d = wx))
        case atStart => exact ⟨0, 0, rfl, by omega, by omega, Lib.hid rfl⟩
        case round =>
          obtain ⟨i, d, rfl, hk, hi, hwe⟩ := hrel
          have Hk := Lib.hid hk
          have hwe := hwe.out
          subst hwe
          clear hk
          by_cases hin : i < n
          · have hil : i < rs.length := by rw [← Hn.out]; exact hin
            have him : i < ms.length := by have := Hmn.out; omega
            obtain ⟨ad, hA, hb1, c0⟩ := FR.out.1.at_ hil
            obtain ⟨ad2, hA2, hb2, d0⟩ := FL.out.readsL.at_ him
            subst hA
            subst hA2
            have hrow := FL.out.2.2 _ (List.getElem_mem him)
            have harg := FR.out.1.2 _ (List.getElem_mem hil)
            have hew : rs[i].2.2 = ms[i].2.2 := by
              have h1 := congrArg (fun l => l[i]?) Hmap.out
              simp only [List.getElem?_map, List.getElem?_eq_getElem him, List.getElem?_eq_getElem hil, Option.map_some, Option.some.injEq] at h1
              exact h1.symm
            have hlen := Hls.out _ (List.getElem_mem hil)
            rw [hew] at c0 harg hlen
            have HL := Lib.hid (left_quiet (c := ms[i].2.1) (c' := rs[i].2.1) hrow.1 harg rfl rfl hrow.2.1 (by omega) d)
            have hii : (i : Int) < (n : Int) := by omega
            have hii1 : (i : Int) < (n1 : Int) := by have := HN1.out; have := Hmn.out; omega
            generalize ms[i].2.2.length = q2 at *
            generalize ms[i].1 = a1 at *
            generalize ms[i].2.1 = d1 at *
            generalize rs[i].1 = a2 at *
            generalize rs[i].2.1 = d2 at *
            clear hil him hb1 hb2 hrow harg hew hlen hin
            go_wp2_with (go_quiet ((go_at_call 22; exact HL.out _)))
            go_roundg (n - (i + 1))
            case measure => have := Hk.out; omega
            case rel => exact ⟨i + 1, _, rfl, rfl, by omega, Lib.hid rfl⟩
          · have hii : (n : Int) ≤ (i : Int) := by omega
            have SD := Lib.hid (drewN_below w43 d)
            have zD : w43.heap.size ≤ (w43.drewN d).heap.size := SD.out.size
            clear hin
            go_wp2_with fail
            refine (told_got ((((G_a.out).next S42.out).next S43.out).next SD.out) ((((G_b.out).next S43.out).next SD.out).away (by omega)) (((G_c.out).next SD.out).away (by omega)) rfl rfl ((((G_b.out).next S43.out).next SD.out).len.1) (((G_c.out).next SD.out).len.1) (by have := (((((G_a.out).next S42.out).next S43.out).next SD.out)).len.1; have := HRl.out; omega)).mono ?_
            rintro e w49 ⟨rfl, hb49⟩
            have S49 := Lib.hid hb49
            have z49 : (w43.drewN d).heap.size ≤ w49.heap.size := S49.out.size
            clear hb49
            go_wp2_with fail
            refine (left_any (c' := cq) (((((((QM.out.next HB1.out)).next S41.out).next S42.out).next S43.out).next SD.out).far (S49.out.below (by omega)) (by omega)).1 (((((((QQ.out.next HB1.out)).next S41.out).next S42.out).next S43.out).next SD.out).far (S49.out.below (by omega)) (by omega)).1 Hqn.out Hqn.out (by omega) (by omega)).mono ?_
            rintro e w50 ⟨rfl, hb50⟩
            have S50 := Lib.hid hb50
            have z50 : w49.heap.size ≤ w50.heap.size := S50.out.size
            clear hb50
            go_wp2_with fail
            refine (known_any ((((((((QT.out.next HB1.out)).next S41.out).next S42.out).next S43.out).next SD.out).far (S49.out.below (by omega)) (by omega)).next S50.out).1 ((((((((QT.out.next HB1.out)).next S41.out).next S42.out).next S43.out).next SD.out).far (S49.out.below (by omega)) (by omega)).next S50.out).2).mono ?_
            rintro e w51 ⟨rfl, hb51⟩
            have S51 := Lib.hid hb51
            have z51 : w50.heap.size ≤ w51.heap.size := S51.out.size
            clear hb51
            have BB := Lib.hid (((((((((QB.out.trans (HB1.out.mono (by omega)))).trans (S41.out.mono (by omega))).trans (S42.out.mono (by omega))).trans (S43.out.mono (by omega))).trans (SD.out.mono (by omega))).trans ((S49.out.below (by omega)).mono (by omega))).trans (S50.out.mono (by omega))).trans (S51.out.mono (by omega)))
            go_wp2_with fail
            go_ret
            exact ⟨rfl, BB.out⟩
set_option maxRecDepth 100000 in
set_option maxHeartbeats 8000000 in
theorem put_small {w : World} {B n c q cq : Nat} {A Aq : Option Addr} {rs : List SRow} {l : List Int} (ht : TabX B w) (hq : Rd w B Aq l) (h : RdL w B A rs) (hqn : q = l.length) (hqc : q ≤ cq) (hqm : cq ≤ 9223372036854775807) (hwl : Wf l) (hql : q ≤ 1048576) (hn : n = rs.length) (hc : n ≤ c) (hcm : c ≤ 9223372036854775807) (hnb : n ≤ 1048576) (hw : ∀ r ∈ rs, Wf r.2.2 ∧ r.2.2.length ≤ 1048576) (h70 : n ≤ 70) (hmu : muchN (rs.map (fun r => r.2.2)) ≤ 9000) (hq9 : q ≤ 3000) (hq2 : (q : Int) ≤ 200) :
    Calls Tryd.prog 5 #[.slice Aq q cq, .slice A n c] w (fun e w' => e = .returned (.bool true) ∧ Below w.heap.size w w') := by
  have HM := much_any (c := c) h.1 hn (by omega) (fun r hr => by have := (hw r hr).2; omega)
  have hd : decide ((9000 : Int) < (muchN (rs.map (fun r => r.2.2)) : Nat)) = false := decide_eq_false (by omega)
  rw [hd] at HM
  have HM := Lib.hid HM
  have h70i : (n : Int) ≤ 70 := by omega
  have hd1 : decide ((9000 : Int) < (min q 10000 : Nat)) = false := decide_eq_false (by omega)
  have hd2 : decide ((9000 : Int) < (3 * min q 10000 : Nat)) = false := decide_eq_false (by omega)
  have hsm := muchN_small hmu
  have Hls := Lib.hid (show ∀ r ∈ rs, r.2.2.length ≤ 9000 from fun r hr => hsm.1 _ (List.mem_map.2 ⟨r, hr, rfl⟩))
  obtain ⟨R, hR⟩ : ∃ R, R = putR l (rs.map (fun r => r.2.2)) := ⟨_, rfl⟩
  have HRl := Lib.hid (show R.1.length ≤ 4096 by rw [hR]; exact putR_len _ _)
  have HP := Lib.hid (fun (W : World) (B1 B2 c1 c2 n2 : Nat) (A1 A2 : Option Addr) (rs' : List SRow) (h1 : Rd W B1 A1 l) (h2 : ReadsL W B2 A2 rs') (hB2 : B2 ≤ W.heap.size) (e : rs'.map (fun r => r.2.2) = rs.map (fun r => r.2.2)) (hn2 : n2 = rs'.length) (hM : ∃ M, (∀ r ∈ rs, r.2.2.length ≤ M) ∧ M * l.length ≤ 20000) => show Calls Tryd.prog 36 #[.slice A1 q c1, .slice A2 n2 c2] W (ResOut W R) by
    rw [hR, ← e]
    have hlen : rs'.length = rs.length := by have := congrArg List.length e; simpa using this
    have hmem : ∀ r ∈ rs', ∃ r0 ∈ rs, r0.2.2 = r.2.2 := fun r hr => by
      have : r.2.2 ∈ rs.map (fun r => r.2.2) := by rw [← e]; exact List.mem_map.2 ⟨r, hr, rfl⟩
      obtain ⟨r0, hr0, e0⟩ := List.mem_map.1 this
      exact ⟨r0, hr0, e0⟩
    obtain ⟨M, hM1, hM2⟩ := hM
    exact put_out (B := W.heap.size) (h1.1.more h1.2) (h2.more hB2) (Nat.le_refl _) hqn hn2 (by omega) hwl (by omega) (fun r hr => by
      obtain ⟨r0, hr0, e0⟩ := hmem r hr
      have h3 := hw r0 hr0
      have h4 := hsm.1 _ (List.mem_map.2 ⟨r0, hr0, rfl⟩)
      rw [e0] at h3 h4
      exact ⟨h3.1, by omega⟩) ⟨M, fun r hr => by obtain ⟨r0, hr0, e0⟩ := hmem r hr; rw [← e0]; exact hM1 r0 hr0, hM2⟩)
  have HRP := Lib.hid (fun (W : World) (h1 : Rd W B Aq l) (h2 : RdL W B A rs) (hM : ∃ M, (∀ r ∈ rs, r.2.2.length ≤ M) ∧ M * l.length ≤ 20000) => show Calls Tryd.prog 37 #[.slice Aq q cq, .slice A n c] W (ResOut W R) by
    rw [hR]
    exact rput_out h1.1 h2.1 h1.2 hqn hn (by omega) hwl (by omega) (fun r hr => by have h3 := hw r hr; have h4 := hsm.1 _ (List.mem_map.2 ⟨r, hr, rfl⟩); exact ⟨h3.1, by omega⟩) hM)
  clear hmu hd hsm hR
  have HT := Lib.hid ht
  have HR := Lib.hid h
  have HQ := Lib.hid hq
  have Hn := Lib.hid hn
  have Hqn := Lib.hid hqn
  have Hw := Lib.hid hw
  have hBw : B ≤ w.heap.size := h.2
  clear ht h hn hw hq hqn hwl
  go_enter Tryd.func5, Tryd.ntmps5
  go_wp2_with fail
  refine (HM.out).mono ?_
  rintro e w' ⟨rfl, rfl⟩
  go_wp2_with fail
  refine (much_one (HQ.out) Hqn.out (by omega)).mono ?_
  rintro e w2 ⟨rfl, hb2⟩
  have S2 := Lib.hid hb2
  have z2 : w.heap.size ≤ w2.heap.size := S2.out.size
  clear hb2
  go_wp2_with fail
  refine (lent_rd ((HQ.out).next S2.out) Hqn.out (by omega)).mono ?_
  rintro e w3 ⟨A3, c3, rfl, hc3, hm3, hr3, hb3⟩
  have S3 := Lib.hid hb3
  have z3 : w2.heap.size ≤ w3.heap.size := S3.out.size
  clear hb3
  have G_m := Lib.hid hr3
  clear hr3
  have QM := Lib.hid (G_m.out)
  have QR := Lib.hid (((HR.out).next S2.out).next S3.out)
  have QQ := Lib.hid (((HQ.out).next S2.out).next S3.out)
  have QT := Lib.hid (((HT.out).next S2.out).next S3.out)
  have QB := Lib.hid (show Below w.heap.size w w3 from ((Below.refl w.heap.size w).trans (S2.out.mono (by omega))).trans (S3.out.mono (by omega)))
  have zq : w.heap.size ≤ w3.heap.size := QB.out.size
  go_wp2_with fail
  go_loopg [6, 7, 8] n (fun k mv tv iv wr => ∃ (i n' c' T : Nat) (A' : Option Addr) (ms : List SRow), mv = .slice A' n' c' ∧ tv = .int .i64 (T : Int) ∧ iv = .int .i64 (i : Int) ∧ k = n - i ∧ i ≤ n ∧ T ≤ 9000 ∧ Hid (∀ r ∈ rs.take i, r.2.2.length ≤ T) ∧ Hid (LentOwn wr w3.heap.size (.slice A' n' c') ms ∧ ms.map (fun r => r.2.2) = (rs.take i).map (fun r => r.2.2) ∧ Below w3.heap.size w3 wr))
  case atStart => exact ⟨0, 0, 0, 0, none, [], rfl, rfl, rfl, by omega, by omega, by omega, Lib.hid (fun r hr => by rw [List.take_zero] at hr; cases hr), Lib.hid ⟨⟨OwnL.nil _ _, fun r hr => by cases hr⟩, by rw [List.take_zero], Below.refl _ _⟩⟩
  case round =>
    obtain ⟨i, n1, c1, T, A1, ms, rfl, rfl, rfl, hk, hi, hT, hTm, hO⟩ := hrel
    have Hk := Lib.hid hk
    clear hk
    have hsz := hO.out.2.2.size
    have hml : ms.length = i := by
      have := congrArg List.length hO.out.2.1
      rw [List.length_map, List.length_map, List.length_take, ← Hn.out] at this
      omega
    have Hml := Lib.hid hml
    clear hml
    by_cases hin : i < n
    · have hil : i < rs.length := by rw [← Hn.out]; exact hin
      have hrr := QR.out.1.below (hO.out.2.2.mono QR.out.2)
      obtain ⟨ad, rfl, hb1, c00⟩ := QR.out.1.at_ hil
      have HC := Lib.hid (fun (w' : World) (hb : Below w3.heap.size w3 w') => show w'.cell? (ad.add i) = some (.slice rs[i].1 rs[i].2.2.length rs[i].2.1) from (hb.cell (by rw [block_of_add]; have := QR.out.2; omega)).trans c00)
      have c0 := HC.out wr hO.out.2.2
      clear c00
      have Hrow := Lib.hid (show Rd wr B rs[i].1 rs[i].2.2 from ⟨hrr.2 rs[i] (List.getElem_mem hil), by omega⟩)
      have Hst := Lib.hid (show (rs.take (i + 1)).map (fun r => r.2.2) = (rs.take i).map (fun r => r.2.2) ++ [rs[i].2.2] by rw [List.take_succ_eq_append_getElem hil, List.map_append]; rfl)
      have Htk := Lib.hid (show rs.take (i + 1) = rs.take i ++ [rs[i]] from List.take_succ_eq_append_getElem hil)
      have hlen := Hls.out rs[i] (List.getElem_mem hil)
      have hii : (i : Int) < (n : Int) := by omega
      obtain ⟨r0, hr0⟩ : ∃ r0, r0 = rs[i] := ⟨_, rfl⟩
      rw [← hr0] at c0 HC Hrow Hst hlen Htk
      have HLe := Lib.hid (lent_any (c := r0.2.1) Hrow.out.1 Hrow.out.2 rfl (by omega))
      have Hnext := Lib.hid (show ∀ r ∈ rs.take (i + 1), r.2.2.length ≤ max T r0.2.2.length from fun r hr => by
        rw [Htk.out] at hr
        rcases List.mem_append.1 hr with hr | hr
        · have := hTm.out r hr; omega
        · rw [List.mem_singleton.1 hr]; omega)
      obtain ⟨a1, d1, l1⟩ := r0
      clear hil hb1 hrr hr0
      dsimp only at *
      go_wp2_with fail
      refine HLe.out.mono ?_
      rintro e w2 ⟨A2, c2, rfl, hc2, ho2, hb2⟩
      have H2 := Lib.hid (And.intro ho2 (And.intro hb2 (And.intro hc2 ho2.len.2.2)))
      have hs2 := hb2.size
      clear ho2 hb2 hc2
      go_wp2_with (refine wpL_append rfl (.tmp 49) (.tmp 55) rfl w3.heap.size _ ms [(A2, c2, l1)] ((hO.out.1.1.kept H2.out.2.1).alloc _) rfl rfl rfl (reads_singleL _ (A2, c2, l1)) (by have := Hml.out; omega) (by simp) (by simp; omega) ?_; intro A3 n3 c3 w3 ho3 hn3 hc3 hg3 hb3; have H3 := Lib.hid (And.intro (hO.out.1.step (r := (A2, c2, l1)) H2.out.2.1 hsz H2.out.1 H2.out.2.2 ho3 hg3) (hb3 _ ((hO.out.2.2.trans (H2.out.2.1.mono hsz)).alloc (by omega) _))); have c3' := HC.out w3 H3.out.2; clear ho3 hn3 hc3 hg3 hb3)
      go_roundg (n - (i + 1))
      case measure => have := Hk.out; omega
      case rel => exact ⟨i + 1, n3, c3, max T l1.length, A3, ms ++ [(A2, c2, l1)], rfl, by congr 1; omega, rfl, rfl, by omega, by omega, Hnext, Lib.hid ⟨H3.out.1, by rw [List.map_append, hO.out.2.1, Hst.out]; rfl, H3.out.2⟩⟩
    · have hii : (n : Int) ≤ (i : Int) := by omega
      have hTm2 : ∀ r ∈ rs, r.2.2.length ≤ T := fun r hr => hTm.out r (by rw [List.take_of_length_le (by have := Hn.out; omega)]; exact hr)
      have HTm := Lib.hid hTm2
      have hmap : ms.map (fun r => r.2.2) = rs.map (fun r => r.2.2) := by rw [hO.out.2.1, List.take_of_length_le (by have := Hn.out; omega)]
      have Hmap := Lib.hid hmap
      have HB1 := Lib.hid hO.out.2.2
      have hl1 := hO.out.1.lent
      have HM0 := Lib.hid hl1.1
      have HN1 := Lib.hid hl1.2
      have Hmn := Lib.hid (show ms.length = n by have := Hml.out; omega)
      obtain ⟨P, hP⟩ : ∃ P : Nat, (T : Int) * (q : Int) = (P : Int) := ⟨T * q, by rw [Int.natCast_mul]⟩
      have hPb : P ≤ 27000000 := by
        have h1 : T * q ≤ 9000 * 3000 := Nat.mul_le_mul hT hq9
        have h2 : ((T * q : Nat) : Int) = (P : Int) := by rw [Int.natCast_mul]; exact hP
        omega
      have hPw : IntKind.i64.wrap (P : Int) = (P : Int) := by rw [IntKind.wrap_i64]; omega
      have HPe := Lib.hid (show T * q = P by have h2 : ((T * q : Nat) : Int) = (P : Int) := by rw [Int.natCast_mul]; exact hP
                                             omega)
      clear hmap hl1 hO Hml Hk hin hi hTm hTm2
      by_cases hbig : 20000 < P
      · have hbi : (20000 : Int) < (P : Int) := by omega
        have HKn := Lib.hid (known_any (w := wr) (QT.out.next HB1.out).1 (QT.out.next HB1.out).2)
        go_wp2_with fail
        refine HKn.out.mono ?_
        rintro e w9 ⟨rfl, hb9⟩
        have Hb9 := Lib.hid hb9
        clear hb9
        go_wp2_with fail
        go_ret
        exact ⟨rfl, (QB.out.trans (HB1.out.mono (by omega))).trans (Hb9.out.mono (by omega))⟩
      · have hbi : (P : Int) ≤ 20000 := by omega
        have HMx := Lib.hid (show ∃ M, (∀ r ∈ rs, r.2.2.length ≤ M) ∧ M * l.length ≤ 20000 from ⟨T, HTm.out, by rw [← Hqn.out, HPe.out]; omega⟩)
        go_wp2_with fail
        refine (HP.out wr _ _ _ _ _ _ _ ms ((QM.out.next HB1.out)).cut (HM0.out).readsL (HM0.out).2.1 Hmap.out HN1.out HMx.out).mono ?_
        rintro e w41 ⟨A41, n41, k41, rfl, hg41, hb41⟩
        have S41 := Lib.hid hb41
        have z41 : wr.heap.size ≤ w41.heap.size := S41.out.size
        clear hb41
        have G_a := Lib.hid hg41
        clear hg41
        go_wp2_with fail
        refine (HP.out w41 _ _ _ _ _ _ _ ms (((QM.out.next HB1.out)).next S41.out).cut ((HM0.out).next S41.out).readsL ((HM0.out).next S41.out).2.1 Hmap.out HN1.out HMx.out).mono ?_
        rintro e w42 ⟨A42, n42, k42, rfl, hg42, hb42⟩
        have S42 := Lib.hid hb42
        have z42 : w41.heap.size ≤ w42.heap.size := S42.out.size
        clear hb42
        have G_b := Lib.hid hg42
        clear hg42
        go_wp2_with fail
        refine (HRP.out w42 ((((QQ.out.next HB1.out)).next S41.out).next S42.out) ((((QR.out.next HB1.out)).next S41.out).next S42.out) HMx.out).mono ?_
        rintro e w43 ⟨A43, n43, k43, rfl, hg43, hb43⟩
        have S43 := Lib.hid hb43
        have z43 : w42.heap.size ≤ w43.heap.size := S43.out.size
        clear hb43
        have G_c := Lib.hid hg43
        clear hg43
        have FL := Lib.hid ((((HM0.out).next S41.out).next S42.out).next S43.out)
        have FR := Lib.hid (((((QR.out.next HB1.out)).next S41.out).next S42.out).next S43.out)
        go_wp2_with fail
        go_loopg [15] n (fun k iv wx => ∃ (i d : Nat), iv = .int .i64 (i : Int) ∧ k = n - i ∧ i ≤ n ∧ Hid (w43.drewN d = wx))
        case atStart => exact ⟨0, 0, rfl, by omega, by omega, Lib.hid rfl⟩
        case round =>
          obtain ⟨i, d, rfl, hk, hi, hwe⟩ := hrel
          have Hk := Lib.hid hk
          have hwe := hwe.out
          subst hwe
          clear hk
          by_cases hin : i < n
          · have hil : i < rs.length := by rw [← Hn.out]; exact hin
            have him : i < ms.length := by have := Hmn.out; omega
            obtain ⟨ad, hA, hb1, c0⟩ := FR.out.1.at_ hil
            obtain ⟨ad2, hA2, hb2, d0⟩ := FL.out.readsL.at_ him
            subst hA
            subst hA2
            have hrow := FL.out.2.2 _ (List.getElem_mem him)
            have harg := FR.out.1.2 _ (List.getElem_mem hil)
            have hew : rs[i].2.2 = ms[i].2.2 := by
              have h1 := congrArg (fun l => l[i]?) Hmap.out
              simp only [List.getElem?_map, List.getElem?_eq_getElem him, List.getElem?_eq_getElem hil, Option.map_some, Option.some.injEq] at h1
              exact h1.symm
            have hlen := Hls.out _ (List.getElem_mem hil)
            rw [hew] at c0 harg hlen
            have HL := Lib.hid (left_quiet (c := ms[i].2.1) (c' := rs[i].2.1) hrow.1 harg rfl rfl hrow.2.1 (by omega) d)
            have hii : (i : Int) < (n : Int) := by omega
            have hii1 : (i : Int) < (n1 : Int) := by have := HN1.out; have := Hmn.out; omega
            generalize ms[i].2.2.length = q2 at *
            generalize ms[i].1 = a1 at *
            generalize ms[i].2.1 = d1 at *
            generalize rs[i].1 = a2 at *
            generalize rs[i].2.1 = d2 at *
            clear hil him hb1 hb2 hrow harg hew hlen hin
            go_wp2_with (go_quiet ((go_at_call 22; exact HL.out _)))
            go_roundg (n - (i + 1))
            case measure => have := Hk.out; omega
            case rel => exact ⟨i + 1, _, rfl, rfl, by omega, Lib.hid rfl⟩
          · have hii : (n : Int) ≤ (i : Int) := by omega
            have SD := Lib.hid (drewN_below w43 d)
            have zD : w43.heap.size ≤ (w43.drewN d).heap.size := SD.out.size
            clear hin
            go_wp2_with fail
            refine (told_got ((((G_a.out).next S42.out).next S43.out).next SD.out) ((((G_b.out).next S43.out).next SD.out).away (by omega)) (((G_c.out).next SD.out).away (by omega)) rfl rfl ((((G_b.out).next S43.out).next SD.out).len.1) (((G_c.out).next SD.out).len.1) (by have := (((((G_a.out).next S42.out).next S43.out).next SD.out)).len.1; have := HRl.out; omega)).mono ?_
            rintro e w49 ⟨rfl, hb49⟩
            have S49 := Lib.hid hb49
            have z49 : (w43.drewN d).heap.size ≤ w49.heap.size := S49.out.size
            clear hb49
            go_wp2_with fail
            refine (left_any (c' := cq) (((((((QM.out.next HB1.out)).next S41.out).next S42.out).next S43.out).next SD.out).far (S49.out.below (by omega)) (by omega)).1 (((((((QQ.out.next HB1.out)).next S41.out).next S42.out).next S43.out).next SD.out).far (S49.out.below (by omega)) (by omega)).1 Hqn.out Hqn.out (by omega) (by omega)).mono ?_
            rintro e w50 ⟨rfl, hb50⟩
            have S50 := Lib.hid hb50
            have z50 : w49.heap.size ≤ w50.heap.size := S50.out.size
            clear hb50
            go_wp2_with fail
            refine (known_any ((((((((QT.out.next HB1.out)).next S41.out).next S42.out).next S43.out).next SD.out).far (S49.out.below (by omega)) (by omega)).next S50.out).1 ((((((((QT.out.next HB1.out)).next S41.out).next S42.out).next S43.out).next SD.out).far (S49.out.below (by omega)) (by omega)).next S50.out).2).mono ?_
            rintro e w51 ⟨rfl, hb51⟩
            have S51 := Lib.hid hb51
            have z51 : w50.heap.size ≤ w51.heap.size := S51.out.size
            clear hb51
            have BB := Lib.hid (((((((((QB.out.trans (HB1.out.mono (by omega)))).trans (S41.out.mono (by omega))).trans (S42.out.mono (by omega))).trans (S43.out.mono (by omega))).trans (SD.out.mono (by omega))).trans ((S49.out.below (by omega)).mono (by omega))).trans (S50.out.mono (by omega))).trans (S51.out.mono (by omega)))
            go_wp2_with fail
            go_ret
            exact ⟨rfl, BB.out⟩
end Go.Proofs.YtmjnhpagoboejaaDoor
