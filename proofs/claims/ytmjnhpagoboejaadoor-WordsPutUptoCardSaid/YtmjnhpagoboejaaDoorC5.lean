import Derived.Test.YtmjnhpagoboejaaDoorC3
import Derived.Test.YtmjnhpagoboejaaDoorC4
/- law.WordsProducts (printed by gen_prod.py). -/
namespace Go.Proofs.YtmjnhpagoboejaaDoor
open Go.RowKit
open Wd
set_option linter.unusedSimpArgs false
set_option linter.unusedVariables false

theorem muchN_small {ls : List (List Int)} (h : muchN ls ≤ 9000) : (∀ l ∈ ls, l.length ≤ 9000) ∧ ls.flatten.length ≤ 9000 := by
  have hk : ∀ (ls : List (List Int)), muchN ls ≤ 9000 → (∀ l ∈ ls, l.length ≤ 9000) ∧ ls.flatten.length = muchN ls := by
    intro ls
    induction ls with
    | nil => intro _; exact ⟨(fun l hl => by cases hl), rfl⟩
    | cons x r ih =>
      intro h
      have e : muchN (x :: r) = min x.length 10000 + muchN r := by simp [muchN]
      rw [e] at h
      obtain ⟨h1, h2⟩ := ih (by omega)
      refine ⟨fun l hl => ?_, ?_⟩
      · rcases List.mem_cons.1 hl with rfl | hl
        · omega
        · exact h1 l hl
      · rw [List.flatten_cons, List.length_append, h2, e]; omega
  obtain ⟨h1, h2⟩ := hk ls h
  exact ⟨h1, by omega⟩
theorem ended_len (L : List Int) : (ended L).1.length ≤ 4096 := by
  unfold ended
  by_cases h : L.length ≤ 4096
  · rw [if_pos h]; exact h
  · rw [if_neg h]; exact Nat.zero_le _
theorem mulR_len (ls : List (List Int)) : (mulR ls).1.length ≤ 4096 := by
  unfold mulR
  split
  · exact ended_len _
  · exact Nat.zero_le _
theorem powR_len (l : List Int) (x : Int) : (powR l x).1.length ≤ 4096 := by
  unfold powR
  split
  · exact ended_len _
  · exact Nat.zero_le _
theorem conjR_len (a b : List Int) : (conjR a b).1.length ≤ 4096 := by
  unfold conjR
  split
  · exact ended_len _
  · exact Nat.zero_le _
def WordP (w : World) (B : Nat) (v : Value) (l : List Int) : Prop := ∃ A n c, v = .slice A n c ∧ Rd w B A l ∧ n = l.length ∧ n ≤ c ∧ c ≤ 9223372036854775807 ∧ Wf l ∧ l.length ≤ 9000
set_option maxRecDepth 100000 in
set_option maxHeartbeats 8000000 in
theorem prod_many {w : World} {B n c : Nat} {A : Option Addr} {rs : List SRow} {x : Int} (ht : TabX B w) (h : RdL w B A rs) (hn : n = rs.length) (hc : n ≤ c) (hcm : c ≤ 9223372036854775807) (hx1 : -9223372036854775808 ≤ x) (hx2 : x ≤ 9223372036854775807) (hw : ∀ r ∈ rs, Wf r.2.2 ∧ r.2.2.length ≤ 1048576) (h50 : 50 < n) :
    Calls Tryd.prog 4 #[.slice A n c, .int .i64 x] w (fun e w' => e = .returned (.bool true) ∧ Below w.heap.size w w') := by
  have h50i : (50 : Int) < (n : Int) := by omega
  have HT := Lib.hid ht
  have HR := Lib.hid h
  have Hn := Lib.hid hn
  have Hw := Lib.hid hw
  have hBw : B ≤ w.heap.size := h.2
  clear ht h hn hw
  go_enter Tryd.func4, Tryd.ntmps4
  go_wp2_with fail
  refine (known_any (HT.out).1 (HT.out).2).mono ?_
  rintro e w1 ⟨rfl, hb1⟩
  have S1 := Lib.hid hb1
  have z1 : w.heap.size ≤ w1.heap.size := S1.out.size
  clear hb1
  go_wp2_with fail
  go_ret
  exact ⟨rfl, S1.out⟩
set_option maxRecDepth 100000 in
set_option maxHeartbeats 8000000 in
theorem prod_much {w : World} {B n c : Nat} {A : Option Addr} {rs : List SRow} {x : Int} (ht : TabX B w) (h : RdL w B A rs) (hn : n = rs.length) (hc : n ≤ c) (hcm : c ≤ 9223372036854775807) (hx1 : -9223372036854775808 ≤ x) (hx2 : x ≤ 9223372036854775807) (hw : ∀ r ∈ rs, Wf r.2.2 ∧ r.2.2.length ≤ 1048576) (h50 : n ≤ 50) (hmu : 9000 < muchN (rs.map (fun r => r.2.2))) :
    Calls Tryd.prog 4 #[.slice A n c, .int .i64 x] w (fun e w' => e = .returned (.bool true) ∧ Below w.heap.size w w') := by
  have HM := much_any (c := c) h.1 hn (by omega) (fun r hr => by have := (hw r hr).2; omega)
  have hd : decide ((9000 : Int) < (muchN (rs.map (fun r => r.2.2)) : Nat)) = true := decide_eq_true (by omega)
  rw [hd] at HM
  have HM := Lib.hid HM
  have h50i : (n : Int) ≤ 50 := by omega
  clear hmu hd
  have HT := Lib.hid ht
  have HR := Lib.hid h
  have Hn := Lib.hid hn
  have Hw := Lib.hid hw
  have hBw : B ≤ w.heap.size := h.2
  clear ht h hn hw
  go_enter Tryd.func4, Tryd.ntmps4
  go_wp2_with fail
  refine (HM.out).mono ?_
  rintro e w' ⟨rfl, rfl⟩
  go_wp2_with fail
  refine (known_any (HT.out).1 (HT.out).2).mono ?_
  rintro e w2 ⟨rfl, hb2⟩
  have S2 := Lib.hid hb2
  have z2 : w.heap.size ≤ w2.heap.size := S2.out.size
  clear hb2
  go_wp2_with fail
  go_ret
  exact ⟨rfl, S2.out⟩
set_option maxRecDepth 100000 in
set_option maxHeartbeats 8000000 in
theorem prod_main {w : World} {B n c : Nat} {A : Option Addr} {rs : List SRow} {x : Int} (ht : TabX B w) (h : RdL w B A rs) (hn : n = rs.length) (hc : n ≤ c) (hcm : c ≤ 9223372036854775807) (hx1 : -9223372036854775808 ≤ x) (hx2 : x ≤ 9223372036854775807) (hw : ∀ r ∈ rs, Wf r.2.2 ∧ r.2.2.length ≤ 1048576) (h50 : n ≤ 50) (hmu : muchN (rs.map (fun r => r.2.2)) ≤ 9000) :
    Calls Tryd.prog 4 #[.slice A n c, .int .i64 x] w (fun e w' => e = .returned (.bool true) ∧ Below w.heap.size w w') := by
  have HM := much_any (c := c) h.1 hn (by omega) (fun r hr => by have := (hw r hr).2; omega)
  have hd : decide ((9000 : Int) < (muchN (rs.map (fun r => r.2.2)) : Nat)) = false := decide_eq_false (by omega)
  rw [hd] at HM
  have HM := Lib.hid HM
  have h50i : (n : Int) ≤ 50 := by omega
  have hsm := muchN_small hmu
  have Hls := Lib.hid (show ∀ r ∈ rs, r.2.2.length ≤ 9000 from fun r hr => hsm.1 _ (List.mem_map.2 ⟨r, hr, rfl⟩))
  obtain ⟨R1, hR1⟩ : ∃ R, R = mulR (rs.map (fun r => r.2.2)) := ⟨_, rfl⟩
  have hfl : (flat rs).length ≤ 9000 := by rw [flat_flatten]; exact hsm.2
  have HR1l := Lib.hid (show R1.1.length ≤ 4096 by rw [hR1]; exact mulR_len _)
  have HMu := Lib.hid (fun (W : World) (B' n' c' : Nat) (A' : Option Addr) (rs' : List SRow) (h' : ReadsL W B' A' rs') (hB' : B' ≤ W.heap.size) (e : rs'.map (fun r => r.2.2) = rs.map (fun r => r.2.2)) (hn' : n' = rs'.length) => show Calls Tryd.prog 30 #[.slice A' n' c'] W (ResOut W R1) by
    rw [hR1, ← e]
    have hlen : rs'.length = rs.length := by have := congrArg List.length e; simpa using this
    exact mul_out h' hB' hn' (by rw [flat_flatten, e, ← flat_flatten]; omega) (by omega) (fun r hr => by
      have : r.2.2 ∈ rs.map (fun r => r.2.2) := by rw [← e]; exact List.mem_map.2 ⟨r, hr, rfl⟩
      obtain ⟨r0, hr0, e0⟩ := List.mem_map.1 this
      have := hw r0 hr0
      rw [e0] at this
      exact ⟨this.1, by omega⟩))
  have HRMu := Lib.hid (fun (W : World) (h' : ReadsL W B A rs) (hB' : B ≤ W.heap.size) => show Calls Tryd.prog 31 #[.slice A n c] W (ResOut W R1) by
    rw [hR1]
    exact rmul_out h' hB' hn (by omega) (by omega) (fun r hr => by have := hw r hr; exact ⟨this.1, by omega⟩))
  clear hmu hd hsm hR1 hfl
  have HT := Lib.hid ht
  have HR := Lib.hid h
  have Hn := Lib.hid hn
  have Hw := Lib.hid hw
  have hBw : B ≤ w.heap.size := h.2
  clear ht h hn hw
  go_enter Tryd.func4, Tryd.ntmps4
  go_wp2_with fail
  refine HM.out.mono ?_
  rintro e w' ⟨rfl, rfl⟩
  go_wp2_with fail
  go_loopg [5, 6] n (fun k mv iv wr => ∃ (i n' c' : Nat) (A' : Option Addr) (ms : List SRow), mv = .slice A' n' c' ∧ iv = .int .i64 (i : Int) ∧ k = n - i ∧ i ≤ n ∧ Hid (LentOwn wr w.heap.size (.slice A' n' c') ms ∧ ms.map (fun r => r.2.2) = (rs.take i).map (fun r => r.2.2) ∧ Below w.heap.size w wr))
  case atStart => exact ⟨0, 0, 0, none, [], rfl, rfl, by omega, by omega, Lib.hid ⟨⟨OwnL.nil _ _, fun r hr => by cases hr⟩, by rw [List.take_zero], Below.refl _ _⟩⟩
  case round =>
    obtain ⟨i, n1, c1, A1, ms, rfl, rfl, hk, hi, hO⟩ := hrel
    have Hk := Lib.hid hk
    clear hk
    have hsz := hO.out.2.2.size
    have hml : ms.length = i := by
      have := congrArg List.length hO.out.2.1
      rw [List.length_map, List.length_map, List.length_take, ← Hn.out] at this
      omega
    have Hml := Lib.hid hml
    clear hml
    by_cases hin : i < n
    · have hil : i < rs.length := by rw [← Hn.out]; exact hin
      have hrr := HR.out.1.below (hO.out.2.2.mono hBw)
      obtain ⟨ad, rfl, hb1, c0⟩ := hrr.at_ hil
      have Hrow := Lib.hid (show Rd wr B rs[i].1 rs[i].2.2 from ⟨hrr.2 rs[i] (List.getElem_mem hil), by omega⟩)
      have Hst := Lib.hid (show (rs.take (i + 1)).map (fun r => r.2.2) = (rs.take i).map (fun r => r.2.2) ++ [rs[i].2.2] by rw [List.take_succ_eq_append_getElem hil, List.map_append]; rfl)
      have hlen := Hls.out rs[i] (List.getElem_mem hil)
      have hii : (i : Int) < (n : Int) := by omega
      obtain ⟨l, hl⟩ : ∃ l, l = rs[i].2.2 := ⟨_, rfl⟩
      rw [← hl] at c0 Hrow Hst hlen
      generalize rs[i].1 = a1 at *
      generalize rs[i].2.1 = d1 at *
      have HLe := Lib.hid (lent_any (c := d1) Hrow.out.1 Hrow.out.2 rfl (by omega))
      clear hil hb1 hl hrr
      go_wp2_with fail
      refine HLe.out.mono ?_
      rintro e w2 ⟨A2, c2, rfl, hc2, ho2, hb2⟩
      have H2 := Lib.hid (And.intro ho2 (And.intro hb2 (And.intro hc2 ho2.len.2.2)))
      have hs2 := hb2.size
      clear ho2 hb2 hc2
      go_wp2_with (refine wpL_append rfl (.tmp 30) (.tmp 36) rfl w.heap.size _ ms [(A2, c2, l)] ((hO.out.1.1.kept H2.out.2.1).alloc _) rfl rfl rfl (reads_singleL _ (A2, c2, l)) (by have := Hml.out; omega) (by simp) (by simp; omega) ?_; intro A3 n3 c3 w3 ho3 hn3 hc3 hg3 hb3; have H3 := Lib.hid (And.intro (hO.out.1.step (r := (A2, c2, l)) H2.out.2.1 hsz H2.out.1 H2.out.2.2 ho3 hg3) (hb3 _ ((hO.out.2.2.trans (H2.out.2.1.mono hsz)).alloc (by omega) _))); clear ho3 hn3 hc3 hg3 hb3)
      go_roundg (n - (i + 1))
      case measure => have := Hk.out; omega
      case rel => exact ⟨i + 1, n3, c3, A3, ms ++ [(A2, c2, l)], rfl, rfl, rfl, by omega, Lib.hid ⟨H3.out.1, by rw [List.map_append, hO.out.2.1, Hst.out]; rfl, H3.out.2⟩⟩
    · have hii : (n : Int) ≤ (i : Int) := by omega
      have hmap : ms.map (fun r => r.2.2) = rs.map (fun r => r.2.2) := by rw [hO.out.2.1, List.take_of_length_le (by have := Hn.out; omega)]
      have Hmap := Lib.hid hmap
      have HB1 := Lib.hid hO.out.2.2
      have hl1 := hO.out.1.lent
      have HM0 := Lib.hid hl1.1
      have HN1 := Lib.hid hl1.2
      have Hmn := Lib.hid (show ms.length = n by have := Hml.out; omega)
      clear hmap hl1 hO Hml Hk hin hi
      go_wp2_with fail
      refine (HMu.out wr _ _ _ _ _ (HM0.out).readsL (HM0.out).2.1 Hmap.out HN1.out).mono ?_
      rintro e w11 ⟨A11, n11, k11, rfl, hg11, hb11⟩
      have S11 := Lib.hid hb11
      have z11 : wr.heap.size ≤ w11.heap.size := S11.out.size
      clear hb11
      have G_a := Lib.hid hg11
      clear hg11
      go_wp2_with fail
      refine (HMu.out w11 _ _ _ _ _ ((HM0.out).next S11.out).readsL ((HM0.out).next S11.out).2.1 Hmap.out HN1.out).mono ?_
      rintro e w12 ⟨A12, n12, k12, rfl, hg12, hb12⟩
      have S12 := Lib.hid hb12
      have z12 : w11.heap.size ≤ w12.heap.size := S12.out.size
      clear hb12
      have G_b := Lib.hid hg12
      clear hg12
      go_wp2_with fail
      refine (HRMu.out w12 ((((HR.out.next HB1.out)).next S11.out).next S12.out).1 ((((HR.out.next HB1.out)).next S11.out).next S12.out).2).mono ?_
      rintro e w13 ⟨A13, n13, k13, rfl, hg13, hb13⟩
      have S13 := Lib.hid hb13
      have z13 : w12.heap.size ≤ w13.heap.size := S13.out.size
      clear hb13
      have G_c := Lib.hid hg13
      clear hg13
      go_wp2_with fail
      refine (told_got (((G_a.out).next S12.out).next S13.out) (((G_b.out).next S13.out).away (by omega)) ((G_c.out).away (by omega)) rfl rfl (((G_b.out).next S13.out).len.1) ((G_c.out).len.1) (by have := ((((G_a.out).next S12.out).next S13.out)).len.1; have := HR1l.out; omega)).mono ?_
      rintro e w14 ⟨rfl, hb14⟩
      have S14 := Lib.hid hb14
      have z14 : w13.heap.size ≤ w14.heap.size := S14.out.size
      clear hb14
      have QM := Lib.hid (((((HM0.out).next S11.out).next S12.out).next S13.out).far (S14.out.below (by omega)) (by omega))
      have QR := Lib.hid ((((((HR.out.next HB1.out)).next S11.out).next S12.out).next S13.out).far (S14.out.below (by omega)) (by omega))
      have QT := Lib.hid ((((((HT.out.next HB1.out)).next S11.out).next S12.out).next S13.out).far (S14.out.below (by omega)) (by omega))
      have QB := Lib.hid (show Below w.heap.size w w14 from ((((HB1.out).trans (S11.out.mono (by omega))).trans (S12.out.mono (by omega))).trans (S13.out.mono (by omega))).trans ((S14.out.below (by omega)).mono (by omega)))
      have zq : w.heap.size ≤ w14.heap.size := QB.out.size
      clear G_a G_b G_c HM0
      go_upto_if 62 with fail
      go_cut [13, 14] from 63 to 71 (fun u v wx => Hid (∃ lw lb, WordP w14 w14.heap.size u lw ∧ WordP w14 w14.heap.size v lb) ∧ Hid (w14 = wx))
      case first =>
        rcases Nat.eq_zero_or_pos n with h0 | h0
        · subst h0
          go_wp2_with fail
          go_meet
          exact ⟨Lib.hid ⟨[], [], ⟨none, 0, 0, rfl, ⟨ReadsI.none_ _ _ _, Nat.le_refl _⟩, rfl, Nat.le_refl _, by decide, (fun k hk => by cases hk), by decide⟩, ⟨none, 0, 0, rfl, ⟨ReadsI.none_ _ _ _, Nat.le_refl _⟩, rfl, Nat.le_refl _, by decide, (fun k hk => by cases hk), by decide⟩⟩, Lib.hid rfl⟩
        · have hword : ∀ j (hj : j < ms.length), Wf ms[j].2.2 ∧ ms[j].2.2.length ≤ 9000 := fun j hj => by
            have hm : ms[j].2.2 ∈ rs.map (fun r => r.2.2) := by rw [← Hmap.out]; exact List.mem_map.2 ⟨_, List.getElem_mem hj, rfl⟩
            obtain ⟨r0, hr0, e0⟩ := List.mem_map.1 hm
            have h1 := (Hw.out r0 hr0).1
            have h2 := Hls.out r0 hr0
            rw [e0] at h1 h2
            exact ⟨h1, h2⟩
          have j0 : 0 < ms.length := by have := Hmn.out; omega
          have j1 : n - 1 < ms.length := by have := Hmn.out; omega
          obtain ⟨ad, hA, hb0, d0⟩ := QM.out.readsL.at_ j0
          obtain ⟨ad2, hA2, hb2, d1⟩ := QM.out.readsL.at_ j1
          rw [hA] at hA2
          injection hA2 with hA2
          subst hA2
          subst hA
          rw [Addr.add_zero'] at d0
          have HW0 := Lib.hid (show WordP w14 w14.heap.size (.slice ms[0].1 ms[0].2.2.length ms[0].2.1) ms[0].2.2 from ⟨_, _, _, rfl, ⟨(QM.out.readsL.2 _ (List.getElem_mem j0)).more QM.out.2.1, Nat.le_refl _⟩, rfl, by have := (QM.out.2.2 _ (List.getElem_mem j0)).2; omega, (QM.out.2.2 _ (List.getElem_mem j0)).2.2, (hword 0 j0).1, (hword 0 j0).2⟩)
          have HW1 := Lib.hid (show WordP w14 w14.heap.size (.slice ms[n - 1].1 ms[n - 1].2.2.length ms[n - 1].2.1) ms[n - 1].2.2 from ⟨_, _, _, rfl, ⟨(QM.out.readsL.2 _ (List.getElem_mem j1)).more QM.out.2.1, Nat.le_refl _⟩, rfl, by have := (QM.out.2.2 _ (List.getElem_mem j1)).2; omega, (QM.out.2.2 _ (List.getElem_mem j1)).2.2, (hword (n - 1) j1).1, (hword (n - 1) j1).2⟩)
          have hm1 : n1 = n := by have := HN1.out; have := Hmn.out; omega
          subst hm1
          have hi1 : (0 : Int) < (n1 : Int) := by omega
          have s1 : ((n1 : Int) - 1).toNat = n1 - 1 := by omega
          generalize ms[0].2.2.length = q0 at *
          generalize ms[n1 - 1].2.2.length = q1 at *
          generalize ms[0].1 = a0 at *
          generalize ms[0].2.1 = e0 at *
          generalize ms[0].2.2 = l0 at *
          generalize ms[n1 - 1].1 = a1 at *
          generalize ms[n1 - 1].2.1 = e1 at *
          generalize ms[n1 - 1].2.2 = l1 at *
          clear hword hb0 hb2 j0 j1
          go_wp2_with fail
          go_meet
          exact ⟨Lib.hid ⟨_, _, HW0.out, HW1.out⟩, Lib.hid rfl⟩
      case rest =>
        obtain ⟨hwords, hwe⟩ := hcut
        have hwe := hwe.out
        subst hwe
        obtain ⟨lw, lb, ⟨Aw, nw, cw, rfl, hrw, hnw, hncw, hcw, hww, hlw⟩, ⟨Ab, nb, cb, rfl, hrb, hnb, hncb, hcb, hwb, hlb⟩⟩ := hwords.out
        have HRw := Lib.hid (And.intro hrw hrb)
        have HNw := Lib.hid (And.intro hnw hnb)
        have hnw9 : nw ≤ 9000 := by omega
        have hnb9 : nb ≤ 9000 := by omega
        obtain ⟨R2, hR2⟩ : ∃ R, R = powR lw x := ⟨_, rfl⟩
        obtain ⟨R3, hR3⟩ : ∃ R, R = conjR lw lb := ⟨_, rfl⟩
        have HR2l := Lib.hid (show R2.1.length ≤ 4096 by rw [hR2]; exact powR_len _ _)
        have HR3l := Lib.hid (show R3.1.length ≤ 4096 by rw [hR3]; exact conjR_len _ _)
        have HP := Lib.hid (fun (W : World) {B' : Nat} (h : Rd W B' Aw lw) => show Calls Tryd.prog 32 #[.slice Aw nw cw, .int .i64 x] W (ResOut W R2) by rw [hR2]; exact pow_out h.1 h.2 hnw hx1 hx2 hww (by omega))
        have HRP := Lib.hid (fun (W : World) {B' : Nat} (h : Rd W B' Aw lw) => show Calls Tryd.prog 33 #[.slice Aw nw cw, .int .i64 x] W (ResOut W R2) by rw [hR2]; exact rpow_out h.1 h.2 hnw hx1 hx2 hww (by omega))
        have HC := Lib.hid (fun (W : World) {B' B2 : Nat} (h : Rd W B' Aw lw) (h2 : Rd W B2 Ab lb) => show Calls Tryd.prog 34 #[.slice Aw nw cw, .slice Ab nb cb] W (ResOut W R3) by rw [hR3]; exact conj_out (h.1.more h.2) (h2.1.more h2.2) (Nat.le_refl _) hnw hnb hww hwb (by omega) (by omega))
        have HRC := Lib.hid (fun (W : World) {B' B2 : Nat} (h : Rd W B' Aw lw) (h2 : Rd W B2 Ab lb) => show Calls Tryd.prog 35 #[.slice Aw nw cw, .slice Ab nb cb] W (ResOut W R3) by rw [hR3]; exact rconj_out (h.1.more h.2) (h2.1.more h2.2) (Nat.le_refl _) hnw hnb hww hwb (by omega) (by omega))
        clear hwords hrw hrb hnw hnb hww hwb hlw hlb hR2 hR3
        go_wp2_with fail
        refine (HP.out w14 (HRw.out.1)).mono ?_
        rintro e w25 ⟨A25, n25, k25, rfl, hg25, hb25⟩
        have S25 := Lib.hid hb25
        have z25 : w14.heap.size ≤ w25.heap.size := S25.out.size
        clear hb25
        have G_a := Lib.hid hg25
        clear hg25
        go_wp2_with fail
        refine (HP.out w25 ((HRw.out.1).next S25.out)).mono ?_
        rintro e w26 ⟨A26, n26, k26, rfl, hg26, hb26⟩
        have S26 := Lib.hid hb26
        have z26 : w25.heap.size ≤ w26.heap.size := S26.out.size
        clear hb26
        have G_b := Lib.hid hg26
        clear hg26
        go_wp2_with fail
        refine (HRP.out w26 (((HRw.out.1).next S25.out).next S26.out)).mono ?_
        rintro e w27 ⟨A27, n27, k27, rfl, hg27, hb27⟩
        have S27 := Lib.hid hb27
        have z27 : w26.heap.size ≤ w27.heap.size := S27.out.size
        clear hb27
        have G_c := Lib.hid hg27
        clear hg27
        go_wp2_with fail
        refine (told_got (((G_a.out).next S26.out).next S27.out) (((G_b.out).next S27.out).away (by omega)) ((G_c.out).away (by omega)) rfl rfl (((G_b.out).next S27.out).len.1) ((G_c.out).len.1) (by have := ((((G_a.out).next S26.out).next S27.out)).len.1; have := HR2l.out; omega)).mono ?_
        rintro e w28 ⟨rfl, hb28⟩
        have S28 := Lib.hid hb28
        have z28 : w27.heap.size ≤ w28.heap.size := S28.out.size
        clear hb28
        clear G_a G_b G_c
        go_wp2_with fail
        refine (HC.out w28 (((((HRw.out.1).next S25.out).next S26.out).next S27.out).far (S28.out.below (by omega)) (by omega)) (((((HRw.out.2).next S25.out).next S26.out).next S27.out).far (S28.out.below (by omega)) (by omega))).mono ?_
        rintro e w29 ⟨A29, n29, k29, rfl, hg29, hb29⟩
        have S29 := Lib.hid hb29
        have z29 : w28.heap.size ≤ w29.heap.size := S29.out.size
        clear hb29
        have G_a := Lib.hid hg29
        clear hg29
        go_wp2_with fail
        refine (HC.out w29 ((((((HRw.out.1).next S25.out).next S26.out).next S27.out).far (S28.out.below (by omega)) (by omega)).next S29.out) ((((((HRw.out.2).next S25.out).next S26.out).next S27.out).far (S28.out.below (by omega)) (by omega)).next S29.out)).mono ?_
        rintro e w30 ⟨A30, n30, k30, rfl, hg30, hb30⟩
        have S30 := Lib.hid hb30
        have z30 : w29.heap.size ≤ w30.heap.size := S30.out.size
        clear hb30
        have G_b := Lib.hid hg30
        clear hg30
        go_wp2_with fail
        refine (HRC.out w30 (((((((HRw.out.1).next S25.out).next S26.out).next S27.out).far (S28.out.below (by omega)) (by omega)).next S29.out).next S30.out) (((((((HRw.out.2).next S25.out).next S26.out).next S27.out).far (S28.out.below (by omega)) (by omega)).next S29.out).next S30.out)).mono ?_
        rintro e w31 ⟨A31, n31, k31, rfl, hg31, hb31⟩
        have S31 := Lib.hid hb31
        have z31 : w30.heap.size ≤ w31.heap.size := S31.out.size
        clear hb31
        have G_c := Lib.hid hg31
        clear hg31
        go_wp2_with fail
        refine (told_got (((G_a.out).next S30.out).next S31.out) (((G_b.out).next S31.out).away (by omega)) ((G_c.out).away (by omega)) rfl rfl (((G_b.out).next S31.out).len.1) ((G_c.out).len.1) (by have := ((((G_a.out).next S30.out).next S31.out)).len.1; have := HR3l.out; omega)).mono ?_
        rintro e w32 ⟨rfl, hb32⟩
        have S32 := Lib.hid hb32
        have z32 : w31.heap.size ≤ w32.heap.size := S32.out.size
        clear hb32
        have FM := Lib.hid (((((((((QM.out).next S25.out).next S26.out).next S27.out).far (S28.out.below (by omega)) (by omega)).next S29.out).next S30.out).next S31.out).far (S32.out.below (by omega)) (by omega))
        have FR := Lib.hid (((((((((QR.out).next S25.out).next S26.out).next S27.out).far (S28.out.below (by omega)) (by omega)).next S29.out).next S30.out).next S31.out).far (S32.out.below (by omega)) (by omega))
        have FT := Lib.hid (((((((((QT.out).next S25.out).next S26.out).next S27.out).far (S28.out.below (by omega)) (by omega)).next S29.out).next S30.out).next S31.out).far (S32.out.below (by omega)) (by omega))
        have FB := Lib.hid (show Below w.heap.size w w32 from ((((((((QB.out).trans (S25.out.mono (by omega))).trans (S26.out.mono (by omega))).trans (S27.out.mono (by omega))).trans ((S28.out.below (by omega)).mono (by omega))).trans (S29.out.mono (by omega))).trans (S30.out.mono (by omega))).trans (S31.out.mono (by omega))).trans ((S32.out.below (by omega)).mono (by omega)))
        clear G_a G_b G_c
        go_wp2_with fail
        go_loopg [15] n (fun k iv wx => ∃ (i d : Nat), iv = .int .i64 (i : Int) ∧ k = n - i ∧ i ≤ n ∧ Hid (w32.drewN d = wx))
        case atStart => exact ⟨0, 0, rfl, by omega, by omega, Lib.hid rfl⟩
        case round =>
          obtain ⟨i, d, rfl, hk, hi, hwe⟩ := hrel
          have Hk := Lib.hid hk
          have hwe := hwe.out
          subst hwe
          clear hk
          by_cases hin : i < n
          · have hil : i < rs.length := by rw [← Hn.out]; exact hin
            have him : i < ms.length := by have := Hmn.out; omega
            obtain ⟨ad, hA, hb1, c0⟩ := FR.out.1.at_ hil
            obtain ⟨ad2, hA2, hb2, d0⟩ := FM.out.readsL.at_ him
            subst hA
            subst hA2
            have hrow := FM.out.2.2 _ (List.getElem_mem him)
            have harg := FR.out.1.2 _ (List.getElem_mem hil)
            have hew : rs[i].2.2 = ms[i].2.2 := by
              have h1 := congrArg (fun l => l[i]?) Hmap.out
              simp only [List.getElem?_map, List.getElem?_eq_getElem him, List.getElem?_eq_getElem hil, Option.map_some, Option.some.injEq] at h1
              exact h1.symm
            have hlen := Hls.out _ (List.getElem_mem hil)
            rw [hew] at c0 harg hlen
            have HL := Lib.hid (left_quiet (c := ms[i].2.1) (c' := rs[i].2.1) hrow.1 harg rfl rfl hrow.2.1 (by omega) d)
            have hii : (i : Int) < (n : Int) := by omega
            have hii1 : (i : Int) < (n1 : Int) := by have := HN1.out; have := Hmn.out; omega
            generalize ms[i].2.2.length = q at *
            generalize ms[i].1 = a1 at *
            generalize ms[i].2.1 = d1 at *
            generalize rs[i].1 = a2 at *
            generalize rs[i].2.1 = d2 at *
            clear hil him hb1 hb2 hrow harg hew hlen hin
            go_wp2_with (go_quiet ((go_at_call 22; exact HL.out _)))
            go_roundg (n - (i + 1))
            case measure => have := Hk.out; omega
            case rel => exact ⟨i + 1, _, rfl, rfl, by omega, Lib.hid rfl⟩
          · have hii : (n : Int) ≤ (i : Int) := by omega
            have hbd := drewN_below w32 d
            have HKn := Lib.hid (known_any (w := w32.drewN d) (FT.out.next hbd).1 (FT.out.next hbd).2)
            have HFB := Lib.hid (FB.out.trans (hbd.mono FB.out.size))
            have hsz := HFB.out.size
            clear hbd
            go_wp2_with fail
            refine HKn.out.mono ?_
            rintro e w' ⟨rfl, hb⟩
            have Hb := Lib.hid hb
            clear hb
            go_wp2_with fail
            go_ret
            exact ⟨rfl, HFB.out.trans (Hb.out.mono hsz)⟩
end Go.Proofs.YtmjnhpagoboejaaDoor

/- Put, plain. -/
namespace Go.Proofs.YtmjnhpagoboejaaDoor
open Go.RowKit
open Wd
set_option linter.unusedSimpArgs false
set_option linter.unusedVariables false

/-- what stands for a letter -/
def img (ims : List (List Int)) (k : Int) : List Int := if 0 < k then ims.getD (k - 1).toNat [] else inv (ims.getD (-k - 1).toNat [])
def putL (ims : List (List Int)) (o : List Int) (l : List Int) : List Int := l.foldl (fun o k => onl o (img ims k)) o
def fitsB (ims : List (List Int)) (l : List Int) : Bool := l.all (fun k => decide ((k.natAbs : Int) ≤ ims.length))
def putR (l : List Int) (ims : List (List Int)) : List Int × Int := if chk (l :: ims) = 0 then (if fitsB ims l then ended (putL ims [] l) else ([], 2)) else ([], chk (l :: ims))
theorem putR_len (l : List Int) (ims : List (List Int)) : (putR l ims).1.length ≤ 4096 := by
  unfold putR
  split
  · split
    · unfold ended; split
      · assumption
      · exact Nat.zero_le _
    · exact Nat.zero_le _
  · exact Nat.zero_le _
theorem putL_step {ims : List (List Int)} {l o : List Int} {i : Nat} (h : i < l.length) : putL ims o (l.take (i + 1)) = onl (putL ims o (l.take i)) (img ims l[i]) := by
  unfold putL
  rw [List.take_succ_eq_append_getElem h, List.foldl_append]
  rfl
theorem fits_step {ims : List (List Int)} {l : List Int} {i : Nat} (h : i < l.length) (h0 : fitsB ims (l.take i) = true) (h1 : (l[i].natAbs : Int) ≤ ims.length) : fitsB ims (l.take (i + 1)) = true := by
  unfold fitsB at h0 ⊢
  rw [List.take_succ_eq_append_getElem h, List.all_append, h0]
  simp only [List.all_cons, List.all_nil, Bool.and_true, Bool.true_and, decide_eq_true_eq]
  exact h1
theorem fits_no {ims : List (List Int)} {l : List Int} {i : Nat} (h : i < l.length) (h1 : (ims.length : Int) < (l[i].natAbs : Int)) : fitsB ims l = false := by
  unfold fitsB
  rw [List.all_eq_false]
  exact ⟨l[i], List.getElem_mem h, by simp only [decide_eq_true_eq]; omega⟩
theorem fits_at {ims : List (List Int)} {l : List Int} (hf : fitsB ims l = true) : ∀ k ∈ l, (k.natAbs : Int) ≤ ims.length := fun k hk => of_decide_eq_true (List.all_eq_true.1 hf k hk)
theorem putL_len {ims : List (List Int)} {M : Nat} (hM : ∀ m ∈ ims, m.length ≤ M) : ∀ (l o : List Int), (putL ims o l).length ≤ o.length + M * l.length
  | [], o => by simp [putL]
  | k :: l, o => by
    have hi : (img ims k).length ≤ M := by
      have hg : ∀ j, (ims.getD j []).length ≤ M := fun j => by
        rw [List.getD_eq_getElem?_getD]
        rcases Nat.lt_or_ge j ims.length with h | h
        · rw [List.getElem?_eq_getElem h]; exact hM _ (List.getElem_mem h)
        · rw [List.getElem?_eq_none h]; exact Nat.zero_le _
      unfold img
      split
      · exact hg _
      · rw [inv_len]; exact hg _
    have h1 := putL_len hM l (onl o (img ims k))
    have h2 := onl_len_le (img ims k) o
    show (putL ims (onl o (img ims k)) l).length ≤ _
    rw [List.length_cons, Nat.mul_add, Nat.mul_one]
    omega
theorem letl_img {ims : List (List Int)} (h : ∀ m ∈ ims, LetL m) (k : Int) : LetL (img ims k) := by
  have hg : ∀ j, LetL (ims.getD j []) := fun j => by
    rw [List.getD_eq_getElem?_getD]
    rcases Nat.lt_or_ge j ims.length with h' | h'
    · rw [List.getElem?_eq_getElem h']; exact h _ (List.getElem_mem h')
    · rw [List.getElem?_eq_none h']; exact fun x hx => by cases hx
  unfold img
  split
  · exact hg _
  · exact letl_inv (hg _)
theorem red_onl {o w : List Int} (ho : Red o) (hw : Nz w) : Red (onl o w) := by
  unfold onl
  exact red_rev' (red_act (red_rev' ho) hw)
theorem red_putL {ims : List (List Int)} (h : ∀ m ∈ ims, LetL m) : ∀ (l o : List Int), Red o → Red (putL ims o l)
  | [], o, ho => ho
  | k :: l, o, ho => red_putL h l _ (red_onl ho (letl_nz (letl_img h k)))
/-- how many letters fall away between two words -/
def glueN (v w : List Int) : Nat → Nat → Nat
  | 0, n => n
  | f + 1, n => if n < v.length ∧ n < w.length ∧ v.getD (v.length - 1 - n) 0 = - w.getD n 0 then glueN v w f (n + 1) else n
theorem glueN_go {v w : List Int} {n : Nat} (h : n < v.length ∧ n < w.length ∧ v.getD (v.length - 1 - n) 0 = - w.getD n 0) : glueN v w (v.length - n) n = glueN v w (v.length - (n + 1)) (n + 1) := by
  rw [show v.length - n = (v.length - (n + 1)) + 1 by omega, glueN, if_pos h]
theorem glueN_stop {v w : List Int} {f n : Nat} (h : ¬ (n < v.length ∧ n < w.length ∧ v.getD (v.length - 1 - n) 0 = - w.getD n 0)) : glueN v w f n = n := by
  cases f with
  | zero => rfl
  | succ f => rw [glueN, if_neg h]
theorem red_append {v w : List Int} (hv : Red v) (hw : Red w) (h : ¬ (0 < v.length ∧ 0 < w.length ∧ v.getD (v.length - 1) 0 = - w.getD 0 0)) : Red (v ++ w) := by
  have h1 := red_iff.1 hv
  have h2 := red_iff.1 hw
  refine red_iff.2 ⟨fun k hk => ?_, fun i hi => ?_⟩
  · rcases List.mem_append.1 hk with hk | hk
    · exact h1.1 k hk
    · exact h2.1 k hk
  · rw [List.length_append] at hi
    rcases Nat.lt_trichotomy (i + 1) v.length with h3 | h3 | h3
    · rw [getD_app_left (by omega), getD_app_left (by omega)]
      exact h1.2 i h3
    · rw [getD_app_right (by omega), getD_app_left (by omega), show i + 1 - v.length = 0 by omega]
      intro he
      exact h ⟨by omega, by omega, by rw [show v.length - 1 = i by omega]; omega⟩
    · rw [getD_app_right (by omega), getD_app_right (by omega), show i + 1 - v.length = (i - v.length) + 1 by omega]
      exact h2.2 _ (by omega)
theorem onl_red {v w : List Int} (h : Red (v ++ w)) : onl v w = v ++ w := by
  unfold onl
  rw [act_rev w v.reverse (by rw [← List.reverse_append]; exact red_rev' h), List.reverse_append, List.reverse_reverse, List.reverse_reverse]
/-- the product of two reduced words -/
theorem glue_eq : ∀ (f : Nat) (v w : List Int) (n : Nat), Red v → Red w → n + f = v.length → n ≤ w.length → (∀ i, i < n → v.getD (v.length - 1 - i) 0 = - w.getD i 0) → onl v w = v.take (v.length - glueN v w f n) ++ w.drop (glueN v w f n) := by
  have key : ∀ (n : Nat) (v w : List Int), Nz w → n ≤ v.length → n ≤ w.length → (∀ i, i < n → v.getD (v.length - 1 - i) 0 = - w.getD i 0) → onl v w = onl (v.take (v.length - n)) (w.drop n) := by
    intro n
    induction n with
    | zero => intro v w _ _ _ _; rw [Nat.sub_zero, List.take_of_length_le (Nat.le_refl _), List.drop_zero]
    | succ n ih =>
      intro v w hz hv hw h
      rw [ih v w hz (by omega) (by omega) (fun i hi => h i (by omega))]
      have hn := h n (by omega)
      have hwn : n < w.length := by omega
      have hvn : v.length - 1 - n < v.length := by omega
      rw [List.drop_eq_getElem_cons hwn]
      have e1 : v.take (v.length - n) = v.take (v.length - (n + 1)) ++ [v[v.length - 1 - n]] := by
        have := List.take_succ_eq_append_getElem hvn
        rw [show v.length - n = v.length - 1 - n + 1 by omega, this, show v.length - (n + 1) = v.length - 1 - n by omega]
      rw [e1, show (w[n] :: w.drop (n + 1)) = [w[n]] ++ w.drop (n + 1) from rfl, onl_app]
      rw [List.getD_eq_getElem?_getD, List.getElem?_eq_getElem hvn, List.getD_eq_getElem?_getD, List.getElem?_eq_getElem hwn] at hn
      have hn' : v[v.length - 1 - n] = - w[n] := hn
      rw [onl_off hn']
  have fin : ∀ (v w : List Int) (n : Nat), Red v → Red w → n ≤ v.length → n ≤ w.length → (∀ i, i < n → v.getD (v.length - 1 - i) 0 = - w.getD i 0) → ¬ (n < v.length ∧ n < w.length ∧ v.getD (v.length - 1 - n) 0 = - w.getD n 0) → onl v w = v.take (v.length - n) ++ w.drop n := by
    intro v w n hv hw h1 h2 h3 h4
    rw [key n v w (red_nz hw) h1 h2 h3]
    have hr1 : Red (v.take (v.length - n)) := by
      have : Red ([] ++ v.take (v.length - n) ++ v.drop (v.length - n)) := by rw [List.nil_append, List.take_append_drop]; exact hv
      exact red_mid this
    have hr2 : Red (w.drop n) := by
      have : Red (w.take n ++ w.drop n ++ []) := by rw [List.append_nil, List.take_append_drop]; exact hw
      exact red_mid this
    refine onl_red (red_append hr1 hr2 ?_)
    rintro ⟨h5, h6, h7⟩
    rw [List.length_take] at h5 h7
    rw [List.length_drop] at h6
    refine h4 ⟨by omega, by omega, ?_⟩
    rw [List.getD_eq_getElem?_getD, List.getElem?_take, if_pos (by omega), List.getD_eq_getElem?_getD, List.getElem?_drop] at h7
    rw [List.getD_eq_getElem?_getD, List.getD_eq_getElem?_getD, show v.length - 1 - n = min (v.length - n) v.length - 1 by omega]
    exact h7
  intro f
  induction f with
  | zero =>
    intro v w n hv hw h1 h2 h3
    show onl v w = v.take (v.length - n) ++ w.drop n
    exact fin v w n hv hw (by omega) h2 h3 (by omega)
  | succ f ih =>
    intro v w n hv hw h1 h2 h3
    by_cases hc : n < v.length ∧ n < w.length ∧ v.getD (v.length - 1 - n) 0 = - w.getD n 0
    · rw [glueN, if_pos hc]
      refine ih v w (n + 1) hv hw (by omega) (by omega) (fun i hi => ?_)
      rcases Nat.lt_or_ge i n with h | h
      · exact h3 i h
      · rw [show i = n by omega]; exact hc.2.2
    · rw [glueN, if_neg hc]
      exact fin v w n hv hw (by omega) h2 h3 hc
end Go.Proofs.YtmjnhpagoboejaaDoor
