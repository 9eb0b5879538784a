import Derived.Test.YtmjnhpagoboejaaDoorC5
import Derived.Test.YtmjnhpagoboejaaDoorC6
import Derived.Test.YtmjnhpagoboejaaDoorC7
import Derived.Test.YtmjnhpagoboejaaDoorC4
import Derived.Test.YtmjnhpagoboejaaDoorC3
import Derived.Stop.LaidErr
import Derived.Shelf.Vars
import Derived.ChangeMaps5
/- law.rooted (printed by gen_lroot.py). -/
namespace Go.Proofs.YtmjnhpagoboejaaDoor
open Go.RowKit
open Wd
set_option linter.unusedSimpArgs false
set_option linter.unusedVariables false

theorem same_bel {w : World} {B B' n n' c c' : Nat} {A A' : Option Addr} {l m : List Int} {b : Bool} (h : Rd w B A l) (h' : Rd w B' A' m) (hn : n = l.length) (hn' : n' = m.length) (hb : n ≤ 1000000000) (hb' : n' ≤ 1000000000) (e : decide (l = m) = b) :
    Calls Tryd.prog 27 #[.slice A n c, .slice A' n' c'] w (fun e w' => e = .returned (.bool b) ∧ Below w.heap.size w w') := by
  refine (same_any h.1 h'.1 hn hn' hb hb').mono ?_
  rintro _ w' ⟨d, rfl, rfl⟩
  exact ⟨by rw [e], drewN_below w d⟩
theorem root_got {w : World} {B n c : Nat} {A : Option Addr} {l x : List Int} {q : Int} (h : Rd w B A l) (hn : n = l.length) (hz : chk [l] = 0) (h0 : core (short l) ≠ []) (hx : rootw l = x) (hq : (((core (short l)).length / per (core (short l)) : Nat) : Int) = q) :
    Calls Tryd.prog 18 #[.slice A n c] w (fun e w' => ∃ A' n' k', e = .returned (.tuple #[.slice A' n' k', .int .i64 q, .int .i64 0]) ∧ Got w' w.heap.size w'.heap.size A' n' k' x ∧ Below w.heap.size w w') := by
  refine (root_ok h.1 h.2 hn hz h0).mono ?_
  rintro e w' ⟨A', n', c', q', rfl, hq', ho, hb⟩
  rw [hx] at ho
  refine ⟨A', n', c', by rw [hq', hq], Got.of_own ho hb.size, hb⟩
theorem inv_got {w : World} {B n c : Nat} {A : Option Addr} {l : List Int} (h : Rd w B A l) (hn : n = l.length) (hz : chk [l] = 0) :
    Calls Tryd.prog 16 #[.slice A n c] w (fun e w' => ∃ A' n' k', e = .returned (.tuple #[.slice A' n' k', .int .i64 0]) ∧ Got w' w.heap.size w'.heap.size A' n' k' (inv l) ∧ Below w.heap.size w w') := by
  refine (inverse_ok h.1 h.2 hn hz).mono ?_
  rintro e w' ⟨A', n', rfl, ho, hb⟩
  exact ⟨A', n', n', rfl, Got.of_res ho hb.size, hb⟩
theorem short_got {w : World} {B n c : Nat} {A : Option Addr} {l s : List Int} (h : Rd w B A l) (hn : n = l.length) (hz : chk [l] = 0) (hs : short l = s) :
    Calls Tryd.prog 15 #[.slice A n c] w (fun e w' => ∃ A' n' k', e = .returned (.tuple #[.slice A' n' k', .int .i64 0]) ∧ Got w' w.heap.size w'.heap.size A' n' k' s ∧ Below w.heap.size w w') := by
  subst hs
  refine (short_ok h.1 h.2 hn hz).mono ?_
  rintro e w' ⟨A', n', rfl, ho, hb⟩
  exact ⟨A', n', n', rfl, Got.of_res ho hb.size, hb⟩
theorem res_got {w : World} {R : List Int × Int} {l : List Int} {e : Ending} {w' : World} (h : ResOut w R e w') (hR : R = (l, 0)) : ∃ A n k, e = .returned (.tuple #[.slice A n k, .int .i64 0]) ∧ Got w' w.heap.size w'.heap.size A n k l ∧ Below w.heap.size w w' := by
  subst hR
  exact h
theorem letl_wf {l : List Int} (h : LetL l) : Wf l := fun k hk => by have := h k hk; omega
theorem let_word {l : List Int} (h : LetL l) : isWord l = true := by
  unfold isWord
  rw [Bool.not_eq_true', List.any_eq_false]
  intro k hk
  rw [Bool.not_eq_true', Bool.not_eq_false]
  unfold isLet
  exact decide_eq_true (h k hk)
theorem chk_two0 {a b : List Int} (ha : chk [a] = 0) (hb : chk [b] = 0) : chk [a, b] = 0 := by
  obtain ⟨h1, h2⟩ := chk_one.1 ha
  obtain ⟨h3, h4⟩ := chk_one.1 hb
  rw [chk_two', h1, h3]
  unfold tooLong
  rw [decide_eq_false (by omega), decide_eq_false (by omega)]
  rfl
theorem letl_root {s : List Int} (h : LetL s) : LetL (rootS s) := fun k hk => by
  unfold rootS at hk
  rw [List.mem_append, List.mem_append] at hk
  rcases hk with (h1 | h1) | h1
  · exact letl_inv (letl_conj h) k h1
  · exact letl_core h k (List.mem_of_mem_take h1)
  · exact letl_conj h k h1
theorem txt_size {l : List Int} (h : LetL l) (hl : l.length ≤ 4096) : (txt l).length ≤ 16384 := by
  by_cases hw : l = []
  · subst hw; decide
  · have h3 : ∀ x ∈ l.map Lib.itoa, x.length ≤ 3 := fun x hx => by
      obtain ⟨k, hk, rfl⟩ := List.mem_map.1 hx
      exact (atoi_itoa (h k hk).2.1 (h k hk).2.2).2.2.1
    have hl := join_len h3
    rw [List.length_map] at hl
    rw [txt_parts hw]
    omega
theorem word_chk {l : List Int} (h : LetL l) (hl : l.length ≤ 4096) : chk [l] = 0 := chk_one.2 ⟨let_word h, hl⟩
theorem comm_plain {u v : List Int} (hu : Nz u) (hv : Nz v) : commB u v = decide (short (short u ++ short v) = short (short v ++ short u)) := by
  unfold commB
  rw [short_left hu, short_left hv, short_right hu hv, short_right hv hu, short_app, short_app]
theorem core_ne {l : List Int} (hl : Nz l) (h : short l ≠ []) : core (short l) ≠ [] := fun e => by
  have := core_pos (red_short' hl) (List.length_pos_iff.2 h)
  rw [e] at this
  exact absurd this (by decide)
set_option maxRecDepth 100000 in
set_option maxHeartbeats 8000000 in
theorem rooted_none1 {w : World} {B Bu Bv Bs nu nv ns cu cv cs : Nat} {Au Av As : Option Addr} {u v s : List Int} (hV : VarsX B w) (hu : Rd w Bu Au u) (hv : Rd w Bv Av v) (hs : Rd w Bs As s) (hnu : nu = u.length) (hnv : nv = v.length) (hns : ns = s.length) (hzu : chk [u] = 0) (hzv : chk [v] = 0) (hse : short u = s) (h0 : short u = []) :
    Calls Tryd.prog 51 #[.slice Au nu cu, .slice Av nv cv, .slice As ns cs] w (fun e w' => e = .returned (.bool true) ∧ Below w.heap.size w w') := by
  have hlu := word_let (chk_one.1 hzu).1
  have hlv := word_let (chk_one.1 hzv).1
  have hqu := (chk_one.1 hzu).2
  have hqv := (chk_one.1 hzv).2
  have hqs := short_len_le u
  obtain ⟨T, hT⟩ : ∃ T : ByteArray, T = ⟨(txt u).toArray⟩ := ⟨_, rfl⟩
  have hT1 : bs (txt u) = .string T := by rw [hT]; rfl
  have hT2 : T.data.toList = txt u := by rw [hT]
  have hT3 : T.size ≤ 100000 := by
    have := txt_size hlu hqu
    rw [Lib.size_eq, hT2]
    omega
  have HTx := Lib.hid (fun (W : World) (h : VarsX B W) (h1 : Rd W Bu Au u) => show Calls Tryd.prog 19 #[.slice Au nu cu] W (fun e w' => e = .returned (.tuple #[.string T, .int .i64 0]) ∧ Below W.heap.size W w') by
    have h2 := wtext_ok (c := cu) (h.1.1.more h.1.2) (h1.1.more h1.2) (Nat.le_refl _) hnu hzu
    rw [hT1] at h2
    exact h2)
  have HRe := Lib.hid (fun (W : World) (h : VarsX B W) => show Calls Tryd.prog 49 #[.string T] W (fun e w' => ∃ A n k, e = .returned (.tuple #[.slice A n k, .int .i64 0]) ∧ Got w' W.heap.size w'.heap.size A n k u ∧ Below W.heap.size W w') by
    refine (wread_all h hT3).mono fun e w' h => ?_
    rw [hT2, pread_txt hzu] at h
    obtain ⟨A, n, k, h1, h2, h3⟩ := readOut_two h
    exact ⟨A, n, k, h1, h2, h3⟩)
  have HSr := Lib.hid (fun (W : World) {Br nr cr : Nat} {Ar : Option Addr} (h : Rd W Br Ar u) (hn : nr = u.length) (h1 : Rd W Bu Au u) => same_bel (c := cr) (c' := cu) h h1 hn hnu (by omega) (by omega) (b := true) (decide_eq_true rfl))
  obtain ⟨C, hC⟩ : ∃ C : Bool, C = commB u v := ⟨_, rfl⟩
  have HCo := Lib.hid (fun (W : World) (h1 : Rd W Bu Au u) (h2 : Rd W Bv Av v) => show Calls Tryd.prog 43 #[.slice Au nu cu, .slice Av nv cv] W (fun e w' => e = .returned (.tuple #[.bool C, .int .i64 0]) ∧ Below W.heap.size W w') by
    have h := wcomm_out (ca := cu) (cb := cv) (h1.1.more h1.2) (h2.1.more h2.2) (Nat.le_refl _) hnu hnv (letl_wf hlu) (letl_wf hlv) (by omega) (by omega)
    have hz : chk [u, v] = 0 := chk_two0 hzu hzv
    rw [hz, ← hC, show decide ((0:Int) = 0) = true from rfl, Bool.true_and] at h
    exact h)
  have hs0 : s = [] := hse.symm.trans h0
  subst hs0
  have hn0 : ns = 0 := hns
  have hn0i : ((ns : Int)) = 0 := by omega
  have hCt : C = true := by
    rw [hC, comm_plain (letl_nz hlu) (letl_nz hlv), h0]
    simp
  have HCt := Lib.hid hCt
  have HRu := Lib.hid (fun (W : World) (h : Rd W Bu Au u) => show Calls Tryd.prog 18 #[.slice Au nu cu] W (fun e w' => e = .returned (.tuple #[.slice none 0 0, .int .i64 0, .int .i64 7]) ∧ Below W.heap.size W w') from root_none (c := cu) (h.1.more h.2) (Nat.le_refl _) hnu hzu (by rw [h0]; rfl))
  have HRv := Lib.hid (fun (W : World) (h : Rd W Bv Av v) => show Calls Tryd.prog 18 #[.slice Av nv cv] W (fun e w' => ∃ A n k x z, e = .returned (.tuple #[.slice A n k, .int .i64 x, .int .i64 z]) ∧ Below W.heap.size W w') by
    by_cases hv0 : short v = []
    · refine (root_none (c := cv) (h.1.more h.2) (Nat.le_refl _) hnv hzv (by rw [hv0]; rfl)).mono ?_
      rintro e w' ⟨rfl, hb⟩
      exact ⟨_, _, _, _, _, rfl, hb⟩
    · refine (root_got (c := cv) h hnv hzv (core_ne (letl_nz hlv) hv0) rfl rfl).mono ?_
      rintro e w' ⟨A', n', k', rfl, _, hb⟩
      exact ⟨_, _, _, _, _, rfl, hb⟩)
  clear hC hCt hn0
  have HT := Lib.hid hV
  have HU := Lib.hid hu
  have HV := Lib.hid hv
  have HS := Lib.hid hs
  have Hnu := Lib.hid hnu
  have Hnv := Lib.hid hnv
  have Hns := Lib.hid hns
  have Hqu := Lib.hid hqu
  clear hV hu hv hs hnu hnv hns hzu hzv hse hlu hlv hqu hqv hqs hT hT1 hT2 hT3
  go_enter Tryd.func51, Tryd.ntmps51
  go_wp2_with fail
  refine (HTx.out w (HT.out) (HU.out)).mono ?_
  rintro e w1 ⟨rfl, hb1⟩
  have S1 := Lib.hid hb1
  have z1 : w.heap.size ≤ w1.heap.size := S1.out.size
  clear hb1
  go_wp2_with fail
  refine (HRe.out w1 ((HT.out).next S1.out)).mono ?_
  rintro e w2 ⟨A2, n2, k2, rfl, hg2, hb2⟩
  have S2 := Lib.hid hb2
  have z2 : w1.heap.size ≤ w2.heap.size := S2.out.size
  clear hb2
  have G_r := Lib.hid hg2
  clear hg2
  go_wp2_with ((go_at_call 20; refine num_any.mono ?_; rintro e w' ⟨rfl, rfl⟩))
  refine (HSr.out w2 (G_r.out).rd (G_r.out).len.1 (((HU.out).next S1.out).next S2.out)).mono ?_
  rintro e w3 ⟨rfl, hb3⟩
  have S3 := Lib.hid hb3
  have z3 : w2.heap.size ≤ w3.heap.size := S3.out.size
  clear hb3
  go_wp2_with fail
  refine (HCo.out w3 ((((HU.out).next S1.out).next S2.out).next S3.out) ((((HV.out).next S1.out).next S2.out).next S3.out)).mono ?_
  rintro e w4 ⟨rfl, hb4⟩
  have S4 := Lib.hid hb4
  have z4 : w3.heap.size ≤ w4.heap.size := S4.out.size
  clear hb4
  go_wp2_with fail
  refine (HRu.out w4 (((((HU.out).next S1.out).next S2.out).next S3.out).next S4.out)).mono ?_
  rintro e w5 ⟨rfl, hb5⟩
  have S5 := Lib.hid hb5
  have z5 : w4.heap.size ≤ w5.heap.size := S5.out.size
  clear hb5
  go_wp2_with fail
  refine (HRv.out w5 ((((((HV.out).next S1.out).next S2.out).next S3.out).next S4.out).next S5.out)).mono ?_
  rintro e w6 ⟨A6, n6, k6, x6, z6', rfl, hb6⟩
  have S6 := Lib.hid hb6
  have z6 : w5.heap.size ≤ w6.heap.size := S6.out.size
  clear hb6
  have BB := Lib.hid (((((((Below.refl w.heap.size w).trans (S1.out.mono (by omega))).trans (S2.out.mono (by omega))).trans (S3.out.mono (by omega))).trans (S4.out.mono (by omega))).trans (S5.out.mono (by omega))).trans (S6.out.mono (by omega)))
  go_wp2_with ((go_at_call 20; refine num_any.mono ?_; rintro e w' ⟨rfl, rfl⟩))
  go_ret
  exact ⟨by rw [HCt.out]; rfl, BB.out⟩
set_option maxRecDepth 100000 in
set_option maxHeartbeats 8000000 in
theorem rooted_none2 {w : World} {B Bu Bv Bs nu nv ns cu cv cs : Nat} {Au Av As : Option Addr} {u v s : List Int} (hV : VarsX B w) (hu : Rd w Bu Au u) (hv : Rd w Bv Av v) (hs : Rd w Bs As s) (hnu : nu = u.length) (hnv : nv = v.length) (hns : ns = s.length) (hzu : chk [u] = 0) (hzv : chk [v] = 0) (hse : short u = s) (hneu : short u ≠ []) (h0 : short v = []) :
    Calls Tryd.prog 51 #[.slice Au nu cu, .slice Av nv cv, .slice As ns cs] w (fun e w' => e = .returned (.bool true) ∧ Below w.heap.size w w') := by
  have hlu := word_let (chk_one.1 hzu).1
  have hlv := word_let (chk_one.1 hzv).1
  have hqu := (chk_one.1 hzu).2
  have hqv := (chk_one.1 hzv).2
  have hqs := short_len_le u
  obtain ⟨T, hT⟩ : ∃ T : ByteArray, T = ⟨(txt u).toArray⟩ := ⟨_, rfl⟩
  have hT1 : bs (txt u) = .string T := by rw [hT]; rfl
  have hT2 : T.data.toList = txt u := by rw [hT]
  have hT3 : T.size ≤ 100000 := by
    have := txt_size hlu hqu
    rw [Lib.size_eq, hT2]
    omega
  have HTx := Lib.hid (fun (W : World) (h : VarsX B W) (h1 : Rd W Bu Au u) => show Calls Tryd.prog 19 #[.slice Au nu cu] W (fun e w' => e = .returned (.tuple #[.string T, .int .i64 0]) ∧ Below W.heap.size W w') by
    have h2 := wtext_ok (c := cu) (h.1.1.more h.1.2) (h1.1.more h1.2) (Nat.le_refl _) hnu hzu
    rw [hT1] at h2
    exact h2)
  have HRe := Lib.hid (fun (W : World) (h : VarsX B W) => show Calls Tryd.prog 49 #[.string T] W (fun e w' => ∃ A n k, e = .returned (.tuple #[.slice A n k, .int .i64 0]) ∧ Got w' W.heap.size w'.heap.size A n k u ∧ Below W.heap.size W w') by
    refine (wread_all h hT3).mono fun e w' h => ?_
    rw [hT2, pread_txt hzu] at h
    obtain ⟨A, n, k, h1, h2, h3⟩ := readOut_two h
    exact ⟨A, n, k, h1, h2, h3⟩)
  have HSr := Lib.hid (fun (W : World) {Br nr cr : Nat} {Ar : Option Addr} (h : Rd W Br Ar u) (hn : nr = u.length) (h1 : Rd W Bu Au u) => same_bel (c := cr) (c' := cu) h h1 hn hnu (by omega) (by omega) (b := true) (decide_eq_true rfl))
  obtain ⟨C, hC⟩ : ∃ C : Bool, C = commB u v := ⟨_, rfl⟩
  have HCo := Lib.hid (fun (W : World) (h1 : Rd W Bu Au u) (h2 : Rd W Bv Av v) => show Calls Tryd.prog 43 #[.slice Au nu cu, .slice Av nv cv] W (fun e w' => e = .returned (.tuple #[.bool C, .int .i64 0]) ∧ Below W.heap.size W w') by
    have h := wcomm_out (ca := cu) (cb := cv) (h1.1.more h1.2) (h2.1.more h2.2) (Nat.le_refl _) hnu hnv (letl_wf hlu) (letl_wf hlv) (by omega) (by omega)
    have hz : chk [u, v] = 0 := chk_two0 hzu hzv
    rw [hz, ← hC, show decide ((0:Int) = 0) = true from rfl, Bool.true_and] at h
    exact h)
  have hs1 : 1 ≤ ns := by rw [hns, ← hse]; exact List.length_pos_iff.2 hneu
  have hs1i : ¬ ((ns : Int)) = 0 := by omega
  have hCt : C = true := by
    rw [hC, comm_plain (letl_nz hlu) (letl_nz hlv), h0]
    simp
  have HCt := Lib.hid hCt
  obtain ⟨x, hx⟩ : ∃ x, rootw u = x := ⟨_, rfl⟩
  obtain ⟨q, hq⟩ : ∃ q : Int, (((core (short u)).length / per (core (short u)) : Nat) : Int) = q := ⟨_, rfl⟩
  have HRu := Lib.hid (fun (W : World) (h : Rd W Bu Au u) => root_got (c := cu) h hnu hzu (core_ne (letl_nz hlu) hneu) hx hq)
  have HRv := Lib.hid (fun (W : World) (h : Rd W Bv Av v) => show Calls Tryd.prog 18 #[.slice Av nv cv] W (fun e w' => e = .returned (.tuple #[.slice none 0 0, .int .i64 0, .int .i64 7]) ∧ Below W.heap.size W w') from root_none (c := cv) (h.1.more h.2) (Nat.le_refl _) hnv hzv (by rw [h0]; rfl))
  clear hC hCt hs1 hx hq hneu h0
  have HT := Lib.hid hV
  have HU := Lib.hid hu
  have HV := Lib.hid hv
  have HS := Lib.hid hs
  have Hnu := Lib.hid hnu
  have Hnv := Lib.hid hnv
  have Hns := Lib.hid hns
  have Hqu := Lib.hid hqu
  clear hV hu hv hs hnu hnv hns hzu hzv hse hlu hlv hqu hqv hqs hT hT1 hT2 hT3
  go_enter Tryd.func51, Tryd.ntmps51
  go_wp2_with fail
  refine (HTx.out w (HT.out) (HU.out)).mono ?_
  rintro e w1 ⟨rfl, hb1⟩
  have S1 := Lib.hid hb1
  have z1 : w.heap.size ≤ w1.heap.size := S1.out.size
  clear hb1
  go_wp2_with fail
  refine (HRe.out w1 ((HT.out).next S1.out)).mono ?_
  rintro e w2 ⟨A2, n2, k2, rfl, hg2, hb2⟩
  have S2 := Lib.hid hb2
  have z2 : w1.heap.size ≤ w2.heap.size := S2.out.size
  clear hb2
  have G_r := Lib.hid hg2
  clear hg2
  go_wp2_with ((go_at_call 20; refine num_any.mono ?_; rintro e w' ⟨rfl, rfl⟩))
  refine (HSr.out w2 (G_r.out).rd (G_r.out).len.1 (((HU.out).next S1.out).next S2.out)).mono ?_
  rintro e w3 ⟨rfl, hb3⟩
  have S3 := Lib.hid hb3
  have z3 : w2.heap.size ≤ w3.heap.size := S3.out.size
  clear hb3
  go_wp2_with fail
  refine (HCo.out w3 ((((HU.out).next S1.out).next S2.out).next S3.out) ((((HV.out).next S1.out).next S2.out).next S3.out)).mono ?_
  rintro e w4 ⟨rfl, hb4⟩
  have S4 := Lib.hid hb4
  have z4 : w3.heap.size ≤ w4.heap.size := S4.out.size
  clear hb4
  go_wp2_with fail
  refine (HRu.out w4 (((((HU.out).next S1.out).next S2.out).next S3.out).next S4.out)).mono ?_
  rintro e w5 ⟨A5, n5, k5, rfl, hg5, hb5⟩
  have S5 := Lib.hid hb5
  have z5 : w4.heap.size ≤ w5.heap.size := S5.out.size
  clear hb5
  have G_x := Lib.hid hg5
  clear hg5
  go_wp2_with fail
  refine (HRv.out w5 ((((((HV.out).next S1.out).next S2.out).next S3.out).next S4.out).next S5.out)).mono ?_
  rintro e w6 ⟨rfl, hb6⟩
  have S6 := Lib.hid hb6
  have z6 : w5.heap.size ≤ w6.heap.size := S6.out.size
  clear hb6
  have BB := Lib.hid (((((((Below.refl w.heap.size w).trans (S1.out.mono (by omega))).trans (S2.out.mono (by omega))).trans (S3.out.mono (by omega))).trans (S4.out.mono (by omega))).trans (S5.out.mono (by omega))).trans (S6.out.mono (by omega)))
  go_wp2_with ((go_at_call 20; refine num_any.mono ?_; rintro e w' ⟨rfl, rfl⟩))
  go_ret
  exact ⟨by rw [HCt.out]; rfl, BB.out⟩
set_option maxRecDepth 100000 in
set_option maxHeartbeats 8000000 in
theorem rooted_main {w : World} {B Bu Bv Bs nu nv ns cu cv cs : Nat} {Au Av As : Option Addr} {u v s : List Int} (hV : VarsX B w) (hu : Rd w Bu Au u) (hv : Rd w Bv Av v) (hs : Rd w Bs As s) (hnu : nu = u.length) (hnv : nv = v.length) (hns : ns = s.length) (hzu : chk [u] = 0) (hzv : chk [v] = 0) (hse : short u = s) (hneu : short u ≠ []) (hnev : short v ≠ []) :
    Calls Tryd.prog 51 #[.slice Au nu cu, .slice Av nv cv, .slice As ns cs] w (fun e w' => e = .returned (.bool true) ∧ Below w.heap.size w w') := by
  have hlu := word_let (chk_one.1 hzu).1
  have hlv := word_let (chk_one.1 hzv).1
  have hqu := (chk_one.1 hzu).2
  have hqv := (chk_one.1 hzv).2
  have hqs := short_len_le u
  obtain ⟨T, hT⟩ : ∃ T : ByteArray, T = ⟨(txt u).toArray⟩ := ⟨_, rfl⟩
  have hT1 : bs (txt u) = .string T := by rw [hT]; rfl
  have hT2 : T.data.toList = txt u := by rw [hT]
  have hT3 : T.size ≤ 100000 := by
    have := txt_size hlu hqu
    rw [Lib.size_eq, hT2]
    omega
  have HTx := Lib.hid (fun (W : World) (h : VarsX B W) (h1 : Rd W Bu Au u) => show Calls Tryd.prog 19 #[.slice Au nu cu] W (fun e w' => e = .returned (.tuple #[.string T, .int .i64 0]) ∧ Below W.heap.size W w') by
    have h2 := wtext_ok (c := cu) (h.1.1.more h.1.2) (h1.1.more h1.2) (Nat.le_refl _) hnu hzu
    rw [hT1] at h2
    exact h2)
  have HRe := Lib.hid (fun (W : World) (h : VarsX B W) => show Calls Tryd.prog 49 #[.string T] W (fun e w' => ∃ A n k, e = .returned (.tuple #[.slice A n k, .int .i64 0]) ∧ Got w' W.heap.size w'.heap.size A n k u ∧ Below W.heap.size W w') by
    refine (wread_all h hT3).mono fun e w' h => ?_
    rw [hT2, pread_txt hzu] at h
    obtain ⟨A, n, k, h1, h2, h3⟩ := readOut_two h
    exact ⟨A, n, k, h1, h2, h3⟩)
  have HSr := Lib.hid (fun (W : World) {Br nr cr : Nat} {Ar : Option Addr} (h : Rd W Br Ar u) (hn : nr = u.length) (h1 : Rd W Bu Au u) => same_bel (c := cr) (c' := cu) h h1 hn hnu (by omega) (by omega) (b := true) (decide_eq_true rfl))
  obtain ⟨C, hC⟩ : ∃ C : Bool, C = commB u v := ⟨_, rfl⟩
  have HCo := Lib.hid (fun (W : World) (h1 : Rd W Bu Au u) (h2 : Rd W Bv Av v) => show Calls Tryd.prog 43 #[.slice Au nu cu, .slice Av nv cv] W (fun e w' => e = .returned (.tuple #[.bool C, .int .i64 0]) ∧ Below W.heap.size W w') by
    have h := wcomm_out (ca := cu) (cb := cv) (h1.1.more h1.2) (h2.1.more h2.2) (Nat.le_refl _) hnu hnv (letl_wf hlu) (letl_wf hlv) (by omega) (by omega)
    have hz : chk [u, v] = 0 := chk_two0 hzu hzv
    rw [hz, ← hC, show decide ((0:Int) = 0) = true from rfl, Bool.true_and] at h
    exact h)
  have hs1 : 1 ≤ ns := by rw [hns, ← hse]; exact List.length_pos_iff.2 hneu
  have hs1i : ¬ ((ns : Int)) = 0 := by omega
  have rs := red_short' (letl_nz hlu)
  have rt := red_short' (letl_nz hlv)
  have ls := List.length_pos_iff.2 hneu
  have lt := List.length_pos_iff.2 hnev
  obtain ⟨x, hx⟩ : ∃ x, rootw u = x := ⟨_, rfl⟩
  obtain ⟨y, hy⟩ : ∃ y, rootw v = y := ⟨_, rfl⟩
  have hx' : rootS (short u) = x := hx
  have hy' : rootS (short v) = y := hy
  obtain ⟨rx, cx, ex, ox, qx, px, lx⟩ := root_root rs ls
  obtain ⟨ry, cy, ey, oy, qy, py, ly⟩ := root_root rt lt
  rw [hx'] at rx cx ex ox px lx
  rw [hy'] at ry cy ey oy py ly
  have hlsu := letl_short hlu
  have hlsv := letl_short hlv
  have hlx : LetL x := by
    intro k hk
    rw [← hx'] at hk
    exact letl_root hlsu k hk
  have hly : LetL y := by
    intro k hk
    rw [← hy'] at hk
    exact letl_root hlsv k hk
  have hqsv := short_len_le v
  have hxl : x.length ≤ 4096 := by omega
  have hyl : y.length ≤ 4096 := by omega
  obtain ⟨q, hq⟩ : ∃ q : Int, (((core (short u)).length / per (core (short u)) : Nat) : Int) = q := ⟨_, rfl⟩
  obtain ⟨q2, hq2⟩ : ∃ q : Int, (((core (short v)).length / per (core (short v)) : Nat) : Int) = q := ⟨_, rfl⟩
  have hq1 : 1 ≤ q := by omega
  have hqb : q ≤ 4096 := by
    have h1 := Nat.div_le_self (core (short u)).length (per (core (short u)))
    have h2 := core_len (short u)
    omega
  have hzx := word_chk hlx hxl
  have hzy := word_chk hly hyl
  have hsx : short x = x := short_id rx
  obtain ⟨d1, hd1⟩ : ∃ d, decide (x = y) = d := ⟨_, rfl⟩
  obtain ⟨d2, hd2⟩ : ∃ d, decide (x = inv y) = d := ⟨_, rfl⟩
  have hCt : C = (d1 || d2) := by
    rw [hC, comm_plain (letl_nz hlu) (letl_nz hlv), ← hd1, ← hd2, ← Bool.decide_or]
    refine decide_eq_decide.2 ⟨fun h => ?_, fun h => ?_⟩
    · rcases comm_roots rt rs lt ls h.symm with h1 | h1
      · left; rw [← hx', ← hy', h1]
      · right; rw [← hx', ← hy', h1]
    · refine (roots_comm rt rs lt ls ?_).symm
      rcases h with h1 | h1
      · left; rw [hx', hy', h1]
      · right; rw [hx', hy', h1]
  have HCt := Lib.hid hCt
  have HRu := Lib.hid (fun (W : World) (h : Rd W Bu Au u) => root_got (c := cu) h hnu hzu (core_ne (letl_nz hlu) hneu) hx hq)
  have HRv := Lib.hid (fun (W : World) (h : Rd W Bv Av v) => root_got (c := cv) h hnv hzv (core_ne (letl_nz hlv) hnev) hy hq2)
  have hpow : powl x q = s := by
    have e0 : pbase x q = x := by unfold pbase; rw [if_neg (by omega), hsx]
    have x0 : x ≠ [] := fun e => by rw [e] at cx; exact absurd cx (by decide)
    unfold powl
    rw [e0, if_neg (by rintro (h | h); omega; exact x0 h), ← hse, ← hq, Int.natAbs_natCast]
    exact px
  have HPw := Lib.hid (fun (W : World) {Bx nx kx : Nat} {Ax : Option Addr} (h : Rd W Bx Ax x) (hn : nx = x.length) => show Calls Tryd.prog 32 #[.slice Ax nx kx, .int .i64 q] W (fun e w' => ∃ A n k, e = .returned (.tuple #[.slice A n k, .int .i64 0]) ∧ Got w' W.heap.size w'.heap.size A n k s ∧ Below W.heap.size W w') by
    refine (pow_out (h.1.more h.2) (Nat.le_refl _) hn (by omega) (by omega) (letl_wf hlx) (by omega)).mono fun e w' h => res_got h ?_
    unfold powR ended
    rw [if_pos hzx, hpow, if_pos (by rw [← hse]; omega)])
  have HRx := Lib.hid (fun (W : World) {Bx nx kx : Nat} {Ax : Option Addr} (h : Rd W Bx Ax x) (hn : nx = x.length) => root_got (c := kx) (x := x) (q := 1) h hn hzx (by rw [hsx]; exact List.length_pos_iff.1 cx) (by show rootS (short x) = x; rw [hsx, ex]) (by rw [hsx, ox]; rfl))
  have HIy := Lib.hid (fun (W : World) {Bx nx kx : Nat} {Ax : Option Addr} (h : Rd W Bx Ax y) (hn : nx = y.length) => inv_got (c := kx) h hn hzy)
  have HSp := Lib.hid (fun (W : World) {Bx nx kx : Nat} {Ax : Option Addr} (h : Rd W Bx Ax s) (hn : nx = s.length) (h1 : Rd W Bs As s) => same_bel (c := kx) (c' := cs) h h1 hn hns (by rw [hn, ← hse]; omega) (by rw [hns, ← hse]; omega) (b := true) (decide_eq_true rfl))
  have HSz := Lib.hid (fun (W : World) {Bx nx kx : Nat} {Ax : Option Addr} {By ny ky : Nat} {Ay : Option Addr} (h : Rd W Bx Ax x) (hn : nx = x.length) (h1 : Rd W By Ay x) (hn1 : ny = x.length) => same_bel (c := kx) (c' := ky) h h1 hn hn1 (by omega) (by omega) (b := true) (decide_eq_true rfl))
  have HSx := Lib.hid (fun (W : World) {Bx nx kx : Nat} {Ax : Option Addr} {By ny ky : Nat} {Ay : Option Addr} (h : Rd W Bx Ax x) (hn : nx = x.length) (h1 : Rd W By Ay y) (hn1 : ny = y.length) => same_bel (c := kx) (c' := ky) h h1 hn hn1 (by omega) (by omega) (b := d1) hd1)
  have HSb := Lib.hid (fun (W : World) {Bx nx kx : Nat} {Ax : Option Addr} {By ny ky : Nat} {Ay : Option Addr} (h : Rd W Bx Ax x) (hn : nx = x.length) (h1 : Rd W By Ay (inv y)) (hn1 : ny = (inv y).length) => same_bel (c := kx) (c' := ky) h h1 hn hn1 (by omega) (by rw [hn1, inv_len]; omega) (b := d2) hd2)
  have hq1i : ¬ q < 1 := by omega
  clear hC hCt hs1 hx hq hneu hnev hy hx' hy' rx cx ex ox qx px lx ry cy ey oy qy py ly hlsu hlsv hlx hly hqsv hxl hyl hq2 hq1 hqb hzx hzy hsx hd1 hd2 hpow rs rt ls lt
  have HT := Lib.hid hV
  have HU := Lib.hid hu
  have HV := Lib.hid hv
  have HS := Lib.hid hs
  have Hnu := Lib.hid hnu
  have Hnv := Lib.hid hnv
  have Hns := Lib.hid hns
  have Hqu := Lib.hid hqu
  clear hV hu hv hs hnu hnv hns hzu hzv hse hlu hlv hqu hqv hqs hT hT1 hT2 hT3
  go_enter Tryd.func51, Tryd.ntmps51
  go_wp2_with fail
  refine (HTx.out w (HT.out) (HU.out)).mono ?_
  rintro e w1 ⟨rfl, hb1⟩
  have S1 := Lib.hid hb1
  have z1 : w.heap.size ≤ w1.heap.size := S1.out.size
  clear hb1
  go_wp2_with fail
  refine (HRe.out w1 ((HT.out).next S1.out)).mono ?_
  rintro e w2 ⟨A2, n2, k2, rfl, hg2, hb2⟩
  have S2 := Lib.hid hb2
  have z2 : w1.heap.size ≤ w2.heap.size := S2.out.size
  clear hb2
  have G_r := Lib.hid hg2
  clear hg2
  go_wp2_with ((go_at_call 20; refine num_any.mono ?_; rintro e w' ⟨rfl, rfl⟩))
  refine (HSr.out w2 (G_r.out).rd (G_r.out).len.1 (((HU.out).next S1.out).next S2.out)).mono ?_
  rintro e w3 ⟨rfl, hb3⟩
  have S3 := Lib.hid hb3
  have z3 : w2.heap.size ≤ w3.heap.size := S3.out.size
  clear hb3
  go_wp2_with fail
  refine (HCo.out w3 ((((HU.out).next S1.out).next S2.out).next S3.out) ((((HV.out).next S1.out).next S2.out).next S3.out)).mono ?_
  rintro e w4 ⟨rfl, hb4⟩
  have S4 := Lib.hid hb4
  have z4 : w3.heap.size ≤ w4.heap.size := S4.out.size
  clear hb4
  go_wp2_with fail
  refine (HRu.out w4 (((((HU.out).next S1.out).next S2.out).next S3.out).next S4.out)).mono ?_
  rintro e w5 ⟨A5, n5, k5, rfl, hg5, hb5⟩
  have S5 := Lib.hid hb5
  have z5 : w4.heap.size ≤ w5.heap.size := S5.out.size
  clear hb5
  have G_x := Lib.hid hg5
  clear hg5
  go_wp2_with fail
  refine (HRv.out w5 ((((((HV.out).next S1.out).next S2.out).next S3.out).next S4.out).next S5.out)).mono ?_
  rintro e w6 ⟨A6, n6, k6, rfl, hg6, hb6⟩
  have S6 := Lib.hid hb6
  have z6 : w5.heap.size ≤ w6.heap.size := S6.out.size
  clear hb6
  have G_y := Lib.hid hg6
  clear hg6
  go_wp2_with ((go_at_call 20; refine num_any.mono ?_; rintro e w' ⟨rfl, rfl⟩))
  refine (HPw.out w6 ((G_x.out).next S6.out).rd ((G_x.out).next S6.out).len.1).mono ?_
  rintro e w7 ⟨A7, n7, k7, rfl, hg7, hb7⟩
  have S7 := Lib.hid hb7
  have z7 : w6.heap.size ≤ w7.heap.size := S7.out.size
  clear hb7
  have G_p := Lib.hid hg7
  clear hg7
  go_wp2_with fail
  refine (HRx.out w7 (((G_x.out).next S6.out).next S7.out).rd (((G_x.out).next S6.out).next S7.out).len.1).mono ?_
  rintro e w8 ⟨A8, n8, k8, rfl, hg8, hb8⟩
  have S8 := Lib.hid hb8
  have z8 : w7.heap.size ≤ w8.heap.size := S8.out.size
  clear hb8
  have G_z := Lib.hid hg8
  clear hg8
  go_wp2_with fail
  refine (HIy.out w8 (((G_y.out).next S7.out).next S8.out).rd (((G_y.out).next S7.out).next S8.out).len.1).mono ?_
  rintro e w9 ⟨A9, n9, k9, rfl, hg9, hb9⟩
  have S9 := Lib.hid hb9
  have z9 : w8.heap.size ≤ w9.heap.size := S9.out.size
  clear hb9
  have G_b := Lib.hid hg9
  clear hg9
  go_wp2_with ((go_at_call 20; refine num_any.mono ?_; rintro e w' ⟨rfl, rfl⟩))
  refine (HSp.out w9 (((G_p.out).next S8.out).next S9.out).rd (((G_p.out).next S8.out).next S9.out).len.1 ((((((((((HS.out).next S1.out).next S2.out).next S3.out).next S4.out).next S5.out).next S6.out).next S7.out).next S8.out).next S9.out)).mono ?_
  rintro e w10 ⟨rfl, hb10⟩
  have S10 := Lib.hid hb10
  have z10 : w9.heap.size ≤ w10.heap.size := S10.out.size
  clear hb10
  go_wp2_with ((go_at_call 20; refine num_any.mono ?_; rintro e w' ⟨rfl, rfl⟩))
  refine (HSz.out w10 (((G_z.out).next S9.out).next S10.out).rd (((G_z.out).next S9.out).next S10.out).len.1 ((((((G_x.out).next S6.out).next S7.out).next S8.out).next S9.out).next S10.out).rd ((((((G_x.out).next S6.out).next S7.out).next S8.out).next S9.out).next S10.out).len.1).mono ?_
  rintro e w11 ⟨rfl, hb11⟩
  have S11 := Lib.hid hb11
  have z11 : w10.heap.size ≤ w11.heap.size := S11.out.size
  clear hb11
  go_wp2_with ((go_at_call 20; refine num_any.mono ?_; rintro e w' ⟨rfl, rfl⟩))
  refine (HSx.out w11 (((((((G_x.out).next S6.out).next S7.out).next S8.out).next S9.out).next S10.out).next S11.out).rd (((((((G_x.out).next S6.out).next S7.out).next S8.out).next S9.out).next S10.out).next S11.out).len.1 ((((((G_y.out).next S7.out).next S8.out).next S9.out).next S10.out).next S11.out).rd ((((((G_y.out).next S7.out).next S8.out).next S9.out).next S10.out).next S11.out).len.1).mono ?_
  rintro e w12 ⟨rfl, hb12⟩
  have S12 := Lib.hid hb12
  have z12 : w11.heap.size ≤ w12.heap.size := S12.out.size
  clear hb12
  cases d1
  · skip
    go_wp2_with fail
    refine (HSb.out w12 ((((((((G_x.out).next S6.out).next S7.out).next S8.out).next S9.out).next S10.out).next S11.out).next S12.out).rd ((((((((G_x.out).next S6.out).next S7.out).next S8.out).next S9.out).next S10.out).next S11.out).next S12.out).len.1 ((((G_b.out).next S10.out).next S11.out).next S12.out).rd ((((G_b.out).next S10.out).next S11.out).next S12.out).len.1).mono ?_
    rintro e w13 ⟨rfl, hb13⟩
    have S13 := Lib.hid hb13
    have z13 : w12.heap.size ≤ w13.heap.size := S13.out.size
    clear hb13
    have BB := Lib.hid ((((((((((((((Below.refl w.heap.size w).trans (S1.out.mono (by omega))).trans (S2.out.mono (by omega))).trans (S3.out.mono (by omega))).trans (S4.out.mono (by omega))).trans (S5.out.mono (by omega))).trans (S6.out.mono (by omega))).trans (S7.out.mono (by omega))).trans (S8.out.mono (by omega))).trans (S9.out.mono (by omega))).trans (S10.out.mono (by omega))).trans (S11.out.mono (by omega))).trans (S12.out.mono (by omega))).trans (S13.out.mono (by omega)))
    go_wp2_with fail
    go_ret
    exact ⟨by rw [HCt.out]; cases d2 <;> rfl, BB.out⟩
  · skip
    have BB := Lib.hid (((((((((((((Below.refl w.heap.size w).trans (S1.out.mono (by omega))).trans (S2.out.mono (by omega))).trans (S3.out.mono (by omega))).trans (S4.out.mono (by omega))).trans (S5.out.mono (by omega))).trans (S6.out.mono (by omega))).trans (S7.out.mono (by omega))).trans (S8.out.mono (by omega))).trans (S9.out.mono (by omega))).trans (S10.out.mono (by omega))).trans (S11.out.mono (by omega))).trans (S12.out.mono (by omega)))
    go_wp2_with fail
    go_ret
    exact ⟨by rw [HCt.out]; rfl, BB.out⟩
end Go.Proofs.YtmjnhpagoboejaaDoor

/- words.Alike, ref.Alike (printed by gen_alike.py). -/
namespace Go.Proofs.YtmjnhpagoboejaaDoor
open Go.RowKit
open Wd
set_option linter.unusedSimpArgs false
set_option linter.unusedVariables false

def rot (a : List Int) (i : Nat) : List Int := a.drop i ++ a.take i
/-- whether b is one of a's rotations from here on; of empty words: yes -/
def alikeN (a b : List Int) : Nat → Nat → Bool
  | 0, _ => decide (a.length = 0)
  | f + 1, i => if rot a i = b then true else alikeN a b f (i + 1)
def alikeL (a b : List Int) : Bool := if a.length = b.length then alikeN a b a.length 0 else false
def alikeB (a b : List Int) : Bool := alikeL (core (short a)) (core (short b))
theorem alikeN_hit {a b : List Int} {i : Nat} (hi : i < a.length) (h : rot a i = b) : alikeN a b (a.length - i) i = true := by
  rw [show a.length - i = (a.length - (i + 1)) + 1 by omega, alikeN, if_pos h]
theorem alikeN_miss {a b : List Int} {i : Nat} (hi : i < a.length) (h : ¬ rot a i = b) : alikeN a b (a.length - i) i = alikeN a b (a.length - (i + 1)) (i + 1) := by
  rw [show a.length - i = (a.length - (i + 1)) + 1 by omega, alikeN, if_neg h]
theorem alikeN_end {a b : List Int} {i : Nat} (hi : a.length ≤ i) : alikeN a b (a.length - i) i = decide (a.length = 0) := by
  rw [show a.length - i = 0 by omega, alikeN]
theorem nat_beq (n : Nat) : (((n : Int)) == 0) = decide (n = 0) := by
  rcases Nat.eq_zero_or_pos n with h | h
  · subst h; rfl
  · rw [decide_eq_false (by omega)]; simp; omega
theorem rot_len (a : List Int) (i : Nat) : (rot a i).length = a.length := by
  unfold rot
  rw [List.length_append, List.length_drop, List.length_take]
  omega
theorem rot_twice {a : List Int} {i : Nat} (hi : i ≤ a.length) : ((a ++ a).drop i).take a.length = rot a i := by
  unfold rot
  rw [List.drop_append, List.take_append, show i - a.length = 0 by omega, List.drop_zero, List.length_drop, show a.length - (a.length - i) = i by omega, List.take_of_length_le (by rw [List.length_drop]; omega)]
set_option maxRecDepth 100000 in
set_option maxHeartbeats 8000000 in
/-- the reference's, of words as they stand -/
theorem ralike_any {w : World} {B na ca nb cb : Nat} {Aa Ab : Option Addr} {a b : List Int} (hra : ReadsI w B Aa a) (hrb : ReadsI w B Ab b) (hB : B ≤ w.heap.size) (hna : na = a.length) (hnb : nb = b.length) (hva : LetL a) (hvb : LetL b) (hla : na ≤ 10000) (hlb : nb ≤ 10000) (hca : na ≤ ca) (hcb : nb ≤ cb) (hma : ca ≤ 9223372036854775807) (hmb : cb ≤ 9223372036854775807) :
    Calls Tryd.prog 46 #[.slice Aa na ca, .slice Ab nb cb] w (fun e w' => e = .returned (.bool (alikeL (core a) (core b))) ∧ Below w.heap.size w w') := by
  have HC1 := Lib.hid (rcore_any hra hB hna hca hva (by omega) hma)
  have HC2 := Lib.hid (fun (W : World) (h : Below w.heap.size w W) => rcore_any (w := W) (hrb.below (h.mono hB)) (Nat.le_trans hB h.size) hnb hcb hvb (by omega) hmb)
  have HB := Lib.hid hB
  have hlc1 := core_len a
  have hlc2 := core_len b
  obtain ⟨X, hX⟩ : ∃ X, X = core a := ⟨_, rfl⟩
  obtain ⟨Y, hY⟩ : ∃ Y, Y = core b := ⟨_, rfl⟩
  obtain ⟨R, hR⟩ : ∃ R, R = alikeL X Y := ⟨_, rfl⟩
  rw [← hX, ← hY, ← hR]
  rw [← hX] at hlc1
  rw [← hY] at hlc2
  obtain ⟨nx, hnx⟩ : ∃ nx, nx = X.length := ⟨_, rfl⟩
  obtain ⟨ny, hny⟩ : ∃ ny, ny = Y.length := ⟨_, rfl⟩
  have HX := Lib.hid (And.intro hX hY)
  have HR := Lib.hid hR
  have HN := Lib.hid (And.intro hnx hny)
  have hx1 : nx ≤ 10000 := by omega
  have hy1 : ny ≤ 10000 := by omega
  clear hra hrb hB hna hnb hva hvb hla hlb hca hcb hma hmb hlc1 hlc2 hX hY hR hnx hny
  go_enter Tryd.func46, Tryd.ntmps46
  go_wp2_with fail
  refine HC1.out.mono ?_
  rintro e w1 ⟨A1, c1, A1', n1', c1', rfl, hr1, hc1, _, hb1⟩
  rw [← HX.out.1] at hr1 hc1 ⊢
  rw [← HN.out.1] at hc1 ⊢
  have H1 := Lib.hid (And.intro hr1 hb1)
  clear hr1 hb1
  go_wp2_with fail
  refine (HC2.out w1 H1.out.2).mono ?_
  rintro e w2 ⟨A2, c2, A2', n2', c2', rfl, hr2, hc2, _, hb2⟩
  rw [← HX.out.2] at hr2 hc2 ⊢
  rw [← HN.out.2] at hc2 ⊢
  have hb12 := H1.out.2.trans (hb2.mono H1.out.2.size)
  have hs2 := hb12.size
  have H2 := Lib.hid (And.intro (show ReadsI w2 w2.heap.size A1 X from ((H1.out.1.below (hb2.mono (Nat.le_trans HB.out H1.out.2.size))).more (Nat.le_trans HB.out hs2))) (And.intro (show ReadsI w2 w2.heap.size A2 Y from hr2.more (Nat.le_trans HB.out hs2)) hb12))
  clear hr2 hb2 hb12
  by_cases hxy : nx = ny
  · subst hxy
    have hbeq : ((nx : Int) != (nx : Int)) = false := by simp
    have HR2 := Lib.hid (show alikeN X Y nx 0 = R by
      rw [HR.out]; unfold alikeL; rw [if_pos (by rw [← HN.out.1, ← HN.out.2]), ← HN.out.1])
    go_wp2_with fail
    go_loopg [9] nx (fun k iv wr => ∃ (i : Nat), iv = .int .i64 (i : Int) ∧ k = nx - i ∧ i ≤ nx ∧ Hid (alikeN X Y (nx - i) i = R) ∧ Hid (Below w2.heap.size w2 wr))
    case atStart => exact ⟨0, rfl, by omega, by omega, Lib.hid (by rw [Nat.sub_zero]; exact HR2.out), Lib.hid (Below.refl _ _)⟩
    case round =>
      obtain ⟨i, rfl, hk, hin, hal, hO⟩ := hrel
      have Hk := Lib.hid hk
      clear hk
      by_cases hi : i < nx
      · have hii : (i : Int) < (nx : Int) := by omega
        obtain ⟨ad, hA1, _, _⟩ := H2.out.1.at_ (k := i) (by rw [← HN.out.1]; exact hi)
        subst hA1
        have hsr := hO.out.size
        have r1 : ReadsI wr wr.heap.size (some (ad.add i)) (X.drop i) := by
          have h := reads_part (H2.out.1.below hO.out) i (X.length - i) (by have := HN.out.1; omega)
          rw [List.take_of_length_le (by rw [List.length_drop]; omega)] at h
          exact h.more hsr
        have r2 : ReadsI wr wr.heap.size (some ad) (X.take i) := (ReadsI.take (m := X.drop i) (by rw [List.take_append_drop]; exact (H2.out.1.below hO.out).more hsr))
        have Hr := Lib.hid (And.intro r1 r2)
        have Hl := Lib.hid (show nx - i = (X.drop i).length ∧ i = (X.take i).length ∧ (X.drop i).length + (X.take i).length ≤ 1000000000 by rw [List.length_drop, List.length_take]; have := HN.out.1; omega)
        have Hhit := Lib.hid (fun h : rot X i = Y => show R = true by rw [← hal.out, HN.out.1]; exact alikeN_hit (by have := HN.out.1; omega) h)
        have Hmiss := Lib.hid (fun h : ¬ rot X i = Y => show alikeN X Y (nx - (i + 1)) (i + 1) = R by rw [← hal.out, HN.out.1]; exact (alikeN_miss (by have := HN.out.1; omega) h).symm)
        clear r1 r2
        have t1 : (i : Int) ≤ (nx : Int) := by omega
        have t2 : (i : Int) ≤ (c1 : Int) := by omega
        have t3 : i ≤ c1 := by omega
        have t4 : i ≤ nx := by omega
        rcases Decidable.em (c1 = i) with hci | hci
        · exfalso; omega
        · go_wp2_with fail
          refine wp_region_noPanic ?_
          refine wp_region_held_drew (S := fun w' => Below wr.heap.size wr w') (by kernel_rfl) (Below.refl _ _).drew (fun hHeld => ?_)
          have b0 : Below wr.heap.size wr wr.drew := hHeld
          have HJ := Lib.hid (rjoin2 (w := wr.drew) (c1 := c1 - i) (c2 := c1) (Hr.out.1.below b0) (Hr.out.2.below b0) b0.size Hl.out.1 Hl.out.2.1 Hl.out.2.2)
          refine wpAnyH_take (i := 0) (oi := Oper.mk (some 31) _ _ _ _ _) (v := ?_) rfl (by kernel_rfl) (by kernel_rfl) (by kernel_rfl) (fun _ _ _ h => h) (Or.inl ⟨by rfl, ?_⟩) (by assumption) ?_
          rotate_left
          · (intro w' hSw; (try dsimp only at hSw); go_simp; try with_reducible rfl)
          try simp only [Act.put, List.setIfInBounds_toArray, List.set_cons_zero, List.set_cons_succ]
          refine wpAnyH_take (i := 1) (oi := Oper.mk (some 32) _ _ _ _ _) (v := ?_) rfl (by kernel_rfl) (by kernel_rfl) (by kernel_rfl) (fun _ _ _ h => h) (Or.inl ⟨by rfl, ?_⟩) (by assumption) ?_
          rotate_left
          · (intro w' hSw; (try dsimp only at hSw); go_simp; try with_reducible rfl)
          try simp only [Act.put, List.setIfInBounds_toArray, List.set_cons_zero, List.set_cons_succ]
          refine wpAnyH_take (i := 2) (oi := Oper.mk (some 33) _ _ _ _ _) (v := ?_) rfl (by kernel_rfl) (by kernel_rfl) (by kernel_rfl) (fun _ _ _ h => h) (Or.inl ⟨by rfl, ?_⟩) (by assumption) ?_
          rotate_left
          · (intro w' hSw; (try dsimp only at hSw); go_simp; try with_reducible rfl)
          try simp only [Act.put, List.setIfInBounds_toArray, List.set_cons_zero, List.set_cons_succ]
          refine wpAnyH_take (i := 3) (oi := Oper.mk (some 34) _ _ _ _ _) (v := ?_) rfl (by kernel_rfl) (by kernel_rfl) (by kernel_rfl) (fun _ _ _ h => h) (Or.inl ⟨by rfl, ?_⟩) (by assumption) ?_
          rotate_left
          · (intro w' hSw; (try dsimp only at hSw); go_simp; try with_reducible rfl)
          try simp only [Act.put, List.setIfInBounds_toArray, List.set_cons_zero, List.set_cons_succ]
          refine wpAnyH_take (i := 4) (oi := Oper.mk (some 35) _ _ _ _ _) (v := ?_) rfl (by kernel_rfl) (by kernel_rfl) (by kernel_rfl) (fun _ _ _ h => h) (Or.inl ⟨by rfl, ?_⟩) (by assumption) ?_
          rotate_left
          · (intro w' hSw; (try dsimp only at hSw); go_simp; try with_reducible rfl)
          try simp only [Act.put, List.setIfInBounds_toArray, List.set_cons_zero, List.set_cons_succ]
          refine wpAnyH_take (i := 5) (oi := Oper.mk (some 36) _ _ _ _ _) (v := ?_) rfl (by kernel_rfl) (by kernel_rfl) (by kernel_rfl) (fun _ _ _ h => h) (Or.inl ⟨by rfl, ?_⟩) (by assumption) ?_
          rotate_left
          · (intro w' hSw; (try dsimp only at hSw); go_simp; try with_reducible rfl)
          try simp only [Act.put, List.setIfInBounds_toArray, List.set_cons_zero, List.set_cons_succ]
          refine wpAnyH_take (i := 8) (oi := Oper.mk (some 39) _ _ _ _ _) (v := ?_) rfl (by kernel_rfl) (by kernel_rfl) (by kernel_rfl) (fun _ _ _ h => h) (Or.inl ⟨by rfl, ?_⟩) (by assumption) ?_
          rotate_left
          · (intro w' hSw; (try dsimp only at hSw); go_simp; try with_reducible rfl)
          try simp only [Act.put, List.setIfInBounds_toArray, List.set_cons_zero, List.set_cons_succ]
          refine wpAnyH_ready (rs := [6]) (by kernel_rfl) (by simp) ?_
          refine AllReadyH.cons (o := Oper.mk (some 37) _ _ _ _ _) rfl (fun K hK => ?_) AllReadyH.nil
          go_simp
          try simp only []
          refine hK.out _ _ (b0.alloc b0.size (.cells #[.slice (some (ad.add i)) (nx - i) (c1 - i), .slice (some ad) i c1] 22)) (fun _ => ?_)
          clear hK K hHeld
          have hHeld := (b0.alloc b0.size (.cells #[.slice (some (ad.add i)) (nx - i) (c1 - i), .slice (some ad) i c1] 22))
          try simp only [Act.put, List.setIfInBounds_toArray, List.set_cons_zero, List.set_cons_succ]
          refine wpAnyH_ready (rs := [7]) (by kernel_rfl) (by simp) ?_
          refine AllReadyH.cons (o := Oper.mk (some 38) _ _ _ _ _) rfl (fun K hK => ?_) AllReadyH.nil
          go_simp
          refine HJ.out.mono ?_
          rintro e w5 ⟨A5, n5, c5, rfl, ho5, hb5⟩
          try simp only []
          have b5 : Below wr.heap.size wr w5 := Below.trans b0 (hb5.mono b0.size)
          have Ho5 := Lib.hid (show OwnI w5 wr.heap.size (.slice A5 n5 c5) (rot X i) from ho5.lower b0.size)
          have HY := Lib.hid (((H2.out.2.1.below hO.out).more hsr).below b5 |>.more b5.size)
          clear hb5 ho5
          refine hK.out _ _ b5 (fun _ => ?_)
          clear hK K hHeld
          have hHeld := b5
          try simp only [Act.put, List.setIfInBounds_toArray, List.set_cons_zero, List.set_cons_succ]
          refine wpAnyH_ready (rs := [9]) (by kernel_rfl) (by simp) ?_
          refine AllReadyH.cons (o := Oper.mk (some 40) _ _ _ _ _) rfl (fun K hK => ?_) AllReadyH.nil
          go_simp
          refine (same_any (w := w5) (c := c5) (c' := c2) Ho5.out.reads HY.out Ho5.out.len.1 HN.out.2 (by have := Ho5.out.len.1; have := rot_len X i; have := HN.out.1; omega) (by omega)).mono ?_
          rintro e w6 ⟨d6, rfl, rfl⟩
          try simp only []
          have b6 : Below wr.heap.size wr (w5.drewN d6) := bdrew b5 d6
          refine hK.out _ _ b6 (fun _ => ?_)
          clear hK K hHeld
          have hHeld := b6
          try simp only [Act.put, List.setIfInBounds_toArray, List.set_cons_zero, List.set_cons_succ]
          refine wpAnyH_done (by kernel_rfl) ?_ _
          refine NoPanic.normal ?_
          rcases Decidable.em (rot X i = Y) with he | he
          · have Hhe := Lib.hid (Hhit.out he)
            rw [decide_eq_true he]
            clear he
            go_wp2_with fail
            go_ret
            exact ⟨by rw [Hhe.out]; rfl, H2.out.2.2.trans ((hO.out.trans (b6.mono hsr)).mono H2.out.2.2.size)⟩
          · have Hhe := Lib.hid (Hmiss.out he)
            rw [decide_eq_false he]
            clear he
            go_wp2_with fail
            go_roundg (nx - (i + 1))
            case measure => have := Hk.out; omega
            case rel => exact ⟨i + 1, rfl, rfl, by omega, Hhe, Lib.hid (hO.out.trans (b6.mono hsr))⟩
      · have hii : (nx : Int) ≤ (i : Int) := by omega
        have hii2 : ¬ (i : Int) < (nx : Int) := by omega
        have Hend := Lib.hid (show R = decide (nx = 0) by rw [← hal.out, HN.out.1]; exact alikeN_end (by have := HN.out.1; omega))
        go_wp2_with fail
        go_ret
        exact ⟨by rw [Hend.out, ← nat_beq nx]; rfl, H2.out.2.2.trans (hO.out.mono H2.out.2.2.size)⟩
  · have hbeq : ((nx : Int) != (ny : Int)) = true := by simp; omega
    have HR2 := Lib.hid (show R = false by
      rw [HR.out]; unfold alikeL; rw [if_neg (by rw [← HN.out.1, ← HN.out.2]; exact hxy)])
    go_wp2_with fail
    go_ret
    exact ⟨by rw [HR2.out]; rfl, H2.out.2.2⟩
set_option maxRecDepth 100000 in
set_option maxHeartbeats 8000000 in
theorem walike_out {w : World} {B na ca nb cb : Nat} {Aa Ab : Option Addr} {a b : List Int} (hra : ReadsI w B Aa a) (hrb : ReadsI w B Ab b) (hB : B ≤ w.heap.size) (hna : na = a.length) (hnb : nb = b.length) (hwa : Wf a) (hwb : Wf b) (hla : na ≤ 100000000) (hlb : nb ≤ 100000000) :
    Calls Tryd.prog 42 #[.slice Aa na ca, .slice Ab nb cb] w (AskOut w (.bool (decide (chk [a, b] = 0) && alikeB a b)) (chk [a, b])) := by
  have h2 := rows_lit w [(Aa, ca, a), (Ab, cb, b)] (B := B) (fun r hr => by
    simp only [List.mem_cons, List.mem_nil_iff, or_false] at hr
    rcases hr with rfl | rfl
    · exact hra
    · exact hrb) hB
  have hall : ∀ r ∈ [((Aa, ca, a) : SRow), (Ab, cb, b)], Wf r.2.2 ∧ r.2.2.length ≤ 1000000000000 := fun r hr => by
    simp only [List.mem_cons, List.mem_nil_iff, or_false] at hr
    rcases hr with rfl | rfl
    · exact ⟨hwa, by show a.length ≤ _; omega⟩
    · exact ⟨hwb, by show b.length ≤ _; omega⟩
  have HC := Lib.hid (show Calls Tryd.prog 57 #[.slice (some ⟨w.heap.size, 0, none⟩) 2 2] (w.alloc (.cells #[.slice Aa na ca, .slice Ab nb cb] 22)) (fun e w' => e = .returned (.int .i64 (chk [a, b])) ∧ w.alloc (.cells #[.slice Aa na ca, .slice Ab nb cb] 22) = w') by
    rw [hna, hnb]; exact check_any (c := 2) (n := 2) h2 rfl (by decide) hall)
  obtain ⟨W, hW⟩ : ∃ W, W = w.alloc (.cells #[.slice Aa na ca, .slice Ab nb cb] 22) := ⟨_, rfl⟩
  have HB0 := Lib.hid (show Below w.heap.size w W by rw [hW]; exact (Below.refl w.heap.size w).alloc (Nat.le_refl _) _)
  have hsW : w.heap.size ≤ W.heap.size := HB0.out.size
  clear h2 hall
  by_cases hz : chk [a, b] = 0
  · rw [hz] at HC ⊢
    have hlets := chk_words hz
    have hlA := hlets a (by simp)
    have hlB := hlets b (by simp)
    have HR := Lib.hid (And.intro (show ReadsI W W.heap.size Aa a by rw [hW]; exact (hra.alloc hB _).more (by simp; omega)) (show ReadsI W W.heap.size Ab b by rw [hW]; exact (hrb.alloc hB _).more (by simp; omega)))
    have Hn := Lib.hid (And.intro hna hnb)
    have HL := Lib.hid (And.intro hlA hlB)
    have hsa := short_len_le a
    have hsb := short_len_le b
    have HO := Lib.hid (fun (V : World) (B' nx cx : Nat) (Ax : Option Addr) (l : List Int) (hr : ReadsI V W.heap.size Ax l) (hW' : W.heap.size ≤ B') (hB' : B' ≤ V.heap.size) (hn : nx = l.length) (hl : LetL l) (h2 : l.length ≤ 10000) => on_any (cw := cx) (OwnI.nil V B') (hr.more hW') hB' hn hl (by simp) (by omega))
    have Hs := Lib.hid (show (short a).length ≤ 4096 ∧ (short b).length ≤ 4096 by omega)
    have HLS := Lib.hid (And.intro (letl_short hlA.1) (letl_short hlB.1))
    obtain ⟨X, hX⟩ : ∃ X, X = core (short a) := ⟨_, rfl⟩
    obtain ⟨Y, hY⟩ : ∃ Y, Y = core (short b) := ⟨_, rfl⟩
    obtain ⟨R, hR⟩ : ∃ R, R = (decide ((0 : Int) = 0) && alikeB a b) := ⟨_, rfl⟩
    have HR0 := Lib.hid (show R = alikeL X Y by rw [hR, hX, hY]; simp [alikeB])
    rw [← hR]
    obtain ⟨nx, hnx⟩ : ∃ nx, nx = X.length := ⟨_, rfl⟩
    obtain ⟨ny, hny⟩ : ∃ ny, ny = Y.length := ⟨_, rfl⟩
    have hcx : nx = (short a).length - 2 * parts (short a) := by rw [hnx, hX, core_len]
    have hcy : ny = (short b).length - 2 * parts (short b) := by rw [hny, hY, core_len]
    have hx1 : nx ≤ 4096 := by omega
    have hy1 : ny ≤ 4096 := by omega
    have HX := Lib.hid (And.intro hX hY)
    have HN := Lib.hid (And.intro hnx hny)
    have Hc := Lib.hid (And.intro hcx hcy)
    have HW := Lib.hid hW
    clear hW hX hY hR hnx hny hcx hcy
    clear hra hrb hB hna hnb hwa hwb hz hlets hlA hlB hsa hsb
    go_enter Tryd.func42, Tryd.ntmps42
    go_wp2_with fail
    refine HC.out.mono ?_
    rintro e w' ⟨rfl, hw'⟩
    have hw2 : W = w' := HW.out.trans hw'
    clear hw'
    subst hw2
    go_wp2_with fail
    refine (HO.out W W.heap.size na ca Aa a HR.out.1 (Nat.le_refl _) (Nat.le_refl _) Hn.out.1 HL.out.1.1 (by have := HL.out.1.2; omega)).mono ?_
    rintro e w2 ⟨A2, n2, c2, rfl, ho2, hg2, _⟩
    have ho2' : OwnI w2 W.heap.size (.slice A2 n2 c2) (short a) := ho2
    have HP := Lib.hid (parted_any ho2'.reads ho2'.len.1 ho2'.len.2.1 HLS.out.1 (by have := Hs.out; have := ho2'.len.1; omega) ho2'.len.2.2)
    have Hn2 := Lib.hid ho2'.len.1
    have H2 := Lib.hid (show Below W.heap.size W w2 from (Below.refl _ _).grown hg2 (Nat.le_refl _) (fun g hg => by cases hg))
    clear ho2 hg2 ho2'
    go_wp2_with fail
    refine HP.out.mono ?_
    rintro e w3 ⟨A3, c3, A3', c3', d3, rfl, hr3, _, hc3, _, _, _, hw3⟩
    have ex : n2 - 2 * parts (short a) = nx := by rw [Hn2.out]; exact Hc.out.1.symm
    rw [ex] at hc3 ⊢
    rw [← HX.out.1] at hr3
    have hb3 : Below W.heap.size W w3 := by rw [← hw3]; exact bdrew H2.out d3
    have H3 := Lib.hid (And.intro (show ReadsI w3 w3.heap.size A3 X by rw [← hw3]; exact hr3.drewN d3) hb3)
    clear hr3 hw3 hb3 ex
    go_wp2_with fail
    refine (HO.out w3 w3.heap.size nb cb Ab b (HR.out.2.below H3.out.2) H3.out.2.size (Nat.le_refl _) Hn.out.2 HL.out.2.1 (by have := HL.out.2.2; omega)).mono ?_
    rintro e w4 ⟨A4, n4, c4, rfl, ho4, hg4, _⟩
    have ho4' : OwnI w4 w3.heap.size (.slice A4 n4 c4) (short b) := ho4
    have HP2 := Lib.hid (parted_any ho4'.reads ho4'.len.1 ho4'.len.2.1 HLS.out.2 (by have := Hs.out; have := ho4'.len.1; omega) ho4'.len.2.2)
    have Hn4 := Lib.hid ho4'.len.1
    have H4 := Lib.hid (show Below w3.heap.size w3 w4 from (Below.refl _ _).grown hg4 (Nat.le_refl _) (fun g hg => by cases hg))
    clear ho4 hg4 ho4'
    go_wp2_with fail
    refine HP2.out.mono ?_
    rintro e w5 ⟨A5, c5, A5', c5', d5, rfl, hr5, _, hc5, _, _, _, hw5⟩
    have ey : n4 - 2 * parts (short b) = ny := by rw [Hn4.out]; exact Hc.out.2.symm
    rw [ey] at hc5 ⊢
    rw [← HX.out.2] at hr5
    have hb5 : Below w3.heap.size w3 w5 := by rw [← hw5]; exact bdrew H4.out d5
    have hb05 := H3.out.2.trans (hb5.mono H3.out.2.size)
    have H5 := Lib.hid (And.intro (show ReadsI w5 w5.heap.size A3 X from (H3.out.1.below hb5).more hb5.size) (And.intro (show ReadsI w5 w5.heap.size A5 Y by rw [← hw5]; exact hr5.drewN d5) (HB0.out.trans (hb05.mono hsW))))
    clear hr5 hw5 hb5 hb05 ey HP HP2 H2 H3 H4 Hn2 Hn4 HO HR HLS Hs HL
    by_cases hxy : nx = ny
    · subst hxy
      have hbeq : ((nx : Int) != (nx : Int)) = false := by simp
      have HR2 := Lib.hid (show alikeN X Y nx 0 = R by
        rw [HR0.out]; unfold alikeL; rw [if_pos (by rw [← HN.out.1, ← HN.out.2]), ← HN.out.1])
      have HCl := Lib.hid (clone_any (w := w5) (c := c3) H5.out.1 HN.out.1 (Nat.le_refl _) (by omega))
      go_wp2_with fail
      refine HCl.out.mono ?_
      rintro e w6 ⟨A6, c6, rfl, ho6, hb6⟩
      have H6 := Lib.hid (And.intro ho6 hb6)
      clear ho6 hb6
      go_wp2_with (refine wpI_append rfl (.tmp 38) (.tmp 39) rfl w5.heap.size _ X X H6.out.1 rfl rfl HN.out.1 (H5.out.1.below H6.out.2) (by have := HN.out.1; omega) (by have := HN.out.1; omega) H6.out.2.size ?_; intro A7 n7 c7 w7 ho7 hn7 hc7 hg7 hw7 hb7; have Ho7 := Lib.hid (And.intro ho7 (And.intro hn7 (hb7 _ H6.out.2))); clear ho7 hn7 hg7 hw7 hb7)
      have hn7 : n7 = nx + nx := by have := Ho7.out.2.1; have := HN.out.1; omega
      subst hn7
      have h07 : Below w.heap.size w w7 := H5.out.2.2.trans (Ho7.out.2.2.mono H5.out.2.2.size)
      have H7 := Lib.hid (And.intro Ho7.out.1.reads (And.intro ((H5.out.2.1.below Ho7.out.2.2).more Ho7.out.2.2.size) h07))
      have hs7 := h07.size
      clear HCl HC h07
      go_wp2_with fail
      go_loopg [43] nx (fun k iv wr => ∃ (i : Nat), iv = .int .i64 (i : Int) ∧ k = nx - i ∧ i ≤ nx ∧ Hid (alikeN X Y (nx - i) i = R) ∧ Hid (Below w7.heap.size w7 wr))
      case atStart => exact ⟨0, rfl, by omega, by omega, Lib.hid (by rw [Nat.sub_zero]; exact HR2.out), Lib.hid (Below.refl _ _)⟩
      case round =>
        obtain ⟨i, rfl, hk, hin, hal, hO⟩ := hrel
        have Hk := Lib.hid hk
        clear hk
        by_cases hi : i < nx
        · have hii : (i : Int) < (nx : Int) := by omega
          obtain ⟨ad, hA1, _, _⟩ := H7.out.1.at_ (k := i) (by rw [List.length_append, ← HN.out.1]; omega)
          subst hA1
          have hsr := hO.out.size
          have r1 : ReadsI wr wr.heap.size (some (ad.add i)) (rot X i) := by
            have h := reads_part (H7.out.1.below hO.out) i X.length (by rw [List.length_append]; have := HN.out.1; omega)
            rw [rot_twice (by have := HN.out.1; omega)] at h
            exact h.more hsr
          have HE := Lib.hid (equal_any (w := wr) (c := c7 - i) (c' := c5) r1 ((H7.out.2.1.below hO.out).more hsr) (show nx = (rot X i).length by rw [rot_len]; exact HN.out.1) HN.out.2 (by omega) (by omega))
          have Hhit := Lib.hid (fun h : rot X i = Y => show R = true by rw [← hal.out, HN.out.1]; exact alikeN_hit (by have := HN.out.1; omega) h)
          have Hmiss := Lib.hid (fun h : ¬ rot X i = Y => show alikeN X Y (nx - (i + 1)) (i + 1) = R by rw [← hal.out, HN.out.1]; exact (alikeN_miss (by have := HN.out.1; omega) h).symm)
          clear r1
          have t1 : ((i : Int) + (nx : Int)).toNat = i + nx := by omega
          have t2 : (i : Int) + (nx : Int) ≤ (c7 : Int) := by omega
          have t3 : ¬ c7 = i := by omega
          have t4 : (i : Int) ≤ (i : Int) + (nx : Int) := by omega
          have t5 : (0 : Int) ≤ (i : Int) + (nx : Int) := by omega
          have t6 : i + nx - i = nx := by omega
          have t7 : IntKind.i64.wrap ((i : Int) + (nx : Int)) = (i : Int) + (nx : Int) := by rw [IntKind.wrap_i64]; omega
          go_wp2_with fail
          refine HE.out.mono ?_
          rintro e w8 ⟨d8, rfl, rfl⟩
          rcases Decidable.em (rot X i = Y) with he | he
          · have Hhe := Lib.hid (Hhit.out he)
            rw [decide_eq_true he]
            clear he
            go_wp2_with fail
            go_ret2
            exact ⟨by rw [Hhe.out]; rfl, H7.out.2.2.trans ((bdrew hO.out d8).mono hs7)⟩
          · have Hhe := Lib.hid (Hmiss.out he)
            rw [decide_eq_false he]
            clear he
            go_wp2_with fail
            go_roundg (nx - (i + 1))
            case measure => have := Hk.out; omega
            case rel => exact ⟨i + 1, rfl, rfl, by omega, Hhe, Lib.hid (bdrew hO.out d8)⟩
        · have hii : (nx : Int) ≤ (i : Int) := by omega
          have hii2 : ¬ (i : Int) < (nx : Int) := by omega
          have Hend := Lib.hid (show R = decide (nx = 0) by rw [← hal.out, HN.out.1]; exact alikeN_end (by have := HN.out.1; omega))
          go_wp2_with fail
          go_ret2
          exact ⟨by rw [Hend.out, ← nat_beq nx]; rfl, H7.out.2.2.trans (hO.out.mono hs7)⟩
    · have hbeq : ((nx : Int) != (ny : Int)) = true := by simp; omega
      have HR2 := Lib.hid (show R = false by
        rw [HR0.out]; unfold alikeL; rw [if_neg (by rw [← HN.out.1, ← HN.out.2]; exact hxy)])
      go_wp2_with fail
      go_ret2
      exact ⟨by rw [HR2.out]; rfl, H5.out.2.2⟩
  · generalize hzz : chk [a, b] = z at *
    have hzb : (z != 0) = true := by simp; exact hz
    obtain ⟨R, hR⟩ : ∃ R, R = (decide (z = 0) && alikeB a b) := ⟨_, rfl⟩
    have Hd := Lib.hid (show R = false by rw [hR, decide_eq_false hz, Bool.false_and])
    rw [← hR]
    rw [Hd.out]
    rw [hW] at HB0
    clear hra hrb hB hna hnb hwa hwb hz hzz hR Hd hW hsW
    go_enter Tryd.func42, Tryd.ntmps42
    go_wp2_with fail
    refine HC.out.mono ?_
    rintro e w' ⟨rfl, rfl⟩
    go_wp2_with fail
    go_ret2
    exact ⟨rfl, HB0.out⟩
end Go.Proofs.YtmjnhpagoboejaaDoor

/- The theorem of the stage, plain: conjugates are alike; products do not hang on brackets. -/
namespace Go.Proofs.YtmjnhpagoboejaaDoor
open Wd

/-- one is the other turned -/
def Rt (a b : List Int) : Prop := ∃ x y, a = x ++ y ∧ b = y ++ x
theorem rt_refl (a : List Int) : Rt a a := ⟨a, [], (List.append_nil a).symm, rfl⟩
theorem rt_on {a r : List Int} {k : Int} (h : Rt a (k :: r)) : Rt a (r ++ [k]) := by
  obtain ⟨x, y, ha, hb⟩ := h
  cases y with
  | nil =>
    rw [List.nil_append] at hb
    rw [List.append_nil, ← hb] at ha
    exact ⟨[k], r, ha, rfl⟩
  | cons z y =>
    rw [List.cons_append] at hb
    injection hb with h1 h2
    subst h1 h2
    exact ⟨x ++ [k], y, by rw [ha]; simp, by simp⟩
theorem rt_off {a r : List Int} {k : Int} (h : Rt a (r ++ [k])) : Rt a (k :: r) := by
  obtain ⟨x, y, ha, hb⟩ := h
  rcases List.eq_nil_or_concat x with h0 | ⟨x', z, h0⟩
  · subst h0
    rw [List.append_nil] at hb
    rw [List.nil_append, ← hb] at ha
    exact ⟨r, [k], ha, rfl⟩
  · subst h0
    rw [List.concat_eq_append, ← List.append_assoc] at hb
    obtain ⟨h1, h2⟩ := List.append_inj' hb rfl
    injection h2 with h2 _
    subst h1 h2
    exact ⟨x', k :: y, by rw [ha]; simp, by simp⟩
theorem alikeN_at {a b : List Int} {i : Nat} (hi : i < a.length) (h : rot a i = b) : ∀ d j, j + d = i → alikeN a b (a.length - j) j = true
  | 0, j, hj => by
    have : j = i := by omega
    subst this
    exact alikeN_hit hi h
  | d + 1, j, hj => by
    by_cases h2 : rot a j = b
    · exact alikeN_hit (by omega) h2
    · rw [alikeN_miss (by omega) h2]
      exact alikeN_at hi h d (j + 1) (by omega)
theorem rt_alike {a b : List Int} (h : Rt a b) : alikeL a b = true := by
  obtain ⟨x, y, ha, hb⟩ := h
  have hl : a.length = b.length := by rw [ha, hb, List.length_append, List.length_append]; omega
  unfold alikeL
  rw [if_pos hl]
  rcases Nat.eq_zero_or_pos a.length with h0 | h0
  · rw [h0]
    show decide (a.length = 0) = true
    exact decide_eq_true h0
  · cases y with
    | nil =>
      have e : a = b := by rw [ha, hb]; simp
      refine alikeN_at (i := 0) h0 ?_ 0 0 rfl
      unfold rot
      rw [List.drop_zero, List.take_zero, List.append_nil]
      exact e
    | cons z y =>
      refine alikeN_at (i := x.length) (by rw [ha]; simp) ?_ x.length 0 (by omega)
      unfold rot
      rw [ha, List.drop_left, List.take_left]
      exact hb.symm
theorem red_snoc {m : List Int} {l k : Int} (h : Red (m ++ [l])) (hk : k ≠ 0) (hl : l ≠ -k) : Red (m ++ [l] ++ [k]) := by
  have h1 := red_rev' h
  rw [List.reverse_append] at h1
  have h2 : Red (k :: ([l].reverse ++ m.reverse)) := ⟨hk, hl, h1⟩
  have h3 := red_rev' h2
  simp at h3
  simpa using h3
theorem cyc_turn {m : List Int} {k : Int} (h : Cyc (k :: m)) : Cyc (m ++ [k]) := by
  have h3 := cyc_reps h (by simp) 3
  have e : reps 3 (k :: m) = [k] ++ ((m ++ [k]) ++ (m ++ [k])) ++ m := by simp [reps]
  rw [e] at h3
  exact red_mid h3
theorem cyc_turn' {m : List Int} {k : Int} (h : Cyc (m ++ [k])) : Cyc (k :: m) := by
  have h3 := cyc_reps h (by simp) 3
  have e : reps 3 (m ++ [k]) = m ++ ((k :: m) ++ (k :: m)) ++ [k] := by simp [reps]
  rw [e] at h3
  exact red_mid h3
theorem inv_one (k : Int) : inv [k] = [-k] := rfl
theorem nz_one {k : Int} (h : k ≠ 0) : Nz [k] := fun x hx => by rw [List.mem_singleton.1 hx]; exact h
theorem turn_one {s a : List Int} {k : Int} (hs : Red s) (hk : k ≠ 0) (h : Rt a (core (short ([-k] ++ s ++ [k])))) : Rt a (core s) := by
  have hn := red_nz hs
  have n1 := nz_one hk
  have n2 : Nz [-k] := nz_one (by omega)
  cases s with
  | nil =>
    have e := short_inv n2
    rw [inv_one, Int.neg_neg] at e
    rw [List.append_nil, e] at h
    exact h
  | cons z m =>
    by_cases hz : z = k
    · subst hz
      have e : short ([-z] ++ (z :: m) ++ [z]) = short (m ++ [z]) := by
        have h2 := short_mid (a := []) (b := m ++ [z]) (fun x hx => by cases hx) n1
        rw [List.nil_append, List.nil_append, inv_one] at h2
        rw [← h2]
        simp
      rw [e] at h
      rcases List.eq_nil_or_concat m with h0 | ⟨m', l, h0⟩
      · subst h0
        rw [List.nil_append, short_id (show Red [z] from hk)] at h
        exact h
      · rw [List.concat_eq_append] at h0
        subst h0
        by_cases hl : l = -z
        · subst hl
          have hm : m' ≠ [] := by
            rintro rfl
            exact hs.2.1 rfl
          have e2 : short (m' ++ [-z] ++ [z]) = m' := by
            have h2 := short_mid (a := m') (b := []) (nz_l (b := [-z]) (fun x hx => hn x (List.mem_cons_of_mem _ hx))) n1
            rw [inv_one, List.append_nil, List.append_nil] at h2
            rw [List.append_assoc, h2]
            exact short_id (red_mid (a := [z]) (c := [-z]) (by simpa using hs))
          rw [e2] at h
          have h3 := (core_conj [-z] m' (List.length_pos_iff.2 hm)).1
          rw [inv_one, Int.neg_neg] at h3
          have e3 : [z] ++ m' ++ [-z] = z :: (m' ++ [-z]) := by simp
          rw [e3] at h3
          rw [h3]
          exact h
        · have hc : Cyc (z :: (m' ++ [l])) := by
            refine cyc_iff hs ?_
            have e3 : (z :: (m' ++ [l])).getD ((z :: (m' ++ [l])).length - 1) 0 = l := by simp
            rw [e3]
            show z ≠ -l
            omega
          have hc2 := cyc_turn hc
          rw [short_id (cyc_red hc2), (cyc_core hc2).1] at h
          rw [(cyc_core hc).1]
          exact rt_off h
    · obtain ⟨m', l, h0⟩ : ∃ m' l, z :: m = m' ++ [l] := by
        rcases List.eq_nil_or_concat (z :: m) with h0 | ⟨m', l, h0⟩
        · cases h0
        · exact ⟨m', l, by rw [h0, List.concat_eq_append]⟩
      by_cases hl : l = -k
      · subst hl
        have hc : Cyc (z :: m) := by
          refine cyc_iff hs ?_
          have e3 : (z :: m).getD ((z :: m).length - 1) 0 = -k := by rw [h0]; simp
          rw [e3]
          show z ≠ - -k
          omega
        rw [h0] at hc h ⊢
        have hc2 := cyc_turn' hc
        have e : short ([-k] ++ (m' ++ [-k]) ++ [k]) = -k :: m' := by
          have h2 := short_mid (a := [-k] ++ m') (b := []) (red_nz (cyc_red hc2)) n1
          have h3 : short ([-k] ++ m') = -k :: m' := short_id (cyc_red hc2)
          rw [inv_one, List.append_nil, List.append_nil, h3] at h2
          rw [show [-k] ++ (m' ++ [-k]) ++ [k] = [-k] ++ m' ++ ([-k] ++ [k]) by simp, h2]
        rw [e, (cyc_core hc2).1] at h
        rw [(cyc_core hc).1]
        exact rt_on h
      · have r1 : Red ([-k] ++ (z :: m)) := ⟨by omega, by omega, hs⟩
        have r2 : Red ((z :: m) ++ [k]) := by
          rw [h0] at hs ⊢
          exact red_snoc hs hk hl
        have r3 := red_glue r1 (by simp) r2
        rw [List.append_assoc, short_id r3, ← inv_one, ← List.append_assoc, (core_conj [k] (z :: m) (by simp)).1] at h
        exact h
theorem turn_all : ∀ (W s a : List Int), Nz W → Red s → Rt a (core (short (inv W ++ s ++ W))) → Rt a (core s)
  | [], s, a, _, hs, h => by
    rw [inv_nil, List.nil_append, List.append_nil, short_id hs] at h
    exact h
  | k :: W, s, a, hW, hs, h => by
    have hk : k ≠ 0 := hW k (by simp)
    have hW' : Nz W := fun x hx => hW x (by simp [hx])
    have hn := red_nz hs
    have n2 : Nz ([-k] ++ s ++ [k]) := nz_app (nz_app (nz_one (by omega)) hn) (nz_one hk)
    have e : short (inv (k :: W) ++ s ++ (k :: W)) = short (inv W ++ short ([-k] ++ s ++ [k]) ++ W) := by
      rw [List.append_assoc (inv W), ← short_right (nz_inv hW') (nz_app (nz_short n2) hW'), short_left n2, short_right (nz_inv hW') (nz_app n2 hW')]
      rw [show k :: W = [k] ++ W from rfl, inv_app, inv_one]
      simp
    rw [e] at h
    exact turn_one hs hk (turn_all W _ a hW' (red_short' n2) h)
/-- a word turned by another is alike -/
theorem turned_alike {u w : List Int} (hu : Nz u) (hw : Nz w) : alikeB (conjd u w) (short u) = true := by
  have n1 := nz_app (nz_app (nz_inv hw) (nz_short hu)) hw
  have n2 := nz_app (nz_app (nz_inv hw) hu) hw
  have e : short (inv w ++ u ++ w) = short (inv w ++ short u ++ w) := by
    rw [List.append_assoc, List.append_assoc, ← short_right (nz_inv hw) (nz_app hu hw), ← short_left hu, short_right (nz_inv hw) (nz_app (nz_short hu) hw)]
  unfold alikeB
  rw [conjd_eq hu hw, short_short n2, short_short hu, e]
  exact rt_alike (turn_all _ _ _ hw (red_short' hu) (rt_refl _))
/-- a word is its core by what it is conjugated by -/
theorem conjd_parts {s : List Int} (hs : Red s) : conjd (core s) (conj s) = s := by
  have n := red_nz hs
  rw [word_parts s] at n
  have rj : Red (conj s) := by
    have h := hs
    rw [word_parts s] at h
    exact red_r h
  rw [conjd_eq (red_nz (red_core hs)) (red_nz rj), ← word_parts s, short_id hs]
theorem parts_sum (s : List Int) : s.length = (core s).length + 2 * (conj s).length := by
  have := core_len s
  have := conj_len s
  have := parts_le s
  omega
theorem alike_not {u b : List Int} (hu : short u = []) (hb : Nz b) (h0 : short b ≠ []) : alikeB u b = false := by
  unfold alikeB alikeL
  have h1 := core_pos (red_short' hb) (List.length_pos_iff.2 h0)
  have h2 : (core (short u)).length = 0 := by rw [hu]; rfl
  rw [if_neg (by omega)]
theorem mul_brackets {u v w : List Int} (hu : Nz u) (hv : Nz v) (hw : Nz w) : short (short (u ++ v) ++ w) = short (u ++ short (v ++ w)) := by
  rw [short_left (nz_app hu hv), short_right hu (nz_app hv hw), List.append_assoc]
end Go.Proofs.YtmjnhpagoboejaaDoor

/- law.WordsLaws (printed by gen_laws.py). -/
namespace Go.Proofs.YtmjnhpagoboejaaDoor
open Go.RowKit
open Wd
set_option linter.unusedSimpArgs false
set_option linter.unusedVariables false

/-- a word that was answered, with no error -/
def RdOut (w : World) (l : List Int) (e : Ending) (w' : World) : Prop := ∃ A n k, e = .returned (.tuple #[.slice A n k, .int .i64 0]) ∧ (Rd w' w'.heap.size A l ∧ n = l.length ∧ n ≤ k ∧ k ≤ 9223372036854775807) ∧ Below w.heap.size w w'
theorem rdOut_got {w : World} {l : List Int} {e : Ending} {w' : World} (h : ∃ A n k, e = .returned (.tuple #[.slice A n k, .int .i64 0]) ∧ Got w' w.heap.size w'.heap.size A n k l ∧ Below w.heap.size w w') : RdOut w l e w' := by
  obtain ⟨A, n, k, rfl, hg, hb⟩ := h
  exact ⟨A, n, k, rfl, ⟨hg.rd, hg.len⟩, hb⟩
theorem flat_two (a b : SRow) : flat [a, b] = a.2.2 ++ b.2.2 := by unfold flat; simp
theorem mul_two {w : World} {B B' na ca nb cb : Nat} {Aa Ab : Option Addr} {a b L : List Int} (h : Rd w B Aa a) (h' : Rd w B' Ab b) (hn : na = a.length) (hn' : nb = b.length) (hz : chk [a] = 0) (hz' : chk [b] = 0) (hL : short (a ++ b) = L) (hl : L.length ≤ 4096) :
    Calls Tryd.prog 30 #[.slice (some ⟨w.heap.size, 0, none⟩) 2 2] (w.alloc (.cells #[.slice Aa na ca, .slice Ab nb cb] 22)) (RdOut w L) := by
  subst hn hn'
  have l1 := (chk_one.1 hz).2
  have l2 := (chk_one.1 hz').2
  have w1 := letl_wf (word_let (chk_one.1 hz).1)
  have w2 := letl_wf (word_let (chk_one.1 hz').1)
  have hs : (w.alloc (.cells #[.slice Aa a.length ca, .slice Ab b.length cb] 22)).heap.size = w.heap.size + 1 := by simp
  have hr := rows_lit w [(Aa, ca, a), (Ab, cb, b)] (B := w.heap.size) (fun r hr => by
    simp only [List.mem_cons, List.mem_nil_iff, or_false] at hr
    rcases hr with rfl | rfl
    · exact h.1.more h.2
    · exact h'.1.more h'.2) (Nat.le_refl _)
  have hm := mul_out (n := 2) (c := 2) hr (by show w.heap.size + 1 ≤ (w.alloc (.cells #[.slice Aa a.length ca, .slice Ab b.length cb] 22)).heap.size; omega) rfl (by rw [flat_two, List.length_append]; show a.length + b.length ≤ _; omega) (by decide) (fun r hr => by
    simp only [List.mem_cons, List.mem_nil_iff, or_false] at hr
    rcases hr with rfl | rfl
    · exact ⟨w1, Nat.le_trans l1 (by decide)⟩
    · exact ⟨w2, Nat.le_trans l2 (by decide)⟩)
  refine Calls.mono hm fun e w' h => ?_
  have e1 : mulR [a, b] = (L, 0) := by
    unfold mulR ended
    rw [if_pos (chk_two0 hz hz')]
    have e2 : short [a, b].flatten = L := by rw [← hL]; simp
    rw [e2, if_pos hl]
  obtain ⟨A, n, k, he, hg, hb⟩ := res_got (l := L) h e1
  exact ⟨A, n, k, he, ⟨hg.rd, hg.len⟩, ((Below.refl w.heap.size w).alloc (Nat.le_refl _) _).trans (hb.mono (Nat.le_trans (Nat.le_succ _) (Nat.le_of_eq hs.symm)))⟩
theorem conj_two {w : World} {B B' na ca nb cb : Nat} {Aa Ab : Option Addr} {a b L : List Int} (h : Rd w B Aa a) (h' : Rd w B' Ab b) (hn : na = a.length) (hn' : nb = b.length) (hz : chk [a] = 0) (hz' : chk [b] = 0) (hL : conjd a b = L) (hl : L.length ≤ 4096) :
    Calls Tryd.prog 34 #[.slice Aa na ca, .slice Ab nb cb] w (RdOut w L) := by
  have l1 := (chk_one.1 hz).2
  have l2 := (chk_one.1 hz').2
  have w1 := letl_wf (word_let (chk_one.1 hz).1)
  have w2 := letl_wf (word_let (chk_one.1 hz').1)
  refine (conj_out (h.1.more h.2) (h'.1.more h'.2) (Nat.le_refl _) hn hn' w1 w2 (by omega) (by omega)).mono fun e w' h => rdOut_got (res_got h ?_)
  unfold conjR ended
  rw [if_pos (chk_two0 hz hz'), hL, if_pos hl]
theorem alike_two {w : World} {B B' na ca nb cb : Nat} {Aa Ab : Option Addr} {a b : List Int} {d : Bool} (h : Rd w B Aa a) (h' : Rd w B' Ab b) (hn : na = a.length) (hn' : nb = b.length) (hz : chk [a] = 0) (hz' : chk [b] = 0) (hd : alikeB a b = d) :
    Calls Tryd.prog 42 #[.slice Aa na ca, .slice Ab nb cb] w (fun e w' => e = .returned (.tuple #[.bool d, .int .i64 0]) ∧ Below w.heap.size w w') := by
  have l1 := (chk_one.1 hz).2
  have l2 := (chk_one.1 hz').2
  have w1 := letl_wf (word_let (chk_one.1 hz).1)
  have w2 := letl_wf (word_let (chk_one.1 hz').1)
  have h := walike_out (ca := ca) (cb := cb) (h.1.more h.2) (h'.1.more h'.2) (Nat.le_refl _) hn hn' w1 w2 (by omega) (by omega)
  rw [chk_two0 hz hz', hd, show decide ((0:Int) = 0) = true from rfl, Bool.true_and] at h
  exact h
theorem core_two {w : World} {B n c : Nat} {A : Option Addr} {l s : List Int} (h : Rd w B A l) (hn : n = l.length) (hz : chk [l] = 0) (hs : short l = s) :
    Calls Tryd.prog 17 #[.slice A n c] w (fun e w' => ∃ A1 n1 c1 A2 n2 c2, e = .returned (.tuple #[.slice A1 n1 c1, .slice A2 n2 c2, .int .i64 0]) ∧ (Rd w' w'.heap.size A1 (core s) ∧ n1 = (core s).length) ∧ (Rd w' w'.heap.size A2 (conj s) ∧ n2 = (conj s).length) ∧ Below w.heap.size w w') := by
  subst hs
  refine (core_ok h.1 h.2 hn hz).mono ?_
  rintro e w' ⟨A1, c1, A2, c2, rfl, h1, h2, hb⟩
  exact ⟨A1, _, c1, A2, _, c2, rfl, ⟨(Got.of_own h1 hb.size).rd, rfl⟩, ⟨(Got.of_own h2 hb.size).rd, rfl⟩, hb⟩
theorem rooted_all {w : World} {B Bu Bv Bs nu nv ns cu cv cs : Nat} {Au Av As : Option Addr} {u v s : List Int} (hV : VarsX B w) (hu : Rd w Bu Au u) (hv : Rd w Bv Av v) (hs : Rd w Bs As s) (hnu : nu = u.length) (hnv : nv = v.length) (hns : ns = s.length) (hzu : chk [u] = 0) (hzv : chk [v] = 0) (hse : short u = s) :
    Calls Tryd.prog 51 #[.slice Au nu cu, .slice Av nv cv, .slice As ns cs] w (fun e w' => e = .returned (.bool true) ∧ Below w.heap.size w w') := by
  by_cases h1 : short u = []
  · exact rooted_none1 hV hu hv hs hnu hnv hns hzu hzv hse h1
  · by_cases h2 : short v = []
    · exact rooted_none2 hV hu hv hs hnu hnv hns hzu hzv hse h1 h2
    · exact rooted_main hV hu hv hs hnu hnv hns hzu hzv hse h1 h2
theorem chk_rng (l : List Int) : 0 ≤ chk [l] ∧ chk [l] ≤ 3 := by
  rw [chk_val]
  split
  · split <;> decide
  · decide
theorem letl_app {a b : List Int} (ha : LetL a) (hb : LetL b) : LetL (a ++ b) := fun k hk => by
  rcases List.mem_append.1 hk with h | h
  · exact ha k h
  · exact hb k h
set_option maxRecDepth 100000 in
set_option maxHeartbeats 8000000 in
theorem laws_big {w : World} {B Bu Bv Bt nu nv nt cu cv ct : Nat} {Au Av At : Option Addr} {u v t : List Int} (hV : VarsX B w) (hu : Rd w Bu Au u) (hv : Rd w Bv Av v) (ht : Rd w Bt At t) (hnu : nu = u.length) (hnv : nv = v.length) (hnt : nt = t.length) (hwu : Wf u) (hwv : Wf v) (hwt : Wf t) (hbu : nu ≤ 9223372036854775807) (hbv : nv ≤ 9223372036854775807) (hbt : nt ≤ 9223372036854775807) {S1 S2 : Int} (hS1 : IntKind.i64.wrap ((nu : Int) + (nv : Int)) = S1) (hS2 : IntKind.i64.wrap (S1 + (nt : Int)) = S2) (hbig : 600 < S2) :
    Calls Tryd.prog 10 #[.slice Au nu cu, .slice Av nv cv, .slice At nt ct] w (fun e w' => e = .returned (.bool true) ∧ Below w.heap.size w w') := by
  have HT := Lib.hid hV
  have HU := Lib.hid hu
  have HV := Lib.hid hv
  have HW := Lib.hid ht
  have Hnu := Lib.hid hnu
  have Hnv := Lib.hid hnv
  have Hnt := Lib.hid hnt
  clear hV hu hv ht hnu hnv hnt hwu hwv hwt hbu hbv hbt 
  go_enter Tryd.func10, Tryd.ntmps10
  go_wp2_with fail
  refine (known_any (HT.out).1.1 (HT.out).1.2).mono ?_
  rintro e w1 ⟨rfl, hb1⟩
  have S1 := Lib.hid hb1
  have z1 : w.heap.size ≤ w1.heap.size := S1.out.size
  clear hb1
  have BB := Lib.hid ((Below.refl w.heap.size w).trans (S1.out.mono (by omega)))
  go_wp2_with fail
  go_ret
  exact ⟨rfl, BB.out⟩
set_option maxRecDepth 100000 in
set_option maxHeartbeats 8000000 in
theorem laws_bad {w : World} {B Bu Bv Bt nu nv nt cu cv ct : Nat} {Au Av At : Option Addr} {u v t : List Int} (hV : VarsX B w) (hu : Rd w Bu Au u) (hv : Rd w Bv Av v) (ht : Rd w Bt At t) (hnu : nu = u.length) (hnv : nv = v.length) (hnt : nt = t.length) (hwu : Wf u) (hwv : Wf v) (hwt : Wf t) (hbu : nu ≤ 9223372036854775807) (hbv : nv ≤ 9223372036854775807) (hbt : nt ≤ 9223372036854775807) {S1 S2 : Int} (hS1 : IntKind.i64.wrap ((nu : Int) + (nv : Int)) = S1) (hS2 : IntKind.i64.wrap (S1 + (nt : Int)) = S2) (hsm : ¬ 600 < S2) (hb : ¬ (chk [u] = 0 ∧ chk [v] = 0 ∧ chk [t] = 0)) :
    Calls Tryd.prog 10 #[.slice Au nu cu, .slice Av nv cv, .slice At nt ct] w (fun e w' => e = .returned (.bool true) ∧ Below w.heap.size w w') := by
  obtain ⟨z1, hz1⟩ : ∃ z, z = chk [u] := ⟨_, rfl⟩
  obtain ⟨z2, hz2⟩ : ∃ z, z = chk [v] := ⟨_, rfl⟩
  obtain ⟨z3, hz3⟩ : ∃ z, z = chk [t] := ⟨_, rfl⟩
  have HK1 := Lib.hid (fun (W : World) (h : Rd W Bu Au u) => show Calls Tryd.prog 14 #[.slice Au nu cu] W (fun e w' => e = .returned (.int .i64 z1) ∧ W = w') by rw [hz1]; exact rcheck_any h.1 hnu hbu hwu)
  have HK2 := Lib.hid (fun (W : World) (h : Rd W Bv Av v) => show Calls Tryd.prog 14 #[.slice Av nv cv] W (fun e w' => e = .returned (.int .i64 z2) ∧ W = w') by rw [hz2]; exact rcheck_any h.1 hnv hbv hwv)
  have HK3 := Lib.hid (fun (W : World) (h : Rd W Bt At t) => show Calls Tryd.prog 14 #[.slice At nt ct] W (fun e w' => e = .returned (.int .i64 z3) ∧ W = w') by rw [hz3]; exact rcheck_any h.1 hnt hbt hwt)
  have r1 := chk_rng u
  have r2 := chk_rng v
  have r3 := chk_rng t
  rw [← hz1] at hb r1
  rw [← hz2] at hb r2
  rw [← hz3] at hb r3
  have q1 : IntKind.i64.wrap (z1 + z2) = z1 + z2 := by rw [IntKind.wrap_i64]; omega
  have q2 : IntKind.i64.wrap (z1 + z2 + z3) = z1 + z2 + z3 := by rw [IntKind.wrap_i64]; omega
  have q3 : ((z1 + z2 + z3) != 0) = true := by
    rw [bne_iff_ne]
    omega
  have q4 : ¬ (z1 + z2 + z3 = 0) := by omega
  have HT := Lib.hid hV
  have HU := Lib.hid hu
  have HV := Lib.hid hv
  have HW := Lib.hid ht
  have Hnu := Lib.hid hnu
  have Hnv := Lib.hid hnv
  have Hnt := Lib.hid hnt
  clear hV hu hv ht hnu hnv hnt hwu hwv hwt hbu hbv hbt hz1 hz2 hz3 r1 r2 r3 hb
  go_enter Tryd.func10, Tryd.ntmps10
  go_wp2_with fail
  refine (known_any (HT.out).1.1 (HT.out).1.2).mono ?_
  rintro e w1 ⟨rfl, hb1⟩
  have S1 := Lib.hid hb1
  have z1 : w.heap.size ≤ w1.heap.size := S1.out.size
  clear hb1
  go_wp2_with fail
  refine (HK1.out w1 ((HU.out).next S1.out)).mono ?_
  rintro e w' ⟨rfl, rfl⟩
  go_wp2_with fail
  refine (HK2.out w1 ((HV.out).next S1.out)).mono ?_
  rintro e w' ⟨rfl, rfl⟩
  go_wp2_with fail
  refine (HK3.out w1 ((HW.out).next S1.out)).mono ?_
  rintro e w' ⟨rfl, rfl⟩
  have BB := Lib.hid ((Below.refl w.heap.size w).trans (S1.out.mono (by omega)))
  go_wp2_with fail
  go_ret
  exact ⟨rfl, BB.out⟩
set_option maxRecDepth 100000 in
set_option maxHeartbeats 8000000 in
theorem laws_good {w : World} {B Bu Bv Bt nu nv nt cu cv ct : Nat} {Au Av At : Option Addr} {u v t : List Int} (hV : VarsX B w) (hu : Rd w Bu Au u) (hv : Rd w Bv Av v) (ht : Rd w Bt At t) (hnu : nu = u.length) (hnv : nv = v.length) (hnt : nt = t.length) (hwu : Wf u) (hwv : Wf v) (hwt : Wf t) (hbu : nu ≤ 9223372036854775807) (hbv : nv ≤ 9223372036854775807) (hbt : nt ≤ 9223372036854775807) {S1 S2 : Int} (hS1 : IntKind.i64.wrap ((nu : Int) + (nv : Int)) = S1) (hS2 : IntKind.i64.wrap (S1 + (nt : Int)) = S2) (hsm0 : ¬ 600 < S2) (h1 : chk [u] = 0) (h2 : chk [v] = 0) (h3 : chk [t] = 0) :
    Calls Tryd.prog 10 #[.slice Au nu cu, .slice Av nv cv, .slice At nt ct] w (fun e w' => e = .returned (.bool true) ∧ Below w.heap.size w w') := by
  obtain ⟨z1, hz1⟩ : ∃ z, z = chk [u] := ⟨_, rfl⟩
  obtain ⟨z2, hz2⟩ : ∃ z, z = chk [v] := ⟨_, rfl⟩
  obtain ⟨z3, hz3⟩ : ∃ z, z = chk [t] := ⟨_, rfl⟩
  have HK1 := Lib.hid (fun (W : World) (h : Rd W Bu Au u) => show Calls Tryd.prog 14 #[.slice Au nu cu] W (fun e w' => e = .returned (.int .i64 z1) ∧ W = w') by rw [hz1]; exact rcheck_any h.1 hnu hbu hwu)
  have HK2 := Lib.hid (fun (W : World) (h : Rd W Bv Av v) => show Calls Tryd.prog 14 #[.slice Av nv cv] W (fun e w' => e = .returned (.int .i64 z2) ∧ W = w') by rw [hz2]; exact rcheck_any h.1 hnv hbv hwv)
  have HK3 := Lib.hid (fun (W : World) (h : Rd W Bt At t) => show Calls Tryd.prog 14 #[.slice At nt ct] W (fun e w' => e = .returned (.int .i64 z3) ∧ W = w') by rw [hz3]; exact rcheck_any h.1 hnt hbt hwt)
  rw [h1] at hz1
  rw [h2] at hz2
  rw [h3] at hz3
  subst hz1 hz2 hz3
  have lu := word_let (chk_one.1 h1).1
  have lv := word_let (chk_one.1 h2).1
  have lt := word_let (chk_one.1 h3).1
  have mu := (chk_one.1 h1).2
  have mv := (chk_one.1 h2).2
  have mt := (chk_one.1 h3).2
  have hsum : nu + nv + nt ≤ 600 := by
    rw [IntKind.wrap_i64] at hS1 hS2
    omega
  have nzu := letl_nz lu
  have nzv := letl_nz lv
  have nzt := letl_nz lt
  obtain ⟨a, ha⟩ : ∃ a, short (u ++ v) = a := ⟨_, rfl⟩
  obtain ⟨b, hb⟩ : ∃ b, short (v ++ t) = b := ⟨_, rfl⟩
  obtain ⟨c, hc⟩ : ∃ c, short (a ++ t) = c := ⟨_, rfl⟩
  obtain ⟨s, hs⟩ : ∃ s, short u = s := ⟨_, rfl⟩
  have hd : short (u ++ b) = c := by rw [← hc, ← ha, ← hb]; exact (mul_brackets nzu nzv nzt).symm
  have la : LetL a := by rw [← ha]; exact letl_short (letl_app lu lv)
  have lb : LetL b := by rw [← hb]; exact letl_short (letl_app lv lt)
  have lc : LetL c := by rw [← hc]; exact letl_short (letl_app la lt)
  have ls : LetL s := by rw [← hs]; exact letl_short lu
  have ma : a.length ≤ 600 := by have := short_len_le (u ++ v); rw [ha, List.length_append] at this; omega
  have mb : b.length ≤ 600 := by have := short_len_le (v ++ t); rw [hb, List.length_append] at this; omega
  have mc : c.length ≤ 1200 := by have := short_len_le (a ++ t); rw [hc, List.length_append] at this; omega
  have ms : s.length ≤ 600 := by have := short_len_le u; rw [hs] at this; omega
  have ra := word_chk la (by omega)
  have rb := word_chk lb (by omega)
  have rc := word_chk lc (by omega)
  have rs := word_chk ls (by omega)
  have rx : chk [inv u] = 0 := word_chk (letl_inv lu) (by rw [inv_len]; omega)
  have hno : short (u ++ inv u) = [] := short_inv nzu
  have reds : Red s := by rw [← hs]; exact red_short' nzu
  have hps := parts_sum s
  have rco : chk [core s] = 0 := word_chk (letl_core ls) (by omega)
  have rby : chk [conj s] = 0 := word_chk (letl_conj ls) (by omega)
  have hcp := conjd_parts reds
  obtain ⟨tu, htu⟩ : ∃ tu, conjd u t = tu := ⟨_, rfl⟩
  have ltu : LetL tu := by rw [← htu, conjd_eq nzu nzt]; exact letl_short (letl_app (letl_app (letl_inv lt) lu) lt)
  have mtu : tu.length ≤ 1800 := by
    have := short_len_le (inv t ++ u ++ t)
    rw [← conjd_eq nzu nzt, htu, List.length_append, List.length_append, inv_len] at this
    omega
  have rtu := word_chk ltu (by omega)
  have htl : alikeB tu s = true := by rw [← htu, ← hs]; exact turned_alike nzu nzt
  obtain ⟨AL, hAL⟩ : ∃ d, alikeB u b = d := ⟨_, rfl⟩
  have hAz : AL = true → s.length = 0 → b.length = 0 := by
    intro h1 h0
    rcases Nat.eq_zero_or_pos b.length with hb0 | hb0
    · exact hb0
    · exfalso
      have e0 : short u = [] := by rw [hs]; exact List.eq_nil_of_length_eq_zero h0
      have redb : Red b := by rw [← hb]; exact red_short' (nz_app nzv nzt)
      have h2 := alike_not e0 (letl_nz lb) (by rw [short_id redb]; exact List.length_pos_iff.1 hb0)
      rw [hAL, h1] at h2
      cases h2
  have HAz := Lib.hid hAz
  have HMa := Lib.hid (fun (W : World) {Ba Bb na nb ka kb : Nat} {Aa Ab : Option Addr} (h : Rd W Ba Aa u) (hn : na = u.length) (h' : Rd W Bb Ab v) (hn' : nb = v.length) => mul_two (ca := ka) (cb := kb) h h' hn hn' h1 h2 ha (by omega))
  have HMb := Lib.hid (fun (W : World) {Ba Bb na nb ka kb : Nat} {Aa Ab : Option Addr} (h : Rd W Ba Aa v) (hn : na = v.length) (h' : Rd W Bb Ab t) (hn' : nb = t.length) => mul_two (ca := ka) (cb := kb) h h' hn hn' h2 h3 hb (by omega))
  have HMc := Lib.hid (fun (W : World) {Ba Bb na nb ka kb : Nat} {Aa Ab : Option Addr} (h : Rd W Ba Aa a) (hn : na = a.length) (h' : Rd W Bb Ab t) (hn' : nb = t.length) => mul_two (ca := ka) (cb := kb) h h' hn hn' ra h3 hc (by omega))
  have HMd := Lib.hid (fun (W : World) {Ba Bb na nb ka kb : Nat} {Aa Ab : Option Addr} (h : Rd W Ba Aa u) (hn : na = u.length) (h' : Rd W Bb Ab b) (hn' : nb = b.length) => mul_two (ca := ka) (cb := kb) h h' hn hn' h1 rb hd (by omega))
  have HMn := Lib.hid (fun (W : World) {Ba Bb na nb ka kb : Nat} {Aa Ab : Option Addr} (h : Rd W Ba Aa u) (hn : na = u.length) (h' : Rd W Bb Ab (inv u)) (hn' : nb = (inv u).length) => mul_two (ca := ka) (cb := kb) h h' hn hn' h1 rx hno (by decide))
  have HIx := Lib.hid (fun (W : World) (h : Rd W Bu Au u) => show Calls Tryd.prog 16 #[.slice Au nu cu] W (RdOut W (inv u)) from (inv_got (c := cu) h hnu h1).mono fun e w' h => rdOut_got h)
  have HSh := Lib.hid (fun (W : World) (h : Rd W Bu Au u) => show Calls Tryd.prog 15 #[.slice Au nu cu] W (RdOut W s) from (short_got (c := cu) h hnu h1 hs).mono fun e w' h => rdOut_got h)
  have HSc := Lib.hid (fun (W : World) {Ba Bb na nb ka kb : Nat} {Aa Ab : Option Addr} (h : Rd W Ba Aa c) (hn : na = c.length) (h' : Rd W Bb Ab c) (hn' : nb = c.length) => same_bel (c := ka) (c' := kb) h h' hn hn' (by omega) (by omega) (b := true) (decide_eq_true rfl))
  have HCr := Lib.hid (fun (W : World) (h : Rd W Bu Au u) => core_two (c := cu) h hnu h1 hs)
  have HCb := Lib.hid (fun (W : World) {Ba Bb na nb ka kb : Nat} {Aa Ab : Option Addr} (h : Rd W Ba Aa (core s)) (hn : na = (core s).length) (h' : Rd W Bb Ab (conj s)) (hn' : nb = (conj s).length) => conj_two (ca := ka) (cb := kb) h h' hn hn' rco rby hcp (by omega))
  have HSs := Lib.hid (fun (W : World) {Ba Bb na nb ka kb : Nat} {Aa Ab : Option Addr} (h : Rd W Ba Aa s) (hn : na = s.length) (h' : Rd W Bb Ab s) (hn' : nb = s.length) => same_bel (c := ka) (c' := kb) h h' hn hn' (by omega) (by omega) (b := true) (decide_eq_true rfl))
  have HAl := Lib.hid (fun (W : World) {Bb nb kb : Nat} {Ab : Option Addr} (h : Rd W Bu Au u) (h' : Rd W Bb Ab b) (hn' : nb = b.length) => alike_two (ca := cu) (cb := kb) h h' hnu hn' h1 rb hAL)
  have HCt := Lib.hid (fun (W : World) {Ba Bb na nb ka kb : Nat} {Aa Ab : Option Addr} (h : Rd W Ba Aa u) (hn : na = u.length) (h' : Rd W Bb Ab t) (hn' : nb = t.length) => conj_two (ca := ka) (cb := kb) h h' hn hn' h1 h3 htu (by omega))
  have HAt := Lib.hid (fun (W : World) {Ba Bb na nb ka kb : Nat} {Aa Ab : Option Addr} (h : Rd W Ba Aa tu) (hn : na = tu.length) (h' : Rd W Bb Ab s) (hn' : nb = s.length) => alike_two (ca := ka) (cb := kb) h h' hn hn' rtu rs htl)
  have HRo := Lib.hid (fun (W : World) {Bs ns ks : Nat} {As : Option Addr} (h : VarsX B W) (h1' : Rd W Bu Au u) (h2' : Rd W Bv Av v) (h3' : Rd W Bs As s) (hn : ns = s.length) => rooted_all (cu := cu) (cv := cv) (cs := ks) h h1' h2' h3' hnu hnv hn h1 h2 hs)
  have HLn := Lib.hid (fun (i j k : Nat) (e1 : i = s.length) (e2 : j = (core s).length) (e3 : k = (conj s).length) => show IntKind.i64.wrap (2 * (k : Int)) = 2 * (k : Int) ∧ IntKind.i64.wrap ((j : Int) + 2 * (k : Int)) = (j : Int) + 2 * (k : Int) ∧ (i : Int) = (j : Int) + 2 * (k : Int) from by
    rw [IntKind.wrap_i64, IntKind.wrap_i64]
    omega)
  have hsm : ¬ 600 < S2 := hsm0
  have HT := Lib.hid hV
  have HU := Lib.hid hu
  have HV := Lib.hid hv
  have HW := Lib.hid ht
  have Hnu := Lib.hid hnu
  have Hnv := Lib.hid hnv
  have Hnt := Lib.hid hnt
  clear hV hu hv ht hnu hnv hnt hwu hwv hwt hbu hbv hbt h1 h2 h3 lu lv lt mu mv mt hsum nzu nzv nzt ha hb hc hs hd la lb lc ls ma mb mc ms ra rb rc rs rx hno reds hps rco rby hcp htu ltu mtu rtu htl hAL hAz hsm0
  go_enter Tryd.func10, Tryd.ntmps10
  go_wp2_with fail
  refine (known_any (HT.out).1.1 (HT.out).1.2).mono ?_
  rintro e w1 ⟨rfl, hb1⟩
  have S1 := Lib.hid hb1
  have z1 : w.heap.size ≤ w1.heap.size := S1.out.size
  clear hb1
  go_wp2_with fail
  refine (HK1.out w1 ((HU.out).next S1.out)).mono ?_
  rintro e w' ⟨rfl, rfl⟩
  go_wp2_with fail
  refine (HK2.out w1 ((HV.out).next S1.out)).mono ?_
  rintro e w' ⟨rfl, rfl⟩
  go_wp2_with fail
  refine (HK3.out w1 ((HW.out).next S1.out)).mono ?_
  rintro e w' ⟨rfl, rfl⟩
  go_wp2_with fail
  refine (HMa.out w1 ((HU.out).next S1.out) Hnu.out ((HV.out).next S1.out) Hnv.out).mono ?_
  rintro e w5 ⟨A5, n5, k5, rfl, hr5, hb5⟩
  have S5 := Lib.hid hb5
  have z5 : w1.heap.size ≤ w5.heap.size := S5.out.size
  clear hb5
  have G_a := Lib.hid hr5.1
  have N_a := Lib.hid hr5.2
  clear hr5
  go_wp2_with fail
  refine (HMb.out w5 (((HV.out).next S1.out).next S5.out) Hnv.out (((HW.out).next S1.out).next S5.out) Hnt.out).mono ?_
  rintro e w6 ⟨A6, n6, k6, rfl, hr6, hb6⟩
  have S6 := Lib.hid hb6
  have z6 : w5.heap.size ≤ w6.heap.size := S6.out.size
  clear hb6
  have G_b := Lib.hid hr6.1
  have N_b := Lib.hid hr6.2
  clear hr6
  go_wp2_with fail
  refine (HMc.out w6 ((G_a.out).next S6.out) N_a.out.1 ((((HW.out).next S1.out).next S5.out).next S6.out) Hnt.out).mono ?_
  rintro e w7 ⟨A7, n7, k7, rfl, hr7, hb7⟩
  have S7 := Lib.hid hb7
  have z7 : w6.heap.size ≤ w7.heap.size := S7.out.size
  clear hb7
  have G_c := Lib.hid hr7.1
  have N_c := Lib.hid hr7.2
  clear hr7
  go_wp2_with fail
  refine (HMd.out w7 (((((HU.out).next S1.out).next S5.out).next S6.out).next S7.out) Hnu.out ((G_b.out).next S7.out) N_b.out.1).mono ?_
  rintro e w8 ⟨A8, n8, k8, rfl, hr8, hb8⟩
  have S8 := Lib.hid hb8
  have z8 : w7.heap.size ≤ w8.heap.size := S8.out.size
  clear hb8
  have G_d := Lib.hid hr8.1
  have N_d := Lib.hid hr8.2
  clear hr8
  go_wp2_with fail
  refine (HIx.out w8 ((((((HU.out).next S1.out).next S5.out).next S6.out).next S7.out).next S8.out)).mono ?_
  rintro e w9 ⟨A9, n9, k9, rfl, hr9, hb9⟩
  have S9 := Lib.hid hb9
  have z9 : w8.heap.size ≤ w9.heap.size := S9.out.size
  clear hb9
  have G_x := Lib.hid hr9.1
  have N_x := Lib.hid hr9.2
  clear hr9
  go_wp2_with fail
  refine (HMn.out w9 (((((((HU.out).next S1.out).next S5.out).next S6.out).next S7.out).next S8.out).next S9.out) Hnu.out (G_x.out) N_x.out.1).mono ?_
  rintro e w10 ⟨A10, n10, k10, rfl, hr10, hb10⟩
  have S10 := Lib.hid hb10
  have z10 : w9.heap.size ≤ w10.heap.size := S10.out.size
  clear hb10
  have G_no := Lib.hid hr10.1
  have N_no := Lib.hid hr10.2
  clear hr10
  go_wp2_with fail
  refine (HSh.out w10 ((((((((HU.out).next S1.out).next S5.out).next S6.out).next S7.out).next S8.out).next S9.out).next S10.out)).mono ?_
  rintro e w11 ⟨A11, n11, k11, rfl, hr11, hb11⟩
  have S11 := Lib.hid hb11
  have z11 : w10.heap.size ≤ w11.heap.size := S11.out.size
  clear hb11
  have G_s := Lib.hid hr11.1
  have N_s := Lib.hid hr11.2
  clear hr11
  have e10 : n10 = 0 := N_no.out.1
  subst e10
  go_wp2_with ((go_at_call 20; refine num_any.mono ?_; rintro e w' ⟨rfl, rfl⟩))
  refine (HSc.out w11 (((((G_c.out).next S8.out).next S9.out).next S10.out).next S11.out) N_c.out.1 ((((G_d.out).next S9.out).next S10.out).next S11.out) N_d.out.1).mono ?_
  rintro e w12 ⟨rfl, hb12⟩
  have S12 := Lib.hid hb12
  have z12 : w11.heap.size ≤ w12.heap.size := S12.out.size
  clear hb12
  go_wp2_with fail
  refine (HCr.out w12 ((((((((((HU.out).next S1.out).next S5.out).next S6.out).next S7.out).next S8.out).next S9.out).next S10.out).next S11.out).next S12.out)).mono ?_
  rintro e w13 ⟨A13, n13, k13, A13', n13', k13', rfl, hr13, hs13, hb13⟩
  have S13 := Lib.hid hb13
  have z13 : w12.heap.size ≤ w13.heap.size := S13.out.size
  clear hb13
  have G_co := Lib.hid hr13.1
  have N_co := Lib.hid hr13.2
  have G_by := Lib.hid hs13.1
  have N_by := Lib.hid hs13.2
  clear hr13 hs13
  go_wp2_with fail
  refine (HCb.out w13 (G_co.out) N_co.out (G_by.out) N_by.out).mono ?_
  rintro e w14 ⟨A14, n14, k14, rfl, hr14, hb14⟩
  have S14 := Lib.hid hb14
  have z14 : w13.heap.size ≤ w14.heap.size := S14.out.size
  clear hb14
  have G_ba := Lib.hid hr14.1
  have N_ba := Lib.hid hr14.2
  clear hr14
  go_wp2_with ((go_at_call 20; refine num_any.mono ?_; rintro e w' ⟨rfl, rfl⟩))
  refine (HSs.out w14 (G_ba.out) N_ba.out.1 ((((G_s.out).next S12.out).next S13.out).next S14.out) N_s.out.1).mono ?_
  rintro e w15 ⟨rfl, hb15⟩
  have S15 := Lib.hid hb15
  have z15 : w14.heap.size ≤ w15.heap.size := S15.out.size
  clear hb15
  obtain ⟨q1, q2, q3⟩ := HLn.out n11 n13 n13' N_s.out.1 N_co.out N_by.out
  go_wp2_with fail
  refine (HAl.out w15 (((((((((((((HU.out).next S1.out).next S5.out).next S6.out).next S7.out).next S8.out).next S9.out).next S10.out).next S11.out).next S12.out).next S13.out).next S14.out).next S15.out) ((((((((((G_b.out).next S7.out).next S8.out).next S9.out).next S10.out).next S11.out).next S12.out).next S13.out).next S14.out).next S15.out) N_b.out.1).mono ?_
  rintro e w16 ⟨rfl, hb16⟩
  have S16 := Lib.hid hb16
  have z16 : w15.heap.size ≤ w16.heap.size := S16.out.size
  clear hb16
  go_wp2_with fail
  refine (HCt.out w16 ((((((((((((((HU.out).next S1.out).next S5.out).next S6.out).next S7.out).next S8.out).next S9.out).next S10.out).next S11.out).next S12.out).next S13.out).next S14.out).next S15.out).next S16.out) Hnu.out ((((((((((((((HW.out).next S1.out).next S5.out).next S6.out).next S7.out).next S8.out).next S9.out).next S10.out).next S11.out).next S12.out).next S13.out).next S14.out).next S15.out).next S16.out) Hnt.out).mono ?_
  rintro e w17 ⟨A17, n17, k17, rfl, hr17, hb17⟩
  have S17 := Lib.hid hb17
  have z17 : w16.heap.size ≤ w17.heap.size := S17.out.size
  clear hb17
  have G_tu := Lib.hid hr17.1
  have N_tu := Lib.hid hr17.2
  clear hr17
  go_wp2_with fail
  refine (HAt.out w17 (G_tu.out) N_tu.out.1 (((((((G_s.out).next S12.out).next S13.out).next S14.out).next S15.out).next S16.out).next S17.out) N_s.out.1).mono ?_
  rintro e w18 ⟨rfl, hb18⟩
  have S18 := Lib.hid hb18
  have z18 : w17.heap.size ≤ w18.heap.size := S18.out.size
  clear hb18
  cases AL
  · skip
    go_wp2_with ((go_at_call 20; refine num_any.mono ?_; rintro e w' ⟨rfl, rfl⟩))
    refine (HRo.out w18 ((((((((((((((((HT.out).next S1.out).next S5.out).next S6.out).next S7.out).next S8.out).next S9.out).next S10.out).next S11.out).next S12.out).next S13.out).next S14.out).next S15.out).next S16.out).next S17.out).next S18.out) ((((((((((((((((HU.out).next S1.out).next S5.out).next S6.out).next S7.out).next S8.out).next S9.out).next S10.out).next S11.out).next S12.out).next S13.out).next S14.out).next S15.out).next S16.out).next S17.out).next S18.out) ((((((((((((((((HV.out).next S1.out).next S5.out).next S6.out).next S7.out).next S8.out).next S9.out).next S10.out).next S11.out).next S12.out).next S13.out).next S14.out).next S15.out).next S16.out).next S17.out).next S18.out) ((((((((G_s.out).next S12.out).next S13.out).next S14.out).next S15.out).next S16.out).next S17.out).next S18.out) N_s.out.1).mono ?_
    rintro e w19 ⟨rfl, hb19⟩
    have S19 := Lib.hid hb19
    have z19 : w18.heap.size ≤ w19.heap.size := S19.out.size
    clear hb19
    have BB := Lib.hid (((((((((((((((((Below.refl w.heap.size w).trans (S1.out.mono (by omega))).trans (S5.out.mono (by omega))).trans (S6.out.mono (by omega))).trans (S7.out.mono (by omega))).trans (S8.out.mono (by omega))).trans (S9.out.mono (by omega))).trans (S10.out.mono (by omega))).trans (S11.out.mono (by omega))).trans (S12.out.mono (by omega))).trans (S13.out.mono (by omega))).trans (S14.out.mono (by omega))).trans (S15.out.mono (by omega))).trans (S16.out.mono (by omega))).trans (S17.out.mono (by omega))).trans (S18.out.mono (by omega))).trans (S19.out.mono (by omega)))
    go_wp2_with fail
    go_ret
    exact ⟨rfl, BB.out⟩
  · by_cases zs : n11 = 0
    · skip
      have zi : ((n11 : Nat) : Int) = 0 := by omega
      have zj : ((n6 : Nat) : Int) = 0 := by have := HAz.out rfl (by have := N_s.out.1; omega); have := N_b.out.1; omega
      go_wp2_with ((go_at_call 20; refine num_any.mono ?_; rintro e w' ⟨rfl, rfl⟩))
      refine (HRo.out w18 ((((((((((((((((HT.out).next S1.out).next S5.out).next S6.out).next S7.out).next S8.out).next S9.out).next S10.out).next S11.out).next S12.out).next S13.out).next S14.out).next S15.out).next S16.out).next S17.out).next S18.out) ((((((((((((((((HU.out).next S1.out).next S5.out).next S6.out).next S7.out).next S8.out).next S9.out).next S10.out).next S11.out).next S12.out).next S13.out).next S14.out).next S15.out).next S16.out).next S17.out).next S18.out) ((((((((((((((((HV.out).next S1.out).next S5.out).next S6.out).next S7.out).next S8.out).next S9.out).next S10.out).next S11.out).next S12.out).next S13.out).next S14.out).next S15.out).next S16.out).next S17.out).next S18.out) ((((((((G_s.out).next S12.out).next S13.out).next S14.out).next S15.out).next S16.out).next S17.out).next S18.out) (zs.symm.trans N_s.out.1)).mono ?_
      rintro e w19 ⟨rfl, hb19⟩
      have S19 := Lib.hid hb19
      have z19 : w18.heap.size ≤ w19.heap.size := S19.out.size
      clear hb19
      have BB := Lib.hid (((((((((((((((((Below.refl w.heap.size w).trans (S1.out.mono (by omega))).trans (S5.out.mono (by omega))).trans (S6.out.mono (by omega))).trans (S7.out.mono (by omega))).trans (S8.out.mono (by omega))).trans (S9.out.mono (by omega))).trans (S10.out.mono (by omega))).trans (S11.out.mono (by omega))).trans (S12.out.mono (by omega))).trans (S13.out.mono (by omega))).trans (S14.out.mono (by omega))).trans (S15.out.mono (by omega))).trans (S16.out.mono (by omega))).trans (S17.out.mono (by omega))).trans (S18.out.mono (by omega))).trans (S19.out.mono (by omega)))
      go_wp2_with fail
      go_ret
      exact ⟨rfl, BB.out⟩
    · skip
      have zi : ¬ ((n11 : Nat) : Int) = 0 := by omega
      go_wp2_with ((go_at_call 20; refine num_any.mono ?_; rintro e w' ⟨rfl, rfl⟩))
      refine (HRo.out w18 ((((((((((((((((HT.out).next S1.out).next S5.out).next S6.out).next S7.out).next S8.out).next S9.out).next S10.out).next S11.out).next S12.out).next S13.out).next S14.out).next S15.out).next S16.out).next S17.out).next S18.out) ((((((((((((((((HU.out).next S1.out).next S5.out).next S6.out).next S7.out).next S8.out).next S9.out).next S10.out).next S11.out).next S12.out).next S13.out).next S14.out).next S15.out).next S16.out).next S17.out).next S18.out) ((((((((((((((((HV.out).next S1.out).next S5.out).next S6.out).next S7.out).next S8.out).next S9.out).next S10.out).next S11.out).next S12.out).next S13.out).next S14.out).next S15.out).next S16.out).next S17.out).next S18.out) ((((((((G_s.out).next S12.out).next S13.out).next S14.out).next S15.out).next S16.out).next S17.out).next S18.out) N_s.out.1).mono ?_
      rintro e w19 ⟨rfl, hb19⟩
      have S19 := Lib.hid hb19
      have z19 : w18.heap.size ≤ w19.heap.size := S19.out.size
      clear hb19
      have BB := Lib.hid (((((((((((((((((Below.refl w.heap.size w).trans (S1.out.mono (by omega))).trans (S5.out.mono (by omega))).trans (S6.out.mono (by omega))).trans (S7.out.mono (by omega))).trans (S8.out.mono (by omega))).trans (S9.out.mono (by omega))).trans (S10.out.mono (by omega))).trans (S11.out.mono (by omega))).trans (S12.out.mono (by omega))).trans (S13.out.mono (by omega))).trans (S14.out.mono (by omega))).trans (S15.out.mono (by omega))).trans (S16.out.mono (by omega))).trans (S17.out.mono (by omega))).trans (S18.out.mono (by omega))).trans (S19.out.mono (by omega)))
      go_wp2_with fail
      go_ret
      exact ⟨rfl, BB.out⟩
theorem laws_all {w : World} {B Bu Bv Bt nu nv nt cu cv ct : Nat} {Au Av At : Option Addr} {u v t : List Int} (hV : VarsX B w) (hu : Rd w Bu Au u) (hv : Rd w Bv Av v) (ht : Rd w Bt At t) (hnu : nu = u.length) (hnv : nv = v.length) (hnt : nt = t.length) (hwu : Wf u) (hwv : Wf v) (hwt : Wf t) (hbu : nu ≤ 9223372036854775807) (hbv : nv ≤ 9223372036854775807) (hbt : nt ≤ 9223372036854775807) :
    Calls Tryd.prog 10 #[.slice Au nu cu, .slice Av nv cv, .slice At nt ct] w (fun e w' => e = .returned (.bool true) ∧ Below w.heap.size w w') := by
  obtain ⟨S1, hS1⟩ : ∃ S, IntKind.i64.wrap ((nu : Int) + (nv : Int)) = S := ⟨_, rfl⟩
  obtain ⟨S2, hS2⟩ : ∃ S, IntKind.i64.wrap (S1 + (nt : Int)) = S := ⟨_, rfl⟩
  by_cases hs : 600 < S2
  · exact laws_big hV hu hv ht hnu hnv hnt hwu hwv hwt hbu hbv hbt hS1 hS2 hs
  · by_cases hb : chk [u] = 0 ∧ chk [v] = 0 ∧ chk [t] = 0
    · exact laws_good hV hu hv ht hnu hnv hnt hwu hwv hwt hbu hbv hbt hS1 hS2 hs hb.1 hb.2.1 hb.2.2
    · exact laws_bad hV hu hv ht hnu hnv hnt hwu hwv hwt hbu hbv hbt hS1 hS2 hs hb
end Go.Proofs.YtmjnhpagoboejaaDoor

/- What the rows of WordsTexts and WordsLaws list, opened; a world for the witness. -/
namespace Go.Proofs.YtmjnhpagoboejaaDoor.Laid
open Go.ChangeShapes Go.WideShapes Go.ChangeAt Go.RowKit
open Wd

def L7 : List (String × DataW Unit) := [("math/bits.deBruijn32tab", Rows.laid_math_bits_deBruijn32tab), ("math/bits.deBruijn64tab", Rows.laid_math_bits_deBruijn64tab), ("internal/strconv.uint64pow10", Rows.laid_internal_strconv_uint64pow10), ("unicode/utf8.acceptRanges", Rows.laid_unicode_utf8_acceptRanges), ("strconv.ErrRange", Rows.laid_strconv_ErrRange), ("strconv.ErrSyntax", Rows.laid_strconv_ErrSyntax), ("unicode/utf8.first", Rows.laid_unicode_utf8_first)]
theorem gRange : Tryd.prog.globalNamed "strconv.ErrRange" = some 1 := by kernel_rfl
theorem gRangeType : (Tryd.prog.globals[1]?).map (·.type) = some 98 := by kernel_rfl
theorem gSyn : Tryd.prog.globalNamed "strconv.ErrSyntax" = some 0 := by kernel_rfl
theorem gSynType : (Tryd.prog.globals[0]?).map (·.type) = some 98 := by kernel_rfl
theorem cells149 : Tryd.prog.cellsOf 149 = 1 := by kernel_rfl
theorem cells9 : Tryd.prog.cellsOf 9 = 1 := by kernel_rfl
theorem star : "*" ++ "errors.errorString" = "*errors.errorString" := by decide
theorem row147 (u : TypeId) (h : Tryd.prog.typeName? 3 u = some "*errors.errorString") : u = 147 :=
  typeName_ptr_named (nm := "errors.errorString") (by rw [star]; kernel_rfl) (by kernel_rfl) (by decide) u (by rw [star]; exact h)
theorem table7 {W : World} (h : laidMetH Tryd.prog L7 W) : TabX W.heap.size W := by
  have h1 := h.filter (fun x => x.1 == "internal/strconv.uint64pow10")
  have e : L7.filter (fun x => x.1 == "internal/strconv.uint64pow10") = [("internal/strconv.uint64pow10", Lib.tabData .u64 Lib.pow10Tab)] := by
    rw [← pow10_is]
    rfl
  rw [e, Go.MakeChecks.laidMetH_plain _ _ _ (by kernel_rfl)] at h1
  have ht : Lib.TabIs Tryd.prog W "internal/strconv.uint64pow10" .u64 Lib.pow10Tab := Lib.tabIs_of_head (rest := []) gTab gTabType Tryd.underlying151 Tryd.underlying57 cells57 cells151 h1
  exact ⟨Lib.tabBelow_of_tabIs ht, Nat.le_refl _⟩
theorem vars7 {W : World} (h : laidMetH Tryd.prog L7 W) (hsh : W.ShapedOpen Tryd.prog) : VarsX W.heap.size W := by
  have h1 := h.filter (fun x => x.1 == "strconv.ErrSyntax")
  have e1 : L7.filter (fun x => x.1 == "strconv.ErrSyntax") = [("strconv.ErrSyntax", Rows.laid_strconv_ErrSyntax)] := by rfl
  rw [e1, Go.MakeChecks.laidMetH_plain _ _ _ (by kernel_rfl)] at h1
  have h2 := h.filter (fun x => x.1 == "strconv.ErrRange")
  have e2 : L7.filter (fun x => x.1 == "strconv.ErrRange") = [("strconv.ErrRange", Rows.laid_strconv_ErrRange)] := by rfl
  rw [e2, Go.MakeChecks.laidMetH_plain _ _ _ (by kernel_rfl)] at h2
  obtain ⟨a1, s1, hv1, _, _, _⟩ := laid_sentinel h1 gSyn gSynType Tryd.underlying98 row147 Tryd.underlying147 Tryd.underlying149 rfl rfl Tryd.underlying9 cells149 cells9
  obtain ⟨a2, s2, hv2, _, _, _⟩ := laid_sentinel h2 gRange gRangeType Tryd.underlying98 row147 Tryd.underlying147 Tryd.underlying149 rfl rfl Tryd.underlying9 cells149 cells9
  have c1 := World.var?_cell gSyn hv1 0
  have c2 := World.var?_cell gRange hv2 0
  exact ⟨table7 h, cell_of_shapedOpen_int (P := Tryd.prog) (g := 2) (t := 3) (zero := #[.int .i64 0]) hsh (of_decide_eq_true (by kernel_rfl)) (by kernel_rfl) rfl (by kernel_rfl) (by kernel_rfl) Tryd.underlying3, ⟨_, _, by simpa using c1⟩, ⟨_, _, by simpa using c2⟩⟩
def numArr (l : List Nat) : Array Value := (l.map fun (n : Nat) => Value.int .u8 (Int.ofNat n)).toArray
def tabFirst : Array Value := numArr Go.Pinned.utf8FirstZ
def rangesOf (d : DataW Unit) : List Value := match d with
  | .agg l => l.flatMap fun x => match x with
    | .agg r => r.map fun y => match y with
      | .lit (.int k n) => Value.int k n
      | _ => Value.int .u8 0
    | _ => []
  | _ => []
def tabRanges : Array Value := (rangesOf Rows.laid_unicode_utf8_acceptRanges).toArray
def synS : ByteArray := ⟨#[105, 110, 118, 97, 108, 105, 100, 32, 115, 121, 110, 116, 97, 120]⟩
def rngS : ByteArray := ⟨#[118, 97, 108, 117, 101, 32, 111, 117, 116, 32, 111, 102, 32, 114, 97, 110, 103, 101]⟩
noncomputable def low : Nat := (World.holding Tryd.prog default ⟨#[], #[], []⟩).heap.size
def put (g : Nat) (cs : Array Value) (h : Array Obj) : Array Obj := h.modify g (fun o => match o with | .cells _ t frozen => .cells cs t frozen | o => o)
noncomputable def laidWorld7 (os : Os) : World :=
  { World.holding Tryd.prog os ⟨#[.cells #[.string synS] 149, .cells #[.string rngS] 149], #[], []⟩ with heap := put 0 #[.iface 147 (.pointer (some ⟨low, 0, none⟩))] (put 1 #[.iface 147 (.pointer (some ⟨low + 1, 0, none⟩))] (put 3 tabPow (put 4 tabFirst (put 5 tabRanges (put 6 tab32 (put 7 tab64 (World.holding Tryd.prog os ⟨#[.cells #[.string synS] 149, .cells #[.string rngS] 149], #[], []⟩).heap)))))) }
theorem laid7_met (os : Os) : laidMet Tryd.prog L7 ((laidWorld7 os).forCall (fun _ _ => 0) ⟨#[], #[.string ⟨#[]⟩], []⟩).memory :=
  laidMet_of_run' 8 (by kernel_rfl) (by kernel_rfl)
end Go.Proofs.YtmjnhpagoboejaaDoor.Laid
