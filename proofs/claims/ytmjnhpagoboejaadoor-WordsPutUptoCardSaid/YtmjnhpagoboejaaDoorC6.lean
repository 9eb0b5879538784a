import Derived.Test.YtmjnhpagoboejaaDoorC5
import Derived.Test.YtmjnhpagoboejaaDoorC3
import Derived.Test.YtmjnhpagoboejaaDoorC1
/- ref.glued (printed by gen_glue.py). -/
namespace Go.Proofs.YtmjnhpagoboejaaDoor
open Go.RowKit
open Wd
set_option linter.unusedSimpArgs false
set_option linter.unusedVariables false

theorem rjoin2 {w : World} {B n1 c1 n2 c2 : Nat} {A1 A2 : Option Addr} {a b : List Int} (h1 : ReadsI w B A1 a) (h2 : ReadsI w B A2 b) (hB : B ≤ w.heap.size) (e1 : n1 = a.length) (e2 : n2 = b.length) (hl : a.length + b.length ≤ 1000000000) :
    Calls Tryd.prog 63 #[.slice (some ⟨w.heap.size, 0, none⟩) 2 2] (w.alloc (.cells #[.slice A1 n1 c1, .slice A2 n2 c2] 22)) (OutI w (a ++ b)) := by
  subst e1 e2
  have h := rjoined_any (w := w.alloc (.cells #[.slice A1 a.length c1, .slice A2 b.length c2] 22)) (c := 2) (n := 2) (rows_lit w [(A1, c1, a), (A2, c2, b)] (fun r hr => by
    simp only [List.mem_cons, List.mem_nil_iff, or_false] at hr
    rcases hr with rfl | rfl
    · exact h1
    · exact h2) hB) (by simp) rfl (by decide) (by simp; omega)
  refine h.mono ?_
  rintro e w' ⟨A', n', c', rfl, ho, hb⟩
  refine ⟨A', n', c', rfl, ?_, ((Below.refl w.heap.size w).alloc (Nat.le_refl _) _).trans (hb.mono (by simp))⟩
  have e : List.flatten (List.map (fun r : SRow => r.2.2) [(A1, c1, a), (A2, c2, b)]) = a ++ b := by simp
  rw [e] at ho
  exact ho.lower (by simp)
set_option maxRecDepth 100000 in
set_option maxHeartbeats 8000000 in
/-- the product of two reduced words -/
theorem rglued_any {w : World} {B nv cv nu cu : Nat} {Av Au : Option Addr} {v u : List Int} (hrv : ReadsI w B Av v) (hru : ReadsI w B Au u) (hB : B ≤ w.heap.size) (hnv : nv = v.length) (hnu : nu = u.length) (hcv : nv ≤ cv) (hcu : nu ≤ cu) (hbv : nv ≤ 100000000) (hbu : nu ≤ 100000000) (hlv : LetL v) (hlu : LetL u) (hredv : Red v) (hredu : Red u) (hcm : cv ≤ 9223372036854775807) (hcm2 : cu ≤ 9223372036854775807) :
    Calls Tryd.prog 71 #[.slice Av nv cv, .slice Au nu cu] w (OutI w (onl v u)) := by
  have Hv := Lib.hid (And.intro hrv hnv)
  have Hu := Lib.hid (And.intro hru hnu)
  have Hl := Lib.hid (And.intro hlv hlu)
  have HB := Lib.hid hB
  have HE := Lib.hid (glue_eq v.length v u 0 hredv hredu (by omega) (by omega) (fun i hi => by omega))
  obtain ⟨P, hP⟩ : ∃ P, P = glueN v u v.length 0 := ⟨_, rfl⟩
  have HP := Lib.hid hP
  clear hrv hru hB hnv hnu hlv hlu hredv hredu hP
  go_enter Tryd.func71, Tryd.ntmps71
  go_wp2_with fail
  go_loopg [5] nv (fun k iv wr => ∃ (i d : Nat), iv = .int .i64 (i : Int) ∧ k = nv - i ∧ i ≤ nv ∧ i ≤ nu ∧ Hid (glueN v u (nv - i) i = P) ∧ Hid (wr = w.drewN d))
  case atStart => exact ⟨0, 0, rfl, by omega, by omega, by omega, Lib.hid (by rw [HP.out, Nat.sub_zero, Hv.out.2]), Lib.hid rfl⟩
  case round =>
    obtain ⟨i, d, rfl, hk, hiv, hiu, hg, hw⟩ := hrel
    have Hk := Lib.hid hk
    clear hk
    have ew := hw.out
    subst ew
    rcases Decidable.em (i < v.length ∧ i < u.length ∧ v.getD (v.length - 1 - i) 0 = - u.getD i 0) with hgo | hstop
    · have hil : i < u.length := hgo.2.1
      have hjl : nv - 1 - i < v.length := by have := Hv.out.2; omega
      obtain ⟨ad, rfl, hb1, c0⟩ := Hv.out.1.at_ hjl
      obtain ⟨ad2, rfl, hb2, d0⟩ := Hu.out.1.at_ hil
      have hnext := Lib.hid (show glueN v u (nv - (i + 1)) (i + 1) = P by rw [← hg.out, Hv.out.2]; exact (glueN_go hgo).symm)
      have hxy : v[nv - 1 - i] = - u[i] := by
        have h := hgo.2.2
        rw [← Hv.out.2, List.getD_eq_getElem?_getD, List.getElem?_eq_getElem hjl, List.getD_eq_getElem?_getD, List.getElem?_eq_getElem hil] at h
        exact h
      have hly := Hl.out.2 u[i] (List.getElem_mem hil)
      rw [hxy] at c0
      have hi1 : (i : Int) < (nv : Int) := by have := Hv.out.2; omega
      have hi2 : (i : Int) < (nu : Int) := by have := Hu.out.2; omega
      generalize u[i] = y at *
      obtain ⟨hy0, hy1, hy2⟩ := hly
      have s1 : ((nv : Int) - 1 - (i : Int)).toNat = nv - 1 - i := by omega
      have s2 : (0 : Int) ≤ (nv : Int) - 1 - (i : Int) := by omega
      clear hb1 hb2 hil hjl hgo hxy
      go_wp2_with (go_quiet (fail))
      go_roundg (nv - (i + 1))
      case measure => have := Hk.out; omega
      case rel => exact ⟨i + 1, _, rfl, rfl, by omega, by omega, hnext, Lib.hid rfl⟩
    · have hPi : P = i := by rw [← hg.out]; exact glueN_stop hstop
      have Hgl := Lib.hid (show onl v u = v.take (nv - i) ++ u.drop i by rw [HE.out, ← HP.out, hPi, Hv.out.2])
      have Hn1 := Lib.hid (show nv - i = (v.take (nv - i)).length by rw [List.length_take]; have := Hv.out.2; omega)
      have Hn2 := Lib.hid (show nu - i = (u.drop i).length by rw [List.length_drop]; have := Hu.out.2; omega)
      have Hn3 := Lib.hid (show (v.take (nv - i)).length + (u.drop i).length ≤ 1000000000 by rw [List.length_take, List.length_drop]; have := Hv.out.2; have := Hu.out.2; omega)
      have Rv := Lib.hid (show ReadsI w w.heap.size Av (v.take (nv - i)) from (ReadsI.take (m := v.drop (nv - i)) (by rw [List.take_append_drop]; exact Hv.out.1.more HB.out)))
      have hu0 : Au = none → nu = 0 := fun h => by
        rcases Nat.eq_zero_or_pos nu with h0 | h0
        · exact h0
        · obtain ⟨ad, e, _⟩ := Hu.out.1.at_ (k := 0) (by have := Hu.out.2; omega)
          rw [h] at e; cases e
      have hdrop : ∀ au, Au = some au → ReadsI w w.heap.size (some (au.add i)) (u.drop i) := fun au e => by
        have h := reads_part (by rw [← e]; exact Hu.out.1.more HB.out) i (u.length - i) (by have := Hu.out.2; omega)
        rwa [List.take_of_length_le (by rw [List.length_drop]; omega)] at h
      have Hdrop := Lib.hid hdrop
      have hempty : nu - i = 0 → ∀ X, ReadsI w w.heap.size X (u.drop i) := fun h X => reads_none (by rw [← Hn2.out]; exact h)
      have Hempty := Lib.hid hempty
      have hv0 : Av = none → nv = 0 := fun h => by
        rcases Nat.eq_zero_or_pos nv with h0 | h0
        · exact h0
        · obtain ⟨ad, e, _⟩ := Hv.out.1.at_ (k := 0) (by have := Hv.out.2; omega)
          rw [h] at e; cases e
      have hstop2 : nv ≤ i ∨ (i < nv ∧ nu ≤ i) ∨ (i < nv ∧ i < nu ∧ v.getD (nv - 1 - i) 0 ≠ - u.getD i 0) := by
        have h1 := Hv.out.2
        have h2 := Hu.out.2
        rw [← h1, ← h2] at hstop
        rcases Nat.lt_or_ge i nv with h3 | h3
        · rcases Nat.lt_or_ge i nu with h4 | h4
          · exact .inr (.inr ⟨h3, h4, fun h => hstop ⟨h3, h4, h⟩⟩)
          · exact .inr (.inl ⟨h3, h4⟩)
        · exact .inl h3
      clear hstop hdrop hempty HE HP hPi
      rcases hstop2 with h | ⟨h, h'⟩ | ⟨h, h', hne⟩
      · have hi1 : (nv : Int) ≤ (i : Int) := by omega
        have hi1' : ¬ (i : Int) < (nv : Int) := by omega
        rcases Av with _ | adv
        · rcases Au with _ | adu
          · have Hq := Lib.hid (And.intro Rv.out (Hempty.out (by have := hu0 (by trivial); omega) none))
            clear hu0 hv0
            go_wp2_with (go_quiet (fail))
            generalize d + nq = q
            have t1 : nv - i ≤ cv := by omega
            have t2 : i ≤ cu := by omega
            have t3 : (i : Int) ≤ (nu : Int) := by omega
            have t4 : (0 : Int) ≤ (nv : Int) - (i : Int) := by omega
            have t5 : (nv : Int) - (i : Int) ≤ (cv : Int) := by omega
            have t6 : i ≤ nu := by omega
            have b1 : Below w.heap.size w (w.drewN (q + 1)) := bdrew (Below.refl _ _) (q + 1)
            have HJ := Lib.hid (show Calls Tryd.prog 63 #[.slice (some ⟨w.heap.size, 0, none⟩) 2 2] ((w.drewN (q + 1)).alloc (.cells #[.slice none 0 cv, .slice none (nu - i) (cu - i)] 22)) (OutI (w.drewN (q + 1)) (v.take (nv - i) ++ u.drop i)) from rjoin2 (w := w.drewN (q + 1)) (Hq.out.1.below b1) (Hq.out.2.below b1) b1.size (by have := Hn1.out; omega) (by have := Hn2.out; omega) Hn3.out)
            have s4 : ((nv : Int) - (i : Int)).toNat = 0 := by omega
            have s5 : IntKind.i64.wrap ((nv : Int) - (i : Int)) = (nv : Int) - (i : Int) := by rw [IntKind.wrap_i64]; omega
            refine wp_region_noPanic ?_
            refine wp_region_held_drew (S := fun w' => Below w.heap.size w w') (by kernel_rfl) (bdrew (Below.refl _ _) q).drew (fun hHeld => ?_)
            have b0 : Below w.heap.size w (w.drewN q).drew := hHeld
            refine wpAnyH_take (i := 0) (oi := Oper.mk (some 34) _ _ _ _ _) (v := ?_) rfl (by kernel_rfl) (by kernel_rfl) (by kernel_rfl) (fun _ _ _ h => h) (Or.inl ⟨by rfl, ?_⟩) (by assumption) ?_
            rotate_left
            · (intro w' hSw; (try dsimp only at hSw); go_simp; try with_reducible rfl)
            try simp only [Act.put, List.setIfInBounds_toArray, List.set_cons_zero, List.set_cons_succ]
            refine wpAnyH_take (i := 1) (oi := Oper.mk (some 35) _ _ _ _ _) (v := ?_) rfl (by kernel_rfl) (by kernel_rfl) (by kernel_rfl) (fun _ _ _ h => h) (Or.inl ⟨by rfl, ?_⟩) (by assumption) ?_
            rotate_left
            · (intro w' hSw; (try dsimp only at hSw); go_simp; try with_reducible rfl)
            try simp only [Act.put, List.setIfInBounds_toArray, List.set_cons_zero, List.set_cons_succ]
            refine wpAnyH_take (i := 2) (oi := Oper.mk (some 36) _ _ _ _ _) (v := ?_) rfl (by kernel_rfl) (by kernel_rfl) (by kernel_rfl) (fun _ _ _ h => h) (Or.inl ⟨by rfl, ?_⟩) (by assumption) ?_
            rotate_left
            · (intro w' hSw; (try dsimp only at hSw); go_simp; try with_reducible rfl)
            try simp only [Act.put, List.setIfInBounds_toArray, List.set_cons_zero, List.set_cons_succ]
            refine wpAnyH_take (i := 3) (oi := Oper.mk (some 37) _ _ _ _ _) (v := ?_) rfl (by kernel_rfl) (by kernel_rfl) (by kernel_rfl) (fun _ _ _ h => h) (Or.inl ⟨by rfl, ?_⟩) (by assumption) ?_
            rotate_left
            · (intro w' hSw; (try dsimp only at hSw); go_simp; try with_reducible rfl)
            try simp only [Act.put, List.setIfInBounds_toArray, List.set_cons_zero, List.set_cons_succ]
            refine wpAnyH_take (i := 4) (oi := Oper.mk (some 38) _ _ _ _ _) (v := ?_) rfl (by kernel_rfl) (by kernel_rfl) (by kernel_rfl) (fun _ _ _ h => h) (Or.inl ⟨by rfl, ?_⟩) (by assumption) ?_
            rotate_left
            · (intro w' hSw; (try dsimp only at hSw); go_simp; try with_reducible rfl)
            try simp only [Act.put, List.setIfInBounds_toArray, List.set_cons_zero, List.set_cons_succ]
            refine wpAnyH_take (i := 5) (oi := Oper.mk (some 39) _ _ _ _ _) (v := ?_) rfl (by kernel_rfl) (by kernel_rfl) (by kernel_rfl) (fun _ _ _ h => h) (Or.inl ⟨by rfl, ?_⟩) (by assumption) ?_
            rotate_left
            · (intro w' hSw; (try dsimp only at hSw); go_simp; try with_reducible rfl)
            try simp only [Act.put, List.setIfInBounds_toArray, List.set_cons_zero, List.set_cons_succ]
            refine wpAnyH_take (i := 6) (oi := Oper.mk (some 40) _ _ _ _ _) (v := ?_) rfl (by kernel_rfl) (by kernel_rfl) (by kernel_rfl) (fun _ _ _ h => h) (Or.inl ⟨by rfl, ?_⟩) (by assumption) ?_
            rotate_left
            · (intro w' hSw; (try dsimp only at hSw); go_simp; try with_reducible rfl)
            try simp only [Act.put, List.setIfInBounds_toArray, List.set_cons_zero, List.set_cons_succ]
            refine wpAnyH_take (i := 7) (oi := Oper.mk (some 41) _ _ _ _ _) (v := ?_) rfl (by kernel_rfl) (by kernel_rfl) (by kernel_rfl) (fun _ _ _ h => h) (Or.inl ⟨by rfl, ?_⟩) (by assumption) ?_
            rotate_left
            · (intro w' hSw; (try dsimp only at hSw); go_simp; try with_reducible rfl)
            try simp only [Act.put, List.setIfInBounds_toArray, List.set_cons_zero, List.set_cons_succ]
            refine wpAnyH_take (i := 8) (oi := Oper.mk (some 42) _ _ _ _ _) (v := ?_) rfl (by kernel_rfl) (by kernel_rfl) (by kernel_rfl) (fun _ _ _ h => h) (Or.inl ⟨by rfl, ?_⟩) (by assumption) ?_
            rotate_left
            · (intro w' hSw; (try dsimp only at hSw); go_simp; try with_reducible rfl)
            try simp only [Act.put, List.setIfInBounds_toArray, List.set_cons_zero, List.set_cons_succ]
            refine wpAnyH_ready (rs := [9]) (by kernel_rfl) (by simp) ?_
            refine AllReadyH.cons (o := Oper.mk (some 43) _ _ _ _ _) rfl (fun K hK => ?_) AllReadyH.nil
            go_simp
            try simp only []
            refine hK.out _ _ (b1.alloc b1.size (.cells #[.slice none 0 cv, .slice none (nu - i) (cu - i)] 22)) (fun _ => ?_)
            clear hK K hHeld
            have hHeld := (b1.alloc b1.size (.cells #[.slice none 0 cv, .slice none (nu - i) (cu - i)] 22))
            try simp only [Act.put, List.setIfInBounds_toArray, List.set_cons_zero, List.set_cons_succ]
            refine wpAnyH_ready (rs := [10]) (by kernel_rfl) (by simp) ?_
            refine AllReadyH.cons (o := Oper.mk (some 44) _ _ _ _ _) rfl (fun K hK => ?_) AllReadyH.nil
            go_simp
            refine HJ.out.mono ?_
            rintro e w5 ⟨A5, n5, c5, rfl, ho5, hb5⟩
            try simp only []
            have b5 : Below w.heap.size w w5 := b1.trans (hb5.mono b1.size)
            have ho5' : OwnI w5 w.heap.size (.slice A5 n5 c5) (v.take (nv - i) ++ u.drop i) := ho5.lower b1.size
            clear hb5 ho5
            refine hK.out _ _ b5 (fun _ => ?_)
            clear hK K hHeld
            have hHeld := b5
            try simp only [Act.put, List.setIfInBounds_toArray, List.set_cons_zero, List.set_cons_succ]
            refine wpAnyH_take (i := 11) (oi := Oper.mk (some 4) _ _ _ _ _) (v := ?_) rfl (by kernel_rfl) (by kernel_rfl) (by kernel_rfl) (fun _ _ _ h => h) (Or.inl ⟨by rfl, ?_⟩) (by assumption) ?_
            rotate_left
            · (intro w' hSw; (try dsimp only at hSw); go_simp; try with_reducible rfl)
            try simp only [Act.put, List.setIfInBounds_toArray, List.set_cons_zero, List.set_cons_succ]
            refine wpAnyH_done (by kernel_rfl) ?_ _
            refine NoPanic.normal ?_
            go_wp2_with fail
            go_ret
            exact ⟨A5, n5, c5, rfl, by rw [Hgl.out]; exact ho5', b5⟩
          · by_cases hci : cu = i
            · have hci2 := hci.symm
              have Hq := Lib.hid (And.intro Rv.out (Hempty.out (by omega) (some adu)))
              have hcu' : nu = i := by omega
              clear hu0 hv0 hci2
              go_wp2_with (go_quiet (fail))
              generalize d + nq = q
              have t1 : nv - i ≤ cv := by omega
              have t2 : i ≤ cu := by omega
              have t3 : (i : Int) ≤ (nu : Int) := by omega
              have t4 : (0 : Int) ≤ (nv : Int) - (i : Int) := by omega
              have t5 : (nv : Int) - (i : Int) ≤ (cv : Int) := by omega
              have t6 : i ≤ nu := by omega
              have b1 : Below w.heap.size w (w.drewN (q + 1)) := bdrew (Below.refl _ _) (q + 1)
              have HJ := Lib.hid (show Calls Tryd.prog 63 #[.slice (some ⟨w.heap.size, 0, none⟩) 2 2] ((w.drewN (q + 1)).alloc (.cells #[.slice none 0 cv, .slice (some adu) 0 0] 22)) (OutI (w.drewN (q + 1)) (v.take (nv - i) ++ u.drop i)) from rjoin2 (w := w.drewN (q + 1)) (Hq.out.1.below b1) (Hq.out.2.below b1) b1.size (by have := Hn1.out; omega) (by have := Hn2.out; omega) Hn3.out)
              have s4 : ((nv : Int) - (i : Int)).toNat = 0 := by omega
              have s5 : IntKind.i64.wrap ((nv : Int) - (i : Int)) = (nv : Int) - (i : Int) := by rw [IntKind.wrap_i64]; omega
              refine wp_region_noPanic ?_
              refine wp_region_held_drew (S := fun w' => Below w.heap.size w w') (by kernel_rfl) (bdrew (Below.refl _ _) q).drew (fun hHeld => ?_)
              have b0 : Below w.heap.size w (w.drewN q).drew := hHeld
              refine wpAnyH_take (i := 0) (oi := Oper.mk (some 34) _ _ _ _ _) (v := ?_) rfl (by kernel_rfl) (by kernel_rfl) (by kernel_rfl) (fun _ _ _ h => h) (Or.inl ⟨by rfl, ?_⟩) (by assumption) ?_
              rotate_left
              · (intro w' hSw; (try dsimp only at hSw); go_simp; try with_reducible rfl)
              try simp only [Act.put, List.setIfInBounds_toArray, List.set_cons_zero, List.set_cons_succ]
              refine wpAnyH_take (i := 1) (oi := Oper.mk (some 35) _ _ _ _ _) (v := ?_) rfl (by kernel_rfl) (by kernel_rfl) (by kernel_rfl) (fun _ _ _ h => h) (Or.inl ⟨by rfl, ?_⟩) (by assumption) ?_
              rotate_left
              · (intro w' hSw; (try dsimp only at hSw); go_simp; try with_reducible rfl)
              try simp only [Act.put, List.setIfInBounds_toArray, List.set_cons_zero, List.set_cons_succ]
              refine wpAnyH_take (i := 2) (oi := Oper.mk (some 36) _ _ _ _ _) (v := ?_) rfl (by kernel_rfl) (by kernel_rfl) (by kernel_rfl) (fun _ _ _ h => h) (Or.inl ⟨by rfl, ?_⟩) (by assumption) ?_
              rotate_left
              · (intro w' hSw; (try dsimp only at hSw); go_simp; try with_reducible rfl)
              try simp only [Act.put, List.setIfInBounds_toArray, List.set_cons_zero, List.set_cons_succ]
              refine wpAnyH_take (i := 3) (oi := Oper.mk (some 37) _ _ _ _ _) (v := ?_) rfl (by kernel_rfl) (by kernel_rfl) (by kernel_rfl) (fun _ _ _ h => h) (Or.inl ⟨by rfl, ?_⟩) (by assumption) ?_
              rotate_left
              · (intro w' hSw; (try dsimp only at hSw); go_simp; try with_reducible rfl)
              try simp only [Act.put, List.setIfInBounds_toArray, List.set_cons_zero, List.set_cons_succ]
              refine wpAnyH_take (i := 4) (oi := Oper.mk (some 38) _ _ _ _ _) (v := ?_) rfl (by kernel_rfl) (by kernel_rfl) (by kernel_rfl) (fun _ _ _ h => h) (Or.inl ⟨by rfl, ?_⟩) (by assumption) ?_
              rotate_left
              · (intro w' hSw; (try dsimp only at hSw); go_simp; try with_reducible rfl)
              try simp only [Act.put, List.setIfInBounds_toArray, List.set_cons_zero, List.set_cons_succ]
              refine wpAnyH_take (i := 5) (oi := Oper.mk (some 39) _ _ _ _ _) (v := ?_) rfl (by kernel_rfl) (by kernel_rfl) (by kernel_rfl) (fun _ _ _ h => h) (Or.inl ⟨by rfl, ?_⟩) (by assumption) ?_
              rotate_left
              · (intro w' hSw; (try dsimp only at hSw); go_simp; try with_reducible rfl)
              try simp only [Act.put, List.setIfInBounds_toArray, List.set_cons_zero, List.set_cons_succ]
              refine wpAnyH_take (i := 6) (oi := Oper.mk (some 40) _ _ _ _ _) (v := ?_) rfl (by kernel_rfl) (by kernel_rfl) (by kernel_rfl) (fun _ _ _ h => h) (Or.inl ⟨by rfl, ?_⟩) (by assumption) ?_
              rotate_left
              · (intro w' hSw; (try dsimp only at hSw); go_simp; try with_reducible rfl)
              try simp only [Act.put, List.setIfInBounds_toArray, List.set_cons_zero, List.set_cons_succ]
              refine wpAnyH_take (i := 7) (oi := Oper.mk (some 41) _ _ _ _ _) (v := ?_) rfl (by kernel_rfl) (by kernel_rfl) (by kernel_rfl) (fun _ _ _ h => h) (Or.inl ⟨by rfl, ?_⟩) (by assumption) ?_
              rotate_left
              · (intro w' hSw; (try dsimp only at hSw); go_simp; try with_reducible rfl)
              try simp only [Act.put, List.setIfInBounds_toArray, List.set_cons_zero, List.set_cons_succ]
              refine wpAnyH_take (i := 8) (oi := Oper.mk (some 42) _ _ _ _ _) (v := ?_) rfl (by kernel_rfl) (by kernel_rfl) (by kernel_rfl) (fun _ _ _ h => h) (Or.inl ⟨by rfl, ?_⟩) (by assumption) ?_
              rotate_left
              · (intro w' hSw; (try dsimp only at hSw); go_simp; try with_reducible rfl)
              try simp only [Act.put, List.setIfInBounds_toArray, List.set_cons_zero, List.set_cons_succ]
              refine wpAnyH_ready (rs := [9]) (by kernel_rfl) (by simp) ?_
              refine AllReadyH.cons (o := Oper.mk (some 43) _ _ _ _ _) rfl (fun K hK => ?_) AllReadyH.nil
              go_simp
              try simp only []
              refine hK.out _ _ (b1.alloc b1.size (.cells #[.slice none 0 cv, .slice (some adu) 0 0] 22)) (fun _ => ?_)
              clear hK K hHeld
              have hHeld := (b1.alloc b1.size (.cells #[.slice none 0 cv, .slice (some adu) 0 0] 22))
              try simp only [Act.put, List.setIfInBounds_toArray, List.set_cons_zero, List.set_cons_succ]
              refine wpAnyH_ready (rs := [10]) (by kernel_rfl) (by simp) ?_
              refine AllReadyH.cons (o := Oper.mk (some 44) _ _ _ _ _) rfl (fun K hK => ?_) AllReadyH.nil
              go_simp
              refine HJ.out.mono ?_
              rintro e w5 ⟨A5, n5, c5, rfl, ho5, hb5⟩
              try simp only []
              have b5 : Below w.heap.size w w5 := b1.trans (hb5.mono b1.size)
              have ho5' : OwnI w5 w.heap.size (.slice A5 n5 c5) (v.take (nv - i) ++ u.drop i) := ho5.lower b1.size
              clear hb5 ho5
              refine hK.out _ _ b5 (fun _ => ?_)
              clear hK K hHeld
              have hHeld := b5
              try simp only [Act.put, List.setIfInBounds_toArray, List.set_cons_zero, List.set_cons_succ]
              refine wpAnyH_take (i := 11) (oi := Oper.mk (some 4) _ _ _ _ _) (v := ?_) rfl (by kernel_rfl) (by kernel_rfl) (by kernel_rfl) (fun _ _ _ h => h) (Or.inl ⟨by rfl, ?_⟩) (by assumption) ?_
              rotate_left
              · (intro w' hSw; (try dsimp only at hSw); go_simp; try with_reducible rfl)
              try simp only [Act.put, List.setIfInBounds_toArray, List.set_cons_zero, List.set_cons_succ]
              refine wpAnyH_done (by kernel_rfl) ?_ _
              refine NoPanic.normal ?_
              go_wp2_with fail
              go_ret
              exact ⟨A5, n5, c5, rfl, by rw [Hgl.out]; exact ho5', b5⟩
            · have Hq := Lib.hid (And.intro Rv.out (Hdrop.out adu rfl))
              clear hu0 hv0
              go_wp2_with (go_quiet (fail))
              generalize d + nq = q
              have t1 : nv - i ≤ cv := by omega
              have t2 : i ≤ cu := by omega
              have t3 : (i : Int) ≤ (nu : Int) := by omega
              have t4 : (0 : Int) ≤ (nv : Int) - (i : Int) := by omega
              have t5 : (nv : Int) - (i : Int) ≤ (cv : Int) := by omega
              have t6 : i ≤ nu := by omega
              have b1 : Below w.heap.size w (w.drewN (q + 1)) := bdrew (Below.refl _ _) (q + 1)
              have HJ := Lib.hid (show Calls Tryd.prog 63 #[.slice (some ⟨w.heap.size, 0, none⟩) 2 2] ((w.drewN (q + 1)).alloc (.cells #[.slice none 0 cv, .slice (some (adu.add i)) (nu - i) (cu - i)] 22)) (OutI (w.drewN (q + 1)) (v.take (nv - i) ++ u.drop i)) from rjoin2 (w := w.drewN (q + 1)) (Hq.out.1.below b1) (Hq.out.2.below b1) b1.size (by have := Hn1.out; omega) (by have := Hn2.out; omega) Hn3.out)
              have s4 : ((nv : Int) - (i : Int)).toNat = 0 := by omega
              have s5 : IntKind.i64.wrap ((nv : Int) - (i : Int)) = (nv : Int) - (i : Int) := by rw [IntKind.wrap_i64]; omega
              refine wp_region_noPanic ?_
              refine wp_region_held_drew (S := fun w' => Below w.heap.size w w') (by kernel_rfl) (bdrew (Below.refl _ _) q).drew (fun hHeld => ?_)
              have b0 : Below w.heap.size w (w.drewN q).drew := hHeld
              refine wpAnyH_take (i := 0) (oi := Oper.mk (some 34) _ _ _ _ _) (v := ?_) rfl (by kernel_rfl) (by kernel_rfl) (by kernel_rfl) (fun _ _ _ h => h) (Or.inl ⟨by rfl, ?_⟩) (by assumption) ?_
              rotate_left
              · (intro w' hSw; (try dsimp only at hSw); go_simp; try with_reducible rfl)
              try simp only [Act.put, List.setIfInBounds_toArray, List.set_cons_zero, List.set_cons_succ]
              refine wpAnyH_take (i := 1) (oi := Oper.mk (some 35) _ _ _ _ _) (v := ?_) rfl (by kernel_rfl) (by kernel_rfl) (by kernel_rfl) (fun _ _ _ h => h) (Or.inl ⟨by rfl, ?_⟩) (by assumption) ?_
              rotate_left
              · (intro w' hSw; (try dsimp only at hSw); go_simp; try with_reducible rfl)
              try simp only [Act.put, List.setIfInBounds_toArray, List.set_cons_zero, List.set_cons_succ]
              refine wpAnyH_take (i := 2) (oi := Oper.mk (some 36) _ _ _ _ _) (v := ?_) rfl (by kernel_rfl) (by kernel_rfl) (by kernel_rfl) (fun _ _ _ h => h) (Or.inl ⟨by rfl, ?_⟩) (by assumption) ?_
              rotate_left
              · (intro w' hSw; (try dsimp only at hSw); go_simp; try with_reducible rfl)
              try simp only [Act.put, List.setIfInBounds_toArray, List.set_cons_zero, List.set_cons_succ]
              refine wpAnyH_take (i := 3) (oi := Oper.mk (some 37) _ _ _ _ _) (v := ?_) rfl (by kernel_rfl) (by kernel_rfl) (by kernel_rfl) (fun _ _ _ h => h) (Or.inl ⟨by rfl, ?_⟩) (by assumption) ?_
              rotate_left
              · (intro w' hSw; (try dsimp only at hSw); go_simp; try with_reducible rfl)
              try simp only [Act.put, List.setIfInBounds_toArray, List.set_cons_zero, List.set_cons_succ]
              refine wpAnyH_take (i := 4) (oi := Oper.mk (some 38) _ _ _ _ _) (v := ?_) rfl (by kernel_rfl) (by kernel_rfl) (by kernel_rfl) (fun _ _ _ h => h) (Or.inl ⟨by rfl, ?_⟩) (by assumption) ?_
              rotate_left
              · (intro w' hSw; (try dsimp only at hSw); go_simp; try with_reducible rfl)
              try simp only [Act.put, List.setIfInBounds_toArray, List.set_cons_zero, List.set_cons_succ]
              refine wpAnyH_take (i := 5) (oi := Oper.mk (some 39) _ _ _ _ _) (v := ?_) rfl (by kernel_rfl) (by kernel_rfl) (by kernel_rfl) (fun _ _ _ h => h) (Or.inl ⟨by rfl, ?_⟩) (by assumption) ?_
              rotate_left
              · (intro w' hSw; (try dsimp only at hSw); go_simp; try with_reducible rfl)
              try simp only [Act.put, List.setIfInBounds_toArray, List.set_cons_zero, List.set_cons_succ]
              refine wpAnyH_take (i := 6) (oi := Oper.mk (some 40) _ _ _ _ _) (v := ?_) rfl (by kernel_rfl) (by kernel_rfl) (by kernel_rfl) (fun _ _ _ h => h) (Or.inl ⟨by rfl, ?_⟩) (by assumption) ?_
              rotate_left
              · (intro w' hSw; (try dsimp only at hSw); go_simp; try with_reducible rfl)
              try simp only [Act.put, List.setIfInBounds_toArray, List.set_cons_zero, List.set_cons_succ]
              refine wpAnyH_take (i := 7) (oi := Oper.mk (some 41) _ _ _ _ _) (v := ?_) rfl (by kernel_rfl) (by kernel_rfl) (by kernel_rfl) (fun _ _ _ h => h) (Or.inl ⟨by rfl, ?_⟩) (by assumption) ?_
              rotate_left
              · (intro w' hSw; (try dsimp only at hSw); go_simp; try with_reducible rfl)
              try simp only [Act.put, List.setIfInBounds_toArray, List.set_cons_zero, List.set_cons_succ]
              refine wpAnyH_take (i := 8) (oi := Oper.mk (some 42) _ _ _ _ _) (v := ?_) rfl (by kernel_rfl) (by kernel_rfl) (by kernel_rfl) (fun _ _ _ h => h) (Or.inl ⟨by rfl, ?_⟩) (by assumption) ?_
              rotate_left
              · (intro w' hSw; (try dsimp only at hSw); go_simp; try with_reducible rfl)
              try simp only [Act.put, List.setIfInBounds_toArray, List.set_cons_zero, List.set_cons_succ]
              refine wpAnyH_ready (rs := [9]) (by kernel_rfl) (by simp) ?_
              refine AllReadyH.cons (o := Oper.mk (some 43) _ _ _ _ _) rfl (fun K hK => ?_) AllReadyH.nil
              go_simp
              try simp only []
              refine hK.out _ _ (b1.alloc b1.size (.cells #[.slice none 0 cv, .slice (some (adu.add i)) (nu - i) (cu - i)] 22)) (fun _ => ?_)
              clear hK K hHeld
              have hHeld := (b1.alloc b1.size (.cells #[.slice none 0 cv, .slice (some (adu.add i)) (nu - i) (cu - i)] 22))
              try simp only [Act.put, List.setIfInBounds_toArray, List.set_cons_zero, List.set_cons_succ]
              refine wpAnyH_ready (rs := [10]) (by kernel_rfl) (by simp) ?_
              refine AllReadyH.cons (o := Oper.mk (some 44) _ _ _ _ _) rfl (fun K hK => ?_) AllReadyH.nil
              go_simp
              refine HJ.out.mono ?_
              rintro e w5 ⟨A5, n5, c5, rfl, ho5, hb5⟩
              try simp only []
              have b5 : Below w.heap.size w w5 := b1.trans (hb5.mono b1.size)
              have ho5' : OwnI w5 w.heap.size (.slice A5 n5 c5) (v.take (nv - i) ++ u.drop i) := ho5.lower b1.size
              clear hb5 ho5
              refine hK.out _ _ b5 (fun _ => ?_)
              clear hK K hHeld
              have hHeld := b5
              try simp only [Act.put, List.setIfInBounds_toArray, List.set_cons_zero, List.set_cons_succ]
              refine wpAnyH_take (i := 11) (oi := Oper.mk (some 4) _ _ _ _ _) (v := ?_) rfl (by kernel_rfl) (by kernel_rfl) (by kernel_rfl) (fun _ _ _ h => h) (Or.inl ⟨by rfl, ?_⟩) (by assumption) ?_
              rotate_left
              · (intro w' hSw; (try dsimp only at hSw); go_simp; try with_reducible rfl)
              try simp only [Act.put, List.setIfInBounds_toArray, List.set_cons_zero, List.set_cons_succ]
              refine wpAnyH_done (by kernel_rfl) ?_ _
              refine NoPanic.normal ?_
              go_wp2_with fail
              go_ret
              exact ⟨A5, n5, c5, rfl, by rw [Hgl.out]; exact ho5', b5⟩
        · rcases Au with _ | adu
          · have Hq := Lib.hid (And.intro Rv.out (Hempty.out (by have := hu0 (by trivial); omega) none))
            clear hu0 hv0
            go_wp2_with (go_quiet (fail))
            generalize d + nq = q
            have t1 : nv - i ≤ cv := by omega
            have t2 : i ≤ cu := by omega
            have t3 : (i : Int) ≤ (nu : Int) := by omega
            have t4 : (0 : Int) ≤ (nv : Int) - (i : Int) := by omega
            have t5 : (nv : Int) - (i : Int) ≤ (cv : Int) := by omega
            have t6 : i ≤ nu := by omega
            have b1 : Below w.heap.size w (w.drewN (q + 1)) := bdrew (Below.refl _ _) (q + 1)
            have HJ := Lib.hid (show Calls Tryd.prog 63 #[.slice (some ⟨w.heap.size, 0, none⟩) 2 2] ((w.drewN (q + 1)).alloc (.cells #[.slice (some adv) 0 cv, .slice none (nu - i) (cu - i)] 22)) (OutI (w.drewN (q + 1)) (v.take (nv - i) ++ u.drop i)) from rjoin2 (w := w.drewN (q + 1)) (Hq.out.1.below b1) (Hq.out.2.below b1) b1.size (by have := Hn1.out; omega) (by have := Hn2.out; omega) Hn3.out)
            have s4 : ((nv : Int) - (i : Int)).toNat = 0 := by omega
            have s5 : IntKind.i64.wrap ((nv : Int) - (i : Int)) = (nv : Int) - (i : Int) := by rw [IntKind.wrap_i64]; omega
            refine wp_region_noPanic ?_
            refine wp_region_held_drew (S := fun w' => Below w.heap.size w w') (by kernel_rfl) (bdrew (Below.refl _ _) q).drew (fun hHeld => ?_)
            have b0 : Below w.heap.size w (w.drewN q).drew := hHeld
            refine wpAnyH_take (i := 0) (oi := Oper.mk (some 34) _ _ _ _ _) (v := ?_) rfl (by kernel_rfl) (by kernel_rfl) (by kernel_rfl) (fun _ _ _ h => h) (Or.inl ⟨by rfl, ?_⟩) (by assumption) ?_
            rotate_left
            · (intro w' hSw; (try dsimp only at hSw); go_simp; try with_reducible rfl)
            try simp only [Act.put, List.setIfInBounds_toArray, List.set_cons_zero, List.set_cons_succ]
            refine wpAnyH_take (i := 1) (oi := Oper.mk (some 35) _ _ _ _ _) (v := ?_) rfl (by kernel_rfl) (by kernel_rfl) (by kernel_rfl) (fun _ _ _ h => h) (Or.inl ⟨by rfl, ?_⟩) (by assumption) ?_
            rotate_left
            · (intro w' hSw; (try dsimp only at hSw); go_simp; try with_reducible rfl)
            try simp only [Act.put, List.setIfInBounds_toArray, List.set_cons_zero, List.set_cons_succ]
            refine wpAnyH_take (i := 2) (oi := Oper.mk (some 36) _ _ _ _ _) (v := ?_) rfl (by kernel_rfl) (by kernel_rfl) (by kernel_rfl) (fun _ _ _ h => h) (Or.inl ⟨by rfl, ?_⟩) (by assumption) ?_
            rotate_left
            · (intro w' hSw; (try dsimp only at hSw); go_simp; try with_reducible rfl)
            try simp only [Act.put, List.setIfInBounds_toArray, List.set_cons_zero, List.set_cons_succ]
            refine wpAnyH_take (i := 3) (oi := Oper.mk (some 37) _ _ _ _ _) (v := ?_) rfl (by kernel_rfl) (by kernel_rfl) (by kernel_rfl) (fun _ _ _ h => h) (Or.inl ⟨by rfl, ?_⟩) (by assumption) ?_
            rotate_left
            · (intro w' hSw; (try dsimp only at hSw); go_simp; try with_reducible rfl)
            try simp only [Act.put, List.setIfInBounds_toArray, List.set_cons_zero, List.set_cons_succ]
            refine wpAnyH_take (i := 4) (oi := Oper.mk (some 38) _ _ _ _ _) (v := ?_) rfl (by kernel_rfl) (by kernel_rfl) (by kernel_rfl) (fun _ _ _ h => h) (Or.inl ⟨by rfl, ?_⟩) (by assumption) ?_
            rotate_left
            · (intro w' hSw; (try dsimp only at hSw); go_simp; try with_reducible rfl)
            try simp only [Act.put, List.setIfInBounds_toArray, List.set_cons_zero, List.set_cons_succ]
            refine wpAnyH_take (i := 5) (oi := Oper.mk (some 39) _ _ _ _ _) (v := ?_) rfl (by kernel_rfl) (by kernel_rfl) (by kernel_rfl) (fun _ _ _ h => h) (Or.inl ⟨by rfl, ?_⟩) (by assumption) ?_
            rotate_left
            · (intro w' hSw; (try dsimp only at hSw); go_simp; try with_reducible rfl)
            try simp only [Act.put, List.setIfInBounds_toArray, List.set_cons_zero, List.set_cons_succ]
            refine wpAnyH_take (i := 6) (oi := Oper.mk (some 40) _ _ _ _ _) (v := ?_) rfl (by kernel_rfl) (by kernel_rfl) (by kernel_rfl) (fun _ _ _ h => h) (Or.inl ⟨by rfl, ?_⟩) (by assumption) ?_
            rotate_left
            · (intro w' hSw; (try dsimp only at hSw); go_simp; try with_reducible rfl)
            try simp only [Act.put, List.setIfInBounds_toArray, List.set_cons_zero, List.set_cons_succ]
            refine wpAnyH_take (i := 7) (oi := Oper.mk (some 41) _ _ _ _ _) (v := ?_) rfl (by kernel_rfl) (by kernel_rfl) (by kernel_rfl) (fun _ _ _ h => h) (Or.inl ⟨by rfl, ?_⟩) (by assumption) ?_
            rotate_left
            · (intro w' hSw; (try dsimp only at hSw); go_simp; try with_reducible rfl)
            try simp only [Act.put, List.setIfInBounds_toArray, List.set_cons_zero, List.set_cons_succ]
            refine wpAnyH_take (i := 8) (oi := Oper.mk (some 42) _ _ _ _ _) (v := ?_) rfl (by kernel_rfl) (by kernel_rfl) (by kernel_rfl) (fun _ _ _ h => h) (Or.inl ⟨by rfl, ?_⟩) (by assumption) ?_
            rotate_left
            · (intro w' hSw; (try dsimp only at hSw); go_simp; try with_reducible rfl)
            try simp only [Act.put, List.setIfInBounds_toArray, List.set_cons_zero, List.set_cons_succ]
            refine wpAnyH_ready (rs := [9]) (by kernel_rfl) (by simp) ?_
            refine AllReadyH.cons (o := Oper.mk (some 43) _ _ _ _ _) rfl (fun K hK => ?_) AllReadyH.nil
            go_simp
            try simp only []
            refine hK.out _ _ (b1.alloc b1.size (.cells #[.slice (some adv) 0 cv, .slice none (nu - i) (cu - i)] 22)) (fun _ => ?_)
            clear hK K hHeld
            have hHeld := (b1.alloc b1.size (.cells #[.slice (some adv) 0 cv, .slice none (nu - i) (cu - i)] 22))
            try simp only [Act.put, List.setIfInBounds_toArray, List.set_cons_zero, List.set_cons_succ]
            refine wpAnyH_ready (rs := [10]) (by kernel_rfl) (by simp) ?_
            refine AllReadyH.cons (o := Oper.mk (some 44) _ _ _ _ _) rfl (fun K hK => ?_) AllReadyH.nil
            go_simp
            refine HJ.out.mono ?_
            rintro e w5 ⟨A5, n5, c5, rfl, ho5, hb5⟩
            try simp only []
            have b5 : Below w.heap.size w w5 := b1.trans (hb5.mono b1.size)
            have ho5' : OwnI w5 w.heap.size (.slice A5 n5 c5) (v.take (nv - i) ++ u.drop i) := ho5.lower b1.size
            clear hb5 ho5
            refine hK.out _ _ b5 (fun _ => ?_)
            clear hK K hHeld
            have hHeld := b5
            try simp only [Act.put, List.setIfInBounds_toArray, List.set_cons_zero, List.set_cons_succ]
            refine wpAnyH_take (i := 11) (oi := Oper.mk (some 4) _ _ _ _ _) (v := ?_) rfl (by kernel_rfl) (by kernel_rfl) (by kernel_rfl) (fun _ _ _ h => h) (Or.inl ⟨by rfl, ?_⟩) (by assumption) ?_
            rotate_left
            · (intro w' hSw; (try dsimp only at hSw); go_simp; try with_reducible rfl)
            try simp only [Act.put, List.setIfInBounds_toArray, List.set_cons_zero, List.set_cons_succ]
            refine wpAnyH_done (by kernel_rfl) ?_ _
            refine NoPanic.normal ?_
            go_wp2_with fail
            go_ret
            exact ⟨A5, n5, c5, rfl, by rw [Hgl.out]; exact ho5', b5⟩
          · by_cases hci : cu = i
            · have hci2 := hci.symm
              have Hq := Lib.hid (And.intro Rv.out (Hempty.out (by omega) (some adu)))
              have hcu' : nu = i := by omega
              clear hu0 hv0 hci2
              go_wp2_with (go_quiet (fail))
              generalize d + nq = q
              have t1 : nv - i ≤ cv := by omega
              have t2 : i ≤ cu := by omega
              have t3 : (i : Int) ≤ (nu : Int) := by omega
              have t4 : (0 : Int) ≤ (nv : Int) - (i : Int) := by omega
              have t5 : (nv : Int) - (i : Int) ≤ (cv : Int) := by omega
              have t6 : i ≤ nu := by omega
              have b1 : Below w.heap.size w (w.drewN (q + 1)) := bdrew (Below.refl _ _) (q + 1)
              have HJ := Lib.hid (show Calls Tryd.prog 63 #[.slice (some ⟨w.heap.size, 0, none⟩) 2 2] ((w.drewN (q + 1)).alloc (.cells #[.slice (some adv) 0 cv, .slice (some adu) 0 0] 22)) (OutI (w.drewN (q + 1)) (v.take (nv - i) ++ u.drop i)) from rjoin2 (w := w.drewN (q + 1)) (Hq.out.1.below b1) (Hq.out.2.below b1) b1.size (by have := Hn1.out; omega) (by have := Hn2.out; omega) Hn3.out)
              have s4 : ((nv : Int) - (i : Int)).toNat = 0 := by omega
              have s5 : IntKind.i64.wrap ((nv : Int) - (i : Int)) = (nv : Int) - (i : Int) := by rw [IntKind.wrap_i64]; omega
              refine wp_region_noPanic ?_
              refine wp_region_held_drew (S := fun w' => Below w.heap.size w w') (by kernel_rfl) (bdrew (Below.refl _ _) q).drew (fun hHeld => ?_)
              have b0 : Below w.heap.size w (w.drewN q).drew := hHeld
              refine wpAnyH_take (i := 0) (oi := Oper.mk (some 34) _ _ _ _ _) (v := ?_) rfl (by kernel_rfl) (by kernel_rfl) (by kernel_rfl) (fun _ _ _ h => h) (Or.inl ⟨by rfl, ?_⟩) (by assumption) ?_
              rotate_left
              · (intro w' hSw; (try dsimp only at hSw); go_simp; try with_reducible rfl)
              try simp only [Act.put, List.setIfInBounds_toArray, List.set_cons_zero, List.set_cons_succ]
              refine wpAnyH_take (i := 1) (oi := Oper.mk (some 35) _ _ _ _ _) (v := ?_) rfl (by kernel_rfl) (by kernel_rfl) (by kernel_rfl) (fun _ _ _ h => h) (Or.inl ⟨by rfl, ?_⟩) (by assumption) ?_
              rotate_left
              · (intro w' hSw; (try dsimp only at hSw); go_simp; try with_reducible rfl)
              try simp only [Act.put, List.setIfInBounds_toArray, List.set_cons_zero, List.set_cons_succ]
              refine wpAnyH_take (i := 2) (oi := Oper.mk (some 36) _ _ _ _ _) (v := ?_) rfl (by kernel_rfl) (by kernel_rfl) (by kernel_rfl) (fun _ _ _ h => h) (Or.inl ⟨by rfl, ?_⟩) (by assumption) ?_
              rotate_left
              · (intro w' hSw; (try dsimp only at hSw); go_simp; try with_reducible rfl)
              try simp only [Act.put, List.setIfInBounds_toArray, List.set_cons_zero, List.set_cons_succ]
              refine wpAnyH_take (i := 3) (oi := Oper.mk (some 37) _ _ _ _ _) (v := ?_) rfl (by kernel_rfl) (by kernel_rfl) (by kernel_rfl) (fun _ _ _ h => h) (Or.inl ⟨by rfl, ?_⟩) (by assumption) ?_
              rotate_left
              · (intro w' hSw; (try dsimp only at hSw); go_simp; try with_reducible rfl)
              try simp only [Act.put, List.setIfInBounds_toArray, List.set_cons_zero, List.set_cons_succ]
              refine wpAnyH_take (i := 4) (oi := Oper.mk (some 38) _ _ _ _ _) (v := ?_) rfl (by kernel_rfl) (by kernel_rfl) (by kernel_rfl) (fun _ _ _ h => h) (Or.inl ⟨by rfl, ?_⟩) (by assumption) ?_
              rotate_left
              · (intro w' hSw; (try dsimp only at hSw); go_simp; try with_reducible rfl)
              try simp only [Act.put, List.setIfInBounds_toArray, List.set_cons_zero, List.set_cons_succ]
              refine wpAnyH_take (i := 5) (oi := Oper.mk (some 39) _ _ _ _ _) (v := ?_) rfl (by kernel_rfl) (by kernel_rfl) (by kernel_rfl) (fun _ _ _ h => h) (Or.inl ⟨by rfl, ?_⟩) (by assumption) ?_
              rotate_left
              · (intro w' hSw; (try dsimp only at hSw); go_simp; try with_reducible rfl)
              try simp only [Act.put, List.setIfInBounds_toArray, List.set_cons_zero, List.set_cons_succ]
              refine wpAnyH_take (i := 6) (oi := Oper.mk (some 40) _ _ _ _ _) (v := ?_) rfl (by kernel_rfl) (by kernel_rfl) (by kernel_rfl) (fun _ _ _ h => h) (Or.inl ⟨by rfl, ?_⟩) (by assumption) ?_
              rotate_left
              · (intro w' hSw; (try dsimp only at hSw); go_simp; try with_reducible rfl)
              try simp only [Act.put, List.setIfInBounds_toArray, List.set_cons_zero, List.set_cons_succ]
              refine wpAnyH_take (i := 7) (oi := Oper.mk (some 41) _ _ _ _ _) (v := ?_) rfl (by kernel_rfl) (by kernel_rfl) (by kernel_rfl) (fun _ _ _ h => h) (Or.inl ⟨by rfl, ?_⟩) (by assumption) ?_
              rotate_left
              · (intro w' hSw; (try dsimp only at hSw); go_simp; try with_reducible rfl)
              try simp only [Act.put, List.setIfInBounds_toArray, List.set_cons_zero, List.set_cons_succ]
              refine wpAnyH_take (i := 8) (oi := Oper.mk (some 42) _ _ _ _ _) (v := ?_) rfl (by kernel_rfl) (by kernel_rfl) (by kernel_rfl) (fun _ _ _ h => h) (Or.inl ⟨by rfl, ?_⟩) (by assumption) ?_
              rotate_left
              · (intro w' hSw; (try dsimp only at hSw); go_simp; try with_reducible rfl)
              try simp only [Act.put, List.setIfInBounds_toArray, List.set_cons_zero, List.set_cons_succ]
              refine wpAnyH_ready (rs := [9]) (by kernel_rfl) (by simp) ?_
              refine AllReadyH.cons (o := Oper.mk (some 43) _ _ _ _ _) rfl (fun K hK => ?_) AllReadyH.nil
              go_simp
              try simp only []
              refine hK.out _ _ (b1.alloc b1.size (.cells #[.slice (some adv) 0 cv, .slice (some adu) 0 0] 22)) (fun _ => ?_)
              clear hK K hHeld
              have hHeld := (b1.alloc b1.size (.cells #[.slice (some adv) 0 cv, .slice (some adu) 0 0] 22))
              try simp only [Act.put, List.setIfInBounds_toArray, List.set_cons_zero, List.set_cons_succ]
              refine wpAnyH_ready (rs := [10]) (by kernel_rfl) (by simp) ?_
              refine AllReadyH.cons (o := Oper.mk (some 44) _ _ _ _ _) rfl (fun K hK => ?_) AllReadyH.nil
              go_simp
              refine HJ.out.mono ?_
              rintro e w5 ⟨A5, n5, c5, rfl, ho5, hb5⟩
              try simp only []
              have b5 : Below w.heap.size w w5 := b1.trans (hb5.mono b1.size)
              have ho5' : OwnI w5 w.heap.size (.slice A5 n5 c5) (v.take (nv - i) ++ u.drop i) := ho5.lower b1.size
              clear hb5 ho5
              refine hK.out _ _ b5 (fun _ => ?_)
              clear hK K hHeld
              have hHeld := b5
              try simp only [Act.put, List.setIfInBounds_toArray, List.set_cons_zero, List.set_cons_succ]
              refine wpAnyH_take (i := 11) (oi := Oper.mk (some 4) _ _ _ _ _) (v := ?_) rfl (by kernel_rfl) (by kernel_rfl) (by kernel_rfl) (fun _ _ _ h => h) (Or.inl ⟨by rfl, ?_⟩) (by assumption) ?_
              rotate_left
              · (intro w' hSw; (try dsimp only at hSw); go_simp; try with_reducible rfl)
              try simp only [Act.put, List.setIfInBounds_toArray, List.set_cons_zero, List.set_cons_succ]
              refine wpAnyH_done (by kernel_rfl) ?_ _
              refine NoPanic.normal ?_
              go_wp2_with fail
              go_ret
              exact ⟨A5, n5, c5, rfl, by rw [Hgl.out]; exact ho5', b5⟩
            · have Hq := Lib.hid (And.intro Rv.out (Hdrop.out adu rfl))
              clear hu0 hv0
              go_wp2_with (go_quiet (fail))
              generalize d + nq = q
              have t1 : nv - i ≤ cv := by omega
              have t2 : i ≤ cu := by omega
              have t3 : (i : Int) ≤ (nu : Int) := by omega
              have t4 : (0 : Int) ≤ (nv : Int) - (i : Int) := by omega
              have t5 : (nv : Int) - (i : Int) ≤ (cv : Int) := by omega
              have t6 : i ≤ nu := by omega
              have b1 : Below w.heap.size w (w.drewN (q + 1)) := bdrew (Below.refl _ _) (q + 1)
              have HJ := Lib.hid (show Calls Tryd.prog 63 #[.slice (some ⟨w.heap.size, 0, none⟩) 2 2] ((w.drewN (q + 1)).alloc (.cells #[.slice (some adv) 0 cv, .slice (some (adu.add i)) (nu - i) (cu - i)] 22)) (OutI (w.drewN (q + 1)) (v.take (nv - i) ++ u.drop i)) from rjoin2 (w := w.drewN (q + 1)) (Hq.out.1.below b1) (Hq.out.2.below b1) b1.size (by have := Hn1.out; omega) (by have := Hn2.out; omega) Hn3.out)
              have s4 : ((nv : Int) - (i : Int)).toNat = 0 := by omega
              have s5 : IntKind.i64.wrap ((nv : Int) - (i : Int)) = (nv : Int) - (i : Int) := by rw [IntKind.wrap_i64]; omega
              refine wp_region_noPanic ?_
              refine wp_region_held_drew (S := fun w' => Below w.heap.size w w') (by kernel_rfl) (bdrew (Below.refl _ _) q).drew (fun hHeld => ?_)
              have b0 : Below w.heap.size w (w.drewN q).drew := hHeld
              refine wpAnyH_take (i := 0) (oi := Oper.mk (some 34) _ _ _ _ _) (v := ?_) rfl (by kernel_rfl) (by kernel_rfl) (by kernel_rfl) (fun _ _ _ h => h) (Or.inl ⟨by rfl, ?_⟩) (by assumption) ?_
              rotate_left
              · (intro w' hSw; (try dsimp only at hSw); go_simp; try with_reducible rfl)
              try simp only [Act.put, List.setIfInBounds_toArray, List.set_cons_zero, List.set_cons_succ]
              refine wpAnyH_take (i := 1) (oi := Oper.mk (some 35) _ _ _ _ _) (v := ?_) rfl (by kernel_rfl) (by kernel_rfl) (by kernel_rfl) (fun _ _ _ h => h) (Or.inl ⟨by rfl, ?_⟩) (by assumption) ?_
              rotate_left
              · (intro w' hSw; (try dsimp only at hSw); go_simp; try with_reducible rfl)
              try simp only [Act.put, List.setIfInBounds_toArray, List.set_cons_zero, List.set_cons_succ]
              refine wpAnyH_take (i := 2) (oi := Oper.mk (some 36) _ _ _ _ _) (v := ?_) rfl (by kernel_rfl) (by kernel_rfl) (by kernel_rfl) (fun _ _ _ h => h) (Or.inl ⟨by rfl, ?_⟩) (by assumption) ?_
              rotate_left
              · (intro w' hSw; (try dsimp only at hSw); go_simp; try with_reducible rfl)
              try simp only [Act.put, List.setIfInBounds_toArray, List.set_cons_zero, List.set_cons_succ]
              refine wpAnyH_take (i := 3) (oi := Oper.mk (some 37) _ _ _ _ _) (v := ?_) rfl (by kernel_rfl) (by kernel_rfl) (by kernel_rfl) (fun _ _ _ h => h) (Or.inl ⟨by rfl, ?_⟩) (by assumption) ?_
              rotate_left
              · (intro w' hSw; (try dsimp only at hSw); go_simp; try with_reducible rfl)
              try simp only [Act.put, List.setIfInBounds_toArray, List.set_cons_zero, List.set_cons_succ]
              refine wpAnyH_take (i := 4) (oi := Oper.mk (some 38) _ _ _ _ _) (v := ?_) rfl (by kernel_rfl) (by kernel_rfl) (by kernel_rfl) (fun _ _ _ h => h) (Or.inl ⟨by rfl, ?_⟩) (by assumption) ?_
              rotate_left
              · (intro w' hSw; (try dsimp only at hSw); go_simp; try with_reducible rfl)
              try simp only [Act.put, List.setIfInBounds_toArray, List.set_cons_zero, List.set_cons_succ]
              refine wpAnyH_take (i := 5) (oi := Oper.mk (some 39) _ _ _ _ _) (v := ?_) rfl (by kernel_rfl) (by kernel_rfl) (by kernel_rfl) (fun _ _ _ h => h) (Or.inl ⟨by rfl, ?_⟩) (by assumption) ?_
              rotate_left
              · (intro w' hSw; (try dsimp only at hSw); go_simp; try with_reducible rfl)
              try simp only [Act.put, List.setIfInBounds_toArray, List.set_cons_zero, List.set_cons_succ]
              refine wpAnyH_take (i := 6) (oi := Oper.mk (some 40) _ _ _ _ _) (v := ?_) rfl (by kernel_rfl) (by kernel_rfl) (by kernel_rfl) (fun _ _ _ h => h) (Or.inl ⟨by rfl, ?_⟩) (by assumption) ?_
              rotate_left
              · (intro w' hSw; (try dsimp only at hSw); go_simp; try with_reducible rfl)
              try simp only [Act.put, List.setIfInBounds_toArray, List.set_cons_zero, List.set_cons_succ]
              refine wpAnyH_take (i := 7) (oi := Oper.mk (some 41) _ _ _ _ _) (v := ?_) rfl (by kernel_rfl) (by kernel_rfl) (by kernel_rfl) (fun _ _ _ h => h) (Or.inl ⟨by rfl, ?_⟩) (by assumption) ?_
              rotate_left
              · (intro w' hSw; (try dsimp only at hSw); go_simp; try with_reducible rfl)
              try simp only [Act.put, List.setIfInBounds_toArray, List.set_cons_zero, List.set_cons_succ]
              refine wpAnyH_take (i := 8) (oi := Oper.mk (some 42) _ _ _ _ _) (v := ?_) rfl (by kernel_rfl) (by kernel_rfl) (by kernel_rfl) (fun _ _ _ h => h) (Or.inl ⟨by rfl, ?_⟩) (by assumption) ?_
              rotate_left
              · (intro w' hSw; (try dsimp only at hSw); go_simp; try with_reducible rfl)
              try simp only [Act.put, List.setIfInBounds_toArray, List.set_cons_zero, List.set_cons_succ]
              refine wpAnyH_ready (rs := [9]) (by kernel_rfl) (by simp) ?_
              refine AllReadyH.cons (o := Oper.mk (some 43) _ _ _ _ _) rfl (fun K hK => ?_) AllReadyH.nil
              go_simp
              try simp only []
              refine hK.out _ _ (b1.alloc b1.size (.cells #[.slice (some adv) 0 cv, .slice (some (adu.add i)) (nu - i) (cu - i)] 22)) (fun _ => ?_)
              clear hK K hHeld
              have hHeld := (b1.alloc b1.size (.cells #[.slice (some adv) 0 cv, .slice (some (adu.add i)) (nu - i) (cu - i)] 22))
              try simp only [Act.put, List.setIfInBounds_toArray, List.set_cons_zero, List.set_cons_succ]
              refine wpAnyH_ready (rs := [10]) (by kernel_rfl) (by simp) ?_
              refine AllReadyH.cons (o := Oper.mk (some 44) _ _ _ _ _) rfl (fun K hK => ?_) AllReadyH.nil
              go_simp
              refine HJ.out.mono ?_
              rintro e w5 ⟨A5, n5, c5, rfl, ho5, hb5⟩
              try simp only []
              have b5 : Below w.heap.size w w5 := b1.trans (hb5.mono b1.size)
              have ho5' : OwnI w5 w.heap.size (.slice A5 n5 c5) (v.take (nv - i) ++ u.drop i) := ho5.lower b1.size
              clear hb5 ho5
              refine hK.out _ _ b5 (fun _ => ?_)
              clear hK K hHeld
              have hHeld := b5
              try simp only [Act.put, List.setIfInBounds_toArray, List.set_cons_zero, List.set_cons_succ]
              refine wpAnyH_take (i := 11) (oi := Oper.mk (some 4) _ _ _ _ _) (v := ?_) rfl (by kernel_rfl) (by kernel_rfl) (by kernel_rfl) (fun _ _ _ h => h) (Or.inl ⟨by rfl, ?_⟩) (by assumption) ?_
              rotate_left
              · (intro w' hSw; (try dsimp only at hSw); go_simp; try with_reducible rfl)
              try simp only [Act.put, List.setIfInBounds_toArray, List.set_cons_zero, List.set_cons_succ]
              refine wpAnyH_done (by kernel_rfl) ?_ _
              refine NoPanic.normal ?_
              go_wp2_with fail
              go_ret
              exact ⟨A5, n5, c5, rfl, by rw [Hgl.out]; exact ho5', b5⟩
      · have hi1 : (i : Int) < (nv : Int) := by omega
        have hi2 : (nu : Int) ≤ (i : Int) := by omega
        have hi2' : ¬ (i : Int) < (nu : Int) := by omega
        rcases Av with _ | adv
        · rcases Au with _ | adu
          · have Hq := Lib.hid (And.intro Rv.out (Hempty.out (by have := hu0 (by trivial); omega) none))
            clear hu0 hv0
            go_wp2_with (go_quiet (fail))
            generalize d + nq = q
            have t1 : nv - i ≤ cv := by omega
            have t2 : i ≤ cu := by omega
            have t3 : (i : Int) ≤ (nu : Int) := by omega
            have t4 : (0 : Int) ≤ (nv : Int) - (i : Int) := by omega
            have t5 : (nv : Int) - (i : Int) ≤ (cv : Int) := by omega
            have t6 : i ≤ nu := by omega
            have b1 : Below w.heap.size w (w.drewN (q + 1)) := bdrew (Below.refl _ _) (q + 1)
            have HJ := Lib.hid (show Calls Tryd.prog 63 #[.slice (some ⟨w.heap.size, 0, none⟩) 2 2] ((w.drewN (q + 1)).alloc (.cells #[.slice none (nv - i) cv, .slice none 0 (cu - i)] 22)) (OutI (w.drewN (q + 1)) (v.take (nv - i) ++ u.drop i)) from rjoin2 (w := w.drewN (q + 1)) (Hq.out.1.below b1) (Hq.out.2.below b1) b1.size (by have := Hn1.out; omega) (by have := Hn2.out; omega) Hn3.out)
            have s4 : ((nv : Int) - (i : Int)).toNat = (nv - i) := by omega
            have s5 : IntKind.i64.wrap ((nv : Int) - (i : Int)) = (nv : Int) - (i : Int) := by rw [IntKind.wrap_i64]; omega
            refine wp_region_noPanic ?_
            refine wp_region_held_drew (S := fun w' => Below w.heap.size w w') (by kernel_rfl) (bdrew (Below.refl _ _) q).drew (fun hHeld => ?_)
            have b0 : Below w.heap.size w (w.drewN q).drew := hHeld
            refine wpAnyH_take (i := 0) (oi := Oper.mk (some 34) _ _ _ _ _) (v := ?_) rfl (by kernel_rfl) (by kernel_rfl) (by kernel_rfl) (fun _ _ _ h => h) (Or.inl ⟨by rfl, ?_⟩) (by assumption) ?_
            rotate_left
            · (intro w' hSw; (try dsimp only at hSw); go_simp; try with_reducible rfl)
            try simp only [Act.put, List.setIfInBounds_toArray, List.set_cons_zero, List.set_cons_succ]
            refine wpAnyH_take (i := 1) (oi := Oper.mk (some 35) _ _ _ _ _) (v := ?_) rfl (by kernel_rfl) (by kernel_rfl) (by kernel_rfl) (fun _ _ _ h => h) (Or.inl ⟨by rfl, ?_⟩) (by assumption) ?_
            rotate_left
            · (intro w' hSw; (try dsimp only at hSw); go_simp; try with_reducible rfl)
            try simp only [Act.put, List.setIfInBounds_toArray, List.set_cons_zero, List.set_cons_succ]
            refine wpAnyH_take (i := 2) (oi := Oper.mk (some 36) _ _ _ _ _) (v := ?_) rfl (by kernel_rfl) (by kernel_rfl) (by kernel_rfl) (fun _ _ _ h => h) (Or.inl ⟨by rfl, ?_⟩) (by assumption) ?_
            rotate_left
            · (intro w' hSw; (try dsimp only at hSw); go_simp; try with_reducible rfl)
            try simp only [Act.put, List.setIfInBounds_toArray, List.set_cons_zero, List.set_cons_succ]
            refine wpAnyH_take (i := 3) (oi := Oper.mk (some 37) _ _ _ _ _) (v := ?_) rfl (by kernel_rfl) (by kernel_rfl) (by kernel_rfl) (fun _ _ _ h => h) (Or.inl ⟨by rfl, ?_⟩) (by assumption) ?_
            rotate_left
            · (intro w' hSw; (try dsimp only at hSw); go_simp; try with_reducible rfl)
            try simp only [Act.put, List.setIfInBounds_toArray, List.set_cons_zero, List.set_cons_succ]
            refine wpAnyH_take (i := 4) (oi := Oper.mk (some 38) _ _ _ _ _) (v := ?_) rfl (by kernel_rfl) (by kernel_rfl) (by kernel_rfl) (fun _ _ _ h => h) (Or.inl ⟨by rfl, ?_⟩) (by assumption) ?_
            rotate_left
            · (intro w' hSw; (try dsimp only at hSw); go_simp; try with_reducible rfl)
            try simp only [Act.put, List.setIfInBounds_toArray, List.set_cons_zero, List.set_cons_succ]
            refine wpAnyH_take (i := 5) (oi := Oper.mk (some 39) _ _ _ _ _) (v := ?_) rfl (by kernel_rfl) (by kernel_rfl) (by kernel_rfl) (fun _ _ _ h => h) (Or.inl ⟨by rfl, ?_⟩) (by assumption) ?_
            rotate_left
            · (intro w' hSw; (try dsimp only at hSw); go_simp; try with_reducible rfl)
            try simp only [Act.put, List.setIfInBounds_toArray, List.set_cons_zero, List.set_cons_succ]
            refine wpAnyH_take (i := 6) (oi := Oper.mk (some 40) _ _ _ _ _) (v := ?_) rfl (by kernel_rfl) (by kernel_rfl) (by kernel_rfl) (fun _ _ _ h => h) (Or.inl ⟨by rfl, ?_⟩) (by assumption) ?_
            rotate_left
            · (intro w' hSw; (try dsimp only at hSw); go_simp; try with_reducible rfl)
            try simp only [Act.put, List.setIfInBounds_toArray, List.set_cons_zero, List.set_cons_succ]
            refine wpAnyH_take (i := 7) (oi := Oper.mk (some 41) _ _ _ _ _) (v := ?_) rfl (by kernel_rfl) (by kernel_rfl) (by kernel_rfl) (fun _ _ _ h => h) (Or.inl ⟨by rfl, ?_⟩) (by assumption) ?_
            rotate_left
            · (intro w' hSw; (try dsimp only at hSw); go_simp; try with_reducible rfl)
            try simp only [Act.put, List.setIfInBounds_toArray, List.set_cons_zero, List.set_cons_succ]
            refine wpAnyH_take (i := 8) (oi := Oper.mk (some 42) _ _ _ _ _) (v := ?_) rfl (by kernel_rfl) (by kernel_rfl) (by kernel_rfl) (fun _ _ _ h => h) (Or.inl ⟨by rfl, ?_⟩) (by assumption) ?_
            rotate_left
            · (intro w' hSw; (try dsimp only at hSw); go_simp; try with_reducible rfl)
            try simp only [Act.put, List.setIfInBounds_toArray, List.set_cons_zero, List.set_cons_succ]
            refine wpAnyH_ready (rs := [9]) (by kernel_rfl) (by simp) ?_
            refine AllReadyH.cons (o := Oper.mk (some 43) _ _ _ _ _) rfl (fun K hK => ?_) AllReadyH.nil
            go_simp
            try simp only []
            refine hK.out _ _ (b1.alloc b1.size (.cells #[.slice none (nv - i) cv, .slice none 0 (cu - i)] 22)) (fun _ => ?_)
            clear hK K hHeld
            have hHeld := (b1.alloc b1.size (.cells #[.slice none (nv - i) cv, .slice none 0 (cu - i)] 22))
            try simp only [Act.put, List.setIfInBounds_toArray, List.set_cons_zero, List.set_cons_succ]
            refine wpAnyH_ready (rs := [10]) (by kernel_rfl) (by simp) ?_
            refine AllReadyH.cons (o := Oper.mk (some 44) _ _ _ _ _) rfl (fun K hK => ?_) AllReadyH.nil
            go_simp
            refine HJ.out.mono ?_
            rintro e w5 ⟨A5, n5, c5, rfl, ho5, hb5⟩
            try simp only []
            have b5 : Below w.heap.size w w5 := b1.trans (hb5.mono b1.size)
            have ho5' : OwnI w5 w.heap.size (.slice A5 n5 c5) (v.take (nv - i) ++ u.drop i) := ho5.lower b1.size
            clear hb5 ho5
            refine hK.out _ _ b5 (fun _ => ?_)
            clear hK K hHeld
            have hHeld := b5
            try simp only [Act.put, List.setIfInBounds_toArray, List.set_cons_zero, List.set_cons_succ]
            refine wpAnyH_take (i := 11) (oi := Oper.mk (some 4) _ _ _ _ _) (v := ?_) rfl (by kernel_rfl) (by kernel_rfl) (by kernel_rfl) (fun _ _ _ h => h) (Or.inl ⟨by rfl, ?_⟩) (by assumption) ?_
            rotate_left
            · (intro w' hSw; (try dsimp only at hSw); go_simp; try with_reducible rfl)
            try simp only [Act.put, List.setIfInBounds_toArray, List.set_cons_zero, List.set_cons_succ]
            refine wpAnyH_done (by kernel_rfl) ?_ _
            refine NoPanic.normal ?_
            go_wp2_with fail
            go_ret
            exact ⟨A5, n5, c5, rfl, by rw [Hgl.out]; exact ho5', b5⟩
          · by_cases hci : cu = i
            · have hci2 := hci.symm
              have Hq := Lib.hid (And.intro Rv.out (Hempty.out (by omega) (some adu)))
              have hcu' : nu = i := by omega
              clear hu0 hv0 hci2
              go_wp2_with (go_quiet (fail))
              generalize d + nq = q
              have t1 : nv - i ≤ cv := by omega
              have t2 : i ≤ cu := by omega
              have t3 : (i : Int) ≤ (nu : Int) := by omega
              have t4 : (0 : Int) ≤ (nv : Int) - (i : Int) := by omega
              have t5 : (nv : Int) - (i : Int) ≤ (cv : Int) := by omega
              have t6 : i ≤ nu := by omega
              have b1 : Below w.heap.size w (w.drewN (q + 1)) := bdrew (Below.refl _ _) (q + 1)
              have HJ := Lib.hid (show Calls Tryd.prog 63 #[.slice (some ⟨w.heap.size, 0, none⟩) 2 2] ((w.drewN (q + 1)).alloc (.cells #[.slice none (nv - i) cv, .slice (some adu) 0 0] 22)) (OutI (w.drewN (q + 1)) (v.take (nv - i) ++ u.drop i)) from rjoin2 (w := w.drewN (q + 1)) (Hq.out.1.below b1) (Hq.out.2.below b1) b1.size (by have := Hn1.out; omega) (by have := Hn2.out; omega) Hn3.out)
              have s4 : ((nv : Int) - (i : Int)).toNat = (nv - i) := by omega
              have s5 : IntKind.i64.wrap ((nv : Int) - (i : Int)) = (nv : Int) - (i : Int) := by rw [IntKind.wrap_i64]; omega
              refine wp_region_noPanic ?_
              refine wp_region_held_drew (S := fun w' => Below w.heap.size w w') (by kernel_rfl) (bdrew (Below.refl _ _) q).drew (fun hHeld => ?_)
              have b0 : Below w.heap.size w (w.drewN q).drew := hHeld
              refine wpAnyH_take (i := 0) (oi := Oper.mk (some 34) _ _ _ _ _) (v := ?_) rfl (by kernel_rfl) (by kernel_rfl) (by kernel_rfl) (fun _ _ _ h => h) (Or.inl ⟨by rfl, ?_⟩) (by assumption) ?_
              rotate_left
              · (intro w' hSw; (try dsimp only at hSw); go_simp; try with_reducible rfl)
              try simp only [Act.put, List.setIfInBounds_toArray, List.set_cons_zero, List.set_cons_succ]
              refine wpAnyH_take (i := 1) (oi := Oper.mk (some 35) _ _ _ _ _) (v := ?_) rfl (by kernel_rfl) (by kernel_rfl) (by kernel_rfl) (fun _ _ _ h => h) (Or.inl ⟨by rfl, ?_⟩) (by assumption) ?_
              rotate_left
              · (intro w' hSw; (try dsimp only at hSw); go_simp; try with_reducible rfl)
              try simp only [Act.put, List.setIfInBounds_toArray, List.set_cons_zero, List.set_cons_succ]
              refine wpAnyH_take (i := 2) (oi := Oper.mk (some 36) _ _ _ _ _) (v := ?_) rfl (by kernel_rfl) (by kernel_rfl) (by kernel_rfl) (fun _ _ _ h => h) (Or.inl ⟨by rfl, ?_⟩) (by assumption) ?_
              rotate_left
              · (intro w' hSw; (try dsimp only at hSw); go_simp; try with_reducible rfl)
              try simp only [Act.put, List.setIfInBounds_toArray, List.set_cons_zero, List.set_cons_succ]
              refine wpAnyH_take (i := 3) (oi := Oper.mk (some 37) _ _ _ _ _) (v := ?_) rfl (by kernel_rfl) (by kernel_rfl) (by kernel_rfl) (fun _ _ _ h => h) (Or.inl ⟨by rfl, ?_⟩) (by assumption) ?_
              rotate_left
              · (intro w' hSw; (try dsimp only at hSw); go_simp; try with_reducible rfl)
              try simp only [Act.put, List.setIfInBounds_toArray, List.set_cons_zero, List.set_cons_succ]
              refine wpAnyH_take (i := 4) (oi := Oper.mk (some 38) _ _ _ _ _) (v := ?_) rfl (by kernel_rfl) (by kernel_rfl) (by kernel_rfl) (fun _ _ _ h => h) (Or.inl ⟨by rfl, ?_⟩) (by assumption) ?_
              rotate_left
              · (intro w' hSw; (try dsimp only at hSw); go_simp; try with_reducible rfl)
              try simp only [Act.put, List.setIfInBounds_toArray, List.set_cons_zero, List.set_cons_succ]
              refine wpAnyH_take (i := 5) (oi := Oper.mk (some 39) _ _ _ _ _) (v := ?_) rfl (by kernel_rfl) (by kernel_rfl) (by kernel_rfl) (fun _ _ _ h => h) (Or.inl ⟨by rfl, ?_⟩) (by assumption) ?_
              rotate_left
              · (intro w' hSw; (try dsimp only at hSw); go_simp; try with_reducible rfl)
              try simp only [Act.put, List.setIfInBounds_toArray, List.set_cons_zero, List.set_cons_succ]
              refine wpAnyH_take (i := 6) (oi := Oper.mk (some 40) _ _ _ _ _) (v := ?_) rfl (by kernel_rfl) (by kernel_rfl) (by kernel_rfl) (fun _ _ _ h => h) (Or.inl ⟨by rfl, ?_⟩) (by assumption) ?_
              rotate_left
              · (intro w' hSw; (try dsimp only at hSw); go_simp; try with_reducible rfl)
              try simp only [Act.put, List.setIfInBounds_toArray, List.set_cons_zero, List.set_cons_succ]
              refine wpAnyH_take (i := 7) (oi := Oper.mk (some 41) _ _ _ _ _) (v := ?_) rfl (by kernel_rfl) (by kernel_rfl) (by kernel_rfl) (fun _ _ _ h => h) (Or.inl ⟨by rfl, ?_⟩) (by assumption) ?_
              rotate_left
              · (intro w' hSw; (try dsimp only at hSw); go_simp; try with_reducible rfl)
              try simp only [Act.put, List.setIfInBounds_toArray, List.set_cons_zero, List.set_cons_succ]
              refine wpAnyH_take (i := 8) (oi := Oper.mk (some 42) _ _ _ _ _) (v := ?_) rfl (by kernel_rfl) (by kernel_rfl) (by kernel_rfl) (fun _ _ _ h => h) (Or.inl ⟨by rfl, ?_⟩) (by assumption) ?_
              rotate_left
              · (intro w' hSw; (try dsimp only at hSw); go_simp; try with_reducible rfl)
              try simp only [Act.put, List.setIfInBounds_toArray, List.set_cons_zero, List.set_cons_succ]
              refine wpAnyH_ready (rs := [9]) (by kernel_rfl) (by simp) ?_
              refine AllReadyH.cons (o := Oper.mk (some 43) _ _ _ _ _) rfl (fun K hK => ?_) AllReadyH.nil
              go_simp
              try simp only []
              refine hK.out _ _ (b1.alloc b1.size (.cells #[.slice none (nv - i) cv, .slice (some adu) 0 0] 22)) (fun _ => ?_)
              clear hK K hHeld
              have hHeld := (b1.alloc b1.size (.cells #[.slice none (nv - i) cv, .slice (some adu) 0 0] 22))
              try simp only [Act.put, List.setIfInBounds_toArray, List.set_cons_zero, List.set_cons_succ]
              refine wpAnyH_ready (rs := [10]) (by kernel_rfl) (by simp) ?_
              refine AllReadyH.cons (o := Oper.mk (some 44) _ _ _ _ _) rfl (fun K hK => ?_) AllReadyH.nil
              go_simp
              refine HJ.out.mono ?_
              rintro e w5 ⟨A5, n5, c5, rfl, ho5, hb5⟩
              try simp only []
              have b5 : Below w.heap.size w w5 := b1.trans (hb5.mono b1.size)
              have ho5' : OwnI w5 w.heap.size (.slice A5 n5 c5) (v.take (nv - i) ++ u.drop i) := ho5.lower b1.size
              clear hb5 ho5
              refine hK.out _ _ b5 (fun _ => ?_)
              clear hK K hHeld
              have hHeld := b5
              try simp only [Act.put, List.setIfInBounds_toArray, List.set_cons_zero, List.set_cons_succ]
              refine wpAnyH_take (i := 11) (oi := Oper.mk (some 4) _ _ _ _ _) (v := ?_) rfl (by kernel_rfl) (by kernel_rfl) (by kernel_rfl) (fun _ _ _ h => h) (Or.inl ⟨by rfl, ?_⟩) (by assumption) ?_
              rotate_left
              · (intro w' hSw; (try dsimp only at hSw); go_simp; try with_reducible rfl)
              try simp only [Act.put, List.setIfInBounds_toArray, List.set_cons_zero, List.set_cons_succ]
              refine wpAnyH_done (by kernel_rfl) ?_ _
              refine NoPanic.normal ?_
              go_wp2_with fail
              go_ret
              exact ⟨A5, n5, c5, rfl, by rw [Hgl.out]; exact ho5', b5⟩
            · have Hq := Lib.hid (And.intro Rv.out (Hdrop.out adu rfl))
              clear hu0 hv0
              go_wp2_with (go_quiet (fail))
              generalize d + nq = q
              have t1 : nv - i ≤ cv := by omega
              have t2 : i ≤ cu := by omega
              have t3 : (i : Int) ≤ (nu : Int) := by omega
              have t4 : (0 : Int) ≤ (nv : Int) - (i : Int) := by omega
              have t5 : (nv : Int) - (i : Int) ≤ (cv : Int) := by omega
              have t6 : i ≤ nu := by omega
              have b1 : Below w.heap.size w (w.drewN (q + 1)) := bdrew (Below.refl _ _) (q + 1)
              have HJ := Lib.hid (show Calls Tryd.prog 63 #[.slice (some ⟨w.heap.size, 0, none⟩) 2 2] ((w.drewN (q + 1)).alloc (.cells #[.slice none (nv - i) cv, .slice (some (adu.add i)) 0 (cu - i)] 22)) (OutI (w.drewN (q + 1)) (v.take (nv - i) ++ u.drop i)) from rjoin2 (w := w.drewN (q + 1)) (Hq.out.1.below b1) (Hq.out.2.below b1) b1.size (by have := Hn1.out; omega) (by have := Hn2.out; omega) Hn3.out)
              have s4 : ((nv : Int) - (i : Int)).toNat = (nv - i) := by omega
              have s5 : IntKind.i64.wrap ((nv : Int) - (i : Int)) = (nv : Int) - (i : Int) := by rw [IntKind.wrap_i64]; omega
              refine wp_region_noPanic ?_
              refine wp_region_held_drew (S := fun w' => Below w.heap.size w w') (by kernel_rfl) (bdrew (Below.refl _ _) q).drew (fun hHeld => ?_)
              have b0 : Below w.heap.size w (w.drewN q).drew := hHeld
              refine wpAnyH_take (i := 0) (oi := Oper.mk (some 34) _ _ _ _ _) (v := ?_) rfl (by kernel_rfl) (by kernel_rfl) (by kernel_rfl) (fun _ _ _ h => h) (Or.inl ⟨by rfl, ?_⟩) (by assumption) ?_
              rotate_left
              · (intro w' hSw; (try dsimp only at hSw); go_simp; try with_reducible rfl)
              try simp only [Act.put, List.setIfInBounds_toArray, List.set_cons_zero, List.set_cons_succ]
              refine wpAnyH_take (i := 1) (oi := Oper.mk (some 35) _ _ _ _ _) (v := ?_) rfl (by kernel_rfl) (by kernel_rfl) (by kernel_rfl) (fun _ _ _ h => h) (Or.inl ⟨by rfl, ?_⟩) (by assumption) ?_
              rotate_left
              · (intro w' hSw; (try dsimp only at hSw); go_simp; try with_reducible rfl)
              try simp only [Act.put, List.setIfInBounds_toArray, List.set_cons_zero, List.set_cons_succ]
              refine wpAnyH_take (i := 2) (oi := Oper.mk (some 36) _ _ _ _ _) (v := ?_) rfl (by kernel_rfl) (by kernel_rfl) (by kernel_rfl) (fun _ _ _ h => h) (Or.inl ⟨by rfl, ?_⟩) (by assumption) ?_
              rotate_left
              · (intro w' hSw; (try dsimp only at hSw); go_simp; try with_reducible rfl)
              try simp only [Act.put, List.setIfInBounds_toArray, List.set_cons_zero, List.set_cons_succ]
              refine wpAnyH_take (i := 3) (oi := Oper.mk (some 37) _ _ _ _ _) (v := ?_) rfl (by kernel_rfl) (by kernel_rfl) (by kernel_rfl) (fun _ _ _ h => h) (Or.inl ⟨by rfl, ?_⟩) (by assumption) ?_
              rotate_left
              · (intro w' hSw; (try dsimp only at hSw); go_simp; try with_reducible rfl)
              try simp only [Act.put, List.setIfInBounds_toArray, List.set_cons_zero, List.set_cons_succ]
              refine wpAnyH_take (i := 4) (oi := Oper.mk (some 38) _ _ _ _ _) (v := ?_) rfl (by kernel_rfl) (by kernel_rfl) (by kernel_rfl) (fun _ _ _ h => h) (Or.inl ⟨by rfl, ?_⟩) (by assumption) ?_
              rotate_left
              · (intro w' hSw; (try dsimp only at hSw); go_simp; try with_reducible rfl)
              try simp only [Act.put, List.setIfInBounds_toArray, List.set_cons_zero, List.set_cons_succ]
              refine wpAnyH_take (i := 5) (oi := Oper.mk (some 39) _ _ _ _ _) (v := ?_) rfl (by kernel_rfl) (by kernel_rfl) (by kernel_rfl) (fun _ _ _ h => h) (Or.inl ⟨by rfl, ?_⟩) (by assumption) ?_
              rotate_left
              · (intro w' hSw; (try dsimp only at hSw); go_simp; try with_reducible rfl)
              try simp only [Act.put, List.setIfInBounds_toArray, List.set_cons_zero, List.set_cons_succ]
              refine wpAnyH_take (i := 6) (oi := Oper.mk (some 40) _ _ _ _ _) (v := ?_) rfl (by kernel_rfl) (by kernel_rfl) (by kernel_rfl) (fun _ _ _ h => h) (Or.inl ⟨by rfl, ?_⟩) (by assumption) ?_
              rotate_left
              · (intro w' hSw; (try dsimp only at hSw); go_simp; try with_reducible rfl)
              try simp only [Act.put, List.setIfInBounds_toArray, List.set_cons_zero, List.set_cons_succ]
              refine wpAnyH_take (i := 7) (oi := Oper.mk (some 41) _ _ _ _ _) (v := ?_) rfl (by kernel_rfl) (by kernel_rfl) (by kernel_rfl) (fun _ _ _ h => h) (Or.inl ⟨by rfl, ?_⟩) (by assumption) ?_
              rotate_left
              · (intro w' hSw; (try dsimp only at hSw); go_simp; try with_reducible rfl)
              try simp only [Act.put, List.setIfInBounds_toArray, List.set_cons_zero, List.set_cons_succ]
              refine wpAnyH_take (i := 8) (oi := Oper.mk (some 42) _ _ _ _ _) (v := ?_) rfl (by kernel_rfl) (by kernel_rfl) (by kernel_rfl) (fun _ _ _ h => h) (Or.inl ⟨by rfl, ?_⟩) (by assumption) ?_
              rotate_left
              · (intro w' hSw; (try dsimp only at hSw); go_simp; try with_reducible rfl)
              try simp only [Act.put, List.setIfInBounds_toArray, List.set_cons_zero, List.set_cons_succ]
              refine wpAnyH_ready (rs := [9]) (by kernel_rfl) (by simp) ?_
              refine AllReadyH.cons (o := Oper.mk (some 43) _ _ _ _ _) rfl (fun K hK => ?_) AllReadyH.nil
              go_simp
              try simp only []
              refine hK.out _ _ (b1.alloc b1.size (.cells #[.slice none (nv - i) cv, .slice (some (adu.add i)) 0 (cu - i)] 22)) (fun _ => ?_)
              clear hK K hHeld
              have hHeld := (b1.alloc b1.size (.cells #[.slice none (nv - i) cv, .slice (some (adu.add i)) 0 (cu - i)] 22))
              try simp only [Act.put, List.setIfInBounds_toArray, List.set_cons_zero, List.set_cons_succ]
              refine wpAnyH_ready (rs := [10]) (by kernel_rfl) (by simp) ?_
              refine AllReadyH.cons (o := Oper.mk (some 44) _ _ _ _ _) rfl (fun K hK => ?_) AllReadyH.nil
              go_simp
              refine HJ.out.mono ?_
              rintro e w5 ⟨A5, n5, c5, rfl, ho5, hb5⟩
              try simp only []
              have b5 : Below w.heap.size w w5 := b1.trans (hb5.mono b1.size)
              have ho5' : OwnI w5 w.heap.size (.slice A5 n5 c5) (v.take (nv - i) ++ u.drop i) := ho5.lower b1.size
              clear hb5 ho5
              refine hK.out _ _ b5 (fun _ => ?_)
              clear hK K hHeld
              have hHeld := b5
              try simp only [Act.put, List.setIfInBounds_toArray, List.set_cons_zero, List.set_cons_succ]
              refine wpAnyH_take (i := 11) (oi := Oper.mk (some 4) _ _ _ _ _) (v := ?_) rfl (by kernel_rfl) (by kernel_rfl) (by kernel_rfl) (fun _ _ _ h => h) (Or.inl ⟨by rfl, ?_⟩) (by assumption) ?_
              rotate_left
              · (intro w' hSw; (try dsimp only at hSw); go_simp; try with_reducible rfl)
              try simp only [Act.put, List.setIfInBounds_toArray, List.set_cons_zero, List.set_cons_succ]
              refine wpAnyH_done (by kernel_rfl) ?_ _
              refine NoPanic.normal ?_
              go_wp2_with fail
              go_ret
              exact ⟨A5, n5, c5, rfl, by rw [Hgl.out]; exact ho5', b5⟩
        · rcases Au with _ | adu
          · have Hq := Lib.hid (And.intro Rv.out (Hempty.out (by have := hu0 (by trivial); omega) none))
            clear hu0 hv0
            go_wp2_with (go_quiet (fail))
            generalize d + nq = q
            have t1 : nv - i ≤ cv := by omega
            have t2 : i ≤ cu := by omega
            have t3 : (i : Int) ≤ (nu : Int) := by omega
            have t4 : (0 : Int) ≤ (nv : Int) - (i : Int) := by omega
            have t5 : (nv : Int) - (i : Int) ≤ (cv : Int) := by omega
            have t6 : i ≤ nu := by omega
            have b1 : Below w.heap.size w (w.drewN (q + 1)) := bdrew (Below.refl _ _) (q + 1)
            have HJ := Lib.hid (show Calls Tryd.prog 63 #[.slice (some ⟨w.heap.size, 0, none⟩) 2 2] ((w.drewN (q + 1)).alloc (.cells #[.slice (some adv) (nv - i) cv, .slice none 0 (cu - i)] 22)) (OutI (w.drewN (q + 1)) (v.take (nv - i) ++ u.drop i)) from rjoin2 (w := w.drewN (q + 1)) (Hq.out.1.below b1) (Hq.out.2.below b1) b1.size (by have := Hn1.out; omega) (by have := Hn2.out; omega) Hn3.out)
            have s4 : ((nv : Int) - (i : Int)).toNat = (nv - i) := by omega
            have s5 : IntKind.i64.wrap ((nv : Int) - (i : Int)) = (nv : Int) - (i : Int) := by rw [IntKind.wrap_i64]; omega
            refine wp_region_noPanic ?_
            refine wp_region_held_drew (S := fun w' => Below w.heap.size w w') (by kernel_rfl) (bdrew (Below.refl _ _) q).drew (fun hHeld => ?_)
            have b0 : Below w.heap.size w (w.drewN q).drew := hHeld
            refine wpAnyH_take (i := 0) (oi := Oper.mk (some 34) _ _ _ _ _) (v := ?_) rfl (by kernel_rfl) (by kernel_rfl) (by kernel_rfl) (fun _ _ _ h => h) (Or.inl ⟨by rfl, ?_⟩) (by assumption) ?_
            rotate_left
            · (intro w' hSw; (try dsimp only at hSw); go_simp; try with_reducible rfl)
            try simp only [Act.put, List.setIfInBounds_toArray, List.set_cons_zero, List.set_cons_succ]
            refine wpAnyH_take (i := 1) (oi := Oper.mk (some 35) _ _ _ _ _) (v := ?_) rfl (by kernel_rfl) (by kernel_rfl) (by kernel_rfl) (fun _ _ _ h => h) (Or.inl ⟨by rfl, ?_⟩) (by assumption) ?_
            rotate_left
            · (intro w' hSw; (try dsimp only at hSw); go_simp; try with_reducible rfl)
            try simp only [Act.put, List.setIfInBounds_toArray, List.set_cons_zero, List.set_cons_succ]
            refine wpAnyH_take (i := 2) (oi := Oper.mk (some 36) _ _ _ _ _) (v := ?_) rfl (by kernel_rfl) (by kernel_rfl) (by kernel_rfl) (fun _ _ _ h => h) (Or.inl ⟨by rfl, ?_⟩) (by assumption) ?_
            rotate_left
            · (intro w' hSw; (try dsimp only at hSw); go_simp; try with_reducible rfl)
            try simp only [Act.put, List.setIfInBounds_toArray, List.set_cons_zero, List.set_cons_succ]
            refine wpAnyH_take (i := 3) (oi := Oper.mk (some 37) _ _ _ _ _) (v := ?_) rfl (by kernel_rfl) (by kernel_rfl) (by kernel_rfl) (fun _ _ _ h => h) (Or.inl ⟨by rfl, ?_⟩) (by assumption) ?_
            rotate_left
            · (intro w' hSw; (try dsimp only at hSw); go_simp; try with_reducible rfl)
            try simp only [Act.put, List.setIfInBounds_toArray, List.set_cons_zero, List.set_cons_succ]
            refine wpAnyH_take (i := 4) (oi := Oper.mk (some 38) _ _ _ _ _) (v := ?_) rfl (by kernel_rfl) (by kernel_rfl) (by kernel_rfl) (fun _ _ _ h => h) (Or.inl ⟨by rfl, ?_⟩) (by assumption) ?_
            rotate_left
            · (intro w' hSw; (try dsimp only at hSw); go_simp; try with_reducible rfl)
            try simp only [Act.put, List.setIfInBounds_toArray, List.set_cons_zero, List.set_cons_succ]
            refine wpAnyH_take (i := 5) (oi := Oper.mk (some 39) _ _ _ _ _) (v := ?_) rfl (by kernel_rfl) (by kernel_rfl) (by kernel_rfl) (fun _ _ _ h => h) (Or.inl ⟨by rfl, ?_⟩) (by assumption) ?_
            rotate_left
            · (intro w' hSw; (try dsimp only at hSw); go_simp; try with_reducible rfl)
            try simp only [Act.put, List.setIfInBounds_toArray, List.set_cons_zero, List.set_cons_succ]
            refine wpAnyH_take (i := 6) (oi := Oper.mk (some 40) _ _ _ _ _) (v := ?_) rfl (by kernel_rfl) (by kernel_rfl) (by kernel_rfl) (fun _ _ _ h => h) (Or.inl ⟨by rfl, ?_⟩) (by assumption) ?_
            rotate_left
            · (intro w' hSw; (try dsimp only at hSw); go_simp; try with_reducible rfl)
            try simp only [Act.put, List.setIfInBounds_toArray, List.set_cons_zero, List.set_cons_succ]
            refine wpAnyH_take (i := 7) (oi := Oper.mk (some 41) _ _ _ _ _) (v := ?_) rfl (by kernel_rfl) (by kernel_rfl) (by kernel_rfl) (fun _ _ _ h => h) (Or.inl ⟨by rfl, ?_⟩) (by assumption) ?_
            rotate_left
            · (intro w' hSw; (try dsimp only at hSw); go_simp; try with_reducible rfl)
            try simp only [Act.put, List.setIfInBounds_toArray, List.set_cons_zero, List.set_cons_succ]
            refine wpAnyH_take (i := 8) (oi := Oper.mk (some 42) _ _ _ _ _) (v := ?_) rfl (by kernel_rfl) (by kernel_rfl) (by kernel_rfl) (fun _ _ _ h => h) (Or.inl ⟨by rfl, ?_⟩) (by assumption) ?_
            rotate_left
            · (intro w' hSw; (try dsimp only at hSw); go_simp; try with_reducible rfl)
            try simp only [Act.put, List.setIfInBounds_toArray, List.set_cons_zero, List.set_cons_succ]
            refine wpAnyH_ready (rs := [9]) (by kernel_rfl) (by simp) ?_
            refine AllReadyH.cons (o := Oper.mk (some 43) _ _ _ _ _) rfl (fun K hK => ?_) AllReadyH.nil
            go_simp
            try simp only []
            refine hK.out _ _ (b1.alloc b1.size (.cells #[.slice (some adv) (nv - i) cv, .slice none 0 (cu - i)] 22)) (fun _ => ?_)
            clear hK K hHeld
            have hHeld := (b1.alloc b1.size (.cells #[.slice (some adv) (nv - i) cv, .slice none 0 (cu - i)] 22))
            try simp only [Act.put, List.setIfInBounds_toArray, List.set_cons_zero, List.set_cons_succ]
            refine wpAnyH_ready (rs := [10]) (by kernel_rfl) (by simp) ?_
            refine AllReadyH.cons (o := Oper.mk (some 44) _ _ _ _ _) rfl (fun K hK => ?_) AllReadyH.nil
            go_simp
            refine HJ.out.mono ?_
            rintro e w5 ⟨A5, n5, c5, rfl, ho5, hb5⟩
            try simp only []
            have b5 : Below w.heap.size w w5 := b1.trans (hb5.mono b1.size)
            have ho5' : OwnI w5 w.heap.size (.slice A5 n5 c5) (v.take (nv - i) ++ u.drop i) := ho5.lower b1.size
            clear hb5 ho5
            refine hK.out _ _ b5 (fun _ => ?_)
            clear hK K hHeld
            have hHeld := b5
            try simp only [Act.put, List.setIfInBounds_toArray, List.set_cons_zero, List.set_cons_succ]
            refine wpAnyH_take (i := 11) (oi := Oper.mk (some 4) _ _ _ _ _) (v := ?_) rfl (by kernel_rfl) (by kernel_rfl) (by kernel_rfl) (fun _ _ _ h => h) (Or.inl ⟨by rfl, ?_⟩) (by assumption) ?_
            rotate_left
            · (intro w' hSw; (try dsimp only at hSw); go_simp; try with_reducible rfl)
            try simp only [Act.put, List.setIfInBounds_toArray, List.set_cons_zero, List.set_cons_succ]
            refine wpAnyH_done (by kernel_rfl) ?_ _
            refine NoPanic.normal ?_
            go_wp2_with fail
            go_ret
            exact ⟨A5, n5, c5, rfl, by rw [Hgl.out]; exact ho5', b5⟩
          · by_cases hci : cu = i
            · have hci2 := hci.symm
              have Hq := Lib.hid (And.intro Rv.out (Hempty.out (by omega) (some adu)))
              have hcu' : nu = i := by omega
              clear hu0 hv0 hci2
              go_wp2_with (go_quiet (fail))
              generalize d + nq = q
              have t1 : nv - i ≤ cv := by omega
              have t2 : i ≤ cu := by omega
              have t3 : (i : Int) ≤ (nu : Int) := by omega
              have t4 : (0 : Int) ≤ (nv : Int) - (i : Int) := by omega
              have t5 : (nv : Int) - (i : Int) ≤ (cv : Int) := by omega
              have t6 : i ≤ nu := by omega
              have b1 : Below w.heap.size w (w.drewN (q + 1)) := bdrew (Below.refl _ _) (q + 1)
              have HJ := Lib.hid (show Calls Tryd.prog 63 #[.slice (some ⟨w.heap.size, 0, none⟩) 2 2] ((w.drewN (q + 1)).alloc (.cells #[.slice (some adv) (nv - i) cv, .slice (some adu) 0 0] 22)) (OutI (w.drewN (q + 1)) (v.take (nv - i) ++ u.drop i)) from rjoin2 (w := w.drewN (q + 1)) (Hq.out.1.below b1) (Hq.out.2.below b1) b1.size (by have := Hn1.out; omega) (by have := Hn2.out; omega) Hn3.out)
              have s4 : ((nv : Int) - (i : Int)).toNat = (nv - i) := by omega
              have s5 : IntKind.i64.wrap ((nv : Int) - (i : Int)) = (nv : Int) - (i : Int) := by rw [IntKind.wrap_i64]; omega
              refine wp_region_noPanic ?_
              refine wp_region_held_drew (S := fun w' => Below w.heap.size w w') (by kernel_rfl) (bdrew (Below.refl _ _) q).drew (fun hHeld => ?_)
              have b0 : Below w.heap.size w (w.drewN q).drew := hHeld
              refine wpAnyH_take (i := 0) (oi := Oper.mk (some 34) _ _ _ _ _) (v := ?_) rfl (by kernel_rfl) (by kernel_rfl) (by kernel_rfl) (fun _ _ _ h => h) (Or.inl ⟨by rfl, ?_⟩) (by assumption) ?_
              rotate_left
              · (intro w' hSw; (try dsimp only at hSw); go_simp; try with_reducible rfl)
              try simp only [Act.put, List.setIfInBounds_toArray, List.set_cons_zero, List.set_cons_succ]
              refine wpAnyH_take (i := 1) (oi := Oper.mk (some 35) _ _ _ _ _) (v := ?_) rfl (by kernel_rfl) (by kernel_rfl) (by kernel_rfl) (fun _ _ _ h => h) (Or.inl ⟨by rfl, ?_⟩) (by assumption) ?_
              rotate_left
              · (intro w' hSw; (try dsimp only at hSw); go_simp; try with_reducible rfl)
              try simp only [Act.put, List.setIfInBounds_toArray, List.set_cons_zero, List.set_cons_succ]
              refine wpAnyH_take (i := 2) (oi := Oper.mk (some 36) _ _ _ _ _) (v := ?_) rfl (by kernel_rfl) (by kernel_rfl) (by kernel_rfl) (fun _ _ _ h => h) (Or.inl ⟨by rfl, ?_⟩) (by assumption) ?_
              rotate_left
              · (intro w' hSw; (try dsimp only at hSw); go_simp; try with_reducible rfl)
              try simp only [Act.put, List.setIfInBounds_toArray, List.set_cons_zero, List.set_cons_succ]
              refine wpAnyH_take (i := 3) (oi := Oper.mk (some 37) _ _ _ _ _) (v := ?_) rfl (by kernel_rfl) (by kernel_rfl) (by kernel_rfl) (fun _ _ _ h => h) (Or.inl ⟨by rfl, ?_⟩) (by assumption) ?_
              rotate_left
              · (intro w' hSw; (try dsimp only at hSw); go_simp; try with_reducible rfl)
              try simp only [Act.put, List.setIfInBounds_toArray, List.set_cons_zero, List.set_cons_succ]
              refine wpAnyH_take (i := 4) (oi := Oper.mk (some 38) _ _ _ _ _) (v := ?_) rfl (by kernel_rfl) (by kernel_rfl) (by kernel_rfl) (fun _ _ _ h => h) (Or.inl ⟨by rfl, ?_⟩) (by assumption) ?_
              rotate_left
              · (intro w' hSw; (try dsimp only at hSw); go_simp; try with_reducible rfl)
              try simp only [Act.put, List.setIfInBounds_toArray, List.set_cons_zero, List.set_cons_succ]
              refine wpAnyH_take (i := 5) (oi := Oper.mk (some 39) _ _ _ _ _) (v := ?_) rfl (by kernel_rfl) (by kernel_rfl) (by kernel_rfl) (fun _ _ _ h => h) (Or.inl ⟨by rfl, ?_⟩) (by assumption) ?_
              rotate_left
              · (intro w' hSw; (try dsimp only at hSw); go_simp; try with_reducible rfl)
              try simp only [Act.put, List.setIfInBounds_toArray, List.set_cons_zero, List.set_cons_succ]
              refine wpAnyH_take (i := 6) (oi := Oper.mk (some 40) _ _ _ _ _) (v := ?_) rfl (by kernel_rfl) (by kernel_rfl) (by kernel_rfl) (fun _ _ _ h => h) (Or.inl ⟨by rfl, ?_⟩) (by assumption) ?_
              rotate_left
              · (intro w' hSw; (try dsimp only at hSw); go_simp; try with_reducible rfl)
              try simp only [Act.put, List.setIfInBounds_toArray, List.set_cons_zero, List.set_cons_succ]
              refine wpAnyH_take (i := 7) (oi := Oper.mk (some 41) _ _ _ _ _) (v := ?_) rfl (by kernel_rfl) (by kernel_rfl) (by kernel_rfl) (fun _ _ _ h => h) (Or.inl ⟨by rfl, ?_⟩) (by assumption) ?_
              rotate_left
              · (intro w' hSw; (try dsimp only at hSw); go_simp; try with_reducible rfl)
              try simp only [Act.put, List.setIfInBounds_toArray, List.set_cons_zero, List.set_cons_succ]
              refine wpAnyH_take (i := 8) (oi := Oper.mk (some 42) _ _ _ _ _) (v := ?_) rfl (by kernel_rfl) (by kernel_rfl) (by kernel_rfl) (fun _ _ _ h => h) (Or.inl ⟨by rfl, ?_⟩) (by assumption) ?_
              rotate_left
              · (intro w' hSw; (try dsimp only at hSw); go_simp; try with_reducible rfl)
              try simp only [Act.put, List.setIfInBounds_toArray, List.set_cons_zero, List.set_cons_succ]
              refine wpAnyH_ready (rs := [9]) (by kernel_rfl) (by simp) ?_
              refine AllReadyH.cons (o := Oper.mk (some 43) _ _ _ _ _) rfl (fun K hK => ?_) AllReadyH.nil
              go_simp
              try simp only []
              refine hK.out _ _ (b1.alloc b1.size (.cells #[.slice (some adv) (nv - i) cv, .slice (some adu) 0 0] 22)) (fun _ => ?_)
              clear hK K hHeld
              have hHeld := (b1.alloc b1.size (.cells #[.slice (some adv) (nv - i) cv, .slice (some adu) 0 0] 22))
              try simp only [Act.put, List.setIfInBounds_toArray, List.set_cons_zero, List.set_cons_succ]
              refine wpAnyH_ready (rs := [10]) (by kernel_rfl) (by simp) ?_
              refine AllReadyH.cons (o := Oper.mk (some 44) _ _ _ _ _) rfl (fun K hK => ?_) AllReadyH.nil
              go_simp
              refine HJ.out.mono ?_
              rintro e w5 ⟨A5, n5, c5, rfl, ho5, hb5⟩
              try simp only []
              have b5 : Below w.heap.size w w5 := b1.trans (hb5.mono b1.size)
              have ho5' : OwnI w5 w.heap.size (.slice A5 n5 c5) (v.take (nv - i) ++ u.drop i) := ho5.lower b1.size
              clear hb5 ho5
              refine hK.out _ _ b5 (fun _ => ?_)
              clear hK K hHeld
              have hHeld := b5
              try simp only [Act.put, List.setIfInBounds_toArray, List.set_cons_zero, List.set_cons_succ]
              refine wpAnyH_take (i := 11) (oi := Oper.mk (some 4) _ _ _ _ _) (v := ?_) rfl (by kernel_rfl) (by kernel_rfl) (by kernel_rfl) (fun _ _ _ h => h) (Or.inl ⟨by rfl, ?_⟩) (by assumption) ?_
              rotate_left
              · (intro w' hSw; (try dsimp only at hSw); go_simp; try with_reducible rfl)
              try simp only [Act.put, List.setIfInBounds_toArray, List.set_cons_zero, List.set_cons_succ]
              refine wpAnyH_done (by kernel_rfl) ?_ _
              refine NoPanic.normal ?_
              go_wp2_with fail
              go_ret
              exact ⟨A5, n5, c5, rfl, by rw [Hgl.out]; exact ho5', b5⟩
            · have Hq := Lib.hid (And.intro Rv.out (Hdrop.out adu rfl))
              clear hu0 hv0
              go_wp2_with (go_quiet (fail))
              generalize d + nq = q
              have t1 : nv - i ≤ cv := by omega
              have t2 : i ≤ cu := by omega
              have t3 : (i : Int) ≤ (nu : Int) := by omega
              have t4 : (0 : Int) ≤ (nv : Int) - (i : Int) := by omega
              have t5 : (nv : Int) - (i : Int) ≤ (cv : Int) := by omega
              have t6 : i ≤ nu := by omega
              have b1 : Below w.heap.size w (w.drewN (q + 1)) := bdrew (Below.refl _ _) (q + 1)
              have HJ := Lib.hid (show Calls Tryd.prog 63 #[.slice (some ⟨w.heap.size, 0, none⟩) 2 2] ((w.drewN (q + 1)).alloc (.cells #[.slice (some adv) (nv - i) cv, .slice (some (adu.add i)) 0 (cu - i)] 22)) (OutI (w.drewN (q + 1)) (v.take (nv - i) ++ u.drop i)) from rjoin2 (w := w.drewN (q + 1)) (Hq.out.1.below b1) (Hq.out.2.below b1) b1.size (by have := Hn1.out; omega) (by have := Hn2.out; omega) Hn3.out)
              have s4 : ((nv : Int) - (i : Int)).toNat = (nv - i) := by omega
              have s5 : IntKind.i64.wrap ((nv : Int) - (i : Int)) = (nv : Int) - (i : Int) := by rw [IntKind.wrap_i64]; omega
              refine wp_region_noPanic ?_
              refine wp_region_held_drew (S := fun w' => Below w.heap.size w w') (by kernel_rfl) (bdrew (Below.refl _ _) q).drew (fun hHeld => ?_)
              have b0 : Below w.heap.size w (w.drewN q).drew := hHeld
              refine wpAnyH_take (i := 0) (oi := Oper.mk (some 34) _ _ _ _ _) (v := ?_) rfl (by kernel_rfl) (by kernel_rfl) (by kernel_rfl) (fun _ _ _ h => h) (Or.inl ⟨by rfl, ?_⟩) (by assumption) ?_
              rotate_left
              · (intro w' hSw; (try dsimp only at hSw); go_simp; try with_reducible rfl)
              try simp only [Act.put, List.setIfInBounds_toArray, List.set_cons_zero, List.set_cons_succ]
              refine wpAnyH_take (i := 1) (oi := Oper.mk (some 35) _ _ _ _ _) (v := ?_) rfl (by kernel_rfl) (by kernel_rfl) (by kernel_rfl) (fun _ _ _ h => h) (Or.inl ⟨by rfl, ?_⟩) (by assumption) ?_
              rotate_left
              · (intro w' hSw; (try dsimp only at hSw); go_simp; try with_reducible rfl)
              try simp only [Act.put, List.setIfInBounds_toArray, List.set_cons_zero, List.set_cons_succ]
              refine wpAnyH_take (i := 2) (oi := Oper.mk (some 36) _ _ _ _ _) (v := ?_) rfl (by kernel_rfl) (by kernel_rfl) (by kernel_rfl) (fun _ _ _ h => h) (Or.inl ⟨by rfl, ?_⟩) (by assumption) ?_
              rotate_left
              · (intro w' hSw; (try dsimp only at hSw); go_simp; try with_reducible rfl)
              try simp only [Act.put, List.setIfInBounds_toArray, List.set_cons_zero, List.set_cons_succ]
              refine wpAnyH_take (i := 3) (oi := Oper.mk (some 37) _ _ _ _ _) (v := ?_) rfl (by kernel_rfl) (by kernel_rfl) (by kernel_rfl) (fun _ _ _ h => h) (Or.inl ⟨by rfl, ?_⟩) (by assumption) ?_
              rotate_left
              · (intro w' hSw; (try dsimp only at hSw); go_simp; try with_reducible rfl)
              try simp only [Act.put, List.setIfInBounds_toArray, List.set_cons_zero, List.set_cons_succ]
              refine wpAnyH_take (i := 4) (oi := Oper.mk (some 38) _ _ _ _ _) (v := ?_) rfl (by kernel_rfl) (by kernel_rfl) (by kernel_rfl) (fun _ _ _ h => h) (Or.inl ⟨by rfl, ?_⟩) (by assumption) ?_
              rotate_left
              · (intro w' hSw; (try dsimp only at hSw); go_simp; try with_reducible rfl)
              try simp only [Act.put, List.setIfInBounds_toArray, List.set_cons_zero, List.set_cons_succ]
              refine wpAnyH_take (i := 5) (oi := Oper.mk (some 39) _ _ _ _ _) (v := ?_) rfl (by kernel_rfl) (by kernel_rfl) (by kernel_rfl) (fun _ _ _ h => h) (Or.inl ⟨by rfl, ?_⟩) (by assumption) ?_
              rotate_left
              · (intro w' hSw; (try dsimp only at hSw); go_simp; try with_reducible rfl)
              try simp only [Act.put, List.setIfInBounds_toArray, List.set_cons_zero, List.set_cons_succ]
              refine wpAnyH_take (i := 6) (oi := Oper.mk (some 40) _ _ _ _ _) (v := ?_) rfl (by kernel_rfl) (by kernel_rfl) (by kernel_rfl) (fun _ _ _ h => h) (Or.inl ⟨by rfl, ?_⟩) (by assumption) ?_
              rotate_left
              · (intro w' hSw; (try dsimp only at hSw); go_simp; try with_reducible rfl)
              try simp only [Act.put, List.setIfInBounds_toArray, List.set_cons_zero, List.set_cons_succ]
              refine wpAnyH_take (i := 7) (oi := Oper.mk (some 41) _ _ _ _ _) (v := ?_) rfl (by kernel_rfl) (by kernel_rfl) (by kernel_rfl) (fun _ _ _ h => h) (Or.inl ⟨by rfl, ?_⟩) (by assumption) ?_
              rotate_left
              · (intro w' hSw; (try dsimp only at hSw); go_simp; try with_reducible rfl)
              try simp only [Act.put, List.setIfInBounds_toArray, List.set_cons_zero, List.set_cons_succ]
              refine wpAnyH_take (i := 8) (oi := Oper.mk (some 42) _ _ _ _ _) (v := ?_) rfl (by kernel_rfl) (by kernel_rfl) (by kernel_rfl) (fun _ _ _ h => h) (Or.inl ⟨by rfl, ?_⟩) (by assumption) ?_
              rotate_left
              · (intro w' hSw; (try dsimp only at hSw); go_simp; try with_reducible rfl)
              try simp only [Act.put, List.setIfInBounds_toArray, List.set_cons_zero, List.set_cons_succ]
              refine wpAnyH_ready (rs := [9]) (by kernel_rfl) (by simp) ?_
              refine AllReadyH.cons (o := Oper.mk (some 43) _ _ _ _ _) rfl (fun K hK => ?_) AllReadyH.nil
              go_simp
              try simp only []
              refine hK.out _ _ (b1.alloc b1.size (.cells #[.slice (some adv) (nv - i) cv, .slice (some (adu.add i)) 0 (cu - i)] 22)) (fun _ => ?_)
              clear hK K hHeld
              have hHeld := (b1.alloc b1.size (.cells #[.slice (some adv) (nv - i) cv, .slice (some (adu.add i)) 0 (cu - i)] 22))
              try simp only [Act.put, List.setIfInBounds_toArray, List.set_cons_zero, List.set_cons_succ]
              refine wpAnyH_ready (rs := [10]) (by kernel_rfl) (by simp) ?_
              refine AllReadyH.cons (o := Oper.mk (some 44) _ _ _ _ _) rfl (fun K hK => ?_) AllReadyH.nil
              go_simp
              refine HJ.out.mono ?_
              rintro e w5 ⟨A5, n5, c5, rfl, ho5, hb5⟩
              try simp only []
              have b5 : Below w.heap.size w w5 := b1.trans (hb5.mono b1.size)
              have ho5' : OwnI w5 w.heap.size (.slice A5 n5 c5) (v.take (nv - i) ++ u.drop i) := ho5.lower b1.size
              clear hb5 ho5
              refine hK.out _ _ b5 (fun _ => ?_)
              clear hK K hHeld
              have hHeld := b5
              try simp only [Act.put, List.setIfInBounds_toArray, List.set_cons_zero, List.set_cons_succ]
              refine wpAnyH_take (i := 11) (oi := Oper.mk (some 4) _ _ _ _ _) (v := ?_) rfl (by kernel_rfl) (by kernel_rfl) (by kernel_rfl) (fun _ _ _ h => h) (Or.inl ⟨by rfl, ?_⟩) (by assumption) ?_
              rotate_left
              · (intro w' hSw; (try dsimp only at hSw); go_simp; try with_reducible rfl)
              try simp only [Act.put, List.setIfInBounds_toArray, List.set_cons_zero, List.set_cons_succ]
              refine wpAnyH_done (by kernel_rfl) ?_ _
              refine NoPanic.normal ?_
              go_wp2_with fail
              go_ret
              exact ⟨A5, n5, c5, rfl, by rw [Hgl.out]; exact ho5', b5⟩
      · have hjl : nv - 1 - i < v.length := by have := Hv.out.2; omega
        have hil : i < u.length := by have := Hu.out.2; omega
        obtain ⟨ad, rfl, hb1, c0⟩ := Hv.out.1.at_ hjl
        obtain ⟨ad2, rfl, hb2, d0⟩ := Hu.out.1.at_ hil
        have hxy : ¬ v[nv - 1 - i] = - u[i] := fun e => hne (by rw [List.getD_eq_getElem?_getD, List.getElem?_eq_getElem hjl, List.getD_eq_getElem?_getD, List.getElem?_eq_getElem hil]; exact e)
        have hly := Hl.out.2 u[i] (List.getElem_mem hil)
        have hi1 : (i : Int) < (nv : Int) := by omega
        have hi2 : (i : Int) < (nu : Int) := by omega
        generalize u[i] = y at *
        generalize v[nv - 1 - i] = x at *
        obtain ⟨hy0, hy1, hy2⟩ := hly
        have hbeq : (x == -y) = false := by simp; exact hxy
        have s1 : ((nv : Int) - 1 - (i : Int)).toNat = nv - 1 - i := by omega
        have s2 : (0 : Int) ≤ (nv : Int) - 1 - (i : Int) := by omega
        have hci : ¬ cu = i := by omega
        have Hq := Lib.hid (And.intro Rv.out (Hdrop.out ad2 rfl))
        clear hb1 hb2 hil hjl hne hxy hu0 hv0
        go_wp2_with (go_quiet (fail))
        generalize d + nq = q
        have t1 : nv - i ≤ cv := by omega
        have t2 : i ≤ cu := by omega
        have t3 : (i : Int) ≤ (nu : Int) := by omega
        have t4 : (0 : Int) ≤ (nv : Int) - (i : Int) := by omega
        have t5 : (nv : Int) - (i : Int) ≤ (cv : Int) := by omega
        have t6 : i ≤ nu := by omega
        have b1 : Below w.heap.size w (w.drewN (q + 1)) := bdrew (Below.refl _ _) (q + 1)
        have HJ := Lib.hid (show Calls Tryd.prog 63 #[.slice (some ⟨w.heap.size, 0, none⟩) 2 2] ((w.drewN (q + 1)).alloc (.cells #[.slice (some ad) (nv - i) cv, .slice (some (ad2.add i)) (nu - i) (cu - i)] 22)) (OutI (w.drewN (q + 1)) (v.take (nv - i) ++ u.drop i)) from rjoin2 (w := w.drewN (q + 1)) (Hq.out.1.below b1) (Hq.out.2.below b1) b1.size (by have := Hn1.out; omega) (by have := Hn2.out; omega) Hn3.out)
        have s4 : ((nv : Int) - (i : Int)).toNat = (nv - i) := by omega
        have s5 : IntKind.i64.wrap ((nv : Int) - (i : Int)) = (nv : Int) - (i : Int) := by rw [IntKind.wrap_i64]; omega
        refine wp_region_noPanic ?_
        refine wp_region_held_drew (S := fun w' => Below w.heap.size w w') (by kernel_rfl) (bdrew (Below.refl _ _) q).drew (fun hHeld => ?_)
        have b0 : Below w.heap.size w (w.drewN q).drew := hHeld
        refine wpAnyH_take (i := 0) (oi := Oper.mk (some 34) _ _ _ _ _) (v := ?_) rfl (by kernel_rfl) (by kernel_rfl) (by kernel_rfl) (fun _ _ _ h => h) (Or.inl ⟨by rfl, ?_⟩) (by assumption) ?_
        rotate_left
        · (intro w' hSw; (try dsimp only at hSw); go_simp; try with_reducible rfl)
        try simp only [Act.put, List.setIfInBounds_toArray, List.set_cons_zero, List.set_cons_succ]
        refine wpAnyH_take (i := 1) (oi := Oper.mk (some 35) _ _ _ _ _) (v := ?_) rfl (by kernel_rfl) (by kernel_rfl) (by kernel_rfl) (fun _ _ _ h => h) (Or.inl ⟨by rfl, ?_⟩) (by assumption) ?_
        rotate_left
        · (intro w' hSw; (try dsimp only at hSw); go_simp; try with_reducible rfl)
        try simp only [Act.put, List.setIfInBounds_toArray, List.set_cons_zero, List.set_cons_succ]
        refine wpAnyH_take (i := 2) (oi := Oper.mk (some 36) _ _ _ _ _) (v := ?_) rfl (by kernel_rfl) (by kernel_rfl) (by kernel_rfl) (fun _ _ _ h => h) (Or.inl ⟨by rfl, ?_⟩) (by assumption) ?_
        rotate_left
        · (intro w' hSw; (try dsimp only at hSw); go_simp; try with_reducible rfl)
        try simp only [Act.put, List.setIfInBounds_toArray, List.set_cons_zero, List.set_cons_succ]
        refine wpAnyH_take (i := 3) (oi := Oper.mk (some 37) _ _ _ _ _) (v := ?_) rfl (by kernel_rfl) (by kernel_rfl) (by kernel_rfl) (fun _ _ _ h => h) (Or.inl ⟨by rfl, ?_⟩) (by assumption) ?_
        rotate_left
        · (intro w' hSw; (try dsimp only at hSw); go_simp; try with_reducible rfl)
        try simp only [Act.put, List.setIfInBounds_toArray, List.set_cons_zero, List.set_cons_succ]
        refine wpAnyH_take (i := 4) (oi := Oper.mk (some 38) _ _ _ _ _) (v := ?_) rfl (by kernel_rfl) (by kernel_rfl) (by kernel_rfl) (fun _ _ _ h => h) (Or.inl ⟨by rfl, ?_⟩) (by assumption) ?_
        rotate_left
        · (intro w' hSw; (try dsimp only at hSw); go_simp; try with_reducible rfl)
        try simp only [Act.put, List.setIfInBounds_toArray, List.set_cons_zero, List.set_cons_succ]
        refine wpAnyH_take (i := 5) (oi := Oper.mk (some 39) _ _ _ _ _) (v := ?_) rfl (by kernel_rfl) (by kernel_rfl) (by kernel_rfl) (fun _ _ _ h => h) (Or.inl ⟨by rfl, ?_⟩) (by assumption) ?_
        rotate_left
        · (intro w' hSw; (try dsimp only at hSw); go_simp; try with_reducible rfl)
        try simp only [Act.put, List.setIfInBounds_toArray, List.set_cons_zero, List.set_cons_succ]
        refine wpAnyH_take (i := 6) (oi := Oper.mk (some 40) _ _ _ _ _) (v := ?_) rfl (by kernel_rfl) (by kernel_rfl) (by kernel_rfl) (fun _ _ _ h => h) (Or.inl ⟨by rfl, ?_⟩) (by assumption) ?_
        rotate_left
        · (intro w' hSw; (try dsimp only at hSw); go_simp; try with_reducible rfl)
        try simp only [Act.put, List.setIfInBounds_toArray, List.set_cons_zero, List.set_cons_succ]
        refine wpAnyH_take (i := 7) (oi := Oper.mk (some 41) _ _ _ _ _) (v := ?_) rfl (by kernel_rfl) (by kernel_rfl) (by kernel_rfl) (fun _ _ _ h => h) (Or.inl ⟨by rfl, ?_⟩) (by assumption) ?_
        rotate_left
        · (intro w' hSw; (try dsimp only at hSw); go_simp; try with_reducible rfl)
        try simp only [Act.put, List.setIfInBounds_toArray, List.set_cons_zero, List.set_cons_succ]
        refine wpAnyH_take (i := 8) (oi := Oper.mk (some 42) _ _ _ _ _) (v := ?_) rfl (by kernel_rfl) (by kernel_rfl) (by kernel_rfl) (fun _ _ _ h => h) (Or.inl ⟨by rfl, ?_⟩) (by assumption) ?_
        rotate_left
        · (intro w' hSw; (try dsimp only at hSw); go_simp; try with_reducible rfl)
        try simp only [Act.put, List.setIfInBounds_toArray, List.set_cons_zero, List.set_cons_succ]
        refine wpAnyH_ready (rs := [9]) (by kernel_rfl) (by simp) ?_
        refine AllReadyH.cons (o := Oper.mk (some 43) _ _ _ _ _) rfl (fun K hK => ?_) AllReadyH.nil
        go_simp
        try simp only []
        refine hK.out _ _ (b1.alloc b1.size (.cells #[.slice (some ad) (nv - i) cv, .slice (some (ad2.add i)) (nu - i) (cu - i)] 22)) (fun _ => ?_)
        clear hK K hHeld
        have hHeld := (b1.alloc b1.size (.cells #[.slice (some ad) (nv - i) cv, .slice (some (ad2.add i)) (nu - i) (cu - i)] 22))
        try simp only [Act.put, List.setIfInBounds_toArray, List.set_cons_zero, List.set_cons_succ]
        refine wpAnyH_ready (rs := [10]) (by kernel_rfl) (by simp) ?_
        refine AllReadyH.cons (o := Oper.mk (some 44) _ _ _ _ _) rfl (fun K hK => ?_) AllReadyH.nil
        go_simp
        refine HJ.out.mono ?_
        rintro e w5 ⟨A5, n5, c5, rfl, ho5, hb5⟩
        try simp only []
        have b5 : Below w.heap.size w w5 := b1.trans (hb5.mono b1.size)
        have ho5' : OwnI w5 w.heap.size (.slice A5 n5 c5) (v.take (nv - i) ++ u.drop i) := ho5.lower b1.size
        clear hb5 ho5
        refine hK.out _ _ b5 (fun _ => ?_)
        clear hK K hHeld
        have hHeld := b5
        try simp only [Act.put, List.setIfInBounds_toArray, List.set_cons_zero, List.set_cons_succ]
        refine wpAnyH_take (i := 11) (oi := Oper.mk (some 4) _ _ _ _ _) (v := ?_) rfl (by kernel_rfl) (by kernel_rfl) (by kernel_rfl) (fun _ _ _ h => h) (Or.inl ⟨by rfl, ?_⟩) (by assumption) ?_
        rotate_left
        · (intro w' hSw; (try dsimp only at hSw); go_simp; try with_reducible rfl)
        try simp only [Act.put, List.setIfInBounds_toArray, List.set_cons_zero, List.set_cons_succ]
        refine wpAnyH_done (by kernel_rfl) ?_ _
        refine NoPanic.normal ?_
        go_wp2_with fail
        go_ret
        exact ⟨A5, n5, c5, rfl, by rw [Hgl.out]; exact ho5', b5⟩
end Go.Proofs.YtmjnhpagoboejaaDoor

/- words.puts, Put. -/
namespace Go.Proofs.YtmjnhpagoboejaaDoor
open Go.RowKit
open Wd
set_option linter.unusedSimpArgs false
set_option linter.unusedVariables false

theorem OwnL.lit1 (w : World) (r : SRow) : OwnL (w.alloc (.cells #[.slice r.1 r.2.2.length r.2.1] 22)) w.heap.size (.slice (some ⟨w.heap.size, 0, none⟩) 1 1) [r] := by
  refine ⟨rfl, .inr ⟨_, 1, _, rfl, Nat.le_refl _, heap_alloc_new w _, by simp, by unfold maxLen; omega, by simp, by simp [sv]⟩⟩
theorem own_readsL {w : World} {B B' n c : Nat} {A : Option Addr} {rs : List SRow} (h : OwnL w B (.slice A n c) rs) (hr : ∀ r ∈ rs, ReadsI w B' r.1 r.2.2) (hB : B' ≤ w.heap.size) : ReadsL w w.heap.size A rs ∧ n = rs.length := ⟨⟨h.reads.1, fun r hr' => (hr r hr').more hB⟩, h.reads.2⟩
set_option maxRecDepth 100000 in
set_option maxHeartbeats 4000000 in
theorem puts_out {w : World} {B nw cw n c : Nat} {Aw A : Option Addr} {l : List Int} {rs : List SRow} (hrw : ReadsI w B Aw l) (hr : ReadsL w B A rs) (hB : B ≤ w.heap.size) (hnw : nw = l.length) (hn : n = rs.length) (hnn : n ≤ 1000) (hwl : Wf l) (hll : l.length ≤ 1000000) (hw : ∀ r ∈ rs, Wf r.2.2 ∧ r.2.2.length ≤ 1000000) (hM : ∃ M, (∀ r ∈ rs, r.2.2.length ≤ M) ∧ M * l.length ≤ 20000) :
    Calls Tryd.prog 70 #[.slice Aw nw cw, .slice A n c] w (ResOut w (putR l (rs.map (fun r => r.2.2)))) := by
  subst hnw
  have HRW := Lib.hid hrw
  have HR := Lib.hid hr
  have HB := Lib.hid hB
  have Hn := Lib.hid hn
  have hall : ∀ r ∈ (Aw, cw, l) :: rs, Wf r.2.2 ∧ r.2.2.length ≤ 1000000000000 := fun r hr => by
    rcases List.mem_cons.1 hr with rfl | hr
    · exact ⟨hwl, by show l.length ≤ _; omega⟩
    · have := hw r hr; exact ⟨this.1, by omega⟩
  have Hall := Lib.hid hall
  have Hw1 := Lib.hid hM
  have hqb := hll
  obtain ⟨R, hR⟩ : ∃ R, R = putR l (rs.map (fun r => r.2.2)) := ⟨_, rfl⟩
  rw [← hR]
  have HRe := Lib.hid hR
  generalize hq : l.length = q at *
  have Hq := Lib.hid hq
  clear hrw hr hB hn hwl hll hw hM hR hall hq
  go_enter Tryd.func70, Tryd.ntmps70
  go_wp2_with (refine wpL_append rfl (.tmp 13) (.tmp 14) rfl w.heap.size _ [(Aw, cw, l)] rs (by have h := OwnL.lit1 w (Aw, cw, l); rw [show ((Aw, cw, l) : SRow).2.2.length = q from Hq.out] at h; exact h) rfl rfl Hn.out ((HR.out.1.alloc HB.out _)) (by simp) (by have := Hn.out; omega) (by simp) ?_; intro A2 n2 c2 w2 ho2 hn2 hc2 hg2 hb2; have H2 := Lib.hid (And.intro ho2 (hb2 _ ((Below.refl _ _).alloc (Nat.le_refl _) _))); clear ho2 hn2 hc2 hg2 hb2)
  have hrd : ∀ r ∈ [((Aw, cw, l) : SRow)] ++ rs, ReadsI w2 B r.1 r.2.2 := fun r hr => by
    rcases List.mem_append.1 hr with hr | hr
    · rw [List.mem_singleton.1 hr]; exact HRW.out.below (H2.out.2.mono HB.out)
    · exact (HR.out.2 r hr).below (H2.out.2.mono HB.out)
  have hs2 := H2.out.2.size
  have hrl := own_readsL H2.out.1 hrd (by have := HB.out; omega)
  have HC := check_any (c := c2) hrl.1 hrl.2 (by rw [hrl.2, List.length_append]; have := Hn.out; simp; omega) Hall.out
  simp only [List.map_append, List.map_cons, List.map_nil, List.singleton_append] at HC
  by_cases hz : chk (l :: rs.map (fun r => r.2.2)) = 0
  · rw [hz] at HC
    have HC := Lib.hid HC
    have Hlet := Lib.hid (chk_words hz)
    have HRz := Lib.hid (show R = if fitsB (rs.map (fun r => r.2.2)) l then ended (putL (rs.map (fun r => r.2.2)) [] l) else ([], 2) by rw [HRe.out]; unfold putR; rw [if_pos hz])
    clear hrd hrl hz
    go_wp2_with fail
    refine HC.out.mono ?_
    rintro e w' ⟨rfl, rfl⟩
    go_wp2_with fail
    go_loopg [22] q (fun k iv wr => ∃ i : Nat, iv = .int .i64 (i : Int) ∧ k = q - i ∧ i ≤ q ∧ w2 = wr ∧ Hid (fitsB (rs.map (fun r => r.2.2)) (l.take i) = true))
    case atStart => exact ⟨0, rfl, by omega, by omega, rfl, Lib.hid (by rw [List.take_zero]; rfl)⟩
    case round =>
      obtain ⟨i, rfl, hk, hi, rfl, ht⟩ := hrel
      have Hk := Lib.hid hk
      clear hk
      by_cases hin : i < q
      · have hil : i < l.length := by rw [Hq.out]; exact hin
        obtain ⟨ad, rfl, hb1, c0⟩ := (HRW.out.below (H2.out.2.mono HB.out)).at_ hil
        have hlet := (Hlet.out l (by simp)).1 l[i] (List.getElem_mem hil)
        have Hst := Lib.hid (fun h => fits_step hil ht.out h)
        have Hno := Lib.hid (fun h => fits_no (ims := rs.map (fun r => r.2.2)) hil h)
        rw [List.length_map, ← Hn.out] at Hst Hno
        have hii : (i : Int) < (q : Int) := by omega
        generalize l[i] = k at *
        obtain ⟨hk0, hk1, hk2⟩ := hlet
        clear hb1 hil
        by_cases hkn : (k.natAbs : Int) ≤ (n : Int)
        · have hm1 : max k (-k) ≤ (n : Int) := by omega
          have hm2 : ¬ (n : Int) < max k (-k) := by omega
          have hm3 : ¬ (n : Int) < k := by omega
          have hm4 : ¬ (n : Int) < -k := by omega
          have Hnx := Lib.hid (Hst.out hkn)
          clear hkn
          go_wp2_with fail
          all_goals (
            go_roundg (q - (i + 1))
            case measure => have := Hk.out; omega
            case rel => exact ⟨i + 1, rfl, rfl, by omega, rfl, Hnx⟩)
        · have hm1 : (n : Int) < max k (-k) := by omega
          have Hf := Lib.hid (show R = ([], 2) by rw [HRz.out, Hno.out (by omega)]; rfl)
          clear hkn
          go_wp2_with fail
          all_goals (
            go_ret2
            rw [Hf.out]
            exact resOut_nil H2.out.2)
      · have hii : (q : Int) ≤ (i : Int) := by omega
        have hfa : fitsB (rs.map (fun r => r.2.2)) l = true := by
          have h := ht.out
          rw [List.take_of_length_le (by have := Hq.out; omega)] at h
          exact h
        have Hfa := Lib.hid (fits_at hfa)
        have HRf := Lib.hid (show R = ended (putL (rs.map (fun r => r.2.2)) [] l) by rw [HRz.out, hfa]; rfl)
        have Hlm := Lib.hid (fun m hm => Hlet.out m (List.mem_cons_of_mem _ hm))
        have hdec : decide (i < q) = false := by simp; omega
        clear hfa ht Hk HRz HRe hin hi
        go_wp2_with fail
        go_loopg [7, 36] q (fun k ov iv wr => ∃ (i n' c' : Nat) (A' : Option Addr) (L : List Int), ov = .slice A' n' c' ∧ iv = .int .i64 (i : Int) ∧ k = q - i ∧ i ≤ q ∧ n' ≤ 20000 ∧ Hid (L = putL (rs.map (fun r => r.2.2)) [] (l.take i)) ∧ Hid (OwnI wr w2.heap.size (.slice A' n' c') L ∧ Below w2.heap.size w2 wr))
        case atStart => exact ⟨0, 0, 0, none, [], rfl, rfl, by omega, by omega, by omega, Lib.hid (by rw [List.take_zero]; rfl), Lib.hid ⟨OwnI.nil _ _, Below.refl _ _⟩⟩
        case round =>
          obtain ⟨i, n1, c1, A1, L, rfl, rfl, hk, hi, hn1, hL, hO⟩ := hrel
          have Hk := Lib.hid hk
          have HnL := Lib.hid hO.out.1.len.1
          have hsz := hO.out.2.size
          clear hk
          by_cases hin : i < q
          · have hil : i < l.length := by rw [Hq.out]; exact hin
            have hb2w := H2.out.2.mono HB.out
            have hbw := hO.out.2.mono (Nat.le_trans HB.out hs2)
            obtain ⟨ad, rfl, hb1, c0⟩ := ((HRW.out.below hb2w).below hbw).at_ hil
            have hlet := (Hlet.out l (by simp)).1 l[i] (List.getElem_mem hil)
            have hkn := Hfa.out l[i] (List.getElem_mem hil)
            have Hst := Lib.hid (putL_step (ims := rs.map (fun r => r.2.2)) (o := []) hil)
            have hMx : (putL (rs.map (fun r => r.2.2)) [] (l.take (i + 1))).length ≤ 20000 := by
              obtain ⟨M, hM1, hM2⟩ := Hw1.out
              have h1 := putL_len (ims := rs.map (fun r => r.2.2)) (M := M) (fun m hm => by obtain ⟨r, hr, rfl⟩ := List.mem_map.1 hm; exact hM1 r hr) (l.take (i + 1)) []
              have h2 : M * (l.take (i + 1)).length ≤ M * l.length := Nat.mul_le_mul_left _ (by rw [List.length_take]; omega)
              rw [List.length_nil] at h1
              have h3 := Hq.out
              rw [h3] at h2
              omega
            have HMx := Lib.hid hMx
            rw [List.length_map, ← Hn.out] at hkn
            have hii : (i : Int) < (q : Int) := by omega
            generalize l[i] = k at *
            obtain ⟨hk0, hk1, hk2⟩ := hlet
            clear hb1 hil hMx
            rcases Int.lt_or_gt_of_ne hk0 with hneg | hpos
            · obtain ⟨j, hj⟩ : ∃ j : Nat, (j : Int) = -k - 1 := ⟨(-k - 1).toNat, by omega⟩
              have hjn : j < rs.length := by have := Hn.out; omega
              obtain ⟨ad2, rfl, hb3, d0⟩ := ((HR.out.below hb2w).below hbw).at_ hjn
              have hrow := ((HR.out.below hb2w).below hbw).2 _ (List.getElem_mem hjn)
              have hml := Hlm.out rs[j].2.2 (List.mem_map.2 ⟨_, List.getElem_mem hjn, rfl⟩)
              have Himg := Lib.hid (show img (rs.map (fun r => r.2.2)) k = inv rs[j].2.2 by
                unfold img
                rw [if_neg (by omega), show (-k - 1).toNat = j by omega, List.getD_eq_getElem?_getD, List.getElem?_map, List.getElem?_eq_getElem hjn]; rfl)
              have HBk := Lib.hid (back_any (w := wr) (c := rs[j].2.1) hrow (by have := HB.out; omega) rfl hml.1 (by omega))
              have Hm := Lib.hid hml
              obtain ⟨m, hm⟩ : ∃ m, m = rs[j].2.2 := ⟨_, rfl⟩
              rw [← hm] at d0 Himg HBk Hm
              generalize rs[j].1 = a1 at *
              generalize rs[j].2.1 = d1 at *
              have s1 : (-k - 1).toNat = j := by omega
              have s2 : (0 : Int) ≤ -k - 1 := by omega
              have s3 : -k - 1 < (n : Int) := by omega
              have s4 : ¬ (0 : Int) < k := by omega
              clear hjn hb3 hrow hml hm hj hkn hb2w hbw
              go_wp2_with fail
              refine HBk.out.mono ?_
              rintro e w5 ⟨A5, c5, rfl, ho5, hb5⟩
              have H5 := Lib.hid (And.intro ho5 hb5)
              clear ho5 hb5
              have HO5 := Lib.hid (on_gen (w := w5) (B := w2.heap.size) (cw := c5) (hO.out.1.kept H5.out.2) (fun wx hg => ((AwayI.of_own H5.out.1 (fun g hg' => (hO.out.1.lt g hg').2)).grown hg).1) (by have := H5.out.2.size; omega) (by rw [inv_len]) (letl_inv Hm.out.1) (by have := HnL.out; omega) (by rw [inv_len]; have := Hm.out.2; omega))
              go_wp2_with fail
              refine HO5.out.mono ?_
              rintro e w6 ⟨A6, n6, c6, rfl, ho6, hg6, _⟩
              have H6 := Lib.hid (And.intro ho6 (show Below w2.heap.size w2 w6 from Below.grown (hO.out.2.trans (H5.out.2.mono hsz)) hg6 (by have := H5.out.2.size; omega) (fun g hg => ((hO.out.1.kept H5.out.2).lt g hg).1)))
              clear ho6 hg6
              have Hnew := Lib.hid (show putL (rs.map (fun r => r.2.2)) [] (l.take (i + 1)) = onl L (inv m) by rw [Hst.out, ← hL.out, Himg.out])
              go_wp2_with fail
              go_roundg (q - (i + 1))
              case measure => have := Hk.out; omega
              case rel => exact ⟨i + 1, n6, c6, A6, _, rfl, rfl, rfl, by omega, by have h1 := H6.out.1.len.1; have h2 := HMx.out; rw [Hnew.out] at h2; omega, Lib.hid Hnew.out.symm, H6⟩
            · obtain ⟨j, hj⟩ : ∃ j : Nat, (j : Int) = k - 1 := ⟨(k - 1).toNat, by omega⟩
              have hjn : j < rs.length := by have := Hn.out; omega
              obtain ⟨ad2, rfl, hb3, d0⟩ := ((HR.out.below hb2w).below hbw).at_ hjn
              have hrow := ((HR.out.below hb2w).below hbw).2 _ (List.getElem_mem hjn)
              have hml := Hlm.out rs[j].2.2 (List.mem_map.2 ⟨_, List.getElem_mem hjn, rfl⟩)
              have Himg := Lib.hid (show img (rs.map (fun r => r.2.2)) k = rs[j].2.2 by
                unfold img
                rw [if_pos (by omega), show (k - 1).toNat = j by omega, List.getD_eq_getElem?_getD, List.getElem?_map, List.getElem?_eq_getElem hjn]; rfl)
              have HO5 := Lib.hid (on_any (w := wr) (B := w2.heap.size) (cw := rs[j].2.1) hO.out.1 (hrow.more (by have := HB.out; omega)) (by omega) rfl hml.1 (by have := HnL.out; omega) (by have := hml.2; omega))
              obtain ⟨m, hm⟩ : ∃ m, m = rs[j].2.2 := ⟨_, rfl⟩
              rw [← hm] at d0 Himg HO5
              generalize rs[j].1 = a1 at *
              generalize rs[j].2.1 = d1 at *
              have s1 : (k - 1).toNat = j := by omega
              have s2 : (0 : Int) ≤ k - 1 := by omega
              have s3 : k - 1 < (n : Int) := by omega
              have s4 : (0 : Int) < k := hpos
              clear hjn hb3 hrow hml hm hj hkn hb2w hbw
              go_wp2_with fail
              refine HO5.out.mono ?_
              rintro e w6 ⟨A6, n6, c6, rfl, ho6, hg6, _⟩
              have H6 := Lib.hid (And.intro ho6 (show Below w2.heap.size w2 w6 from Below.grown hO.out.2 hg6 (by omega) (fun g hg => (hO.out.1.lt g hg).1)))
              clear ho6 hg6
              have Hnew := Lib.hid (show putL (rs.map (fun r => r.2.2)) [] (l.take (i + 1)) = onl L m by rw [Hst.out, ← hL.out, Himg.out])
              go_wp2_with fail
              go_roundg (q - (i + 1))
              case measure => have := Hk.out; omega
              case rel => exact ⟨i + 1, n6, c6, A6, _, rfl, rfl, rfl, by omega, by have h1 := H6.out.1.len.1; have h2 := HMx.out; rw [Hnew.out] at h2; omega, Lib.hid Hnew.out.symm, H6⟩
          · have hii : (q : Int) ≤ (i : Int) := by omega
            have Hfin := Lib.hid (show R = ended L by rw [HRf.out, hL.out, List.take_of_length_le (by have := Hq.out; omega)])
            clear hin
            rcases Nat.lt_or_ge 4096 n1 with h4 | h4
            · have HE := Lib.hid (ended_long (w := wr) (A := A1) (c := c1) h4)
              have Hf := Lib.hid (show R = ([], 3) by rw [Hfin.out]; unfold ended; rw [if_neg (by have := HnL.out; omega)])
              clear h4
              go_wp2_with fail
              refine HE.out.mono ?_
              rintro e w3 ⟨rfl, rfl⟩
              go_wp2_with fail
              go_ret2
              rw [Hf.out]
              exact resOut_nil (H2.out.2.trans (hO.out.2.mono hs2))
            · have HE := Lib.hid (ended_ok (w := wr) (A := A1) (c := c1) h4 (hO.out.1.len.2.1))
              have Hf := Lib.hid (show R = (L, 0) by rw [Hfin.out]; unfold ended; rw [if_pos (by have := HnL.out; omega)])
              clear h4
              go_wp2_with fail
              refine HE.out.mono ?_
              rintro e w3 ⟨rfl, rfl⟩
              go_wp2_with fail
              go_ret2
              rw [Hf.out]
              exact ⟨A1, n1, n1, rfl, Got.of_res ⟨HnL.out, c1, hO.out.1.lower hs2, hO.out.1.len.2.1⟩ (by omega), H2.out.2.trans (hO.out.2.mono hs2)⟩
  · generalize hzz : chk (l :: rs.map (fun r => r.2.2)) = z at *
    have HC := Lib.hid HC
    have hzb : (z != 0) = true := by simp; exact hz
    have Hf := Lib.hid (show R = ([], z) by rw [HRe.out]; unfold putR; rw [hzz, if_neg hz])
    clear hrd hrl hz hzz
    go_wp2_with fail
    refine HC.out.mono ?_
    rintro e w' ⟨rfl, rfl⟩
    go_wp2_with fail
    go_ret2
    rw [Hf.out]
    exact resOut_nil H2.out.2
set_option maxRecDepth 100000 in
theorem put_out {w : World} {B nw cw n c : Nat} {Aw A : Option Addr} {l : List Int} {rs : List SRow} (hrw : ReadsI w B Aw l) (hr : ReadsL w B A rs) (hB : B ≤ w.heap.size) (hnw : nw = l.length) (hn : n = rs.length) (hnn : n ≤ 1000) (hwl : Wf l) (hll : l.length ≤ 1000000) (hw : ∀ r ∈ rs, Wf r.2.2 ∧ r.2.2.length ≤ 1000000) (hM : ∃ M, (∀ r ∈ rs, r.2.2.length ≤ M) ∧ M * l.length ≤ 20000) :
    Calls Tryd.prog 36 #[.slice Aw nw cw, .slice A n c] w (ResOut w (putR l (rs.map (fun r => r.2.2)))) := by
  have HP := Lib.hid (puts_out (cw := cw) (c := c) hrw hr hB hnw hn hnn hwl hll hw hM)
  generalize putR l (rs.map (fun r => r.2.2)) = R at *
  clear hrw hr hB hnw hn hnn hwl hll hw hM
  go_enter Tryd.func36, Tryd.ntmps36
  go_wp2_with fail
  refine HP.out.mono ?_
  rintro e w2 ⟨A2, n2, k2, rfl, hg, hb⟩
  have H2 := Lib.hid (And.intro hg hb)
  clear hg hb
  go_wp2_with fail
  go_ret2
  exact ⟨A2, n2, k2, rfl, H2.out⟩
end Go.Proofs.YtmjnhpagoboejaaDoor
