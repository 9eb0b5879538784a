import Derived.Test.YtmjnhpagoboejaaDoorC6
import Derived.Test.YtmjnhpagoboejaaDoorC3
import Derived.Test.YtmjnhpagoboejaaDoorC1
/- ref.glued (printed by gen_glue.py). -/
namespace Go.Proofs.YtmjnhpagoboejaaDoor
open Go.RowKit
open Wd
set_option linter.unusedSimpArgs false
set_option linter.unusedVariables false

theorem rjoin2 {w : World} {B n1 c1 n2 c2 : Nat} {A1 A2 : Option Addr} {a b : List Int} (h1 : ReadsI w B A1 a) (h2 : ReadsI w B A2 b) (hB : B ≤ w.heap.size) (e1 : n1 = a.length) (e2 : n2 = b.length) (hl : a.length + b.length ≤ 1000000000) :
    Calls Tryd.prog 63 #[.slice (some ⟨w.heap.size, 0, none⟩) 2 2] (w.alloc (.cells #[.slice A1 n1 c1, .slice A2 n2 c2] 22)) (OutI w (a ++ b)) := by
  subst e1 e2
  have h := rjoined_any (w := w.alloc (.cells #[.slice A1 a.length c1, .slice A2 b.length c2] 22)) (c := 2) (n := 2) (rows_lit w [(A1, c1, a), (A2, c2, b)] (fun r hr => by
    simp only [List.mem_cons, List.mem_nil_iff, or_false] at hr
    rcases hr with rfl | rfl
    · exact h1
    · exact h2) hB) (by simp) rfl (by decide) (by simp; omega)
  refine h.mono ?_
  rintro e w' ⟨A', n', c', rfl, ho, hb⟩
  refine ⟨A', n', c', rfl, ?_, ((Below.refl w.heap.size w).alloc (Nat.le_refl _) _).trans (hb.mono (by simp))⟩
  have e : List.flatten (List.map (fun r : SRow => r.2.2) [(A1, c1, a), (A2, c2, b)]) = a ++ b := by simp
  rw [e] at ho
  exact ho.lower (by simp)
set_option maxRecDepth 100000 in
set_option maxHeartbeats 8000000 in
/-- the product of two reduced words -/
theorem rglued_any {w : World} {B nv cv nu cu : Nat} {Av Au : Option Addr} {v u : List Int} (hrv : ReadsI w B Av v) (hru : ReadsI w B Au u) (hB : B ≤ w.heap.size) (hnv : nv = v.length) (hnu : nu = u.length) (hcv : nv ≤ cv) (hcu : nu ≤ cu) (hbv : nv ≤ 100000000) (hbu : nu ≤ 100000000) (hlv : LetL v) (hlu : LetL u) (hredv : Red v) (hredu : Red u) (hcm : cv ≤ 9223372036854775807) (hcm2 : cu ≤ 9223372036854775807) :
    Calls Tryd.prog 71 #[.slice Av nv cv, .slice Au nu cu] w (OutI w (onl v u)) := by
  have Hv := Lib.hid (And.intro hrv hnv)
  have Hu := Lib.hid (And.intro hru hnu)
  have Hl := Lib.hid (And.intro hlv hlu)
  have HB := Lib.hid hB
  have HE := Lib.hid (glue_eq v.length v u 0 hredv hredu (by omega) (by omega) (fun i hi => by omega))
  obtain ⟨P, hP⟩ : ∃ P, P = glueN v u v.length 0 := ⟨_, rfl⟩
  have HP := Lib.hid hP
  clear hrv hru hB hnv hnu hlv hlu hredv hredu hP
  go_enter Tryd.func71, Tryd.ntmps71
  go_wp2_with fail
  go_loopg [5] nv (fun k iv wr => ∃ (i d : Nat), iv = .int .i64 (i : Int) ∧ k = nv - i ∧ i ≤ nv ∧ i ≤ nu ∧ Hid (glueN v u (nv - i) i = P) ∧ Hid (wr = w.drewN d))
  case atStart => exact ⟨0, 0, rfl, by omega, by omega, by omega, Lib.hid (by rw [HP.out, Nat.sub_zero, Hv.out.2]), Lib.hid rfl⟩
  case round =>
    obtain ⟨i, d, rfl, hk, hiv, hiu, hg, hw⟩ := hrel
    have Hk := Lib.hid hk
    clear hk
    have ew := hw.out
    subst ew
    rcases Decidable.em (i < v.length ∧ i < u.length ∧ v.getD (v.length - 1 - i) 0 = - u.getD i 0) with hgo | hstop
    · have hil : i < u.length := hgo.2.1
      have hjl : nv - 1 - i < v.length := by have := Hv.out.2; omega
      obtain ⟨ad, rfl, hb1, c0⟩ := Hv.out.1.at_ hjl
      obtain ⟨ad2, rfl, hb2, d0⟩ := Hu.out.1.at_ hil
      have hnext := Lib.hid (show glueN v u (nv - (i + 1)) (i + 1) = P by rw [← hg.out, Hv.out.2]; exact (glueN_go hgo).symm)
      have hxy : v[nv - 1 - i] = - u[i] := by
        have h := hgo.2.2
        rw [← Hv.out.2, List.getD_eq_getElem?_getD, List.getElem?_eq_getElem hjl, List.getD_eq_getElem?_getD, List.getElem?_eq_getElem hil] at h
        exact h
      have hly := Hl.out.2 u[i] (List.getElem_mem hil)
      rw [hxy] at c0
      have hi1 : (i : Int) < (nv : Int) := by have := Hv.out.2; omega
      have hi2 : (i : Int) < (nu : Int) := by have := Hu.out.2; omega
      generalize u[i] = y at *
      obtain ⟨hy0, hy1, hy2⟩ := hly
      have s1 : ((nv : Int) - 1 - (i : Int)).toNat = nv - 1 - i := by omega
      have s2 : (0 : Int) ≤ (nv : Int) - 1 - (i : Int) := by omega
      clear hb1 hb2 hil hjl hgo hxy
      go_wp2_with (go_quiet (fail))
      go_roundg (nv - (i + 1))
      case measure => have := Hk.out; omega
      case rel => exact ⟨i + 1, _, rfl, rfl, by omega, by omega, hnext, Lib.hid rfl⟩
    · have hPi : P = i := by rw [← hg.out]; exact glueN_stop hstop
      have Hgl := Lib.hid (show onl v u = v.take (nv - i) ++ u.drop i by rw [HE.out, ← HP.out, hPi, Hv.out.2])
      have Hn1 := Lib.hid (show nv - i = (v.take (nv - i)).length by rw [List.length_take]; have := Hv.out.2; omega)
      have Hn2 := Lib.hid (show nu - i = (u.drop i).length by rw [List.length_drop]; have := Hu.out.2; omega)
      have Hn3 := Lib.hid (show (v.take (nv - i)).length + (u.drop i).length ≤ 1000000000 by rw [List.length_take, List.length_drop]; have := Hv.out.2; have := Hu.out.2; omega)
      have Rv := Lib.hid (show ReadsI w w.heap.size Av (v.take (nv - i)) from (ReadsI.take (m := v.drop (nv - i)) (by rw [List.take_append_drop]; exact Hv.out.1.more HB.out)))
      have hu0 : Au = none → nu = 0 := fun h => by
        rcases Nat.eq_zero_or_pos nu with h0 | h0
        · exact h0
        · obtain ⟨ad, e, _⟩ := Hu.out.1.at_ (k := 0) (by have := Hu.out.2; omega)
          rw [h] at e; cases e
      have hdrop : ∀ au, Au = some au → ReadsI w w.heap.size (some (au.add i)) (u.drop i) := fun au e => by
        have h := reads_part (by rw [← e]; exact Hu.out.1.more HB.out) i (u.length - i) (by have := Hu.out.2; omega)
        rwa [List.take_of_length_le (by rw [List.length_drop]; omega)] at h
      have Hdrop := Lib.hid hdrop
      have hempty : nu - i = 0 → ∀ X, ReadsI w w.heap.size X (u.drop i) := fun h X => reads_none (by rw [← Hn2.out]; exact h)
      have Hempty := Lib.hid hempty
      have hv0 : Av = none → nv = 0 := fun h => by
        rcases Nat.eq_zero_or_pos nv with h0 | h0
        · exact h0
        · obtain ⟨ad, e, _⟩ := Hv.out.1.at_ (k := 0) (by have := Hv.out.2; omega)
          rw [h] at e; cases e
      have hstop2 : nv ≤ i ∨ (i < nv ∧ nu ≤ i) ∨ (i < nv ∧ i < nu ∧ v.getD (nv - 1 - i) 0 ≠ - u.getD i 0) := by
        have h1 := Hv.out.2
        have h2 := Hu.out.2
        rw [← h1, ← h2] at hstop
        rcases Nat.lt_or_ge i nv with h3 | h3
        · rcases Nat.lt_or_ge i nu with h4 | h4
          · exact .inr (.inr ⟨h3, h4, fun h => hstop ⟨h3, h4, h⟩⟩)
          · exact .inr (.inl ⟨h3, h4⟩)
        · exact .inl h3
      clear hstop hdrop hempty HE HP hPi
      rcases hstop2 with h | ⟨h, h'⟩ | ⟨h, h', hne⟩
      · have hi1 : (nv : Int) ≤ (i : Int) := by omega
        have hi1' : ¬ (i : Int) < (nv : Int) := by omega
        rcases Av with _ | adv
        · rcases Au with _ | adu
          · have Hq := Lib.hid (And.intro Rv.out (Hempty.out (by have := hu0 (by trivial); omega) none))
            clear hu0 hv0
            go_wp2_with (go_quiet (fail))
            generalize d + nq = q
            have t1 : nv - i ≤ cv := by omega
            have t2 : i ≤ cu := by omega
            have t3 : (i : Int) ≤ (nu : Int) := by omega
            have t4 : (0 : Int) ≤ (nv : Int) - (i : Int) := by omega
            have t5 : (nv : Int) - (i : Int) ≤ (cv : Int) := by omega
            have t6 : i ≤ nu := by omega
            have b1 : Below w.heap.size w (w.drewN (q + 1)) := bdrew (Below.refl _ _) (q + 1)
            have HJ := Lib.hid (show Calls Tryd.prog 63 #[.slice (some ⟨w.heap.size, 0, none⟩) 2 2] ((w.drewN (q + 1)).alloc (.cells #[.slice none 0 cv, .slice none (nu - i) (cu - i)] 22)) (OutI (w.drewN (q + 1)) (v.take (nv - i) ++ u.drop i)) from rjoin2 (w := w.drewN (q + 1)) (Hq.out.1.below b1) (Hq.out.2.below b1) b1.size (by have := Hn1.out; omega) (by have := Hn2.out; omega) Hn3.out)
            have s4 : ((nv : Int) - (i : Int)).toNat = 0 := by omega
            have s5 : IntKind.i64.wrap ((nv : Int) - (i : Int)) = (nv : Int) - (i : Int) := by rw [IntKind.wrap_i64]; omega
            refine wp_region_noPanic ?_
            refine wp_region_held_drew (S := fun w' => Below w.heap.size w w') (by kernel_rfl) (bdrew (Below.refl _ _) q).drew (fun hHeld => ?_)
            have b0 : Below w.heap.size w (w.drewN q).drew := hHeld
            refine wpAnyH_take (i := 0) (oi := Oper.mk (some 34) _ _ _ _ _) (v := ?_) rfl (by kernel_rfl) (by kernel_rfl) (by kernel_rfl) (fun _ _ _ h => h) (Or.inl ⟨by rfl, ?_⟩) (by assumption) ?_
            rotate_left
            · (intro w' hSw; (try dsimp only at hSw); go_simp; try with_reducible rfl)
            try simp only [Act.put, List.setIfInBounds_toArray, List.set_cons_zero, List.set_cons_succ]
            refine wpAnyH_take (i := 1) (oi := Oper.mk (some 35) _ _ _ _ _) (v := ?_) rfl (by kernel_rfl) (by kernel_rfl) (by kernel_rfl) (fun _ _ _ h => h) (Or.inl ⟨by rfl, ?_⟩) (by assumption) ?_
            rotate_left
            · (intro w' hSw; (try dsimp only at hSw); go_simp; try with_reducible rfl)
            try simp only [Act.put, List.setIfInBounds_toArray, List.set_cons_zero, List.set_cons_succ]
            refine wpAnyH_take (i := 2) (oi := Oper.mk (some 36) _ _ _ _ _) (v := ?_) rfl (by kernel_rfl) (by kernel_rfl) (by kernel_rfl) (fun _ _ _ h => h) (Or.inl ⟨by rfl, ?_⟩) (by assumption) ?_
            rotate_left
            · (intro w' hSw; (try dsimp only at hSw); go_simp; try with_reducible rfl)
            try simp only [Act.put, List.setIfInBounds_toArray, List.set_cons_zero, List.set_cons_succ]
            refine wpAnyH_take (i := 3) (oi := Oper.mk (some 37) _ _ _ _ _) (v := ?_) rfl (by kernel_rfl) (by kernel_rfl) (by kernel_rfl) (fun _ _ _ h => h) (Or.inl ⟨by rfl, ?_⟩) (by assumption) ?_
            rotate_left
            · (intro w' hSw; (try dsimp only at hSw); go_simp; try with_reducible rfl)
            try simp only [Act.put, List.setIfInBounds_toArray, List.set_cons_zero, List.set_cons_succ]
            refine wpAnyH_take (i := 4) (oi := Oper.mk (some 38) _ _ _ _ _) (v := ?_) rfl (by kernel_rfl) (by kernel_rfl) (by kernel_rfl) (fun _ _ _ h => h) (Or.inl ⟨by rfl, ?_⟩) (by assumption) ?_
            rotate_left
            · (intro w' hSw; (try dsimp only at hSw); go_simp; try with_reducible rfl)
            try simp only [Act.put, List.setIfInBounds_toArray, List.set_cons_zero, List.set_cons_succ]
            refine wpAnyH_take (i := 5) (oi := Oper.mk (some 39) _ _ _ _ _) (v := ?_) rfl (by kernel_rfl) (by kernel_rfl) (by kernel_rfl) (fun _ _ _ h => h) (Or.inl ⟨by rfl, ?_⟩) (by assumption) ?_
            rotate_left
            · (intro w' hSw; (try dsimp only at hSw); go_simp; try with_reducible rfl)
            try simp only [Act.put, List.setIfInBounds_toArray, List.set_cons_zero, List.set_cons_succ]
            refine wpAnyH_take (i := 6) (oi := Oper.mk (some 40) _ _ _ _ _) (v := ?_) rfl (by kernel_rfl) (by kernel_rfl) (by kernel_rfl) (fun _ _ _ h => h) (Or.inl ⟨by rfl, ?_⟩) (by assumption) ?_
            rotate_left
            · (intro w' hSw; (try dsimp only at hSw); go_simp; try with_reducible rfl)
            try simp only [Act.put, List.setIfInBounds_toArray, List.set_cons_zero, List.set_cons_succ]
            refine wpAnyH_take (i := 7) (oi := Oper.mk (some 41) _ _ _ _ _) (v := ?_) rfl (by kernel_rfl) (by kernel_rfl) (by kernel_rfl) (fun _ _ _ h => h) (Or.inl ⟨by rfl, ?_⟩) (by assumption) ?_
            rotate_left
            · (intro w' hSw; (try dsimp only at hSw); go_simp; try with_reducible rfl)
            try simp only [Act.put, List.setIfInBounds_toArray, List.set_cons_zero, List.set_cons_succ]
            refine wpAnyH_take (i := 8) (oi := Oper.mk (some 42) _ _ _ _ _) (v := ?_) rfl (by kernel_rfl) (by kernel_rfl) (by kernel_rfl) (fun _ _ _ h => h) (Or.inl ⟨by rfl, ?_⟩) (by assumption) ?_
            rotate_left
            · (intro w' hSw; (try dsimp only at hSw); go_simp; try with_reducible rfl)
            try simp only [Act.put, List.setIfInBounds_toArray, List.set_cons_zero, List.set_cons_succ]
            refine wpAnyH_ready (rs := [9]) (by kernel_rfl) (by simp) ?_
            refine AllReadyH.cons (o := Oper.mk (some 43) _ _ _ _ _) rfl (fun K hK => ?_) AllReadyH.nil
            go_simp
            try simp only []
            refine hK.out _ _ (b1.alloc b1.size (.cells #[.slice none 0 cv, .slice none (nu - i) (cu - i)] 22)) (fun _ => ?_)
            clear hK K hHeld
            have hHeld := (b1.alloc b1.size (.cells #[.slice none 0 cv, .slice none (nu - i) (cu - i)] 22))
            try simp only [Act.put, List.setIfInBounds_toArray, List.set_cons_zero, List.set_cons_succ]
            refine wpAnyH_ready (rs := [10]) (by kernel_rfl) (by simp) ?_
            refine AllReadyH.cons (o := Oper.mk (some 44) _ _ _ _ _) rfl (fun K hK => ?_) AllReadyH.nil
            go_simp
            refine HJ.out.mono ?_
            rintro e w5 ⟨A5, n5, c5, rfl, ho5, hb5⟩
            try simp only []
            have b5 : Below w.heap.size w w5 := b1.trans (hb5.mono b1.size)
            have ho5' : OwnI w5 w.heap.size (.slice A5 n5 c5) (v.take (nv - i) ++ u.drop i) := ho5.lower b1.size
            clear hb5 ho5
            refine hK.out _ _ b5 (fun _ => ?_)
            clear hK K hHeld
            have hHeld := b5
            try simp only [Act.put, List.setIfInBounds_toArray, List.set_cons_zero, List.set_cons_succ]
            refine wpAnyH_take (i := 11) (oi := Oper.mk (some 4) _ _ _ _ _) (v := ?_) rfl (by kernel_rfl) (by kernel_rfl) (by kernel_rfl) (fun _ _ _ h => h) (Or.inl ⟨by rfl, ?_⟩) (by assumption) ?_
            rotate_left
            · (intro w' hSw; (try dsimp only at hSw); go_simp; try with_reducible rfl)
            try simp only [Act.put, List.setIfInBounds_toArray, List.set_cons_zero, List.set_cons_succ]
            refine wpAnyH_done (by kernel_rfl) ?_ _
            refine NoPanic.normal ?_
            go_wp2_with fail
            go_ret
            exact ⟨A5, n5, c5, rfl, by rw [Hgl.out]; exact ho5', b5⟩
          · by_cases hci : cu = i
            · have hci2 := hci.symm
              have Hq := Lib.hid (And.intro Rv.out (Hempty.out (by omega) (some adu)))
              have hcu' : nu = i := by omega
              clear hu0 hv0 hci2
              go_wp2_with (go_quiet (fail))
              generalize d + nq = q
              have t1 : nv - i ≤ cv := by omega
              have t2 : i ≤ cu := by omega
              have t3 : (i : Int) ≤ (nu : Int) := by omega
              have t4 : (0 : Int) ≤ (nv : Int) - (i : Int) := by omega
              have t5 : (nv : Int) - (i : Int) ≤ (cv : Int) := by omega
              have t6 : i ≤ nu := by omega
              have b1 : Below w.heap.size w (w.drewN (q + 1)) := bdrew (Below.refl _ _) (q + 1)
              have HJ := Lib.hid (show Calls Tryd.prog 63 #[.slice (some ⟨w.heap.size, 0, none⟩) 2 2] ((w.drewN (q + 1)).alloc (.cells #[.slice none 0 cv, .slice (some adu) 0 0] 22)) (OutI (w.drewN (q + 1)) (v.take (nv - i) ++ u.drop i)) from rjoin2 (w := w.drewN (q + 1)) (Hq.out.1.below b1) (Hq.out.2.below b1) b1.size (by have := Hn1.out; omega) (by have := Hn2.out; omega) Hn3.out)
              have s4 : ((nv : Int) - (i : Int)).toNat = 0 := by omega
              have s5 : IntKind.i64.wrap ((nv : Int) - (i : Int)) = (nv : Int) - (i : Int) := by rw [IntKind.wrap_i64]; omega
              refine wp_region_noPanic ?_
              refine wp_region_held_drew (S := fun w' => Below w.heap.size w w') (by kernel_rfl) (bdrew (Below.refl _ _) q).drew (fun hHeld => ?_)
              have b0 : Below w.heap.size w (w.drewN q).drew := hHeld
              refine wpAnyH_take (i := 0) (oi := Oper.mk (some 34) _ _ _ _ _) (v := ?_) rfl (by kernel_rfl) (by kernel_rfl) (by kernel_rfl) (fun _ _ _ h => h) (Or.inl ⟨by rfl, ?_⟩) (by assumption) ?_
              rotate_left
              · (intro w' hSw; (try dsimp only at hSw); go_simp; try with_reducible rfl)
              try simp only [Act.put, List.setIfInBounds_toArray, List.set_cons_zero, List.set_cons_succ]
              refine wpAnyH_take (i := 1) (oi := Oper.mk (some 35) _ _ _ _ _) (v := ?_) rfl (by kernel_rfl) (by kernel_rfl) (by kernel_rfl) (fun _ _ _ h => h) (Or.inl ⟨by rfl, ?_⟩) (by assumption) ?_
              rotate_left
              · (intro w' hSw; (try dsimp only at hSw); go_simp; try with_reducible rfl)
              try simp only [Act.put, List.setIfInBounds_toArray, List.set_cons_zero, List.set_cons_succ]
              refine wpAnyH_take (i := 2) (oi := Oper.mk (some 36) _ _ _ _ _) (v := ?_) rfl (by kernel_rfl) (by kernel_rfl) (by kernel_rfl) (fun _ _ _ h => h) (Or.inl ⟨by rfl, ?_⟩) (by assumption) ?_
              rotate_left
              · (intro w' hSw; (try dsimp only at hSw); go_simp; try with_reducible rfl)
              try simp only [Act.put, List.setIfInBounds_toArray, List.set_cons_zero, List.set_cons_succ]
              refine wpAnyH_take (i := 3) (oi := Oper.mk (some 37) _ _ _ _ _) (v := ?_) rfl (by kernel_rfl) (by kernel_rfl) (by kernel_rfl) (fun _ _ _ h => h) (Or.inl ⟨by rfl, ?_⟩) (by assumption) ?_
              rotate_left
              · (intro w' hSw; (try dsimp only at hSw); go_simp; try with_reducible rfl)
              try simp only [Act.put, List.setIfInBounds_toArray, List.set_cons_zero, List.set_cons_succ]
              refine wpAnyH_take (i := 4) (oi := Oper.mk (some 38) _ _ _ _ _) (v := ?_) rfl (by kernel_rfl) (by kernel_rfl) (by kernel_rfl) (fun _ _ _ h => h) (Or.inl ⟨by rfl, ?_⟩) (by assumption) ?_
              rotate_left
              · (intro w' hSw; (try dsimp only at hSw); go_simp; try with_reducible rfl)
              try simp only [Act.put, List.setIfInBounds_toArray, List.set_cons_zero, List.set_cons_succ]
              refine wpAnyH_take (i := 5) (oi := Oper.mk (some 39) _ _ _ _ _) (v := ?_) rfl (by kernel_rfl) (by kernel_rfl) (by kernel_rfl) (fun _ _ _ h => h) (Or.inl ⟨by rfl, ?_⟩) (by assumption) ?_
              rotate_left
              · (intro w' hSw; (try dsimp only at hSw); go_simp; try with_reducible rfl)
              try simp only [Act.put, List.setIfInBounds_toArray, List.set_cons_zero, List.set_cons_succ]
              refine wpAnyH_take (i := 6) (oi := Oper.mk (some 40) _ _ _ _ _) (v := ?_) rfl (by kernel_rfl) (by kernel_rfl) (by kernel_rfl) (fun _ _ _ h => h) (Or.inl ⟨by rfl, ?_⟩) (by assumption) ?_
              rotate_left
              · (intro w' hSw; (try dsimp only at hSw); go_simp; try with_reducible rfl)
              try simp only [Act.put, List.setIfInBounds_toArray, List.set_cons_zero, List.set_cons_succ]
              refine wpAnyH_take (i := 7) (oi := Oper.mk (some 41) _ _ _ _ _) (v := ?_) rfl (by kernel_rfl) (by kernel_rfl) (by kernel_rfl) (fun _ _ _ h => h) (Or.inl ⟨by rfl, ?_⟩) (by assumption) ?_
              rotate_left
              · (intro w' hSw; (try dsimp only at hSw); go_simp; try with_reducible rfl)
              try simp only [Act.put, List.setIfInBounds_toArray, List.set_cons_zero, List.set_cons_succ]
              refine wpAnyH_take (i := 8) (oi := Oper.mk (some 42) _ _ _ _ _) (v := ?_) rfl (by kernel_rfl) (by kernel_rfl) (by kernel_rfl) (fun _ _ _ h => h) (Or.inl ⟨by rfl, ?_⟩) (by assumption) ?_
              rotate_left
              · (intro w' hSw; (try dsimp only at hSw); go_simp; try with_reducible rfl)
              try simp only [Act.put, List.setIfInBounds_toArray, List.set_cons_zero, List.set_cons_succ]
              refine wpAnyH_ready (rs := [9]) (by kernel_rfl) (by simp) ?_
              refine AllReadyH.cons (o := Oper.mk (some 43) _ _ _ _ _) rfl (fun K hK => ?_) AllReadyH.nil
              go_simp
              try simp only []
              refine hK.out _ _ (b1.alloc b1.size (.cells #[.slice none 0 cv, .slice (some adu) 0 0] 22)) (fun _ => ?_)
              clear hK K hHeld
              have hHeld := (b1.alloc b1.size (.cells #[.slice none 0 cv, .slice (some adu) 0 0] 22))
              try simp only [Act.put, List.setIfInBounds_toArray, List.set_cons_zero, List.set_cons_succ]
              refine wpAnyH_ready (rs := [10]) (by kernel_rfl) (by simp) ?_
              refine AllReadyH.cons (o := Oper.mk (some 44) _ _ _ _ _) rfl (fun K hK => ?_) AllReadyH.nil
              go_simp
              refine HJ.out.mono ?_
              rintro e w5 ⟨A5, n5, c5, rfl, ho5, hb5⟩
              try simp only []
              have b5 : Below w.heap.size w w5 := b1.trans (hb5.mono b1.size)
              have ho5' : OwnI w5 w.heap.size (.slice A5 n5 c5) (v.take (nv - i) ++ u.drop i) := ho5.lower b1.size
              clear hb5 ho5
              refine hK.out _ _ b5 (fun _ => ?_)
              clear hK K hHeld
              have hHeld := b5
              try simp only [Act.put, List.setIfInBounds_toArray, List.set_cons_zero, List.set_cons_succ]
              refine wpAnyH_take (i := 11) (oi := Oper.mk (some 4) _ _ _ _ _) (v := ?_) rfl (by kernel_rfl) (by kernel_rfl) (by kernel_rfl) (fun _ _ _ h => h) (Or.inl ⟨by rfl, ?_⟩) (by assumption) ?_
              rotate_left
              · (intro w' hSw; (try dsimp only at hSw); go_simp; try with_reducible rfl)
              try simp only [Act.put, List.setIfInBounds_toArray, List.set_cons_zero, List.set_cons_succ]
              refine wpAnyH_done (by kernel_rfl) ?_ _
              refine NoPanic.normal ?_
              go_wp2_with fail
              go_ret
              exact ⟨A5, n5, c5, rfl, by rw [Hgl.out]; exact ho5', b5⟩
            · have Hq := Lib.hid (And.intro Rv.out (Hdrop.out adu rfl))
              clear hu0 hv0
              go_wp2_with (go_quiet (fail))
              generalize d + nq = q
              have t1 : nv - i ≤ cv := by omega
              have t2 : i ≤ cu := by omega
              have t3 : (i : Int) ≤ (nu : Int) := by omega
              have t4 : (0 : Int) ≤ (nv : Int) - (i : Int) := by omega
              have t5 : (nv : Int) - (i : Int) ≤ (cv : Int) := by omega
              have t6 : i ≤ nu := by omega
              have b1 : Below w.heap.size w (w.drewN (q + 1)) := bdrew (Below.refl _ _) (q + 1)
              have HJ := Lib.hid (show Calls Tryd.prog 63 #[.slice (some ⟨w.heap.size, 0, none⟩) 2 2] ((w.drewN (q + 1)).alloc (.cells #[.slice none 0 cv, .slice (some (adu.add i)) (nu - i) (cu - i)] 22)) (OutI (w.drewN (q + 1)) (v.take (nv - i) ++ u.drop i)) from rjoin2 (w := w.drewN (q + 1)) (Hq.out.1.below b1) (Hq.out.2.below b1) b1.size (by have := Hn1.out; omega) (by have := Hn2.out; omega) Hn3.out)
              have s4 : ((nv : Int) - (i : Int)).toNat = 0 := by omega
              have s5 : IntKind.i64.wrap ((nv : Int) - (i : Int)) = (nv : Int) - (i : Int) := by rw [IntKind.wrap_i64]; omega
              refine wp_region_noPanic ?_
              refine wp_region_held_drew (S := fun w' => Below w.heap.size w w') (by kernel_rfl) (bdrew (Below.refl _ _) q).drew (fun hHeld => ?_)
              have b0 : Below w.heap.size w (w.drewN q).drew := hHeld
              refine wpAnyH_take (i := 0) (oi := Oper.mk (some 34) _ _ _ _ _) (v := ?_) rfl (by kernel_rfl) (by kernel_rfl) (by kernel_rfl) (fun _ _ _ h => h) (Or.inl ⟨by rfl, ?_⟩) (by assumption) ?_
              rotate_left
              · (intro w' hSw; (try dsimp only at hSw); go_simp; try with_reducible rfl)
              try simp only [Act.put, List.setIfInBounds_toArray, List.set_cons_zero, List.set_cons_succ]
              refine wpAnyH_take (i := 1) (oi := Oper.mk (some 35) _ _ _ _ _) (v := ?_) rfl (by kernel_rfl) (by kernel_rfl) (by kernel_rfl) (fun _ _ _ h => h) (Or.inl ⟨by rfl, ?_⟩) (by assumption) ?_
              rotate_left
              · (intro w' hSw; (try dsimp only at hSw); go_simp; try with_reducible rfl)
              try simp only [Act.put, List.setIfInBounds_toArray, List.set_cons_zero, List.set_cons_succ]
              refine wpAnyH_take (i := 2) (oi := Oper.mk (some 36) _ _ _ _ _) (v := ?_) rfl (by kernel_rfl) (by kernel_rfl) (by kernel_rfl) (fun _ _ _ h => h) (Or.inl ⟨by rfl, ?_⟩) (by assumption) ?_
              rotate_left
              · (intro w' hSw; (try dsimp only at hSw); go_simp; try with_reducible rfl)
              try simp only [Act.put, List.setIfInBounds_toArray, List.set_cons_zero, List.set_cons_succ]
              refine wpAnyH_take (i := 3) (oi := Oper.mk (some 37) _ _ _ _ _) (v := ?_) rfl (by kernel_rfl) (by kernel_rfl) (by kernel_rfl) (fun _ _ _ h => h) (Or.inl ⟨by rfl, ?_⟩) (by assumption) ?_
              rotate_left
              · (intro w' hSw; (try dsimp only at hSw); go_simp; try with_reducible rfl)
              try simp only [Act.put, List.setIfInBounds_toArray, List.set_cons_zero, List.set_cons_succ]
              refine wpAnyH_take (i := 4) (oi := Oper.mk (some 38) _ _ _ _ _) (v := ?_) rfl (by kernel_rfl) (by kernel_rfl) (by kernel_rfl) (fun _ _ _ h => h) (Or.inl ⟨by rfl, ?_⟩) (by assumption) ?_
              rotate_left
              · (intro w' hSw; (try dsimp only at hSw); go_simp; try with_reducible rfl)
              try simp only [Act.put, List.setIfInBounds_toArray, List.set_cons_zero, List.set_cons_succ]
              refine wpAnyH_take (i := 5) (oi := Oper.mk (some 39) _ _ _ _ _) (v := ?_) rfl (by kernel_rfl) (by kernel_rfl) (by kernel_rfl) (fun _ _ _ h => h) (Or.inl ⟨by rfl, ?_⟩) (by assumption) ?_
              rotate_left
              · (intro w' hSw; (try dsimp only at hSw); go_simp; try with_reducible rfl)
              try simp only [Act.put, List.setIfInBounds_toArray, List.set_cons_zero, List.set_cons_succ]
              refine wpAnyH_take (i := 6) (oi := Oper.mk (some 40) _ _ _ _ _) (v := ?_) rfl (by kernel_rfl) (by kernel_rfl) (by kernel_rfl) (fun _ _ _ h => h) (Or.inl ⟨by rfl, ?_⟩) (by assumption) ?_
              rotate_left
              · (intro w' hSw; (try dsimp only at hSw); go_simp; try with_reducible rfl)
              try simp only [Act.put, List.setIfInBounds_toArray, List.set_cons_zero, List.set_cons_succ]
              refine wpAnyH_take (i := 7) (oi := Oper.mk (some 41) _ _ _ _ _) (v := ?_) rfl (by kernel_rfl) (by kernel_rfl) (by kernel_rfl) (fun _ _ _ h => h) (Or.inl ⟨by rfl, ?_⟩) (by assumption) ?_
              rotate_left
              · (intro w' hSw; (try dsimp only at hSw); go_simp; try with_reducible rfl)
              try simp only [Act.put, List.setIfInBounds_toArray, List.set_cons_zero, List.set_cons_succ]
              refine wpAnyH_take (i := 8) (oi := Oper.mk (some 42) _ _ _ _ _) (v := ?_) rfl (by kernel_rfl) (by kernel_rfl) (by kernel_rfl) (fun _ _ _ h => h) (Or.inl ⟨by rfl, ?_⟩) (by assumption) ?_
              rotate_left
              · (intro w' hSw; (try dsimp only at hSw); go_simp; try with_reducible rfl)
              try simp only [Act.put, List.setIfInBounds_toArray, List.set_cons_zero, List.set_cons_succ]
              refine wpAnyH_ready (rs := [9]) (by kernel_rfl) (by simp) ?_
              refine AllReadyH.cons (o := Oper.mk (some 43) _ _ _ _ _) rfl (fun K hK => ?_) AllReadyH.nil
              go_simp
              try simp only []
              refine hK.out _ _ (b1.alloc b1.size (.cells #[.slice none 0 cv, .slice (some (adu.add i)) (nu - i) (cu - i)] 22)) (fun _ => ?_)
              clear hK K hHeld
              have hHeld := (b1.alloc b1.size (.cells #[.slice none 0 cv, .slice (some (adu.add i)) (nu - i) (cu - i)] 22))
              try simp only [Act.put, List.setIfInBounds_toArray, List.set_cons_zero, List.set_cons_succ]
              refine wpAnyH_ready (rs := [10]) (by kernel_rfl) (by simp) ?_
              refine AllReadyH.cons (o := Oper.mk (some 44) _ _ _ _ _) rfl (fun K hK => ?_) AllReadyH.nil
              go_simp
              refine HJ.out.mono ?_
              rintro e w5 ⟨A5, n5, c5, rfl, ho5, hb5⟩
              try simp only []
              have b5 : Below w.heap.size w w5 := b1.trans (hb5.mono b1.size)
              have ho5' : OwnI w5 w.heap.size (.slice A5 n5 c5) (v.take (nv - i) ++ u.drop i) := ho5.lower b1.size
              clear hb5 ho5
              refine hK.out _ _ b5 (fun _ => ?_)
              clear hK K hHeld
              have hHeld := b5
              try simp only [Act.put, List.setIfInBounds_toArray, List.set_cons_zero, List.set_cons_succ]
              refine wpAnyH_take (i := 11) (oi := Oper.mk (some 4) _ _ _ _ _) (v := ?_) rfl (by kernel_rfl) (by kernel_rfl) (by kernel_rfl) (fun _ _ _ h => h) (Or.inl ⟨by rfl, ?_⟩) (by assumption) ?_
              rotate_left
              · (intro w' hSw; (try dsimp only at hSw); go_simp; try with_reducible rfl)
              try simp only [Act.put, List.setIfInBounds_toArray, List.set_cons_zero, List.set_cons_succ]
              refine wpAnyH_done (by kernel_rfl) ?_ _
              refine NoPanic.normal ?_
              go_wp2_with fail
              go_ret
              exact ⟨A5, n5, c5, rfl, by rw [Hgl.out]; exact ho5', b5⟩
        · rcases Au with _ | adu
          · have Hq := Lib.hid (And.intro Rv.out (Hempty.out (by have := hu0 (by trivial); omega) none))
            clear hu0 hv0
            go_wp2_with (go_quiet (fail))
            generalize d + nq = q
            have t1 : nv - i ≤ cv := by omega
            have t2 : i ≤ cu := by omega
            have t3 : (i : Int) ≤ (nu : Int) := by omega
            have t4 : (0 : Int) ≤ (nv : Int) - (i : Int) := by omega
            have t5 : (nv : Int) - (i : Int) ≤ (cv : Int) := by omega
            have t6 : i ≤ nu := by omega
            have b1 : Below w.heap.size w (w.drewN (q + 1)) := bdrew (Below.refl _ _) (q + 1)
            have HJ := Lib.hid (show Calls Tryd.prog 63 #[.slice (some ⟨w.heap.size, 0, none⟩) 2 2] ((w.drewN (q + 1)).alloc (.cells #[.slice (some adv) 0 cv, .slice none (nu - i) (cu - i)] 22)) (OutI (w.drewN (q + 1)) (v.take (nv - i) ++ u.drop i)) from rjoin2 (w := w.drewN (q + 1)) (Hq.out.1.below b1) (Hq.out.2.below b1) b1.size (by have := Hn1.out; omega) (by have := Hn2.out; omega) Hn3.out)
            have s4 : ((nv : Int) - (i : Int)).toNat = 0 := by omega
            have s5 : IntKind.i64.wrap ((nv : Int) - (i : Int)) = (nv : Int) - (i : Int) := by rw [IntKind.wrap_i64]; omega
            refine wp_region_noPanic ?_
            refine wp_region_held_drew (S := fun w' => Below w.heap.size w w') (by kernel_rfl) (bdrew (Below.refl _ _) q).drew (fun hHeld => ?_)
            have b0 : Below w.heap.size w (w.drewN q).drew := hHeld
            refine wpAnyH_take (i := 0) (oi := Oper.mk (some 34) _ _ _ _ _) (v := ?_) rfl (by kernel_rfl) (by kernel_rfl) (by kernel_rfl) (fun _ _ _ h => h) (Or.inl ⟨by rfl, ?_⟩) (by assumption) ?_
            rotate_left
            · (intro w' hSw; (try dsimp only at hSw); go_simp; try with_reducible rfl)
            try simp only [Act.put, List.setIfInBounds_toArray, List.set_cons_zero, List.set_cons_succ]
            refine wpAnyH_take (i := 1) (oi := Oper.mk (some 35) _ _ _ _ _) (v := ?_) rfl (by kernel_rfl) (by kernel_rfl) (by kernel_rfl) (fun _ _ _ h => h) (Or.inl ⟨by rfl, ?_⟩) (by assumption) ?_
            rotate_left
            · (intro w' hSw; (try dsimp only at hSw); go_simp; try with_reducible rfl)
            try simp only [Act.put, List.setIfInBounds_toArray, List.set_cons_zero, List.set_cons_succ]
            refine wpAnyH_take (i := 2) (oi := Oper.mk (some 36) _ _ _ _ _) (v := ?_) rfl (by kernel_rfl) (by kernel_rfl) (by kernel_rfl) (fun _ _ _ h => h) (Or.inl ⟨by rfl, ?_⟩) (by assumption) ?_
            rotate_left
            · (intro w' hSw; (try dsimp only at hSw); go_simp; try with_reducible rfl)
            try simp only [Act.put, List.setIfInBounds_toArray, List.set_cons_zero, List.set_cons_succ]
            refine wpAnyH_take (i := 3) (oi := Oper.mk (some 37) _ _ _ _ _) (v := ?_) rfl (by kernel_rfl) (by kernel_rfl) (by kernel_rfl) (fun _ _ _ h => h) (Or.inl ⟨by rfl, ?_⟩) (by assumption) ?_
            rotate_left
            · (intro w' hSw; (try dsimp only at hSw); go_simp; try with_reducible rfl)
            try simp only [Act.put, List.setIfInBounds_toArray, List.set_cons_zero, List.set_cons_succ]
            refine wpAnyH_take (i := 4) (oi := Oper.mk (some 38) _ _ _ _ _) (v := ?_) rfl (by kernel_rfl) (by kernel_rfl) (by kernel_rfl) (fun _ _ _ h => h) (Or.inl ⟨by rfl, ?_⟩) (by assumption) ?_
            rotate_left
            · (intro w' hSw; (try dsimp only at hSw); go_simp; try with_reducible rfl)
            try simp only [Act.put, List.setIfInBounds_toArray, List.set_cons_zero, List.set_cons_succ]
            refine wpAnyH_take (i := 5) (oi := Oper.mk (some 39) _ _ _ _ _) (v := ?_) rfl (by kernel_rfl) (by kernel_rfl) (by kernel_rfl) (fun _ _ _ h => h) (Or.inl ⟨by rfl, ?_⟩) (by assumption) ?_
            rotate_left
            · (intro w' hSw; (try dsimp only at hSw); go_simp; try with_reducible rfl)
            try simp only [Act.put, List.setIfInBounds_toArray, List.set_cons_zero, List.set_cons_succ]
            refine wpAnyH_take (i := 6) (oi := Oper.mk (some 40) _ _ _ _ _) (v := ?_) rfl (by kernel_rfl) (by kernel_rfl) (by kernel_rfl) (fun _ _ _ h => h) (Or.inl ⟨by rfl, ?_⟩) (by assumption) ?_
            rotate_left
            · (intro w' hSw; (try dsimp only at hSw); go_simp; try with_reducible rfl)
            try simp only [Act.put, List.setIfInBounds_toArray, List.set_cons_zero, List.set_cons_succ]
            refine wpAnyH_take (i := 7) (oi := Oper.mk (some 41) _ _ _ _ _) (v := ?_) rfl (by kernel_rfl) (by kernel_rfl) (by kernel_rfl) (fun _ _ _ h => h) (Or.inl ⟨by rfl, ?_⟩) (by assumption) ?_
            rotate_left
            · (intro w' hSw; (try dsimp only at hSw); go_simp; try with_reducible rfl)
            try simp only [Act.put, List.setIfInBounds_toArray, List.set_cons_zero, List.set_cons_succ]
            refine wpAnyH_take (i := 8) (oi := Oper.mk (some 42) _ _ _ _ _) (v := ?_) rfl (by kernel_rfl) (by kernel_rfl) (by kernel_rfl) (fun _ _ _ h => h) (Or.inl ⟨by rfl, ?_⟩) (by assumption) ?_
            rotate_left
            · (intro w' hSw; (try dsimp only at hSw); go_simp; try with_reducible rfl)
            try simp only [Act.put, List.setIfInBounds_toArray, List.set_cons_zero, List.set_cons_succ]
            refine wpAnyH_ready (rs := [9]) (by kernel_rfl) (by simp) ?_
            refine AllReadyH.cons (o := Oper.mk (some 43) _ _ _ _ _) rfl (fun K hK => ?_) AllReadyH.nil
            go_simp
            try simp only []
            refine hK.out _ _ (b1.alloc b1.size (.cells #[.slice (some adv) 0 cv, .slice none (nu - i) (cu - i)] 22)) (fun _ => ?_)
            clear hK K hHeld
            have hHeld := (b1.alloc b1.size (.cells #[.slice (some adv) 0 cv, .slice none (nu - i) (cu - i)] 22))
            try simp only [Act.put, List.setIfInBounds_toArray, List.set_cons_zero, List.set_cons_succ]
            refine wpAnyH_ready (rs := [10]) (by kernel_rfl) (by simp) ?_
            refine AllReadyH.cons (o := Oper.mk (some 44) _ _ _ _ _) rfl (fun K hK => ?_) AllReadyH.nil
            go_simp
            refine HJ.out.mono ?_
            rintro e w5 ⟨A5, n5, c5, rfl, ho5, hb5⟩
            try simp only []
            have b5 : Below w.heap.size w w5 := b1.trans (hb5.mono b1.size)
            have ho5' : OwnI w5 w.heap.size (.slice A5 n5 c5) (v.take (nv - i) ++ u.drop i) := ho5.lower b1.size
            clear hb5 ho5
            refine hK.out _ _ b5 (fun _ => ?_)
            clear hK K hHeld
            have hHeld := b5
            try simp only [Act.put, List.setIfInBounds_toArray, List.set_cons_zero, List.set_cons_succ]
            refine wpAnyH_take (i := 11) (oi := Oper.mk (some 4) _ _ _ _ _) (v := ?_) rfl (by kernel_rfl) (by kernel_rfl) (by kernel_rfl) (fun _ _ _ h => h) (Or.inl ⟨by rfl, ?_⟩) (by assumption) ?_
            rotate_left
            · (intro w' hSw; (try dsimp only at hSw); go_simp; try with_reducible rfl)
            try simp only [Act.put, List.setIfInBounds_toArray, List.set_cons_zero, List.set_cons_succ]
            refine wpAnyH_done (by kernel_rfl) ?_ _
            refine NoPanic.normal ?_
            go_wp2_with fail
            go_ret
            exact ⟨A5, n5, c5, rfl, by rw [Hgl.out]; exact ho5', b5⟩
          · by_cases hci : cu = i
            · have hci2 := hci.symm
              have Hq := Lib.hid (And.intro Rv.out (Hempty.out (by omega) (some adu)))
              have hcu' : nu = i := by omega
              clear hu0 hv0 hci2
              go_wp2_with (go_quiet (fail))
              generalize d + nq = q
              have t1 : nv - i ≤ cv := by omega
              have t2 : i ≤ cu := by omega
              have t3 : (i : Int) ≤ (nu : Int) := by omega
              have t4 : (0 : Int) ≤ (nv : Int) - (i : Int) := by omega
              have t5 : (nv : Int) - (i : Int) ≤ (cv : Int) := by omega
              have t6 : i ≤ nu := by omega
              have b1 : Below w.heap.size w (w.drewN (q + 1)) := bdrew (Below.refl _ _) (q + 1)
              have HJ := Lib.hid (show Calls Tryd.prog 63 #[.slice (some ⟨w.heap.size, 0, none⟩) 2 2] ((w.drewN (q + 1)).alloc (.cells #[.slice (some adv) 0 cv, .slice (some adu) 0 0] 22)) (OutI (w.drewN (q + 1)) (v.take (nv - i) ++ u.drop i)) from rjoin2 (w := w.drewN (q + 1)) (Hq.out.1.below b1) (Hq.out.2.below b1) b1.size (by have := Hn1.out; omega) (by have := Hn2.out; omega) Hn3.out)
              have s4 : ((nv : Int) - (i : Int)).toNat = 0 := by omega
              have s5 : IntKind.i64.wrap ((nv : Int) - (i : Int)) = (nv : Int) - (i : Int) := by rw [IntKind.wrap_i64]; omega
              refine wp_region_noPanic ?_
              refine wp_region_held_drew (S := fun w' => Below w.heap.size w w') (by kernel_rfl) (bdrew (Below.refl _ _) q).drew (fun hHeld => ?_)
              have b0 : Below w.heap.size w (w.drewN q).drew := hHeld
              refine wpAnyH_take (i := 0) (oi := Oper.mk (some 34) _ _ _ _ _) (v := ?_) rfl (by kernel_rfl) (by kernel_rfl) (by kernel_rfl) (fun _ _ _ h => h) (Or.inl ⟨by rfl, ?_⟩) (by assumption) ?_
              rotate_left
              · (intro w' hSw; (try dsimp only at hSw); go_simp; try with_reducible rfl)
              try simp only [Act.put, List.setIfInBounds_toArray, List.set_cons_zero, List.set_cons_succ]
              refine wpAnyH_take (i := 1) (oi := Oper.mk (some 35) _ _ _ _ _) (v := ?_) rfl (by kernel_rfl) (by kernel_rfl) (by kernel_rfl) (fun _ _ _ h => h) (Or.inl ⟨by rfl, ?_⟩) (by assumption) ?_
              rotate_left
              · (intro w' hSw; (try dsimp only at hSw); go_simp; try with_reducible rfl)
              try simp only [Act.put, List.setIfInBounds_toArray, List.set_cons_zero, List.set_cons_succ]
              refine wpAnyH_take (i := 2) (oi := Oper.mk (some 36) _ _ _ _ _) (v := ?_) rfl (by kernel_rfl) (by kernel_rfl) (by kernel_rfl) (fun _ _ _ h => h) (Or.inl ⟨by rfl, ?_⟩) (by assumption) ?_
              rotate_left
              · (intro w' hSw; (try dsimp only at hSw); go_simp; try with_reducible rfl)
              try simp only [Act.put, List.setIfInBounds_toArray, List.set_cons_zero, List.set_cons_succ]
              refine wpAnyH_take (i := 3) (oi := Oper.mk (some 37) _ _ _ _ _) (v := ?_) rfl (by kernel_rfl) (by kernel_rfl) (by kernel_rfl) (fun _ _ _ h => h) (Or.inl ⟨by rfl, ?_⟩) (by assumption) ?_
              rotate_left
              · (intro w' hSw; (try dsimp only at hSw); go_simp; try with_reducible rfl)
              try simp only [Act.put, List.setIfInBounds_toArray, List.set_cons_zero, List.set_cons_succ]
              refine wpAnyH_take (i := 4) (oi := Oper.mk (some 38) _ _ _ _ _) (v := ?_) rfl (by kernel_rfl) (by kernel_rfl) (by kernel_rfl) (fun _ _ _ h => h) (Or.inl ⟨by rfl, ?_⟩) (by assumption) ?_
              rotate_left
              · (intro w' hSw; (try dsimp only at hSw); go_simp; try with_reducible rfl)
              try simp only [Act.put, List.setIfInBounds_toArray, List.set_cons_zero, List.set_cons_succ]
              refine wpAnyH_take (i := 5) (oi := Oper.mk (some 39) _ _ _ _ _) (v := ?_) rfl (by kernel_rfl) (by kernel_rfl) (by kernel_rfl) (fun _ _ _ h => h) (Or.inl ⟨by rfl, ?_⟩) (by assumption) ?_
              rotate_left
              · (intro w' hSw; (try dsimp only at hSw); go_simp; try with_reducible rfl)
              try simp only [Act.put, List.setIfInBounds_toArray, List.set_cons_zero, List.set_cons_succ]
              refine wpAnyH_take (i := 6) (oi := Oper.mk (some 40) _ _ _ _ _) (v := ?_) rfl (by kernel_rfl) (by kernel_rfl) (by kernel_rfl) (fun _ _ _ h => h) (Or.inl ⟨by rfl, ?_⟩) (by assumption) ?_
              rotate_left
              · (intro w' hSw; (try dsimp only at hSw); go_simp; try with_reducible rfl)
              try simp only [Act.put, List.setIfInBounds_toArray, List.set_cons_zero, List.set_cons_succ]
              refine wpAnyH_take (i := 7) (oi := Oper.mk (some 41) _ _ _ _ _) (v := ?_) rfl (by kernel_rfl) (by kernel_rfl) (by kernel_rfl) (fun _ _ _ h => h) (Or.inl ⟨by rfl, ?_⟩) (by assumption) ?_
              rotate_left
              · (intro w' hSw; (try dsimp only at hSw); go_simp; try with_reducible rfl)
              try simp only [Act.put, List.setIfInBounds_toArray, List.set_cons_zero, List.set_cons_succ]
              refine wpAnyH_take (i := 8) (oi := Oper.mk (some 42) _ _ _ _ _) (v := ?_) rfl (by kernel_rfl) (by kernel_rfl) (by kernel_rfl) (fun _ _ _ h => h) (Or.inl ⟨by rfl, ?_⟩) (by assumption) ?_
              rotate_left
              · (intro w' hSw; (try dsimp only at hSw); go_simp; try with_reducible rfl)
              try simp only [Act.put, List.setIfInBounds_toArray, List.set_cons_zero, List.set_cons_succ]
              refine wpAnyH_ready (rs := [9]) (by kernel_rfl) (by simp) ?_
              refine AllReadyH.cons (o := Oper.mk (some 43) _ _ _ _ _) rfl (fun K hK => ?_) AllReadyH.nil
              go_simp
              try simp only []
              refine hK.out _ _ (b1.alloc b1.size (.cells #[.slice (some adv) 0 cv, .slice (some adu) 0 0] 22)) (fun _ => ?_)
              clear hK K hHeld
              have hHeld := (b1.alloc b1.size (.cells #[.slice (some adv) 0 cv, .slice (some adu) 0 0] 22))
              try simp only [Act.put, List.setIfInBounds_toArray, List.set_cons_zero, List.set_cons_succ]
              refine wpAnyH_ready (rs := [10]) (by kernel_rfl) (by simp) ?_
              refine AllReadyH.cons (o := Oper.mk (some 44) _ _ _ _ _) rfl (fun K hK => ?_) AllReadyH.nil
              go_simp
              refine HJ.out.mono ?_
              rintro e w5 ⟨A5, n5, c5, rfl, ho5, hb5⟩
              try simp only []
              have b5 : Below w.heap.size w w5 := b1.trans (hb5.mono b1.size)
              have ho5' : OwnI w5 w.heap.size (.slice A5 n5 c5) (v.take (nv - i) ++ u.drop i) := ho5.lower b1.size
              clear hb5 ho5
              refine hK.out _ _ b5 (fun _ => ?_)
              clear hK K hHeld
              have hHeld := b5
              try simp only [Act.put, List.setIfInBounds_toArray, List.set_cons_zero, List.set_cons_succ]
              refine wpAnyH_take (i := 11) (oi := Oper.mk (some 4) _ _ _ _ _) (v := ?_) rfl (by kernel_rfl) (by kernel_rfl) (by kernel_rfl) (fun _ _ _ h => h) (Or.inl ⟨by rfl, ?_⟩) (by assumption) ?_
              rotate_left
              · (intro w' hSw; (try dsimp only at hSw); go_simp; try with_reducible rfl)
              try simp only [Act.put, List.setIfInBounds_toArray, List.set_cons_zero, List.set_cons_succ]
              refine wpAnyH_done (by kernel_rfl) ?_ _
              refine NoPanic.normal ?_
              go_wp2_with fail
              go_ret
              exact ⟨A5, n5, c5, rfl, by rw [Hgl.out]; exact ho5', b5⟩
            · have Hq := Lib.hid (And.intro Rv.out (Hdrop.out adu rfl))
              clear hu0 hv0
              go_wp2_with (go_quiet (fail))
              generalize d + nq = q
              have t1 : nv - i ≤ cv := by omega
              have t2 : i ≤ cu := by omega
              have t3 : (i : Int) ≤ (nu : Int) := by omega
              have t4 : (0 : Int) ≤ (nv : Int) - (i : Int) := by omega
              have t5 : (nv : Int) - (i : Int) ≤ (cv : Int) := by omega
              have t6 : i ≤ nu := by omega
              have b1 : Below w.heap.size w (w.drewN (q + 1)) := bdrew (Below.refl _ _) (q + 1)
              have HJ := Lib.hid (show Calls Tryd.prog 63 #[.slice (some ⟨w.heap.size, 0, none⟩) 2 2] ((w.drewN (q + 1)).alloc (.cells #[.slice (some adv) 0 cv, .slice (some (adu.add i)) (nu - i) (cu - i)] 22)) (OutI (w.drewN (q + 1)) (v.take (nv - i) ++ u.drop i)) from rjoin2 (w := w.drewN (q + 1)) (Hq.out.1.below b1) (Hq.out.2.below b1) b1.size (by have := Hn1.out; omega) (by have := Hn2.out; omega) Hn3.out)
              have s4 : ((nv : Int) - (i : Int)).toNat = 0 := by omega
              have s5 : IntKind.i64.wrap ((nv : Int) - (i : Int)) = (nv : Int) - (i : Int) := by rw [IntKind.wrap_i64]; omega
              refine wp_region_noPanic ?_
              refine wp_region_held_drew (S := fun w' => Below w.heap.size w w') (by kernel_rfl) (bdrew (Below.refl _ _) q).drew (fun hHeld => ?_)
              have b0 : Below w.heap.size w (w.drewN q).drew := hHeld
              refine wpAnyH_take (i := 0) (oi := Oper.mk (some 34) _ _ _ _ _) (v := ?_) rfl (by kernel_rfl) (by kernel_rfl) (by kernel_rfl) (fun _ _ _ h => h) (Or.inl ⟨by rfl, ?_⟩) (by assumption) ?_
              rotate_left
              · (intro w' hSw; (try dsimp only at hSw); go_simp; try with_reducible rfl)
              try simp only [Act.put, List.setIfInBounds_toArray, List.set_cons_zero, List.set_cons_succ]
              refine wpAnyH_take (i := 1) (oi := Oper.mk (some 35) _ _ _ _ _) (v := ?_) rfl (by kernel_rfl) (by kernel_rfl) (by kernel_rfl) (fun _ _ _ h => h) (Or.inl ⟨by rfl, ?_⟩) (by assumption) ?_
              rotate_left
              · (intro w' hSw; (try dsimp only at hSw); go_simp; try with_reducible rfl)
              try simp only [Act.put, List.setIfInBounds_toArray, List.set_cons_zero, List.set_cons_succ]
              refine wpAnyH_take (i := 2) (oi := Oper.mk (some 36) _ _ _ _ _) (v := ?_) rfl (by kernel_rfl) (by kernel_rfl) (by kernel_rfl) (fun _ _ _ h => h) (Or.inl ⟨by rfl, ?_⟩) (by assumption) ?_
              rotate_left
              · (intro w' hSw; (try dsimp only at hSw); go_simp; try with_reducible rfl)
              try simp only [Act.put, List.setIfInBounds_toArray, List.set_cons_zero, List.set_cons_succ]
              refine wpAnyH_take (i := 3) (oi := Oper.mk (some 37) _ _ _ _ _) (v := ?_) rfl (by kernel_rfl) (by kernel_rfl) (by kernel_rfl) (fun _ _ _ h => h) (Or.inl ⟨by rfl, ?_⟩) (by assumption) ?_
              rotate_left
              · (intro w' hSw; (try dsimp only at hSw); go_simp; try with_reducible rfl)
              try simp only [Act.put, List.setIfInBounds_toArray, List.set_cons_zero, List.set_cons_succ]
              refine wpAnyH_take (i := 4) (oi := Oper.mk (some 38) _ _ _ _ _) (v := ?_) rfl (by kernel_rfl) (by kernel_rfl) (by kernel_rfl) (fun _ _ _ h => h) (Or.inl ⟨by rfl, ?_⟩) (by assumption) ?_
              rotate_left
              · (intro w' hSw; (try dsimp only at hSw); go_simp; try with_reducible rfl)
              try simp only [Act.put, List.setIfInBounds_toArray, List.set_cons_zero, List.set_cons_succ]
              refine wpAnyH_take (i := 5) (oi := Oper.mk (some 39) _ _ _ _ _) (v := ?_) rfl (by kernel_rfl) (by kernel_rfl) (by kernel_rfl) (fun _ _ _ h => h) (Or.inl ⟨by rfl, ?_⟩) (by assumption) ?_
              rotate_left
              · (intro w' hSw; (try dsimp only at hSw); go_simp; try with_reducible rfl)
              try simp only [Act.put, List.setIfInBounds_toArray, List.set_cons_zero, List.set_cons_succ]
              refine wpAnyH_take (i := 6) (oi := Oper.mk (some 40) _ _ _ _ _) (v := ?_) rfl (by kernel_rfl) (by kernel_rfl) (by kernel_rfl) (fun _ _ _ h => h) (Or.inl ⟨by rfl, ?_⟩) (by assumption) ?_
              rotate_left
              · (intro w' hSw; (try dsimp only at hSw); go_simp; try with_reducible rfl)
              try simp only [Act.put, List.setIfInBounds_toArray, List.set_cons_zero, List.set_cons_succ]
              refine wpAnyH_take (i := 7) (oi := Oper.mk (some 41) _ _ _ _ _) (v := ?_) rfl (by kernel_rfl) (by kernel_rfl) (by kernel_rfl) (fun _ _ _ h => h) (Or.inl ⟨by rfl, ?_⟩) (by assumption) ?_
              rotate_left
              · (intro w' hSw; (try dsimp only at hSw); go_simp; try with_reducible rfl)
              try simp only [Act.put, List.setIfInBounds_toArray, List.set_cons_zero, List.set_cons_succ]
              refine wpAnyH_take (i := 8) (oi := Oper.mk (some 42) _ _ _ _ _) (v := ?_) rfl (by kernel_rfl) (by kernel_rfl) (by kernel_rfl) (fun _ _ _ h => h) (Or.inl ⟨by rfl, ?_⟩) (by assumption) ?_
              rotate_left
              · (intro w' hSw; (try dsimp only at hSw); go_simp; try with_reducible rfl)
              try simp only [Act.put, List.setIfInBounds_toArray, List.set_cons_zero, List.set_cons_succ]
              refine wpAnyH_ready (rs := [9]) (by kernel_rfl) (by simp) ?_
              refine AllReadyH.cons (o := Oper.mk (some 43) _ _ _ _ _) rfl (fun K hK => ?_) AllReadyH.nil
              go_simp
              try simp only []
              refine hK.out _ _ (b1.alloc b1.size (.cells #[.slice (some adv) 0 cv, .slice (some (adu.add i)) (nu - i) (cu - i)] 22)) (fun _ => ?_)
              clear hK K hHeld
              have hHeld := (b1.alloc b1.size (.cells #[.slice (some adv) 0 cv, .slice (some (adu.add i)) (nu - i) (cu - i)] 22))
              try simp only [Act.put, List.setIfInBounds_toArray, List.set_cons_zero, List.set_cons_succ]
              refine wpAnyH_ready (rs := [10]) (by kernel_rfl) (by simp) ?_
              refine AllReadyH.cons (o := Oper.mk (some 44) _ _ _ _ _) rfl (fun K hK => ?_) AllReadyH.nil
              go_simp
              refine HJ.out.mono ?_
              rintro e w5 ⟨A5, n5, c5, rfl, ho5, hb5⟩
              try simp only []
              have b5 : Below w.heap.size w w5 := b1.trans (hb5.mono b1.size)
              have ho5' : OwnI w5 w.heap.size (.slice A5 n5 c5) (v.take (nv - i) ++ u.drop i) := ho5.lower b1.size
              clear hb5 ho5
              refine hK.out _ _ b5 (fun _ => ?_)
              clear hK K hHeld
              have hHeld := b5
              try simp only [Act.put, List.setIfInBounds_toArray, List.set_cons_zero, List.set_cons_succ]
              refine wpAnyH_take (i := 11) (oi := Oper.mk (some 4) _ _ _ _ _) (v := ?_) rfl (by kernel_rfl) (by kernel_rfl) (by kernel_rfl) (fun _ _ _ h => h) (Or.inl ⟨by rfl, ?_⟩) (by assumption) ?_
              rotate_left
              · (intro w' hSw; (try dsimp only at hSw); go_simp; try with_reducible rfl)
              try simp only [Act.put, List.setIfInBounds_toArray, List.set_cons_zero, List.set_cons_succ]
              refine wpAnyH_done (by kernel_rfl) ?_ _
              refine NoPanic.normal ?_
              go_wp2_with fail
              go_ret
              exact ⟨A5, n5, c5, rfl, by rw [Hgl.out]; exact ho5', b5⟩
      · have hi1 : (i : Int) < (nv : Int) := by omega
        have hi2 : (nu : Int) ≤ (i : Int) := by omega
        have hi2' : ¬ (i : Int) < (nu : Int) := by omega
        rcases Av with _ | adv
        · rcases Au with _ | adu
          · have Hq := Lib.hid (And.intro Rv.out (Hempty.out (by have := hu0 (by trivial); omega) none))
            clear hu0 hv0
            go_wp2_with (go_quiet (fail))
            generalize d + nq = q
            have t1 : nv - i ≤ cv := by omega
            have t2 : i ≤ cu := by omega
            have t3 : (i : Int) ≤ (nu : Int) := by omega
            have t4 : (0 : Int) ≤ (nv : Int) - (i : Int) := by omega
            have t5 : (nv : Int) - (i : Int) ≤ (cv : Int) := by omega
            have t6 : i ≤ nu := by omega
            have b1 : Below w.heap.size w (w.drewN (q + 1)) := bdrew (Below.refl _ _) (q + 1)
            have HJ := Lib.hid (show Calls Tryd.prog 63 #[.slice (some ⟨w.heap.size, 0, none⟩) 2 2] ((w.drewN (q + 1)).alloc (.cells #[.slice none (nv - i) cv, .slice none 0 (cu - i)] 22)) (OutI (w.drewN (q + 1)) (v.take (nv - i) ++ u.drop i)) from rjoin2 (w := w.drewN (q + 1)) (Hq.out.1.below b1) (Hq.out.2.below b1) b1.size (by have := Hn1.out; omega) (by have := Hn2.out; omega) Hn3.out)
            have s4 : ((nv : Int) - (i : Int)).toNat = (nv - i) := by omega
            have s5 : IntKind.i64.wrap ((nv : Int) - (i : Int)) = (nv : Int) - (i : Int) := by rw [IntKind.wrap_i64]; omega
            refine wp_region_noPanic ?_
            refine wp_region_held_drew (S := fun w' => Below w.heap.size w w') (by kernel_rfl) (bdrew (Below.refl _ _) q).drew (fun hHeld => ?_)
            have b0 : Below w.heap.size w (w.drewN q).drew := hHeld
            refine wpAnyH_take (i := 0) (oi := Oper.mk (some 34) _ _ _ _ _) (v := ?_) rfl (by kernel_rfl) (by kernel_rfl) (by kernel_rfl) (fun _ _ _ h => h) (Or.inl ⟨by rfl, ?_⟩) (by assumption) ?_
            rotate_left
            · (intro w' hSw; (try dsimp only at hSw); go_simp; try with_reducible rfl)
            try simp only [Act.put, List.setIfInBounds_toArray, List.set_cons_zero, List.set_cons_succ]
            refine wpAnyH_take (i := 1) (oi := Oper.mk (some 35) _ _ _ _ _) (v := ?_) rfl (by kernel_rfl) (by kernel_rfl) (by kernel_rfl) (fun _ _ _ h => h) (Or.inl ⟨by rfl, ?_⟩) (by assumption) ?_
            rotate_left
            · (intro w' hSw; (try dsimp only at hSw); go_simp; try with_reducible rfl)
            try simp only [Act.put, List.setIfInBounds_toArray, List.set_cons_zero, List.set_cons_succ]
            refine wpAnyH_take (i := 2) (oi := Oper.mk (some 36) _ _ _ _ _) (v := ?_) rfl (by kernel_rfl) (by kernel_rfl) (by kernel_rfl) (fun _ _ _ h => h) (Or.inl ⟨by rfl, ?_⟩) (by assumption) ?_
            rotate_left
            · (intro w' hSw; (try dsimp only at hSw); go_simp; try with_reducible rfl)
            try simp only [Act.put, List.setIfInBounds_toArray, List.set_cons_zero, List.set_cons_succ]
            refine wpAnyH_take (i := 3) (oi := Oper.mk (some 37) _ _ _ _ _) (v := ?_) rfl (by kernel_rfl) (by kernel_rfl) (by kernel_rfl) (fun _ _ _ h => h) (Or.inl ⟨by rfl, ?_⟩) (by assumption) ?_
            rotate_left
            · (intro w' hSw; (try dsimp only at hSw); go_simp; try with_reducible rfl)
            try simp only [Act.put, List.setIfInBounds_toArray, List.set_cons_zero, List.set_cons_succ]
            refine wpAnyH_take (i := 4) (oi := Oper.mk (some 38) _ _ _ _ _) (v := ?_) rfl (by kernel_rfl) (by kernel_rfl) (by kernel_rfl) (fun _ _ _ h => h) (Or.inl ⟨by rfl, ?_⟩) (by assumption) ?_
            rotate_left
            · (intro w' hSw; (try dsimp only at hSw); go_simp; try with_reducible rfl)
            try simp only [Act.put, List.setIfInBounds_toArray, List.set_cons_zero, List.set_cons_succ]
            refine wpAnyH_take (i := 5) (oi := Oper.mk (some 39) _ _ _ _ _) (v := ?_) rfl (by kernel_rfl) (by kernel_rfl) (by kernel_rfl) (fun _ _ _ h => h) (Or.inl ⟨by rfl, ?_⟩) (by assumption) ?_
            rotate_left
            · (intro w' hSw; (try dsimp only at hSw); go_simp; try with_reducible rfl)
            try simp only [Act.put, List.setIfInBounds_toArray, List.set_cons_zero, List.set_cons_succ]
            refine wpAnyH_take (i := 6) (oi := Oper.mk (some 40) _ _ _ _ _) (v := ?_) rfl (by kernel_rfl) (by kernel_rfl) (by kernel_rfl) (fun _ _ _ h => h) (Or.inl ⟨by rfl, ?_⟩) (by assumption) ?_
            rotate_left
            · (intro w' hSw; (try dsimp only at hSw); go_simp; try with_reducible rfl)
            try simp only [Act.put, List.setIfInBounds_toArray, List.set_cons_zero, List.set_cons_succ]
            refine wpAnyH_take (i := 7) (oi := Oper.mk (some 41) _ _ _ _ _) (v := ?_) rfl (by kernel_rfl) (by kernel_rfl) (by kernel_rfl) (fun _ _ _ h => h) (Or.inl ⟨by rfl, ?_⟩) (by assumption) ?_
            rotate_left
            · (intro w' hSw; (try dsimp only at hSw); go_simp; try with_reducible rfl)
            try simp only [Act.put, List.setIfInBounds_toArray, List.set_cons_zero, List.set_cons_succ]
            refine wpAnyH_take (i := 8) (oi := Oper.mk (some 42) _ _ _ _ _) (v := ?_) rfl (by kernel_rfl) (by kernel_rfl) (by kernel_rfl) (fun _ _ _ h => h) (Or.inl ⟨by rfl, ?_⟩) (by assumption) ?_
            rotate_left
            · (intro w' hSw; (try dsimp only at hSw); go_simp; try with_reducible rfl)
            try simp only [Act.put, List.setIfInBounds_toArray, List.set_cons_zero, List.set_cons_succ]
            refine wpAnyH_ready (rs := [9]) (by kernel_rfl) (by simp) ?_
            refine AllReadyH.cons (o := Oper.mk (some 43) _ _ _ _ _) rfl (fun K hK => ?_) AllReadyH.nil
            go_simp
            try simp only []
            refine hK.out _ _ (b1.alloc b1.size (.cells #[.slice none (nv - i) cv, .slice none 0 (cu - i)] 22)) (fun _ => ?_)
            clear hK K hHeld
            have hHeld := (b1.alloc b1.size (.cells #[.slice none (nv - i) cv, .slice none 0 (cu - i)] 22))
            try simp only [Act.put, List.setIfInBounds_toArray, List.set_cons_zero, List.set_cons_succ]
            refine wpAnyH_ready (rs := [10]) (by kernel_rfl) (by simp) ?_
            refine AllReadyH.cons (o := Oper.mk (some 44) _ _ _ _ _) rfl (fun K hK => ?_) AllReadyH.nil
            go_simp
            refine HJ.out.mono ?_
            rintro e w5 ⟨A5, n5, c5, rfl, ho5, hb5⟩
            try simp only []
            have b5 : Below w.heap.size w w5 := b1.trans (hb5.mono b1.size)
            have ho5' : OwnI w5 w.heap.size (.slice A5 n5 c5) (v.take (nv - i) ++ u.drop i) := ho5.lower b1.size
            clear hb5 ho5
            refine hK.out _ _ b5 (fun _ => ?_)
            clear hK K hHeld
            have hHeld := b5
            try simp only [Act.put, List.setIfInBounds_toArray, List.set_cons_zero, List.set_cons_succ]
            refine wpAnyH_take (i := 11) (oi := Oper.mk (some 4) _ _ _ _ _) (v := ?_) rfl (by kernel_rfl) (by kernel_rfl) (by kernel_rfl) (fun _ _ _ h => h) (Or.inl ⟨by rfl, ?_⟩) (by assumption) ?_
            rotate_left
            · (intro w' hSw; (try dsimp only at hSw); go_simp; try with_reducible rfl)
            try simp only [Act.put, List.setIfInBounds_toArray, List.set_cons_zero, List.set_cons_succ]
            refine wpAnyH_done (by kernel_rfl) ?_ _
            refine NoPanic.normal ?_
            go_wp2_with fail
            go_ret
            exact ⟨A5, n5, c5, rfl, by rw [Hgl.out]; exact ho5', b5⟩
          · by_cases hci : cu = i
            · have hci2 := hci.symm
              have Hq := Lib.hid (And.intro Rv.out (Hempty.out (by omega) (some adu)))
              have hcu' : nu = i := by omega
              clear hu0 hv0 hci2
              go_wp2_with (go_quiet (fail))
              generalize d + nq = q
              have t1 : nv - i ≤ cv := by omega
              have t2 : i ≤ cu := by omega
              have t3 : (i : Int) ≤ (nu : Int) := by omega
              have t4 : (0 : Int) ≤ (nv : Int) - (i : Int) := by omega
              have t5 : (nv : Int) - (i : Int) ≤ (cv : Int) := by omega
              have t6 : i ≤ nu := by omega
              have b1 : Below w.heap.size w (w.drewN (q + 1)) := bdrew (Below.refl _ _) (q + 1)
              have HJ := Lib.hid (show Calls Tryd.prog 63 #[.slice (some ⟨w.heap.size, 0, none⟩) 2 2] ((w.drewN (q + 1)).alloc (.cells #[.slice none (nv - i) cv, .slice (some adu) 0 0] 22)) (OutI (w.drewN (q + 1)) (v.take (nv - i) ++ u.drop i)) from rjoin2 (w := w.drewN (q + 1)) (Hq.out.1.below b1) (Hq.out.2.below b1) b1.size (by have := Hn1.out; omega) (by have := Hn2.out; omega) Hn3.out)
              have s4 : ((nv : Int) - (i : Int)).toNat = (nv - i) := by omega
              have s5 : IntKind.i64.wrap ((nv : Int) - (i : Int)) = (nv : Int) - (i : Int) := by rw [IntKind.wrap_i64]; omega
              refine wp_region_noPanic ?_
              refine wp_region_held_drew (S := fun w' => Below w.heap.size w w') (by kernel_rfl) (bdrew (Below.refl _ _) q).drew (fun hHeld => ?_)
              have b0 : Below w.heap.size w (w.drewN q).drew := hHeld
              refine wpAnyH_take (i := 0) (oi := Oper.mk (some 34) _ _ _ _ _) (v := ?_) rfl (by kernel_rfl) (by kernel_rfl) (by kernel_rfl) (fun _ _ _ h => h) (Or.inl ⟨by rfl, ?_⟩) (by assumption) ?_
              rotate_left
              · (intro w' hSw; (try dsimp only at hSw); go_simp; try with_reducible rfl)
              try simp only [Act.put, List.setIfInBounds_toArray, List.set_cons_zero, List.set_cons_succ]
              refine wpAnyH_take (i := 1) (oi := Oper.mk (some 35) _ _ _ _ _) (v := ?_) rfl (by kernel_rfl) (by kernel_rfl) (by kernel_rfl) (fun _ _ _ h => h) (Or.inl ⟨by rfl, ?_⟩) (by assumption) ?_
              rotate_left
              · (intro w' hSw; (try dsimp only at hSw); go_simp; try with_reducible rfl)
              try simp only [Act.put, List.setIfInBounds_toArray, List.set_cons_zero, List.set_cons_succ]
              refine wpAnyH_take (i := 2) (oi := Oper.mk (some 36) _ _ _ _ _) (v := ?_) rfl (by kernel_rfl) (by kernel_rfl) (by kernel_rfl) (fun _ _ _ h => h) (Or.inl ⟨by rfl, ?_⟩) (by assumption) ?_
              rotate_left
              · (intro w' hSw; (try dsimp only at hSw); go_simp; try with_reducible rfl)
              try simp only [Act.put, List.setIfInBounds_toArray, List.set_cons_zero, List.set_cons_succ]
              refine wpAnyH_take (i := 3) (oi := Oper.mk (some 37) _ _ _ _ _) (v := ?_) rfl (by kernel_rfl) (by kernel_rfl) (by kernel_rfl) (fun _ _ _ h => h) (Or.inl ⟨by rfl, ?_⟩) (by assumption) ?_
              rotate_left
              · (intro w' hSw; (try dsimp only at hSw); go_simp; try with_reducible rfl)
              try simp only [Act.put, List.setIfInBounds_toArray, List.set_cons_zero, List.set_cons_succ]
              refine wpAnyH_take (i := 4) (oi := Oper.mk (some 38) _ _ _ _ _) (v := ?_) rfl (by kernel_rfl) (by kernel_rfl) (by kernel_rfl) (fun _ _ _ h => h) (Or.inl ⟨by rfl, ?_⟩) (by assumption) ?_
              rotate_left
              · (intro w' hSw; (try dsimp only at hSw); go_simp; try with_reducible rfl)
              try simp only [Act.put, List.setIfInBounds_toArray, List.set_cons_zero, List.set_cons_succ]
              refine wpAnyH_take (i := 5) (oi := Oper.mk (some 39) _ _ _ _ _) (v := ?_) rfl (by kernel_rfl) (by kernel_rfl) (by kernel_rfl) (fun _ _ _ h => h) (Or.inl ⟨by rfl, ?_⟩) (by assumption) ?_
              rotate_left
              · (intro w' hSw; (try dsimp only at hSw); go_simp; try with_reducible rfl)
              try simp only [Act.put, List.setIfInBounds_toArray, List.set_cons_zero, List.set_cons_succ]
              refine wpAnyH_take (i := 6) (oi := Oper.mk (some 40) _ _ _ _ _) (v := ?_) rfl (by kernel_rfl) (by kernel_rfl) (by kernel_rfl) (fun _ _ _ h => h) (Or.inl ⟨by rfl, ?_⟩) (by assumption) ?_
              rotate_left
              · (intro w' hSw; (try dsimp only at hSw); go_simp; try with_reducible rfl)
              try simp only [Act.put, List.setIfInBounds_toArray, List.set_cons_zero, List.set_cons_succ]
              refine wpAnyH_take (i := 7) (oi := Oper.mk (some 41) _ _ _ _ _) (v := ?_) rfl (by kernel_rfl) (by kernel_rfl) (by kernel_rfl) (fun _ _ _ h => h) (Or.inl ⟨by rfl, ?_⟩) (by assumption) ?_
              rotate_left
              · (intro w' hSw; (try dsimp only at hSw); go_simp; try with_reducible rfl)
              try simp only [Act.put, List.setIfInBounds_toArray, List.set_cons_zero, List.set_cons_succ]
              refine wpAnyH_take (i := 8) (oi := Oper.mk (some 42) _ _ _ _ _) (v := ?_) rfl (by kernel_rfl) (by kernel_rfl) (by kernel_rfl) (fun _ _ _ h => h) (Or.inl ⟨by rfl, ?_⟩) (by assumption) ?_
              rotate_left
              · (intro w' hSw; (try dsimp only at hSw); go_simp; try with_reducible rfl)
              try simp only [Act.put, List.setIfInBounds_toArray, List.set_cons_zero, List.set_cons_succ]
              refine wpAnyH_ready (rs := [9]) (by kernel_rfl) (by simp) ?_
              refine AllReadyH.cons (o := Oper.mk (some 43) _ _ _ _ _) rfl (fun K hK => ?_) AllReadyH.nil
              go_simp
              try simp only []
              refine hK.out _ _ (b1.alloc b1.size (.cells #[.slice none (nv - i) cv, .slice (some adu) 0 0] 22)) (fun _ => ?_)
              clear hK K hHeld
              have hHeld := (b1.alloc b1.size (.cells #[.slice none (nv - i) cv, .slice (some adu) 0 0] 22))
              try simp only [Act.put, List.setIfInBounds_toArray, List.set_cons_zero, List.set_cons_succ]
              refine wpAnyH_ready (rs := [10]) (by kernel_rfl) (by simp) ?_
              refine AllReadyH.cons (o := Oper.mk (some 44) _ _ _ _ _) rfl (fun K hK => ?_) AllReadyH.nil
              go_simp
              refine HJ.out.mono ?_
              rintro e w5 ⟨A5, n5, c5, rfl, ho5, hb5⟩
              try simp only []
              have b5 : Below w.heap.size w w5 := b1.trans (hb5.mono b1.size)
              have ho5' : OwnI w5 w.heap.size (.slice A5 n5 c5) (v.take (nv - i) ++ u.drop i) := ho5.lower b1.size
              clear hb5 ho5
              refine hK.out _ _ b5 (fun _ => ?_)
              clear hK K hHeld
              have hHeld := b5
              try simp only [Act.put, List.setIfInBounds_toArray, List.set_cons_zero, List.set_cons_succ]
              refine wpAnyH_take (i := 11) (oi := Oper.mk (some 4) _ _ _ _ _) (v := ?_) rfl (by kernel_rfl) (by kernel_rfl) (by kernel_rfl) (fun _ _ _ h => h) (Or.inl ⟨by rfl, ?_⟩) (by assumption) ?_
              rotate_left
              · (intro w' hSw; (try dsimp only at hSw); go_simp; try with_reducible rfl)
              try simp only [Act.put, List.setIfInBounds_toArray, List.set_cons_zero, List.set_cons_succ]
              refine wpAnyH_done (by kernel_rfl) ?_ _
              refine NoPanic.normal ?_
              go_wp2_with fail
              go_ret
              exact ⟨A5, n5, c5, rfl, by rw [Hgl.out]; exact ho5', b5⟩
            · have Hq := Lib.hid (And.intro Rv.out (Hdrop.out adu rfl))
              clear hu0 hv0
              go_wp2_with (go_quiet (fail))
              generalize d + nq = q
              have t1 : nv - i ≤ cv := by omega
              have t2 : i ≤ cu := by omega
              have t3 : (i : Int) ≤ (nu : Int) := by omega
              have t4 : (0 : Int) ≤ (nv : Int) - (i : Int) := by omega
              have t5 : (nv : Int) - (i : Int) ≤ (cv : Int) := by omega
              have t6 : i ≤ nu := by omega
              have b1 : Below w.heap.size w (w.drewN (q + 1)) := bdrew (Below.refl _ _) (q + 1)
              have HJ := Lib.hid (show Calls Tryd.prog 63 #[.slice (some ⟨w.heap.size, 0, none⟩) 2 2] ((w.drewN (q + 1)).alloc (.cells #[.slice none (nv - i) cv, .slice (some (adu.add i)) 0 (cu - i)] 22)) (OutI (w.drewN (q + 1)) (v.take (nv - i) ++ u.drop i)) from rjoin2 (w := w.drewN (q + 1)) (Hq.out.1.below b1) (Hq.out.2.below b1) b1.size (by have := Hn1.out; omega) (by have := Hn2.out; omega) Hn3.out)
              have s4 : ((nv : Int) - (i : Int)).toNat = (nv - i) := by omega
              have s5 : IntKind.i64.wrap ((nv : Int) - (i : Int)) = (nv : Int) - (i : Int) := by rw [IntKind.wrap_i64]; omega
              refine wp_region_noPanic ?_
              refine wp_region_held_drew (S := fun w' => Below w.heap.size w w') (by kernel_rfl) (bdrew (Below.refl _ _) q).drew (fun hHeld => ?_)
              have b0 : Below w.heap.size w (w.drewN q).drew := hHeld
              refine wpAnyH_take (i := 0) (oi := Oper.mk (some 34) _ _ _ _ _) (v := ?_) rfl (by kernel_rfl) (by kernel_rfl) (by kernel_rfl) (fun _ _ _ h => h) (Or.inl ⟨by rfl, ?_⟩) (by assumption) ?_
              rotate_left
              · (intro w' hSw; (try dsimp only at hSw); go_simp; try with_reducible rfl)
              try simp only [Act.put, List.setIfInBounds_toArray, List.set_cons_zero, List.set_cons_succ]
              refine wpAnyH_take (i := 1) (oi := Oper.mk (some 35) _ _ _ _ _) (v := ?_) rfl (by kernel_rfl) (by kernel_rfl) (by kernel_rfl) (fun _ _ _ h => h) (Or.inl ⟨by rfl, ?_⟩) (by assumption) ?_
              rotate_left
              · (intro w' hSw; (try dsimp only at hSw); go_simp; try with_reducible rfl)
              try simp only [Act.put, List.setIfInBounds_toArray, List.set_cons_zero, List.set_cons_succ]
              refine wpAnyH_take (i := 2) (oi := Oper.mk (some 36) _ _ _ _ _) (v := ?_) rfl (by kernel_rfl) (by kernel_rfl) (by kernel_rfl) (fun _ _ _ h => h) (Or.inl ⟨by rfl, ?_⟩) (by assumption) ?_
              rotate_left
              · (intro w' hSw; (try dsimp only at hSw); go_simp; try with_reducible rfl)
              try simp only [Act.put, List.setIfInBounds_toArray, List.set_cons_zero, List.set_cons_succ]
              refine wpAnyH_take (i := 3) (oi := Oper.mk (some 37) _ _ _ _ _) (v := ?_) rfl (by kernel_rfl) (by kernel_rfl) (by kernel_rfl) (fun _ _ _ h => h) (Or.inl ⟨by rfl, ?_⟩) (by assumption) ?_
              rotate_left
              · (intro w' hSw; (try dsimp only at hSw); go_simp; try with_reducible rfl)
              try simp only [Act.put, List.setIfInBounds_toArray, List.set_cons_zero, List.set_cons_succ]
              refine wpAnyH_take (i := 4) (oi := Oper.mk (some 38) _ _ _ _ _) (v := ?_) rfl (by kernel_rfl) (by kernel_rfl) (by kernel_rfl) (fun _ _ _ h => h) (Or.inl ⟨by rfl, ?_⟩) (by assumption) ?_
              rotate_left
              · (intro w' hSw; (try dsimp only at hSw); go_simp; try with_reducible rfl)
              try simp only [Act.put, List.setIfInBounds_toArray, List.set_cons_zero, List.set_cons_succ]
              refine wpAnyH_take (i := 5) (oi := Oper.mk (some 39) _ _ _ _ _) (v := ?_) rfl (by kernel_rfl) (by kernel_rfl) (by kernel_rfl) (fun _ _ _ h => h) (Or.inl ⟨by rfl, ?_⟩) (by assumption) ?_
              rotate_left
              · (intro w' hSw; (try dsimp only at hSw); go_simp; try with_reducible rfl)
              try simp only [Act.put, List.setIfInBounds_toArray, List.set_cons_zero, List.set_cons_succ]
              refine wpAnyH_take (i := 6) (oi := Oper.mk (some 40) _ _ _ _ _) (v := ?_) rfl (by kernel_rfl) (by kernel_rfl) (by kernel_rfl) (fun _ _ _ h => h) (Or.inl ⟨by rfl, ?_⟩) (by assumption) ?_
              rotate_left
              · (intro w' hSw; (try dsimp only at hSw); go_simp; try with_reducible rfl)
              try simp only [Act.put, List.setIfInBounds_toArray, List.set_cons_zero, List.set_cons_succ]
              refine wpAnyH_take (i := 7) (oi := Oper.mk (some 41) _ _ _ _ _) (v := ?_) rfl (by kernel_rfl) (by kernel_rfl) (by kernel_rfl) (fun _ _ _ h => h) (Or.inl ⟨by rfl, ?_⟩) (by assumption) ?_
              rotate_left
              · (intro w' hSw; (try dsimp only at hSw); go_simp; try with_reducible rfl)
              try simp only [Act.put, List.setIfInBounds_toArray, List.set_cons_zero, List.set_cons_succ]
              refine wpAnyH_take (i := 8) (oi := Oper.mk (some 42) _ _ _ _ _) (v := ?_) rfl (by kernel_rfl) (by kernel_rfl) (by kernel_rfl) (fun _ _ _ h => h) (Or.inl ⟨by rfl, ?_⟩) (by assumption) ?_
              rotate_left
              · (intro w' hSw; (try dsimp only at hSw); go_simp; try with_reducible rfl)
              try simp only [Act.put, List.setIfInBounds_toArray, List.set_cons_zero, List.set_cons_succ]
              refine wpAnyH_ready (rs := [9]) (by kernel_rfl) (by simp) ?_
              refine AllReadyH.cons (o := Oper.mk (some 43) _ _ _ _ _) rfl (fun K hK => ?_) AllReadyH.nil
              go_simp
              try simp only []
              refine hK.out _ _ (b1.alloc b1.size (.cells #[.slice none (nv - i) cv, .slice (some (adu.add i)) 0 (cu - i)] 22)) (fun _ => ?_)
              clear hK K hHeld
              have hHeld := (b1.alloc b1.size (.cells #[.slice none (nv - i) cv, .slice (some (adu.add i)) 0 (cu - i)] 22))
              try simp only [Act.put, List.setIfInBounds_toArray, List.set_cons_zero, List.set_cons_succ]
              refine wpAnyH_ready (rs := [10]) (by kernel_rfl) (by simp) ?_
              refine AllReadyH.cons (o := Oper.mk (some 44) _ _ _ _ _) rfl (fun K hK => ?_) AllReadyH.nil
              go_simp
              refine HJ.out.mono ?_
              rintro e w5 ⟨A5, n5, c5, rfl, ho5, hb5⟩
              try simp only []
              have b5 : Below w.heap.size w w5 := b1.trans (hb5.mono b1.size)
              have ho5' : OwnI w5 w.heap.size (.slice A5 n5 c5) (v.take (nv - i) ++ u.drop i) := ho5.lower b1.size
              clear hb5 ho5
              refine hK.out _ _ b5 (fun _ => ?_)
              clear hK K hHeld
              have hHeld := b5
              try simp only [Act.put, List.setIfInBounds_toArray, List.set_cons_zero, List.set_cons_succ]
              refine wpAnyH_take (i := 11) (oi := Oper.mk (some 4) _ _ _ _ _) (v := ?_) rfl (by kernel_rfl) (by kernel_rfl) (by kernel_rfl) (fun _ _ _ h => h) (Or.inl ⟨by rfl, ?_⟩) (by assumption) ?_
              rotate_left
              · (intro w' hSw; (try dsimp only at hSw); go_simp; try with_reducible rfl)
              try simp only [Act.put, List.setIfInBounds_toArray, List.set_cons_zero, List.set_cons_succ]
              refine wpAnyH_done (by kernel_rfl) ?_ _
              refine NoPanic.normal ?_
              go_wp2_with fail
              go_ret
              exact ⟨A5, n5, c5, rfl, by rw [Hgl.out]; exact ho5', b5⟩
        · rcases Au with _ | adu
          · have Hq := Lib.hid (And.intro Rv.out (Hempty.out (by have := hu0 (by trivial); omega) none))
            clear hu0 hv0
            go_wp2_with (go_quiet (fail))
            generalize d + nq = q
            have t1 : nv - i ≤ cv := by omega
            have t2 : i ≤ cu := by omega
            have t3 : (i : Int) ≤ (nu : Int) := by omega
            have t4 : (0 : Int) ≤ (nv : Int) - (i : Int) := by omega
            have t5 : (nv : Int) - (i : Int) ≤ (cv : Int) := by omega
            have t6 : i ≤ nu := by omega
            have b1 : Below w.heap.size w (w.drewN (q + 1)) := bdrew (Below.refl _ _) (q + 1)
            have HJ := Lib.hid (show Calls Tryd.prog 63 #[.slice (some ⟨w.heap.size, 0, none⟩) 2 2] ((w.drewN (q + 1)).alloc (.cells #[.slice (some adv) (nv - i) cv, .slice none 0 (cu - i)] 22)) (OutI (w.drewN (q + 1)) (v.take (nv - i) ++ u.drop i)) from rjoin2 (w := w.drewN (q + 1)) (Hq.out.1.below b1) (Hq.out.2.below b1) b1.size (by have := Hn1.out; omega) (by have := Hn2.out; omega) Hn3.out)
            have s4 : ((nv : Int) - (i : Int)).toNat = (nv - i) := by omega
            have s5 : IntKind.i64.wrap ((nv : Int) - (i : Int)) = (nv : Int) - (i : Int) := by rw [IntKind.wrap_i64]; omega
            refine wp_region_noPanic ?_
            refine wp_region_held_drew (S := fun w' => Below w.heap.size w w') (by kernel_rfl) (bdrew (Below.refl _ _) q).drew (fun hHeld => ?_)
            have b0 : Below w.heap.size w (w.drewN q).drew := hHeld
            refine wpAnyH_take (i := 0) (oi := Oper.mk (some 34) _ _ _ _ _) (v := ?_) rfl (by kernel_rfl) (by kernel_rfl) (by kernel_rfl) (fun _ _ _ h => h) (Or.inl ⟨by rfl, ?_⟩) (by assumption) ?_
            rotate_left
            · (intro w' hSw; (try dsimp only at hSw); go_simp; try with_reducible rfl)
            try simp only [Act.put, List.setIfInBounds_toArray, List.set_cons_zero, List.set_cons_succ]
            refine wpAnyH_take (i := 1) (oi := Oper.mk (some 35) _ _ _ _ _) (v := ?_) rfl (by kernel_rfl) (by kernel_rfl) (by kernel_rfl) (fun _ _ _ h => h) (Or.inl ⟨by rfl, ?_⟩) (by assumption) ?_
            rotate_left
            · (intro w' hSw; (try dsimp only at hSw); go_simp; try with_reducible rfl)
            try simp only [Act.put, List.setIfInBounds_toArray, List.set_cons_zero, List.set_cons_succ]
            refine wpAnyH_take (i := 2) (oi := Oper.mk (some 36) _ _ _ _ _) (v := ?_) rfl (by kernel_rfl) (by kernel_rfl) (by kernel_rfl) (fun _ _ _ h => h) (Or.inl ⟨by rfl, ?_⟩) (by assumption) ?_
            rotate_left
            · (intro w' hSw; (try dsimp only at hSw); go_simp; try with_reducible rfl)
            try simp only [Act.put, List.setIfInBounds_toArray, List.set_cons_zero, List.set_cons_succ]
            refine wpAnyH_take (i := 3) (oi := Oper.mk (some 37) _ _ _ _ _) (v := ?_) rfl (by kernel_rfl) (by kernel_rfl) (by kernel_rfl) (fun _ _ _ h => h) (Or.inl ⟨by rfl, ?_⟩) (by assumption) ?_
            rotate_left
            · (intro w' hSw; (try dsimp only at hSw); go_simp; try with_reducible rfl)
            try simp only [Act.put, List.setIfInBounds_toArray, List.set_cons_zero, List.set_cons_succ]
            refine wpAnyH_take (i := 4) (oi := Oper.mk (some 38) _ _ _ _ _) (v := ?_) rfl (by kernel_rfl) (by kernel_rfl) (by kernel_rfl) (fun _ _ _ h => h) (Or.inl ⟨by rfl, ?_⟩) (by assumption) ?_
            rotate_left
            · (intro w' hSw; (try dsimp only at hSw); go_simp; try with_reducible rfl)
            try simp only [Act.put, List.setIfInBounds_toArray, List.set_cons_zero, List.set_cons_succ]
            refine wpAnyH_take (i := 5) (oi := Oper.mk (some 39) _ _ _ _ _) (v := ?_) rfl (by kernel_rfl) (by kernel_rfl) (by kernel_rfl) (fun _ _ _ h => h) (Or.inl ⟨by rfl, ?_⟩) (by assumption) ?_
            rotate_left
            · (intro w' hSw; (try dsimp only at hSw); go_simp; try with_reducible rfl)
            try simp only [Act.put, List.setIfInBounds_toArray, List.set_cons_zero, List.set_cons_succ]
            refine wpAnyH_take (i := 6) (oi := Oper.mk (some 40) _ _ _ _ _) (v := ?_) rfl (by kernel_rfl) (by kernel_rfl) (by kernel_rfl) (fun _ _ _ h => h) (Or.inl ⟨by rfl, ?_⟩) (by assumption) ?_
            rotate_left
            · (intro w' hSw; (try dsimp only at hSw); go_simp; try with_reducible rfl)
            try simp only [Act.put, List.setIfInBounds_toArray, List.set_cons_zero, List.set_cons_succ]
            refine wpAnyH_take (i := 7) (oi := Oper.mk (some 41) _ _ _ _ _) (v := ?_) rfl (by kernel_rfl) (by kernel_rfl) (by kernel_rfl) (fun _ _ _ h => h) (Or.inl ⟨by rfl, ?_⟩) (by assumption) ?_
            rotate_left
            · (intro w' hSw; (try dsimp only at hSw); go_simp; try with_reducible rfl)
            try simp only [Act.put, List.setIfInBounds_toArray, List.set_cons_zero, List.set_cons_succ]
            refine wpAnyH_take (i := 8) (oi := Oper.mk (some 42) _ _ _ _ _) (v := ?_) rfl (by kernel_rfl) (by kernel_rfl) (by kernel_rfl) (fun _ _ _ h => h) (Or.inl ⟨by rfl, ?_⟩) (by assumption) ?_
            rotate_left
            · (intro w' hSw; (try dsimp only at hSw); go_simp; try with_reducible rfl)
            try simp only [Act.put, List.setIfInBounds_toArray, List.set_cons_zero, List.set_cons_succ]
            refine wpAnyH_ready (rs := [9]) (by kernel_rfl) (by simp) ?_
            refine AllReadyH.cons (o := Oper.mk (some 43) _ _ _ _ _) rfl (fun K hK => ?_) AllReadyH.nil
            go_simp
            try simp only []
            refine hK.out _ _ (b1.alloc b1.size (.cells #[.slice (some adv) (nv - i) cv, .slice none 0 (cu - i)] 22)) (fun _ => ?_)
            clear hK K hHeld
            have hHeld := (b1.alloc b1.size (.cells #[.slice (some adv) (nv - i) cv, .slice none 0 (cu - i)] 22))
            try simp only [Act.put, List.setIfInBounds_toArray, List.set_cons_zero, List.set_cons_succ]
            refine wpAnyH_ready (rs := [10]) (by kernel_rfl) (by simp) ?_
            refine AllReadyH.cons (o := Oper.mk (some 44) _ _ _ _ _) rfl (fun K hK => ?_) AllReadyH.nil
            go_simp
            refine HJ.out.mono ?_
            rintro e w5 ⟨A5, n5, c5, rfl, ho5, hb5⟩
            try simp only []
            have b5 : Below w.heap.size w w5 := b1.trans (hb5.mono b1.size)
            have ho5' : OwnI w5 w.heap.size (.slice A5 n5 c5) (v.take (nv - i) ++ u.drop i) := ho5.lower b1.size
            clear hb5 ho5
            refine hK.out _ _ b5 (fun _ => ?_)
            clear hK K hHeld
            have hHeld := b5
            try simp only [Act.put, List.setIfInBounds_toArray, List.set_cons_zero, List.set_cons_succ]
            refine wpAnyH_take (i := 11) (oi := Oper.mk (some 4) _ _ _ _ _) (v := ?_) rfl (by kernel_rfl) (by kernel_rfl) (by kernel_rfl) (fun _ _ _ h => h) (Or.inl ⟨by rfl, ?_⟩) (by assumption) ?_
            rotate_left
            · (intro w' hSw; (try dsimp only at hSw); go_simp; try with_reducible rfl)
            try simp only [Act.put, List.setIfInBounds_toArray, List.set_cons_zero, List.set_cons_succ]
            refine wpAnyH_done (by kernel_rfl) ?_ _
            refine NoPanic.normal ?_
            go_wp2_with fail
            go_ret
            exact ⟨A5, n5, c5, rfl, by rw [Hgl.out]; exact ho5', b5⟩
          · by_cases hci : cu = i
            · have hci2 := hci.symm
              have Hq := Lib.hid (And.intro Rv.out (Hempty.out (by omega) (some adu)))
              have hcu' : nu = i := by omega
              clear hu0 hv0 hci2
              go_wp2_with (go_quiet (fail))
              generalize d + nq = q
              have t1 : nv - i ≤ cv := by omega
              have t2 : i ≤ cu := by omega
              have t3 : (i : Int) ≤ (nu : Int) := by omega
              have t4 : (0 : Int) ≤ (nv : Int) - (i : Int) := by omega
              have t5 : (nv : Int) - (i : Int) ≤ (cv : Int) := by omega
              have t6 : i ≤ nu := by omega
              have b1 : Below w.heap.size w (w.drewN (q + 1)) := bdrew (Below.refl _ _) (q + 1)
              have HJ := Lib.hid (show Calls Tryd.prog 63 #[.slice (some ⟨w.heap.size, 0, none⟩) 2 2] ((w.drewN (q + 1)).alloc (.cells #[.slice (some adv) (nv - i) cv, .slice (some adu) 0 0] 22)) (OutI (w.drewN (q + 1)) (v.take (nv - i) ++ u.drop i)) from rjoin2 (w := w.drewN (q + 1)) (Hq.out.1.below b1) (Hq.out.2.below b1) b1.size (by have := Hn1.out; omega) (by have := Hn2.out; omega) Hn3.out)
              have s4 : ((nv : Int) - (i : Int)).toNat = (nv - i) := by omega
              have s5 : IntKind.i64.wrap ((nv : Int) - (i : Int)) = (nv : Int) - (i : Int) := by rw [IntKind.wrap_i64]; omega
              refine wp_region_noPanic ?_
              refine wp_region_held_drew (S := fun w' => Below w.heap.size w w') (by kernel_rfl) (bdrew (Below.refl _ _) q).drew (fun hHeld => ?_)
              have b0 : Below w.heap.size w (w.drewN q).drew := hHeld
              refine wpAnyH_take (i := 0) (oi := Oper.mk (some 34) _ _ _ _ _) (v := ?_) rfl (by kernel_rfl) (by kernel_rfl) (by kernel_rfl) (fun _ _ _ h => h) (Or.inl ⟨by rfl, ?_⟩) (by assumption) ?_
              rotate_left
              · (intro w' hSw; (try dsimp only at hSw); go_simp; try with_reducible rfl)
              try simp only [Act.put, List.setIfInBounds_toArray, List.set_cons_zero, List.set_cons_succ]
              refine wpAnyH_take (i := 1) (oi := Oper.mk (some 35) _ _ _ _ _) (v := ?_) rfl (by kernel_rfl) (by kernel_rfl) (by kernel_rfl) (fun _ _ _ h => h) (Or.inl ⟨by rfl, ?_⟩) (by assumption) ?_
              rotate_left
              · (intro w' hSw; (try dsimp only at hSw); go_simp; try with_reducible rfl)
              try simp only [Act.put, List.setIfInBounds_toArray, List.set_cons_zero, List.set_cons_succ]
              refine wpAnyH_take (i := 2) (oi := Oper.mk (some 36) _ _ _ _ _) (v := ?_) rfl (by kernel_rfl) (by kernel_rfl) (by kernel_rfl) (fun _ _ _ h => h) (Or.inl ⟨by rfl, ?_⟩) (by assumption) ?_
              rotate_left
              · (intro w' hSw; (try dsimp only at hSw); go_simp; try with_reducible rfl)
              try simp only [Act.put, List.setIfInBounds_toArray, List.set_cons_zero, List.set_cons_succ]
              refine wpAnyH_take (i := 3) (oi := Oper.mk (some 37) _ _ _ _ _) (v := ?_) rfl (by kernel_rfl) (by kernel_rfl) (by kernel_rfl) (fun _ _ _ h => h) (Or.inl ⟨by rfl, ?_⟩) (by assumption) ?_
              rotate_left
              · (intro w' hSw; (try dsimp only at hSw); go_simp; try with_reducible rfl)
              try simp only [Act.put, List.setIfInBounds_toArray, List.set_cons_zero, List.set_cons_succ]
              refine wpAnyH_take (i := 4) (oi := Oper.mk (some 38) _ _ _ _ _) (v := ?_) rfl (by kernel_rfl) (by kernel_rfl) (by kernel_rfl) (fun _ _ _ h => h) (Or.inl ⟨by rfl, ?_⟩) (by assumption) ?_
              rotate_left
              · (intro w' hSw; (try dsimp only at hSw); go_simp; try with_reducible rfl)
              try simp only [Act.put, List.setIfInBounds_toArray, List.set_cons_zero, List.set_cons_succ]
              refine wpAnyH_take (i := 5) (oi := Oper.mk (some 39) _ _ _ _ _) (v := ?_) rfl (by kernel_rfl) (by kernel_rfl) (by kernel_rfl) (fun _ _ _ h => h) (Or.inl ⟨by rfl, ?_⟩) (by assumption) ?_
              rotate_left
              · (intro w' hSw; (try dsimp only at hSw); go_simp; try with_reducible rfl)
              try simp only [Act.put, List.setIfInBounds_toArray, List.set_cons_zero, List.set_cons_succ]
              refine wpAnyH_take (i := 6) (oi := Oper.mk (some 40) _ _ _ _ _) (v := ?_) rfl (by kernel_rfl) (by kernel_rfl) (by kernel_rfl) (fun _ _ _ h => h) (Or.inl ⟨by rfl, ?_⟩) (by assumption) ?_
              rotate_left
              · (intro w' hSw; (try dsimp only at hSw); go_simp; try with_reducible rfl)
              try simp only [Act.put, List.setIfInBounds_toArray, List.set_cons_zero, List.set_cons_succ]
              refine wpAnyH_take (i := 7) (oi := Oper.mk (some 41) _ _ _ _ _) (v := ?_) rfl (by kernel_rfl) (by kernel_rfl) (by kernel_rfl) (fun _ _ _ h => h) (Or.inl ⟨by rfl, ?_⟩) (by assumption) ?_
              rotate_left
              · (intro w' hSw; (try dsimp only at hSw); go_simp; try with_reducible rfl)
              try simp only [Act.put, List.setIfInBounds_toArray, List.set_cons_zero, List.set_cons_succ]
              refine wpAnyH_take (i := 8) (oi := Oper.mk (some 42) _ _ _ _ _) (v := ?_) rfl (by kernel_rfl) (by kernel_rfl) (by kernel_rfl) (fun _ _ _ h => h) (Or.inl ⟨by rfl, ?_⟩) (by assumption) ?_
              rotate_left
              · (intro w' hSw; (try dsimp only at hSw); go_simp; try with_reducible rfl)
              try simp only [Act.put, List.setIfInBounds_toArray, List.set_cons_zero, List.set_cons_succ]
              refine wpAnyH_ready (rs := [9]) (by kernel_rfl) (by simp) ?_
              refine AllReadyH.cons (o := Oper.mk (some 43) _ _ _ _ _) rfl (fun K hK => ?_) AllReadyH.nil
              go_simp
              try simp only []
              refine hK.out _ _ (b1.alloc b1.size (.cells #[.slice (some adv) (nv - i) cv, .slice (some adu) 0 0] 22)) (fun _ => ?_)
              clear hK K hHeld
              have hHeld := (b1.alloc b1.size (.cells #[.slice (some adv) (nv - i) cv, .slice (some adu) 0 0] 22))
              try simp only [Act.put, List.setIfInBounds_toArray, List.set_cons_zero, List.set_cons_succ]
              refine wpAnyH_ready (rs := [10]) (by kernel_rfl) (by simp) ?_
              refine AllReadyH.cons (o := Oper.mk (some 44) _ _ _ _ _) rfl (fun K hK => ?_) AllReadyH.nil
              go_simp
              refine HJ.out.mono ?_
              rintro e w5 ⟨A5, n5, c5, rfl, ho5, hb5⟩
              try simp only []
              have b5 : Below w.heap.size w w5 := b1.trans (hb5.mono b1.size)
              have ho5' : OwnI w5 w.heap.size (.slice A5 n5 c5) (v.take (nv - i) ++ u.drop i) := ho5.lower b1.size
              clear hb5 ho5
              refine hK.out _ _ b5 (fun _ => ?_)
              clear hK K hHeld
              have hHeld := b5
              try simp only [Act.put, List.setIfInBounds_toArray, List.set_cons_zero, List.set_cons_succ]
              refine wpAnyH_take (i := 11) (oi := Oper.mk (some 4) _ _ _ _ _) (v := ?_) rfl (by kernel_rfl) (by kernel_rfl) (by kernel_rfl) (fun _ _ _ h => h) (Or.inl ⟨by rfl, ?_⟩) (by assumption) ?_
              rotate_left
              · (intro w' hSw; (try dsimp only at hSw); go_simp; try with_reducible rfl)
              try simp only [Act.put, List.setIfInBounds_toArray, List.set_cons_zero, List.set_cons_succ]
              refine wpAnyH_done (by kernel_rfl) ?_ _
              refine NoPanic.normal ?_
              go_wp2_with fail
              go_ret
              exact ⟨A5, n5, c5, rfl, by rw [Hgl.out]; exact ho5', b5⟩
            · have Hq := Lib.hid (And.intro Rv.out (Hdrop.out adu rfl))
              clear hu0 hv0
              go_wp2_with (go_quiet (fail))
              generalize d + nq = q
              have t1 : nv - i ≤ cv := by omega
              have t2 : i ≤ cu := by omega
              have t3 : (i : Int) ≤ (nu : Int) := by omega
              have t4 : (0 : Int) ≤ (nv : Int) - (i : Int) := by omega
              have t5 : (nv : Int) - (i : Int) ≤ (cv : Int) := by omega
              have t6 : i ≤ nu := by omega
              have b1 : Below w.heap.size w (w.drewN (q + 1)) := bdrew (Below.refl _ _) (q + 1)
              have HJ := Lib.hid (show Calls Tryd.prog 63 #[.slice (some ⟨w.heap.size, 0, none⟩) 2 2] ((w.drewN (q + 1)).alloc (.cells #[.slice (some adv) (nv - i) cv, .slice (some (adu.add i)) 0 (cu - i)] 22)) (OutI (w.drewN (q + 1)) (v.take (nv - i) ++ u.drop i)) from rjoin2 (w := w.drewN (q + 1)) (Hq.out.1.below b1) (Hq.out.2.below b1) b1.size (by have := Hn1.out; omega) (by have := Hn2.out; omega) Hn3.out)
              have s4 : ((nv : Int) - (i : Int)).toNat = (nv - i) := by omega
              have s5 : IntKind.i64.wrap ((nv : Int) - (i : Int)) = (nv : Int) - (i : Int) := by rw [IntKind.wrap_i64]; omega
              refine wp_region_noPanic ?_
              refine wp_region_held_drew (S := fun w' => Below w.heap.size w w') (by kernel_rfl) (bdrew (Below.refl _ _) q).drew (fun hHeld => ?_)
              have b0 : Below w.heap.size w (w.drewN q).drew := hHeld
              refine wpAnyH_take (i := 0) (oi := Oper.mk (some 34) _ _ _ _ _) (v := ?_) rfl (by kernel_rfl) (by kernel_rfl) (by kernel_rfl) (fun _ _ _ h => h) (Or.inl ⟨by rfl, ?_⟩) (by assumption) ?_
              rotate_left
              · (intro w' hSw; (try dsimp only at hSw); go_simp; try with_reducible rfl)
              try simp only [Act.put, List.setIfInBounds_toArray, List.set_cons_zero, List.set_cons_succ]
              refine wpAnyH_take (i := 1) (oi := Oper.mk (some 35) _ _ _ _ _) (v := ?_) rfl (by kernel_rfl) (by kernel_rfl) (by kernel_rfl) (fun _ _ _ h => h) (Or.inl ⟨by rfl, ?_⟩) (by assumption) ?_
              rotate_left
              · (intro w' hSw; (try dsimp only at hSw); go_simp; try with_reducible rfl)
              try simp only [Act.put, List.setIfInBounds_toArray, List.set_cons_zero, List.set_cons_succ]
              refine wpAnyH_take (i := 2) (oi := Oper.mk (some 36) _ _ _ _ _) (v := ?_) rfl (by kernel_rfl) (by kernel_rfl) (by kernel_rfl) (fun _ _ _ h => h) (Or.inl ⟨by rfl, ?_⟩) (by assumption) ?_
              rotate_left
              · (intro w' hSw; (try dsimp only at hSw); go_simp; try with_reducible rfl)
              try simp only [Act.put, List.setIfInBounds_toArray, List.set_cons_zero, List.set_cons_succ]
              refine wpAnyH_take (i := 3) (oi := Oper.mk (some 37) _ _ _ _ _) (v := ?_) rfl (by kernel_rfl) (by kernel_rfl) (by kernel_rfl) (fun _ _ _ h => h) (Or.inl ⟨by rfl, ?_⟩) (by assumption) ?_
              rotate_left
              · (intro w' hSw; (try dsimp only at hSw); go_simp; try with_reducible rfl)
              try simp only [Act.put, List.setIfInBounds_toArray, List.set_cons_zero, List.set_cons_succ]
              refine wpAnyH_take (i := 4) (oi := Oper.mk (some 38) _ _ _ _ _) (v := ?_) rfl (by kernel_rfl) (by kernel_rfl) (by kernel_rfl) (fun _ _ _ h => h) (Or.inl ⟨by rfl, ?_⟩) (by assumption) ?_
              rotate_left
              · (intro w' hSw; (try dsimp only at hSw); go_simp; try with_reducible rfl)
              try simp only [Act.put, List.setIfInBounds_toArray, List.set_cons_zero, List.set_cons_succ]
              refine wpAnyH_take (i := 5) (oi := Oper.mk (some 39) _ _ _ _ _) (v := ?_) rfl (by kernel_rfl) (by kernel_rfl) (by kernel_rfl) (fun _ _ _ h => h) (Or.inl ⟨by rfl, ?_⟩) (by assumption) ?_
              rotate_left
              · (intro w' hSw; (try dsimp only at hSw); go_simp; try with_reducible rfl)
              try simp only [Act.put, List.setIfInBounds_toArray, List.set_cons_zero, List.set_cons_succ]
              refine wpAnyH_take (i := 6) (oi := Oper.mk (some 40) _ _ _ _ _) (v := ?_) rfl (by kernel_rfl) (by kernel_rfl) (by kernel_rfl) (fun _ _ _ h => h) (Or.inl ⟨by rfl, ?_⟩) (by assumption) ?_
              rotate_left
              · (intro w' hSw; (try dsimp only at hSw); go_simp; try with_reducible rfl)
              try simp only [Act.put, List.setIfInBounds_toArray, List.set_cons_zero, List.set_cons_succ]
              refine wpAnyH_take (i := 7) (oi := Oper.mk (some 41) _ _ _ _ _) (v := ?_) rfl (by kernel_rfl) (by kernel_rfl) (by kernel_rfl) (fun _ _ _ h => h) (Or.inl ⟨by rfl, ?_⟩) (by assumption) ?_
              rotate_left
              · (intro w' hSw; (try dsimp only at hSw); go_simp; try with_reducible rfl)
              try simp only [Act.put, List.setIfInBounds_toArray, List.set_cons_zero, List.set_cons_succ]
              refine wpAnyH_take (i := 8) (oi := Oper.mk (some 42) _ _ _ _ _) (v := ?_) rfl (by kernel_rfl) (by kernel_rfl) (by kernel_rfl) (fun _ _ _ h => h) (Or.inl ⟨by rfl, ?_⟩) (by assumption) ?_
              rotate_left
              · (intro w' hSw; (try dsimp only at hSw); go_simp; try with_reducible rfl)
              try simp only [Act.put, List.setIfInBounds_toArray, List.set_cons_zero, List.set_cons_succ]
              refine wpAnyH_ready (rs := [9]) (by kernel_rfl) (by simp) ?_
              refine AllReadyH.cons (o := Oper.mk (some 43) _ _ _ _ _) rfl (fun K hK => ?_) AllReadyH.nil
              go_simp
              try simp only []
              refine hK.out _ _ (b1.alloc b1.size (.cells #[.slice (some adv) (nv - i) cv, .slice (some (adu.add i)) 0 (cu - i)] 22)) (fun _ => ?_)
              clear hK K hHeld
              have hHeld := (b1.alloc b1.size (.cells #[.slice (some adv) (nv - i) cv, .slice (some (adu.add i)) 0 (cu - i)] 22))
              try simp only [Act.put, List.setIfInBounds_toArray, List.set_cons_zero, List.set_cons_succ]
              refine wpAnyH_ready (rs := [10]) (by kernel_rfl) (by simp) ?_
              refine AllReadyH.cons (o := Oper.mk (some 44) _ _ _ _ _) rfl (fun K hK => ?_) AllReadyH.nil
              go_simp
              refine HJ.out.mono ?_
              rintro e w5 ⟨A5, n5, c5, rfl, ho5, hb5⟩
              try simp only []
              have b5 : Below w.heap.size w w5 := b1.trans (hb5.mono b1.size)
              have ho5' : OwnI w5 w.heap.size (.slice A5 n5 c5) (v.take (nv - i) ++ u.drop i) := ho5.lower b1.size
              clear hb5 ho5
              refine hK.out _ _ b5 (fun _ => ?_)
              clear hK K hHeld
              have hHeld := b5
              try simp only [Act.put, List.setIfInBounds_toArray, List.set_cons_zero, List.set_cons_succ]
              refine wpAnyH_take (i := 11) (oi := Oper.mk (some 4) _ _ _ _ _) (v := ?_) rfl (by kernel_rfl) (by kernel_rfl) (by kernel_rfl) (fun _ _ _ h => h) (Or.inl ⟨by rfl, ?_⟩) (by assumption) ?_
              rotate_left
              · (intro w' hSw; (try dsimp only at hSw); go_simp; try with_reducible rfl)
              try simp only [Act.put, List.setIfInBounds_toArray, List.set_cons_zero, List.set_cons_succ]
              refine wpAnyH_done (by kernel_rfl) ?_ _
              refine NoPanic.normal ?_
              go_wp2_with fail
              go_ret
              exact ⟨A5, n5, c5, rfl, by rw [Hgl.out]; exact ho5', b5⟩
      · have hjl : nv - 1 - i < v.length := by have := Hv.out.2; omega
        have hil : i < u.length := by have := Hu.out.2; omega
        obtain ⟨ad, rfl, hb1, c0⟩ := Hv.out.1.at_ hjl
        obtain ⟨ad2, rfl, hb2, d0⟩ := Hu.out.1.at_ hil
        have hxy : ¬ v[nv - 1 - i] = - u[i] := fun e => hne (by rw [List.getD_eq_getElem?_getD, List.getElem?_eq_getElem hjl, List.getD_eq_getElem?_getD, List.getElem?_eq_getElem hil]; exact e)
        have hly := Hl.out.2 u[i] (List.getElem_mem hil)
        have hi1 : (i : Int) < (nv : Int) := by omega
        have hi2 : (i : Int) < (nu : Int) := by omega
        generalize u[i] = y at *
        generalize v[nv - 1 - i] = x at *
        obtain ⟨hy0, hy1, hy2⟩ := hly
        have hbeq : (x == -y) = false := by simp; exact hxy
        have s1 : ((nv : Int) - 1 - (i : Int)).toNat = nv - 1 - i := by omega
        have s2 : (0 : Int) ≤ (nv : Int) - 1 - (i : Int) := by omega
        have hci : ¬ cu = i := by omega
        have Hq := Lib.hid (And.intro Rv.out (Hdrop.out ad2 rfl))
        clear hb1 hb2 hil hjl hne hxy hu0 hv0
        go_wp2_with (go_quiet (fail))
        generalize d + nq = q
        have t1 : nv - i ≤ cv := by omega
        have t2 : i ≤ cu := by omega
        have t3 : (i : Int) ≤ (nu : Int) := by omega
        have t4 : (0 : Int) ≤ (nv : Int) - (i : Int) := by omega
        have t5 : (nv : Int) - (i : Int) ≤ (cv : Int) := by omega
        have t6 : i ≤ nu := by omega
        have b1 : Below w.heap.size w (w.drewN (q + 1)) := bdrew (Below.refl _ _) (q + 1)
        have HJ := Lib.hid (show Calls Tryd.prog 63 #[.slice (some ⟨w.heap.size, 0, none⟩) 2 2] ((w.drewN (q + 1)).alloc (.cells #[.slice (some ad) (nv - i) cv, .slice (some (ad2.add i)) (nu - i) (cu - i)] 22)) (OutI (w.drewN (q + 1)) (v.take (nv - i) ++ u.drop i)) from rjoin2 (w := w.drewN (q + 1)) (Hq.out.1.below b1) (Hq.out.2.below b1) b1.size (by have := Hn1.out; omega) (by have := Hn2.out; omega) Hn3.out)
        have s4 : ((nv : Int) - (i : Int)).toNat = (nv - i) := by omega
        have s5 : IntKind.i64.wrap ((nv : Int) - (i : Int)) = (nv : Int) - (i : Int) := by rw [IntKind.wrap_i64]; omega
        refine wp_region_noPanic ?_
        refine wp_region_held_drew (S := fun w' => Below w.heap.size w w') (by kernel_rfl) (bdrew (Below.refl _ _) q).drew (fun hHeld => ?_)
        have b0 : Below w.heap.size w (w.drewN q).drew := hHeld
        refine wpAnyH_take (i := 0) (oi := Oper.mk (some 34) _ _ _ _ _) (v := ?_) rfl (by kernel_rfl) (by kernel_rfl) (by kernel_rfl) (fun _ _ _ h => h) (Or.inl ⟨by rfl, ?_⟩) (by assumption) ?_
        rotate_left
        · (intro w' hSw; (try dsimp only at hSw); go_simp; try with_reducible rfl)
        try simp only [Act.put, List.setIfInBounds_toArray, List.set_cons_zero, List.set_cons_succ]
        refine wpAnyH_take (i := 1) (oi := Oper.mk (some 35) _ _ _ _ _) (v := ?_) rfl (by kernel_rfl) (by kernel_rfl) (by kernel_rfl) (fun _ _ _ h => h) (Or.inl ⟨by rfl, ?_⟩) (by assumption) ?_
        rotate_left
        · (intro w' hSw; (try dsimp only at hSw); go_simp; try with_reducible rfl)
        try simp only [Act.put, List.setIfInBounds_toArray, List.set_cons_zero, List.set_cons_succ]
        refine wpAnyH_take (i := 2) (oi := Oper.mk (some 36) _ _ _ _ _) (v := ?_) rfl (by kernel_rfl) (by kernel_rfl) (by kernel_rfl) (fun _ _ _ h => h) (Or.inl ⟨by rfl, ?_⟩) (by assumption) ?_
        rotate_left
        · (intro w' hSw; (try dsimp only at hSw); go_simp; try with_reducible rfl)
        try simp only [Act.put, List.setIfInBounds_toArray, List.set_cons_zero, List.set_cons_succ]
        refine wpAnyH_take (i := 3) (oi := Oper.mk (some 37) _ _ _ _ _) (v := ?_) rfl (by kernel_rfl) (by kernel_rfl) (by kernel_rfl) (fun _ _ _ h => h) (Or.inl ⟨by rfl, ?_⟩) (by assumption) ?_
        rotate_left
        · (intro w' hSw; (try dsimp only at hSw); go_simp; try with_reducible rfl)
        try simp only [Act.put, List.setIfInBounds_toArray, List.set_cons_zero, List.set_cons_succ]
        refine wpAnyH_take (i := 4) (oi := Oper.mk (some 38) _ _ _ _ _) (v := ?_) rfl (by kernel_rfl) (by kernel_rfl) (by kernel_rfl) (fun _ _ _ h => h) (Or.inl ⟨by rfl, ?_⟩) (by assumption) ?_
        rotate_left
        · (intro w' hSw; (try dsimp only at hSw); go_simp; try with_reducible rfl)
        try simp only [Act.put, List.setIfInBounds_toArray, List.set_cons_zero, List.set_cons_succ]
        refine wpAnyH_take (i := 5) (oi := Oper.mk (some 39) _ _ _ _ _) (v := ?_) rfl (by kernel_rfl) (by kernel_rfl) (by kernel_rfl) (fun _ _ _ h => h) (Or.inl ⟨by rfl, ?_⟩) (by assumption) ?_
        rotate_left
        · (intro w' hSw; (try dsimp only at hSw); go_simp; try with_reducible rfl)
        try simp only [Act.put, List.setIfInBounds_toArray, List.set_cons_zero, List.set_cons_succ]
        refine wpAnyH_take (i := 6) (oi := Oper.mk (some 40) _ _ _ _ _) (v := ?_) rfl (by kernel_rfl) (by kernel_rfl) (by kernel_rfl) (fun _ _ _ h => h) (Or.inl ⟨by rfl, ?_⟩) (by assumption) ?_
        rotate_left
        · (intro w' hSw; (try dsimp only at hSw); go_simp; try with_reducible rfl)
        try simp only [Act.put, List.setIfInBounds_toArray, List.set_cons_zero, List.set_cons_succ]
        refine wpAnyH_take (i := 7) (oi := Oper.mk (some 41) _ _ _ _ _) (v := ?_) rfl (by kernel_rfl) (by kernel_rfl) (by kernel_rfl) (fun _ _ _ h => h) (Or.inl ⟨by rfl, ?_⟩) (by assumption) ?_
        rotate_left
        · (intro w' hSw; (try dsimp only at hSw); go_simp; try with_reducible rfl)
        try simp only [Act.put, List.setIfInBounds_toArray, List.set_cons_zero, List.set_cons_succ]
        refine wpAnyH_take (i := 8) (oi := Oper.mk (some 42) _ _ _ _ _) (v := ?_) rfl (by kernel_rfl) (by kernel_rfl) (by kernel_rfl) (fun _ _ _ h => h) (Or.inl ⟨by rfl, ?_⟩) (by assumption) ?_
        rotate_left
        · (intro w' hSw; (try dsimp only at hSw); go_simp; try with_reducible rfl)
        try simp only [Act.put, List.setIfInBounds_toArray, List.set_cons_zero, List.set_cons_succ]
        refine wpAnyH_ready (rs := [9]) (by kernel_rfl) (by simp) ?_
        refine AllReadyH.cons (o := Oper.mk (some 43) _ _ _ _ _) rfl (fun K hK => ?_) AllReadyH.nil
        go_simp
        try simp only []
        refine hK.out _ _ (b1.alloc b1.size (.cells #[.slice (some ad) (nv - i) cv, .slice (some (ad2.add i)) (nu - i) (cu - i)] 22)) (fun _ => ?_)
        clear hK K hHeld
        have hHeld := (b1.alloc b1.size (.cells #[.slice (some ad) (nv - i) cv, .slice (some (ad2.add i)) (nu - i) (cu - i)] 22))
        try simp only [Act.put, List.setIfInBounds_toArray, List.set_cons_zero, List.set_cons_succ]
        refine wpAnyH_ready (rs := [10]) (by kernel_rfl) (by simp) ?_
        refine AllReadyH.cons (o := Oper.mk (some 44) _ _ _ _ _) rfl (fun K hK => ?_) AllReadyH.nil
        go_simp
        refine HJ.out.mono ?_
        rintro e w5 ⟨A5, n5, c5, rfl, ho5, hb5⟩
        try simp only []
        have b5 : Below w.heap.size w w5 := b1.trans (hb5.mono b1.size)
        have ho5' : OwnI w5 w.heap.size (.slice A5 n5 c5) (v.take (nv - i) ++ u.drop i) := ho5.lower b1.size
        clear hb5 ho5
        refine hK.out _ _ b5 (fun _ => ?_)
        clear hK K hHeld
        have hHeld := b5
        try simp only [Act.put, List.setIfInBounds_toArray, List.set_cons_zero, List.set_cons_succ]
        refine wpAnyH_take (i := 11) (oi := Oper.mk (some 4) _ _ _ _ _) (v := ?_) rfl (by kernel_rfl) (by kernel_rfl) (by kernel_rfl) (fun _ _ _ h => h) (Or.inl ⟨by rfl, ?_⟩) (by assumption) ?_
        rotate_left
        · (intro w' hSw; (try dsimp only at hSw); go_simp; try with_reducible rfl)
        try simp only [Act.put, List.setIfInBounds_toArray, List.set_cons_zero, List.set_cons_succ]
        refine wpAnyH_done (by kernel_rfl) ?_ _
        refine NoPanic.normal ?_
        go_wp2_with fail
        go_ret
        exact ⟨A5, n5, c5, rfl, by rw [Hgl.out]; exact ho5', b5⟩
end Go.Proofs.YtmjnhpagoboejaaDoor

/- words.Commute, ref.Commute. -/
namespace Go.Proofs.YtmjnhpagoboejaaDoor
open Go.RowKit
open Wd
set_option linter.unusedSimpArgs false
set_option linter.unusedVariables false

def commB (a b : List Int) : Bool := decide (onl (short a) b = onl (short b) a)
set_option maxRecDepth 100000 in
set_option maxHeartbeats 2000000 in
theorem wcomm_out {w : World} {B na ca nb cb : Nat} {Aa Ab : Option Addr} {a b : List Int} (hra : ReadsI w B Aa a) (hrb : ReadsI w B Ab b) (hB : B ≤ w.heap.size) (hna : na = a.length) (hnb : nb = b.length) (hwa : Wf a) (hwb : Wf b) (hla : na ≤ 100000000) (hlb : nb ≤ 100000000) :
    Calls Tryd.prog 43 #[.slice Aa na ca, .slice Ab nb cb] w (AskOut w (.bool (decide (chk [a, b] = 0) && commB a b)) (chk [a, b])) := by
  have h2 := rows_lit w [(Aa, ca, a), (Ab, cb, b)] (B := B) (fun r hr => by
    simp only [List.mem_cons, List.mem_nil_iff, or_false] at hr
    rcases hr with rfl | rfl
    · exact hra
    · exact hrb) hB
  have hall : ∀ r ∈ [((Aa, ca, a) : SRow), (Ab, cb, b)], Wf r.2.2 ∧ r.2.2.length ≤ 1000000000000 := fun r hr => by
    simp only [List.mem_cons, List.mem_nil_iff, or_false] at hr
    rcases hr with rfl | rfl
    · exact ⟨hwa, by show a.length ≤ _; omega⟩
    · exact ⟨hwb, by show b.length ≤ _; omega⟩
  have HC := Lib.hid (show Calls Tryd.prog 57 #[.slice (some ⟨w.heap.size, 0, none⟩) 2 2] (w.alloc (.cells #[.slice Aa na ca, .slice Ab nb cb] 22)) (fun e w' => e = .returned (.int .i64 (chk [a, b])) ∧ w.alloc (.cells #[.slice Aa na ca, .slice Ab nb cb] 22) = w') by
    rw [hna, hnb]; exact check_any (c := 2) (n := 2) h2 rfl (by decide) hall)
  obtain ⟨W, hW⟩ : ∃ W, W = w.alloc (.cells #[.slice Aa na ca, .slice Ab nb cb] 22) := ⟨_, rfl⟩
  have HB0 := Lib.hid (show Below w.heap.size w W by rw [hW]; exact (Below.refl w.heap.size w).alloc (Nat.le_refl _) _)
  have hsW : w.heap.size ≤ W.heap.size := HB0.out.size
  clear h2 hall
  by_cases hz : chk [a, b] = 0
  · rw [hz] at HC ⊢
    have hlets := chk_words hz
    have hlA := hlets a (by simp)
    have hlB := hlets b (by simp)
    have HR := Lib.hid (And.intro (show ReadsI W W.heap.size Aa a by rw [hW]; exact (hra.alloc hB _).more (by simp; omega)) (show ReadsI W W.heap.size Ab b by rw [hW]; exact (hrb.alloc hB _).more (by simp; omega)))
    have Hn := Lib.hid (And.intro hna hnb)
    have HL := Lib.hid (And.intro hlA hlB)
    have hsa := short_len_le a
    have hsb := short_len_le b
    have HO := Lib.hid (fun (V : World) (B' n' c' nx cx : Nat) (A' Ax : Option Addr) (out l : List Int) (ho : OwnI V B' (.slice A' n' c') out) (hr : ReadsI V W.heap.size Ax l) (hW' : W.heap.size ≤ B') (hB' : B' ≤ V.heap.size) (hn : nx = l.length) (hl : LetL l) (h1 : out.length ≤ 10000) (h2 : l.length ≤ 10000) => on_any (cw := cx) ho (hr.more hW') hB' hn hl (by omega) (by omega))
    have Hs := Lib.hid (show (short a).length ≤ 4096 ∧ (short b).length ≤ 4096 by omega)
    have Hb := Lib.hid (show (decide ((0 : Int) = 0) && commB a b) = decide (onl (short a) b = onl (short b) a) by simp [commB])
    rw [Hb.out]
    have HW := Lib.hid hW
    clear hW
    clear hra hrb hB hna hnb hwa hwb hz hlets hlA hlB hsa hsb
    go_enter Tryd.func43, Tryd.ntmps43
    go_wp2_with fail
    refine HC.out.mono ?_
    rintro e w' ⟨rfl, hw'⟩
    have hw2 : W = w' := HW.out.trans hw'
    clear hw'
    subst hw2
    go_wp2_with fail
    refine (HO.out W W.heap.size 0 0 na ca none Aa [] a (OwnI.nil _ _) HR.out.1 (Nat.le_refl _) (Nat.le_refl _) Hn.out.1 HL.out.1.1 (by decide) (by have := HL.out.1.2; omega)).mono ?_
    rintro e w2 ⟨A2, n2, c2, rfl, ho2, hg2, _⟩
    have H2 := Lib.hid (show OwnI w2 W.heap.size (.slice A2 n2 c2) (short a) ∧ Below W.heap.size W w2 from ⟨ho2, (Below.refl _ _).grown hg2 (Nat.le_refl _) (fun g hg => by cases hg)⟩)
    clear ho2 hg2
    go_wp2_with fail
    refine (HO.out w2 W.heap.size n2 c2 nb cb A2 Ab (short a) b H2.out.1 (HR.out.2.below H2.out.2) (Nat.le_refl _) H2.out.2.size Hn.out.2 HL.out.2.1 (by have := Hs.out; omega) (by have := HL.out.2.2; omega)).mono ?_
    rintro e w3 ⟨A3, n3, c3, rfl, ho3, hg3, _⟩
    have H3 := Lib.hid (show OwnI w3 W.heap.size (.slice A3 n3 c3) (onl (short a) b) ∧ Below W.heap.size W w3 from ⟨ho3, H2.out.2.grown hg3 H2.out.2.size (fun g hg => (H2.out.1.lt g hg).1)⟩)
    clear ho3 hg3
    go_wp2_with fail
    refine (HO.out w3 w3.heap.size 0 0 nb cb none Ab [] b (OwnI.nil _ _) (HR.out.2.below H3.out.2) H3.out.2.size (Nat.le_refl _) Hn.out.2 HL.out.2.1 (by decide) (by have := HL.out.2.2; omega)).mono ?_
    rintro e w4 ⟨A4, n4, c4, rfl, ho4, hg4, _⟩
    have hb4 : Below w3.heap.size w3 w4 := (Below.refl _ _).grown hg4 (Nat.le_refl _) (fun g hg => by cases hg)
    have H4 := Lib.hid (show OwnI w4 w3.heap.size (.slice A4 n4 c4) (short b) ∧ OwnI w4 W.heap.size (.slice A3 n3 c3) (onl (short a) b) ∧ Below W.heap.size W w4 ∧ w3.heap.size ≤ w4.heap.size from ⟨ho4, H3.out.1.kept hb4, H3.out.2.trans (hb4.mono H3.out.2.size), hb4.size⟩)
    have Hb4 := Lib.hid hb4
    clear ho4 hg4 hb4
    go_wp2_with fail
    refine (HO.out w4 w3.heap.size n4 c4 na ca A4 Aa (short b) a H4.out.1 (HR.out.1.below H4.out.2.2.1) H3.out.2.size H4.out.2.2.2 Hn.out.1 HL.out.1.1 (by have := Hs.out; omega) (by have := HL.out.1.2; omega)).mono ?_
    rintro e w5 ⟨A5, n5, c5, rfl, ho5, hg5, _⟩
    have H5 := Lib.hid (show OwnI w5 w3.heap.size (.slice A5 n5 c5) (onl (short b) a) ∧ ReadsI w5 w3.heap.size A3 (onl (short a) b) ∧ Below W.heap.size W w5 from ⟨ho5, H3.out.1.reads.below (Hb4.out.grown hg5 H4.out.2.2.2 (fun g hg => (H4.out.1.lt g hg).1)), (H4.out.2.2.1.grown hg5 H4.out.2.2.1.size (fun g hg => Nat.le_trans H3.out.2.size (H4.out.1.lt g hg).1))⟩)
    clear ho5 hg5
    have hl3 := onl_len_le b (short a)
    have hl5 := onl_len_le a (short b)
    have HE := Lib.hid (equal_any (w := w5) (c := c3) (c' := c5) H5.out.2.1 H5.out.1.reads H3.out.1.len.1 H5.out.1.len.1 (by have := H3.out.1.len.1; have := Hs.out; have := HL.out; omega) (by have := H5.out.1.len.1; have := Hs.out; have := HL.out; omega))
    clear hl3 hl5
    generalize onl (short a) b = L3 at *
    generalize onl (short b) a = L5 at *
    go_wp2_with fail
    refine HE.out.mono ?_
    rintro e w6 ⟨d, rfl, rfl⟩
    go_wp2_with fail
    go_ret2
    exact ⟨rfl, HB0.out.trans ((bdrew H5.out.2.2 d).mono hsW)⟩
  · generalize hzz : chk [a, b] = z at *
    have hzb : (z != 0) = true := by simp; exact hz
    have Hd := Lib.hid (show (decide (z = 0) && commB a b) = false by rw [decide_eq_false hz, Bool.false_and])
    rw [Hd.out]
    rw [hW] at HB0
    clear hra hrb hB hna hnb hwa hwb hz hzz Hd hW hsW
    go_enter Tryd.func43, Tryd.ntmps43
    go_wp2_with fail
    refine HC.out.mono ?_
    rintro e w' ⟨rfl, rfl⟩
    go_wp2_with fail
    go_ret2
    exact ⟨rfl, HB0.out⟩
theorem comm_ref {a b : List Int} (ha : Nz a) (hb : Nz b) : short (short a ++ short b) = onl (short a) b := by
  rw [short_left ha, short_right ha hb, short_app]
set_option maxRecDepth 100000 in
set_option maxHeartbeats 2000000 in
/-- the reference's, of short words -/
theorem rcomm_any {w : World} {B na ca nb cb : Nat} {Aa Ab : Option Addr} {a b : List Int} (hra : ReadsI w B Aa a) (hrb : ReadsI w B Ab b) (hB : B ≤ w.heap.size) (hna : na = a.length) (hnb : nb = b.length) (hva : LetL a) (hvb : LetL b) (hla : na ≤ 10000) (hlb : nb ≤ 10000) :
    Calls Tryd.prog 47 #[.slice Aa na ca, .slice Ab nb cb] w (fun e w' => e = .returned (.bool (decide (short (a ++ b) = short (b ++ a)))) ∧ Below w.heap.size w w') := by
  have HJ := Lib.hid (fun (W : World) (h : Below w.heap.size w W) => rjoin2 (w := W) (c1 := ca) (c2 := cb) (hra.below (h.mono hB)) (hrb.below (h.mono hB)) (Nat.le_trans hB h.size) hna hnb (by omega))
  have HJ2 := Lib.hid (fun (W : World) (h : Below w.heap.size w W) => rjoin2 (w := W) (c1 := cb) (c2 := ca) (hrb.below (h.mono hB)) (hra.below (h.mono hB)) (Nat.le_trans hB h.size) hnb hna (by omega))
  have HL := Lib.hid (And.intro (show LetL (a ++ b) from fun k hk => (List.mem_append.1 hk).elim (hva k) (hvb k)) (And.intro (show LetL (b ++ a) from fun k hk => (List.mem_append.1 hk).elim (hvb k) (hva k)) (And.intro (show (a ++ b).length ≤ 20000 by rw [List.length_append]; omega) (show (b ++ a).length ≤ 20000 by rw [List.length_append]; omega))))
  clear hra hrb hB hna hnb hva hvb hla hlb
  generalize a ++ b = L at *
  generalize b ++ a = M at *
  obtain ⟨X, hX⟩ : ∃ X, X = short L := ⟨_, rfl⟩
  obtain ⟨Y, hY⟩ : ∃ Y, Y = short M := ⟨_, rfl⟩
  rw [← hX, ← hY]
  have hl1 := short_len_le L
  have hl2 := short_len_le M
  rw [← hX] at hl1
  rw [← hY] at hl2
  have HX := Lib.hid (And.intro hX (And.intro hY (And.intro hl1 hl2)))
  clear hX hY hl1 hl2
  go_enter Tryd.func47, Tryd.ntmps47
  go_wp2_with fail
  refine (HJ.out w (Below.refl _ _)).mono ?_
  rintro e w1 ⟨A1, n1, c1, rfl, ho1, hb1⟩
  have H1 := Lib.hid (And.intro ho1 hb1)
  clear ho1 hb1
  go_wp2_with fail
  refine (rshort_any (c := c1) H1.out.1.reads (Nat.le_refl _) H1.out.1.len.1 HL.out.1 (by have := H1.out.1.len.1; have := HL.out.2.2.1; omega)).mono ?_
  rintro e w2 ⟨A2, n2, c2, rfl, ho2, hb2⟩
  rw [← HX.out.1] at ho2
  have hs1 := H1.out.2.size
  have H2 := Lib.hid (And.intro ho2 (H1.out.2.trans (hb2.mono hs1)))
  have hs2 := H2.out.2.size
  clear ho2 hb2
  go_wp2_with fail
  refine (HJ2.out w2 H2.out.2).mono ?_
  rintro e w3 ⟨A3, n3, c3, rfl, ho3, hb3⟩
  have H3 := Lib.hid (And.intro ho3 hb3)
  have hs3 := hb3.size
  clear ho3 hb3
  go_wp2_with fail
  refine (rshort_any (c := c3) H3.out.1.reads (Nat.le_refl _) H3.out.1.len.1 HL.out.2.1 (by have := H3.out.1.len.1; have := HL.out.2.2.2; omega)).mono ?_
  rintro e w4 ⟨A4, n4, c4, rfl, ho4, hb4⟩
  rw [← HX.out.2.1] at ho4
  have H4 := Lib.hid (And.intro ho4 (H3.out.2.trans (hb4.mono hs3)))
  clear ho4 hb4
  have HE := Lib.hid (same_any (w := w4) (c := c2) (c' := c4) (H2.out.1.reads.below H4.out.2) H4.out.1.reads H2.out.1.len.1 H4.out.1.len.1 (by have := H2.out.1.len.1; have := HL.out; have := HX.out.2.2; omega) (by have := H4.out.1.len.1; have := HL.out; have := HX.out.2.2; omega))
  go_wp2_with fail
  refine HE.out.mono ?_
  rintro e w6 ⟨d, rfl, rfl⟩
  go_wp2_with fail
  go_ret
  exact ⟨rfl, bdrew (H2.out.2.trans (H4.out.2.mono hs2)) d⟩
end Go.Proofs.YtmjnhpagoboejaaDoor
