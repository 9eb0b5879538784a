/- WireLists' walk (printed by gen_law5.py). -/
import Derived.Test.YtgmienlifnpniaaLists
import Derived.Test.YtgmienlifnpniaaWritten
import Derived.Test.YtgmienlifnpniaaKnown
namespace Go.Proofs.Ytgmienlifnpniaa
open Go.RowKit
set_option linter.unusedSimpArgs false

set_option maxRecDepth 100000 in
set_option maxHeartbeats 8000000 in
theorem lists_none (A : Option Addr) (c : Nat) (l : List (Nat × Nat)) (cut : Int) (w : World) (hr : ReadsP w w.heap.size A l) (hA : 0 < l.length → ∃ ab ao, A = some ⟨ab, ao, none⟩) (hsm : Wire.Small l) (hl : l.length ≤ 1048576) (hpos : l.length = 0) :
    Calls Try.prog 5 #[.slice A l.length c, .int .i64 cut] w fun e w' => e = .returned (.bool true) ∧ Below w.heap.size w w' := by
  have HR := Lib.hid hr
  have HA := Lib.hid hA
  have HS := Lib.hid hsm
  have R10 := Lib.hid fun w => known_any w
  have RN := Lib.hid fun w => by have h := rnum_any (l.length : Int) w (by omega) (by omega); rw [Int.toNat_natCast] at h; exact h
  have TK := Lib.hid (show Wire.takeP (l.length : Int) ((Wire.formPs l).drop 0) = .ok l (Wire.formPs l).length by rw [List.drop_zero]; exact Wire.takeP_form hsm hl)
  have hb0 : decide (0 < l.length) = false := by simp [hpos]
  have hb1 : decide ((0 : Int) < (l.length : Int)) = false := by simp [hpos]
  clear hpos
  have HTC := Lib.hid (show ∀ k, k < (Wire.formPs l).length → Wire.takeP (l.length : Int) (((Wire.formPs l).take k).drop 0) = .err 110 from fun k hk => by rw [List.drop_zero]; exact Wire.takeP_cut hsm hl hk)
  have hFL : (Wire.formPs l).length ≤ 20971530 := by
    have h1 := Wire.form_len (n := l.length) (by omega)
    have h2 := Wire.body_len l hsm
    unfold Wire.formPs
    rw [List.length_append]
    omega
  obtain ⟨Lm, hLm⟩ : ∃ Lm, Lm = l ++ [(7, 71)] := ⟨_, rfl⟩
  have HLm := Lib.hid hLm
  have hL2 : l.length + 1 = Lm.length := by rw [hLm, List.length_append, List.length_singleton]
  have HL2 := Lib.hid hL2
  have hL3 : Lm.length ≤ 1048577 := by omega
  clear hr hA hsm hLm hL2
  go_enter Try.func5, Try.ntmps5
  go_wp2_with (first
    | (at_builtin; refine wpP_append (by rfl) (.const (.slice none 0 0)) (.tmp 19) (by rfl) w.heap.size _ [] (OwnP.nil w _) (by rfl) _ _ l l.length rfl HR.out _ (by rfl) (by simp; omega) (Nat.le_refl _) ?_; intro A1 n1 c1 w1 ho1 hg1; have z1 := hg1.size; have b1 : Below w.heap.size w w1 := (Below.refl _ _).grown hg1 (Nat.le_refl _) (by intro k hk; cases hk); have hlit : Reads (w1.alloc (.cells #[.int .u64 7, .int .u64 71] 57)) (w1.heap.size + 1) 2 (some ⟨w1.heap.size, 0, none⟩) 1 (pcells [(7, 71)]) := ownP_lit w1 (7, 71))
    | (at_builtin; refine wpP_append (by rfl) (.tmp 20) (.tmp 22) (by rfl) w.heap.size _ ([] ++ l) (ho1.alloc _) (by rfl) _ _ [(7, 71)] 1 rfl hlit _ (by rfl) (by simp; omega) (by rw [World.size_alloc]; omega) ?_; intro A2 n2 c2 w2 ho2 hg2; rw [List.nil_append, ← HLm.out] at ho2; obtain rfl := ho2.len; have hcc : (l.length : Int) ≤ (c2 : Int) := (by have := ho2.cap; have := HL2.out; omega); have hcc1 : (l.length : Int) + 1 ≤ (c2 : Int) := (by have := ho2.cap; have := HL2.out; omega); have hc0 : (0 : Int) ≤ (l.length : Int) := (by omega)))
  have z2 := hg2.size
  rw [World.size_alloc] at z2
  have b2 : Below w.heap.size w w2 := (b1.alloc z1 _).grown hg2 (by rw [World.size_alloc]; omega) (fun k hk => (ho1.alloc (.cells #[.int .u64 7, .int .u64 71] 57)).base hk)
  obtain ⟨mb, rfl, hmc⟩ := ho2.at_ (by have := HL2.out; omega)
  have RP := Lib.hid (putP_any (some ⟨mb, 0, none⟩) c2 l w2 (ReadsP.pre (r := [(7, 71)]) (by rw [← HLm.out]; exact ho2.reads)) (fun _ => ⟨mb, 0, rfl⟩) HS.out hl)
  have Ho2 := Lib.hid ho2
  clear hmc hg2 ho2 ho1 hg1 hlit b1 z1
  go_wp2_with fail
  refine RP.out.mono ?_
  rintro e w3 ⟨A3, n3, m3, rfl, ho3, hb3⟩
  obtain rfl := ho3.len
  have b3 := b2.up hb3 b2.size
  have hz3 := b3.size
  have hom := Ho2.out.kept hb3
  have HOM := Lib.hid hom
  have HC3 := Lib.hid ho3.cap.1
  obtain ⟨mb', emb, hmc⟩ := hom.at_ (by have := HL2.out; omega)
  obtain ⟨rfl⟩ : mb = mb' := by injection emb with emb; injection emb
  have hlast := hmc l.length (by have := HL2.out; omega)
  have elast : Lm[l.length]'(by have := HL2.out; omega) = (7, 71) := by
    have h0 := HLm.out
    subst h0
    simp
  rw [elast] at hlast
  obtain ⟨f0, f1⟩ := hlast
  unfold uv at f0 f1
  have f0' : w3.cell? ⟨mb, l.length * 2, none⟩ = some (.int .u64 7) := f0
  have f1' : w3.cell? ⟨mb, l.length * 2 + 1, none⟩ = some (.int .u64 71) := f1
  have hN := run_neq_two
  clear hmc f0 f1 elast hom hb3 z2 b2
  go_wp2_with (go_at_call 33; refine (num_errno _ _).mono ?_; rintro e w' ⟨rfl, rfl⟩)
  refine (RN.out _).mono ?_
  rintro e w4 ⟨A4, n4, c4, rfl, ho4, hb4⟩
  clear f0' f1' hN hcc1
  go_wp2_with fail
  go_loopg [8, 9] l.length (fun k sl i wr => ∃ (j : Nat) (A' : Option Addr) (n' c' : Nat), i = .int .i64 (j : Int) ∧ sl = .slice A' n' c' ∧ j + k = l.length ∧ OwnB wr w3.heap.size (.slice A' n' c') (Wire.form l.length ++ Wire.body (l.take j)) ∧ Below w3.heap.size w3 wr)
  case atStart => exact ⟨0, A4, n4, c4, rfl, rfl, by omega, by rw [List.take_zero, Wire.body_nil, List.append_nil]; exact ho4, hb4⟩
  case round =>
    obtain ⟨j, A', n', c', rfl, rfl, hj, ho, hbl⟩ := hrel
    have Hj := Lib.hid hj
    by_cases hlt : j < l.length
    · obtain ⟨ab, ao, rfl⟩ := HA.out (by omega)
      have hbw := b3.up hbl hz3
      obtain ⟨ad, e, had, hc⟩ := (show ReadsP w3 w.heap.size (some ⟨ab, ao, none⟩) l from Reads.below HR.out b3).at_ (by omega)
      obtain rfl := Option.some.inj e
      obtain ⟨p0, p1⟩ := hc j hlt
      rw [Addr.add_lit] at p0 p1
      rw [← Nat.add_assoc] at p1
      obtain ⟨bb, e2, hc2⟩ := HOM.out.at_ (by have := HL2.out; omega)
      obtain ⟨u0, u1⟩ := hc2 j (by have := HL2.out; omega)
      have eLj : Lm[j]'(by have := HL2.out; omega) = l[j] := by
        have h0 := HLm.out
        subst h0
        rw [List.getElem_append_left hlt]
      rw [eLj] at u0 u1
      obtain ⟨rfl⟩ : mb = bb := by injection e2 with e2; injection e2
      have hmb : mb < w3.heap.size := block_lt_of_cell u0
      have hab : ab < w3.heap.size := Nat.lt_of_lt_of_le had hz3
      have hs := HS.out l[j] (List.getElem_mem hlt)
      have htk := Lib.hid (show Wire.form l.length ++ Wire.body (l.take (j + 1)) = Wire.form l.length ++ Wire.body (l.take j) ++ Wire.form l[j].1 ++ Wire.form l[j].2 by
        rw [List.take_succ_eq_append_getElem hlt, Wire.body_snoc]; unfold Wire.formP; simp only [List.append_assoc])
      have hbd : (Wire.form l.length ++ Wire.body (l.take j)).length ≤ 20971530 := by
        have := Wire.body_len (l.take j) (fun p hp => HS.out p (List.mem_of_mem_take hp))
        have := Wire.form_len (n := l.length) (by omega)
        rw [List.length_append]
        rw [List.length_take] at *
        omega
      have lA := Wire.form_len hs.1
      have lB := Wire.form_len hs.2
      obtain ⟨⟨px, py⟩, hp⟩ : ∃ p, p = l[j] := ⟨_, rfl⟩
      rw [← hp] at p0 p1 u0 u1 hs htk lA lB
      simp only at lA lB htk hs
      have RA := Lib.hid fun w => by have h := rnum_any (px : Int) w (by omega) (by have := hs.1; omega); rw [Int.toNat_natCast] at h; exact h
      have RB := Lib.hid fun w => by have h := rnum_any (py : Int) w (by omega) (by have := hs.2; omega); rw [Int.toNat_natCast] at h; exact h
      unfold uv at p0 p1 u0 u1
      simp only at p0 p1 u0 u1
      have q0 := fun w' (h : Below w3.heap.size w3 w') => (h.cell (p := ⟨ab, ao + j * 2, none⟩) hab).trans p0
      have q1 := fun w' (h : Below w3.heap.size w3 w') => (h.cell (p := ⟨ab, ao + j * 2 + 1, none⟩) hab).trans p1
      have v0 := (hbl.cell (p := ⟨mb, j * 2, none⟩) hmb).trans u0
      have v1 := (hbl.cell (p := ⟨mb, j * 2 + 1, none⟩) hmb).trans u1
      have r0 := q0 wr hbl
      have r1 := q1 wr hbl
      have hN := run_neq_two
      have i0 : (0 : Int) ≤ (j : Int) := by omega
      have i1 : (j : Int) < (l.length : Int) := by omega
      have i2 : (j : Int) < (Lm.length : Int) := by have := HL2.out; omega
      clear hc hc2 hj hp eLj u0 u1 p0 p1 hs e2
      generalize Wire.form l.length ++ Wire.body (l.take j) = WA at *
      generalize Wire.form px = FA at *
      generalize Wire.form py = FB at *
      go_wp2_with fail
      go_quiet (fail)
      go_wp2_with fail
      obtain ⟨wo, rfl⟩ : ∃ wo : World, wo = wr := ⟨_, rfl⟩
      obtain ⟨wr, hwr⟩ : ∃ wr : World, wr = wo.drewN nq := ⟨_, rfl⟩
      have hbl := below_drewN hbl nq
      have ho := ho.drewN nq
      rw [← hwr] at hbl ho
      rw [← hwr]
      clear hwr v0 v1 r0 r1 hN
      refine wp_region_noPanic ?_
      refine wp_region_held_drew (S := fun w' => Below w3.heap.size w3 w') (by kernel_rfl) hbl.drew (fun hHeld => ?_)
      refine wpAnyH_take (i := 0) (oi := Oper.mk (some 67) _ _ _ _ _) (v := ?_) rfl (by kernel_rfl) (by kernel_rfl) (by kernel_rfl) (fun _ _ _ h => h) (Or.inl ⟨by rfl, ?_⟩) (by assumption) ?_
      rotate_left
      · (intro w' hSw; (try dsimp only at hSw); go_simp; try with_reducible rfl)
      try simp only [Act.put, List.setIfInBounds_toArray, List.set_cons_zero, List.set_cons_succ]
      refine wpAnyH_take (i := 1) (oi := Oper.mk (some 68) _ _ _ _ _) (v := ?_) rfl (by kernel_rfl) (by kernel_rfl) (by kernel_rfl) (fun _ _ _ h => h) (Or.inl ⟨by rfl, ?_⟩) (by assumption) ?_
      rotate_left
      · (intro w' hSw; (try dsimp only at hSw); go_simp; try with_reducible rfl)
      try simp only [Act.put, List.setIfInBounds_toArray, List.set_cons_zero, List.set_cons_succ]
      refine wpAnyH_take (i := 2) (oi := Oper.mk (some 69) _ _ _ _ _) (v := ?_) rfl (by kernel_rfl) (by kernel_rfl) (by kernel_rfl) (fun _ _ _ h => h) (Or.inl ⟨by rfl, ?_⟩) (by assumption) ?_
      rotate_left
      · (intro w' hSw; (try dsimp only at hSw); go_simp; try with_reducible rfl)
      try simp only [Act.put, List.setIfInBounds_toArray, List.set_cons_zero, List.set_cons_succ]
      refine wpAnyH_take (i := 3) (oi := Oper.mk (some 70) _ _ _ _ _) (v := ?_) rfl (by kernel_rfl) (by kernel_rfl) (by kernel_rfl) (fun _ _ _ h => h) (Or.inl ⟨by rfl, ?_⟩) (by assumption) ?_
      rotate_left
      · (intro w' hSw; (try dsimp only at hSw); go_simp; try with_reducible rfl)
      try simp only [Act.put, List.setIfInBounds_toArray, List.set_cons_zero, List.set_cons_succ]
      refine wpAnyH_take (i := 4) (oi := Oper.mk (some 71) _ _ _ _ _) (v := ?_) rfl (by kernel_rfl) (by kernel_rfl) (by kernel_rfl) (fun _ _ _ h => h) (Or.inl ⟨by rfl, ?_⟩) (by assumption) ?_
      rotate_left
      · (intro w' hSw; (try dsimp only at hSw); go_simp; try with_reducible rfl)
      try simp only [Act.put, List.setIfInBounds_toArray, List.set_cons_zero, List.set_cons_succ]
      refine wpAnyH_take (i := 5) (oi := Oper.mk (some 72) _ _ _ _ _) (v := ?_) rfl (by kernel_rfl) (by kernel_rfl) (by kernel_rfl) (fun _ _ _ h => h) (Or.inl ⟨by rfl, ?_⟩) (by assumption) ?_
      rotate_left
      · (intro w' hSw; (try dsimp only at hSw); go_simp; try with_reducible rfl)
      try simp only [Act.put, List.setIfInBounds_toArray, List.set_cons_zero, List.set_cons_succ]
      refine wpAnyH_take (i := 8) (oi := Oper.mk (some 75) _ _ _ _ _) (v := ?_) rfl (by kernel_rfl) (by kernel_rfl) (by kernel_rfl) (fun _ _ _ h => h) (Or.inl ⟨by rfl, ?_⟩) (by assumption) ?_
      rotate_left
      · (intro w' hSw; (try dsimp only at hSw); go_simp; try with_reducible rfl)
      try simp only [Act.put, List.setIfInBounds_toArray, List.set_cons_zero, List.set_cons_succ]
      refine wpAnyH_take (i := 9) (oi := Oper.mk (some 76) _ _ _ _ _) (v := ?_) rfl (by kernel_rfl) (by kernel_rfl) (by kernel_rfl) (fun _ _ _ h => h) (Or.inl ⟨by rfl, ?_⟩) (by assumption) ?_
      rotate_left
      · (intro w' hSw; (try dsimp only at hSw); go_simp; try with_reducible rfl)
      try simp only [Act.put, List.setIfInBounds_toArray, List.set_cons_zero, List.set_cons_succ]
      refine wpAnyH_take (i := 10) (oi := Oper.mk (some 77) _ _ _ _ _) (v := ?_) rfl (by kernel_rfl) (by kernel_rfl) (by kernel_rfl) (fun _ _ _ h => h) (Or.inl ⟨by rfl, ?_⟩) (by assumption) ?_
      rotate_left
      · (intro w' hSw; (try dsimp only at hSw); go_simp; try with_reducible rfl)
      try simp only [Act.put, List.setIfInBounds_toArray, List.set_cons_zero, List.set_cons_succ]
      refine wpAnyH_take (i := 11) (oi := Oper.mk (some 78) _ _ _ _ _) (v := ?_) rfl (by kernel_rfl) (by kernel_rfl) (by kernel_rfl) (fun _ _ _ h => h) (Or.inl ⟨by rfl, ?_⟩) (by assumption) ?_
      rotate_left
      · (intro w' hSw; (try dsimp only at hSw); go_simp; try with_reducible rfl)
      try simp only [Act.put, List.setIfInBounds_toArray, List.set_cons_zero, List.set_cons_succ]
      refine wpAnyH_take (i := 12) (oi := Oper.mk (some 79) _ _ _ _ _) (v := ?_) rfl (by kernel_rfl) (by kernel_rfl) (by kernel_rfl) (fun _ _ _ h => h) (Or.inl ⟨by rfl, ?_⟩) (by assumption) ?_
      rotate_left
      · (intro w' hSw; (try dsimp only at hSw); go_simp; try with_reducible rfl)
      try simp only [Act.put, List.setIfInBounds_toArray, List.set_cons_zero, List.set_cons_succ]
      refine wpAnyH_ready (rs := [6]) (by kernel_rfl) (by simp) ?_
      refine AllReadyH.cons (o := Oper.mk (some 73) _ _ _ _ _) rfl (fun K hK => ?_) AllReadyH.nil
      go_simp
      refine (RA.out _).mono ?_
      rintro e w5 ⟨A5, m5, d5, rfl, ho5, hb5⟩
      try simp only []
      replace hb5 := undrew hb5
      have cw5 := ho.kept hb5
      have b5 := hbl.up hb5 hbl.size
      obtain rfl := ho5.len
      refine hK.out _ _ b5 (fun _ => ?_)
      clear hK K hHeld
      have hHeld := b5
      try simp only [Act.put, List.setIfInBounds_toArray, List.set_cons_zero, List.set_cons_succ]
      refine wpAnyH_ready (rs := [7]) (by kernel_rfl) (by simp) ?_
      refine AllReadyH.cons (o := Oper.mk (some 74) _ _ _ _ _) rfl (fun K hK => ?_) AllReadyH.nil
      refine stepB_append (by rfl) (.tmp 67) (.tmp 73) (by rfl) w3.heap.size _ WA cw5 (by rfl) _ _ FA ho5.reads _ _ rfl (by rfl) (by (try simp only [List.length_append]); omega) b5.size ?_
      intro A6 m6 d6 w6 ho6 hg6 hnx6
      clear hnx6
      have b6 := b5.own b5.size cw5 hg6
      refine hK.out _ _ b6 (fun _ => ?_)
      clear hK K hHeld
      have hHeld := b6
      try simp only [Act.put, List.setIfInBounds_toArray, List.set_cons_zero, List.set_cons_succ]
      refine wpAnyH_ready (rs := [13]) (by kernel_rfl) (by simp) ?_
      refine AllReadyH.cons (o := Oper.mk (some 80) _ _ _ _ _) rfl (fun K hK => ?_) AllReadyH.nil
      go_simp
      refine (RB.out _).mono ?_
      rintro e w7 ⟨A7, m7, d7, rfl, ho7, hb7⟩
      try simp only []
      have cw7 := ho6.kept hb7
      have b7 := b6.up hb7 b6.size
      obtain rfl := ho7.len
      refine hK.out _ _ b7 (fun _ => ?_)
      clear hK K hHeld
      have hHeld := b7
      try simp only [Act.put, List.setIfInBounds_toArray, List.set_cons_zero, List.set_cons_succ]
      refine wpAnyH_ready (rs := [14]) (by kernel_rfl) (by simp) ?_
      refine AllReadyH.cons (o := Oper.mk (some 81) _ _ _ _ _) rfl (fun K hK => ?_) AllReadyH.nil
      refine stepB_append (by rfl) (.tmp 74) (.tmp 80) (by rfl) w3.heap.size _ (WA ++ FA) cw7 (by rfl) _ _ FB ho7.reads _ _ rfl (by rfl) (by (try simp only [List.length_append]); omega) b7.size ?_
      intro A8 m8 d8 w8 ho8 hg8 hnx8
      clear hnx8
      have b8 := b7.own b7.size cw7 hg8
      refine hK.out _ _ b8 (fun _ => ?_)
      clear hK K hHeld
      have hHeld := b8
      try simp only [Act.put, List.setIfInBounds_toArray, List.set_cons_zero, List.set_cons_succ]
      refine wpAnyH_take (i := 15) (oi := Oper.mk (some 8) _ _ _ _ _) (v := ?_) rfl (by kernel_rfl) (by kernel_rfl) (by kernel_rfl) (fun _ _ _ h => h) (Or.inl ⟨by rfl, ?_⟩) (by assumption) ?_
      rotate_left
      · (intro w' hSw; (try dsimp only at hSw); go_simp; try with_reducible rfl)
      try simp only [Act.put, List.setIfInBounds_toArray, List.set_cons_zero, List.set_cons_succ]
      refine wpAnyH_done (by kernel_rfl) ?_ _
      refine NoPanic.normal ?_
      go_wp2_with fail
      go_roundg (l.length - (j + 1))
      case measure => have := Hj.out; omega
      case rel =>
        exact ⟨j + 1, A8, m8, d8, by go_num, rfl, by omega, by rw [htk.out]; exact ho8, b8⟩
    · have hjl : j = l.length := by omega
      subst hjl
      clear hj
      rw [List.take_length] at ho
      have ho : OwnB wr w3.heap.size (.slice A' n' c') (Wire.formPs l) := ho
      obtain rfl := ho.len
      generalize Wire.formPs l = FL at *
      have hw9 := ho
      have t1 := (ho3.kept hbl).str0 rfl
      have t2 := hw9.str0 rfl
      have ho39 := ho3.kept hbl
      have hz9 := hbl.size
      have HBL := Lib.hid hbl
      clear ho hbl
      obtain ⟨wp, rfl⟩ : ∃ wp : World, wp = wr := ⟨_, rfl⟩
      go_wp2_with fail
      refine (open_any _ _ _ FL _ ho39.reads (by omega) rfl).mono ?_
      rintro e w10 ⟨g, v, rfl, hr10, hb10⟩
      clear t1 t2 hw9
      have z10 := hb10.size
      have b10 := HBL.out.up hb10 hz9
      go_wp2_with fail
      have hr11 := hr10
      have hb11 := hb10
      have b11 := b10
      have z11 := hb11.size
      clear hr10 hb10 b10
      refine ((takeP_any hr11 (by omega) (by omega)).mono fun e w' hh => takepr_ok' TK.out hh).mono ?_
      rintro e w12 ⟨A12, n12, c12, rfl, ho12, hr12, hg12⟩
      obtain rfl := ho12.len
      have hb12 := hb11.rd' hr11 z11 hg12
      have b12 := HBL.out.up hb12 hz9
      rw [Nat.zero_add] at hr12
      have R38 : Calls Try.prog 38 #[.pointer (some ⟨g, 0, none⟩)] w12 fun e w' => e = .returned (.int .i64 0) ∧ ∃ n, w12.drewN n = w' := (left_any hr12).mono fun e w' ⟨he, hw⟩ => ⟨by rw [he, Nat.sub_self]; rfl, hw⟩
      have R38 := Lib.hid R38
      have ho3C := ho3.kept b12
      have z12 := b12.size
      clear hr11 hb11 b11 hr12 hg12 hb12 z11
      have Ho12 := Lib.hid ho12
      have Ho3C := Lib.hid ho3C
      have B12 := Lib.hid b12
      clear ho12 ho3C b12 ho3
      go_wp2_with (first
        | (go_at_call 33; refine (num_errno _ _).mono ?_; rintro e w' ⟨rfl, rfl⟩)
        | (go_at_call 38; (with_reducible refine R38.out.mono ?_); rintro e w' ⟨rfl, k38, rfl⟩))
      go_loopg [15] l.length (fun k i wr => ∃ (j nd : Nat), i = .int .i64 (j : Int) ∧ j + k = l.length ∧ wr = w12.drewN nd)
      case atStart => exact ⟨0, k38, rfl, by omega, rfl⟩
      case round =>
        obtain ⟨j, nd, rfl, hj, rfl⟩ := hrel
        have Hj := Lib.hid hj
        by_cases hlt : j < l.length
        · obtain ⟨ab, ao, rfl⟩ := HA.out (by omega)
          obtain ⟨ad, e, had, hc⟩ := (show ReadsP w12 w.heap.size (some ⟨ab, ao, none⟩) l from Reads.below HR.out (b3.up B12.out hz3)).at_ (by omega)
          obtain rfl := Option.some.inj e
          obtain ⟨q0, q1⟩ := hc j hlt
          rw [Addr.add_lit] at q0 q1
          rw [← Nat.add_assoc] at q1
          obtain ⟨bb, rfl, hc2⟩ := Ho12.out.at_ (by omega)
          obtain ⟨u0, u1⟩ := hc2 j hlt
          have hN := run_neq_two
          have i0 : (0 : Int) ≤ (j : Int) := by omega
          have i1 : (j : Int) < (l.length : Int) := by omega
          unfold uv at q0 q1 u0 u1
          generalize l[j] = pj at *
          clear hc hc2 hj
          go_wp2_with (go_quiet (fail))
          go_roundg (l.length - (j + 1))
          case measure => have := Hj.out; omega
          case rel => exact ⟨j + 1, _, by go_num, by omega, rfl⟩
        · clear hj
          have BB0 := below_drewN (b3.up B12.out hz3) nd
          have hoD := Ho3C.out.drewN nd
          by_cases hc0 : cut < 0
          · go_wp2_with fail
            refine (R10.out _).mono ?_
            rintro e w20 ⟨rfl, hb20⟩
            go_wp2
            go_ret
            exact ⟨rfl, BB0.up hb20 BB0.size⟩
          · by_cases hc1 : (FL.length : Int) ≤ cut
            · have hc0' : 0 ≤ cut := by omega
              go_wp2_with fail
              refine (R10.out _).mono ?_
              rintro e w20 ⟨rfl, hb20⟩
              go_wp2
              go_ret
              exact ⟨rfl, BB0.up hb20 BB0.size⟩
            · obtain ⟨kk, rfl⟩ := Int.eq_ofNat_of_zero_le (show 0 ≤ cut by omega)
              have hkk : kk < FL.length := by omega
              have TC := Lib.hid (HTC.out kk hkk)
              have hcap3 := HC3.out
              have i0 : (0 : Int) ≤ (kk : Int) := by omega
              have i1 : (kk : Int) < (FL.length : Int) := by omega
              have i2 : (kk : Int) ≤ (m3 : Int) := by omega
              have hrd := Lib.hid (hoD.reads.take kk (by omega))
              clear hc0 hc1
              go_wp2_with fail
              refine (open_any _ _ _ (FL.take kk) _ hrd.out (by rw [List.length_take]; omega) (by rw [List.length_take]; omega)).mono ?_
              rintro e w15 ⟨g5, v5, rfl, hr15, hb15⟩
              have B15 := BB0.up hb15 BB0.size
              have z15 := hb15.size
              go_wp2_with fail
              refine ((takeP_any hr15 (by omega) (by rw [List.length_take]; omega)).mono fun e w' hh => takepr_err' TC.out hh).mono ?_
              rintro e w16 ⟨rfl, hr16, hg16⟩
              have hb16 := hb15.rd' hr15 z15 hg16
              have B16 := BB0.up hb16 BB0.size
              go_wp2_with (first
                | (go_at_call 33; refine (num_errno _ _).mono ?_; rintro e w' ⟨rfl, rfl⟩)
                | (go_at_call 37; refine (place_any hr16).mono ?_; rintro e w' ⟨rfl, rfl⟩)
                | (go_at_call 10; refine (R10.out _).mono ?_; rintro e w17 ⟨rfl, hb17⟩; have B17 := B16.up hb17 B16.size))
              go_ret
              exact ⟨rfl, B17⟩
end Go.Proofs.Ytgmienlifnpniaa
