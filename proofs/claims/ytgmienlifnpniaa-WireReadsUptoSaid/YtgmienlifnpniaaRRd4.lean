/- The reference's reader: Whole (printed by gen_rwhole.py). -/
import Derived.Test.YtgmienlifnpniaaRRd3
import Derived.Test.YtgmienlifnpniaaFrac
import Derived.Test.YtgmienlifnpniaaRdWhole
import Derived.Test.YtgmienlifnpniaaHeld
namespace Go.Proofs.Ytgmienlifnpniaa
open Go.RowKit
set_option linter.unusedSimpArgs false

set_option maxRecDepth 100000 in
set_option maxHeartbeats 8000000 in
theorem rwholeR_any {w : World} {B g c a : Nat} {A : Option Addr} {l : List UInt8} (h : RR w B g A c l a) :
    Calls Try.prog 77 #[.pointer (some ⟨g, 0, none⟩)] w (RReads valW (.agg #[.bool false, .string ⟨#[]⟩]) (Wire.whole (l.drop a)) w B g A c l a) := by
  have h2 := h.alloc (.cells #[.bool false, .string ⟨#[]⟩] 28)
  have hB0 := Blk.new w 28 #[.bool false, .string ⟨#[]⟩]
  have c1 := h2.c1
  have hle := h.le
  have hll := h.len
  have hcap := h.cap2
  have hcap1 := h.cap
  have hgl := h.lt
  unfold maxLen at hcap
  have hk : (l.drop a).length = l.length - a := List.length_drop
  have hne0 : some w.heap.size ≠ some g := fun e => by have := Option.some.inj e; omega
  have ng : w.heap.size ≠ g := by omega
  have HB0 := Lib.hid hB0
  have Hh := Lib.hid h
  have ga : ∀ {wa : World}, (w.alloc (.cells #[.bool false, .string ⟨#[]⟩] 28)).grownBy wa (some g) → w.heap.size < wa.heap.size := fun h => by have := h.size; simp only [World.size_alloc] at this; omega
  cases hn : Wire.num (l.drop a) with
  | err k =>
    have Hs := Lib.hid (show Wire.whole (l.drop a) = .err k by unfold Wire.whole; rw [hn])
    have H1 := Lib.hid ((rnumber_any h2).mono fun e w' hh => rreads_err' hn hh)
    have hc := Wire.numGo_err _ _ _ _ _ hn
    clear hn h h2 hB0
    rcases hc with rfl | rfl
    all_goals
      go_enter Try.func77, Try.ntmps77
      go_wp2_with fail
      refine H1.out.mono ?_
      rintro e w1 ⟨rfl, hr1, hg1⟩
      have f1' := hr1.f1
      have c1' := hr1.c1
      have k0 := HB0.out.grown hg1 hne0
      have q0 : w1.cell? ⟨w.heap.size, 0, none⟩ = some (.bool false) := k0.cell 0
      have q1 : w1.cell? ⟨w.heap.size, 1, none⟩ = some (.string ⟨#[]⟩) := k0.cell 1
      have f0 := k0.frozen 0
      have f1 := k0.frozen 1
      clear k0
      go_wp2_with fail
      refine bodyPost_ret (by simp [results, Try.results77, go_sem, q0, q1, ng]; rfl) rfl ?_
      exact rreads_err Hs.out ⟨rfl, RR.off Hh.out (RR.off Hh.out (hr1.go a hle) (Nat.le_refl _) _) (Nat.le_refl _) _, only_new (only_new (only_setCell (p := ⟨g, 1, none⟩) (only_of_alloc hg1) (.inl rfl) _) (Nat.le_refl _) _) (Nat.le_refl _) _⟩
  | ok n k =>
    obtain ⟨hn1, hn2, hn3⟩ := Wire.num_bd hn
    have H1 := Lib.hid ((rnumber_any h2).mono fun e w' hh => rreads_ok' hn hh)
    obtain ⟨q, hq⟩ : ∃ q, q = n / 2 := ⟨_, rfl⟩
    have Hqi := Lib.hid (show ((n : Int) / 2) = (q : Int) by omega)
    by_cases h3 : 16384 < q
    · have Hs := Lib.hid (show Wire.whole (l.drop a) = .err 111 by unfold Wire.whole; rw [hn]; exact if_pos (by omega))
      have h3' : (16384 : Int) < (n : Int) / 2 := by omega
      clear hn h h2 hB0 hn3 hn2 hk
      go_enter Try.func77, Try.ntmps77
      go_wp2_with fail
      refine H1.out.mono ?_
      rintro e w1 ⟨rfl, hr1, hg1⟩
      have f1' := hr1.f1
      have c1' := hr1.c1
      have k0 := HB0.out.grown hg1 hne0
      have q0 : w1.cell? ⟨w.heap.size, 0, none⟩ = some (.bool false) := k0.cell 0
      have q1 : w1.cell? ⟨w.heap.size, 1, none⟩ = some (.string ⟨#[]⟩) := k0.cell 1
      have f0 := k0.frozen 0
      have f1 := k0.frozen 1
      clear k0
      go_wp2_with fail
      refine bodyPost_ret (by simp [results, Try.results77, go_sem, q0, q1, ng]; rfl) rfl ?_
      exact rreads_err Hs.out ⟨rfl, RR.off Hh.out (RR.off Hh.out (hr1.go a hle) (Nat.le_refl _) _) (Nat.le_refl _) _, only_new (only_new (only_setCell (p := ⟨g, 1, none⟩) (only_of_alloc hg1) (.inl rfl) _) (Nat.le_refl _) _) (Nat.le_refl _) _⟩
    · by_cases h4 : l.length - (a + k) < q
      · have Hs := Lib.hid (show Wire.whole (l.drop a) = .err 110 by unfold Wire.whole; rw [hn]; simp only; rw [if_neg (by omega), if_pos (by omega)])
        have h3' : (n : Int) / 2 ≤ 16384 := by omega
        have h4' : ((l.length - (a + k) : Nat) : Int) < (n : Int) / 2 := by omega
        have h5 : ((l.length - (a + k) : Nat) : Int) ≤ 140737488355328 := by omega
        have HL := Lib.hid fun w' (h' : RR w' B g A c l (a + k)) => rleft_any h'
        generalize l.length - (a + k) = m at *
        clear hn h h2 hB0 hn3 hn2 hk h4 h3
        go_enter Try.func77, Try.ntmps77
        go_wp2_with fail
        refine H1.out.mono ?_
        rintro e w1 ⟨rfl, hr1, hg1⟩
        go_wp2_with fail
        refine (HL.out _ hr1).mono ?_
        rintro e w2 ⟨rfl, kq, rfl⟩
        have f1' := (hr1.drewN kq).f1
        have c1' := (hr1.drewN kq).c1
        have k0 := HB0.out.grown (only_drewN hg1 kq) hne0
        have q0 : (w1.drewN kq).cell? ⟨w.heap.size, 0, none⟩ = some (.bool false) := k0.cell 0
        have q1 : (w1.drewN kq).cell? ⟨w.heap.size, 1, none⟩ = some (.string ⟨#[]⟩) := k0.cell 1
        have f0 := k0.frozen 0
        have f1 := k0.frozen 1
        clear k0
        go_wp2_with fail
        refine bodyPost_ret (by simp [results, Try.results77, go_sem, q0, q1, ng]; rfl) rfl ?_
        exact rreads_err Hs.out ⟨rfl, RR.off Hh.out (RR.off Hh.out ((hr1.drewN kq).go a hle) (Nat.le_refl _) _) (Nat.le_refl _) _, only_new (only_new (only_setCell (p := ⟨g, 1, none⟩) (only_drewN (only_of_alloc hg1) kq) (.inl rfl) _) (Nat.le_refl _) _) (Nat.le_refl _) _⟩
      · have h3' : (n : Int) / 2 ≤ 16384 := by omega
        have h4' : (n : Int) / 2 ≤ ((l.length - (a + k) : Nat) : Int) := by omega
        have h5 : ((l.length - (a + k) : Nat) : Int) ≤ 140737488355328 := by omega
        have HL := Lib.hid fun w' (h' : RR w' B g A c l (a + k)) => rleft_any h'
        obtain ⟨ad, rfl, hb⟩ := h.bytes (by omega)
        have hpn : a + k + q ≤ l.length := by omega
        have hd2 : (l.drop a).drop k = l.drop (a + k) := List.drop_drop
        obtain ⟨neg, hneg, hneg2⟩ : ∃ neg, (((n : Int).tmod 2) == 1) = neg ∧ decide (n % 2 = 1) = neg := by
          refine ⟨_, rfl, ?_⟩
          rw [Int.tmod_eq_emod_of_nonneg (by omega), Bool.eq_iff_iff]
          simp
          omega
        have Hs0 := Lib.hid (show Wire.whole (l.drop a) = if Wire.plainW 16384 neg (((l.drop a).drop k).take q) = true then .ok (neg, ⟨(((l.drop a).drop k).take q).toArray⟩) (k + q) else .err 111 by unfold Wire.whole; rw [hn]; simp only; rw [if_neg (by omega), if_neg (by omega), hneg2, hq])
        rw [hd2] at Hs0
        have hak := Lib.hid (show a + (k + q) = a + k + q by omega)
        obtain ⟨s, hs⟩ : ∃ s : ByteArray, s = ⟨((l.drop (a + k)).take q).toArray⟩ := ⟨_, rfl⟩
        have hs2 : (l.drop (a + k)).take q = s.data.toList := by subst hs; rfl
        have hsz : s.size ≤ 16384 := by subst hs; show (List.toArray _).size ≤ _; simp; omega
        rw [← hs, hs2] at Hs0
        have HS := Lib.hid hs
        have HP := Lib.hid (fun w => rwhole_any neg s w (by omega))
        have Hq := Lib.hid hq
        generalize l.length - (a + k) = m at *
        clear hn h h2 hB0 hn3 hn2 hk h4 h3 hb hd2 hneg2 hs2 hs hq
        generalize a + k = p at *
        have hpn2 : (p : Int) + (n : Int) / 2 ≤ 140737488355328 := by have := Hqi.out; omega
        go_enter Try.func77, Try.ntmps77
        go_wp2_with fail
        refine H1.out.mono ?_
        rintro e w1 ⟨rfl, hr1, hg1⟩
        have k1 := HB0.out.grown hg1 hne0
        have f1' := hr1.f1
        have c1' := hr1.c1
        have zw := ga hg1
        go_wp2_with fail
        refine (HL.out _ hr1).mono ?_
        rintro e w2 ⟨rfl, kq, rfl⟩
        go_wp2_with fail
        rw [Hqi.out]
        have hdv : (n : Int).tdiv 2 = (q : Int) := by rw [Int.tdiv_eq_ediv_of_nonneg (by omega)]; exact Hqi.out
        have hr2 := (hr1.drewN kq).go (p + q) hpn
        rw [show (((p + q : Nat) : Nat) : Int) = (p : Int) + q by omega] at hr2
        have c0' := hr2.c0
        have c2' : ((w1.drewN kq).setCell ⟨g, 1, none⟩ (.int .i64 ((p : Int) + q))).cell? ⟨g, 1, none⟩ = some (.int .i64 ((p : Int) + q)) := hr2.c1
        have hg2 := only_setCell (p := ⟨g, 1, none⟩) (only_drewN (only_of_alloc hg1) kq) (.inl rfl) (.int .i64 ((p : Int) + q))
        have k2 := (k1.drewN kq).far (p := ⟨g, 1, none⟩) (show w.heap.size ≠ g by omega) (.int .i64 ((p : Int) + q))
        have gw : g < (w1.drewN kq).heap.size := hr1.lt
        have zw2 : w.heap.size < (w1.drewN kq).heap.size := zw
        rw [← World.size_setCell (w1.drewN kq) ⟨g, 1, none⟩ (.int .i64 ((p : Int) + q))] at gw zw2
        generalize (w1.drewN kq).setCell ⟨g, 1, none⟩ (.int .i64 ((p : Int) + q)) = W1 at *
        have s1 : IntKind.i64.wrap ((p : Int) + q - q) = (p : Int) := by rw [IntKind.wrap_i64]; omega
        have s9 : IntKind.i64.wrap (p : Int) = (p : Int) := by rw [IntKind.wrap_i64]; omega
        have s11 : IntKind.u64.wrap (q : Int) = (q : Int) := by rw [IntKind.wrap_u64]; omega
        have s6 : IntKind.i64.wrap (q : Int) = (q : Int) := by rw [IntKind.wrap_i64]; omega
        have s10 : p + q - p = q := by omega
        have s2 : (0 : Int) ≤ p := by omega
        have s3 : (p : Int) ≤ (p : Int) + q := by omega
        have s4 : (p : Int) + q ≤ c := by omega
        have s5 : ((p : Int) + q).toNat = p + q := by omega
        have t0 := fun w' (hb : Below W1.heap.size W1 w') => (hb.cell (p := ⟨g, 0, none⟩) gw).trans c0'
        have t1 := fun w' (hb : Below W1.heap.size W1 w') => (hb.cell (p := ⟨g, 1, none⟩) gw).trans c2'
        clear c0' c2' f1' c1' k1 hr1 hg1
        have hsB : ∀ w' c', Below W1.heap.size W1 w' → (convert 23 9 (.slice (some (ad.add p)) q c')).run Try.prog w' = .ok (.string s) w' := fun w' c' hb => by
          have hB : ReadsB w' B (some ad) l := Reads.below hr2.read ⟨hb.os, hb.tape, hb.output, by have := hr2.base; have := hb.size; omega, fun i hi => hb.block i (by have := hr2.base; omega)⟩
          have t := sub_str (c := c') hB p q hpn
          rw [← HS.out] at t
          exact t
        by_cases hcp : c = p
        · subst hcp
          have hq0 : q = 0 := by omega
          have t2 : ∀ w', Below W1.heap.size W1 w' → (convert 23 9 (.slice (some ad) q 0)).run Try.prog w' = .ok (.string s) w' := fun w' hb => by
            have t := hsB w' 0 hb
            rw [hq0] at t ⊢
            have e : s = ⟨#[]⟩ := by rw [HS.out, hq0]; rfl
            rw [e]
            exact none_str
          clear hsB hq0
          refine wp_region_noPanic ?_
          refine wp_region_held_drew (S := fun w' => Below W1.heap.size W1 w') (by kernel_rfl) (Below.refl _ _).drew (fun hHeld => ?_)
          refine wpAnyH_take (i := 0) (oi := Oper.mk (some 53) _ _ _ _ _) (v := ?_) rfl (by kernel_rfl) (by kernel_rfl) (by kernel_rfl) (fun _ _ _ h => h) (Or.inl ⟨by rfl, ?_⟩) (by assumption) ?_
          rotate_left
          · (intro w' hSw; (try dsimp only at hSw); go_simp; try with_reducible rfl)
          try simp only [Act.put, List.setIfInBounds_toArray, List.set_cons_zero, List.set_cons_succ]
          refine wpAnyH_take (i := 1) (oi := Oper.mk (some 54) _ _ _ _ _) (v := ?_) rfl (by kernel_rfl) (by kernel_rfl) (by kernel_rfl) (fun _ _ _ h => h) (Or.inl ⟨by rfl, ?_⟩) (by assumption) ?_
          rotate_left
          · (intro w' hSw; (try dsimp only at hSw); go_simp; try with_reducible rfl)
          try simp only [Act.put, List.setIfInBounds_toArray, List.set_cons_zero, List.set_cons_succ]
          refine wpAnyH_take (i := 2) (oi := Oper.mk (some 55) _ _ _ _ _) (v := ?_) rfl (by kernel_rfl) (by kernel_rfl) (by kernel_rfl) (fun _ _ _ h => h) (Or.inl ⟨by rfl, ?_⟩) (by assumption) ?_
          rotate_left
          · (intro w' hSw; (try dsimp only at hSw); go_simp; try with_reducible rfl)
          try simp only [Act.put, List.setIfInBounds_toArray, List.set_cons_zero, List.set_cons_succ]
          refine wpAnyH_take (i := 3) (oi := Oper.mk (some 56) _ _ _ _ _) (v := ?_) rfl (by kernel_rfl) (by kernel_rfl) (by kernel_rfl) (fun _ _ _ h => h) (Or.inl ⟨by rfl, ?_⟩) (by assumption) ?_
          rotate_left
          · (intro w' hSw; (try dsimp only at hSw); go_simp; try with_reducible rfl)
          try simp only [Act.put, List.setIfInBounds_toArray, List.set_cons_zero, List.set_cons_succ]
          refine wpAnyH_take (i := 4) (oi := Oper.mk (some 57) _ _ _ _ _) (v := ?_) rfl (by kernel_rfl) (by kernel_rfl) (by kernel_rfl) (fun _ _ _ h => h) (Or.inl ⟨by rfl, ?_⟩) (by assumption) ?_
          rotate_left
          · (intro w' hSw; (try dsimp only at hSw); go_simp; try with_reducible rfl)
          try simp only [Act.put, List.setIfInBounds_toArray, List.set_cons_zero, List.set_cons_succ]
          refine wpAnyH_take (i := 5) (oi := Oper.mk (some 58) _ _ _ _ _) (v := ?_) rfl (by kernel_rfl) (by kernel_rfl) (by kernel_rfl) (fun _ _ _ h => h) (Or.inl ⟨by rfl, ?_⟩) (by assumption) ?_
          rotate_left
          · (intro w' hSw; (try dsimp only at hSw); go_simp; try with_reducible rfl)
          try simp only [Act.put, List.setIfInBounds_toArray, List.set_cons_zero, List.set_cons_succ]
          refine wpAnyH_take (i := 6) (oi := Oper.mk (some 59) _ _ _ _ _) (v := ?_) rfl (by kernel_rfl) (by kernel_rfl) (by kernel_rfl) (fun _ _ _ h => h) (Or.inl ⟨by rfl, ?_⟩) (by assumption) ?_
          rotate_left
          · (intro w' hSw; (try dsimp only at hSw); go_simp; try with_reducible rfl)
          try simp only [Act.put, List.setIfInBounds_toArray, List.set_cons_zero, List.set_cons_succ]
          refine wpAnyH_take (i := 7) (oi := Oper.mk (some 60) _ _ _ _ _) (v := ?_) rfl (by kernel_rfl) (by kernel_rfl) (by kernel_rfl) (fun _ _ _ h => h) (Or.inl ⟨by rfl, ?_⟩) (by assumption) ?_
          rotate_left
          · (intro w' hSw; (try dsimp only at hSw); go_simp; try with_reducible rfl)
          try simp only [Act.put, List.setIfInBounds_toArray, List.set_cons_zero, List.set_cons_succ]
          refine wpAnyH_take (i := 8) (oi := Oper.mk (some 61) _ _ _ _ _) (v := ?_) rfl (by kernel_rfl) (by kernel_rfl) (by kernel_rfl) (fun _ _ _ h => h) (Or.inl ⟨by rfl, ?_⟩) (by assumption) ?_
          rotate_left
          · (intro w' hSw; (try dsimp only at hSw); go_simp; try with_reducible rfl)
          try simp only [Act.put, List.setIfInBounds_toArray, List.set_cons_zero, List.set_cons_succ]
          refine wpAnyH_take (i := 9) (oi := Oper.mk (some 62) _ _ _ _ _) (v := ?_) rfl (by kernel_rfl) (by kernel_rfl) (by kernel_rfl) (fun _ _ _ h => h) (Or.inl ⟨by rfl, ?_⟩) (by assumption) ?_
          rotate_left
          · (intro w' hSw; (try dsimp only at hSw); go_simp; try with_reducible rfl)
          try simp only [Act.put, List.setIfInBounds_toArray, List.set_cons_zero, List.set_cons_succ]
          refine wpAnyH_take (i := 10) (oi := Oper.mk (some 63) _ _ _ _ _) (v := ?_) rfl (by kernel_rfl) (by kernel_rfl) (by kernel_rfl) (fun _ _ _ h => h) (Or.inl ⟨by rfl, ?_⟩) (by assumption) ?_
          rotate_left
          · (intro w' hSw; (try dsimp only at hSw); go_simp; try with_reducible rfl)
          try simp only [Act.put, List.setIfInBounds_toArray, List.set_cons_zero, List.set_cons_succ]
          refine wpAnyH_take (i := 11) (oi := Oper.mk (some 64) _ _ _ _ _) (v := ?_) rfl (by kernel_rfl) (by kernel_rfl) (by kernel_rfl) (fun _ _ _ h => h) (Or.inl ⟨by rfl, ?_⟩) (by assumption) ?_
          rotate_left
          · (intro w' hSw; (try dsimp only at hSw); go_simp; try with_reducible rfl)
          try simp only [Act.put, List.setIfInBounds_toArray, List.set_cons_zero, List.set_cons_succ]
          refine wpAnyH_take (i := 12) (oi := Oper.mk (some 65) _ _ _ _ _) (v := ?_) rfl (by kernel_rfl) (by kernel_rfl) (by kernel_rfl) (fun _ _ _ h => h) (Or.inl ⟨by rfl, ?_⟩) (by assumption) ?_
          rotate_left
          · (intro w' hSw; (try dsimp only at hSw); go_simp; try with_reducible rfl)
          try simp only [Act.put, List.setIfInBounds_toArray, List.set_cons_zero, List.set_cons_succ]
          refine wpAnyH_take (i := 13) (oi := Oper.mk (some 66) _ _ _ _ _) (v := ?_) rfl (by kernel_rfl) (by kernel_rfl) (by kernel_rfl) (fun _ _ _ h => h) (Or.inl ⟨by rfl, ?_⟩) (by assumption) ?_
          rotate_left
          · (intro w' hSw; (try dsimp only at hSw); go_simp; try with_reducible rfl)
          try simp only [Act.put, List.setIfInBounds_toArray, List.set_cons_zero, List.set_cons_succ]
          refine wpAnyH_take (i := 14) (oi := Oper.mk (some 67) _ _ _ _ _) (v := ?_) rfl (by kernel_rfl) (by kernel_rfl) (by kernel_rfl) (fun _ _ _ h => h) (Or.inl ⟨by rfl, ?_⟩) (by assumption) ?_
          rotate_left
          · (intro w' hSw; (try dsimp only at hSw); go_simp; try with_reducible rfl)
          try simp only [Act.put, List.setIfInBounds_toArray, List.set_cons_zero, List.set_cons_succ]
          refine wpAnyH_take (i := 15) (oi := Oper.mk (some 68) _ _ _ _ _) (v := ?_) rfl (by kernel_rfl) (by kernel_rfl) (by kernel_rfl) (fun _ _ _ h => h) (Or.inl ⟨by rfl, ?_⟩) (by assumption) ?_
          rotate_left
          · (intro w' hSw; (try dsimp only at hSw); go_simp; try with_reducible rfl)
          try simp only [Act.put, List.setIfInBounds_toArray, List.set_cons_zero, List.set_cons_succ]
          refine wpAnyH_take (i := 16) (oi := Oper.mk (some 69) _ _ _ _ _) (v := ?_) rfl (by kernel_rfl) (by kernel_rfl) (by kernel_rfl) (fun _ _ _ h => h) (Or.inl ⟨by rfl, ?_⟩) (by assumption) ?_
          rotate_left
          · (intro w' hSw; (try dsimp only at hSw); go_simp; try with_reducible rfl)
          try simp only [Act.put, List.setIfInBounds_toArray, List.set_cons_zero, List.set_cons_succ]
          refine wpAnyH_take (i := 17) (oi := Oper.mk (some 70) _ _ _ _ _) (v := ?_) rfl (by kernel_rfl) (by kernel_rfl) (by kernel_rfl) (fun _ _ _ h => h) (Or.inl ⟨by rfl, ?_⟩) (by assumption) ?_
          rotate_left
          · (intro w' hSw; (try dsimp only at hSw); go_simp; try with_reducible rfl)
          try simp only [Act.put, List.setIfInBounds_toArray, List.set_cons_zero, List.set_cons_succ]
          refine wpAnyH_take (i := 18) (oi := Oper.mk (some 71) _ _ _ _ _) (v := ?_) rfl (by kernel_rfl) (by kernel_rfl) (by kernel_rfl) (fun _ _ _ h => h) (Or.inl ⟨by rfl, ?_⟩) (by assumption) ?_
          rotate_left
          · (intro w' hSw; (try dsimp only at hSw); go_simp; try with_reducible rfl)
          try simp only [Act.put, List.setIfInBounds_toArray, List.set_cons_zero, List.set_cons_succ]
          refine wpAnyH_take (i := 19) (oi := Oper.mk (some 72) _ _ _ _ _) (v := ?_) rfl (by kernel_rfl) (by kernel_rfl) (by kernel_rfl) (fun _ _ _ h => h) (Or.inl ⟨by rfl, ?_⟩) (by assumption) ?_
          rotate_left
          · (intro w' hSw; (try dsimp only at hSw); go_simp; try with_reducible rfl)
          try simp only [Act.put, List.setIfInBounds_toArray, List.set_cons_zero, List.set_cons_succ]
          refine wpAnyH_take (i := 20) (oi := Oper.mk (some 73) _ _ _ _ _) (v := ?_) rfl (by kernel_rfl) (by kernel_rfl) (by kernel_rfl) (fun _ _ _ h => h) (Or.inl ⟨by rfl, ?_⟩) (by assumption) ?_
          rotate_left
          · (intro w' hSw; (try dsimp only at hSw); go_simp; try with_reducible rfl)
          try simp only [Act.put, List.setIfInBounds_toArray, List.set_cons_zero, List.set_cons_succ]
          refine wpAnyH_take (i := 21) (oi := Oper.mk (some 74) _ _ _ _ _) (v := ?_) rfl (by kernel_rfl) (by kernel_rfl) (by kernel_rfl) (fun _ _ _ h => h) (Or.inl ⟨by rfl, ?_⟩) (by assumption) ?_
          rotate_left
          · (intro w' hSw; (try dsimp only at hSw); go_simp; try with_reducible rfl)
          try simp only [Act.put, List.setIfInBounds_toArray, List.set_cons_zero, List.set_cons_succ]
          refine wpAnyH_ready (rs := [22]) (by kernel_rfl) (by simp) ?_
          refine AllReadyH.cons (o := Oper.mk (some 7) _ _ _ _ _) rfl (fun K hK => ?_) AllReadyH.nil
          go_simp
          have hbA := hHeld.alloc hHeld.size (.cells #[.bool false, .string ⟨#[]⟩] 28)
          refine hK.out _ _ hbA (fun _ => ?_)
          clear hK K hHeld
          have hHeld := hbA
          try simp only [Act.put, List.setIfInBounds_toArray, List.set_cons_zero, List.set_cons_succ]
          refine wpAnyH_ready (rs := [23]) (by kernel_rfl) (by simp) ?_
          refine AllReadyH.cons (o := Oper.mk (none) _ _ _ _ _) rfl (fun K hK => ?_) AllReadyH.nil
          go_simp
          have hbS := (Below.alloc (Below.refl W1.heap.size W1) (Nat.le_refl _) (.cells #[.bool neg, .string s] 28)).drew
          refine hK.out _ _ hbS (fun _ => ?_)
          clear hK K hHeld
          have hHeld := hbS
          try simp only [Act.put, List.setIfInBounds_toArray, List.set_cons_zero, List.set_cons_succ]
          refine wpAnyH_done (by kernel_rfl) ?_ _
          refine NoPanic.normal ?_
          have kz := Blk.new W1 28 #[.bool neg, .string s]
          have k3 := k2.alloc (.cells #[.bool neg, .string s] 28)
          have hr3 := hr2.alloc (.cells #[.bool neg, .string s] 28)
          have hg3 := only_alloc hg2 (.cells #[.bool neg, .string s] 28)
          clear t0 t1 t2 hHeld
          go_wp2_with fail
          refine (HP.out _).mono ?_
          rintro e w3 ⟨rfl, hb3⟩
          have k4 := (k3.drew).below hb3 (by show _ < (W1.alloc _).heap.size; rw [World.size_alloc]; omega)
          have kz4 := (kz.drew).below hb3 (by show _ < (W1.alloc _).heap.size; rw [World.size_alloc]; omega)
          have hr4 := (hr3.drew).kept hb3
          have hg4 := (only_drew hg3).trans (only_of_below hb3 (some g))
          have z3 : W1.heap.size < w3.heap.size := kz4.lt
          have q0 : w3.cell? ⟨w.heap.size, 0, none⟩ = some (.bool false) := k4.cell 0
          have q1 : w3.cell? ⟨w.heap.size, 1, none⟩ = some (.string ⟨#[]⟩) := k4.cell 1
          have f0 := k4.frozen 0
          have f1 := k4.frozen 1
          have u0 : w3.cell? ⟨W1.heap.size, 0, none⟩ = some (.bool neg) := kz4.cell 0
          have u1 : w3.cell? ⟨W1.heap.size, 1, none⟩ = some (.string s) := kz4.cell 1
          have f1' := hr4.f1
          have c1' := hr4.c1
          clear kz k3 k4 kz4 hr3 hg3 hb3 k2
          cases hp : Wire.plainW 16384 neg s.data.toList with
          | false =>
            have Hs := Lib.hid (show Wire.whole (l.drop a) = .err 111 by rw [Hs0.out, hp]; rfl)
            clear hp
            go_wp2_with fail
            refine bodyPost_ret (by simp [results, Try.results77, go_sem, q0, q1, ng]; rfl) rfl ?_
            exact rreads_err Hs.out ⟨rfl, RR.off Hh.out (RR.off Hh.out (hr4.go a hle) (Nat.le_refl _) _) (Nat.le_refl _) _, only_new (only_new (only_setCell (p := ⟨g, 1, none⟩) hg4 (.inl rfl) _) (Nat.le_refl _) _) (Nat.le_refl _) _⟩
          | true =>
            have Hs := Lib.hid (show Wire.whole (l.drop a) = .ok (neg, s) (k + q) by rw [Hs0.out, hp]; rfl)
            clear hp
            go_wp2_with fail
            refine bodyPost_ret (by simp [results, Try.results77, go_sem, q0, q1]; rfl) rfl ?_
            refine rreads_ok Hs.out ⟨rfl, ?_, only_new (only_new hg4 (Nat.le_refl _) _) (Nat.le_refl _) _⟩
            rw [hak.out]
            exact RR.off Hh.out (RR.off Hh.out hr4 (Nat.le_refl _) _) (Nat.le_refl _) _
        · have t2 := fun w' (hb : Below W1.heap.size W1 w') => hsB w' (c - p) hb
          clear hsB
          refine wp_region_noPanic ?_
          refine wp_region_held_drew (S := fun w' => Below W1.heap.size W1 w') (by kernel_rfl) (Below.refl _ _).drew (fun hHeld => ?_)
          refine wpAnyH_take (i := 0) (oi := Oper.mk (some 53) _ _ _ _ _) (v := ?_) rfl (by kernel_rfl) (by kernel_rfl) (by kernel_rfl) (fun _ _ _ h => h) (Or.inl ⟨by rfl, ?_⟩) (by assumption) ?_
          rotate_left
          · (intro w' hSw; (try dsimp only at hSw); go_simp; try with_reducible rfl)
          try simp only [Act.put, List.setIfInBounds_toArray, List.set_cons_zero, List.set_cons_succ]
          refine wpAnyH_take (i := 1) (oi := Oper.mk (some 54) _ _ _ _ _) (v := ?_) rfl (by kernel_rfl) (by kernel_rfl) (by kernel_rfl) (fun _ _ _ h => h) (Or.inl ⟨by rfl, ?_⟩) (by assumption) ?_
          rotate_left
          · (intro w' hSw; (try dsimp only at hSw); go_simp; try with_reducible rfl)
          try simp only [Act.put, List.setIfInBounds_toArray, List.set_cons_zero, List.set_cons_succ]
          refine wpAnyH_take (i := 2) (oi := Oper.mk (some 55) _ _ _ _ _) (v := ?_) rfl (by kernel_rfl) (by kernel_rfl) (by kernel_rfl) (fun _ _ _ h => h) (Or.inl ⟨by rfl, ?_⟩) (by assumption) ?_
          rotate_left
          · (intro w' hSw; (try dsimp only at hSw); go_simp; try with_reducible rfl)
          try simp only [Act.put, List.setIfInBounds_toArray, List.set_cons_zero, List.set_cons_succ]
          refine wpAnyH_take (i := 3) (oi := Oper.mk (some 56) _ _ _ _ _) (v := ?_) rfl (by kernel_rfl) (by kernel_rfl) (by kernel_rfl) (fun _ _ _ h => h) (Or.inl ⟨by rfl, ?_⟩) (by assumption) ?_
          rotate_left
          · (intro w' hSw; (try dsimp only at hSw); go_simp; try with_reducible rfl)
          try simp only [Act.put, List.setIfInBounds_toArray, List.set_cons_zero, List.set_cons_succ]
          refine wpAnyH_take (i := 4) (oi := Oper.mk (some 57) _ _ _ _ _) (v := ?_) rfl (by kernel_rfl) (by kernel_rfl) (by kernel_rfl) (fun _ _ _ h => h) (Or.inl ⟨by rfl, ?_⟩) (by assumption) ?_
          rotate_left
          · (intro w' hSw; (try dsimp only at hSw); go_simp; try with_reducible rfl)
          try simp only [Act.put, List.setIfInBounds_toArray, List.set_cons_zero, List.set_cons_succ]
          refine wpAnyH_take (i := 5) (oi := Oper.mk (some 58) _ _ _ _ _) (v := ?_) rfl (by kernel_rfl) (by kernel_rfl) (by kernel_rfl) (fun _ _ _ h => h) (Or.inl ⟨by rfl, ?_⟩) (by assumption) ?_
          rotate_left
          · (intro w' hSw; (try dsimp only at hSw); go_simp; try with_reducible rfl)
          try simp only [Act.put, List.setIfInBounds_toArray, List.set_cons_zero, List.set_cons_succ]
          refine wpAnyH_take (i := 6) (oi := Oper.mk (some 59) _ _ _ _ _) (v := ?_) rfl (by kernel_rfl) (by kernel_rfl) (by kernel_rfl) (fun _ _ _ h => h) (Or.inl ⟨by rfl, ?_⟩) (by assumption) ?_
          rotate_left
          · (intro w' hSw; (try dsimp only at hSw); go_simp; try with_reducible rfl)
          try simp only [Act.put, List.setIfInBounds_toArray, List.set_cons_zero, List.set_cons_succ]
          refine wpAnyH_take (i := 7) (oi := Oper.mk (some 60) _ _ _ _ _) (v := ?_) rfl (by kernel_rfl) (by kernel_rfl) (by kernel_rfl) (fun _ _ _ h => h) (Or.inl ⟨by rfl, ?_⟩) (by assumption) ?_
          rotate_left
          · (intro w' hSw; (try dsimp only at hSw); go_simp; try with_reducible rfl)
          try simp only [Act.put, List.setIfInBounds_toArray, List.set_cons_zero, List.set_cons_succ]
          refine wpAnyH_take (i := 8) (oi := Oper.mk (some 61) _ _ _ _ _) (v := ?_) rfl (by kernel_rfl) (by kernel_rfl) (by kernel_rfl) (fun _ _ _ h => h) (Or.inl ⟨by rfl, ?_⟩) (by assumption) ?_
          rotate_left
          · (intro w' hSw; (try dsimp only at hSw); go_simp; try with_reducible rfl)
          try simp only [Act.put, List.setIfInBounds_toArray, List.set_cons_zero, List.set_cons_succ]
          refine wpAnyH_take (i := 9) (oi := Oper.mk (some 62) _ _ _ _ _) (v := ?_) rfl (by kernel_rfl) (by kernel_rfl) (by kernel_rfl) (fun _ _ _ h => h) (Or.inl ⟨by rfl, ?_⟩) (by assumption) ?_
          rotate_left
          · (intro w' hSw; (try dsimp only at hSw); go_simp; try with_reducible rfl)
          try simp only [Act.put, List.setIfInBounds_toArray, List.set_cons_zero, List.set_cons_succ]
          refine wpAnyH_take (i := 10) (oi := Oper.mk (some 63) _ _ _ _ _) (v := ?_) rfl (by kernel_rfl) (by kernel_rfl) (by kernel_rfl) (fun _ _ _ h => h) (Or.inl ⟨by rfl, ?_⟩) (by assumption) ?_
          rotate_left
          · (intro w' hSw; (try dsimp only at hSw); go_simp; try with_reducible rfl)
          try simp only [Act.put, List.setIfInBounds_toArray, List.set_cons_zero, List.set_cons_succ]
          refine wpAnyH_take (i := 11) (oi := Oper.mk (some 64) _ _ _ _ _) (v := ?_) rfl (by kernel_rfl) (by kernel_rfl) (by kernel_rfl) (fun _ _ _ h => h) (Or.inl ⟨by rfl, ?_⟩) (by assumption) ?_
          rotate_left
          · (intro w' hSw; (try dsimp only at hSw); go_simp; try with_reducible rfl)
          try simp only [Act.put, List.setIfInBounds_toArray, List.set_cons_zero, List.set_cons_succ]
          refine wpAnyH_take (i := 12) (oi := Oper.mk (some 65) _ _ _ _ _) (v := ?_) rfl (by kernel_rfl) (by kernel_rfl) (by kernel_rfl) (fun _ _ _ h => h) (Or.inl ⟨by rfl, ?_⟩) (by assumption) ?_
          rotate_left
          · (intro w' hSw; (try dsimp only at hSw); go_simp; try with_reducible rfl)
          try simp only [Act.put, List.setIfInBounds_toArray, List.set_cons_zero, List.set_cons_succ]
          refine wpAnyH_take (i := 13) (oi := Oper.mk (some 66) _ _ _ _ _) (v := ?_) rfl (by kernel_rfl) (by kernel_rfl) (by kernel_rfl) (fun _ _ _ h => h) (Or.inl ⟨by rfl, ?_⟩) (by assumption) ?_
          rotate_left
          · (intro w' hSw; (try dsimp only at hSw); go_simp; try with_reducible rfl)
          try simp only [Act.put, List.setIfInBounds_toArray, List.set_cons_zero, List.set_cons_succ]
          refine wpAnyH_take (i := 14) (oi := Oper.mk (some 67) _ _ _ _ _) (v := ?_) rfl (by kernel_rfl) (by kernel_rfl) (by kernel_rfl) (fun _ _ _ h => h) (Or.inl ⟨by rfl, ?_⟩) (by assumption) ?_
          rotate_left
          · (intro w' hSw; (try dsimp only at hSw); go_simp; try with_reducible rfl)
          try simp only [Act.put, List.setIfInBounds_toArray, List.set_cons_zero, List.set_cons_succ]
          refine wpAnyH_take (i := 15) (oi := Oper.mk (some 68) _ _ _ _ _) (v := ?_) rfl (by kernel_rfl) (by kernel_rfl) (by kernel_rfl) (fun _ _ _ h => h) (Or.inl ⟨by rfl, ?_⟩) (by assumption) ?_
          rotate_left
          · (intro w' hSw; (try dsimp only at hSw); go_simp; try with_reducible rfl)
          try simp only [Act.put, List.setIfInBounds_toArray, List.set_cons_zero, List.set_cons_succ]
          refine wpAnyH_take (i := 16) (oi := Oper.mk (some 69) _ _ _ _ _) (v := ?_) rfl (by kernel_rfl) (by kernel_rfl) (by kernel_rfl) (fun _ _ _ h => h) (Or.inl ⟨by rfl, ?_⟩) (by assumption) ?_
          rotate_left
          · (intro w' hSw; (try dsimp only at hSw); go_simp; try with_reducible rfl)
          try simp only [Act.put, List.setIfInBounds_toArray, List.set_cons_zero, List.set_cons_succ]
          refine wpAnyH_take (i := 17) (oi := Oper.mk (some 70) _ _ _ _ _) (v := ?_) rfl (by kernel_rfl) (by kernel_rfl) (by kernel_rfl) (fun _ _ _ h => h) (Or.inl ⟨by rfl, ?_⟩) (by assumption) ?_
          rotate_left
          · (intro w' hSw; (try dsimp only at hSw); go_simp; try with_reducible rfl)
          try simp only [Act.put, List.setIfInBounds_toArray, List.set_cons_zero, List.set_cons_succ]
          refine wpAnyH_take (i := 18) (oi := Oper.mk (some 71) _ _ _ _ _) (v := ?_) rfl (by kernel_rfl) (by kernel_rfl) (by kernel_rfl) (fun _ _ _ h => h) (Or.inl ⟨by rfl, ?_⟩) (by assumption) ?_
          rotate_left
          · (intro w' hSw; (try dsimp only at hSw); go_simp; try with_reducible rfl)
          try simp only [Act.put, List.setIfInBounds_toArray, List.set_cons_zero, List.set_cons_succ]
          refine wpAnyH_take (i := 19) (oi := Oper.mk (some 72) _ _ _ _ _) (v := ?_) rfl (by kernel_rfl) (by kernel_rfl) (by kernel_rfl) (fun _ _ _ h => h) (Or.inl ⟨by rfl, ?_⟩) (by assumption) ?_
          rotate_left
          · (intro w' hSw; (try dsimp only at hSw); go_simp; try with_reducible rfl)
          try simp only [Act.put, List.setIfInBounds_toArray, List.set_cons_zero, List.set_cons_succ]
          refine wpAnyH_take (i := 20) (oi := Oper.mk (some 73) _ _ _ _ _) (v := ?_) rfl (by kernel_rfl) (by kernel_rfl) (by kernel_rfl) (fun _ _ _ h => h) (Or.inl ⟨by rfl, ?_⟩) (by assumption) ?_
          rotate_left
          · (intro w' hSw; (try dsimp only at hSw); go_simp; try with_reducible rfl)
          try simp only [Act.put, List.setIfInBounds_toArray, List.set_cons_zero, List.set_cons_succ]
          refine wpAnyH_take (i := 21) (oi := Oper.mk (some 74) _ _ _ _ _) (v := ?_) rfl (by kernel_rfl) (by kernel_rfl) (by kernel_rfl) (fun _ _ _ h => h) (Or.inl ⟨by rfl, ?_⟩) (by assumption) ?_
          rotate_left
          · (intro w' hSw; (try dsimp only at hSw); go_simp; try with_reducible rfl)
          try simp only [Act.put, List.setIfInBounds_toArray, List.set_cons_zero, List.set_cons_succ]
          refine wpAnyH_ready (rs := [22]) (by kernel_rfl) (by simp) ?_
          refine AllReadyH.cons (o := Oper.mk (some 7) _ _ _ _ _) rfl (fun K hK => ?_) AllReadyH.nil
          go_simp
          have hbA := hHeld.alloc hHeld.size (.cells #[.bool false, .string ⟨#[]⟩] 28)
          refine hK.out _ _ hbA (fun _ => ?_)
          clear hK K hHeld
          have hHeld := hbA
          try simp only [Act.put, List.setIfInBounds_toArray, List.set_cons_zero, List.set_cons_succ]
          refine wpAnyH_ready (rs := [23]) (by kernel_rfl) (by simp) ?_
          refine AllReadyH.cons (o := Oper.mk (none) _ _ _ _ _) rfl (fun K hK => ?_) AllReadyH.nil
          go_simp
          have hbS := (Below.alloc (Below.refl W1.heap.size W1) (Nat.le_refl _) (.cells #[.bool neg, .string s] 28)).drew
          refine hK.out _ _ hbS (fun _ => ?_)
          clear hK K hHeld
          have hHeld := hbS
          try simp only [Act.put, List.setIfInBounds_toArray, List.set_cons_zero, List.set_cons_succ]
          refine wpAnyH_done (by kernel_rfl) ?_ _
          refine NoPanic.normal ?_
          have kz := Blk.new W1 28 #[.bool neg, .string s]
          have k3 := k2.alloc (.cells #[.bool neg, .string s] 28)
          have hr3 := hr2.alloc (.cells #[.bool neg, .string s] 28)
          have hg3 := only_alloc hg2 (.cells #[.bool neg, .string s] 28)
          clear t0 t1 t2 hHeld
          go_wp2_with fail
          refine (HP.out _).mono ?_
          rintro e w3 ⟨rfl, hb3⟩
          have k4 := (k3.drew).below hb3 (by show _ < (W1.alloc _).heap.size; rw [World.size_alloc]; omega)
          have kz4 := (kz.drew).below hb3 (by show _ < (W1.alloc _).heap.size; rw [World.size_alloc]; omega)
          have hr4 := (hr3.drew).kept hb3
          have hg4 := (only_drew hg3).trans (only_of_below hb3 (some g))
          have z3 : W1.heap.size < w3.heap.size := kz4.lt
          have q0 : w3.cell? ⟨w.heap.size, 0, none⟩ = some (.bool false) := k4.cell 0
          have q1 : w3.cell? ⟨w.heap.size, 1, none⟩ = some (.string ⟨#[]⟩) := k4.cell 1
          have f0 := k4.frozen 0
          have f1 := k4.frozen 1
          have u0 : w3.cell? ⟨W1.heap.size, 0, none⟩ = some (.bool neg) := kz4.cell 0
          have u1 : w3.cell? ⟨W1.heap.size, 1, none⟩ = some (.string s) := kz4.cell 1
          have f1' := hr4.f1
          have c1' := hr4.c1
          clear kz k3 k4 kz4 hr3 hg3 hb3 k2
          cases hp : Wire.plainW 16384 neg s.data.toList with
          | false =>
            have Hs := Lib.hid (show Wire.whole (l.drop a) = .err 111 by rw [Hs0.out, hp]; rfl)
            clear hp
            go_wp2_with fail
            refine bodyPost_ret (by simp [results, Try.results77, go_sem, q0, q1, ng]; rfl) rfl ?_
            exact rreads_err Hs.out ⟨rfl, RR.off Hh.out (RR.off Hh.out (hr4.go a hle) (Nat.le_refl _) _) (Nat.le_refl _) _, only_new (only_new (only_setCell (p := ⟨g, 1, none⟩) hg4 (.inl rfl) _) (Nat.le_refl _) _) (Nat.le_refl _) _⟩
          | true =>
            have Hs := Lib.hid (show Wire.whole (l.drop a) = .ok (neg, s) (k + q) by rw [Hs0.out, hp]; rfl)
            clear hp
            go_wp2_with fail
            refine bodyPost_ret (by simp [results, Try.results77, go_sem, q0, q1]; rfl) rfl ?_
            refine rreads_ok Hs.out ⟨rfl, ?_, only_new (only_new hg4 (Nat.le_refl _) _) (Nat.le_refl _) _⟩
            rw [hak.out]
            exact RR.off Hh.out (RR.off Hh.out hr4 (Nat.le_refl _) _) (Nat.le_refl _) _
end Go.Proofs.Ytgmienlifnpniaa
