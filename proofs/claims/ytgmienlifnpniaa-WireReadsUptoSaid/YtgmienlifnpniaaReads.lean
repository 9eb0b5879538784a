/- WireReads' walk (printed by gen_law7.py). -/
import Derived.Test.YtgmienlifnpniaaMost
import Derived.Test.YtgmienlifnpniaaSpoil
import Derived.Test.YtgmienlifnpniaaHeld
import Derived.Test.YtgmienlifnpniaaKnown
namespace Go.Proofs.Ytgmienlifnpniaa
open Go.RowKit
set_option linter.unusedSimpArgs false

/-- a script that came in: calls, each a kind and a bound -/
def ReadsOps (w : World) (B : Nat) (A : Option Addr) (n : Nat) : Prop :=
  0 < n → ∃ ab ao, A = some ⟨ab, ao, none⟩ ∧ ab < B ∧ ∀ j, j < n → ∃ K M : Int, M < 9223372036854775808 ∧ w.cell? ⟨ab, ao + j * 2, none⟩ = some (.int .i64 K) ∧ w.cell? ⟨ab, ao + j * 2 + 1, none⟩ = some (.int .i64 M)
theorem ReadsB.below' {w w' : World} {B : Nat} {A : Option Addr} {l : List UInt8} (h : ReadsB w B A l) (hb : Below B w w') : ReadsB w' B A l := Reads.below h hb
theorem ReadsB.pre {w : World} {B : Nat} {A : Option Addr} {l r : List UInt8} (h : ReadsB w B A (l ++ r)) : ReadsB w B A l := by
  refine ⟨by simp, fun hn => ?_⟩
  obtain ⟨ad, e, hb, hc⟩ := h.2 (by rw [List.length_append]; omega)
  refine ⟨ad, e, hb, fun j u hu => hc j u ?_⟩
  have hj := (List.getElem?_eq_some_iff.1 hu).1
  rw [List.map_append, List.getElem?_append_left hj]
  exact hu
theorem Rd.far_own {w w' : World} {B B' g a : Nat} {v v' : Value} {l : List UInt8} {A : Option Addr} {n c : Nat} {l' : List UInt8} (h : Rd w B g v l a) (_ho : OwnB w B' (.slice A n c) l') (hb : ∀ k, (Value.slice A n c).ownBlock = some k → k < B) (_hv : v' = v) (hg : w.grownBy w' (Value.slice A n c).ownBlock) : Rd w' B g v l a := by
  refine ⟨h.base, h.blk.grown hg (fun e => ?_), h.own.grown hg ?_, h.yes, h.le, h.len⟩
  · have := hb g e.symm
    have := h.base
    omega
  · rcases hv : v.ownBlock with _ | k
    · exact .inr rfl
    · refine .inl fun e => ?_
      have h1 := hb k e.symm
      rcases h.own.2 with ⟨h2, _⟩ | ⟨g2, cap, cur, h2, hg2, _⟩
      · rw [h2] at hv; cases hv
      · rw [h2] at hv
        have : g2 = k := Option.some.inj hv
        omega

theorem OwnB.cap7 {w : World} {B n c : Nat} {A : Option Addr} {l : List UInt8} (h : OwnB w B (.slice A n c) l) : n ≤ c ∧ c ≤ maxLen := by
  rcases h.2 with ⟨h', h0⟩ | ⟨g, cap, cur, h', _, _, hc, hm, _⟩
  · injection h' with h1 h2 h3
    subst h2 h3
    exact ⟨Nat.le_refl _, Nat.zero_le _⟩
  · injection h' with h1 h2 h3
    subst h3
    have := h.len
    exact ⟨by omega, hm⟩

set_option maxRecDepth 100000 in
set_option maxHeartbeats 8000000 in
theorem reads_any (A : Option Addr) (c : Nat) (l : List UInt8) (As : Option Addr) (n cs : Nat) (w : World) (hr : ReadsB w w.heap.size A l) (hl : l.length ≤ 1048576) (hc : l.length ≤ c) (hc2 : c ≤ maxLen) (ho : ReadsOps w w.heap.size As n) (hn : n ≤ 1048576) (_hcs : n ≤ cs) (_hcs2 : cs ≤ maxLen) :
    Calls Try.prog 7 #[.slice A l.length c, .slice As n cs] w fun e w' => e = .returned (.bool true) ∧ Below w.heap.size w w' := by
  have HR := Lib.hid hr
  have HS := Lib.hid ho
  have HC := Lib.hid hc2
  have R10 := Lib.hid fun w => known_any w
  clear hr ho hc2
  obtain ⟨Lm, hLm⟩ : ∃ Lm, Lm = l ++ [165] := ⟨_, rfl⟩
  have HLm := Lib.hid hLm
  have hL1 : Lm.length ≤ 1048577 := by rw [hLm, List.length_append, List.length_singleton]; omega
  have hL2 : l.length + 1 ≤ Lm.length := by rw [hLm, List.length_append, List.length_singleton]; omega
  clear hLm
  go_enter Try.func7, Try.ntmps7
  go_wp2_with (first
    | (at_builtin; refine wpB_append (by rfl) (.const (.slice none 0 0)) (.tmp 10) (by rfl) w.heap.size _ [] (OwnB.nil w _) (by rfl) _ _ l HR.out _ _ rfl (by rfl) (by simp; omega) (Nat.le_refl _) ?_; intro A1 n1 c1 w1 ho1 hg1 hnx1; clear hnx1; have z1 := hg1.size; have b1 : Below w.heap.size w w1 := (Below.refl _ _).grown hg1 (Nat.le_refl _) (by intro k hk; cases hk))
    | (at_builtin; refine wpB_append2 (by rfl) (.tmp 11) (.tmp 12) (by rfl) w.heap.size _ ([] ++ l) (ho1.alloc _) (by rfl) _ _ [165] (lit_reads _ _ rfl (by decide)) _ _ (by rfl) (by rfl) (by simp; omega) (by rw [World.size_alloc]; omega) ?_; intro A2 n2 c2 w2 ho2 hg2 hk2; rw [List.nil_append, ← HLm.out] at ho2; obtain rfl := ho2.len; have hcc : (l.length : Int) ≤ (c2 : Int) := (by have := ho2.cap7.1; omega); have hc0 : (0 : Int) ≤ (l.length : Int) := (by omega)))
  have z2 := hg2.size
  rw [World.size_alloc] at z2
  have b2 : Below w.heap.size w w2 := ((b1.alloc z1 _).own (by rw [World.size_alloc]; omega) (ho1.alloc (.cells #[.int .u8 165] 5)) hg2)
  have hcap := ho2.cap7.1
  have hrm := Lib.hid (ReadsB.pre (r := [165]) (by rw [← HLm.out]; exact ho2.reads))
  have hlast : ∀ k, (Value.slice A2 Lm.length c2).ownBlock = some k → k < w2.heap.size := fun k hk => (ho2.lt k hk).2
  have Hlast := Lib.hid hlast
  clear hlast hk2 hg2 ho1 hg1 b1 z1
  go_wp2_with fail
  refine (open_any _ _ _ l _ hrm.out (by omega) rfl).mono ?_
  rintro e w3 ⟨g, v, rfl, hr3, hb3⟩
  have z3 := hb3.size
  have b3 := b2.up hb3 b2.size
  have ho3 := ho2.kept hb3
  have t1 := ho3.str0 rfl
  have t2 : (convert 23 9 (.slice A l.length c)).run Try.prog w3 = .ok (.string ⟨l.toArray⟩) w3 := run_str rfl (HR.out.below' b3)
  have hadd := ByteArray.mk_append_mk l [165]
  rw [← HLm.out] at hadd
  go_wp2_with fail
  clear t1 t2 hadd hrm ho2 hcc
  have HB3 := Lib.hid b3
  have hz3 : w.heap.size ≤ w3.heap.size := b3.size
  have hz23 : w.heap.size ≤ w2.heap.size := b2.size
  have Hr3 := Lib.hid hr3
  clear b3 hr3 hb3 b2 hcap
  go_loopg [7] Lm.length (fun k i wr => ∃ (j : Nat) (l' : List UInt8), i = .int .i64 (j : Int) ∧ j + k = Lm.length ∧ l'.length = Lm.length ∧ OwnB wr w.heap.size (.slice A2 Lm.length c2) l' ∧ w3.grownBy wr (Value.slice A2 Lm.length c2).ownBlock)
  case atStart => exact ⟨0, Lm, rfl, by omega, rfl, ho3, World.grownBy.refl w3 _⟩
  case round =>
    obtain ⟨j, l', rfl, hj, hl', ho, hg⟩ := hrel
    have Hj := Lib.hid hj
    have Hl := Lib.hid hl'
    by_cases hlt : j < Lm.length
    · clear hj hl'
      rcases ho.kind with ⟨rfl, h0, rfl⟩ | ⟨gm, rfl⟩
      · omega
      · obtain ⟨b, hcl⟩ := ho.at_ j hlt
        have hf := ho.free j
        go_wp2
        go_roundg (Lm.length - (j + 1))
        case measure => have := Hj.out; omega
        case rel =>
          exact ⟨j + 1, l'.set j 119, by go_num, by omega, by rw [List.length_set]; exact Hl.out, ho.put j hlt 119, only_setCell (p := ⟨gm, j, none⟩) hg (.inl rfl) _⟩
    · have hr4 := Rd.far_own (v' := v) Hr3.out ho3 Hlast.out rfl hg
      have hb4 := HB3.out.own (by omega) ho3 hg
      have z4 := hg.size
      have hz4 : w.heap.size ≤ wr.heap.size := by omega
      clear hj hl'
      have ht4 : Two (wr.alloc (.cells #[.slice A l.length c, .int .i64 0] 86)) w.heap.size g v wr.heap.size A c l 0 :=
        ⟨⟨by have := hr4.base; omega, (hr4.alloc _).blk, (hr4.alloc (.cells #[.slice A l.length c, .int .i64 0] 86)).own.mono (by omega), hr4.yes, hr4.le, hr4.len⟩,
          ⟨hz4, Blk.new wr 86 _, (HR.out.below' hb4).alloc hz4 _, Nat.zero_le _, by omega, hc, HC.out⟩, by have := hr4.blk.lt; omega, fun e => by have := (World.ownsRow.lt hr4.own _ e).2; omega, by rw [World.size_alloc]; omega⟩
      have hb5 := hb4.alloc hz4 (.cells #[.slice A l.length c, .int .i64 0] 86)
      have HT4 := Lib.hid ht4
      have HB5 := Lib.hid hb5
      have HW := Lib.hid z4
      clear ho hg hr4 ht4 hb5 hb4 z4 ho3
      obtain ⟨wo, rfl⟩ : ∃ wo : World, wo = wr := ⟨_, rfl⟩
      go_wp2
      go_loopg [9] 300 (fun k i wr => ∃ (j a : Nat), i = .int .i64 (j : Int) ∧ j + k = 300 ∧ Two wr w.heap.size g v wo.heap.size A c l a ∧ Below w.heap.size w wr)
      case atStart => exact ⟨0, 0, rfl, rfl, HT4.out, HB5.out⟩
      case round =>
        obtain ⟨j, a, rfl, hj, ht, hbl⟩ := hrel
        have Hj := Lib.hid hj
        by_cases hlt : j < n ∧ j < 300
        · obtain ⟨hlt1, hlt2⟩ := hlt
          clear hj
          obtain ⟨ab, ao, rfl, had, hops⟩ := HS.out (by omega)
          obtain ⟨K, M, hM, hk0, hm0⟩ := hops j hlt1
          have q0 := fun w' (h : Below w.heap.size w w') => (h.cell (p := ⟨ab, ao + j * 2, none⟩) had).trans hk0
          have q1 := fun w' (h : Below w.heap.size w w') => (h.cell (p := ⟨ab, ao + j * 2 + 1, none⟩) had).trans hm0
          have R47 := Lib.hid fun w' (h : Two w' w.heap.size g v wo.heap.size A c l a) => step_any K M h hM (by omega)
          have i0 : (0 : Int) ≤ (j : Int) := by omega
          have i1 : (j : Int) < (n : Int) := by omega
          have i2 : (j : Int).toNat = j := by omega
          clear hk0 hm0 hops hM
          go_wp2_with fail
          refine wp_region_noPanic ?_
          refine wp_region_held_drew (S := fun w' => Below w.heap.size w w') (by kernel_rfl) hbl.drew (fun hHeld => ?_)
          refine wpAnyH_take (i := 0) (oi := Oper.mk (some 51) _ _ _ _ _) (v := ?_) rfl (by kernel_rfl) (by kernel_rfl) (by kernel_rfl) (fun _ _ _ h => h) (Or.inl ⟨by rfl, ?_⟩) (by assumption) ?_
          rotate_left
          · (intro w' hSw; (try dsimp only at hSw); go_simp; try with_reducible rfl)
          try simp only [Act.put, List.setIfInBounds_toArray, List.set_cons_zero, List.set_cons_succ]
          refine wpAnyH_take (i := 1) (oi := Oper.mk (some 52) _ _ _ _ _) (v := ?_) rfl (by kernel_rfl) (by kernel_rfl) (by kernel_rfl) (fun _ _ _ h => h) (Or.inl ⟨by rfl, ?_⟩) (by assumption) ?_
          rotate_left
          · (intro w' hSw; (try dsimp only at hSw); go_simp; try with_reducible rfl)
          try simp only [Act.put, List.setIfInBounds_toArray, List.set_cons_zero, List.set_cons_succ]
          refine wpAnyH_take (i := 2) (oi := Oper.mk (some 53) _ _ _ _ _) (v := ?_) rfl (by kernel_rfl) (by kernel_rfl) (by kernel_rfl) (fun _ _ _ h => h) (Or.inl ⟨by rfl, ?_⟩) (by assumption) ?_
          rotate_left
          · (intro w' hSw; (try dsimp only at hSw); go_simp; try with_reducible rfl)
          try simp only [Act.put, List.setIfInBounds_toArray, List.set_cons_zero, List.set_cons_succ]
          refine wpAnyH_take (i := 3) (oi := Oper.mk (some 54) _ _ _ _ _) (v := ?_) rfl (by kernel_rfl) (by kernel_rfl) (by kernel_rfl) (fun _ _ _ h => h) (Or.inl ⟨by rfl, ?_⟩) (by assumption) ?_
          rotate_left
          · (intro w' hSw; (try dsimp only at hSw); go_simp; try with_reducible rfl)
          try simp only [Act.put, List.setIfInBounds_toArray, List.set_cons_zero, List.set_cons_succ]
          refine wpAnyH_take (i := 4) (oi := Oper.mk (some 55) _ _ _ _ _) (v := ?_) rfl (by kernel_rfl) (by kernel_rfl) (by kernel_rfl) (fun _ _ _ h => h) (Or.inl ⟨by rfl, ?_⟩) (by assumption) ?_
          rotate_left
          · (intro w' hSw; (try dsimp only at hSw); go_simp; try with_reducible rfl)
          try simp only [Act.put, List.setIfInBounds_toArray, List.set_cons_zero, List.set_cons_succ]
          refine wpAnyH_take (i := 5) (oi := Oper.mk (some 56) _ _ _ _ _) (v := ?_) rfl (by kernel_rfl) (by kernel_rfl) (by kernel_rfl) (fun _ _ _ h => h) (Or.inl ⟨by rfl, ?_⟩) (by assumption) ?_
          rotate_left
          · (intro w' hSw; (try dsimp only at hSw); go_simp; try with_reducible rfl)
          try simp only [Act.put, List.setIfInBounds_toArray, List.set_cons_zero, List.set_cons_succ]
          refine wpAnyH_ready (rs := [6]) (by kernel_rfl) (by simp) ?_
          refine AllReadyH.cons (o := Oper.mk (some 57) _ _ _ _ _) rfl (fun K hK => ?_) AllReadyH.nil
          go_simp
          refine (R47.out _ (ht.drewN 1)).mono ?_
          rintro e w5 ⟨rfl, a5, ht5, hb5⟩
          replace hb5 := hbl.drew.trans hb5
          have d1 := fun w' (h : Below w5.heap.size w5 w') => ((ht5.two.kept h).c1)
          refine hK.out _ _ hb5 (fun _ => ?_)
          clear hK K hHeld
          refine wpAnyH_more (S' := fun w' => Below w5.heap.size w5 w') (fun w' h => hb5.up h hb5.size) ?_
          have hHeld := Below.refl w5.heap.size w5
          try simp only [Act.put, List.setIfInBounds_toArray, List.set_cons_zero, List.set_cons_succ]
          refine wpAnyH_take (i := 7) (oi := Oper.mk (some 58) _ _ _ _ _) (v := ?_) rfl (by kernel_rfl) (by kernel_rfl) (by kernel_rfl) (fun _ _ _ h => h) (Or.inl ⟨by rfl, ?_⟩) (by assumption) ?_
          rotate_left
          · (intro w' hSw; (try dsimp only at hSw); go_simp; try with_reducible rfl)
          try simp only [Act.put, List.setIfInBounds_toArray, List.set_cons_zero, List.set_cons_succ]
          refine wpAnyH_take (i := 8) (oi := Oper.mk (some 59) _ _ _ _ _) (v := ?_) rfl (by kernel_rfl) (by kernel_rfl) (by kernel_rfl) (fun _ _ _ h => h) (Or.inl ⟨by rfl, ?_⟩) (by assumption) ?_
          rotate_left
          · (intro w' hSw; (try dsimp only at hSw); go_simp; try with_reducible rfl)
          try simp only [Act.put, List.setIfInBounds_toArray, List.set_cons_zero, List.set_cons_succ]
          refine wpAnyH_take (i := 9) (oi := Oper.mk (some 60) _ _ _ _ _) (v := ?_) rfl (by kernel_rfl) (by kernel_rfl) (by kernel_rfl) (fun _ _ _ h => h) (Or.inl ⟨by rfl, ?_⟩) (by assumption) ?_
          rotate_left
          · (intro w' hSw; (try dsimp only at hSw); go_simp; try with_reducible rfl)
          try simp only [Act.put, List.setIfInBounds_toArray, List.set_cons_zero, List.set_cons_succ]
          refine wpAnyH_take (i := 11) (oi := Oper.mk (some 62) _ _ _ _ _) (v := ?_) rfl (by kernel_rfl) (by kernel_rfl) (by kernel_rfl) (fun _ _ _ h => h) (Or.inl ⟨by rfl, ?_⟩) (by assumption) ?_
          rotate_left
          · (intro w' hSw; (try dsimp only at hSw); go_simp; try with_reducible rfl)
          try simp only [Act.put, List.setIfInBounds_toArray, List.set_cons_zero, List.set_cons_succ]
          refine wpAnyH_take (i := 12) (oi := Oper.mk (some 63) _ _ _ _ _) (v := ?_) rfl (by kernel_rfl) (by kernel_rfl) (by kernel_rfl) (fun _ _ _ h => h) (Or.inl ⟨by rfl, ?_⟩) (by assumption) ?_
          rotate_left
          · (intro w' hSw; (try dsimp only at hSw); go_simp; try with_reducible rfl)
          try simp only [Act.put, List.setIfInBounds_toArray, List.set_cons_zero, List.set_cons_succ]
          refine wpAnyH_take (i := 13) (oi := Oper.mk (some 64) _ _ _ _ _) (v := ?_) rfl (by kernel_rfl) (by kernel_rfl) (by kernel_rfl) (fun _ _ _ h => h) (Or.inl ⟨by rfl, ?_⟩) (by assumption) ?_
          rotate_left
          · (intro w' hSw; (try dsimp only at hSw); go_simp; try with_reducible rfl)
          try simp only [Act.put, List.setIfInBounds_toArray, List.set_cons_zero, List.set_cons_succ]
          refine wpAnyH_take (i := 14) (oi := Oper.mk (some 65) _ _ _ _ _) (v := ?_) rfl (by kernel_rfl) (by kernel_rfl) (by kernel_rfl) (fun _ _ _ h => h) (Or.inl ⟨by rfl, ?_⟩) (by assumption) ?_
          rotate_left
          · (intro w' hSw; (try dsimp only at hSw); go_simp; try with_reducible rfl)
          try simp only [Act.put, List.setIfInBounds_toArray, List.set_cons_zero, List.set_cons_succ]
          refine wpAnyH_ready (rs := [10]) (by kernel_rfl) (by simp) ?_
          refine AllReadyH.cons (o := Oper.mk (some 61) _ _ _ _ _) rfl (fun K hK => ?_) AllReadyH.nil
          go_simp
          refine (place_any ht5.one).mono ?_
          rintro e w' ⟨rfl, rfl⟩
          refine hK.out _ _ (Below.refl w5.heap.size w5) (fun _ => ?_)
          clear hK K hHeld
          have hHeld := (Below.refl w5.heap.size w5)
          try simp only [Act.put, List.setIfInBounds_toArray, List.set_cons_zero, List.set_cons_succ]
          refine wpAnyH_take (i := 15) (oi := Oper.mk (some 66) _ _ _ _ _) (v := ?_) rfl (by kernel_rfl) (by kernel_rfl) (by kernel_rfl) (fun _ _ _ h => h) (Or.inl ⟨by rfl, ?_⟩) (by assumption) ?_
          rotate_left
          · (intro w' hSw; (try dsimp only at hSw); go_simp; try with_reducible rfl)
          try simp only [Act.put, List.setIfInBounds_toArray, List.set_cons_zero, List.set_cons_succ]
          refine wpAnyH_take (i := 16) (oi := Oper.mk (some 67) _ _ _ _ _) (v := ?_) rfl (by kernel_rfl) (by kernel_rfl) (by kernel_rfl) (fun _ _ _ h => h) (Or.inl ⟨by rfl, ?_⟩) (by assumption) ?_
          rotate_left
          · (intro w' hSw; (try dsimp only at hSw); go_simp; try with_reducible rfl)
          try simp only [Act.put, List.setIfInBounds_toArray, List.set_cons_zero, List.set_cons_succ]
          refine wpAnyH_take (i := 17) (oi := Oper.mk (some 68) _ _ _ _ _) (v := ?_) rfl (by kernel_rfl) (by kernel_rfl) (by kernel_rfl) (fun _ _ _ h => h) (Or.inl ⟨by rfl, ?_⟩) (by assumption) ?_
          rotate_left
          · (intro w' hSw; (try dsimp only at hSw); go_simp; try with_reducible rfl)
          try simp only [Act.put, List.setIfInBounds_toArray, List.set_cons_zero, List.set_cons_succ]
          refine wpAnyH_take (i := 18) (oi := Oper.mk (some 69) _ _ _ _ _) (v := ?_) rfl (by kernel_rfl) (by kernel_rfl) (by kernel_rfl) (fun _ _ _ h => h) (Or.inl ⟨by rfl, ?_⟩) (by assumption) ?_
          rotate_left
          · (intro w' hSw; (try dsimp only at hSw); go_simp; try with_reducible rfl)
          try simp only [Act.put, List.setIfInBounds_toArray, List.set_cons_zero, List.set_cons_succ]
          refine wpAnyH_take (i := 20) (oi := Oper.mk (some 71) _ _ _ _ _) (v := ?_) rfl (by kernel_rfl) (by kernel_rfl) (by kernel_rfl) (fun _ _ _ h => h) (Or.inl ⟨by rfl, ?_⟩) (by assumption) ?_
          rotate_left
          · (intro w' hSw; (try dsimp only at hSw); go_simp; try with_reducible rfl)
          try simp only [Act.put, List.setIfInBounds_toArray, List.set_cons_zero, List.set_cons_succ]
          refine wpAnyH_ready (rs := [19]) (by kernel_rfl) (by simp) ?_
          refine AllReadyH.cons (o := Oper.mk (some 70) _ _ _ _ _) rfl (fun K hK => ?_) AllReadyH.nil
          go_simp
          refine (left_any ht5.one).mono ?_
          rintro e w' ⟨rfl, k6, rfl⟩
          refine hK.out _ _ (below_drewN (Below.refl w5.heap.size w5) k6) (fun _ => ?_)
          clear hK K hHeld
          have hHeld := (below_drewN (Below.refl w5.heap.size w5) k6)
          try simp only [Act.put, List.setIfInBounds_toArray, List.set_cons_zero, List.set_cons_succ]
          refine wpAnyH_ready (rs := [21]) (by kernel_rfl) (by simp) ?_
          refine AllReadyH.cons (o := Oper.mk (some 72) _ _ _ _ _) rfl (fun K hK => ?_) AllReadyH.nil
          go_simp
          refine (rleft_any (ht5.drewN k6).two).mono ?_
          rintro e w' ⟨rfl, k7, rfl⟩
          refine hK.out _ _ (below_drewN (below_drewN (Below.refl w5.heap.size w5) k6) k7) (fun _ => ?_)
          clear hK K hHeld
          have hHeld := (below_drewN (below_drewN (Below.refl w5.heap.size w5) k6) k7)
          try simp only [Act.put, List.setIfInBounds_toArray, List.set_cons_zero, List.set_cons_succ]
          refine wpAnyH_take (i := 22) (oi := Oper.mk (some 73) _ _ _ _ _) (v := ?_) rfl (by kernel_rfl) (by kernel_rfl) (by kernel_rfl) (fun _ _ _ h => h) (Or.inl ⟨by rfl, ?_⟩) (by assumption) ?_
          rotate_left
          · (intro w' hSw; (try dsimp only at hSw); go_simp; try with_reducible rfl)
          try simp only [Act.put, List.setIfInBounds_toArray, List.set_cons_zero, List.set_cons_succ]
          refine wpAnyH_take (i := 23) (oi := Oper.mk (some 74) _ _ _ _ _) (v := ?_) rfl (by kernel_rfl) (by kernel_rfl) (by kernel_rfl) (fun _ _ _ h => h) (Or.inl ⟨by rfl, ?_⟩) (by assumption) ?_
          rotate_left
          · (intro w' hSw; (try dsimp only at hSw); go_simp; try with_reducible rfl)
          try simp only [Act.put, List.setIfInBounds_toArray, List.set_cons_zero, List.set_cons_succ]
          refine wpAnyH_done (by kernel_rfl) ?_ _
          refine NoPanic.normal ?_
          go_wp2_with fail
          go_roundg (300 - (j + 1))
          case measure => have := Hj.out; omega
          case rel =>
            exact ⟨j + 1, a5, by go_num, by omega, ht5.drewN _, below_drewN hb5 _⟩
        · clear hj
          have hlt' : ¬ ((j : Int) < (n : Int)) ∨ ¬ ((j : Int) < 300) := by omega
          rcases hlt' with h1 | h1
          all_goals
            go_wp2_with fail
            all_goals
              refine (R10.out _).mono ?_
              rintro e w9 ⟨rfl, hb9⟩
              go_wp2
              go_ret
              exact ⟨rfl, hbl.up hb9 hbl.size⟩
end Go.Proofs.Ytgmienlifnpniaa
