/- tracerylaw01.most: texts and lists, by both readers. -/
import Derived.Test.YtgmienlifnpniaaStep
import Derived.Test.YtgmienlifnpniaaRRd3
namespace Go.Proofs.Ytgmienlifnpniaa
open Go.RowKit
set_option linter.unusedSimpArgs false

theorem below_box {w : World} {B : Nat} (h : B ≤ w.heap.size) (o : Obj) : Below B w (w.alloc o) := (Below.refl _ _).alloc h o

set_option maxRecDepth 100000 in
set_option maxHeartbeats 4000000 in
theorem most_5 {w : World} {B g gd c a : Nat} {v : Value} {A : Option Addr} {l : List UInt8} (M : Int) (h : Two w B g v gd A c l a) (hm : M < 9223372036854775808) :
    Calls Try.prog 80 #[.pointer (some ⟨g, 0, none⟩), .pointer (some ⟨gd, 0, none⟩), .agg #[.int .i64 5, .int .i64 M]] w (Stepped w B g v gd A c l) := by
  have hh := h.alloc (.cells #[.int .i64 5, .int .i64 M] 89)
  have hw0 := below_box h.size (.cells #[.int .i64 5, .int .i64 M] 89)
  have hb := Blk.new w 89 #[.int .i64 5, .int .i64 M]
  have hng : w.heap.size ≠ g := by have := h.one.blk.lt; omega
  have HT := text_any hh.one hm
  by_cases hneg : M < 0
  · have H1 := Lib.hid (HT.mono fun e w' hh => reads1_err' (show Wire.text M (l.drop a) = .err 2 from if_pos hneg) hh)
    clear h HT
    go_enter Try.func80, Try.ntmps80
    go_wp2_with fail
    refine H1.out.mono ?_
    rintro e w2 ⟨rfl, hr2, hg2⟩
    have c1' := (hb.grown hg2 (fun e => hng (Option.some.inj e))).cell 1
    unfold strV
    have hf : Two w2 B g v gd A c l a := ⟨hr2, hh.two' hg2, hh.ne, hh.ne2, Nat.le_trans hh.size hg2.size⟩
    have hbf := hw0.trans (below_of_two hg2 hh.one.base hh.size)
    go_wp2_with (go_at_call 33; refine (num_errno _ _).mono ?_; rintro e w' ⟨rfl, rfl⟩)
    go_ret
    exact ⟨rfl, _, hf, hbf⟩
  obtain ⟨M, rfl⟩ := Int.eq_ofNat_of_zero_le (show 0 ≤ M by omega)
  have hM0 : (0 : Int) ≤ M := by omega
  have hM9 : M < 9223372036854775808 := by omega
  cases hn : Wire.text (M : Int) (l.drop a) with
  | err k =>
    have H1 := Lib.hid (HT.mono fun e w' hh => reads1_err' hn hh)
    have H2 := Lib.hid fun w' (h' : RR w' B gd A c l a) => (rtextR_any h' hM9).mono fun e w' hh => rreads_err' hn hh
    clear h HT hneg hm hn hM9
    go_enter Try.func80, Try.ntmps80
    go_wp2_with fail
    refine H1.out.mono ?_
    rintro e w2 ⟨rfl, hr2, hg2⟩
    have z2 : B ≤ w2.heap.size := Nat.le_trans hh.size hg2.size
    have c1' := (hb.grown hg2 (fun e => hng (Option.some.inj e))).cell 1
    go_wp2_with fail
    refine (H2.out _ (hh.two' hg2)).mono ?_
    rintro e w3 ⟨rfl, hr3, hg3⟩
    unfold strV
    have hf : Two w3 B g v gd A c l a := ⟨hr2.other hg3 hh.ne hh.ne2, hr3, hh.ne, hh.ne2, Nat.le_trans z2 hg3.size⟩
    have hbf := hw0.trans ((below_of_two hg2 hh.one.base hh.size).trans (below_of_two hg3 hh.two.base z2))
    go_wp2_with (go_at_call 33; refine (num_errno _ _).mono ?_; rintro e w' ⟨rfl, rfl⟩)
    go_ret
    exact ⟨rfl, _, hf, hbf⟩
  | ok s k =>
    have H1 := Lib.hid (HT.mono fun e w' hh => reads1_ok' hn hh)
    have H2 := Lib.hid fun w' (h' : RR w' B gd A c l a) => (rtextR_any h' hM9).mono fun e w' hh => rreads_ok' hn hh
    clear h HT hneg hm hn hM9
    go_enter Try.func80, Try.ntmps80
    go_wp2_with fail
    refine H1.out.mono ?_
    rintro e w2 ⟨rfl, hr2, hg2⟩
    have z2 : B ≤ w2.heap.size := Nat.le_trans hh.size hg2.size
    have c1' := (hb.grown hg2 (fun e => hng (Option.some.inj e))).cell 1
    go_wp2_with fail
    refine (H2.out _ (hh.two' hg2)).mono ?_
    rintro e w3 ⟨rfl, hr3, hg3⟩
    have hf : Two w3 B g v gd A c l (a + k) := ⟨hr2.other hg3 hh.ne hh.ne2, hr3, hh.ne, hh.ne2, Nat.le_trans z2 hg3.size⟩
    have hbf := hw0.trans ((below_of_two hg2 hh.one.base hh.size).trans (below_of_two hg3 hh.two.base z2))
    unfold strV
    go_wp2_with (go_at_call 33; refine (num_errno _ _).mono ?_; rintro e w' ⟨rfl, rfl⟩)
    go_ret
    exact ⟨rfl, _, hf, hbf⟩

set_option maxRecDepth 100000 in
set_option maxHeartbeats 4000000 in
theorem most_9 {w : World} {B g gd c a : Nat} {v : Value} {A : Option Addr} {l : List UInt8} (M : Int) (h : Two w B g v gd A c l a) (hm : M < 9223372036854775808) (hll : l.length ≤ 1048577) :
    Calls Try.prog 80 #[.pointer (some ⟨g, 0, none⟩), .pointer (some ⟨gd, 0, none⟩), .agg #[.int .i64 9, .int .i64 M]] w (Stepped w B g v gd A c l) := by
  have hh := h.alloc (.cells #[.int .i64 9, .int .i64 M] 89)
  have hw0 := below_box h.size (.cells #[.int .i64 9, .int .i64 M] 89)
  have hb := Blk.new w 89 #[.int .i64 9, .int .i64 M]
  have hng : w.heap.size ≠ g := by have := h.one.blk.lt; omega
  have HT := takeU_any hh.one hm hll
  by_cases hneg : M < 0
  · have H1 := Lib.hid (HT.mono fun e w' hh => taker_err' (show Wire.take_ M (l.drop a) = .err 2 from if_pos hneg) hh)
    clear h HT
    go_enter Try.func80, Try.ntmps80
    go_wp2_with fail
    refine H1.out.mono ?_
    rintro e w2 ⟨rfl, hr2, hg2⟩
    have c1' := (hb.grown hg2 (fun e => hng (Option.some.inj e))).cell 1
    have hf : Two w2 B g v gd A c l a := ⟨hr2, hh.two' hg2, hh.ne, hh.ne2, Nat.le_trans hh.size hg2.size⟩
    have hbf := hw0.trans (below_of_two hg2 hh.one.base hh.size)
    go_wp2_with (go_at_call 33; refine (num_errno _ _).mono ?_; rintro e w' ⟨rfl, rfl⟩)
    go_ret
    exact ⟨rfl, _, hf, hbf⟩
  obtain ⟨M, rfl⟩ := Int.eq_ofNat_of_zero_le (show 0 ≤ M by omega)
  have hM0 : (0 : Int) ≤ M := by omega
  have hM9 : (M : Int) ≤ 9223372036854775807 := by omega
  cases hn : Wire.take_ (M : Int) (l.drop a) with
  | err k =>
    have H1 := Lib.hid (HT.mono fun e w' hh => taker_err' hn hh)
    have H2 := Lib.hid fun w' (h' : RR w' B gd A c l a) => (rnumbersR_any h' hM9 hll).mono fun e w' hh => rtake_err' hn hh
    clear h HT hneg hm hn
    go_enter Try.func80, Try.ntmps80
    go_wp2_with fail
    refine H1.out.mono ?_
    rintro e w2 ⟨rfl, hr2, hg2⟩
    have z2 : B ≤ w2.heap.size := Nat.le_trans hh.size hg2.size
    have c1' := (hb.grown hg2 (fun e => hng (Option.some.inj e))).cell 1
    go_wp2_with fail
    refine (H2.out _ (hh.two' hg2)).mono ?_
    rintro e w3 ⟨rfl, hr3, hg3⟩
    have hf : Two w3 B g v gd A c l a := ⟨hr2.other hg3 hh.ne hh.ne2, hr3, hh.ne, hh.ne2, Nat.le_trans z2 hg3.size⟩
    have hbf := hw0.trans ((below_of_two hg2 hh.one.base hh.size).trans (below_of_two hg3 hh.two.base z2))
    go_wp2_with (go_at_call 33; refine (num_errno _ _).mono ?_; rintro e w' ⟨rfl, rfl⟩)
    refine wp_loop_rounds 1 ?_
    rw [rounds_succ]
    go_wp2_with fail
    go_ret
    exact ⟨rfl, _, hf, hbf⟩
  | ok xs k =>
    have H1 := Lib.hid (HT.mono fun e w' hh => taker_ok' hn hh)
    have H2 := Lib.hid fun w' (h' : RR w' B gd A c l a) => (rnumbersR_any h' hM9 hll).mono fun e w' hh => rtake_ok' hn hh
    clear h HT hneg hm hn
    go_enter Try.func80, Try.ntmps80
    go_wp2_with fail
    refine H1.out.mono ?_
    rintro e w2 ⟨A1, n1, c1, rfl, ho1, hr2, hg2⟩
    have z2 : B ≤ w2.heap.size := Nat.le_trans hh.size hg2.size
    have c1' := (hb.grown hg2 (fun e => hng (Option.some.inj e))).cell 1
    obtain rfl := ho1.len
    go_wp2_with fail
    refine (H2.out _ (hh.two' hg2)).mono ?_
    rintro e w3 ⟨A2, n2, c2, rfl, ho2, hr3, hg3⟩
    obtain rfl := ho2.len
    have hf : Two w3 B g v gd A c l (a + k) := ⟨hr2.other hg3 hh.ne hh.ne2, hr3, hh.ne, hh.ne2, Nat.le_trans z2 hg3.size⟩
    have hbf := hw0.trans ((below_of_two hg2 hh.one.base hh.size).trans (below_of_two hg3 hh.two.base z2))
    have ho1' := ho1.grown hg3 hh.two.lt
    have hx1 : ∀ j (hj : j < xs.length), 0 < xs.length → ∃ bb, A1 = some ⟨bb, 0, none⟩ ∧ w3.cell? ⟨bb, j, none⟩ = some (uv xs[j]) := fun j hj h0 => by
      obtain ⟨bb, e, hc⟩ := ho1'.at_ h0
      exact ⟨bb, e, hc j hj⟩
    have hx2 : ∀ j (hj : j < xs.length), 0 < xs.length → ∃ bb, A2 = some ⟨bb, 0, none⟩ ∧ w3.cell? ⟨bb, j, none⟩ = some (uv xs[j]) := fun j hj h0 => by
      obtain ⟨bb, e, hc⟩ := ho2.at_ h0
      exact ⟨bb, e, hc j hj⟩
    have hl1 : xs.length ≤ c1 := by obtain ⟨_, _, e, h⟩ := ho1'.form; injection e with _ _ e; omega
    have hl2 : xs.length ≤ c2 := by obtain ⟨_, _, e, h⟩ := ho2.form; injection e with _ _ e; omega
    have hxl : xs.length ≤ 9223372036854775807 := by
      rcases ho1'.2 with ⟨_, h0⟩ | ⟨_, cap, _, e, _, _, h1, h2, _⟩
      · omega
      · unfold maxLen at h2; omega
    have Hx1 := Lib.hid hx1
    have Hx2 := Lib.hid hx2
    clear hx1 hx2 ho1 ho2 ho1' hr2 hr3 hg2 hg3 c1'
    go_wp2_with (go_at_call 33; refine (num_errno _ _).mono ?_; rintro e w' ⟨rfl, rfl⟩)
    go_loopg [15] xs.length (fun q i wr => ∃ (j nd : Nat), i = .int .i64 (j : Int) ∧ j + q = xs.length ∧ wr = w3.drewN nd)
    case atStart => exact ⟨0, 0, rfl, by omega, rfl⟩
    case round =>
      obtain ⟨j, nd, rfl, hj, rfl⟩ := hrel
      have Hj := Lib.hid hj
      by_cases hlt : j < xs.length
      · obtain ⟨bb1, rfl, k1⟩ := Hx1.out j hlt (by omega)
        obtain ⟨bb2, rfl, k2⟩ := Hx2.out j hlt (by omega)
        unfold uv at k1 k2
        have i0 : (0 : Int) ≤ (j : Int) := by omega
        have i1 : (j : Int) < (xs.length : Int) := by omega
        have i2 : (j : Int).toNat = j := by omega
        clear hj
        go_wp2_with (go_quiet (fail))
        go_roundg (xs.length - (j + 1))
        case measure => have := Hj.out; omega
        case rel => exact ⟨j + 1, _, by go_num, by omega, rfl⟩
      · clear hj
        go_wp2_with fail
        go_ret
        exact ⟨rfl, _, hf.drewN _, below_drewN hbf _⟩

set_option maxRecDepth 100000 in
set_option maxHeartbeats 1000000 in
theorem most_no {w : World} {B g gd c a : Nat} {v : Value} {A : Option Addr} {l : List UInt8} (K M : Int) (h : Two w B g v gd A c l a) (h5 : K ≠ 5) (h9 : K ≠ 9) :
    Calls Try.prog 80 #[.pointer (some ⟨g, 0, none⟩), .pointer (some ⟨gd, 0, none⟩), .agg #[.int .i64 K, .int .i64 M]] w (Stepped w B g v gd A c l) := by
  have hh := h.alloc (.cells #[.int .i64 K, .int .i64 M] 89)
  have hw0 := below_box h.size (.cells #[.int .i64 K, .int .i64 M] 89)
  have e5 : (K == 5) = false := by simpa using h5
  have e9 : (K == 9) = false := by simpa using h9
  clear h h5 h9
  go_enter Try.func80, Try.ntmps80
  go_wp2
  go_ret
  exact ⟨rfl, _, hh, hw0⟩

theorem most_any {w : World} {B g gd c a : Nat} {v : Value} {A : Option Addr} {l : List UInt8} (K M : Int) (h : Two w B g v gd A c l a) (hm : M < 9223372036854775808) (hll : l.length ≤ 1048577) :
    Calls Try.prog 80 #[.pointer (some ⟨g, 0, none⟩), .pointer (some ⟨gd, 0, none⟩), .agg #[.int .i64 K, .int .i64 M]] w (Stepped w B g v gd A c l) := by
  by_cases h5 : K = 5
  · subst h5; exact most_5 M h hm
  by_cases h9 : K = 9
  · subst h9; exact most_9 M h hm hll
  exact most_no K M h h5 h9

set_option maxRecDepth 100000 in
set_option maxHeartbeats 1000000 in
theorem step_any {w : World} {B g gd c a : Nat} {v : Value} {A : Option Addr} {l : List UInt8} (K M : Int) (h : Two w B g v gd A c l a) (hm : M < 9223372036854775808) (hll : l.length ≤ 1048577) :
    Calls Try.prog 47 #[.pointer (some ⟨g, 0, none⟩), .pointer (some ⟨gd, 0, none⟩), .agg #[.int .i64 K, .int .i64 M]] w (Stepped w B g v gd A c l) := by
  by_cases h1 : K = 1
  · subst h1; exact step_1 M h
  by_cases h2 : K = 2
  · subst h2; exact step_2 M h
  by_cases h3 : K = 3
  · subst h3; exact step_3 M h
  by_cases h4 : K = 4
  · subst h4; exact step_4 M h
  by_cases h6 : K = 6
  · subst h6; exact step_6 M h
  by_cases h7 : K = 7
  · subst h7; exact step_7 M h
  by_cases h8 : K = 8
  · subst h8; exact step_8 M h
  have hh := h.alloc (.cells #[.int .i64 K, .int .i64 M] 89)
  have hw0 := below_box h.size (.cells #[.int .i64 K, .int .i64 M] 89)
  have H := Lib.hid (most_any K M hh hm hll)
  have e1 : (K == 1) = false := by simpa using h1
  have e2 : (K == 2) = false := by simpa using h2
  have e3 : (K == 3) = false := by simpa using h3
  have e4 : (K == 4) = false := by simpa using h4
  have e6 : (K == 6) = false := by simpa using h6
  have e7 : (K == 7) = false := by simpa using h7
  have e8 : (K == 8) = false := by simpa using h8
  clear h h1 h2 h3 h4 h6 h7 h8 hh hm
  go_enter Try.func47, Try.ntmps47
  go_wp2_with fail
  refine H.out.mono ?_
  rintro e w1 ⟨rfl, a', ht, hb⟩
  go_wp2_with fail
  go_ret
  exact ⟨rfl, _, ht, hw0.trans hb⟩
end Go.Proofs.Ytgmienlifnpniaa
