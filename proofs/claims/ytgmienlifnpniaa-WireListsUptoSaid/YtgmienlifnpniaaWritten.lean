/- tracerylaw01.like, written. -/
import Derived.Test.YtgmienlifnpniaaBackP
import Derived.Test.YtgmienlifnpniaaRdGauss
import Derived.Test.YtgmienlifnpniaaPlain
namespace Go.Proofs.Ytgmienlifnpniaa
open Go.RowKit
set_option linter.unusedSimpArgs false

theorem like_any (x y : Nat) (w : World) :
    Calls Try.prog 43 #[.float .f64 x, .float .f64 y] w fun e w' => e = .returned (.bool ((Wire.canon x : Int) == (Wire.canon y : Int))) ∧ w = w' := by
  have H := Lib.hid rbits_any
  go_enter Try.func43, Try.ntmps43
  go_wp2_with (go_at_call 56; refine (H.out _ _).mono ?_; rintro e w' ⟨rfl, rfl⟩)
  go_ret
  exact ⟨rfl, rfl⟩

theorem ReadsB.below {w w' : World} {B : Nat} {A : Option Addr} {l : List UInt8} (h : ReadsB w B A l) (hb : Below B w w') : ReadsB w' B A l := Reads.below h hb
theorem ReadsB.more {w : World} {B B' : Nat} {A : Option Addr} {l : List UInt8} (h : ReadsB w B A l) (hB : B ≤ B') : ReadsB w B' A l := Reads.more h hB
theorem ReadsB.take {w : World} {B : Nat} {A : Option Addr} {l : List UInt8} (h : ReadsB w B A l) (k : Nat) (hk : k ≤ l.length) : ReadsB w B A (l.take k) := by
  refine ⟨by simp, fun hn => ?_⟩
  rw [List.length_take] at hn
  obtain ⟨ad, e, hb, hc⟩ := h.2 (by omega)
  refine ⟨ad, e, hb, fun j u hu => hc j u ?_⟩
  rw [List.map_take, List.getElem?_take] at hu
  split at hu
  · exact hu
  · cases hu
theorem ReadsB.str {w : World} {B n c : Nat} {A : Option Addr} {l : List UInt8} (h : ReadsB w B A l) (hn : n = l.length) : ∀ k, (convert 23 9 (.slice A n c)).run Try.prog (w.drewN k) = .ok (.string ⟨l.toArray⟩) (w.drewN k) :=
  fun k => run_str hn (w := w.drewN k) (B := B) h

theorem _root_.Go.RowKit.Below.rd {w w1 w2 : World} {B g : Nat} {v : Value} {l : List UInt8} {a : Nat} (h : Below B w w1) (hr : Rd w1 B g v l a) (hs : B ≤ w1.heap.size) (hg : w1.grownBy w2 (some g)) : Below B w w2 :=
  h.trans (below_of_only hg hr.base hs)


theorem OwnB.cap {w : World} {B n c : Nat} {A : Option Addr} {l : List UInt8} (h : OwnB w B (.slice A n c) l) : n ≤ c ∧ c ≤ maxLen := by
  rcases h.2 with ⟨h', h0⟩ | ⟨g, cap, cur, h', _, _, hc, hm, _⟩
  · injection h' with h1 h2 h3
    subst h2 h3
    exact ⟨Nat.le_refl _, Nat.zero_le _⟩
  · injection h' with h1 h2 h3
    subst h3
    have := h.len
    exact ⟨by omega, hm⟩


set_option maxRecDepth 100000 in
set_option maxHeartbeats 4000000 in
theorem written_ee (A : Option Addr) (c : Nat) (l : List UInt8) (w : World) (hr : ReadsB w w.heap.size A l) (hl : l.length ≤ 1048576) (_hc : l.length ≤ c) (_hc2 : c ≤ maxLen) {c1 : Nat} {c2 : Nat}
    (hx : Wire.num l = .err c1) (hy : Wire.both Wire.frac l = .err c2) :
    Calls Try.prog 46 #[.slice A l.length c] w fun e w' => e = .returned (.bool true) ∧ Below w.heap.size w w' := by
  have HR := Lib.hid hr
  have HO := Lib.hid fun w' (hb : Below w.heap.size w w') => open_any A l.length c l w' ((hr.below hb).more hb.size) (by omega) rfl
  have H3 := Lib.hid fun w' B g v (h : Rd w' B g v l 0) => (gauss_rd h).mono fun e w' hh => reads1_err' hy hh
  have hc9 := ne_code (Wire.both_err Wire.frac_err hy)
  have hc1 := Wire.numGo_err _ _ _ _ _ hx
  have H1 := Lib.hid fun w' g v (h : Rd w' w.heap.size g v l 0) => number_err h hx
  clear hr hx hy
  rcases hc1 with rfl | rfl
  all_goals
    go_enter Try.func46, Try.ntmps46
    go_wp2_with fail
    refine (HO.out _ (Below.refl _ _)).mono ?_
    rintro e w1 ⟨g1, v1, rfl, hr1, hb1⟩
    have z1 := hb1.size
    go_wp2_with fail
    refine (H1.out _ _ _ hr1).mono ?_
    rintro e w2 ⟨rfl, hr2, hg2⟩
    have b2 := hb1.rd hr1 z1 hg2
    have z2 := b2.size
    clear hr2 hg2 hr1 hb1
    go_wp2_with (first | (go_at_call 33; refine (num_errno _ _).mono ?_; rintro e w' ⟨rfl, rfl⟩) | fail)
    refine (HO.out _ b2).mono ?_
    rintro e w6 ⟨g6, v6, rfl, hr6, hb6⟩
    have b6 := b2.up hb6 b2.size
    have z6 := b6.size
    go_wp2_with fail
    refine (H3.out _ _ _ _ hr6).mono ?_
    rintro e w7 ⟨rfl, hr7, hg7⟩
    have b67 := hb6.rd hr6 (Nat.le_trans (Nat.le_refl _) hb6.size) hg7
    have b7 := b2.up b67 b2.size
    have z7 := b7.size
    go_wp2_with (first
      | (go_at_call 33; refine (num_errno _ _).mono ?_; rintro e w' ⟨rfl, rfl⟩)
      | (go_at_call 37; refine (place_any (hr7.alloc _)).mono ?_; rintro e w' ⟨rfl, rfl⟩))
    go_ret
    exact ⟨rfl, b7.alloc z7 _⟩

set_option maxRecDepth 100000 in
set_option maxHeartbeats 4000000 in
theorem written_eo (A : Option Addr) (c : Nat) (l : List UInt8) (w : World) (hr : ReadsB w w.heap.size A l) (hl : l.length ≤ 1048576) (_hc : l.length ≤ c) (_hc2 : c ≤ maxLen) {c1 : Nat} {x y : (Bool × ByteArray) × (Bool × ByteArray)} {k2 : Nat}
    (hx : Wire.num l = .err c1) (hy : Wire.both Wire.frac l = .ok (x, y) k2) :
    Calls Try.prog 46 #[.slice A l.length c] w fun e w' => e = .returned (.bool true) ∧ Below w.heap.size w w' := by
  have HR := Lib.hid hr
  have HO := Lib.hid fun w' (hb : Below w.heap.size w w') => open_any A l.length c l w' ((hr.below hb).more hb.size) (by omega) rfl
  have hg := Wire.gauss_take hy
  have hgp := Wire.gauss_plain hy
  unfold Wire.gaussP at hgp
  rw [Bool.and_eq_true] at hgp
  have hk9 : k2 = (Wire.formG (x, y)).length := by rw [hg.1, List.length_take]; omega
  subst hk9
  have HG := Lib.hid hg.1
  have HK2 := Lib.hid hg.2
  have HGL := Lib.hid (show (Wire.formG (x, y)).length ≤ c by have := hg.2; omega)
  have H3 := Lib.hid fun w' B g v (h : Rd w' B g v l 0) => (gauss_rd h).mono fun e w' hh => reads1_ok' hy hh
  have H4 := Lib.hid (show ∀ w, Calls Try.prog 23 #[.agg #[.bool x.1.1, .string x.1.2, .bool x.2.1, .string x.2.2, .bool y.1.1, .string y.1.2, .bool y.2.1, .string y.2.2]] w fun e w' => ∃ A n' c, e = .returned (.tuple #[.slice A n' c, .int .i64 0]) ∧ OwnB w' w.heap.size (.slice A n' c) (Wire.formG (x, y)) ∧ Below w.heap.size w w' from fun w => gaussForm_yes x.1.1 x.1.2 x.2.1 x.2.2 y.1.1 y.1.2 y.2.1 y.2.2 w hgp.1 hgp.2)
  clear hg hgp
  have hc1 := Wire.numGo_err _ _ _ _ _ hx
  have H1 := Lib.hid fun w' g v (h : Rd w' w.heap.size g v l 0) => number_err h hx
  clear hr hx hy
  rcases hc1 with rfl | rfl
  all_goals
    go_enter Try.func46, Try.ntmps46
    go_wp2_with fail
    refine (HO.out _ (Below.refl _ _)).mono ?_
    rintro e w1 ⟨g1, v1, rfl, hr1, hb1⟩
    have z1 := hb1.size
    go_wp2_with fail
    refine (H1.out _ _ _ hr1).mono ?_
    rintro e w2 ⟨rfl, hr2, hg2⟩
    have b2 := hb1.rd hr1 z1 hg2
    have z2 := b2.size
    clear hr2 hg2 hr1 hb1
    go_wp2_with (first | (go_at_call 33; refine (num_errno _ _).mono ?_; rintro e w' ⟨rfl, rfl⟩) | fail)
    refine (HO.out _ b2).mono ?_
    rintro e w6 ⟨g6, v6, rfl, hr6, hb6⟩
    have b6 := b2.up hb6 b2.size
    have z6 := b6.size
    go_wp2_with fail
    refine (H3.out _ _ _ _ hr6).mono ?_
    rintro e w7 ⟨rfl, hr7, hg7⟩
    have b67 := hb6.rd hr6 (Nat.le_trans (Nat.le_refl _) hb6.size) hg7
    have b7 := b2.up b67 b2.size
    have z7 := b7.size
    go_wp2_with (first | (go_at_call 33; refine (num_errno _ _).mono ?_; rintro e w' ⟨rfl, rfl⟩) | fail)
    refine (H4.out _).mono ?_
    rintro e w8 ⟨A8, m8, c8, rfl, ho8, hb8⟩
    obtain rfl := ho8.len
    have hr8 := (hr7.alloc _).kept hb8
    have b8 := (b7.alloc z7 (.cells #[.bool x.1.1, .string x.1.2, .bool x.2.1, .string x.2.2, .bool y.1.1, .string y.1.2, .bool y.2.1, .string y.2.2] 32)).up hb8 (by rw [World.size_alloc]; omega)
    have t3 := (ho8.reads).str (c := c8) rfl
    have t4 := ((HR.out.below b8).take (Wire.formG (x, y)).length HK2.out).str (c := c) (n := (Wire.formG (x, y)).length) (by rw [List.length_take]; have := HK2.out; omega)
    rw [← HG.out] at t4
    have HGL' := HGL.out
    have g12 : ((Wire.formG (x, y)).length : Int) ≤ (c : Int) := by omega
    have g13 : (0 : Int) ≤ ((Wire.formG (x, y)).length : Int) := by omega
    have g11 : ((((Wire.formG (x, y)).length : Nat) : Int) == ((0 + (Wire.formG (x, y)).length : Nat) : Int)) = true := by simp
    go_wp2_with fail
    go_quiet ((first | (go_at_call 37; exact quiet_left (place_any (hr8.drewN _))) | (go_at_call 33; exact quiet_left (num_errno _ _))))
    go_wp2
    go_ret
    exact ⟨rfl, below_drewN b8 _⟩

set_option maxRecDepth 100000 in
set_option maxHeartbeats 4000000 in
theorem written_oe (A : Option Addr) (c : Nat) (l : List UInt8) (w : World) (hr : ReadsB w w.heap.size A l) (hl : l.length ≤ 1048576) (hc : l.length ≤ c) (_hc2 : c ≤ maxLen) {N k : Nat} {c2 : Nat}
    (hx : Wire.num l = .ok N k) (hy : Wire.both Wire.frac l = .err c2) :
    Calls Try.prog 46 #[.slice A l.length c] w fun e w' => e = .returned (.bool true) ∧ Below w.heap.size w w' := by
  have HR := Lib.hid hr
  have HO := Lib.hid fun w' (hb : Below w.heap.size w w') => open_any A l.length c l w' ((hr.below hb).more hb.size) (by omega) rfl
  have H3 := Lib.hid fun w' B g v (h : Rd w' B g v l 0) => (gauss_rd h).mono fun e w' hh => reads1_err' hy hh
  have hc9 := ne_code (Wire.both_err Wire.frac_err hy)
  obtain ⟨hN, hk1, hk2⟩ := Wire.num_bd hx
  have ht := Wire.num_take hx
  have hm2 : (Wire.form N).length ≤ l.length := by rw [ht, List.length_take]; omega
  have hk : k = (Wire.form N).length := by rw [ht, List.length_take]; omega
  subst hk
  have H1 := Lib.hid fun w' g v (h : Rd w' w.heap.size g v l 0) => number_ok h hx
  have HN := Lib.hid fun w' => by have h := num_any (N : Int) w' (by omega) (by omega); rw [Int.toNat_natCast] at h; exact h
  have HS := Lib.hid fun w' B g v (h : Rd w' B g v ((Wire.form N).take ((Wire.form N).length - 1)) 0) => number_err h (Wire.num_short hN)
  have HT := Lib.hid ht
  have HM := Lib.hid (Wire.form_len hN)
  have HM0 := Lib.hid (Wire.form_pos N)
  have HM2 := Lib.hid hm2
  clear hr hx hy hk1 hk2 ht hm2
  go_enter Try.func46, Try.ntmps46
  go_wp2_with fail
  refine (HO.out _ (Below.refl _ _)).mono ?_
  rintro e w1 ⟨g1, v1, rfl, hr1, hb1⟩
  have z1 := hb1.size
  go_wp2_with fail
  refine (H1.out _ _ _ hr1).mono ?_
  rintro e w2 ⟨rfl, hr2, hg2⟩
  have b2 := hb1.rd hr1 z1 hg2
  have z2 := b2.size
  go_wp2_with (first | (go_at_call 33; refine (num_errno _ _).mono ?_; rintro e w' ⟨rfl, rfl⟩) | fail)
  refine (HN.out w2).mono ?_
  rintro e w3 ⟨A3, m3, c3, rfl, ho3, hb3⟩
  obtain rfl := ho3.len
  have b3 := b2.up hb3 z2
  have z3 := b3.size
  have hr3 := hr2.kept hb3
  have hcap := ho3.cap.1
  have hm := HM.out
  have hm0 := HM0.out
  have hcap2 : ((Wire.form N).length : Int) ≤ c3 := by omega
  have hx1 : (0 : Int) ≤ ((Wire.form N).length : Int) - 1 := by omega
  have hrs := Lib.hid (ho3.reads.take ((Wire.form N).length - 1) (by omega))
  have hx2 : (((Wire.form N).length : Int) - 1).toNat = (Wire.form N).length - 1 := by omega
  go_wp2_with fail
  all_goals
    refine (open_any _ _ _ _ _ hrs.out (by rw [List.length_take]; omega) (by rw [List.length_take]; omega)).mono ?_
    rintro e w4 ⟨g4, v4, rfl, hr4, hb4⟩
    have z4 := hb4.size
    have b4 := b3.up hb4 z3
    go_wp2_with fail
    refine (HS.out _ _ _ _ hr4).mono ?_
    rintro e w5 ⟨rfl, hr5, hg5⟩
    have b45 := hb4.rd hr4 z4 hg5
    have b5 := b3.up b45 z3
    have z5 := b5.size
    have ho5 := ho3.kept b45
    have hr6 := hr3.kept b45
    have t1 := (ho5.reads).str (c := c3) rfl
    have t2 := ((HR.out.below b5).take (Wire.form N).length HM2.out).str (c := c) (n := (Wire.form N).length) (by rw [List.length_take]; have := HM2.out; omega)
    rw [← HT.out] at t2
    have g2 : ((Wire.form N).length : Int) ≤ (c : Int) := by have := HM2.out; omega
    have g3 : (0 : Int) ≤ ((Wire.form N).length : Int) := by omega
    have g1 : ((((Wire.form N).length : Nat) : Int) != ((0 + (Wire.form N).length : Nat) : Int)) = false := by simp
    go_wp2_with fail
    go_quiet ((first | (go_at_call 37; exact quiet_left (place_any (hr6.drewN _))) | (go_at_call 33; exact quiet_left (num_errno _ _))))
    go_wp2_with fail
    refine (HO.out _ (below_drewN b5 nq)).mono ?_
    rintro e w6 ⟨g6, v6, rfl, hr6, hb6⟩
    have b6 := (below_drewN b5 nq).up hb6 b5.size
    have z6 := b6.size
    go_wp2_with fail
    refine (H3.out _ _ _ _ hr6).mono ?_
    rintro e w7 ⟨rfl, hr7, hg7⟩
    have b67 := hb6.rd hr6 (Nat.le_trans (Nat.le_refl _) hb6.size) hg7
    have b7 := (below_drewN b5 nq).up b67 b5.size
    have z7 := b7.size
    go_wp2_with (first
      | (go_at_call 33; refine (num_errno _ _).mono ?_; rintro e w' ⟨rfl, rfl⟩)
      | (go_at_call 37; refine (place_any (hr7.alloc _)).mono ?_; rintro e w' ⟨rfl, rfl⟩))
    go_ret
    exact ⟨rfl, b7.alloc z7 _⟩

set_option maxRecDepth 100000 in
set_option maxHeartbeats 4000000 in
theorem written_oo (A : Option Addr) (c : Nat) (l : List UInt8) (w : World) (hr : ReadsB w w.heap.size A l) (hl : l.length ≤ 1048576) (hc : l.length ≤ c) (_hc2 : c ≤ maxLen) {N k : Nat} {x y : (Bool × ByteArray) × (Bool × ByteArray)} {k2 : Nat}
    (hx : Wire.num l = .ok N k) (hy : Wire.both Wire.frac l = .ok (x, y) k2) :
    Calls Try.prog 46 #[.slice A l.length c] w fun e w' => e = .returned (.bool true) ∧ Below w.heap.size w w' := by
  have HR := Lib.hid hr
  have HO := Lib.hid fun w' (hb : Below w.heap.size w w') => open_any A l.length c l w' ((hr.below hb).more hb.size) (by omega) rfl
  have hg := Wire.gauss_take hy
  have hgp := Wire.gauss_plain hy
  unfold Wire.gaussP at hgp
  rw [Bool.and_eq_true] at hgp
  have hk9 : k2 = (Wire.formG (x, y)).length := by rw [hg.1, List.length_take]; omega
  subst hk9
  have HG := Lib.hid hg.1
  have HK2 := Lib.hid hg.2
  have HGL := Lib.hid (show (Wire.formG (x, y)).length ≤ c by have := hg.2; omega)
  have H3 := Lib.hid fun w' B g v (h : Rd w' B g v l 0) => (gauss_rd h).mono fun e w' hh => reads1_ok' hy hh
  have H4 := Lib.hid (show ∀ w, Calls Try.prog 23 #[.agg #[.bool x.1.1, .string x.1.2, .bool x.2.1, .string x.2.2, .bool y.1.1, .string y.1.2, .bool y.2.1, .string y.2.2]] w fun e w' => ∃ A n' c, e = .returned (.tuple #[.slice A n' c, .int .i64 0]) ∧ OwnB w' w.heap.size (.slice A n' c) (Wire.formG (x, y)) ∧ Below w.heap.size w w' from fun w => gaussForm_yes x.1.1 x.1.2 x.2.1 x.2.2 y.1.1 y.1.2 y.2.1 y.2.2 w hgp.1 hgp.2)
  clear hg hgp
  obtain ⟨hN, hk1, hk2⟩ := Wire.num_bd hx
  have ht := Wire.num_take hx
  have hm2 : (Wire.form N).length ≤ l.length := by rw [ht, List.length_take]; omega
  have hk : k = (Wire.form N).length := by rw [ht, List.length_take]; omega
  subst hk
  have H1 := Lib.hid fun w' g v (h : Rd w' w.heap.size g v l 0) => number_ok h hx
  have HN := Lib.hid fun w' => by have h := num_any (N : Int) w' (by omega) (by omega); rw [Int.toNat_natCast] at h; exact h
  have HS := Lib.hid fun w' B g v (h : Rd w' B g v ((Wire.form N).take ((Wire.form N).length - 1)) 0) => number_err h (Wire.num_short hN)
  have HT := Lib.hid ht
  have HM := Lib.hid (Wire.form_len hN)
  have HM0 := Lib.hid (Wire.form_pos N)
  have HM2 := Lib.hid hm2
  clear hr hx hy hk1 hk2 ht hm2
  go_enter Try.func46, Try.ntmps46
  go_wp2_with fail
  refine (HO.out _ (Below.refl _ _)).mono ?_
  rintro e w1 ⟨g1, v1, rfl, hr1, hb1⟩
  have z1 := hb1.size
  go_wp2_with fail
  refine (H1.out _ _ _ hr1).mono ?_
  rintro e w2 ⟨rfl, hr2, hg2⟩
  have b2 := hb1.rd hr1 z1 hg2
  have z2 := b2.size
  go_wp2_with (first | (go_at_call 33; refine (num_errno _ _).mono ?_; rintro e w' ⟨rfl, rfl⟩) | fail)
  refine (HN.out w2).mono ?_
  rintro e w3 ⟨A3, m3, c3, rfl, ho3, hb3⟩
  obtain rfl := ho3.len
  have b3 := b2.up hb3 z2
  have z3 := b3.size
  have hr3 := hr2.kept hb3
  have hcap := ho3.cap.1
  have hm := HM.out
  have hm0 := HM0.out
  have hcap2 : ((Wire.form N).length : Int) ≤ c3 := by omega
  have hx1 : (0 : Int) ≤ ((Wire.form N).length : Int) - 1 := by omega
  have hrs := Lib.hid (ho3.reads.take ((Wire.form N).length - 1) (by omega))
  have hx2 : (((Wire.form N).length : Int) - 1).toNat = (Wire.form N).length - 1 := by omega
  go_wp2_with fail
  all_goals
    refine (open_any _ _ _ _ _ hrs.out (by rw [List.length_take]; omega) (by rw [List.length_take]; omega)).mono ?_
    rintro e w4 ⟨g4, v4, rfl, hr4, hb4⟩
    have z4 := hb4.size
    have b4 := b3.up hb4 z3
    go_wp2_with fail
    refine (HS.out _ _ _ _ hr4).mono ?_
    rintro e w5 ⟨rfl, hr5, hg5⟩
    have b45 := hb4.rd hr4 z4 hg5
    have b5 := b3.up b45 z3
    have z5 := b5.size
    have ho5 := ho3.kept b45
    have hr6 := hr3.kept b45
    have t1 := (ho5.reads).str (c := c3) rfl
    have t2 := ((HR.out.below b5).take (Wire.form N).length HM2.out).str (c := c) (n := (Wire.form N).length) (by rw [List.length_take]; have := HM2.out; omega)
    rw [← HT.out] at t2
    have g2 : ((Wire.form N).length : Int) ≤ (c : Int) := by have := HM2.out; omega
    have g3 : (0 : Int) ≤ ((Wire.form N).length : Int) := by omega
    have g1 : ((((Wire.form N).length : Nat) : Int) != ((0 + (Wire.form N).length : Nat) : Int)) = false := by simp
    go_wp2_with fail
    go_quiet ((first | (go_at_call 37; exact quiet_left (place_any (hr6.drewN _))) | (go_at_call 33; exact quiet_left (num_errno _ _))))
    go_wp2_with fail
    refine (HO.out _ (below_drewN b5 nq)).mono ?_
    rintro e w6 ⟨g6, v6, rfl, hr6, hb6⟩
    have b6 := (below_drewN b5 nq).up hb6 b5.size
    have z6 := b6.size
    go_wp2_with fail
    refine (H3.out _ _ _ _ hr6).mono ?_
    rintro e w7 ⟨rfl, hr7, hg7⟩
    have b67 := hb6.rd hr6 (Nat.le_trans (Nat.le_refl _) hb6.size) hg7
    have b7 := (below_drewN b5 nq).up b67 b5.size
    have z7 := b7.size
    go_wp2_with (first | (go_at_call 33; refine (num_errno _ _).mono ?_; rintro e w' ⟨rfl, rfl⟩) | fail)
    refine (H4.out _).mono ?_
    rintro e w8 ⟨A8, m8, c8, rfl, ho8, hb8⟩
    obtain rfl := ho8.len
    have hr8 := (hr7.alloc _).kept hb8
    have b8 := (b7.alloc z7 (.cells #[.bool x.1.1, .string x.1.2, .bool x.2.1, .string x.2.2, .bool y.1.1, .string y.1.2, .bool y.2.1, .string y.2.2] 32)).up hb8 (by rw [World.size_alloc]; omega)
    have t3 := (ho8.reads).str (c := c8) rfl
    have t4 := ((HR.out.below b8).take (Wire.formG (x, y)).length HK2.out).str (c := c) (n := (Wire.formG (x, y)).length) (by rw [List.length_take]; have := HK2.out; omega)
    rw [← HG.out] at t4
    have HGL' := HGL.out
    have g12 : ((Wire.formG (x, y)).length : Int) ≤ (c : Int) := by omega
    have g13 : (0 : Int) ≤ ((Wire.formG (x, y)).length : Int) := by omega
    have g11 : ((((Wire.formG (x, y)).length : Nat) : Int) == ((0 + (Wire.formG (x, y)).length : Nat) : Int)) = true := by simp
    go_wp2_with fail
    go_quiet ((first | (go_at_call 37; exact quiet_left (place_any (hr8.drewN _))) | (go_at_call 33; exact quiet_left (num_errno _ _))))
    go_wp2
    go_ret
    exact ⟨rfl, below_drewN b8 _⟩

theorem written_any (A : Option Addr) (c : Nat) (l : List UInt8) (w : World) (hr : ReadsB w w.heap.size A l) (hl : l.length ≤ 1048576) (hc : l.length ≤ c) (hc2 : c ≤ maxLen) :
    Calls Try.prog 46 #[.slice A l.length c] w fun e w' => e = .returned (.bool true) ∧ Below w.heap.size w w' := by
  cases hx : Wire.num l with
  | err c1 =>
    cases hy : Wire.both Wire.frac l with
    | err c2 => exact written_ee A c l w hr hl hc hc2 hx hy
    | ok x k2 => obtain ⟨x, y⟩ := x; exact written_eo A c l w hr hl hc hc2 hx hy
  | ok N k =>
    cases hy : Wire.both Wire.frac l with
    | err c2 => exact written_oe A c l w hr hl hc hc2 hx hy
    | ok x k2 => obtain ⟨x, y⟩ := x; exact written_oo A c l w hr hl hc hc2 hx hy
end Go.Proofs.Ytgmienlifnpniaa
