import Derived.Test.YtmjnhpagoboejaaDoorC3
import Derived.Test.YtmjnhpagoboejaaDoorC4
import Derived.Test.YtmjnhpagoboejaaDoorC1
import Derived.BigQuiet
/- law.WordsShort (printed by gen_short.py). -/
namespace Go.Proofs.YtmjnhpagoboejaaDoor
open Go.RowKit
open Wd
set_option linter.unusedSimpArgs false
set_option linter.unusedVariables false

theorem same_below {w : World} {B B' n n' c c' : Nat} {A A' : Option Addr} {l : List Int} (hr : ReadsI w B A l) (hr' : ReadsI w B' A' l) (hn : n = l.length) (hn' : n' = l.length) (hb : n ≤ 1000000000) :
    Calls Tryd.prog 27 #[.slice A n c, .slice A' n' c'] w (fun e w' => e = .returned (.bool true) ∧ Below w.heap.size w w') := by
  refine (same_true hr hr' hn hn' hb rfl).mono ?_
  rintro e w' ⟨rfl, d, rfl⟩
  exact ⟨rfl, drewN_below w d⟩
theorem rtext_s {P : Program} {f : FuncId} {args : Array Value} {w : World} {T : ByteArray} {b : List UInt8} (hT : T = ⟨b.toArray⟩) (h : Calls P f args w (fun e w' => e = .returned (bs b) ∧ Below w.heap.size w w')) : Calls P f args w (fun e w' => e = .returned (.string T) ∧ Below w.heap.size w w') := by
  subst hT; exact h
set_option maxRecDepth 100000 in
set_option maxHeartbeats 8000000 in
theorem short_much {w : World} {B n c : Nat} {A : Option Addr} {l : List Int} (ht : TabX B w) (h : Rd w B A l) (hn : n = l.length) (hc : n ≤ c) (hcm : c ≤ 9223372036854775807) (hbig : 9000 < n) (hb : n ≤ 1000000000000000) :
    Calls Tryd.prog 3 #[.slice A n c] w (fun e w' => e = .returned (.bool true) ∧ Below w.heap.size w w') := by
  have hmu : decide ((9000 : Int) < (min n 10000 : Nat)) = true := decide_eq_true (by omega)
  have HT := Lib.hid ht
  have HR := Lib.hid h
  have Hn := Lib.hid hn
  have hBw : B ≤ w.heap.size := h.2
  clear ht h hn
  go_enter Tryd.func3, Tryd.ntmps3
  go_wp2_with fail
  refine (much_one HR.out Hn.out (by omega)).mono ?_
  rintro e w1 ⟨rfl, hb1⟩
  have S1 := Lib.hid hb1
  have z1 : w.heap.size ≤ w1.heap.size := S1.out.size
  clear hb1
  go_wp2_with fail
  refine (known_any ((HT.out).next S1.out).1 ((HT.out).next S1.out).2).mono ?_
  rintro e w2 ⟨rfl, hb2⟩
  have S2 := Lib.hid hb2
  have z2 : w1.heap.size ≤ w2.heap.size := S2.out.size
  clear hb2
  go_wp2_with fail
  go_ret
  exact ⟨rfl, S1.out.trans (S2.out.mono z1)⟩
set_option maxRecDepth 100000 in
set_option maxHeartbeats 8000000 in
theorem short_bad3 {w : World} {B n c : Nat} {A : Option Addr} {l : List Int} (ht : TabX B w) (h : Rd w B A l) (hn : n = l.length) (hc : n ≤ c) (hcm : c ≤ 9223372036854775807) (hsm : n ≤ 9000) (hw : Wf l) (hz : chk [l] ≠ 0) :
    Calls Tryd.prog 3 #[.slice A n c] w (fun e w' => e = .returned (.bool true) ∧ Below w.heap.size w w') := by
  have hmu : decide ((9000 : Int) < (min n 10000 : Nat)) = false := decide_eq_false (by omega)
  obtain ⟨z, hze⟩ : ∃ z, chk [l] = z := ⟨_, rfl⟩
  have Hze := Lib.hid hze.symm
  have Hz := Lib.hid hz
  have Hw := Lib.hid hw
  have HC := Lib.hid (fun (W : World) (hr : Rd W B A l) => show Calls Tryd.prog 14 #[.slice A n c] W (fun e w' => e = .returned (.int .i64 z) ∧ W = w') by rw [← hze]; exact rcheck_any hr.1 hn (by omega) hw)
  have HK := Lib.hid (fun (W : World) {B' c' : Nat} {A' : Option Addr} (hr : Rd W B' A' (l ++ [771])) => show Calls Tryd.prog 21 #[.slice A' n c'] W (fun e w' => e = .returned (.int .i64 z) ∧ Below W.heap.size W w') by rw [← hze]; exact wcheck_any hr.cut.1 hr.2 hn hw (by omega))
  have H_short_bad := Lib.hid (fun (W : World) {B' c' : Nat} {A' : Option Addr} (hr : Rd W B' A' (l ++ [771])) => show Calls Tryd.prog 15 #[.slice A' n c'] W (fun e w' => e = .returned (.tuple #[.slice none 0 0, .int .i64 z]) ∧ Below W.heap.size W w') by rw [← hze]; exact short_bad hr.cut.1 hr.2 hn hw (by omega) hz)
  have H_inverse_bad := Lib.hid (fun (W : World) {B' c' : Nat} {A' : Option Addr} (hr : Rd W B' A' (l ++ [771])) => show Calls Tryd.prog 16 #[.slice A' n c'] W (fun e w' => e = .returned (.tuple #[.slice none 0 0, .int .i64 z]) ∧ Below W.heap.size W w') by rw [← hze]; exact inverse_bad hr.cut.1 hr.2 hn hw (by omega) hz)
  have H_core_bad := Lib.hid (fun (W : World) {B' c' : Nat} {A' : Option Addr} (hr : Rd W B' A' (l ++ [771])) => show Calls Tryd.prog 17 #[.slice A' n c'] W (fun e w' => e = .returned (.tuple #[.slice none 0 0, .slice none 0 0, .int .i64 z]) ∧ Below W.heap.size W w') by rw [← hze]; exact core_bad hr.cut.1 hr.2 hn hw (by omega) hz)
  have H_root_bad := Lib.hid (fun (W : World) {B' c' : Nat} {A' : Option Addr} (hr : Rd W B' A' (l ++ [771])) => show Calls Tryd.prog 18 #[.slice A' n c'] W (fun e w' => e = .returned (.tuple #[.slice none 0 0, .int .i64 0, .int .i64 z]) ∧ Below W.heap.size W w') by rw [← hze]; exact root_bad hr.cut.1 hr.2 hn hw (by omega) hz)
  have H_wtext_bad := Lib.hid (fun (W : World) {B' c' : Nat} {A' : Option Addr} (hr : Rd W B' A' (l ++ [771])) => show Calls Tryd.prog 19 #[.slice A' n c'] W (fun e w' => e = .returned (.tuple #[.string ⟨#[]⟩, .int .i64 z]) ∧ Below W.heap.size W w') by rw [← hze]; exact wtext_bad hr.cut.1 hr.2 hn hw (by omega) hz)
  have hzb : (z == 0) = false := by rw [← hze]; simp; exact hz
  have hzb2 : (z != 0) = true := by rw [← hze]; simp; exact hz
  have hzz : (z == z) = true := by simp
  have hzz2 : (z != z) = false := by simp
  clear hze hz hw
  have HT := Lib.hid ht
  have HR := Lib.hid h
  have Hn := Lib.hid hn
  have hBw : B ≤ w.heap.size := h.2
  clear ht h hn
  go_enter Tryd.func3, Tryd.ntmps3
  go_wp2_with fail
  refine (much_one HR.out Hn.out (by omega)).mono ?_
  rintro e w1 ⟨rfl, hb1⟩
  have S1 := Lib.hid hb1
  have z1 : w.heap.size ≤ w1.heap.size := S1.out.size
  clear hb1
  go_wp2_with fail
  refine (lent_rd ((HR.out).next S1.out) Hn.out (by omega)).mono ?_
  rintro e w2 ⟨A2, c2, rfl, hc2, hm2, hr2, hb2⟩
  have S2 := Lib.hid hb2
  have z2 : w1.heap.size ≤ w2.heap.size := S2.out.size
  clear hb2
  have G_m := Lib.hid hr2
  clear hr2
  go_wp2_with fail
  refine (HC.out w2 (((HR.out).next S1.out).next S2.out)).mono ?_
  rintro e w' ⟨rfl, rfl⟩
  go_wp2_with fail
  refine (H_short_bad.out w2 (G_m.out)).mono ?_
  rintro e w4 ⟨rfl, hb4⟩
  have S4 := Lib.hid hb4
  have z4 : w2.heap.size ≤ w4.heap.size := S4.out.size
  clear hb4
  go_wp2_with fail
  refine (H_short_bad.out w4 ((G_m.out).next S4.out)).mono ?_
  rintro e w5 ⟨rfl, hb5⟩
  have S5 := Lib.hid hb5
  have z5 : w4.heap.size ≤ w5.heap.size := S5.out.size
  clear hb5
  go_wp2_with fail
  refine (H_inverse_bad.out w5 (((G_m.out).next S4.out).next S5.out)).mono ?_
  rintro e w6 ⟨rfl, hb6⟩
  have S6 := Lib.hid hb6
  have z6 : w5.heap.size ≤ w6.heap.size := S6.out.size
  clear hb6
  go_wp2_with fail
  refine (H_inverse_bad.out w6 ((((G_m.out).next S4.out).next S5.out).next S6.out)).mono ?_
  rintro e w7 ⟨rfl, hb7⟩
  have S7 := Lib.hid hb7
  have z7 : w6.heap.size ≤ w7.heap.size := S7.out.size
  clear hb7
  go_wp2_with fail
  refine (H_core_bad.out w7 (((((G_m.out).next S4.out).next S5.out).next S6.out).next S7.out)).mono ?_
  rintro e w8 ⟨rfl, hb8⟩
  have S8 := Lib.hid hb8
  have z8 : w7.heap.size ≤ w8.heap.size := S8.out.size
  clear hb8
  go_wp2_with fail
  refine (H_root_bad.out w8 ((((((G_m.out).next S4.out).next S5.out).next S6.out).next S7.out).next S8.out)).mono ?_
  rintro e w9 ⟨rfl, hb9⟩
  have S9 := Lib.hid hb9
  have z9 : w8.heap.size ≤ w9.heap.size := S9.out.size
  clear hb9
  go_wp2_with fail
  refine (H_wtext_bad.out w9 (((((((G_m.out).next S4.out).next S5.out).next S6.out).next S7.out).next S8.out).next S9.out)).mono ?_
  rintro e w10 ⟨rfl, hb10⟩
  have S10 := Lib.hid hb10
  have z10 : w9.heap.size ≤ w10.heap.size := S10.out.size
  clear hb10
  go_wp2_with ((go_at_call 20; refine num_any.mono ?_; rintro e w' ⟨rfl, rfl⟩))
  refine (HK.out w10 ((((((((G_m.out).next S4.out).next S5.out).next S6.out).next S7.out).next S8.out).next S9.out).next S10.out)).mono ?_
  rintro e w11 ⟨rfl, hb11⟩
  have S11 := Lib.hid hb11
  have z11 : w10.heap.size ≤ w11.heap.size := S11.out.size
  clear hb11
  go_wp2_with ((go_at_call 20; refine num_any.mono ?_; rintro e w' ⟨rfl, rfl⟩))
  refine (left_any (c' := c) (((((((((G_m.out).next S4.out).next S5.out).next S6.out).next S7.out).next S8.out).next S9.out).next S10.out).next S11.out).1 (((((((((((HR.out).next S1.out).next S2.out).next S4.out).next S5.out).next S6.out).next S7.out).next S8.out).next S9.out).next S10.out).next S11.out).1 Hn.out Hn.out hc2 (by omega)).mono ?_
  rintro e w12 ⟨rfl, hb12⟩
  have S12 := Lib.hid hb12
  have z12 : w11.heap.size ≤ w12.heap.size := S12.out.size
  clear hb12
  go_wp2_with ((go_at_call 20; refine num_any.mono ?_; rintro e w' ⟨rfl, rfl⟩))
  refine (told_got (lo := w12.heap.size) (hi := w12.heap.size) (Got.none_ (Nat.le_refl _) (Nat.le_refl _)) (awayX_none _ _ _ _) (awayX_none _ _ _ _) rfl rfl rfl rfl (by decide)).mono ?_
  rintro e w13 ⟨rfl, hb13⟩
  have S13 := Lib.hid hb13
  have z13 : w12.heap.size ≤ w13.heap.size := S13.out.size
  clear hb13
  have S13 := Lib.hid (S13.out.below (Nat.le_refl _))
  go_wp2_with ((go_at_call 20; refine num_any.mono ?_; rintro e w' ⟨rfl, rfl⟩))
  refine (told_got (lo := w13.heap.size) (hi := w13.heap.size) (Got.none_ (Nat.le_refl _) (Nat.le_refl _)) (awayX_none _ _ _ _) (awayX_none _ _ _ _) rfl rfl rfl rfl (by decide)).mono ?_
  rintro e w14 ⟨rfl, hb14⟩
  have S14 := Lib.hid hb14
  have z14 : w13.heap.size ≤ w14.heap.size := S14.out.size
  clear hb14
  have S14 := Lib.hid (S14.out.below (Nat.le_refl _))
  go_wp2_with ((go_at_call 20; refine num_any.mono ?_; rintro e w' ⟨rfl, rfl⟩))
  refine (known_any ((((((((((((((HT.out).next S1.out).next S2.out).next S4.out).next S5.out).next S6.out).next S7.out).next S8.out).next S9.out).next S10.out).next S11.out).next S12.out).next S13.out).next S14.out).1 ((((((((((((((HT.out).next S1.out).next S2.out).next S4.out).next S5.out).next S6.out).next S7.out).next S8.out).next S9.out).next S10.out).next S11.out).next S12.out).next S13.out).next S14.out).2).mono ?_
  rintro e w15 ⟨rfl, hb15⟩
  have S15 := Lib.hid hb15
  have z15 : w14.heap.size ≤ w15.heap.size := S15.out.size
  clear hb15
  have BB := Lib.hid (((((((((((((((Below.refl w.heap.size w).trans (S1.out.mono (by omega))).trans (S2.out.mono (by omega))).trans (S4.out.mono (by omega))).trans (S5.out.mono (by omega))).trans (S6.out.mono (by omega))).trans (S7.out.mono (by omega))).trans (S8.out.mono (by omega))).trans (S9.out.mono (by omega))).trans (S10.out.mono (by omega))).trans (S11.out.mono (by omega))).trans (S12.out.mono (by omega))).trans (S13.out.mono (by omega))).trans (S14.out.mono (by omega))).trans (S15.out.mono (by omega)))
  go_wp2_with fail
  go_ret
  exact ⟨rfl, BB.out⟩
set_option maxRecDepth 100000 in
set_option maxHeartbeats 8000000 in
theorem short_empty3 {w : World} {B n c : Nat} {A : Option Addr} {l : List Int} (ht : TabX B w) (h : Rd w B A l) (hn : n = l.length) (hc : n ≤ c) (hcm : c ≤ 9223372036854775807) (hsm : n ≤ 9000) (hz : chk [l] = 0) (hem : short l = []) :
    Calls Tryd.prog 3 #[.slice A n c] w (fun e w' => e = .returned (.bool true) ∧ Below w.heap.size w w') := by
  have hmu : decide ((9000 : Int) < (min n 10000 : Nat)) = false := decide_eq_false (by omega)
  obtain ⟨hw1, hlen⟩ := chk_one.1 hz
  have hl := word_let hw1
  have hw : Wf l := fun k hk => by have := hl k hk; omega
  have HL := Lib.hid hl
  have hsl := short_len_le l
  have HL2 := Lib.hid (And.intro (letl_short hl) (show (short l).length ≤ 4096 by omega))
  have hcl := core_len (short l)
  have hjl := conj_len (short l)
  have hpl := parts_le (short l)
  have hil := inv_len l
  have hn4 : n ≤ 4096 := by omega
  have hrl : (rootw l).length ≤ 20000 := by unfold rootw; rw [List.length_append, List.length_append, inv_len, List.length_take]; omega
  have Hlens := Lib.hid (show (short l).length ≤ 4096 ∧ (inv l).length ≤ 4096 ∧ (core (short l)).length ≤ 4096 ∧ (conj (short l)).length ≤ 4096 ∧ (rootw l).length ≤ 20000 by omega)
  obtain ⟨TS, hTS⟩ : ∃ TS : ByteArray, TS = ⟨(txt l).toArray⟩ := ⟨_, rfl⟩
  have HST := Lib.hid hTS
  have HC := Lib.hid (fun (W : World) (hr : Rd W B A l) => show Calls Tryd.prog 14 #[.slice A n c] W (fun e w' => e = .returned (.int .i64 0) ∧ W = w') by rw [← hz]; exact rcheck_any hr.1 hn (by omega) hw)
  have HK := Lib.hid (fun (W : World) {B' c' : Nat} {A' : Option Addr} (hr : Rd W B' A' (l ++ [771])) => show Calls Tryd.prog 21 #[.slice A' n c'] W (fun e w' => e = .returned (.int .i64 0) ∧ Below W.heap.size W w') by rw [← hz]; exact wcheck_any hr.cut.1 hr.2 hn hw (by omega))
  have HS := Lib.hid (fun (W : World) {B' c' : Nat} {A' : Option Addr} (hr : Rd W B' A' (l ++ [771])) => short_ok (c := c') hr.cut.1 hr.2 hn hz)
  have HI := Lib.hid (fun (W : World) {B' c' : Nat} {A' : Option Addr} (hr : Rd W B' A' (l ++ [771])) => inverse_ok (c := c') hr.cut.1 hr.2 hn hz)
  have HCo := Lib.hid (fun (W : World) {B' c' : Nat} {A' : Option Addr} (hr : Rd W B' A' (l ++ [771])) => core_ok (c := c') hr.cut.1 hr.2 hn hz)
  have HTx := Lib.hid (fun (W : World) {B' B2 c' : Nat} {A' : Option Addr} (hT : TabX B2 W) (hr : Rd W B' A' (l ++ [771])) => show Calls Tryd.prog 19 #[.slice A' n c'] W (fun e w' => e = .returned (.tuple #[.string TS, .int .i64 0]) ∧ Below W.heap.size W w') by rw [hTS]; exact wtext_ok (B := W.heap.size) (hT.1.more hT.2) (hr.cut.1.more hr.2) (Nat.le_refl _) hn hz)
  have hco : core (short l) = [] := by rw [hem]; rfl
  have hse : (short l).length = 0 := by rw [hem]; rfl
  have HRo := Lib.hid (fun (W : World) {B' c' : Nat} {A' : Option Addr} (hr : Rd W B' A' (l ++ [771])) => root_none (c := c') hr.cut.1 hr.2 hn hz hco)
  have Hse := Lib.hid hse
  clear hz hw hl hw1 hlen hsl hcl hjl hpl hil hrl hTS hco hem hse
  have HT := Lib.hid ht
  have HR := Lib.hid h
  have Hn := Lib.hid hn
  have hBw : B ≤ w.heap.size := h.2
  clear ht h hn
  go_enter Tryd.func3, Tryd.ntmps3
  go_wp2_with fail
  refine (much_one HR.out Hn.out (by omega)).mono ?_
  rintro e w1 ⟨rfl, hb1⟩
  have S1 := Lib.hid hb1
  have z1 : w.heap.size ≤ w1.heap.size := S1.out.size
  clear hb1
  go_wp2_with fail
  refine (lent_rd ((HR.out).next S1.out) Hn.out (by omega)).mono ?_
  rintro e w2 ⟨A2, c2, rfl, hc2, hm2, hr2, hb2⟩
  have S2 := Lib.hid hb2
  have z2 : w1.heap.size ≤ w2.heap.size := S2.out.size
  clear hb2
  have G_m := Lib.hid hr2
  clear hr2
  go_wp2_with fail
  refine (HC.out w2 (((HR.out).next S1.out).next S2.out)).mono ?_
  rintro e w' ⟨rfl, rfl⟩
  go_wp2_with fail
  refine (HS.out w2 (G_m.out)).mono ?_
  rintro e w4 ⟨A4, n4, rfl, hr4, hb4⟩
  have S4 := Lib.hid hb4
  have z4 : w2.heap.size ≤ w4.heap.size := S4.out.size
  clear hb4
  have G_a := Lib.hid (Got.of_res hr4 z4)
  clear hr4
  go_wp2_with fail
  refine (HS.out w4 ((G_m.out).next S4.out)).mono ?_
  rintro e w5 ⟨A5, n5, rfl, hr5, hb5⟩
  have S5 := Lib.hid hb5
  have z5 : w4.heap.size ≤ w5.heap.size := S5.out.size
  clear hb5
  have G_b := Lib.hid (Got.of_res hr5 z5)
  clear hr5
  go_wp2_with fail
  refine (HI.out w5 (((G_m.out).next S4.out).next S5.out)).mono ?_
  rintro e w6 ⟨A6, n6, rfl, hr6, hb6⟩
  have S6 := Lib.hid hb6
  have z6 : w5.heap.size ≤ w6.heap.size := S6.out.size
  clear hb6
  have G_c := Lib.hid (Got.of_res hr6 z6)
  clear hr6
  go_wp2_with fail
  refine (HI.out w6 ((((G_m.out).next S4.out).next S5.out).next S6.out)).mono ?_
  rintro e w7 ⟨A7, n7, rfl, hr7, hb7⟩
  have S7 := Lib.hid hb7
  have z7 : w6.heap.size ≤ w7.heap.size := S7.out.size
  clear hb7
  have G_d := Lib.hid (Got.of_res hr7 z7)
  clear hr7
  go_wp2_with fail
  refine (HCo.out w7 (((((G_m.out).next S4.out).next S5.out).next S6.out).next S7.out)).mono ?_
  rintro e w8 ⟨A8, c8, D8, d8, rfl, ho8, hp8, hb8⟩
  have S8 := Lib.hid hb8
  have z8 : w7.heap.size ≤ w8.heap.size := S8.out.size
  clear hb8
  have G_core := Lib.hid (Got.of_own ho8 z8)
  clear ho8
  have G_by := Lib.hid (Got.of_own hp8 z8)
  clear hp8
  go_wp2_with fail
  refine (HRo.out w8 ((((((G_m.out).next S4.out).next S5.out).next S6.out).next S7.out).next S8.out)).mono ?_
  rintro e w9 ⟨rfl, hb9⟩
  have S9 := Lib.hid hb9
  have z9 : w8.heap.size ≤ w9.heap.size := S9.out.size
  clear hb9
  go_wp2_with fail
  refine (HTx.out w9 (((((((((HT.out).next S1.out).next S2.out).next S4.out).next S5.out).next S6.out).next S7.out).next S8.out).next S9.out) (((((((G_m.out).next S4.out).next S5.out).next S6.out).next S7.out).next S8.out).next S9.out)).mono ?_
  rintro e w10 ⟨rfl, hb10⟩
  have S10 := Lib.hid hb10
  have z10 : w9.heap.size ≤ w10.heap.size := S10.out.size
  clear hb10
  go_wp2_with ((go_at_call 20; refine num_any.mono ?_; rintro e w' ⟨rfl, rfl⟩))
  refine (HK.out w10 ((((((((G_m.out).next S4.out).next S5.out).next S6.out).next S7.out).next S8.out).next S9.out).next S10.out)).mono ?_
  rintro e w11 ⟨rfl, hb11⟩
  have S11 := Lib.hid hb11
  have z11 : w10.heap.size ≤ w11.heap.size := S11.out.size
  clear hb11
  go_wp2_with ((go_at_call 20; refine num_any.mono ?_; rintro e w' ⟨rfl, rfl⟩))
  refine (left_any (c' := c) (((((((((G_m.out).next S4.out).next S5.out).next S6.out).next S7.out).next S8.out).next S9.out).next S10.out).next S11.out).1 (((((((((((HR.out).next S1.out).next S2.out).next S4.out).next S5.out).next S6.out).next S7.out).next S8.out).next S9.out).next S10.out).next S11.out).1 Hn.out Hn.out hc2 (by omega)).mono ?_
  rintro e w12 ⟨rfl, hb12⟩
  have S12 := Lib.hid hb12
  have z12 : w11.heap.size ≤ w12.heap.size := S12.out.size
  clear hb12
  go_wp2_with ((go_at_call 20; refine num_any.mono ?_; rintro e w' ⟨rfl, rfl⟩))
  refine (rshort_any (c := c) ((((((((((((HR.out).next S1.out).next S2.out).next S4.out).next S5.out).next S6.out).next S7.out).next S8.out).next S9.out).next S10.out).next S11.out).next S12.out).1 ((((((((((((HR.out).next S1.out).next S2.out).next S4.out).next S5.out).next S6.out).next S7.out).next S8.out).next S9.out).next S10.out).next S11.out).next S12.out).2 Hn.out HL.out (by omega)).mono ?_
  rintro e w13 ⟨A13, n13, c13, rfl, ho13, hb13⟩
  have S13 := Lib.hid hb13
  have z13 : w12.heap.size ≤ w13.heap.size := S13.out.size
  clear hb13
  have G_s := Lib.hid (Got.of_own ho13 z13)
  clear ho13
  have hs13 := G_s.out.len
  have Hs := Lib.hid hs13
  clear hs13
  go_wp2_with ((go_at_call 20; refine num_any.mono ?_; rintro e w' ⟨rfl, rfl⟩))
  refine (rcore_more (c := c13) (G_s.out).reads (G_s.out).1.2 Hs.out.1 Hs.out.2.1 HL2.out.1 (by have := Hs.out.1; have := HL2.out.2; omega) Hs.out.2.2).mono ?_
  rintro e w14 ⟨A14, c14, D14, n14, d14, rfl, hr14, _, ho14, hb14, hp14⟩
  have S14 := Lib.hid hb14
  have z14 : w13.heap.size ≤ w14.heap.size := S14.out.size
  clear hb14
  have G_x := Lib.hid ((G_s.out).part hr14 S14.out (by rw [core_len]; omega) hp14)
  clear hr14 hp14
  have G_y := Lib.hid (Got.of_own ho14 z14)
  clear ho14
  go_wp2_with ((go_at_call 20; refine num_any.mono ?_; rintro e w' ⟨rfl, rfl⟩))
  refine (told_got (((((((((((G_a.out).next S5.out).next S6.out).next S7.out).next S8.out).next S9.out).next S10.out).next S11.out).next S12.out).next S13.out).next S14.out) (((((((((((G_b.out).next S6.out).next S7.out).next S8.out).next S9.out).next S10.out).next S11.out).next S12.out).next S13.out).next S14.out).away (by omega)) (((G_s.out).next S14.out).away (by omega)) rfl rfl (((((((((((G_b.out).next S6.out).next S7.out).next S8.out).next S9.out).next S10.out).next S11.out).next S12.out).next S13.out).next S14.out).len.1) Hs.out.1 (by have := ((((((((((((G_a.out).next S5.out).next S6.out).next S7.out).next S8.out).next S9.out).next S10.out).next S11.out).next S12.out).next S13.out).next S14.out)).len.1; have := Hlens.out; omega)).mono ?_
  rintro e w15 ⟨rfl, hb15⟩
  have S15 := Lib.hid hb15
  have z15 : w14.heap.size ≤ w15.heap.size := S15.out.size
  clear hb15
  go_wp2_with ((go_at_call 20; refine num_any.mono ?_; rintro e w' ⟨rfl, rfl⟩))
  refine (rinv_any (c := c) (((((((((((((((HR.out).next S1.out).next S2.out).next S4.out).next S5.out).next S6.out).next S7.out).next S8.out).next S9.out).next S10.out).next S11.out).next S12.out).next S13.out).next S14.out).far (S15.out.below (by omega)) (by omega)).1 (((((((((((((((HR.out).next S1.out).next S2.out).next S4.out).next S5.out).next S6.out).next S7.out).next S8.out).next S9.out).next S10.out).next S11.out).next S12.out).next S13.out).next S14.out).far (S15.out.below (by omega)) (by omega)).2 Hn.out (letl_small HL.out) (by omega)).mono ?_
  rintro e w16 ⟨A16, n16, c16, rfl, ho16, hb16⟩
  have S16 := Lib.hid hb16
  have z16 : w15.heap.size ≤ w16.heap.size := S16.out.size
  clear hb16
  have G_i := Lib.hid (Got.of_own ho16 z16)
  clear ho16
  go_wp2_with ((go_at_call 20; refine num_any.mono ?_; rintro e w' ⟨rfl, rfl⟩))
  refine (told_got (((((((((((G_c.out).next S7.out).next S8.out).next S9.out).next S10.out).next S11.out).next S12.out).next S13.out).next S14.out).outside S15.out (by omega)).next S16.out) (((((((((((G_d.out).next S8.out).next S9.out).next S10.out).next S11.out).next S12.out).next S13.out).next S14.out).outside S15.out (by omega)).next S16.out).away (by omega)) ((G_i.out).away (by omega)) rfl rfl (((((((((((G_d.out).next S8.out).next S9.out).next S10.out).next S11.out).next S12.out).next S13.out).next S14.out).outside S15.out (by omega)).next S16.out).len.1) ((G_i.out).len.1) (by have := ((((((((((((G_c.out).next S7.out).next S8.out).next S9.out).next S10.out).next S11.out).next S12.out).next S13.out).next S14.out).outside S15.out (by omega)).next S16.out)).len.1; have := Hlens.out; omega)).mono ?_
  rintro e w17 ⟨rfl, hb17⟩
  have S17 := Lib.hid hb17
  have z17 : w16.heap.size ≤ w17.heap.size := S17.out.size
  clear hb17
  go_wp2_with ((go_at_call 20; refine num_any.mono ?_; rintro e w' ⟨rfl, rfl⟩))
  refine (same_below ((((((((((G_core.out).next S9.out).next S10.out).next S11.out).next S12.out).next S13.out).next S14.out).outside S15.out (by omega)).next S16.out).outside S17.out (by omega)).reads ((((G_x.out).outside S15.out (by omega)).next S16.out).outside S17.out (by omega)).reads (((((((((((G_core.out).next S9.out).next S10.out).next S11.out).next S12.out).next S13.out).next S14.out).outside S15.out (by omega)).next S16.out).outside S17.out (by omega)).len.1) rfl (by have := (((((((((((G_core.out).next S9.out).next S10.out).next S11.out).next S12.out).next S13.out).next S14.out).outside S15.out (by omega)).next S16.out).outside S17.out (by omega))).len.1; have := Hlens.out; omega)).mono ?_
  rintro e w18 ⟨rfl, hb18⟩
  have S18 := Lib.hid hb18
  have z18 : w17.heap.size ≤ w18.heap.size := S18.out.size
  clear hb18
  go_wp2_with ((go_at_call 20; refine num_any.mono ?_; rintro e w' ⟨rfl, rfl⟩))
  refine (same_below (((((((((((G_by.out).next S9.out).next S10.out).next S11.out).next S12.out).next S13.out).next S14.out).outside S15.out (by omega)).next S16.out).outside S17.out (by omega)).next S18.out).reads (((((G_y.out).outside S15.out (by omega)).next S16.out).outside S17.out (by omega)).next S18.out).reads ((((((((((((G_by.out).next S9.out).next S10.out).next S11.out).next S12.out).next S13.out).next S14.out).outside S15.out (by omega)).next S16.out).outside S17.out (by omega)).next S18.out).len.1) ((((((G_y.out).outside S15.out (by omega)).next S16.out).outside S17.out (by omega)).next S18.out).len.1) (by have := ((((((((((((G_by.out).next S9.out).next S10.out).next S11.out).next S12.out).next S13.out).next S14.out).outside S15.out (by omega)).next S16.out).outside S17.out (by omega)).next S18.out)).len.1; have := Hlens.out; omega)).mono ?_
  rintro e w19 ⟨rfl, hb19⟩
  have S19 := Lib.hid hb19
  have z19 : w18.heap.size ≤ w19.heap.size := S19.out.size
  clear hb19
  go_wp2_with ((go_at_call 20; refine num_any.mono ?_; rintro e w' ⟨rfl, rfl⟩))
  refine (rtext_s HST.out (rtext_any (c := c) (((((((((((((((((((HR.out).next S1.out).next S2.out).next S4.out).next S5.out).next S6.out).next S7.out).next S8.out).next S9.out).next S10.out).next S11.out).next S12.out).next S13.out).next S14.out).far (S15.out.below (by omega)) (by omega)).next S16.out).far (S17.out.below (by omega)) (by omega)).next S18.out).next S19.out).1 (((((((((((((((((((HR.out).next S1.out).next S2.out).next S4.out).next S5.out).next S6.out).next S7.out).next S8.out).next S9.out).next S10.out).next S11.out).next S12.out).next S13.out).next S14.out).far (S15.out.below (by omega)) (by omega)).next S16.out).far (S17.out.below (by omega)) (by omega)).next S18.out).next S19.out).2 Hn.out HL.out (by omega))).mono ?_
  rintro e w20 ⟨rfl, hb20⟩
  have S20 := Lib.hid hb20
  have z20 : w19.heap.size ≤ w20.heap.size := S20.out.size
  clear hb20
  have hzs : ((n13 : Int) == 0) = true := by have h1 := Hs.out.1; have h2 := Hse.out; simp; omega
  go_wp2_with ((go_at_call 20; refine num_any.mono ?_; rintro e w' ⟨rfl, rfl⟩))
  refine (left_any (c' := c) ((((((((((((((((((G_m.out).next S4.out).next S5.out).next S6.out).next S7.out).next S8.out).next S9.out).next S10.out).next S11.out).next S12.out).next S13.out).next S14.out).far (S15.out.below (by omega)) (by omega)).next S16.out).far (S17.out.below (by omega)) (by omega)).next S18.out).next S19.out).next S20.out).1 ((((((((((((((((((((HR.out).next S1.out).next S2.out).next S4.out).next S5.out).next S6.out).next S7.out).next S8.out).next S9.out).next S10.out).next S11.out).next S12.out).next S13.out).next S14.out).far (S15.out.below (by omega)) (by omega)).next S16.out).far (S17.out.below (by omega)) (by omega)).next S18.out).next S19.out).next S20.out).1 Hn.out Hn.out hc2 (by omega)).mono ?_
  rintro e w21 ⟨rfl, hb21⟩
  have S21 := Lib.hid hb21
  have z21 : w20.heap.size ≤ w21.heap.size := S21.out.size
  clear hb21
  go_wp2_with ((go_at_call 20; refine num_any.mono ?_; rintro e w' ⟨rfl, rfl⟩))
  refine (known_any (((((((((((((((((((((HT.out).next S1.out).next S2.out).next S4.out).next S5.out).next S6.out).next S7.out).next S8.out).next S9.out).next S10.out).next S11.out).next S12.out).next S13.out).next S14.out).far (S15.out.below (by omega)) (by omega)).next S16.out).far (S17.out.below (by omega)) (by omega)).next S18.out).next S19.out).next S20.out).next S21.out).1 (((((((((((((((((((((HT.out).next S1.out).next S2.out).next S4.out).next S5.out).next S6.out).next S7.out).next S8.out).next S9.out).next S10.out).next S11.out).next S12.out).next S13.out).next S14.out).far (S15.out.below (by omega)) (by omega)).next S16.out).far (S17.out.below (by omega)) (by omega)).next S18.out).next S19.out).next S20.out).next S21.out).2).mono ?_
  rintro e w22 ⟨rfl, hb22⟩
  have S22 := Lib.hid hb22
  have z22 : w21.heap.size ≤ w22.heap.size := S22.out.size
  clear hb22
  have BB := Lib.hid ((((((((((((((((((((((Below.refl w.heap.size w).trans (S1.out.mono (by omega))).trans (S2.out.mono (by omega))).trans (S4.out.mono (by omega))).trans (S5.out.mono (by omega))).trans (S6.out.mono (by omega))).trans (S7.out.mono (by omega))).trans (S8.out.mono (by omega))).trans (S9.out.mono (by omega))).trans (S10.out.mono (by omega))).trans (S11.out.mono (by omega))).trans (S12.out.mono (by omega))).trans (S13.out.mono (by omega))).trans (S14.out.mono (by omega))).trans ((S15.out.below (by omega)).mono (by omega))).trans (S16.out.mono (by omega))).trans ((S17.out.below (by omega)).mono (by omega))).trans (S18.out.mono (by omega))).trans (S19.out.mono (by omega))).trans (S20.out.mono (by omega))).trans (S21.out.mono (by omega))).trans (S22.out.mono (by omega)))
  go_wp2_with fail
  go_ret
  exact ⟨rfl, BB.out⟩
set_option maxRecDepth 100000 in
set_option maxHeartbeats 8000000 in
theorem short_full3 {w : World} {B n c : Nat} {A : Option Addr} {l : List Int} (ht : TabX B w) (h : Rd w B A l) (hn : n = l.length) (hc : n ≤ c) (hcm : c ≤ 9223372036854775807) (hsm : n ≤ 9000) (hz : chk [l] = 0) (hne : short l ≠ []) :
    Calls Tryd.prog 3 #[.slice A n c] w (fun e w' => e = .returned (.bool true) ∧ Below w.heap.size w w') := by
  have hmu : decide ((9000 : Int) < (min n 10000 : Nat)) = false := decide_eq_false (by omega)
  obtain ⟨hw1, hlen⟩ := chk_one.1 hz
  have hl := word_let hw1
  have hw : Wf l := fun k hk => by have := hl k hk; omega
  have HL := Lib.hid hl
  have hsl := short_len_le l
  have HL2 := Lib.hid (And.intro (letl_short hl) (show (short l).length ≤ 4096 by omega))
  have hcl := core_len (short l)
  have hjl := conj_len (short l)
  have hpl := parts_le (short l)
  have hil := inv_len l
  have hn4 : n ≤ 4096 := by omega
  have hrl : (rootw l).length ≤ 20000 := by unfold rootw; rw [List.length_append, List.length_append, inv_len, List.length_take]; omega
  have Hlens := Lib.hid (show (short l).length ≤ 4096 ∧ (inv l).length ≤ 4096 ∧ (core (short l)).length ≤ 4096 ∧ (conj (short l)).length ≤ 4096 ∧ (rootw l).length ≤ 20000 by omega)
  obtain ⟨TS, hTS⟩ : ∃ TS : ByteArray, TS = ⟨(txt l).toArray⟩ := ⟨_, rfl⟩
  have HST := Lib.hid hTS
  have HC := Lib.hid (fun (W : World) (hr : Rd W B A l) => show Calls Tryd.prog 14 #[.slice A n c] W (fun e w' => e = .returned (.int .i64 0) ∧ W = w') by rw [← hz]; exact rcheck_any hr.1 hn (by omega) hw)
  have HK := Lib.hid (fun (W : World) {B' c' : Nat} {A' : Option Addr} (hr : Rd W B' A' (l ++ [771])) => show Calls Tryd.prog 21 #[.slice A' n c'] W (fun e w' => e = .returned (.int .i64 0) ∧ Below W.heap.size W w') by rw [← hz]; exact wcheck_any hr.cut.1 hr.2 hn hw (by omega))
  have HS := Lib.hid (fun (W : World) {B' c' : Nat} {A' : Option Addr} (hr : Rd W B' A' (l ++ [771])) => short_ok (c := c') hr.cut.1 hr.2 hn hz)
  have HI := Lib.hid (fun (W : World) {B' c' : Nat} {A' : Option Addr} (hr : Rd W B' A' (l ++ [771])) => inverse_ok (c := c') hr.cut.1 hr.2 hn hz)
  have HCo := Lib.hid (fun (W : World) {B' c' : Nat} {A' : Option Addr} (hr : Rd W B' A' (l ++ [771])) => core_ok (c := c') hr.cut.1 hr.2 hn hz)
  have HTx := Lib.hid (fun (W : World) {B' B2 c' : Nat} {A' : Option Addr} (hT : TabX B2 W) (hr : Rd W B' A' (l ++ [771])) => show Calls Tryd.prog 19 #[.slice A' n c'] W (fun e w' => e = .returned (.tuple #[.string TS, .int .i64 0]) ∧ Below W.heap.size W w') by rw [hTS]; exact wtext_ok (B := W.heap.size) (hT.1.more hT.2) (hr.cut.1.more hr.2) (Nat.le_refl _) hn hz)
  have hred := red_short' (letl_nz hl)
  have hs1 : 1 ≤ (short l).length := by rcases Nat.eq_zero_or_pos (short l).length with h | h; exact absurd (List.eq_nil_of_length_eq_zero h) hne; exact h
  have hco : core (short l) ≠ [] := fun h => by have := core_pos hred hs1; rw [h] at this; simp at this
  obtain ⟨q0, hq0⟩ : ∃ q, q = (core (short l)).length / per (core (short l)) := ⟨_, rfl⟩
  have HRo := Lib.hid (fun (W : World) {B' c' : Nat} {A' : Option Addr} (hr : Rd W B' A' (l ++ [771])) => show Calls Tryd.prog 18 #[.slice A' n c'] W (fun e w' => ∃ A' n' c', e = .returned (.tuple #[.slice A' n' c', .int .i64 (q0 : Int), .int .i64 0]) ∧ OwnI w' W.heap.size (.slice A' n' c') (rootw l) ∧ Below W.heap.size W w') from (root_ok (c := c') hr.cut.1 hr.2 hn hz hco).mono fun e w' ⟨A', n', c', q, he, hq, ho, hb⟩ => ⟨A', n', c', by rw [he, hq, hq0], ho, hb⟩)
  have HRR := Lib.hid (fun (W : World) {lo hi n' c' : Nat} {A' : Option Addr} (hg : Got W lo hi A' n' c' (short l)) (hl' : n' = (short l).length ∧ n' ≤ c' ∧ c' ≤ 9223372036854775807) => show Calls Tryd.prog 29 #[.slice A' n' c'] W (fun e w' => ∃ A' n' c', e = .returned (.tuple #[.slice A' n' c', .int .i64 (q0 : Int)]) ∧ Rd w' w'.heap.size A' (rootw l) ∧ n' = (rootw l).length ∧ Below W.heap.size W w') from (rroot_any (c := c') hg.reads hg.1.2 hl'.1 hl'.2.1 (letl_short hl) (by omega) hl'.2.2).mono fun e w' ⟨A', n', c', he, hr, hn', hb⟩ => by
    rw [rroot_eq hred hs1 (by omega)] at he hr hn'
    exact ⟨A', n', c', by rw [he, hq0], ⟨hr, Nat.le_refl _⟩, hn', hb⟩)
  have hs1i : ¬ (short l).length = 0 := by omega
  have Hs1 := Lib.hid hs1i
  clear hz hw hl hw1 hlen hsl hcl hjl hpl hil hrl hTS hco hne hred hs1 hq0 hs1i
  have HT := Lib.hid ht
  have HR := Lib.hid h
  have Hn := Lib.hid hn
  have hBw : B ≤ w.heap.size := h.2
  clear ht h hn
  go_enter Tryd.func3, Tryd.ntmps3
  go_wp2_with fail
  refine (much_one HR.out Hn.out (by omega)).mono ?_
  rintro e w1 ⟨rfl, hb1⟩
  have S1 := Lib.hid hb1
  have z1 : w.heap.size ≤ w1.heap.size := S1.out.size
  clear hb1
  go_wp2_with fail
  refine (lent_rd ((HR.out).next S1.out) Hn.out (by omega)).mono ?_
  rintro e w2 ⟨A2, c2, rfl, hc2, hm2, hr2, hb2⟩
  have S2 := Lib.hid hb2
  have z2 : w1.heap.size ≤ w2.heap.size := S2.out.size
  clear hb2
  have G_m := Lib.hid hr2
  clear hr2
  go_wp2_with fail
  refine (HC.out w2 (((HR.out).next S1.out).next S2.out)).mono ?_
  rintro e w' ⟨rfl, rfl⟩
  go_wp2_with fail
  refine (HS.out w2 (G_m.out)).mono ?_
  rintro e w4 ⟨A4, n4, rfl, hr4, hb4⟩
  have S4 := Lib.hid hb4
  have z4 : w2.heap.size ≤ w4.heap.size := S4.out.size
  clear hb4
  have G_a := Lib.hid (Got.of_res hr4 z4)
  clear hr4
  go_wp2_with fail
  refine (HS.out w4 ((G_m.out).next S4.out)).mono ?_
  rintro e w5 ⟨A5, n5, rfl, hr5, hb5⟩
  have S5 := Lib.hid hb5
  have z5 : w4.heap.size ≤ w5.heap.size := S5.out.size
  clear hb5
  have G_b := Lib.hid (Got.of_res hr5 z5)
  clear hr5
  go_wp2_with fail
  refine (HI.out w5 (((G_m.out).next S4.out).next S5.out)).mono ?_
  rintro e w6 ⟨A6, n6, rfl, hr6, hb6⟩
  have S6 := Lib.hid hb6
  have z6 : w5.heap.size ≤ w6.heap.size := S6.out.size
  clear hb6
  have G_c := Lib.hid (Got.of_res hr6 z6)
  clear hr6
  go_wp2_with fail
  refine (HI.out w6 ((((G_m.out).next S4.out).next S5.out).next S6.out)).mono ?_
  rintro e w7 ⟨A7, n7, rfl, hr7, hb7⟩
  have S7 := Lib.hid hb7
  have z7 : w6.heap.size ≤ w7.heap.size := S7.out.size
  clear hb7
  have G_d := Lib.hid (Got.of_res hr7 z7)
  clear hr7
  go_wp2_with fail
  refine (HCo.out w7 (((((G_m.out).next S4.out).next S5.out).next S6.out).next S7.out)).mono ?_
  rintro e w8 ⟨A8, c8, D8, d8, rfl, ho8, hp8, hb8⟩
  have S8 := Lib.hid hb8
  have z8 : w7.heap.size ≤ w8.heap.size := S8.out.size
  clear hb8
  have G_core := Lib.hid (Got.of_own ho8 z8)
  clear ho8
  have G_by := Lib.hid (Got.of_own hp8 z8)
  clear hp8
  go_wp2_with fail
  refine (HRo.out w8 ((((((G_m.out).next S4.out).next S5.out).next S6.out).next S7.out).next S8.out)).mono ?_
  rintro e w9 ⟨A9, n9, c9, rfl, ho9, hb9⟩
  have S9 := Lib.hid hb9
  have z9 : w8.heap.size ≤ w9.heap.size := S9.out.size
  clear hb9
  have G_root := Lib.hid (Got.of_own ho9 z9)
  clear ho9
  go_wp2_with fail
  refine (HTx.out w9 (((((((((HT.out).next S1.out).next S2.out).next S4.out).next S5.out).next S6.out).next S7.out).next S8.out).next S9.out) (((((((G_m.out).next S4.out).next S5.out).next S6.out).next S7.out).next S8.out).next S9.out)).mono ?_
  rintro e w10 ⟨rfl, hb10⟩
  have S10 := Lib.hid hb10
  have z10 : w9.heap.size ≤ w10.heap.size := S10.out.size
  clear hb10
  go_wp2_with ((go_at_call 20; refine num_any.mono ?_; rintro e w' ⟨rfl, rfl⟩))
  refine (HK.out w10 ((((((((G_m.out).next S4.out).next S5.out).next S6.out).next S7.out).next S8.out).next S9.out).next S10.out)).mono ?_
  rintro e w11 ⟨rfl, hb11⟩
  have S11 := Lib.hid hb11
  have z11 : w10.heap.size ≤ w11.heap.size := S11.out.size
  clear hb11
  go_wp2_with ((go_at_call 20; refine num_any.mono ?_; rintro e w' ⟨rfl, rfl⟩))
  refine (left_any (c' := c) (((((((((G_m.out).next S4.out).next S5.out).next S6.out).next S7.out).next S8.out).next S9.out).next S10.out).next S11.out).1 (((((((((((HR.out).next S1.out).next S2.out).next S4.out).next S5.out).next S6.out).next S7.out).next S8.out).next S9.out).next S10.out).next S11.out).1 Hn.out Hn.out hc2 (by omega)).mono ?_
  rintro e w12 ⟨rfl, hb12⟩
  have S12 := Lib.hid hb12
  have z12 : w11.heap.size ≤ w12.heap.size := S12.out.size
  clear hb12
  go_wp2_with ((go_at_call 20; refine num_any.mono ?_; rintro e w' ⟨rfl, rfl⟩))
  refine (rshort_any (c := c) ((((((((((((HR.out).next S1.out).next S2.out).next S4.out).next S5.out).next S6.out).next S7.out).next S8.out).next S9.out).next S10.out).next S11.out).next S12.out).1 ((((((((((((HR.out).next S1.out).next S2.out).next S4.out).next S5.out).next S6.out).next S7.out).next S8.out).next S9.out).next S10.out).next S11.out).next S12.out).2 Hn.out HL.out (by omega)).mono ?_
  rintro e w13 ⟨A13, n13, c13, rfl, ho13, hb13⟩
  have S13 := Lib.hid hb13
  have z13 : w12.heap.size ≤ w13.heap.size := S13.out.size
  clear hb13
  have G_s := Lib.hid (Got.of_own ho13 z13)
  clear ho13
  have hs13 := G_s.out.len
  have Hs := Lib.hid hs13
  clear hs13
  go_wp2_with ((go_at_call 20; refine num_any.mono ?_; rintro e w' ⟨rfl, rfl⟩))
  refine (rcore_more (c := c13) (G_s.out).reads (G_s.out).1.2 Hs.out.1 Hs.out.2.1 HL2.out.1 (by have := Hs.out.1; have := HL2.out.2; omega) Hs.out.2.2).mono ?_
  rintro e w14 ⟨A14, c14, D14, n14, d14, rfl, hr14, _, ho14, hb14, hp14⟩
  have S14 := Lib.hid hb14
  have z14 : w13.heap.size ≤ w14.heap.size := S14.out.size
  clear hb14
  have G_x := Lib.hid ((G_s.out).part hr14 S14.out (by rw [core_len]; omega) hp14)
  clear hr14 hp14
  have G_y := Lib.hid (Got.of_own ho14 z14)
  clear ho14
  go_wp2_with ((go_at_call 20; refine num_any.mono ?_; rintro e w' ⟨rfl, rfl⟩))
  refine (told_got (((((((((((G_a.out).next S5.out).next S6.out).next S7.out).next S8.out).next S9.out).next S10.out).next S11.out).next S12.out).next S13.out).next S14.out) (((((((((((G_b.out).next S6.out).next S7.out).next S8.out).next S9.out).next S10.out).next S11.out).next S12.out).next S13.out).next S14.out).away (by omega)) (((G_s.out).next S14.out).away (by omega)) rfl rfl (((((((((((G_b.out).next S6.out).next S7.out).next S8.out).next S9.out).next S10.out).next S11.out).next S12.out).next S13.out).next S14.out).len.1) Hs.out.1 (by have := ((((((((((((G_a.out).next S5.out).next S6.out).next S7.out).next S8.out).next S9.out).next S10.out).next S11.out).next S12.out).next S13.out).next S14.out)).len.1; have := Hlens.out; omega)).mono ?_
  rintro e w15 ⟨rfl, hb15⟩
  have S15 := Lib.hid hb15
  have z15 : w14.heap.size ≤ w15.heap.size := S15.out.size
  clear hb15
  go_wp2_with ((go_at_call 20; refine num_any.mono ?_; rintro e w' ⟨rfl, rfl⟩))
  refine (rinv_any (c := c) (((((((((((((((HR.out).next S1.out).next S2.out).next S4.out).next S5.out).next S6.out).next S7.out).next S8.out).next S9.out).next S10.out).next S11.out).next S12.out).next S13.out).next S14.out).far (S15.out.below (by omega)) (by omega)).1 (((((((((((((((HR.out).next S1.out).next S2.out).next S4.out).next S5.out).next S6.out).next S7.out).next S8.out).next S9.out).next S10.out).next S11.out).next S12.out).next S13.out).next S14.out).far (S15.out.below (by omega)) (by omega)).2 Hn.out (letl_small HL.out) (by omega)).mono ?_
  rintro e w16 ⟨A16, n16, c16, rfl, ho16, hb16⟩
  have S16 := Lib.hid hb16
  have z16 : w15.heap.size ≤ w16.heap.size := S16.out.size
  clear hb16
  have G_i := Lib.hid (Got.of_own ho16 z16)
  clear ho16
  go_wp2_with ((go_at_call 20; refine num_any.mono ?_; rintro e w' ⟨rfl, rfl⟩))
  refine (told_got (((((((((((G_c.out).next S7.out).next S8.out).next S9.out).next S10.out).next S11.out).next S12.out).next S13.out).next S14.out).outside S15.out (by omega)).next S16.out) (((((((((((G_d.out).next S8.out).next S9.out).next S10.out).next S11.out).next S12.out).next S13.out).next S14.out).outside S15.out (by omega)).next S16.out).away (by omega)) ((G_i.out).away (by omega)) rfl rfl (((((((((((G_d.out).next S8.out).next S9.out).next S10.out).next S11.out).next S12.out).next S13.out).next S14.out).outside S15.out (by omega)).next S16.out).len.1) ((G_i.out).len.1) (by have := ((((((((((((G_c.out).next S7.out).next S8.out).next S9.out).next S10.out).next S11.out).next S12.out).next S13.out).next S14.out).outside S15.out (by omega)).next S16.out)).len.1; have := Hlens.out; omega)).mono ?_
  rintro e w17 ⟨rfl, hb17⟩
  have S17 := Lib.hid hb17
  have z17 : w16.heap.size ≤ w17.heap.size := S17.out.size
  clear hb17
  go_wp2_with ((go_at_call 20; refine num_any.mono ?_; rintro e w' ⟨rfl, rfl⟩))
  refine (same_below ((((((((((G_core.out).next S9.out).next S10.out).next S11.out).next S12.out).next S13.out).next S14.out).outside S15.out (by omega)).next S16.out).outside S17.out (by omega)).reads ((((G_x.out).outside S15.out (by omega)).next S16.out).outside S17.out (by omega)).reads (((((((((((G_core.out).next S9.out).next S10.out).next S11.out).next S12.out).next S13.out).next S14.out).outside S15.out (by omega)).next S16.out).outside S17.out (by omega)).len.1) rfl (by have := (((((((((((G_core.out).next S9.out).next S10.out).next S11.out).next S12.out).next S13.out).next S14.out).outside S15.out (by omega)).next S16.out).outside S17.out (by omega))).len.1; have := Hlens.out; omega)).mono ?_
  rintro e w18 ⟨rfl, hb18⟩
  have S18 := Lib.hid hb18
  have z18 : w17.heap.size ≤ w18.heap.size := S18.out.size
  clear hb18
  go_wp2_with ((go_at_call 20; refine num_any.mono ?_; rintro e w' ⟨rfl, rfl⟩))
  refine (same_below (((((((((((G_by.out).next S9.out).next S10.out).next S11.out).next S12.out).next S13.out).next S14.out).outside S15.out (by omega)).next S16.out).outside S17.out (by omega)).next S18.out).reads (((((G_y.out).outside S15.out (by omega)).next S16.out).outside S17.out (by omega)).next S18.out).reads ((((((((((((G_by.out).next S9.out).next S10.out).next S11.out).next S12.out).next S13.out).next S14.out).outside S15.out (by omega)).next S16.out).outside S17.out (by omega)).next S18.out).len.1) ((((((G_y.out).outside S15.out (by omega)).next S16.out).outside S17.out (by omega)).next S18.out).len.1) (by have := ((((((((((((G_by.out).next S9.out).next S10.out).next S11.out).next S12.out).next S13.out).next S14.out).outside S15.out (by omega)).next S16.out).outside S17.out (by omega)).next S18.out)).len.1; have := Hlens.out; omega)).mono ?_
  rintro e w19 ⟨rfl, hb19⟩
  have S19 := Lib.hid hb19
  have z19 : w18.heap.size ≤ w19.heap.size := S19.out.size
  clear hb19
  go_wp2_with ((go_at_call 20; refine num_any.mono ?_; rintro e w' ⟨rfl, rfl⟩))
  refine (rtext_s HST.out (rtext_any (c := c) (((((((((((((((((((HR.out).next S1.out).next S2.out).next S4.out).next S5.out).next S6.out).next S7.out).next S8.out).next S9.out).next S10.out).next S11.out).next S12.out).next S13.out).next S14.out).far (S15.out.below (by omega)) (by omega)).next S16.out).far (S17.out.below (by omega)) (by omega)).next S18.out).next S19.out).1 (((((((((((((((((((HR.out).next S1.out).next S2.out).next S4.out).next S5.out).next S6.out).next S7.out).next S8.out).next S9.out).next S10.out).next S11.out).next S12.out).next S13.out).next S14.out).far (S15.out.below (by omega)) (by omega)).next S16.out).far (S17.out.below (by omega)) (by omega)).next S18.out).next S19.out).2 Hn.out HL.out (by omega))).mono ?_
  rintro e w20 ⟨rfl, hb20⟩
  have S20 := Lib.hid hb20
  have z20 : w19.heap.size ≤ w20.heap.size := S20.out.size
  clear hb20
  have hzs : ((n13 : Int) == 0) = false := by have h1 := Hs.out.1; have h2 := Hs1.out; simp; omega
  go_wp2_with ((go_at_call 20; refine num_any.mono ?_; rintro e w' ⟨rfl, rfl⟩))
  refine (HRR.out w20 ((((((((G_s.out).next S14.out).outside S15.out (by omega)).next S16.out).outside S17.out (by omega)).next S18.out).next S19.out).next S20.out) Hs.out).mono ?_
  rintro e w21 ⟨A21, n21, c21, rfl, hr21, hn21, hb21⟩
  have S21 := Lib.hid hb21
  have z21 : w20.heap.size ≤ w21.heap.size := S21.out.size
  clear hb21
  have G_r := Lib.hid hr21
  have N_r := Lib.hid hn21
  clear hr21 hn21
  go_wp2_with ((go_at_call 20; refine num_any.mono ?_; rintro e w' ⟨rfl, rfl⟩))
  refine (same_below (((((((((((((G_root.out).next S10.out).next S11.out).next S12.out).next S13.out).next S14.out).outside S15.out (by omega)).next S16.out).outside S17.out (by omega)).next S18.out).next S19.out).next S20.out).next S21.out).reads (G_r.out).1 ((((((((((((((G_root.out).next S10.out).next S11.out).next S12.out).next S13.out).next S14.out).outside S15.out (by omega)).next S16.out).outside S17.out (by omega)).next S18.out).next S19.out).next S20.out).next S21.out).len.1) N_r.out (by have := ((((((((((((((G_root.out).next S10.out).next S11.out).next S12.out).next S13.out).next S14.out).outside S15.out (by omega)).next S16.out).outside S17.out (by omega)).next S18.out).next S19.out).next S20.out).next S21.out)).len.1; have := Hlens.out; omega)).mono ?_
  rintro e w22 ⟨rfl, hb22⟩
  have S22 := Lib.hid hb22
  have z22 : w21.heap.size ≤ w22.heap.size := S22.out.size
  clear hb22
  go_wp2_with ((go_at_call 20; refine num_any.mono ?_; rintro e w' ⟨rfl, rfl⟩))
  refine (left_any (c' := c) ((((((((((((((((((((G_m.out).next S4.out).next S5.out).next S6.out).next S7.out).next S8.out).next S9.out).next S10.out).next S11.out).next S12.out).next S13.out).next S14.out).far (S15.out.below (by omega)) (by omega)).next S16.out).far (S17.out.below (by omega)) (by omega)).next S18.out).next S19.out).next S20.out).next S21.out).next S22.out).1 ((((((((((((((((((((((HR.out).next S1.out).next S2.out).next S4.out).next S5.out).next S6.out).next S7.out).next S8.out).next S9.out).next S10.out).next S11.out).next S12.out).next S13.out).next S14.out).far (S15.out.below (by omega)) (by omega)).next S16.out).far (S17.out.below (by omega)) (by omega)).next S18.out).next S19.out).next S20.out).next S21.out).next S22.out).1 Hn.out Hn.out hc2 (by omega)).mono ?_
  rintro e w23 ⟨rfl, hb23⟩
  have S23 := Lib.hid hb23
  have z23 : w22.heap.size ≤ w23.heap.size := S23.out.size
  clear hb23
  go_wp2_with ((go_at_call 20; refine num_any.mono ?_; rintro e w' ⟨rfl, rfl⟩))
  refine (known_any (((((((((((((((((((((((HT.out).next S1.out).next S2.out).next S4.out).next S5.out).next S6.out).next S7.out).next S8.out).next S9.out).next S10.out).next S11.out).next S12.out).next S13.out).next S14.out).far (S15.out.below (by omega)) (by omega)).next S16.out).far (S17.out.below (by omega)) (by omega)).next S18.out).next S19.out).next S20.out).next S21.out).next S22.out).next S23.out).1 (((((((((((((((((((((((HT.out).next S1.out).next S2.out).next S4.out).next S5.out).next S6.out).next S7.out).next S8.out).next S9.out).next S10.out).next S11.out).next S12.out).next S13.out).next S14.out).far (S15.out.below (by omega)) (by omega)).next S16.out).far (S17.out.below (by omega)) (by omega)).next S18.out).next S19.out).next S20.out).next S21.out).next S22.out).next S23.out).2).mono ?_
  rintro e w24 ⟨rfl, hb24⟩
  have S24 := Lib.hid hb24
  have z24 : w23.heap.size ≤ w24.heap.size := S24.out.size
  clear hb24
  have BB := Lib.hid ((((((((((((((((((((((((Below.refl w.heap.size w).trans (S1.out.mono (by omega))).trans (S2.out.mono (by omega))).trans (S4.out.mono (by omega))).trans (S5.out.mono (by omega))).trans (S6.out.mono (by omega))).trans (S7.out.mono (by omega))).trans (S8.out.mono (by omega))).trans (S9.out.mono (by omega))).trans (S10.out.mono (by omega))).trans (S11.out.mono (by omega))).trans (S12.out.mono (by omega))).trans (S13.out.mono (by omega))).trans (S14.out.mono (by omega))).trans ((S15.out.below (by omega)).mono (by omega))).trans (S16.out.mono (by omega))).trans ((S17.out.below (by omega)).mono (by omega))).trans (S18.out.mono (by omega))).trans (S19.out.mono (by omega))).trans (S20.out.mono (by omega))).trans (S21.out.mono (by omega))).trans (S22.out.mono (by omega))).trans (S23.out.mono (by omega))).trans (S24.out.mono (by omega)))
  go_wp2_with fail
  go_ret
  exact ⟨rfl, BB.out⟩
end Go.Proofs.YtmjnhpagoboejaaDoor

/- words.Read. -/
namespace Go.Proofs.YtmjnhpagoboejaaDoor
open Go.RowKit
open Wd
set_option linter.unusedSimpArgs false
set_option linter.unusedVariables false

/-- the table; and the library's own variables that a reader of numerals looks into -/
def VarsX (B : Nat) (w : World) : Prop := TabX B w ∧ (∃ m, w.cell? ⟨2, 0, none⟩ = some (.int .i64 m)) ∧ (∃ t p, w.cell? ⟨0, 0, none⟩ = some (.iface t p)) ∧ (∃ t p, w.cell? ⟨1, 0, none⟩ = some (.iface t p))
theorem VarsX.next {w w' : World} {B : Nat} (h : VarsX B w) (hb : Below w.heap.size w w') : VarsX B w' := by
  obtain ⟨h1, ⟨m, h2⟩, ⟨t, p, h3⟩, ⟨t', p', h4⟩⟩ := h
  exact ⟨h1.next hb, ⟨m, (hb.cell (p := ⟨2, 0, none⟩) (Lib.lt_of_cell h2)).trans h2⟩, ⟨t, p, (hb.cell (p := ⟨0, 0, none⟩) (Lib.lt_of_cell h3)).trans h3⟩, ⟨t', p', (hb.cell (p := ⟨1, 0, none⟩) (Lib.lt_of_cell h4)).trans h4⟩⟩
/-- how strconv.Atoi ends -/
def AtoiOut (w : World) (r : Lib.NumEnd Int) (e : Ending) (w' : World) : Prop := Below w.heap.size w w' ∧ ((∃ v, r = .ok v ∧ e = .returned (.tuple #[.int .i64 v, .nilIface])) ∨ ((∀ v, r ≠ .ok v) ∧ ∃ z t p, e = .returned (.tuple #[.int .i64 z, .iface t p])))
theorem atoi_any {w : World} {B : Nat} {s : ByteArray} (hv : VarsX B w) (hs : s.size ≤ 1000000) : Calls Tryd.prog 84 #[.string s] w (AtoiOut w (Lib.atoiAll s.data.toList)) := by
  obtain ⟨h1, _, ⟨t, p, h3⟩, ⟨t', p', h4⟩⟩ := hv
  cases hr : Lib.atoiAll s.data.toList with
  | ok v =>
    refine (Tryd.strconv_Atoi_ok s (by omega) v hr w).mono ?_
    rintro e w' ⟨rfl, h⟩
    refine ⟨?_, .inl ⟨v, rfl, rfl⟩⟩
    rcases h with rfl | ⟨t, rfl⟩
    · exact Below.refl _ _
    · exact Lib.bytesWorld_below _ _ _
  | range =>
    refine (Tryd.strconv_Atoi_range s (by omega) hr _ w h4 (.inr ⟨t', p', rfl⟩)).mono ?_
    rintro e w' ⟨N, rfl, _, _, hb⟩
    exact ⟨hb, .inr ⟨(fun v h => by cases h), _, _, _, rfl⟩⟩
  | _ =>
    refine (Tryd.strconv_Atoi_syntax s (by omega) (fun v h => by rw [hr] at h; cases h) (fun h => by rw [hr] at h; cases h) _ w h3 (.inr ⟨t, p, rfl⟩)).mono ?_
    rintro e w' ⟨N, rfl, _, _, hb⟩
    exact ⟨hb, .inr ⟨(fun v h => by cases h), _, _, _, rfl⟩⟩
/-- a text's pieces, by strings.Split -/
theorem split_any {w : World} {B : Nat} {s : ByteArray} (hv : VarsX B w) (hs : s.size ≤ 1000000) :
    Calls Tryd.prog 83 #[.string s, .string ⟨#[32]⟩] w (fun e w' => ∃ (xs : List ByteArray) (n : Nat), e = .returned (.slice (some ⟨w.heap.size, 0, none⟩) n n) ∧ n = xs.length ∧ 1 ≤ n ∧ n ≤ s.size + 1 ∧ (∀ x ∈ xs, x.size ≤ s.size) ∧ xs.map (·.data.toList) = Lib.splitK [32] 0 (Lib.count s.data.toList [32]) s.data.toList ∧ w' = w.alloc (.cells (xs.map Value.string).toArray 9)) := by
  obtain ⟨_, ⟨m, h2⟩, _⟩ := hv
  refine (Tryd.strings_Split s ⟨#[32]⟩ m w (by omega) h2 (by decide)).mono ?_
  rintro e w' ⟨rfl, rfl⟩
  have hl := Lib.splitB_all ⟨#[32]⟩ (by decide) 0 _ s rfl
  have hc := Lib.countB_le ⟨#[32]⟩ (by decide) s.size s (Nat.le_refl _)
  have hd := Lib.splitB_data ⟨#[32]⟩ 0 (Lib.countB s ⟨#[32]⟩) s
  refine ⟨_, _, rfl, hl.symm, by omega, by omega, fun x hx => ?_, hd, rfl⟩
  have hx2 : x.data.toList ∈ Lib.splitK [32] 0 (Lib.countB s ⟨#[32]⟩) s.data.toList := by
    have h : x.data.toList ∈ (Lib.splitB ⟨#[32]⟩ 0 (Lib.countB s ⟨#[32]⟩) s).map (·.data.toList) := List.mem_map.2 ⟨x, hx, rfl⟩
    rw [hd] at h
    exact h
  have h3 := splitK_short _ _ _ hx2
  rw [Lib.size_eq x, Lib.size_eq s]
  exact h3
/-- what Read answers -/
def ReadOut (w : World) (R : Option (List Int)) (e : Ending) (w' : World) : Prop := Below w.heap.size w w' ∧ ((∃ l, R = some l ∧ ∃ A n k, e = .returned (.tuple #[.slice A n k, .int .i64 0]) ∧ Got w' w.heap.size w'.heap.size A n k l) ∨ (R = none ∧ e = .returned (.tuple #[.slice none 0 0, .int .i64 260])))
theorem Got.wide {w : World} {lo hi hi' n k : Nat} {A : Option Addr} {l : List Int} (h : Got w lo hi A n k l) (h1 : hi ≤ w.heap.size ∧ hi ≤ hi' ∧ hi' ≤ w.heap.size) : Got w lo hi' A n k l := by
  obtain ⟨⟨a, b⟩, c, ho, hk, hg⟩ := h
  exact ⟨⟨by omega, h1.2.2⟩, c, ho, hk, fun g hg' => by have := hg g hg'; omega⟩
theorem pread_dot0 : preadW [46] = some [] := rfl
set_option maxRecDepth 100000 in
set_option maxHeartbeats 4000000 in
theorem wread_dot {w : World} : Calls Tryd.prog 49 #[.string ⟨#[46]⟩] w (ReadOut w (some [])) := by
  go_enter Tryd.func49, Tryd.ntmps49
  go_wp2_with fail
  go_ret2
  exact ⟨Below.refl _ _, .inl ⟨[], rfl, none, 0, 0, rfl, Got.none_ (Nat.le_refl _) (Nat.le_refl _)⟩⟩
set_option maxRecDepth 100000 in
set_option maxHeartbeats 4000000 in
theorem wread_any {w : World} {B : Nat} {s : ByteArray} (hv : VarsX B w) (hs : s.size ≤ 100000) (hne : s.data.toList ≠ [46]) : Calls Tryd.prog 49 #[.string s] w (ReadOut w (preadW s.data.toList)) := by
  have HV := Lib.hid hv
  have hne2 : (s.toList == [46]) = false := by rw [ByteArray.toList_eq]; simpa using hne
  have HNE := Lib.hid hne
  have hsz : s.data.toList.length = s.size := (Lib.size_eq s).symm
  clear hv hne
  by_cases hbig : 16384 < s.size
  · have hbi : (16384 : Int) < (s.size : Int) := by omega
    have HR := Lib.hid (pread_long HNE.out (by omega))
    clear hsz hbig
    go_enter Tryd.func49, Tryd.ntmps49
    go_wp2_with fail
    go_ret2
    exact ⟨Below.refl _ _, .inr ⟨HR.out, rfl⟩⟩
  · have hbi : (s.size : Int) ≤ 16384 := by omega
    have HSZ := Lib.hid (show s.data.toList.length ≤ 16384 by omega)
    have HS := Lib.hid (split_any HV.out (s := s) (by omega))
    clear hsz hbig
    go_enter Tryd.func49, Tryd.ntmps49
    go_wp2_with fail
    refine HS.out.mono ?_
    rintro e w1 ⟨xs, n, rfl, hn, hn1, hn2, hx, hd, hw1⟩
    have HD := Lib.hid hd
    have H1 := Lib.hid (show Below w.heap.size w w1 ∧ Blk w1 w.heap.size 9 (xs.map Value.string).toArray ∧ n = xs.length ∧ ∀ x ∈ xs, x.size ≤ s.size by
      rw [hw1]; exact ⟨(Below.refl _ w).alloc (Nat.le_refl _) _, Blk.new w 9 _, hn, hx⟩)
    have hnb : n ≤ 20000 := by omega
    clear hn hx hd hw1 hn2
    go_wp2_with fail
    go_loopg [4, 17] n (fun r v iv' wr => ∃ (i : Nat) (A : Option Addr) (c : Nat) (l : List Int), v = .slice A i c ∧ iv' = .int .i64 (i : Int) ∧ r = n - i ∧ i ≤ n ∧ Hid (OwnI wr w.heap.size (.slice A i c) l ∧ atoiL ((xs.map (·.data.toList)).take i) = some l ∧ Below w.heap.size w wr ∧ Blk wr w.heap.size 9 (xs.map Value.string).toArray))
    case atStart => exact ⟨0, none, 0, [], rfl, rfl, by omega, by omega, Lib.hid ⟨OwnI.nil _ _, rfl, H1.out.1, H1.out.2.1⟩⟩
    case round =>
      obtain ⟨i, A, c, l, rfl, rfl, hr, hi, hL⟩ := hrel
      have Hr := Lib.hid hr
      clear hr
      by_cases hin : i < n
      · have hii : (i : Int) < (n : Int) := by omega
        have hil : i < xs.length := by have := H1.out.2.2.1; omega
        have hcell := hL.out.2.2.2.cell i
        rw [List.getElem?_toArray, List.getElem?_map, List.getElem?_eq_getElem hil] at hcell
        have hcell2 : wr.cell? ⟨w.heap.size, i, none⟩ = some (.string xs[i]) := hcell
        have Hx := Lib.hid (H1.out.2.2.2 xs[i] (List.getElem_mem hil))
        obtain ⟨x, hx⟩ : ∃ x, x = xs[i] := ⟨_, rfl⟩
        rw [← hx] at hcell2 Hx
        have HX := Lib.hid hx
        have HA := Lib.hid (atoi_any (HV.out.next (hL.out.2.2.1)) (s := x) (by have := Hx.out; omega))
        clear hcell hx
        have H3 := Lib.hid (show (xs.map (·.data.toList)).take (i + 1) = (xs.map (·.data.toList)).take i ++ [x.data.toList] by
          rw [List.take_succ_eq_append_getElem (by simpa using hil), List.getElem_map, ← HX.out])
        have hlen3 : l.length ≤ 20000 := by have h := hL.out.1.len.1; omega
        go_wp2_with fail
        refine HA.out.mono ?_
        rintro e w2 ⟨hb2, ⟨v, hv, rfl⟩ | ⟨hno, z, t, p, rfl⟩⟩
        · have HA2 := Lib.hid (show atoiL ((xs.map (·.data.toList)).take (i + 1)) = some (l ++ [v]) by
            rw [H3.out, atoiL_snoc, hL.out.2.1]
            show (match Lib.atoiAll x.data.toList with
              | .ok v => some (l ++ [v])
              | _ => none) = _
            rw [hv])
          have Hb2 := Lib.hid (show OwnI w2 w.heap.size (.slice A i c) l ∧ Below w.heap.size w w2 ∧ Blk w2 w.heap.size 9 (xs.map Value.string).toArray from
            ⟨hL.out.1.kept hb2, hL.out.2.2.1.trans (hb2.mono hL.out.2.2.1.size), hL.out.2.2.2.below hb2 hL.out.2.2.2.lt⟩)
          clear hb2 hv
          go_wp2_with ((refine wpI_append rfl (.tmp 28) (.tmp 30) rfl w.heap.size _ l [v] (Hb2.out.1.alloc _) rfl rfl rfl (reads_single _ v) (by omega) (by simp) (by have := Hb2.out.2.1.size; simp; omega) ?_; intro A3 n3 c3 w3 ho3 hn3 hc3 hg3 hw3 hb3; obtain rfl : n3 = i + 1 := (by rw [hn3, ← hL.out.1.len.1]; simp); have Ho3 := Lib.hid (And.intro ho3 (And.intro (hb3 _ (Hb2.out.2.1.alloc (Hb2.out.2.1.size) _)) hg3)); clear ho3 hn3 hc3 hg3 hw3 hb3))
          have HF := Lib.hid (show Blk w3 w.heap.size 9 (xs.map Value.string).toArray from (Hb2.out.2.2.alloc _).grown Ho3.out.2.2 (fun e => own_blk_ne (Hb2.out.1.alloc (.cells #[.int .i64 v] 3)) (Hb2.out.2.2.alloc _) (by decide) e.symm))
          go_roundg (n - (i + 1))
          case measure => have := Hr.out; omega
          case rel => exact ⟨i + 1, A3, c3, l ++ [v], rfl, by go_num, rfl, by omega, Lib.hid ⟨Ho3.out.1, HA2.out, Ho3.out.2.1, HF.out⟩⟩
        · have HN := Lib.hid (show preadW s.data.toList = none from pread_none HNE.out HSZ.out (by
            rw [← HD.out, ← List.take_append_drop (i + 1) (xs.map (·.data.toList))]
            refine atoiL_front _ _ ?_
            rw [H3.out, atoiL_snoc, hL.out.2.1]
            show (match Lib.atoiAll x.data.toList with
              | .ok v => some (l ++ [v])
              | _ => none) = none
            cases hx2 : Lib.atoiAll x.data.toList with
            | ok v => exact absurd hx2 (hno v)
            | range => rfl
            | _ => rfl))
          have Hb2 := Lib.hid (hL.out.2.2.1.trans (hb2.mono hL.out.2.2.1.size))
          clear hb2 hno
          go_wp2_with fail
          go_ret2
          exact ⟨Hb2.out, .inr ⟨HN.out, rfl⟩⟩
      · have hii : (n : Int) ≤ (i : Int) := by omega
        have hlen := Lib.hid (hL.out.1.len)
        have HLA := Lib.hid (show atoiL (Lib.splitK [32] 0 (Lib.count s.data.toList [32]) s.data.toList) = some l by
          have h := hL.out.2.1
          rw [List.take_of_length_le (by have := H1.out.2.2.1; simp; omega), HD.out] at h
          exact h)
        have hwf : Wf l := atoiL_bounds HLA.out
        have HCK := Lib.hid (check_any (n := 1) (c := 1) (row_one wr (A, c, l) hL.out.1.reads (Nat.le_refl _)) rfl (by decide) (fun r hr => by rw [List.mem_singleton.1 hr]; exact ⟨hwf, by have := hlen.out.1; show l.length ≤ _; omega⟩))
        rw [show (List.map (fun r : SRow => r.2.2) [(A, c, l)]) = [l] from rfl] at HCK
        have hil : i = l.length := hlen.out.1
        rw [show ((A, c, l) : SRow).2.2.length = l.length from rfl, show ((A, c, l) : SRow).1 = A from rfl, show ((A, c, l) : SRow).2.1 = c from rfl, ← hil] at HCK
        clear hwf hil
        go_wp2_with fail
        refine HCK.out.mono ?_
        rintro e w' ⟨rfl, rfl⟩
        by_cases hz : chk [l] = 0
        · rw [hz]
          obtain ⟨T, hT⟩ : ∃ T : ByteArray, T = ⟨(txt l).toArray⟩ := ⟨_, rfl⟩
          have HTx := Lib.hid (rtext_s (f := 61) (args := #[.slice A i c]) hT (text_any (B := (wr.alloc (.cells #[.slice A i c] 22)).heap.size) ((((HV.out.next hL.out.2.2.1).next ((Below.refl _ wr).alloc (Nat.le_refl _) (.cells #[.slice A i c] 22))).1.1).more ((HV.out.next hL.out.2.2.1).next ((Below.refl _ wr).alloc (Nat.le_refl _) (.cells #[.slice A i c] 22))).1.2) (hL.out.1.reads.alloc (Nat.le_refl _) (.cells #[.slice A i c] 22) |>.more (by simp)) (Nat.le_refl _) hlen.out.1 (word_let (chk_one.1 hz).1) (by omega)))
          have hTl : T.toList = txt l := by rw [ByteArray.toList_eq, hT]
          by_cases htx : txt l = s.data.toList
          · have HR := Lib.hid (pread_yes HNE.out HSZ.out HLA.out hz htx)
            have hcmp : (T.toList == s.toList) = true := by rw [hTl, htx, ByteArray.toList_eq]; simp
            clear hTl htx hT hz
            go_wp2_with fail
            refine HTx.out.mono ?_
            rintro e w5 ⟨rfl, hb5⟩
            have Hb5 := Lib.hid ((((Below.refl wr.heap.size wr).alloc (Nat.le_refl _) (.cells #[.slice A i c] 22))).trans (hb5.mono (by simp)))
            clear hb5
            go_wp2_with fail
            go_ret2
            exact ⟨hL.out.2.2.1.trans (Hb5.out.mono hL.out.2.2.1.size), .inl ⟨l, HR.out, A, i, c, rfl, ((Got.of_own hL.out.1 hL.out.2.2.1.size).next Hb5.out).wide (by have h5 := Hb5.out.size; refine ⟨?_, ?_, ?_⟩ <;> omega)⟩⟩
          · have HR := Lib.hid (pread_no HNE.out HSZ.out HLA.out (fun h => htx h.2))
            have hcmp : (T.toList == s.toList) = false := by rw [hTl, ByteArray.toList_eq]; simpa using htx
            clear hTl htx hT hz
            go_wp2_with fail
            refine HTx.out.mono ?_
            rintro e w5 ⟨rfl, hb5⟩
            have Hb5 := Lib.hid ((((Below.refl wr.heap.size wr).alloc (Nat.le_refl _) (.cells #[.slice A i c] 22))).trans (hb5.mono (by simp)))
            clear hb5
            go_wp2_with fail
            go_ret2
            exact ⟨hL.out.2.2.1.trans (Hb5.out.mono hL.out.2.2.1.size), .inr ⟨HR.out, rfl⟩⟩
        · have HR := Lib.hid (pread_no HNE.out HSZ.out HLA.out (fun h => hz h.1))
          obtain ⟨z, hze⟩ : ∃ z, chk [l] = z := ⟨_, rfl⟩
          have hzb : (z != 0) = true := by rw [← hze]; simpa using hz
          rw [hze]
          have Hb5 := Lib.hid (hL.out.2.2.1.trans (((Below.refl wr.heap.size wr).alloc (Nat.le_refl _) (.cells #[.slice A i c] 22)).mono hL.out.2.2.1.size))
          clear hze hz
          go_wp2_with fail
          go_ret2
          exact ⟨Hb5.out, .inr ⟨HR.out, rfl⟩⟩
end Go.Proofs.YtmjnhpagoboejaaDoor

/- ref.Read. -/
namespace Go.Proofs.YtmjnhpagoboejaaDoor
open Go.RowKit
open Wd
set_option linter.unusedSimpArgs false
set_option linter.unusedVariables false

theorem rrun_next {s : List UInt8} {i : Nat} {st : RSt} (h : i < s.length) (hs : rrun (s.take i) (false, 0, false, []) = some st) : rrun (s.take (i + 1)) (false, 0, false, []) = rstep s[i] st := by
  rw [List.take_succ_eq_append_getElem h, rrun_append, hs]
  show rrun [s[i]] st = _
  rw [rrun]
  cases rstep s[i] st <;> rfl
theorem rrun_bad {s : List UInt8} {i : Nat} {st : RSt} (h : i < s.length) (hs : rrun (s.take i) (false, 0, false, []) = some st) (hb : rstep s[i] st = none) : rrun s (false, 0, false, []) = none := by
  have h1 := rrun_next h hs
  rw [hb] at h1
  rw [← List.take_append_drop (i + 1) s, rrun_append, h1]
theorem rread_fail {s : List UInt8} (h1 : s ≠ [46]) (h2 : rrun s (false, 0, false, []) = none) : rreadW s = none := by unfold rreadW; rw [if_neg h1, h2]
theorem rread_yes {s : List UInt8} {neg : Bool} {n : Nat} {som : Bool} {acc l : List Int} (h1 : s ≠ [46]) (h2 : rrun s (false, 0, false, []) = some (neg, n, som, acc)) (hl : l = acc ++ [sgnd neg n]) (h3 : chk [l] = 0) (h4 : txt l = s) : rreadW s = some l := by
  subst hl
  unfold rreadW
  rw [if_neg h1, h2]
  exact if_pos ⟨h3, h4⟩
theorem rread_no {s : List UInt8} {neg : Bool} {n : Nat} {som : Bool} {acc l : List Int} (h1 : s ≠ [46]) (h2 : rrun s (false, 0, false, []) = some (neg, n, som, acc)) (hl : l = acc ++ [sgnd neg n]) (h3 : ¬ (chk [l] = 0 ∧ txt l = s)) : rreadW s = none := by
  subst hl
  unfold rreadW
  rw [if_neg h1, h2]
  exact if_neg h3
def LB (l : List Int) : Prop := ∀ k ∈ l, -1000 ≤ k ∧ k ≤ 1000
theorem lb_snoc {l : List Int} {v : Int} (h : LB l) (hv : -1000 ≤ v ∧ v ≤ 1000) : LB (l ++ [v]) := fun k hk => by
  rcases List.mem_append.1 hk with hk | hk
  · exact h k hk
  · rw [List.mem_singleton.1 hk]; exact hv
/-- where the reader stands -/
def RdAt (s : List UInt8) (i : Nat) (neg : Bool) (n : Nat) (som : Bool) (L : List Int) : Prop :=
  (i ≤ s.length ∧ rrun (s.take i) (false, 0, false, []) = some (neg, n, som, L)) ∨ (i = s.length + 1 ∧ ∃ neg' n' som' acc, rrun s (false, 0, false, []) = some (neg', n', som', acc) ∧ L = acc ++ [sgnd neg' n'])
set_option maxRecDepth 100000 in
set_option maxHeartbeats 4000000 in
theorem rread_dot {w : World} : Calls Tryd.prog 50 #[.string ⟨#[46]⟩] w (ReadOut w (some [])) := by
  go_enter Tryd.func50, Tryd.ntmps50
  go_wp2_with fail
  go_ret2
  exact ⟨Below.refl _ _, .inl ⟨[], rfl, none, 0, 0, rfl, Got.none_ (Nat.le_refl _) (Nat.le_refl _)⟩⟩
set_option maxRecDepth 100000 in
set_option maxHeartbeats 8000000 in
theorem rread_any {w : World} {B : Nat} {s : ByteArray} (hv : VarsX B w) (hs : s.size ≤ 100000) (hne : s.data.toList ≠ [46]) : Calls Tryd.prog 50 #[.string s] w (ReadOut w (rreadW s.data.toList)) := by
  have HV := Lib.hid hv
  have hne2 : (s.toList == [46]) = false := by rw [ByteArray.toList_eq]; simpa using hne
  have HNE := Lib.hid hne
  have HSZ := Lib.hid (show s.data.toList.length = s.size from (Lib.size_eq s).symm)
  clear hv hne
  go_enter Tryd.func50, Tryd.ntmps50
  go_wp2_with fail
  go_loopg [4, 5, 6, 7, 8] (s.size + 1) (fun r v ng nv sm iv' wr => ∃ (i m n : Nat) (A : Option Addr) (c : Nat) (L : List Int) (neg som : Bool), v = .slice A m c ∧ ng = .bool neg ∧ nv = .int .i64 (n : Int) ∧ sm = .bool som ∧ iv' = .int .i64 (i : Int) ∧ r = s.size + 1 - i ∧ i ≤ s.size + 1 ∧ n ≤ 1000 ∧ Hid (OwnI wr w.heap.size (.slice A m c) L ∧ L.length ≤ i ∧ RdAt s.data.toList i neg n som L ∧ Below w.heap.size w wr ∧ LB L))
  case atStart => exact ⟨0, 0, 0, none, 0, [], false, false, rfl, rfl, rfl, rfl, rfl, rfl, by omega, by omega, Lib.hid ⟨OwnI.nil _ _, Nat.le_refl _, .inl ⟨Nat.zero_le _, rfl⟩, Below.refl _ _, fun k hk => by cases hk⟩⟩
  case round =>
    obtain ⟨i, m, n, A, c, L, neg, som, rfl, rfl, rfl, rfl, rfl, hr, hi, hn, hL⟩ := hrel
    have Hr := Lib.hid hr
    clear hr
    by_cases hlt : i < s.size
    · have hii : (i : Int) ≤ (s.size : Int) := by omega
      have hine : ((i : Int) == (s.size : Int)) = false := by simp; omega
      have hii2 : (i : Int) < (s.size : Int) := by omega
      have hil := Lib.hid (show i < s.data.toList.length by have := HSZ.out; omega)
      have Hst := Lib.hid (show rrun (s.data.toList.take i) (false, 0, false, []) = some (neg, n, som, L) by
        rcases hL.out.2.2.1 with ⟨_, h2⟩ | ⟨h1, _⟩
        · exact h2
        · exfalso; have := HSZ.out; omega)
      have Hby := Lib.hid (show s.data.toList[i]'hil.out = s[i] from rfl)
      by_cases hb32' : s[i] = 32
      · have hb32 := Lib.hid (show s.data.toList[i]'hil.out = 32 from hb32')
        have e0 : ((s[i].toNat : Int) == 32) = true := by rw [hb32']; rfl
        clear hb32'
        cases neg
        case false =>
          have HV3 := Lib.hid (show sgnd false n = (n : Int) from rfl)
          have HN := Lib.hid (show RdAt s.data.toList (i + 1) false 0 false (L ++ [(n : Int)]) from .inl ⟨by have := HSZ.out; omega, by rw [rrun_next hil.out Hst.out, rstep_eq, if_pos hb32.out, HV3.out]⟩)
          have hLl : L.length ≤ 100001 := by have := hL.out.2.1; omega
          have hbnd : -1000 ≤ (n : Int) ∧ (n : Int) ≤ 1000 := by omega
          have HLB := Lib.hid (lb_snoc hL.out.2.2.2.2 (v := (n : Int)) hbnd)
          have hml := Lib.hid (hL.out.1.len)
          clear hbnd
          go_wp2_with ((refine wpI_append rfl (.tmp 30) (.tmp 32) rfl w.heap.size _ L [(n : Int)] (hL.out.1.alloc _) rfl rfl rfl (reads_single _ (n : Int)) (by omega) (by simp) (by have := hL.out.2.2.2.1.size; simp; omega) ?_; intro A3 n3 c3 w3 ho3 hn3 hc3 hg3 hw3 hb3; have Ho3 := Lib.hid (And.intro ho3 (And.intro (hb3 _ (hL.out.2.2.2.1.alloc (hL.out.2.2.2.1.size) _)) hn3)); clear ho3 hn3 hc3 hg3 hw3 hb3))
          go_roundg (s.size + 1 - (i + 1))
          case measure => have := Hr.out; omega
          case rel => exact ⟨i + 1, n3, 0, A3, c3, L ++ [(n : Int)], false, false, rfl, rfl, rfl, rfl, by go_num, rfl, by omega, by omega, Lib.hid ⟨Ho3.out.1, by rw [List.length_append]; have := hL.out.2.1; simp; omega, HN.out, Ho3.out.2.1, HLB.out⟩⟩
        case true =>
          have HV3 := Lib.hid (show sgnd true n = (-(n : Int)) from rfl)
          have HN := Lib.hid (show RdAt s.data.toList (i + 1) false 0 false (L ++ [(-(n : Int))]) from .inl ⟨by have := HSZ.out; omega, by rw [rrun_next hil.out Hst.out, rstep_eq, if_pos hb32.out, HV3.out]⟩)
          have hLl : L.length ≤ 100001 := by have := hL.out.2.1; omega
          have hbnd : -1000 ≤ (-(n : Int)) ∧ (-(n : Int)) ≤ 1000 := by omega
          have HLB := Lib.hid (lb_snoc hL.out.2.2.2.2 (v := (-(n : Int))) hbnd)
          have hml := Lib.hid (hL.out.1.len)
          clear hbnd
          go_wp2_with ((refine wpI_append rfl (.tmp 30) (.tmp 32) rfl w.heap.size _ L [(-(n : Int))] (hL.out.1.alloc _) rfl rfl rfl (reads_single _ (-(n : Int))) (by omega) (by simp) (by have := hL.out.2.2.2.1.size; simp; omega) ?_; intro A3 n3 c3 w3 ho3 hn3 hc3 hg3 hw3 hb3; have Ho3 := Lib.hid (And.intro ho3 (And.intro (hb3 _ (hL.out.2.2.2.1.alloc (hL.out.2.2.2.1.size) _)) hn3)); clear ho3 hn3 hc3 hg3 hw3 hb3))
          go_roundg (s.size + 1 - (i + 1))
          case measure => have := Hr.out; omega
          case rel => exact ⟨i + 1, n3, 0, A3, c3, L ++ [(-(n : Int))], false, false, rfl, rfl, rfl, rfl, by go_num, rfl, by omega, by omega, Lib.hid ⟨Ho3.out.1, by rw [List.length_append]; have := hL.out.2.1; simp; omega, HN.out, Ho3.out.2.1, HLB.out⟩⟩
      · have hb32 := Lib.hid (show ¬ s.data.toList[i]'hil.out = 32 from hb32')
        have e0 : ((s[i].toNat : Int) == 32) = false := by
          have h : s[i].toNat ≠ 32 := fun h => hb32' (UInt8.toNat_inj.1 h)
          simp; omega
        clear hb32'
        by_cases hb45' : s[i] = 45
        · have hb45 := Lib.hid (show s.data.toList[i]'hil.out = 45 from hb45')
          have e1 : ((s[i].toNat : Int) == 45) = true := by rw [hb45']; rfl
          have e1' : (s[i].toNat : Int) = 45 := by rw [hb45']; rfl
          have e2 : (s[i].toNat : Int) < 48 := by rw [hb45']; decide
          clear hb45'
          cases som
          case false =>
            cases neg
            case false =>
              have HN := Lib.hid (show RdAt s.data.toList (i + 1) true (n) false L from .inl ⟨by have := HSZ.out; omega, by rw [rrun_next hil.out Hst.out, rstep_eq]; exact (if_neg hb32.out).trans (if_pos ⟨hb45.out, rfl, rfl⟩)⟩)
              clear e2
              go_wp2_with fail
              go_roundg (s.size + 1 - (i + 1))
              case measure => have := Hr.out; omega
              case rel => exact ⟨i + 1, m, n, A, c, L, true, false, rfl, rfl, rfl, rfl, by go_num, rfl, by omega, by omega, Lib.hid ⟨hL.out.1, by have := hL.out.2.1; omega, HN.out, hL.out.2.2.2⟩⟩
            case true =>
              have HB := Lib.hid (rrun_bad hil.out Hst.out (by rw [rstep_eq]; rw [if_neg hb32.out, if_neg (fun h => by cases h.2.2), if_pos (.inl (by rw [hb45.out]; decide))]))
              have HR := Lib.hid (rread_fail HNE.out HB.out)
              go_wp2_with fail
              go_ret2
              exact ⟨hL.out.2.2.2.1, .inr ⟨HR.out, rfl⟩⟩
          case true =>
            have HB := Lib.hid (rrun_bad hil.out Hst.out (by rw [rstep_eq]; rw [if_neg hb32.out, if_neg (fun h => by cases h.2.1), if_pos (.inl (by rw [hb45.out]; decide))]))
            have HR := Lib.hid (rread_fail HNE.out HB.out)
            go_wp2_with fail
            go_ret2
            exact ⟨hL.out.2.2.2.1, .inr ⟨HR.out, rfl⟩⟩
        · have hb45 := Lib.hid (show ¬ s.data.toList[i]'hil.out = 45 from hb45')
          have e1 : ((s[i].toNat : Int) == 45) = false := by
            have h : s[i].toNat ≠ 45 := fun h => hb45' (UInt8.toNat_inj.1 h)
            simp; omega
          have e1' : ¬ (s[i].toNat : Int) = 45 := by
            have h : s[i].toNat ≠ 45 := fun h => hb45' (UInt8.toNat_inj.1 h)
            omega
          clear hb45'
          by_cases hlo : (s[i].toNat : Int) < 48
          · have hlo2 := Lib.hid (show (s.data.toList[i]'hil.out).toNat < 48 by rw [Hby.out]; omega)
            have HB := Lib.hid (rrun_bad hil.out Hst.out (by rw [rstep_eq]; rw [if_neg hb32.out, if_neg (fun h => hb45.out h.1), if_pos (.inl hlo2.out)]))
            have HR := Lib.hid (rread_fail HNE.out HB.out)
            go_wp2_with fail
            go_ret2
            exact ⟨hL.out.2.2.2.1, .inr ⟨HR.out, rfl⟩⟩
          · have hlo3 : (48 : Int) ≤ (s[i].toNat : Int) := by omega
            by_cases hhi : (57 : Int) < (s[i].toNat : Int)
            · have hhi2 := Lib.hid (show 57 < (s.data.toList[i]'hil.out).toNat by rw [Hby.out]; omega)
              have HB := Lib.hid (rrun_bad hil.out Hst.out (by rw [rstep_eq]; rw [if_neg hb32.out, if_neg (fun h => hb45.out h.1), if_pos (.inr hhi2.out)]))
              have HR := Lib.hid (rread_fail HNE.out HB.out)
              go_wp2_with fail
              go_ret2
              exact ⟨hL.out.2.2.2.1, .inr ⟨HR.out, rfl⟩⟩
            · have hhi3 : (s[i].toNat : Int) ≤ 57 := by omega
              have HD2 := Lib.hid (show ¬ ((s.data.toList[i]'hil.out).toNat < 48 ∨ 57 < (s.data.toList[i]'hil.out).toNat) by rw [Hby.out]; omega)
              have HC := Lib.hid (show min (10 * n + ((s.data.toList[i]'hil.out).toNat - 48)) 1000 = min (10 * n + (s[i].toNat - 48)) 1000 by rw [Hby.out])
              have HCc := Lib.hid (show ((min (10 * n + (s[i].toNat - 48)) 1000 : Nat) : Int) = min (10 * (n : Int) + ((s[i].toNat : Int) - 48)) 1000 by omega)
              have HN := Lib.hid (show RdAt s.data.toList (i + 1) neg (min (10 * n + (s[i].toNat - 48)) 1000) true L from .inl ⟨by have := HSZ.out; omega, by rw [rrun_next hil.out Hst.out, rstep_eq]; rw [if_neg hb32.out, if_neg (fun h => hb45.out h.1), if_neg HD2.out, HC.out]⟩)
              clear hlo hhi
              go_wp2_with fail
              go_roundg (s.size + 1 - (i + 1))
              case measure => have := Hr.out; omega
              case rel => exact ⟨i + 1, m, min (10 * n + (s[i].toNat - 48)) 1000, A, c, L, neg, true, rfl, rfl, by rw [HCc.out]; rfl, rfl, by go_num, rfl, by omega, by omega, Lib.hid ⟨hL.out.1, by have := hL.out.2.1; omega, HN.out, hL.out.2.2.2⟩⟩
    · by_cases hend : i = s.size
      · have hii : (i : Int) ≤ (s.size : Int) := by omega
        have hieq : ((i : Int) == (s.size : Int)) = true := by rw [hend]; simp
        have Hend := Lib.hid hend
        clear hend
        cases neg
        case false =>
          have HV3 := Lib.hid (show sgnd false n = (n : Int) from rfl)
          have HN := Lib.hid (show RdAt s.data.toList (i + 1) false 0 false (L ++ [(n : Int)]) from by
            rcases hL.out.2.2.1 with ⟨h1, h2⟩ | ⟨h1, _⟩
            · rw [List.take_of_length_le (by have := HSZ.out; have := Hend.out; omega)] at h2
              exact .inr ⟨by have := HSZ.out; have := Hend.out; omega, false, n, som, L, h2, by rw [HV3.out]⟩
            · exfalso; have := HSZ.out; have := Hend.out; omega)
          have hLl : L.length ≤ 100001 := by have := hL.out.2.1; omega
          have hbnd : -1000 ≤ (n : Int) ∧ (n : Int) ≤ 1000 := by omega
          have HLB := Lib.hid (lb_snoc hL.out.2.2.2.2 (v := (n : Int)) hbnd)
          have hml := Lib.hid (hL.out.1.len)
          clear hbnd
          go_wp2_with ((refine wpI_append rfl (.tmp 30) (.tmp 32) rfl w.heap.size _ L [(n : Int)] (hL.out.1.alloc _) rfl rfl rfl (reads_single _ (n : Int)) (by omega) (by simp) (by have := hL.out.2.2.2.1.size; simp; omega) ?_; intro A3 n3 c3 w3 ho3 hn3 hc3 hg3 hw3 hb3; have Ho3 := Lib.hid (And.intro ho3 (And.intro (hb3 _ (hL.out.2.2.2.1.alloc (hL.out.2.2.2.1.size) _)) hn3)); clear ho3 hn3 hc3 hg3 hw3 hb3))
          go_roundg (s.size + 1 - (i + 1))
          case measure => have := Hr.out; omega
          case rel => exact ⟨i + 1, n3, 0, A3, c3, L ++ [(n : Int)], false, false, rfl, rfl, rfl, rfl, by go_num, rfl, by omega, by omega, Lib.hid ⟨Ho3.out.1, by rw [List.length_append]; have := hL.out.2.1; simp; omega, HN.out, Ho3.out.2.1, HLB.out⟩⟩
        case true =>
          have HV3 := Lib.hid (show sgnd true n = (-(n : Int)) from rfl)
          have HN := Lib.hid (show RdAt s.data.toList (i + 1) false 0 false (L ++ [(-(n : Int))]) from by
            rcases hL.out.2.2.1 with ⟨h1, h2⟩ | ⟨h1, _⟩
            · rw [List.take_of_length_le (by have := HSZ.out; have := Hend.out; omega)] at h2
              exact .inr ⟨by have := HSZ.out; have := Hend.out; omega, true, n, som, L, h2, by rw [HV3.out]⟩
            · exfalso; have := HSZ.out; have := Hend.out; omega)
          have hLl : L.length ≤ 100001 := by have := hL.out.2.1; omega
          have hbnd : -1000 ≤ (-(n : Int)) ∧ (-(n : Int)) ≤ 1000 := by omega
          have HLB := Lib.hid (lb_snoc hL.out.2.2.2.2 (v := (-(n : Int))) hbnd)
          have hml := Lib.hid (hL.out.1.len)
          clear hbnd
          go_wp2_with ((refine wpI_append rfl (.tmp 30) (.tmp 32) rfl w.heap.size _ L [(-(n : Int))] (hL.out.1.alloc _) rfl rfl rfl (reads_single _ (-(n : Int))) (by omega) (by simp) (by have := hL.out.2.2.2.1.size; simp; omega) ?_; intro A3 n3 c3 w3 ho3 hn3 hc3 hg3 hw3 hb3; have Ho3 := Lib.hid (And.intro ho3 (And.intro (hb3 _ (hL.out.2.2.2.1.alloc (hL.out.2.2.2.1.size) _)) hn3)); clear ho3 hn3 hc3 hg3 hw3 hb3))
          go_roundg (s.size + 1 - (i + 1))
          case measure => have := Hr.out; omega
          case rel => exact ⟨i + 1, n3, 0, A3, c3, L ++ [(-(n : Int))], false, false, rfl, rfl, rfl, rfl, by go_num, rfl, by omega, by omega, Lib.hid ⟨Ho3.out.1, by rw [List.length_append]; have := hL.out.2.1; simp; omega, HN.out, Ho3.out.2.1, HLB.out⟩⟩
      · have hii : (s.size : Int) < (i : Int) := by omega
        obtain ⟨neg', n', som', acc, hrun, hacc⟩ : ∃ neg' n' som' acc, rrun s.data.toList (false, 0, false, []) = some (neg', n', som', acc) ∧ L = acc ++ [sgnd neg' n'] := by
          rcases hL.out.2.2.1 with ⟨h1, _⟩ | ⟨_, h2⟩
          · exfalso; have := HSZ.out; omega
          · exact h2
        have HRUN := Lib.hid (And.intro hrun hacc)
        have hlen := Lib.hid (hL.out.1.len)
        have hm : m ≤ 200000 := by have h1 := hL.out.2.1; have h2 := hlen.out.1; omega
        have hwf : Wf L := fun k hk => by have := hL.out.2.2.2.2 k hk; omega
        clear hrun hacc
        have HCK := Lib.hid (rcheck_any (n := m) (c := c) hL.out.1.reads hlen.out.1 (by omega) hwf)
        clear hwf
        go_wp2_with fail
        refine HCK.out.mono ?_
        rintro e w' ⟨rfl, rfl⟩
        by_cases hz : chk [L] = 0
        · rw [hz]
          obtain ⟨T, hT⟩ : ∃ T : ByteArray, T = ⟨(txt L).toArray⟩ := ⟨_, rfl⟩
          have HTx := Lib.hid (rtext_s (f := 28) (args := #[.slice A m c]) hT (rtext_any hL.out.1.reads (Nat.le_refl _) hlen.out.1 (word_let (chk_one.1 hz).1) (by have h1 := hL.out.2.1; have h2 := (chk_one.1 hz).2; have h3 := hlen.out.1; omega)))
          have hTl : T.toList = txt L := by rw [ByteArray.toList_eq, hT]
          by_cases htx : txt L = s.data.toList
          · have HR := Lib.hid (rread_yes HNE.out HRUN.out.1 HRUN.out.2 hz htx)
            have hcmp : (T.toList == s.toList) = true := by rw [hTl, htx, ByteArray.toList_eq]; simp
            clear hTl htx hT hz
            go_wp2_with fail
            refine HTx.out.mono ?_
            rintro e w5 ⟨rfl, hb5⟩
            have Hb5 := Lib.hid hb5
            clear hb5
            go_wp2_with fail
            go_ret2
            exact ⟨hL.out.2.2.2.1.trans (Hb5.out.mono hL.out.2.2.2.1.size), .inl ⟨L, HR.out, A, m, c, rfl, ((Got.of_own hL.out.1 hL.out.2.2.2.1.size).next Hb5.out).wide (by have h5 := Hb5.out.size; refine ⟨?_, ?_, ?_⟩ <;> omega)⟩⟩
          · have HR := Lib.hid (rread_no HNE.out HRUN.out.1 HRUN.out.2 (fun h => htx h.2))
            have hcmp : (T.toList == s.toList) = false := by rw [hTl, ByteArray.toList_eq]; simpa using htx
            clear hTl htx hT hz
            go_wp2_with fail
            refine HTx.out.mono ?_
            rintro e w5 ⟨rfl, hb5⟩
            have Hb5 := Lib.hid hb5
            clear hb5
            go_wp2_with fail
            go_ret2
            exact ⟨hL.out.2.2.2.1.trans (Hb5.out.mono hL.out.2.2.2.1.size), .inr ⟨HR.out, rfl⟩⟩
        · have HR := Lib.hid (rread_no HNE.out HRUN.out.1 HRUN.out.2 (fun h => hz h.1))
          obtain ⟨z, hze⟩ : ∃ z, chk [L] = z := ⟨_, rfl⟩
          have hzb : (z != 0) = true := by rw [← hze]; simpa using hz
          rw [hze]
          clear hze hz
          go_wp2_with fail
          go_ret2
          exact ⟨hL.out.2.2.2.1, .inr ⟨HR.out, rfl⟩⟩
end Go.Proofs.YtmjnhpagoboejaaDoor

/- law.WordsTexts. -/
namespace Go.Proofs.YtmjnhpagoboejaaDoor
open Go.RowKit
open Wd
set_option linter.unusedSimpArgs false
set_option linter.unusedVariables false

theorem dot_of {s : ByteArray} (h : s.data.toList = [46]) : s = ⟨#[46]⟩ := by
  obtain ⟨⟨l⟩⟩ := s
  have h : l = [46] := h
  rw [h]
theorem wread_all {w : World} {B : Nat} {s : ByteArray} (hv : VarsX B w) (hs : s.size ≤ 100000) : Calls Tryd.prog 49 #[.string s] w (ReadOut w (preadW s.data.toList)) := by
  by_cases h : s.data.toList = [46]
  · rw [h, dot_of h]
    exact wread_dot
  · exact wread_any hv hs h
theorem rread_all {w : World} {B : Nat} {s : ByteArray} (hv : VarsX B w) (hs : s.size ≤ 100000) : Calls Tryd.prog 50 #[.string s] w (ReadOut w (preadW s.data.toList)) := by
  rw [reads_same]
  by_cases h : s.data.toList = [46]
  · rw [h, dot_of h]
    exact rread_dot
  · exact rread_any hv hs h
/-- a word and a number -/
theorem readOut_two {w : World} {R : Option (List Int)} {e : Ending} {w' : World} (h : ReadOut w R e w') : ∃ A n k, e = .returned (.tuple #[.slice A n k, .int .i64 (if R.isSome then 0 else 260)]) ∧ Got w' w.heap.size w'.heap.size A n k (R.getD []) ∧ Below w.heap.size w w' := by
  obtain ⟨hb, ⟨l, rfl, A, n, k, rfl, hg⟩ | ⟨rfl, rfl⟩⟩ := h
  · exact ⟨A, n, k, rfl, hg, hb⟩
  · exact ⟨none, 0, 0, rfl, Got.none_ hb.size (Nat.le_refl _), hb⟩
set_option maxRecDepth 100000 in
set_option maxHeartbeats 4000000 in
theorem texts_law {w : World} {B : Nat} {s : ByteArray} (hv : VarsX B w) (hs : s.size ≤ 9223372036854775807) :
    Calls Tryd.prog 9 #[.string s] w (fun e w' => e = .returned (.bool true) ∧ Below w.heap.size w w') := by
  have HV := Lib.hid hv
  clear hv
  by_cases hbig : 20000 < s.size
  · have hbi : (20000 : Int) < (s.size : Int) := by omega
    go_enter Tryd.func9, Tryd.ntmps9
    go_wp2_with fail
    refine (known_any HV.out.1.1 HV.out.1.2).mono ?_
    rintro e w1 ⟨rfl, hb1⟩
    have Hb := Lib.hid hb1
    clear hb1
    go_wp2_with fail
    go_ret
    exact ⟨rfl, Hb.out⟩
  · have hbi : (s.size : Int) ≤ 20000 := by omega
    have hsz : s.size ≤ 100000 := by omega
    obtain ⟨R, hR⟩ : ∃ R, R = preadW s.data.toList := ⟨_, rfl⟩
    obtain ⟨z, hz⟩ : ∃ z : Int, z = if R.isSome then 0 else 260 := ⟨_, rfl⟩
    obtain ⟨l, hl⟩ : ∃ l, l = R.getD [] := ⟨_, rfl⟩
    have HW := Lib.hid (fun (W : World) (h : VarsX B W) => show Calls Tryd.prog 49 #[.string s] W (fun e w' => ∃ A n k, e = .returned (.tuple #[.slice A n k, .int .i64 z]) ∧ Got w' W.heap.size w'.heap.size A n k l ∧ Below W.heap.size W w') by
      refine (wread_all h hsz).mono fun e w' h => ?_
      rw [← hR] at h
      rw [hz, hl]
      exact readOut_two h)
    have HRf := Lib.hid (fun (W : World) (h : VarsX B W) => show Calls Tryd.prog 50 #[.string s] W (fun e w' => ∃ A n k, e = .returned (.tuple #[.slice A n k, .int .i64 z]) ∧ Got w' W.heap.size w'.heap.size A n k l ∧ Below W.heap.size W w') by
      refine (rread_all h hsz).mono fun e w' h => ?_
      rw [← hR] at h
      rw [hz, hl]
      exact readOut_two h)
    have hll : l.length ≤ 100000000 := by
      rw [hl]
      cases hR2 : R with
      | none => simp
      | some l2 =>
        have h1 := (chk_one.1 (pread_some (by rw [← hR, hR2] : preadW s.data.toList = some l2)).1).2
        show l2.length ≤ _
        omega
    clear hR hz hl hbig
    go_enter Tryd.func9, Tryd.ntmps9
    go_wp2_with fail
    refine (HW.out w HV.out).mono ?_
    rintro e w1 ⟨A1, n1, k1, rfl, hg1, hb1⟩
    have HV1 := Lib.hid (HV.out.next hb1)
    have G1 := Lib.hid (And.intro hg1 hb1)
    clear hg1 hb1
    go_wp2_with fail
    refine (HW.out w1 HV1.out).mono ?_
    rintro e w2 ⟨A2, n2, k2, rfl, hg2, hb2⟩
    have HV2 := Lib.hid (HV1.out.next hb2)
    have G2 := Lib.hid (And.intro hg2 hb2)
    clear hg2 hb2
    go_wp2_with fail
    refine (HRf.out w2 HV2.out).mono ?_
    rintro e w3 ⟨A3, n3, k3, rfl, hg3, hb3⟩
    have HV3 := Lib.hid (HV2.out.next hb3)
    have G3 := Lib.hid (And.intro hg3 hb3)
    clear hg3 hb3
    go_wp2_with fail
    refine (told_got ((G1.out.1.next G2.out.2).next G3.out.2) ((G2.out.1.next G3.out.2).away (Nat.le_refl _)) (G3.out.1.away G2.out.2.size) rfl rfl G2.out.1.len.1 G3.out.1.len.1 (by have := G1.out.1.len.1; omega)).mono ?_
    rintro e w4 ⟨rfl, ho⟩
    have HB4 := Lib.hid (show Below w.heap.size w w4 from (((G1.out.2.trans (G2.out.2.mono G1.out.2.size)).trans (G3.out.2.mono (Nat.le_trans G1.out.2.size G2.out.2.size)))).trans (ho.below (by have := G1.out.2.size; have := G2.out.2.size; have := G3.out.2.size; omega)))
    clear ho
    have HT4 := Lib.hid (HV.out.1.next HB4.out)
    go_wp2_with fail
    refine (known_any HT4.out.1 HT4.out.2).mono ?_
    rintro e w5 ⟨rfl, hb5⟩
    have Hb5 := Lib.hid hb5
    clear hb5
    go_wp2_with fail
    go_ret
    exact ⟨rfl, HB4.out.trans (Hb5.out.mono HB4.out.size)⟩
end Go.Proofs.YtmjnhpagoboejaaDoor

/- The theorem of the stage, plain: products, cores, powers of a cyclic word, commuting lists. -/
namespace Go.Proofs.YtmjnhpagoboejaaDoor
open Wd

theorem nz_app {a b : List Int} (ha : Nz a) (hb : Nz b) : Nz (a ++ b) := fun k hk => by
  rcases List.mem_append.1 hk with h | h
  · exact ha k h
  · exact hb k h
theorem nz_l {a b : List Int} (h : Nz (a ++ b)) : Nz a := fun k hk => h k (List.mem_append_left _ hk)
theorem nz_r {a b : List Int} (h : Nz (a ++ b)) : Nz b := fun k hk => h k (List.mem_append_right _ hk)
theorem red_l {a b : List Int} (h : Red (a ++ b)) : Red a := red_mid (a := []) (c := b) h
theorem red_r {a b : List Int} (h : Red (a ++ b)) : Red b := red_mid (a := a) (c := []) (by rw [List.append_nil]; exact h)
/-- two reduced words that share their middle -/
theorem red_glue : ∀ {a b c : List Int}, Red (a ++ b) → b ≠ [] → Red (b ++ c) → Red (a ++ (b ++ c))
  | [], _, _, _, _, h => h
  | [_], [], _, _, hb, _ => absurd rfl hb
  | [_], _ :: _, _, h, _, h3 => ⟨h.1, h.2.1, h3⟩
  | _ :: x :: r, _, _, h, hb, h3 => ⟨h.1, h.2.1, red_glue (a := x :: r) h.2.2 hb h3⟩
theorem reps_one (c : List Int) : reps 1 c = c := by simp [reps]
theorem reps_add (c : List Int) (m : Nat) : ∀ n, reps (m + n) c = reps m c ++ reps n c
  | 0 => by simp [reps]
  | n + 1 => by
    show reps (m + n) c ++ c = reps m c ++ (reps n c ++ c)
    rw [reps_add c m n, List.append_assoc]
theorem reps_mul (c : List Int) (n : Nat) : ∀ m, reps m (reps n c) = reps (m * n) c
  | 0 => by simp [reps]
  | m + 1 => by rw [reps, reps_mul c n m, ← reps_add, Nat.succ_mul]
theorem inv_nil : inv ([] : List Int) = [] := rfl
theorem inv_reps (c : List Int) : ∀ n, inv (reps n c) = reps n (inv c)
  | 0 => rfl
  | n + 1 => by rw [reps, inv_app, inv_reps c n, reps_succ]
theorem nz_reps {c : List Int} (h : Nz c) : ∀ n, Nz (reps n c)
  | 0 => fun k hk => by cases hk
  | n + 1 => nz_app (nz_reps h n) h
/-- a word that may be repeated -/
def Cyc (c : List Int) : Prop := Red (c ++ c)
theorem cyc_red {c : List Int} (h : Cyc c) : Red c := red_l h
theorem cyc_reps {c : List Int} (h : Cyc c) (h0 : c ≠ []) : ∀ n, Red (reps n c)
  | 0 => trivial
  | 1 => by rw [reps_one]; exact cyc_red h
  | n + 2 => by
    show Red ((reps n c ++ c) ++ c)
    rw [List.append_assoc]
    exact red_glue (cyc_reps h h0 (n + 1)) h0 h
theorem cyc_reps2 {c : List Int} (h : Cyc c) (h0 : c ≠ []) (n : Nat) : Cyc (reps n c) := by
  unfold Cyc
  rw [← reps_add]
  exact cyc_reps h h0 _
theorem cyc_of_reps {t : List Int} {n : Nat} (hn : 1 ≤ n) (h : Cyc (reps n t)) : Cyc t := by
  unfold Cyc at h ⊢
  rw [← reps_add, show n + n = (n + n - 2) + 2 by omega, reps_add] at h
  have h2 := red_r h
  have e : reps 2 t = t ++ t := by simp [reps]
  rwa [e] at h2
theorem cyc_parts {c : List Int} (h : Cyc c) : parts c = 0 := by
  refine parts_eq (fun i hi => by omega) ?_
  rintro ⟨h1, h2⟩
  have h3 := (red_iff.1 h).2 (c.length - 1) (by rw [List.length_append]; omega)
  rw [getD_app_right (by omega), getD_app_left (by omega), show c.length - 1 + 1 - c.length = 0 by omega] at h3
  rw [Nat.sub_zero] at h2
  exact h3 h2
theorem cyc_core {c : List Int} (h : Cyc c) : core c = c ∧ conj c = [] := by
  have h0 := cyc_parts h
  unfold core conj
  rw [h0]
  simp
theorem cyc_iff {c : List Int} (h : Red c) (h1 : c.getD 0 0 ≠ - c.getD (c.length - 1) 0) : Cyc c := by
  have hi := red_iff.1 h
  refine red_iff.2 ⟨nz_app hi.1 hi.1, fun i hl => ?_⟩
  rw [List.length_append] at hl
  rcases Nat.lt_trichotomy (i + 1) c.length with h2 | h2 | h2
  · rw [getD_app_left h2, getD_app_left (by omega)]; exact hi.2 i h2
  · rw [getD_app_right (by omega), getD_app_left (by omega), show i + 1 - c.length = 0 by omega, show i = c.length - 1 by omega]; exact h1
  · rw [getD_app_right (by omega), getD_app_right (by omega), show i + 1 - c.length = i - c.length + 1 by omega]; exact hi.2 _ (by omega)
theorem core_cyc {s : List Int} (h : Red s) (h1 : 1 ≤ s.length) : Cyc (core s) := by
  have hp := core_pos h h1
  have h2 := (core_conj (conj s) (core s) hp).1
  rw [← word_parts s] at h2
  have h3 := core_len (core s)
  rw [← h2] at h3
  have h4 := parts_le (core s)
  have h0 : parts (core s) = 0 := by omega
  have h5 := parts_end (core s)
  rw [h0, Nat.sub_zero] at h5
  rcases Nat.lt_or_ge 1 (core s).length with h6 | h6
  · exact cyc_iff (red_core h) (fun e => h5 ⟨by omega, e⟩)
  · refine cyc_iff (red_core h) (fun e => ?_)
    have h7 : (core s).length = 1 := by omega
    rw [h7] at e
    obtain ⟨k, hk⟩ := List.length_eq_one_iff.1 h7
    rw [hk] at e
    have h8 := (red_core h)
    rw [hk] at h8
    have h9 : k ≠ 0 := h8
    simp at e
    omega
/-- what is taken back in the midst is nothing -/
theorem onl_back {o j : List Int} (ho : Red o.reverse) (hj : Nz j) : onl o (inv j ++ j) = o := by
  have h := onl_short ho (nz_app (nz_inv hj) hj)
  have h2 := short_inv (nz_inv hj)
  rw [inv_inv] at h2
  rw [← h, h2, onl_nil]
theorem short_mid {a j b : List Int} (ha : Nz a) (hj : Nz j) : short (a ++ (inv j ++ j) ++ b) = short (a ++ b) := by
  rw [short_app, short_app, onl_back (red_short ha) hj, ← short_app]
theorem short_mid' {a j b : List Int} (ha : Nz a) (hj : Nz j) : short (a ++ (j ++ inv j) ++ b) = short (a ++ b) := by
  have h := short_mid (a := a) (b := b) ha (nz_inv hj)
  rwa [inv_inv] at h
end Go.Proofs.YtmjnhpagoboejaaDoor

/- The theorem of the stage, plain: lists that commute, the root of a word, words that commute. -/
namespace Go.Proofs.YtmjnhpagoboejaaDoor
open Wd

/-- lists that commute are repetitions of one -/
theorem list_comm : ∀ (n : Nat) (a b : List Int), a.length + b.length ≤ n → a ++ b = b ++ a → ∃ r i j, a = reps i r ∧ b = reps j r
  | 0, a, b, h, _ => ⟨[], 0, 0, List.eq_nil_of_length_eq_zero (by omega), List.eq_nil_of_length_eq_zero (by omega)⟩
  | n + 1, a, b, h, he => by
    rcases Nat.eq_zero_or_pos a.length with h0 | h0
    · exact ⟨b, 0, 1, List.eq_nil_of_length_eq_zero h0, (reps_one b).symm⟩
    rcases Nat.eq_zero_or_pos b.length with h1 | h1
    · exact ⟨a, 1, 0, (reps_one a).symm, List.eq_nil_of_length_eq_zero h1⟩
    rcases Nat.le_total a.length b.length with hl | hl
    · obtain ⟨d, hd⟩ : ∃ d, b = a ++ d := by
        have h2 : a <+: b := List.prefix_of_prefix_length_le ⟨b, he⟩ ⟨a, rfl⟩ hl
        obtain ⟨d, hd⟩ := h2
        exact ⟨d, hd.symm⟩
      subst hd
      rw [List.append_assoc] at he
      have he2 := List.append_cancel_left he
      rw [List.length_append] at h
      obtain ⟨r, i, j, h2, h3⟩ := list_comm n a d (by omega) he2
      exact ⟨r, i, i + j, h2, by rw [reps_add, ← h2, ← h3]⟩
    · obtain ⟨d, hd⟩ : ∃ d, a = b ++ d := by
        have h2 : b <+: a := List.prefix_of_prefix_length_le ⟨a, he.symm⟩ ⟨b, rfl⟩ hl
        obtain ⟨d, hd⟩ := h2
        exact ⟨d, hd.symm⟩
      subst hd
      rw [List.append_assoc] at he
      have he2 := List.append_cancel_left he
      rw [List.length_append] at h
      obtain ⟨r, i, j, h2, h3⟩ := list_comm n d b (by omega) he2
      exact ⟨r, j + i, j, by rw [reps_add, ← h2, ← h3], h3⟩
theorem reps_cm {r c : List Int} (h : r ++ c = c ++ r) : ∀ M, r ++ reps M c = reps M c ++ r
  | 0 => by simp [reps]
  | M + 1 => by rw [reps, ← List.append_assoc, reps_cm h M, List.append_assoc, h, List.append_assoc]
/-- what commutes with a third that is not empty commutes -/
theorem comm_trans {r t c : List Int} (hc : 1 ≤ c.length) (hr : r ++ c = c ++ r) (ht : t ++ c = c ++ t) : r ++ t = t ++ r := by
  have key : ∀ {r t : List Int}, r ++ c = c ++ r → t ++ c = c ++ t → r ++ t = (reps (r.length + t.length) c).take (r.length + t.length) := by
    intro r t hr ht
    obtain ⟨M, hM⟩ : ∃ M, M = r.length + t.length := ⟨_, rfl⟩
    have hlen : M ≤ (reps M c).length := by
      rw [reps_len]
      exact Nat.le_mul_of_pos_right _ hc
    have h1 := reps_cm hr M
    have h2 := reps_cm ht M
    have e1 : (reps M c).take t.length = t := by
      have h3 := congrArg (List.take t.length) h2
      rw [List.take_left, List.take_append_of_le_length (by omega)] at h3
      exact h3.symm
    have e2 : (r ++ reps M c).take (r.length + t.length) = r ++ t := by
      rw [List.take_length_add_append, e1]
    have h4 := congrArg (List.take M) h1
    rw [List.take_append_of_le_length hlen] at h4
    rw [hM] at h4 e2
    rw [← h4, e2]
  rw [key hr ht, key ht hr, Nat.add_comm]
/-- no repetition of a shorter one -/
def Prim (t : List Int) : Prop := 1 ≤ t.length ∧ ∀ i r, t = reps i r → i = 1
theorem prim_of_comm {t z : List Int} (ht : Prim t) (h : z ++ t = t ++ z) : ∃ k, z = reps k t := by
  obtain ⟨r, i, j, h1, h2⟩ := list_comm _ z t (Nat.le_refl _) h
  have h3 := ht.2 _ _ h2
  subst h3
  rw [reps_one] at h2
  subst h2
  exact ⟨i, h1⟩
theorem per_reps {c : List Int} (hc : 1 ≤ c.length) : c = reps (c.length / per c) (c.take (per c)) ∧ 1 ≤ per c ∧ per c ≤ c.length ∧ 1 ≤ c.length / per c ∧ (c.take (per c)).length = per c := by
  obtain ⟨⟨h1, h2⟩, _⟩ := per_spec hc
  have h3 := per_le hc
  have hk : c.length / per c * per c = c.length := Nat.div_mul_cancel (Nat.dvd_of_mod_eq_zero h1)
  refine ⟨(rep_iff _ _ c hk.symm (by omega)).1 h2, by omega, by omega, Nat.div_pos (by omega) (by omega), by rw [List.length_take]; omega⟩
theorem per_min {c r : List Int} {i : Nat} (hr : 1 ≤ r.length) (hi : 1 ≤ i) (h : c = reps i r) : per c ≤ r.length := by
  have hl : c.length = i * r.length := by rw [h, reps_len]
  have hc : 1 ≤ c.length := by rw [hl]; exact Nat.mul_pos hi hr
  obtain ⟨_, h3⟩ := per_spec hc
  rcases Nat.lt_or_ge r.length (per c) with h4 | h4
  · refine absurd ⟨?_, ?_⟩ (h3 r.length hr h4)
    · rw [hl]; exact Nat.mul_mod_left _ _
    · refine (rep_iff i r.length c hl hr).2 ?_
      obtain ⟨i', rfl⟩ : ∃ i', i = i' + 1 := ⟨i - 1, by omega⟩
      have e : c.take r.length = r := by rw [h, reps_succ, List.take_left]
      rw [e]
      exact h
  · exact h4
theorem prim_root {c : List Int} (hc : 1 ≤ c.length) : Prim (c.take (per c)) := by
  obtain ⟨h1, h2, h3, h4, h5⟩ := per_reps hc
  refine ⟨by omega, fun i r h => ?_⟩
  have hl : per c = i * r.length := by rw [← h5, h, reps_len]
  have hi : 1 ≤ i := by
    rcases Nat.eq_zero_or_pos i with h0 | h0
    · rw [h0] at hl; omega
    · exact h0
  have hr : 1 ≤ r.length := by
    rcases Nat.eq_zero_or_pos r.length with h0 | h0
    · rw [h0] at hl; omega
    · exact h0
  rw [h, reps_mul] at h1
  have h6 := per_min hr (Nat.mul_pos h4 hi) h1
  rcases Nat.lt_or_ge i 2 with h7 | h7
  · omega
  · have h8 : 2 * r.length ≤ i * r.length := Nat.mul_le_mul_right _ h7
    omega
theorem per_prim {t : List Int} {k : Nat} (ht : Prim t) (hk : 1 ≤ k) : per (reps k t) = t.length := by
  have hl : 1 ≤ (reps k t).length := by rw [reps_len]; exact Nat.mul_pos hk ht.1
  obtain ⟨h1, h2, h3, h4, h5⟩ := per_reps hl
  have h6 := per_min ht.1 hk rfl
  obtain ⟨c, hc⟩ : ∃ c, c = reps k t := ⟨_, rfl⟩
  rw [← hc] at h1 h2 h3 h4 h5 h6 hl ⊢
  obtain ⟨q, hq⟩ : ∃ q, q = c.take (per c) := ⟨_, rfl⟩
  rw [← hq] at h1 h5
  have e1 : q ++ c = c ++ q := by rw [h1]; exact (reps_comm q _).symm
  have e2 : t ++ c = c ++ t := by rw [hc]; exact (reps_comm t _).symm
  obtain ⟨i, hi⟩ := prim_of_comm ht (comm_trans hl e1 e2)
  have h7 : per c = i * t.length := by rw [← h5, hi, reps_len]
  have h8 : 1 ≤ i := by
    rcases Nat.eq_zero_or_pos i with h0 | h0
    · rw [h0] at h7; omega
    · exact h0
  have h9 : 1 * t.length ≤ i * t.length := Nat.mul_le_mul_right _ h8
  omega
theorem prim_inv {t : List Int} (h : Prim t) : Prim (inv t) := by
  refine ⟨by rw [inv_len]; exact h.1, fun i r he => h.2 i (inv r) ?_⟩
  rw [← inv_reps, ← he, inv_inv]
theorem cyc_inv {t : List Int} (h : Cyc t) : Cyc (inv t) := by
  unfold Cyc at h ⊢
  rw [← inv_app]
  exact red_inv h
/-- a power written out -/
def P3 (j t : List Int) (k : Nat) : List Int := inv j ++ reps k t ++ j
theorem p3_parts {j t : List Int} {k : Nat} (hc : Cyc t) (h1 : 1 ≤ t.length) (hk : 1 ≤ k) : core (P3 j t k) = reps k t ∧ conj (P3 j t k) = j := by
  have hl : 1 ≤ (reps k t).length := by rw [reps_len]; exact Nat.mul_pos hk h1
  have h0 : t ≠ [] := fun e => by rw [e] at h1; exact absurd h1 (by decide)
  have h2 := core_conj j (reps k t) hl
  have h3 := cyc_core (cyc_reps2 hc h0 k)
  unfold P3
  rw [h2.1, h2.2, h3.1, h3.2]
  exact ⟨rfl, rfl⟩
theorem p3_root {j t : List Int} {k : Nat} (hc : Cyc t) (hp : Prim t) (hk : 1 ≤ k) : rootS (P3 j t k) = P3 j t 1 := by
  obtain ⟨h1, h2⟩ := p3_parts (j := j) hc hp.1 hk
  unfold rootS
  rw [h1, h2, per_prim hp hk]
  obtain ⟨k', rfl⟩ : ∃ k', k = k' + 1 := ⟨k - 1, by omega⟩
  rw [reps_succ, List.take_left]
  unfold P3
  rw [reps_one]
theorem p3_red {j t : List Int} {n k : Nat} (h : Red (P3 j t n)) (hc : Cyc t) (h1 : 1 ≤ t.length) (hn : 1 ≤ n) (hk : 1 ≤ k) : Red (P3 j t k) := by
  have h0 : t ≠ [] := fun e => by rw [e] at h1; exact absurd h1 (by decide)
  unfold P3 at h ⊢
  obtain ⟨n', rfl⟩ : ∃ n', n = n' + 1 := ⟨n - 1, by omega⟩
  have ha : Red (inv j ++ t) := by
    have h2 := red_l h
    rw [reps_succ, ← List.append_assoc] at h2
    exact red_l h2
  have hb : Red (t ++ j) := by
    rw [List.append_assoc] at h
    have h2 := red_r h
    rw [show reps (n' + 1) t = reps n' t ++ t from rfl, List.append_assoc] at h2
    exact red_r h2
  obtain ⟨k', rfl⟩ : ∃ k', k = k' + 1 := ⟨k - 1, by omega⟩
  have hr := cyc_reps hc h0 (k' + 1)
  have hd : Red (reps (k' + 1) t ++ j) := by
    show Red ((reps k' t ++ t) ++ j)
    rw [List.append_assoc]
    exact red_glue hr h0 hb
  rw [List.append_assoc]
  rw [reps_succ] at hd hr ⊢
  rw [List.append_assoc] at hd ⊢
  exact red_glue ha h0 hd
/-- what a reduced word is, by its root -/
theorem word_p3 {s : List Int} (hs : Red s) (h1 : 1 ≤ s.length) : ∃ t n, t = (core s).take (per (core s)) ∧ n = (core s).length / per (core s) ∧ s = P3 (conj s) t n ∧ 1 ≤ n ∧ Cyc t ∧ Prim t ∧ rootS s = P3 (conj s) t 1 := by
  have hcp := core_pos hs h1
  obtain ⟨e, h2, h3, h4, h5⟩ := per_reps hcp
  have hcy := core_cyc hs h1
  refine ⟨_, _, rfl, rfl, ?_, h4, ?_, prim_root hcp, ?_⟩
  · unfold P3
    rw [← e]
    exact word_parts s
  · rw [e] at hcy
    exact cyc_of_reps h4 hcy
  · unfold P3 rootS
    rw [reps_one]
end Go.Proofs.YtmjnhpagoboejaaDoor

/- The theorem of the stage, plain: words that commute have one root, up to the inverse. -/
namespace Go.Proofs.YtmjnhpagoboejaaDoor
open Wd

theorem act_len_le (s w : List Int) : (act s w).length ≤ s.length + w.length := by
  have h := onl_len_le w s.reverse
  unfold onl at h
  rw [List.reverse_reverse, List.length_reverse, List.length_reverse] at h
  exact h
theorem act_full : ∀ (w s : List Int), (act s w).length = s.length + w.length → act s w = w.reverse ++ s
  | [], s, _ => rfl
  | k :: w, [], h => by
    rw [act_cons] at h ⊢
    have e : pushr [] k = [k] := rfl
    rw [e] at h ⊢
    rw [act_full w [k] (by rw [h]; simp; omega)]
    simp
  | k :: w, x :: r, h => by
    rw [act_cons] at h ⊢
    by_cases hx : x = -k
    · have e : pushr (x :: r) k = r := if_pos hx
      rw [e] at h
      have := act_len_le r w
      rw [h] at this
      simp at this
      omega
    · have e : pushr (x :: r) k = k :: x :: r := if_neg hx
      rw [e] at h ⊢
      rw [act_full w _ (by rw [h]; simp; omega)]
      simp
theorem short_full {w : List Int} (h : (short w).length = w.length) : short w = w := by
  unfold short onl at h ⊢
  rw [List.length_reverse] at h
  rw [act_full w _ (by rw [h]; simp)]
  simp
/-- what is taken back where two reduced words meet -/
theorem act_meet : ∀ (r s : List Int), Red s → Red r → ∃ p q s0, r = p ++ q ∧ p.length ≤ s.length ∧ act s r = q.reverse ++ s0
  | [], s, _, _ => ⟨[], [], s, rfl, Nat.zero_le _, rfl⟩
  | k :: r, [], _, hr => ⟨[], k :: r, [], rfl, Nat.zero_le _, by
      have h := act_rev (k :: r) [] (by rw [List.append_nil]; exact red_rev' hr)
      exact h⟩
  | k :: r, x :: s, hs, hr => by
    by_cases hx : x = -k
    · have e : pushr (x :: s) k = s := if_pos hx
      obtain ⟨p, q, s0, h1, h2, h3⟩ := act_meet r s (red_tail hs) (red_tail hr)
      refine ⟨k :: p, q, s0, by rw [h1]; rfl, by simp; omega, ?_⟩
      rw [act_cons, e, h3]
    · have hk := red_head hr
      refine ⟨[], k :: r, x :: s, rfl, Nat.zero_le _, ?_⟩
      refine act_rev (k :: r) (x :: s) ?_
      have h1 := red_rev' hr
      rw [List.reverse_cons] at h1 ⊢
      have h2 : Red ([k] ++ (x :: s)) := ⟨hk, hx, hs⟩
      rw [List.append_assoc]
      exact red_glue h1 (by simp) h2
theorem meet {y r : List Int} (hy : Red y) (hr : Red r) : ∃ p q y1, r = p ++ q ∧ p.length ≤ y.length ∧ short (y ++ r) = y1 ++ q := by
  obtain ⟨p, q, s0, h1, h2, h3⟩ := act_meet r y.reverse (red_rev' hy) hr
  refine ⟨p, q, s0.reverse, h1, by rw [List.length_reverse] at h2; exact h2, ?_⟩
  rw [short_app, short_id hy]
  unfold onl
  rw [h3, List.reverse_append, List.reverse_reverse]
theorem short_cong {a b b' c : List Int} (ha : Nz a) (hb : Nz b) (hb' : Nz b') (hc : Nz c) (h : short b = short b') : short (a ++ b ++ c) = short (a ++ b' ++ c) := by
  have key : ∀ {b : List Int}, Nz b → short (a ++ b ++ c) = short (a ++ (short b ++ c)) := by
    intro b hb
    rw [List.append_assoc, ← short_right ha (nz_app hb hc), ← short_left hb, short_right ha (nz_app (nz_short hb) hc)]
  rw [key hb, key hb', h]
theorem nz_nil : Nz [] := fun k hk => by cases hk
/-- words that commute have one root, up to the inverse -/
theorem comm_roots {s t : List Int} (hs : Red s) (ht : Red t) (hs1 : 1 ≤ s.length) (ht1 : 1 ≤ t.length) (h : short (s ++ t) = short (t ++ s)) : rootS t = rootS s ∨ rootS t = inv (rootS s) := by
  obtain ⟨r, n, hr, hn, hsp, hn1, hcr, hpr, hroot⟩ := word_p3 hs hs1
  obtain ⟨j, hj⟩ : ∃ j, j = conj s := ⟨_, rfl⟩
  rw [← hj] at hsp hroot
  clear hr hn hj
  have nzs := red_nz hs
  have nzt := red_nz ht
  have nzr := red_nz (cyc_red hcr)
  have nzj : Nz j := by
    have h2 := nzs
    rw [hsp] at h2
    exact nz_r h2
  have nzi := nz_inv nzj
  obtain ⟨c, hc⟩ : ∃ c, c = reps n r := ⟨_, rfl⟩
  have r0 : r ≠ [] := fun e => by have := hpr.1; rw [e] at this; exact absurd this (by decide)
  have hcc : Cyc c := by rw [hc]; exact cyc_reps2 hcr r0 n
  have c1 : 1 ≤ c.length := by rw [hc, reps_len]; exact Nat.mul_pos hn1 hpr.1
  have c0 : c ≠ [] := fun e => by rw [e] at c1; exact absurd c1 (by decide)
  have nzc : Nz c := red_nz (cyc_red hcc)
  have hs3 : s = inv j ++ c ++ j := by rw [hsp, hc]; rfl
  obtain ⟨y, hy⟩ : ∃ y, y = short (j ++ t ++ inv j) := ⟨_, rfl⟩
  have nzx : Nz (j ++ t ++ inv j) := nz_app (nz_app nzj nzt) nzi
  have ry : Red y := by rw [hy]; exact red_short' nzx
  have nzy := red_nz ry
  have hty : t = short (inv j ++ y ++ j) := by
    have e1 : short (inv j ++ y ++ j) = short (inv j ++ (j ++ t ++ inv j) ++ j) := short_cong nzi nzy nzx nzj (by rw [hy, short_short nzx])
    have e2 : inv j ++ (j ++ t ++ inv j) ++ j = [] ++ (inv j ++ j) ++ (t ++ (inv j ++ j) ++ []) := by simp
    rw [e1, e2, short_mid nz_nil nzj, List.nil_append, short_mid nzt nzj, List.append_nil, short_id ht]
  have y0 : y ≠ [] := by
    rintro rfl
    rw [List.append_nil] at hty
    have e := short_inv nzi
    rw [inv_inv] at e
    rw [e] at hty
    rw [hty] at ht1
    exact absurd ht1 (by decide)
  have hcy : short (c ++ y) = short (y ++ c) := by
    have e1 : short (c ++ y) = short (c ++ (j ++ t ++ inv j)) := by rw [hy, short_right nzc nzx]
    have e2 : short (y ++ c) = short ((j ++ t ++ inv j) ++ c) := by rw [hy, short_left nzx]
    have e3 := short_cong nzj (nz_app nzs nzt) (nz_app nzt nzs) nzi h
    have e4 : short (j ++ (s ++ t) ++ inv j) = short (c ++ (j ++ t ++ inv j)) := by
      have e5 : j ++ (s ++ t) ++ inv j = [] ++ (j ++ inv j) ++ (c ++ (j ++ t ++ inv j)) := by rw [hs3]; simp
      rw [e5, short_mid' nz_nil nzj, List.nil_append]
    have e6 : short (j ++ (t ++ s) ++ inv j) = short ((j ++ t ++ inv j) ++ c) := by
      have e5 : j ++ (t ++ s) ++ inv j = ((j ++ t ++ inv j) ++ c) ++ (j ++ inv j) ++ [] := by rw [hs3]; simp
      rw [e5, short_mid' (nz_app nzx nzc) nzj, List.append_nil]
    rw [e1, e2, ← e4, e3, e6]
  -- far enough
  obtain ⟨R, hR⟩ : ∃ R, R = reps (y.length + 1) c := ⟨_, rfl⟩
  have rR : Red R := by rw [hR]; exact cyc_reps hcc c0 _
  have nzR := red_nz rR
  obtain ⟨z, hz⟩ : ∃ z, z = short (y ++ R) := ⟨_, rfl⟩
  have rz : Red z := by rw [hz]; exact red_short' (nz_app nzy nzR)
  obtain ⟨z', hz'⟩ : ∃ z', z = z' ++ c := by
    obtain ⟨p, q, y1, h1, h2, h3⟩ := meet ry rR
    have e : p ++ q = reps y.length c ++ c := by rw [← h1, hR]; rfl
    have hl : y.length ≤ (reps y.length c).length := by rw [reps_len]; exact Nat.le_mul_of_pos_right _ c1
    obtain ⟨d, hd⟩ : p <+: reps y.length c := List.prefix_of_prefix_length_le ⟨q, e⟩ ⟨c, rfl⟩ (by omega)
    rw [← hd, List.append_assoc] at e
    have e2 := List.append_cancel_left e
    exact ⟨y1 ++ d, by rw [hz, h3, e2, List.append_assoc]⟩
  have hzc : short (z ++ c) = z ++ c := by
    have h2 := rz
    rw [hz'] at h2 ⊢
    rw [List.append_assoc]
    exact short_id (red_glue h2 c0 hcc)
  have hcz : short (c ++ z) = z ++ c := by
    have e1 : short (c ++ z) = short (c ++ (y ++ R)) := by rw [hz, short_right nzc (nz_app nzy nzR)]
    have e2 : short (z ++ c) = short ((y ++ R) ++ c) := by rw [hz, short_left (nz_app nzy nzR)]
    have e3 := short_cong nz_nil (nz_app nzc nzy) (nz_app nzy nzc) nzR hcy
    have e4 : R ++ c = c ++ R := by rw [hR]; exact reps_comm c _
    rw [List.nil_append, List.nil_append] at e3
    rw [← hzc, e1, e2, ← List.append_assoc, e3, List.append_assoc, List.append_assoc, e4]
  have hl : c ++ z = z ++ c := by
    have e := short_full (w := c ++ z) (by rw [hcz, List.length_append, List.length_append]; omega)
    rw [← e, hcz]
  have hrc : r ++ c = c ++ r := by rw [hc]; exact (reps_comm r n).symm
  obtain ⟨b, hb⟩ := prim_of_comm hpr (comm_trans c1 hl.symm hrc)
  have hRr : R = reps ((y.length + 1) * n) r := by rw [hR, hc, reps_mul]
  obtain ⟨M, hM⟩ : ∃ M, M = (y.length + 1) * n := ⟨_, rfl⟩
  rw [← hM] at hRr
  have hyz : y = short (z ++ inv R) := by
    have e : short (z ++ inv R) = short (y ++ (R ++ inv R) ++ []) := by
      rw [hz, short_left (nz_app nzy nzR), List.append_nil, List.append_assoc]
    rw [e, short_mid' nzy nzR, List.append_nil, short_id ry]
  have hk : (∃ k, 1 ≤ k ∧ y = reps k r) ∨ ∃ k, 1 ≤ k ∧ y = inv (reps k r) := by
    rcases Nat.le_total M b with hMb | hMb
    · left
      have e : z ++ inv R = reps (b - M) r ++ (R ++ inv R) ++ [] := by
        rw [List.append_nil, ← List.append_assoc, hRr, ← reps_add, show b - M + M = b by omega, ← hb]
      rw [e, short_mid' (nz_reps nzr _) nzR, List.append_nil, short_id (cyc_reps hcr r0 _)] at hyz
      refine ⟨b - M, ?_, hyz⟩
      rcases Nat.eq_zero_or_pos (b - M) with h0 | h0
      · rw [h0] at hyz; exact absurd hyz y0
      · exact h0
    · right
      have e : z ++ inv R = [] ++ (reps b r ++ inv (reps b r)) ++ inv (reps (M - b) r) := by
        rw [List.nil_append, hRr, show M = (M - b) + b by omega, reps_add, inv_app, show M - b + b - b = M - b by omega, hb, List.append_assoc]
      rw [e, short_mid' nz_nil (nz_reps nzr _), List.nil_append, short_id (red_inv (cyc_reps hcr r0 _))] at hyz
      refine ⟨M - b, ?_, hyz⟩
      rcases Nat.eq_zero_or_pos (M - b) with h0 | h0
      · rw [h0] at hyz; exact absurd hyz y0
      · exact h0
  rw [hsp] at hs
  rcases hk with ⟨k, hk1, hk⟩ | ⟨k, hk1, hk⟩
  · left
    have hp := p3_red hs hcr hpr.1 hn1 hk1
    have e : t = P3 j r k := by rw [hty, hk]; exact short_id hp
    rw [e, p3_root hcr hpr hk1, hroot]
  · right
    have hp := red_inv (p3_red hs hcr hpr.1 hn1 hk1)
    have e2 : ∀ k, inv (P3 j r k) = P3 j (inv r) k := by
      intro k
      unfold P3
      rw [inv_app, inv_app, inv_inv, inv_reps, List.append_assoc]
    have e : t = P3 j (inv r) k := by
      rw [e2] at hp
      rw [hty, hk, inv_reps]
      exact short_id hp
    rw [e, p3_root (cyc_inv hcr) (prim_inv hpr) hk1, hroot, e2]
theorem comm_inv {A B : List Int} (ha : Nz A) (hb : Nz B) (h : A ++ B = B ++ A) : short (A ++ inv B) = short (inv B ++ A) := by
  have e1 := short_mid' (a := inv B ++ A) (b := []) (nz_app (nz_inv hb) ha) hb
  have e2 := short_mid (a := []) (b := A ++ inv B) nz_nil hb
  rw [List.append_nil, List.append_nil] at e1
  rw [List.nil_append, List.nil_append] at e2
  rw [← e1, ← e2]
  congr 1
  rw [List.append_assoc, List.append_assoc, ← List.append_assoc A, h]
  simp
theorem p3_mul {j A B : List Int} (hj : Nz j) (ha : Nz A) : short ((inv j ++ A ++ j) ++ (inv j ++ B ++ j)) = short (inv j ++ (A ++ B) ++ j) := by
  have e := short_mid' (a := inv j ++ A) (b := B ++ j) (nz_app (nz_inv hj) ha) hj
  rw [show (inv j ++ A ++ j) ++ (inv j ++ B ++ j) = inv j ++ A ++ (j ++ inv j) ++ (B ++ j) by simp, e]
  congr 1
  simp
theorem roots_comm {s t : List Int} (hs : Red s) (ht : Red t) (hs1 : 1 ≤ s.length) (ht1 : 1 ≤ t.length) (h : rootS t = rootS s ∨ rootS t = inv (rootS s)) : short (s ++ t) = short (t ++ s) := by
  obtain ⟨r, n, _, _, hsp, hn1, hcr, hpr, hroot⟩ := word_p3 hs hs1
  obtain ⟨r', n', _, _, htp, hn1', hcr', hpr', hroot'⟩ := word_p3 ht ht1
  obtain ⟨j, hj⟩ : ∃ j, j = conj s := ⟨_, rfl⟩
  obtain ⟨j', hj'⟩ : ∃ j, j = conj t := ⟨_, rfl⟩
  rw [← hj] at hsp hroot
  rw [← hj'] at htp hroot'
  have nzr := red_nz (cyc_red hcr)
  have nzj : Nz j := by
    have h2 := red_nz hs
    rw [hsp] at h2
    exact nz_r h2
  have h1 := p3_parts (j := j) hcr hpr.1 (Nat.le_refl 1)
  have h1' := p3_parts (j := j') hcr' hpr'.1 (Nat.le_refl 1)
  have e2 : inv (P3 j r 1) = P3 j (inv r) 1 := by
    unfold P3
    rw [inv_app, inv_app, inv_inv, inv_reps, List.append_assoc]
  have h2 := p3_parts (j := j) (cyc_inv hcr) (by rw [inv_len]; exact hpr.1) (Nat.le_refl 1)
  rw [hroot, hroot', e2] at h
  rw [reps_one] at h1 h1' h2
  rw [hsp, htp]
  unfold P3
  rcases h with h | h
  · rw [h] at h1'
    have ej : j' = j := by rw [← h1'.2, h1.2]
    have er : r' = r := by rw [← h1'.1, h1.1]
    subst ej er
    rw [p3_mul nzj (nz_reps nzr _), p3_mul nzj (nz_reps nzr _), ← reps_add, ← reps_add, Nat.add_comm]
  · rw [h] at h1'
    have ej : j' = j := by rw [← h1'.2, h2.2]
    have er : r' = inv r := by rw [← h1'.1, h2.1]
    subst ej er
    have nzA := nz_reps nzr n
    have nzB := nz_reps nzr n'
    have hAB : reps n r ++ reps n' r = reps n' r ++ reps n r := by rw [← reps_add, ← reps_add, Nat.add_comm]
    rw [← inv_reps, p3_mul nzj nzA, p3_mul nzj (nz_inv nzB)]
    exact short_cong (nz_inv nzj) (nz_app nzA (nz_inv nzB)) (nz_app (nz_inv nzB) nzA) nzj (comm_inv nzA nzB hAB)
/-- the root of a root -/
theorem root_root {s : List Int} (hs : Red s) (h1 : 1 ≤ s.length) : Red (rootS s) ∧ 1 ≤ (core (rootS s)).length ∧ rootS (rootS s) = rootS s ∧ (core (rootS s)).length / per (core (rootS s)) = 1 ∧ 1 ≤ (core s).length / per (core s) ∧ inv (conj (rootS s)) ++ reps ((core s).length / per (core s)) (core (rootS s)) ++ conj (rootS s) = s ∧ (rootS s).length ≤ s.length := by
  obtain ⟨r, n, _, hn, hsp, hn1, hcr, hpr, hroot⟩ := word_p3 hs h1
  obtain ⟨j, hj⟩ : ∃ j, j = conj s := ⟨_, rfl⟩
  rw [← hj] at hsp hroot
  have h2 := p3_parts (j := j) hcr hpr.1 (Nat.le_refl 1)
  rw [reps_one] at h2
  have h3 := hs
  rw [hsp] at h3
  have hp := per_prim hpr (Nat.le_refl 1)
  rw [reps_one] at hp
  rw [hroot, h2.1, h2.2, hp, ← hn]
  refine ⟨p3_red h3 hcr hpr.1 hn1 (Nat.le_refl 1), hpr.1, p3_root hcr hpr (Nat.le_refl 1), Nat.div_self hpr.1, hn1, hsp.symm, ?_⟩
  rw [hsp]
  unfold P3
  have h4 : 1 * r.length ≤ n * r.length := Nat.mul_le_mul_right _ hn1
  simp only [List.length_append, reps_len, inv_len]
  omega
end Go.Proofs.YtmjnhpagoboejaaDoor

/- ref.all, ended, Mul. -/
namespace Go.Proofs.YtmjnhpagoboejaaDoor
open Go.RowKit
open Wd
set_option linter.unusedSimpArgs false
set_option linter.unusedVariables false

theorem chk_val2 (l : List Int) : chk [l] = if isWord l then (if tooLong l then 3 else 0) else 2 := by
  unfold chk
  simp
set_option maxRecDepth 100000 in
set_option maxHeartbeats 2000000 in
theorem rall_any {w : World} {B n c : Nat} {A : Option Addr} {rs : List SRow} (hr : ReadsL w B A rs) (hn : n = rs.length) (hnl : n ≤ 1000000000000) (hw : ∀ r ∈ rs, Wf r.2.2 ∧ r.2.2.length ≤ 1000000000000) :
    Calls Tryd.prog 66 #[.slice A n c] w (fun e w' => e = .returned (.int .i64 (chk (rs.map (fun r => r.2.2)))) ∧ w = w') := by
  have Hn := Lib.hid hn
  have Hw := Lib.hid hw
  have Hc := Lib.hid (show chk (rs.map (fun r => r.2.2)) = if (rs.map (fun r => r.2.2)).all isWord then (if (rs.map (fun r => r.2.2)).any tooLong then 3 else 0) else 2 from rfl)
  generalize chk (rs.map (fun r => r.2.2)) = z at *
  have Hr := Lib.hid hr
  clear hn hw hr
  go_enter Tryd.func66, Tryd.ntmps66
  go_wp2_with fail
  go_loopg [3, 4] n (fun k ev iv wr => ∃ (i : Nat) (x : Int), ev = .int .i64 x ∧ iv = .int .i64 (i : Int) ∧ k = n - i ∧ i ≤ n ∧ w = wr ∧ Hid ((rs.take i).all (fun r => isWord r.2.2) = true) ∧ Hid (x = if (rs.take i).any (fun r => tooLong r.2.2) then 3 else 0))
  case atStart => exact ⟨0, 0, rfl, rfl, by omega, by omega, rfl, Lib.hid (by rw [List.take_zero]; rfl), Lib.hid (by rw [List.take_zero]; rfl)⟩
  case round =>
    obtain ⟨i, x, rfl, rfl, hk, hi, rfl, ht, hx⟩ := hrel
    have Hk := Lib.hid hk
    clear hk
    by_cases hin : i < n
    · have hil : i < rs.length := by rw [← Hn.out]; exact hin
      obtain ⟨ad, rfl, hb1, c0⟩ := Hr.out.at_ hil
      have hmem := List.getElem_mem hil
      have hlen := (Hw.out rs[i] hmem).2
      have hC := rcheck_any (c := rs[i].2.1) (Hr.out.2 rs[i] hmem) rfl (Nat.le_trans hlen (by decide)) (Hw.out rs[i] hmem).1
      rw [chk_val2] at hC
      have Hst := Lib.hid (all_step hil ht.out)
      have Han := Lib.hid (any_step hil)
      have Hno := Lib.hid (all_no hil)
      obtain ⟨b, hbb⟩ : ∃ b, b = isWord rs[i].2.2 := ⟨_, rfl⟩
      rw [← hbb] at Hst Hno hC
      obtain ⟨t, htl⟩ : ∃ t, t = tooLong rs[i].2.2 := ⟨_, rfl⟩
      rw [← htl] at Han hC
      have hii : (i : Int) < (n : Int) := by omega
      clear hbb htl hmem hb1
      generalize rs[i].2.2.length = m at *
      generalize rs[i].1 = a1 at *
      generalize rs[i].2.1 = c1 at *
      clear hil
      cases b
      · have HC := Lib.hid (show Calls Tryd.prog 14 #[.slice a1 m c1] w (fun e w' => e = .returned (.int .i64 2) ∧ w = w') from hC)
        clear hC
        go_wp2_with fail
        refine HC.out.mono ?_
        rintro e w' ⟨rfl, rfl⟩
        go_wp2_with fail
        go_ret
        exact ⟨by rw [Hc.out, Hno.out (by trivial)]; rfl, rfl⟩
      · cases t
        · have HC := Lib.hid (show Calls Tryd.prog 14 #[.slice a1 m c1] w (fun e w' => e = .returned (.int .i64 0) ∧ w = w') from hC)
          clear hC
          go_wp2_with fail
          refine HC.out.mono ?_
          rintro e w' ⟨rfl, rfl⟩
          go_wp2_with fail
          go_roundg (n - (i + 1))
          case measure => have := Hk.out; omega
          case rel => exact ⟨i + 1, x, rfl, rfl, rfl, by omega, rfl, Lib.hid (Hst.out (by trivial)), Lib.hid (by rw [Han.out, Bool.or_false]; exact hx.out)⟩
        · have HC := Lib.hid (show Calls Tryd.prog 14 #[.slice a1 m c1] w (fun e w' => e = .returned (.int .i64 3) ∧ w = w') from hC)
          clear hC
          go_wp2_with fail
          refine HC.out.mono ?_
          rintro e w' ⟨rfl, rfl⟩
          go_wp2_with fail
          go_roundg (n - (i + 1))
          case measure => have := Hk.out; omega
          case rel => exact ⟨i + 1, 3, rfl, rfl, rfl, by omega, rfl, Lib.hid (Hst.out (by trivial)), Lib.hid (by rw [Han.out, Bool.or_true]; rfl)⟩
    · have hii : (n : Int) ≤ (i : Int) := by omega
      have hend : z = x := by
        have h1 := ht.out
        have h2 := hx.out
        rw [List.take_of_length_le (by have := Hn.out; omega)] at h1 h2
        have h3 : (rs.map (fun r => r.2.2)).all isWord = true := by rw [List.all_map]; exact h1
        have h4 : (rs.map (fun r => r.2.2)).any tooLong = rs.any (fun r => tooLong r.2.2) := by rw [List.any_map]; rfl
        rw [Hc.out, h3, h4, h2]
        rfl
      subst hend
      go_wp2_with fail
      go_ret
      exact ⟨rfl, rfl⟩
set_option maxRecDepth 100000 in
theorem rended_ok {w : World} {A : Option Addr} {n c : Nat} (h : n ≤ 4096) :
    Calls Tryd.prog 67 #[.slice A n c] w (fun e w' => e = .returned (.tuple #[.slice A n c, .int .i64 0]) ∧ w = w') := by
  have h1 : (n : Int) ≤ 4096 := by omega
  go_enter Tryd.func67, Tryd.ntmps67
  go_wp2
  go_ret2
  exact ⟨rfl, rfl⟩
set_option maxRecDepth 100000 in
theorem rended_long {w : World} {A : Option Addr} {n c : Nat} (h : 4096 < n) :
    Calls Tryd.prog 67 #[.slice A n c] w (fun e w' => e = .returned (.tuple #[.slice none 0 0, .int .i64 3]) ∧ w = w') := by
  have h1 : (4096 : Int) < (n : Int) := by omega
  go_enter Tryd.func67, Tryd.ntmps67
  go_wp2
  go_ret2
  exact ⟨rfl, rfl⟩
/-- a row that was made, and refused where it is too long -/
def EndOut (w0 w : World) (L : List Int) (e : Ending) (w' : World) : Prop := ∃ A n k, e = .returned (.tuple #[.slice A n k, .int .i64 (ended L).2]) ∧ Got w' w0.heap.size w'.heap.size A n k (ended L).1 ∧ w = w'
theorem rended_any {w0 w : World} {A : Option Addr} {n c : Nat} {L : List Int} (ho : OwnI w w0.heap.size (.slice A n c) L) (hb : w0.heap.size ≤ w.heap.size) : Calls Tryd.prog 67 #[.slice A n c] w (EndOut w0 w L) := by
  have hl := ho.len.1
  unfold EndOut
  by_cases h : L.length ≤ 4096
  · unfold ended
    rw [if_pos h]
    exact (rended_ok (by omega)).mono fun e w' ⟨he, hw⟩ => by subst hw; exact ⟨A, n, c, he, Got.of_own ho hb, rfl⟩
  · unfold ended
    rw [if_neg h]
    exact (rended_long (by omega)).mono fun e w' ⟨he, hw⟩ => by subst hw; exact ⟨none, 0, 0, he, Got.none_ hb (Nat.le_refl _), rfl⟩
theorem flat_flatten (rs : List SRow) : flat rs = (rs.map (fun r => r.2.2)).flatten := by
  unfold flat
  rw [List.flatMap_def]
theorem chk_words {ls : List (List Int)} (h : chk ls = 0) : ∀ l ∈ ls, LetL l ∧ l.length ≤ 4096 := by
  unfold chk at h
  intro l hl
  by_cases h1 : ls.all isWord = true
  · rw [if_pos h1] at h
    by_cases h2 : ls.any tooLong = true
    · rw [if_pos h2] at h; cases h
    · refine ⟨word_let (List.all_eq_true.1 h1 l hl), ?_⟩
      have h3 : ¬ tooLong l = true := fun h4 => h2 (List.any_eq_true.2 ⟨l, hl, h4⟩)
      unfold tooLong at h3
      simpa using h3
  · rw [if_neg h1] at h; cases h
theorem letl_flat {ls : List (List Int)} (h : ∀ l ∈ ls, LetL l) : LetL ls.flatten := fun k hk => by
  obtain ⟨l, hl, hk⟩ := List.mem_flatten.1 hk
  exact h l hl k hk
set_option maxRecDepth 100000 in
theorem rmul_out {w : World} {B n c : Nat} {A : Option Addr} {rs : List SRow} (hr : ReadsL w B A rs) (hB : B ≤ w.heap.size) (hn : n = rs.length) (hnl : (flat rs).length ≤ 50000000) (hnn : n ≤ 1000000000) (hw : ∀ r ∈ rs, Wf r.2.2 ∧ r.2.2.length ≤ 1000000000000) :
    Calls Tryd.prog 31 #[.slice A n c] w (ResOut w (mulR (rs.map (fun r => r.2.2)))) := by
  have HA := Lib.hid (rall_any (c := c) hr hn (by omega) hw)
  rw [flat_flatten] at hnl
  unfold mulR
  by_cases hz : chk (rs.map (fun r => r.2.2)) = 0
  · rw [hz] at HA
    rw [if_pos hz]
    have hlet := letl_flat (fun l hl => (chk_words hz l hl).1)
    have HJ := Lib.hid (rjoined_any (c := c) hr hB hn hnn (by omega))
    generalize (rs.map (fun r => r.2.2)).flatten = L at *
    have HL := Lib.hid (And.intro hlet hnl)
    clear hr hB hn hnl hnn hw hz hlet
    go_enter Tryd.func31, Tryd.ntmps31
    go_wp2_with fail
    refine HA.out.mono ?_
    rintro e w' ⟨rfl, rfl⟩
    go_wp2_with fail
    refine HJ.out.mono ?_
    rintro e w2 ⟨A2, n2, c2, rfl, ho2, hb2⟩
    have H2 := Lib.hid (And.intro ho2 hb2)
    clear ho2 hb2
    go_wp2_with fail
    refine (rshort_any (c := c2) H2.out.1.reads (Nat.le_refl _) H2.out.1.len.1 HL.out.1 (by have := H2.out.1.len.1; have := HL.out.2; omega)).mono ?_
    rintro e w3 ⟨A3, n3, c3, rfl, ho3, hb3⟩
    have hs2 := H2.out.2.size
    have H3 := Lib.hid (And.intro (ho3.lower hs2) (H2.out.2.trans (hb3.mono hs2)))
    clear ho3 hb3
    go_wp2_with fail
    refine (rended_any H3.out.1 H3.out.2.size).mono ?_
    rintro e w4 ⟨A4, n4, k4, rfl, hg4, rfl⟩
    have H4 := Lib.hid hg4
    clear hg4
    go_wp2_with fail
    go_ret2
    exact ⟨A4, n4, k4, rfl, H4.out, H3.out.2⟩
  · rw [if_neg hz]
    generalize chk (rs.map (fun r => r.2.2)) = z at *
    have hzb : (z != 0) = true := by simp; exact hz
    clear hr hB hn hnl hnn hw hz
    go_enter Tryd.func31, Tryd.ntmps31
    go_wp2_with fail
    refine HA.out.mono ?_
    rintro e w' ⟨rfl, rfl⟩
    go_wp2_with fail
    go_ret2
    exact resOut_nil (Below.refl _ _)
end Go.Proofs.YtmjnhpagoboejaaDoor
