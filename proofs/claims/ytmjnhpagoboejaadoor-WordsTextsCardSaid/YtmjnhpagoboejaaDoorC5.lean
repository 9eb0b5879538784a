import Derived.Test.YtmjnhpagoboejaaDoorC3
import Derived.Test.YtmjnhpagoboejaaDoorC4
import Derived.Test.YtmjnhpagoboejaaDoorC1
import Derived.BigQuiet
import Derived.Stop.LaidErr
import Derived.Shelf.Vars
import Derived.ChangeMaps5
/- law.WordsShort (printed by gen_short.py). -/
namespace Go.Proofs.YtmjnhpagoboejaaDoor
open Go.RowKit
open Wd
set_option linter.unusedSimpArgs false
set_option linter.unusedVariables false

theorem same_below {w : World} {B B' n n' c c' : Nat} {A A' : Option Addr} {l : List Int} (hr : ReadsI w B A l) (hr' : ReadsI w B' A' l) (hn : n = l.length) (hn' : n' = l.length) (hb : n ≤ 1000000000) :
    Calls Tryd.prog 27 #[.slice A n c, .slice A' n' c'] w (fun e w' => e = .returned (.bool true) ∧ Below w.heap.size w w') := by
  refine (same_true hr hr' hn hn' hb rfl).mono ?_
  rintro e w' ⟨rfl, d, rfl⟩
  exact ⟨rfl, drewN_below w d⟩
theorem rtext_s {P : Program} {f : FuncId} {args : Array Value} {w : World} {T : ByteArray} {b : List UInt8} (hT : T = ⟨b.toArray⟩) (h : Calls P f args w (fun e w' => e = .returned (bs b) ∧ Below w.heap.size w w')) : Calls P f args w (fun e w' => e = .returned (.string T) ∧ Below w.heap.size w w') := by
  subst hT; exact h
set_option maxRecDepth 100000 in
set_option maxHeartbeats 8000000 in
theorem short_much {w : World} {B n c : Nat} {A : Option Addr} {l : List Int} (ht : TabX B w) (h : Rd w B A l) (hn : n = l.length) (hc : n ≤ c) (hcm : c ≤ 9223372036854775807) (hbig : 9000 < n) (hb : n ≤ 1000000000000000) :
    Calls Tryd.prog 3 #[.slice A n c] w (fun e w' => e = .returned (.bool true) ∧ Below w.heap.size w w') := by
  have hmu : decide ((9000 : Int) < (min n 10000 : Nat)) = true := decide_eq_true (by omega)
  have HT := Lib.hid ht
  have HR := Lib.hid h
  have Hn := Lib.hid hn
  have hBw : B ≤ w.heap.size := h.2
  clear ht h hn
  go_enter Tryd.func3, Tryd.ntmps3
  go_wp2_with fail
  refine (much_one HR.out Hn.out (by omega)).mono ?_
  rintro e w1 ⟨rfl, hb1⟩
  have S1 := Lib.hid hb1
  have z1 : w.heap.size ≤ w1.heap.size := S1.out.size
  clear hb1
  go_wp2_with fail
  refine (known_any ((HT.out).next S1.out).1 ((HT.out).next S1.out).2).mono ?_
  rintro e w2 ⟨rfl, hb2⟩
  have S2 := Lib.hid hb2
  have z2 : w1.heap.size ≤ w2.heap.size := S2.out.size
  clear hb2
  go_wp2_with fail
  go_ret
  exact ⟨rfl, S1.out.trans (S2.out.mono z1)⟩
set_option maxRecDepth 100000 in
set_option maxHeartbeats 8000000 in
theorem short_bad3 {w : World} {B n c : Nat} {A : Option Addr} {l : List Int} (ht : TabX B w) (h : Rd w B A l) (hn : n = l.length) (hc : n ≤ c) (hcm : c ≤ 9223372036854775807) (hsm : n ≤ 9000) (hw : Wf l) (hz : chk [l] ≠ 0) :
    Calls Tryd.prog 3 #[.slice A n c] w (fun e w' => e = .returned (.bool true) ∧ Below w.heap.size w w') := by
  have hmu : decide ((9000 : Int) < (min n 10000 : Nat)) = false := decide_eq_false (by omega)
  obtain ⟨z, hze⟩ : ∃ z, chk [l] = z := ⟨_, rfl⟩
  have Hze := Lib.hid hze.symm
  have Hz := Lib.hid hz
  have Hw := Lib.hid hw
  have HC := Lib.hid (fun (W : World) (hr : Rd W B A l) => show Calls Tryd.prog 14 #[.slice A n c] W (fun e w' => e = .returned (.int .i64 z) ∧ W = w') by rw [← hze]; exact rcheck_any hr.1 hn (by omega) hw)
  have HK := Lib.hid (fun (W : World) {B' c' : Nat} {A' : Option Addr} (hr : Rd W B' A' (l ++ [771])) => show Calls Tryd.prog 21 #[.slice A' n c'] W (fun e w' => e = .returned (.int .i64 z) ∧ Below W.heap.size W w') by rw [← hze]; exact wcheck_any hr.cut.1 hr.2 hn hw (by omega))
  have H_short_bad := Lib.hid (fun (W : World) {B' c' : Nat} {A' : Option Addr} (hr : Rd W B' A' (l ++ [771])) => show Calls Tryd.prog 15 #[.slice A' n c'] W (fun e w' => e = .returned (.tuple #[.slice none 0 0, .int .i64 z]) ∧ Below W.heap.size W w') by rw [← hze]; exact short_bad hr.cut.1 hr.2 hn hw (by omega) hz)
  have H_inverse_bad := Lib.hid (fun (W : World) {B' c' : Nat} {A' : Option Addr} (hr : Rd W B' A' (l ++ [771])) => show Calls Tryd.prog 16 #[.slice A' n c'] W (fun e w' => e = .returned (.tuple #[.slice none 0 0, .int .i64 z]) ∧ Below W.heap.size W w') by rw [← hze]; exact inverse_bad hr.cut.1 hr.2 hn hw (by omega) hz)
  have H_core_bad := Lib.hid (fun (W : World) {B' c' : Nat} {A' : Option Addr} (hr : Rd W B' A' (l ++ [771])) => show Calls Tryd.prog 17 #[.slice A' n c'] W (fun e w' => e = .returned (.tuple #[.slice none 0 0, .slice none 0 0, .int .i64 z]) ∧ Below W.heap.size W w') by rw [← hze]; exact core_bad hr.cut.1 hr.2 hn hw (by omega) hz)
  have H_root_bad := Lib.hid (fun (W : World) {B' c' : Nat} {A' : Option Addr} (hr : Rd W B' A' (l ++ [771])) => show Calls Tryd.prog 18 #[.slice A' n c'] W (fun e w' => e = .returned (.tuple #[.slice none 0 0, .int .i64 0, .int .i64 z]) ∧ Below W.heap.size W w') by rw [← hze]; exact root_bad hr.cut.1 hr.2 hn hw (by omega) hz)
  have H_wtext_bad := Lib.hid (fun (W : World) {B' c' : Nat} {A' : Option Addr} (hr : Rd W B' A' (l ++ [771])) => show Calls Tryd.prog 19 #[.slice A' n c'] W (fun e w' => e = .returned (.tuple #[.string ⟨#[]⟩, .int .i64 z]) ∧ Below W.heap.size W w') by rw [← hze]; exact wtext_bad hr.cut.1 hr.2 hn hw (by omega) hz)
  have hzb : (z == 0) = false := by rw [← hze]; simp; exact hz
  have hzb2 : (z != 0) = true := by rw [← hze]; simp; exact hz
  have hzz : (z == z) = true := by simp
  have hzz2 : (z != z) = false := by simp
  clear hze hz hw
  have HT := Lib.hid ht
  have HR := Lib.hid h
  have Hn := Lib.hid hn
  have hBw : B ≤ w.heap.size := h.2
  clear ht h hn
  go_enter Tryd.func3, Tryd.ntmps3
  go_wp2_with fail
  refine (much_one HR.out Hn.out (by omega)).mono ?_
  rintro e w1 ⟨rfl, hb1⟩
  have S1 := Lib.hid hb1
  have z1 : w.heap.size ≤ w1.heap.size := S1.out.size
  clear hb1
  go_wp2_with fail
  refine (lent_rd ((HR.out).next S1.out) Hn.out (by omega)).mono ?_
  rintro e w2 ⟨A2, c2, rfl, hc2, hm2, hr2, hb2⟩
  have S2 := Lib.hid hb2
  have z2 : w1.heap.size ≤ w2.heap.size := S2.out.size
  clear hb2
  have G_m := Lib.hid hr2
  clear hr2
  go_wp2_with fail
  refine (HC.out w2 (((HR.out).next S1.out).next S2.out)).mono ?_
  rintro e w' ⟨rfl, rfl⟩
  go_wp2_with fail
  refine (H_short_bad.out w2 (G_m.out)).mono ?_
  rintro e w4 ⟨rfl, hb4⟩
  have S4 := Lib.hid hb4
  have z4 : w2.heap.size ≤ w4.heap.size := S4.out.size
  clear hb4
  go_wp2_with fail
  refine (H_short_bad.out w4 ((G_m.out).next S4.out)).mono ?_
  rintro e w5 ⟨rfl, hb5⟩
  have S5 := Lib.hid hb5
  have z5 : w4.heap.size ≤ w5.heap.size := S5.out.size
  clear hb5
  go_wp2_with fail
  refine (H_inverse_bad.out w5 (((G_m.out).next S4.out).next S5.out)).mono ?_
  rintro e w6 ⟨rfl, hb6⟩
  have S6 := Lib.hid hb6
  have z6 : w5.heap.size ≤ w6.heap.size := S6.out.size
  clear hb6
  go_wp2_with fail
  refine (H_inverse_bad.out w6 ((((G_m.out).next S4.out).next S5.out).next S6.out)).mono ?_
  rintro e w7 ⟨rfl, hb7⟩
  have S7 := Lib.hid hb7
  have z7 : w6.heap.size ≤ w7.heap.size := S7.out.size
  clear hb7
  go_wp2_with fail
  refine (H_core_bad.out w7 (((((G_m.out).next S4.out).next S5.out).next S6.out).next S7.out)).mono ?_
  rintro e w8 ⟨rfl, hb8⟩
  have S8 := Lib.hid hb8
  have z8 : w7.heap.size ≤ w8.heap.size := S8.out.size
  clear hb8
  go_wp2_with fail
  refine (H_root_bad.out w8 ((((((G_m.out).next S4.out).next S5.out).next S6.out).next S7.out).next S8.out)).mono ?_
  rintro e w9 ⟨rfl, hb9⟩
  have S9 := Lib.hid hb9
  have z9 : w8.heap.size ≤ w9.heap.size := S9.out.size
  clear hb9
  go_wp2_with fail
  refine (H_wtext_bad.out w9 (((((((G_m.out).next S4.out).next S5.out).next S6.out).next S7.out).next S8.out).next S9.out)).mono ?_
  rintro e w10 ⟨rfl, hb10⟩
  have S10 := Lib.hid hb10
  have z10 : w9.heap.size ≤ w10.heap.size := S10.out.size
  clear hb10
  go_wp2_with ((go_at_call 20; refine num_any.mono ?_; rintro e w' ⟨rfl, rfl⟩))
  refine (HK.out w10 ((((((((G_m.out).next S4.out).next S5.out).next S6.out).next S7.out).next S8.out).next S9.out).next S10.out)).mono ?_
  rintro e w11 ⟨rfl, hb11⟩
  have S11 := Lib.hid hb11
  have z11 : w10.heap.size ≤ w11.heap.size := S11.out.size
  clear hb11
  go_wp2_with ((go_at_call 20; refine num_any.mono ?_; rintro e w' ⟨rfl, rfl⟩))
  refine (left_any (c' := c) (((((((((G_m.out).next S4.out).next S5.out).next S6.out).next S7.out).next S8.out).next S9.out).next S10.out).next S11.out).1 (((((((((((HR.out).next S1.out).next S2.out).next S4.out).next S5.out).next S6.out).next S7.out).next S8.out).next S9.out).next S10.out).next S11.out).1 Hn.out Hn.out hc2 (by omega)).mono ?_
  rintro e w12 ⟨rfl, hb12⟩
  have S12 := Lib.hid hb12
  have z12 : w11.heap.size ≤ w12.heap.size := S12.out.size
  clear hb12
  go_wp2_with ((go_at_call 20; refine num_any.mono ?_; rintro e w' ⟨rfl, rfl⟩))
  refine (told_got (lo := w12.heap.size) (hi := w12.heap.size) (Got.none_ (Nat.le_refl _) (Nat.le_refl _)) (awayX_none _ _ _ _) (awayX_none _ _ _ _) rfl rfl rfl rfl (by decide)).mono ?_
  rintro e w13 ⟨rfl, hb13⟩
  have S13 := Lib.hid hb13
  have z13 : w12.heap.size ≤ w13.heap.size := S13.out.size
  clear hb13
  have S13 := Lib.hid (S13.out.below (Nat.le_refl _))
  go_wp2_with ((go_at_call 20; refine num_any.mono ?_; rintro e w' ⟨rfl, rfl⟩))
  refine (told_got (lo := w13.heap.size) (hi := w13.heap.size) (Got.none_ (Nat.le_refl _) (Nat.le_refl _)) (awayX_none _ _ _ _) (awayX_none _ _ _ _) rfl rfl rfl rfl (by decide)).mono ?_
  rintro e w14 ⟨rfl, hb14⟩
  have S14 := Lib.hid hb14
  have z14 : w13.heap.size ≤ w14.heap.size := S14.out.size
  clear hb14
  have S14 := Lib.hid (S14.out.below (Nat.le_refl _))
  go_wp2_with ((go_at_call 20; refine num_any.mono ?_; rintro e w' ⟨rfl, rfl⟩))
  refine (known_any ((((((((((((((HT.out).next S1.out).next S2.out).next S4.out).next S5.out).next S6.out).next S7.out).next S8.out).next S9.out).next S10.out).next S11.out).next S12.out).next S13.out).next S14.out).1 ((((((((((((((HT.out).next S1.out).next S2.out).next S4.out).next S5.out).next S6.out).next S7.out).next S8.out).next S9.out).next S10.out).next S11.out).next S12.out).next S13.out).next S14.out).2).mono ?_
  rintro e w15 ⟨rfl, hb15⟩
  have S15 := Lib.hid hb15
  have z15 : w14.heap.size ≤ w15.heap.size := S15.out.size
  clear hb15
  have BB := Lib.hid (((((((((((((((Below.refl w.heap.size w).trans (S1.out.mono (by omega))).trans (S2.out.mono (by omega))).trans (S4.out.mono (by omega))).trans (S5.out.mono (by omega))).trans (S6.out.mono (by omega))).trans (S7.out.mono (by omega))).trans (S8.out.mono (by omega))).trans (S9.out.mono (by omega))).trans (S10.out.mono (by omega))).trans (S11.out.mono (by omega))).trans (S12.out.mono (by omega))).trans (S13.out.mono (by omega))).trans (S14.out.mono (by omega))).trans (S15.out.mono (by omega)))
  go_wp2_with fail
  go_ret
  exact ⟨rfl, BB.out⟩
set_option maxRecDepth 100000 in
set_option maxHeartbeats 8000000 in
theorem short_empty3 {w : World} {B n c : Nat} {A : Option Addr} {l : List Int} (ht : TabX B w) (h : Rd w B A l) (hn : n = l.length) (hc : n ≤ c) (hcm : c ≤ 9223372036854775807) (hsm : n ≤ 9000) (hz : chk [l] = 0) (hem : short l = []) :
    Calls Tryd.prog 3 #[.slice A n c] w (fun e w' => e = .returned (.bool true) ∧ Below w.heap.size w w') := by
  have hmu : decide ((9000 : Int) < (min n 10000 : Nat)) = false := decide_eq_false (by omega)
  obtain ⟨hw1, hlen⟩ := chk_one.1 hz
  have hl := word_let hw1
  have hw : Wf l := fun k hk => by have := hl k hk; omega
  have HL := Lib.hid hl
  have hsl := short_len_le l
  have HL2 := Lib.hid (And.intro (letl_short hl) (show (short l).length ≤ 4096 by omega))
  have hcl := core_len (short l)
  have hjl := conj_len (short l)
  have hpl := parts_le (short l)
  have hil := inv_len l
  have hn4 : n ≤ 4096 := by omega
  have hrl : (rootw l).length ≤ 20000 := by unfold rootw; rw [List.length_append, List.length_append, inv_len, List.length_take]; omega
  have Hlens := Lib.hid (show (short l).length ≤ 4096 ∧ (inv l).length ≤ 4096 ∧ (core (short l)).length ≤ 4096 ∧ (conj (short l)).length ≤ 4096 ∧ (rootw l).length ≤ 20000 by omega)
  obtain ⟨TS, hTS⟩ : ∃ TS : ByteArray, TS = ⟨(txt l).toArray⟩ := ⟨_, rfl⟩
  have HST := Lib.hid hTS
  have HC := Lib.hid (fun (W : World) (hr : Rd W B A l) => show Calls Tryd.prog 14 #[.slice A n c] W (fun e w' => e = .returned (.int .i64 0) ∧ W = w') by rw [← hz]; exact rcheck_any hr.1 hn (by omega) hw)
  have HK := Lib.hid (fun (W : World) {B' c' : Nat} {A' : Option Addr} (hr : Rd W B' A' (l ++ [771])) => show Calls Tryd.prog 21 #[.slice A' n c'] W (fun e w' => e = .returned (.int .i64 0) ∧ Below W.heap.size W w') by rw [← hz]; exact wcheck_any hr.cut.1 hr.2 hn hw (by omega))
  have HS := Lib.hid (fun (W : World) {B' c' : Nat} {A' : Option Addr} (hr : Rd W B' A' (l ++ [771])) => short_ok (c := c') hr.cut.1 hr.2 hn hz)
  have HI := Lib.hid (fun (W : World) {B' c' : Nat} {A' : Option Addr} (hr : Rd W B' A' (l ++ [771])) => inverse_ok (c := c') hr.cut.1 hr.2 hn hz)
  have HCo := Lib.hid (fun (W : World) {B' c' : Nat} {A' : Option Addr} (hr : Rd W B' A' (l ++ [771])) => core_ok (c := c') hr.cut.1 hr.2 hn hz)
  have HTx := Lib.hid (fun (W : World) {B' B2 c' : Nat} {A' : Option Addr} (hT : TabX B2 W) (hr : Rd W B' A' (l ++ [771])) => show Calls Tryd.prog 19 #[.slice A' n c'] W (fun e w' => e = .returned (.tuple #[.string TS, .int .i64 0]) ∧ Below W.heap.size W w') by rw [hTS]; exact wtext_ok (B := W.heap.size) (hT.1.more hT.2) (hr.cut.1.more hr.2) (Nat.le_refl _) hn hz)
  have hco : core (short l) = [] := by rw [hem]; rfl
  have hse : (short l).length = 0 := by rw [hem]; rfl
  have HRo := Lib.hid (fun (W : World) {B' c' : Nat} {A' : Option Addr} (hr : Rd W B' A' (l ++ [771])) => root_none (c := c') hr.cut.1 hr.2 hn hz hco)
  have Hse := Lib.hid hse
  clear hz hw hl hw1 hlen hsl hcl hjl hpl hil hrl hTS hco hem hse
  have HT := Lib.hid ht
  have HR := Lib.hid h
  have Hn := Lib.hid hn
  have hBw : B ≤ w.heap.size := h.2
  clear ht h hn
  go_enter Tryd.func3, Tryd.ntmps3
  go_wp2_with fail
  refine (much_one HR.out Hn.out (by omega)).mono ?_
  rintro e w1 ⟨rfl, hb1⟩
  have S1 := Lib.hid hb1
  have z1 : w.heap.size ≤ w1.heap.size := S1.out.size
  clear hb1
  go_wp2_with fail
  refine (lent_rd ((HR.out).next S1.out) Hn.out (by omega)).mono ?_
  rintro e w2 ⟨A2, c2, rfl, hc2, hm2, hr2, hb2⟩
  have S2 := Lib.hid hb2
  have z2 : w1.heap.size ≤ w2.heap.size := S2.out.size
  clear hb2
  have G_m := Lib.hid hr2
  clear hr2
  go_wp2_with fail
  refine (HC.out w2 (((HR.out).next S1.out).next S2.out)).mono ?_
  rintro e w' ⟨rfl, rfl⟩
  go_wp2_with fail
  refine (HS.out w2 (G_m.out)).mono ?_
  rintro e w4 ⟨A4, n4, rfl, hr4, hb4⟩
  have S4 := Lib.hid hb4
  have z4 : w2.heap.size ≤ w4.heap.size := S4.out.size
  clear hb4
  have G_a := Lib.hid (Got.of_res hr4 z4)
  clear hr4
  go_wp2_with fail
  refine (HS.out w4 ((G_m.out).next S4.out)).mono ?_
  rintro e w5 ⟨A5, n5, rfl, hr5, hb5⟩
  have S5 := Lib.hid hb5
  have z5 : w4.heap.size ≤ w5.heap.size := S5.out.size
  clear hb5
  have G_b := Lib.hid (Got.of_res hr5 z5)
  clear hr5
  go_wp2_with fail
  refine (HI.out w5 (((G_m.out).next S4.out).next S5.out)).mono ?_
  rintro e w6 ⟨A6, n6, rfl, hr6, hb6⟩
  have S6 := Lib.hid hb6
  have z6 : w5.heap.size ≤ w6.heap.size := S6.out.size
  clear hb6
  have G_c := Lib.hid (Got.of_res hr6 z6)
  clear hr6
  go_wp2_with fail
  refine (HI.out w6 ((((G_m.out).next S4.out).next S5.out).next S6.out)).mono ?_
  rintro e w7 ⟨A7, n7, rfl, hr7, hb7⟩
  have S7 := Lib.hid hb7
  have z7 : w6.heap.size ≤ w7.heap.size := S7.out.size
  clear hb7
  have G_d := Lib.hid (Got.of_res hr7 z7)
  clear hr7
  go_wp2_with fail
  refine (HCo.out w7 (((((G_m.out).next S4.out).next S5.out).next S6.out).next S7.out)).mono ?_
  rintro e w8 ⟨A8, c8, D8, d8, rfl, ho8, hp8, hb8⟩
  have S8 := Lib.hid hb8
  have z8 : w7.heap.size ≤ w8.heap.size := S8.out.size
  clear hb8
  have G_core := Lib.hid (Got.of_own ho8 z8)
  clear ho8
  have G_by := Lib.hid (Got.of_own hp8 z8)
  clear hp8
  go_wp2_with fail
  refine (HRo.out w8 ((((((G_m.out).next S4.out).next S5.out).next S6.out).next S7.out).next S8.out)).mono ?_
  rintro e w9 ⟨rfl, hb9⟩
  have S9 := Lib.hid hb9
  have z9 : w8.heap.size ≤ w9.heap.size := S9.out.size
  clear hb9
  go_wp2_with fail
  refine (HTx.out w9 (((((((((HT.out).next S1.out).next S2.out).next S4.out).next S5.out).next S6.out).next S7.out).next S8.out).next S9.out) (((((((G_m.out).next S4.out).next S5.out).next S6.out).next S7.out).next S8.out).next S9.out)).mono ?_
  rintro e w10 ⟨rfl, hb10⟩
  have S10 := Lib.hid hb10
  have z10 : w9.heap.size ≤ w10.heap.size := S10.out.size
  clear hb10
  go_wp2_with ((go_at_call 20; refine num_any.mono ?_; rintro e w' ⟨rfl, rfl⟩))
  refine (HK.out w10 ((((((((G_m.out).next S4.out).next S5.out).next S6.out).next S7.out).next S8.out).next S9.out).next S10.out)).mono ?_
  rintro e w11 ⟨rfl, hb11⟩
  have S11 := Lib.hid hb11
  have z11 : w10.heap.size ≤ w11.heap.size := S11.out.size
  clear hb11
  go_wp2_with ((go_at_call 20; refine num_any.mono ?_; rintro e w' ⟨rfl, rfl⟩))
  refine (left_any (c' := c) (((((((((G_m.out).next S4.out).next S5.out).next S6.out).next S7.out).next S8.out).next S9.out).next S10.out).next S11.out).1 (((((((((((HR.out).next S1.out).next S2.out).next S4.out).next S5.out).next S6.out).next S7.out).next S8.out).next S9.out).next S10.out).next S11.out).1 Hn.out Hn.out hc2 (by omega)).mono ?_
  rintro e w12 ⟨rfl, hb12⟩
  have S12 := Lib.hid hb12
  have z12 : w11.heap.size ≤ w12.heap.size := S12.out.size
  clear hb12
  go_wp2_with ((go_at_call 20; refine num_any.mono ?_; rintro e w' ⟨rfl, rfl⟩))
  refine (rshort_any (c := c) ((((((((((((HR.out).next S1.out).next S2.out).next S4.out).next S5.out).next S6.out).next S7.out).next S8.out).next S9.out).next S10.out).next S11.out).next S12.out).1 ((((((((((((HR.out).next S1.out).next S2.out).next S4.out).next S5.out).next S6.out).next S7.out).next S8.out).next S9.out).next S10.out).next S11.out).next S12.out).2 Hn.out HL.out (by omega)).mono ?_
  rintro e w13 ⟨A13, n13, c13, rfl, ho13, hb13⟩
  have S13 := Lib.hid hb13
  have z13 : w12.heap.size ≤ w13.heap.size := S13.out.size
  clear hb13
  have G_s := Lib.hid (Got.of_own ho13 z13)
  clear ho13
  have hs13 := G_s.out.len
  have Hs := Lib.hid hs13
  clear hs13
  go_wp2_with ((go_at_call 20; refine num_any.mono ?_; rintro e w' ⟨rfl, rfl⟩))
  refine (rcore_more (c := c13) (G_s.out).reads (G_s.out).1.2 Hs.out.1 Hs.out.2.1 HL2.out.1 (by have := Hs.out.1; have := HL2.out.2; omega) Hs.out.2.2).mono ?_
  rintro e w14 ⟨A14, c14, D14, n14, d14, rfl, hr14, _, ho14, hb14, hp14⟩
  have S14 := Lib.hid hb14
  have z14 : w13.heap.size ≤ w14.heap.size := S14.out.size
  clear hb14
  have G_x := Lib.hid ((G_s.out).part hr14 S14.out (by rw [core_len]; omega) hp14)
  clear hr14 hp14
  have G_y := Lib.hid (Got.of_own ho14 z14)
  clear ho14
  go_wp2_with ((go_at_call 20; refine num_any.mono ?_; rintro e w' ⟨rfl, rfl⟩))
  refine (told_got (((((((((((G_a.out).next S5.out).next S6.out).next S7.out).next S8.out).next S9.out).next S10.out).next S11.out).next S12.out).next S13.out).next S14.out) (((((((((((G_b.out).next S6.out).next S7.out).next S8.out).next S9.out).next S10.out).next S11.out).next S12.out).next S13.out).next S14.out).away (by omega)) (((G_s.out).next S14.out).away (by omega)) rfl rfl (((((((((((G_b.out).next S6.out).next S7.out).next S8.out).next S9.out).next S10.out).next S11.out).next S12.out).next S13.out).next S14.out).len.1) Hs.out.1 (by have := ((((((((((((G_a.out).next S5.out).next S6.out).next S7.out).next S8.out).next S9.out).next S10.out).next S11.out).next S12.out).next S13.out).next S14.out)).len.1; have := Hlens.out; omega)).mono ?_
  rintro e w15 ⟨rfl, hb15⟩
  have S15 := Lib.hid hb15
  have z15 : w14.heap.size ≤ w15.heap.size := S15.out.size
  clear hb15
  go_wp2_with ((go_at_call 20; refine num_any.mono ?_; rintro e w' ⟨rfl, rfl⟩))
  refine (rinv_any (c := c) (((((((((((((((HR.out).next S1.out).next S2.out).next S4.out).next S5.out).next S6.out).next S7.out).next S8.out).next S9.out).next S10.out).next S11.out).next S12.out).next S13.out).next S14.out).far (S15.out.below (by omega)) (by omega)).1 (((((((((((((((HR.out).next S1.out).next S2.out).next S4.out).next S5.out).next S6.out).next S7.out).next S8.out).next S9.out).next S10.out).next S11.out).next S12.out).next S13.out).next S14.out).far (S15.out.below (by omega)) (by omega)).2 Hn.out (letl_small HL.out) (by omega)).mono ?_
  rintro e w16 ⟨A16, n16, c16, rfl, ho16, hb16⟩
  have S16 := Lib.hid hb16
  have z16 : w15.heap.size ≤ w16.heap.size := S16.out.size
  clear hb16
  have G_i := Lib.hid (Got.of_own ho16 z16)
  clear ho16
  go_wp2_with ((go_at_call 20; refine num_any.mono ?_; rintro e w' ⟨rfl, rfl⟩))
  refine (told_got (((((((((((G_c.out).next S7.out).next S8.out).next S9.out).next S10.out).next S11.out).next S12.out).next S13.out).next S14.out).outside S15.out (by omega)).next S16.out) (((((((((((G_d.out).next S8.out).next S9.out).next S10.out).next S11.out).next S12.out).next S13.out).next S14.out).outside S15.out (by omega)).next S16.out).away (by omega)) ((G_i.out).away (by omega)) rfl rfl (((((((((((G_d.out).next S8.out).next S9.out).next S10.out).next S11.out).next S12.out).next S13.out).next S14.out).outside S15.out (by omega)).next S16.out).len.1) ((G_i.out).len.1) (by have := ((((((((((((G_c.out).next S7.out).next S8.out).next S9.out).next S10.out).next S11.out).next S12.out).next S13.out).next S14.out).outside S15.out (by omega)).next S16.out)).len.1; have := Hlens.out; omega)).mono ?_
  rintro e w17 ⟨rfl, hb17⟩
  have S17 := Lib.hid hb17
  have z17 : w16.heap.size ≤ w17.heap.size := S17.out.size
  clear hb17
  go_wp2_with ((go_at_call 20; refine num_any.mono ?_; rintro e w' ⟨rfl, rfl⟩))
  refine (same_below ((((((((((G_core.out).next S9.out).next S10.out).next S11.out).next S12.out).next S13.out).next S14.out).outside S15.out (by omega)).next S16.out).outside S17.out (by omega)).reads ((((G_x.out).outside S15.out (by omega)).next S16.out).outside S17.out (by omega)).reads (((((((((((G_core.out).next S9.out).next S10.out).next S11.out).next S12.out).next S13.out).next S14.out).outside S15.out (by omega)).next S16.out).outside S17.out (by omega)).len.1) rfl (by have := (((((((((((G_core.out).next S9.out).next S10.out).next S11.out).next S12.out).next S13.out).next S14.out).outside S15.out (by omega)).next S16.out).outside S17.out (by omega))).len.1; have := Hlens.out; omega)).mono ?_
  rintro e w18 ⟨rfl, hb18⟩
  have S18 := Lib.hid hb18
  have z18 : w17.heap.size ≤ w18.heap.size := S18.out.size
  clear hb18
  go_wp2_with ((go_at_call 20; refine num_any.mono ?_; rintro e w' ⟨rfl, rfl⟩))
  refine (same_below (((((((((((G_by.out).next S9.out).next S10.out).next S11.out).next S12.out).next S13.out).next S14.out).outside S15.out (by omega)).next S16.out).outside S17.out (by omega)).next S18.out).reads (((((G_y.out).outside S15.out (by omega)).next S16.out).outside S17.out (by omega)).next S18.out).reads ((((((((((((G_by.out).next S9.out).next S10.out).next S11.out).next S12.out).next S13.out).next S14.out).outside S15.out (by omega)).next S16.out).outside S17.out (by omega)).next S18.out).len.1) ((((((G_y.out).outside S15.out (by omega)).next S16.out).outside S17.out (by omega)).next S18.out).len.1) (by have := ((((((((((((G_by.out).next S9.out).next S10.out).next S11.out).next S12.out).next S13.out).next S14.out).outside S15.out (by omega)).next S16.out).outside S17.out (by omega)).next S18.out)).len.1; have := Hlens.out; omega)).mono ?_
  rintro e w19 ⟨rfl, hb19⟩
  have S19 := Lib.hid hb19
  have z19 : w18.heap.size ≤ w19.heap.size := S19.out.size
  clear hb19
  go_wp2_with ((go_at_call 20; refine num_any.mono ?_; rintro e w' ⟨rfl, rfl⟩))
  refine (rtext_s HST.out (rtext_any (c := c) (((((((((((((((((((HR.out).next S1.out).next S2.out).next S4.out).next S5.out).next S6.out).next S7.out).next S8.out).next S9.out).next S10.out).next S11.out).next S12.out).next S13.out).next S14.out).far (S15.out.below (by omega)) (by omega)).next S16.out).far (S17.out.below (by omega)) (by omega)).next S18.out).next S19.out).1 (((((((((((((((((((HR.out).next S1.out).next S2.out).next S4.out).next S5.out).next S6.out).next S7.out).next S8.out).next S9.out).next S10.out).next S11.out).next S12.out).next S13.out).next S14.out).far (S15.out.below (by omega)) (by omega)).next S16.out).far (S17.out.below (by omega)) (by omega)).next S18.out).next S19.out).2 Hn.out HL.out (by omega))).mono ?_
  rintro e w20 ⟨rfl, hb20⟩
  have S20 := Lib.hid hb20
  have z20 : w19.heap.size ≤ w20.heap.size := S20.out.size
  clear hb20
  have hzs : ((n13 : Int) == 0) = true := by have h1 := Hs.out.1; have h2 := Hse.out; simp; omega
  go_wp2_with ((go_at_call 20; refine num_any.mono ?_; rintro e w' ⟨rfl, rfl⟩))
  refine (left_any (c' := c) ((((((((((((((((((G_m.out).next S4.out).next S5.out).next S6.out).next S7.out).next S8.out).next S9.out).next S10.out).next S11.out).next S12.out).next S13.out).next S14.out).far (S15.out.below (by omega)) (by omega)).next S16.out).far (S17.out.below (by omega)) (by omega)).next S18.out).next S19.out).next S20.out).1 ((((((((((((((((((((HR.out).next S1.out).next S2.out).next S4.out).next S5.out).next S6.out).next S7.out).next S8.out).next S9.out).next S10.out).next S11.out).next S12.out).next S13.out).next S14.out).far (S15.out.below (by omega)) (by omega)).next S16.out).far (S17.out.below (by omega)) (by omega)).next S18.out).next S19.out).next S20.out).1 Hn.out Hn.out hc2 (by omega)).mono ?_
  rintro e w21 ⟨rfl, hb21⟩
  have S21 := Lib.hid hb21
  have z21 : w20.heap.size ≤ w21.heap.size := S21.out.size
  clear hb21
  go_wp2_with ((go_at_call 20; refine num_any.mono ?_; rintro e w' ⟨rfl, rfl⟩))
  refine (known_any (((((((((((((((((((((HT.out).next S1.out).next S2.out).next S4.out).next S5.out).next S6.out).next S7.out).next S8.out).next S9.out).next S10.out).next S11.out).next S12.out).next S13.out).next S14.out).far (S15.out.below (by omega)) (by omega)).next S16.out).far (S17.out.below (by omega)) (by omega)).next S18.out).next S19.out).next S20.out).next S21.out).1 (((((((((((((((((((((HT.out).next S1.out).next S2.out).next S4.out).next S5.out).next S6.out).next S7.out).next S8.out).next S9.out).next S10.out).next S11.out).next S12.out).next S13.out).next S14.out).far (S15.out.below (by omega)) (by omega)).next S16.out).far (S17.out.below (by omega)) (by omega)).next S18.out).next S19.out).next S20.out).next S21.out).2).mono ?_
  rintro e w22 ⟨rfl, hb22⟩
  have S22 := Lib.hid hb22
  have z22 : w21.heap.size ≤ w22.heap.size := S22.out.size
  clear hb22
  have BB := Lib.hid ((((((((((((((((((((((Below.refl w.heap.size w).trans (S1.out.mono (by omega))).trans (S2.out.mono (by omega))).trans (S4.out.mono (by omega))).trans (S5.out.mono (by omega))).trans (S6.out.mono (by omega))).trans (S7.out.mono (by omega))).trans (S8.out.mono (by omega))).trans (S9.out.mono (by omega))).trans (S10.out.mono (by omega))).trans (S11.out.mono (by omega))).trans (S12.out.mono (by omega))).trans (S13.out.mono (by omega))).trans (S14.out.mono (by omega))).trans ((S15.out.below (by omega)).mono (by omega))).trans (S16.out.mono (by omega))).trans ((S17.out.below (by omega)).mono (by omega))).trans (S18.out.mono (by omega))).trans (S19.out.mono (by omega))).trans (S20.out.mono (by omega))).trans (S21.out.mono (by omega))).trans (S22.out.mono (by omega)))
  go_wp2_with fail
  go_ret
  exact ⟨rfl, BB.out⟩
set_option maxRecDepth 100000 in
set_option maxHeartbeats 8000000 in
theorem short_full3 {w : World} {B n c : Nat} {A : Option Addr} {l : List Int} (ht : TabX B w) (h : Rd w B A l) (hn : n = l.length) (hc : n ≤ c) (hcm : c ≤ 9223372036854775807) (hsm : n ≤ 9000) (hz : chk [l] = 0) (hne : short l ≠ []) :
    Calls Tryd.prog 3 #[.slice A n c] w (fun e w' => e = .returned (.bool true) ∧ Below w.heap.size w w') := by
  have hmu : decide ((9000 : Int) < (min n 10000 : Nat)) = false := decide_eq_false (by omega)
  obtain ⟨hw1, hlen⟩ := chk_one.1 hz
  have hl := word_let hw1
  have hw : Wf l := fun k hk => by have := hl k hk; omega
  have HL := Lib.hid hl
  have hsl := short_len_le l
  have HL2 := Lib.hid (And.intro (letl_short hl) (show (short l).length ≤ 4096 by omega))
  have hcl := core_len (short l)
  have hjl := conj_len (short l)
  have hpl := parts_le (short l)
  have hil := inv_len l
  have hn4 : n ≤ 4096 := by omega
  have hrl : (rootw l).length ≤ 20000 := by unfold rootw; rw [List.length_append, List.length_append, inv_len, List.length_take]; omega
  have Hlens := Lib.hid (show (short l).length ≤ 4096 ∧ (inv l).length ≤ 4096 ∧ (core (short l)).length ≤ 4096 ∧ (conj (short l)).length ≤ 4096 ∧ (rootw l).length ≤ 20000 by omega)
  obtain ⟨TS, hTS⟩ : ∃ TS : ByteArray, TS = ⟨(txt l).toArray⟩ := ⟨_, rfl⟩
  have HST := Lib.hid hTS
  have HC := Lib.hid (fun (W : World) (hr : Rd W B A l) => show Calls Tryd.prog 14 #[.slice A n c] W (fun e w' => e = .returned (.int .i64 0) ∧ W = w') by rw [← hz]; exact rcheck_any hr.1 hn (by omega) hw)
  have HK := Lib.hid (fun (W : World) {B' c' : Nat} {A' : Option Addr} (hr : Rd W B' A' (l ++ [771])) => show Calls Tryd.prog 21 #[.slice A' n c'] W (fun e w' => e = .returned (.int .i64 0) ∧ Below W.heap.size W w') by rw [← hz]; exact wcheck_any hr.cut.1 hr.2 hn hw (by omega))
  have HS := Lib.hid (fun (W : World) {B' c' : Nat} {A' : Option Addr} (hr : Rd W B' A' (l ++ [771])) => short_ok (c := c') hr.cut.1 hr.2 hn hz)
  have HI := Lib.hid (fun (W : World) {B' c' : Nat} {A' : Option Addr} (hr : Rd W B' A' (l ++ [771])) => inverse_ok (c := c') hr.cut.1 hr.2 hn hz)
  have HCo := Lib.hid (fun (W : World) {B' c' : Nat} {A' : Option Addr} (hr : Rd W B' A' (l ++ [771])) => core_ok (c := c') hr.cut.1 hr.2 hn hz)
  have HTx := Lib.hid (fun (W : World) {B' B2 c' : Nat} {A' : Option Addr} (hT : TabX B2 W) (hr : Rd W B' A' (l ++ [771])) => show Calls Tryd.prog 19 #[.slice A' n c'] W (fun e w' => e = .returned (.tuple #[.string TS, .int .i64 0]) ∧ Below W.heap.size W w') by rw [hTS]; exact wtext_ok (B := W.heap.size) (hT.1.more hT.2) (hr.cut.1.more hr.2) (Nat.le_refl _) hn hz)
  have hred := red_short' (letl_nz hl)
  have hs1 : 1 ≤ (short l).length := by rcases Nat.eq_zero_or_pos (short l).length with h | h; exact absurd (List.eq_nil_of_length_eq_zero h) hne; exact h
  have hco : core (short l) ≠ [] := fun h => by have := core_pos hred hs1; rw [h] at this; simp at this
  obtain ⟨q0, hq0⟩ : ∃ q, q = (core (short l)).length / per (core (short l)) := ⟨_, rfl⟩
  have HRo := Lib.hid (fun (W : World) {B' c' : Nat} {A' : Option Addr} (hr : Rd W B' A' (l ++ [771])) => show Calls Tryd.prog 18 #[.slice A' n c'] W (fun e w' => ∃ A' n' c', e = .returned (.tuple #[.slice A' n' c', .int .i64 (q0 : Int), .int .i64 0]) ∧ OwnI w' W.heap.size (.slice A' n' c') (rootw l) ∧ Below W.heap.size W w') from (root_ok (c := c') hr.cut.1 hr.2 hn hz hco).mono fun e w' ⟨A', n', c', q, he, hq, ho, hb⟩ => ⟨A', n', c', by rw [he, hq, hq0], ho, hb⟩)
  have HRR := Lib.hid (fun (W : World) {lo hi n' c' : Nat} {A' : Option Addr} (hg : Got W lo hi A' n' c' (short l)) (hl' : n' = (short l).length ∧ n' ≤ c' ∧ c' ≤ 9223372036854775807) => show Calls Tryd.prog 29 #[.slice A' n' c'] W (fun e w' => ∃ A' n' c', e = .returned (.tuple #[.slice A' n' c', .int .i64 (q0 : Int)]) ∧ Rd w' w'.heap.size A' (rootw l) ∧ n' = (rootw l).length ∧ Below W.heap.size W w') from (rroot_any (c := c') hg.reads hg.1.2 hl'.1 hl'.2.1 (letl_short hl) (by omega) hl'.2.2).mono fun e w' ⟨A', n', c', he, hr, hn', hb⟩ => by
    rw [rroot_eq hred hs1 (by omega)] at he hr hn'
    exact ⟨A', n', c', by rw [he, hq0], ⟨hr, Nat.le_refl _⟩, hn', hb⟩)
  have hs1i : ¬ (short l).length = 0 := by omega
  have Hs1 := Lib.hid hs1i
  clear hz hw hl hw1 hlen hsl hcl hjl hpl hil hrl hTS hco hne hred hs1 hq0 hs1i
  have HT := Lib.hid ht
  have HR := Lib.hid h
  have Hn := Lib.hid hn
  have hBw : B ≤ w.heap.size := h.2
  clear ht h hn
  go_enter Tryd.func3, Tryd.ntmps3
  go_wp2_with fail
  refine (much_one HR.out Hn.out (by omega)).mono ?_
  rintro e w1 ⟨rfl, hb1⟩
  have S1 := Lib.hid hb1
  have z1 : w.heap.size ≤ w1.heap.size := S1.out.size
  clear hb1
  go_wp2_with fail
  refine (lent_rd ((HR.out).next S1.out) Hn.out (by omega)).mono ?_
  rintro e w2 ⟨A2, c2, rfl, hc2, hm2, hr2, hb2⟩
  have S2 := Lib.hid hb2
  have z2 : w1.heap.size ≤ w2.heap.size := S2.out.size
  clear hb2
  have G_m := Lib.hid hr2
  clear hr2
  go_wp2_with fail
  refine (HC.out w2 (((HR.out).next S1.out).next S2.out)).mono ?_
  rintro e w' ⟨rfl, rfl⟩
  go_wp2_with fail
  refine (HS.out w2 (G_m.out)).mono ?_
  rintro e w4 ⟨A4, n4, rfl, hr4, hb4⟩
  have S4 := Lib.hid hb4
  have z4 : w2.heap.size ≤ w4.heap.size := S4.out.size
  clear hb4
  have G_a := Lib.hid (Got.of_res hr4 z4)
  clear hr4
  go_wp2_with fail
  refine (HS.out w4 ((G_m.out).next S4.out)).mono ?_
  rintro e w5 ⟨A5, n5, rfl, hr5, hb5⟩
  have S5 := Lib.hid hb5
  have z5 : w4.heap.size ≤ w5.heap.size := S5.out.size
  clear hb5
  have G_b := Lib.hid (Got.of_res hr5 z5)
  clear hr5
  go_wp2_with fail
  refine (HI.out w5 (((G_m.out).next S4.out).next S5.out)).mono ?_
  rintro e w6 ⟨A6, n6, rfl, hr6, hb6⟩
  have S6 := Lib.hid hb6
  have z6 : w5.heap.size ≤ w6.heap.size := S6.out.size
  clear hb6
  have G_c := Lib.hid (Got.of_res hr6 z6)
  clear hr6
  go_wp2_with fail
  refine (HI.out w6 ((((G_m.out).next S4.out).next S5.out).next S6.out)).mono ?_
  rintro e w7 ⟨A7, n7, rfl, hr7, hb7⟩
  have S7 := Lib.hid hb7
  have z7 : w6.heap.size ≤ w7.heap.size := S7.out.size
  clear hb7
  have G_d := Lib.hid (Got.of_res hr7 z7)
  clear hr7
  go_wp2_with fail
  refine (HCo.out w7 (((((G_m.out).next S4.out).next S5.out).next S6.out).next S7.out)).mono ?_
  rintro e w8 ⟨A8, c8, D8, d8, rfl, ho8, hp8, hb8⟩
  have S8 := Lib.hid hb8
  have z8 : w7.heap.size ≤ w8.heap.size := S8.out.size
  clear hb8
  have G_core := Lib.hid (Got.of_own ho8 z8)
  clear ho8
  have G_by := Lib.hid (Got.of_own hp8 z8)
  clear hp8
  go_wp2_with fail
  refine (HRo.out w8 ((((((G_m.out).next S4.out).next S5.out).next S6.out).next S7.out).next S8.out)).mono ?_
  rintro e w9 ⟨A9, n9, c9, rfl, ho9, hb9⟩
  have S9 := Lib.hid hb9
  have z9 : w8.heap.size ≤ w9.heap.size := S9.out.size
  clear hb9
  have G_root := Lib.hid (Got.of_own ho9 z9)
  clear ho9
  go_wp2_with fail
  refine (HTx.out w9 (((((((((HT.out).next S1.out).next S2.out).next S4.out).next S5.out).next S6.out).next S7.out).next S8.out).next S9.out) (((((((G_m.out).next S4.out).next S5.out).next S6.out).next S7.out).next S8.out).next S9.out)).mono ?_
  rintro e w10 ⟨rfl, hb10⟩
  have S10 := Lib.hid hb10
  have z10 : w9.heap.size ≤ w10.heap.size := S10.out.size
  clear hb10
  go_wp2_with ((go_at_call 20; refine num_any.mono ?_; rintro e w' ⟨rfl, rfl⟩))
  refine (HK.out w10 ((((((((G_m.out).next S4.out).next S5.out).next S6.out).next S7.out).next S8.out).next S9.out).next S10.out)).mono ?_
  rintro e w11 ⟨rfl, hb11⟩
  have S11 := Lib.hid hb11
  have z11 : w10.heap.size ≤ w11.heap.size := S11.out.size
  clear hb11
  go_wp2_with ((go_at_call 20; refine num_any.mono ?_; rintro e w' ⟨rfl, rfl⟩))
  refine (left_any (c' := c) (((((((((G_m.out).next S4.out).next S5.out).next S6.out).next S7.out).next S8.out).next S9.out).next S10.out).next S11.out).1 (((((((((((HR.out).next S1.out).next S2.out).next S4.out).next S5.out).next S6.out).next S7.out).next S8.out).next S9.out).next S10.out).next S11.out).1 Hn.out Hn.out hc2 (by omega)).mono ?_
  rintro e w12 ⟨rfl, hb12⟩
  have S12 := Lib.hid hb12
  have z12 : w11.heap.size ≤ w12.heap.size := S12.out.size
  clear hb12
  go_wp2_with ((go_at_call 20; refine num_any.mono ?_; rintro e w' ⟨rfl, rfl⟩))
  refine (rshort_any (c := c) ((((((((((((HR.out).next S1.out).next S2.out).next S4.out).next S5.out).next S6.out).next S7.out).next S8.out).next S9.out).next S10.out).next S11.out).next S12.out).1 ((((((((((((HR.out).next S1.out).next S2.out).next S4.out).next S5.out).next S6.out).next S7.out).next S8.out).next S9.out).next S10.out).next S11.out).next S12.out).2 Hn.out HL.out (by omega)).mono ?_
  rintro e w13 ⟨A13, n13, c13, rfl, ho13, hb13⟩
  have S13 := Lib.hid hb13
  have z13 : w12.heap.size ≤ w13.heap.size := S13.out.size
  clear hb13
  have G_s := Lib.hid (Got.of_own ho13 z13)
  clear ho13
  have hs13 := G_s.out.len
  have Hs := Lib.hid hs13
  clear hs13
  go_wp2_with ((go_at_call 20; refine num_any.mono ?_; rintro e w' ⟨rfl, rfl⟩))
  refine (rcore_more (c := c13) (G_s.out).reads (G_s.out).1.2 Hs.out.1 Hs.out.2.1 HL2.out.1 (by have := Hs.out.1; have := HL2.out.2; omega) Hs.out.2.2).mono ?_
  rintro e w14 ⟨A14, c14, D14, n14, d14, rfl, hr14, _, ho14, hb14, hp14⟩
  have S14 := Lib.hid hb14
  have z14 : w13.heap.size ≤ w14.heap.size := S14.out.size
  clear hb14
  have G_x := Lib.hid ((G_s.out).part hr14 S14.out (by rw [core_len]; omega) hp14)
  clear hr14 hp14
  have G_y := Lib.hid (Got.of_own ho14 z14)
  clear ho14
  go_wp2_with ((go_at_call 20; refine num_any.mono ?_; rintro e w' ⟨rfl, rfl⟩))
  refine (told_got (((((((((((G_a.out).next S5.out).next S6.out).next S7.out).next S8.out).next S9.out).next S10.out).next S11.out).next S12.out).next S13.out).next S14.out) (((((((((((G_b.out).next S6.out).next S7.out).next S8.out).next S9.out).next S10.out).next S11.out).next S12.out).next S13.out).next S14.out).away (by omega)) (((G_s.out).next S14.out).away (by omega)) rfl rfl (((((((((((G_b.out).next S6.out).next S7.out).next S8.out).next S9.out).next S10.out).next S11.out).next S12.out).next S13.out).next S14.out).len.1) Hs.out.1 (by have := ((((((((((((G_a.out).next S5.out).next S6.out).next S7.out).next S8.out).next S9.out).next S10.out).next S11.out).next S12.out).next S13.out).next S14.out)).len.1; have := Hlens.out; omega)).mono ?_
  rintro e w15 ⟨rfl, hb15⟩
  have S15 := Lib.hid hb15
  have z15 : w14.heap.size ≤ w15.heap.size := S15.out.size
  clear hb15
  go_wp2_with ((go_at_call 20; refine num_any.mono ?_; rintro e w' ⟨rfl, rfl⟩))
  refine (rinv_any (c := c) (((((((((((((((HR.out).next S1.out).next S2.out).next S4.out).next S5.out).next S6.out).next S7.out).next S8.out).next S9.out).next S10.out).next S11.out).next S12.out).next S13.out).next S14.out).far (S15.out.below (by omega)) (by omega)).1 (((((((((((((((HR.out).next S1.out).next S2.out).next S4.out).next S5.out).next S6.out).next S7.out).next S8.out).next S9.out).next S10.out).next S11.out).next S12.out).next S13.out).next S14.out).far (S15.out.below (by omega)) (by omega)).2 Hn.out (letl_small HL.out) (by omega)).mono ?_
  rintro e w16 ⟨A16, n16, c16, rfl, ho16, hb16⟩
  have S16 := Lib.hid hb16
  have z16 : w15.heap.size ≤ w16.heap.size := S16.out.size
  clear hb16
  have G_i := Lib.hid (Got.of_own ho16 z16)
  clear ho16
  go_wp2_with ((go_at_call 20; refine num_any.mono ?_; rintro e w' ⟨rfl, rfl⟩))
  refine (told_got (((((((((((G_c.out).next S7.out).next S8.out).next S9.out).next S10.out).next S11.out).next S12.out).next S13.out).next S14.out).outside S15.out (by omega)).next S16.out) (((((((((((G_d.out).next S8.out).next S9.out).next S10.out).next S11.out).next S12.out).next S13.out).next S14.out).outside S15.out (by omega)).next S16.out).away (by omega)) ((G_i.out).away (by omega)) rfl rfl (((((((((((G_d.out).next S8.out).next S9.out).next S10.out).next S11.out).next S12.out).next S13.out).next S14.out).outside S15.out (by omega)).next S16.out).len.1) ((G_i.out).len.1) (by have := ((((((((((((G_c.out).next S7.out).next S8.out).next S9.out).next S10.out).next S11.out).next S12.out).next S13.out).next S14.out).outside S15.out (by omega)).next S16.out)).len.1; have := Hlens.out; omega)).mono ?_
  rintro e w17 ⟨rfl, hb17⟩
  have S17 := Lib.hid hb17
  have z17 : w16.heap.size ≤ w17.heap.size := S17.out.size
  clear hb17
  go_wp2_with ((go_at_call 20; refine num_any.mono ?_; rintro e w' ⟨rfl, rfl⟩))
  refine (same_below ((((((((((G_core.out).next S9.out).next S10.out).next S11.out).next S12.out).next S13.out).next S14.out).outside S15.out (by omega)).next S16.out).outside S17.out (by omega)).reads ((((G_x.out).outside S15.out (by omega)).next S16.out).outside S17.out (by omega)).reads (((((((((((G_core.out).next S9.out).next S10.out).next S11.out).next S12.out).next S13.out).next S14.out).outside S15.out (by omega)).next S16.out).outside S17.out (by omega)).len.1) rfl (by have := (((((((((((G_core.out).next S9.out).next S10.out).next S11.out).next S12.out).next S13.out).next S14.out).outside S15.out (by omega)).next S16.out).outside S17.out (by omega))).len.1; have := Hlens.out; omega)).mono ?_
  rintro e w18 ⟨rfl, hb18⟩
  have S18 := Lib.hid hb18
  have z18 : w17.heap.size ≤ w18.heap.size := S18.out.size
  clear hb18
  go_wp2_with ((go_at_call 20; refine num_any.mono ?_; rintro e w' ⟨rfl, rfl⟩))
  refine (same_below (((((((((((G_by.out).next S9.out).next S10.out).next S11.out).next S12.out).next S13.out).next S14.out).outside S15.out (by omega)).next S16.out).outside S17.out (by omega)).next S18.out).reads (((((G_y.out).outside S15.out (by omega)).next S16.out).outside S17.out (by omega)).next S18.out).reads ((((((((((((G_by.out).next S9.out).next S10.out).next S11.out).next S12.out).next S13.out).next S14.out).outside S15.out (by omega)).next S16.out).outside S17.out (by omega)).next S18.out).len.1) ((((((G_y.out).outside S15.out (by omega)).next S16.out).outside S17.out (by omega)).next S18.out).len.1) (by have := ((((((((((((G_by.out).next S9.out).next S10.out).next S11.out).next S12.out).next S13.out).next S14.out).outside S15.out (by omega)).next S16.out).outside S17.out (by omega)).next S18.out)).len.1; have := Hlens.out; omega)).mono ?_
  rintro e w19 ⟨rfl, hb19⟩
  have S19 := Lib.hid hb19
  have z19 : w18.heap.size ≤ w19.heap.size := S19.out.size
  clear hb19
  go_wp2_with ((go_at_call 20; refine num_any.mono ?_; rintro e w' ⟨rfl, rfl⟩))
  refine (rtext_s HST.out (rtext_any (c := c) (((((((((((((((((((HR.out).next S1.out).next S2.out).next S4.out).next S5.out).next S6.out).next S7.out).next S8.out).next S9.out).next S10.out).next S11.out).next S12.out).next S13.out).next S14.out).far (S15.out.below (by omega)) (by omega)).next S16.out).far (S17.out.below (by omega)) (by omega)).next S18.out).next S19.out).1 (((((((((((((((((((HR.out).next S1.out).next S2.out).next S4.out).next S5.out).next S6.out).next S7.out).next S8.out).next S9.out).next S10.out).next S11.out).next S12.out).next S13.out).next S14.out).far (S15.out.below (by omega)) (by omega)).next S16.out).far (S17.out.below (by omega)) (by omega)).next S18.out).next S19.out).2 Hn.out HL.out (by omega))).mono ?_
  rintro e w20 ⟨rfl, hb20⟩
  have S20 := Lib.hid hb20
  have z20 : w19.heap.size ≤ w20.heap.size := S20.out.size
  clear hb20
  have hzs : ((n13 : Int) == 0) = false := by have h1 := Hs.out.1; have h2 := Hs1.out; simp; omega
  go_wp2_with ((go_at_call 20; refine num_any.mono ?_; rintro e w' ⟨rfl, rfl⟩))
  refine (HRR.out w20 ((((((((G_s.out).next S14.out).outside S15.out (by omega)).next S16.out).outside S17.out (by omega)).next S18.out).next S19.out).next S20.out) Hs.out).mono ?_
  rintro e w21 ⟨A21, n21, c21, rfl, hr21, hn21, hb21⟩
  have S21 := Lib.hid hb21
  have z21 : w20.heap.size ≤ w21.heap.size := S21.out.size
  clear hb21
  have G_r := Lib.hid hr21
  have N_r := Lib.hid hn21
  clear hr21 hn21
  go_wp2_with ((go_at_call 20; refine num_any.mono ?_; rintro e w' ⟨rfl, rfl⟩))
  refine (same_below (((((((((((((G_root.out).next S10.out).next S11.out).next S12.out).next S13.out).next S14.out).outside S15.out (by omega)).next S16.out).outside S17.out (by omega)).next S18.out).next S19.out).next S20.out).next S21.out).reads (G_r.out).1 ((((((((((((((G_root.out).next S10.out).next S11.out).next S12.out).next S13.out).next S14.out).outside S15.out (by omega)).next S16.out).outside S17.out (by omega)).next S18.out).next S19.out).next S20.out).next S21.out).len.1) N_r.out (by have := ((((((((((((((G_root.out).next S10.out).next S11.out).next S12.out).next S13.out).next S14.out).outside S15.out (by omega)).next S16.out).outside S17.out (by omega)).next S18.out).next S19.out).next S20.out).next S21.out)).len.1; have := Hlens.out; omega)).mono ?_
  rintro e w22 ⟨rfl, hb22⟩
  have S22 := Lib.hid hb22
  have z22 : w21.heap.size ≤ w22.heap.size := S22.out.size
  clear hb22
  go_wp2_with ((go_at_call 20; refine num_any.mono ?_; rintro e w' ⟨rfl, rfl⟩))
  refine (left_any (c' := c) ((((((((((((((((((((G_m.out).next S4.out).next S5.out).next S6.out).next S7.out).next S8.out).next S9.out).next S10.out).next S11.out).next S12.out).next S13.out).next S14.out).far (S15.out.below (by omega)) (by omega)).next S16.out).far (S17.out.below (by omega)) (by omega)).next S18.out).next S19.out).next S20.out).next S21.out).next S22.out).1 ((((((((((((((((((((((HR.out).next S1.out).next S2.out).next S4.out).next S5.out).next S6.out).next S7.out).next S8.out).next S9.out).next S10.out).next S11.out).next S12.out).next S13.out).next S14.out).far (S15.out.below (by omega)) (by omega)).next S16.out).far (S17.out.below (by omega)) (by omega)).next S18.out).next S19.out).next S20.out).next S21.out).next S22.out).1 Hn.out Hn.out hc2 (by omega)).mono ?_
  rintro e w23 ⟨rfl, hb23⟩
  have S23 := Lib.hid hb23
  have z23 : w22.heap.size ≤ w23.heap.size := S23.out.size
  clear hb23
  go_wp2_with ((go_at_call 20; refine num_any.mono ?_; rintro e w' ⟨rfl, rfl⟩))
  refine (known_any (((((((((((((((((((((((HT.out).next S1.out).next S2.out).next S4.out).next S5.out).next S6.out).next S7.out).next S8.out).next S9.out).next S10.out).next S11.out).next S12.out).next S13.out).next S14.out).far (S15.out.below (by omega)) (by omega)).next S16.out).far (S17.out.below (by omega)) (by omega)).next S18.out).next S19.out).next S20.out).next S21.out).next S22.out).next S23.out).1 (((((((((((((((((((((((HT.out).next S1.out).next S2.out).next S4.out).next S5.out).next S6.out).next S7.out).next S8.out).next S9.out).next S10.out).next S11.out).next S12.out).next S13.out).next S14.out).far (S15.out.below (by omega)) (by omega)).next S16.out).far (S17.out.below (by omega)) (by omega)).next S18.out).next S19.out).next S20.out).next S21.out).next S22.out).next S23.out).2).mono ?_
  rintro e w24 ⟨rfl, hb24⟩
  have S24 := Lib.hid hb24
  have z24 : w23.heap.size ≤ w24.heap.size := S24.out.size
  clear hb24
  have BB := Lib.hid ((((((((((((((((((((((((Below.refl w.heap.size w).trans (S1.out.mono (by omega))).trans (S2.out.mono (by omega))).trans (S4.out.mono (by omega))).trans (S5.out.mono (by omega))).trans (S6.out.mono (by omega))).trans (S7.out.mono (by omega))).trans (S8.out.mono (by omega))).trans (S9.out.mono (by omega))).trans (S10.out.mono (by omega))).trans (S11.out.mono (by omega))).trans (S12.out.mono (by omega))).trans (S13.out.mono (by omega))).trans (S14.out.mono (by omega))).trans ((S15.out.below (by omega)).mono (by omega))).trans (S16.out.mono (by omega))).trans ((S17.out.below (by omega)).mono (by omega))).trans (S18.out.mono (by omega))).trans (S19.out.mono (by omega))).trans (S20.out.mono (by omega))).trans (S21.out.mono (by omega))).trans (S22.out.mono (by omega))).trans (S23.out.mono (by omega))).trans (S24.out.mono (by omega)))
  go_wp2_with fail
  go_ret
  exact ⟨rfl, BB.out⟩
end Go.Proofs.YtmjnhpagoboejaaDoor

/- words.Read. -/
namespace Go.Proofs.YtmjnhpagoboejaaDoor
open Go.RowKit
open Wd
set_option linter.unusedSimpArgs false
set_option linter.unusedVariables false

/-- the table; and the library's own variables that a reader of numerals looks into -/
def VarsX (B : Nat) (w : World) : Prop := TabX B w ∧ (∃ m, w.cell? ⟨2, 0, none⟩ = some (.int .i64 m)) ∧ (∃ t p, w.cell? ⟨0, 0, none⟩ = some (.iface t p)) ∧ (∃ t p, w.cell? ⟨1, 0, none⟩ = some (.iface t p))
theorem VarsX.next {w w' : World} {B : Nat} (h : VarsX B w) (hb : Below w.heap.size w w') : VarsX B w' := by
  obtain ⟨h1, ⟨m, h2⟩, ⟨t, p, h3⟩, ⟨t', p', h4⟩⟩ := h
  exact ⟨h1.next hb, ⟨m, (hb.cell (p := ⟨2, 0, none⟩) (Lib.lt_of_cell h2)).trans h2⟩, ⟨t, p, (hb.cell (p := ⟨0, 0, none⟩) (Lib.lt_of_cell h3)).trans h3⟩, ⟨t', p', (hb.cell (p := ⟨1, 0, none⟩) (Lib.lt_of_cell h4)).trans h4⟩⟩
/-- how strconv.Atoi ends -/
def AtoiOut (w : World) (r : Lib.NumEnd Int) (e : Ending) (w' : World) : Prop := Below w.heap.size w w' ∧ ((∃ v, r = .ok v ∧ e = .returned (.tuple #[.int .i64 v, .nilIface])) ∨ ((∀ v, r ≠ .ok v) ∧ ∃ z t p, e = .returned (.tuple #[.int .i64 z, .iface t p])))
theorem atoi_any {w : World} {B : Nat} {s : ByteArray} (hv : VarsX B w) (hs : s.size ≤ 1000000) : Calls Tryd.prog 84 #[.string s] w (AtoiOut w (Lib.atoiAll s.data.toList)) := by
  obtain ⟨h1, _, ⟨t, p, h3⟩, ⟨t', p', h4⟩⟩ := hv
  cases hr : Lib.atoiAll s.data.toList with
  | ok v =>
    refine (Tryd.strconv_Atoi_ok s (by omega) v hr w).mono ?_
    rintro e w' ⟨rfl, h⟩
    refine ⟨?_, .inl ⟨v, rfl, rfl⟩⟩
    rcases h with rfl | ⟨t, rfl⟩
    · exact Below.refl _ _
    · exact Lib.bytesWorld_below _ _ _
  | range =>
    refine (Tryd.strconv_Atoi_range s (by omega) hr _ w h4 (.inr ⟨t', p', rfl⟩)).mono ?_
    rintro e w' ⟨N, rfl, _, _, hb⟩
    exact ⟨hb, .inr ⟨(fun v h => by cases h), _, _, _, rfl⟩⟩
  | _ =>
    refine (Tryd.strconv_Atoi_syntax s (by omega) (fun v h => by rw [hr] at h; cases h) (fun h => by rw [hr] at h; cases h) _ w h3 (.inr ⟨t, p, rfl⟩)).mono ?_
    rintro e w' ⟨N, rfl, _, _, hb⟩
    exact ⟨hb, .inr ⟨(fun v h => by cases h), _, _, _, rfl⟩⟩
/-- a text's pieces, by strings.Split -/
theorem split_any {w : World} {B : Nat} {s : ByteArray} (hv : VarsX B w) (hs : s.size ≤ 1000000) :
    Calls Tryd.prog 83 #[.string s, .string ⟨#[32]⟩] w (fun e w' => ∃ (xs : List ByteArray) (n : Nat), e = .returned (.slice (some ⟨w.heap.size, 0, none⟩) n n) ∧ n = xs.length ∧ 1 ≤ n ∧ n ≤ s.size + 1 ∧ (∀ x ∈ xs, x.size ≤ s.size) ∧ xs.map (·.data.toList) = Lib.splitK [32] 0 (Lib.count s.data.toList [32]) s.data.toList ∧ w' = w.alloc (.cells (xs.map Value.string).toArray 9)) := by
  obtain ⟨_, ⟨m, h2⟩, _⟩ := hv
  refine (Tryd.strings_Split s ⟨#[32]⟩ m w (by omega) h2 (by decide)).mono ?_
  rintro e w' ⟨rfl, rfl⟩
  have hl := Lib.splitB_all ⟨#[32]⟩ (by decide) 0 _ s rfl
  have hc := Lib.countB_le ⟨#[32]⟩ (by decide) s.size s (Nat.le_refl _)
  have hd := Lib.splitB_data ⟨#[32]⟩ 0 (Lib.countB s ⟨#[32]⟩) s
  refine ⟨_, _, rfl, hl.symm, by omega, by omega, fun x hx => ?_, hd, rfl⟩
  have hx2 : x.data.toList ∈ Lib.splitK [32] 0 (Lib.countB s ⟨#[32]⟩) s.data.toList := by
    have h : x.data.toList ∈ (Lib.splitB ⟨#[32]⟩ 0 (Lib.countB s ⟨#[32]⟩) s).map (·.data.toList) := List.mem_map.2 ⟨x, hx, rfl⟩
    rw [hd] at h
    exact h
  have h3 := splitK_short _ _ _ hx2
  rw [Lib.size_eq x, Lib.size_eq s]
  exact h3
/-- what Read answers -/
def ReadOut (w : World) (R : Option (List Int)) (e : Ending) (w' : World) : Prop := Below w.heap.size w w' ∧ ((∃ l, R = some l ∧ ∃ A n k, e = .returned (.tuple #[.slice A n k, .int .i64 0]) ∧ Got w' w.heap.size w'.heap.size A n k l) ∨ (R = none ∧ e = .returned (.tuple #[.slice none 0 0, .int .i64 260])))
theorem Got.wide {w : World} {lo hi hi' n k : Nat} {A : Option Addr} {l : List Int} (h : Got w lo hi A n k l) (h1 : hi ≤ w.heap.size ∧ hi ≤ hi' ∧ hi' ≤ w.heap.size) : Got w lo hi' A n k l := by
  obtain ⟨⟨a, b⟩, c, ho, hk, hg⟩ := h
  exact ⟨⟨by omega, h1.2.2⟩, c, ho, hk, fun g hg' => by have := hg g hg'; omega⟩
theorem pread_dot0 : preadW [46] = some [] := rfl
set_option maxRecDepth 100000 in
set_option maxHeartbeats 4000000 in
theorem wread_dot {w : World} : Calls Tryd.prog 49 #[.string ⟨#[46]⟩] w (ReadOut w (some [])) := by
  go_enter Tryd.func49, Tryd.ntmps49
  go_wp2_with fail
  go_ret2
  exact ⟨Below.refl _ _, .inl ⟨[], rfl, none, 0, 0, rfl, Got.none_ (Nat.le_refl _) (Nat.le_refl _)⟩⟩
set_option maxRecDepth 100000 in
set_option maxHeartbeats 4000000 in
theorem wread_any {w : World} {B : Nat} {s : ByteArray} (hv : VarsX B w) (hs : s.size ≤ 100000) (hne : s.data.toList ≠ [46]) : Calls Tryd.prog 49 #[.string s] w (ReadOut w (preadW s.data.toList)) := by
  have HV := Lib.hid hv
  have hne2 : (s.toList == [46]) = false := by rw [ByteArray.toList_eq]; simpa using hne
  have HNE := Lib.hid hne
  have hsz : s.data.toList.length = s.size := (Lib.size_eq s).symm
  clear hv hne
  by_cases hbig : 16384 < s.size
  · have hbi : (16384 : Int) < (s.size : Int) := by omega
    have HR := Lib.hid (pread_long HNE.out (by omega))
    clear hsz hbig
    go_enter Tryd.func49, Tryd.ntmps49
    go_wp2_with fail
    go_ret2
    exact ⟨Below.refl _ _, .inr ⟨HR.out, rfl⟩⟩
  · have hbi : (s.size : Int) ≤ 16384 := by omega
    have HSZ := Lib.hid (show s.data.toList.length ≤ 16384 by omega)
    have HS := Lib.hid (split_any HV.out (s := s) (by omega))
    clear hsz hbig
    go_enter Tryd.func49, Tryd.ntmps49
    go_wp2_with fail
    refine HS.out.mono ?_
    rintro e w1 ⟨xs, n, rfl, hn, hn1, hn2, hx, hd, hw1⟩
    have HD := Lib.hid hd
    have H1 := Lib.hid (show Below w.heap.size w w1 ∧ Blk w1 w.heap.size 9 (xs.map Value.string).toArray ∧ n = xs.length ∧ ∀ x ∈ xs, x.size ≤ s.size by
      rw [hw1]; exact ⟨(Below.refl _ w).alloc (Nat.le_refl _) _, Blk.new w 9 _, hn, hx⟩)
    have hnb : n ≤ 20000 := by omega
    clear hn hx hd hw1 hn2
    go_wp2_with fail
    go_loopg [4, 17] n (fun r v iv' wr => ∃ (i : Nat) (A : Option Addr) (c : Nat) (l : List Int), v = .slice A i c ∧ iv' = .int .i64 (i : Int) ∧ r = n - i ∧ i ≤ n ∧ Hid (OwnI wr w.heap.size (.slice A i c) l ∧ atoiL ((xs.map (·.data.toList)).take i) = some l ∧ Below w.heap.size w wr ∧ Blk wr w.heap.size 9 (xs.map Value.string).toArray))
    case atStart => exact ⟨0, none, 0, [], rfl, rfl, by omega, by omega, Lib.hid ⟨OwnI.nil _ _, rfl, H1.out.1, H1.out.2.1⟩⟩
    case round =>
      obtain ⟨i, A, c, l, rfl, rfl, hr, hi, hL⟩ := hrel
      have Hr := Lib.hid hr
      clear hr
      by_cases hin : i < n
      · have hii : (i : Int) < (n : Int) := by omega
        have hil : i < xs.length := by have := H1.out.2.2.1; omega
        have hcell := hL.out.2.2.2.cell i
        rw [List.getElem?_toArray, List.getElem?_map, List.getElem?_eq_getElem hil] at hcell
        have hcell2 : wr.cell? ⟨w.heap.size, i, none⟩ = some (.string xs[i]) := hcell
        have Hx := Lib.hid (H1.out.2.2.2 xs[i] (List.getElem_mem hil))
        obtain ⟨x, hx⟩ : ∃ x, x = xs[i] := ⟨_, rfl⟩
        rw [← hx] at hcell2 Hx
        have HX := Lib.hid hx
        have HA := Lib.hid (atoi_any (HV.out.next (hL.out.2.2.1)) (s := x) (by have := Hx.out; omega))
        clear hcell hx
        have H3 := Lib.hid (show (xs.map (·.data.toList)).take (i + 1) = (xs.map (·.data.toList)).take i ++ [x.data.toList] by
          rw [List.take_succ_eq_append_getElem (by simpa using hil), List.getElem_map, ← HX.out])
        have hlen3 : l.length ≤ 20000 := by have h := hL.out.1.len.1; omega
        go_wp2_with fail
        refine HA.out.mono ?_
        rintro e w2 ⟨hb2, ⟨v, hv, rfl⟩ | ⟨hno, z, t, p, rfl⟩⟩
        · have HA2 := Lib.hid (show atoiL ((xs.map (·.data.toList)).take (i + 1)) = some (l ++ [v]) by
            rw [H3.out, atoiL_snoc, hL.out.2.1]
            show (match Lib.atoiAll x.data.toList with
              | .ok v => some (l ++ [v])
              | _ => none) = _
            rw [hv])
          have Hb2 := Lib.hid (show OwnI w2 w.heap.size (.slice A i c) l ∧ Below w.heap.size w w2 ∧ Blk w2 w.heap.size 9 (xs.map Value.string).toArray from
            ⟨hL.out.1.kept hb2, hL.out.2.2.1.trans (hb2.mono hL.out.2.2.1.size), hL.out.2.2.2.below hb2 hL.out.2.2.2.lt⟩)
          clear hb2 hv
          go_wp2_with ((refine wpI_append rfl (.tmp 28) (.tmp 30) rfl w.heap.size _ l [v] (Hb2.out.1.alloc _) rfl rfl rfl (reads_single _ v) (by omega) (by simp) (by have := Hb2.out.2.1.size; simp; omega) ?_; intro A3 n3 c3 w3 ho3 hn3 hc3 hg3 hw3 hb3; obtain rfl : n3 = i + 1 := (by rw [hn3, ← hL.out.1.len.1]; simp); have Ho3 := Lib.hid (And.intro ho3 (And.intro (hb3 _ (Hb2.out.2.1.alloc (Hb2.out.2.1.size) _)) hg3)); clear ho3 hn3 hc3 hg3 hw3 hb3))
          have HF := Lib.hid (show Blk w3 w.heap.size 9 (xs.map Value.string).toArray from (Hb2.out.2.2.alloc _).grown Ho3.out.2.2 (fun e => own_blk_ne (Hb2.out.1.alloc (.cells #[.int .i64 v] 3)) (Hb2.out.2.2.alloc _) (by decide) e.symm))
          go_roundg (n - (i + 1))
          case measure => have := Hr.out; omega
          case rel => exact ⟨i + 1, A3, c3, l ++ [v], rfl, by go_num, rfl, by omega, Lib.hid ⟨Ho3.out.1, HA2.out, Ho3.out.2.1, HF.out⟩⟩
        · have HN := Lib.hid (show preadW s.data.toList = none from pread_none HNE.out HSZ.out (by
            rw [← HD.out, ← List.take_append_drop (i + 1) (xs.map (·.data.toList))]
            refine atoiL_front _ _ ?_
            rw [H3.out, atoiL_snoc, hL.out.2.1]
            show (match Lib.atoiAll x.data.toList with
              | .ok v => some (l ++ [v])
              | _ => none) = none
            cases hx2 : Lib.atoiAll x.data.toList with
            | ok v => exact absurd hx2 (hno v)
            | range => rfl
            | _ => rfl))
          have Hb2 := Lib.hid (hL.out.2.2.1.trans (hb2.mono hL.out.2.2.1.size))
          clear hb2 hno
          go_wp2_with fail
          go_ret2
          exact ⟨Hb2.out, .inr ⟨HN.out, rfl⟩⟩
      · have hii : (n : Int) ≤ (i : Int) := by omega
        have hlen := Lib.hid (hL.out.1.len)
        have HLA := Lib.hid (show atoiL (Lib.splitK [32] 0 (Lib.count s.data.toList [32]) s.data.toList) = some l by
          have h := hL.out.2.1
          rw [List.take_of_length_le (by have := H1.out.2.2.1; simp; omega), HD.out] at h
          exact h)
        have hwf : Wf l := atoiL_bounds HLA.out
        have HCK := Lib.hid (check_any (n := 1) (c := 1) (row_one wr (A, c, l) hL.out.1.reads (Nat.le_refl _)) rfl (by decide) (fun r hr => by rw [List.mem_singleton.1 hr]; exact ⟨hwf, by have := hlen.out.1; show l.length ≤ _; omega⟩))
        rw [show (List.map (fun r : SRow => r.2.2) [(A, c, l)]) = [l] from rfl] at HCK
        have hil : i = l.length := hlen.out.1
        rw [show ((A, c, l) : SRow).2.2.length = l.length from rfl, show ((A, c, l) : SRow).1 = A from rfl, show ((A, c, l) : SRow).2.1 = c from rfl, ← hil] at HCK
        clear hwf hil
        go_wp2_with fail
        refine HCK.out.mono ?_
        rintro e w' ⟨rfl, rfl⟩
        by_cases hz : chk [l] = 0
        · rw [hz]
          obtain ⟨T, hT⟩ : ∃ T : ByteArray, T = ⟨(txt l).toArray⟩ := ⟨_, rfl⟩
          have HTx := Lib.hid (rtext_s (f := 61) (args := #[.slice A i c]) hT (text_any (B := (wr.alloc (.cells #[.slice A i c] 22)).heap.size) ((((HV.out.next hL.out.2.2.1).next ((Below.refl _ wr).alloc (Nat.le_refl _) (.cells #[.slice A i c] 22))).1.1).more ((HV.out.next hL.out.2.2.1).next ((Below.refl _ wr).alloc (Nat.le_refl _) (.cells #[.slice A i c] 22))).1.2) (hL.out.1.reads.alloc (Nat.le_refl _) (.cells #[.slice A i c] 22) |>.more (by simp)) (Nat.le_refl _) hlen.out.1 (word_let (chk_one.1 hz).1) (by omega)))
          have hTl : T.toList = txt l := by rw [ByteArray.toList_eq, hT]
          by_cases htx : txt l = s.data.toList
          · have HR := Lib.hid (pread_yes HNE.out HSZ.out HLA.out hz htx)
            have hcmp : (T.toList == s.toList) = true := by rw [hTl, htx, ByteArray.toList_eq]; simp
            clear hTl htx hT hz
            go_wp2_with fail
            refine HTx.out.mono ?_
            rintro e w5 ⟨rfl, hb5⟩
            have Hb5 := Lib.hid ((((Below.refl wr.heap.size wr).alloc (Nat.le_refl _) (.cells #[.slice A i c] 22))).trans (hb5.mono (by simp)))
            clear hb5
            go_wp2_with fail
            go_ret2
            exact ⟨hL.out.2.2.1.trans (Hb5.out.mono hL.out.2.2.1.size), .inl ⟨l, HR.out, A, i, c, rfl, ((Got.of_own hL.out.1 hL.out.2.2.1.size).next Hb5.out).wide (by have h5 := Hb5.out.size; refine ⟨?_, ?_, ?_⟩ <;> omega)⟩⟩
          · have HR := Lib.hid (pread_no HNE.out HSZ.out HLA.out (fun h => htx h.2))
            have hcmp : (T.toList == s.toList) = false := by rw [hTl, ByteArray.toList_eq]; simpa using htx
            clear hTl htx hT hz
            go_wp2_with fail
            refine HTx.out.mono ?_
            rintro e w5 ⟨rfl, hb5⟩
            have Hb5 := Lib.hid ((((Below.refl wr.heap.size wr).alloc (Nat.le_refl _) (.cells #[.slice A i c] 22))).trans (hb5.mono (by simp)))
            clear hb5
            go_wp2_with fail
            go_ret2
            exact ⟨hL.out.2.2.1.trans (Hb5.out.mono hL.out.2.2.1.size), .inr ⟨HR.out, rfl⟩⟩
        · have HR := Lib.hid (pread_no HNE.out HSZ.out HLA.out (fun h => hz h.1))
          obtain ⟨z, hze⟩ : ∃ z, chk [l] = z := ⟨_, rfl⟩
          have hzb : (z != 0) = true := by rw [← hze]; simpa using hz
          rw [hze]
          have Hb5 := Lib.hid (hL.out.2.2.1.trans (((Below.refl wr.heap.size wr).alloc (Nat.le_refl _) (.cells #[.slice A i c] 22)).mono hL.out.2.2.1.size))
          clear hze hz
          go_wp2_with fail
          go_ret2
          exact ⟨Hb5.out, .inr ⟨HR.out, rfl⟩⟩
end Go.Proofs.YtmjnhpagoboejaaDoor

/- ref.Read. -/
namespace Go.Proofs.YtmjnhpagoboejaaDoor
open Go.RowKit
open Wd
set_option linter.unusedSimpArgs false
set_option linter.unusedVariables false

theorem rrun_next {s : List UInt8} {i : Nat} {st : RSt} (h : i < s.length) (hs : rrun (s.take i) (false, 0, false, []) = some st) : rrun (s.take (i + 1)) (false, 0, false, []) = rstep s[i] st := by
  rw [List.take_succ_eq_append_getElem h, rrun_append, hs]
  show rrun [s[i]] st = _
  rw [rrun]
  cases rstep s[i] st <;> rfl
theorem rrun_bad {s : List UInt8} {i : Nat} {st : RSt} (h : i < s.length) (hs : rrun (s.take i) (false, 0, false, []) = some st) (hb : rstep s[i] st = none) : rrun s (false, 0, false, []) = none := by
  have h1 := rrun_next h hs
  rw [hb] at h1
  rw [← List.take_append_drop (i + 1) s, rrun_append, h1]
theorem rread_fail {s : List UInt8} (h1 : s ≠ [46]) (h2 : rrun s (false, 0, false, []) = none) : rreadW s = none := by unfold rreadW; rw [if_neg h1, h2]
theorem rread_yes {s : List UInt8} {neg : Bool} {n : Nat} {som : Bool} {acc l : List Int} (h1 : s ≠ [46]) (h2 : rrun s (false, 0, false, []) = some (neg, n, som, acc)) (hl : l = acc ++ [sgnd neg n]) (h3 : chk [l] = 0) (h4 : txt l = s) : rreadW s = some l := by
  subst hl
  unfold rreadW
  rw [if_neg h1, h2]
  exact if_pos ⟨h3, h4⟩
theorem rread_no {s : List UInt8} {neg : Bool} {n : Nat} {som : Bool} {acc l : List Int} (h1 : s ≠ [46]) (h2 : rrun s (false, 0, false, []) = some (neg, n, som, acc)) (hl : l = acc ++ [sgnd neg n]) (h3 : ¬ (chk [l] = 0 ∧ txt l = s)) : rreadW s = none := by
  subst hl
  unfold rreadW
  rw [if_neg h1, h2]
  exact if_neg h3
def LB (l : List Int) : Prop := ∀ k ∈ l, -1000 ≤ k ∧ k ≤ 1000
theorem lb_snoc {l : List Int} {v : Int} (h : LB l) (hv : -1000 ≤ v ∧ v ≤ 1000) : LB (l ++ [v]) := fun k hk => by
  rcases List.mem_append.1 hk with hk | hk
  · exact h k hk
  · rw [List.mem_singleton.1 hk]; exact hv
/-- where the reader stands -/
def RdAt (s : List UInt8) (i : Nat) (neg : Bool) (n : Nat) (som : Bool) (L : List Int) : Prop :=
  (i ≤ s.length ∧ rrun (s.take i) (false, 0, false, []) = some (neg, n, som, L)) ∨ (i = s.length + 1 ∧ ∃ neg' n' som' acc, rrun s (false, 0, false, []) = some (neg', n', som', acc) ∧ L = acc ++ [sgnd neg' n'])
set_option maxRecDepth 100000 in
set_option maxHeartbeats 4000000 in
theorem rread_dot {w : World} : Calls Tryd.prog 50 #[.string ⟨#[46]⟩] w (ReadOut w (some [])) := by
  go_enter Tryd.func50, Tryd.ntmps50
  go_wp2_with fail
  go_ret2
  exact ⟨Below.refl _ _, .inl ⟨[], rfl, none, 0, 0, rfl, Got.none_ (Nat.le_refl _) (Nat.le_refl _)⟩⟩
set_option maxRecDepth 100000 in
set_option maxHeartbeats 8000000 in
theorem rread_any {w : World} {B : Nat} {s : ByteArray} (hv : VarsX B w) (hs : s.size ≤ 100000) (hne : s.data.toList ≠ [46]) : Calls Tryd.prog 50 #[.string s] w (ReadOut w (rreadW s.data.toList)) := by
  have HV := Lib.hid hv
  have hne2 : (s.toList == [46]) = false := by rw [ByteArray.toList_eq]; simpa using hne
  have HNE := Lib.hid hne
  have HSZ := Lib.hid (show s.data.toList.length = s.size from (Lib.size_eq s).symm)
  clear hv hne
  go_enter Tryd.func50, Tryd.ntmps50
  go_wp2_with fail
  go_loopg [4, 5, 6, 7, 8] (s.size + 1) (fun r v ng nv sm iv' wr => ∃ (i m n : Nat) (A : Option Addr) (c : Nat) (L : List Int) (neg som : Bool), v = .slice A m c ∧ ng = .bool neg ∧ nv = .int .i64 (n : Int) ∧ sm = .bool som ∧ iv' = .int .i64 (i : Int) ∧ r = s.size + 1 - i ∧ i ≤ s.size + 1 ∧ n ≤ 1000 ∧ Hid (OwnI wr w.heap.size (.slice A m c) L ∧ L.length ≤ i ∧ RdAt s.data.toList i neg n som L ∧ Below w.heap.size w wr ∧ LB L))
  case atStart => exact ⟨0, 0, 0, none, 0, [], false, false, rfl, rfl, rfl, rfl, rfl, rfl, by omega, by omega, Lib.hid ⟨OwnI.nil _ _, Nat.le_refl _, .inl ⟨Nat.zero_le _, rfl⟩, Below.refl _ _, fun k hk => by cases hk⟩⟩
  case round =>
    obtain ⟨i, m, n, A, c, L, neg, som, rfl, rfl, rfl, rfl, rfl, hr, hi, hn, hL⟩ := hrel
    have Hr := Lib.hid hr
    clear hr
    by_cases hlt : i < s.size
    · have hii : (i : Int) ≤ (s.size : Int) := by omega
      have hine : ((i : Int) == (s.size : Int)) = false := by simp; omega
      have hii2 : (i : Int) < (s.size : Int) := by omega
      have hil := Lib.hid (show i < s.data.toList.length by have := HSZ.out; omega)
      have Hst := Lib.hid (show rrun (s.data.toList.take i) (false, 0, false, []) = some (neg, n, som, L) by
        rcases hL.out.2.2.1 with ⟨_, h2⟩ | ⟨h1, _⟩
        · exact h2
        · exfalso; have := HSZ.out; omega)
      have Hby := Lib.hid (show s.data.toList[i]'hil.out = s[i] from rfl)
      by_cases hb32' : s[i] = 32
      · have hb32 := Lib.hid (show s.data.toList[i]'hil.out = 32 from hb32')
        have e0 : ((s[i].toNat : Int) == 32) = true := by rw [hb32']; rfl
        clear hb32'
        cases neg
        case false =>
          have HV3 := Lib.hid (show sgnd false n = (n : Int) from rfl)
          have HN := Lib.hid (show RdAt s.data.toList (i + 1) false 0 false (L ++ [(n : Int)]) from .inl ⟨by have := HSZ.out; omega, by rw [rrun_next hil.out Hst.out, rstep_eq, if_pos hb32.out, HV3.out]⟩)
          have hLl : L.length ≤ 100001 := by have := hL.out.2.1; omega
          have hbnd : -1000 ≤ (n : Int) ∧ (n : Int) ≤ 1000 := by omega
          have HLB := Lib.hid (lb_snoc hL.out.2.2.2.2 (v := (n : Int)) hbnd)
          have hml := Lib.hid (hL.out.1.len)
          clear hbnd
          go_wp2_with ((refine wpI_append rfl (.tmp 30) (.tmp 32) rfl w.heap.size _ L [(n : Int)] (hL.out.1.alloc _) rfl rfl rfl (reads_single _ (n : Int)) (by omega) (by simp) (by have := hL.out.2.2.2.1.size; simp; omega) ?_; intro A3 n3 c3 w3 ho3 hn3 hc3 hg3 hw3 hb3; have Ho3 := Lib.hid (And.intro ho3 (And.intro (hb3 _ (hL.out.2.2.2.1.alloc (hL.out.2.2.2.1.size) _)) hn3)); clear ho3 hn3 hc3 hg3 hw3 hb3))
          go_roundg (s.size + 1 - (i + 1))
          case measure => have := Hr.out; omega
          case rel => exact ⟨i + 1, n3, 0, A3, c3, L ++ [(n : Int)], false, false, rfl, rfl, rfl, rfl, by go_num, rfl, by omega, by omega, Lib.hid ⟨Ho3.out.1, by rw [List.length_append]; have := hL.out.2.1; simp; omega, HN.out, Ho3.out.2.1, HLB.out⟩⟩
        case true =>
          have HV3 := Lib.hid (show sgnd true n = (-(n : Int)) from rfl)
          have HN := Lib.hid (show RdAt s.data.toList (i + 1) false 0 false (L ++ [(-(n : Int))]) from .inl ⟨by have := HSZ.out; omega, by rw [rrun_next hil.out Hst.out, rstep_eq, if_pos hb32.out, HV3.out]⟩)
          have hLl : L.length ≤ 100001 := by have := hL.out.2.1; omega
          have hbnd : -1000 ≤ (-(n : Int)) ∧ (-(n : Int)) ≤ 1000 := by omega
          have HLB := Lib.hid (lb_snoc hL.out.2.2.2.2 (v := (-(n : Int))) hbnd)
          have hml := Lib.hid (hL.out.1.len)
          clear hbnd
          go_wp2_with ((refine wpI_append rfl (.tmp 30) (.tmp 32) rfl w.heap.size _ L [(-(n : Int))] (hL.out.1.alloc _) rfl rfl rfl (reads_single _ (-(n : Int))) (by omega) (by simp) (by have := hL.out.2.2.2.1.size; simp; omega) ?_; intro A3 n3 c3 w3 ho3 hn3 hc3 hg3 hw3 hb3; have Ho3 := Lib.hid (And.intro ho3 (And.intro (hb3 _ (hL.out.2.2.2.1.alloc (hL.out.2.2.2.1.size) _)) hn3)); clear ho3 hn3 hc3 hg3 hw3 hb3))
          go_roundg (s.size + 1 - (i + 1))
          case measure => have := Hr.out; omega
          case rel => exact ⟨i + 1, n3, 0, A3, c3, L ++ [(-(n : Int))], false, false, rfl, rfl, rfl, rfl, by go_num, rfl, by omega, by omega, Lib.hid ⟨Ho3.out.1, by rw [List.length_append]; have := hL.out.2.1; simp; omega, HN.out, Ho3.out.2.1, HLB.out⟩⟩
      · have hb32 := Lib.hid (show ¬ s.data.toList[i]'hil.out = 32 from hb32')
        have e0 : ((s[i].toNat : Int) == 32) = false := by
          have h : s[i].toNat ≠ 32 := fun h => hb32' (UInt8.toNat_inj.1 h)
          simp; omega
        clear hb32'
        by_cases hb45' : s[i] = 45
        · have hb45 := Lib.hid (show s.data.toList[i]'hil.out = 45 from hb45')
          have e1 : ((s[i].toNat : Int) == 45) = true := by rw [hb45']; rfl
          have e1' : (s[i].toNat : Int) = 45 := by rw [hb45']; rfl
          have e2 : (s[i].toNat : Int) < 48 := by rw [hb45']; decide
          clear hb45'
          cases som
          case false =>
            cases neg
            case false =>
              have HN := Lib.hid (show RdAt s.data.toList (i + 1) true (n) false L from .inl ⟨by have := HSZ.out; omega, by rw [rrun_next hil.out Hst.out, rstep_eq]; exact (if_neg hb32.out).trans (if_pos ⟨hb45.out, rfl, rfl⟩)⟩)
              clear e2
              go_wp2_with fail
              go_roundg (s.size + 1 - (i + 1))
              case measure => have := Hr.out; omega
              case rel => exact ⟨i + 1, m, n, A, c, L, true, false, rfl, rfl, rfl, rfl, by go_num, rfl, by omega, by omega, Lib.hid ⟨hL.out.1, by have := hL.out.2.1; omega, HN.out, hL.out.2.2.2⟩⟩
            case true =>
              have HB := Lib.hid (rrun_bad hil.out Hst.out (by rw [rstep_eq]; rw [if_neg hb32.out, if_neg (fun h => by cases h.2.2), if_pos (.inl (by rw [hb45.out]; decide))]))
              have HR := Lib.hid (rread_fail HNE.out HB.out)
              go_wp2_with fail
              go_ret2
              exact ⟨hL.out.2.2.2.1, .inr ⟨HR.out, rfl⟩⟩
          case true =>
            have HB := Lib.hid (rrun_bad hil.out Hst.out (by rw [rstep_eq]; rw [if_neg hb32.out, if_neg (fun h => by cases h.2.1), if_pos (.inl (by rw [hb45.out]; decide))]))
            have HR := Lib.hid (rread_fail HNE.out HB.out)
            go_wp2_with fail
            go_ret2
            exact ⟨hL.out.2.2.2.1, .inr ⟨HR.out, rfl⟩⟩
        · have hb45 := Lib.hid (show ¬ s.data.toList[i]'hil.out = 45 from hb45')
          have e1 : ((s[i].toNat : Int) == 45) = false := by
            have h : s[i].toNat ≠ 45 := fun h => hb45' (UInt8.toNat_inj.1 h)
            simp; omega
          have e1' : ¬ (s[i].toNat : Int) = 45 := by
            have h : s[i].toNat ≠ 45 := fun h => hb45' (UInt8.toNat_inj.1 h)
            omega
          clear hb45'
          by_cases hlo : (s[i].toNat : Int) < 48
          · have hlo2 := Lib.hid (show (s.data.toList[i]'hil.out).toNat < 48 by rw [Hby.out]; omega)
            have HB := Lib.hid (rrun_bad hil.out Hst.out (by rw [rstep_eq]; rw [if_neg hb32.out, if_neg (fun h => hb45.out h.1), if_pos (.inl hlo2.out)]))
            have HR := Lib.hid (rread_fail HNE.out HB.out)
            go_wp2_with fail
            go_ret2
            exact ⟨hL.out.2.2.2.1, .inr ⟨HR.out, rfl⟩⟩
          · have hlo3 : (48 : Int) ≤ (s[i].toNat : Int) := by omega
            by_cases hhi : (57 : Int) < (s[i].toNat : Int)
            · have hhi2 := Lib.hid (show 57 < (s.data.toList[i]'hil.out).toNat by rw [Hby.out]; omega)
              have HB := Lib.hid (rrun_bad hil.out Hst.out (by rw [rstep_eq]; rw [if_neg hb32.out, if_neg (fun h => hb45.out h.1), if_pos (.inr hhi2.out)]))
              have HR := Lib.hid (rread_fail HNE.out HB.out)
              go_wp2_with fail
              go_ret2
              exact ⟨hL.out.2.2.2.1, .inr ⟨HR.out, rfl⟩⟩
            · have hhi3 : (s[i].toNat : Int) ≤ 57 := by omega
              have HD2 := Lib.hid (show ¬ ((s.data.toList[i]'hil.out).toNat < 48 ∨ 57 < (s.data.toList[i]'hil.out).toNat) by rw [Hby.out]; omega)
              have HC := Lib.hid (show min (10 * n + ((s.data.toList[i]'hil.out).toNat - 48)) 1000 = min (10 * n + (s[i].toNat - 48)) 1000 by rw [Hby.out])
              have HCc := Lib.hid (show ((min (10 * n + (s[i].toNat - 48)) 1000 : Nat) : Int) = min (10 * (n : Int) + ((s[i].toNat : Int) - 48)) 1000 by omega)
              have HN := Lib.hid (show RdAt s.data.toList (i + 1) neg (min (10 * n + (s[i].toNat - 48)) 1000) true L from .inl ⟨by have := HSZ.out; omega, by rw [rrun_next hil.out Hst.out, rstep_eq]; rw [if_neg hb32.out, if_neg (fun h => hb45.out h.1), if_neg HD2.out, HC.out]⟩)
              clear hlo hhi
              go_wp2_with fail
              go_roundg (s.size + 1 - (i + 1))
              case measure => have := Hr.out; omega
              case rel => exact ⟨i + 1, m, min (10 * n + (s[i].toNat - 48)) 1000, A, c, L, neg, true, rfl, rfl, by rw [HCc.out]; rfl, rfl, by go_num, rfl, by omega, by omega, Lib.hid ⟨hL.out.1, by have := hL.out.2.1; omega, HN.out, hL.out.2.2.2⟩⟩
    · by_cases hend : i = s.size
      · have hii : (i : Int) ≤ (s.size : Int) := by omega
        have hieq : ((i : Int) == (s.size : Int)) = true := by rw [hend]; simp
        have Hend := Lib.hid hend
        clear hend
        cases neg
        case false =>
          have HV3 := Lib.hid (show sgnd false n = (n : Int) from rfl)
          have HN := Lib.hid (show RdAt s.data.toList (i + 1) false 0 false (L ++ [(n : Int)]) from by
            rcases hL.out.2.2.1 with ⟨h1, h2⟩ | ⟨h1, _⟩
            · rw [List.take_of_length_le (by have := HSZ.out; have := Hend.out; omega)] at h2
              exact .inr ⟨by have := HSZ.out; have := Hend.out; omega, false, n, som, L, h2, by rw [HV3.out]⟩
            · exfalso; have := HSZ.out; have := Hend.out; omega)
          have hLl : L.length ≤ 100001 := by have := hL.out.2.1; omega
          have hbnd : -1000 ≤ (n : Int) ∧ (n : Int) ≤ 1000 := by omega
          have HLB := Lib.hid (lb_snoc hL.out.2.2.2.2 (v := (n : Int)) hbnd)
          have hml := Lib.hid (hL.out.1.len)
          clear hbnd
          go_wp2_with ((refine wpI_append rfl (.tmp 30) (.tmp 32) rfl w.heap.size _ L [(n : Int)] (hL.out.1.alloc _) rfl rfl rfl (reads_single _ (n : Int)) (by omega) (by simp) (by have := hL.out.2.2.2.1.size; simp; omega) ?_; intro A3 n3 c3 w3 ho3 hn3 hc3 hg3 hw3 hb3; have Ho3 := Lib.hid (And.intro ho3 (And.intro (hb3 _ (hL.out.2.2.2.1.alloc (hL.out.2.2.2.1.size) _)) hn3)); clear ho3 hn3 hc3 hg3 hw3 hb3))
          go_roundg (s.size + 1 - (i + 1))
          case measure => have := Hr.out; omega
          case rel => exact ⟨i + 1, n3, 0, A3, c3, L ++ [(n : Int)], false, false, rfl, rfl, rfl, rfl, by go_num, rfl, by omega, by omega, Lib.hid ⟨Ho3.out.1, by rw [List.length_append]; have := hL.out.2.1; simp; omega, HN.out, Ho3.out.2.1, HLB.out⟩⟩
        case true =>
          have HV3 := Lib.hid (show sgnd true n = (-(n : Int)) from rfl)
          have HN := Lib.hid (show RdAt s.data.toList (i + 1) false 0 false (L ++ [(-(n : Int))]) from by
            rcases hL.out.2.2.1 with ⟨h1, h2⟩ | ⟨h1, _⟩
            · rw [List.take_of_length_le (by have := HSZ.out; have := Hend.out; omega)] at h2
              exact .inr ⟨by have := HSZ.out; have := Hend.out; omega, true, n, som, L, h2, by rw [HV3.out]⟩
            · exfalso; have := HSZ.out; have := Hend.out; omega)
          have hLl : L.length ≤ 100001 := by have := hL.out.2.1; omega
          have hbnd : -1000 ≤ (-(n : Int)) ∧ (-(n : Int)) ≤ 1000 := by omega
          have HLB := Lib.hid (lb_snoc hL.out.2.2.2.2 (v := (-(n : Int))) hbnd)
          have hml := Lib.hid (hL.out.1.len)
          clear hbnd
          go_wp2_with ((refine wpI_append rfl (.tmp 30) (.tmp 32) rfl w.heap.size _ L [(-(n : Int))] (hL.out.1.alloc _) rfl rfl rfl (reads_single _ (-(n : Int))) (by omega) (by simp) (by have := hL.out.2.2.2.1.size; simp; omega) ?_; intro A3 n3 c3 w3 ho3 hn3 hc3 hg3 hw3 hb3; have Ho3 := Lib.hid (And.intro ho3 (And.intro (hb3 _ (hL.out.2.2.2.1.alloc (hL.out.2.2.2.1.size) _)) hn3)); clear ho3 hn3 hc3 hg3 hw3 hb3))
          go_roundg (s.size + 1 - (i + 1))
          case measure => have := Hr.out; omega
          case rel => exact ⟨i + 1, n3, 0, A3, c3, L ++ [(-(n : Int))], false, false, rfl, rfl, rfl, rfl, by go_num, rfl, by omega, by omega, Lib.hid ⟨Ho3.out.1, by rw [List.length_append]; have := hL.out.2.1; simp; omega, HN.out, Ho3.out.2.1, HLB.out⟩⟩
      · have hii : (s.size : Int) < (i : Int) := by omega
        obtain ⟨neg', n', som', acc, hrun, hacc⟩ : ∃ neg' n' som' acc, rrun s.data.toList (false, 0, false, []) = some (neg', n', som', acc) ∧ L = acc ++ [sgnd neg' n'] := by
          rcases hL.out.2.2.1 with ⟨h1, _⟩ | ⟨_, h2⟩
          · exfalso; have := HSZ.out; omega
          · exact h2
        have HRUN := Lib.hid (And.intro hrun hacc)
        have hlen := Lib.hid (hL.out.1.len)
        have hm : m ≤ 200000 := by have h1 := hL.out.2.1; have h2 := hlen.out.1; omega
        have hwf : Wf L := fun k hk => by have := hL.out.2.2.2.2 k hk; omega
        clear hrun hacc
        have HCK := Lib.hid (rcheck_any (n := m) (c := c) hL.out.1.reads hlen.out.1 (by omega) hwf)
        clear hwf
        go_wp2_with fail
        refine HCK.out.mono ?_
        rintro e w' ⟨rfl, rfl⟩
        by_cases hz : chk [L] = 0
        · rw [hz]
          obtain ⟨T, hT⟩ : ∃ T : ByteArray, T = ⟨(txt L).toArray⟩ := ⟨_, rfl⟩
          have HTx := Lib.hid (rtext_s (f := 28) (args := #[.slice A m c]) hT (rtext_any hL.out.1.reads (Nat.le_refl _) hlen.out.1 (word_let (chk_one.1 hz).1) (by have h1 := hL.out.2.1; have h2 := (chk_one.1 hz).2; have h3 := hlen.out.1; omega)))
          have hTl : T.toList = txt L := by rw [ByteArray.toList_eq, hT]
          by_cases htx : txt L = s.data.toList
          · have HR := Lib.hid (rread_yes HNE.out HRUN.out.1 HRUN.out.2 hz htx)
            have hcmp : (T.toList == s.toList) = true := by rw [hTl, htx, ByteArray.toList_eq]; simp
            clear hTl htx hT hz
            go_wp2_with fail
            refine HTx.out.mono ?_
            rintro e w5 ⟨rfl, hb5⟩
            have Hb5 := Lib.hid hb5
            clear hb5
            go_wp2_with fail
            go_ret2
            exact ⟨hL.out.2.2.2.1.trans (Hb5.out.mono hL.out.2.2.2.1.size), .inl ⟨L, HR.out, A, m, c, rfl, ((Got.of_own hL.out.1 hL.out.2.2.2.1.size).next Hb5.out).wide (by have h5 := Hb5.out.size; refine ⟨?_, ?_, ?_⟩ <;> omega)⟩⟩
          · have HR := Lib.hid (rread_no HNE.out HRUN.out.1 HRUN.out.2 (fun h => htx h.2))
            have hcmp : (T.toList == s.toList) = false := by rw [hTl, ByteArray.toList_eq]; simpa using htx
            clear hTl htx hT hz
            go_wp2_with fail
            refine HTx.out.mono ?_
            rintro e w5 ⟨rfl, hb5⟩
            have Hb5 := Lib.hid hb5
            clear hb5
            go_wp2_with fail
            go_ret2
            exact ⟨hL.out.2.2.2.1.trans (Hb5.out.mono hL.out.2.2.2.1.size), .inr ⟨HR.out, rfl⟩⟩
        · have HR := Lib.hid (rread_no HNE.out HRUN.out.1 HRUN.out.2 (fun h => hz h.1))
          obtain ⟨z, hze⟩ : ∃ z, chk [L] = z := ⟨_, rfl⟩
          have hzb : (z != 0) = true := by rw [← hze]; simpa using hz
          rw [hze]
          clear hze hz
          go_wp2_with fail
          go_ret2
          exact ⟨hL.out.2.2.2.1, .inr ⟨HR.out, rfl⟩⟩
end Go.Proofs.YtmjnhpagoboejaaDoor

/- law.WordsTexts. -/
namespace Go.Proofs.YtmjnhpagoboejaaDoor
open Go.RowKit
open Wd
set_option linter.unusedSimpArgs false
set_option linter.unusedVariables false

theorem dot_of {s : ByteArray} (h : s.data.toList = [46]) : s = ⟨#[46]⟩ := by
  obtain ⟨⟨l⟩⟩ := s
  have h : l = [46] := h
  rw [h]
theorem wread_all {w : World} {B : Nat} {s : ByteArray} (hv : VarsX B w) (hs : s.size ≤ 100000) : Calls Tryd.prog 49 #[.string s] w (ReadOut w (preadW s.data.toList)) := by
  by_cases h : s.data.toList = [46]
  · rw [h, dot_of h]
    exact wread_dot
  · exact wread_any hv hs h
theorem rread_all {w : World} {B : Nat} {s : ByteArray} (hv : VarsX B w) (hs : s.size ≤ 100000) : Calls Tryd.prog 50 #[.string s] w (ReadOut w (preadW s.data.toList)) := by
  rw [reads_same]
  by_cases h : s.data.toList = [46]
  · rw [h, dot_of h]
    exact rread_dot
  · exact rread_any hv hs h
/-- a word and a number -/
theorem readOut_two {w : World} {R : Option (List Int)} {e : Ending} {w' : World} (h : ReadOut w R e w') : ∃ A n k, e = .returned (.tuple #[.slice A n k, .int .i64 (if R.isSome then 0 else 260)]) ∧ Got w' w.heap.size w'.heap.size A n k (R.getD []) ∧ Below w.heap.size w w' := by
  obtain ⟨hb, ⟨l, rfl, A, n, k, rfl, hg⟩ | ⟨rfl, rfl⟩⟩ := h
  · exact ⟨A, n, k, rfl, hg, hb⟩
  · exact ⟨none, 0, 0, rfl, Got.none_ hb.size (Nat.le_refl _), hb⟩
set_option maxRecDepth 100000 in
set_option maxHeartbeats 4000000 in
theorem texts_law {w : World} {B : Nat} {s : ByteArray} (hv : VarsX B w) (hs : s.size ≤ 9223372036854775807) :
    Calls Tryd.prog 9 #[.string s] w (fun e w' => e = .returned (.bool true) ∧ Below w.heap.size w w') := by
  have HV := Lib.hid hv
  clear hv
  by_cases hbig : 20000 < s.size
  · have hbi : (20000 : Int) < (s.size : Int) := by omega
    go_enter Tryd.func9, Tryd.ntmps9
    go_wp2_with fail
    refine (known_any HV.out.1.1 HV.out.1.2).mono ?_
    rintro e w1 ⟨rfl, hb1⟩
    have Hb := Lib.hid hb1
    clear hb1
    go_wp2_with fail
    go_ret
    exact ⟨rfl, Hb.out⟩
  · have hbi : (s.size : Int) ≤ 20000 := by omega
    have hsz : s.size ≤ 100000 := by omega
    obtain ⟨R, hR⟩ : ∃ R, R = preadW s.data.toList := ⟨_, rfl⟩
    obtain ⟨z, hz⟩ : ∃ z : Int, z = if R.isSome then 0 else 260 := ⟨_, rfl⟩
    obtain ⟨l, hl⟩ : ∃ l, l = R.getD [] := ⟨_, rfl⟩
    have HW := Lib.hid (fun (W : World) (h : VarsX B W) => show Calls Tryd.prog 49 #[.string s] W (fun e w' => ∃ A n k, e = .returned (.tuple #[.slice A n k, .int .i64 z]) ∧ Got w' W.heap.size w'.heap.size A n k l ∧ Below W.heap.size W w') by
      refine (wread_all h hsz).mono fun e w' h => ?_
      rw [← hR] at h
      rw [hz, hl]
      exact readOut_two h)
    have HRf := Lib.hid (fun (W : World) (h : VarsX B W) => show Calls Tryd.prog 50 #[.string s] W (fun e w' => ∃ A n k, e = .returned (.tuple #[.slice A n k, .int .i64 z]) ∧ Got w' W.heap.size w'.heap.size A n k l ∧ Below W.heap.size W w') by
      refine (rread_all h hsz).mono fun e w' h => ?_
      rw [← hR] at h
      rw [hz, hl]
      exact readOut_two h)
    have hll : l.length ≤ 100000000 := by
      rw [hl]
      cases hR2 : R with
      | none => simp
      | some l2 =>
        have h1 := (chk_one.1 (pread_some (by rw [← hR, hR2] : preadW s.data.toList = some l2)).1).2
        show l2.length ≤ _
        omega
    clear hR hz hl hbig
    go_enter Tryd.func9, Tryd.ntmps9
    go_wp2_with fail
    refine (HW.out w HV.out).mono ?_
    rintro e w1 ⟨A1, n1, k1, rfl, hg1, hb1⟩
    have HV1 := Lib.hid (HV.out.next hb1)
    have G1 := Lib.hid (And.intro hg1 hb1)
    clear hg1 hb1
    go_wp2_with fail
    refine (HW.out w1 HV1.out).mono ?_
    rintro e w2 ⟨A2, n2, k2, rfl, hg2, hb2⟩
    have HV2 := Lib.hid (HV1.out.next hb2)
    have G2 := Lib.hid (And.intro hg2 hb2)
    clear hg2 hb2
    go_wp2_with fail
    refine (HRf.out w2 HV2.out).mono ?_
    rintro e w3 ⟨A3, n3, k3, rfl, hg3, hb3⟩
    have HV3 := Lib.hid (HV2.out.next hb3)
    have G3 := Lib.hid (And.intro hg3 hb3)
    clear hg3 hb3
    go_wp2_with fail
    refine (told_got ((G1.out.1.next G2.out.2).next G3.out.2) ((G2.out.1.next G3.out.2).away (Nat.le_refl _)) (G3.out.1.away G2.out.2.size) rfl rfl G2.out.1.len.1 G3.out.1.len.1 (by have := G1.out.1.len.1; omega)).mono ?_
    rintro e w4 ⟨rfl, ho⟩
    have HB4 := Lib.hid (show Below w.heap.size w w4 from (((G1.out.2.trans (G2.out.2.mono G1.out.2.size)).trans (G3.out.2.mono (Nat.le_trans G1.out.2.size G2.out.2.size)))).trans (ho.below (by have := G1.out.2.size; have := G2.out.2.size; have := G3.out.2.size; omega)))
    clear ho
    have HT4 := Lib.hid (HV.out.1.next HB4.out)
    go_wp2_with fail
    refine (known_any HT4.out.1 HT4.out.2).mono ?_
    rintro e w5 ⟨rfl, hb5⟩
    have Hb5 := Lib.hid hb5
    clear hb5
    go_wp2_with fail
    go_ret
    exact ⟨rfl, HB4.out.trans (Hb5.out.mono HB4.out.size)⟩
end Go.Proofs.YtmjnhpagoboejaaDoor

/- What the rows of WordsTexts and WordsLaws list, opened; a world for the witness. -/
namespace Go.Proofs.YtmjnhpagoboejaaDoor.Laid
open Go.ChangeShapes Go.WideShapes Go.ChangeAt Go.RowKit
open Wd

def L7 : List (String × DataW Unit) := [("math/bits.deBruijn32tab", Rows.laid_math_bits_deBruijn32tab), ("math/bits.deBruijn64tab", Rows.laid_math_bits_deBruijn64tab), ("internal/strconv.uint64pow10", Rows.laid_internal_strconv_uint64pow10), ("unicode/utf8.acceptRanges", Rows.laid_unicode_utf8_acceptRanges), ("strconv.ErrRange", Rows.laid_strconv_ErrRange), ("strconv.ErrSyntax", Rows.laid_strconv_ErrSyntax), ("unicode/utf8.first", Rows.laid_unicode_utf8_first)]
theorem gRange : Tryd.prog.globalNamed "strconv.ErrRange" = some 1 := by kernel_rfl
theorem gRangeType : (Tryd.prog.globals[1]?).map (·.type) = some 98 := by kernel_rfl
theorem gSyn : Tryd.prog.globalNamed "strconv.ErrSyntax" = some 0 := by kernel_rfl
theorem gSynType : (Tryd.prog.globals[0]?).map (·.type) = some 98 := by kernel_rfl
theorem cells149 : Tryd.prog.cellsOf 149 = 1 := by kernel_rfl
theorem cells9 : Tryd.prog.cellsOf 9 = 1 := by kernel_rfl
theorem star : "*" ++ "errors.errorString" = "*errors.errorString" := by decide
theorem row147 (u : TypeId) (h : Tryd.prog.typeName? 3 u = some "*errors.errorString") : u = 147 :=
  typeName_ptr_named (nm := "errors.errorString") (by rw [star]; kernel_rfl) (by kernel_rfl) (by decide) u (by rw [star]; exact h)
theorem table7 {W : World} (h : laidMetH Tryd.prog L7 W) : TabX W.heap.size W := by
  have h1 := h.filter (fun x => x.1 == "internal/strconv.uint64pow10")
  have e : L7.filter (fun x => x.1 == "internal/strconv.uint64pow10") = [("internal/strconv.uint64pow10", Lib.tabData .u64 Lib.pow10Tab)] := by
    rw [← pow10_is]
    rfl
  rw [e, Go.MakeChecks.laidMetH_plain _ _ _ (by kernel_rfl)] at h1
  have ht : Lib.TabIs Tryd.prog W "internal/strconv.uint64pow10" .u64 Lib.pow10Tab := Lib.tabIs_of_head (rest := []) gTab gTabType Tryd.underlying151 Tryd.underlying57 cells57 cells151 h1
  exact ⟨Lib.tabBelow_of_tabIs ht, Nat.le_refl _⟩
theorem vars7 {W : World} (h : laidMetH Tryd.prog L7 W) (hsh : W.ShapedOpen Tryd.prog) : VarsX W.heap.size W := by
  have h1 := h.filter (fun x => x.1 == "strconv.ErrSyntax")
  have e1 : L7.filter (fun x => x.1 == "strconv.ErrSyntax") = [("strconv.ErrSyntax", Rows.laid_strconv_ErrSyntax)] := by rfl
  rw [e1, Go.MakeChecks.laidMetH_plain _ _ _ (by kernel_rfl)] at h1
  have h2 := h.filter (fun x => x.1 == "strconv.ErrRange")
  have e2 : L7.filter (fun x => x.1 == "strconv.ErrRange") = [("strconv.ErrRange", Rows.laid_strconv_ErrRange)] := by rfl
  rw [e2, Go.MakeChecks.laidMetH_plain _ _ _ (by kernel_rfl)] at h2
  obtain ⟨a1, s1, hv1, _, _, _⟩ := laid_sentinel h1 gSyn gSynType Tryd.underlying98 row147 Tryd.underlying147 Tryd.underlying149 rfl rfl Tryd.underlying9 cells149 cells9
  obtain ⟨a2, s2, hv2, _, _, _⟩ := laid_sentinel h2 gRange gRangeType Tryd.underlying98 row147 Tryd.underlying147 Tryd.underlying149 rfl rfl Tryd.underlying9 cells149 cells9
  have c1 := World.var?_cell gSyn hv1 0
  have c2 := World.var?_cell gRange hv2 0
  exact ⟨table7 h, cell_of_shapedOpen_int (P := Tryd.prog) (g := 2) (t := 3) (zero := #[.int .i64 0]) hsh (of_decide_eq_true (by kernel_rfl)) (by kernel_rfl) rfl (by kernel_rfl) (by kernel_rfl) Tryd.underlying3, ⟨_, _, by simpa using c1⟩, ⟨_, _, by simpa using c2⟩⟩
def numArr (l : List Nat) : Array Value := (l.map fun (n : Nat) => Value.int .u8 (Int.ofNat n)).toArray
def tabFirst : Array Value := numArr Go.Pinned.utf8FirstZ
def rangesOf (d : DataW Unit) : List Value := match d with
  | .agg l => l.flatMap fun x => match x with
    | .agg r => r.map fun y => match y with
      | .lit (.int k n) => Value.int k n
      | _ => Value.int .u8 0
    | _ => []
  | _ => []
def tabRanges : Array Value := (rangesOf Rows.laid_unicode_utf8_acceptRanges).toArray
def synS : ByteArray := ⟨#[105, 110, 118, 97, 108, 105, 100, 32, 115, 121, 110, 116, 97, 120]⟩
def rngS : ByteArray := ⟨#[118, 97, 108, 117, 101, 32, 111, 117, 116, 32, 111, 102, 32, 114, 97, 110, 103, 101]⟩
noncomputable def low : Nat := (World.holding Tryd.prog default ⟨#[], #[], []⟩).heap.size
def put (g : Nat) (cs : Array Value) (h : Array Obj) : Array Obj := h.modify g (fun o => match o with | .cells _ t frozen => .cells cs t frozen | o => o)
noncomputable def laidWorld7 (os : Os) : World :=
  { World.holding Tryd.prog os ⟨#[.cells #[.string synS] 149, .cells #[.string rngS] 149], #[], []⟩ with heap := put 0 #[.iface 147 (.pointer (some ⟨low, 0, none⟩))] (put 1 #[.iface 147 (.pointer (some ⟨low + 1, 0, none⟩))] (put 3 tabPow (put 4 tabFirst (put 5 tabRanges (put 6 tab32 (put 7 tab64 (World.holding Tryd.prog os ⟨#[.cells #[.string synS] 149, .cells #[.string rngS] 149], #[], []⟩).heap)))))) }
theorem laid7_met (os : Os) : laidMet Tryd.prog L7 ((laidWorld7 os).forCall (fun _ _ => 0) ⟨#[], #[.string ⟨#[]⟩], []⟩).memory :=
  laidMet_of_run' 8 (by kernel_rfl) (by kernel_rfl)
end Go.Proofs.YtmjnhpagoboejaaDoor.Laid
