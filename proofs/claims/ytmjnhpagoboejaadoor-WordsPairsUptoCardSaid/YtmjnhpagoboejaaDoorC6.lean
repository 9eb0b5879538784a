import Derived.Test.YtmjnhpagoboejaaDoorC4
import Derived.Test.YtmjnhpagoboejaaDoorC5
import Derived.Test.YtmjnhpagoboejaaDoorC3
/- words.Commute, ref.Commute. -/
namespace Go.Proofs.YtmjnhpagoboejaaDoor
open Go.RowKit
open Wd
set_option linter.unusedSimpArgs false
set_option linter.unusedVariables false

def commB (a b : List Int) : Bool := decide (onl (short a) b = onl (short b) a)
set_option maxRecDepth 100000 in
set_option maxHeartbeats 2000000 in
theorem wcomm_out {w : World} {B na ca nb cb : Nat} {Aa Ab : Option Addr} {a b : List Int} (hra : ReadsI w B Aa a) (hrb : ReadsI w B Ab b) (hB : B ≤ w.heap.size) (hna : na = a.length) (hnb : nb = b.length) (hwa : Wf a) (hwb : Wf b) (hla : na ≤ 100000000) (hlb : nb ≤ 100000000) :
    Calls Tryd.prog 43 #[.slice Aa na ca, .slice Ab nb cb] w (AskOut w (.bool (decide (chk [a, b] = 0) && commB a b)) (chk [a, b])) := by
  have h2 := rows_lit w [(Aa, ca, a), (Ab, cb, b)] (B := B) (fun r hr => by
    simp only [List.mem_cons, List.mem_nil_iff, or_false] at hr
    rcases hr with rfl | rfl
    · exact hra
    · exact hrb) hB
  have hall : ∀ r ∈ [((Aa, ca, a) : SRow), (Ab, cb, b)], Wf r.2.2 ∧ r.2.2.length ≤ 1000000000000 := fun r hr => by
    simp only [List.mem_cons, List.mem_nil_iff, or_false] at hr
    rcases hr with rfl | rfl
    · exact ⟨hwa, by show a.length ≤ _; omega⟩
    · exact ⟨hwb, by show b.length ≤ _; omega⟩
  have HC := Lib.hid (show Calls Tryd.prog 57 #[.slice (some ⟨w.heap.size, 0, none⟩) 2 2] (w.alloc (.cells #[.slice Aa na ca, .slice Ab nb cb] 22)) (fun e w' => e = .returned (.int .i64 (chk [a, b])) ∧ w.alloc (.cells #[.slice Aa na ca, .slice Ab nb cb] 22) = w') by
    rw [hna, hnb]; exact check_any (c := 2) (n := 2) h2 rfl (by decide) hall)
  obtain ⟨W, hW⟩ : ∃ W, W = w.alloc (.cells #[.slice Aa na ca, .slice Ab nb cb] 22) := ⟨_, rfl⟩
  have HB0 := Lib.hid (show Below w.heap.size w W by rw [hW]; exact (Below.refl w.heap.size w).alloc (Nat.le_refl _) _)
  have hsW : w.heap.size ≤ W.heap.size := HB0.out.size
  clear h2 hall
  by_cases hz : chk [a, b] = 0
  · rw [hz] at HC ⊢
    have hlets := chk_words hz
    have hlA := hlets a (by simp)
    have hlB := hlets b (by simp)
    have HR := Lib.hid (And.intro (show ReadsI W W.heap.size Aa a by rw [hW]; exact (hra.alloc hB _).more (by simp; omega)) (show ReadsI W W.heap.size Ab b by rw [hW]; exact (hrb.alloc hB _).more (by simp; omega)))
    have Hn := Lib.hid (And.intro hna hnb)
    have HL := Lib.hid (And.intro hlA hlB)
    have hsa := short_len_le a
    have hsb := short_len_le b
    have HO := Lib.hid (fun (V : World) (B' n' c' nx cx : Nat) (A' Ax : Option Addr) (out l : List Int) (ho : OwnI V B' (.slice A' n' c') out) (hr : ReadsI V W.heap.size Ax l) (hW' : W.heap.size ≤ B') (hB' : B' ≤ V.heap.size) (hn : nx = l.length) (hl : LetL l) (h1 : out.length ≤ 10000) (h2 : l.length ≤ 10000) => on_any (cw := cx) ho (hr.more hW') hB' hn hl (by omega) (by omega))
    have Hs := Lib.hid (show (short a).length ≤ 4096 ∧ (short b).length ≤ 4096 by omega)
    have Hb := Lib.hid (show (decide ((0 : Int) = 0) && commB a b) = decide (onl (short a) b = onl (short b) a) by simp [commB])
    rw [Hb.out]
    have HW := Lib.hid hW
    clear hW
    clear hra hrb hB hna hnb hwa hwb hz hlets hlA hlB hsa hsb
    go_enter Tryd.func43, Tryd.ntmps43
    go_wp2_with fail
    refine HC.out.mono ?_
    rintro e w' ⟨rfl, hw'⟩
    have hw2 : W = w' := HW.out.trans hw'
    clear hw'
    subst hw2
    go_wp2_with fail
    refine (HO.out W W.heap.size 0 0 na ca none Aa [] a (OwnI.nil _ _) HR.out.1 (Nat.le_refl _) (Nat.le_refl _) Hn.out.1 HL.out.1.1 (by decide) (by have := HL.out.1.2; omega)).mono ?_
    rintro e w2 ⟨A2, n2, c2, rfl, ho2, hg2, _⟩
    have H2 := Lib.hid (show OwnI w2 W.heap.size (.slice A2 n2 c2) (short a) ∧ Below W.heap.size W w2 from ⟨ho2, (Below.refl _ _).grown hg2 (Nat.le_refl _) (fun g hg => by cases hg)⟩)
    clear ho2 hg2
    go_wp2_with fail
    refine (HO.out w2 W.heap.size n2 c2 nb cb A2 Ab (short a) b H2.out.1 (HR.out.2.below H2.out.2) (Nat.le_refl _) H2.out.2.size Hn.out.2 HL.out.2.1 (by have := Hs.out; omega) (by have := HL.out.2.2; omega)).mono ?_
    rintro e w3 ⟨A3, n3, c3, rfl, ho3, hg3, _⟩
    have H3 := Lib.hid (show OwnI w3 W.heap.size (.slice A3 n3 c3) (onl (short a) b) ∧ Below W.heap.size W w3 from ⟨ho3, H2.out.2.grown hg3 H2.out.2.size (fun g hg => (H2.out.1.lt g hg).1)⟩)
    clear ho3 hg3
    go_wp2_with fail
    refine (HO.out w3 w3.heap.size 0 0 nb cb none Ab [] b (OwnI.nil _ _) (HR.out.2.below H3.out.2) H3.out.2.size (Nat.le_refl _) Hn.out.2 HL.out.2.1 (by decide) (by have := HL.out.2.2; omega)).mono ?_
    rintro e w4 ⟨A4, n4, c4, rfl, ho4, hg4, _⟩
    have hb4 : Below w3.heap.size w3 w4 := (Below.refl _ _).grown hg4 (Nat.le_refl _) (fun g hg => by cases hg)
    have H4 := Lib.hid (show OwnI w4 w3.heap.size (.slice A4 n4 c4) (short b) ∧ OwnI w4 W.heap.size (.slice A3 n3 c3) (onl (short a) b) ∧ Below W.heap.size W w4 ∧ w3.heap.size ≤ w4.heap.size from ⟨ho4, H3.out.1.kept hb4, H3.out.2.trans (hb4.mono H3.out.2.size), hb4.size⟩)
    have Hb4 := Lib.hid hb4
    clear ho4 hg4 hb4
    go_wp2_with fail
    refine (HO.out w4 w3.heap.size n4 c4 na ca A4 Aa (short b) a H4.out.1 (HR.out.1.below H4.out.2.2.1) H3.out.2.size H4.out.2.2.2 Hn.out.1 HL.out.1.1 (by have := Hs.out; omega) (by have := HL.out.1.2; omega)).mono ?_
    rintro e w5 ⟨A5, n5, c5, rfl, ho5, hg5, _⟩
    have H5 := Lib.hid (show OwnI w5 w3.heap.size (.slice A5 n5 c5) (onl (short b) a) ∧ ReadsI w5 w3.heap.size A3 (onl (short a) b) ∧ Below W.heap.size W w5 from ⟨ho5, H3.out.1.reads.below (Hb4.out.grown hg5 H4.out.2.2.2 (fun g hg => (H4.out.1.lt g hg).1)), (H4.out.2.2.1.grown hg5 H4.out.2.2.1.size (fun g hg => Nat.le_trans H3.out.2.size (H4.out.1.lt g hg).1))⟩)
    clear ho5 hg5
    have hl3 := onl_len_le b (short a)
    have hl5 := onl_len_le a (short b)
    have HE := Lib.hid (equal_any (w := w5) (c := c3) (c' := c5) H5.out.2.1 H5.out.1.reads H3.out.1.len.1 H5.out.1.len.1 (by have := H3.out.1.len.1; have := Hs.out; have := HL.out; omega) (by have := H5.out.1.len.1; have := Hs.out; have := HL.out; omega))
    clear hl3 hl5
    generalize onl (short a) b = L3 at *
    generalize onl (short b) a = L5 at *
    go_wp2_with fail
    refine HE.out.mono ?_
    rintro e w6 ⟨d, rfl, rfl⟩
    go_wp2_with fail
    go_ret2
    exact ⟨rfl, HB0.out.trans ((bdrew H5.out.2.2 d).mono hsW)⟩
  · generalize hzz : chk [a, b] = z at *
    have hzb : (z != 0) = true := by simp; exact hz
    have Hd := Lib.hid (show (decide (z = 0) && commB a b) = false by rw [decide_eq_false hz, Bool.false_and])
    rw [Hd.out]
    rw [hW] at HB0
    clear hra hrb hB hna hnb hwa hwb hz hzz Hd hW hsW
    go_enter Tryd.func43, Tryd.ntmps43
    go_wp2_with fail
    refine HC.out.mono ?_
    rintro e w' ⟨rfl, rfl⟩
    go_wp2_with fail
    go_ret2
    exact ⟨rfl, HB0.out⟩
theorem comm_ref {a b : List Int} (ha : Nz a) (hb : Nz b) : short (short a ++ short b) = onl (short a) b := by
  rw [short_left ha, short_right ha hb, short_app]
set_option maxRecDepth 100000 in
set_option maxHeartbeats 2000000 in
/-- the reference's, of short words -/
theorem rcomm_any {w : World} {B na ca nb cb : Nat} {Aa Ab : Option Addr} {a b : List Int} (hra : ReadsI w B Aa a) (hrb : ReadsI w B Ab b) (hB : B ≤ w.heap.size) (hna : na = a.length) (hnb : nb = b.length) (hva : LetL a) (hvb : LetL b) (hla : na ≤ 10000) (hlb : nb ≤ 10000) :
    Calls Tryd.prog 47 #[.slice Aa na ca, .slice Ab nb cb] w (fun e w' => e = .returned (.bool (decide (short (a ++ b) = short (b ++ a)))) ∧ Below w.heap.size w w') := by
  have HJ := Lib.hid (fun (W : World) (h : Below w.heap.size w W) => rjoin2 (w := W) (c1 := ca) (c2 := cb) (hra.below (h.mono hB)) (hrb.below (h.mono hB)) (Nat.le_trans hB h.size) hna hnb (by omega))
  have HJ2 := Lib.hid (fun (W : World) (h : Below w.heap.size w W) => rjoin2 (w := W) (c1 := cb) (c2 := ca) (hrb.below (h.mono hB)) (hra.below (h.mono hB)) (Nat.le_trans hB h.size) hnb hna (by omega))
  have HL := Lib.hid (And.intro (show LetL (a ++ b) from fun k hk => (List.mem_append.1 hk).elim (hva k) (hvb k)) (And.intro (show LetL (b ++ a) from fun k hk => (List.mem_append.1 hk).elim (hvb k) (hva k)) (And.intro (show (a ++ b).length ≤ 20000 by rw [List.length_append]; omega) (show (b ++ a).length ≤ 20000 by rw [List.length_append]; omega))))
  clear hra hrb hB hna hnb hva hvb hla hlb
  generalize a ++ b = L at *
  generalize b ++ a = M at *
  obtain ⟨X, hX⟩ : ∃ X, X = short L := ⟨_, rfl⟩
  obtain ⟨Y, hY⟩ : ∃ Y, Y = short M := ⟨_, rfl⟩
  rw [← hX, ← hY]
  have hl1 := short_len_le L
  have hl2 := short_len_le M
  rw [← hX] at hl1
  rw [← hY] at hl2
  have HX := Lib.hid (And.intro hX (And.intro hY (And.intro hl1 hl2)))
  clear hX hY hl1 hl2
  go_enter Tryd.func47, Tryd.ntmps47
  go_wp2_with fail
  refine (HJ.out w (Below.refl _ _)).mono ?_
  rintro e w1 ⟨A1, n1, c1, rfl, ho1, hb1⟩
  have H1 := Lib.hid (And.intro ho1 hb1)
  clear ho1 hb1
  go_wp2_with fail
  refine (rshort_any (c := c1) H1.out.1.reads (Nat.le_refl _) H1.out.1.len.1 HL.out.1 (by have := H1.out.1.len.1; have := HL.out.2.2.1; omega)).mono ?_
  rintro e w2 ⟨A2, n2, c2, rfl, ho2, hb2⟩
  rw [← HX.out.1] at ho2
  have hs1 := H1.out.2.size
  have H2 := Lib.hid (And.intro ho2 (H1.out.2.trans (hb2.mono hs1)))
  have hs2 := H2.out.2.size
  clear ho2 hb2
  go_wp2_with fail
  refine (HJ2.out w2 H2.out.2).mono ?_
  rintro e w3 ⟨A3, n3, c3, rfl, ho3, hb3⟩
  have H3 := Lib.hid (And.intro ho3 hb3)
  have hs3 := hb3.size
  clear ho3 hb3
  go_wp2_with fail
  refine (rshort_any (c := c3) H3.out.1.reads (Nat.le_refl _) H3.out.1.len.1 HL.out.2.1 (by have := H3.out.1.len.1; have := HL.out.2.2.2; omega)).mono ?_
  rintro e w4 ⟨A4, n4, c4, rfl, ho4, hb4⟩
  rw [← HX.out.2.1] at ho4
  have H4 := Lib.hid (And.intro ho4 (H3.out.2.trans (hb4.mono hs3)))
  clear ho4 hb4
  have HE := Lib.hid (same_any (w := w4) (c := c2) (c' := c4) (H2.out.1.reads.below H4.out.2) H4.out.1.reads H2.out.1.len.1 H4.out.1.len.1 (by have := H2.out.1.len.1; have := HL.out; have := HX.out.2.2; omega) (by have := H4.out.1.len.1; have := HL.out; have := HX.out.2.2; omega))
  go_wp2_with fail
  refine HE.out.mono ?_
  rintro e w6 ⟨d, rfl, rfl⟩
  go_wp2_with fail
  go_ret
  exact ⟨rfl, bdrew (H2.out.2.trans (H4.out.2.mono hs2)) d⟩
end Go.Proofs.YtmjnhpagoboejaaDoor

/- words.Alike, ref.Alike (printed by gen_alike.py). -/
namespace Go.Proofs.YtmjnhpagoboejaaDoor
open Go.RowKit
open Wd
set_option linter.unusedSimpArgs false
set_option linter.unusedVariables false

def rot (a : List Int) (i : Nat) : List Int := a.drop i ++ a.take i
/-- whether b is one of a's rotations from here on; of empty words: yes -/
def alikeN (a b : List Int) : Nat → Nat → Bool
  | 0, _ => decide (a.length = 0)
  | f + 1, i => if rot a i = b then true else alikeN a b f (i + 1)
def alikeL (a b : List Int) : Bool := if a.length = b.length then alikeN a b a.length 0 else false
def alikeB (a b : List Int) : Bool := alikeL (core (short a)) (core (short b))
theorem alikeN_hit {a b : List Int} {i : Nat} (hi : i < a.length) (h : rot a i = b) : alikeN a b (a.length - i) i = true := by
  rw [show a.length - i = (a.length - (i + 1)) + 1 by omega, alikeN, if_pos h]
theorem alikeN_miss {a b : List Int} {i : Nat} (hi : i < a.length) (h : ¬ rot a i = b) : alikeN a b (a.length - i) i = alikeN a b (a.length - (i + 1)) (i + 1) := by
  rw [show a.length - i = (a.length - (i + 1)) + 1 by omega, alikeN, if_neg h]
theorem alikeN_end {a b : List Int} {i : Nat} (hi : a.length ≤ i) : alikeN a b (a.length - i) i = decide (a.length = 0) := by
  rw [show a.length - i = 0 by omega, alikeN]
theorem nat_beq (n : Nat) : (((n : Int)) == 0) = decide (n = 0) := by
  rcases Nat.eq_zero_or_pos n with h | h
  · subst h; rfl
  · rw [decide_eq_false (by omega)]; simp; omega
theorem rot_len (a : List Int) (i : Nat) : (rot a i).length = a.length := by
  unfold rot
  rw [List.length_append, List.length_drop, List.length_take]
  omega
theorem rot_twice {a : List Int} {i : Nat} (hi : i ≤ a.length) : ((a ++ a).drop i).take a.length = rot a i := by
  unfold rot
  rw [List.drop_append, List.take_append, show i - a.length = 0 by omega, List.drop_zero, List.length_drop, show a.length - (a.length - i) = i by omega, List.take_of_length_le (by rw [List.length_drop]; omega)]
set_option maxRecDepth 100000 in
set_option maxHeartbeats 8000000 in
/-- the reference's, of words as they stand -/
theorem ralike_any {w : World} {B na ca nb cb : Nat} {Aa Ab : Option Addr} {a b : List Int} (hra : ReadsI w B Aa a) (hrb : ReadsI w B Ab b) (hB : B ≤ w.heap.size) (hna : na = a.length) (hnb : nb = b.length) (hva : LetL a) (hvb : LetL b) (hla : na ≤ 10000) (hlb : nb ≤ 10000) (hca : na ≤ ca) (hcb : nb ≤ cb) (hma : ca ≤ 9223372036854775807) (hmb : cb ≤ 9223372036854775807) :
    Calls Tryd.prog 46 #[.slice Aa na ca, .slice Ab nb cb] w (fun e w' => e = .returned (.bool (alikeL (core a) (core b))) ∧ Below w.heap.size w w') := by
  have HC1 := Lib.hid (rcore_any hra hB hna hca hva (by omega) hma)
  have HC2 := Lib.hid (fun (W : World) (h : Below w.heap.size w W) => rcore_any (w := W) (hrb.below (h.mono hB)) (Nat.le_trans hB h.size) hnb hcb hvb (by omega) hmb)
  have HB := Lib.hid hB
  have hlc1 := core_len a
  have hlc2 := core_len b
  obtain ⟨X, hX⟩ : ∃ X, X = core a := ⟨_, rfl⟩
  obtain ⟨Y, hY⟩ : ∃ Y, Y = core b := ⟨_, rfl⟩
  obtain ⟨R, hR⟩ : ∃ R, R = alikeL X Y := ⟨_, rfl⟩
  rw [← hX, ← hY, ← hR]
  rw [← hX] at hlc1
  rw [← hY] at hlc2
  obtain ⟨nx, hnx⟩ : ∃ nx, nx = X.length := ⟨_, rfl⟩
  obtain ⟨ny, hny⟩ : ∃ ny, ny = Y.length := ⟨_, rfl⟩
  have HX := Lib.hid (And.intro hX hY)
  have HR := Lib.hid hR
  have HN := Lib.hid (And.intro hnx hny)
  have hx1 : nx ≤ 10000 := by omega
  have hy1 : ny ≤ 10000 := by omega
  clear hra hrb hB hna hnb hva hvb hla hlb hca hcb hma hmb hlc1 hlc2 hX hY hR hnx hny
  go_enter Tryd.func46, Tryd.ntmps46
  go_wp2_with fail
  refine HC1.out.mono ?_
  rintro e w1 ⟨A1, c1, A1', n1', c1', rfl, hr1, hc1, _, hb1⟩
  rw [← HX.out.1] at hr1 hc1 ⊢
  rw [← HN.out.1] at hc1 ⊢
  have H1 := Lib.hid (And.intro hr1 hb1)
  clear hr1 hb1
  go_wp2_with fail
  refine (HC2.out w1 H1.out.2).mono ?_
  rintro e w2 ⟨A2, c2, A2', n2', c2', rfl, hr2, hc2, _, hb2⟩
  rw [← HX.out.2] at hr2 hc2 ⊢
  rw [← HN.out.2] at hc2 ⊢
  have hb12 := H1.out.2.trans (hb2.mono H1.out.2.size)
  have hs2 := hb12.size
  have H2 := Lib.hid (And.intro (show ReadsI w2 w2.heap.size A1 X from ((H1.out.1.below (hb2.mono (Nat.le_trans HB.out H1.out.2.size))).more (Nat.le_trans HB.out hs2))) (And.intro (show ReadsI w2 w2.heap.size A2 Y from hr2.more (Nat.le_trans HB.out hs2)) hb12))
  clear hr2 hb2 hb12
  by_cases hxy : nx = ny
  · subst hxy
    have hbeq : ((nx : Int) != (nx : Int)) = false := by simp
    have HR2 := Lib.hid (show alikeN X Y nx 0 = R by
      rw [HR.out]; unfold alikeL; rw [if_pos (by rw [← HN.out.1, ← HN.out.2]), ← HN.out.1])
    go_wp2_with fail
    go_loopg [9] nx (fun k iv wr => ∃ (i : Nat), iv = .int .i64 (i : Int) ∧ k = nx - i ∧ i ≤ nx ∧ Hid (alikeN X Y (nx - i) i = R) ∧ Hid (Below w2.heap.size w2 wr))
    case atStart => exact ⟨0, rfl, by omega, by omega, Lib.hid (by rw [Nat.sub_zero]; exact HR2.out), Lib.hid (Below.refl _ _)⟩
    case round =>
      obtain ⟨i, rfl, hk, hin, hal, hO⟩ := hrel
      have Hk := Lib.hid hk
      clear hk
      by_cases hi : i < nx
      · have hii : (i : Int) < (nx : Int) := by omega
        obtain ⟨ad, hA1, _, _⟩ := H2.out.1.at_ (k := i) (by rw [← HN.out.1]; exact hi)
        subst hA1
        have hsr := hO.out.size
        have r1 : ReadsI wr wr.heap.size (some (ad.add i)) (X.drop i) := by
          have h := reads_part (H2.out.1.below hO.out) i (X.length - i) (by have := HN.out.1; omega)
          rw [List.take_of_length_le (by rw [List.length_drop]; omega)] at h
          exact h.more hsr
        have r2 : ReadsI wr wr.heap.size (some ad) (X.take i) := (ReadsI.take (m := X.drop i) (by rw [List.take_append_drop]; exact (H2.out.1.below hO.out).more hsr))
        have Hr := Lib.hid (And.intro r1 r2)
        have Hl := Lib.hid (show nx - i = (X.drop i).length ∧ i = (X.take i).length ∧ (X.drop i).length + (X.take i).length ≤ 1000000000 by rw [List.length_drop, List.length_take]; have := HN.out.1; omega)
        have Hhit := Lib.hid (fun h : rot X i = Y => show R = true by rw [← hal.out, HN.out.1]; exact alikeN_hit (by have := HN.out.1; omega) h)
        have Hmiss := Lib.hid (fun h : ¬ rot X i = Y => show alikeN X Y (nx - (i + 1)) (i + 1) = R by rw [← hal.out, HN.out.1]; exact (alikeN_miss (by have := HN.out.1; omega) h).symm)
        clear r1 r2
        have t1 : (i : Int) ≤ (nx : Int) := by omega
        have t2 : (i : Int) ≤ (c1 : Int) := by omega
        have t3 : i ≤ c1 := by omega
        have t4 : i ≤ nx := by omega
        rcases Decidable.em (c1 = i) with hci | hci
        · exfalso; omega
        · go_wp2_with fail
          refine wp_region_noPanic ?_
          refine wp_region_held_drew (S := fun w' => Below wr.heap.size wr w') (by kernel_rfl) (Below.refl _ _).drew (fun hHeld => ?_)
          have b0 : Below wr.heap.size wr wr.drew := hHeld
          have HJ := Lib.hid (rjoin2 (w := wr.drew) (c1 := c1 - i) (c2 := c1) (Hr.out.1.below b0) (Hr.out.2.below b0) b0.size Hl.out.1 Hl.out.2.1 Hl.out.2.2)
          refine wpAnyH_take (i := 0) (oi := Oper.mk (some 31) _ _ _ _ _) (v := ?_) rfl (by kernel_rfl) (by kernel_rfl) (by kernel_rfl) (fun _ _ _ h => h) (Or.inl ⟨by rfl, ?_⟩) (by assumption) ?_
          rotate_left
          · (intro w' hSw; (try dsimp only at hSw); go_simp; try with_reducible rfl)
          try simp only [Act.put, List.setIfInBounds_toArray, List.set_cons_zero, List.set_cons_succ]
          refine wpAnyH_take (i := 1) (oi := Oper.mk (some 32) _ _ _ _ _) (v := ?_) rfl (by kernel_rfl) (by kernel_rfl) (by kernel_rfl) (fun _ _ _ h => h) (Or.inl ⟨by rfl, ?_⟩) (by assumption) ?_
          rotate_left
          · (intro w' hSw; (try dsimp only at hSw); go_simp; try with_reducible rfl)
          try simp only [Act.put, List.setIfInBounds_toArray, List.set_cons_zero, List.set_cons_succ]
          refine wpAnyH_take (i := 2) (oi := Oper.mk (some 33) _ _ _ _ _) (v := ?_) rfl (by kernel_rfl) (by kernel_rfl) (by kernel_rfl) (fun _ _ _ h => h) (Or.inl ⟨by rfl, ?_⟩) (by assumption) ?_
          rotate_left
          · (intro w' hSw; (try dsimp only at hSw); go_simp; try with_reducible rfl)
          try simp only [Act.put, List.setIfInBounds_toArray, List.set_cons_zero, List.set_cons_succ]
          refine wpAnyH_take (i := 3) (oi := Oper.mk (some 34) _ _ _ _ _) (v := ?_) rfl (by kernel_rfl) (by kernel_rfl) (by kernel_rfl) (fun _ _ _ h => h) (Or.inl ⟨by rfl, ?_⟩) (by assumption) ?_
          rotate_left
          · (intro w' hSw; (try dsimp only at hSw); go_simp; try with_reducible rfl)
          try simp only [Act.put, List.setIfInBounds_toArray, List.set_cons_zero, List.set_cons_succ]
          refine wpAnyH_take (i := 4) (oi := Oper.mk (some 35) _ _ _ _ _) (v := ?_) rfl (by kernel_rfl) (by kernel_rfl) (by kernel_rfl) (fun _ _ _ h => h) (Or.inl ⟨by rfl, ?_⟩) (by assumption) ?_
          rotate_left
          · (intro w' hSw; (try dsimp only at hSw); go_simp; try with_reducible rfl)
          try simp only [Act.put, List.setIfInBounds_toArray, List.set_cons_zero, List.set_cons_succ]
          refine wpAnyH_take (i := 5) (oi := Oper.mk (some 36) _ _ _ _ _) (v := ?_) rfl (by kernel_rfl) (by kernel_rfl) (by kernel_rfl) (fun _ _ _ h => h) (Or.inl ⟨by rfl, ?_⟩) (by assumption) ?_
          rotate_left
          · (intro w' hSw; (try dsimp only at hSw); go_simp; try with_reducible rfl)
          try simp only [Act.put, List.setIfInBounds_toArray, List.set_cons_zero, List.set_cons_succ]
          refine wpAnyH_take (i := 8) (oi := Oper.mk (some 39) _ _ _ _ _) (v := ?_) rfl (by kernel_rfl) (by kernel_rfl) (by kernel_rfl) (fun _ _ _ h => h) (Or.inl ⟨by rfl, ?_⟩) (by assumption) ?_
          rotate_left
          · (intro w' hSw; (try dsimp only at hSw); go_simp; try with_reducible rfl)
          try simp only [Act.put, List.setIfInBounds_toArray, List.set_cons_zero, List.set_cons_succ]
          refine wpAnyH_ready (rs := [6]) (by kernel_rfl) (by simp) ?_
          refine AllReadyH.cons (o := Oper.mk (some 37) _ _ _ _ _) rfl (fun K hK => ?_) AllReadyH.nil
          go_simp
          try simp only []
          refine hK.out _ _ (b0.alloc b0.size (.cells #[.slice (some (ad.add i)) (nx - i) (c1 - i), .slice (some ad) i c1] 22)) (fun _ => ?_)
          clear hK K hHeld
          have hHeld := (b0.alloc b0.size (.cells #[.slice (some (ad.add i)) (nx - i) (c1 - i), .slice (some ad) i c1] 22))
          try simp only [Act.put, List.setIfInBounds_toArray, List.set_cons_zero, List.set_cons_succ]
          refine wpAnyH_ready (rs := [7]) (by kernel_rfl) (by simp) ?_
          refine AllReadyH.cons (o := Oper.mk (some 38) _ _ _ _ _) rfl (fun K hK => ?_) AllReadyH.nil
          go_simp
          refine HJ.out.mono ?_
          rintro e w5 ⟨A5, n5, c5, rfl, ho5, hb5⟩
          try simp only []
          have b5 : Below wr.heap.size wr w5 := Below.trans b0 (hb5.mono b0.size)
          have Ho5 := Lib.hid (show OwnI w5 wr.heap.size (.slice A5 n5 c5) (rot X i) from ho5.lower b0.size)
          have HY := Lib.hid (((H2.out.2.1.below hO.out).more hsr).below b5 |>.more b5.size)
          clear hb5 ho5
          refine hK.out _ _ b5 (fun _ => ?_)
          clear hK K hHeld
          have hHeld := b5
          try simp only [Act.put, List.setIfInBounds_toArray, List.set_cons_zero, List.set_cons_succ]
          refine wpAnyH_ready (rs := [9]) (by kernel_rfl) (by simp) ?_
          refine AllReadyH.cons (o := Oper.mk (some 40) _ _ _ _ _) rfl (fun K hK => ?_) AllReadyH.nil
          go_simp
          refine (same_any (w := w5) (c := c5) (c' := c2) Ho5.out.reads HY.out Ho5.out.len.1 HN.out.2 (by have := Ho5.out.len.1; have := rot_len X i; have := HN.out.1; omega) (by omega)).mono ?_
          rintro e w6 ⟨d6, rfl, rfl⟩
          try simp only []
          have b6 : Below wr.heap.size wr (w5.drewN d6) := bdrew b5 d6
          refine hK.out _ _ b6 (fun _ => ?_)
          clear hK K hHeld
          have hHeld := b6
          try simp only [Act.put, List.setIfInBounds_toArray, List.set_cons_zero, List.set_cons_succ]
          refine wpAnyH_done (by kernel_rfl) ?_ _
          refine NoPanic.normal ?_
          rcases Decidable.em (rot X i = Y) with he | he
          · have Hhe := Lib.hid (Hhit.out he)
            rw [decide_eq_true he]
            clear he
            go_wp2_with fail
            go_ret
            exact ⟨by rw [Hhe.out]; rfl, H2.out.2.2.trans ((hO.out.trans (b6.mono hsr)).mono H2.out.2.2.size)⟩
          · have Hhe := Lib.hid (Hmiss.out he)
            rw [decide_eq_false he]
            clear he
            go_wp2_with fail
            go_roundg (nx - (i + 1))
            case measure => have := Hk.out; omega
            case rel => exact ⟨i + 1, rfl, rfl, by omega, Hhe, Lib.hid (hO.out.trans (b6.mono hsr))⟩
      · have hii : (nx : Int) ≤ (i : Int) := by omega
        have hii2 : ¬ (i : Int) < (nx : Int) := by omega
        have Hend := Lib.hid (show R = decide (nx = 0) by rw [← hal.out, HN.out.1]; exact alikeN_end (by have := HN.out.1; omega))
        go_wp2_with fail
        go_ret
        exact ⟨by rw [Hend.out, ← nat_beq nx]; rfl, H2.out.2.2.trans (hO.out.mono H2.out.2.2.size)⟩
  · have hbeq : ((nx : Int) != (ny : Int)) = true := by simp; omega
    have HR2 := Lib.hid (show R = false by
      rw [HR.out]; unfold alikeL; rw [if_neg (by rw [← HN.out.1, ← HN.out.2]; exact hxy)])
    go_wp2_with fail
    go_ret
    exact ⟨by rw [HR2.out]; rfl, H2.out.2.2⟩
set_option maxRecDepth 100000 in
set_option maxHeartbeats 8000000 in
theorem walike_out {w : World} {B na ca nb cb : Nat} {Aa Ab : Option Addr} {a b : List Int} (hra : ReadsI w B Aa a) (hrb : ReadsI w B Ab b) (hB : B ≤ w.heap.size) (hna : na = a.length) (hnb : nb = b.length) (hwa : Wf a) (hwb : Wf b) (hla : na ≤ 100000000) (hlb : nb ≤ 100000000) :
    Calls Tryd.prog 42 #[.slice Aa na ca, .slice Ab nb cb] w (AskOut w (.bool (decide (chk [a, b] = 0) && alikeB a b)) (chk [a, b])) := by
  have h2 := rows_lit w [(Aa, ca, a), (Ab, cb, b)] (B := B) (fun r hr => by
    simp only [List.mem_cons, List.mem_nil_iff, or_false] at hr
    rcases hr with rfl | rfl
    · exact hra
    · exact hrb) hB
  have hall : ∀ r ∈ [((Aa, ca, a) : SRow), (Ab, cb, b)], Wf r.2.2 ∧ r.2.2.length ≤ 1000000000000 := fun r hr => by
    simp only [List.mem_cons, List.mem_nil_iff, or_false] at hr
    rcases hr with rfl | rfl
    · exact ⟨hwa, by show a.length ≤ _; omega⟩
    · exact ⟨hwb, by show b.length ≤ _; omega⟩
  have HC := Lib.hid (show Calls Tryd.prog 57 #[.slice (some ⟨w.heap.size, 0, none⟩) 2 2] (w.alloc (.cells #[.slice Aa na ca, .slice Ab nb cb] 22)) (fun e w' => e = .returned (.int .i64 (chk [a, b])) ∧ w.alloc (.cells #[.slice Aa na ca, .slice Ab nb cb] 22) = w') by
    rw [hna, hnb]; exact check_any (c := 2) (n := 2) h2 rfl (by decide) hall)
  obtain ⟨W, hW⟩ : ∃ W, W = w.alloc (.cells #[.slice Aa na ca, .slice Ab nb cb] 22) := ⟨_, rfl⟩
  have HB0 := Lib.hid (show Below w.heap.size w W by rw [hW]; exact (Below.refl w.heap.size w).alloc (Nat.le_refl _) _)
  have hsW : w.heap.size ≤ W.heap.size := HB0.out.size
  clear h2 hall
  by_cases hz : chk [a, b] = 0
  · rw [hz] at HC ⊢
    have hlets := chk_words hz
    have hlA := hlets a (by simp)
    have hlB := hlets b (by simp)
    have HR := Lib.hid (And.intro (show ReadsI W W.heap.size Aa a by rw [hW]; exact (hra.alloc hB _).more (by simp; omega)) (show ReadsI W W.heap.size Ab b by rw [hW]; exact (hrb.alloc hB _).more (by simp; omega)))
    have Hn := Lib.hid (And.intro hna hnb)
    have HL := Lib.hid (And.intro hlA hlB)
    have hsa := short_len_le a
    have hsb := short_len_le b
    have HO := Lib.hid (fun (V : World) (B' nx cx : Nat) (Ax : Option Addr) (l : List Int) (hr : ReadsI V W.heap.size Ax l) (hW' : W.heap.size ≤ B') (hB' : B' ≤ V.heap.size) (hn : nx = l.length) (hl : LetL l) (h2 : l.length ≤ 10000) => on_any (cw := cx) (OwnI.nil V B') (hr.more hW') hB' hn hl (by simp) (by omega))
    have Hs := Lib.hid (show (short a).length ≤ 4096 ∧ (short b).length ≤ 4096 by omega)
    have HLS := Lib.hid (And.intro (letl_short hlA.1) (letl_short hlB.1))
    obtain ⟨X, hX⟩ : ∃ X, X = core (short a) := ⟨_, rfl⟩
    obtain ⟨Y, hY⟩ : ∃ Y, Y = core (short b) := ⟨_, rfl⟩
    obtain ⟨R, hR⟩ : ∃ R, R = (decide ((0 : Int) = 0) && alikeB a b) := ⟨_, rfl⟩
    have HR0 := Lib.hid (show R = alikeL X Y by rw [hR, hX, hY]; simp [alikeB])
    rw [← hR]
    obtain ⟨nx, hnx⟩ : ∃ nx, nx = X.length := ⟨_, rfl⟩
    obtain ⟨ny, hny⟩ : ∃ ny, ny = Y.length := ⟨_, rfl⟩
    have hcx : nx = (short a).length - 2 * parts (short a) := by rw [hnx, hX, core_len]
    have hcy : ny = (short b).length - 2 * parts (short b) := by rw [hny, hY, core_len]
    have hx1 : nx ≤ 4096 := by omega
    have hy1 : ny ≤ 4096 := by omega
    have HX := Lib.hid (And.intro hX hY)
    have HN := Lib.hid (And.intro hnx hny)
    have Hc := Lib.hid (And.intro hcx hcy)
    have HW := Lib.hid hW
    clear hW hX hY hR hnx hny hcx hcy
    clear hra hrb hB hna hnb hwa hwb hz hlets hlA hlB hsa hsb
    go_enter Tryd.func42, Tryd.ntmps42
    go_wp2_with fail
    refine HC.out.mono ?_
    rintro e w' ⟨rfl, hw'⟩
    have hw2 : W = w' := HW.out.trans hw'
    clear hw'
    subst hw2
    go_wp2_with fail
    refine (HO.out W W.heap.size na ca Aa a HR.out.1 (Nat.le_refl _) (Nat.le_refl _) Hn.out.1 HL.out.1.1 (by have := HL.out.1.2; omega)).mono ?_
    rintro e w2 ⟨A2, n2, c2, rfl, ho2, hg2, _⟩
    have ho2' : OwnI w2 W.heap.size (.slice A2 n2 c2) (short a) := ho2
    have HP := Lib.hid (parted_any ho2'.reads ho2'.len.1 ho2'.len.2.1 HLS.out.1 (by have := Hs.out; have := ho2'.len.1; omega) ho2'.len.2.2)
    have Hn2 := Lib.hid ho2'.len.1
    have H2 := Lib.hid (show Below W.heap.size W w2 from (Below.refl _ _).grown hg2 (Nat.le_refl _) (fun g hg => by cases hg))
    clear ho2 hg2 ho2'
    go_wp2_with fail
    refine HP.out.mono ?_
    rintro e w3 ⟨A3, c3, A3', c3', d3, rfl, hr3, _, hc3, _, _, _, hw3⟩
    have ex : n2 - 2 * parts (short a) = nx := by rw [Hn2.out]; exact Hc.out.1.symm
    rw [ex] at hc3 ⊢
    rw [← HX.out.1] at hr3
    have hb3 : Below W.heap.size W w3 := by rw [← hw3]; exact bdrew H2.out d3
    have H3 := Lib.hid (And.intro (show ReadsI w3 w3.heap.size A3 X by rw [← hw3]; exact hr3.drewN d3) hb3)
    clear hr3 hw3 hb3 ex
    go_wp2_with fail
    refine (HO.out w3 w3.heap.size nb cb Ab b (HR.out.2.below H3.out.2) H3.out.2.size (Nat.le_refl _) Hn.out.2 HL.out.2.1 (by have := HL.out.2.2; omega)).mono ?_
    rintro e w4 ⟨A4, n4, c4, rfl, ho4, hg4, _⟩
    have ho4' : OwnI w4 w3.heap.size (.slice A4 n4 c4) (short b) := ho4
    have HP2 := Lib.hid (parted_any ho4'.reads ho4'.len.1 ho4'.len.2.1 HLS.out.2 (by have := Hs.out; have := ho4'.len.1; omega) ho4'.len.2.2)
    have Hn4 := Lib.hid ho4'.len.1
    have H4 := Lib.hid (show Below w3.heap.size w3 w4 from (Below.refl _ _).grown hg4 (Nat.le_refl _) (fun g hg => by cases hg))
    clear ho4 hg4 ho4'
    go_wp2_with fail
    refine HP2.out.mono ?_
    rintro e w5 ⟨A5, c5, A5', c5', d5, rfl, hr5, _, hc5, _, _, _, hw5⟩
    have ey : n4 - 2 * parts (short b) = ny := by rw [Hn4.out]; exact Hc.out.2.symm
    rw [ey] at hc5 ⊢
    rw [← HX.out.2] at hr5
    have hb5 : Below w3.heap.size w3 w5 := by rw [← hw5]; exact bdrew H4.out d5
    have hb05 := H3.out.2.trans (hb5.mono H3.out.2.size)
    have H5 := Lib.hid (And.intro (show ReadsI w5 w5.heap.size A3 X from (H3.out.1.below hb5).more hb5.size) (And.intro (show ReadsI w5 w5.heap.size A5 Y by rw [← hw5]; exact hr5.drewN d5) (HB0.out.trans (hb05.mono hsW))))
    clear hr5 hw5 hb5 hb05 ey HP HP2 H2 H3 H4 Hn2 Hn4 HO HR HLS Hs HL
    by_cases hxy : nx = ny
    · subst hxy
      have hbeq : ((nx : Int) != (nx : Int)) = false := by simp
      have HR2 := Lib.hid (show alikeN X Y nx 0 = R by
        rw [HR0.out]; unfold alikeL; rw [if_pos (by rw [← HN.out.1, ← HN.out.2]), ← HN.out.1])
      have HCl := Lib.hid (clone_any (w := w5) (c := c3) H5.out.1 HN.out.1 (Nat.le_refl _) (by omega))
      go_wp2_with fail
      refine HCl.out.mono ?_
      rintro e w6 ⟨A6, c6, rfl, ho6, hb6⟩
      have H6 := Lib.hid (And.intro ho6 hb6)
      clear ho6 hb6
      go_wp2_with (refine wpI_append rfl (.tmp 38) (.tmp 39) rfl w5.heap.size _ X X H6.out.1 rfl rfl HN.out.1 (H5.out.1.below H6.out.2) (by have := HN.out.1; omega) (by have := HN.out.1; omega) H6.out.2.size ?_; intro A7 n7 c7 w7 ho7 hn7 hc7 hg7 hw7 hb7; have Ho7 := Lib.hid (And.intro ho7 (And.intro hn7 (hb7 _ H6.out.2))); clear ho7 hn7 hg7 hw7 hb7)
      have hn7 : n7 = nx + nx := by have := Ho7.out.2.1; have := HN.out.1; omega
      subst hn7
      have h07 : Below w.heap.size w w7 := H5.out.2.2.trans (Ho7.out.2.2.mono H5.out.2.2.size)
      have H7 := Lib.hid (And.intro Ho7.out.1.reads (And.intro ((H5.out.2.1.below Ho7.out.2.2).more Ho7.out.2.2.size) h07))
      have hs7 := h07.size
      clear HCl HC h07
      go_wp2_with fail
      go_loopg [43] nx (fun k iv wr => ∃ (i : Nat), iv = .int .i64 (i : Int) ∧ k = nx - i ∧ i ≤ nx ∧ Hid (alikeN X Y (nx - i) i = R) ∧ Hid (Below w7.heap.size w7 wr))
      case atStart => exact ⟨0, rfl, by omega, by omega, Lib.hid (by rw [Nat.sub_zero]; exact HR2.out), Lib.hid (Below.refl _ _)⟩
      case round =>
        obtain ⟨i, rfl, hk, hin, hal, hO⟩ := hrel
        have Hk := Lib.hid hk
        clear hk
        by_cases hi : i < nx
        · have hii : (i : Int) < (nx : Int) := by omega
          obtain ⟨ad, hA1, _, _⟩ := H7.out.1.at_ (k := i) (by rw [List.length_append, ← HN.out.1]; omega)
          subst hA1
          have hsr := hO.out.size
          have r1 : ReadsI wr wr.heap.size (some (ad.add i)) (rot X i) := by
            have h := reads_part (H7.out.1.below hO.out) i X.length (by rw [List.length_append]; have := HN.out.1; omega)
            rw [rot_twice (by have := HN.out.1; omega)] at h
            exact h.more hsr
          have HE := Lib.hid (equal_any (w := wr) (c := c7 - i) (c' := c5) r1 ((H7.out.2.1.below hO.out).more hsr) (show nx = (rot X i).length by rw [rot_len]; exact HN.out.1) HN.out.2 (by omega) (by omega))
          have Hhit := Lib.hid (fun h : rot X i = Y => show R = true by rw [← hal.out, HN.out.1]; exact alikeN_hit (by have := HN.out.1; omega) h)
          have Hmiss := Lib.hid (fun h : ¬ rot X i = Y => show alikeN X Y (nx - (i + 1)) (i + 1) = R by rw [← hal.out, HN.out.1]; exact (alikeN_miss (by have := HN.out.1; omega) h).symm)
          clear r1
          have t1 : ((i : Int) + (nx : Int)).toNat = i + nx := by omega
          have t2 : (i : Int) + (nx : Int) ≤ (c7 : Int) := by omega
          have t3 : ¬ c7 = i := by omega
          have t4 : (i : Int) ≤ (i : Int) + (nx : Int) := by omega
          have t5 : (0 : Int) ≤ (i : Int) + (nx : Int) := by omega
          have t6 : i + nx - i = nx := by omega
          have t7 : IntKind.i64.wrap ((i : Int) + (nx : Int)) = (i : Int) + (nx : Int) := by rw [IntKind.wrap_i64]; omega
          go_wp2_with fail
          refine HE.out.mono ?_
          rintro e w8 ⟨d8, rfl, rfl⟩
          rcases Decidable.em (rot X i = Y) with he | he
          · have Hhe := Lib.hid (Hhit.out he)
            rw [decide_eq_true he]
            clear he
            go_wp2_with fail
            go_ret2
            exact ⟨by rw [Hhe.out]; rfl, H7.out.2.2.trans ((bdrew hO.out d8).mono hs7)⟩
          · have Hhe := Lib.hid (Hmiss.out he)
            rw [decide_eq_false he]
            clear he
            go_wp2_with fail
            go_roundg (nx - (i + 1))
            case measure => have := Hk.out; omega
            case rel => exact ⟨i + 1, rfl, rfl, by omega, Hhe, Lib.hid (bdrew hO.out d8)⟩
        · have hii : (nx : Int) ≤ (i : Int) := by omega
          have hii2 : ¬ (i : Int) < (nx : Int) := by omega
          have Hend := Lib.hid (show R = decide (nx = 0) by rw [← hal.out, HN.out.1]; exact alikeN_end (by have := HN.out.1; omega))
          go_wp2_with fail
          go_ret2
          exact ⟨by rw [Hend.out, ← nat_beq nx]; rfl, H7.out.2.2.trans (hO.out.mono hs7)⟩
    · have hbeq : ((nx : Int) != (ny : Int)) = true := by simp; omega
      have HR2 := Lib.hid (show R = false by
        rw [HR0.out]; unfold alikeL; rw [if_neg (by rw [← HN.out.1, ← HN.out.2]; exact hxy)])
      go_wp2_with fail
      go_ret2
      exact ⟨by rw [HR2.out]; rfl, H5.out.2.2⟩
  · generalize hzz : chk [a, b] = z at *
    have hzb : (z != 0) = true := by simp; exact hz
    obtain ⟨R, hR⟩ : ∃ R, R = (decide (z = 0) && alikeB a b) := ⟨_, rfl⟩
    have Hd := Lib.hid (show R = false by rw [hR, decide_eq_false hz, Bool.false_and])
    rw [← hR]
    rw [Hd.out]
    rw [hW] at HB0
    clear hra hrb hB hna hnb hwa hwb hz hzz hR Hd hW hsW
    go_enter Tryd.func42, Tryd.ntmps42
    go_wp2_with fail
    refine HC.out.mono ?_
    rintro e w' ⟨rfl, rfl⟩
    go_wp2_with fail
    go_ret2
    exact ⟨rfl, HB0.out⟩
end Go.Proofs.YtmjnhpagoboejaaDoor

/- law.WordsPairs (printed by gen_pairs.py). -/
namespace Go.Proofs.YtmjnhpagoboejaaDoor
open Go.RowKit
open Wd
set_option linter.unusedSimpArgs false
set_option linter.unusedVariables false

theorem much_two {w : World} {B na ca nb cb : Nat} {Aa Ab : Option Addr} {a b : List Int} (h : Rd w B Aa a) (h' : Rd w B Ab b) (hn : na = a.length) (hn' : nb = b.length) (hb : na ≤ 1000000000000000) (hb' : nb ≤ 1000000000000000) :
    Calls Tryd.prog 11 #[.slice (some ⟨w.heap.size, 0, none⟩) 2 2] (w.alloc (.cells #[.slice Aa na ca, .slice Ab nb cb] 22)) (fun e w' => e = .returned (.bool (decide ((9000 : Int) < (min na 10000 + min nb 10000 : Nat)))) ∧ Below w.heap.size w w') := by
  subst hn hn'
  refine (much_any (n := 2) (c := 2) (rows_lit w [(Aa, ca, a), (Ab, cb, b)] (B := B) (fun r hr => by
    simp only [List.mem_cons, List.mem_nil_iff, or_false] at hr
    rcases hr with rfl | rfl
    · exact h.1
    · exact h'.1) h.2) rfl (by decide) (fun r hr => by
    simp only [List.mem_cons, List.mem_nil_iff, or_false] at hr
    rcases hr with rfl | rfl
    · exact hb
    · exact hb')).mono ?_
  rintro e w' ⟨rfl, rfl⟩
  refine ⟨?_, (Below.refl _ _).alloc (Nat.le_refl _) _⟩
  have : muchN (List.map (fun r : SRow => r.2.2) [(Aa, ca, a), (Ab, cb, b)]) = min a.length 10000 + min b.length 10000 := by simp [muchN]
  rw [this]
set_option maxRecDepth 100000 in
set_option maxHeartbeats 8000000 in
theorem pairs_much {w : World} {B na ca nb cb : Nat} {Aa Ab : Option Addr} {a b : List Int} (ht : TabX B w) (ha : Rd w B Aa a) (hb : Rd w B Ab b) (hna : na = a.length) (hnb : nb = b.length) (hwa : Wf a) (hwb : Wf b) (hbig : 9000 < min na 10000 + min nb 10000) (hla : na ≤ 1000000000000000) (hlb : nb ≤ 1000000000000000) :
    Calls Tryd.prog 8 #[.slice Aa na ca, .slice Ab nb cb] w (fun e w' => e = .returned (.bool true) ∧ Below w.heap.size w w') := by
  have hmu : decide ((9000 : Int) < (min na 10000 + min nb 10000 : Nat)) = true := decide_eq_true (by omega)
  have HT := Lib.hid ht
  have HA := Lib.hid ha
  have HB := Lib.hid hb
  have Hna := Lib.hid hna
  have Hnb := Lib.hid hnb
  have hBw : B ≤ w.heap.size := ha.2
  clear ht ha hb hna hnb hwa hwb
  go_enter Tryd.func8, Tryd.ntmps8
  go_wp2_with fail
  refine (much_two (HA.out) (HB.out) Hna.out Hnb.out (by omega) (by omega)).mono ?_
  rintro e w1 ⟨rfl, hb1⟩
  have S1 := Lib.hid hb1
  have z1 : w.heap.size ≤ w1.heap.size := S1.out.size
  clear hb1
  go_wp2_with fail
  refine (known_any ((HT.out).next S1.out).1 ((HT.out).next S1.out).2).mono ?_
  rintro e w2 ⟨rfl, hb2⟩
  have S2 := Lib.hid hb2
  have z2 : w1.heap.size ≤ w2.heap.size := S2.out.size
  clear hb2
  have BB := Lib.hid (((Below.refl w.heap.size w).trans (S1.out.mono (by omega))).trans (S2.out.mono (by omega)))
  go_wp2_with fail
  go_ret
  exact ⟨rfl, BB.out⟩
set_option maxRecDepth 100000 in
set_option maxHeartbeats 8000000 in
theorem pairs_bad1 {w : World} {B na ca nb cb : Nat} {Aa Ab : Option Addr} {a b : List Int} (ht : TabX B w) (ha : Rd w B Aa a) (hb : Rd w B Ab b) (hna : na = a.length) (hnb : nb = b.length) (hwa : Wf a) (hwb : Wf b) (hsm : min na 10000 + min nb 10000 ≤ 9000) (hwA : isWord a = false) :
    Calls Tryd.prog 8 #[.slice Aa na ca, .slice Ab nb cb] w (fun e w' => e = .returned (.bool true) ∧ Below w.heap.size w w') := by
  obtain ⟨z, hze⟩ : ∃ z : Int, chk [a, b] = z := ⟨_, rfl⟩
  have hz2 : chk [a, b] = 2 := by rw [chk_two']; rw [hwA]; rfl
  have hv1 : (decide (chk [a, b] = 0) && alikeB a b) = false := by rw [hz2]; rfl
  have hv2 : (decide (chk [a, b] = 0) && commB a b) = false := by rw [hz2]; rfl
  have hv3 : (if chk [a, b] = 0 then cmpW a b else 0) = (0 : Int) := by rw [hz2]; rfl
  have hmu : decide ((9000 : Int) < (min na 10000 + min nb 10000 : Nat)) = false := decide_eq_false (by omega)
  have hna9 : na ≤ 9000 := by omega
  have hnb9 : nb ≤ 9000 := by omega
  have HAl := Lib.hid (fun (W : World) {B' B2 c' c2 : Nat} {A' A2 : Option Addr} (h1 : Rd W B' A' (a ++ [771])) (h2 : Rd W B2 A2 (b ++ [771])) => show Calls Tryd.prog 42 #[.slice A' na c', .slice A2 nb c2] W (AskOut W (.bool false) z) by
    rw [← hze]
    have h := walike_out (ca := c') (cb := c2) (h1.cut.1.more h1.2) (h2.cut.1.more h2.2) (Nat.le_refl _) hna hnb hwa hwb (by omega) (by omega)
    rw [hv1] at h
    exact h)
  have HCo := Lib.hid (fun (W : World) {B' B2 c' c2 : Nat} {A' A2 : Option Addr} (h1 : Rd W B' A' (a ++ [771])) (h2 : Rd W B2 A2 (b ++ [771])) => show Calls Tryd.prog 43 #[.slice A' na c', .slice A2 nb c2] W (AskOut W (.bool false) z) by
    rw [← hze]
    have h := wcomm_out (ca := c') (cb := c2) (h1.cut.1.more h1.2) (h2.cut.1.more h2.2) (Nat.le_refl _) hna hnb hwa hwb (by omega) (by omega)
    rw [hv2] at h
    exact h)
  have HCm := Lib.hid (fun (W : World) {B' B2 c' c2 : Nat} {A' A2 : Option Addr} (h1 : Rd W B' A' (a ++ [771])) (h2 : Rd W B2 A2 (b ++ [771])) => show Calls Tryd.prog 44 #[.slice A' na c', .slice A2 nb c2] W (AskOut W (.int .i64 0) z) by
    rw [← hze]
    have h := wcmp_out (ca := c') (cb := c2) (h1.cut.1.more h1.2) (h2.cut.1.more h2.2) (Nat.le_refl _) hna hnb hwa hwb (by omega) (by omega)
    rw [hv3] at h
    exact h)
  have HLa := Lib.hid (fun (W : World) (h : Rd W B Aa a) => show Calls Tryd.prog 45 #[.slice Aa na ca] W (fun e w' => e = .returned (.bool (isWord a)) ∧ W = w') from rletters_any h.1 hna (by omega) hwa)
  have HLb := Lib.hid (fun (W : World) (h : Rd W B Ab b) => show Calls Tryd.prog 45 #[.slice Ab nb cb] W (fun e w' => e = .returned (.bool (isWord b)) ∧ W = w') from rletters_any h.1 hnb (by omega) hwb)
  have hzz : z = 2 := hze.symm.trans hz2
  subst hzz
  clear hze hz2 hv1 hv2 hv3
  have HT := Lib.hid ht
  have HA := Lib.hid ha
  have HB := Lib.hid hb
  have Hna := Lib.hid hna
  have Hnb := Lib.hid hnb
  have hBw : B ≤ w.heap.size := ha.2
  clear ht ha hb hna hnb hwa hwb
  go_enter Tryd.func8, Tryd.ntmps8
  go_wp2_with fail
  refine (much_two (HA.out) (HB.out) Hna.out Hnb.out (by omega) (by omega)).mono ?_
  rintro e w1 ⟨rfl, hb1⟩
  have S1 := Lib.hid hb1
  have z1 : w.heap.size ≤ w1.heap.size := S1.out.size
  clear hb1
  go_wp2_with fail
  refine (lent_rd ((HA.out).next S1.out) Hna.out (by omega)).mono ?_
  rintro e w2 ⟨A2, c2, rfl, hc2, hm2, hr2, hb2⟩
  have S2 := Lib.hid hb2
  have z2 : w1.heap.size ≤ w2.heap.size := S2.out.size
  clear hb2
  have G_m := Lib.hid hr2
  clear hr2
  go_wp2_with fail
  refine (lent_rd (((HB.out).next S1.out).next S2.out) Hnb.out (by omega)).mono ?_
  rintro e w3 ⟨A3, c3, rfl, hc3, hm3, hr3, hb3⟩
  have S3 := Lib.hid hb3
  have z3 : w2.heap.size ≤ w3.heap.size := S3.out.size
  clear hb3
  have G_n := Lib.hid hr3
  clear hr3
  go_wp2_with fail
  refine (HAl.out w3 ((G_m.out).next S3.out) (G_n.out)).mono ?_
  rintro e w4 ⟨rfl, hb4⟩
  have S4 := Lib.hid hb4
  have z4 : w3.heap.size ≤ w4.heap.size := S4.out.size
  clear hb4
  go_wp2_with fail
  refine (HCo.out w4 (((G_m.out).next S3.out).next S4.out) ((G_n.out).next S4.out)).mono ?_
  rintro e w5 ⟨rfl, hb5⟩
  have S5 := Lib.hid hb5
  have z5 : w4.heap.size ≤ w5.heap.size := S5.out.size
  clear hb5
  go_wp2_with fail
  refine (HCm.out w5 ((((G_m.out).next S3.out).next S4.out).next S5.out) (((G_n.out).next S4.out).next S5.out)).mono ?_
  rintro e w6 ⟨rfl, hb6⟩
  have S6 := Lib.hid hb6
  have z6 : w5.heap.size ≤ w6.heap.size := S6.out.size
  clear hb6
  go_wp2_with fail
  refine (HLa.out w6 (((((((HA.out).next S1.out).next S2.out).next S3.out).next S4.out).next S5.out).next S6.out)).mono ?_
  rintro e w' ⟨rfl, rfl⟩
  rw [hwA]
  go_wp2_with ((go_at_call 20; refine num_any.mono ?_; rintro e w' ⟨rfl, rfl⟩))
  refine (left_any (c' := ca) (((((G_m.out).next S3.out).next S4.out).next S5.out).next S6.out).1 (((((((HA.out).next S1.out).next S2.out).next S3.out).next S4.out).next S5.out).next S6.out).1 Hna.out Hna.out hc2 (by omega)).mono ?_
  rintro e w8 ⟨rfl, hb8⟩
  have S8 := Lib.hid hb8
  have z8 : w6.heap.size ≤ w8.heap.size := S8.out.size
  clear hb8
  go_wp2_with ((go_at_call 20; refine num_any.mono ?_; rintro e w' ⟨rfl, rfl⟩))
  refine (left_any (c' := cb) (((((G_n.out).next S4.out).next S5.out).next S6.out).next S8.out).1 ((((((((HB.out).next S1.out).next S2.out).next S3.out).next S4.out).next S5.out).next S6.out).next S8.out).1 Hnb.out Hnb.out hc3 (by omega)).mono ?_
  rintro e w9 ⟨rfl, hb9⟩
  have S9 := Lib.hid hb9
  have z9 : w8.heap.size ≤ w9.heap.size := S9.out.size
  clear hb9
  go_wp2_with ((go_at_call 20; refine num_any.mono ?_; rintro e w' ⟨rfl, rfl⟩))
  refine (known_any (((((((((HT.out).next S1.out).next S2.out).next S3.out).next S4.out).next S5.out).next S6.out).next S8.out).next S9.out).1 (((((((((HT.out).next S1.out).next S2.out).next S3.out).next S4.out).next S5.out).next S6.out).next S8.out).next S9.out).2).mono ?_
  rintro e w10 ⟨rfl, hb10⟩
  have S10 := Lib.hid hb10
  have z10 : w9.heap.size ≤ w10.heap.size := S10.out.size
  clear hb10
  have BB := Lib.hid ((((((((((Below.refl w.heap.size w).trans (S1.out.mono (by omega))).trans (S2.out.mono (by omega))).trans (S3.out.mono (by omega))).trans (S4.out.mono (by omega))).trans (S5.out.mono (by omega))).trans (S6.out.mono (by omega))).trans (S8.out.mono (by omega))).trans (S9.out.mono (by omega))).trans (S10.out.mono (by omega)))
  go_wp2_with fail
  go_ret
  exact ⟨rfl, BB.out⟩
set_option maxRecDepth 100000 in
set_option maxHeartbeats 8000000 in
theorem pairs_bad2 {w : World} {B na ca nb cb : Nat} {Aa Ab : Option Addr} {a b : List Int} (ht : TabX B w) (ha : Rd w B Aa a) (hb : Rd w B Ab b) (hna : na = a.length) (hnb : nb = b.length) (hwa : Wf a) (hwb : Wf b) (hsm : min na 10000 + min nb 10000 ≤ 9000) (hwA : isWord a = true) (hwB : isWord b = false) :
    Calls Tryd.prog 8 #[.slice Aa na ca, .slice Ab nb cb] w (fun e w' => e = .returned (.bool true) ∧ Below w.heap.size w w') := by
  obtain ⟨z, hze⟩ : ∃ z : Int, chk [a, b] = z := ⟨_, rfl⟩
  have hz2 : chk [a, b] = 2 := by rw [chk_two']; rw [hwA, hwB]; rfl
  have hv1 : (decide (chk [a, b] = 0) && alikeB a b) = false := by rw [hz2]; rfl
  have hv2 : (decide (chk [a, b] = 0) && commB a b) = false := by rw [hz2]; rfl
  have hv3 : (if chk [a, b] = 0 then cmpW a b else 0) = (0 : Int) := by rw [hz2]; rfl
  have hmu : decide ((9000 : Int) < (min na 10000 + min nb 10000 : Nat)) = false := decide_eq_false (by omega)
  have hna9 : na ≤ 9000 := by omega
  have hnb9 : nb ≤ 9000 := by omega
  have HAl := Lib.hid (fun (W : World) {B' B2 c' c2 : Nat} {A' A2 : Option Addr} (h1 : Rd W B' A' (a ++ [771])) (h2 : Rd W B2 A2 (b ++ [771])) => show Calls Tryd.prog 42 #[.slice A' na c', .slice A2 nb c2] W (AskOut W (.bool false) z) by
    rw [← hze]
    have h := walike_out (ca := c') (cb := c2) (h1.cut.1.more h1.2) (h2.cut.1.more h2.2) (Nat.le_refl _) hna hnb hwa hwb (by omega) (by omega)
    rw [hv1] at h
    exact h)
  have HCo := Lib.hid (fun (W : World) {B' B2 c' c2 : Nat} {A' A2 : Option Addr} (h1 : Rd W B' A' (a ++ [771])) (h2 : Rd W B2 A2 (b ++ [771])) => show Calls Tryd.prog 43 #[.slice A' na c', .slice A2 nb c2] W (AskOut W (.bool false) z) by
    rw [← hze]
    have h := wcomm_out (ca := c') (cb := c2) (h1.cut.1.more h1.2) (h2.cut.1.more h2.2) (Nat.le_refl _) hna hnb hwa hwb (by omega) (by omega)
    rw [hv2] at h
    exact h)
  have HCm := Lib.hid (fun (W : World) {B' B2 c' c2 : Nat} {A' A2 : Option Addr} (h1 : Rd W B' A' (a ++ [771])) (h2 : Rd W B2 A2 (b ++ [771])) => show Calls Tryd.prog 44 #[.slice A' na c', .slice A2 nb c2] W (AskOut W (.int .i64 0) z) by
    rw [← hze]
    have h := wcmp_out (ca := c') (cb := c2) (h1.cut.1.more h1.2) (h2.cut.1.more h2.2) (Nat.le_refl _) hna hnb hwa hwb (by omega) (by omega)
    rw [hv3] at h
    exact h)
  have HLa := Lib.hid (fun (W : World) (h : Rd W B Aa a) => show Calls Tryd.prog 45 #[.slice Aa na ca] W (fun e w' => e = .returned (.bool (isWord a)) ∧ W = w') from rletters_any h.1 hna (by omega) hwa)
  have HLb := Lib.hid (fun (W : World) (h : Rd W B Ab b) => show Calls Tryd.prog 45 #[.slice Ab nb cb] W (fun e w' => e = .returned (.bool (isWord b)) ∧ W = w') from rletters_any h.1 hnb (by omega) hwb)
  have hzz : z = 2 := hze.symm.trans hz2
  subst hzz
  clear hze hz2 hv1 hv2 hv3
  have HT := Lib.hid ht
  have HA := Lib.hid ha
  have HB := Lib.hid hb
  have Hna := Lib.hid hna
  have Hnb := Lib.hid hnb
  have hBw : B ≤ w.heap.size := ha.2
  clear ht ha hb hna hnb hwa hwb
  go_enter Tryd.func8, Tryd.ntmps8
  go_wp2_with fail
  refine (much_two (HA.out) (HB.out) Hna.out Hnb.out (by omega) (by omega)).mono ?_
  rintro e w1 ⟨rfl, hb1⟩
  have S1 := Lib.hid hb1
  have z1 : w.heap.size ≤ w1.heap.size := S1.out.size
  clear hb1
  go_wp2_with fail
  refine (lent_rd ((HA.out).next S1.out) Hna.out (by omega)).mono ?_
  rintro e w2 ⟨A2, c2, rfl, hc2, hm2, hr2, hb2⟩
  have S2 := Lib.hid hb2
  have z2 : w1.heap.size ≤ w2.heap.size := S2.out.size
  clear hb2
  have G_m := Lib.hid hr2
  clear hr2
  go_wp2_with fail
  refine (lent_rd (((HB.out).next S1.out).next S2.out) Hnb.out (by omega)).mono ?_
  rintro e w3 ⟨A3, c3, rfl, hc3, hm3, hr3, hb3⟩
  have S3 := Lib.hid hb3
  have z3 : w2.heap.size ≤ w3.heap.size := S3.out.size
  clear hb3
  have G_n := Lib.hid hr3
  clear hr3
  go_wp2_with fail
  refine (HAl.out w3 ((G_m.out).next S3.out) (G_n.out)).mono ?_
  rintro e w4 ⟨rfl, hb4⟩
  have S4 := Lib.hid hb4
  have z4 : w3.heap.size ≤ w4.heap.size := S4.out.size
  clear hb4
  go_wp2_with fail
  refine (HCo.out w4 (((G_m.out).next S3.out).next S4.out) ((G_n.out).next S4.out)).mono ?_
  rintro e w5 ⟨rfl, hb5⟩
  have S5 := Lib.hid hb5
  have z5 : w4.heap.size ≤ w5.heap.size := S5.out.size
  clear hb5
  go_wp2_with fail
  refine (HCm.out w5 ((((G_m.out).next S3.out).next S4.out).next S5.out) (((G_n.out).next S4.out).next S5.out)).mono ?_
  rintro e w6 ⟨rfl, hb6⟩
  have S6 := Lib.hid hb6
  have z6 : w5.heap.size ≤ w6.heap.size := S6.out.size
  clear hb6
  go_wp2_with fail
  refine (HLa.out w6 (((((((HA.out).next S1.out).next S2.out).next S3.out).next S4.out).next S5.out).next S6.out)).mono ?_
  rintro e w' ⟨rfl, rfl⟩
  rw [hwA]
  go_wp2_with fail
  refine (HLb.out w6 (((((((HB.out).next S1.out).next S2.out).next S3.out).next S4.out).next S5.out).next S6.out)).mono ?_
  rintro e w' ⟨rfl, rfl⟩
  rw [hwB]
  go_wp2_with ((go_at_call 20; refine num_any.mono ?_; rintro e w' ⟨rfl, rfl⟩))
  refine (left_any (c' := ca) (((((G_m.out).next S3.out).next S4.out).next S5.out).next S6.out).1 (((((((HA.out).next S1.out).next S2.out).next S3.out).next S4.out).next S5.out).next S6.out).1 Hna.out Hna.out hc2 (by omega)).mono ?_
  rintro e w9 ⟨rfl, hb9⟩
  have S9 := Lib.hid hb9
  have z9 : w6.heap.size ≤ w9.heap.size := S9.out.size
  clear hb9
  go_wp2_with ((go_at_call 20; refine num_any.mono ?_; rintro e w' ⟨rfl, rfl⟩))
  refine (left_any (c' := cb) (((((G_n.out).next S4.out).next S5.out).next S6.out).next S9.out).1 ((((((((HB.out).next S1.out).next S2.out).next S3.out).next S4.out).next S5.out).next S6.out).next S9.out).1 Hnb.out Hnb.out hc3 (by omega)).mono ?_
  rintro e w10 ⟨rfl, hb10⟩
  have S10 := Lib.hid hb10
  have z10 : w9.heap.size ≤ w10.heap.size := S10.out.size
  clear hb10
  go_wp2_with ((go_at_call 20; refine num_any.mono ?_; rintro e w' ⟨rfl, rfl⟩))
  refine (known_any (((((((((HT.out).next S1.out).next S2.out).next S3.out).next S4.out).next S5.out).next S6.out).next S9.out).next S10.out).1 (((((((((HT.out).next S1.out).next S2.out).next S3.out).next S4.out).next S5.out).next S6.out).next S9.out).next S10.out).2).mono ?_
  rintro e w11 ⟨rfl, hb11⟩
  have S11 := Lib.hid hb11
  have z11 : w10.heap.size ≤ w11.heap.size := S11.out.size
  clear hb11
  have BB := Lib.hid ((((((((((Below.refl w.heap.size w).trans (S1.out.mono (by omega))).trans (S2.out.mono (by omega))).trans (S3.out.mono (by omega))).trans (S4.out.mono (by omega))).trans (S5.out.mono (by omega))).trans (S6.out.mono (by omega))).trans (S9.out.mono (by omega))).trans (S10.out.mono (by omega))).trans (S11.out.mono (by omega)))
  go_wp2_with fail
  go_ret
  exact ⟨rfl, BB.out⟩
set_option maxRecDepth 100000 in
set_option maxHeartbeats 8000000 in
theorem pairs_bad3 {w : World} {B na ca nb cb : Nat} {Aa Ab : Option Addr} {a b : List Int} (ht : TabX B w) (ha : Rd w B Aa a) (hb : Rd w B Ab b) (hna : na = a.length) (hnb : nb = b.length) (hwa : Wf a) (hwb : Wf b) (hsm : min na 10000 + min nb 10000 ≤ 9000) (hwA : isWord a = true) (hwB : isWord b = true) (h4 : 4096 < na) :
    Calls Tryd.prog 8 #[.slice Aa na ca, .slice Ab nb cb] w (fun e w' => e = .returned (.bool true) ∧ Below w.heap.size w w') := by
  have h4i : (4096 : Int) < (na : Int) := by omega
  obtain ⟨z, hze⟩ : ∃ z : Int, chk [a, b] = z := ⟨_, rfl⟩
  have hz2 : chk [a, b] = 3 := by rw [chk_two']; rw [hwA, hwB]; unfold tooLong; rw [decide_eq_true (show 4096 < a.length by omega)]; rfl
  have hv1 : (decide (chk [a, b] = 0) && alikeB a b) = false := by rw [hz2]; rfl
  have hv2 : (decide (chk [a, b] = 0) && commB a b) = false := by rw [hz2]; rfl
  have hv3 : (if chk [a, b] = 0 then cmpW a b else 0) = (0 : Int) := by rw [hz2]; rfl
  have hmu : decide ((9000 : Int) < (min na 10000 + min nb 10000 : Nat)) = false := decide_eq_false (by omega)
  have hna9 : na ≤ 9000 := by omega
  have hnb9 : nb ≤ 9000 := by omega
  have HAl := Lib.hid (fun (W : World) {B' B2 c' c2 : Nat} {A' A2 : Option Addr} (h1 : Rd W B' A' (a ++ [771])) (h2 : Rd W B2 A2 (b ++ [771])) => show Calls Tryd.prog 42 #[.slice A' na c', .slice A2 nb c2] W (AskOut W (.bool false) z) by
    rw [← hze]
    have h := walike_out (ca := c') (cb := c2) (h1.cut.1.more h1.2) (h2.cut.1.more h2.2) (Nat.le_refl _) hna hnb hwa hwb (by omega) (by omega)
    rw [hv1] at h
    exact h)
  have HCo := Lib.hid (fun (W : World) {B' B2 c' c2 : Nat} {A' A2 : Option Addr} (h1 : Rd W B' A' (a ++ [771])) (h2 : Rd W B2 A2 (b ++ [771])) => show Calls Tryd.prog 43 #[.slice A' na c', .slice A2 nb c2] W (AskOut W (.bool false) z) by
    rw [← hze]
    have h := wcomm_out (ca := c') (cb := c2) (h1.cut.1.more h1.2) (h2.cut.1.more h2.2) (Nat.le_refl _) hna hnb hwa hwb (by omega) (by omega)
    rw [hv2] at h
    exact h)
  have HCm := Lib.hid (fun (W : World) {B' B2 c' c2 : Nat} {A' A2 : Option Addr} (h1 : Rd W B' A' (a ++ [771])) (h2 : Rd W B2 A2 (b ++ [771])) => show Calls Tryd.prog 44 #[.slice A' na c', .slice A2 nb c2] W (AskOut W (.int .i64 0) z) by
    rw [← hze]
    have h := wcmp_out (ca := c') (cb := c2) (h1.cut.1.more h1.2) (h2.cut.1.more h2.2) (Nat.le_refl _) hna hnb hwa hwb (by omega) (by omega)
    rw [hv3] at h
    exact h)
  have HLa := Lib.hid (fun (W : World) (h : Rd W B Aa a) => show Calls Tryd.prog 45 #[.slice Aa na ca] W (fun e w' => e = .returned (.bool (isWord a)) ∧ W = w') from rletters_any h.1 hna (by omega) hwa)
  have HLb := Lib.hid (fun (W : World) (h : Rd W B Ab b) => show Calls Tryd.prog 45 #[.slice Ab nb cb] W (fun e w' => e = .returned (.bool (isWord b)) ∧ W = w') from rletters_any h.1 hnb (by omega) hwb)
  have hzz : z = 3 := hze.symm.trans hz2
  subst hzz
  clear hze hz2 hv1 hv2 hv3
  have HT := Lib.hid ht
  have HA := Lib.hid ha
  have HB := Lib.hid hb
  have Hna := Lib.hid hna
  have Hnb := Lib.hid hnb
  have hBw : B ≤ w.heap.size := ha.2
  clear ht ha hb hna hnb hwa hwb
  go_enter Tryd.func8, Tryd.ntmps8
  go_wp2_with fail
  refine (much_two (HA.out) (HB.out) Hna.out Hnb.out (by omega) (by omega)).mono ?_
  rintro e w1 ⟨rfl, hb1⟩
  have S1 := Lib.hid hb1
  have z1 : w.heap.size ≤ w1.heap.size := S1.out.size
  clear hb1
  go_wp2_with fail
  refine (lent_rd ((HA.out).next S1.out) Hna.out (by omega)).mono ?_
  rintro e w2 ⟨A2, c2, rfl, hc2, hm2, hr2, hb2⟩
  have S2 := Lib.hid hb2
  have z2 : w1.heap.size ≤ w2.heap.size := S2.out.size
  clear hb2
  have G_m := Lib.hid hr2
  clear hr2
  go_wp2_with fail
  refine (lent_rd (((HB.out).next S1.out).next S2.out) Hnb.out (by omega)).mono ?_
  rintro e w3 ⟨A3, c3, rfl, hc3, hm3, hr3, hb3⟩
  have S3 := Lib.hid hb3
  have z3 : w2.heap.size ≤ w3.heap.size := S3.out.size
  clear hb3
  have G_n := Lib.hid hr3
  clear hr3
  go_wp2_with fail
  refine (HAl.out w3 ((G_m.out).next S3.out) (G_n.out)).mono ?_
  rintro e w4 ⟨rfl, hb4⟩
  have S4 := Lib.hid hb4
  have z4 : w3.heap.size ≤ w4.heap.size := S4.out.size
  clear hb4
  go_wp2_with fail
  refine (HCo.out w4 (((G_m.out).next S3.out).next S4.out) ((G_n.out).next S4.out)).mono ?_
  rintro e w5 ⟨rfl, hb5⟩
  have S5 := Lib.hid hb5
  have z5 : w4.heap.size ≤ w5.heap.size := S5.out.size
  clear hb5
  go_wp2_with fail
  refine (HCm.out w5 ((((G_m.out).next S3.out).next S4.out).next S5.out) (((G_n.out).next S4.out).next S5.out)).mono ?_
  rintro e w6 ⟨rfl, hb6⟩
  have S6 := Lib.hid hb6
  have z6 : w5.heap.size ≤ w6.heap.size := S6.out.size
  clear hb6
  go_wp2_with fail
  refine (HLa.out w6 (((((((HA.out).next S1.out).next S2.out).next S3.out).next S4.out).next S5.out).next S6.out)).mono ?_
  rintro e w' ⟨rfl, rfl⟩
  rw [hwA]
  go_wp2_with fail
  refine (HLb.out w6 (((((((HB.out).next S1.out).next S2.out).next S3.out).next S4.out).next S5.out).next S6.out)).mono ?_
  rintro e w' ⟨rfl, rfl⟩
  rw [hwB]
  go_wp2_with ((go_at_call 20; refine num_any.mono ?_; rintro e w' ⟨rfl, rfl⟩))
  refine (left_any (c' := ca) (((((G_m.out).next S3.out).next S4.out).next S5.out).next S6.out).1 (((((((HA.out).next S1.out).next S2.out).next S3.out).next S4.out).next S5.out).next S6.out).1 Hna.out Hna.out hc2 (by omega)).mono ?_
  rintro e w9 ⟨rfl, hb9⟩
  have S9 := Lib.hid hb9
  have z9 : w6.heap.size ≤ w9.heap.size := S9.out.size
  clear hb9
  go_wp2_with ((go_at_call 20; refine num_any.mono ?_; rintro e w' ⟨rfl, rfl⟩))
  refine (left_any (c' := cb) (((((G_n.out).next S4.out).next S5.out).next S6.out).next S9.out).1 ((((((((HB.out).next S1.out).next S2.out).next S3.out).next S4.out).next S5.out).next S6.out).next S9.out).1 Hnb.out Hnb.out hc3 (by omega)).mono ?_
  rintro e w10 ⟨rfl, hb10⟩
  have S10 := Lib.hid hb10
  have z10 : w9.heap.size ≤ w10.heap.size := S10.out.size
  clear hb10
  go_wp2_with ((go_at_call 20; refine num_any.mono ?_; rintro e w' ⟨rfl, rfl⟩))
  refine (known_any (((((((((HT.out).next S1.out).next S2.out).next S3.out).next S4.out).next S5.out).next S6.out).next S9.out).next S10.out).1 (((((((((HT.out).next S1.out).next S2.out).next S3.out).next S4.out).next S5.out).next S6.out).next S9.out).next S10.out).2).mono ?_
  rintro e w11 ⟨rfl, hb11⟩
  have S11 := Lib.hid hb11
  have z11 : w10.heap.size ≤ w11.heap.size := S11.out.size
  clear hb11
  have BB := Lib.hid ((((((((((Below.refl w.heap.size w).trans (S1.out.mono (by omega))).trans (S2.out.mono (by omega))).trans (S3.out.mono (by omega))).trans (S4.out.mono (by omega))).trans (S5.out.mono (by omega))).trans (S6.out.mono (by omega))).trans (S9.out.mono (by omega))).trans (S10.out.mono (by omega))).trans (S11.out.mono (by omega)))
  go_wp2_with fail
  go_ret
  exact ⟨rfl, BB.out⟩
set_option maxRecDepth 100000 in
set_option maxHeartbeats 8000000 in
theorem pairs_bad4 {w : World} {B na ca nb cb : Nat} {Aa Ab : Option Addr} {a b : List Int} (ht : TabX B w) (ha : Rd w B Aa a) (hb : Rd w B Ab b) (hna : na = a.length) (hnb : nb = b.length) (hwa : Wf a) (hwb : Wf b) (hsm : min na 10000 + min nb 10000 ≤ 9000) (hwA : isWord a = true) (hwB : isWord b = true) (h4 : na ≤ 4096) (h4b : 4096 < nb) :
    Calls Tryd.prog 8 #[.slice Aa na ca, .slice Ab nb cb] w (fun e w' => e = .returned (.bool true) ∧ Below w.heap.size w w') := by
  have h4i : (na : Int) ≤ 4096 := by omega
  have h4j : (4096 : Int) < (nb : Int) := by omega
  obtain ⟨z, hze⟩ : ∃ z : Int, chk [a, b] = z := ⟨_, rfl⟩
  have hz2 : chk [a, b] = 3 := by rw [chk_two']; rw [hwA, hwB]; unfold tooLong; rw [decide_eq_true (show 4096 < b.length by omega), Bool.or_true]; rfl
  have hv1 : (decide (chk [a, b] = 0) && alikeB a b) = false := by rw [hz2]; rfl
  have hv2 : (decide (chk [a, b] = 0) && commB a b) = false := by rw [hz2]; rfl
  have hv3 : (if chk [a, b] = 0 then cmpW a b else 0) = (0 : Int) := by rw [hz2]; rfl
  have hmu : decide ((9000 : Int) < (min na 10000 + min nb 10000 : Nat)) = false := decide_eq_false (by omega)
  have hna9 : na ≤ 9000 := by omega
  have hnb9 : nb ≤ 9000 := by omega
  have HAl := Lib.hid (fun (W : World) {B' B2 c' c2 : Nat} {A' A2 : Option Addr} (h1 : Rd W B' A' (a ++ [771])) (h2 : Rd W B2 A2 (b ++ [771])) => show Calls Tryd.prog 42 #[.slice A' na c', .slice A2 nb c2] W (AskOut W (.bool false) z) by
    rw [← hze]
    have h := walike_out (ca := c') (cb := c2) (h1.cut.1.more h1.2) (h2.cut.1.more h2.2) (Nat.le_refl _) hna hnb hwa hwb (by omega) (by omega)
    rw [hv1] at h
    exact h)
  have HCo := Lib.hid (fun (W : World) {B' B2 c' c2 : Nat} {A' A2 : Option Addr} (h1 : Rd W B' A' (a ++ [771])) (h2 : Rd W B2 A2 (b ++ [771])) => show Calls Tryd.prog 43 #[.slice A' na c', .slice A2 nb c2] W (AskOut W (.bool false) z) by
    rw [← hze]
    have h := wcomm_out (ca := c') (cb := c2) (h1.cut.1.more h1.2) (h2.cut.1.more h2.2) (Nat.le_refl _) hna hnb hwa hwb (by omega) (by omega)
    rw [hv2] at h
    exact h)
  have HCm := Lib.hid (fun (W : World) {B' B2 c' c2 : Nat} {A' A2 : Option Addr} (h1 : Rd W B' A' (a ++ [771])) (h2 : Rd W B2 A2 (b ++ [771])) => show Calls Tryd.prog 44 #[.slice A' na c', .slice A2 nb c2] W (AskOut W (.int .i64 0) z) by
    rw [← hze]
    have h := wcmp_out (ca := c') (cb := c2) (h1.cut.1.more h1.2) (h2.cut.1.more h2.2) (Nat.le_refl _) hna hnb hwa hwb (by omega) (by omega)
    rw [hv3] at h
    exact h)
  have HLa := Lib.hid (fun (W : World) (h : Rd W B Aa a) => show Calls Tryd.prog 45 #[.slice Aa na ca] W (fun e w' => e = .returned (.bool (isWord a)) ∧ W = w') from rletters_any h.1 hna (by omega) hwa)
  have HLb := Lib.hid (fun (W : World) (h : Rd W B Ab b) => show Calls Tryd.prog 45 #[.slice Ab nb cb] W (fun e w' => e = .returned (.bool (isWord b)) ∧ W = w') from rletters_any h.1 hnb (by omega) hwb)
  have hzz : z = 3 := hze.symm.trans hz2
  subst hzz
  clear hze hz2 hv1 hv2 hv3
  have HT := Lib.hid ht
  have HA := Lib.hid ha
  have HB := Lib.hid hb
  have Hna := Lib.hid hna
  have Hnb := Lib.hid hnb
  have hBw : B ≤ w.heap.size := ha.2
  clear ht ha hb hna hnb hwa hwb
  go_enter Tryd.func8, Tryd.ntmps8
  go_wp2_with fail
  refine (much_two (HA.out) (HB.out) Hna.out Hnb.out (by omega) (by omega)).mono ?_
  rintro e w1 ⟨rfl, hb1⟩
  have S1 := Lib.hid hb1
  have z1 : w.heap.size ≤ w1.heap.size := S1.out.size
  clear hb1
  go_wp2_with fail
  refine (lent_rd ((HA.out).next S1.out) Hna.out (by omega)).mono ?_
  rintro e w2 ⟨A2, c2, rfl, hc2, hm2, hr2, hb2⟩
  have S2 := Lib.hid hb2
  have z2 : w1.heap.size ≤ w2.heap.size := S2.out.size
  clear hb2
  have G_m := Lib.hid hr2
  clear hr2
  go_wp2_with fail
  refine (lent_rd (((HB.out).next S1.out).next S2.out) Hnb.out (by omega)).mono ?_
  rintro e w3 ⟨A3, c3, rfl, hc3, hm3, hr3, hb3⟩
  have S3 := Lib.hid hb3
  have z3 : w2.heap.size ≤ w3.heap.size := S3.out.size
  clear hb3
  have G_n := Lib.hid hr3
  clear hr3
  go_wp2_with fail
  refine (HAl.out w3 ((G_m.out).next S3.out) (G_n.out)).mono ?_
  rintro e w4 ⟨rfl, hb4⟩
  have S4 := Lib.hid hb4
  have z4 : w3.heap.size ≤ w4.heap.size := S4.out.size
  clear hb4
  go_wp2_with fail
  refine (HCo.out w4 (((G_m.out).next S3.out).next S4.out) ((G_n.out).next S4.out)).mono ?_
  rintro e w5 ⟨rfl, hb5⟩
  have S5 := Lib.hid hb5
  have z5 : w4.heap.size ≤ w5.heap.size := S5.out.size
  clear hb5
  go_wp2_with fail
  refine (HCm.out w5 ((((G_m.out).next S3.out).next S4.out).next S5.out) (((G_n.out).next S4.out).next S5.out)).mono ?_
  rintro e w6 ⟨rfl, hb6⟩
  have S6 := Lib.hid hb6
  have z6 : w5.heap.size ≤ w6.heap.size := S6.out.size
  clear hb6
  go_wp2_with fail
  refine (HLa.out w6 (((((((HA.out).next S1.out).next S2.out).next S3.out).next S4.out).next S5.out).next S6.out)).mono ?_
  rintro e w' ⟨rfl, rfl⟩
  rw [hwA]
  go_wp2_with fail
  refine (HLb.out w6 (((((((HB.out).next S1.out).next S2.out).next S3.out).next S4.out).next S5.out).next S6.out)).mono ?_
  rintro e w' ⟨rfl, rfl⟩
  rw [hwB]
  go_wp2_with ((go_at_call 20; refine num_any.mono ?_; rintro e w' ⟨rfl, rfl⟩))
  refine (left_any (c' := ca) (((((G_m.out).next S3.out).next S4.out).next S5.out).next S6.out).1 (((((((HA.out).next S1.out).next S2.out).next S3.out).next S4.out).next S5.out).next S6.out).1 Hna.out Hna.out hc2 (by omega)).mono ?_
  rintro e w9 ⟨rfl, hb9⟩
  have S9 := Lib.hid hb9
  have z9 : w6.heap.size ≤ w9.heap.size := S9.out.size
  clear hb9
  go_wp2_with ((go_at_call 20; refine num_any.mono ?_; rintro e w' ⟨rfl, rfl⟩))
  refine (left_any (c' := cb) (((((G_n.out).next S4.out).next S5.out).next S6.out).next S9.out).1 ((((((((HB.out).next S1.out).next S2.out).next S3.out).next S4.out).next S5.out).next S6.out).next S9.out).1 Hnb.out Hnb.out hc3 (by omega)).mono ?_
  rintro e w10 ⟨rfl, hb10⟩
  have S10 := Lib.hid hb10
  have z10 : w9.heap.size ≤ w10.heap.size := S10.out.size
  clear hb10
  go_wp2_with ((go_at_call 20; refine num_any.mono ?_; rintro e w' ⟨rfl, rfl⟩))
  refine (known_any (((((((((HT.out).next S1.out).next S2.out).next S3.out).next S4.out).next S5.out).next S6.out).next S9.out).next S10.out).1 (((((((((HT.out).next S1.out).next S2.out).next S3.out).next S4.out).next S5.out).next S6.out).next S9.out).next S10.out).2).mono ?_
  rintro e w11 ⟨rfl, hb11⟩
  have S11 := Lib.hid hb11
  have z11 : w10.heap.size ≤ w11.heap.size := S11.out.size
  clear hb11
  have BB := Lib.hid ((((((((((Below.refl w.heap.size w).trans (S1.out.mono (by omega))).trans (S2.out.mono (by omega))).trans (S3.out.mono (by omega))).trans (S4.out.mono (by omega))).trans (S5.out.mono (by omega))).trans (S6.out.mono (by omega))).trans (S9.out.mono (by omega))).trans (S10.out.mono (by omega))).trans (S11.out.mono (by omega)))
  go_wp2_with fail
  go_ret
  exact ⟨rfl, BB.out⟩
set_option maxRecDepth 100000 in
set_option maxHeartbeats 8000000 in
theorem pairs_good {w : World} {B na ca nb cb : Nat} {Aa Ab : Option Addr} {a b : List Int} (ht : TabX B w) (ha : Rd w B Aa a) (hb : Rd w B Ab b) (hna : na = a.length) (hnb : nb = b.length) (hwa : Wf a) (hwb : Wf b) (hsm : min na 10000 + min nb 10000 ≤ 9000) (hwA : isWord a = true) (hwB : isWord b = true) (h4 : na ≤ 4096) (h4b : nb ≤ 4096) :
    Calls Tryd.prog 8 #[.slice Aa na ca, .slice Ab nb cb] w (fun e w' => e = .returned (.bool true) ∧ Below w.heap.size w w') := by
  obtain ⟨z, hze⟩ : ∃ z : Int, chk [a, b] = z := ⟨_, rfl⟩
  have hz2 : chk [a, b] = 0 := by
    rw [chk_two', hwA, hwB]; unfold tooLong; rw [decide_eq_false (show ¬ 4096 < a.length by omega), decide_eq_false (show ¬ 4096 < b.length by omega)]; rfl
  obtain ⟨R1, hR1⟩ : ∃ R, R = alikeB a b := ⟨_, rfl⟩
  obtain ⟨R2, hR2⟩ : ∃ R, R = commB a b := ⟨_, rfl⟩
  obtain ⟨R3, hR3⟩ : ∃ R, R = cmpW a b := ⟨_, rfl⟩
  have hv1 : (decide (chk [a, b] = 0) && alikeB a b) = R1 := by rw [hz2, hR1]; simp
  have hv2 : (decide (chk [a, b] = 0) && commB a b) = R2 := by rw [hz2, hR2]; simp
  have hv3 : (if chk [a, b] = 0 then cmpW a b else 0) = R3 := by rw [hz2, hR3]; simp
  have hmu : decide ((9000 : Int) < (min na 10000 + min nb 10000 : Nat)) = false := decide_eq_false (by omega)
  have hna9 : na ≤ 9000 := by omega
  have hnb9 : nb ≤ 9000 := by omega
  have HAl := Lib.hid (fun (W : World) {B' B2 c' c2 : Nat} {A' A2 : Option Addr} (h1 : Rd W B' A' (a ++ [771])) (h2 : Rd W B2 A2 (b ++ [771])) => show Calls Tryd.prog 42 #[.slice A' na c', .slice A2 nb c2] W (AskOut W (.bool R1) z) by
    rw [← hze]
    have h := walike_out (ca := c') (cb := c2) (h1.cut.1.more h1.2) (h2.cut.1.more h2.2) (Nat.le_refl _) hna hnb hwa hwb (by omega) (by omega)
    rw [hv1] at h
    exact h)
  have HCo := Lib.hid (fun (W : World) {B' B2 c' c2 : Nat} {A' A2 : Option Addr} (h1 : Rd W B' A' (a ++ [771])) (h2 : Rd W B2 A2 (b ++ [771])) => show Calls Tryd.prog 43 #[.slice A' na c', .slice A2 nb c2] W (AskOut W (.bool R2) z) by
    rw [← hze]
    have h := wcomm_out (ca := c') (cb := c2) (h1.cut.1.more h1.2) (h2.cut.1.more h2.2) (Nat.le_refl _) hna hnb hwa hwb (by omega) (by omega)
    rw [hv2] at h
    exact h)
  have HCm := Lib.hid (fun (W : World) {B' B2 c' c2 : Nat} {A' A2 : Option Addr} (h1 : Rd W B' A' (a ++ [771])) (h2 : Rd W B2 A2 (b ++ [771])) => show Calls Tryd.prog 44 #[.slice A' na c', .slice A2 nb c2] W (AskOut W (.int .i64 R3) z) by
    rw [← hze]
    have h := wcmp_out (ca := c') (cb := c2) (h1.cut.1.more h1.2) (h2.cut.1.more h2.2) (Nat.le_refl _) hna hnb hwa hwb (by omega) (by omega)
    rw [hv3] at h
    exact h)
  have HLa := Lib.hid (fun (W : World) (h : Rd W B Aa a) => show Calls Tryd.prog 45 #[.slice Aa na ca] W (fun e w' => e = .returned (.bool (isWord a)) ∧ W = w') from rletters_any h.1 hna (by omega) hwa)
  have HLb := Lib.hid (fun (W : World) (h : Rd W B Ab b) => show Calls Tryd.prog 45 #[.slice Ab nb cb] W (fun e w' => e = .returned (.bool (isWord b)) ∧ W = w') from rletters_any h.1 hnb (by omega) hwb)
  have hlA := word_let hwA
  have hlB := word_let hwB
  have HL := Lib.hid (And.intro hlA hlB)
  have hsa := short_len_le a
  have hsb := short_len_le b
  have HRa := Lib.hid (fun (W : World) (n1 c1 n2 c2 : Nat) (A1 A2 : Option Addr) (h1 : ReadsI W W.heap.size A1 (short a)) (h2 : ReadsI W W.heap.size A2 (short b)) (e1 : n1 = (short a).length ∧ n1 ≤ c1 ∧ c1 ≤ 9223372036854775807) (e2 : n2 = (short b).length ∧ n2 ≤ c2 ∧ c2 ≤ 9223372036854775807) => show Calls Tryd.prog 46 #[.slice A1 n1 c1, .slice A2 n2 c2] W (fun e w' => e = .returned (.bool R1) ∧ Below W.heap.size W w') by
    rw [hR1]
    exact ralike_any h1 h2 (Nat.le_refl _) e1.1 e2.1 (letl_short hlA) (letl_short hlB) (by omega) (by omega) e1.2.1 e2.2.1 e1.2.2 e2.2.2)
  have HRc := Lib.hid (fun (W : World) (n1 c1 n2 c2 : Nat) (A1 A2 : Option Addr) (h1 : ReadsI W W.heap.size A1 (short a)) (h2 : ReadsI W W.heap.size A2 (short b)) (e1 : n1 = (short a).length) (e2 : n2 = (short b).length) => show Calls Tryd.prog 47 #[.slice A1 n1 c1, .slice A2 n2 c2] W (fun e w' => e = .returned (.bool R2) ∧ Below W.heap.size W w') by
    have h := rcomm_any (ca := c1) (cb := c2) h1 h2 (Nat.le_refl _) e1 e2 (letl_short hlA) (letl_short hlB) (by omega) (by omega)
    rw [comm_ref (letl_nz hlA) (letl_nz hlB), comm_ref (letl_nz hlB) (letl_nz hlA)] at h
    rw [hR2]
    exact h)
  have HRm := Lib.hid (fun (W : World) (h1 : Rd W B Aa a) (h2 : Rd W B Ab b) => show Calls Tryd.prog 48 #[.slice Aa na ca, .slice Ab nb cb] W (fun e w' => e = .returned (.int .i64 R3) ∧ Below W.heap.size W w') by
    rw [hR3]
    exact rcmp_any h1.1 h2.1 hna hnb hlA hlB (by omega) (by omega))
  have Hsl := Lib.hid (show (short a).length ≤ 4096 ∧ (short b).length ≤ 4096 by omega)
  have h4i : (na : Int) ≤ 4096 := by omega
  have h4j : (nb : Int) ≤ 4096 := by omega
  have hzz : z = 0 := hze.symm.trans hz2
  subst hzz
  clear hze hz2 hv1 hv2 hv3 hR1 hR2 hR3 hlA hlB hsa hsb
  have HT := Lib.hid ht
  have HA := Lib.hid ha
  have HB := Lib.hid hb
  have Hna := Lib.hid hna
  have Hnb := Lib.hid hnb
  have hBw : B ≤ w.heap.size := ha.2
  clear ht ha hb hna hnb hwa hwb
  go_enter Tryd.func8, Tryd.ntmps8
  go_wp2_with fail
  refine (much_two (HA.out) (HB.out) Hna.out Hnb.out (by omega) (by omega)).mono ?_
  rintro e w1 ⟨rfl, hb1⟩
  have S1 := Lib.hid hb1
  have z1 : w.heap.size ≤ w1.heap.size := S1.out.size
  clear hb1
  go_wp2_with fail
  refine (lent_rd ((HA.out).next S1.out) Hna.out (by omega)).mono ?_
  rintro e w2 ⟨A2, c2, rfl, hc2, hm2, hr2, hb2⟩
  have S2 := Lib.hid hb2
  have z2 : w1.heap.size ≤ w2.heap.size := S2.out.size
  clear hb2
  have G_m := Lib.hid hr2
  clear hr2
  go_wp2_with fail
  refine (lent_rd (((HB.out).next S1.out).next S2.out) Hnb.out (by omega)).mono ?_
  rintro e w3 ⟨A3, c3, rfl, hc3, hm3, hr3, hb3⟩
  have S3 := Lib.hid hb3
  have z3 : w2.heap.size ≤ w3.heap.size := S3.out.size
  clear hb3
  have G_n := Lib.hid hr3
  clear hr3
  go_wp2_with fail
  refine (HAl.out w3 ((G_m.out).next S3.out) (G_n.out)).mono ?_
  rintro e w4 ⟨rfl, hb4⟩
  have S4 := Lib.hid hb4
  have z4 : w3.heap.size ≤ w4.heap.size := S4.out.size
  clear hb4
  go_wp2_with fail
  refine (HCo.out w4 (((G_m.out).next S3.out).next S4.out) ((G_n.out).next S4.out)).mono ?_
  rintro e w5 ⟨rfl, hb5⟩
  have S5 := Lib.hid hb5
  have z5 : w4.heap.size ≤ w5.heap.size := S5.out.size
  clear hb5
  go_wp2_with fail
  refine (HCm.out w5 ((((G_m.out).next S3.out).next S4.out).next S5.out) (((G_n.out).next S4.out).next S5.out)).mono ?_
  rintro e w6 ⟨rfl, hb6⟩
  have S6 := Lib.hid hb6
  have z6 : w5.heap.size ≤ w6.heap.size := S6.out.size
  clear hb6
  go_wp2_with fail
  refine (HLa.out w6 (((((((HA.out).next S1.out).next S2.out).next S3.out).next S4.out).next S5.out).next S6.out)).mono ?_
  rintro e w' ⟨rfl, rfl⟩
  rw [hwA]
  go_wp2_with fail
  refine (HLb.out w6 (((((((HB.out).next S1.out).next S2.out).next S3.out).next S4.out).next S5.out).next S6.out)).mono ?_
  rintro e w' ⟨rfl, rfl⟩
  rw [hwB]
  go_wp2_with ((go_at_call 20; refine num_any.mono ?_; rintro e w' ⟨rfl, rfl⟩))
  refine (left_any (c' := ca) (((((G_m.out).next S3.out).next S4.out).next S5.out).next S6.out).1 (((((((HA.out).next S1.out).next S2.out).next S3.out).next S4.out).next S5.out).next S6.out).1 Hna.out Hna.out hc2 (by omega)).mono ?_
  rintro e w9 ⟨rfl, hb9⟩
  have S9 := Lib.hid hb9
  have z9 : w6.heap.size ≤ w9.heap.size := S9.out.size
  clear hb9
  go_wp2_with ((go_at_call 20; refine num_any.mono ?_; rintro e w' ⟨rfl, rfl⟩))
  refine (left_any (c' := cb) (((((G_n.out).next S4.out).next S5.out).next S6.out).next S9.out).1 ((((((((HB.out).next S1.out).next S2.out).next S3.out).next S4.out).next S5.out).next S6.out).next S9.out).1 Hnb.out Hnb.out hc3 (by omega)).mono ?_
  rintro e w10 ⟨rfl, hb10⟩
  have S10 := Lib.hid hb10
  have z10 : w9.heap.size ≤ w10.heap.size := S10.out.size
  clear hb10
  go_wp2_with fail
  refine (rshort_any (c := ca) (((((((((HA.out).next S1.out).next S2.out).next S3.out).next S4.out).next S5.out).next S6.out).next S9.out).next S10.out).1 (((((((((HA.out).next S1.out).next S2.out).next S3.out).next S4.out).next S5.out).next S6.out).next S9.out).next S10.out).2 Hna.out HL.out.1 (by omega)).mono ?_
  rintro e w11 ⟨A11, n11, c11, rfl, ho11, hb11⟩
  have S11 := Lib.hid hb11
  have z11 : w10.heap.size ≤ w11.heap.size := S11.out.size
  clear hb11
  have G_s := Lib.hid (Got.of_own ho11 z11)
  clear ho11
  have Hs := Lib.hid G_s.out.len
  go_wp2_with fail
  refine (rshort_any (c := cb) ((((((((((HB.out).next S1.out).next S2.out).next S3.out).next S4.out).next S5.out).next S6.out).next S9.out).next S10.out).next S11.out).1 ((((((((((HB.out).next S1.out).next S2.out).next S3.out).next S4.out).next S5.out).next S6.out).next S9.out).next S10.out).next S11.out).2 Hnb.out HL.out.2 (by omega)).mono ?_
  rintro e w12 ⟨A12, n12, c12, rfl, ho12, hb12⟩
  have S12 := Lib.hid hb12
  have z12 : w11.heap.size ≤ w12.heap.size := S12.out.size
  clear hb12
  have G_t := Lib.hid (Got.of_own ho12 z12)
  clear ho12
  have Ht := Lib.hid G_t.out.len
  have hq1 : n11 ≤ 4096 := by have := Hs.out.1; have := Hsl.out; omega
  have hq2 : n12 ≤ 4096 := by have := Ht.out.1; have := Hsl.out; omega
  have hq3 : IntKind.i64.wrap ((n11 : Int) + (n12 : Int)) = (n11 : Int) + (n12 : Int) := by rw [IntKind.wrap_i64]; omega
  by_cases h15 : (1500 : Int) < (n11 : Int) + (n12 : Int)
  · have h15b : ¬ ((n11 : Int) + (n12 : Int) ≤ 1500) := by omega
    go_wp2_with fail
    refine (HRc.out w12 _ _ _ _ _ _ (((G_s.out).next S12.out).reads.more ((G_s.out).next S12.out).1.2) ((G_t.out).reads.more (G_t.out).1.2) Hs.out.1 Ht.out.1).mono ?_
    rintro e w13 ⟨rfl, hb13⟩
    have S13 := Lib.hid hb13
    have z13 : w12.heap.size ≤ w13.heap.size := S13.out.size
    clear hb13
    go_wp2_with fail
    refine (HRm.out w13 ((((((((((((HA.out).next S1.out).next S2.out).next S3.out).next S4.out).next S5.out).next S6.out).next S9.out).next S10.out).next S11.out).next S12.out).next S13.out) ((((((((((((HB.out).next S1.out).next S2.out).next S3.out).next S4.out).next S5.out).next S6.out).next S9.out).next S10.out).next S11.out).next S12.out).next S13.out)).mono ?_
    rintro e w14 ⟨rfl, hb14⟩
    have S14 := Lib.hid hb14
    have z14 : w13.heap.size ≤ w14.heap.size := S14.out.size
    clear hb14
    go_wp2_with fail
    refine (known_any (((((((((((((HT.out).next S1.out).next S2.out).next S3.out).next S4.out).next S5.out).next S6.out).next S9.out).next S10.out).next S11.out).next S12.out).next S13.out).next S14.out).1 (((((((((((((HT.out).next S1.out).next S2.out).next S3.out).next S4.out).next S5.out).next S6.out).next S9.out).next S10.out).next S11.out).next S12.out).next S13.out).next S14.out).2).mono ?_
    rintro e w15 ⟨rfl, hb15⟩
    have S15 := Lib.hid hb15
    have z15 : w14.heap.size ≤ w15.heap.size := S15.out.size
    clear hb15
    have BB := Lib.hid ((((((((((((((Below.refl w.heap.size w).trans (S1.out.mono (by omega))).trans (S2.out.mono (by omega))).trans (S3.out.mono (by omega))).trans (S4.out.mono (by omega))).trans (S5.out.mono (by omega))).trans (S6.out.mono (by omega))).trans (S9.out.mono (by omega))).trans (S10.out.mono (by omega))).trans (S11.out.mono (by omega))).trans (S12.out.mono (by omega))).trans (S13.out.mono (by omega))).trans (S14.out.mono (by omega))).trans (S15.out.mono (by omega)))
    go_wp2_with fail
    go_ret
    exact ⟨rfl, BB.out⟩
  · have h15b : (n11 : Int) + (n12 : Int) ≤ 1500 := by omega
    go_wp2_with fail
    refine (HRa.out w12 _ _ _ _ _ _ (((G_s.out).next S12.out).reads.more ((G_s.out).next S12.out).1.2) ((G_t.out).reads.more (G_t.out).1.2) Hs.out Ht.out).mono ?_
    rintro e w13 ⟨rfl, hb13⟩
    have S13 := Lib.hid hb13
    have z13 : w12.heap.size ≤ w13.heap.size := S13.out.size
    clear hb13
    go_wp2_with fail
    refine (HRc.out w13 _ _ _ _ _ _ ((((G_s.out).next S12.out).next S13.out).reads.more (((G_s.out).next S12.out).next S13.out).1.2) (((G_t.out).next S13.out).reads.more ((G_t.out).next S13.out).1.2) Hs.out.1 Ht.out.1).mono ?_
    rintro e w14 ⟨rfl, hb14⟩
    have S14 := Lib.hid hb14
    have z14 : w13.heap.size ≤ w14.heap.size := S14.out.size
    clear hb14
    go_wp2_with fail
    refine (HRm.out w14 (((((((((((((HA.out).next S1.out).next S2.out).next S3.out).next S4.out).next S5.out).next S6.out).next S9.out).next S10.out).next S11.out).next S12.out).next S13.out).next S14.out) (((((((((((((HB.out).next S1.out).next S2.out).next S3.out).next S4.out).next S5.out).next S6.out).next S9.out).next S10.out).next S11.out).next S12.out).next S13.out).next S14.out)).mono ?_
    rintro e w15 ⟨rfl, hb15⟩
    have S15 := Lib.hid hb15
    have z15 : w14.heap.size ≤ w15.heap.size := S15.out.size
    clear hb15
    go_wp2_with fail
    refine (known_any ((((((((((((((HT.out).next S1.out).next S2.out).next S3.out).next S4.out).next S5.out).next S6.out).next S9.out).next S10.out).next S11.out).next S12.out).next S13.out).next S14.out).next S15.out).1 ((((((((((((((HT.out).next S1.out).next S2.out).next S3.out).next S4.out).next S5.out).next S6.out).next S9.out).next S10.out).next S11.out).next S12.out).next S13.out).next S14.out).next S15.out).2).mono ?_
    rintro e w16 ⟨rfl, hb16⟩
    have S16 := Lib.hid hb16
    have z16 : w15.heap.size ≤ w16.heap.size := S16.out.size
    clear hb16
    have BB := Lib.hid (((((((((((((((Below.refl w.heap.size w).trans (S1.out.mono (by omega))).trans (S2.out.mono (by omega))).trans (S3.out.mono (by omega))).trans (S4.out.mono (by omega))).trans (S5.out.mono (by omega))).trans (S6.out.mono (by omega))).trans (S9.out.mono (by omega))).trans (S10.out.mono (by omega))).trans (S11.out.mono (by omega))).trans (S12.out.mono (by omega))).trans (S13.out.mono (by omega))).trans (S14.out.mono (by omega))).trans (S15.out.mono (by omega))).trans (S16.out.mono (by omega)))
    go_wp2_with fail
    go_ret
    exact ⟨rfl, BB.out⟩
end Go.Proofs.YtmjnhpagoboejaaDoor
