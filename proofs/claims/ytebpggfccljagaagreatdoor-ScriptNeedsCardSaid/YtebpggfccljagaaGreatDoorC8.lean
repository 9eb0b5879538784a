import Derived.Test.YtebpggfccljagaaGreatDoorC7
import Derived.Test.YtebpggfccljagaaGreatDoorC2
import Derived.Defers
import Derived.Recover
/- script.small. -/
namespace Go.Proofs.YtebpggfccljagaaGreatDoor
open Go.RowKit
open Wh
set_option linter.unusedSimpArgs false
set_option linter.unusedVariables false

theorem itoa_tail {z : Int} {b : UInt8} {r : List UInt8} (h : Lib.itoa z = b :: r) : (∀ c ∈ r, IsDig c) ∧ (b ≠ 45 → IsDig b) := by
  refine ⟨fun c hc => ?_, fun hb => ?_⟩
  · have hd : ∀ u : Nat, ∀ e ∈ Lib.decDigits u, IsDig e := fun u e he => by
      rcases itoa_byte (k := (u : Int)) (b := e) (by unfold Lib.itoa; rw [if_neg (by omega)]; simpa using he) with h1 | h1
      · have := dec_ge u e he
        rw [h1] at this
        exact absurd this (by decide)
      · exact h1
    unfold Lib.itoa at h
    split at h
    · rw [← (List.cons.inj h).2] at hc
      exact hd _ c hc
    · exact hd _ c (by rw [h]; exact List.mem_cons_of_mem _ hc)
  · rcases itoa_byte (k := z) (b := b) (by rw [h]; exact List.mem_cons_self) with h1 | h1
    · exact absurd h1 hb
    · exact h1
theorem itoa_minus (z : Int) : Lib.itoa z ≠ [45] := fun h => by
  unfold Lib.itoa at h
  split at h
  · have h1 := (List.cons.inj h).2
    rw [Lib.decDigits] at h1
    split at h1 <;> simp at h1
  · have := dec_ge z.toNat 45 (by rw [h]; simp)
    exact absurd this (by decide)
/-- no small number's text -/
def NoNum (l : List UInt8) : Prop := ∀ k : Int, (Lib.itoa k).length ≤ 12 → Lib.itoa k ≠ l
/-- where the digits begin -/
def dig0 (l : List UInt8) : Nat := if l.getD 0 0 = 45 then 1 else 0
theorem nonum_len {l : List UInt8} (h : 12 < l.length) : NoNum l := fun k hk e => by rw [e] at hk; omega
theorem nonum_short {l : List UInt8} (h : l.length ≤ dig0 l) : NoNum l := fun k hk e => by
  unfold dig0 at h
  split at h
  · rename_i h1
    cases l with
    | nil => exact itoa_ne k e
    | cons b r =>
      have h2 : r = [] := List.eq_nil_of_length_eq_zero (by simp at h; simp [h])
      subst h2
      have h3 : b = 45 := by simpa using h1
      rw [h3] at e
      exact itoa_minus k e
  · exact itoa_ne k (e.trans (List.eq_nil_of_length_eq_zero (by omega)))
theorem nonum_dig {l : List UInt8} {i : Nat} (hi : i < l.length) (h0 : dig0 l ≤ i) (h : ¬ IsDig l[i]) : NoNum l := fun k hk e => by
  cases l with
  | nil => simp at hi
  | cons b r =>
    obtain ⟨h1, h2⟩ := itoa_tail e
    cases i with
    | zero =>
      refine h (h2 fun hb => ?_)
      unfold dig0 at h0
      rw [if_pos (by simpa using hb)] at h0
      omega
    | succ j => exact h (h1 _ (by rw [List.getElem_cons_succ]; exact List.getElem_mem _))
theorem nonum_back {l : List UInt8} (h : Lib.itoa (numB l) ≠ l) : NoNum l := fun k hk e => by
  have h1 := numB_itoa hk
  rw [e] at h1
  rw [h1] at h
  exact h e
theorem wp_scope_two {P : Program} {a : Act} {w : World} {Q : Exit → Act → World → Prop} {c r0 r1 : Code} (J0 J1 : Act → World → Prop) (μ : Act → World → Nat) (h0 : findLabel c 0 = some r0) (h1 : findLabel c 1 = some (.seq .skip r1))
    (first : (∀ a w, J1 a w → r1.wp P (jumpsTo (fun l a w => (l = 0 ∧ J0 a w) ∨ (l = 1 ∧ J1 a w)) Q) a w) → c.wp P (jumpsTo (fun l a w => (l = 0 ∧ J0 a w) ∨ (l = 1 ∧ J1 a w)) Q) a w)
    (pass1 : ∀ a w, J1 a w → r1.wp P (jumpsTo (fun l a' w' => (l = 0 ∧ J0 a' w') ∨ (l = 1 ∧ J1 a' w' ∧ μ a' w' < μ a w)) Q) a w)
    (pass0 : ∀ a w, J0 a w → r0.wp P (jumpsTo (fun _ _ _ => False) Q) a w) : (Code.scope c).wp P Q a w := by
  have weak : ∀ a w, J1 a w → r1.wp P (jumpsTo (fun l a w => (l = 0 ∧ J0 a w) ∨ (l = 1 ∧ J1 a w)) Q) a w := fun a w h =>
    wp_mono (pass1 a w h) fun e a w hq => by
      cases e with
      | goto l => exact hq.imp id (fun h => ⟨h.1, h.2.1⟩)
      | _ => exact hq
  refine wp_scope_jumps2 (fun l => if l = 0 then r0 else .seq .skip r1) (fun l a w => (l = 0 ∧ J0 a w) ∨ (l = 1 ∧ J1 a w)) (fun l a w => if l = 1 then μ a w + 1 else 0) ?_ (first weak) ?_
  · rintro l a w (⟨rfl, _⟩ | ⟨rfl, _⟩)
    · exact h0
    · exact h1
  · rintro l a w (⟨rfl, hJ⟩ | ⟨rfl, hJ⟩)
    · refine wp_mono (pass0 a w hJ) fun e a w hq => ?_
      cases e with
      | goto l => exact hq.elim
      | _ => exact hq
    · refine wp_seq (wp_skip ?_)
      refine wp_mono (pass1 a w hJ) fun e a' w' hq => ?_
      cases e with
      | goto l =>
        rcases hq with ⟨rfl, h⟩ | ⟨rfl, h, hm⟩
        · exact ⟨.inl ⟨rfl, h⟩, by simp⟩
        · exact ⟨.inr ⟨rfl, h⟩, by simpa using hm⟩
      | _ => exact hq
/-- what small says -/
def SmallOut (w : World) (l : List UInt8) (e : Ending) (w' : World) : Prop := ((∃ z, e = .returned (.int .i64 z) ∧ Lib.itoa z = l ∧ l.length ≤ 12 ∧ -30000000000000 ≤ z ∧ z ≤ 30000000000000) ∨ (e = thrown ∧ NoNum l)) ∧ Below w.heap.size w w'
/-- the frame at the labels -/
def smFr (s : ByteArray) (v : Nat → Value) (i : Nat) (acc sg : Int) : Array Value := #[.string s, v 1, .int .i64 0, .int .i64 (i : Int), .int .i64 acc, .int .i64 sg, v 6, v 7, v 8, v 9, v 10, v 11, v 12, v 13, v 14, v 15, v 16, v 17, v 18, v 19, v 20, v 21, v 22, v 23, v 24, v 25, v 26, v 27, v 28, v 29, v 30, v 31, v 32, v 33, v 34, v 35, v 36, v 37, v 38, v 39, v 40, v 41, v 42, v 43, v 44, v 45, v 46, v 47, v 48, v 49, v 50, v 51, v 52, v 53, v 54, v 55, v 56, v 57, v 58, v 59]
def smSg (l : List UInt8) : Int := if l.getD 0 0 = 45 then -1 else 1
theorem smSg_num {l : List UInt8} (h : l.length ≤ 12) : smSg l * numTo l l.length = numB l := by
  unfold smSg numB
  rw [Nat.min_eq_left h]
  split <;> omega
theorem sm_J {t : Array Value} {s : ByteArray} {i : Nat} {A sg : Int} (acc g : Int) (he : A = acc) (hg : sg = g) (h : t = smFr s (fun k => t.getD k undef) i acc g) : ∃ v, (⟨t, []⟩ : Act) = ⟨smFr s v i A sg, []⟩ := ⟨_, by rw [he, hg, ← h]⟩
set_option maxRecDepth 100000 in
set_option maxHeartbeats 4000000 in
theorem small_any {w : World} {B : Nat} {s : ByteArray} (ht : Tab B w) (hB : B ≤ w.heap.size) (hs : s.size ≤ 1000000) :
    Calls Tryz.prog 67 #[.string s] w (SmallOut w s.data.toList) := by
  have HG := Lib.hid (give_yes (w := w))
  have HN := Lib.hid (give_no (w := w))
  have HL := Lib.hid (show s.data.toList.length = s.size by simp)
  have HT := Lib.hid (And.intro ht hB)
  clear ht hB
  unfold thrown at HN
  go_enter Tryz.func67, Tryz.ntmps67
  go_wp2_with fail
  refine wp_scope_two (fun a' w' => w' = w ∧ (∃ (v : Nat → Value), a' = ⟨smFr s v s.size (numTo s.data.toList s.size) (smSg s.data.toList), []⟩) ∧ s.size ≤ 12 ∧ 0 < s.size) (fun a' w' => w' = w ∧ ∃ i : Nat, (∃ (v : Nat → Value), a' = ⟨smFr s v i (numTo s.data.toList i) (smSg s.data.toList), []⟩) ∧ s.size ≤ 12 ∧ 0 < s.size ∧ dig0 s.data.toList ≤ i ∧ i ≤ s.size) (fun a' _ => s.size - (match a'.tmps.getD 3 undef with | .int _ z => z.toNat | _ => 0)) rfl rfl (fun again => ?_) ?_ ?_
  · -- to the first label
    have Hag := Lib.hid again
    clear again
    rcases Nat.eq_zero_or_pos s.size with h0 | h0
    · have he := str_empty (s := s) (List.eq_nil_of_length_eq_zero (by rw [HL.out]; exact h0))
      subst he
      go_wp2_with (go_at_call 37; (with_reducible refine HN.out.mono ?_); rintro _ _ ⟨rfl, rfl⟩)
      exact ⟨rfl, .inr ⟨rfl, nonum_short (by decide)⟩, Below.refl _ _⟩
    · obtain ⟨b, hc, hl, hcl⟩ := byte_at h0
      have hb256 : b.toNat < 256 := b.toNat_lt
      have hne := str_facts h0
      have hgd : s.data.toList.getD 0 0 = b := by rw [List.getD_eq_getElem?_getD, List.getElem?_eq_getElem hl, hcl]; rfl
      by_cases h45 : b = 45
      · have e1 : ((b.toNat : Int) == 45) = true := by simp [h45]
        have Hd := Lib.hid (show dig0 s.data.toList = 1 ∧ smSg s.data.toList = -1 by unfold dig0 smSg; rw [hgd, if_pos h45, if_pos h45]; exact ⟨rfl, rfl⟩)
        by_cases h12 : (s.size : Int) ≤ 12
        · by_cases h1 : (1 : Int) < (s.size : Int)
          · go_wp2_with (go_at_call 37; (with_reducible refine HG.out.mono ?_); rintro _ _ ⟨rfl, rfl⟩)
            go_step3
            rename_i _ hK
            exact hK _ _ (Hag.out _ _ ⟨rfl, 1, sm_J 0 (-1) (numTo_skip (by rw [HL.out]; exact h0) (by rw [hcl, h45]; rfl)) Hd.out.2 rfl, by omega, h0, by rw [Hd.out.1]; omega, by omega⟩)
          · go_wp2_with (go_at_call 37; (with_reducible refine HN.out.mono ?_); rintro _ _ ⟨rfl, rfl⟩)
            exact ⟨rfl, .inr ⟨rfl, nonum_short (by rw [Hd.out.1, HL.out]; omega)⟩, Below.refl _ _⟩
        · go_wp2_with (go_at_call 37; (with_reducible refine HN.out.mono ?_); rintro _ _ ⟨rfl, rfl⟩)
          all_goals exact ⟨rfl, .inr ⟨rfl, nonum_len (by rw [HL.out]; omega)⟩, Below.refl _ _⟩
      · have e1 : ((b.toNat : Int) == 45) = false := by
          refine beq_eq_false_iff_ne.2 fun h => h45 (UInt8.toNat_inj.1 ?_)
          show b.toNat = 45
          omega
        have e2 : (0 : Int) < (s.size : Int) := by omega
        have Hd := Lib.hid (show dig0 s.data.toList = 0 ∧ smSg s.data.toList = 1 by unfold dig0 smSg; rw [hgd, if_neg h45, if_neg h45]; exact ⟨rfl, rfl⟩)
        by_cases h12 : (s.size : Int) ≤ 12
        · go_wp2_with (go_at_call 37; (with_reducible refine HG.out.mono ?_); rintro _ _ ⟨rfl, rfl⟩)
          go_step3
          rename_i _ hK
          exact hK _ _ (Hag.out _ _ ⟨rfl, 0, sm_J 0 1 rfl Hd.out.2 rfl, by omega, h0, by rw [Hd.out.1]; omega, by omega⟩)
        · go_wp2_with (go_at_call 37; (with_reducible refine HN.out.mono ?_); rintro _ _ ⟨rfl, rfl⟩)
          all_goals exact ⟨rfl, .inr ⟨rfl, nonum_len (by rw [HL.out]; omega)⟩, Below.refl _ _⟩
  · rintro a w' ⟨hww, i, ⟨v, rfl⟩, h12, h0, hd0, hi⟩
    subst w'
    unfold smFr
    have HTo := Lib.hid (numTo_z s.data.toList (show i ≤ 12 by omega))
    by_cases hin : i < s.size
    · obtain ⟨b, hc, hl, hcl⟩ := byte_at hin
      have hb256 : b.toNat < 256 := b.toNat_lt
      have e1 : ((i : Int) == (s.size : Int)) = false := by simp; omega
      have e2 : (i : Int) < (s.size : Int) := by omega
      have e3 : (0 : Int) ≤ (i : Int) := by omega
      by_cases h48 : (48 : Int) ≤ (b.toNat : Int)
      · by_cases h57 : (b.toNat : Int) ≤ 57
        · have Hst := Lib.hid (numTo_step (l := s.data.toList) (i := i) hl (by rw [hcl]; intro h; omega))
          rw [hcl] at Hst
          obtain ⟨hz1, hz2⟩ := HTo.out
          generalize numTo s.data.toList i = acc at *
          clear hcl
          go_wp2_with (go_at_call 37; (with_reducible refine HG.out.mono ?_); rintro _ _ ⟨rfl, rfl⟩)
          go_step3
          exact .inr ⟨rfl, ⟨rfl, i + 1, sm_J _ _ (by rw [Hst.out]; omega) rfl rfl, h12, h0, by omega, by omega⟩, by show s.size - ((i : Int) + 1).toNat < s.size - ((i : Int)).toNat; omega⟩
        · go_wp2_with (go_at_call 37; (with_reducible refine HN.out.mono ?_); rintro _ _ ⟨rfl, rfl⟩)
          exact ⟨rfl, .inr ⟨rfl, nonum_dig hl hd0 (by rw [hcl]; unfold IsDig; omega)⟩, Below.refl _ _⟩
      · go_wp2_with (go_at_call 37; (with_reducible refine HN.out.mono ?_); rintro _ _ ⟨rfl, rfl⟩)
        exact ⟨rfl, .inr ⟨rfl, nonum_dig hl hd0 (by rw [hcl]; unfold IsDig; omega)⟩, Below.refl _ _⟩
    · obtain rfl : i = s.size := by omega
      have e1 : ((s.size : Int) == (s.size : Int)) = true := by simp
      go_wp2_with fail
      go_step3
      exact .inl ⟨rfl, rfl, sm_J _ _ rfl rfl rfl, h12, h0⟩
  · rintro a w' ⟨hww, ⟨v, rfl⟩, h12, h0⟩
    subst w'
    have Hnb := Lib.hid (smSg_num (l := s.data.toList) (by rw [HL.out]; exact h12))
    rw [HL.out] at Hnb
    have HTo := Lib.hid (numTo_z s.data.toList (show s.size ≤ 12 by omega))
    obtain ⟨hz1, hz2⟩ := HTo.out
    have hsg : smSg s.data.toList = 1 ∨ smSg s.data.toList = -1 := by unfold smSg; split <;> simp
    unfold smFr
    have HB := Lib.hid (fun h => nonum_back (l := s.data.toList) h)
    generalize hN : numB s.data.toList = N at *
    generalize numTo s.data.toList s.size = acc at *
    generalize smSg s.data.toList = sg at *
    clear hN
    have Hno := Hnb.out
    have hN1 : -30000000000000 ≤ N := by rcases hsg with rfl | rfl <;> omega
    have hN2 : N ≤ 30000000000000 := by rcases hsg with rfl | rfl <;> omega
    have HI : Hid (Calls Tryz.prog 72 #[.int .i64 N] w (fun e w' => e = .returned (.string ⟨(Lib.itoa N).toArray⟩) ∧ Below w.heap.size w w')) := Lib.hid ((Tryz.strconv_Itoa N (by omega) (by omega) w HT.out.1.here).mono fun e w' ⟨e1, k, os, e2⟩ => ⟨e1, by rw [e2]; exact Lib.below_grow _ _ (Nat.le_refl _) _ _⟩)
    obtain ⟨q, hq⟩ : ∃ q : ByteArray, q = ⟨(Lib.itoa N).toArray⟩ := ⟨_, rfl⟩
    rw [← hq] at HI
    have Hmul := Lib.hid Hno
    have HG2 := Lib.hid (fun W => give_yes (w := W))
    have HN2 := Lib.hid (fun W => give_no (w := W))
    unfold thrown at HN2
    by_cases he : q = s
    · have Hq := Lib.hid (show Lib.itoa N = s.data.toList by rw [← he, hq])
      subst he
      have e5 : (q.toList == q.toList) = true := by simp
      rcases hsg with rfl | rfl
      · obtain rfl : acc = N := by omega
        clear hq
        go_wp2_with (first | (go_at_call 72; (refine HI.out.mono ?_); rintro _ W1 ⟨rfl, hb1⟩) | (go_at_call 37; (with_reducible refine (HG2.out _).mono ?_); rintro _ _ ⟨rfl, rfl⟩))
        show bodyPost _ _ _ Exit.ret _ _
        go_ret
        exact ⟨.inl ⟨_, rfl, Hq.out, by rw [HL.out]; exact h12, hN1, hN2⟩, hb1⟩
      · obtain rfl : N = -acc := by omega
        clear hq
        go_wp2_with (first | (go_at_call 72; (refine HI.out.mono ?_); rintro _ W1 ⟨rfl, hb1⟩) | (go_at_call 37; (with_reducible refine (HG2.out _).mono ?_); rintro _ _ ⟨rfl, rfl⟩))
        show bodyPost _ _ _ Exit.ret _ _
        go_ret
        exact ⟨.inl ⟨_, rfl, Hq.out, by rw [HL.out]; exact h12, hN1, hN2⟩, hb1⟩
    · have Hno2 := Lib.hid (HB.out fun h => he (by rw [hq]; exact ByteArray.ext (by rw [h])))
      have e4 : ¬ q.toList = s.toList := fun h => he (tl_inj h)
      have e5 : (q.toList == s.toList) = false := by simpa using e4
      rcases hsg with rfl | rfl
      · obtain rfl : acc = N := by omega
        clear hq
        go_wp2_with (first | (go_at_call 72; (refine HI.out.mono ?_); rintro _ W1 ⟨rfl, hb1⟩) | (go_at_call 37; (with_reducible refine (HN2.out _).mono ?_); rintro _ _ ⟨rfl, rfl⟩))
        exact ⟨rfl, .inr ⟨rfl, Hno2.out⟩, hb1⟩
      · obtain rfl : N = -acc := by omega
        clear hq
        go_wp2_with (first | (go_at_call 72; (refine HI.out.mono ?_); rintro _ W1 ⟨rfl, hb1⟩) | (go_at_call 37; (with_reducible refine (HN2.out _).mono ?_); rintro _ _ ⟨rfl, rfl⟩))
        exact ⟨rfl, .inr ⟨rfl, Hno2.out⟩, hb1⟩
end Go.Proofs.YtebpggfccljagaaGreatDoor

/- What a line says: plain. -/
namespace Go.Proofs.YtebpggfccljagaaGreatDoor
open Go.RowKit
open Wh
set_option linter.unusedSimpArgs false
set_option linter.unusedVariables false

theorem ge_no {l : List UInt8} (h : ∀ b ∈ l, 33 ≤ b.toNat) : (32 : UInt8) ∉ l := fun h2 => absurd (h 32 h2) (by decide)
theorem txtF_ge (a b : Int) : ∀ c ∈ txtF a b, 33 ≤ c.toNat := fun c hc => by
  rcases txtF_byte hc with rfl | rfl | h
  · decide
  · decide
  · have := h.1; omega
theorem wtx_ge (l : List Int) : ∀ c ∈ wtx l, 33 ≤ c.toNat := fun c hc => by
  rcases wtx_byte hc with rfl | rfl | h
  · decide
  · decide
  · have := h.1; omega
theorem argT_ge {y : ArgP} (hy : y.ok) : ∀ c ∈ argT y, 33 ≤ c.toNat := by
  intro c hc
  rcases ok_cases hy with ⟨nm, rfl, h⟩ | ⟨a, b, c', d, rfl, _, _⟩ | rfl | ⟨wd, rfl, _, _⟩ | ⟨ct, rfl, _, _⟩
  · obtain ⟨_, _, _, _, _, h4⟩ := named_head h
    have := h4 c hc
    omega
  · rw [argT_num] at hc
    simp only [List.mem_cons, List.mem_append, List.not_mem_nil, or_false] at hc
    rcases hc with rfl | (((h | rfl) | h) | rfl)
    · decide
    · exact txtF_ge _ _ _ h
    · decide
    · exact txtF_ge _ _ _ h
    · decide
  · rw [argT_inf] at hc
    simp only [List.mem_cons, List.not_mem_nil, or_false] at hc
    rcases hc with rfl | rfl | rfl | rfl | rfl <;> decide
  · rw [argT_word] at hc
    simp only [List.mem_cons, List.mem_append, List.not_mem_nil, or_false] at hc
    rcases hc with rfl | (h | rfl)
    · decide
    · exact wtx_ge _ _ h
    · decide
  · rw [argT_count] at hc
    rcases List.mem_cons.1 hc with rfl | h
    · decide
    · rcases itoa_byte h with rfl | h
      · decide
      · have := h.1; omega
theorem argT_not_eq {y : ArgP} (hy : y.ok) (r : List UInt8) : argT y ≠ 61 :: r := fun h => by
  rcases ok_cases hy with ⟨nm, rfl, h1⟩ | ⟨a, b, c', d, rfl, _, _⟩ | rfl | ⟨wd, rfl, _, _⟩ | ⟨ct, rfl, _, _⟩
  · rw [argT_name] at h
    obtain ⟨c, q, h2, h3, _⟩ := named_head h1
    rw [h] at h2
    rw [← (List.cons.inj h2).1] at h3
    exact absurd h3 (by decide)
  · rw [argT_num] at h; exact absurd (List.cons.inj h).1 (by decide)
  · exact absurd (List.cons.inj h).1 (by decide)
  · rw [argT_word] at h; exact absurd (List.cons.inj h).1 (by decide)
  · rw [argT_count] at h; exact absurd (List.cons.inj h).1 (by decide)
theorem letters_ge {l : List UInt8} (h : Sc.lettersB l = true) : ∀ c ∈ l, 33 ≤ c.toNat := fun c hc => by
  unfold Sc.lettersB at h
  simp only [Bool.and_eq_true] at h
  have := List.all_eq_true.1 h.2 c hc
  unfold Sc.letB at this
  simp only [Bool.and_eq_true, decide_eq_true_eq] at this
  omega
theorem named_ge {l : List UInt8} (h : Sc.namedB l = true) : ∀ c ∈ l, 33 ≤ c.toNat := fun c hc => by
  obtain ⟨_, _, _, _, _, h4⟩ := named_head h
  have := h4 c hc
  omega
theorem line_parts {p : StP} (h : p.ok) : parts 32 (lineT p) = headT p.v p.nm ++ p.xs.map argT := by
  refine parts_join (head_ne _ _ _) fun t ht => ge_no fun c hc => ?_
  rcases List.mem_append.1 ht with h1 | h1
  · unfold headT at h1
    rcases List.mem_cons.1 h1 with rfl | h1
    · exact letters_ge h.v c hc
    · split at h1
      · simp at h1
      · rename_i hn
        rw [List.mem_singleton.1 h1] at hc
        rcases List.mem_cons.1 hc with rfl | hc
        · decide
        · exact named_ge (h.nm.resolve_left hn) c hc
  · obtain ⟨x, hx, rfl⟩ := List.mem_map.1 h1
    exact argT_ge (h.all x hx) c hc
/-- the name and the pieces behind it, of the pieces behind the verb -/
def nameOf : List (List UInt8) → List UInt8 × List (List UInt8)
  | (61 :: n) :: r => (n, r)
  | r => ([], r)
theorem nameOf_eq (n : List UInt8) (r : List (List UInt8)) : nameOf ((61 :: n) :: r) = (n, r) := rfl
theorem nameOf_ne {r : List (List UInt8)} (h : ∀ n q, r ≠ (61 :: n) :: q) : nameOf r = ([], r) := by
  unfold nameOf
  split
  · exact absurd rfl (h _ _)
  · rfl
theorem toL_ne {s : ByteArray} (h : s ≠ ⟨#[]⟩) : s.data.toList ≠ [] := fun h2 => h (str_empty h2)
/-- what the pieces of a statement's line are -/
theorem dec_line {q : StP} (hq : q.ok) {v : List UInt8} {rest : List (List UInt8)} (h : parts 32 (lineT q) = v :: rest) :
    q.v.data.toList = v ∧ nameOf rest = (q.nm.data.toList, q.xs.map argT) ∧ (∀ r, rest ≠ [61] :: r) := by
  rw [line_parts hq] at h
  unfold headT at h
  by_cases hn : q.nm = ⟨#[]⟩
  · rw [if_pos hn] at h
    obtain ⟨h1, h2⟩ := List.cons.inj h
    have h2 : q.xs.map argT = rest := h2
    have hx : ∀ n r, rest ≠ (61 :: n) :: r := fun n r e => by
      rw [← h2] at e
      cases hxs : q.xs with
      | nil => rw [hxs] at e; simp at e
      | cons x xs =>
        rw [hxs, List.map_cons] at e
        exact argT_not_eq (hq.all x (by rw [hxs]; simp)) n (List.cons.inj e).1
    exact ⟨h1, by rw [nameOf_ne hx, ← h2, hn], hx []⟩
  · rw [if_neg hn] at h
    obtain ⟨h1, h2⟩ := List.cons.inj h
    rw [← h2]
    refine ⟨h1, rfl, fun r e => ?_⟩
    have h3 := (List.cons.inj (List.cons.inj e).1).2
    exact toL_ne hn h3
/-- a line put together of its pieces -/
theorem enc_line {l v n : List UInt8} {rest ts : List (List UInt8)} (h : parts 32 l = v :: rest) (hn : nameOf rest = (n, ts)) (hne : ∀ r, rest ≠ [61] :: r) {xs : List ArgP} (hx : ts = xs.map argT) : lineT ⟨⟨v.toArray⟩, ⟨n.toArray⟩, xs⟩ = l := by
  have h1 := join_parts 32 l
  rw [h] at h1
  unfold lineT headT
  rw [← h1]
  simp only
  by_cases hr : ∃ m q, rest = (61 :: m) :: q
  · obtain ⟨m, q, rfl⟩ := hr
    rw [nameOf_eq] at hn
    injection hn with e1 e2
    subst e1 e2
    rw [if_neg (fun e => by
      have : m = [] := by
        have h2 := congrArg (fun s : ByteArray => s.data.toList) e
        simpa using h2
      exact hne q (by rw [this])), hx]
    rfl
  · have hr' : ∀ m q, rest ≠ (61 :: m) :: q := fun m q e => hr ⟨m, q, e⟩
    rw [nameOf_ne hr'] at hn
    injection hn with e1 e2
    subst e1 e2
    rw [if_pos rfl, hx]
    rfl
theorem guess_map : ∀ {ts : List (List UInt8)} {xs ys : List ArgP}, ts.length = xs.length → (∀ i (h : i < ts.length) (h' : i < xs.length), GuessIs ts[i] xs[i]) → (∀ y ∈ ys, y.ok) → ts = ys.map argT → ys = xs
  | [], [], ys, _, _, _, h => by
    cases ys with
    | nil => rfl
    | cons y ys => simp at h
  | [], _ :: _, _, hl, _, _, _ => by simp at hl
  | _ :: _, [], _, hl, _, _, _ => by simp at hl
  | t :: ts, x :: xs, ys, hl, hg, hok, h => by
    cases ys with
    | nil => simp at h
    | cons y ys =>
      rw [List.map_cons] at h
      obtain ⟨h1, h2⟩ := List.cons.inj h
      have h3 := hg 0 (by simp) (by simp) y (hok y (by simp)) h1.symm
      have h4 := guess_map (ts := ts) (xs := xs) (ys := ys) (by simpa using hl) (fun i hi hi' => hg (i + 1) (by simpa using hi) (by simpa using hi')) (fun z hz => hok z (by simp [hz])) h2
      rw [h4]
      simp only [List.getElem_cons_zero] at h3
      rw [h3]
/-- no statement has this line -/
def NoLine (l : List UInt8) : Prop := ∀ q : StP, q.ok → lineT q ≠ l
theorem no_eq {l v : List UInt8} {r : List (List UInt8)} (h : parts 32 l = v :: [61] :: r) : NoLine l := fun q hq he => by
  rw [← he] at h
  exact (dec_line hq h).2.2 r rfl
theorem no_many {l v n : List UInt8} {rest ts : List (List UInt8)} (h : parts 32 l = v :: rest) (hn : nameOf rest = (n, ts)) (hl : 64 < ts.length) : NoLine l := fun q hq he => by
  rw [← he] at h
  have h1 := (dec_line hq h).2.1
  rw [hn] at h1
  injection h1 with _ h2
  have h3 := hq.len
  rw [h2, List.length_map] at hl
  omega
theorem no_arg {l v n : List UInt8} {rest ts : List (List UInt8)} (h : parts 32 l = v :: rest) (hn : nameOf rest = (n, ts)) {t : List UInt8} (ht : t ∈ ts) (hb : ArgNot t) : NoLine l := fun q hq he => by
  rw [← he] at h
  have h1 := (dec_line hq h).2.1
  rw [hn] at h1
  injection h1 with _ h2
  rw [h2] at ht
  obtain ⟨x, hx, rfl⟩ := List.mem_map.1 ht
  exact hb x (hq.all x hx) rfl
/-- the only statement that this could be -/
theorem only_line {l v n : List UInt8} {rest ts : List (List UInt8)} (h : parts 32 l = v :: rest) (hn : nameOf rest = (n, ts)) {xs : List ArgP} (hl : ts.length = xs.length) (hg : ∀ i (h : i < ts.length) (h' : i < xs.length), GuessIs ts[i] xs[i])
    {q : StP} (hq : q.ok) (he : lineT q = l) : q = ⟨⟨v.toArray⟩, ⟨n.toArray⟩, xs⟩ := by
  rw [← he] at h
  obtain ⟨h1, h2, _⟩ := dec_line hq h
  rw [hn] at h2
  injection h2 with e1 e2
  have e3 := guess_map hl hg hq.all e2
  obtain ⟨qv, qn, qx⟩ := q
  simp only at h1 e1 e3
  subst e3
  rw [← h1, e1]
/-- all arguments told: what is read -/
theorem read_line {l v n : List UInt8} {rest ts : List (List UInt8)} (h : parts 32 l = v :: rest) (hn : nameOf rest = (n, ts)) (hne : ∀ r, rest ≠ [61] :: r) {xs : List ArgP} (hl : ts.length = xs.length) (hg : ∀ i (h : i < ts.length) (h' : i < xs.length), ArgIs ts[i] xs[i]) :
    ((⟨⟨v.toArray⟩, ⟨n.toArray⟩, xs⟩ : StP).ok → lineT ⟨⟨v.toArray⟩, ⟨n.toArray⟩, xs⟩ = l) ∧ (¬ (⟨⟨v.toArray⟩, ⟨n.toArray⟩, xs⟩ : StP).ok → NoLine l) := by
  refine ⟨fun hok => enc_line h hn hne (List.ext_getElem (by simpa using hl) fun i h1 h2 => ?_), fun hno q hq he => hno ?_⟩
  · rw [List.getElem_map]
    have hi : i < xs.length := by simpa using h2
    exact ((hg i h1 hi).1 (hok.all _ (List.getElem_mem hi))).symm
  · rw [← only_line h hn hl (fun i h1 h2 => (hg i h1 h2).2) hq he]
    exact hq
theorem tl_inj' {a b : ByteArray} (h : a.data.toList = b.data.toList) : a = b := ByteArray.ext (Array.toList_inj.1 h)
theorem argT_inj {x y : ArgP} (hx : x.ok) (hy : y.ok) (h : argT x = argT y) : x = y := by
  rcases ok_cases hx with ⟨nm, rfl, h1⟩ | ⟨a, b, c, d, rfl, _, _⟩ | rfl | ⟨wd, rfl, _, _⟩ | ⟨ct, rfl, _, _⟩
  · obtain ⟨c, r, hl, h2, _⟩ := named_head h1
    rw [argT_name] at h
    refine ((is_name (s := nm) hl ?_ ?_ ?_).2 y hy h.symm).symm <;> (rintro rfl; exact absurd h2 (by decide))
  · rw [argT_num] at h
    have e : 40 :: (txtF a b ++ [44] ++ txtF c d ++ [41]) = 40 :: ((txtF a b ++ 44 :: txtF c d) ++ [41]) := by simp
    exact ((paren_is rfl rfl).2 y hy (h.symm.trans e)).symm
  · exact (is_inf.2 y hy h.symm).symm
  · exact ((brack_is rfl).2 y hy h.symm).symm
  · exact ((hash_is rfl).2 y hy h.symm).symm
/-- lines tell statements apart -/
theorem lineT_inj {p q : StP} (hp : p.ok) (hq : q.ok) (h : lineT p = lineT q) : p = q := by
  obtain ⟨v, rest, hv⟩ := parts_ne 32 (lineT q)
  have h1 := dec_line hq hv
  rw [← h] at hv
  have h2 := dec_line hp hv
  have e1 := h1.1.trans h2.1.symm
  have e2 := h1.2.1.symm.trans h2.2.1
  injection e2 with e2 e3
  have e4 : q.xs = p.xs := by
    refine List.ext_getElem (by have := congrArg List.length e3; simpa using this) fun i h3 h4 => ?_
    have h5 : (q.xs.map argT)[i]? = (p.xs.map argT)[i]? := by rw [e3]
    rw [List.getElem?_map, List.getElem?_map, List.getElem?_eq_getElem h3, List.getElem?_eq_getElem h4] at h5
    simp only [Option.map_some, Option.some.injEq] at h5
    exact argT_inj (hq.all _ (List.getElem_mem h3)) (hp.all _ (List.getElem_mem h4)) h5
  obtain ⟨v1, n1, x1⟩ := p
  obtain ⟨v2, n2, x2⟩ := q
  simp only at e1 e2 e4
  rw [tl_inj' e1, tl_inj' e2, e4]
end Go.Proofs.YtebpggfccljagaaGreatDoor

/- script.argument: the simple ones. -/
namespace Go.Proofs.YtebpggfccljagaaGreatDoor
open Go.RowKit
open Wh
set_option linter.unusedSimpArgs false
set_option linter.unusedVariables false

/-- what the library's variables hold -/
structure Gl (B : Nat) (w : World) : Prop where
  tab : Tab B w
  m : ∃ m, w.cell? ⟨0, 0, none⟩ = some (.int .i64 m)
  hB : B ≤ w.heap.size
theorem Gl.below {B : Nat} {w w' : World} (h : Gl B w) (hb : Below w.heap.size w w') : Gl B w' := by
  obtain ⟨m, hm⟩ := h.m
  exact ⟨h.tab.below hb h.hB, ⟨m, (hb.cell (p := ⟨0, 0, none⟩) (block_lt_of_cell hm)).trans hm⟩, Nat.le_trans h.hB hb.size⟩
theorem Gl.alloc {B : Nat} {w : World} (h : Gl B w) (o : Obj) : Gl B (w.alloc o) := h.below (new_below _ _)
/-- an argument that is made: its word is one's own -/
structure ArgMade (w : World) (B : Nat) (r : ARow) : Prop where
  kz : -9223372036854775808 ≤ r.2.2.k ∧ r.2.2.k ≤ 9223372036854775807
  cz : -9223372036854775808 ≤ r.2.2.ct ∧ r.2.2.ct ≤ 9223372036854775807
  own : OwnI w B (.slice r.1 r.2.2.wd.length r.2.1) r.2.2.wd
  fit : r.2.2.fit
theorem ArgMade.kept {w w' : World} {B : Nat} {r : ARow} (h : ArgMade w B r) (hb : Below w.heap.size w w') : ArgMade w' B r := ⟨h.kz, h.cz, h.own.kept hb, h.fit⟩
theorem ArgMade.plain {w : World} {B : Nat} {x : ArgP} (hw : x.wd = []) (hk : -9223372036854775808 ≤ x.k ∧ x.k ≤ 9223372036854775807) (hc : -9223372036854775808 ≤ x.ct ∧ x.ct ≤ 9223372036854775807) (hn : x.nm.size ≤ 1000000) : ArgMade w B (none, 0, x) :=
  ⟨hk, hc, by simp only [hw]; exact OwnI.nil _ _, ⟨hn, by simp [hw]⟩⟩
/-- what argument says -/
def ArgOut (w : World) (l : List UInt8) (e : Ending) (w' : World) : Prop :=
  ((∃ r : ARow, e = .returned (argV r) ∧ ArgMade w' w.heap.size r ∧ ArgIs l r.2.2) ∨ (e = thrown ∧ ArgNot l)) ∧ Below w.heap.size w w'
/-- the string's own block, the result's -/
structure ArgS (w wr : World) (s : ByteArray) : Prop where
  s : Blk wr w.heap.size 9 #[.string s]
  r : Blk wr (w.heap.size + 1) 41 #[.int .i64 0, .string ⟨#[]⟩, .bool false, .string ⟨#[]⟩, .bool false, .string ⟨#[]⟩, .bool false, .string ⟨#[]⟩, .bool false, .string ⟨#[]⟩, .slice none 0 0, .int .i64 0]
  b : Below w.heap.size w wr
theorem ArgS.new (w : World) (s : ByteArray) : ArgS w ((w.alloc (.cells #[.string s] 9)).alloc (.cells #[.int .i64 0, .string ⟨#[]⟩, .bool false, .string ⟨#[]⟩, .bool false, .string ⟨#[]⟩, .bool false, .string ⟨#[]⟩, .bool false, .string ⟨#[]⟩, .slice none 0 0, .int .i64 0] 41)) s := by
  have h := Blk.new (w.alloc (.cells #[.string s] 9)) 41 #[.int .i64 0, .string ⟨#[]⟩, .bool false, .string ⟨#[]⟩, .bool false, .string ⟨#[]⟩, .bool false, .string ⟨#[]⟩, .bool false, .string ⟨#[]⟩, .slice none 0 0, .int .i64 0]
  rw [World.size_alloc] at h
  exact ⟨(Blk.new w 9 _).alloc _, h, (new_below w _).alloc (by simp) _⟩
theorem ArgS.below {w wr w' : World} {s : ByteArray} (h : ArgS w wr s) (hb : Below wr.heap.size wr w') : ArgS w w' s := ⟨h.s.below hb h.s.lt, h.r.below hb h.r.lt, h.b.trans (hb.mono h.b.size)⟩
theorem ArgS.done {w wr : World} {s : ByteArray} (h : ArgS w wr s) (u0 u1 u2 u3 u4 u5 u6 u7 u8 u9 u10 u11 : Value) : Below w.heap.size w ((((((((((((wr.setCell ⟨w.heap.size + 1, 0, none⟩ u0).setCell ⟨w.heap.size + 1, 1, none⟩ u1).setCell ⟨w.heap.size + 1, 2, none⟩ u2).setCell ⟨w.heap.size + 1, 3, none⟩ u3).setCell ⟨w.heap.size + 1, 4, none⟩ u4).setCell ⟨w.heap.size + 1, 5, none⟩ u5).setCell ⟨w.heap.size + 1, 6, none⟩ u6).setCell ⟨w.heap.size + 1, 7, none⟩ u7).setCell ⟨w.heap.size + 1, 8, none⟩ u8).setCell ⟨w.heap.size + 1, 9, none⟩ u9).setCell ⟨w.heap.size + 1, 10, none⟩ u10).setCell ⟨w.heap.size + 1, 11, none⟩ u11) :=
  ((((((((((((h.b.setCell (p := ⟨w.heap.size + 1, 0, none⟩) (by show w.heap.size ≤ w.heap.size + 1; omega) u0).setCell (p := ⟨w.heap.size + 1, 1, none⟩) (by show w.heap.size ≤ w.heap.size + 1; omega) u1).setCell (p := ⟨w.heap.size + 1, 2, none⟩) (by show w.heap.size ≤ w.heap.size + 1; omega) u2).setCell (p := ⟨w.heap.size + 1, 3, none⟩) (by show w.heap.size ≤ w.heap.size + 1; omega) u3).setCell (p := ⟨w.heap.size + 1, 4, none⟩) (by show w.heap.size ≤ w.heap.size + 1; omega) u4).setCell (p := ⟨w.heap.size + 1, 5, none⟩) (by show w.heap.size ≤ w.heap.size + 1; omega) u5).setCell (p := ⟨w.heap.size + 1, 6, none⟩) (by show w.heap.size ≤ w.heap.size + 1; omega) u6).setCell (p := ⟨w.heap.size + 1, 7, none⟩) (by show w.heap.size ≤ w.heap.size + 1; omega) u7).setCell (p := ⟨w.heap.size + 1, 8, none⟩) (by show w.heap.size ≤ w.heap.size + 1; omega) u8).setCell (p := ⟨w.heap.size + 1, 9, none⟩) (by show w.heap.size ≤ w.heap.size + 1; omega) u9).setCell (p := ⟨w.heap.size + 1, 10, none⟩) (by show w.heap.size ≤ w.heap.size + 1; omega) u10).setCell (p := ⟨w.heap.size + 1, 11, none⟩) (by show w.heap.size ≤ w.heap.size + 1; omega) u11)
set_option maxRecDepth 100000 in
set_option maxHeartbeats 4000000 in
theorem arg_nil {w : World} : Calls Tryz.prog 38 #[.string ⟨#[]⟩] w (ArgOut w []) := by
  have HN := Lib.hid (fun W => give_no (w := W))
  unfold thrown at HN
  have hA := (ArgS.new w ⟨#[]⟩).b
  go_enter Tryz.func38, Tryz.ntmps38
  go_wp2_with (go_at_call 37; (with_reducible refine (HN.out _).mono ?_); rintro _ _ ⟨rfl, rfl⟩)
  exact ⟨rfl, .inr ⟨rfl, not_nil⟩, hA⟩
set_option maxRecDepth 100000 in
set_option maxHeartbeats 4000000 in
theorem arg_name {w : World} {s : ByteArray} (hs : s.size ≤ 6000) (h0 : 0 < s.size) {b : UInt8} (hc : s[0] = b) (h1 : b ≠ 40) (h2 : b ≠ 91) (h3 : b ≠ 35) : Calls Tryz.prog 38 #[.string s] w (ArgOut w s.data.toList) := by
  have HY := Lib.hid (fun W => give_yes (w := W))
  have hA := ArgS.new w s
  have hne := str_facts h0
  have hb256 : b.toNat < 256 := b.toNat_lt
  have n1 : ((b.toNat : Int) == 40) = false := by
    refine beq_eq_false_iff_ne.2 fun h => h1 (UInt8.toNat_inj.1 ?_)
    show b.toNat = 40; omega
  have n2 : ((b.toNat : Int) == 91) = false := by
    refine beq_eq_false_iff_ne.2 fun h => h2 (UInt8.toNat_inj.1 ?_)
    show b.toNat = 91; omega
  have n3 : ((b.toNat : Int) == 35) = false := by
    refine beq_eq_false_iff_ne.2 fun h => h3 (UInt8.toNat_inj.1 ?_)
    show b.toNat = 35; omega
  have hi : (0 : Int) < (s.size : Int) := by omega
  have Hfin := Lib.hid (And.intro hs (And.intro h0 (And.intro h1 (And.intro h2 h3))))
  clear hs h1 h2 h3
  go_enter Tryz.func38, Tryz.ntmps38
  go_wp2_with (go_at_call 37; (with_reducible refine (HY.out _).mono ?_); rintro _ _ ⟨rfl, rfl⟩)
  refine bodyPost_ret (v := argV (none, 0, nameP s)) (by simp [results, Tryz.results38, go_sem, argV, nameP]) rfl ?_
  refine ⟨.inl ⟨(none, 0, nameP s), rfl, ArgMade.plain rfl ⟨by show (-9223372036854775808 : Int) ≤ 1; decide, by show (1 : Int) ≤ 9223372036854775807; decide⟩ ⟨by show (-9223372036854775808 : Int) ≤ 0; decide, by show (0 : Int) ≤ 9223372036854775807; decide⟩ (Nat.le_trans Hfin.out.1 (by decide)), ?_⟩, ((new_below w _).alloc (by simp) _)⟩
  obtain ⟨hs, h0, h1, h2, h3⟩ := Hfin.out
  have hl : 0 < s.data.toList.length := by simpa using h0
  have e : s.data.toList = s.data.toList[0] :: s.data.toList.drop 1 := by
    have := List.drop_eq_getElem_cons hl
    rwa [List.drop_zero] at this
  have eb : s.data.toList[0] = b := hc
  exact is_name e (by rw [eb]; exact h1) (by rw [eb]; exact h2) (by rw [eb]; exact h3)
theorem small_yes {w : World} {B : Nat} {s : ByteArray} (hg : Gl B w) (hs : s.size ≤ 6000) {z : Int} (hz : Lib.itoa z = s.data.toList) (hl : (Lib.itoa z).length ≤ 12) :
    Calls Tryz.prog 67 #[.string s] w (fun e w' => e = .returned (.int .i64 z) ∧ Below w.heap.size w w') := by
  refine (small_any hg.tab hg.hB (by omega)).mono ?_
  rintro e w' ⟨h, hb⟩
  refine ⟨?_, hb⟩
  rcases h with ⟨z', h1, h2, _⟩ | ⟨_, h2⟩
  · rw [itoa_inj (hz.trans h2.symm)]; exact h1
  · exact absurd hz (h2 z hl)
theorem small_no {w : World} {B : Nat} {s : ByteArray} (hg : Gl B w) (hs : s.size ≤ 6000) (hn : ∀ z, (Lib.itoa z).length ≤ 12 → Lib.itoa z ≠ s.data.toList) :
    Calls Tryz.prog 67 #[.string s] w (fun e w' => e = thrown ∧ Below w.heap.size w w') := by
  refine (small_any hg.tab hg.hB (by omega)).mono ?_
  rintro e w' ⟨h, hb⟩
  refine ⟨?_, hb⟩
  rcases h with ⟨z', h1, h2, h3, _, _⟩ | ⟨h1, _⟩
  · exact absurd h2 (hn z' (by rw [h2]; exact h3))
  · exact h1
theorem dig_big {k u : Nat} (h : 10 ^ k ≤ u) : k < (Lib.decDigits u).length := by
  induction k generalizing u with
  | zero =>
    rw [Lib.decDigits]
    split <;> simp
  | succ k ih =>
    rw [Nat.pow_succ] at h
    have hp : 0 < 10 ^ k := Nat.pow_pos (by decide)
    rw [Lib.decDigits, dif_neg (by omega), List.length_append]
    have := ih (u := u / 10) (by omega)
    simp only [List.length_cons, List.length_nil]
    omega
theorem itoa_bound {z : Int} (h : (Lib.itoa z).length ≤ 12) : -9223372036854775808 ≤ z ∧ z ≤ 9223372036854775807 := by
  have hb : ∀ u : Nat, (Lib.decDigits u).length ≤ 12 → u < 1000000000000 := fun u hu => by
    rcases Nat.lt_or_ge u 1000000000000 with h1 | h1
    · exact h1
    · have := dig_big (k := 12) (u := u) (by simpa using h1)
      omega
  unfold Lib.itoa at h
  split at h
  · rw [List.length_cons] at h
    have := hb z.natAbs (by omega)
    omega
  · have := hb z.toNat h
    omega
/-- the first byte and the others -/
theorem head_bytes {s : ByteArray} (h0 : 0 < s.size) {b : UInt8} (hc : s[0] = b) : s.data.toList = b :: (s.extract 1 s.size).data.toList := by
  have hl : 0 < s.data.toList.length := by simpa using h0
  have e := List.drop_eq_getElem_cons hl
  rw [List.drop_zero] at e
  rw [(drop_bytes s 1 (by omega)).1]
  have eb : s.data.toList[0] = b := hc
  rw [eb] at e
  exact e
theorem count_made {w : World} {B : Nat} {z : Int} (h1 : -9223372036854775808 ≤ z) (h2 : z ≤ 9223372036854775807) : ArgMade w B (none, 0, countP z) :=
  ArgMade.plain rfl ⟨by show (-9223372036854775808 : Int) ≤ 5; decide, by show (5 : Int) ≤ 9223372036854775807; decide⟩ ⟨h1, h2⟩ (by show (0 : Nat) ≤ _; omega)
set_option maxRecDepth 100000 in
set_option maxHeartbeats 4000000 in
theorem arg_hash {w : World} {B : Nat} {s : ByteArray} (hg : Gl B w) (hs : s.size ≤ 6000) (h0 : 0 < s.size) (hc : s[0] = 35) : Calls Tryz.prog 38 #[.string s] w (ArgOut w s.data.toList) := by
  have HY := Lib.hid (fun W => give_yes (w := W))
  have HA := Lib.hid (ArgS.new w s)
  have hne := str_facts h0
  have hi : (0 : Int) < (s.size : Int) := by omega
  have hi1 : (1 : Int) ≤ (s.size : Int) := by omega
  have HE := Lib.hid (head_bytes h0 hc)
  have HQ := Lib.hid (show (s.extract 1 s.size).size ≤ 6000 by rw [ByteArray.size_extract]; omega)
  have HG := Lib.hid hg
  clear hs hg
  rcases Classical.em (∃ z, Lib.itoa z = (s.extract 1 s.size).data.toList ∧ (Lib.itoa z).length ≤ 12) with ⟨z, hz, hl⟩ | hno
  · have HS := Lib.hid (fun W (hb : Below w.heap.size w W) => small_yes (HG.out.below hb) HQ.out hz hl)
    have Hz := Lib.hid (hash_is hz)
    have hb1 : -9223372036854775808 ≤ z ∧ z ≤ 9223372036854775807 := itoa_bound hl
    rw [← HE.out] at Hz
    clear hz hl
    go_enter Tryz.func38, Tryz.ntmps38
    go_wp2_with (first | (go_at_call 37; (with_reducible refine (HY.out _).mono ?_); rintro _ _ ⟨rfl, rfl⟩) | (go_at_call 67; (with_reducible refine (HS.out _ HA.out.b).mono ?_); rintro _ W1 ⟨rfl, hb⟩; have HA1 := Lib.hid (HA.out.below hb); have c0 := HA1.out.r.cell 0; have c1 := HA1.out.r.cell 1; have c2 := HA1.out.r.cell 2; have c3 := HA1.out.r.cell 3; have c4 := HA1.out.r.cell 4; have c5 := HA1.out.r.cell 5; have c6 := HA1.out.r.cell 6; have c7 := HA1.out.r.cell 7; have c8 := HA1.out.r.cell 8; have c9 := HA1.out.r.cell 9; have c10 := HA1.out.r.cell 10; have c11 := HA1.out.r.cell 11; have f0 := HA1.out.r.frozen 0; have f1 := HA1.out.r.frozen 1; have f2 := HA1.out.r.frozen 2; have f3 := HA1.out.r.frozen 3; have f4 := HA1.out.r.frozen 4; have f5 := HA1.out.r.frozen 5; have f6 := HA1.out.r.frozen 6; have f7 := HA1.out.r.frozen 7; have f8 := HA1.out.r.frozen 8; have f9 := HA1.out.r.frozen 9; have f10 := HA1.out.r.frozen 10; have f11 := HA1.out.r.frozen 11))
    refine bodyPost_ret (v := argV (none, 0, countP z)) (by simp [results, Tryz.results38, go_sem, argV, countP, c0, c1, c2, c3, c4, c5, c6, c7, c8, c9, c10, c11]) rfl ?_
    exact ⟨.inl ⟨(none, 0, countP z), rfl, count_made hb1.1 hb1.2, Hz.out⟩, HA1.out.done _ _ _ _ _ _ _ _ _ _ _ _⟩
  · have HS := Lib.hid (fun W (hb : Below w.heap.size w W) => small_no (HG.out.below hb) HQ.out fun z hl hz => hno ⟨z, hz, hl⟩)
    have Hz := Lib.hid (hash_bad fun k hk he => hno ⟨k, he, hk⟩)
    rw [← HE.out] at Hz
    unfold thrown at HS
    clear hno
    go_enter Tryz.func38, Tryz.ntmps38
    go_wp2_with (first | (go_at_call 37; (with_reducible refine (HY.out _).mono ?_); rintro _ _ ⟨rfl, rfl⟩) | (go_at_call 67; (with_reducible refine (HS.out _ HA.out.b).mono ?_); rintro _ W1 ⟨rfl, hb⟩; have HA1 := Lib.hid (HA.out.below hb)))
    exact ⟨rfl, .inr ⟨rfl, Hz.out⟩, HA1.out.b⟩
end Go.Proofs.YtebpggfccljagaaGreatDoor

/- script.argument behind a parenthesis (printed by gen_argp.py). -/
namespace Go.Proofs.YtebpggfccljagaaGreatDoor
open Go.RowKit
open Wh
set_option linter.unusedSimpArgs false
set_option linter.unusedVariables false

/-- the last byte, behind the first -/
def EndsBy (s : ByteArray) (x : UInt8) : Prop := ∃ m, s.size = m + 1 ∧ 1 ≤ m ∧ s.data.toList[m]? = some x
theorem ends_list {s : ByteArray} {x b : UInt8} {m : Nat} (hm : s.size = m + 1) (h1 : 1 ≤ m) (hx : s.data.toList[m]? = some x) (h0 : 0 < s.size) (hc : s[0] = b) : s.data.toList = b :: ((s.extract 1 m).data.toList ++ [x]) := by
  have hl : s.data.toList.length = s.size := by simp
  have e := head_bytes h0 hc
  rw [e]
  congr 1
  have hml : m < s.data.toList.length := by omega
  rw [List.getElem?_eq_getElem hml] at hx
  have hx' : s.data.toList[m] = x := by injection hx
  rw [(drop_bytes s 1 (by omega)).1]
  have e2 : (s.extract 1 m).data.toList = (s.data.toList.take m).drop 1 := by rw [ext_bs s 1 m h1 (by omega)]
  rw [e2, ← hx']
  have e3 := List.take_append_drop m s.data.toList
  rw [List.drop_eq_getElem_cons hml, List.drop_of_length_le (by omega)] at e3
  conv => lhs; rw [← e3]
  rw [List.drop_append_of_le_length (by rw [List.length_take]; omega)]
theorem ends_not {s : ByteArray} {x b : UInt8} (h0 : 0 < s.size) (hc : s[0] = b) (hn : ¬ EndsBy s x) : ∀ q, (s.extract 1 s.size).data.toList ≠ q ++ [x] := fun q he => hn (by
  have hl : s.data.toList.length = s.size := by simp
  have e := head_bytes h0 hc
  rw [he] at e
  have h2 := congrArg List.length e
  simp only [List.length_cons, List.length_append, List.length_nil] at h2
  refine ⟨q.length + 1, by omega, by omega, ?_⟩
  rw [e, List.getElem?_cons_succ]
  simp)
theorem inner_bad {w : World} {g : Nat} {s : ByteArray} {x : UInt8} (hb : Blk w g 9 #[.string s]) (hs : s.size ≤ 6000) (h0 : 0 < s.size) (hn : ¬ EndsBy s x) :
    Calls Tryz.prog 65 #[.int .u8 (x.toNat : Int), .pointer (some ⟨g, 0, none⟩)] w (fun e w' => e = thrown ∧ w = w') := by
  by_cases h2 : 2 ≤ (s.size : Int)
  · obtain ⟨m, hm⟩ : ∃ m, s.size = m + 1 := ⟨s.size - 1, by omega⟩
    obtain ⟨b, hc, hl, hcl⟩ := byte_at (s := s) (i := m) (by omega)
    refine inner_not hb hm (by omega) (by omega) (by omega) hc ?_
    refine beq_eq_false_iff_ne.2 fun h => hn ⟨m, hm, by omega, ?_⟩
    rw [List.getElem?_eq_getElem hl, hcl]
    congr 1
    exact UInt8.toNat_inj.1 (by omega)
  · exact inner_short hb h2
theorem inner_good {w : World} {g m : Nat} {s : ByteArray} {x : UInt8} (hb : Blk w g 9 #[.string s]) (hs : s.size ≤ 6000) (hm : s.size = m + 1) (h1 : 1 ≤ m) (hx : s.data.toList[m]? = some x) :
    Calls Tryz.prog 65 #[.int .u8 (x.toNat : Int), .pointer (some ⟨g, 0, none⟩)] w (fun e w' => e = .returned (.string (s.extract 1 m)) ∧ w = w') := by
  obtain ⟨b, hc, hl, hcl⟩ := byte_at (s := s) (i := m) (by omega)
  rw [List.getElem?_eq_getElem hl, hcl] at hx
  injection hx with hx
  subst hx
  exact inner_yes hb hm h1 (by omega) (by omega) hc (by simp)
/-- Cut at a byte -/
theorem cut_at (l : List UInt8) (c : UInt8) : (c ∉ l ∧ Lib.cut l [c] = (l, [], false)) ∨ (∃ p q, c ∉ p ∧ l = p ++ c :: q ∧ Lib.cut l [c] = (p, q, true)) := by
  have hmem : ∀ (r : List UInt8) (i : Nat), Lib.index r [c] = i → c ∉ r.take i ∧ r = r.take i ++ c :: r.drop (i + 1) := by
    intro r
    induction r with
    | nil => intro i h; simp [Lib.index] at h
    | cons b r ih =>
      intro i h
      rw [idx_step] at h
      by_cases hb : b = c
      · rw [if_pos hb] at h
        have : i = 0 := by omega
        subst this
        simp [hb]
      · rw [if_neg hb] at h
        by_cases h2 : Lib.index r [c] = -1
        · rw [if_pos h2] at h; omega
        · rw [if_neg h2] at h
          have hge := Lib.index_ge r [c]
          obtain ⟨j, hj⟩ : ∃ j : Nat, Lib.index r [c] = j := ⟨(Lib.index r [c]).toNat, by omega⟩
          have : i = j + 1 := by omega
          subst this
          obtain ⟨h3, h4⟩ := ih j hj
          refine ⟨?_, ?_⟩
          · rw [List.take_succ_cons]
            intro hm
            rcases List.mem_cons.1 hm with hm | hm
            · exact hb hm.symm
            · exact h3 hm
          · rw [List.take_succ_cons, List.drop_succ_cons, List.cons_append, ← h4]
  by_cases h : Lib.index l [c] = -1
  · refine .inl ⟨?_, ?_⟩
    · have : ∀ r : List UInt8, Lib.index r [c] = -1 → c ∉ r := by
        intro r
        induction r with
        | nil => intro _ h; simp at h
        | cons b r ih =>
          intro h hm
          rw [idx_step] at h
          by_cases hb : b = c
          · rw [if_pos hb] at h; omega
          · rw [if_neg hb] at h
            by_cases h2 : Lib.index r [c] = -1
            · rcases List.mem_cons.1 hm with hm | hm
              · exact hb hm.symm
              · exact ih h2 hm
            · rw [if_neg h2] at h
              have hge := Lib.index_ge r [c]
              omega
      exact this l h
    · unfold Lib.cut
      rw [h, if_neg (by omega)]
  · have hge := Lib.index_ge l [c]
    obtain ⟨i, hi⟩ : ∃ i : Nat, Lib.index l [c] = i := ⟨(Lib.index l [c]).toNat, by omega⟩
    obtain ⟨h1, h2⟩ := hmem l i hi
    refine .inr ⟨_, _, h1, h2, ?_⟩
    unfold Lib.cut
    rw [hi, if_pos (by omega)]
    simp
theorem cut_w {W : World} {B : Nat} (hg : Gl B W) (s : ByteArray) (hs : s.size ≤ 6000) {p q : List UInt8} {b : Bool} (h : Lib.cut s.data.toList [44] = (p, q, b)) :
    Calls Tryz.prog 57 #[.string s, .string ⟨#[44]⟩] W (fun e w' => e = .returned (.tuple #[.string ⟨p.toArray⟩, .string ⟨q.toArray⟩, .bool b]) ∧ Below W.heap.size W w') := by
  obtain ⟨m, hm⟩ := hg.m
  refine (Tryz.strings_Cut s ⟨#[44]⟩ m W (by omega) hm).mono ?_
  rintro e w' ⟨he, n, rfl⟩
  have e2 : Lib.cut s.data.toList (⟨#[44]⟩ : ByteArray).data.toList = (p, q, b) := h
  rw [e2] at he
  exact ⟨he, ⟨rfl, rfl, rfl, Nat.le_refl _, fun _ _ => rfl⟩⟩
theorem fread_yes {W : World} {B : Nat} (hg : Gl B W) {s : ByteArray} (hs : s.size ≤ 6000) {a b : Int} (hm : MayZ a b) (he : s.data.toList = txtF a b) :
    Calls Tryz.prog 66 #[.string s] W (fun e w' => e = .returned (.tuple #[encF a b, .int .i64 0]) ∧ Below W.heap.size W w') := by
  obtain ⟨m, h⟩ := hg.m
  refine (fread_any hs h).mono ?_
  rintro e w' ⟨h, hb⟩
  refine ⟨?_, hb⟩
  rcases h with ⟨a', b', h1, _, h2⟩ | ⟨_, h2⟩
  · obtain ⟨rfl, rfl⟩ := txtF_inj (he.symm.trans h2)
    exact h1
  · exact absurd he (h2 a b hm)
theorem fread_no {W : World} {B : Nat} (hg : Gl B W) {s : ByteArray} (hs : s.size ≤ 6000) (hn : ∀ a b, MayZ a b → s.data.toList ≠ txtF a b) :
    Calls Tryz.prog 66 #[.string s] W (fun e w' => e = .returned (.tuple #[.agg #[.bool false, .string ⟨#[]⟩, .bool false, .string ⟨#[]⟩], .int .i64 130]) ∧ Below W.heap.size W w') := by
  obtain ⟨m, h⟩ := hg.m
  refine (fread_any hs h).mono ?_
  rintro e w' ⟨h, hb⟩
  refine ⟨?_, hb⟩
  rcases h with ⟨a', b', _, h1, h2⟩ | ⟨h1, _⟩
  · exact absurd h2 (hn a' b' h1)
  · exact h1
theorem num_made {w : World} {B : Nat} (a b c d : Int) : ArgMade w B (none, 0, numP a b c d) :=
  ArgMade.plain rfl ⟨by show (-9223372036854775808 : Int) ≤ 2; decide, by show (2 : Int) ≤ 9223372036854775807; decide⟩ ⟨by show (-9223372036854775808 : Int) ≤ 0; decide, by show (0 : Int) ≤ 9223372036854775807; decide⟩ (by show (0 : Nat) ≤ _; omega)
/-- either way -/
theorem fread_some {B : Nat} {s : ByteArray} (hs : s.size ≤ 6000) : ∃ (x0 : Bool) (t0 : ByteArray) (x1 : Bool) (t1 : ByteArray) (z : Int), (∀ W, Gl B W → Calls Tryz.prog 66 #[.string s] W (fun e w' => e = .returned (.tuple #[.agg #[.bool x0, .string t0, .bool x1, .string t1], .int .i64 z]) ∧ Below W.heap.size W w')) ∧
    ((z = 0 ∧ ∃ a b, MayZ a b ∧ s.data.toList = txtF a b ∧ encF a b = .agg #[.bool x0, .string t0, .bool x1, .string t1]) ∨ (z = 130 ∧ ∀ a b, MayZ a b → s.data.toList ≠ txtF a b)) := by
  rcases Classical.em (∃ a b, MayZ a b ∧ s.data.toList = txtF a b) with ⟨a, b, h1, h2⟩ | h
  · exact ⟨_, _, _, _, 0, fun W hg => fread_yes hg hs h1 h2, .inl ⟨rfl, a, b, h1, h2, rfl⟩⟩
  · have hn : ∀ a b, MayZ a b → s.data.toList ≠ txtF a b := fun a b h1 h2 => h ⟨a, b, h1, h2⟩
    exact ⟨_, _, _, _, 130, fun W hg => fread_no hg hs hn, .inr ⟨rfl, hn⟩⟩
set_option maxRecDepth 100000 in
set_option maxHeartbeats 4000000 in
theorem arg_paren_end {w : World} {B : Nat} {s : ByteArray} (hg : Gl B w) (hs : s.size ≤ 6000) (h0 : 0 < s.size) (hc : s[0] = 40) (hn : ¬ EndsBy s 41) : Calls Tryz.prog 38 #[.string s] w (ArgOut w s.data.toList) := by
  have HY := Lib.hid (fun W => give_yes (w := W))
  have HA := Lib.hid (ArgS.new w s)
  have hne := str_facts h0
  have hi : (0 : Int) < (s.size : Int) := by omega
  have HI := Lib.hid (inner_bad HA.out.s hs h0 hn)
  have Hno := Lib.hid (paren_end (ends_not h0 hc hn))
  rw [← head_bytes h0 hc] at Hno
  unfold thrown at HI
  clear hg hs hn
  go_enter Tryz.func38, Tryz.ntmps38
  go_wp2_with (first | (go_at_call 37; (with_reducible refine (HY.out _).mono ?_); rintro _ _ ⟨rfl, rfl⟩) | (go_at_call 65; (refine HI.out.mono ?_); rintro _ _ ⟨rfl, rfl⟩))
  exact ⟨rfl, .inr ⟨rfl, Hno.out⟩, HA.out.b⟩
set_option maxRecDepth 100000 in
set_option maxHeartbeats 4000000 in
theorem arg_inf {w : World} {B : Nat} {s : ByteArray} (hg : Gl B w) (hs : s.size ≤ 6000) (h0 : 0 < s.size) (hc : s[0] = 40) {m : Nat} (hm : s.size = m + 1) (h1 : 1 ≤ m) (hx : s.data.toList[m]? = some 41) (hq : s.extract 1 m = ⟨#[105, 110, 102]⟩) : Calls Tryz.prog 38 #[.string s] w (ArgOut w s.data.toList) := by
  have HY := Lib.hid (fun W => give_yes (w := W))
  have HA := Lib.hid (ArgS.new w s)
  have hne := str_facts h0
  have hi : (0 : Int) < (s.size : Int) := by omega
  have HI := Lib.hid (inner_good HA.out.s hs hm h1 hx)
  have HE := Lib.hid (ends_list hm h1 hx h0 hc)
  have HQ := Lib.hid (show (s.extract 1 m).size ≤ 6000 by rw [ByteArray.size_extract]; omega)
  rw [hq] at HI HE
  have Hin := Lib.hid (show ArgIs s.data.toList infP by rw [HE.out]; exact is_inf)
  clear hg hs hm hx hq h1
  go_enter Tryz.func38, Tryz.ntmps38
  go_wp2_with (first | (go_at_call 37; (with_reducible refine (HY.out _).mono ?_); rintro _ _ ⟨rfl, rfl⟩) | (go_at_call 65; (refine HI.out.mono ?_); rintro _ _ ⟨rfl, rfl⟩))
  refine bodyPost_ret (v := argV (none, 0, infP)) (by simp [results, Tryz.results38, go_sem, argV, infP]) rfl ?_
  exact ⟨.inl ⟨(none, 0, infP), rfl, ArgMade.plain rfl (by decide) (by decide) (by decide), Hin.out⟩, ((new_below w _).alloc (by simp) _)⟩
set_option maxRecDepth 100000 in
set_option maxHeartbeats 4000000 in
theorem arg_cut {w : World} {B : Nat} {s : ByteArray} (hg : Gl B w) (hs : s.size ≤ 6000) (h0 : 0 < s.size) (hc : s[0] = 40) {m : Nat} (hm : s.size = m + 1) (h1 : 1 ≤ m) (hx : s.data.toList[m]? = some 41) (hq : s.extract 1 m ≠ ⟨#[105, 110, 102]⟩) : Calls Tryz.prog 38 #[.string s] w (ArgOut w s.data.toList) := by
  have HY := Lib.hid (fun W => give_yes (w := W))
  have HA := Lib.hid (ArgS.new w s)
  have hne := str_facts h0
  have hi : (0 : Int) < (s.size : Int) := by omega
  have HI := Lib.hid (inner_good HA.out.s hs hm h1 hx)
  have HE := Lib.hid (ends_list hm h1 hx h0 hc)
  have HQ := Lib.hid (show (s.extract 1 m).size ≤ 6000 by rw [ByteArray.size_extract]; omega)
  have HG := Lib.hid hg
  have HN := Lib.hid (fun W => give_no (w := W))
  unfold thrown at HN
  have hqd : ¬ (s.extract 1 m).toList = [105, 110, 102] := fun h => hq (tl_inj (by rw [h, ByteArray.toList_eq]))
  have hqn : ((s.extract 1 m).toList == [105, 110, 102]) = false := by simpa using hqd
  have hq2 : (s.extract 1 m).data.toList ≠ [105, 110, 102] := fun h => hq (ByteArray.ext (Array.toList_inj.1 h))
  have Hq2 := Lib.hid hq2
  generalize s.extract 1 m = t at *
  clear hs hm hx h1 hq hq2 hg
  rcases cut_at t.data.toList 44 with ⟨hno, hcut⟩ | ⟨p, q, hnp, htl, hcut⟩
  · have HC := Lib.hid (fun W (hb : Below w.heap.size w W) => cut_w (HG.out.below hb) t HQ.out hcut)
    have HL := Lib.hid (show (⟨t.data.toList.toArray⟩ : ByteArray) = t from rfl)
    obtain ⟨x0, t0, x1, t1, z, hF1, _⟩ := fread_some (B := B) HQ.out
    obtain ⟨y0, u0, y1, u1, z2, hF2, _⟩ := fread_some (B := B) (s := ⟨#[]⟩) (by decide)
    have HF1 := Lib.hid hF1
    have HF2 := Lib.hid hF2
    have Hno := Lib.hid (show ArgNot s.data.toList by rw [HE.out]; exact paren_plain Hq2.out hno)
    clear hF1 hF2 hno hcut
    go_enter Tryz.func38, Tryz.ntmps38
    go_wp2_with (first | (go_at_call 37; (with_reducible refine (HY.out _).mono ?_); rintro _ _ ⟨rfl, rfl⟩) | (go_at_call 65; (refine HI.out.mono ?_); rintro _ _ ⟨rfl, rfl⟩) | (go_at_call 37; (with_reducible refine (HN.out _).mono ?_); rintro _ _ ⟨rfl, rfl⟩) | (go_at_call 57; (with_reducible refine (HC.out _ HA.out.b).mono ?_); rintro _ W1 ⟨rfl, hb1⟩; have HA1 := Lib.hid (HA.out.below hb1)) | (go_at_call 66; (with_reducible refine (HF1.out _ (HG.out.below HA1.out.b)).mono ?_); rintro _ W2 ⟨rfl, hb2⟩; have HA2 := Lib.hid ((HA1.out.below hb2).below (new_below _ (.cells #[.bool x0, .string t0, .bool x1, .string t1] 36))); have HX2 := Lib.hid (Blk.new W2 36 #[.bool x0, .string t0, .bool x1, .string t1])) | (go_at_call 66; (with_reducible refine (HF2.out _ (HG.out.below HA2.out.b)).mono ?_); rintro _ W3 ⟨rfl, hb3⟩; have HA3 := Lib.hid ((HA2.out.below hb3).below (new_below _ (.cells #[.bool y0, .string u0, .bool y1, .string u1] 36))); have HX3 := Lib.hid ((HX2.out.below hb3 HX2.out.lt).alloc (.cells #[.bool y0, .string u0, .bool y1, .string u1] 36)); have HY3 := Lib.hid (Blk.new W3 36 #[.bool y0, .string u0, .bool y1, .string u1]); have d0 := HX3.out.cell 0; have d1 := HX3.out.cell 1; have d2 := HX3.out.cell 2; have d3 := HX3.out.cell 3; have e0 := HY3.out.cell 0; have e1 := HY3.out.cell 1; have e2 := HY3.out.cell 2; have e3 := HY3.out.cell 3; have c0 := HA3.out.r.cell 0; have c1 := HA3.out.r.cell 1; have c2 := HA3.out.r.cell 2; have c3 := HA3.out.r.cell 3; have c4 := HA3.out.r.cell 4; have c5 := HA3.out.r.cell 5; have c6 := HA3.out.r.cell 6; have c7 := HA3.out.r.cell 7; have c8 := HA3.out.r.cell 8; have c9 := HA3.out.r.cell 9; have c10 := HA3.out.r.cell 10; have c11 := HA3.out.r.cell 11; have f0 := HA3.out.r.frozen 0; have f1 := HA3.out.r.frozen 1; have f2 := HA3.out.r.frozen 2; have f3 := HA3.out.r.frozen 3; have f4 := HA3.out.r.frozen 4; have f5 := HA3.out.r.frozen 5; have f6 := HA3.out.r.frozen 6; have f7 := HA3.out.r.frozen 7; have f8 := HA3.out.r.frozen 8; have f9 := HA3.out.r.frozen 9; have f10 := HA3.out.r.frozen 10; have f11 := HA3.out.r.frozen 11))
    exact ⟨rfl, .inr ⟨rfl, Hno.out⟩, HA3.out.b⟩
  · have HC := Lib.hid (fun W (hb : Below w.heap.size w W) => cut_w (HG.out.below hb) t HQ.out hcut)
    have hlen : p.length + q.length + 1 = t.size := by
      have := congrArg List.length htl
      rw [List.length_append, List.length_cons] at this
      have h2 : t.data.toList.length = t.size := by simp
      omega
    have HQ' := HQ.out
    obtain ⟨x0, t0, x1, t1, z, hF1, hz⟩ := fread_some (B := B) (s := ⟨p.toArray⟩) (by show p.toArray.size ≤ 6000; rw [List.size_toArray]; omega)
    obtain ⟨y0, u0, y1, u1, z2, hF2, hz2⟩ := fread_some (B := B) (s := ⟨q.toArray⟩) (by show q.toArray.size ≤ 6000; rw [List.size_toArray]; omega)
    have HF1 := Lib.hid hF1
    have HF2 := Lib.hid hF2
    have HT := Lib.hid htl
    rw [HT.out] at HE
    have Hnp := Lib.hid hnp
    clear hF1 hF2 hnp hcut htl hlen HQ'
    rcases hz with ⟨rfl, a, b, ha, hpt, hV⟩ | ⟨rfl, hbad⟩
    · rcases hz2 with ⟨rfl, c, d, hc2, hqt, hV2⟩ | ⟨rfl, hbad⟩
      · have Hin := Lib.hid (show ArgIs s.data.toList (numP a b c d) by rw [HE.out]; exact paren_is hpt hqt)
        have Hval := Lib.hid (show argV (none, 0, numP a b c d) = .agg #[.int .i64 2, .string ⟨#[]⟩, .bool x0, .string t0, .bool x1, .string t1, .bool y0, .string u0, .bool y1, .string u1, .slice none 0 0, .int .i64 0] by
          unfold encF at hV hV2
          simp only [Value.agg.injEq, Array.mk.injEq, List.cons.injEq, Value.bool.injEq, Value.string.injEq, and_true] at hV hV2
          obtain ⟨g1, g2, g3, g4⟩ := hV
          obtain ⟨g5, g6, g7, g8⟩ := hV2
          unfold argV numP
          simp only [g1, g2, g3, g4, g5, g6, g7, g8]
          rfl)
        clear hpt hqt hV hV2 ha hc2
        go_enter Tryz.func38, Tryz.ntmps38
        go_wp2_with (first | (go_at_call 37; (with_reducible refine (HY.out _).mono ?_); rintro _ _ ⟨rfl, rfl⟩) | (go_at_call 65; (refine HI.out.mono ?_); rintro _ _ ⟨rfl, rfl⟩) | (go_at_call 37; (with_reducible refine (HN.out _).mono ?_); rintro _ _ ⟨rfl, rfl⟩) | (go_at_call 57; (with_reducible refine (HC.out _ HA.out.b).mono ?_); rintro _ W1 ⟨rfl, hb1⟩; have HA1 := Lib.hid (HA.out.below hb1)) | (go_at_call 66; (with_reducible refine (HF1.out _ (HG.out.below HA1.out.b)).mono ?_); rintro _ W2 ⟨rfl, hb2⟩; have HA2 := Lib.hid ((HA1.out.below hb2).below (new_below _ (.cells #[.bool x0, .string t0, .bool x1, .string t1] 36))); have HX2 := Lib.hid (Blk.new W2 36 #[.bool x0, .string t0, .bool x1, .string t1])) | (go_at_call 66; (with_reducible refine (HF2.out _ (HG.out.below HA2.out.b)).mono ?_); rintro _ W3 ⟨rfl, hb3⟩; have HA3 := Lib.hid ((HA2.out.below hb3).below (new_below _ (.cells #[.bool y0, .string u0, .bool y1, .string u1] 36))); have HX3 := Lib.hid ((HX2.out.below hb3 HX2.out.lt).alloc (.cells #[.bool y0, .string u0, .bool y1, .string u1] 36)); have HY3 := Lib.hid (Blk.new W3 36 #[.bool y0, .string u0, .bool y1, .string u1]); have d0 := HX3.out.cell 0; have d1 := HX3.out.cell 1; have d2 := HX3.out.cell 2; have d3 := HX3.out.cell 3; have e0 := HY3.out.cell 0; have e1 := HY3.out.cell 1; have e2 := HY3.out.cell 2; have e3 := HY3.out.cell 3; have c0 := HA3.out.r.cell 0; have c1 := HA3.out.r.cell 1; have c2 := HA3.out.r.cell 2; have c3 := HA3.out.r.cell 3; have c4 := HA3.out.r.cell 4; have c5 := HA3.out.r.cell 5; have c6 := HA3.out.r.cell 6; have c7 := HA3.out.r.cell 7; have c8 := HA3.out.r.cell 8; have c9 := HA3.out.r.cell 9; have c10 := HA3.out.r.cell 10; have c11 := HA3.out.r.cell 11; have f0 := HA3.out.r.frozen 0; have f1 := HA3.out.r.frozen 1; have f2 := HA3.out.r.frozen 2; have f3 := HA3.out.r.frozen 3; have f4 := HA3.out.r.frozen 4; have f5 := HA3.out.r.frozen 5; have f6 := HA3.out.r.frozen 6; have f7 := HA3.out.r.frozen 7; have f8 := HA3.out.r.frozen 8; have f9 := HA3.out.r.frozen 9; have f10 := HA3.out.r.frozen 10; have f11 := HA3.out.r.frozen 11))
        refine bodyPost_ret (v := .agg #[.int .i64 2, .string ⟨#[]⟩, .bool x0, .string t0, .bool x1, .string t1, .bool y0, .string u0, .bool y1, .string u1, .slice none 0 0, .int .i64 0]) (by simp [results, Tryz.results38, go_sem, c0, c1, c2, c3, c4, c5, c6, c7, c8, c9, c10, c11]) rfl ?_
        exact ⟨.inl ⟨(none, 0, numP a b c d), by rw [Hval.out], num_made a b c d, Hin.out⟩, HA3.out.done _ _ _ _ _ _ _ _ _ _ _ _⟩
      · have Hno := Lib.hid (show ArgNot s.data.toList by rw [HE.out]; exact paren_bad Hnp.out (.inr hbad))
        clear hbad hV hpt ha
        go_enter Tryz.func38, Tryz.ntmps38
        go_wp2_with (first | (go_at_call 37; (with_reducible refine (HY.out _).mono ?_); rintro _ _ ⟨rfl, rfl⟩) | (go_at_call 65; (refine HI.out.mono ?_); rintro _ _ ⟨rfl, rfl⟩) | (go_at_call 37; (with_reducible refine (HN.out _).mono ?_); rintro _ _ ⟨rfl, rfl⟩) | (go_at_call 57; (with_reducible refine (HC.out _ HA.out.b).mono ?_); rintro _ W1 ⟨rfl, hb1⟩; have HA1 := Lib.hid (HA.out.below hb1)) | (go_at_call 66; (with_reducible refine (HF1.out _ (HG.out.below HA1.out.b)).mono ?_); rintro _ W2 ⟨rfl, hb2⟩; have HA2 := Lib.hid ((HA1.out.below hb2).below (new_below _ (.cells #[.bool x0, .string t0, .bool x1, .string t1] 36))); have HX2 := Lib.hid (Blk.new W2 36 #[.bool x0, .string t0, .bool x1, .string t1])) | (go_at_call 66; (with_reducible refine (HF2.out _ (HG.out.below HA2.out.b)).mono ?_); rintro _ W3 ⟨rfl, hb3⟩; have HA3 := Lib.hid ((HA2.out.below hb3).below (new_below _ (.cells #[.bool y0, .string u0, .bool y1, .string u1] 36))); have HX3 := Lib.hid ((HX2.out.below hb3 HX2.out.lt).alloc (.cells #[.bool y0, .string u0, .bool y1, .string u1] 36)); have HY3 := Lib.hid (Blk.new W3 36 #[.bool y0, .string u0, .bool y1, .string u1]); have d0 := HX3.out.cell 0; have d1 := HX3.out.cell 1; have d2 := HX3.out.cell 2; have d3 := HX3.out.cell 3; have e0 := HY3.out.cell 0; have e1 := HY3.out.cell 1; have e2 := HY3.out.cell 2; have e3 := HY3.out.cell 3; have c0 := HA3.out.r.cell 0; have c1 := HA3.out.r.cell 1; have c2 := HA3.out.r.cell 2; have c3 := HA3.out.r.cell 3; have c4 := HA3.out.r.cell 4; have c5 := HA3.out.r.cell 5; have c6 := HA3.out.r.cell 6; have c7 := HA3.out.r.cell 7; have c8 := HA3.out.r.cell 8; have c9 := HA3.out.r.cell 9; have c10 := HA3.out.r.cell 10; have c11 := HA3.out.r.cell 11; have f0 := HA3.out.r.frozen 0; have f1 := HA3.out.r.frozen 1; have f2 := HA3.out.r.frozen 2; have f3 := HA3.out.r.frozen 3; have f4 := HA3.out.r.frozen 4; have f5 := HA3.out.r.frozen 5; have f6 := HA3.out.r.frozen 6; have f7 := HA3.out.r.frozen 7; have f8 := HA3.out.r.frozen 8; have f9 := HA3.out.r.frozen 9; have f10 := HA3.out.r.frozen 10; have f11 := HA3.out.r.frozen 11))
        exact ⟨rfl, .inr ⟨rfl, Hno.out⟩, HA3.out.b⟩
    · have Hno := Lib.hid (show ArgNot s.data.toList by rw [HE.out]; exact paren_bad Hnp.out (.inl hbad))
      clear hbad hz2
      go_enter Tryz.func38, Tryz.ntmps38
      go_wp2_with (first | (go_at_call 37; (with_reducible refine (HY.out _).mono ?_); rintro _ _ ⟨rfl, rfl⟩) | (go_at_call 65; (refine HI.out.mono ?_); rintro _ _ ⟨rfl, rfl⟩) | (go_at_call 37; (with_reducible refine (HN.out _).mono ?_); rintro _ _ ⟨rfl, rfl⟩) | (go_at_call 57; (with_reducible refine (HC.out _ HA.out.b).mono ?_); rintro _ W1 ⟨rfl, hb1⟩; have HA1 := Lib.hid (HA.out.below hb1)) | (go_at_call 66; (with_reducible refine (HF1.out _ (HG.out.below HA1.out.b)).mono ?_); rintro _ W2 ⟨rfl, hb2⟩; have HA2 := Lib.hid ((HA1.out.below hb2).below (new_below _ (.cells #[.bool x0, .string t0, .bool x1, .string t1] 36))); have HX2 := Lib.hid (Blk.new W2 36 #[.bool x0, .string t0, .bool x1, .string t1])) | (go_at_call 66; (with_reducible refine (HF2.out _ (HG.out.below HA2.out.b)).mono ?_); rintro _ W3 ⟨rfl, hb3⟩; have HA3 := Lib.hid ((HA2.out.below hb3).below (new_below _ (.cells #[.bool y0, .string u0, .bool y1, .string u1] 36))); have HX3 := Lib.hid ((HX2.out.below hb3 HX2.out.lt).alloc (.cells #[.bool y0, .string u0, .bool y1, .string u1] 36)); have HY3 := Lib.hid (Blk.new W3 36 #[.bool y0, .string u0, .bool y1, .string u1]); have d0 := HX3.out.cell 0; have d1 := HX3.out.cell 1; have d2 := HX3.out.cell 2; have d3 := HX3.out.cell 3; have e0 := HY3.out.cell 0; have e1 := HY3.out.cell 1; have e2 := HY3.out.cell 2; have e3 := HY3.out.cell 3; have c0 := HA3.out.r.cell 0; have c1 := HA3.out.r.cell 1; have c2 := HA3.out.r.cell 2; have c3 := HA3.out.r.cell 3; have c4 := HA3.out.r.cell 4; have c5 := HA3.out.r.cell 5; have c6 := HA3.out.r.cell 6; have c7 := HA3.out.r.cell 7; have c8 := HA3.out.r.cell 8; have c9 := HA3.out.r.cell 9; have c10 := HA3.out.r.cell 10; have c11 := HA3.out.r.cell 11; have f0 := HA3.out.r.frozen 0; have f1 := HA3.out.r.frozen 1; have f2 := HA3.out.r.frozen 2; have f3 := HA3.out.r.frozen 3; have f4 := HA3.out.r.frozen 4; have f5 := HA3.out.r.frozen 5; have f6 := HA3.out.r.frozen 6; have f7 := HA3.out.r.frozen 7; have f8 := HA3.out.r.frozen 8; have f9 := HA3.out.r.frozen 9; have f10 := HA3.out.r.frozen 10; have f11 := HA3.out.r.frozen 11))
      exact ⟨rfl, .inr ⟨rfl, Hno.out⟩, HA3.out.b⟩
end Go.Proofs.YtebpggfccljagaaGreatDoor

/- script.argument behind a bracket (printed by gen_argb.py). -/
namespace Go.Proofs.YtebpggfccljagaaGreatDoor
open Go.RowKit
open Wh
set_option linter.unusedSimpArgs false
set_option linter.unusedVariables false

theorem stepI_append {w : World} {ops : Array Oper} {o : Oper} {a : Act} {K : Act → World → Prop} {Q : Exit → Act → World → Prop} {E : Prop} (hgd : o.guard = none) (s x : Operand)
    (ho : o.op = .call { callee := .builtin .append, args := #[s, x], argTypes := #[39, 39] }) (B : Nat) (v : Value) (l : List Int) (hown : OwnI w B v l) (hs : a.eval s = v)
    (B' : Nat) (A : Option Addr) (news : List Int) (hr : ReadsI w B' A news) (m c : Nat) (hm : m = news.length) (hx : a.eval x = .slice A m c) (hl1 : l.length ≤ 1000000000) (hl2 : news.length ≤ 1000000000) (hbase : B ≤ w.heap.size)
    (h : ∀ A' n' c' w', OwnI w' B (.slice A' n' c') (l ++ news) → w.grownBy w' v.ownBlock → K (a.put o.dst (.slice A' n' c')) w') :
    if Region.wanted o (yielded ops a.tmps) = true then Oper.wp Tryz.prog o a w K Q else E := by
  have hw : Region.wanted o (yielded ops a.tmps) = true := by simp [Region.wanted, hgd]
  rw [if_pos hw]
  obtain ⟨i0, hi, hz0, hz1, hz2⟩ := info_parts infoI
  subst hm
  refine wp_append_any w s x 39 ho B 3 i0 (.int .i64 0) 1 8 Tryz.underlying39 hi hz0 hz1 hz2 rfl (by decide) v l.length (l.map iv) hs hown B' A news.length c (news.map iv) hx hr (iv_one _) (by unfold maxLen; omega) (by omega) hbase ?_
  intro v' w' h1 h2 h3
  have h4 : OwnI w' B v' (l ++ news) := by
    unfold OwnI
    rw [List.length_append, List.map_append]
    exact h1
  obtain ⟨A', c', rfl, _⟩ := h4.form
  exact h A' _ c' w' h4 h2
/-- rows of strings and of ints lie apart -/
theorem own_neS {w : World} {B B' : Nat} {v v2 : Value} {L : List (List UInt8)} {l : List Int} (h : OwnS w B v L) (h' : OwnI w B' v2 l) : ∀ g, v.ownBlock = some g → v2.ownBlock ≠ some g := by
  intro g hg hg'
  rcases h.2 with ⟨rfl, _⟩ | ⟨g1, _, _, rfl, _, hh, _⟩
  · cases hg
  · rcases h'.2 with ⟨rfl, _⟩ | ⟨g2, _, _, rfl, _, hh', _⟩
    · cases hg'
    · have e1 : g1 = g := by simpa [Value.ownBlock] using hg
      have e2 : g2 = g := by simpa [Value.ownBlock] using hg'
      subst e1 e2
      rw [hh] at hh'
      injection hh' with hh'
      injection hh' with _ ht
      revert ht
      decide
theorem OwnS.grown {w w' : World} {B : Nat} {v : Value} {L : List (List UInt8)} (h : OwnS w B v L) {row : Option Nat} (hg : w.grownBy w' row) (hr : ∀ g, v.ownBlock = some g → row ≠ some g) : OwnS w' B v L := by
  refine ⟨h.1, ?_⟩
  rcases h.2 with h' | ⟨g, cap, cur, hv, hb, hh, r⟩
  · exact .inl h'
  · refine .inr ⟨g, cap, cur, hv, hb, (hg.block g (Array.getElem?_eq_some_iff.1 hh).1 ?_).trans hh, r⟩
    intro e
    exact hr g (by rw [hv]; rfl) e.symm
/-- what is held while a word is read -/
structure BrS (w wr : World) (s : ByteArray) (A : Option Addr) (n c : Nat) (zs : List Int) (L : List (List UInt8)) : Prop where
  a : ArgS w wr s
  x : Blk wr (w.heap.size + 1 + 1) 41 #[.int .i64 4, .string ⟨#[]⟩, .bool false, .string ⟨#[]⟩, .bool false, .string ⟨#[]⟩, .bool false, .string ⟨#[]⟩, .bool false, .string ⟨#[]⟩, .slice A n c, .int .i64 0]
  o : OwnI wr w.heap.size (.slice A n c) zs
  p : OwnS wr (w.heap.size + 1 + 1 + 1) (.slice (some ⟨w.heap.size + 1 + 1 + 1, 0, none⟩) L.length L.length) L
theorem BrS.below {w wr w' : World} {s : ByteArray} {A : Option Addr} {n c : Nat} {zs : List Int} {L : List (List UInt8)} (h : BrS w wr s A n c zs L) (hb : Below wr.heap.size wr w') : BrS w w' s A n c zs L :=
  ⟨h.a.below hb, h.x.below hb h.x.lt, h.o.kept hb, h.p.kept hb⟩
theorem ArgS.grown {w wr w' : World} {s : ByteArray} {l : List Int} {v : Value} (h : ArgS w wr s) (ho : OwnI wr w.heap.size v l) (hg : wr.grownBy w' v.ownBlock) : ArgS w w' s :=
  ⟨h.s.grown hg (fun e => own_blk_ne ho h.s (by decide) e.symm), h.r.grown hg (fun e => own_blk_ne ho h.r (by decide) e.symm), h.b.grown hg h.b.size (fun k hk => (ho.lt k hk).1)⟩
theorem BrS.app {w wr W3 : World} {s : ByteArray} {A : Option Addr} {n c : Nat} {zs ys : List Int} {L : List (List UInt8)} (h : BrS w wr s A n c zs L) {A' : Option Addr} {n' c' : Nat}
    (ho : OwnI W3 w.heap.size (.slice A' n' c') ys) (hg : wr.grownBy W3 (Value.slice A n c).ownBlock) : BrS w (W3.setCell ⟨w.heap.size + 1 + 1, 10, none⟩ (.slice A' n' c')) s A' n' c' ys L := by
  have hx3 := h.x.grown hg (fun e => own_blk_ne h.o h.x (by decide) e.symm)
  have ha3 := h.a.grown h.o hg
  have hp3 := h.p.grown hg (fun g hg => own_neS h.p h.o g hg)
  refine ⟨⟨ha3.s.far (p := ⟨w.heap.size + 1 + 1, 10, none⟩) (by show w.heap.size ≠ w.heap.size + 1 + 1; omega) _, ha3.r.far (p := ⟨w.heap.size + 1 + 1, 10, none⟩) (by show w.heap.size + 1 ≠ w.heap.size + 1 + 1; omega) _, ha3.b.setCell (p := ⟨w.heap.size + 1 + 1, 10, none⟩) (by show w.heap.size ≤ w.heap.size + 1 + 1; omega) _⟩, hx3.set_ 10 _, ?_, ?_⟩
  · exact ho.grown (grown_set W3 ⟨w.heap.size + 1 + 1, 10, none⟩ _) (fun g hg e => own_blk_ne ho hx3 (by decide) (by rw [hg]; exact e.symm))
  · exact ownsRow_setCell_below hp3 (by show w.heap.size + 1 + 1 < w.heap.size + 1 + 1 + 1; omega) _
theorem ArgS.own {w wr : World} {s : ByteArray} {l : List Int} {v : Value} (h : ArgS w wr s) (ho : OwnI wr w.heap.size v l) (u0 u1 u2 u3 u4 u5 u6 u7 u8 u9 u10 u11 : Value) : OwnI ((((((((((((wr.setCell ⟨w.heap.size + 1, 0, none⟩ u0).setCell ⟨w.heap.size + 1, 1, none⟩ u1).setCell ⟨w.heap.size + 1, 2, none⟩ u2).setCell ⟨w.heap.size + 1, 3, none⟩ u3).setCell ⟨w.heap.size + 1, 4, none⟩ u4).setCell ⟨w.heap.size + 1, 5, none⟩ u5).setCell ⟨w.heap.size + 1, 6, none⟩ u6).setCell ⟨w.heap.size + 1, 7, none⟩ u7).setCell ⟨w.heap.size + 1, 8, none⟩ u8).setCell ⟨w.heap.size + 1, 9, none⟩ u9).setCell ⟨w.heap.size + 1, 10, none⟩ u10).setCell ⟨w.heap.size + 1, 11, none⟩ u11) w.heap.size v l := by
  have hg : wr.grownBy ((((((((((((wr.setCell ⟨w.heap.size + 1, 0, none⟩ u0).setCell ⟨w.heap.size + 1, 1, none⟩ u1).setCell ⟨w.heap.size + 1, 2, none⟩ u2).setCell ⟨w.heap.size + 1, 3, none⟩ u3).setCell ⟨w.heap.size + 1, 4, none⟩ u4).setCell ⟨w.heap.size + 1, 5, none⟩ u5).setCell ⟨w.heap.size + 1, 6, none⟩ u6).setCell ⟨w.heap.size + 1, 7, none⟩ u7).setCell ⟨w.heap.size + 1, 8, none⟩ u8).setCell ⟨w.heap.size + 1, 9, none⟩ u9).setCell ⟨w.heap.size + 1, 10, none⟩ u10).setCell ⟨w.heap.size + 1, 11, none⟩ u11) (some (w.heap.size + 1)) := (only_setCell (p := ⟨w.heap.size + 1, 11, none⟩) ((only_setCell (p := ⟨w.heap.size + 1, 10, none⟩) ((only_setCell (p := ⟨w.heap.size + 1, 9, none⟩) ((only_setCell (p := ⟨w.heap.size + 1, 8, none⟩) ((only_setCell (p := ⟨w.heap.size + 1, 7, none⟩) ((only_setCell (p := ⟨w.heap.size + 1, 6, none⟩) ((only_setCell (p := ⟨w.heap.size + 1, 5, none⟩) ((only_setCell (p := ⟨w.heap.size + 1, 4, none⟩) ((only_setCell (p := ⟨w.heap.size + 1, 3, none⟩) ((only_setCell (p := ⟨w.heap.size + 1, 2, none⟩) ((only_setCell (p := ⟨w.heap.size + 1, 1, none⟩) ((only_setCell (p := ⟨w.heap.size + 1, 0, none⟩) (World.grownBy.refl wr (some (w.heap.size + 1))) (.inl rfl) u0)) (.inl rfl) u1)) (.inl rfl) u2)) (.inl rfl) u3)) (.inl rfl) u4)) (.inl rfl) u5)) (.inl rfl) u6)) (.inl rfl) u7)) (.inl rfl) u8)) (.inl rfl) u9)) (.inl rfl) u10)) (.inl rfl) u11)
  exact ho.grown hg (fun g hg e => own_blk_ne ho h.r (by decide) (by rw [hg]; exact e.symm))
theorem chk_ok {l : List Int} (h : l.length ≤ 4096) : chk [l] ≠ 3 := by
  unfold chk tooLong
  simp only [List.any_cons, List.any_nil, Bool.or_false]
  rw [if_neg (show ¬ decide (4096 < l.length) = true by simpa using h)]
  split <;> decide
theorem chk_long {l : List Int} (h : chk [l] = 3) : 4096 < l.length := by
  rcases Nat.lt_or_ge 4096 l.length with h1 | h1
  · exact h1
  · exact absurd h (chk_ok h1)
theorem word_made {w : World} {B : Nat} {A : Option Addr} {n c : Nat} {zs : List Int} (ho : OwnI w B (.slice A n c) zs) (hl : zs.length ≤ 1000000) : ArgMade w B (A, c, wordP zs) := by
  obtain ⟨h1, _⟩ := ho.len
  subst h1
  exact ⟨⟨by show (-9223372036854775808 : Int) ≤ 4; decide, by show (4 : Int) ≤ 9223372036854775807; decide⟩, ⟨by show (-9223372036854775808 : Int) ≤ 0; decide, by show (0 : Int) ≤ 9223372036854775807; decide⟩, ho, ⟨by show (0 : Nat) ≤ _; omega, hl⟩⟩
theorem parts_small (c : UInt8) : ∀ l : List UInt8, (parts c l).length ≤ l.length + 1
  | [] => by simp [parts]
  | b :: r => by
    have ih := parts_small c r
    unfold parts
    obtain ⟨q, qs, hq⟩ := parts_ne c r
    rw [hq] at ih ⊢
    split
    · simp at ih ⊢; omega
    · show ((_ :: qs : List (List UInt8))).length ≤ _
      simp at ih ⊢; omega
/-- the block of the word that is read -/
theorem word_blk {w wr : World} {s : ByteArray} (h : ArgS w wr s) (hz : wr.heap.size = w.heap.size + 1 + 1) : ArgS w (wr.alloc (.cells #[.int .i64 4, .string ⟨#[]⟩, .bool false, .string ⟨#[]⟩, .bool false, .string ⟨#[]⟩, .bool false, .string ⟨#[]⟩, .bool false, .string ⟨#[]⟩, .slice none 0 0, .int .i64 0] 41)) s ∧ Blk (wr.alloc (.cells #[.int .i64 4, .string ⟨#[]⟩, .bool false, .string ⟨#[]⟩, .bool false, .string ⟨#[]⟩, .bool false, .string ⟨#[]⟩, .bool false, .string ⟨#[]⟩, .slice none 0 0, .int .i64 0] 41)) (w.heap.size + 1 + 1) 41 #[.int .i64 4, .string ⟨#[]⟩, .bool false, .string ⟨#[]⟩, .bool false, .string ⟨#[]⟩, .bool false, .string ⟨#[]⟩, .bool false, .string ⟨#[]⟩, .slice none 0 0, .int .i64 0] := by
  have hb := Blk.new wr 41 #[.int .i64 4, .string ⟨#[]⟩, .bool false, .string ⟨#[]⟩, .bool false, .string ⟨#[]⟩, .bool false, .string ⟨#[]⟩, .bool false, .string ⟨#[]⟩, .slice none 0 0, .int .i64 0]
  rw [hz] at hb
  exact ⟨h.below (new_below _ _), hb⟩
set_option maxRecDepth 100000 in
set_option maxHeartbeats 4000000 in
theorem arg_brack_end {w : World} {B : Nat} {s : ByteArray} (hg : Gl B w) (hs : s.size ≤ 6000) (h0 : 0 < s.size) (hc : s[0] = 91) (hn : ¬ EndsBy s 93) : Calls Tryz.prog 38 #[.string s] w (ArgOut w s.data.toList) := by
  have HY := Lib.hid (fun W => give_yes (w := W))
  have HA := Lib.hid (ArgS.new w s)
  have hne := str_facts h0
  have hi : (0 : Int) < (s.size : Int) := by omega
  have HW := Lib.hid (word_blk HA.out (by simp))
  have HI := Lib.hid (inner_bad HW.out.1.s hs h0 hn)
  have Hno := Lib.hid (brack_end (ends_not h0 hc hn))
  rw [← head_bytes h0 hc] at Hno
  unfold thrown at HI
  clear hg hs hn
  go_enter Tryz.func38, Tryz.ntmps38
  go_wp2_with (first | (go_at_call 37; (with_reducible refine (HY.out _).mono ?_); rintro _ _ ⟨rfl, rfl⟩) | (go_at_call 65; (refine HI.out.mono ?_); rintro _ _ ⟨rfl, rfl⟩))
  exact ⟨rfl, .inr ⟨rfl, Hno.out⟩, HW.out.1.b⟩
set_option maxRecDepth 100000 in
set_option maxHeartbeats 4000000 in
theorem arg_brack_none {w : World} {B : Nat} {s : ByteArray} (hg : Gl B w) (hs : s.size ≤ 6000) (h0 : 0 < s.size) (hc : s[0] = 91) {m : Nat} (hm : s.size = m + 1) (h1 : 1 ≤ m) (hx : s.data.toList[m]? = some 93) (hq : s.extract 1 m = ⟨#[]⟩) : Calls Tryz.prog 38 #[.string s] w (ArgOut w s.data.toList) := by
  have HY := Lib.hid (fun W => give_yes (w := W))
  have HA := Lib.hid (ArgS.new w s)
  have hne := str_facts h0
  have hi : (0 : Int) < (s.size : Int) := by omega
  have HW := Lib.hid (word_blk HA.out (by simp))
  have HI := Lib.hid (inner_good HW.out.1.s hs hm h1 hx)
  have HE := Lib.hid (ends_list hm h1 hx h0 hc)
  have HQ := Lib.hid (show (s.extract 1 m).size ≤ 6000 by rw [ByteArray.size_extract]; omega)
  rw [hq] at HI HE
  have Hin := Lib.hid (show ArgIs s.data.toList (wordP []) by rw [HE.out]; exact brack_is rfl)
  clear hg hs hm hx hq h1
  have d0 := HW.out.2.cell 0
  have d1 := HW.out.2.cell 1
  have d2 := HW.out.2.cell 2
  have d3 := HW.out.2.cell 3
  have d4 := HW.out.2.cell 4
  have d5 := HW.out.2.cell 5
  have d6 := HW.out.2.cell 6
  have d7 := HW.out.2.cell 7
  have d8 := HW.out.2.cell 8
  have d9 := HW.out.2.cell 9
  have d10 := HW.out.2.cell 10
  have d11 := HW.out.2.cell 11
  have g0 := HW.out.2.frozen 0
  have g1 := HW.out.2.frozen 1
  have g2 := HW.out.2.frozen 2
  have g3 := HW.out.2.frozen 3
  have g4 := HW.out.2.frozen 4
  have g5 := HW.out.2.frozen 5
  have g6 := HW.out.2.frozen 6
  have g7 := HW.out.2.frozen 7
  have g8 := HW.out.2.frozen 8
  have g9 := HW.out.2.frozen 9
  have g10 := HW.out.2.frozen 10
  have g11 := HW.out.2.frozen 11
  have c0 := HW.out.1.r.cell 0
  have c1 := HW.out.1.r.cell 1
  have c2 := HW.out.1.r.cell 2
  have c3 := HW.out.1.r.cell 3
  have c4 := HW.out.1.r.cell 4
  have c5 := HW.out.1.r.cell 5
  have c6 := HW.out.1.r.cell 6
  have c7 := HW.out.1.r.cell 7
  have c8 := HW.out.1.r.cell 8
  have c9 := HW.out.1.r.cell 9
  have c10 := HW.out.1.r.cell 10
  have c11 := HW.out.1.r.cell 11
  have f0 := HW.out.1.r.frozen 0
  have f1 := HW.out.1.r.frozen 1
  have f2 := HW.out.1.r.frozen 2
  have f3 := HW.out.1.r.frozen 3
  have f4 := HW.out.1.r.frozen 4
  have f5 := HW.out.1.r.frozen 5
  have f6 := HW.out.1.r.frozen 6
  have f7 := HW.out.1.r.frozen 7
  have f8 := HW.out.1.r.frozen 8
  have f9 := HW.out.1.r.frozen 9
  have f10 := HW.out.1.r.frozen 10
  have f11 := HW.out.1.r.frozen 11
  go_enter Tryz.func38, Tryz.ntmps38
  go_wp2_with (first | (go_at_call 37; (with_reducible refine (HY.out _).mono ?_); rintro _ _ ⟨rfl, rfl⟩) | (go_at_call 65; (refine HI.out.mono ?_); rintro _ _ ⟨rfl, rfl⟩))
  refine bodyPost_ret (v := argV (none, 0, wordP [])) (by simp [results, Tryz.results38, go_sem, argV, wordP]) rfl ?_
  exact ⟨.inl ⟨(none, 0, wordP []), rfl, word_made (OwnI.nil _ _) (by simp), Hin.out⟩, ((((new_below w _).alloc (by simp) _)).alloc (by simp <;> omega) _)⟩
set_option maxRecDepth 100000 in
set_option maxHeartbeats 4000000 in
theorem arg_brack_go {w : World} {B : Nat} {s : ByteArray} (hg : Gl B w) (hs : s.size ≤ 6000) (h0 : 0 < s.size) (hc : s[0] = 91) {m : Nat} (hm : s.size = m + 1) (h1 : 1 ≤ m) (hx : s.data.toList[m]? = some 93) (hq : s.extract 1 m ≠ ⟨#[]⟩) : Calls Tryz.prog 38 #[.string s] w (ArgOut w s.data.toList) := by
  have HY := Lib.hid (fun W => give_yes (w := W))
  have HA := Lib.hid (ArgS.new w s)
  have hne := str_facts h0
  have hi : (0 : Int) < (s.size : Int) := by omega
  have HW := Lib.hid (word_blk HA.out (by simp))
  have HI := Lib.hid (inner_good HW.out.1.s hs hm h1 hx)
  have HE := Lib.hid (ends_list hm h1 hx h0 hc)
  have HQ := Lib.hid (show (s.extract 1 m).size ≤ 6000 by rw [ByteArray.size_extract]; omega)
  have HG := Lib.hid hg
  have HN := Lib.hid (fun W => give_no (w := W))
  unfold thrown at HN
  have hqd : ¬ (s.extract 1 m).toList = [] := fun h => hq (tl_inj (by rw [h, ByteArray.toList_eq]))
  have hqn : ((s.extract 1 m).toList == []) = false := by simpa using hqd
  have hqe : (s.extract 1 m).toList.isEmpty = false := by simpa using hqd
  have Hq2 := Lib.hid (show (s.extract 1 m).data.toList ≠ [] from fun h => hq (ByteArray.ext (Array.toList_inj.1 h)))
  generalize s.extract 1 m = t at *
  clear hs hm hx h1 hq hg
  have HL := Lib.hid (show (cutB t.data.toList 46).length ≤ 6001 by
    rw [cutB_parts]
    have h2 := parts_small 46 t.data.toList
    have h3 : t.data.toList.length = t.size := by simp
    have := HQ.out
    omega)
  have HSP := Lib.hid (fun W (hb : Below w.heap.size w W) => by
    obtain ⟨m, hm⟩ := (HG.out.below hb).m
    exact splitw_any (w := W) t 46 m (by have := HQ.out; omega) hm)
  have HJ := Lib.hid (show Lib.join (cutB t.data.toList 46) [46] = t.data.toList by rw [cutB_parts]; exact join_parts 46 _)
  have HBad := Lib.hid (fun (p : List UInt8) (hp : p ∈ cutB t.data.toList 46) hh => brack_bad (q := t.data.toList) (p := p) Hq2.out (by rw [← cutB_parts]; exact hp) hh)
  rw [← HE.out] at HBad
  have HLen : Hid (∀ p ∈ cutB t.data.toList 46, p.length ≤ 6000) := Lib.hid fun p hp => by
    have h1 := mem_join_len (c := 46) (l := cutB t.data.toList 46) p hp
    rw [HJ.out] at h1
    have h2 : t.data.toList.length = t.size := by simp
    have := HQ.out
    omega
  have HN1 := Lib.hid (show 1 ≤ (cutB t.data.toList 46).length by
    rw [cutB_parts]
    obtain ⟨q, qs, h⟩ := parts_ne 46 t.data.toList
    rw [h]; simp)
  generalize cutB t.data.toList 46 = L at *
  go_enter Tryz.func38, Tryz.ntmps38
  go_wp2_with (first | (go_at_call 37; (with_reducible refine (HY.out _).mono ?_); rintro _ _ ⟨rfl, rfl⟩) | (go_at_call 65; (refine HI.out.mono ?_); rintro _ _ ⟨rfl, rfl⟩) | (go_at_call 34; (refine (HSP.out _ HW.out.1.b).mono ?_); rintro _ W1 ⟨n, rfl, ho1, hb1⟩; have HA1 := Lib.hid (HW.out.1.below hb1); have hx1 := HW.out.2.below hb1 HW.out.2.lt))
  simp only [World.size_alloc] at ho1
  obtain rfl : n = L.length := by
    obtain ⟨A', c', e, _⟩ := ho1.form
    injection e
  have Hst := Lib.hid (show BrS w W1 s none 0 0 [] L from ⟨HA1.out, hx1, OwnI.nil _ _, ho1⟩)
  clear hx1 ho1 hb1 HA1 HSP
  go_loopg [69] L.length (fun k iv wr => ∃ (i : Nat) (A : Option Addr) (n c : Nat) (zs : List Int), iv = .int .i64 (i : Int) ∧ k = L.length - i ∧ i ≤ L.length ∧ Hid (zs.map Lib.itoa = L.take i ∧ Wf zs) ∧ Hid (BrS w wr s A n c zs L))
  case atStart => exact ⟨0, none, 0, 0, [], rfl, by omega, by omega, Lib.hid ⟨rfl, by intro k hk; simp at hk⟩, Hst⟩
  case round =>
    obtain ⟨i, A, n, c, zs, rfl, hk, hi, hz, hO⟩ := hrel
    have Hk := Lib.hid hk
    clear hk
    by_cases hin : i < L.length
    · have hii : (i : Int) < (L.length : Int) := by omega
      have hi0 : (0 : Int) ≤ (i : Int) := by omega
      have hi6 : (i : Int) ≤ 6001 := by have := HL.out; omega
      have hcp := hO.out.p.get hin
      have HpL := Lib.hid (HLen.out _ (List.getElem_mem hin))
      have HpB := Lib.hid (HBad.out _ (List.getElem_mem hin))
      have Htk := Lib.hid (List.take_succ_eq_append_getElem hin)
      generalize L[i] = p at *
      have c10 := hO.out.x.cell 10
      have f10 := hO.out.x.frozen 10
      have HpS := Lib.hid (show (⟨p.toArray⟩ : ByteArray).size ≤ 6000 by show p.toArray.size ≤ 6000; rw [List.size_toArray]; exact HpL.out)
      rcases Classical.em (∃ z, Lib.itoa z = p ∧ (Lib.itoa z).length ≤ 12) with ⟨z, hzp, hzl⟩ | hno
      · have HS := Lib.hid (fun W (hb : Below w.heap.size w W) => small_yes (s := ⟨p.toArray⟩) (HG.out.below hb) HpS.out (z := z) hzp hzl)
        have Hzb := Lib.hid (itoa_bound hzl)
        have Hnew := Lib.hid (show (zs ++ [z]).map Lib.itoa = L.take (i + 1) ∧ Wf (zs ++ [z]) by
          refine ⟨by rw [List.map_append, hz.out.1, Htk.out, ← hzp]; rfl, fun k hk => ?_⟩
          rcases List.mem_append.1 hk with h | h
          · exact hz.out.2 k h
          · rw [List.mem_singleton.1 h]; exact Hzb.out)
        have Hlz := Lib.hid (show zs.length ≤ 1000000000 by have h1 := congrArg List.length hz.out.1; rw [List.length_map, List.length_take] at h1; have := HL.out; omega)
        clear hzp hzl
        go_wp2_with fail
        refine wp_region_noPanic ?_
        refine wp_region_HK (fun w' => w'.cell? ⟨w.heap.size + 1 + 1, 10, none⟩ = some (.slice A n c)) 7 (by kernel_rfl) c10 (fun hHeld => ?_)
        refine wpHK_take (i := 0) (oi := Oper.mk (some 73) _ _ _ _ _) (v := ?_) rfl (by kernel_rfl) (by kernel_rfl) (by kernel_rfl) (by kernel_rfl) (fun _ _ _ h => h) (Or.inl ⟨by rfl, ?_⟩) (by assumption) ?_
        rotate_left
        · (intro w' hSw; (try dsimp only at hSw); (obtain s1 := hSw); go_simp; try with_reducible rfl)
        try simp only [Act.put, List.setIfInBounds_toArray, List.set_cons_zero, List.set_cons_succ]
        refine wpHK_take (i := 1) (oi := Oper.mk (some 74) _ _ _ _ _) (v := ?_) rfl (by kernel_rfl) (by kernel_rfl) (by kernel_rfl) (by kernel_rfl) (fun _ _ _ h => h) (Or.inl ⟨by rfl, ?_⟩) (by assumption) ?_
        rotate_left
        · (intro w' hSw; (try dsimp only at hSw); (obtain s1 := hSw); go_simp; try with_reducible rfl)
        try simp only [Act.put, List.setIfInBounds_toArray, List.set_cons_zero, List.set_cons_succ]
        refine wpHK_take (i := 2) (oi := Oper.mk (some 75) _ _ _ _ _) (v := ?_) rfl (by kernel_rfl) (by kernel_rfl) (by kernel_rfl) (by kernel_rfl) (fun _ _ _ h => h) (Or.inl ⟨by rfl, ?_⟩) (by assumption) ?_
        rotate_left
        · (intro w' hSw; (try dsimp only at hSw); (obtain s1 := hSw); go_simp; try with_reducible rfl)
        try simp only [Act.put, List.setIfInBounds_toArray, List.set_cons_zero, List.set_cons_succ]
        refine wpHK_one (j := 3) (o := Oper.mk (some 76) _ _ _ _ _) rfl (by kernel_rfl) (fun K hK => ?_)
        go_simp
        refine (HS.out _ (hO.out.a.b.drew)).mono ?_
        rintro _ W4 ⟨rfl, hb4⟩
        have hS4 := hO.out.below (undrew hb4)
        have hS5 := hS4.below (new_below W4 (.cells #[.int .i64 z] 3))
        refine hK.out _ _ (hS4.x.cell 10) (fun _ => ?_)
        clear hK K hHeld
        have hHeld := (hS4.x.cell 10)
        try simp only [Act.put, List.setIfInBounds_toArray, List.set_cons_zero, List.set_cons_succ]
        refine wpHK_one (j := 4) (o := Oper.mk (some 77) _ _ _ _ _) rfl (by kernel_rfl) (fun K hK => ?_)
        go_simp
        refine hK.out _ _ (hS5.x.cell 10) (fun _ => ?_)
        clear hK K hHeld
        have hHeld := (hS5.x.cell 10)
        try simp only [Act.put, List.setIfInBounds_toArray, List.set_cons_zero, List.set_cons_succ]
        refine wpHK_one (j := 5) (o := Oper.mk (some 78) _ _ _ _ _) rfl (by kernel_rfl) (fun K hK => ?_)
        refine stepI_append (by rfl) (.tmp 74) (.tmp 77) (by rfl) w.heap.size _ zs hS5.o (by rfl) _ _ [z] (reads_single W4 z) 1 1 rfl (by rfl) Hlz.out (by simp) hS5.a.b.size ?_
        intro A5 n5 c5 w5 ho5 hg5
        refine hK.out _ _ ((hS5.x.grown hg5 (fun e => own_blk_ne hS5.o hS5.x (by decide) e.symm)).cell 10) (fun _ => ?_)
        clear hK K hHeld
        have hHeld := ((hS5.x.grown hg5 (fun e => own_blk_ne hS5.o hS5.x (by decide) e.symm)).cell 10)
        try simp only [Act.put, List.setIfInBounds_toArray, List.set_cons_zero, List.set_cons_succ]
        refine wpHK_take (i := 6) (oi := Oper.mk (some 79) _ _ _ _ _) (v := ?_) rfl (by kernel_rfl) (by kernel_rfl) (by kernel_rfl) (by kernel_rfl) (fun _ _ _ h => h) (Or.inl ⟨by rfl, ?_⟩) (by assumption) ?_
        rotate_left
        · (intro w' hSw; (try dsimp only at hSw); (obtain s1 := hSw); go_simp; try with_reducible rfl)
        try simp only [Act.put, List.setIfInBounds_toArray, List.set_cons_zero, List.set_cons_succ]
        refine wpHK_tail (j := 7) (o := Oper.mk (none) _ _ _ _ _) rfl (by kernel_rfl) (by decide) (fun K hK => ?_)
        have g10 := (hS5.x.grown hg5 (fun e => own_blk_ne hS5.o hS5.x (by decide) e.symm)).frozen 10
        go_simp
        refine hK.out _ _ ?_
        clear hK K
        try simp only [Act.put, List.setIfInBounds_toArray, List.set_cons_zero, List.set_cons_succ]
        refine wpHK_done (by kernel_rfl) ?_ _
        refine NoPanic.normal ?_
        go_wp2_with fail
        go_roundg (L.length - (i + 1))
        case measure => have := Hk.out; omega
        case rel => exact ⟨i + 1, A5, n5, c5, zs ++ [z], rfl, rfl, by omega, Hnew, Lib.hid (hS5.app ho5 hg5)⟩
      · have HS := Lib.hid (fun W (hb : Below w.heap.size w W) => small_no (s := ⟨p.toArray⟩) (HG.out.below hb) HpS.out fun z hl hz => hno ⟨z, hz, hl⟩)
        have Hno := Lib.hid (HpB.out fun k hk he => hno ⟨k, he, hk⟩)
        unfold thrown at HS
        clear hno
        go_wp2_with fail
        refine wp_region_HK (fun w' => w'.cell? ⟨w.heap.size + 1 + 1, 10, none⟩ = some (.slice A n c)) 7 (by kernel_rfl) c10 (fun hHeld => ?_)
        refine wpHK_take (i := 0) (oi := Oper.mk (some 73) _ _ _ _ _) (v := ?_) rfl (by kernel_rfl) (by kernel_rfl) (by kernel_rfl) (by kernel_rfl) (fun _ _ _ h => h) (Or.inl ⟨by rfl, ?_⟩) (by assumption) ?_
        rotate_left
        · (intro w' hSw; (try dsimp only at hSw); (obtain s1 := hSw); go_simp; try with_reducible rfl)
        try simp only [Act.put, List.setIfInBounds_toArray, List.set_cons_zero, List.set_cons_succ]
        refine wpHK_take (i := 1) (oi := Oper.mk (some 74) _ _ _ _ _) (v := ?_) rfl (by kernel_rfl) (by kernel_rfl) (by kernel_rfl) (by kernel_rfl) (fun _ _ _ h => h) (Or.inl ⟨by rfl, ?_⟩) (by assumption) ?_
        rotate_left
        · (intro w' hSw; (try dsimp only at hSw); (obtain s1 := hSw); go_simp; try with_reducible rfl)
        try simp only [Act.put, List.setIfInBounds_toArray, List.set_cons_zero, List.set_cons_succ]
        refine wpHK_take (i := 2) (oi := Oper.mk (some 75) _ _ _ _ _) (v := ?_) rfl (by kernel_rfl) (by kernel_rfl) (by kernel_rfl) (by kernel_rfl) (fun _ _ _ h => h) (Or.inl ⟨by rfl, ?_⟩) (by assumption) ?_
        rotate_left
        · (intro w' hSw; (try dsimp only at hSw); (obtain s1 := hSw); go_simp; try with_reducible rfl)
        try simp only [Act.put, List.setIfInBounds_toArray, List.set_cons_zero, List.set_cons_succ]
        refine wpHK_one (j := 3) (o := Oper.mk (some 76) _ _ _ _ _) rfl (by kernel_rfl) (fun K hK => ?_)
        go_simp
        refine (HS.out _ (hO.out.a.b.drew)).mono ?_
        rintro _ W4 ⟨rfl, hb4⟩
        have hS4 := hO.out.below (undrew hb4)
        exact ⟨rfl, .inr ⟨rfl, Hno.out⟩, hS4.a.b⟩
    · have hii : ¬ (i : Int) < (L.length : Int) := by omega
      have hall : zs.map Lib.itoa = L := by
        have h := hz.out.1
        rwa [List.take_of_length_le (by omega)] at h
      have HJ2 := Lib.hid (show t.data.toList = wtx zs by
        have h := HJ.out
        rw [← hall] at h
        exact h.symm)
      have hzl : zs.length = L.length := by rw [← hall, List.length_map]
      have hnz := hO.out.o.len.1
      have Hlz := Lib.hid (show 1 ≤ zs.length ∧ zs.length ≤ 6001 from ⟨by have := HN1.out; omega, by have := HL.out; omega⟩)
      have hn0 : ((n : Int) == 0) = false := by have := Hlz.out.1; simp; omega
      have hn1 : ¬ (n : Int) = 0 := by have := Hlz.out.1; omega
      have HC := Lib.hid (wchk_any (c := c) hO.out.o.reads (Nat.le_refl _) hnz hz.out.2 (by have := Hlz.out.2; omega))
      have k10 := hO.out.x.cell 10
      by_cases h3 : chk [zs] = 3
      · have e1 : (chk [zs] != 3) = false := by rw [h3]; decide
        have Hno := Lib.hid (brack_long HJ2.out (chk_long h3))
        rw [← HE.out] at Hno
        clear h3 hall hzl hnz
        generalize chk [zs] = z at *
        go_wp2_with (first | (go_at_call 68; (with_reducible refine HC.out.mono ?_); rintro _ W4 ⟨rfl, hb4⟩; have HS4 := Lib.hid (hO.out.below hb4)) | (go_at_call 37; (with_reducible refine (HN.out _).mono ?_); rintro _ _ ⟨rfl, rfl⟩))
        exact ⟨rfl, .inr ⟨rfl, Hno.out⟩, HS4.out.a.b⟩
      · have e1 : (chk [zs] != 3) = true := by simpa using h3
        have Hin := Lib.hid (show ArgIs s.data.toList (wordP zs) by rw [HE.out]; exact brack_is HJ2.out)
        clear h3 hall hzl hnz
        generalize chk [zs] = z at *
        go_wp2_with (first | (go_at_call 68; (with_reducible refine HC.out.mono ?_); rintro _ W4 ⟨rfl, hb4⟩; have HS4 := Lib.hid (hO.out.below hb4); have d0 := HS4.out.x.cell 0; have d1 := HS4.out.x.cell 1; have d2 := HS4.out.x.cell 2; have d3 := HS4.out.x.cell 3; have d4 := HS4.out.x.cell 4; have d5 := HS4.out.x.cell 5; have d6 := HS4.out.x.cell 6; have d7 := HS4.out.x.cell 7; have d8 := HS4.out.x.cell 8; have d9 := HS4.out.x.cell 9; have d10 := HS4.out.x.cell 10; have d11 := HS4.out.x.cell 11; have g0 := HS4.out.x.frozen 0; have g1 := HS4.out.x.frozen 1; have g2 := HS4.out.x.frozen 2; have g3 := HS4.out.x.frozen 3; have g4 := HS4.out.x.frozen 4; have g5 := HS4.out.x.frozen 5; have g6 := HS4.out.x.frozen 6; have g7 := HS4.out.x.frozen 7; have g8 := HS4.out.x.frozen 8; have g9 := HS4.out.x.frozen 9; have g10 := HS4.out.x.frozen 10; have g11 := HS4.out.x.frozen 11; have c0 := HS4.out.a.r.cell 0; have c1 := HS4.out.a.r.cell 1; have c2 := HS4.out.a.r.cell 2; have c3 := HS4.out.a.r.cell 3; have c4 := HS4.out.a.r.cell 4; have c5 := HS4.out.a.r.cell 5; have c6 := HS4.out.a.r.cell 6; have c7 := HS4.out.a.r.cell 7; have c8 := HS4.out.a.r.cell 8; have c9 := HS4.out.a.r.cell 9; have c10 := HS4.out.a.r.cell 10; have c11 := HS4.out.a.r.cell 11; have f0 := HS4.out.a.r.frozen 0; have f1 := HS4.out.a.r.frozen 1; have f2 := HS4.out.a.r.frozen 2; have f3 := HS4.out.a.r.frozen 3; have f4 := HS4.out.a.r.frozen 4; have f5 := HS4.out.a.r.frozen 5; have f6 := HS4.out.a.r.frozen 6; have f7 := HS4.out.a.r.frozen 7; have f8 := HS4.out.a.r.frozen 8; have f9 := HS4.out.a.r.frozen 9; have f10 := HS4.out.a.r.frozen 10; have f11 := HS4.out.a.r.frozen 11) | (go_at_call 37; (with_reducible refine (HY.out _).mono ?_); rintro _ _ ⟨rfl, rfl⟩))
        obtain rfl : n = zs.length := HS4.out.o.len.1
        refine bodyPost_ret (v := argV (A, c, wordP zs)) (by simp [results, Tryz.results38, go_sem, argV, wordP, c0, c1, c2, c3, c4, c5, c6, c7, c8, c9, c10, c11]) rfl ?_
        exact ⟨.inl ⟨(A, c, wordP zs), rfl, word_made (HS4.out.a.own HS4.out.o _ _ _ _ _ _ _ _ _ _ _ _) (by have := Hlz.out.2; omega), Hin.out⟩, HS4.out.a.done _ _ _ _ _ _ _ _ _ _ _ _⟩
/-- script.argument -/
theorem arg_any {w : World} {B : Nat} {s : ByteArray} (hg : Gl B w) (hs : s.size ≤ 6000) : Calls Tryz.prog 38 #[.string s] w (ArgOut w s.data.toList) := by
  rcases Nat.eq_zero_or_pos s.size with h0 | h0
  · have he := str_empty (s := s) (List.eq_nil_of_length_eq_zero (by have : s.data.toList.length = s.size := by simp
                                                                     omega))
    subst he
    exact arg_nil
  · obtain ⟨b, hc, _⟩ := byte_at h0
    by_cases h1 : b = 40
    · subst h1
      by_cases he : EndsBy s 41
      · obtain ⟨m, hm, h1, hx⟩ := he
        by_cases hq : s.extract 1 m = ⟨#[105, 110, 102]⟩
        · exact arg_inf hg hs h0 hc hm h1 hx hq
        · exact arg_cut hg hs h0 hc hm h1 hx hq
      · exact arg_paren_end hg hs h0 hc he
    by_cases h2 : b = 91
    · subst h2
      by_cases he : EndsBy s 93
      · obtain ⟨m, hm, h1, hx⟩ := he
        by_cases hq : s.extract 1 m = ⟨#[]⟩
        · exact arg_brack_none hg hs h0 hc hm h1 hx hq
        · exact arg_brack_go hg hs h0 hc hm h1 hx hq
      · exact arg_brack_end hg hs h0 hc he
    by_cases h3 : b = 35
    · subst h3
      exact arg_hash hg hs h0 hc
    exact arg_name hs h0 hc h1 h2 h3
end Go.Proofs.YtebpggfccljagaaGreatDoor

/- script.Read's deferred closure. -/
namespace Go.Proofs.YtebpggfccljagaaGreatDoor
open Go.RowKit
open Wh
set_option linter.unusedSimpArgs false
set_option linter.unusedVariables false

set_option maxRecDepth 100000 in
set_option maxHeartbeats 4000000 in
theorem catch_thrown {w : World} {g2 g3 : Nat} {x0 x1 x2 y : Value} {u : TypeId} {pv : Value} (h2 : Blk w g2 25 #[x0, x1, x2]) (h3 : Blk w g3 26 #[y]) (hne : g2 ≠ g3) :
    CallsD Tryz.prog 33 #[.pointer (some ⟨g2, 0, none⟩), .pointer (some ⟨g3, 0, none⟩)] (.panicking [{ v := .iface u pv, recovered := false }]) w fun e u' w' =>
      e = .returned (.tuple #[]) ∧ u' = .panicking [{ v := .iface u pv, recovered := true }] ∧
        w' = ((((w.setCell ⟨g2, 0, none⟩ (.string ⟨#[]⟩)).setCell ⟨g2, 1, none⟩ (.string ⟨#[]⟩)).setCell ⟨g2, 2, none⟩ (.slice none 0 0)).setCell ⟨g3, 0, none⟩ (.int .i64 400)) := by
  have c0 : w.cell? ⟨g2, 0, none⟩ = some x0 := h2.cell 0
  have c1 : w.cell? ⟨g2, 1, none⟩ = some x1 := h2.cell 1
  have c2 : w.cell? ⟨g2, 2, none⟩ = some x2 := h2.cell 2
  have c3 : w.cell? ⟨g3, 0, none⟩ = some y := h3.cell 0
  have f0 := h2.frozen 0
  have f1 := h2.frozen 1
  have f2 := h2.frozen 2
  have f3 := h3.frozen 0
  have hne2 : ¬ g3 = g2 := fun h => hne h.symm
  refine callsD_of_wpS Tryz.func33 rfl fun c₀ cs hu => ?_
  apply wpS_seq
  apply wpS_region
  simp [wpOpsS, go_sem, recoverD, hu, Tryz.ntmps33, Exit.thenS]
  apply wpS_seq
  apply wpS_region
  simp [wpOpsS, go_sem, Tryz.ntmps33, Exit.thenS]
  refine wpS_cond (t := true) (by simp [Act.eval, Array.replicate]) ?_
  simp only [if_true]
  apply wpS_region
  simp [wpOpsS, go_sem, c0, c1, c2, c3, f0, f1, f2, f3, hne, hne2, bodyPostS, results, Tryz.results33]
theorem catch_idle {w : World} {g2 g3 : Nat} :
    CallsD Tryz.prog 33 #[.pointer (some ⟨g2, 0, none⟩), .pointer (some ⟨g3, 0, none⟩)] .returning w fun e u' w' => e = .returned (.tuple #[]) ∧ u' = .returning ∧ w' = w := by
  refine callsD_of_wpS Tryz.func33 rfl fun c₀ cs hu => ?_
  apply wpS_seq
  apply wpS_region
  simp [wpOpsS, go_sem, recoverD, hu, Tryz.ntmps33, Exit.thenS]
  apply wpS_seq
  apply wpS_region
  simp [wpOpsS, go_sem, Tryz.ntmps33, Exit.thenS]
  refine wpS_cond (t := false) (by simp [Act.eval, Array.replicate]) ?_
  simp only [Bool.false_eq_true, if_false]
  refine wpS_of_wp (wp_skip ?_)
  cases c₀
  simp_all [bodyPostS, results, Tryz.results33]
end Go.Proofs.YtebpggfccljagaaGreatDoor

/- script.Read: what is held. -/
namespace Go.Proofs.YtebpggfccljagaaGreatDoor
open Go.RowKit
open Wh
set_option linter.unusedSimpArgs false
set_option linter.unusedVariables false

/-- what Read says -/
def ReadOut (w : World) (l : List UInt8) (e : Ending) (w' : World) : Prop :=
  ((∃ s : StR, e = .returned (.tuple #[.agg s.cells, .int .i64 0]) ∧ s.p.ok ∧ lineT s.p = l ∧ LentA w' w.heap.size (.slice s.A s.rs.length s.c) s.rs) ∨
    (e = .returned (.tuple #[.agg #[.string ⟨#[]⟩, .string ⟨#[]⟩, .slice none 0 0], .int .i64 400]) ∧ NoLine l)) ∧ Below w.heap.size w w'
structure RdS (w wr : World) (g4 : Nat) (A4 : Option Addr) (k c4 : Nat) (v nm : ByteArray) (A : Option Addr) (n c : Nat) (rs : List ARow) (L : List (List UInt8)) (j : Nat) : Prop where
  s : Blk wr w.heap.size 25 #[.string v, .string nm, .slice A n c]
  e : Blk wr (w.heap.size + 1) 26 #[.int .i64 0]
  l : Blk wr g4 77 #[.slice A4 k c4]
  p : OwnS wr (w.heap.size + 1 + 1) (.slice (some ⟨w.heap.size + 1 + 1, 0, none⟩) L.length L.length) L
  o : LentA wr w.heap.size (.slice A n c) rs
  b : Below w.heap.size w wr
  lt : w.heap.size + 1 + 1 < g4
  hk : k + j = L.length
  a4 : 0 < k → A4 = some ⟨w.heap.size + 1 + 1, j, none⟩
  hc : k ≤ c4
section
variable {w wr w' : World} {g4 k c4 n c j : Nat} {A4 A : Option Addr} {v nm : ByteArray} {rs : List ARow} {L : List (List UInt8)}
theorem LentA.kept {B : Nat} {v : Value} (h : LentA wr B v rs) (hb : Below wr.heap.size wr w') : LentA w' B v rs := ⟨h.1.kept hb, fun r hr => (h.2 r hr).kept hb⟩
theorem LentA.setB {B gx i : Nat} {t : TypeId} {v : Value} {cs : Array Value} (h : LentA wr B v rs) (hb : Blk wr gx t cs) (h1 : 41 ≠ t) (h2 : 3 ≠ t) (u : Value) : LentA (wr.setCell ⟨gx, i, none⟩ u) B v rs := by
  refine ⟨h.1.grown (grown_set wr ⟨gx, i, none⟩ u) (fun g hg e => own_blk_ne h.1 hb h1 (by rw [hg]; exact e.symm)), fun r hr => ?_⟩
  have h3 := h.2 r hr
  exact h3.grown (grown_set wr ⟨gx, i, none⟩ u) (fun g hg e => own_blk_ne h3 hb h2 (by rw [hg]; exact e.symm))
theorem OwnS.setB {B gx i : Nat} {t : TypeId} {v : Value} {cs : Array Value} (h : OwnS wr B v L) (hb : Blk wr gx t cs) (h1 : 9 ≠ t) (u : Value) : OwnS (wr.setCell ⟨gx, i, none⟩ u) B v L :=
  h.grown (grown_set wr ⟨gx, i, none⟩ u) (fun g hg e => own_blk_ne h hb h1 (by rw [hg]; exact e.symm))
/-- rows of strings and of arguments lie apart -/
theorem own_neSA {B B' : Nat} {v v2 : Value} (h : OwnS wr B v L) (h' : OwnA wr B' v2 rs) : ∀ g, v.ownBlock = some g → v2.ownBlock ≠ some g := by
  intro g hg hg'
  rcases h.2 with ⟨rfl, _⟩ | ⟨g1, _, _, rfl, _, hh, _⟩
  · cases hg
  · rcases h'.2 with ⟨rfl, _⟩ | ⟨g2, _, _, rfl, _, hh', _⟩
    · cases hg'
    · have e1 : g1 = g := by simpa [Value.ownBlock] using hg
      have e2 : g2 = g := by simpa [Value.ownBlock] using hg'
      subst e1 e2
      rw [hh] at hh'
      injection hh' with hh'
      injection hh' with _ ht
      revert ht
      decide
theorem RdS.below (h : RdS w wr g4 A4 k c4 v nm A n c rs L j) (hb : Below wr.heap.size wr w') : RdS w w' g4 A4 k c4 v nm A n c rs L j :=
  ⟨h.s.below hb h.s.lt, h.e.below hb h.e.lt, h.l.below hb h.l.lt, h.p.kept hb, h.o.kept hb, h.b.trans (hb.mono h.b.size), h.lt, h.hk, h.a4, h.hc⟩
theorem RdS.taken (h : RdS w wr g4 A4 (k + 1) c4 v nm A n c rs L j) {A' : Option Addr} (hA : 0 < k → A' = some ⟨w.heap.size + 1 + 1, j + 1, none⟩) : RdS w (wr.setCell ⟨g4, 0, none⟩ (.slice A' k (c4 - 1))) g4 A' k (c4 - 1) v nm A n c rs L (j + 1) :=
  ⟨h.s.far (p := ⟨g4, 0, none⟩) (by have := h.lt; show w.heap.size ≠ g4; omega) _, h.e.far (p := ⟨g4, 0, none⟩) (by have := h.lt; show w.heap.size + 1 ≠ g4; omega) _, h.l.set_ 0 _,
    h.p.setB h.l (by decide) _, h.o.setB h.l (by decide) (by decide) _, h.b.setCell (p := ⟨g4, 0, none⟩) (by have := h.lt; show w.heap.size ≤ g4; omega) _, h.lt, by have := h.hk; omega, hA, by have := h.hc; omega⟩
theorem RdS.verb (h : RdS w wr g4 A4 k c4 v nm A n c rs L j) (t : ByteArray) : RdS w (wr.setCell ⟨w.heap.size, 0, none⟩ (.string t)) g4 A4 k c4 t nm A n c rs L j :=
  ⟨h.s.set_ 0 _, h.e.far (p := ⟨w.heap.size, 0, none⟩) (by show w.heap.size + 1 ≠ w.heap.size; omega) _, h.l.far (p := ⟨w.heap.size, 0, none⟩) (by have := h.lt; show g4 ≠ w.heap.size; omega) _,
    h.p.setB h.s (by decide) _, h.o.setB h.s (by decide) (by decide) _, h.b.setCell (p := ⟨w.heap.size, 0, none⟩) (Nat.le_refl _) _, h.lt, h.hk, h.a4, h.hc⟩
theorem RdS.name (h : RdS w wr g4 A4 k c4 v nm A n c rs L j) (t : ByteArray) : RdS w (wr.setCell ⟨w.heap.size, 1, none⟩ (.string t)) g4 A4 k c4 v t A n c rs L j :=
  ⟨h.s.set_ 1 _, h.e.far (p := ⟨w.heap.size, 1, none⟩) (by show w.heap.size + 1 ≠ w.heap.size; omega) _, h.l.far (p := ⟨w.heap.size, 1, none⟩) (by have := h.lt; show g4 ≠ w.heap.size; omega) _,
    h.p.setB h.s (by decide) _, h.o.setB h.s (by decide) (by decide) _, h.b.setCell (p := ⟨w.heap.size, 1, none⟩) (Nat.le_refl _) _, h.lt, h.hk, h.a4, h.hc⟩
/-- written as it was -/
theorem RdS.same (h : RdS w wr g4 A4 k c4 v nm A n c rs L j) : RdS w ((((wr.setCell ⟨w.heap.size, 0, none⟩ (.string v)).setCell ⟨w.heap.size, 1, none⟩ (.string nm)).setCell ⟨w.heap.size, 2, none⟩ (.slice A n c)).setCell ⟨w.heap.size + 1, 0, none⟩ (.int .i64 0)) g4 A4 k c4 v nm A n c rs L j := by
  have h2 := (h.verb v).name nm
  refine ⟨(h2.s.set_ 2 _).far (p := ⟨w.heap.size + 1, 0, none⟩) (by show w.heap.size ≠ w.heap.size + 1; omega) _, (h2.e.far (p := ⟨w.heap.size, 2, none⟩) (by show w.heap.size + 1 ≠ w.heap.size; omega) _).set_ 0 _, (h2.l.far (p := ⟨w.heap.size, 2, none⟩) (by have := h.lt; show g4 ≠ w.heap.size; omega) _).far (p := ⟨w.heap.size + 1, 0, none⟩) (by have := h.lt; show g4 ≠ w.heap.size + 1; omega) _, ?_, ?_, ?_, h.lt, h.hk, h.a4, h.hc⟩
  · exact (h2.p.setB h2.s (by decide) _).setB (h2.e.far (p := ⟨w.heap.size, 2, none⟩) (by show w.heap.size + 1 ≠ w.heap.size; omega) _) (by decide) _
  · exact (h2.o.setB h2.s (by decide) (by decide) _).setB (h2.e.far (p := ⟨w.heap.size, 2, none⟩) (by show w.heap.size + 1 ≠ w.heap.size; omega) _) (by decide) (by decide) _
  · exact (h2.b.setCell (p := ⟨w.heap.size, 2, none⟩) (Nat.le_refl _) _).setCell (p := ⟨w.heap.size + 1, 0, none⟩) (by show w.heap.size ≤ w.heap.size + 1; omega) _
/-- an argument behind the others -/
theorem RdS.app {w2 w3 : World} {r : ARow} (h : RdS w wr g4 A4 k c4 v nm A n c rs L j) (hb2 : Below wr.heap.size wr w2) (hn : OwnI w2 w.heap.size (.slice r.1 r.2.2.wd.length r.2.1) r.2.2.wd) {A' : Option Addr} {n' c' : Nat}
    (ho3 : OwnA w3 w.heap.size (.slice A' n' c') (rs ++ [r])) (hg : (w2.alloc (.cells (acs r).toArray 41)).grownBy w3 (Value.slice A n c).ownBlock) :
    RdS w (w3.setCell ⟨w.heap.size, 2, none⟩ (.slice A' n' c')) g4 A4 k c4 v nm A' n' c' (rs ++ [r]) L j := by
  have h2 := (h.below hb2).below (new_below w2 (.cells (acs r).toArray 41))
  have ho := h2.o.1
  have hl := LentA.step h.o hb2 hn ho3 hg
  have hs3 := h2.s.grown hg (fun e => own_blk_ne ho h2.s (by decide) e.symm)
  have he3 := h2.e.grown hg (fun e => own_blk_ne ho h2.e (by decide) e.symm)
  have hl3 := h2.l.grown hg (fun e => own_blk_ne ho h2.l (by decide) e.symm)
  have hp3 : OwnS w3 (w.heap.size + 1 + 1) (.slice (some ⟨w.heap.size + 1 + 1, 0, none⟩) L.length L.length) L := h2.p.grown hg (fun g hg => own_neSA h2.p ho g hg)
  have hb3 := h2.b.grown hg h2.b.size (fun k hk => (ho.lt k hk).1)
  exact ⟨hs3.set_ 2 _, he3.far (p := ⟨w.heap.size, 2, none⟩) (by show w.heap.size + 1 ≠ w.heap.size; omega) _, hl3.far (p := ⟨w.heap.size, 2, none⟩) (by have := h.lt; show g4 ≠ w.heap.size; omega) _,
    hp3.setB hs3 (by decide) _, hl.setB hs3 (by decide) (by decide) _, hb3.setCell (p := ⟨w.heap.size, 2, none⟩) (Nat.le_refl _) _, h.lt, h.hk, h.a4, h.hc⟩
end
end Go.Proofs.YtebpggfccljagaaGreatDoor
