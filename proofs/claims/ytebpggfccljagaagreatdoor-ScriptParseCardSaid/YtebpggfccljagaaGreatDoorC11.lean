import Derived.Test.YtebpggfccljagaaGreatDoorC10
import Derived.BigQuiet
import Derived.Deep.RegionHeld3
import Derived.RangeFuncNested
import Derived.RangeFuncBound
import Derived.RangeFuncCalls
import Derived.RangeFuncLeaves
import Derived.RangeFuncBox
import Derived.Shelf.Abstract
import Derived.Shelf.RegionOpen
import Derived.OwnWalkIn
import Derived.TacticsInMore
import Derived.LoopNIn
import Derived.LoopIn
namespace Go.Proofs.YtebpggfccljagaaGreatDoor
open Go.RowKit
open Wh
set_option linter.unusedSimpArgs false
set_option linter.unusedVariables false
def GuessOut (w : World) (l : List UInt8) (e : Ending) (w' : World) : Prop := (∃ r : ARow, e = .returned (argV r) ∧ ArgMade w' w.heap.size r ∧ GuessIs l r.2.2) ∧ Below w.heap.size w w'
structure GsS (w wr : World) : Prop where
 r : Blk wr w.heap.size 41 #[.int .i64 0, .string ⟨#[]⟩, .bool false, .string ⟨#[]⟩, .bool false, .string ⟨#[]⟩, .bool false, .string ⟨#[]⟩, .bool false, .string ⟨#[]⟩, .slice none 0 0, .int .i64 0]
 b : Below w.heap.size w wr
theorem GsS.new (w : World) : GsS w (w.alloc (.cells #[.int .i64 0, .string ⟨#[]⟩, .bool false, .string ⟨#[]⟩, .bool false, .string ⟨#[]⟩, .bool false, .string ⟨#[]⟩, .bool false, .string ⟨#[]⟩, .slice none 0 0, .int .i64 0] 41)) := ⟨Blk.new w 41 _, new_below _ _⟩
theorem GsS.below {w wr w' : World} (h : GsS w wr) (hb : Below wr.heap.size wr w') : GsS w w' := ⟨h.r.below hb h.r.lt, h.b.trans (hb.mono h.b.size)⟩
theorem GsS.done {w wr : World} (h : GsS w wr) (u0 u1 u2 u3 u4 u5 u6 u7 u8 u9 u10 u11 : Value) : Below w.heap.size w ((((((((((((wr.setCell ⟨w.heap.size, 0, none⟩ u0).setCell ⟨w.heap.size, 1, none⟩ u1).setCell ⟨w.heap.size, 2, none⟩ u2).setCell ⟨w.heap.size, 3, none⟩ u3).setCell ⟨w.heap.size, 4, none⟩ u4).setCell ⟨w.heap.size, 5, none⟩ u5).setCell ⟨w.heap.size, 6, none⟩ u6).setCell ⟨w.heap.size, 7, none⟩ u7).setCell ⟨w.heap.size, 8, none⟩ u8).setCell ⟨w.heap.size, 9, none⟩ u9).setCell ⟨w.heap.size, 10, none⟩ u10).setCell ⟨w.heap.size, 11, none⟩ u11) :=
 ((((((((((((h.b.setCell (p := ⟨w.heap.size, 0, none⟩) (Nat.le_refl _) u0).setCell (p := ⟨w.heap.size, 1, none⟩) (Nat.le_refl _) u1).setCell (p := ⟨w.heap.size, 2, none⟩) (Nat.le_refl _) u2).setCell (p := ⟨w.heap.size, 3, none⟩) (Nat.le_refl _) u3).setCell (p := ⟨w.heap.size, 4, none⟩) (Nat.le_refl _) u4).setCell (p := ⟨w.heap.size, 5, none⟩) (Nat.le_refl _) u5).setCell (p := ⟨w.heap.size, 6, none⟩) (Nat.le_refl _) u6).setCell (p := ⟨w.heap.size, 7, none⟩) (Nat.le_refl _) u7).setCell (p := ⟨w.heap.size, 8, none⟩) (Nat.le_refl _) u8).setCell (p := ⟨w.heap.size, 9, none⟩) (Nat.le_refl _) u9).setCell (p := ⟨w.heap.size, 10, none⟩) (Nat.le_refl _) u10).setCell (p := ⟨w.heap.size, 11, none⟩) (Nat.le_refl _) u11)
theorem GsS.own {w wr : World} {l : List Int} {v : Value} (h : GsS w wr) (ho : OwnI wr w.heap.size v l) (u0 u1 u2 u3 u4 u5 u6 u7 u8 u9 u10 u11 : Value) : OwnI ((((((((((((wr.setCell ⟨w.heap.size, 0, none⟩ u0).setCell ⟨w.heap.size, 1, none⟩ u1).setCell ⟨w.heap.size, 2, none⟩ u2).setCell ⟨w.heap.size, 3, none⟩ u3).setCell ⟨w.heap.size, 4, none⟩ u4).setCell ⟨w.heap.size, 5, none⟩ u5).setCell ⟨w.heap.size, 6, none⟩ u6).setCell ⟨w.heap.size, 7, none⟩ u7).setCell ⟨w.heap.size, 8, none⟩ u8).setCell ⟨w.heap.size, 9, none⟩ u9).setCell ⟨w.heap.size, 10, none⟩ u10).setCell ⟨w.heap.size, 11, none⟩ u11) w.heap.size v l := by
 have hg : wr.grownBy ((((((((((((wr.setCell ⟨w.heap.size, 0, none⟩ u0).setCell ⟨w.heap.size, 1, none⟩ u1).setCell ⟨w.heap.size, 2, none⟩ u2).setCell ⟨w.heap.size, 3, none⟩ u3).setCell ⟨w.heap.size, 4, none⟩ u4).setCell ⟨w.heap.size, 5, none⟩ u5).setCell ⟨w.heap.size, 6, none⟩ u6).setCell ⟨w.heap.size, 7, none⟩ u7).setCell ⟨w.heap.size, 8, none⟩ u8).setCell ⟨w.heap.size, 9, none⟩ u9).setCell ⟨w.heap.size, 10, none⟩ u10).setCell ⟨w.heap.size, 11, none⟩ u11) (some w.heap.size) := (only_setCell (p := ⟨w.heap.size, 11, none⟩) ((only_setCell (p := ⟨w.heap.size, 10, none⟩) ((only_setCell (p := ⟨w.heap.size, 9, none⟩) ((only_setCell (p := ⟨w.heap.size, 8, none⟩) ((only_setCell (p := ⟨w.heap.size, 7, none⟩) ((only_setCell (p := ⟨w.heap.size, 6, none⟩) ((only_setCell (p := ⟨w.heap.size, 5, none⟩) ((only_setCell (p := ⟨w.heap.size, 4, none⟩) ((only_setCell (p := ⟨w.heap.size, 3, none⟩) ((only_setCell (p := ⟨w.heap.size, 2, none⟩) ((only_setCell (p := ⟨w.heap.size, 1, none⟩) ((only_setCell (p := ⟨w.heap.size, 0, none⟩) (World.grownBy.refl wr (some w.heap.size)) (.inl rfl) u0)) (.inl rfl) u1)) (.inl rfl) u2)) (.inl rfl) u3)) (.inl rfl) u4)) (.inl rfl) u5)) (.inl rfl) u6)) (.inl rfl) u7)) (.inl rfl) u8)) (.inl rfl) u9)) (.inl rfl) u10)) (.inl rfl) u11)
 exact ho.grown hg (fun g hg e => own_blk_ne ho h.r (by decide) (by rw [hg]; exact e.symm))
theorem max_k {s : ByteArray} (h0 : 0 < s.size) : ∃ k : Nat, max (1 : Int) ((s.size : Int) - 1) = (k : Int) ∧ (1 : Int) ≤ (k : Int) ∧ (k : Int) ≤ (s.size : Int) ∧ Hid ((s.size = 1 ∧ k = 1) ∨ s.size = k + 1) := by
 rcases Nat.lt_or_ge 1 s.size with h | h
 ·exact ⟨s.size - 1, by omega, by omega, by omega, Lib.hid (.inr (by omega))⟩
 ·exact ⟨1, by omega, by omega, by omega, Lib.hid (.inl ⟨by omega, rfl⟩)⟩
theorem inf_no {s : ByteArray} (h : s.data.toList ≠ [40, 105, 110, 102, 41]) : ¬ s.toList = [40, 105, 110, 102, 41] := fun h2 => h (by rw [← ByteArray.toList_eq]; exact h2)
theorem mid_list {s : ByteArray} {k : Nat} {b : UInt8} (h0 : 0 < s.size) (hc : s[0] = b) (hk : (s.size = 1 ∧ k = 1) ∨ s.size = k + 1) (h1 : (1 : Int) ≤ (k : Int)) : (s.data.toList = [b] ∧ (s.extract 1 k).data.toList = []) ∨ (∃ e, s.data.toList = b :: ((s.extract 1 k).data.toList ++ [e])) := by
 have hl : s.data.toList.length = s.size := by simp
 rcases hk with ⟨h, rfl⟩ | h
 ·refine .inl ⟨?_, ?_⟩
  ·have e := head_bytes h0 hc
   rw [e]
   congr 1
   rw [(drop_bytes s 1 (by omega)).1]
   exact List.drop_of_length_le (by omega)
  ·rw [ext_bs s 1 1 (Nat.le_refl _) (by omega)]
   simp
 ·have hkl : k < s.data.toList.length := by omega
  exact .inr ⟨s.data.toList[k], ends_list h (by omega) (List.getElem?_eq_getElem hkl) h0 hc⟩
theorem gp_not {l t : List UInt8} (hl : l = [40] ∧ t = [] ∨ ∃ e, l = 40 :: (t ++ [e])) (hi : l ≠ [40, 105, 110, 102, 41]) (h : ∀ a b c d, MayZ a b → MayZ c d → t ≠ txtF a b ++ 44 :: txtF c d) : ArgNot l := by
 rcases hl with ⟨rfl, _⟩ | ⟨e, rfl⟩
 ·exact paren_end (fun q hq => by have := congrArg List.length hq; simp at this)
 ·intro y hy he
  rcases head_paren hy he with ⟨a, b, c, d, rfl, h1, h2, hr⟩ | ⟨rfl, hr⟩
  ·have h3 : t ++ [e] = (txtF a b ++ 44 :: txtF c d) ++ [41] := by rw [hr]; simp
   exact h a b c d h1 h2 (List.append_inj_left' h3 rfl)
  ·exact hi (by rw [hr])
theorem two_parts {a b c d : Int} : parts 44 (txtF a b ++ 44 :: txtF c d) = [txtF a b, txtF c d] := by rw [parts_at (comma_no a b), parts_none (comma_no c d)]
theorem gp_is {l t p q : List UInt8} {a b c d : Int} (hl : l = [40] ∧ t = [] ∨ ∃ e, l = 40 :: (t ++ [e])) (hi : l ≠ [40, 105, 110, 102, 41]) (ht : parts 44 t = [p, q]) (h1 : p = txtF a b) (h2 : q = txtF c d) : GuessIs l (numP a b c d) := by
 rcases hl with ⟨rfl, rfl⟩ | ⟨e, rfl⟩
 ·rw [show parts 44 ([] : List UInt8) = [[]] from rfl] at ht
  cases ht
 ·intro y hy he
  rcases head_paren hy he with ⟨a', b', c', d', rfl, _, _, hr⟩ | ⟨rfl, hr⟩
  ·have h3 : t ++ [e] = (txtF a' b' ++ 44 :: txtF c' d') ++ [41] := by rw [hr]; simp
   rw [List.append_inj_left' h3 rfl, two_parts] at ht
   injection ht with e1 e2
   injection e2 with e2 _
   obtain ⟨rfl, rfl⟩ := txtF_inj (e1.trans h1)
   obtain ⟨rfl, rfl⟩ := txtF_inj (e2.trans h2)
   rfl
  ·exact absurd (by rw [hr]) hi
theorem gb_is {l t : List UInt8} (hl : l = [91] ∧ t = [] ∨ ∃ e, l = 91 :: (t ++ [e])) : GuessIs l (wordP (if t = [] then [] else (cutB t 46).map numB)) := by
 rcases hl with ⟨rfl, _⟩ | ⟨e, rfl⟩
 ·exact (brack_end (fun q hq => by have := congrArg List.length hq; simp at this)).guess _
 ·intro y hy he
  obtain ⟨wd, rfl, ha, hl, hr⟩ := head_brack hy he
  have h3 : t = wtx wd := List.append_inj_left' hr rfl
  by_cases ht : t = []
  ·rw [if_pos ht]
   by_cases hw : wd = []
   ·rw [hw]
   ·exact absurd (h3.symm.trans ht) (wtx_ne hw)
  ·rw [if_neg ht, cutB_parts, h3, wtx_parts (fun e => ht (by rw [h3, e]; rfl)), List.map_map]
   congr 1
   have hf : ∀ l : List Int, (∀ k ∈ l, -9999999999 ≤ k ∧ k ≤ 9999999999) → l = l.map (numB ∘ Lib.itoa) := by
    intro l
    induction l with
    | nil => intro _; rfl
    | cons k r ih =>
     intro h
     rw [List.map_cons, ← ih fun x hx => h x (List.mem_cons_of_mem _ hx)]
     congr 1
     obtain ⟨h1, h2⟩ := h k List.mem_cons_self
     exact (numB_itoa (itoa_small h1 h2)).symm
   refine hf wd fun k hk => ?_
   have h2 := of_decide_eq_true (List.all_eq_true.1 ha k hk)
   omega
theorem gh_is {q : List UInt8} : GuessIs (35 :: q) (countP (numB q)) := fun y hy he => by
 obtain ⟨ct, rfl, h1, h2, hr⟩ := head_hash hy he
 rw [hr, numB_itoa (itoa_small (by omega) (by omega))]
theorem none_made {w : World} {B : Nat} : ArgMade w B (none, 0, noneP) := ArgMade.plain rfl (by decide) (by decide) (by decide)
theorem numB_bound (l : List UInt8) : -9223372036854775808 ≤ numB l ∧ numB l ≤ 9223372036854775807 := by
 have h := numTo_z l (i := min l.length 12) (Nat.min_le_right _ _)
 unfold numB
 split <;> omega
theorem pieces_44 (s : ByteArray) (hs : s.size ≤ 6000) (w : World) : Calls Tryz.prog 39 #[.string s, .int .u8 44] w (fun e w' => ∃ A n c, e = .returned (.slice A n c) ∧ OwnS w' w.heap.size (.slice A n c) (cutB s.data.toList 44) ∧ Below w.heap.size w w') := pieces_any s (by omega) 44
theorem pieces_46 (s : ByteArray) (hs : s.size ≤ 6000) (w : World) : Calls Tryz.prog 39 #[.string s, .int .u8 46] w (fun e w' => ∃ A n c, e = .returned (.slice A n c) ∧ OwnS w' w.heap.size (.slice A n c) (cutB s.data.toList 46) ∧ Below w.heap.size w w') := pieces_any s (by omega) 46
theorem rfread_yes {W : World} {s : ByteArray} (hs : s.size ≤ 6000) {a b : Int} (he : s.data.toList = txtF a b) (hm : MayZ a b) :
  Calls Tryz.prog 69 #[.string s] W (fun e w' => e = .returned (.tuple #[encF a b, .int .i64 0]) ∧ Below W.heap.size W w') := by
 refine (rfread_any hs).mono ?_
 rintro e w' ⟨h, hb⟩
 refine ⟨?_, hb⟩
 rcases h with ⟨a', b', h1, _, h2⟩ | ⟨_, h2⟩
 ·obtain ⟨rfl, rfl⟩ := txtF_inj (he.symm.trans h2)
  exact h1
 ·exact absurd he (h2 a b hm)
theorem rfread_no {W : World} {s : ByteArray} (hs : s.size ≤ 6000) (hn : ∀ a b, MayZ a b → s.data.toList ≠ txtF a b) :
  Calls Tryz.prog 69 #[.string s] W (fun e w' => e = .returned (.tuple #[.agg #[.bool false, .string ⟨#[]⟩, .bool false, .string ⟨#[]⟩], .int .i64 130]) ∧ Below W.heap.size W w') := by
 refine (rfread_any hs).mono ?_
 rintro e w' ⟨h, hb⟩
 refine ⟨?_, hb⟩
 rcases h with ⟨a', b', _, h1, h2⟩ | ⟨h1, _⟩
 ·exact absurd h2 (hn a' b' h1)
 ·exact h1
theorem rfread_some {s : ByteArray} (hs : s.size ≤ 6000) : ∃ (x0 : Bool) (t0 : ByteArray) (x1 : Bool) (t1 : ByteArray) (z : Int), (∀ W, Calls Tryz.prog 69 #[.string s] W (fun e w' => e = .returned (.tuple #[.agg #[.bool x0, .string t0, .bool x1, .string t1], .int .i64 z]) ∧ Below W.heap.size W w')) ∧
  ((z = 0 ∧ ∃ a b, MayZ a b ∧ s.data.toList = txtF a b ∧ encF a b = .agg #[.bool x0, .string t0, .bool x1, .string t1]) ∨ (z = 130 ∧ ∀ a b, MayZ a b → s.data.toList ≠ txtF a b)) := by
 rcases Classical.em (∃ a b, MayZ a b ∧ s.data.toList = txtF a b) with ⟨a, b, h1, h2⟩ | h
 ·exact ⟨_, _, _, _, 0, fun W => rfread_yes hs h2 h1, .inl ⟨rfl, a, b, h1, h2, rfl⟩⟩
 ·have hn : ∀ a b, MayZ a b → s.data.toList ≠ txtF a b := fun a b h1 h2 => h ⟨a, b, h1, h2⟩
  exact ⟨_, _, _, _, 130, fun W => rfread_no hs hn, .inr ⟨rfl, hn⟩⟩
set_option maxRecDepth 100000 in
set_option maxHeartbeats 4000000 in
theorem guess_inf {w : World} : Calls Tryz.prog 40 #[.string ⟨#[40, 105, 110, 102, 41]⟩] w (GuessOut w [40, 105, 110, 102, 41]) := by
 have hb := GsS.new w
 go_enter Tryz.func40, Tryz.ntmps40
 go_wp2_with fail
 refine bodyPost_ret (v := argV (none, 0, infP)) (by simp [results, Tryz.results40, go_sem, argV, infP]) rfl ?_
 exact ⟨⟨(none, 0, infP), rfl, ArgMade.plain rfl (by decide) (by decide) (by decide), is_inf.2⟩, new_below _ _⟩
set_option maxRecDepth 100000 in
set_option maxHeartbeats 4000000 in
theorem guess_nil {w : World} : Calls Tryz.prog 40 #[.string ⟨#[]⟩] w (GuessOut w []) := by
 have hb := GsS.new w
 go_enter Tryz.func40, Tryz.ntmps40
 go_wp2_with fail
 refine bodyPost_ret (v := argV (none, 0, noneP)) (by simp [results, Tryz.results40, go_sem, argV, noneP]) rfl ?_
 exact ⟨⟨(none, 0, noneP), rfl, none_made, not_nil.guess _⟩, new_below _ _⟩
set_option maxRecDepth 100000 in
set_option maxHeartbeats 4000000 in
theorem guess_name {w : World} {s : ByteArray} (hs : s.size ≤ 6000) (h0 : 0 < s.size) (hni : s.data.toList ≠ [40, 105, 110, 102, 41]) {b : UInt8} (hc : s[0] = b) (h1 : b ≠ 40) (h2 : b ≠ 91) (h3 : b ≠ 35) : Calls Tryz.prog 40 #[.string s] w (GuessOut w s.data.toList) := by
 have hne := str_facts h0
 have hi : (0 : Int) < (s.size : Int) := by omega
 have hi1 : (1 : Int) ≤ (s.size : Int) := by omega
 have hi6 : (s.size : Int) ≤ 6000 := by omega
 have hnd := inf_no hni
 have hnb : (s.toList == [40, 105, 110, 102, 41]) = false := by simpa using hnd
 have H0 := Lib.hid (GsS.new w)
 obtain ⟨k, hmx, hk1, hk2, Hk⟩ := max_k h0
 have hb256 : b.toNat < 256 := b.toNat_lt
 have n1 : ((b.toNat : Int) == 40) = false := by
  refine beq_eq_false_iff_ne.2 fun h => h1 (UInt8.toNat_inj.1 ?_)
  show b.toNat = 40; omega
 have n2 : ((b.toNat : Int) == 91) = false := by
  refine beq_eq_false_iff_ne.2 fun h => h2 (UInt8.toNat_inj.1 ?_)
  show b.toNat = 91; omega
 have n3 : ((b.toNat : Int) == 35) = false := by
  refine beq_eq_false_iff_ne.2 fun h => h3 (UInt8.toNat_inj.1 ?_)
  show b.toNat = 35; omega
 have Hfin := Lib.hid (And.intro hs (show GuessIs s.data.toList (nameP s) from (is_name (head_bytes h0 hc) h1 h2 h3).2))
 clear hs hni h1 h2 h3
 go_enter Tryz.func40, Tryz.ntmps40
 go_wp2_with fail
 refine bodyPost_ret (v := argV (none, 0, nameP s)) (by simp [results, Tryz.results40, go_sem, argV, nameP]) rfl ?_
 exact ⟨⟨(none, 0, nameP s), rfl, ArgMade.plain rfl ⟨by show (-9223372036854775808 : Int) ≤ 1; decide, by show (1 : Int) ≤ 9223372036854775807; decide⟩ ⟨by show (-9223372036854775808 : Int) ≤ 0; decide, by show (0 : Int) ≤ 9223372036854775807; decide⟩ (Nat.le_trans Hfin.out.1 (by decide)), Hfin.out.2⟩, new_below _ _⟩
set_option maxRecDepth 100000 in
set_option maxHeartbeats 4000000 in
theorem guess_hash {w : World} {s : ByteArray} (hs : s.size ≤ 6000) (h0 : 0 < s.size) (hni : s.data.toList ≠ [40, 105, 110, 102, 41]) (hc : s[0] = 35) : Calls Tryz.prog 40 #[.string s] w (GuessOut w s.data.toList) := by
 have hne := str_facts h0
 have hi : (0 : Int) < (s.size : Int) := by omega
 have hi1 : (1 : Int) ≤ (s.size : Int) := by omega
 have hi6 : (s.size : Int) ≤ 6000 := by omega
 have hnd := inf_no hni
 have hnb : (s.toList == [40, 105, 110, 102, 41]) = false := by simpa using hnd
 have H0 := Lib.hid (GsS.new w)
 obtain ⟨k, hmx, hk1, hk2, Hk⟩ := max_k h0
 have HG := Lib.hid (show GuessIs s.data.toList (countP (numB (s.extract 1 s.size).data.toList)) by rw [head_bytes h0 hc]; exact gh_is)
 have HN := Lib.hid (fun W => rnum_any (w := W) (s.extract 1 s.size) (by rw [ByteArray.size_extract]; omega))
 have Hb := Lib.hid (numB_bound (s.extract 1 s.size).data.toList)
 generalize numB (s.extract 1 s.size).data.toList = z at *
 clear hs hni
 go_enter Tryz.func40, Tryz.ntmps40
 go_wp2_with (go_at_call 70; (with_reducible refine (HN.out _).mono ?_); rintro _ _ ⟨rfl, rfl⟩)
 refine bodyPost_ret (v := argV (none, 0, countP z)) (by simp [results, Tryz.results40, go_sem, argV, countP]) rfl ?_
 exact ⟨⟨(none, 0, countP z), rfl, count_made Hb.out.1 Hb.out.2, HG.out⟩, new_below _ _⟩
set_option maxRecDepth 100000 in
set_option maxHeartbeats 4000000 in
theorem guess_paren {w : World} {s : ByteArray} (hs : s.size ≤ 6000) (h0 : 0 < s.size) (hni : s.data.toList ≠ [40, 105, 110, 102, 41]) (hc : s[0] = 40) : Calls Tryz.prog 40 #[.string s] w (GuessOut w s.data.toList) := by
 have hne := str_facts h0
 have hi : (0 : Int) < (s.size : Int) := by omega
 have hi1 : (1 : Int) ≤ (s.size : Int) := by omega
 have hi6 : (s.size : Int) ≤ 6000 := by omega
 have hnd := inf_no hni
 have hnb : (s.toList == [40, 105, 110, 102, 41]) = false := by simpa using hnd
 have H0 := Lib.hid (GsS.new w)
 obtain ⟨k, hmx, hk1, hk2, Hk⟩ := max_k h0
 have hml := mid_list h0 hc Hk.out hk1
 have HT := Lib.hid (show (s.extract 1 k).size ≤ 6000 by rw [ByteArray.size_extract]; omega)
 have HC := Lib.hid (fun W => pieces_44 (s.extract 1 k) HT.out W)
 have HM := Lib.hid (And.intro hml hni)
 have HP := Lib.hid (cutB_parts (s.extract 1 k).data.toList 44)
 have HLen : Hid (∀ p ∈ cutB (s.extract 1 k).data.toList 44, p.length ≤ 6000) := Lib.hid fun p hp => by
  rw [cutB_parts] at hp
  have h1 := mem_join_len (c := 44) (l := parts 44 (s.extract 1 k).data.toList) p hp
  rw [join_parts] at h1
  have h2 : (s.extract 1 k).data.toList.length = (s.extract 1 k).size := Array.length_toList
  have := HT.out
  omega
 generalize cutB (s.extract 1 k).data.toList 44 = L at *
 clear hs hni hml
 rcases Classical.em (∃ p q, L = [p, q]) with ⟨p, q, rfl⟩ | hno
 ·obtain ⟨x0, t0, x1, t1, z, hF1, hz⟩ := rfread_some (s := ⟨p.toArray⟩) (by show p.toArray.size ≤ 6000; rw [List.size_toArray]; exact HLen.out p (by simp))
  obtain ⟨y0, u0, y1, u1, z2, hF2, hz2⟩ := rfread_some (s := ⟨q.toArray⟩) (by show q.toArray.size ≤ 6000; rw [List.size_toArray]; exact HLen.out q (by simp))
  have HF1 := Lib.hid hF1
  have HF2 := Lib.hid hF2
  clear hF1 hF2
  rcases hz with ⟨rfl, a, b, ha, hpt, hV⟩ | ⟨rfl, hbad⟩
  ·rcases hz2 with ⟨rfl, c', d, hc2, hqt, hV2⟩ | ⟨rfl, hbad⟩
   ·have Hin := Lib.hid (gp_is HM.out.1 HM.out.2 HP.out.symm hpt hqt)
    have Hval := Lib.hid (show argV (none, 0, numP a b c' d) = .agg #[.int .i64 2, .string ⟨#[]⟩, .bool x0, .string t0, .bool x1, .string t1, .bool y0, .string u0, .bool y1, .string u1, .slice none 0 0, .int .i64 0] by
     unfold encF at hV hV2
     simp only [Value.agg.injEq, Array.mk.injEq, List.cons.injEq, Value.bool.injEq, Value.string.injEq, and_true] at hV hV2
     obtain ⟨g1, g2, g3, g4⟩ := hV
     obtain ⟨g5, g6, g7, g8⟩ := hV2
     unfold argV numP
     simp only [g1, g2, g3, g4, g5, g6, g7, g8]
     rfl)
    clear hpt hqt hV hV2 ha hc2
    go_enter Tryz.func40, Tryz.ntmps40
    go_wp2_with (first | (go_at_call 39; (with_reducible refine (HC.out _).mono ?_); rintro _ W1 ⟨A, n, c, rfl, ho1, hb1⟩; obtain rfl : n = 2 := (by obtain ⟨A', c', e, _⟩ := ho1.form; injection e); have HA1 := Lib.hid (H0.out.below hb1); obtain ⟨g, cap, hgv, _, _⟩ := World.ownsRow.form (show W1.ownsRow _ 9 1 _ _ _ from ho1) (by simp); injection hgv with hg1 _ _; subst hg1; have p0 := ho1.get (i := 0) (by simp); have p1 := ho1.get (i := 1) (by simp); simp only [List.getElem_cons_zero, List.getElem_cons_succ] at p0 p1; have P1 := Lib.hid p1; have hgl := block_lt_of_cell p0) | (go_at_call 69; (with_reducible refine (HF1.out _).mono ?_); rintro _ W2 ⟨rfl, hb2⟩; have HA2 := Lib.hid ((HA1.out.below hb2).below (new_below _ (.cells #[.bool x0, .string t0, .bool x1, .string t1] 36))); have HX2 := Lib.hid (Blk.new W2 36 #[.bool x0, .string t0, .bool x1, .string t1]); have p1 := (((hb2.alloc hb2.size (.cells #[.bool x0, .string t0, .bool x1, .string t1] 36)).cell (p := ⟨g, 1, none⟩) (by exact hgl))).trans P1.out) | (go_at_call 69; (with_reducible refine (HF2.out _).mono ?_); rintro _ W3 ⟨rfl, hb3⟩; have HA3 := Lib.hid ((HA2.out.below hb3).below (new_below _ (.cells #[.bool y0, .string u0, .bool y1, .string u1] 36))); have HX3 := Lib.hid ((HX2.out.below hb3 HX2.out.lt).alloc (.cells #[.bool y0, .string u0, .bool y1, .string u1] 36)); have HY3 := Lib.hid (Blk.new W3 36 #[.bool y0, .string u0, .bool y1, .string u1]); have d0 := HX3.out.cell 0; have d1 := HX3.out.cell 1; have d2 := HX3.out.cell 2; have d3 := HX3.out.cell 3; have e0 := HY3.out.cell 0; have e1 := HY3.out.cell 1; have e2 := HY3.out.cell 2; have e3 := HY3.out.cell 3; have c0 := HA3.out.r.cell 0; have c1 := HA3.out.r.cell 1; have c2 := HA3.out.r.cell 2; have c3 := HA3.out.r.cell 3; have c4 := HA3.out.r.cell 4; have c5 := HA3.out.r.cell 5; have c6 := HA3.out.r.cell 6; have c7 := HA3.out.r.cell 7; have c8 := HA3.out.r.cell 8; have c9 := HA3.out.r.cell 9; have c10 := HA3.out.r.cell 10; have c11 := HA3.out.r.cell 11; have f0 := HA3.out.r.frozen 0; have f1 := HA3.out.r.frozen 1; have f2 := HA3.out.r.frozen 2; have f3 := HA3.out.r.frozen 3; have f4 := HA3.out.r.frozen 4; have f5 := HA3.out.r.frozen 5; have f6 := HA3.out.r.frozen 6; have f7 := HA3.out.r.frozen 7; have f8 := HA3.out.r.frozen 8; have f9 := HA3.out.r.frozen 9; have f10 := HA3.out.r.frozen 10; have f11 := HA3.out.r.frozen 11))
    refine bodyPost_ret (v := .agg #[.int .i64 2, .string ⟨#[]⟩, .bool x0, .string t0, .bool x1, .string t1, .bool y0, .string u0, .bool y1, .string u1, .slice none 0 0, .int .i64 0]) (by simp [results, Tryz.results40, go_sem, c0, c1, c2, c3, c4, c5, c6, c7, c8, c9, c10, c11]) rfl ?_
    exact ⟨⟨(none, 0, numP a b c' d), by rw [Hval.out], num_made a b c' d, Hin.out⟩, HA3.out.done _ _ _ _ _ _ _ _ _ _ _ _⟩
   ·have Hno := Lib.hid (gp_not HM.out.1 HM.out.2 fun a b c' d h1 h2 ht => by
     have h3 := HP.out
     rw [ht, two_parts] at h3
     injection h3 with _ h3
     injection h3 with h3 _
     exact hbad c' d h2 h3)
    clear hbad hV hpt ha
    go_enter Tryz.func40, Tryz.ntmps40
    go_wp2_with (first | (go_at_call 39; (with_reducible refine (HC.out _).mono ?_); rintro _ W1 ⟨A, n, c, rfl, ho1, hb1⟩; obtain rfl : n = 2 := (by obtain ⟨A', c', e, _⟩ := ho1.form; injection e); have HA1 := Lib.hid (H0.out.below hb1); obtain ⟨g, cap, hgv, _, _⟩ := World.ownsRow.form (show W1.ownsRow _ 9 1 _ _ _ from ho1) (by simp); injection hgv with hg1 _ _; subst hg1; have p0 := ho1.get (i := 0) (by simp); have p1 := ho1.get (i := 1) (by simp); simp only [List.getElem_cons_zero, List.getElem_cons_succ] at p0 p1; have P1 := Lib.hid p1; have hgl := block_lt_of_cell p0) | (go_at_call 69; (with_reducible refine (HF1.out _).mono ?_); rintro _ W2 ⟨rfl, hb2⟩; have HA2 := Lib.hid ((HA1.out.below hb2).below (new_below _ (.cells #[.bool x0, .string t0, .bool x1, .string t1] 36))); have HX2 := Lib.hid (Blk.new W2 36 #[.bool x0, .string t0, .bool x1, .string t1]); have p1 := (((hb2.alloc hb2.size (.cells #[.bool x0, .string t0, .bool x1, .string t1] 36)).cell (p := ⟨g, 1, none⟩) (by exact hgl))).trans P1.out) | (go_at_call 69; (with_reducible refine (HF2.out _).mono ?_); rintro _ W3 ⟨rfl, hb3⟩; have HA3 := Lib.hid ((HA2.out.below hb3).below (new_below _ (.cells #[.bool y0, .string u0, .bool y1, .string u1] 36))); have HX3 := Lib.hid ((HX2.out.below hb3 HX2.out.lt).alloc (.cells #[.bool y0, .string u0, .bool y1, .string u1] 36)); have HY3 := Lib.hid (Blk.new W3 36 #[.bool y0, .string u0, .bool y1, .string u1]); have d0 := HX3.out.cell 0; have d1 := HX3.out.cell 1; have d2 := HX3.out.cell 2; have d3 := HX3.out.cell 3; have e0 := HY3.out.cell 0; have e1 := HY3.out.cell 1; have e2 := HY3.out.cell 2; have e3 := HY3.out.cell 3; have c0 := HA3.out.r.cell 0; have c1 := HA3.out.r.cell 1; have c2 := HA3.out.r.cell 2; have c3 := HA3.out.r.cell 3; have c4 := HA3.out.r.cell 4; have c5 := HA3.out.r.cell 5; have c6 := HA3.out.r.cell 6; have c7 := HA3.out.r.cell 7; have c8 := HA3.out.r.cell 8; have c9 := HA3.out.r.cell 9; have c10 := HA3.out.r.cell 10; have c11 := HA3.out.r.cell 11; have f0 := HA3.out.r.frozen 0; have f1 := HA3.out.r.frozen 1; have f2 := HA3.out.r.frozen 2; have f3 := HA3.out.r.frozen 3; have f4 := HA3.out.r.frozen 4; have f5 := HA3.out.r.frozen 5; have f6 := HA3.out.r.frozen 6; have f7 := HA3.out.r.frozen 7; have f8 := HA3.out.r.frozen 8; have f9 := HA3.out.r.frozen 9; have f10 := HA3.out.r.frozen 10; have f11 := HA3.out.r.frozen 11))
    refine bodyPost_ret (v := argV (none, 0, noneP)) (by simp [results, Tryz.results40, go_sem, argV, noneP, c0, c1, c2, c3, c4, c5, c6, c7, c8, c9, c10, c11]) rfl ?_
    exact ⟨⟨(none, 0, noneP), rfl, none_made, Hno.out.guess _⟩, HA3.out.done _ _ _ _ _ _ _ _ _ _ _ _⟩
  ·have Hno := Lib.hid (gp_not HM.out.1 HM.out.2 fun a b c' d h1 h2 ht => by
    have h3 := HP.out
    rw [ht, two_parts] at h3
    injection h3 with h3 _
    exact hbad a b h1 h3)
   clear hbad hz2
   go_enter Tryz.func40, Tryz.ntmps40
   go_wp2_with (first | (go_at_call 39; (with_reducible refine (HC.out _).mono ?_); rintro _ W1 ⟨A, n, c, rfl, ho1, hb1⟩; obtain rfl : n = 2 := (by obtain ⟨A', c', e, _⟩ := ho1.form; injection e); have HA1 := Lib.hid (H0.out.below hb1); obtain ⟨g, cap, hgv, _, _⟩ := World.ownsRow.form (show W1.ownsRow _ 9 1 _ _ _ from ho1) (by simp); injection hgv with hg1 _ _; subst hg1; have p0 := ho1.get (i := 0) (by simp); have p1 := ho1.get (i := 1) (by simp); simp only [List.getElem_cons_zero, List.getElem_cons_succ] at p0 p1; have P1 := Lib.hid p1; have hgl := block_lt_of_cell p0) | (go_at_call 69; (with_reducible refine (HF1.out _).mono ?_); rintro _ W2 ⟨rfl, hb2⟩; have HA2 := Lib.hid ((HA1.out.below hb2).below (new_below _ (.cells #[.bool x0, .string t0, .bool x1, .string t1] 36))); have HX2 := Lib.hid (Blk.new W2 36 #[.bool x0, .string t0, .bool x1, .string t1]); have p1 := (((hb2.alloc hb2.size (.cells #[.bool x0, .string t0, .bool x1, .string t1] 36)).cell (p := ⟨g, 1, none⟩) (by exact hgl))).trans P1.out) | (go_at_call 69; (with_reducible refine (HF2.out _).mono ?_); rintro _ W3 ⟨rfl, hb3⟩; have HA3 := Lib.hid ((HA2.out.below hb3).below (new_below _ (.cells #[.bool y0, .string u0, .bool y1, .string u1] 36))); have HX3 := Lib.hid ((HX2.out.below hb3 HX2.out.lt).alloc (.cells #[.bool y0, .string u0, .bool y1, .string u1] 36)); have HY3 := Lib.hid (Blk.new W3 36 #[.bool y0, .string u0, .bool y1, .string u1]); have d0 := HX3.out.cell 0; have d1 := HX3.out.cell 1; have d2 := HX3.out.cell 2; have d3 := HX3.out.cell 3; have e0 := HY3.out.cell 0; have e1 := HY3.out.cell 1; have e2 := HY3.out.cell 2; have e3 := HY3.out.cell 3; have c0 := HA3.out.r.cell 0; have c1 := HA3.out.r.cell 1; have c2 := HA3.out.r.cell 2; have c3 := HA3.out.r.cell 3; have c4 := HA3.out.r.cell 4; have c5 := HA3.out.r.cell 5; have c6 := HA3.out.r.cell 6; have c7 := HA3.out.r.cell 7; have c8 := HA3.out.r.cell 8; have c9 := HA3.out.r.cell 9; have c10 := HA3.out.r.cell 10; have c11 := HA3.out.r.cell 11; have f0 := HA3.out.r.frozen 0; have f1 := HA3.out.r.frozen 1; have f2 := HA3.out.r.frozen 2; have f3 := HA3.out.r.frozen 3; have f4 := HA3.out.r.frozen 4; have f5 := HA3.out.r.frozen 5; have f6 := HA3.out.r.frozen 6; have f7 := HA3.out.r.frozen 7; have f8 := HA3.out.r.frozen 8; have f9 := HA3.out.r.frozen 9; have f10 := HA3.out.r.frozen 10; have f11 := HA3.out.r.frozen 11))
   refine bodyPost_ret (v := argV (none, 0, noneP)) (by simp [results, Tryz.results40, go_sem, argV, noneP, c0, c1, c2, c3, c4, c5, c6, c7, c8, c9, c10, c11]) rfl ?_
   exact ⟨⟨(none, 0, noneP), rfl, none_made, Hno.out.guess _⟩, HA3.out.done _ _ _ _ _ _ _ _ _ _ _ _⟩
 ·have Hno := Lib.hid (gp_not HM.out.1 HM.out.2 fun a b c' d h1 h2 ht => hno ⟨_, _, by rw [HP.out, ht, two_parts]⟩)
  have hl2 : ((L.length : Int) != 2) = true := by
   refine bne_iff_ne.2 fun h => hno ?_
   have h2 : L.length = 2 := by omega
   match L, h2 with
   | [p, q], _ => exact ⟨p, q, rfl⟩
  clear hno
  go_enter Tryz.func40, Tryz.ntmps40
  go_wp2_with (go_at_call 39; (with_reducible refine (HC.out _).mono ?_); rintro _ W1 ⟨A, n, c, rfl, ho1, hb1⟩; obtain rfl : n = L.length := (by obtain ⟨A', c', e, _⟩ := ho1.form; injection e); have HA3 := Lib.hid (H0.out.below hb1); have c0 := HA3.out.r.cell 0; have c1 := HA3.out.r.cell 1; have c2 := HA3.out.r.cell 2; have c3 := HA3.out.r.cell 3; have c4 := HA3.out.r.cell 4; have c5 := HA3.out.r.cell 5; have c6 := HA3.out.r.cell 6; have c7 := HA3.out.r.cell 7; have c8 := HA3.out.r.cell 8; have c9 := HA3.out.r.cell 9; have c10 := HA3.out.r.cell 10; have c11 := HA3.out.r.cell 11; have f0 := HA3.out.r.frozen 0; have f1 := HA3.out.r.frozen 1; have f2 := HA3.out.r.frozen 2; have f3 := HA3.out.r.frozen 3; have f4 := HA3.out.r.frozen 4; have f5 := HA3.out.r.frozen 5; have f6 := HA3.out.r.frozen 6; have f7 := HA3.out.r.frozen 7; have f8 := HA3.out.r.frozen 8; have f9 := HA3.out.r.frozen 9; have f10 := HA3.out.r.frozen 10; have f11 := HA3.out.r.frozen 11)
  refine bodyPost_ret (v := argV (none, 0, noneP)) (by simp [results, Tryz.results40, go_sem, argV, noneP, c0, c1, c2, c3, c4, c5, c6, c7, c8, c9, c10, c11]) rfl ?_
  exact ⟨⟨(none, 0, noneP), rfl, none_made, Hno.out.guess _⟩, HA3.out.done _ _ _ _ _ _ _ _ _ _ _ _⟩
theorem rnum_b (s : ByteArray) (hs : s.size ≤ 9223372036854775807) (W : World) : Calls Tryz.prog 70 #[.string s] W (fun e w' => e = .returned (.int .i64 (numB s.data.toList)) ∧ Below W.heap.size W w') :=
 (rnum_any s hs).mono (by rintro _ _ ⟨rfl, rfl⟩; exact ⟨rfl, Below.refl _ _⟩)
structure BgS (w wr : World) (g cap : Nat) (A : Option Addr) (n c : Nat) (zs : List Int) (L : List (List UInt8)) : Prop where
 a : GsS w wr
 x : Blk wr (w.heap.size + 1) 41 #[.int .i64 4, .string ⟨#[]⟩, .bool false, .string ⟨#[]⟩, .bool false, .string ⟨#[]⟩, .bool false, .string ⟨#[]⟩, .bool false, .string ⟨#[]⟩, .slice A n c, .int .i64 0]
 o : OwnI wr w.heap.size (.slice A n c) zs
 p : OwnS wr (w.heap.size + 1 + 1) (.slice (some ⟨g, 0, none⟩) L.length cap) L
theorem BgS.below {w wr w' : World} {g cap : Nat} {A : Option Addr} {n c : Nat} {zs : List Int} {L : List (List UInt8)} (h : BgS w wr g cap A n c zs L) (hb : Below wr.heap.size wr w') : BgS w w' g cap A n c zs L :=
 ⟨h.a.below hb, h.x.below hb h.x.lt, h.o.kept hb, h.p.kept hb⟩
theorem BgS.app {w wr W3 : World} {g cap : Nat} {A : Option Addr} {n c : Nat} {zs ys : List Int} {L : List (List UInt8)} (h : BgS w wr g cap A n c zs L) {A' : Option Addr} {n' c' : Nat}
  (ho : OwnI W3 w.heap.size (.slice A' n' c') ys) (hg : wr.grownBy W3 (Value.slice A n c).ownBlock) : BgS w (W3.setCell ⟨w.heap.size + 1, 10, none⟩ (.slice A' n' c')) g cap A' n' c' ys L := by
 have hx3 := h.x.grown hg (fun e => own_blk_ne h.o h.x (by decide) e.symm)
 have hr3 := h.a.r.grown hg (fun e => own_blk_ne h.o h.a.r (by decide) e.symm)
 have hb3 := h.a.b.grown hg h.a.b.size (fun k hk => (h.o.lt k hk).1)
 have hp3 := h.p.grown hg (fun g hg => own_neS h.p h.o g hg)
 refine ⟨⟨hr3.far (p := ⟨w.heap.size + 1, 10, none⟩) (by show w.heap.size ≠ w.heap.size + 1; omega) _, hb3.setCell (p := ⟨w.heap.size + 1, 10, none⟩) (by show w.heap.size ≤ w.heap.size + 1; omega) _⟩, hx3.set_ 10 _, ?_, ?_⟩
 ·exact ho.grown (grown_set W3 ⟨w.heap.size + 1, 10, none⟩ _) (fun g hg e => own_blk_ne ho hx3 (by decide) (by rw [hg]; exact e.symm))
 ·exact ownsRow_setCell_below hp3 (by show w.heap.size + 1 < w.heap.size + 1 + 1; omega) _
theorem gword_blk {w wr : World} (h : GsS w wr) (hz : wr.heap.size = w.heap.size + 1) : GsS w (wr.alloc (.cells #[.int .i64 4, .string ⟨#[]⟩, .bool false, .string ⟨#[]⟩, .bool false, .string ⟨#[]⟩, .bool false, .string ⟨#[]⟩, .bool false, .string ⟨#[]⟩, .slice none 0 0, .int .i64 0] 41)) ∧ Blk (wr.alloc (.cells #[.int .i64 4, .string ⟨#[]⟩, .bool false, .string ⟨#[]⟩, .bool false, .string ⟨#[]⟩, .bool false, .string ⟨#[]⟩, .bool false, .string ⟨#[]⟩, .slice none 0 0, .int .i64 0] 41)) (w.heap.size + 1) 41 #[.int .i64 4, .string ⟨#[]⟩, .bool false, .string ⟨#[]⟩, .bool false, .string ⟨#[]⟩, .bool false, .string ⟨#[]⟩, .bool false, .string ⟨#[]⟩, .slice none 0 0, .int .i64 0] := by
 have hb := Blk.new wr 41 #[.int .i64 4, .string ⟨#[]⟩, .bool false, .string ⟨#[]⟩, .bool false, .string ⟨#[]⟩, .bool false, .string ⟨#[]⟩, .bool false, .string ⟨#[]⟩, .slice none 0 0, .int .i64 0]
 rw [hz] at hb
 exact ⟨h.below (new_below _ _), hb⟩
set_option maxRecDepth 100000 in
set_option maxHeartbeats 4000000 in
theorem guess_brack {w : World} {s : ByteArray} (hs : s.size ≤ 6000) (h0 : 0 < s.size) (hni : s.data.toList ≠ [40, 105, 110, 102, 41]) (hc : s[0] = 91) : Calls Tryz.prog 40 #[.string s] w (GuessOut w s.data.toList) := by
 have hne := str_facts h0
 have hi : (0 : Int) < (s.size : Int) := by omega
 have hi1 : (1 : Int) ≤ (s.size : Int) := by omega
 have hi6 : (s.size : Int) ≤ 6000 := by omega
 have hnd := inf_no hni
 have hnb : (s.toList == [40, 105, 110, 102, 41]) = false := by simpa using hnd
 have H0 := Lib.hid (GsS.new w)
 obtain ⟨k, hmx, hk1, hk2, Hk⟩ := max_k h0
 have hml := mid_list h0 hc Hk.out hk1
 have HIs := Lib.hid (gb_is hml)
 have HT := Lib.hid (show (s.extract 1 k).size ≤ 6000 by rw [ByteArray.size_extract]; omega)
 have HC := Lib.hid (fun W => pieces_46 (s.extract 1 k) HT.out W)
 have HL := Lib.hid (show (cutB (s.extract 1 k).data.toList 46).length ≤ 6001 by
  rw [cutB_parts]
  have h2 := parts_small 46 (s.extract 1 k).data.toList
  have h3 : (s.extract 1 k).data.toList.length = (s.extract 1 k).size := Array.length_toList
  have := HT.out
  omega)
 have HLen : Hid (∀ p ∈ cutB (s.extract 1 k).data.toList 46, p.length ≤ 6000) := Lib.hid fun p hp => by
  rw [cutB_parts] at hp
  have h1 := mem_join_len (c := 46) (l := parts 46 (s.extract 1 k).data.toList) p hp
  rw [join_parts] at h1
  have h2 : (s.extract 1 k).data.toList.length = (s.extract 1 k).size := Array.length_toList
  have := HT.out
  omega
 have HN1 := Lib.hid (show 0 < (cutB (s.extract 1 k).data.toList 46).length by
  rw [cutB_parts]
  obtain ⟨q, qs, h⟩ := parts_ne 46 (s.extract 1 k).data.toList
  rw [h]; simp)
 have HW := Lib.hid (gword_blk H0.out (by simp))
 generalize cutB (s.extract 1 k).data.toList 46 = L at *
 clear hs hni hml
 go_enter Tryz.func40, Tryz.ntmps40
 go_wp2_with (go_at_call 39; (with_reducible refine (HC.out _).mono ?_); rintro _ W1 ⟨A1, n1, cap, rfl, ho1, hb1⟩; have HA1 := Lib.hid (HW.out.1.below hb1); have hx1 := HW.out.2.below hb1 HW.out.2.lt)
 obtain ⟨g, cap0, hgv, _, _⟩ := World.ownsRow.form (show W1.ownsRow _ 9 1 _ _ _ from ho1) HN1.out
 injection hgv with hgA hgn hgc
 subst hgA hgn hgc
 simp only [World.size_alloc] at ho1
 have Hst := Lib.hid (show BgS w W1 g cap none 0 0 [] L from ⟨HA1.out, hx1, OwnI.nil _ _, ho1⟩)
 generalize s.extract 1 k = t at *
 by_cases hq : t = ⟨#[]⟩
 ·have HIs2 := Lib.hid (show GuessIs s.data.toList (wordP []) by have h := HIs.out; rw [if_pos (by rw [hq])] at h; exact h)
  subst hq
  clear hx1 ho1 hb1 HA1 HIs
  go_loopg [11] 0 (fun k iv wr => iv = .int .i64 (0 : Int) ∧ wr = W1)
  case atStart => exact ⟨rfl, rfl⟩
  case round =>
   obtain ⟨rfl, rfl⟩ := hrel
   have hl1 : (0 : Int) < (L.length : Int) := by have := HN1.out; omega
   have d0 := Hst.out.x.cell 0
   have d1 := Hst.out.x.cell 1
   have d2 := Hst.out.x.cell 2
   have d3 := Hst.out.x.cell 3
   have d4 := Hst.out.x.cell 4
   have d5 := Hst.out.x.cell 5
   have d6 := Hst.out.x.cell 6
   have d7 := Hst.out.x.cell 7
   have d8 := Hst.out.x.cell 8
   have d9 := Hst.out.x.cell 9
   have d10 := Hst.out.x.cell 10
   have d11 := Hst.out.x.cell 11
   have g0 := Hst.out.x.frozen 0
   have g1 := Hst.out.x.frozen 1
   have g2 := Hst.out.x.frozen 2
   have g3 := Hst.out.x.frozen 3
   have g4 := Hst.out.x.frozen 4
   have g5 := Hst.out.x.frozen 5
   have g6 := Hst.out.x.frozen 6
   have g7 := Hst.out.x.frozen 7
   have g8 := Hst.out.x.frozen 8
   have g9 := Hst.out.x.frozen 9
   have g10 := Hst.out.x.frozen 10
   have g11 := Hst.out.x.frozen 11
   have c0 := Hst.out.a.r.cell 0
   have c1 := Hst.out.a.r.cell 1
   have c2 := Hst.out.a.r.cell 2
   have c3 := Hst.out.a.r.cell 3
   have c4 := Hst.out.a.r.cell 4
   have c5 := Hst.out.a.r.cell 5
   have c6 := Hst.out.a.r.cell 6
   have c7 := Hst.out.a.r.cell 7
   have c8 := Hst.out.a.r.cell 8
   have c9 := Hst.out.a.r.cell 9
   have c10 := Hst.out.a.r.cell 10
   have c11 := Hst.out.a.r.cell 11
   have f0 := Hst.out.a.r.frozen 0
   have f1 := Hst.out.a.r.frozen 1
   have f2 := Hst.out.a.r.frozen 2
   have f3 := Hst.out.a.r.frozen 3
   have f4 := Hst.out.a.r.frozen 4
   have f5 := Hst.out.a.r.frozen 5
   have f6 := Hst.out.a.r.frozen 6
   have f7 := Hst.out.a.r.frozen 7
   have f8 := Hst.out.a.r.frozen 8
   have f9 := Hst.out.a.r.frozen 9
   have f10 := Hst.out.a.r.frozen 10
   have f11 := Hst.out.a.r.frozen 11
   go_wp2_with fail
   refine bodyPost_ret (v := argV (none, 0, wordP [])) (by simp [results, Tryz.results40, go_sem, argV, wordP, c0, c1, c2, c3, c4, c5, c6, c7, c8, c9, c10, c11]) rfl ?_
   exact ⟨⟨(none, 0, wordP []), rfl, word_made (OwnI.nil _ _) (by simp), HIs2.out⟩, Hst.out.a.done _ _ _ _ _ _ _ _ _ _ _ _⟩
 have hqd : ¬ t.toList = [] := fun h => hq (tl_inj (by rw [h, ByteArray.toList_eq]))
 have hqn : (t.toList == []) = false := by simpa using hqd
 have hqe : t.toList.isEmpty = false := by simpa using hqd
 have HIs2 := Lib.hid (show GuessIs s.data.toList (wordP (L.map numB)) by
  have h := HIs.out
  rw [if_neg (fun e => hq (ByteArray.ext (Array.toList_inj.1 e)))] at h
  exact h)
 clear hx1 ho1 hb1 HA1 HIs HC HT HW H0 hq
 go_loopg [11] L.length (fun k iv wr => ∃ (i : Nat) (A : Option Addr) (n c : Nat) (zs : List Int), iv = .int .i64 (i : Int) ∧ k = L.length - i ∧ i ≤ L.length ∧ Hid (zs = (L.take i).map numB) ∧ Hid (BgS w wr g cap A n c zs L))
 case atStart => exact ⟨0, none, 0, 0, [], rfl, by omega, by omega, Lib.hid rfl, Hst⟩
 case round =>
  obtain ⟨i, A, n, c, zs, rfl, hk, hi, hz, hO⟩ := hrel
  have Hk := Lib.hid hk
  clear hk
  by_cases hin : i < L.length
  ·have hii : (i : Int) < (L.length : Int) := by omega
   have hi0 : (0 : Int) ≤ (i : Int) := by omega
   have hi6 : (i : Int) ≤ 6001 := by have := HL.out; omega
   have hcp := hO.out.p.get hin
   have HP2 := Lib.hid (fun (W : World) (h : OwnS W (w.heap.size + 1 + 1) (.slice (some ⟨g, 0, none⟩) L.length cap) L) => h.get hin)
   have HpL := Lib.hid (HLen.out _ (List.getElem_mem hin))
   have Hnew := Lib.hid (show zs ++ [numB L[i]] = (L.take (i + 1)).map numB by rw [List.take_succ_eq_append_getElem hin, List.map_append, hz.out]; rfl)
   generalize L[i] = p at *
   have c10 := hO.out.x.cell 10
   have f10 := hO.out.x.frozen 10
   have HS := Lib.hid (rnum_b ⟨p.toArray⟩ (by show p.toArray.size ≤ _; rw [List.size_toArray]; have := HpL.out; omega))
   simp only at HS
   generalize numB p = z at *
   have Hlz := Lib.hid (show zs.length ≤ 1000000000 by have h1 := congrArg List.length hz.out; rw [List.length_map, List.length_take] at h1; have := HL.out; omega)
   go_wp2_with fail
   refine wp_region_noPanic ?_
   refine wp_region_HK (fun w' => w'.cell? ⟨w.heap.size + 1, 10, none⟩ = some (.slice A n c) ∧ w'.cell? ⟨g, i, none⟩ = some (.string ⟨p.toArray⟩)) 10 (by kernel_rfl) ⟨c10, hcp⟩ (fun hHeld => ?_)
   refine wpHK_take (i := 0) (oi := Oper.mk (some 74) _ _ _ _ _) (v := ?_) rfl (by kernel_rfl) (by kernel_rfl) (by kernel_rfl) (by kernel_rfl) (fun _ _ _ h => h) (Or.inl ⟨by rfl, ?_⟩) (by assumption) ?_
   rotate_left
   ·(intro w' hSw; (try dsimp only at hSw); (obtain ⟨s1, s2⟩ := hSw); go_simp; try with_reducible rfl)
   try simp only [Act.put, List.setIfInBounds_toArray, List.set_cons_zero, List.set_cons_succ]
   refine wpHK_take (i := 1) (oi := Oper.mk (some 75) _ _ _ _ _) (v := ?_) rfl (by kernel_rfl) (by kernel_rfl) (by kernel_rfl) (by kernel_rfl) (fun _ _ _ h => h) (Or.inl ⟨by rfl, ?_⟩) (by assumption) ?_
   rotate_left
   ·(intro w' hSw; (try dsimp only at hSw); (obtain ⟨s1, s2⟩ := hSw); go_simp; try with_reducible rfl)
   try simp only [Act.put, List.setIfInBounds_toArray, List.set_cons_zero, List.set_cons_succ]
   refine wpHK_take (i := 2) (oi := Oper.mk (some 76) _ _ _ _ _) (v := ?_) rfl (by kernel_rfl) (by kernel_rfl) (by kernel_rfl) (by kernel_rfl) (fun _ _ _ h => h) (Or.inl ⟨by rfl, ?_⟩) (by assumption) ?_
   rotate_left
   ·(intro w' hSw; (try dsimp only at hSw); (obtain ⟨s1, s2⟩ := hSw); go_simp; try with_reducible rfl)
   try simp only [Act.put, List.setIfInBounds_toArray, List.set_cons_zero, List.set_cons_succ]
   refine wpHK_take (i := 3) (oi := Oper.mk (some 77) _ _ _ _ _) (v := ?_) rfl (by kernel_rfl) (by kernel_rfl) (by kernel_rfl) (by kernel_rfl) (fun _ _ _ h => h) (Or.inl ⟨by rfl, ?_⟩) (by assumption) ?_
   rotate_left
   ·(intro w' hSw; (try dsimp only at hSw); (obtain ⟨s1, s2⟩ := hSw); go_simp; try with_reducible rfl)
   try simp only [Act.put, List.setIfInBounds_toArray, List.set_cons_zero, List.set_cons_succ]
   refine wpHK_take (i := 4) (oi := Oper.mk (some 78) _ _ _ _ _) (v := ?_) rfl (by kernel_rfl) (by kernel_rfl) (by kernel_rfl) (by kernel_rfl) (fun _ _ _ h => h) (Or.inl ⟨by rfl, ?_⟩) (by assumption) ?_
   rotate_left
   ·(intro w' hSw; (try dsimp only at hSw); (obtain ⟨s1, s2⟩ := hSw); go_simp; try with_reducible rfl)
   try simp only [Act.put, List.setIfInBounds_toArray, List.set_cons_zero, List.set_cons_succ]
   refine wpHK_take (i := 5) (oi := Oper.mk (some 79) _ _ _ _ _) (v := ?_) rfl (by kernel_rfl) (by kernel_rfl) (by kernel_rfl) (by kernel_rfl) (fun _ _ _ h => h) (Or.inl ⟨by rfl, ?_⟩) (by assumption) ?_
   rotate_left
   ·(intro w' hSw; (try dsimp only at hSw); (obtain ⟨s1, s2⟩ := hSw); go_simp; try with_reducible rfl)
   try simp only [Act.put, List.setIfInBounds_toArray, List.set_cons_zero, List.set_cons_succ]
   refine wpHK_one (j := 6) (o := Oper.mk (some 80) _ _ _ _ _) rfl (by kernel_rfl) (fun K hK => ?_)
   go_simp
   refine (HS.out _).mono ?_
   rintro _ W4 ⟨rfl, hb4⟩
   have hS4 := hO.out.below (undrew hb4)
   have hS5 := hS4.below (new_below W4 (.cells #[.int .i64 z] 3))
   refine hK.out _ _ (And.intro (hS4.x.cell 10) (HP2.out _ hS4.p)) (fun _ => ?_)
   clear hK K hHeld
   have hHeld := (And.intro (hS4.x.cell 10) (HP2.out _ hS4.p))
   try simp only [Act.put, List.setIfInBounds_toArray, List.set_cons_zero, List.set_cons_succ]
   refine wpHK_one (j := 7) (o := Oper.mk (some 81) _ _ _ _ _) rfl (by kernel_rfl) (fun K hK => ?_)
   go_simp
   refine hK.out _ _ (And.intro (hS5.x.cell 10) (HP2.out _ hS5.p)) (fun _ => ?_)
   clear hK K hHeld
   have hHeld := (And.intro (hS5.x.cell 10) (HP2.out _ hS5.p))
   try simp only [Act.put, List.setIfInBounds_toArray, List.set_cons_zero, List.set_cons_succ]
   refine wpHK_one (j := 8) (o := Oper.mk (some 82) _ _ _ _ _) rfl (by kernel_rfl) (fun K hK => ?_)
   refine stepI_append (by rfl) (.tmp 75) (.tmp 81) (by rfl) w.heap.size _ zs hS5.o (by rfl) _ _ [z] (reads_single W4 z) 1 1 rfl (by rfl) Hlz.out (by simp) hS5.a.b.size ?_
   intro A5 n5 c5 w5 ho5 hg5
   refine hK.out _ _ (And.intro ((hS5.x.grown hg5 (fun e => own_blk_ne hS5.o hS5.x (by decide) e.symm)).cell 10) (HP2.out _ (hS5.p.grown hg5 (fun g hg => own_neS hS5.p hS5.o g hg)))) (fun _ => ?_)
   clear hK K hHeld
   have hHeld := (And.intro ((hS5.x.grown hg5 (fun e => own_blk_ne hS5.o hS5.x (by decide) e.symm)).cell 10) (HP2.out _ (hS5.p.grown hg5 (fun g hg => own_neS hS5.p hS5.o g hg))))
   try simp only [Act.put, List.setIfInBounds_toArray, List.set_cons_zero, List.set_cons_succ]
   refine wpHK_take (i := 9) (oi := Oper.mk (some 83) _ _ _ _ _) (v := ?_) rfl (by kernel_rfl) (by kernel_rfl) (by kernel_rfl) (by kernel_rfl) (fun _ _ _ h => h) (Or.inl ⟨by rfl, ?_⟩) (by assumption) ?_
   rotate_left
   ·(intro w' hSw; (try dsimp only at hSw); (obtain ⟨s1, s2⟩ := hSw); go_simp; try with_reducible rfl)
   try simp only [Act.put, List.setIfInBounds_toArray, List.set_cons_zero, List.set_cons_succ]
   refine wpHK_tail (j := 10) (o := Oper.mk (none) _ _ _ _ _) rfl (by kernel_rfl) (by decide) (fun K hK => ?_)
   have g10 := (hS5.x.grown hg5 (fun e => own_blk_ne hS5.o hS5.x (by decide) e.symm)).frozen 10
   go_simp
   refine hK.out _ _ ?_
   clear hK K
   try simp only [Act.put, List.setIfInBounds_toArray, List.set_cons_zero, List.set_cons_succ]
   refine wpHK_done (by kernel_rfl) ?_ _
   refine NoPanic.normal ?_
   go_wp2_with fail
   go_roundg (L.length - (i + 1))
   case measure => have := Hk.out; omega
   case rel => exact ⟨i + 1, A5, n5, c5, zs ++ [z], rfl, rfl, by omega, Hnew, Lib.hid (hS5.app ho5 hg5)⟩
  ·have hii : ¬ (i : Int) < (L.length : Int) := by omega
   have hall : zs = L.map numB := by
    have h := hz.out
    rwa [List.take_of_length_le (by omega)] at h
   have Hlz := Lib.hid (show zs.length ≤ 6001 by rw [hall, List.length_map]; exact HL.out)
   have Hin := Lib.hid (show GuessIs s.data.toList (wordP zs) by rw [hall]; exact HIs2.out)
   clear hall
   have d0 := hO.out.x.cell 0
   have d1 := hO.out.x.cell 1
   have d2 := hO.out.x.cell 2
   have d3 := hO.out.x.cell 3
   have d4 := hO.out.x.cell 4
   have d5 := hO.out.x.cell 5
   have d6 := hO.out.x.cell 6
   have d7 := hO.out.x.cell 7
   have d8 := hO.out.x.cell 8
   have d9 := hO.out.x.cell 9
   have d10 := hO.out.x.cell 10
   have d11 := hO.out.x.cell 11
   have g0 := hO.out.x.frozen 0
   have g1 := hO.out.x.frozen 1
   have g2 := hO.out.x.frozen 2
   have g3 := hO.out.x.frozen 3
   have g4 := hO.out.x.frozen 4
   have g5 := hO.out.x.frozen 5
   have g6 := hO.out.x.frozen 6
   have g7 := hO.out.x.frozen 7
   have g8 := hO.out.x.frozen 8
   have g9 := hO.out.x.frozen 9
   have g10 := hO.out.x.frozen 10
   have g11 := hO.out.x.frozen 11
   have c0 := hO.out.a.r.cell 0
   have c1 := hO.out.a.r.cell 1
   have c2 := hO.out.a.r.cell 2
   have c3 := hO.out.a.r.cell 3
   have c4 := hO.out.a.r.cell 4
   have c5 := hO.out.a.r.cell 5
   have c6 := hO.out.a.r.cell 6
   have c7 := hO.out.a.r.cell 7
   have c8 := hO.out.a.r.cell 8
   have c9 := hO.out.a.r.cell 9
   have c10 := hO.out.a.r.cell 10
   have c11 := hO.out.a.r.cell 11
   have f0 := hO.out.a.r.frozen 0
   have f1 := hO.out.a.r.frozen 1
   have f2 := hO.out.a.r.frozen 2
   have f3 := hO.out.a.r.frozen 3
   have f4 := hO.out.a.r.frozen 4
   have f5 := hO.out.a.r.frozen 5
   have f6 := hO.out.a.r.frozen 6
   have f7 := hO.out.a.r.frozen 7
   have f8 := hO.out.a.r.frozen 8
   have f9 := hO.out.a.r.frozen 9
   have f10 := hO.out.a.r.frozen 10
   have f11 := hO.out.a.r.frozen 11
   go_wp2_with fail
   obtain rfl : n = zs.length := hO.out.o.len.1
   refine bodyPost_ret (v := argV (A, c, wordP zs)) (by simp [results, Tryz.results40, go_sem, argV, wordP, c0, c1, c2, c3, c4, c5, c6, c7, c8, c9, c10, c11]) rfl ?_
   exact ⟨⟨(A, c, wordP zs), rfl, word_made (hO.out.a.own hO.out.o _ _ _ _ _ _ _ _ _ _ _ _) (by have := Hlz.out; omega), Hin.out⟩, hO.out.a.done _ _ _ _ _ _ _ _ _ _ _ _⟩
theorem guess_any {w : World} {s : ByteArray} (hs : s.size ≤ 6000) : Calls Tryz.prog 40 #[.string s] w (GuessOut w s.data.toList) := by
 by_cases hni : s.data.toList = [40, 105, 110, 102, 41]
 ·have he : s = ⟨#[40, 105, 110, 102, 41]⟩ := ByteArray.ext (Array.toList_inj.1 hni)
  subst he
  exact guess_inf
 rcases Nat.eq_zero_or_pos s.size with h0 | h0
 ·have he := str_empty (s := s) (List.eq_nil_of_length_eq_zero (by have hsz : s.data.toList.length = s.size := (by simp); omega))
  subst he
  exact guess_nil
 ·obtain ⟨b, hc, _⟩ := byte_at h0
  by_cases h1 : b = 40
  ·subst h1
   exact guess_paren hs h0 hni hc
  by_cases h2 : b = 91
  ·subst h2
   exact guess_brack hs h0 hni hc
  by_cases h3 : b = 35
  ·subst h3
   exact guess_hash hs h0 hni hc
  exact guess_name hs h0 hni hc h1 h2 h3
def refName : List (List UInt8) → List UInt8 × List (List UInt8)
 | (61 :: b :: n) :: r => (b :: n, r)
 | r => ([], r)
theorem refName_eq (b : UInt8) (n : List UInt8) (r : List (List UInt8)) : refName ((61 :: b :: n) :: r) = (b :: n, r) := rfl
theorem refName_ne {r : List (List UInt8)} (h : ∀ b n q, r ≠ (61 :: b :: n) :: q) : refName r = ([], r) := by
 unfold refName
 split
 ·exact absurd rfl (h _ _ _)
 ·rfl
theorem refName_same {rest : List (List UInt8)} (h : ∀ r, rest ≠ [61] :: r) : nameOf rest = refName rest := by
 by_cases h1 : ∃ n q, rest = (61 :: n) :: q
 ·obtain ⟨n, q, rfl⟩ := h1
  cases n with
  | nil => exact absurd rfl (h q)
  | cons b n => rw [refName_eq, nameOf_eq]
 ·rw [nameOf_ne (fun n q e => h1 ⟨n, q, e⟩), refName_ne (fun b n q e => h1 ⟨b :: n, q, e⟩)]
theorem ref_no {l v n : List UInt8} {rest ts : List (List UInt8)} (h : parts 32 l = v :: rest) (hn : refName rest = (n, ts)) {xs : List ArgP} (hx : xs.length = min ts.length 66) (hg : ∀ i (h : i < ts.length) (h' : i < xs.length), GuessIs ts[i] xs[i])
  (hbad : (⟨⟨v.toArray⟩, ⟨n.toArray⟩, xs⟩ : StP).ok → lineT ⟨⟨v.toArray⟩, ⟨n.toArray⟩, xs⟩ ≠ l) : NoLine l := by
 by_cases hr : ∃ r, rest = [61] :: r
 ·obtain ⟨r, rfl⟩ := hr
  exact no_eq h
 ·have hn2 := (refName_same fun r e => hr ⟨r, e⟩).trans hn
  by_cases hl : 64 < ts.length
  ·exact no_many h hn2 hl
  ·intro q hq he
   have e := only_line h hn2 (xs := xs) (by omega) hg hq he
   rw [e] at hq he
   exact hbad hq he
theorem pieces_32 (s : ByteArray) (hs : s.size ≤ 6000) (w : World) : Calls Tryz.prog 39 #[.string s, .int .u8 32] w (fun e w' => ∃ A n c, e = .returned (.slice A n c) ∧ OwnS w' w.heap.size (.slice A n c) (cutB s.data.toList 32) ∧ Below w.heap.size w w') := pieces_any s (by omega) 32
theorem fineG_step {W : World} {B i : Nat} {ts : List (List UInt8)} {rs : List ARow} {r : ARow} {p : List UInt8} (h1 : rs.length = i) (h2 : ∀ q (h : q < ts.length) (h' : q < rs.length), GuessIs ts[q] rs[q].2.2) (h3 : ∀ r ∈ rs, ArgFine r)
  (hp : ∃ h : i < ts.length, ts[i] = p) (hi : GuessIs p r.2.2) (hm : ArgMade W B r) : (rs ++ [r]).length = i + 1 ∧ (∀ q (h : q < ts.length) (h' : q < (rs ++ [r]).length), GuessIs ts[q] (rs ++ [r])[q].2.2) ∧ ∀ x ∈ rs ++ [r], ArgFine x := by
 refine ⟨by rw [List.length_append, List.length_singleton, h1], fun q h h' => ?_, fun x hx => ?_⟩
 ·rcases Nat.lt_or_ge q rs.length with hq | hq
  ·rw [List.getElem_append_left hq]
   exact h2 q h hq
  ·have e : q = i := by rw [List.length_append, List.length_singleton] at h'; omega
   subst e
   obtain ⟨hh, he⟩ := hp
   rw [List.getElem_append_right (by omega), he]
   simp only [h1, Nat.sub_self, List.getElem_cons_zero]
   exact hi
 ·rcases List.mem_append.1 hx with h | h
  ·exact h3 x h
  ·rw [List.mem_singleton.1 h]
   exact ⟨hm.kz, hm.cz, hm.fit⟩
structure RgS (w wr : World) (g5 g N cap : Nat) (v nm : ByteArray) (A : Option Addr) (n c : Nat) (rs : List ARow) (L : List (List UInt8)) : Prop where
 s : Blk wr w.heap.size 25 #[.string ⟨#[]⟩, .string ⟨#[]⟩, .slice none 0 0]
 t : Blk wr g5 25 #[.string v, .string nm, .slice A n c]
 p : OwnS wr (w.heap.size + 1) (.slice (some ⟨g, 0, none⟩) N cap) L
 o : LentA wr w.heap.size (.slice A n c) rs
 b : Below w.heap.size w wr
 lt : w.heap.size < g5
 hN : N = L.length
section
variable {w wr w' : World} {g5 g N cap n c : Nat} {A : Option Addr} {v nm : ByteArray} {rs : List ARow} {L : List (List UInt8)}
theorem RgS.below (h : RgS w wr g5 g N cap v nm A n c rs L) (hb : Below wr.heap.size wr w') : RgS w w' g5 g N cap v nm A n c rs L :=
 ⟨h.s.below hb h.s.lt, h.t.below hb h.t.lt, h.p.kept hb, h.o.kept hb, h.b.trans (hb.mono h.b.size), h.lt, h.hN⟩
theorem RgS.new {W1 : World} (hs : Blk W1 w.heap.size 25 #[.string ⟨#[]⟩, .string ⟨#[]⟩, .slice none 0 0]) (hp : OwnS W1 (w.heap.size + 1) (.slice (some ⟨g, 0, none⟩) N cap) L) (hb : Below w.heap.size w W1) (hN : N = L.length) (v nm : ByteArray) :
  RgS w (W1.alloc (.cells #[.string v, .string nm, .slice none 0 0] 25)) W1.heap.size g N cap v nm none 0 0 [] L :=
 ⟨hs.alloc _, Blk.new W1 25 _, hp.alloc _, ⟨OwnA.nil _ _, fun r hr => by simp at hr⟩, hb.alloc hb.size _, hs.lt, hN⟩
theorem RgS.app {w2 w3 : World} {r : ARow} (h : RgS w wr g5 g N cap v nm A n c rs L) (hb2 : Below wr.heap.size wr w2) (hn : OwnI w2 w.heap.size (.slice r.1 r.2.2.wd.length r.2.1) r.2.2.wd) {A' : Option Addr} {n' c' : Nat}
  (ho3 : OwnA w3 w.heap.size (.slice A' n' c') (rs ++ [r])) (hg : (w2.alloc (.cells (acs r).toArray 41)).grownBy w3 (Value.slice A n c).ownBlock) :
  RgS w (w3.setCell ⟨g5, 2, none⟩ (.slice A' n' c')) g5 g N cap v nm A' n' c' (rs ++ [r]) L := by
 have h2 := (h.below hb2).below (new_below w2 (.cells (acs r).toArray 41))
 have ho := h2.o.1
 have hl := LentA.step h.o hb2 hn ho3 hg
 have hs3 := h2.s.grown hg (fun e => own_blk_ne ho h2.s (by decide) e.symm)
 have ht3 := h2.t.grown hg (fun e => own_blk_ne ho h2.t (by decide) e.symm)
 have hp3 : OwnS w3 (w.heap.size + 1) (.slice (some ⟨g, 0, none⟩) N cap) L := h2.p.grown hg (fun g hg => own_neSA h2.p ho g hg)
 have hb3 := h2.b.grown hg h2.b.size (fun k hk => (ho.lt k hk).1)
 exact ⟨hs3.far (p := ⟨g5, 2, none⟩) (by have := h.lt; show w.heap.size ≠ g5; omega) _, ht3.set_ 2 _,
  hp3.setB ht3 (by decide) _, hl.setB ht3 (by decide) (by decide) _, hb3.setCell (p := ⟨g5, 2, none⟩) (by have := h.lt; show w.heap.size ≤ g5; omega) _, h.lt, h.hN⟩
theorem RgS.end_ (h : RgS w wr g5 g N cap v nm A n c rs L) (u0 u1 u2 : Value) : LentA (((wr.setCell ⟨w.heap.size, 0, none⟩ u0).setCell ⟨w.heap.size, 1, none⟩ u1).setCell ⟨w.heap.size, 2, none⟩ u2) w.heap.size (.slice A n c) rs ∧
  Below w.heap.size w (((wr.setCell ⟨w.heap.size, 0, none⟩ u0).setCell ⟨w.heap.size, 1, none⟩ u1).setCell ⟨w.heap.size, 2, none⟩ u2) :=
 ⟨((h.o.setB h.s (by decide) (by decide) _).setB (h.s.set_ 0 _) (by decide) (by decide) _).setB ((h.s.set_ 0 _).set_ 1 _) (by decide) (by decide) _,
  ((h.b.setCell (p := ⟨w.heap.size, 0, none⟩) (Nat.le_refl _) _).setCell (p := ⟨w.heap.size, 1, none⟩) (Nat.le_refl _) _).setCell (p := ⟨w.heap.size, 2, none⟩) (Nat.le_refl _) _⟩
end
def rrFr (s : ByteArray) (b g5 g N cap j : Nat) (v : Nat → Value) : Array Value := #[.string s, v 1, .pointer (some ⟨b, 0, none⟩), v 3, .slice (some ⟨g, 0, none⟩) N cap, .pointer (some ⟨g5, 0, none⟩), .int .i64 (j : Int), v 7, v 8, v 9, v 10, v 11, v 12, v 13, v 14, v 15, v 16, v 17, v 18, v 19, v 20, v 21, v 22, v 23, v 24, v 25, v 26, v 27, v 28, v 29, v 30, v 31, v 32, v 33, v 34, v 35, v 36, v 37, v 38, v 39, v 40, v 41, v 42, v 43, v 44, v 45, v 46, v 47, v 48, v 49, v 50, v 51, v 52, v 53, v 54, v 55, v 56, v 57, v 58, v 59, v 60, v 61, v 62, v 63, v 64, v 65, v 66, v 67, v 68, v 69, v 70, v 71, v 72, v 73, v 74]
set_option maxRecDepth 100000 in
set_option maxHeartbeats 8000000 in
theorem rsr_core {w wr : World} {B g5 g N cap j : Nat} {s : ByteArray} {v nm : List UInt8} {L ts rest : List (List UInt8)} {u : Nat → Value} (hg : Gl B w) (hS : RgS w wr g5 g N cap ⟨v.toArray⟩ ⟨nm.toArray⟩ none 0 0 [] L)
  (hts : ts = L.drop j) (hj : j ≤ L.length) (hlen : ∀ t ∈ L, t.length ≤ 6000) (hv : v.length ≤ 6000) (hn : nm.length ≤ 6000) (hp : parts 32 s.data.toList = v :: rest) (hnm : refName rest = (nm, ts)) (hk7 : L.length ≤ 7000)
  (K2 : Act → World → Prop) (hK2 : ∀ a w', (codeRest 6 (bodyOf Tryz.f10)).wp Tryz.prog (bodyPost Tryz.prog Tryz.f10 (ReadOut w s.data.toList)) a w' → K2 a w') (K : Act → World → Prop) (hK : ∀ a w', (codeRest 1 (codeAt 5 (bodyOf Tryz.f10))).wp Tryz.prog (Exit.then K2 (bodyPost Tryz.prog Tryz.f10 (ReadOut w s.data.toList))) a w' → K a w') :
  (codeAt 0 (codeAt 5 (bodyOf Tryz.f10))).wp Tryz.prog (Exit.then K (Exit.then K2 (bodyPost Tryz.prog Tryz.f10 (ReadOut w s.data.toList)))) ⟨rrFr s w.heap.size g5 g N cap j u, []⟩ wr := by
 conv => enter [2]; dsimp only [codeAt, bodyOf, Tryz.f10, Option.getD_some]
 dsimp only [codeRest, codeAt, bodyOf, Tryz.f10, Option.getD_some] at hK hK2
 have HG := Lib.hid hg
 have hkt : ts.length + j = L.length := by rw [hts, List.length_drop]; omega
 have Hts := Lib.hid (And.intro hts (And.intro hkt hk7))
 have HP := Lib.hid (And.intro hp hnm)
 have Hlen := Lib.hid (And.intro hlen (And.intro hv hn))
 have HS := Lib.hid hS
 clear hts hkt hp hnm hlen hv hn hg hS hj hk7
 unfold rrFr
 go_wp2_with fail
 go_loopg [7] ts.length (fun kk iv wq => ∃ (q i : Nat) (A : Option Addr) (n c : Nat) (rs : List ARow), iv = .int .i64 (q : Int) ∧ Hid (q = j + i ∧ kk = ts.length - i ∧ i ≤ ts.length ∧ i ≤ 66 ∧ n = i) ∧ Hid (RgS w wq g5 g N cap ⟨v.toArray⟩ ⟨nm.toArray⟩ A n c rs L) ∧ Hid (rs.length = i ∧ (∀ q (h : q < ts.length) (h' : q < rs.length), GuessIs ts[q] rs[q].2.2) ∧ ∀ r ∈ rs, ArgFine r))
 case atStart => exact ⟨j, 0, none, 0, 0, [], rfl, Lib.hid ⟨rfl, rfl, Nat.zero_le _, by decide, rfl⟩, HS, Lib.hid ⟨rfl, fun q _ h' => by simp at h', fun r hr => by simp at hr⟩⟩
 case round =>
  obtain ⟨q, i, A, n, c, rs, rfl, hI, hO, hA⟩ := hrel
  have e0 := hO.out.t.cell 0
  have e1 := hO.out.t.cell 1
  have e2 := hO.out.t.cell 2
  by_cases hgo : q < N ∧ n < 66
  ·have hii : (q : Int) < (N : Int) := by omega
   have hi0 : (0 : Int) ≤ (q : Int) := by omega
   have hi6 : (q : Int) ≤ 7000 := by have := Hts.out.2.2; have := hO.out.hN; omega
   have hn6 : (n : Int) < 66 := by omega
   have hin : q < L.length := by have := hO.out.hN; omega
   have hcp := hO.out.p.get hin
   have HP2 := Lib.hid (fun (W : World) (h : OwnS W (w.heap.size + 1) (.slice (some ⟨g, 0, none⟩) N cap) L) => h.get hin)
   have Hts2 := Lib.hid (show ∃ h : i < ts.length, ts[i] = L[q] from ⟨by have := Hts.out.2.1; have := hI.out.1; omega, by simp only [Hts.out.1, List.getElem_drop, hI.out.1]⟩)
   have HpL := Lib.hid (Hlen.out.1 _ (List.getElem_mem hin))
   have Hgo := Lib.hid hgo
   generalize L[q] = p at *
   have HpS := Lib.hid (show (⟨p.toArray⟩ : ByteArray).size ≤ 6000 by show p.toArray.size ≤ 6000; rw [List.size_toArray]; exact HpL.out)
   have HGs := Lib.hid (fun W => guess_any (w := W) HpS.out)
   have f2 := hO.out.t.frozen 2
   have Hlr := Lib.hid (show rs.length ≤ 1000000 by have := hA.out.1; have := hI.out.2.2.2.1; omega)
   clear hgo hin
   go_wp2_with fail
   refine wp_region_noPanic ?_
   refine wp_region_HK (fun w' => w'.cell? ⟨g5, 2, none⟩ = some (.slice A n c) ∧ w'.cell? ⟨g, q, none⟩ = some (.string ⟨p.toArray⟩)) 10 (by kernel_rfl) ⟨e2, hcp⟩ (fun hHeld => ?_)
   refine wpHK_take (i := 0) (oi := Oper.mk (some 51) _ _ _ _ _) (v := ?_) rfl (by kernel_rfl) (by kernel_rfl) (by kernel_rfl) (by kernel_rfl) (fun _ _ _ h => h) (Or.inl ⟨by rfl, ?_⟩) (by assumption) ?_
   rotate_left
   ·(intro w' hSw; (try dsimp only at hSw); (obtain ⟨s1, s2⟩ := hSw); go_simp; try with_reducible rfl)
   try simp only [Act.put, List.setIfInBounds_toArray, List.set_cons_zero, List.set_cons_succ]
   refine wpHK_take (i := 1) (oi := Oper.mk (some 52) _ _ _ _ _) (v := ?_) rfl (by kernel_rfl) (by kernel_rfl) (by kernel_rfl) (by kernel_rfl) (fun _ _ _ h => h) (Or.inl ⟨by rfl, ?_⟩) (by assumption) ?_
   rotate_left
   ·(intro w' hSw; (try dsimp only at hSw); (obtain ⟨s1, s2⟩ := hSw); go_simp; try with_reducible rfl)
   try simp only [Act.put, List.setIfInBounds_toArray, List.set_cons_zero, List.set_cons_succ]
   refine wpHK_take (i := 2) (oi := Oper.mk (some 53) _ _ _ _ _) (v := ?_) rfl (by kernel_rfl) (by kernel_rfl) (by kernel_rfl) (by kernel_rfl) (fun _ _ _ h => h) (Or.inl ⟨by rfl, ?_⟩) (by assumption) ?_
   rotate_left
   ·(intro w' hSw; (try dsimp only at hSw); (obtain ⟨s1, s2⟩ := hSw); go_simp; try with_reducible rfl)
   try simp only [Act.put, List.setIfInBounds_toArray, List.set_cons_zero, List.set_cons_succ]
   refine wpHK_take (i := 3) (oi := Oper.mk (some 54) _ _ _ _ _) (v := ?_) rfl (by kernel_rfl) (by kernel_rfl) (by kernel_rfl) (by kernel_rfl) (fun _ _ _ h => h) (Or.inl ⟨by rfl, ?_⟩) (by assumption) ?_
   rotate_left
   ·(intro w' hSw; (try dsimp only at hSw); (obtain ⟨s1, s2⟩ := hSw); go_simp; try with_reducible rfl)
   try simp only [Act.put, List.setIfInBounds_toArray, List.set_cons_zero, List.set_cons_succ]
   refine wpHK_take (i := 4) (oi := Oper.mk (some 55) _ _ _ _ _) (v := ?_) rfl (by kernel_rfl) (by kernel_rfl) (by kernel_rfl) (by kernel_rfl) (fun _ _ _ h => h) (Or.inl ⟨by rfl, ?_⟩) (by assumption) ?_
   rotate_left
   ·(intro w' hSw; (try dsimp only at hSw); (obtain ⟨s1, s2⟩ := hSw); go_simp; try with_reducible rfl)
   try simp only [Act.put, List.setIfInBounds_toArray, List.set_cons_zero, List.set_cons_succ]
   refine wpHK_take (i := 5) (oi := Oper.mk (some 56) _ _ _ _ _) (v := ?_) rfl (by kernel_rfl) (by kernel_rfl) (by kernel_rfl) (by kernel_rfl) (fun _ _ _ h => h) (Or.inl ⟨by rfl, ?_⟩) (by assumption) ?_
   rotate_left
   ·(intro w' hSw; (try dsimp only at hSw); (obtain ⟨s1, s2⟩ := hSw); go_simp; try with_reducible rfl)
   try simp only [Act.put, List.setIfInBounds_toArray, List.set_cons_zero, List.set_cons_succ]
   refine wpHK_one (j := 6) (o := Oper.mk (some 57) _ _ _ _ _) rfl (by kernel_rfl) (fun K hK => ?_)
   go_simp
   refine (HGs.out _).mono ?_
   rintro e W5 ⟨⟨r, rfl, hm5, hi5⟩, hb5⟩
   obtain ⟨A6, c6, x6⟩ := r
   simp only [argV]
   have hb5 := undrew hb5
   have hS3 := hO.out.below hb5
   have hS4 := hS3.below (new_below W5 (.cells (acs (A6, c6, x6)).toArray 41))
   refine hK.out _ _ (And.intro (hS3.t.cell 2) (HP2.out _ hS3.p)) (fun _ => ?_)
   clear hK K hHeld
   have hHeld := (And.intro (hS3.t.cell 2) (HP2.out _ hS3.p))
   try simp only [Act.put, List.setIfInBounds_toArray, List.set_cons_zero, List.set_cons_succ]
   refine wpHK_one (j := 7) (o := Oper.mk (some 58) _ _ _ _ _) rfl (by kernel_rfl) (fun K hK => ?_)
   go_simp
   refine hK.out _ _ (And.intro (hS4.t.cell 2) (HP2.out _ hS4.p)) (fun _ => ?_)
   clear hK K hHeld
   have hHeld := (And.intro (hS4.t.cell 2) (HP2.out _ hS4.p))
   try simp only [Act.put, List.setIfInBounds_toArray, List.set_cons_zero, List.set_cons_succ]
   refine wpHK_one (j := 8) (o := Oper.mk (some 59) _ _ _ _ _) rfl (by kernel_rfl) (fun K hK => ?_)
   refine stepA_append (by rfl) (.tmp 52) (.tmp 58) (by rfl) w.heap.size _ rs hS4.o.1 (by rfl) _ _ [(A6, c6, x6)] (reads_singleA W5 (A6, c6, x6)) 1 1 rfl (by rfl) Hlr.out (by simp) hS4.b.size ?_
   intro A8 n8 c8 w8 ho8 hg8
   refine hK.out _ _ (And.intro ((hS4.t.grown hg8 (fun e => own_blk_ne hS4.o.1 hS4.t (by decide) e.symm)).cell 2) (HP2.out _ (hS4.p.grown hg8 (fun g hg => own_neSA hS4.p hS4.o.1 g hg)))) (fun _ => ?_)
   clear hK K hHeld
   have hHeld := (And.intro ((hS4.t.grown hg8 (fun e => own_blk_ne hS4.o.1 hS4.t (by decide) e.symm)).cell 2) (HP2.out _ (hS4.p.grown hg8 (fun g hg => own_neSA hS4.p hS4.o.1 g hg))))
   try simp only [Act.put, List.setIfInBounds_toArray, List.set_cons_zero, List.set_cons_succ]
   refine wpHK_take (i := 9) (oi := Oper.mk (some 60) _ _ _ _ _) (v := ?_) rfl (by kernel_rfl) (by kernel_rfl) (by kernel_rfl) (by kernel_rfl) (fun _ _ _ h => h) (Or.inl ⟨by rfl, ?_⟩) (by assumption) ?_
   rotate_left
   ·(intro w' hSw; (try dsimp only at hSw); (obtain ⟨s1, s2⟩ := hSw); go_simp; try with_reducible rfl)
   try simp only [Act.put, List.setIfInBounds_toArray, List.set_cons_zero, List.set_cons_succ]
   refine wpHK_tail (j := 10) (o := Oper.mk (none) _ _ _ _ _) rfl (by kernel_rfl) (by decide) (fun K hK => ?_)
   have g2 := (hS4.t.grown hg8 (fun e => own_blk_ne hS4.o.1 hS4.t (by decide) e.symm)).frozen 2
   have hO' := Lib.hid (hO.out.app (r := (A6, c6, x6)) hb5 (hm5.own.lower hO.out.b.size) ho8 hg8)
   go_simp
   refine hK.out _ _ ?_
   clear hK K
   try simp only [Act.put, List.setIfInBounds_toArray, List.set_cons_zero, List.set_cons_succ]
   refine wpHK_done (by kernel_rfl) ?_ _
   refine NoPanic.normal ?_
   go_wp2_with fail
   go_roundg (ts.length - (i + 1))
   case measure => have := hI.out.2.1; have := Hts2.out.1; omega
   case rel => exact ⟨q + 1, i + 1, A8, n8, c8, rs ++ [(A6, c6, x6)], rfl, Lib.hid ⟨by have := hI.out.1; omega, rfl, by have := Hts2.out.1; omega, by have := hI.out.2.2.2.2; have := Hgo.out.2; omega, by
    have h1 := (lent_readsA (hO'.out.o) (fineG_step hA.out.1 hA.out.2.1 hA.out.2.2 Hts2.out hi5 hm5).2.2).2
    rw [h1, List.length_append, hA.out.1]; rfl⟩, hO', Lib.hid (fineG_step hA.out.1 hA.out.2.1 hA.out.2.2 Hts2.out hi5 hm5)⟩
  ·obtain ⟨hrd, hnl⟩ := lent_readsA hO.out.o hA.out.2.2
   subst hnl
   have hmin : rs.length = min ts.length 66 := by
    have h1 := hI.out
    have h2 := hA.out.1
    have h3 := Hts.out.2.1
    have h4 := hO.out.hN
    omega
   have HX := Lib.hid (ref_no (xs := rs.map (fun r => r.2.2)) HP.out.1 HP.out.2 (by rw [List.length_map]; exact hmin) (fun q h h' => by rw [List.getElem_map]; exact hA.out.2.1 q h (by simpa using h')))
   have Hfit := Lib.hid (show (⟨⟨v.toArray⟩, ⟨nm.toArray⟩, rs.map (fun r => r.2.2)⟩ : StP).fit from
    ⟨by show v.toArray.size ≤ _; rw [List.size_toArray]; have := Hlen.out.2.1; omega, by show nm.toArray.size ≤ _; rw [List.size_toArray]; have := Hlen.out.2.2; omega, by rw [List.length_map]; omega, fun x hx => by
     obtain ⟨r, hr, rfl⟩ := List.mem_map.1 hx
     exact (hA.out.2.2 r hr).fit⟩)
   have HT := Lib.hid (HG.out.below hO.out.b)
   have hstop : ((q : Int) < (N : Int) ∧ ¬ (rs.length : Int) < 66) ∨ ¬ (q : Int) < (N : Int) := by omega
   rcases Classical.em (⟨⟨v.toArray⟩, ⟨nm.toArray⟩, rs.map (fun r => r.2.2)⟩ : StP).ok with hok | hno
   ·have HC := Lib.hid (rline_ok (s := ⟨⟨v.toArray⟩, ⟨nm.toArray⟩, A, c, rs⟩) (HT.out.tab.more HT.out.hB) hrd (Nat.le_refl _) Hfit.out hok)
    have Hok := Lib.hid hok
    unfold StR.cells StR.p bs at HC
    simp only at HC
    have HL := Lib.hid (show (⟨(lineT ⟨⟨v.toArray⟩, ⟨nm.toArray⟩, rs.map (fun r => r.2.2)⟩).toArray⟩ : ByteArray).data.toList = lineT ⟨⟨v.toArray⟩, ⟨nm.toArray⟩, rs.map (fun r => r.2.2)⟩ from rfl)
    generalize (⟨(lineT ⟨⟨v.toArray⟩, ⟨nm.toArray⟩, rs.map (fun r => r.2.2)⟩).toArray⟩ : ByteArray) = X at *
    clear hok hrd hgo hmin
    by_cases hxe : X = s
    ·subst hxe
     rcases hstop with ⟨k1, k2⟩ | k1
     ·go_wp2_with (go_at_call 15; (with_reducible refine HC.out.mono ?_); rintro _ W8 ⟨rfl, hb8⟩; have HS8 := Lib.hid (hO.out.below hb8); have t0 := HS8.out.t.cell 0; have t1 := HS8.out.t.cell 1; have t2 := HS8.out.t.cell 2; have g0 := HS8.out.s.frozen 0; have g1 := HS8.out.s.frozen 1; have g2 := HS8.out.s.frozen 2; have s0 := HS8.out.s.cell 0; have s1 := HS8.out.s.cell 1; have s2 := HS8.out.s.cell 2)
      refine bodyPost_ret (v := .tuple #[.agg #[.string ⟨v.toArray⟩, .string ⟨nm.toArray⟩, .slice A rs.length c], .int .i64 0]) (by simp [results, Tryz.results10, go_sem, s0, s1, s2]) rfl ?_
      exact ⟨.inl ⟨⟨⟨v.toArray⟩, ⟨nm.toArray⟩, A, c, rs⟩, rfl, Hok.out, HL.out.symm, (HS8.out.end_ _ _ _).1⟩, (HS8.out.end_ _ _ _).2⟩
     ·go_wp2_with (go_at_call 15; (with_reducible refine HC.out.mono ?_); rintro _ W8 ⟨rfl, hb8⟩; have HS8 := Lib.hid (hO.out.below hb8); have t0 := HS8.out.t.cell 0; have t1 := HS8.out.t.cell 1; have t2 := HS8.out.t.cell 2; have g0 := HS8.out.s.frozen 0; have g1 := HS8.out.s.frozen 1; have g2 := HS8.out.s.frozen 2; have s0 := HS8.out.s.cell 0; have s1 := HS8.out.s.cell 1; have s2 := HS8.out.s.cell 2)
      refine bodyPost_ret (v := .tuple #[.agg #[.string ⟨v.toArray⟩, .string ⟨nm.toArray⟩, .slice A rs.length c], .int .i64 0]) (by simp [results, Tryz.results10, go_sem, s0, s1, s2]) rfl ?_
      exact ⟨.inl ⟨⟨⟨v.toArray⟩, ⟨nm.toArray⟩, A, c, rs⟩, rfl, Hok.out, HL.out.symm, (HS8.out.end_ _ _ _).1⟩, (HS8.out.end_ _ _ _).2⟩
    ·have x1 : ¬ X.toList = s.toList := fun h => hxe (tl_inj h)
     have x2 : (X.toList == s.toList) = false := by simpa using x1
     have Hno := Lib.hid (HX.out fun _ e => hxe (ByteArray.ext (Array.toList_inj.1 (HL.out.trans e))))
     clear hxe
     rcases hstop with ⟨k1, k2⟩ | k1
     ·go_wp2_with (go_at_call 15; (with_reducible refine HC.out.mono ?_); rintro _ W8 ⟨rfl, hb8⟩; have HS8 := Lib.hid (hO.out.below hb8); have t0 := HS8.out.t.cell 0; have t1 := HS8.out.t.cell 1; have t2 := HS8.out.t.cell 2; have g0 := HS8.out.s.frozen 0; have g1 := HS8.out.s.frozen 1; have g2 := HS8.out.s.frozen 2; have s0 := HS8.out.s.cell 0; have s1 := HS8.out.s.cell 1; have s2 := HS8.out.s.cell 2)
      refine bodyPost_ret (v := .tuple #[.agg #[.string ⟨#[]⟩, .string ⟨#[]⟩, .slice none 0 0], .int .i64 400]) (by simp [results, Tryz.results10, go_sem, s0, s1, s2]) rfl ?_
      first
       | exact ⟨.inr ⟨rfl, Hno.out⟩, (HS8.out.end_ _ _ _).2⟩
       | exact ⟨.inr ⟨rfl, Hno.out⟩, HS8.out.b⟩
     ·go_wp2_with (go_at_call 15; (with_reducible refine HC.out.mono ?_); rintro _ W8 ⟨rfl, hb8⟩; have HS8 := Lib.hid (hO.out.below hb8); have t0 := HS8.out.t.cell 0; have t1 := HS8.out.t.cell 1; have t2 := HS8.out.t.cell 2; have g0 := HS8.out.s.frozen 0; have g1 := HS8.out.s.frozen 1; have g2 := HS8.out.s.frozen 2; have s0 := HS8.out.s.cell 0; have s1 := HS8.out.s.cell 1; have s2 := HS8.out.s.cell 2)
      refine bodyPost_ret (v := .tuple #[.agg #[.string ⟨#[]⟩, .string ⟨#[]⟩, .slice none 0 0], .int .i64 400]) (by simp [results, Tryz.results10, go_sem, s0, s1, s2]) rfl ?_
      first
       | exact ⟨.inr ⟨rfl, Hno.out⟩, (HS8.out.end_ _ _ _).2⟩
       | exact ⟨.inr ⟨rfl, Hno.out⟩, HS8.out.b⟩
   ·have HC := Lib.hid (rline_bad (s := ⟨⟨v.toArray⟩, ⟨nm.toArray⟩, A, c, rs⟩) hrd (Nat.le_refl _) Hfit.out hno)
    have Hno := Lib.hid (HX.out fun h _ => hno h)
    unfold StR.cells at HC
    simp only at HC
    clear hno hrd hgo hmin
    rcases hstop with ⟨k1, k2⟩ | k1
    ·go_wp2_with (go_at_call 15; (with_reducible refine HC.out.mono ?_); rintro _ W8 ⟨rfl, hb8⟩; have HS8 := Lib.hid (hO.out.below hb8); have t0 := HS8.out.t.cell 0; have t1 := HS8.out.t.cell 1; have t2 := HS8.out.t.cell 2; have g0 := HS8.out.s.frozen 0; have g1 := HS8.out.s.frozen 1; have g2 := HS8.out.s.frozen 2; have s0 := HS8.out.s.cell 0; have s1 := HS8.out.s.cell 1; have s2 := HS8.out.s.cell 2)
     refine bodyPost_ret (v := .tuple #[.agg #[.string ⟨#[]⟩, .string ⟨#[]⟩, .slice none 0 0], .int .i64 400]) (by simp [results, Tryz.results10, go_sem, s0, s1, s2]) rfl ?_
     first
      | exact ⟨.inr ⟨rfl, Hno.out⟩, (HS8.out.end_ _ _ _).2⟩
      | exact ⟨.inr ⟨rfl, Hno.out⟩, HS8.out.b⟩
    ·go_wp2_with (go_at_call 15; (with_reducible refine HC.out.mono ?_); rintro _ W8 ⟨rfl, hb8⟩; have HS8 := Lib.hid (hO.out.below hb8); have t0 := HS8.out.t.cell 0; have t1 := HS8.out.t.cell 1; have t2 := HS8.out.t.cell 2; have g0 := HS8.out.s.frozen 0; have g1 := HS8.out.s.frozen 1; have g2 := HS8.out.s.frozen 2; have s0 := HS8.out.s.cell 0; have s1 := HS8.out.s.cell 1; have s2 := HS8.out.s.cell 2)
     refine bodyPost_ret (v := .tuple #[.agg #[.string ⟨#[]⟩, .string ⟨#[]⟩, .slice none 0 0], .int .i64 400]) (by simp [results, Tryz.results10, go_sem, s0, s1, s2]) rfl ?_
     first
      | exact ⟨.inr ⟨rfl, Hno.out⟩, (HS8.out.end_ _ _ _).2⟩
      | exact ⟨.inr ⟨rfl, Hno.out⟩, HS8.out.b⟩
theorem rsr_core_t {w wr : World} {B g5 g N cap j : Nat} {s : ByteArray} {v nm : List UInt8} {L ts rest : List (List UInt8)} {t : Array Value} (hg : Gl B w) (hS : RgS w wr g5 g N cap ⟨v.toArray⟩ ⟨nm.toArray⟩ none 0 0 [] L)
  (hts : ts = L.drop j) (hj : j ≤ L.length) (hlen : ∀ t ∈ L, t.length ≤ 6000) (hv : v.length ≤ 6000) (hn : nm.length ≤ 6000) (hp : parts 32 s.data.toList = v :: rest) (hnm : refName rest = (nm, ts)) (hk7 : L.length ≤ 7000)
  (K2 : Act → World → Prop) (hK2 : ∀ a w', (codeRest 6 (bodyOf Tryz.f10)).wp Tryz.prog (bodyPost Tryz.prog Tryz.f10 (ReadOut w s.data.toList)) a w' → K2 a w') (K : Act → World → Prop) (hK : ∀ a w', (codeRest 1 (codeAt 5 (bodyOf Tryz.f10))).wp Tryz.prog (Exit.then K2 (bodyPost Tryz.prog Tryz.f10 (ReadOut w s.data.toList))) a w' → K a w') (ht : t = rrFr s w.heap.size g5 g N cap j (fun k => t.getD k undef)) :
  (codeAt 0 (codeAt 5 (bodyOf Tryz.f10))).wp Tryz.prog (Exit.then K (Exit.then K2 (bodyPost Tryz.prog Tryz.f10 (ReadOut w s.data.toList)))) ⟨t, []⟩ wr := by
 have h := rsr_core (s := s) (u := fun k => t.getD k undef) hg hS hts hj hlen hv hn hp hnm hk7 K2 hK2 K hK
 rw [← ht] at h
 exact h
set_option maxRecDepth 100000 in
set_option maxHeartbeats 8000000 in
theorem rsread_any {w : World} {B : Nat} {s : ByteArray} (hg : Gl B w) (hs : s.size ≤ 6000) : Calls Tryz.prog 10 #[.string s] w (ReadOut w s.data.toList) := by
 have HG := Lib.hid hg
 have HC := Lib.hid (fun W => pieces_32 s hs W)
 have h2 := Blk.new w 25 #[.string ⟨#[]⟩, .string ⟨#[]⟩, .slice none 0 0]
 have H0 := Lib.hid (And.intro h2 (new_below w (.cells #[.string ⟨#[]⟩, .string ⟨#[]⟩, .slice none 0 0] 25)))
 have HLL : Hid (∀ p ∈ cutB s.data.toList 32, p.length ≤ 6000) := Lib.hid fun p hp => by
  rw [cutB_parts] at hp
  have h1 := mem_join_len (c := 32) (l := parts 32 s.data.toList) p hp
  rw [join_parts] at h1
  have h2 : s.data.toList.length = s.size := by simp
  omega
 have HL7 := Lib.hid (show (cutB s.data.toList 32).length ≤ 7000 by
  rw [cutB_parts]
  have h2 := parts_small 32 s.data.toList
  have h3 : s.data.toList.length = s.size := by simp
  omega)
 obtain ⟨v, rest, hvr⟩ := parts_ne 32 s.data.toList
 have Hp := Lib.hid hvr
 rw [cutB_parts, hvr] at HC HLL HL7
 have HvL := Lib.hid (HLL.out v (by simp))
 clear hg h2 hvr
 cases rest with
 | nil =>
  go_enter Tryz.func10, Tryz.ntmps10
  go_upto_region 7 with (go_at_call 39; (with_reducible refine (HC.out _).mono ?_); rintro _ W1 ⟨A1, N, cap, rfl, ho1, hb1⟩; have HB1 := Lib.hid (H0.out.1.below hb1 H0.out.1.lt); have HB2 := Lib.hid (H0.out.2.trans (hb1.mono H0.out.2.size)); simp only [World.size_alloc] at ho1; obtain ⟨g, cap0, hgv, hgb, hgl⟩ := World.ownsRow.form (show W1.ownsRow _ 9 1 _ _ _ from ho1) (by simp); injection hgv with hgA hgn hgc; subst hgA; have HN := Lib.hid hgn; clear hgc; have p0 := ho1.get (i := 0) (by simp); simp only [List.getElem_cons_zero] at p0; have n1 : ¬ g = W1.heap.size := (by omega); have n2 : ¬ W1.heap.size = g := (by omega); have hN0 : (0 : Int) < (N : Int) := (by rw [hgn]; simp only [List.length_cons]; omega); have hN1 : ¬ (1 : Int) < (N : Int) := (by rw [hgn]; simp); clear hgn)
  rename_i hK2 _ hK
  exact rsr_core_t (s := s) (ts := []) (nm := []) HG.out (RgS.new HB1.out ho1 HB2.out HN.out ⟨v.toArray⟩ ⟨#[]⟩) rfl (by simp) HLL.out HvL.out (by simp) Hp.out rfl HL7.out _ hK2 _ hK rfl
 | cons q r =>
  have HqL := Lib.hid (HLL.out q (by simp))
  have hn1 : ∀ N : Nat, N = (v :: q :: r).length → (1 : Int) < (N : Int) := fun N h => by rw [h]; simp only [List.length_cons]; omega
  have Hn1 := Lib.hid hn1
  clear hn1
  generalize hQ : (⟨q.toArray⟩ : ByteArray) = Q
  have HQ := Lib.hid hQ
  by_cases hq1 : 1 < Q.size
  ·obtain ⟨b, hb, _⟩ := byte_at (show 0 < Q.size by omega)
   have hi1 : (1 : Int) < (Q.size : Int) := by omega
   have hi2 : (1 : Int) ≤ (Q.size : Int) := by omega
   have hi0 : (0 : Int) < (Q.size : Int) := by omega
   by_cases hb61 : b = 61
   ·subst hb61
    have HE := Lib.hid (show ∃ b n, q = 61 :: b :: n by
     have h1 := head_bytes (show 0 < Q.size by omega) hb
     rw [← hQ] at h1
     have h3 : q = 61 :: (Q.extract 1 Q.size).data.toList := by rw [← hQ]; exact h1
     have h4 : q.length = Q.size := by rw [← hQ]; show q.length = q.toArray.size; rw [List.size_toArray]
     cases hx : (Q.extract 1 Q.size).data.toList with
     | nil => rw [hx] at h3; rw [h3] at h4; simp at h4; omega
     | cons b n => exact ⟨b, n, by rw [h3, hx]⟩)
    clear hQ
    go_enter Tryz.func10, Tryz.ntmps10
    go_upto_region 7 with (go_at_call 39; (with_reducible refine (HC.out _).mono ?_); rintro _ W1 ⟨A1, N, cap, rfl, ho1, hb1⟩; have HB1 := Lib.hid (H0.out.1.below hb1 H0.out.1.lt); have HB2 := Lib.hid (H0.out.2.trans (hb1.mono H0.out.2.size)); simp only [World.size_alloc] at ho1; obtain ⟨g, cap0, hgv, hgb, hgl⟩ := World.ownsRow.form (show W1.ownsRow _ 9 1 _ _ _ from ho1) (by simp); injection hgv with hgA hgn hgc; subst hgA; have HN := Lib.hid hgn; clear hgc; have p0 := ho1.get (i := 0) (by simp); simp only [List.getElem_cons_zero] at p0; have n1 : ¬ g = W1.heap.size := (by omega); have n2 : ¬ W1.heap.size = g := (by omega); have hN0 : (0 : Int) < (N : Int) := (by rw [hgn]; simp only [List.length_cons]; omega); have hN1 : (1 : Int) < (N : Int) := Hn1.out N hgn; clear hgn; have p1 := ho1.get (i := 1) (by simp); simp only [List.getElem_cons_zero, List.getElem_cons_succ, HQ.out] at p1)
    rename_i hK2 _ hK
    obtain ⟨b, n, hqe⟩ := HE.out
    have hx : Q.extract 1 Q.size = ⟨(b :: n).toArray⟩ := by rw [← HQ.out, hqe]; exact tail_str (b :: n)
    rw [hx]
    have hnl : (b :: n).length ≤ 6000 := by have := HqL.out; rw [hqe] at this; simp only [List.length_cons] at this ⊢; omega
    exact rsr_core_t (s := s) (ts := r) (nm := b :: n) HG.out (RgS.new HB1.out ho1 HB2.out HN.out ⟨v.toArray⟩ ⟨(b :: n).toArray⟩) rfl (by simp) HLL.out HvL.out hnl Hp.out (by rw [hqe]; exact refName_eq b n r) HL7.out _ hK2 _ hK rfl
   ·have nb : ((b.toNat : Int) == 61) = false := by
     refine beq_eq_false_iff_ne.2 fun h => hb61 (UInt8.toNat_inj.1 ?_)
     show b.toNat = 61; omega
    have HE := Lib.hid (show ∀ b' n x, q :: r ≠ (61 :: b' :: n) :: x from fun b' n x h => by
     have h1 := head_bytes (show 0 < Q.size by omega) hb
     rw [← hQ] at h1
     have h3 : q = b :: _ := h1
     rw [(List.cons.inj h).1] at h3
     exact hb61 (List.cons.inj h3).1.symm)
    clear hQ hb61
    go_enter Tryz.func10, Tryz.ntmps10
    go_upto_region 7 with (go_at_call 39; (with_reducible refine (HC.out _).mono ?_); rintro _ W1 ⟨A1, N, cap, rfl, ho1, hb1⟩; have HB1 := Lib.hid (H0.out.1.below hb1 H0.out.1.lt); have HB2 := Lib.hid (H0.out.2.trans (hb1.mono H0.out.2.size)); simp only [World.size_alloc] at ho1; obtain ⟨g, cap0, hgv, hgb, hgl⟩ := World.ownsRow.form (show W1.ownsRow _ 9 1 _ _ _ from ho1) (by simp); injection hgv with hgA hgn hgc; subst hgA; have HN := Lib.hid hgn; clear hgc; have p0 := ho1.get (i := 0) (by simp); simp only [List.getElem_cons_zero] at p0; have n1 : ¬ g = W1.heap.size := (by omega); have n2 : ¬ W1.heap.size = g := (by omega); have hN0 : (0 : Int) < (N : Int) := (by rw [hgn]; simp only [List.length_cons]; omega); have hN1 : (1 : Int) < (N : Int) := Hn1.out N hgn; clear hgn; have p1 := ho1.get (i := 1) (by simp); simp only [List.getElem_cons_zero, List.getElem_cons_succ, HQ.out] at p1)
    rename_i hK2 _ hK
    exact rsr_core_t (s := s) (ts := q :: r) (nm := []) HG.out (RgS.new HB1.out ho1 HB2.out HN.out ⟨v.toArray⟩ ⟨#[]⟩) rfl (by simp) HLL.out HvL.out (by simp) Hp.out (refName_ne HE.out) HL7.out _ hK2 _ hK rfl
  ·have hi1 : ¬ (1 : Int) < (Q.size : Int) := by omega
   have HE := Lib.hid (show ∀ b' n x, q :: r ≠ (61 :: b' :: n) :: x from fun b' n x h => by
    have h4 : q.length = Q.size := by rw [← hQ]; show q.length = q.toArray.size; rw [List.size_toArray]
    rw [(List.cons.inj h).1] at h4
    simp at h4
    omega)
   clear hQ
   go_enter Tryz.func10, Tryz.ntmps10
   go_upto_region 7 with (go_at_call 39; (with_reducible refine (HC.out _).mono ?_); rintro _ W1 ⟨A1, N, cap, rfl, ho1, hb1⟩; have HB1 := Lib.hid (H0.out.1.below hb1 H0.out.1.lt); have HB2 := Lib.hid (H0.out.2.trans (hb1.mono H0.out.2.size)); simp only [World.size_alloc] at ho1; obtain ⟨g, cap0, hgv, hgb, hgl⟩ := World.ownsRow.form (show W1.ownsRow _ 9 1 _ _ _ from ho1) (by simp); injection hgv with hgA hgn hgc; subst hgA; have HN := Lib.hid hgn; clear hgc; have p0 := ho1.get (i := 0) (by simp); simp only [List.getElem_cons_zero] at p0; have n1 : ¬ g = W1.heap.size := (by omega); have n2 : ¬ W1.heap.size = g := (by omega); have hN0 : (0 : Int) < (N : Int) := (by rw [hgn]; simp only [List.length_cons]; omega); have hN1 : (1 : Int) < (N : Int) := Hn1.out N hgn; clear hgn; have p1 := ho1.get (i := 1) (by simp); simp only [List.getElem_cons_zero, List.getElem_cons_succ, HQ.out] at p1)
   rename_i hK2 _ hK
   exact rsr_core_t (s := s) (ts := q :: r) (nm := []) HG.out (RgS.new HB1.out ho1 HB2.out HN.out ⟨v.toArray⟩ ⟨#[]⟩) rfl (by simp) HLL.out HvL.out (by simp) Hp.out (refName_ne HE.out) HL7.out _ hK2 _ hK rfl
theorem ReadsA.calm {w w' : World} {B : Nat} {A : Option Addr} {rs : List ARow} (h : ReadsA w B A rs) (hB : B ≤ w.heap.size) (hb : Below w.heap.size w w') : ReadsA w' w'.heap.size A rs := ((h.more hB).below hb).more hb.size
def zeroP : StP := ⟨⟨#[]⟩, ⟨#[]⟩, []⟩
def Says (l : List UInt8) (p : StP) (z : Int) : Prop := (p.ok ∧ lineT p = l ∧ z = 0) ∨ (p = zeroP ∧ z = 400 ∧ NoLine l)
theorem Says.uniq {l : List UInt8} {p q : StP} {z y : Int} (h : Says l p z) (h' : Says l q y) : p = q ∧ z = y := by
 rcases h with ⟨h1, h2, rfl⟩ | ⟨rfl, rfl, h3⟩
 ·rcases h' with ⟨k1, k2, rfl⟩ | ⟨rfl, rfl, k3⟩
  ·exact ⟨lineT_inj h1 k1 (h2.trans k2.symm), rfl⟩
  ·exact absurd h2 (k3 p h1)
 ·rcases h' with ⟨k1, k2, rfl⟩ | ⟨rfl, rfl, k3⟩
  ·exact absurd k2 (h3 q k1)
  ·exact ⟨rfl, rfl⟩
theorem ReadOut.get {w w' : World} {l : List UInt8} {e : Ending} (h : ReadOut w l e w') : ∃ (s : StR) (z : Int), e = .returned (.tuple #[.agg s.cells, .int .i64 z]) ∧ Says l s.p z ∧ LentA w' w.heap.size (.slice s.A s.rs.length s.c) s.rs ∧ Below w.heap.size w w' := by
 obtain ⟨⟨s, he, h1, h2, h3⟩ | ⟨he, h1⟩, hb⟩ := h
 ·exact ⟨s, 0, he, .inl ⟨h1, h2, rfl⟩, h3, hb⟩
 ·exact ⟨⟨⟨#[]⟩, ⟨#[]⟩, none, 0, []⟩, 400, he, .inr ⟨rfl, rfl, h1⟩, ⟨OwnA.nil _ _, fun r hr => by cases hr⟩, hb⟩
theorem LentA.lower {w : World} {B B' : Nat} {v : Value} {rs : List ARow} (h : LentA w B v rs) (hB : B' ≤ B) : LentA w B' v rs := by
 refine ⟨⟨h.1.1, ?_⟩, fun r hr => (h.2 r hr).lower hB⟩
 rcases h.1.2 with h1 | ⟨g, cap, cur, h1, h2, h3⟩
 ·exact .inl h1
 ·exact .inr ⟨g, cap, cur, h1, Nat.le_trans hB h2, h3⟩
section
variable {w wr w' : World} {E b3 b5 b7 gA i : Nat} {s t q : StR}
end
def scs (s : StR) : List Value := [.string s.v, .string s.nm, .slice s.A s.rs.length s.c]
def ReadsT (w : World) (B : Nat) (A : Option Addr) (ss : List StR) : Prop := Reads w B 3 A ss.length (ss.flatMap scs) ∧ ∀ s ∈ ss, ReadsA w B s.A s.rs
theorem scs_get : ∀ (l : List StR) (k : Nat) (h : k < l.length) (j : Nat), j < 3 → (l.flatMap scs)[3 * k + j]? = (scs l[k])[j]?
 | x :: r, 0, _, j, hj => by
  rw [List.flatMap_cons, Nat.mul_zero, Nat.zero_add]
  exact List.getElem?_append_left (by show j < 3; exact hj)
 | x :: r, k + 1, h, j, hj => by
  rw [List.flatMap_cons, show 3 * (k + 1) + j = (scs x).length + (3 * k + j) by show _ = 3 + _; omega, List.getElem?_append_right (by omega), Nat.add_sub_cancel_left]
  exact scs_get r k (by simpa using h) j hj
theorem ReadsT.at_ {w : World} {B : Nat} {A : Option Addr} {ss : List StR} (h : ReadsT w B A ss) {k : Nat} (hk : k < ss.length) :
  ∃ ad, A = some ad ∧ ad.block < B ∧ (∀ j u, j < 3 → (scs ss[k])[j]? = some u → w.cell? (if j = 0 then ad.add (k * 3) else ⟨(ad.add (k * 3)).block, (ad.add (k * 3)).off + j, none⟩) = some u) ∧ ReadsA w B ss[k].A ss[k].rs := by
 obtain ⟨ad, e, hb, hc⟩ := h.1.2 (by omega)
 refine ⟨ad, e, hb, fun j u hj hu => ?_, h.2 _ (List.getElem_mem hk)⟩
 have h1 := scs_get ss k hk j hj
 rw [hu] at h1
 have h2 := hc _ _ h1
 by_cases h0 : j = 0
 ·subst h0
  rw [if_pos rfl, Nat.mul_comm]; exact h2
 ·rw [if_neg h0]
  rw [Nat.mul_comm, ← add_of_add, add_pos (by omega)] at h2
  exact h2
theorem ReadsT.cells {w : World} {B : Nat} {A : Option Addr} {ss : List StR} (h : ReadsT w B A ss) {k : Nat} (hk : k < ss.length) :
  ∃ ad, A = some ad ∧ ad.block < B ∧ (w.cell? (ad.add (k * 3)) = some (.string ss[k].v) ∧ w.cell? ⟨(ad.add (k * 3)).block, (ad.add (k * 3)).off + 1, none⟩ = some (.string ss[k].nm) ∧ w.cell? ⟨(ad.add (k * 3)).block, (ad.add (k * 3)).off + 2, none⟩ = some (.slice ss[k].A ss[k].rs.length ss[k].c)) ∧ ReadsA w B ss[k].A ss[k].rs := by
 obtain ⟨ad, e, hb, hc, ha⟩ := h.at_ hk
 exact ⟨ad, e, hb, ⟨hc 0 _ (by decide) rfl, hc 1 _ (by decide) rfl, hc 2 _ (by decide) rfl⟩, ha⟩
theorem ReadsT.more {w : World} {B B' : Nat} {A : Option Addr} {ss : List StR} (h : ReadsT w B A ss) (hB : B ≤ B') : ReadsT w B' A ss := ⟨h.1.more hB, fun s hs => (h.2 s hs).more hB⟩
theorem ReadsT.below {w w' : World} {B : Nat} {A : Option Addr} {ss : List StR} (h : ReadsT w B A ss) (hb : Below B w w') : ReadsT w' B A ss := ⟨h.1.below hb, fun s hs => (h.2 s hs).below hb⟩
theorem ReadsT.calm {w w' : World} {B : Nat} {A : Option Addr} {ss : List StR} (h : ReadsT w B A ss) (hB : B ≤ w.heap.size) (hb : Below w.heap.size w w') : ReadsT w' w'.heap.size A ss := ((h.more hB).below hb).more hb.size
theorem scs_one (ss : List StR) : ∀ u ∈ ss.flatMap scs, u.oneCell' = true := by
 intro u hu
 obtain ⟨r, _, h⟩ := List.mem_flatMap.1 hu
 unfold scs at h
 simp only [List.mem_cons, List.not_mem_nil, or_false] at h
 rcases h with rfl | rfl | rfl <;> rfl
theorem infoT : (Tryz.prog.info? 25).map (fun i => (i.zero, i.size, i.bytes)) = some (some (.agg #[.string ⟨#[]⟩, .string ⟨#[]⟩, .slice none 0 0]), 3, 56) := by kernel_rfl
def OwnT (w : World) (B : Nat) (v : Value) (ss : List StR) : Prop := w.ownsRow B 25 3 v ss.length (ss.flatMap scs)
def LentT (w : World) (B : Nat) (v : Value) (ss : List StR) : Prop := OwnT w B v ss ∧ ∀ s ∈ ss, LentA w B (.slice s.A s.rs.length s.c) s.rs
section
variable {w w' : World} {B B' : Nat} {v : Value} {ss : List StR}
theorem OwnT.form (h : OwnT w B v ss) : ∃ A c, v = .slice A ss.length c ∧ ss.length ≤ c ∧ c ≤ maxLen := by
 rcases h.2 with ⟨rfl, h0⟩ | ⟨g, cap, cur, rfl, _, _, hc, hm, _⟩
 ·exact ⟨none, 0, by rw [h0], by omega, by unfold maxLen; omega⟩
 ·exact ⟨_, cap, rfl, hc, hm⟩
theorem OwnT.alloc (h : OwnT w B v ss) (o : Obj) : OwnT (w.alloc o) B v ss := World.ownsRow.alloc h o
theorem OwnT.nil (w : World) (B : Nat) : OwnT w B (.slice none 0 0) [] := World.ownsRow_nil w B _ 3
theorem OwnT.kept (h : OwnT w B v ss) (hb : Below w.heap.size w w') : OwnT w' B v ss := by
 refine ⟨h.1, ?_⟩
 rcases h.2 with h' | ⟨g, cap, cur, hv, hg, hh, r⟩
 ·exact .inl h'
 ·exact .inr ⟨g, cap, cur, hv, hg, (hb.block g (Array.getElem?_eq_some_iff.1 hh).1).trans hh, r⟩
theorem own_ne2 {e e' : TypeId} {z z' n n' : Nat} {xs xs' : List Value} {v2 : Value} (h : w.ownsRow B e z v n xs) (h' : w.ownsRow B' e' z' v2 n' xs') (hne : e ≠ e') : ∀ g, v.ownBlock = some g → v2.ownBlock ≠ some g := by
 intro g hg hg'
 rcases h.2 with ⟨rfl, _⟩ | ⟨g1, _, _, rfl, _, hh, _⟩
 ·cases hg
 ·rcases h'.2 with ⟨rfl, _⟩ | ⟨g2, _, _, rfl, _, hh', _⟩
  ·cases hg'
  ·have e1 : g1 = g := by simpa [Value.ownBlock] using hg
   have e2 : g2 = g := by simpa [Value.ownBlock] using hg'
   subst e1 e2
   rw [hh] at hh'
   injection hh' with hh'
   injection hh' with _ ht
   exact hne ht
theorem OwnT.grown (h : OwnT w B v ss) {row : Option Nat} (hg : w.grownBy w' row) (hr : ∀ g, v.ownBlock = some g → row ≠ some g) : OwnT w' B v ss := by
 refine ⟨h.1, ?_⟩
 rcases h.2 with h1 | ⟨g, cap, cur, hv, hb, hh, h3⟩
 ·exact .inl h1
 ·refine .inr ⟨g, cap, cur, hv, hb, ?_, h3⟩
  have := hr g (by rw [hv]; simp [Value.ownBlock])
  exact (hg.block g (Array.getElem?_eq_some_iff.1 hh).1 (fun e => this (by rw [e]))).trans hh
theorem OwnT.reads {A : Option Addr} {n c : Nat} (h : OwnT w B (.slice A n c) ss) : Reads w w.heap.size 3 A ss.length (ss.flatMap scs) ∧ n = ss.length := by
 obtain ⟨A', c', e, _, _⟩ := h.form
 injection e with e1 e2 e3
 subst e2
 exact ⟨Reads.of_own h, rfl⟩
theorem LentT.kept (h : LentT w B v ss) (hb : Below w.heap.size w w') : LentT w' B v ss := ⟨h.1.kept hb, fun s hs => (h.2 s hs).kept hb⟩
theorem LentT.nil (w : World) (B : Nat) : LentT w B (.slice none 0 0) [] := ⟨OwnT.nil w B, fun s hs => by cases hs⟩
theorem LentT.alloc (h : LentT w B v ss) (o : Obj) : LentT (w.alloc o) B v ss := h.kept ((Below.refl _ w).alloc (Nat.le_refl _) o)
theorem LentT.setB {gx i : Nat} {t : TypeId} {cs : Array Value} (h : LentT w B v ss) (hb : Blk w gx t cs) (h0 : 25 ≠ t) (h1 : 41 ≠ t) (h2 : 3 ≠ t) (u : Value) : LentT (w.setCell ⟨gx, i, none⟩ u) B v ss :=
 ⟨h.1.grown (grown_set w ⟨gx, i, none⟩ u) (fun g hg e => own_blk_ne h.1 hb h0 (by rw [hg]; exact e.symm)), fun s hs => (h.2 s hs).setB hb h1 h2 u⟩
theorem LentT.reads {A : Option Addr} {n c : Nat} (h : LentT w B (.slice A n c) ss) (hf : ∀ s ∈ ss, ∀ r ∈ s.rs, ArgFine r) : ReadsT w w.heap.size A ss ∧ n = ss.length := by
 obtain ⟨h1, h2⟩ := h.1.reads
 exact ⟨⟨h1, fun s hs => (lent_readsA (h.2 s hs) (hf s hs)).1⟩, h2⟩
theorem LentA.grownT {row : Value} {A : Value} {rs : List ARow} (h : LentA w B A rs) (ht : OwnT w B' row ss) (hg : w.grownBy w' row.ownBlock) : LentA w' B A rs :=
 ⟨h.1.grown hg (fun g hg' e => own_ne2 h.1 ht (by decide) g hg' e), fun r hr => (h.2 r hr).grown hg (fun g hg' e => own_ne2 (h.2 r hr) ht (by decide) g hg' e)⟩
end
theorem reads_singleT (w : World) (s : StR) : Reads (w.alloc (.cells (scs s).toArray 25)) (w.heap.size + 1) 3 (some ⟨w.heap.size, 0, none⟩) 1 ([s].flatMap scs) := by
 refine ⟨rfl, fun _ => ⟨_, rfl, Nat.lt_succ_self _, fun j u hu => ?_⟩⟩
 have hb := Blk.new w 25 (scs s).toArray
 rw [List.flatMap_cons, List.flatMap_nil, List.append_nil] at hu
 rw [Addr.add_lit, Nat.zero_add, hb.cell j, List.getElem?_toArray]
 exact hu
theorem wpT_append {w : World} {ops : Array Oper} {rest : List Oper} {o : Oper} {a : Act} {Q : Exit → Act → World → Prop} (hgd : o.guard = none) (s x : Operand)
  (ho : o.op = .call { callee := .builtin .append, args := #[s, x], argTypes := #[51, 51] }) (B : Nat) (v : Value) (rs ms : List StR) (hown : OwnT w B v rs) (hs : a.eval s = v)
  {B' : Nat} {A : Option Addr} {k c : Nat} (hx : a.eval x = .slice A k c) (hk : k = ms.length) (hr : Reads w B' 3 A ms.length (ms.flatMap scs)) (hlen : rs.length ≤ 1000000) (hlm : ms.length ≤ 1000000) (hbase : B ≤ w.heap.size)
  (h : ∀ A' n' c' w', OwnT w' B (.slice A' n' c') (rs ++ ms) → n' = rs.length + ms.length → n' ≤ c' → w.grownBy w' v.ownBlock → (∀ w0, Below B w0 w → Below B w0 w') → wpList Tryz.prog ops Q rest (a.put o.dst (.slice A' n' c')) w') :
  wpList Tryz.prog ops Q (o :: rest) a w := by
 obtain ⟨i0, hi, hz0, hz1, hz2⟩ := info_parts infoT
 subst hk
 refine wpList_append_any _ hgd s x 51 ho B 25 i0 (.agg #[.string ⟨#[]⟩, .string ⟨#[]⟩, .slice none 0 0]) 3 56 Tryz.underlying51 hi hz0 hz1 hz2 (by kernel_rfl) (by decide) v rs.length (rs.flatMap scs) hs hown _ _ ms.length c (ms.flatMap scs) hx hr (scs_one _) (by unfold maxLen; omega) (by omega) hbase ?_
 intro v' w' h1 h2 h3
 have h4 : OwnT w' B v' (rs ++ ms) := by
  unfold OwnT
  rw [List.length_append, List.flatMap_append]
  exact h1
 obtain ⟨A', c', rfl, hc', _⟩ := h4.form
 exact h A' _ c' w' h4 (List.length_append ..) hc' h2 (fun w0 hb => hb.grown h2 hbase (fun k hk => (World.ownsRow.lt hown k hk).1))
theorem LentT.step {w w2 w3 : World} {B : Nat} {v v' : Value} {ss : List StR} {s : StR} (h : LentT w B v ss) (hb2 : Below w.heap.size w w2) (hn : LentA w2 B (.slice s.A s.rs.length s.c) s.rs)
  (ho3 : OwnT w3 B v' (ss ++ [s])) (hg : (w2.alloc (.cells (scs s).toArray 25)).grownBy w3 v.ownBlock) : LentT w3 B v' (ss ++ [s]) := by
 have hv : OwnT (w2.alloc (.cells (scs s).toArray 25)) B v ss := (h.1.kept hb2).alloc _
 have hal : Below w2.heap.size w2 (w2.alloc (.cells (scs s).toArray 25)) := (Below.refl _ w2).alloc (Nat.le_refl _) _
 refine ⟨ho3, fun x hx => ?_⟩
 rcases List.mem_append.1 hx with hx | hx
 ·exact (((h.2 x hx).kept hb2).kept hal).grownT hv hg
 ·rw [List.mem_singleton.1 hx]
  exact (hn.kept hal).grownT hv hg
end Go.Proofs.YtebpggfccljagaaGreatDoor
namespace Go.Proofs.YtebpggfccljagaaGreatDoor
open Go.RowKit Go.Shelf
open Wh
set_option linter.unusedSimpArgs false
set_option linter.unusedVariables false
attribute [local go_sem] Oper.semAt_some
def AbT {β : Type} (J : β → World → Prop) : Prop := ∀ s W W', J s W → Below W.heap.size W W' → J s W'
def ownPostT (B : Nat) (I : List StR → World → Prop) (Ix : Code → List StR → World → Prop) (xs : List StR) (W : World) : Exit → Act → World → Prop
 | .normal, _, W' => KeepsFrom B W W' ∧ I xs W'
 | .ret, _, W' => KeepsFrom B W W' ∧ Ix .ret xs W'
 | .exit id, _, W' => KeepsFrom B W W' ∧ Ix (.exit id) xs W'
 | .goto t, _, W' => KeepsFrom B W W' ∧ Ix (.goto t) xs W'
 | .panic _, _, _ => False
 | .outgrown, _, _ => False
def SeqT (F : Fence) (n : Nat) (P : Program) (gf : Nat) (lb : Array Value) (S : List StP) (B : Nat) (w : World) : Prop :=
 ∀ (l : Nat) (J : List StR → World → Prop) (Jx : List StR → World → Prop) (W : World), Below w.heap.size w W → AbT J → (∀ s W, J s W → Gl B W ∧ w.heap.size ≤ W.heap.size) →
  (∀ pre s W1, J pre W1 → S[pre.length]? = some s.p → LentA W1 w.heap.size (.slice s.A s.rs.length s.c) s.rs → YieldAt F (n - 1) P l #[.int .i64 (pre.length : Int), .agg s.cells] W1 fun e W' =>
   (e = .returned (.bool true) ∧ J (pre ++ [s]) W') ∨ (e = .returned (.bool false) ∧ Jx (pre ++ [s]) W')) →
  J [] W →
  CallsIn F n P gf (#[.func (.yield l) #[] #[]] ++ lb) W fun e W' => (∃ v, e = .returned v) ∧ ((∃ ss : List StR, ss.length = S.length ∧ J ss W') ∨ (∃ pre, Jx pre W'))
theorem own_put {w : World} {B : Nat} {e : TypeId} {z k l : Nat} {v : Value} {xs : List Value} {o o' : Obj} (h : w.ownsRow B e z v k xs) (hl : w.heap[l]? = some o) (hn : o.isCells = false) : (w.putObj l o').ownsRow B e z v k xs := by
 refine ⟨h.1, ?_⟩
 rcases h.2 with h1 | ⟨g, cap, cur, hv, hb, hh, h3⟩
 ·exact .inl h1
 ·refine .inr ⟨g, cap, cur, hv, hb, ?_, h3⟩
  refine (World.putObj_heap_other (fun e => ?_)).trans hh
  subst e
  rw [hh] at hl
  injection hl with hl
  subst hl
  cases hn
theorem LentA.put {w : World} {B l : Nat} {v : Value} {rs : List ARow} {o o' : Obj} (h : LentA w B v rs) (hl : w.heap[l]? = some o) (hn : o.isCells = false) : LentA (w.putObj l o') B v rs :=
 ⟨own_put h.1 hl hn, fun r hr => own_put (h.2 r hr) hl hn⟩
theorem LentT.put {w : World} {B l : Nat} {v : Value} {ss : List StR} {o o' : Obj} (h : LentT w B v ss) (hl : w.heap[l]? = some o) (hn : o.isCells = false) : LentT (w.putObj l o') B v ss :=
 ⟨own_put h.1 hl hn, fun s hs => (h.2 s hs).put hl hn⟩
theorem blk_put {w : World} {g l : Nat} {t : TypeId} {cs : Array Value} {o o' : Obj} (h : Blk w g t cs) (hl : w.heap[l]? = some o) (hn : o.isCells = false) : Blk (w.putObj l o') g t cs := by
 refine (World.putObj_heap_other (fun e => ?_)).trans h
 subst e
 have h' : w.heap[g]? = some (.cells cs t (0, 0)) := h
 rw [h'] at hl
 injection hl with hl
 subst hl
 cases hn
theorem below_put {w W : World} {B l : Nat} {o' : Obj} (h : Below B w W) (hB : B ≤ W.heap.size) (hl : B ≤ l) : Below B w (W.putObj l o') := h.grown (grownBy_putObj' W l o') hB (fun k e => by cases e; exact hl)
theorem put_alloc {w : World} {l : Nat} (h : l < w.heap.size) (o o' : Obj) : (w.alloc o).putObj l o' = (w.putObj l o').alloc o := by
 unfold World.putObj World.alloc
 simp only [World.mk.injEq, and_true, true_and]
 apply Array.ext_getElem?
 intro i
 simp only [Array.getElem?_setIfInBounds, Array.getElem?_push, Array.size_push, Array.size_setIfInBounds]
 by_cases h1 : l = i
 ·subst h1
  rw [if_pos rfl, if_pos (by omega), if_neg (by omega), if_pos rfl, if_pos h]
 ·rw [if_neg h1, if_neg h1]
variable {F : Fence} {n : Nat} {P : Program}
theorem wpIn_rangeFunc_T {g : Operand} {t1 t2 : Tmp} {assign body : Code} {Q : Exit → Act → World → Prop} {a : Act} {w : World}
  (hro : F.round = none) (h1 : 1 ≤ n) {gf : Nat} {lb : Array Value} (hg : a.eval g = .func (.func gf) #[] lb) (hFg : F.fn gf) (eg : ∀ args w, (callFunc gf args).run P w = .ok (.enter gf args) w)
  {S : List StP} {B : Nat} {w0 : World} (hseq : SeqT F (n - 1) P gf lb S B w0) (hb0 : Below w0.heap.size w0 w)
  (I : List StR → World → Prop) (Ix : Code → List StR → World → Prop) (hI : AbT I) (hIG : ∀ s W, I s W → Gl B W ∧ w0.heap.size ≤ W.heap.size)
  (hIp : ∀ s W l o o', I s W → w.heap.size ≤ l → W.heap[l]? = some o → o.isCells = false → I s (W.putObj l o'))
  (hIx : ∀ c s W l o o', Ix c s W → w.heap.size ≤ l → W.heap[l]? = some o → o.isCells = false → Ix c s (W.putObj l o'))
  (h0 : I [] w) (a₁ : Nat → StR → Nat → Act)
  (hassign : ∀ (l : Nat) (i : Nat) (s : StR) (W : World) (K : Act → World → Prop), K (a₁ i s W.heap.size) (W.alloc (.cells s.cells 25)) →
   assign.wpIn (F.inRound l) (n - 1 - 1) P (Exit.then K (fun _ _ _ => False)) { tmps := ((#[t1, t2] : Array Tmp).zip (#[.int .i64 (i : Int), .agg s.cells] : Array Value)).foldl (fun t (p, v) => t.setIfInBounds p v) a.tmps, defers := [] } W)
  (hbody : ∀ (l : Nat) (pre : List StR) (s : StR) (W : World), I pre W → S[pre.length]? = some s.p → LentA W w0.heap.size (.slice s.A s.rs.length s.c) s.rs →
   body.wpIn (F.inRound l) (n - 1 - 1) P (ownPostT w.heap.size I Ix (pre ++ [s]) W) (a₁ pre.length s W.heap.size) (W.alloc (.cells s.cells 25)))
  (hdone : ∀ (D : Nat) (ss : List StR) (W : World), w.heap.size ≤ D → ss.length = S.length → I ss W → W.heap[D]? = some (.deferred (some [])) → Q .normal { a with defers := { target := .collected D, args := #[] } :: a.defers } W)
  (hstop : ∀ (D : Nat) (c : Code) (pre : List StR) (W : World), w.heap.size ≤ D → Ix c pre W → W.heap[D]? = some (.deferred (some [])) → c.wpIn F n P Q { a with defers := { target := .collected D, args := #[] } :: a.defers } W) :
  (Code.rangeFunc g #[t1, t2] assign body).wpIn F n P Q a w := by
 refine wpIn_rangeFunc ?_
 intro fn hfn
 rw [hro]
 obtain ⟨rec, hrec⟩ : ∃ rec : LoopState → Option Code → Loop, rec = fun st pe => { state := st, pending := pe, fn, tmps := a.tmps, params := #[t1, t2], assign, body, defers := w.heap.size } := ⟨_, rfl⟩
 obtain ⟨W1, hW1⟩ : ∃ W1, (w.alloc (.deferred (some []))).alloc (.loop (rec .ready none)) = W1 := ⟨_, rfl⟩
 have hL1 : W1.heap[w.heap.size + 1]? = some (.loop (rec .ready none)) := by
  rw [← hW1]; have := World.alloc_heap_new (w.alloc (.deferred (some []))) (.loop (rec .ready none)); rwa [World.size_alloc] at this
 have hK1 : W1.heap[w.heap.size]? = some (.deferred (some [])) := by
  rw [← hW1]; exact (Below.heap_alloc _ _ _ (by simp)).trans (World.alloc_heap_new w _)
 have hI1 : I [] W1 := by rw [← hW1]; exact hI _ _ _ (hI _ _ _ h0 (new_below _ _)) (new_below _ _)
 have hb1 : Below w0.heap.size w0 W1 := by
  rw [← hW1]; exact hb0.trans ((((Below.refl _ w).alloc (Nat.le_refl _) _).alloc (by simp) _).mono hb0.size)
 refine ⟨w.heap.size + 1, [{ target := .collected w.heap.size, args := #[] }], W1, { target := .fn (.func gf) lb, args := #[.func (.yield (w.heap.size + 1)) #[] #[]] }, W1, gf,
  #[.func (.yield (w.heap.size + 1)) #[] #[]] ++ lb, W1, ?_, ?_, ?_, ?_, fun _ => h1, ?_⟩
 ·rw [← hW1, hrec]; exact run_enterLoop_outer _ _ _ _ _
 ·simp only [resolve, hg]
  simp [go_sem]
 ·intro f' hf'; simp [Target.leads] at hf'; subst hf'; exact hFg
 ·simp [invoke, go_sem, eg]
 ·refine (hseq (w.heap.size + 1)
   (fun pre W => I pre W ∧ W.heap[w.heap.size + 1]? = some (.loop (rec .ready none)) ∧ W.heap[w.heap.size]? = some (.deferred (some [])))
   (fun pre W => ∃ c, Ix c pre W ∧ W.heap[w.heap.size + 1]? = some (.loop (rec .done (some c))) ∧ W.heap[w.heap.size]? = some (.deferred (some [])))
   W1 hb1 ?_ (fun s W h => hIG s W h.1) ?_ ⟨hI1, hL1, hK1⟩).mono ?_
  ·rintro s W W' ⟨hi, hl, hk⟩ hgr
   have hlt1 := (Array.getElem?_eq_some_iff.1 hl).1
   have hlt2 := (Array.getElem?_eq_some_iff.1 hk).1
   exact ⟨hI _ _ _ hi hgr, (hgr.block _ hlt1).trans hl, (hgr.block _ hlt2).trans hk⟩
  ·-- one round
   rintro pre x W ⟨hi, hl, hk⟩ hS hx
   have hlt : w.heap.size + 1 < W.heap.size := (Array.getElem?_eq_some_iff.1 hl).1
   have hy := run_yield (P := P) (args := #[.int .i64 (pre.length : Int), .agg x.cells]) hl (by rw [hrec]; rfl)
   rw [hrec] at hy
   have hl2 : (W.putObj (w.heap.size + 1) (.loop { rec .ready none with state := .busy })).heap[w.heap.size + 1]? = some (.loop { rec .ready none with state := .busy }) := World.putObj_heap_same hlt
   have hk2 : (W.putObj (w.heap.size + 1) (.loop { rec .ready none with state := .busy })).heap[w.heap.size]? = some (.deferred (some [])) := (World.putObj_heap_other (by omega)).trans hk
   refine ⟨fn, _, assign, body, hy, roundIn_of_wpIn hfn ?_⟩
   refine hassign _ pre.length x W _ ⟨_, run_beginRound (by exact (Below.heap_alloc W _ _ hlt).trans hl) (by rw [hrec]), ?_⟩
   rw [put_alloc hlt]
   have hsz : W.heap.size = (W.putObj (w.heap.size + 1) (.loop { rec .ready none with state := .busy })).heap.size := by simp
   rw [hsz]
   refine wpIn_mono (hbody _ pre x (W.putObj (w.heap.size + 1) (.loop { rec .ready none with state := .busy })) (hIp _ _ _ _ _ hi (by omega) hl rfl) hS (hx.put hl rfl)) ?_
   have fin : ∀ (jump : Option Code) (W3 : World), KeepsFrom w.heap.size (W.putObj (w.heap.size + 1) (.loop { rec .ready none with state := .busy })) W3 →
     (Instr.endRound (w.heap.size + 1) jump).run P W3 = .ok (.bool jump.isNone) (W3.putObj (w.heap.size + 1) (.loop (rec (if jump.isNone then .ready else .done) jump))) ∧
     W3.heap[w.heap.size + 1]? = some (.loop { rec .ready none with state := .busy }) ∧
     (W3.putObj (w.heap.size + 1) (.loop (rec (if jump.isNone then .ready else .done) jump))).heap[w.heap.size + 1]? = some (.loop (rec (if jump.isNone then .ready else .done) jump)) ∧
     (W3.putObj (w.heap.size + 1) (.loop (rec (if jump.isNone then .ready else .done) jump))).heap[w.heap.size]? = some (.deferred (some [])) := fun jump W3 hk3 => by
    have hl3 := hk3.same _ _ (by omega) hl2 rfl
    have := run_endRound (P := P) jump hl3
    rw [hrec] at this ⊢
    exact ⟨this, by rw [hrec] at hl3; exact hl3, World.putObj_heap_same (Array.getElem?_eq_some_iff.1 hl3).1, (World.putObj_heap_other (by omega)).trans (hk3.same _ _ (Nat.le_refl _) hk2 rfl)⟩
   rintro e a3 W3 hp
   cases e with
   | normal =>
    obtain ⟨hk3, hi3⟩ := hp
    obtain ⟨hr, hl3, hl4, hk4⟩ := fin none W3 hk3
    exact ⟨_, _, hr, .inl ⟨rfl, hIp _ _ _ _ _ hi3 (by omega) hl3 rfl, hl4, hk4⟩⟩
   | ret =>
    obtain ⟨hk3, hi3⟩ := hp
    obtain ⟨hr, hl3, hl4, hk4⟩ := fin (some .ret) W3 hk3
    exact ⟨_, _, hr, .inr ⟨rfl, .ret, hIx _ _ _ _ _ _ hi3 (by omega) hl3 rfl, hl4, hk4⟩⟩
   | exit id =>
    obtain ⟨hk3, hi3⟩ := hp
    obtain ⟨hr, hl3, hl4, hk4⟩ := fin (some (.exit id)) W3 hk3
    exact ⟨_, _, hr, .inr ⟨rfl, .exit id, hIx _ _ _ _ _ _ hi3 (by omega) hl3 rfl, hl4, hk4⟩⟩
   | goto t =>
    obtain ⟨hk3, hi3⟩ := hp
    obtain ⟨hr, hl3, hl4, hk4⟩ := fin (some (.goto t)) W3 hk3
    exact ⟨_, _, hr, .inr ⟨rfl, .goto t, hIx _ _ _ _ _ _ hi3 (by omega) hl3 rfl, hl4, hk4⟩⟩
   | panic ch => exact hp.elim
   | outgrown => exact hp.elim
  ·rintro e W2 ⟨⟨v, rfl⟩, (⟨ss, hss, hi, hl, hk⟩ | ⟨pre, c, hi, hl, hk⟩)⟩
   ·exact ⟨none, _, by have := run_endLoop (P := P) hl (by rw [hrec]; simp); rw [hrec] at this; exact this, hdone _ ss _ (Nat.le_refl _) hss (hIp _ _ _ _ _ hi (by omega) hl rfl) ((World.putObj_heap_other (by omega)).trans hk)⟩
   ·exact ⟨some c, _, by have := run_endLoop (P := P) hl (by rw [hrec]; simp); rw [hrec] at this; exact this, hstop _ c pre _ (Nat.le_refl _) (hIx _ _ _ _ _ _ hi (by omega) hl rfl) ((World.putObj_heap_other (by omega)).trans hk)⟩
end Go.Proofs.YtebpggfccljagaaGreatDoor
namespace Go.Proofs.YtebpggfccljagaaGreatDoor
open Go.RowKit
open Wh
set_option linter.unusedSimpArgs false
set_option linter.unusedVariables false
def AllSays (left : List UInt8) : List StP → List UInt8 → Prop
 | [], l => left = l ∧ ((10 : UInt8) ∉ l ∨ ∃ a r, l = a ++ 10 :: r ∧ (10 : UInt8) ∉ a ∧ NoLine a)
 | p :: ps, l => ∃ a r, l = a ++ 10 :: r ∧ (10 : UInt8) ∉ a ∧ p.ok ∧ lineT p = a ∧ AllSays left ps r
theorem split_uniq : ∀ {a b r q : List UInt8}, a ++ 10 :: r = b ++ 10 :: q → (10 : UInt8) ∉ a → (10 : UInt8) ∉ b → a = b ∧ r = q
 | [], [], r, q, h, _, _ => ⟨rfl, by injection h⟩
 | [], y :: b, r, q, h, _, hb => by
  injection h with h1 _
  exact absurd (by rw [h1]; simp) hb
 | x :: a, [], r, q, h, ha, _ => by
  injection h with h1 _
  exact absurd (by rw [h1]; simp) ha
 | x :: a, y :: b, r, q, h, ha, hb => by
  injection h with h1 h2
  obtain ⟨h3, h4⟩ := split_uniq h2 (fun h => ha (by simp [h])) (fun h => hb (by simp [h]))
  exact ⟨by rw [h1, h3], h4⟩
theorem line_pos {p : StP} (h : p.ok) : 1 ≤ (lineT p).length := by
 cases he : lineT p with
 | nil =>
  have h1 := line_parts h
  rw [he] at h1
  have h2 : ([[]] : List (List UInt8)) = headT p.v p.nm ++ p.xs.map argT := h1
  unfold headT at h2
  rw [List.cons_append] at h2
  have h3 := (List.cons.inj h2).1
  have h4 := h.v
  rw [← h3] at h4
  exact absurd h4 (by decide)
 | cons b r => simp
theorem AllSays.len {u : List UInt8} : ∀ {ps : List StP} {l : List UInt8}, AllSays u ps l → 2 * ps.length + u.length ≤ l.length
 | [], l, h => by rw [h.1]; simp
 | p :: ps, l, h => by
  obtain ⟨a, r, rfl, h1, h2, h3, h4⟩ := h
  have h5 := h4.len
  have h6 := line_pos h2
  rw [h3] at h6
  rw [List.length_append, List.length_cons, List.length_cons]
  omega
theorem AllSays.ok {u : List UInt8} : ∀ {ps : List StP} {l : List UInt8}, AllSays u ps l → ∀ p ∈ ps, p.ok
 | [], l, _, p, hp => by cases hp
 | q :: ps, l, h, p, hp => by
  obtain ⟨a, r, _, _, h2, _, h4⟩ := h
  rcases List.mem_cons.1 hp with rfl | hp
  ·exact h2
  ·exact h4.ok p hp
def ends (l : List UInt8) : Nat := l.countP (· == 10)
theorem ends_no {a : List UInt8} (h : (10 : UInt8) ∉ a) : ends a = 0 := by
 unfold ends
 rw [List.countP_eq_zero]
 intro b hb e
 simp only [beq_iff_eq] at e
 exact h (e ▸ hb)
theorem AllSays.ends {u : List UInt8} : ∀ {ps : List StP} {l : List UInt8}, AllSays u ps l → Proofs.YtebpggfccljagaaGreatDoor.ends l = ps.length + Proofs.YtebpggfccljagaaGreatDoor.ends u
 | [], l, h => by rw [h.1]; simp
 | p :: ps, l, h => by
  obtain ⟨a, r, rfl, h1, h2, h3, h4⟩ := h
  have h5 := h4.ends
  have h6 := ends_no h1
  unfold Proofs.YtebpggfccljagaaGreatDoor.ends at h5 h6 ⊢
  rw [List.countP_append, List.countP_cons, h6, h5, List.length_cons]
  simp; omega
theorem AllSays.tail {u : List UInt8} : ∀ {ps : List StP} {l : List UInt8}, AllSays u ps l → ∃ a, l = a ++ u ∧ (a = [] ∨ ∃ b, a = b ++ [10])
 | [], l, h => ⟨[], by rw [h.1]; rfl, .inl rfl⟩
 | p :: ps, l, h => by
  obtain ⟨a, r, rfl, h1, h2, h3, h4⟩ := h
  obtain ⟨b, rfl, h5⟩ := h4.tail
  refine ⟨a ++ 10 :: b, by simp, .inr ?_⟩
  rcases h5 with rfl | ⟨c, rfl⟩
  ·exact ⟨a, rfl⟩
  ·exact ⟨a ++ 10 :: c, by simp⟩
theorem AllSays.left {u : List UInt8} {ps : List StP} {l : List UInt8} (h : AllSays u ps l) : u = [] ↔ (Proofs.YtebpggfccljagaaGreatDoor.ends l = ps.length ∧ (l = [] ∨ [10] <:+ l)) := by
 have h1 := h.ends
 obtain ⟨a, h2, h3⟩ := h.tail
 constructor
 ·rintro rfl
  refine ⟨h1, ?_⟩
  rw [List.append_nil] at h2
  subst h2
  rcases h3 with rfl | ⟨b, rfl⟩
  ·exact .inl rfl
  ·exact .inr ⟨b, rfl⟩
 ·rintro ⟨h4, h5⟩
  have h6 : Proofs.YtebpggfccljagaaGreatDoor.ends u = 0 := by omega
  cases hu : u with
  | nil => rfl
  | cons b r =>
   exfalso
   rcases h5 with rfl | ⟨c, h7⟩
   ·rw [hu] at h2; simp at h2
   ·rw [← h7] at h2
    have hne : u ≠ [] := by rw [hu]; simp
    have h8 := congrArg List.getLast? h2
    rw [List.getLast?_append, List.getLast?_append, List.getLast?_eq_some_getLast hne] at h8
    simp only [List.getLast?_singleton, Option.or_some, Option.some.injEq] at h8
    unfold Proofs.YtebpggfccljagaaGreatDoor.ends at h6
    rw [List.countP_eq_zero] at h6
    exact h6 _ (List.getLast_mem hne) (by simpa using h8.symm)
end Go.Proofs.YtebpggfccljagaaGreatDoor
namespace Go.Proofs.YtebpggfccljagaaGreatDoor
open Go.RowKit Go.Shelf
open Wh
set_option linter.unusedSimpArgs false
set_option linter.unusedVariables false
attribute [local go_sem] Oper.semAt_some
theorem room_any {F : Fence} (hd : F.depth = none) (k : Nat) : F.room k := fun d h => by rw [hd] at h; cases h
theorem roundIn_any {F : Fence} (hd : F.depth = none) {m m' : Nat} {P : Program} {l : Nat} {f : FuncId} {tmps : Array Value} {assign body : Code} {w : World} {R : Ending → World → Prop}
  (h : RoundIn F m P l f tmps assign body w R) : RoundIn F m' P l f tmps assign body w R := ⟨h.1, fun c cs _ => h.2 c cs (room_any hd _)⟩
theorem yieldAt_any {F : Fence} (hd : F.depth = none) {m : Nat} (m' : Nat) {P : Program} {l : Nat} {args : Array Value} {W : World} {R : Ending → World → Prop} (h : YieldAt F m P l args W R) : YieldAt F m' P l args W R := by
 obtain ⟨fn, tmps, assign, body, hy, hR⟩ := h
 exact ⟨fn, tmps, assign, body, hy, roundIn_any hd hR⟩
theorem cut_n {W : World} {B : Nat} (hg : Gl B W) (s : ByteArray) (hs : s.size ≤ 6000) {p q : List UInt8} {b : Bool} (h : Lib.cut s.data.toList [10] = (p, q, b)) :
  Calls Tryz.prog 57 #[.string s, .string ⟨#[10]⟩] W (fun e w' => e = .returned (.tuple #[.string ⟨p.toArray⟩, .string ⟨q.toArray⟩, .bool b]) ∧ Below W.heap.size W w') := by
 obtain ⟨m, hm⟩ := hg.m
 refine (Tryz.strings_Cut s ⟨#[10]⟩ m W (by omega) hm).mono ?_
 rintro e w' ⟨he, n, rfl⟩
 have e2 : Lib.cut s.data.toList (⟨#[10]⟩ : ByteArray).data.toList = (p, q, b) := h
 rw [e2] at he
 exact ⟨he, ⟨rfl, rfl, rfl, Nat.le_refl _, fun _ _ => rfl⟩⟩
theorem AllSays.cons {u a r : List UInt8} {p : StP} {ps : List StP} (h : AllSays u (p :: ps) (a ++ 10 :: r)) (ha : (10 : UInt8) ∉ a) : p.ok ∧ lineT p = a ∧ AllSays u ps r := by
 obtain ⟨b, q, h1, h2, h3, h4, h5⟩ := h
 obtain ⟨rfl, rfl⟩ := split_uniq h1 ha h2
 exact ⟨h3, h4, h5⟩
theorem AllSays.none_ {u a r : List UInt8} (h : AllSays u [] (a ++ 10 :: r)) (ha : (10 : UInt8) ∉ a) : NoLine a := by
 rcases h.2 with h1 | ⟨b, q, h1, h2, h3⟩
 ·exact absurd (by simp) h1
 ·obtain ⟨rfl, _⟩ := split_uniq h1 ha h2
  exact h3
theorem AllSays.stop {u R : List UInt8} : ∀ {ps : List StP}, AllSays u ps R → (10 : UInt8) ∉ R → ps = []
 | [], _, _ => rfl
 | p :: ps, h, hno => by
  obtain ⟨a, r, rfl, _⟩ := h
  exact absurd (by simp) hno
theorem drop_end {S : List StP} {i : Nat} (h : S.drop i = []) (hi : i ≤ S.length) : i = S.length := by
 have := congrArg List.length h
 rw [List.length_drop, List.length_nil] at this
 omega
def RoundT (S : List StP) (b0 l : Nat) (J : List StR → World → Prop) (Jx : List StR → World → Prop) : Prop :=
 ∀ (m : Nat) pre s W1, J pre W1 → S[pre.length]? = some s.p → LentA W1 b0 (.slice s.A s.rs.length s.c) s.rs → YieldAt Fence.wide m Tryz.prog l #[.int .i64 (pre.length : Int), .agg s.cells] W1 fun e W' =>
   (e = .returned (.bool true) ∧ J (pre ++ [s]) W') ∨ (e = .returned (.bool false) ∧ Jx (pre ++ [s]) W')
def AlRel (J : List StR → World → Prop) (S : List StP) (left : List UInt8) (i : Nat) (R : List UInt8) (wr : World) : Prop := ∃ pre, pre.length = i ∧ i ≤ S.length ∧ AllSays left (S.drop i) R ∧ R.length ≤ 6000 ∧ J pre wr
set_option maxRecDepth 100000 in
set_option maxHeartbeats 4000000 in
theorem all1_any (l n : Nat) {S : List StP} {left : List UInt8} {B b0 bt : Nat} {s : ByteArray} (J : List StR → World → Prop) (Jx : List StR → World → Prop) (hs : s.size ≤ 6000) (hA : AllSays left S s.data.toList) (hJ : AbT J) (hG : ∀ s W, J s W → Gl B W ∧ b0 ≤ W.heap.size)
  (hY : RoundT S b0 l J Jx) (W : World) (h0 : J [] W) (hbt : Blk W bt 9 #[.string s]) :
  CallsIn Fence.wide n Tryz.prog 56 #[.func (.yield l) #[] #[], .pointer (some ⟨bt, 0, none⟩)] W (fun e W' => (∃ v, e = .returned v) ∧ ((∃ ss : List StR, ss.length = S.length ∧ J ss W') ∨ ∃ pre, Jx pre W')) := by
 have hlen : s.data.toList.length = s.size := Array.length_toList
 have hS4 := hA.len
 have HR0 := Lib.hid (show AlRel J S left 0 s.data.toList W from ⟨[], rfl, Nat.zero_le _, hA, by omega, h0⟩)
 have HJ := Lib.hid (And.intro hJ (And.intro hG hY))
 have hSl : S.length ≤ 3000 := by omega
 have c0 := hbt.cell 0
 rw [show (#[Value.string s] : Array Value)[0]? = some (.string s) from rfl] at c0
 obtain ⟨R0, hR0⟩ : ∃ R0, R0 = s.data.toList := ⟨_, rfl⟩
 have hsR : s = ⟨R0.toArray⟩ := by rw [hR0]
 rw [← hR0] at HR0
 rw [hsR] at c0
 clear hJ hG hY hA h0 hbt hs hlen hS4 hR0 hsR
 refine callsIn_of_wp Tryz.func56 rfl trivial ?_ rfl
 simp only [Tryz.ntmps56, List.size_toArray, List.length_cons, List.length_nil, Nat.reduceAdd, Nat.reduceSub, Array.replicate_succ, Array.replicate_zero, List.push_toArray, List.append_toArray, List.nil_append, List.cons_append]
 gi_wp2_with fail
 gi_loopw [3, 4, 5, 6, 7, 8, 9] (fun rv nv lv bv ev sv zv wr => ∃ (i : Nat) (R : List UInt8), rv = .string ⟨R.toArray⟩ ∧ nv = .int .i64 (i : Int) ∧ i ≤ 3000 ∧ Hid (AlRel J S left i R wr)) (fun rv nv lv bv ev sv zv wr => 3001 - (intOf nv).toNat)
 case atStart => exact ⟨0, R0, rfl, rfl, by omega, HR0⟩
 case round =>
  obtain ⟨i, R, rfl, rfl, hi3, hO⟩ := hrel
  obtain ⟨pre, hpl, hil, hA, hR6, hj⟩ := hO.out
  have hg := (HJ.out.2.1 _ _ hj).1
  have Hp := Lib.hid (And.intro hpl (And.intro hil (And.intro hA (And.intro hR6 hj))))
  have hRs : (⟨R.toArray⟩ : ByteArray).size ≤ 6000 := by show R.toArray.size ≤ 6000; simpa using hR6
  rcases cut_at R 10 with ⟨hno, hcut⟩ | ⟨a, r, ha, hR, hcut⟩
  ·have HC := Lib.hid (cut_n hg ⟨R.toArray⟩ hRs hcut)
   have Hs := Lib.hid (And.intro hRs hno)
   clear hpl hil hA hR6 hj hg hRs hno hcut
   gi_wp2_with fail
   refine ⟨trivial, (fun h => nomatch h), (callsIn_wide.2 HC.out).mono ?_⟩
   rintro _ W1 ⟨rfl, hb1⟩
   have Hj1 := Lib.hid (HJ.out.1 _ _ _ Hp.out.2.2.2.2 hb1)
   clear hb1 HC
   gi_wp2_with fail
   refine ⟨trivial, (fun h => nomatch h), (callsIn_wide.2 (sread_any (HJ.out.2.1 _ _ Hj1.out).1 Hs.out.1)).mono ?_⟩
   intro e W2 hR2
   obtain ⟨⟨v2, m2, A2, c2, r2⟩, z2, rfl, hs2, hl2, hb2⟩ := hR2.get
   have Hj2 := Lib.hid (HJ.out.1 _ _ _ (HJ.out.1 _ _ _ Hj1.out hb2) (new_below W2 (.cells #[.string v2, .string m2, .slice A2 r2.length c2] 25)))
   unfold StR.cells
   simp only
   clear hR2 hs2 hl2 hb2
   gi_wp2_with fail
   refine ⟨fun _ _ => trivial, ?_⟩
   gi_wp2_with fail
   refine bodyPost_ret (results_none rfl _ _ _) rfl ?_
   exact ⟨⟨_, rfl⟩, .inl ⟨pre, by rw [Hp.out.1]; exact drop_end (Hp.out.2.2.1.stop Hs.out.2) Hp.out.2.1, Hj2.out⟩⟩
  ·subst hR
   have ha6 : (⟨a.toArray⟩ : ByteArray).size ≤ 6000 := by
    show a.toArray.size ≤ 6000
    rw [List.length_append] at hR6
    simp; omega
   have hr6 : r.length ≤ 6000 := by rw [List.length_append, List.length_cons] at hR6; omega
   have HC := Lib.hid (cut_n hg ⟨(a ++ 10 :: r).toArray⟩ hRs hcut)
   have Hs := Lib.hid (And.intro ha6 (And.intro ha hr6))
   clear hpl hil hA hR6 hj hg hRs hcut ha ha6 hr6
   gi_wp2_with fail
   refine ⟨trivial, (fun h => nomatch h), (callsIn_wide.2 HC.out).mono ?_⟩
   rintro _ W1 ⟨rfl, hb1⟩
   have Hj1 := Lib.hid (HJ.out.1 _ _ _ Hp.out.2.2.2.2 hb1)
   clear hb1 HC
   gi_wp2_with fail
   refine ⟨trivial, (fun h => nomatch h), (callsIn_wide.2 (sread_any (HJ.out.2.1 _ _ Hj1.out).1 Hs.out.1)).mono ?_⟩
   intro e W2 hR2
   obtain ⟨⟨v2, m2, A2, c2, r2⟩, z2, rfl, hs2, hl2, hb2⟩ := hR2.get
   have Hj2 := Lib.hid (HJ.out.1 _ _ _ (HJ.out.1 _ _ _ Hj1.out hb2) (new_below W2 (.cells #[.string v2, .string m2, .slice A2 r2.length c2] 25)))
   have Hl2 := Lib.hid ((hl2.kept (new_below W2 (.cells #[.string v2, .string m2, .slice A2 r2.length c2] 25))).lower (HJ.out.2.1 _ _ Hj1.out).2)
   unfold StR.cells
   simp only
   clear hR2 hl2 hb2
   cases hd : S.drop i with
   | nil =>
    have hA := Hp.out.2.2.1
    rw [hd] at hA
    obtain ⟨_, rfl⟩ := hs2.uniq (.inr ⟨rfl, rfl, hA.none_ Hs.out.2.1⟩)
    have Hd := Lib.hid (drop_end hd Hp.out.2.1)
    clear hs2 hA hd
    gi_wp2_with fail
    refine ⟨fun _ _ => trivial, ?_⟩
    gi_wp2_with fail
    refine bodyPost_ret (results_none rfl _ _ _) rfl ?_
    exact ⟨⟨_, rfl⟩, .inl ⟨pre, by rw [Hp.out.1]; exact Hd.out, Hj2.out⟩⟩
   | cons p ps =>
    have hA := Hp.out.2.2.1
    rw [hd] at hA
    obtain ⟨k1, k2, k3⟩ := hA.cons Hs.out.2.1
    obtain ⟨hpp, rfl⟩ := hs2.uniq (.inl ⟨k1, k2, rfl⟩)
    have hSi : S[pre.length]? = some p := by
     have h := congrArg (fun l => l[0]?) hd
     simp only [List.getElem?_drop, Nat.add_zero, List.getElem?_cons_zero] at h
     rw [Hp.out.1]; exact h
    have hil2 : i < S.length := by
     have := congrArg List.length hd
     rw [List.length_drop, List.length_cons] at this
     omega
    have hdr : S.drop (i + 1) = ps := by
     rw [← List.drop_drop, hd]; rfl
    have HN := Lib.hid (fun W' (h : J (pre ++ [⟨v2, m2, A2, c2, r2⟩]) W') => show AlRel J S left (i + 1) r W' from ⟨_, by rw [List.length_append, Hp.out.1]; rfl, hil2, by rw [hdr]; exact k3, Hs.out.2.2, h⟩)
    have hi1 : (i : Int) ≤ 3000 := by omega
    have HY := HJ.out.2.2 (n - 1) pre ⟨v2, m2, A2, c2, r2⟩ _ Hj2.out (by rw [hpp]; exact hSi) Hl2.out
    rw [Hp.out.1] at HY
    unfold StR.cells at HY
    obtain ⟨fn, tmps, assign, body, hy, hRn⟩ := HY
    have Hil := Lib.hid hil2
    clear hs2 hA hd k1 k2 k3 hpp hSi hil2 hdr
    gi_wp2_with ((try refine ⟨(fun h => nomatch h), ?_⟩); refine hRn.mono ?_; clear hRn; rintro e W3 (⟨rfl, hT⟩ | ⟨rfl, hF⟩))
    ·go_roundw
     case rel => exact ⟨i + 1, r, rfl, by congr 1, by have := Hil.out; omega, Lib.hid (HN.out _ hT)⟩
     case measure => simp [intOf]; have := Hil.out; omega
    ·refine bodyPost_ret (results_none rfl _ _ _) rfl ?_
     exact ⟨⟨_, rfl⟩, .inr ⟨_, hF⟩⟩
theorem all_seq {w : World} {B bt n : Nat} {s : ByteArray} {S : List StP} {left : List UInt8} (hs : s.size ≤ 6000) (hA : AllSays left S s.data.toList) (hbt : Blk w bt 9 #[.string s]) :
  SeqT Fence.wide n Tryz.prog 56 #[.pointer (some ⟨bt, 0, none⟩)] S B w := by
 intro l J Jx W hW hJ hG hY h0
 exact all1_any l n J Jx hs hA hJ hG (fun m pre x W1 h1 h2 h3 => yieldAt_any rfl m (hY pre x W1 h1 h2 h3)) W h0 (hbt.below hW hbt.lt)
set_option maxRecDepth 100000 in
theorem all_any {w : World} {s : ByteArray} : Calls Tryz.prog 23 #[.string s] w (fun e w' => e = .returned (.func (.func 56) #[] #[.pointer (some ⟨w.heap.size, 0, none⟩)]) ∧ w' = w.alloc (.cells #[.string s] 9)) := by
 go_enter Tryz.func23, Tryz.ntmps23
 go_wp2_with fail
 go_ret
 exact ⟨rfl, rfl⟩
end Go.Proofs.YtebpggfccljagaaGreatDoor
