import Derived.Test.YtebpggfccljagaaGreatDoorC3
import Derived.WalkMore
import Derived.Test.YtebpggfccljagaaGreatDoorProg
import Derived.Test.YtebpggfccljagaaGreatDoorC1
import Derived.WalkKit
import Derived.WalkLawsBesides
import Derived.WalkSpells
import Derived.Handy
import Derived.Deep.LoopGhost
import Derived.Test.YtebpggfccljagaaGreatDoorC2
import Derived.BigQuiet
namespace Go.Proofs.YtebpggfccljagaaGreatDoor
open Go.RowKit
open Wh
set_option linter.unusedSimpArgs false
set_option linter.unusedVariables false
def GoodAt (l : List UInt8) (F : Nat) : Prop := (∀ j b, F ≤ j → l[j]? = some b → IsDig b) ∧ F < l.length ∧ (l[F]? = some 48 → l.length ≤ 1)
def rfirst (l : List UInt8) : Nat := if signOf l then 1 else 0
def Good (l : List UInt8) : Prop := GoodAt l (rfirst l)
def rval (l : List UInt8) : Int := sgn (signOf l) (dv (l.drop (rfirst l)))
theorem good_dig {l : List UInt8} {F : Nat} (h : GoodAt l F) : AllDig (l.drop F) ∧ l.drop F ≠ [] := by
 refine ⟨fun b hb => ?_, fun h0 => ?_⟩
 ·obtain ⟨j, hj⟩ := List.mem_iff_getElem?.1 hb
  rw [List.getElem?_drop] at hj
  exact h.1 _ b (Nat.le_add_right F j) hj
 ·have h1 := List.length_drop (i := F) (l := l)
  rw [h0] at h1
  have h2 := h.2.1
  simp only [List.length_nil] at h1
  omega
theorem good_body {l : List UInt8} (h : Good l) : bodyOfText l = l.drop (rfirst l) := by
 unfold bodyOfText rfirst
 unfold Good rfirst at h
 by_cases hs : signOf l = true
 ·have h1 : l.head? = some 45 := by unfold signOf at hs; exact beq_iff_eq.1 hs
  rw [if_pos (.inl h1), if_pos hs, List.drop_one]
 ·have h1 : ¬ l.head? = some 45 := fun h0 => hs (by unfold signOf; rw [h0]; rfl)
  have h2 : ¬ l.head? = some 43 := fun h0 => by
   rw [if_neg hs] at h
   have h3 := h.1 0 43 (Nat.le_refl _) (by rw [← List.head?_eq_getElem?]; exact h0)
   unfold IsDig at h3
   exact absurd h3.1 (by decide)
  rw [if_neg (fun h0 => h0.elim h1 h2), if_neg hs, List.drop_zero]
def Readd (w : World) (l : List UInt8) (e : Ending) (w' : World) : Prop :=
 (40000 < l.length → e = .returned (.tuple #[none_, .int .i64 3])) ∧ (l.length ≤ 40000 → ¬ Good l → e = .returned (.tuple #[none_, .int .i64 120])) ∧
 (l.length ≤ 40000 → Good l → fits (rval l) → e = .returned (.tuple #[enc (rval l), .int .i64 0])) ∧ (l.length ≤ 40000 → Good l → ¬ fits (rval l) → e = .returned (.tuple #[none_, .int .i64 4])) ∧ Below w.heap.size w w'
theorem dv_len {l : List UInt8} (h : AllDig l) (hl : l.length ≤ 40000) : (wds (dv l)).length ≤ 40000 := by
 refine Nat.le_trans (len_wds (k := l.length) ?_) hl
 exact Nat.lt_of_lt_of_le (dv_lt _ l rfl h) (Nat.pow_le_pow_left (by decide) _)
theorem grown_w {w w' : World} {o o' : Obj} (hg : ((w.alloc o).alloc o').grownBy w' (some (w.heap.size + 1))) : Below (w.heap.size + 1) (w.alloc o) w' :=
 (((Below.refl (w.heap.size + 1) (w.alloc o)).alloc (by simp) o')).grown hg (by simp) (fun k hk => by injection hk with hk; omega)
set_option maxRecDepth 100000 in
theorem wread_long {w : World} {s : ByteArray} (h : 40000 < s.size) : Calls Tryz.prog 86 #[.string s] w (Readd w s.data.toList) := by
 have hl : s.data.toList.length = s.size := Array.length_toList
 have hi : (40000 : Int) < (s.size : Int) := by omega
 have Hl := Lib.hid (And.intro hl h)
 clear hl h
 go_enter Tryz.func86, Tryz.ntmps86
 go_wp2_with fail
 go_step3
 go_wp2_with fail
 rw [Exit.noGoto_ret]
 refine bodyPost_ret (v := .tuple #[.agg #[.bool false, .string ⟨#[]⟩], .int .i64 3]) (by simp [results, Tryz.results86, go_sem]) rfl ?_
 have hb := new_below w (.cells #[.bool false, .string ⟨#[]⟩] 34)
 exact ⟨fun _ => rfl, fun h => absurd h (by have := Hl.out; omega), fun h => absurd h (by have := Hl.out; omega), fun h => absurd h (by have := Hl.out; omega), hb⟩
set_option maxRecDepth 100000 in
set_option maxHeartbeats 2000000 in
theorem wread_neg {w : World} {s : ByteArray} (hs : s.size ≤ 40000) (h0 : 0 < s.size) (hc : s[0] = 45) : Calls Tryz.prog 86 #[.string s] w (Readd w s.data.toList) := by
 have hF : rfirst s.data.toList = 1 := by
  unfold rfirst signOf
  rw [head_of h0, hc]; rfl
 have hd0 : s[0].toNat = 45 := by rw [hc]; rfl
 obtain ⟨q1, q2⟩ := str_facts h0
 clear hc
 obtain ⟨l, hle⟩ : ∃ l, l = s.data.toList := ⟨_, rfl⟩
 have hl : l.length = s.size := by rw [hle]; exact Array.length_toList
 have hget : ∀ j (h : j < s.size) (h' : j < l.length), s[j] = l[j] := by subst hle; intro j h h'; rfl
 rw [← hle] at hF ⊢
 have HF := Lib.hid hF
 have hb := new_below w (.cells #[.bool false, .string ⟨#[]⟩] 34)
 have k2 := Blk.new w 34 #[.bool false, .string ⟨#[]⟩]
 have Hb := Lib.hid (And.intro hb k2)
 have hz : IntS ((w.alloc (.cells #[.bool false, .string ⟨#[]⟩] 34)).alloc (.cells #[.bool false, .slice none 0 0] 151)) (w.heap.size + 1) := by
  have := zslot (w.alloc (.cells #[.bool false, .string ⟨#[]⟩] 34))
  rw [World.size_alloc] at this
  exact this
 have Hz := Lib.hid hz
 have Hn := Lib.hid (And.intro (show l.length ≤ 40000 by omega) (And.intro hl (And.intro hget hle)))
 have hsi : (s.size : Int) ≤ 40000 := by omega
 clear hb k2 hz hl hget hle hF
 go_enter Tryz.func86, Tryz.ntmps86
 go_wp2_with fail
 go_step3
 go_wp2_with fail
 go_step3
 go_wp2_with fail
 go_loopg [4, 6] (s.size - 1) (fun k av cv wr => ∃ i : Nat, av = .int .i64 (i : Int) ∧ Hid (k = s.size - i) ∧ 1 ≤ i ∧ i ≤ s.size ∧ Hid ((∀ j b, 1 ≤ j → j < i → l[j]? = some b → IsDig b) ∧ (1 < i → l[1]? = some 48 → l.length ≤ 1)) ∧ w.alloc (.cells #[.bool false, .string ⟨#[]⟩] 34) = wr)
 case atStart => exact ⟨1, rfl, Lib.hid rfl, Nat.le_refl _, by omega, Lib.hid ⟨fun j b h1 h2 => by omega, fun h => by omega⟩, rfl⟩
 case round =>
  obtain ⟨i, rfl, Hk, hFi, hin, HI, rfl⟩ := hrel
  have hz := Hz.out
  by_cases hi : i < s.size
  ·have hil : i < l.length := by have := Hn.out.2.1; omega
   have hyi : s[i] = l[i] := Hn.out.2.2.1 i hi hil
   have hli : l[i]? = some l[i] := List.getElem?_eq_getElem hil
   obtain ⟨y, hy⟩ : ∃ y, y = l[i] := ⟨_, rfl⟩
   rw [← hy] at hyi hli
   have hyn : s[i].toNat = y.toNat := by rw [hyi]
   have Hli := Lib.hid hli
   have hy8 := UInt8.toNat_lt y
   have hii : (i : Int) < (s.size : Int) := by omega
   clear hy hyi hli hil
   by_cases hd : IsDig y
   ·have Hd := Lib.hid hd
    obtain ⟨g1, g2⟩ := hd
    have g3 : (48 : Int) ≤ (y.toNat : Int) := by omega
    have g4 : (y.toNat : Int) ≤ 57 := by omega
    by_cases hlead : y.toNat = 48 ∧ i = 1 ∧ 1 < s.size
    ·obtain ⟨e1, rfl, e3⟩ := hlead
     have e4 : (1 : Int) < (s.size : Int) := by omega
     have Hno := Lib.hid (show ¬ Good l by
      unfold Good
      rw [HF.out]
      intro h
      have h1 := h.2.2 (by rw [Hli.out]; congr 1; exact UInt8.toNat_inj.1 e1)
      have := Hn.out.2.1
      omega)
     rw [e1] at hyn
     have HS := Lib.hid (setstr_any (w := (w.alloc (.cells #[.bool false, .string ⟨#[]⟩] 34)).alloc (.cells #[.bool false, .slice none 0 0] 151)) (g := w.heap.size + 1) (s := s) (v := .int .i64 10) hz (by omega))
     go_wp2_with fail
     refine HS.out.mono ?_
     rintro e w6 ⟨p, b, rfl, hg, hok⟩
     have hb6 := grown_w hg
     have m2 := Hb.out.2.below hb6 (Nat.lt_succ_self _)
     have d0 : w6.cell? ⟨w.heap.size, 0, none⟩ = some (.bool false) := m2.cell 0
     have d1 : w6.cell? ⟨w.heap.size, 1, none⟩ = some (.string ⟨#[]⟩) := m2.cell 1
     have d2 := m2.frozen 0
     have d3 := m2.frozen 1
     have hb06 := Lib.hid (Hb.out.1.trans (hb6.mono (by omega)))
     clear hb6 m2 HS
     go_wp2_with fail
     rw [Exit.noGoto_ret]
     refine bodyPost_ret (v := .tuple #[.agg #[.bool false, .string ⟨#[]⟩], .int .i64 120]) (by simp [results, Tryz.results86, go_sem, d0, d1]) rfl ?_
     exact ⟨fun h => absurd Hn.out.1 (by omega), fun _ _ => rfl, fun _ h => absurd h Hno.out, fun _ h => absurd h Hno.out, (hb06.out.setCell (Nat.le_refl w.heap.size) _).setCell (Nat.le_refl w.heap.size) _⟩
    ·have hl0 : ((y.toNat : Int) == 48 && ((i : Int) == 1) && decide ((1 : Int) < (s.size : Int))) = false := by
      rw [Bool.and_eq_false_iff, Bool.and_eq_false_iff]
      by_cases e1 : y.toNat = 48
      ·by_cases e2 : i = 1
       ·exact .inr (decide_eq_false (by omega))
       ·exact .inl (.inr (beq_eq_false_iff_ne.2 (by omega)))
      ·exact .inl (.inl (beq_eq_false_iff_ne.2 (by omega)))
     have Hlead := Lib.hid hlead
     clear hlead
     have hcase : (y.toNat : Int) ≠ 48 ∨ (i : Int) ≠ 1 ∨ (s.size : Int) ≤ 1 := by
      have := Hlead.out
      omega
     have HX : Hid ((∀ j b, 1 ≤ j → j < i + 1 → l[j]? = some b → IsDig b) ∧ (1 < i + 1 → l[1]? = some 48 → l.length ≤ 1)) := by
      refine Lib.hid ⟨fun j b h1 h2 h3 => ?_, fun h1 h2 => ?_⟩
      ·rcases Nat.lt_or_ge j i with h4 | h4
       ·exact HI.out.1 j b h1 h4 h3
       ·obtain rfl : j = i := by omega
        rw [Hli.out] at h3
        injection h3 with h3
        subst h3
        exact Hd.out
      ·rcases Nat.lt_or_ge 1 i with h4 | h4
       ·exact HI.out.2 h4 h2
       ·obtain rfl : i = 1 := by omega
        rw [Hli.out] at h2
        injection h2 with h2
        have h5 : ¬ 1 < s.size := fun h => Hlead.out ⟨by rw [h2]; rfl, rfl, h⟩
        have := Hn.out.2.1
        omega
     rcases hcase with hc | hc | hc
     ·have hc2 : ((y.toNat : Int) == 48) = false := beq_eq_false_iff_ne.2 hc
      clear hl0 hc
      go_wp2_with fail
      go_roundg (s.size - (i + 1))
      case measure => have := Hk.out; omega
      case rel => exact ⟨i + 1, rfl, Lib.hid rfl, by omega, by omega, HX, rfl⟩
     ·have hc2 : ((i : Int) == 1) = false := beq_eq_false_iff_ne.2 hc
      have hc21 : (i == 1) = false := beq_eq_false_iff_ne.2 (by omega)
      have hc22 : ¬ i = 1 := by omega
      clear hl0
      by_cases hc3 : y.toNat = 48
      ·rw [hc3] at hyn
       go_wp2_with fail
       go_roundg (s.size - (i + 1))
       case measure => have := Hk.out; omega
       case rel => exact ⟨i + 1, rfl, Lib.hid rfl, by omega, by omega, HX, rfl⟩
      ·have hc4 : ((y.toNat : Int) == 48) = false := beq_eq_false_iff_ne.2 (by omega)
       go_wp2_with fail
       go_roundg (s.size - (i + 1))
       case measure => have := Hk.out; omega
       case rel => exact ⟨i + 1, rfl, Lib.hid rfl, by omega, by omega, HX, rfl⟩
     ·exfalso
      omega
   ·have Hno := Lib.hid (show ¬ Good l by
     unfold Good
     rw [HF.out]
     intro h
     exact hd (h.1 i y hFi Hli.out))
    have Hd := Lib.hid hd
    rcases Nat.lt_or_ge y.toNat 48 with g1 | g1
    ·have g3 : (y.toNat : Int) < 48 := by omega
     clear hd
     have HS := Lib.hid (setstr_any (w := (w.alloc (.cells #[.bool false, .string ⟨#[]⟩] 34)).alloc (.cells #[.bool false, .slice none 0 0] 151)) (g := w.heap.size + 1) (s := s) (v := .int .i64 10) hz (by omega))
     go_wp2_with fail
     refine HS.out.mono ?_
     rintro e w6 ⟨p, b, rfl, hg, hok⟩
     have hb6 := grown_w hg
     have m2 := Hb.out.2.below hb6 (Nat.lt_succ_self _)
     have d0 : w6.cell? ⟨w.heap.size, 0, none⟩ = some (.bool false) := m2.cell 0
     have d1 : w6.cell? ⟨w.heap.size, 1, none⟩ = some (.string ⟨#[]⟩) := m2.cell 1
     have d2 := m2.frozen 0
     have d3 := m2.frozen 1
     have hb06 := Lib.hid (Hb.out.1.trans (hb6.mono (by omega)))
     clear hb6 m2 HS
     go_wp2_with fail
     rw [Exit.noGoto_ret]
     refine bodyPost_ret (v := .tuple #[.agg #[.bool false, .string ⟨#[]⟩], .int .i64 120]) (by simp [results, Tryz.results86, go_sem, d0, d1]) rfl ?_
     exact ⟨fun h => absurd Hn.out.1 (by omega), fun _ _ => rfl, fun _ h => absurd h Hno.out, fun _ h => absurd h Hno.out, (hb06.out.setCell (Nat.le_refl w.heap.size) _).setCell (Nat.le_refl w.heap.size) _⟩
    ·have g3 : (48 : Int) ≤ (y.toNat : Int) := by omega
     have g4 : (57 : Int) < (y.toNat : Int) := by
      have := Hd.out
      unfold IsDig at this
      omega
     clear hd
     have HS := Lib.hid (setstr_any (w := (w.alloc (.cells #[.bool false, .string ⟨#[]⟩] 34)).alloc (.cells #[.bool false, .slice none 0 0] 151)) (g := w.heap.size + 1) (s := s) (v := .int .i64 10) hz (by omega))
     go_wp2_with fail
     refine HS.out.mono ?_
     rintro e w6 ⟨p, b, rfl, hg, hok⟩
     have hb6 := grown_w hg
     have m2 := Hb.out.2.below hb6 (Nat.lt_succ_self _)
     have d0 : w6.cell? ⟨w.heap.size, 0, none⟩ = some (.bool false) := m2.cell 0
     have d1 : w6.cell? ⟨w.heap.size, 1, none⟩ = some (.string ⟨#[]⟩) := m2.cell 1
     have d2 := m2.frozen 0
     have d3 := m2.frozen 1
     have hb06 := Lib.hid (Hb.out.1.trans (hb6.mono (by omega)))
     clear hb6 m2 HS
     go_wp2_with fail
     rw [Exit.noGoto_ret]
     refine bodyPost_ret (v := .tuple #[.agg #[.bool false, .string ⟨#[]⟩], .int .i64 120]) (by simp [results, Tryz.results86, go_sem, d0, d1]) rfl ?_
     exact ⟨fun h => absurd Hn.out.1 (by omega), fun _ _ => rfl, fun _ h => absurd h Hno.out, fun _ h => absurd h Hno.out, (hb06.out.setCell (Nat.le_refl w.heap.size) _).setCell (Nat.le_refl w.heap.size) _⟩
  ·have hin2 : i = s.size := by omega
   subst hin2
   have hlt : ∀ j b, l[j]? = some b → j < s.size := fun j b h => by
    rcases Nat.lt_or_ge j l.length with h1 | h1
    ·have := Hn.out.2.1; omega
    ·rw [List.getElem?_eq_none h1] at h; cases h
   have Hlt := Lib.hid hlt
   clear hlt hi
   by_cases hnF : s.size = 1
   ·have hnb : ((s.size : Int) == 1) = true := beq_iff_eq.2 (by omega)
    have hn0 : (s.size : Int) = 1 := by omega
    have Hno := Lib.hid (show ¬ Good l by
     unfold Good
     rw [HF.out]
     intro h
     have h1 := h.2.1
     have := Hn.out.2.1
     omega)
    clear hnF
    have HS := Lib.hid (setstr_any (w := (w.alloc (.cells #[.bool false, .string ⟨#[]⟩] 34)).alloc (.cells #[.bool false, .slice none 0 0] 151)) (g := w.heap.size + 1) (s := s) (v := .int .i64 10) hz (by omega))
    go_wp2_with fail
    refine HS.out.mono ?_
    rintro e w6 ⟨p, b, rfl, hg, hok⟩
    have hb6 := grown_w hg
    have m2 := Hb.out.2.below hb6 (Nat.lt_succ_self _)
    have d0 : w6.cell? ⟨w.heap.size, 0, none⟩ = some (.bool false) := m2.cell 0
    have d1 : w6.cell? ⟨w.heap.size, 1, none⟩ = some (.string ⟨#[]⟩) := m2.cell 1
    have d2 := m2.frozen 0
    have d3 := m2.frozen 1
    have hb06 := Lib.hid (Hb.out.1.trans (hb6.mono (by omega)))
    clear hb6 m2 HS
    go_wp2_with fail
    rw [Exit.noGoto_ret]
    refine bodyPost_ret (v := .tuple #[.agg #[.bool false, .string ⟨#[]⟩], .int .i64 120]) (by simp [results, Tryz.results86, go_sem, d0, d1]) rfl ?_
    exact ⟨fun h => absurd Hn.out.1 (by omega), fun _ _ => rfl, fun _ h => absurd h Hno.out, fun _ h => absurd h Hno.out, (hb06.out.setCell (Nat.le_refl w.heap.size) _).setCell (Nat.le_refl w.heap.size) _⟩
   ·have hnb : ((s.size : Int) == 1) = false := beq_eq_false_iff_ne.2 (by omega)
    have hnb1 : (s.size == 1) = false := beq_eq_false_iff_ne.2 hnF
    have hnb2 : ¬ s.size = 1 := hnF
    have hnb3 : ¬ s = ByteArray.empty := fun h => by rw [h] at h0; exact absurd h0 (by decide)
    have HG := Lib.hid (show Good l by
     unfold Good
     rw [HF.out]
     exact ⟨fun j b h1 h2 => HI.out.1 j b h1 (Hlt.out j b h2) h2, by have := Hn.out.2.1; omega, fun h => HI.out.2 (by omega) h⟩)
    clear hnF
    have HS := Lib.hid (setstr_any (w := (w.alloc (.cells #[.bool false, .string ⟨#[]⟩] 34)).alloc (.cells #[.bool false, .slice none 0 0] 151)) (g := w.heap.size + 1) (s := s) (v := .int .i64 10) hz (by omega))
    go_wp2_with fail
    refine HS.out.mono ?_
    rintro e w6 ⟨p, b, rfl, hg, hok⟩
    have hb6 := grown_w hg
    have m2 := Hb.out.2.below hb6 (Nat.lt_succ_self _)
    have d0 : w6.cell? ⟨w.heap.size, 0, none⟩ = some (.bool false) := m2.cell 0
    have d1 : w6.cell? ⟨w.heap.size, 1, none⟩ = some (.string ⟨#[]⟩) := m2.cell 1
    have d2 := m2.frozen 0
    have d3 := m2.frozen 1
    have hb06 := Lib.hid (Hb.out.1.trans (hb6.mono (by omega)))
    clear hb6 m2 HS
    rw [← Hn.out.2.2.2, good_body HG.out] at hok
    obtain ⟨rfl, rfl, hi6⟩ := hok (good_dig HG.out).2 (good_dig HG.out).1
    have hlen : (wds (rval l).natAbs).length ≤ 40000 := by
     unfold rval
     rw [sgn_abs]
     exact dv_len (good_dig HG.out).1 (Nat.le_trans (by rw [List.length_drop]; omega) Hn.out.1)
    have HT := Lib.hid (told_any (z := rval l) hi6 (Nat.le_trans hlen (by decide)))
    have Hm6 := Lib.hid (show Blk w6 w.heap.size 34 #[.bool false, .string ⟨#[]⟩] from Hb.out.2.below (grown_w hg) (Nat.lt_succ_self _))
    clear hi6 hg hlen
    go_wp2_with fail
    refine HT.out.mono ?_
    intro e w7 hT
    obtain ⟨sn, bn, cd, rfl, hb7, hfin⟩ := tells_form hT
    have m3 := Hm6.out.below hb7 Hm6.out.lt
    have y0 : w7.cell? ⟨w.heap.size, 0, none⟩ = some (.bool false) := m3.cell 0
    have y1 : w7.cell? ⟨w.heap.size, 1, none⟩ = some (.string ⟨#[]⟩) := m3.cell 1
    have y2 := m3.frozen 0
    have y3 := m3.frozen 1
    have hb07 := Lib.hid (hb06.out.trans (hb7.mono hb06.out.size))
    clear hT m3 hb7 d0 d1 d2 d3
    go_wp2_with fail
    rw [Exit.noGoto_ret]
    refine bodyPost_ret (v := .tuple #[.agg #[.bool sn, .string bn], .int .i64 cd]) (by simp [results, Tryz.results86, go_sem, y0, y1]) rfl ?_
    have hA := hfin w _ True trivial ((hb07.out.setCell (p := ⟨w.heap.size, 0, none⟩) (Nat.le_refl w.heap.size) (.bool sn)).setCell (p := ⟨w.heap.size, 1, none⟩) (Nat.le_refl w.heap.size) (.string bn))
    exact ⟨fun h => absurd Hn.out.1 (by omega), fun _ h => absurd HG.out h, fun _ _ hf => hA.1 trivial hf, fun _ _ hf => hA.2.1 trivial hf, hA.2.2.2⟩
set_option maxRecDepth 100000 in
set_option maxHeartbeats 2000000 in
theorem wread_bare {w : World} {s : ByteArray} (hs : s.size ≤ 40000) (h0 : 0 < s.size) (hc : s[0] ≠ 45) : Calls Tryz.prog 86 #[.string s] w (Readd w s.data.toList) := by
 have hF : rfirst s.data.toList = 0 := by
  unfold rfirst signOf
  rw [head_of h0, if_neg]
  intro h
  have h1 := beq_iff_eq.1 h
  injection h1 with h1
  exact hc h1
 have hd0 : s[0].toNat ≠ 45 := fun h => hc (UInt8.toNat_inj.1 h)
 have hd1 : ((s[0].toNat : Int) == 45) = false := beq_eq_false_iff_ne.2 (by omega)
 obtain ⟨q1, q2⟩ := str_facts h0
 clear hc
 obtain ⟨l, hle⟩ : ∃ l, l = s.data.toList := ⟨_, rfl⟩
 have hl : l.length = s.size := by rw [hle]; exact Array.length_toList
 have hget : ∀ j (h : j < s.size) (h' : j < l.length), s[j] = l[j] := by subst hle; intro j h h'; rfl
 rw [← hle] at hF ⊢
 have HF := Lib.hid hF
 have hb := new_below w (.cells #[.bool false, .string ⟨#[]⟩] 34)
 have k2 := Blk.new w 34 #[.bool false, .string ⟨#[]⟩]
 have Hb := Lib.hid (And.intro hb k2)
 have hz : IntS ((w.alloc (.cells #[.bool false, .string ⟨#[]⟩] 34)).alloc (.cells #[.bool false, .slice none 0 0] 151)) (w.heap.size + 1) := by
  have := zslot (w.alloc (.cells #[.bool false, .string ⟨#[]⟩] 34))
  rw [World.size_alloc] at this
  exact this
 have Hz := Lib.hid hz
 have Hn := Lib.hid (And.intro (show l.length ≤ 40000 by omega) (And.intro hl (And.intro hget hle)))
 have hsi : (s.size : Int) ≤ 40000 := by omega
 clear hb k2 hz hl hget hle hF
 go_enter Tryz.func86, Tryz.ntmps86
 go_wp2_with fail
 go_step3
 go_wp2_with fail
 go_step3
 go_wp2_with fail
 go_loopg [4, 6] (s.size - 0) (fun k av cv wr => ∃ i : Nat, av = .int .i64 (i : Int) ∧ Hid (k = s.size - i) ∧ 0 ≤ i ∧ i ≤ s.size ∧ Hid ((∀ j b, 0 ≤ j → j < i → l[j]? = some b → IsDig b) ∧ (0 < i → l[0]? = some 48 → l.length ≤ 1)) ∧ w.alloc (.cells #[.bool false, .string ⟨#[]⟩] 34) = wr)
 case atStart => exact ⟨0, rfl, Lib.hid rfl, Nat.le_refl _, by omega, Lib.hid ⟨fun j b h1 h2 => by omega, fun h => by omega⟩, rfl⟩
 case round =>
  obtain ⟨i, rfl, Hk, hFi, hin, HI, rfl⟩ := hrel
  have hz := Hz.out
  by_cases hi : i < s.size
  ·have hil : i < l.length := by have := Hn.out.2.1; omega
   have hyi : s[i] = l[i] := Hn.out.2.2.1 i hi hil
   have hli : l[i]? = some l[i] := List.getElem?_eq_getElem hil
   obtain ⟨y, hy⟩ : ∃ y, y = l[i] := ⟨_, rfl⟩
   rw [← hy] at hyi hli
   have hyn : s[i].toNat = y.toNat := by rw [hyi]
   have Hli := Lib.hid hli
   have hy8 := UInt8.toNat_lt y
   have hii : (i : Int) < (s.size : Int) := by omega
   clear hy hyi hli hil
   by_cases hd : IsDig y
   ·have Hd := Lib.hid hd
    obtain ⟨g1, g2⟩ := hd
    have g3 : (48 : Int) ≤ (y.toNat : Int) := by omega
    have g4 : (y.toNat : Int) ≤ 57 := by omega
    by_cases hlead : y.toNat = 48 ∧ i = 0 ∧ 1 < s.size
    ·obtain ⟨e1, rfl, e3⟩ := hlead
     have e4 : (1 : Int) < (s.size : Int) := by omega
     have Hno := Lib.hid (show ¬ Good l by
      unfold Good
      rw [HF.out]
      intro h
      have h1 := h.2.2 (by rw [Hli.out]; congr 1; exact UInt8.toNat_inj.1 e1)
      have := Hn.out.2.1
      omega)
     rw [e1] at hyn
     have HS := Lib.hid (setstr_any (w := (w.alloc (.cells #[.bool false, .string ⟨#[]⟩] 34)).alloc (.cells #[.bool false, .slice none 0 0] 151)) (g := w.heap.size + 1) (s := s) (v := .int .i64 10) hz (by omega))
     go_wp2_with fail
     refine HS.out.mono ?_
     rintro e w6 ⟨p, b, rfl, hg, hok⟩
     have hb6 := grown_w hg
     have m2 := Hb.out.2.below hb6 (Nat.lt_succ_self _)
     have d0 : w6.cell? ⟨w.heap.size, 0, none⟩ = some (.bool false) := m2.cell 0
     have d1 : w6.cell? ⟨w.heap.size, 1, none⟩ = some (.string ⟨#[]⟩) := m2.cell 1
     have d2 := m2.frozen 0
     have d3 := m2.frozen 1
     have hb06 := Lib.hid (Hb.out.1.trans (hb6.mono (by omega)))
     clear hb6 m2 HS
     go_wp2_with fail
     rw [Exit.noGoto_ret]
     refine bodyPost_ret (v := .tuple #[.agg #[.bool false, .string ⟨#[]⟩], .int .i64 120]) (by simp [results, Tryz.results86, go_sem, d0, d1]) rfl ?_
     exact ⟨fun h => absurd Hn.out.1 (by omega), fun _ _ => rfl, fun _ h => absurd h Hno.out, fun _ h => absurd h Hno.out, (hb06.out.setCell (Nat.le_refl w.heap.size) _).setCell (Nat.le_refl w.heap.size) _⟩
    ·have hl0 : ((y.toNat : Int) == 48 && ((i : Int) == 0) && decide ((1 : Int) < (s.size : Int))) = false := by
      rw [Bool.and_eq_false_iff, Bool.and_eq_false_iff]
      by_cases e1 : y.toNat = 48
      ·by_cases e2 : i = 0
       ·exact .inr (decide_eq_false (by omega))
       ·exact .inl (.inr (beq_eq_false_iff_ne.2 (by omega)))
      ·exact .inl (.inl (beq_eq_false_iff_ne.2 (by omega)))
     have Hlead := Lib.hid hlead
     clear hlead
     have hcase : (y.toNat : Int) ≠ 48 ∨ (i : Int) ≠ 0 ∨ (s.size : Int) ≤ 1 := by
      have := Hlead.out
      omega
     have HX : Hid ((∀ j b, 0 ≤ j → j < i + 1 → l[j]? = some b → IsDig b) ∧ (0 < i + 1 → l[0]? = some 48 → l.length ≤ 1)) := by
      refine Lib.hid ⟨fun j b h1 h2 h3 => ?_, fun h1 h2 => ?_⟩
      ·rcases Nat.lt_or_ge j i with h4 | h4
       ·exact HI.out.1 j b h1 h4 h3
       ·obtain rfl : j = i := by omega
        rw [Hli.out] at h3
        injection h3 with h3
        subst h3
        exact Hd.out
      ·rcases Nat.lt_or_ge 0 i with h4 | h4
       ·exact HI.out.2 h4 h2
       ·obtain rfl : i = 0 := by omega
        rw [Hli.out] at h2
        injection h2 with h2
        have h5 : ¬ 1 < s.size := fun h => Hlead.out ⟨by rw [h2]; rfl, rfl, h⟩
        have := Hn.out.2.1
        omega
     rcases hcase with hc | hc | hc
     ·have hc2 : ((y.toNat : Int) == 48) = false := beq_eq_false_iff_ne.2 hc
      clear hl0 hc
      go_wp2_with fail
      go_roundg (s.size - (i + 1))
      case measure => have := Hk.out; omega
      case rel => exact ⟨i + 1, rfl, Lib.hid rfl, by omega, by omega, HX, rfl⟩
     ·have hc2 : ((i : Int) == 0) = false := beq_eq_false_iff_ne.2 hc
      have hc21 : (i == 0) = false := beq_eq_false_iff_ne.2 (by omega)
      have hc22 : ¬ i = 0 := by omega
      clear hl0
      by_cases hc3 : y.toNat = 48
      ·rw [hc3] at hyn
       go_wp2_with fail
       go_roundg (s.size - (i + 1))
       case measure => have := Hk.out; omega
       case rel => exact ⟨i + 1, rfl, Lib.hid rfl, by omega, by omega, HX, rfl⟩
      ·have hc4 : ((y.toNat : Int) == 48) = false := beq_eq_false_iff_ne.2 (by omega)
       go_wp2_with fail
       go_roundg (s.size - (i + 1))
       case measure => have := Hk.out; omega
       case rel => exact ⟨i + 1, rfl, Lib.hid rfl, by omega, by omega, HX, rfl⟩
     ·clear hl0
      have hc7 : decide ((1 : Int) < (s.size : Int)) = false := decide_eq_false (by omega)
      have hc8 : ¬ 1 < s.size := by omega
      have hc9 : decide (1 < s.size) = false := decide_eq_false hc8
      by_cases hc3 : y.toNat = 48
      ·rw [hc3] at hyn
       by_cases hc5 : i = 0
       ·have hc6 : ((i : Int) == 0) = true := beq_iff_eq.2 (by omega)
        have hc61 : (i == 0) = true := beq_iff_eq.2 (by omega)
        have hyn0 : s[0].toNat = 48 := by subst hc5; exact hyn
        go_wp2_with fail
        go_roundg (s.size - (i + 1))
        case measure => have := Hk.out; omega
        case rel => exact ⟨i + 1, by subst hc5; rfl, Lib.hid rfl, by omega, by omega, HX, rfl⟩
       ·have hc6 : ((i : Int) == 0) = false := beq_eq_false_iff_ne.2 (by omega)
        have hc61 : (i == 0) = false := beq_eq_false_iff_ne.2 (by omega)
        go_wp2_with fail
        go_roundg (s.size - (i + 1))
        case measure => have := Hk.out; omega
        case rel => exact ⟨i + 1, rfl, Lib.hid rfl, by omega, by omega, HX, rfl⟩
      ·have hc4 : ((y.toNat : Int) == 48) = false := beq_eq_false_iff_ne.2 (by omega)
       go_wp2_with fail
       go_roundg (s.size - (i + 1))
       case measure => have := Hk.out; omega
       case rel => exact ⟨i + 1, rfl, Lib.hid rfl, by omega, by omega, HX, rfl⟩
   ·have Hno := Lib.hid (show ¬ Good l by
     unfold Good
     rw [HF.out]
     intro h
     exact hd (h.1 i y hFi Hli.out))
    have Hd := Lib.hid hd
    rcases Nat.lt_or_ge y.toNat 48 with g1 | g1
    ·have g3 : (y.toNat : Int) < 48 := by omega
     clear hd
     have HS := Lib.hid (setstr_any (w := (w.alloc (.cells #[.bool false, .string ⟨#[]⟩] 34)).alloc (.cells #[.bool false, .slice none 0 0] 151)) (g := w.heap.size + 1) (s := s) (v := .int .i64 10) hz (by omega))
     go_wp2_with fail
     refine HS.out.mono ?_
     rintro e w6 ⟨p, b, rfl, hg, hok⟩
     have hb6 := grown_w hg
     have m2 := Hb.out.2.below hb6 (Nat.lt_succ_self _)
     have d0 : w6.cell? ⟨w.heap.size, 0, none⟩ = some (.bool false) := m2.cell 0
     have d1 : w6.cell? ⟨w.heap.size, 1, none⟩ = some (.string ⟨#[]⟩) := m2.cell 1
     have d2 := m2.frozen 0
     have d3 := m2.frozen 1
     have hb06 := Lib.hid (Hb.out.1.trans (hb6.mono (by omega)))
     clear hb6 m2 HS
     go_wp2_with fail
     rw [Exit.noGoto_ret]
     refine bodyPost_ret (v := .tuple #[.agg #[.bool false, .string ⟨#[]⟩], .int .i64 120]) (by simp [results, Tryz.results86, go_sem, d0, d1]) rfl ?_
     exact ⟨fun h => absurd Hn.out.1 (by omega), fun _ _ => rfl, fun _ h => absurd h Hno.out, fun _ h => absurd h Hno.out, (hb06.out.setCell (Nat.le_refl w.heap.size) _).setCell (Nat.le_refl w.heap.size) _⟩
    ·have g3 : (48 : Int) ≤ (y.toNat : Int) := by omega
     have g4 : (57 : Int) < (y.toNat : Int) := by
      have := Hd.out
      unfold IsDig at this
      omega
     clear hd
     have HS := Lib.hid (setstr_any (w := (w.alloc (.cells #[.bool false, .string ⟨#[]⟩] 34)).alloc (.cells #[.bool false, .slice none 0 0] 151)) (g := w.heap.size + 1) (s := s) (v := .int .i64 10) hz (by omega))
     go_wp2_with fail
     refine HS.out.mono ?_
     rintro e w6 ⟨p, b, rfl, hg, hok⟩
     have hb6 := grown_w hg
     have m2 := Hb.out.2.below hb6 (Nat.lt_succ_self _)
     have d0 : w6.cell? ⟨w.heap.size, 0, none⟩ = some (.bool false) := m2.cell 0
     have d1 : w6.cell? ⟨w.heap.size, 1, none⟩ = some (.string ⟨#[]⟩) := m2.cell 1
     have d2 := m2.frozen 0
     have d3 := m2.frozen 1
     have hb06 := Lib.hid (Hb.out.1.trans (hb6.mono (by omega)))
     clear hb6 m2 HS
     go_wp2_with fail
     rw [Exit.noGoto_ret]
     refine bodyPost_ret (v := .tuple #[.agg #[.bool false, .string ⟨#[]⟩], .int .i64 120]) (by simp [results, Tryz.results86, go_sem, d0, d1]) rfl ?_
     exact ⟨fun h => absurd Hn.out.1 (by omega), fun _ _ => rfl, fun _ h => absurd h Hno.out, fun _ h => absurd h Hno.out, (hb06.out.setCell (Nat.le_refl w.heap.size) _).setCell (Nat.le_refl w.heap.size) _⟩
  ·have hin2 : i = s.size := by omega
   subst hin2
   have hlt : ∀ j b, l[j]? = some b → j < s.size := fun j b h => by
    rcases Nat.lt_or_ge j l.length with h1 | h1
    ·have := Hn.out.2.1; omega
    ·rw [List.getElem?_eq_none h1] at h; cases h
   have Hlt := Lib.hid hlt
   clear hlt hi
   by_cases hnF : s.size = 0
   ·exact absurd hnF (by omega)
   ·have hnb : ((s.size : Int) == 0) = false := beq_eq_false_iff_ne.2 (by omega)
    have hnb1 : (s.size == 0) = false := beq_eq_false_iff_ne.2 hnF
    have hnb2 : ¬ s.size = 0 := hnF
    have hnb3 : ¬ s = ByteArray.empty := fun h => by rw [h] at h0; exact absurd h0 (by decide)
    have HG := Lib.hid (show Good l by
     unfold Good
     rw [HF.out]
     exact ⟨fun j b h1 h2 => HI.out.1 j b h1 (Hlt.out j b h2) h2, by have := Hn.out.2.1; omega, fun h => HI.out.2 (by omega) h⟩)
    clear hnF
    have HS := Lib.hid (setstr_any (w := (w.alloc (.cells #[.bool false, .string ⟨#[]⟩] 34)).alloc (.cells #[.bool false, .slice none 0 0] 151)) (g := w.heap.size + 1) (s := s) (v := .int .i64 10) hz (by omega))
    go_wp2_with fail
    refine HS.out.mono ?_
    rintro e w6 ⟨p, b, rfl, hg, hok⟩
    have hb6 := grown_w hg
    have m2 := Hb.out.2.below hb6 (Nat.lt_succ_self _)
    have d0 : w6.cell? ⟨w.heap.size, 0, none⟩ = some (.bool false) := m2.cell 0
    have d1 : w6.cell? ⟨w.heap.size, 1, none⟩ = some (.string ⟨#[]⟩) := m2.cell 1
    have d2 := m2.frozen 0
    have d3 := m2.frozen 1
    have hb06 := Lib.hid (Hb.out.1.trans (hb6.mono (by omega)))
    clear hb6 m2 HS
    rw [← Hn.out.2.2.2, good_body HG.out] at hok
    obtain ⟨rfl, rfl, hi6⟩ := hok (good_dig HG.out).2 (good_dig HG.out).1
    have hlen : (wds (rval l).natAbs).length ≤ 40000 := by
     unfold rval
     rw [sgn_abs]
     exact dv_len (good_dig HG.out).1 (Nat.le_trans (by rw [List.length_drop]; omega) Hn.out.1)
    have HT := Lib.hid (told_any (z := rval l) hi6 (Nat.le_trans hlen (by decide)))
    have Hm6 := Lib.hid (show Blk w6 w.heap.size 34 #[.bool false, .string ⟨#[]⟩] from Hb.out.2.below (grown_w hg) (Nat.lt_succ_self _))
    clear hi6 hg hlen
    go_wp2_with fail
    refine HT.out.mono ?_
    intro e w7 hT
    obtain ⟨sn, bn, cd, rfl, hb7, hfin⟩ := tells_form hT
    have m3 := Hm6.out.below hb7 Hm6.out.lt
    have y0 : w7.cell? ⟨w.heap.size, 0, none⟩ = some (.bool false) := m3.cell 0
    have y1 : w7.cell? ⟨w.heap.size, 1, none⟩ = some (.string ⟨#[]⟩) := m3.cell 1
    have y2 := m3.frozen 0
    have y3 := m3.frozen 1
    have hb07 := Lib.hid (hb06.out.trans (hb7.mono hb06.out.size))
    clear hT m3 hb7 d0 d1 d2 d3
    go_wp2_with fail
    rw [Exit.noGoto_ret]
    refine bodyPost_ret (v := .tuple #[.agg #[.bool sn, .string bn], .int .i64 cd]) (by simp [results, Tryz.results86, go_sem, y0, y1]) rfl ?_
    have hA := hfin w _ True trivial ((hb07.out.setCell (p := ⟨w.heap.size, 0, none⟩) (Nat.le_refl w.heap.size) (.bool sn)).setCell (p := ⟨w.heap.size, 1, none⟩) (Nat.le_refl w.heap.size) (.string bn))
    exact ⟨fun h => absurd Hn.out.1 (by omega), fun _ h => absurd HG.out h, fun _ _ hf => hA.1 trivial hf, fun _ _ hf => hA.2.1 trivial hf, hA.2.2.2⟩
theorem wread_none {w : World} : Calls Tryz.prog 86 #[.string ⟨#[]⟩] w (Readd w []) := by
 have hb := new_below w (.cells #[.bool false, .string ⟨#[]⟩] 34)
 have k2 := Blk.new w 34 #[.bool false, .string ⟨#[]⟩]
 have Hb := Lib.hid (And.intro hb k2)
 have hz : IntS ((w.alloc (.cells #[.bool false, .string ⟨#[]⟩] 34)).alloc (.cells #[.bool false, .slice none 0 0] 151)) (w.heap.size + 1) := by
  have := zslot (w.alloc (.cells #[.bool false, .string ⟨#[]⟩] 34))
  rw [World.size_alloc] at this
  exact this
 have HS := Lib.hid (setstr_any (w := (w.alloc (.cells #[.bool false, .string ⟨#[]⟩] 34)).alloc (.cells #[.bool false, .slice none 0 0] 151)) (g := w.heap.size + 1) (s := ⟨#[]⟩) (v := .int .i64 10) hz (by decide))
 have Hno := Lib.hid (show ¬ Good [] from fun h => absurd h.2.1 (by simp))
 clear hb k2 hz
 go_enter Tryz.func86, Tryz.ntmps86
 go_wp2_with fail
 go_step3
 go_wp2_with fail
 go_step3
 go_wp2_with fail
 go_loopg [4, 6] 0 (fun k av cv wr => av = .int .i64 0 ∧ w.alloc (.cells #[.bool false, .string ⟨#[]⟩] 34) = wr)
 case atStart => exact ⟨rfl, rfl⟩
 case round =>
  obtain ⟨rfl, rfl⟩ := hrel
  go_wp2_with fail
  refine HS.out.mono ?_
  rintro e w6 ⟨p, b, rfl, hg, hok⟩
  have hb6 := grown_w hg
  have m2 := Hb.out.2.below hb6 (Nat.lt_succ_self _)
  have d0 : w6.cell? ⟨w.heap.size, 0, none⟩ = some (.bool false) := m2.cell 0
  have d1 : w6.cell? ⟨w.heap.size, 1, none⟩ = some (.string ⟨#[]⟩) := m2.cell 1
  have d2 := m2.frozen 0
  have d3 := m2.frozen 1
  have hb06 := Lib.hid (Hb.out.1.trans (hb6.mono (by omega)))
  clear hb6 m2 HS
  go_wp2_with fail
  rw [Exit.noGoto_ret]
  refine bodyPost_ret (v := .tuple #[.agg #[.bool false, .string ⟨#[]⟩], .int .i64 120]) (by simp [results, Tryz.results86, go_sem, d0, d1]) rfl ?_
  exact ⟨fun h => absurd h (by decide), fun _ _ => rfl, fun _ h => absurd h Hno.out, fun _ h => absurd h Hno.out, (hb06.out.setCell (Nat.le_refl w.heap.size) _).setCell (Nat.le_refl w.heap.size) _⟩
theorem wread_any {w : World} {s : ByteArray} : Calls Tryz.prog 86 #[.string s] w (Readd w s.data.toList) := by
 rcases Nat.lt_or_ge 40000 s.size with h | h
 ·exact wread_long h
 ·rcases Nat.eq_zero_or_pos s.size with h0 | h0
  ·have hl : s.data.toList.length = s.size := Array.length_toList
   obtain rfl := str_empty (List.eq_nil_of_length_eq_zero (show s.data.toList.length = 0 by omega))
   exact wread_none
  ·by_cases h1 : s[0] = 45
   ·exact wread_neg h h0 h1
   ·exact wread_bare h h0 h1
end Go.Proofs.YtebpggfccljagaaGreatDoor
namespace Go.Proofs.YtebpggfccljagaaGreatDoor
open Wh
set_option linter.unusedVariables false
theorem dv_dec : ∀ (k n : Nat), n ≤ k → dv (dec n) = n
 | 0, n, h => by
  have : n = 0 := by omega
  subst this
  rw [dec_zero]; rfl
 | k + 1, n, h => by
  rcases Nat.eq_zero_or_pos n with h0 | h0
  ·subst h0; rw [dec_zero]; rfl
  ·rw [dec_pos h0, dv_snoc, dv_dec k (n / 10) (by omega), dig_nat]
   omega
theorem allDig_dec : ∀ (k n : Nat), n ≤ k → AllDig (dec n)
 | 0, n, h => by
  have : n = 0 := by omega
  subst this
  rw [dec_zero]
  exact fun b hb => by cases hb
 | k + 1, n, h => by
  rcases Nat.eq_zero_or_pos n with h0 | h0
  ·subst h0; rw [dec_zero]; exact fun b hb => by cases hb
  ·rw [dec_pos h0]
   refine allDig_app.2 ⟨allDig_dec k (n / 10) (by omega), allDig_cons.2 ⟨?_, fun b hb => by cases hb⟩⟩
   unfold IsDig
   rw [dig_nat]
   omega
theorem dec_ne : ∀ {n : Nat}, 0 < n → dec n ≠ [] := fun h h0 => by
 rw [dec_pos h] at h0
 simp at h0
theorem dec_head : ∀ (k n : Nat), n ≤ k → 0 < n → ∃ b, (dec n).head? = some b ∧ b.toNat ≠ 48 ∧ IsDig b
 | 0, n, h, h0 => by omega
 | k + 1, n, h, h0 => by
  rcases Nat.eq_zero_or_pos (n / 10) with h1 | h1
  ·refine ⟨dig n, ?_, ?_, ?_⟩
   ·rw [dec_pos h0, h1, dec_zero]; rfl
   ·rw [dig_nat]; omega
   ·unfold IsDig; rw [dig_nat]; omega
  ·obtain ⟨b, h2, h3, h4⟩ := dec_head k (n / 10) (by omega) h1
   refine ⟨b, ?_, h3, h4⟩
   rw [dec_pos h0, List.head?_append, h2]
   rfl
theorem txt_good (x : Int) : Good (txt x) ∧ rval (txt x) = x := by
 unfold txt
 by_cases h0 : x = 0
 ·rw [if_pos h0]
  subst h0
  exact ⟨⟨fun j b h1 h2 => by
   match j, h2 with
   | 0, h2 => injection h2 with h2; subst h2; exact ⟨by decide, by decide⟩
   | _ + 1, h2 => simp at h2, by decide, fun _ => by decide⟩, rfl⟩
 ·rw [if_neg h0]
  obtain ⟨n, hn⟩ : ∃ n, n = x.natAbs := ⟨_, rfl⟩
  rw [← hn]
  have hp : 0 < n := by omega
  obtain ⟨b, hb1, hb2, hb3⟩ := dec_head n n (Nat.le_refl n) hp
  have hd := allDig_dec n n (Nat.le_refl n)
  have hv := dv_dec n n (Nat.le_refl n)
  have hl : 0 < (dec n).length := List.length_pos_iff.2 (dec_ne hp)
  by_cases hx : x < 0
  ·rw [if_pos hx]
   have hs : signOf ([45] ++ dec n) = true := rfl
   have hr : rfirst ([45] ++ dec n) = 1 := rfl
   refine ⟨?_, ?_⟩
   ·unfold Good
    rw [hr]
    refine ⟨fun j c h1 h2 => ?_, by simp; omega, fun h => ?_⟩
    ·obtain ⟨i, rfl⟩ : ∃ i, j = i + 1 := ⟨j - 1, by omega⟩
     have h3 : (dec n)[i]? = some c := h2
     exact hd c (List.mem_iff_getElem?.2 ⟨i, h3⟩)
    ·have h3 : (dec n)[0]? = some 48 := h
     rw [← List.head?_eq_getElem?, hb1] at h3
     injection h3 with h3
     exact absurd (by rw [h3]; rfl) hb2
   ·unfold rval
    rw [hs, hr]
    show sgn true (dv (dec n)) = x
    rw [hv]
    unfold sgn
    simp
    omega
  ·rw [if_neg hx, List.nil_append]
   have hs : signOf (dec n) = false := by
    unfold signOf
    rw [hb1]
    refine beq_eq_false_iff_ne.2 (fun h => ?_)
    injection h with h
    subst h
    unfold IsDig at hb3
    exact absurd hb3.1 (by decide)
   have hr : rfirst (dec n) = 0 := by unfold rfirst; rw [hs]; rfl
   refine ⟨?_, ?_⟩
   ·unfold Good
    rw [hr]
    refine ⟨fun j c h1 h2 => hd c (List.mem_iff_getElem?.2 ⟨j, h2⟩), hl, fun h => ?_⟩
    rw [← List.head?_eq_getElem?, hb1] at h
    injection h with h
    exact absurd (by rw [h]; rfl) hb2
   ·unfold rval
    rw [hs, hr, List.drop_zero, hv]
    unfold sgn
    simp
    omega
end Go.Proofs.YtebpggfccljagaaGreatDoor
namespace Go.Proofs.YtebpggfccljagaaGreatDoor
open Go.RowKit
set_option linter.unusedVariables false
def iv (x : Int) : Value := .int .i64 x
theorem iv_one (l : List Int) : ∀ u ∈ l.map iv, u.oneCell' = true := by
 intro u hu
 obtain ⟨b, _, rfl⟩ := List.mem_map.1 hu
 rfl
theorem infoI : (Tryz.prog.info? 3).map (fun i => (i.zero, i.size, i.bytes)) = some (some (.int .i64 0), 1, 8) := by kernel_rfl
def ReadsI (w : World) (B : Nat) (A : Option Addr) (l : List Int) : Prop := Reads w B 1 A l.length (l.map iv)
section
variable {w w' : World} {B B' n c : Nat} {A : Option Addr} {l m : List Int} {v : Value}
theorem ReadsI.at_ (h : ReadsI w B A l) {k : Nat} (hk : k < l.length) : ∃ ad, A = some ad ∧ ad.block < B ∧ w.cell? (ad.add k) = some (.int .i64 l[k]) := by
 obtain ⟨ad, u, e, hb, hu, hc⟩ := Reads.at_ h hk
 refine ⟨ad, e, hb, ?_⟩
 rw [hc]
 rw [List.getElem?_map, List.getElem?_eq_getElem hk] at hu
 exact hu.symm
theorem ReadsI.more (h : ReadsI w B A l) (hB : B ≤ B') : ReadsI w B' A l := Reads.more h hB
theorem ReadsI.below (h : ReadsI w B A l) (hb : Below B w w') : ReadsI w' B A l := Reads.below h hb
theorem ReadsI.alloc (h : ReadsI w B A l) (hB : B ≤ w.heap.size) (o : Obj) : ReadsI (w.alloc o) B A l := Reads.alloc h hB o
theorem ReadsI.none_ (w : World) (B : Nat) (A : Option Addr) : ReadsI w B A [] := Reads.none_
def OwnI (w : World) (B : Nat) (v : Value) (l : List Int) : Prop := w.ownsRow B 3 1 v l.length (l.map iv)
theorem OwnI.form (h : OwnI w B v l) : ∃ A c, v = .slice A l.length c ∧ l.length ≤ c ∧ c ≤ maxLen := by
 rcases h.2 with ⟨rfl, h0⟩ | ⟨g, cap, cur, rfl, _, _, hc, hm, _⟩
 ·exact ⟨none, 0, by rw [h0], by omega, by unfold maxLen; omega⟩
 ·exact ⟨_, cap, rfl, hc, hm⟩
theorem OwnI.len (h : OwnI w B (.slice A n c) l) : n = l.length ∧ n ≤ c ∧ c ≤ maxLen := by
 obtain ⟨A', c', e, h1, h2⟩ := h.form
 injection e with _ e2 e3
 omega
theorem OwnI.reads (h : OwnI w B (.slice A n c) l) : ReadsI w w.heap.size A l := by
 obtain rfl := h.len.1
 exact Reads.of_own h
theorem OwnI.alloc (h : OwnI w B v l) (o : Obj) : OwnI (w.alloc o) B v l := World.ownsRow.alloc h o
theorem OwnI.nil (w : World) (B : Nat) : OwnI w B (.slice none 0 0) [] := World.ownsRow_nil w B _ 1
theorem OwnI.lt (h : OwnI w B v l) : ∀ g, v.ownBlock = some g → B ≤ g ∧ g < w.heap.size := fun g hg => World.ownsRow.lt h g hg
theorem OwnI.kept (h : OwnI w B v l) (hb : Below w.heap.size w w') : OwnI w' B v l := by
 refine ⟨h.1, ?_⟩
 rcases h.2 with h' | ⟨g, cap, cur, hv, hg, hh, r⟩
 ·exact .inl h'
 ·exact .inr ⟨g, cap, cur, hv, hg, (hb.block g (Array.getElem?_eq_some_iff.1 hh).1).trans hh, r⟩
theorem OwnI.lower (h : OwnI w B v l) (hB : B' ≤ B) : OwnI w B' v l := by
 refine ⟨h.1, ?_⟩
 rcases h.2 with h' | ⟨g, cap, cur, hv, hg, r⟩
 ·exact .inl h'
 ·exact .inr ⟨g, cap, cur, hv, by omega, r⟩
theorem OwnI.grown (h : OwnI w B v l) {row : Option Nat} (hg : w.grownBy w' row) (hr : ∀ g, v.ownBlock = some g → row ≠ some g) : OwnI w' B v l := by
 refine ⟨h.1, ?_⟩
 rcases h.2 with h' | ⟨g, cap, cur, hv, hb, hh, r⟩
 ·exact .inl h'
 ·refine .inr ⟨g, cap, cur, hv, hb, (hg.block g (Array.getElem?_eq_some_iff.1 hh).1 ?_).trans hh, r⟩
  intro e
  exact hr g (by rw [hv]; rfl) e.symm
end
theorem reads_single (w : World) (x : Int) : ReadsI (w.alloc (.cells #[.int .i64 x] 3)) (w.heap.size + 1) (some ⟨w.heap.size, 0, none⟩) [x] := by
 refine ⟨rfl, fun _ => ⟨_, rfl, Nat.lt_succ_self _, fun j u hu => ?_⟩⟩
 have hb := Blk.new w 3 #[.int .i64 x]
 match j, hu with
 | 0, hu => rw [Addr.add_zero', hb.cell 0]; exact hu
 | j + 1, hu => simp at hu
end Go.Proofs.YtebpggfccljagaaGreatDoor
namespace Go.Proofs.YtebpggfccljagaaGreatDoor
open Go.RowKit
open Wh
set_option linter.unusedSimpArgs false
def IntC (w : World) (g o : Nat) (z : Int) : Prop := ∃ s A n c, w.cell? ⟨g, o, none⟩ = some (.bool s) ∧ w.cell? ⟨g, o + 1, none⟩ = some (.slice A n c) ∧ Hid (s = decide (z < 0) ∧ n = (wds z.natAbs).length) ∧ n ≤ c ∧ c ≤ 9223372036854775807 ∧ ReadsW w w.heap.size A (wds z.natAbs)
theorem IntC.opened {w : World} {g o : Nat} {z : Int} (h : IntC w g o z) : ∃ s A n c, w.cell? ⟨g, o, none⟩ = some (.bool s) ∧ w.cell? ⟨g, o + 1, none⟩ = some (.slice A n c) ∧ Hid (s = decide (z < 0) ∧ n = (wds z.natAbs).length) ∧ n ≤ c ∧ c ≤ 9223372036854775807 ∧ ReadsW w w.heap.size A (wds z.natAbs) := h
theorem IntC.lt' {w : World} {g o : Nat} {z : Int} (h : IntC w g o z) : g < w.heap.size := by
 obtain ⟨s, A, n, c, h0, _⟩ := h
 exact block_lt_of_cell h0
theorem IntC.below {w w' : World} {g o : Nat} {z : Int} (h : IntC w g o z) (hb : Below w.heap.size w w') : IntC w' g o z := by
 have hlt := h.lt'
 obtain ⟨s, A, n, c, h0, h1, h2, h3, h4, hr⟩ := h
 exact ⟨s, A, n, c, (hb.cell (p := ⟨g, o, none⟩) hlt).trans h0, (hb.cell (p := ⟨g, o + 1, none⟩) hlt).trans h1, h2, h3, h4, (hr.below hb).more hb.size⟩
structure RatB (w : World) (g : Nat) (a b : Int) : Prop where
 num : IntC w g 0 a
 den : IntC w g 2 b
 pos : 0 < b
theorem RatB.below {w w' : World} {g : Nat} {a b : Int} (h : RatB w g a b) (hb : Below w.heap.size w w') : RatB w' g a b := ⟨h.num.below hb, h.den.below hb, h.pos⟩
set_option maxRecDepth 100000 in
set_option maxHeartbeats 4000000 in
theorem setc0_any {w : World} {g gx : Nat} {x : Int} (hz : IntS w g) (hx : IntC w gx 0 x) (hxl : (wds x.natAbs).length ≤ 900000000) :
  Calls Tryz.prog 160 #[.pointer (some ⟨g, 0, none⟩), .pointer (some ⟨gx, 0, none⟩)] w (Puts w g x) := by
 obtain ⟨sx, Ax, nx, cx, x0, x1, Hx, hxc, hxcl, rx⟩ := hx.opened
 have glx := hx.lt'
 have Hr := Lib.hid (And.intro rx hxl)
 clear rx hxl
 go_enter Tryz.func160, Tryz.ntmps160
 go_wp2_with fail
 refine wp_region_noPanic ?_
 refine wp_region_HK (fun w' => (w'.cell? ⟨gx, 0, none⟩ = some (.bool sx) ∧ w'.cell? ⟨gx, 1, none⟩ = some (.slice Ax nx cx))) 10 (by kernel_rfl) ⟨x0, x1⟩ (fun hHeld => ?_)
 refine wpHK_take (i := 0) (oi := Oper.mk (some 5) _ _ _ _ _) (v := ?_) rfl (by kernel_rfl) (by kernel_rfl) (by kernel_rfl) (by kernel_rfl) (fun _ _ _ h => h) (Or.inl ⟨by rfl, ?_⟩) (by assumption) ?_
 rotate_left
 ·(intro w' hSw; (try dsimp only at hSw); (obtain ⟨s1, s2⟩ := hSw); go_simp; try with_reducible rfl)
 try simp only [Act.put, List.setIfInBounds_toArray, List.set_cons_zero, List.set_cons_succ]
 refine wpHK_take (i := 1) (oi := Oper.mk (some 6) _ _ _ _ _) (v := ?_) rfl (by kernel_rfl) (by kernel_rfl) (by kernel_rfl) (by kernel_rfl) (fun _ _ _ h => h) (Or.inl ⟨by rfl, ?_⟩) (by assumption) ?_
 rotate_left
 ·(intro w' hSw; (try dsimp only at hSw); (obtain ⟨s1, s2⟩ := hSw); go_simp; try with_reducible rfl)
 try simp only [Act.put, List.setIfInBounds_toArray, List.set_cons_zero, List.set_cons_succ]
 refine wpHK_take (i := 2) (oi := Oper.mk (some 7) _ _ _ _ _) (v := ?_) rfl (by kernel_rfl) (by kernel_rfl) (by kernel_rfl) (by kernel_rfl) (fun _ _ _ h => h) (Or.inl ⟨by rfl, ?_⟩) (by assumption) ?_
 rotate_left
 ·(intro w' hSw; (try dsimp only at hSw); (obtain ⟨s1, s2⟩ := hSw); go_simp; try with_reducible rfl)
 try simp only [Act.put, List.setIfInBounds_toArray, List.set_cons_zero, List.set_cons_succ]
 refine wpHK_take (i := 3) (oi := Oper.mk (some 8) _ _ _ _ _) (v := ?_) rfl (by kernel_rfl) (by kernel_rfl) (by kernel_rfl) (by kernel_rfl) (fun _ _ _ h => h) (Or.inl ⟨by rfl, ?_⟩) (by assumption) ?_
 rotate_left
 ·(intro w' hSw; (try dsimp only at hSw); (obtain ⟨s1, s2⟩ := hSw); go_simp; try with_reducible rfl)
 try simp only [Act.put, List.setIfInBounds_toArray, List.set_cons_zero, List.set_cons_succ]
 refine wpHK_take (i := 4) (oi := Oper.mk (some 9) _ _ _ _ _) (v := ?_) rfl (by kernel_rfl) (by kernel_rfl) (by kernel_rfl) (by kernel_rfl) (fun _ _ _ h => h) (Or.inl ⟨by rfl, ?_⟩) (by assumption) ?_
 rotate_left
 ·(intro w' hSw; (try dsimp only at hSw); (obtain ⟨s1, s2⟩ := hSw); go_simp; try with_reducible rfl)
 try simp only [Act.put, List.setIfInBounds_toArray, List.set_cons_zero, List.set_cons_succ]
 refine wpHK_take (i := 5) (oi := Oper.mk (some 10) _ _ _ _ _) (v := ?_) rfl (by kernel_rfl) (by kernel_rfl) (by kernel_rfl) (by kernel_rfl) (fun _ _ _ h => h) (Or.inl ⟨by rfl, ?_⟩) (by assumption) ?_
 rotate_left
 ·(intro w' hSw; (try dsimp only at hSw); (obtain ⟨s1, s2⟩ := hSw); go_simp; try with_reducible rfl)
 try simp only [Act.put, List.setIfInBounds_toArray, List.set_cons_zero, List.set_cons_succ]
 refine wpHK_take (i := 6) (oi := Oper.mk (some 11) _ _ _ _ _) (v := ?_) rfl (by kernel_rfl) (by kernel_rfl) (by kernel_rfl) (by kernel_rfl) (fun _ _ _ h => h) (Or.inl ⟨by rfl, ?_⟩) (by assumption) ?_
 rotate_left
 ·(intro w' hSw; (try dsimp only at hSw); (obtain ⟨s1, s2⟩ := hSw); go_simp; try with_reducible rfl)
 try simp only [Act.put, List.setIfInBounds_toArray, List.set_cons_zero, List.set_cons_succ]
 refine wpHK_take (i := 7) (oi := Oper.mk (some 12) _ _ _ _ _) (v := ?_) rfl (by kernel_rfl) (by kernel_rfl) (by kernel_rfl) (by kernel_rfl) (fun _ _ _ h => h) (Or.inl ⟨by rfl, ?_⟩) (by assumption) ?_
 rotate_left
 ·(intro w' hSw; (try dsimp only at hSw); (obtain ⟨s1, s2⟩ := hSw); go_simp; try with_reducible rfl)
 try simp only [Act.put, List.setIfInBounds_toArray, List.set_cons_zero, List.set_cons_succ]
 refine wpHK_take (i := 8) (oi := Oper.mk (some 13) _ _ _ _ _) (v := ?_) rfl (by kernel_rfl) (by kernel_rfl) (by kernel_rfl) (by kernel_rfl) (fun _ _ _ h => h) (Or.inl ⟨by rfl, ?_⟩) (by assumption) ?_
 rotate_left
 ·(intro w' hSw; (try dsimp only at hSw); (obtain ⟨s1, s2⟩ := hSw); go_simp; try with_reducible rfl)
 try simp only [Act.put, List.setIfInBounds_toArray, List.set_cons_zero, List.set_cons_succ]
 refine wpHK_one (j := 9) (o := Oper.mk (some 14) _ _ _ _ _) rfl (by kernel_rfl) (fun K hK => ?_)
 refine stepW_append (by rfl) (.const (.slice none 0 0)) (.tmp 13) (by rfl) w.heap.size _ [] (OwnW.nil _ _) (by rfl) _ _ (wds x.natAbs) (Hr.out.1.drewN 1) nx cx Hx.out.2 (by rfl) (by have := Hr.out.2; simp only [List.length_nil]; omega) (Nat.le_refl _) ?_
 intro A5 n5 c5 w5 ho5 hg5
 rw [List.nil_append] at ho5
 have hb5 := below_of_grown hg5
 have hb5' : Below w.heap.size w w5 := undrew hb5
 have bcell5 : ∀ {b o : Nat}, b < w.heap.size → w5.cell? ⟨b, o, none⟩ = w.cell? ⟨b, o, none⟩ := fun {b o} h => hb5'.cell (p := ⟨b, o, none⟩) h
 have hz5 := hz.below hb5'
 have hC5 : (w5.cell? ⟨gx, 0, none⟩ = some (.bool sx) ∧ w5.cell? ⟨gx, 1, none⟩ = some (.slice Ax nx cx)) := ⟨(bcell5 glx).trans x0, (bcell5 glx).trans x1⟩
 refine hK.out _ _ hC5 (fun _ => ?_)
 clear hK K hHeld
 have hHeld := hC5
 try simp only [Act.put, List.setIfInBounds_toArray, List.set_cons_zero, List.set_cons_succ]
 refine wpHK_tail (j := 10) (o := Oper.mk (some 15) _ _ _ _ _) rfl (by kernel_rfl) (by decide) (fun K hK => ?_)
 go_simp
 refine (is_any _ hz5 ho5.reads (Nat.le_refl _) ho5.len.1 ho5.len.2.1 ho5.len.2.2 (wd_w _)).mono ?_
 rintro e w6 ⟨rfl, hi6, hg6⟩
 try simp only []
 refine hK.out _ _ ?_
 clear hK K
 try simp only [Act.put, List.setIfInBounds_toArray, List.set_cons_zero, List.set_cons_succ]
 refine wpHK_assign (j := 11) (o := Oper.mk (some 4) _ _ _ _ _) rfl (by kernel_rfl) (by decide) rfl rfl ?_
 try simp only [Act.put, List.setIfInBounds_toArray, List.set_cons_zero, List.set_cons_succ]
 refine wpHK_done (by kernel_rfl) ?_ _
 refine NoPanic.normal ?_
 go_wp2_with fail
 go_ret
 refine ⟨rfl, ?_, grown_lift hb5' hg6⟩
 rw [val_w, Hx.out.1, sgn_of] at hi6
 exact hi6
set_option maxRecDepth 100000 in
set_option maxHeartbeats 4000000 in
theorem setc2_any {w : World} {g gx : Nat} {x : Int} (hz : IntS w g) (hx : IntC w gx 2 x) (hxl : (wds x.natAbs).length ≤ 900000000) :
  Calls Tryz.prog 160 #[.pointer (some ⟨g, 0, none⟩), .pointer (some ⟨gx, 2, none⟩)] w (Puts w g x) := by
 obtain ⟨sx, Ax, nx, cx, x0, x1, Hx, hxc, hxcl, rx⟩ := hx.opened
 have glx := hx.lt'
 have Hr := Lib.hid (And.intro rx hxl)
 clear rx hxl
 go_enter Tryz.func160, Tryz.ntmps160
 go_wp2_with fail
 refine wp_region_noPanic ?_
 refine wp_region_HK (fun w' => (w'.cell? ⟨gx, 2, none⟩ = some (.bool sx) ∧ w'.cell? ⟨gx, 3, none⟩ = some (.slice Ax nx cx))) 10 (by kernel_rfl) ⟨x0, x1⟩ (fun hHeld => ?_)
 refine wpHK_take (i := 0) (oi := Oper.mk (some 5) _ _ _ _ _) (v := ?_) rfl (by kernel_rfl) (by kernel_rfl) (by kernel_rfl) (by kernel_rfl) (fun _ _ _ h => h) (Or.inl ⟨by rfl, ?_⟩) (by assumption) ?_
 rotate_left
 ·(intro w' hSw; (try dsimp only at hSw); (obtain ⟨s1, s2⟩ := hSw); go_simp; try with_reducible rfl)
 try simp only [Act.put, List.setIfInBounds_toArray, List.set_cons_zero, List.set_cons_succ]
 refine wpHK_take (i := 1) (oi := Oper.mk (some 6) _ _ _ _ _) (v := ?_) rfl (by kernel_rfl) (by kernel_rfl) (by kernel_rfl) (by kernel_rfl) (fun _ _ _ h => h) (Or.inl ⟨by rfl, ?_⟩) (by assumption) ?_
 rotate_left
 ·(intro w' hSw; (try dsimp only at hSw); (obtain ⟨s1, s2⟩ := hSw); go_simp; try with_reducible rfl)
 try simp only [Act.put, List.setIfInBounds_toArray, List.set_cons_zero, List.set_cons_succ]
 refine wpHK_take (i := 2) (oi := Oper.mk (some 7) _ _ _ _ _) (v := ?_) rfl (by kernel_rfl) (by kernel_rfl) (by kernel_rfl) (by kernel_rfl) (fun _ _ _ h => h) (Or.inl ⟨by rfl, ?_⟩) (by assumption) ?_
 rotate_left
 ·(intro w' hSw; (try dsimp only at hSw); (obtain ⟨s1, s2⟩ := hSw); go_simp; try with_reducible rfl)
 try simp only [Act.put, List.setIfInBounds_toArray, List.set_cons_zero, List.set_cons_succ]
 refine wpHK_take (i := 3) (oi := Oper.mk (some 8) _ _ _ _ _) (v := ?_) rfl (by kernel_rfl) (by kernel_rfl) (by kernel_rfl) (by kernel_rfl) (fun _ _ _ h => h) (Or.inl ⟨by rfl, ?_⟩) (by assumption) ?_
 rotate_left
 ·(intro w' hSw; (try dsimp only at hSw); (obtain ⟨s1, s2⟩ := hSw); go_simp; try with_reducible rfl)
 try simp only [Act.put, List.setIfInBounds_toArray, List.set_cons_zero, List.set_cons_succ]
 refine wpHK_take (i := 4) (oi := Oper.mk (some 9) _ _ _ _ _) (v := ?_) rfl (by kernel_rfl) (by kernel_rfl) (by kernel_rfl) (by kernel_rfl) (fun _ _ _ h => h) (Or.inl ⟨by rfl, ?_⟩) (by assumption) ?_
 rotate_left
 ·(intro w' hSw; (try dsimp only at hSw); (obtain ⟨s1, s2⟩ := hSw); go_simp; try with_reducible rfl)
 try simp only [Act.put, List.setIfInBounds_toArray, List.set_cons_zero, List.set_cons_succ]
 refine wpHK_take (i := 5) (oi := Oper.mk (some 10) _ _ _ _ _) (v := ?_) rfl (by kernel_rfl) (by kernel_rfl) (by kernel_rfl) (by kernel_rfl) (fun _ _ _ h => h) (Or.inl ⟨by rfl, ?_⟩) (by assumption) ?_
 rotate_left
 ·(intro w' hSw; (try dsimp only at hSw); (obtain ⟨s1, s2⟩ := hSw); go_simp; try with_reducible rfl)
 try simp only [Act.put, List.setIfInBounds_toArray, List.set_cons_zero, List.set_cons_succ]
 refine wpHK_take (i := 6) (oi := Oper.mk (some 11) _ _ _ _ _) (v := ?_) rfl (by kernel_rfl) (by kernel_rfl) (by kernel_rfl) (by kernel_rfl) (fun _ _ _ h => h) (Or.inl ⟨by rfl, ?_⟩) (by assumption) ?_
 rotate_left
 ·(intro w' hSw; (try dsimp only at hSw); (obtain ⟨s1, s2⟩ := hSw); go_simp; try with_reducible rfl)
 try simp only [Act.put, List.setIfInBounds_toArray, List.set_cons_zero, List.set_cons_succ]
 refine wpHK_take (i := 7) (oi := Oper.mk (some 12) _ _ _ _ _) (v := ?_) rfl (by kernel_rfl) (by kernel_rfl) (by kernel_rfl) (by kernel_rfl) (fun _ _ _ h => h) (Or.inl ⟨by rfl, ?_⟩) (by assumption) ?_
 rotate_left
 ·(intro w' hSw; (try dsimp only at hSw); (obtain ⟨s1, s2⟩ := hSw); go_simp; try with_reducible rfl)
 try simp only [Act.put, List.setIfInBounds_toArray, List.set_cons_zero, List.set_cons_succ]
 refine wpHK_take (i := 8) (oi := Oper.mk (some 13) _ _ _ _ _) (v := ?_) rfl (by kernel_rfl) (by kernel_rfl) (by kernel_rfl) (by kernel_rfl) (fun _ _ _ h => h) (Or.inl ⟨by rfl, ?_⟩) (by assumption) ?_
 rotate_left
 ·(intro w' hSw; (try dsimp only at hSw); (obtain ⟨s1, s2⟩ := hSw); go_simp; try with_reducible rfl)
 try simp only [Act.put, List.setIfInBounds_toArray, List.set_cons_zero, List.set_cons_succ]
 refine wpHK_one (j := 9) (o := Oper.mk (some 14) _ _ _ _ _) rfl (by kernel_rfl) (fun K hK => ?_)
 refine stepW_append (by rfl) (.const (.slice none 0 0)) (.tmp 13) (by rfl) w.heap.size _ [] (OwnW.nil _ _) (by rfl) _ _ (wds x.natAbs) (Hr.out.1.drewN 1) nx cx Hx.out.2 (by rfl) (by have := Hr.out.2; simp only [List.length_nil]; omega) (Nat.le_refl _) ?_
 intro A5 n5 c5 w5 ho5 hg5
 rw [List.nil_append] at ho5
 have hb5 := below_of_grown hg5
 have hb5' : Below w.heap.size w w5 := undrew hb5
 have bcell5 : ∀ {b o : Nat}, b < w.heap.size → w5.cell? ⟨b, o, none⟩ = w.cell? ⟨b, o, none⟩ := fun {b o} h => hb5'.cell (p := ⟨b, o, none⟩) h
 have hz5 := hz.below hb5'
 have hC5 : (w5.cell? ⟨gx, 2, none⟩ = some (.bool sx) ∧ w5.cell? ⟨gx, 3, none⟩ = some (.slice Ax nx cx)) := ⟨(bcell5 glx).trans x0, (bcell5 glx).trans x1⟩
 refine hK.out _ _ hC5 (fun _ => ?_)
 clear hK K hHeld
 have hHeld := hC5
 try simp only [Act.put, List.setIfInBounds_toArray, List.set_cons_zero, List.set_cons_succ]
 refine wpHK_tail (j := 10) (o := Oper.mk (some 15) _ _ _ _ _) rfl (by kernel_rfl) (by decide) (fun K hK => ?_)
 go_simp
 refine (is_any _ hz5 ho5.reads (Nat.le_refl _) ho5.len.1 ho5.len.2.1 ho5.len.2.2 (wd_w _)).mono ?_
 rintro e w6 ⟨rfl, hi6, hg6⟩
 try simp only []
 refine hK.out _ _ ?_
 clear hK K
 try simp only [Act.put, List.setIfInBounds_toArray, List.set_cons_zero, List.set_cons_succ]
 refine wpHK_assign (j := 11) (o := Oper.mk (some 4) _ _ _ _ _) rfl (by kernel_rfl) (by decide) rfl rfl ?_
 try simp only [Act.put, List.setIfInBounds_toArray, List.set_cons_zero, List.set_cons_succ]
 refine wpHK_done (by kernel_rfl) ?_ _
 refine NoPanic.normal ?_
 go_wp2_with fail
 go_ret
 refine ⟨rfl, ?_, grown_lift hb5' hg6⟩
 rw [val_w, Hx.out.1, sgn_of] at hi6
 exact hi6
def NewI (w : World) (z : Int) (e : Ending) (w' : World) : Prop := ∃ g, e = .returned (.pointer (some ⟨g, 0, none⟩)) ∧ w.heap.size ≤ g ∧ IntB w' g z ∧ Below w.heap.size w w'
set_option maxRecDepth 100000 in
theorem den_any {w : World} {g : Nat} {a b : Int} (h : RatB w g a b) :
  Calls Tryz.prog 161 #[.pointer (some ⟨g, 0, none⟩)] w fun e w' => e = .returned (.pointer (some ⟨g, 2, none⟩)) ∧ w = w' := by
 obtain ⟨s, A, n, c, c0, c1, Hn, hnc, hcl, hr⟩ := h.den
 have hn0 : ¬ (n : Int) = 0 := by
  have h1 := Hn.out.2
  have h2 := (len_pos (x := b)).2 (by have := h.pos; omega)
  omega
 have hn1 : ((n : Int) == 0) = false := by simpa using hn0
 clear h hr Hn
 go_enter Tryz.func161, Tryz.ntmps161
 go_wp2_with fail
 go_ret
 exact ⟨rfl, rfl⟩
set_option maxRecDepth 100000 in
theorem num_new {w : World} {g : Nat} {a b : Int} (h : RatB w g a b) (hl : (wds a.natAbs).length ≤ 900000000) :
  Calls Tryz.prog 137 #[.pointer (some ⟨g, 0, none⟩)] w (NewI w a) := by
 have H := Lib.hid (setc0_any (IntB.zero w).slot (h.num.below ((Below.refl _ _).alloc (Nat.le_refl _) _)) hl)
 clear h hl
 go_enter Tryz.func137, Tryz.ntmps137
 go_wp2_with (go_at_call 160; (with_reducible refine H.out.mono ?_); rintro _ W1 ⟨rfl, hi, hg⟩)
 go_ret
 exact ⟨_, rfl, Nat.le_refl _, hi, below_new hg⟩
set_option maxRecDepth 100000 in
theorem denom_new {w : World} {g : Nat} {a b : Int} (h : RatB w g a b) (hl : (wds b.natAbs).length ≤ 900000000) :
  Calls Tryz.prog 138 #[.pointer (some ⟨g, 0, none⟩)] w (NewI w b) := by
 have H := Lib.hid (setc2_any (IntB.zero w).slot (h.den.below ((Below.refl _ _).alloc (Nat.le_refl _) _)) hl)
 have HD := Lib.hid (den_any (h.below ((Below.refl _ _).alloc (Nat.le_refl _) (.cells #[.bool false, .slice none 0 0] 151))))
 clear h hl
 go_enter Tryz.func138, Tryz.ntmps138
 go_wp2_with (first | (go_at_call 161; (with_reducible refine HD.out.mono ?_); rintro _ _ ⟨rfl, rfl⟩) | (go_at_call 160; (with_reducible refine H.out.mono ?_); rintro _ W1 ⟨rfl, hi, hg⟩))
 go_ret
 exact ⟨_, rfl, Nat.le_refl _, hi, below_new hg⟩
theorem words_len {l : List UInt8} (hf : Formed l) : (wds (bval l)).length = (l.length + 3) / 4 := by
 have h1 := bval_lt l
 have p4 : (4294967296 : Nat) = 256 ^ 4 := by decide
 refine Nat.le_antisymm (len_wds ?_) ?_
 ·rw [p4, ← Nat.pow_mul]
  exact Nat.lt_of_lt_of_le h1 (Nat.pow_le_pow_right (by decide) (by omega))
 ·cases l with
  | nil => simp
  | cons b r =>
   rcases Nat.lt_or_ge (wds (bval (b :: r))).length (((b :: r).length + 3) / 4) with h | h
   ·exfalso
    have h2 := lt_of_len (n := bval (b :: r)) (k := ((b :: r).length + 3) / 4 - 1) (by omega)
    rw [p4, ← Nat.pow_mul] at h2
    have h3 : (256 : Nat) ^ (4 * (((b :: r).length + 3) / 4 - 1)) ≤ 256 ^ r.length := Nat.pow_le_pow_right (by decide) (by rw [List.length_cons] at *; omega)
    have hb := hf b rfl
    have hb' : 0 < b.toNat := by
     rcases Nat.eq_zero_or_pos b.toNat with h0 | h0
     ·exact absurd (by rw [← UInt8.toNat_inj]; exact h0) hb
     ·exact h0
    have h4 : 256 ^ r.length ≤ bval (b :: r) := by
     rw [bval_cons]
     exact Nat.le_trans (Nat.le_mul_of_pos_left _ hb') (Nat.le_add_right _ _)
    omega
   ·exact h
theorem add_byte {x b s : Nat} (hs : s < 4) (hx : x < 256 ^ s) (hb : b < 256) : IntKind.u32.wrap ((x : Int) + IntKind.u32.wrap ((b : Int) * 2 ^ (8 * s))) = ((x + b * 256 ^ s : Nat) : Int) ∧ x + b * 256 ^ s < 4294967296 := by
 have h1 : (256 : Nat) ^ s ≤ 256 ^ 3 := Nat.pow_le_pow_right (by decide) (by omega)
 have h2 : (b + 1) * 256 ^ s ≤ 256 * 256 ^ s := Nat.mul_le_mul_right _ hb
 rw [Nat.add_mul, Nat.one_mul] at h2
 have h3 : b * 256 ^ s + 256 ^ s ≤ 4294967296 := by omega
 have e1 : ((b : Int) * 2 ^ (8 * s)) = ((b * 256 ^ s : Nat) : Int) := by rw [pow256, Nat.mul_comm 8, Int.natCast_mul, Int.natCast_pow]; rfl
 refine ⟨?_, by omega⟩
 rw [e1, show IntKind.u32.wrap ((b * 256 ^ s : Nat) : Int) = ((b * 256 ^ s : Nat) : Int) by rw [IntKind.wrap_u32]; omega, IntKind.wrap_u32]
 omega
set_option maxRecDepth 100000 in
set_option maxHeartbeats 4000000 in
theorem words_any {w : World} {s : ByteArray} (hs : s.size ≤ 1000000000) (hf : Formed s.data.toList) :
  Calls Tryz.prog 126 #[.string s] w (CutW w (bval s.data.toList)) := by
 obtain ⟨l, hl⟩ : ∃ l, l = s.data.toList := ⟨_, rfl⟩
 obtain ⟨n, hsn⟩ : ∃ n, n = s.size := ⟨_, rfl⟩
 have hn : n = l.length := by rw [hl, hsn]; exact Array.length_toList.symm
 have hget : ∀ j (h : j < s.size) (h' : j < l.length), s[j] = l[j] := by subst hl; intro j h h'; rfl
 rw [← hl] at hf ⊢
 have Hn := Lib.hid (And.intro hn (And.intro hsn (And.intro hget hf)))
 have hnl : n ≤ 1000000000 := by omega
 have hmk : ∀ w : World, (Instr.makeSlice 149 (.int .i64 (((s.size : Int) + 3) / 4)) (.int .i64 (((s.size : Int) + 3) / 4))).run Tryz.prog w = .ok (.slice (some ⟨w.heap.size, 0, none⟩) ((n + 3) / 4) ((n + 3) / 4)) (w.alloc (.cells (wcells (List.replicate ((n + 3) / 4) 0)) 163)) := fun w => by
  have := run_makeW ((n + 3) / 4) (by omega) w
  rw [← this, show (((n + 3) / 4 : Nat) : Int) = ((s.size : Int) + 3) / 4 by omega]
 clear hn hl hget hf hsn
 go_enter Tryz.func126, Tryz.ntmps126
 go_wp2_with fail
 go_loopg [4] n (fun k iv wr => ∃ (i : Nat) (L : List Nat), iv = .int .i64 (i : Int) ∧ k = n - i ∧ i ≤ n ∧ Blk wr w.heap.size 163 (wcells L) ∧ Below w.heap.size w wr ∧
  Hid (L.length = (n + 3) / 4 ∧ Wd L ∧ val L = bval (l.drop (n - i))))
 case atStart => exact ⟨0, List.replicate ((n + 3) / 4) 0, rfl, by omega, by omega, Blk.new _ _ _, (Below.refl _ _).alloc (Nat.le_refl _) _, by simp, wd_zeros _, by rw [val_zeros, List.drop_of_length_le (by rw [← Hn.out.1]; omega)]; rfl⟩
 case round =>
  obtain ⟨i, L, rfl, hk, hi, hblk, hbel, hL⟩ := hrel
  have Hk := Lib.hid hk
  clear hk
  by_cases hin : i < n
  ·obtain ⟨j, hj⟩ : ∃ j, n = i + 1 + j := ⟨n - (i + 1), by omega⟩
   have hjl : j < l.length := by rw [← Hn.out.1]; omega
   have hjs : j < s.size := by rw [← Hn.out.2.1]; omega
   have hys := Hn.out.2.2.1 j hjs hjl
   have hiL : i / 4 < L.length := by have := hL.out.1; omega
   have hout : wr.cell? ⟨w.heap.size, i / 4, none⟩ = some (.int .u32 ((L[i / 4] : Nat) : Int)) := by rw [hblk.cell, wcells_get, List.getElem?_eq_getElem hiL]; rfl
   have hfz := hblk.frozen (i / 4)
   have hvl : val L < 256 ^ i := by
    rw [hL.out.2.2]
    have := bval_lt (l.drop (n - i))
    rw [List.length_drop, ← Hn.out.1, show n - (n - i) = i by omega] at this
    exact this
   have hws := word_small hvl hiL
   have hbt := UInt8.toNat_lt l[j]
   have hor := add_byte (Nat.mod_lt i (by decide)) hws hbt
   have hbs := byte_step (b := l[j].toNat) hiL
   have hbd : bval (l.drop j) = l[j].toNat * 256 ^ i + bval (l.drop (j + 1)) := by
    rw [bval_drop hjl, ← Hn.out.1, show n - (j + 1) = i by omega]
   obtain ⟨T, hT⟩ : ∃ T, T = L[i / 4] + l[j].toNat * 256 ^ (i % 4) := ⟨_, rfl⟩
   rw [← hT] at hor hbs
   have Hbs := Lib.hid (And.intro hbs hbd)
   obtain ⟨hor1, hor2⟩ := hor
   have hT2 : T ≤ 4294967295 := by omega
   have hy2 : (s[j]).toNat = l[j].toNat := by rw [hys]
   clear hys
   generalize hx : L[i / 4] = x at *
   generalize hy : l[j].toNat = y at *
   have Hj := Lib.hid hj
   have hii : (i : Int) < (s.size : Int) := by rw [← Hn.out.2.1]; omega
   have hjj : (j : Int) < (s.size : Int) := by omega
   have hdii : decide ((i : Int) < (s.size : Int)) = true := by simp; omega
   clear hx hy hws hvl hbs hbd hT hor2 hj
   obtain ⟨S, hS⟩ : ∃ S, S = 8 * (i % 4) := ⟨_, rfl⟩
   rw [← hS] at hor1
   have q1 : IntKind.i64.wrap ((i : Int) / 4) = (i : Int) / 4 := IntWalk.i64_in _ (by omega)
   have q2 : (0 : Int) ≤ (i : Int) / 4 := by omega
   have q3 : (i : Int) / 4 < ((s.size : Int) + 3) / 4 := by omega
   have q3' : (i : Int) / 4 < ((n : Int) + 3) / 4 := by have := Hn.out.2.1; omega
   have q4 : ((i : Int) / 4).toNat = i / 4 := by omega
   have q5 : IntKind.i64.wrap (8 * (i : Int).tmod 4) = (S : Int) := by
    rw [show (i : Int).tmod 4 = ((i % 4 : Nat) : Int) from rfl, IntWalk.i64_in _ (by omega)]
    omega
   have hS31 : S ≤ 24 := by omega
   clear hS
   have q6 : IntKind.u32.wrap (y : Int) = (y : Int) := by rw [IntKind.wrap_u32]; omega
   go_wp2_with fail
   rw [show (s.size : Int) - 1 - (i : Int) = (j : Int) by have := Hj.out; have := Hn.out.2.1; omega]
   refine wp_region_noPanic ?_
   refine wp_region_HK (fun w' => w'.cell? ⟨w.heap.size, i / 4, none⟩ = some (.int .u32 (x : Int))) 18 (by kernel_rfl) hout (fun hHeld => ?_)
   refine wpHK_pure (i := 0) (oi := Oper.mk (some 22) _ _ _ _ _) (v := ?_) rfl (by kernel_rfl) (by kernel_rfl) (by kernel_rfl) (fun _ _ _ h => h) (Or.inl ⟨by rfl, ?_⟩) ?_
   rotate_left
   ·(intro w' _; go_simp; try with_reducible rfl)
   try simp only [Act.put, List.setIfInBounds_toArray, List.set_cons_zero, List.set_cons_succ]
   refine wpHK_pure (i := 1) (oi := Oper.mk (some 23) _ _ _ _ _) (v := ?_) rfl (by kernel_rfl) (by kernel_rfl) (by kernel_rfl) (fun _ _ _ h => h) (Or.inl ⟨by rfl, ?_⟩) ?_
   rotate_left
   ·(intro w' _; go_simp; try with_reducible rfl)
   try simp only [Act.put, List.setIfInBounds_toArray, List.set_cons_zero, List.set_cons_succ]
   refine wpHK_pure (i := 2) (oi := Oper.mk (some 24) _ _ _ _ _) (v := ?_) rfl (by kernel_rfl) (by kernel_rfl) (by kernel_rfl) (fun _ _ _ h => h) (Or.inl ⟨by rfl, ?_⟩) ?_
   rotate_left
   ·(intro w' _; go_simp; try with_reducible rfl)
   try simp only [Act.put, List.setIfInBounds_toArray, List.set_cons_zero, List.set_cons_succ]
   refine wpHK_pure (i := 3) (oi := Oper.mk (some 25) _ _ _ _ _) (v := ?_) rfl (by kernel_rfl) (by kernel_rfl) (by kernel_rfl) (fun _ _ _ h => h) (Or.inl ⟨by rfl, ?_⟩) ?_
   rotate_left
   ·(intro w' _; go_simp; try with_reducible rfl)
   try simp only [Act.put, List.setIfInBounds_toArray, List.set_cons_zero, List.set_cons_succ]
   refine wpHK_pure (i := 4) (oi := Oper.mk (some 26) _ _ _ _ _) (v := ?_) rfl (by kernel_rfl) (by kernel_rfl) (by kernel_rfl) (fun _ _ _ h => h) (Or.inl ⟨by rfl, ?_⟩) ?_
   rotate_left
   ·(intro w' _; go_simp; try with_reducible rfl)
   try simp only [Act.put, List.setIfInBounds_toArray, List.set_cons_zero, List.set_cons_succ]
   refine wpHK_pure (i := 5) (oi := Oper.mk (some 27) _ _ _ _ _) (v := ?_) rfl (by kernel_rfl) (by kernel_rfl) (by kernel_rfl) (fun _ _ _ h => h) (Or.inl ⟨by rfl, ?_⟩) ?_
   rotate_left
   ·(intro w' _; go_simp; try with_reducible rfl)
   try simp only [Act.put, List.setIfInBounds_toArray, List.set_cons_zero, List.set_cons_succ]
   refine wpHK_pure (i := 6) (oi := Oper.mk (some 28) _ _ _ _ _) (v := ?_) rfl (by kernel_rfl) (by kernel_rfl) (by kernel_rfl) (fun _ _ _ h => h) (Or.inl ⟨by rfl, ?_⟩) ?_
   rotate_left
   ·(intro w' _; go_simp; try with_reducible rfl)
   try simp only [Act.put, List.setIfInBounds_toArray, List.set_cons_zero, List.set_cons_succ]
   refine wpHK_pure (i := 8) (oi := Oper.mk (some 30) _ _ _ _ _) (v := ?_) rfl (by kernel_rfl) (by kernel_rfl) (by kernel_rfl) (fun _ _ _ h => h) (Or.inl ⟨by rfl, ?_⟩) ?_
   rotate_left
   ·(intro w' _; go_simp; try with_reducible rfl)
   try simp only [Act.put, List.setIfInBounds_toArray, List.set_cons_zero, List.set_cons_succ]
   refine wpHK_pure (i := 9) (oi := Oper.mk (some 31) _ _ _ _ _) (v := ?_) rfl (by kernel_rfl) (by kernel_rfl) (by kernel_rfl) (fun _ _ _ h => h) (Or.inl ⟨by rfl, ?_⟩) ?_
   rotate_left
   ·(intro w' _; go_simp; try with_reducible rfl)
   try simp only [Act.put, List.setIfInBounds_toArray, List.set_cons_zero, List.set_cons_succ]
   refine wpHK_pure (i := 10) (oi := Oper.mk (some 32) _ _ _ _ _) (v := ?_) rfl (by kernel_rfl) (by kernel_rfl) (by kernel_rfl) (fun _ _ _ h => h) (Or.inl ⟨by rfl, ?_⟩) ?_
   rotate_left
   ·(intro w' _; go_simp; try with_reducible rfl)
   try simp only [Act.put, List.setIfInBounds_toArray, List.set_cons_zero, List.set_cons_succ]
   refine wpHK_pure (i := 11) (oi := Oper.mk (some 33) _ _ _ _ _) (v := ?_) rfl (by kernel_rfl) (by kernel_rfl) (by kernel_rfl) (fun _ _ _ h => h) (Or.inl ⟨by rfl, ?_⟩) ?_
   rotate_left
   ·(intro w' _; go_simp; try with_reducible rfl)
   try simp only [Act.put, List.setIfInBounds_toArray, List.set_cons_zero, List.set_cons_succ]
   refine wpHK_pure (i := 12) (oi := Oper.mk (some 34) _ _ _ _ _) (v := ?_) rfl (by kernel_rfl) (by kernel_rfl) (by kernel_rfl) (fun _ _ _ h => h) (Or.inl ⟨by rfl, ?_⟩) ?_
   rotate_left
   ·(intro w' _; go_simp; try with_reducible rfl)
   try simp only [Act.put, List.setIfInBounds_toArray, List.set_cons_zero, List.set_cons_succ]
   refine wpHK_pure (i := 13) (oi := Oper.mk (some 35) _ _ _ _ _) (v := ?_) rfl (by kernel_rfl) (by kernel_rfl) (by kernel_rfl) (fun _ _ _ h => h) (Or.inl ⟨by rfl, ?_⟩) ?_
   rotate_left
   ·(intro w' _; go_simp; try with_reducible rfl)
   try simp only [Act.put, List.setIfInBounds_toArray, List.set_cons_zero, List.set_cons_succ]
   refine wpHK_pure (i := 14) (oi := Oper.mk (some 36) _ _ _ _ _) (v := ?_) rfl (by kernel_rfl) (by kernel_rfl) (by kernel_rfl) (fun _ _ _ h => h) (Or.inl ⟨by rfl, ?_⟩) ?_
   rotate_left
   ·(intro w' _; go_simp; try with_reducible rfl)
   try simp only [Act.put, List.setIfInBounds_toArray, List.set_cons_zero, List.set_cons_succ]
   refine wpHK_pure (i := 15) (oi := Oper.mk (some 37) _ _ _ _ _) (v := ?_) rfl (by kernel_rfl) (by kernel_rfl) (by kernel_rfl) (fun _ _ _ h => h) (Or.inl ⟨by rfl, ?_⟩) ?_
   rotate_left
   ·(intro w' _; go_simp; try with_reducible rfl)
   try simp only [Act.put, List.setIfInBounds_toArray, List.set_cons_zero, List.set_cons_succ]
   refine wpHK_take (i := 7) (oi := Oper.mk (some 29) _ _ _ _ _) (v := ?_) rfl (by kernel_rfl) (by kernel_rfl) (by kernel_rfl) (by kernel_rfl) (fun _ _ _ h => h) (Or.inl ⟨by rfl, ?_⟩) (by assumption) ?_
   rotate_left
   ·(intro w' hSw; (try dsimp only at hSw); (obtain s1 := hSw); go_simp; try with_reducible rfl)
   try simp only [Act.put, List.setIfInBounds_toArray, List.set_cons_zero, List.set_cons_succ]
   refine wpHK_pure (i := 16) (oi := Oper.mk (some 38) _ _ _ _ _) (v := ?_) rfl (by kernel_rfl) (by kernel_rfl) (by kernel_rfl) (fun _ _ _ h => h) (Or.inl ⟨by rfl, ?_⟩) ?_
   rotate_left
   ·(intro w' _; go_simp; try with_reducible rfl)
   try simp only [Act.put, List.setIfInBounds_toArray, List.set_cons_zero, List.set_cons_succ]
   refine wpHK_pure (i := 17) (oi := Oper.mk (some 39) _ _ _ _ _) (v := ?_) rfl (by kernel_rfl) (by kernel_rfl) (by kernel_rfl) (fun _ _ _ h => h) (Or.inl ⟨by rfl, ?_⟩) ?_
   rotate_left
   ·(intro w' _; go_simp; try with_reducible rfl)
   try simp only [Act.put, List.setIfInBounds_toArray, List.set_cons_zero, List.set_cons_succ]
   refine wpHK_tail (j := 18) (o := Oper.mk (none) _ _ _ _ _) rfl (by kernel_rfl) (by decide) (fun K hK => ?_)
   go_simp
   refine hK.out _ _ ?_
   clear hK K
   try simp only [Act.put, List.setIfInBounds_toArray, List.set_cons_zero, List.set_cons_succ]
   refine wpHK_done (by kernel_rfl) ?_ _
   refine NoPanic.normal ?_
   clear q1 q2 q3 q4 q5 q6
   go_wp2_with fail
   go_roundg (n - (i + 1))
   case measure => have := Hk.out; omega
   case rel =>
    refine ⟨i + 1, L.set (i / 4) T, rfl, rfl, by omega, ?_, ?_, ?_⟩
    ·have := hblk.set_ (i / 4) (.int .u32 (T : Int))
     rw [wcells_set] at this
     exact this
    ·exact (hbel.setCell (by show w.heap.size ≤ w.heap.size; omega) _).drew
    ·refine ⟨by rw [List.length_set]; exact hL.out.1, wd_set hL.out.2.1 _ _ (by omega), ?_⟩
     have h5 := Hbs.out.1
     rw [hL.out.2.2, show n - i = j + 1 by have := Hj.out; omega] at h5
     rw [show n - (i + 1) = j by have := Hj.out; omega, Hbs.out.2, h5, Nat.mul_comm, Nat.add_comm]
  ·have hi' : i = n := by omega
   have hii : (s.size : Int) ≤ (i : Int) := by rw [← Hn.out.2.1]; omega
   have hdii : decide ((i : Int) < (s.size : Int)) = false := by simp; omega
   have hv := hL.out.2.2
   rw [show n - i = 0 by omega, List.drop_zero] at hv
   have Hv := Lib.hid hv
   clear hi' hv
   go_wp2_with fail
   go_ret
   refine cutw_end hblk hL.out.1 (by omega) hL.out.2.1 Hv.out hbel ?_
   rw [Hv.out, words_len Hn.out.2.2.2, ← Hn.out.1]
theorem enc_sgn {neg : Bool} {m : Nat} (h : 0 < m) : enc (sgn neg m) = .agg #[.bool neg, .string ⟨(bys m).toArray⟩] := by
 unfold enc
 rw [sgn_neg, sgn_abs, decide_eq_true h, Bool.and_true]
theorem enc_nil {neg : Bool} : enc (sgn neg 0) = .agg #[.bool false, .string ⟨#[]⟩] := by
 unfold enc
 rw [sgn_neg, sgn_abs, bys_zero]
 simp
theorem byte_top {m n : Nat} (hm : 0 < m) (hn : n + 1 = (bl m + 7) / 8) : 0 < m / 256 ^ n % 256 := by
 have h := bytes_len m
 have h2 := (h.2 hm).1
 rw [← hn, Nat.add_sub_cancel] at h2
 have h1 := h.1
 rw [← hn, Nat.pow_succ] at h1
 have h3 : m / 256 ^ n < 256 := Nat.div_lt_of_lt_mul (by rw [Nat.mul_comm] at h1; rw [Nat.mul_comm]; omega)
 have h4 : 0 < m / 256 ^ n := Nat.div_pos h2 (Nat.pow_pos (by decide))
 rw [Nat.mod_eq_of_lt h3]
 exact h4
theorem byte_over {m n : Nat} (hn : (bl m + 7) / 8 ≤ n) : m / 256 ^ n % 256 = 0 := by
 rw [Nat.div_eq_of_lt (Nat.lt_of_lt_of_le (bytes_len m).1 (Nat.pow_le_pow_right (by decide) hn))]
theorem words_bytes {m : Nat} (hm : 0 < m) : (bl m + 7) / 8 ≤ 4 * (wds m).length ∧ 0 < (bl m + 7) / 8 := by
 have := bl_len m
 have := ((bytes_len m).2 hm).2
 omega
set_option maxRecDepth 100000 in
set_option maxHeartbeats 4000000 in
theorem made_zero {w : World} {B n c : Nat} {A : Option Addr} {l : List Nat} {neg : Bool} (h : ReadsW w B A l) (hB : B ≤ w.heap.size) (hn : n = l.length) (hc : n ≤ c) (hcl : c ≤ 9223372036854775807) (hw : Wd l) (h0 : val l = 0) :
  Calls Tryz.prog 113 #[.bool neg, .slice A n c] w (Told w (enc (sgn neg (val l)))) := by
 have HC := Lib.hid (rcut_any (h.alloc hB (.cells #[.bool false, .string ⟨#[]⟩] 34)) hn hc hcl hw)
 rw [h0, wds_zero] at HC
 rw [h0, enc_nil]
 clear h hn hc hcl hw h0 hB
 go_enter Tryz.func113, Tryz.ntmps113
 go_wp2_with fail
 refine HC.out.mono ?_
 rintro e w1 ⟨m, rfl, hm, rfl⟩
 obtain rfl : m = 0 := hm
 clear HC
 go_wp2_with fail
 refine bodyPost_ret (v := .agg #[.bool false, .string ⟨#[]⟩]) (by simp [results, Tryz.results113, go_sem]) rfl ?_
 exact ⟨rfl, (Below.refl _ _).alloc (Nat.le_refl _) _⟩
set_option maxRecDepth 100000 in
set_option maxHeartbeats 8000000 in
theorem made_pos {w : World} {B n c M : Nat} {A : Option Addr} {l : List Nat} {neg : Bool} (h : ReadsW w B A l) (hB : B ≤ w.heap.size) (hn : n = l.length) (hc : n ≤ c) (hcl : c ≤ 9223372036854775807) (hnl : n ≤ 1000000000) (hw : Wd l) (hM : val l = M) (h0 : 0 < M) :
  Calls Tryz.prog 113 #[.bool neg, .slice A n c] w (Told w (enc (sgn neg M))) := by
 have HC := Lib.hid (rcut_any (h.alloc hB (.cells #[.bool false, .string ⟨#[]⟩] 34)) hn hc hcl hw)
 have hr : ReadsW w B A (wds M) := by rw [← hM]; exact reads_cut h hw
 have hwl : (wds M).length ≤ 1000000000 := by rw [← hM]; have := (wds_take l.length l rfl hw).2; omega
 rw [hM] at HC
 rw [enc_sgn h0]
 obtain ⟨nb, hnb⟩ : ∃ nb, nb = (bl M + 7) / 8 := ⟨_, rfl⟩
 have hwb := words_bytes h0
 rw [← hnb] at hwb
 obtain ⟨hwb1, hwb2⟩ := hwb
 have Hnb := Lib.hid (And.intro hnb h0)
 have Hr := Lib.hid hr
 clear h hn hc hcl hw hM hnb h0 hr hnl
 go_enter Tryz.func113, Tryz.ntmps113
 go_wp2_with fail
 refine HC.out.mono ?_
 rintro e w1 ⟨m, rfl, hm, rfl⟩
 have Hm := Lib.hid hm
 have hm0 : 0 < m := by omega
 have hml : m ≤ 1000000000 := by omega
 have hnbm : nb ≤ 4 * m := by omega
 clear HC hm hwl hwb1
 have hd0 : ¬ m = 0 := by omega
 have hd1 : ((m : Int) == 0) = false := by simp; omega
 go_wp2_with fail
 go_loopg [5] (4 * m) (fun kk iv wr => ∃ k : Nat, iv = .int .i64 (k : Int) ∧ kk = k ∧ nb ≤ k ∧ k ≤ 4 * m ∧ wr = (w.alloc (.cells #[.bool false, .string ⟨#[]⟩] 34)))
 case atStart => exact ⟨4 * m, by simp, rfl, by omega, by omega, rfl⟩
 case round =>
  obtain ⟨k, rfl, hkk, hk1, hk2, rfl⟩ := hrel
  have Hk := Lib.hid hkk
  clear hkk
  obtain ⟨j, rfl⟩ : ∃ j, k = j + 1 := ⟨k - 1, by omega⟩
  have hj4 : j / 4 < (wds M).length := by have := Hm.out; omega
  obtain ⟨ad, rfl, hb1, c1⟩ := (Hr.out.alloc hB (.cells #[.bool false, .string ⟨#[]⟩] 34)).at_ hj4
  rw [← at_get] at c1
  have hbw := byte_word (m := M) (i := j)
  have hu := at_lt (wd_w M) (j / 4)
  generalize at_ (wds M) (j / 4) = u at *
  have hjn : (j : Int) / 4 < (m : Int) := by omega
  have hj0 : (0 : Int) < (j : Int) + 1 := by omega
  have hdj : decide ((0 : Int) < (j : Int) + 1) = true := decide_eq_true hj0
  have e1 : ((u : Int) / 2 ^ (8 * (j % 4))).tmod 256 = ((M / 256 ^ j % 256 : Nat) : Int) := by
   rw [Int.tmod_eq_emod_of_nonneg (Int.ediv_nonneg (Int.natCast_nonneg _) (Int.le_of_lt (Int.pow_pos (by decide)))), hbw, pow256, Nat.mul_comm 8, Int.natCast_emod, Int.natCast_ediv, Int.natCast_pow]; rfl
  by_cases hkn : j + 1 = nb
  ·have hne := byte_top (m := M) (n := j) Hnb.out.2 (by rw [hkn]; exact Hnb.out.1)
   have hq : (((u : Int) / 2 ^ (8 * (j % 4))).tmod 256 == 0) = false := by rw [e1]; exact beq_eq_false_iff_ne.2 (fun h => by have := Int.ofNat.inj h; omega)
   have Hkn := Lib.hid hkn
   have hmk : ∀ w : World, (Instr.makeSlice 97 (.int .i64 ((j : Int) + 1)) (.int .i64 ((j : Int) + 1))).run Tryz.prog w = .ok (.slice (some ⟨w.heap.size, 0, none⟩) nb nb) (w.alloc (.cells (bcells (List.replicate nb 0)) 5)) := fun w => by
    have := run_makeB nb (by omega) w
    rw [← this, ← hkn]
    rfl
   clear hbw e1 hne hkn hj4
   go_wp2_with fail
   rw [show ((j + 1 : Nat) : Int) = (nb : Int) by rw [Hkn.out]]
   clear hmk hq hdj hj0 hjn c1 hu
   obtain ⟨W1, hW1⟩ : ∃ W1, W1 = w.alloc (.cells #[.bool false, .string ⟨#[]⟩] 34) := ⟨_, rfl⟩
   have hbW : Below w.heap.size w W1 := by rw [hW1]; exact (Below.refl _ _).alloc (Nat.le_refl _) _
   have hres : Blk W1 w.heap.size 34 #[.bool false, .string ⟨#[]⟩] := by rw [hW1]; exact Blk.new _ _ _
   have hrW : ReadsW W1 B (some ad) (wds M) := by rw [hW1]; exact Hr.out.alloc hB _
   have HrW := Lib.hid hrW
   have hBW : W1.heap.size = w.heap.size + 1 := by rw [hW1, World.size_alloc]
   have HBW := Lib.hid hBW
   clear hBW
   rw [← hW1]
   clear hW1 hrW
   go_loopg [7] nb (fun k iv wr => ∃ (i : Nat) (L : List UInt8), iv = .int .i64 (i : Int) ∧ k = nb - i ∧ i ≤ nb ∧ Blk wr (w.heap.size + 1) 5 (bcells L) ∧ Below (w.heap.size + 1) W1 wr ∧
    Hid (L.length = nb ∧ bval (L.drop (nb - i)) = M % 256 ^ i))
   case atStart => exact ⟨0, List.replicate nb 0, rfl, by omega, by omega, by rw [← HBW.out]; exact Blk.new _ _ _, (Below.refl _ _).alloc (by rw [HBW.out]; exact Nat.le_refl _) _, by simp, by rw [List.drop_of_length_le (by simp), Nat.pow_zero, Nat.mod_one]; rfl⟩
   case round =>
    obtain ⟨i, L, rfl, hk, hi, hblk, hbel, hL⟩ := hrel
    have Hk2 := Lib.hid hk
    clear hk
    by_cases hin : i < nb
    ·have hi4 : i / 4 < (wds M).length := by have := Hm.out; omega
     obtain ⟨ad2, e2, hb2, c1⟩ := (HrW.out.below (hbel.mono (by omega))).at_ hi4
     injection e2 with e2
     subst e2
     rw [← at_get] at c1
     have hbw := byte_word (m := M) (i := i)
     have hu := at_lt (wd_w M) (i / 4)
     have hni : (i : Int) / 4 < (m : Int) := by omega
     have hjL : nb - 1 - i < L.length := by have := hL.out.1; omega
     have hout : wr.cell? ⟨w.heap.size + 1, nb - 1 - i, none⟩ = some (.int .u8 ((L[nb - 1 - i].toNat : Nat) : Int)) := by rw [hblk.cell, bcells_get, List.getElem?_eq_getElem hjL]; rfl
     have hfz := hblk.frozen (nb - 1 - i)
     generalize at_ (wds M) (i / 4) = u2 at *
     generalize L[nb - 1 - i].toNat = y0 at *
     have hii : (i : Int) < (nb : Int) := by omega
     have Hbw := Lib.hid hbw
     clear hbw hi4 hjL
     go_wp2_with fail
     obtain ⟨X, hX⟩ : ∃ X : UInt8, X = UInt8.ofNat (M / 256 ^ i % 256) := ⟨_, rfl⟩
     have hXn : X.toNat = M / 256 ^ i % 256 := by rw [hX, byte_nat]
     have hval : (u2 : Int) / 2 ^ (8 * (i % 4)) % 256 = (X.toNat : Int) := by
      rw [hXn, Hbw.out, pow256, Nat.mul_comm 8, Int.natCast_emod, Int.natCast_ediv, Int.natCast_pow]; rfl
     rw [hval]
     go_roundg (nb - (i + 1))
     case measure => have := Hk2.out; omega
     case rel =>
      refine ⟨i + 1, L.set (nb - 1 - i) X, rfl, rfl, by omega, ?_, hbel.setCell (by show w.heap.size + 1 ≤ w.heap.size + 1; omega) _, by rw [List.length_set]; exact hL.out.1, ?_⟩
      ·have := hblk.set_ (nb - 1 - i) (.int .u8 (X.toNat : Int))
       rwa [bcells_set] at this
      ·have hjl : nb - (i + 1) < (L.set (nb - 1 - i) X).length := by rw [List.length_set, hL.out.1]; omega
       rw [bval_drop hjl, List.length_set, hL.out.1]
       have e1 : (L.set (nb - 1 - i) X)[nb - (i + 1)] = X := by
        simp only [show nb - (i + 1) = nb - 1 - i by omega, List.getElem_set_self]
       rw [e1, show nb - (i + 1) + 1 = nb - i by omega, List.drop_set_of_lt (by omega), hL.out.2, Nat.mod_pow_succ, hXn, show nb - (nb - i) = i by omega]
       rw [Nat.mul_comm, Nat.add_comm]
    ·have hi' : i = nb := by omega
     have hii : (nb : Int) ≤ (i : Int) := by omega
     have hv := hL.out.2
     rw [show nb - i = 0 by omega, List.drop_zero, hi', Nat.mod_eq_of_lt (by rw [Hnb.out.1]; exact (bytes_len M).1)] at hv
     have hb := bys_of (L := L) (m := M) (by rw [hL.out.1, Hnb.out.1]) hv
     have Hb := Lib.hid hb
     have hLn := hL.out.1
     have hstr := run_str (w := wr) (c := nb) (A := some ⟨w.heap.size + 1, 0, none⟩) (B := w.heap.size + 2) (l := L) hLn.symm (readsb_blk hblk (by omega))
     have hr2 := hres.below hbel (by omega)
     have c0 := hr2.cell 0
     have c1 := hr2.cell 1
     have f0 := hr2.frozen 0
     have f1 := hr2.frozen 1
     have hBel2 : Below w.heap.size w wr := hbW.trans (hbel.mono (by omega))
     clear hv hb hi' hLn hin
     go_wp2_with fail
     have hr3 := (hr2.set_ 0 (.bool neg)).set_ 1 (.string ⟨L.toArray⟩)
     have d0 := hr3.cell 0
     have d1 := hr3.cell 1
     simp at d0 d1
     refine bodyPost_ret (v := .agg #[.bool neg, .string ⟨L.toArray⟩]) (by simp [results, Tryz.results113, go_sem, d0, d1]) rfl ?_
     exact ⟨by rw [Hb.out], (hBel2.setCell (Nat.le_refl _) _).setCell (Nat.le_refl _) _⟩
  ·have hne := byte_over (m := M) (n := j) (by rw [← Hnb.out.1]; omega)
   have hq : (((u : Int) / 2 ^ (8 * (j % 4))).tmod 256 == 0) = true := by rw [e1, hne]; rfl
   clear hbw e1 hne hj4
   go_wp2_with fail
   go_roundg j
   case measure => have := Hk.out; omega
   case rel => exact ⟨j, rfl, rfl, by omega, by omega, rfl⟩
theorem made_any {w : World} {B n c : Nat} {A : Option Addr} {l : List Nat} {neg : Bool} (h : ReadsW w B A l) (hB : B ≤ w.heap.size) (hn : n = l.length) (hc : n ≤ c) (hcl : c ≤ 9223372036854775807) (hnl : n ≤ 1000000000) (hw : Wd l) :
  Calls Tryz.prog 113 #[.bool neg, .slice A n c] w (Told w (enc (sgn neg (val l)))) := by
 rcases Nat.eq_zero_or_pos (val l) with h0 | h0
 ·exact made_zero h hB hn hc hcl hw h0
 ·exact made_pos h hB hn hc hcl hnl hw rfl h0
def Fmd (s : ByteArray) : Prop := Formed s.data.toList ∧ s.size ≤ 100000000
theorem Fmd.of_may {n : Bool} {s : ByteArray} (h : MayL n s.data.toList) : Fmd s := ⟨h.2.2, by have hl : s.data.toList.length = s.size := Array.length_toList; have := h.1; omega⟩
theorem Fmd.len {s : ByteArray} (h : Fmd s) : (wds (bval s.data.toList)).length ≤ 25000001 := by
 rw [words_len h.1]
 have hl : s.data.toList.length = s.size := Array.length_toList
 have := h.2
 omega
def mayF (n : Bool) (s : ByteArray) : Bool := if s.size = 0 then !n else match s.data.toList.head? with | some b => b != 0 | none => false
theorem mayF_pos {n : Bool} {s : ByteArray} (h : 0 < s.size) : mayF n s = !((s[0].toNat : Int) == 0) := by
 unfold mayF
 rw [if_neg (by omega), str_head h]
 show (s[0] != 0) = _
 rw [bne, Bool.not_inj_iff, Bool.eq_iff_iff, beq_iff_eq, beq_iff_eq, ← UInt8.toNat_inj]
 constructor
 ·intro h; rw [h]; rfl
 ·intro h; exact Int.ofNat.inj h
def mayB (n : Bool) (s : ByteArray) : Bool := mayF n s && decide (s.size ≤ 16384)
theorem mayB_iff {n : Bool} {s : ByteArray} : mayB n s = true ↔ MayL n s.data.toList := by
 have hl : s.data.toList.length = s.size := Array.length_toList
 unfold mayB
 rw [Bool.and_eq_true, decide_eq_true_iff]
 rcases Nat.eq_zero_or_pos s.size with h0 | h0
 ·have he : s.data.toList = [] := List.eq_nil_of_length_eq_zero (by omega)
  unfold mayF
  rw [if_pos h0]
  constructor
  ·rintro ⟨h1, h2⟩
   exact ⟨by omega, fun _ => by simpa using h1, by rw [he]; intro x hx; cases hx⟩
  ·rintro ⟨h1, h2, h3⟩
   exact ⟨by rw [h2 he]; rfl, by omega⟩
 ·unfold mayF
  rw [if_neg (by omega), str_head h0]
  constructor
  ·rintro ⟨h1, h2⟩
   refine ⟨by omega, fun h => by rw [h] at hl; simp at hl; omega, fun x hx => ?_⟩
   rw [str_head h0] at hx
   injection hx with hx
   subst hx
   exact bne_iff_ne.1 h1
  ·rintro ⟨h1, h2, h3⟩
   exact ⟨bne_iff_ne.2 (h3 _ (str_head h0)), by omega⟩
def Calm (w : World) (v : Value) (e : Ending) (w' : World) : Prop := e = .returned v ∧ Below w.heap.size w w'
set_option maxRecDepth 100000 in
theorem formed_any {w : World} {n : Bool} {s : ByteArray} :
  Calls Tryz.prog 144 #[.agg #[.bool n, .string s]] w (Calm w (.bool (mayF n s))) := by
 rcases Nat.eq_zero_or_pos s.size with h0 | h0
 ·obtain ⟨z1, z2⟩ := str_none h0
  have hm : mayF n s = !n := by unfold mayF; rw [h0]; cases n <;> simp
  rw [hm]
  clear hm h0
  go_enter Tryz.func144, Tryz.ntmps144
  go_wp2
  go_ret
  exact ⟨rfl, (Below.refl _ _).alloc (Nat.le_refl _) _⟩
 ·obtain ⟨z1, z2⟩ := str_facts h0
  have hi0 : (0 : Int) < (s.size : Int) := by omega
  have hm := mayF_pos (n := n) h0
  rw [hm]
  clear hm
  go_enter Tryz.func144, Tryz.ntmps144
  go_wp2
  go_ret
  exact ⟨rfl, (Below.refl _ _).alloc (Nat.le_refl _) _⟩
set_option maxRecDepth 100000 in
theorem rsign_any {w : World} {n : Bool} {s : ByteArray} (hf : Fmd s) :
  Calls Tryz.prog 145 #[.agg #[.bool n, .string s]] w (Calm w (.int .i64 (sg (num (n, s))))) := by
 have hl : s.data.toList.length = s.size := Array.length_toList
 rcases Nat.eq_zero_or_pos s.size with h0 | h0
 ·obtain ⟨z1, z2⟩ := str_none h0
  have hz : sg (num (n, s)) = 0 := by
   have he : s.data.toList = [] := List.eq_nil_of_length_eq_zero (by omega)
   unfold num
   rw [he]
   cases n <;> rfl
  rw [hz]
  clear hz hf hl h0
  go_enter Tryz.func145, Tryz.ntmps145
  go_wp2
  go_ret
  exact ⟨rfl, (Below.refl _ _).alloc (Nat.le_refl _) _⟩
 ·obtain ⟨z1, z2⟩ := str_facts h0
  have hb := bval_pos hf.1 (fun h => by rw [h] at hl; simp at hl; omega)
  rw [sg_num hb]
  clear hf hl h0 hb
  cases n
  ·go_enter Tryz.func145, Tryz.ntmps145
   go_wp2
   go_ret
   exact ⟨rfl, (Below.refl _ _).alloc (Nat.le_refl _) _⟩
  ·go_enter Tryz.func145, Tryz.ntmps145
   go_wp2
   go_ret
   exact ⟨rfl, (Below.refl _ _).alloc (Nat.le_refl _) _⟩
theorem up_add {cy x s : Nat} (hs : s < 32) (hc : cy < 2 ^ s) (hx : x < 4294967296) :
  IntKind.u64.wrap ((cy : Int) + IntKind.u64.wrap ((x : Int) * 2 ^ s)) = ((cy + x * 2 ^ s : Nat) : Int) ∧ (cy + x * 2 ^ s) / 4294967296 < 2 ^ s ∧ cy + x * 2 ^ s ≤ 9223372036854775807 := by
 have h1 : (2 : Nat) ^ s ≤ 2 ^ 31 := Nat.pow_le_pow_right (by decide) (by omega)
 have h2 : (x + 1) * 2 ^ s ≤ 4294967296 * 2 ^ s := Nat.mul_le_mul_right _ hx
 rw [Nat.add_mul, Nat.one_mul] at h2
 have e1 : ((x : Int) * 2 ^ s) = ((x * 2 ^ s : Nat) : Int) := by rw [Int.natCast_mul, Int.natCast_pow]; rfl
 refine ⟨?_, ?_, by omega⟩
 ·rw [e1]
  generalize x * 2 ^ s = q at *
  rw [IntWalk.u64_in (q : Int) (by omega), IntWalk.u64_in _ (by omega)]
  omega
 ·exact (Nat.div_lt_iff_lt_mul (by decide)).2 (by omega)
set_option maxRecDepth 100000 in
set_option maxHeartbeats 2000000 in
theorem rup_some {w : World} {B n m c : Nat} {A : Option Addr} {la : List Nat} (h1 : ReadsW w B A la) (hB : B ≤ w.heap.size) (hm : m = la.length) (hml : m ≤ 1000000000) (hnl : n ≤ 1000000000) (ha : Wd la) (hpos : 0 < m) :
  Calls Tryz.prog 170 #[.slice A m c, .int .i64 (n : Int)] w (CutW w (val la * 2 ^ n)) := by
 have Hm := Lib.hid hm
 have hmk : ∀ w : World, (Instr.makeSlice 149 (.int .i64 ((n : Int) / 32)) (.int .i64 ((n : Int) / 32 + (m : Int) + 1))).run Tryz.prog w = .ok (.slice (some ⟨w.heap.size, 0, none⟩) (n / 32) (n / 32 + m + 1)) (w.alloc (.cells (wcells (List.replicate (n / 32 + m + 1) 0)) 163)) := fun w => by
  have := run_makeWc (n / 32) (n / 32 + m + 1) (by omega) (by omega) w
  rw [← this]
  congr 3
 have hm0 : ((m : Int) == 0) = false := by simp; omega
 have hmne : ¬ m = 0 := by omega
 clear hm
 go_enter Tryz.func170, Tryz.ntmps170
 go_wp2
 go_loopg [5, 6, 7] m (fun k ov cy iv wr => ∃ (A' : Option Addr) (n' c' i c : Nat) (L : List Nat), ov = .slice A' n' c' ∧ cy = .int .u64 (c : Int) ∧ iv = .int .i64 (i : Int) ∧ k = m - i ∧ i ≤ m ∧ c < 4294967296 ∧ OwnW wr w.heap.size (.slice A' n' c') L ∧ Below w.heap.size w wr ∧
  Hid (L.length = n / 32 + i ∧ Wd L ∧ c < 2 ^ (n % 32) ∧ val L + 4294967296 ^ (n / 32 + i) * c = 2 ^ n * val (la.take i)))
 case atStart => exact ⟨_, _, _, 0, 0, List.replicate (n / 32) 0, rfl, rfl, rfl, by omega, by omega, by omega, OwnW.made w (by omega) (by omega), (Below.refl _ _).alloc (Nat.le_refl _) _, by simp, wd_zeros _, Nat.two_pow_pos _, by simp [val_nil, val_zeros]⟩
 case round =>
  obtain ⟨A', n', c', i, cy, L, rfl, rfl, rfl, hk, hi, hc, hown, hbel, hL⟩ := hrel
  have Hk := Lib.hid hk
  clear hk
  have h1' := h1.below (hbel.mono hB)
  have hsz := hbel.size
  by_cases hin : i < m
  ·have hia : i < la.length := by rw [← Hm.out]; exact hin
   obtain ⟨ad, rfl, hb1, c1⟩ := h1'.at_ hia
   have w1 := wd_get ha _ hia
   have hii : (i : Int) < (m : Int) := by omega
   have E1 := Lib.hid (val_take_succ hia)
   clear h1' h1
   generalize hx : la[i] = x at *
   clear hx
   have hlo := up_add (Nat.mod_lt n (by decide)) hL.out.2.2.1 w1
   obtain ⟨T, hT⟩ : ∃ T : Nat, T = cy + x * 2 ^ (n % 32) := ⟨_, rfl⟩
   rw [← hT] at hlo
   obtain ⟨hso, ht1, ht2⟩ := hlo
   have HT := Lib.hid (And.intro hT ht1)
   have hLl : L.length ≤ 2000000000 := by have := hL.out.1; omega
   clear ht1 hT
   go_wp2_with (at_builtin; refine wpW_push rfl (.tmp 36) (.tmp 40) rfl w.heap.size _ L hown rfl (y := T % 4294967296) (by rw [Int.natCast_emod]; rfl) rfl (by omega) (by omega) ?_; intro A2 n2 c2 w1 ho hkeep _)
   rw [show (T : Int) / 4294967296 = ((T / 4294967296 : Nat) : Int) by omega]
   go_roundg (m - (i + 1))
   case measure => have := Hk.out; omega
   case rel =>
    refine ⟨A2, n2, c2, i + 1, T / 4294967296, L ++ [T % 4294967296], rfl, rfl, rfl, rfl, by omega, by omega, ho, hkeep w hbel, ?_⟩
    have hl := hL.out
    refine ⟨by rw [List.length_append, hl.1]; rfl, wd_append.2 ⟨hl.2.1, wd_cons.2 ⟨Nat.mod_lt _ (by decide), wd_nil⟩⟩, HT.out.2, ?_⟩
    rw [val_snoc, hl.1, E1.out, Nat.mul_add, ← Nat.add_assoc, Nat.pow_succ]
    rw [← Nat.mul_assoc (2 ^ n)]
    exact left_step hl.2.2.2 HT.out.1 (left_pow n i).symm
  ·have hi' : i = m := by omega
   subst hi'
   have hl := hL.out
   have hz : val (L ++ [cy]) = val la * 2 ^ n := by
    rw [val_snoc, hl.1, hl.2.2.2, List.take_of_length_le (by rw [Hm.out]; exact Nat.le_refl _), Nat.mul_comm]
   have Hz := Lib.hid hz
   have hLl : L.length ≤ 2000000000 := by have := hl.1; omega
   have Hw := Lib.hid (wd_append.2 ⟨hl.2.1, wd_cons.2 ⟨hc, wd_nil⟩⟩)
   have hcc : (cy : Int) % 4294967296 = (cy : Int) := by omega
   clear h1' h1 hz hl
   go_wp2_with (at_builtin; refine wpW_push rfl (.tmp 44) (.tmp 47) rfl w.heap.size _ L hown rfl (y := cy) rfl rfl (by omega) (by omega) ?_; intro A2 n2 c2 w1 ho hkeep _)
   have hcut := rcut_any ho.reads ho.len.1 ho.len.2.1 ho.len.2.2 Hw.out
   have Hc := Lib.hid (And.intro ho hcut)
   have Hk2 := Lib.hid (hkeep w hbel)
   clear ho hcut hkeep
   go_wp2_with (go_at_call 112; refine Hc.out.2.mono ?_; rintro e w' ⟨q, rfl, hq, rfl⟩; have Hq := Lib.hid hq; clear hq)
   go_ret
   have hwt := (wds_take _ _ rfl Hw.out).2
   have hn2 := Hc.out.1.len
   refine ⟨_, _, _, rfl, by rw [← Hz.out]; exact Hq.out, ?_, hn2.2.2, by rw [← Hz.out]; exact reads_cut Hc.out.1.reads Hw.out, Hk2.out⟩
   have := Hq.out
   omega
set_option maxRecDepth 100000 in
theorem rup_none {w : World} {n c : Nat} {A : Option Addr} :
  Calls Tryz.prog 170 #[.slice A 0 c, .int .i64 (n : Int)] w (CutW w 0) := by
 go_enter Tryz.func170, Tryz.ntmps170
 go_wp2
 go_ret
 exact ⟨none, 0, 0, rfl, by rw [wds_zero]; rfl, by omega, by omega, by rw [wds_zero]; exact ReadsW.none_ _ _ _, Below.refl _ _⟩
theorem rup_any {w : World} {B n m c : Nat} {A : Option Addr} {la : List Nat} (h1 : ReadsW w B A la) (hB : B ≤ w.heap.size) (hm : m = la.length) (hml : m ≤ 1000000000) (hnl : n ≤ 1000000000) (ha : Wd la) :
  Calls Tryz.prog 170 #[.slice A m c, .int .i64 (n : Int)] w (CutW w (val la * 2 ^ n)) := by
 rcases Nat.eq_zero_or_pos m with h | h
 ·have h2 : la = [] := List.eq_nil_of_length_eq_zero (by omega)
  subst h2
  rw [h, val_nil, Nat.zero_mul]
  exact rup_none
 ·exact rup_some h1 hB hm hml hnl ha h
theorem at_drop (la : List Nat) (k i : Nat) : at_ (la.drop k) i = at_ la (k + i) := by
 unfold at_
 rw [List.getD_eq_getElem?_getD, List.getD_eq_getElem?_getD, List.getElem?_drop]
theorem down_val {la : List Nat} (ha : Wd la) (n : Nat) : val la / 2 ^ n = val (la.drop (n / 32)) / 2 ^ (n % 32) := by
 rcases Nat.lt_or_ge (n / 32) la.length with h | h
 ·exact div_words ha (by omega)
 ·rw [List.drop_of_length_le h, val_nil, Nat.zero_div]
  refine Nat.div_eq_of_lt ?_
  have h1 := val_lt ha
  have h2 : 4294967296 ^ la.length ≤ 2 ^ n := by
   rw [show (4294967296 : Nat) = 2 ^ 32 by decide, ← Nat.pow_mul]
   exact Nat.pow_le_pow_right (by decide) (by omega)
  omega
theorem down_q {x y s : Nat} : (((y : Int) * 4294967296 + (x : Int)) / 2 ^ s) % 4294967296 = (((x + 4294967296 * y) / 2 ^ s % 4294967296 : Nat) : Int) := by
 rw [Int.natCast_emod, Int.natCast_ediv, Int.natCast_pow]
 congr 2
 omega
set_option maxRecDepth 100000 in
set_option maxHeartbeats 2000000 in
theorem rdown_any {w : World} {B n m c : Nat} {A : Option Addr} {la : List Nat} (h1 : ReadsW w B A la) (hB : B ≤ w.heap.size) (hm : m = la.length) (hml : m ≤ 1000000000) (hnl : n ≤ 1000000000) (ha : Wd la) :
  Calls Tryz.prog 172 #[.slice A m c, .int .i64 (n : Int)] w (CutW w (val la / 2 ^ n)) := by
 have Hm := Lib.hid (And.intro hm ha)
 have Hv := Lib.hid (down_val ha n)
 have H1 := Lib.hid h1
 obtain ⟨ld, hld⟩ : ∃ ld, ld = la.drop (n / 32) := ⟨_, rfl⟩
 rw [← hld] at Hv
 obtain ⟨p, hp⟩ : ∃ p, p = m - n / 32 := ⟨_, rfl⟩
 have hpl : p = ld.length := by rw [hld, List.length_drop]; omega
 have Hp := Lib.hid (And.intro hp (And.intro hpl hld))
 have hpb : p ≤ 1000000000 := by omega
 clear hm ha h1 hld hp hpl
 go_enter Tryz.func172, Tryz.ntmps172
 go_wp2_with fail
 go_loopg [5, 6] p (fun k ov iv wr => ∃ (A' : Option Addr) (n' c' t i : Nat) (L : List Nat), ov = .slice A' n' c' ∧ iv = .int .i64 (i : Int) ∧ Hid (i = n / 32 + t) ∧ k = p - t ∧ t ≤ p ∧ OwnW wr w.heap.size (.slice A' n' c') L ∧ Below w.heap.size w wr ∧
  Hid (L.length = t ∧ Wd L ∧ 2 ^ (n % 32) * val L + at_ ld 0 % 2 ^ (n % 32) = val (ld.take t) + 4294967296 ^ t * (at_ ld t % 2 ^ (n % 32))))
 case atStart => exact ⟨_, _, _, 0, n / 32, [], rfl, rfl, Lib.hid rfl, by omega, by omega, OwnW.nil w _, Below.refl _ _, rfl, wd_nil, by simp [val_nil]⟩
 case round =>
  obtain ⟨A', n', c', t, i, L, rfl, rfl, Hi, hk, ht, hown, hbel, hL⟩ := hrel
  have Hk := Lib.hid hk
  clear hk
  have hsz := hbel.size
  by_cases hin : i < m
  ·have hil : i < la.length := by rw [← Hm.out.1]; exact hin
   have hid : t < ld.length := by rw [← Hp.out.2.1]; have := Hp.out.1; have := Hi.out; omega
   have hrd := (H1.out.below (hbel.mono hB))
   have HR' : Calls Tryz.prog 143 #[.slice A m c, .int .i64 ((i : Int) + 1)] wr.drew (fun e w' => e = .returned (.int .u64 ((at_ la (i + 1) : Nat) : Int)) ∧ w' = wr.drew) := by
    have := rat_any (w := wr.drew) (c := c) (i := i + 1) hrd Hm.out.1 Hm.out.2
    exact this
   obtain ⟨ad, rfl, hb1, c1⟩ := hrd.at_ hil
   have E1 := Lib.hid (And.intro (val_take_succ hid) (And.intro (at_get hid) (at_drop la (n / 32) (t + 1))))
   have hx0 : ld[t] = la[i] := by have := Hp.out.2.2; subst this; rw [List.getElem_drop]; simp only [Hi.out]
   rw [hx0, ← Hp.out.2.2] at E1
   have w1 := wd_get Hm.out.2 _ hil
   have w2 := at_lt Hm.out.2 (i + 1)
   rw [show n / 32 + (t + 1) = i + 1 by have := Hi.out; omega] at E1
   generalize at_ la (i + 1) = y at *
   generalize la[i] = x at *
   have HR := Lib.hid HR'
   have hii : (i : Int) < (m : Int) := by omega
   have hLl : L.length ≤ 2000000000 := by have := hL.out.1; omega
   clear HR' hrd hx0 hil hid
   obtain ⟨S, hS⟩ : ∃ S, S = n % 32 := ⟨_, rfl⟩
   have q4 : (n : Int).tmod 32 = (S : Int) := by rw [hS]; rfl
   have q5 : S ≤ 31 := by omega
   have HS := Lib.hid hS
   clear hS
   have q1 : IntKind.i64.wrap ((i : Int) + 1) = (i : Int) + 1 := IntWalk.i64_in _ (by omega)
   have q2 : IntKind.u64.wrap ((y : Int) * 4294967296) = (y : Int) * 4294967296 := IntWalk.u64_in _ (by omega)
   have q3 : IntKind.u64.wrap ((y : Int) * 4294967296 + (x : Int)) = (y : Int) * 4294967296 + (x : Int) := IntWalk.u64_in _ (by omega)
   go_wp2_with fail
   refine wp_region_noPanic ?_
   refine wp_region_HK (fun w' => w'.cell? (ad.add i) = some (.int .u32 (x : Int))) 14 (by kernel_rfl) c1 (fun hHeld => ?_)
   refine wpHK_pure (i := 0) (oi := Oper.mk (some 16) _ _ _ _ _) (v := ?_) rfl (by kernel_rfl) (by kernel_rfl) (by kernel_rfl) (fun _ _ _ h => h) (Or.inl ⟨by rfl, ?_⟩) ?_
   rotate_left
   ·(intro w' _; go_simp; try with_reducible rfl)
   try simp only [Act.put, List.setIfInBounds_toArray, List.set_cons_zero, List.set_cons_succ]
   refine wpHK_pure (i := 1) (oi := Oper.mk (some 17) _ _ _ _ _) (v := ?_) rfl (by kernel_rfl) (by kernel_rfl) (by kernel_rfl) (fun _ _ _ h => h) (Or.inl ⟨by rfl, ?_⟩) ?_
   rotate_left
   ·(intro w' _; go_simp; try with_reducible rfl)
   try simp only [Act.put, List.setIfInBounds_toArray, List.set_cons_zero, List.set_cons_succ]
   refine wpHK_pure (i := 2) (oi := Oper.mk (some 18) _ _ _ _ _) (v := ?_) rfl (by kernel_rfl) (by kernel_rfl) (by kernel_rfl) (fun _ _ _ h => h) (Or.inl ⟨by rfl, ?_⟩) ?_
   rotate_left
   ·(intro w' _; go_simp; try with_reducible rfl)
   try simp only [Act.put, List.setIfInBounds_toArray, List.set_cons_zero, List.set_cons_succ]
   refine wpHK_pure (i := 5) (oi := Oper.mk (some 21) _ _ _ _ _) (v := ?_) rfl (by kernel_rfl) (by kernel_rfl) (by kernel_rfl) (fun _ _ _ h => h) (Or.inl ⟨by rfl, ?_⟩) ?_
   rotate_left
   ·(intro w' _; go_simp; try with_reducible rfl)
   try simp only [Act.put, List.setIfInBounds_toArray, List.set_cons_zero, List.set_cons_succ]
   refine wpHK_pure (i := 6) (oi := Oper.mk (some 22) _ _ _ _ _) (v := ?_) rfl (by kernel_rfl) (by kernel_rfl) (by kernel_rfl) (fun _ _ _ h => h) (Or.inl ⟨by rfl, ?_⟩) ?_
   rotate_left
   ·(intro w' _; go_simp; try with_reducible rfl)
   try simp only [Act.put, List.setIfInBounds_toArray, List.set_cons_zero, List.set_cons_succ]
   refine wpHK_pure (i := 7) (oi := Oper.mk (some 23) _ _ _ _ _) (v := ?_) rfl (by kernel_rfl) (by kernel_rfl) (by kernel_rfl) (fun _ _ _ h => h) (Or.inl ⟨by rfl, ?_⟩) ?_
   rotate_left
   ·(intro w' _; go_simp; try with_reducible rfl)
   try simp only [Act.put, List.setIfInBounds_toArray, List.set_cons_zero, List.set_cons_succ]
   refine wpHK_pure (i := 11) (oi := Oper.mk (some 27) _ _ _ _ _) (v := ?_) rfl (by kernel_rfl) (by kernel_rfl) (by kernel_rfl) (fun _ _ _ h => h) (Or.inl ⟨by rfl, ?_⟩) ?_
   rotate_left
   ·(intro w' _; go_simp; try with_reducible rfl)
   try simp only [Act.put, List.setIfInBounds_toArray, List.set_cons_zero, List.set_cons_succ]
   refine wpHK_pure (i := 12) (oi := Oper.mk (some 28) _ _ _ _ _) (v := ?_) rfl (by kernel_rfl) (by kernel_rfl) (by kernel_rfl) (fun _ _ _ h => h) (Or.inl ⟨by rfl, ?_⟩) ?_
   rotate_left
   ·(intro w' _; go_simp; try with_reducible rfl)
   try simp only [Act.put, List.setIfInBounds_toArray, List.set_cons_zero, List.set_cons_succ]
   refine wpHK_take (i := 8) (oi := Oper.mk (some 24) _ _ _ _ _) (v := ?_) rfl (by kernel_rfl) (by kernel_rfl) (by kernel_rfl) (by kernel_rfl) (fun _ _ _ h => h) (Or.inl ⟨by rfl, ?_⟩) (by assumption) ?_
   rotate_left
   ·(intro w' hSw; (try dsimp only at hSw); (obtain s1 := hSw); go_simp; try with_reducible rfl)
   try simp only [Act.put, List.setIfInBounds_toArray, List.set_cons_zero, List.set_cons_succ]
   refine wpHK_pure (i := 9) (oi := Oper.mk (some 25) _ _ _ _ _) (v := ?_) rfl (by kernel_rfl) (by kernel_rfl) (by kernel_rfl) (fun _ _ _ h => h) (Or.inl ⟨by rfl, ?_⟩) ?_
   rotate_left
   ·(intro w' _; go_simp; try with_reducible rfl)
   try simp only [Act.put, List.setIfInBounds_toArray, List.set_cons_zero, List.set_cons_succ]
   refine wpHK_one (j := 3) (o := Oper.mk (some 19) _ _ _ _ _) rfl (by kernel_rfl) (fun K hK => ?_)
   go_simp
   refine (HR.out).mono ?_
   rintro e w9 ⟨rfl, rfl⟩
   refine hK.out _ _ c1 (fun _ => ?_)
   clear hK K hHeld
   have hHeld := c1
   try simp only [Act.put, List.setIfInBounds_toArray, List.set_cons_zero, List.set_cons_succ]
   refine wpHK_pure (i := 4) (oi := Oper.mk (some 20) _ _ _ _ _) (v := ?_) rfl (by kernel_rfl) (by kernel_rfl) (by kernel_rfl) (fun _ _ _ h => h) (Or.inl ⟨by rfl, ?_⟩) ?_
   rotate_left
   ·(intro w' _; go_simp; try with_reducible rfl)
   try simp only [Act.put, List.setIfInBounds_toArray, List.set_cons_zero, List.set_cons_succ]
   refine wpHK_pure (i := 10) (oi := Oper.mk (some 26) _ _ _ _ _) (v := ?_) rfl (by kernel_rfl) (by kernel_rfl) (by kernel_rfl) (fun _ _ _ h => h) (Or.inl ⟨by rfl, ?_⟩) ?_
   rotate_left
   ·(intro w' _; go_simp; try with_reducible rfl)
   try simp only [Act.put, List.setIfInBounds_toArray, List.set_cons_zero, List.set_cons_succ]
   refine wpHK_pure (i := 13) (oi := Oper.mk (some 29) _ _ _ _ _) (v := ?_) rfl (by kernel_rfl) (by kernel_rfl) (by kernel_rfl) (fun _ _ _ h => h) (Or.inl ⟨by rfl, ?_⟩) ?_
   rotate_left
   ·(intro w' _; go_simp; try with_reducible rfl)
   try simp only [Act.put, List.setIfInBounds_toArray, List.set_cons_zero, List.set_cons_succ]
   refine wpHK_pure (i := 14) (oi := Oper.mk (some 7) _ _ _ _ _) (v := ?_) rfl (by kernel_rfl) (by kernel_rfl) (by kernel_rfl) (fun _ _ _ h => h) (Or.inl ⟨by rfl, ?_⟩) ?_
   rotate_left
   ·(intro w' _; go_simp; try with_reducible rfl)
   try simp only [Act.put, List.setIfInBounds_toArray, List.set_cons_zero, List.set_cons_succ]
   refine wpHK_done (by kernel_rfl) ?_ _
   refine NoPanic.normal ?_
   have q6 : (((y : Int) * 4294967296 + (x : Int)) / 2 ^ S) % 4294967296 = (((x + 4294967296 * y) / 2 ^ S % 4294967296 : Nat) : Int) := down_q
   clear q2 q3 q4 q5 c1
   go_wp2_with (at_builtin; refine wpW_push (w := wr.drew) rfl (.tmp 30) (.tmp 34) rfl w.heap.size _ L (hown.drewN 1) rfl (y := (x + 4294967296 * y) / 2 ^ S % 4294967296) (by rw [← q6, Int.tmod_eq_emod_of_nonneg (Int.ediv_nonneg (by omega) (Int.le_of_lt (Int.pow_pos (by decide)))), Int.emod_emod]) rfl (by omega) hbel.size ?_; intro A2 n2 c2 W1 ho hkeep _)
   go_roundg (p - (t + 1))
   case measure => have := Hk.out; have := Hp.out.1; have := Hi.out; omega
   case rel =>
    refine ⟨A2, n2, c2, t + 1, i + 1, L ++ [(x + 4294967296 * y) / 2 ^ S % 4294967296], rfl, rfl, Lib.hid (by have := Hi.out; omega), rfl, by have := Hp.out.1; have := Hi.out; omega, ho, hkeep w hbel.drew, ?_⟩
    have hl := hL.out
    refine ⟨by rw [List.length_append, hl.1]; rfl, wd_append.2 ⟨hl.2.1, wd_cons.2 ⟨Nat.mod_lt _ (by decide), wd_nil⟩⟩, ?_⟩
    have h3 := hl.2.2
    rw [E1.out.2.1] at h3
    rw [val_snoc, hl.1, E1.out.1, ← E1.out.2.2, Nat.pow_succ, HS.out]
    exact right_step h3 (by omega) w1
  ·have hi' : t = p := by have := Hp.out.1; have := Hi.out; omega
   subst hi'
   have hL1 := hL.out.1
   have hz : val L = val la / 2 ^ n := by
    have h3 := hL.out.2.2
    rw [List.take_of_length_le (by rw [← Hp.out.2.1]; exact Nat.le_refl _), at_end (i := t) (by rw [← Hp.out.2.1]; exact Nat.le_refl _), Nat.zero_mod, Nat.mul_zero, Nat.add_zero] at h3
    rw [Hv.out, ← right_end h3 (Nat.mod_lt _ (Nat.two_pow_pos _))]
   have HT := Lib.hid (rcut_any hown.reads hown.len.1 hown.len.2.1 hown.len.2.2 hL.out.2.1)
   have H3 := Lib.hid hz
   have Ho := Lib.hid hown
   have Hw := Lib.hid hL.out.2.1
   have him : (m : Int) ≤ (i : Int) := by omega
   clear hL1 hz H1 hown
   go_wp2_with (go_at_call 112; refine HT.out.mono ?_; rintro e w' ⟨q, rfl, hq, rfl⟩; have Hq := Lib.hid hq; clear hq)
   go_ret
   have hwt := (wds_take _ _ rfl Hw.out).2
   have hn2 := Ho.out.len
   refine ⟨_, _, _, rfl, by rw [← H3.out]; exact Hq.out, ?_, hn2.2.2, by rw [← H3.out]; exact reads_cut Ho.out.reads Hw.out, hbel⟩
   have := Hq.out
   omega
end Go.Proofs.YtebpggfccljagaaGreatDoor
namespace Go.Proofs.YtebpggfccljagaaGreatDoor
open Go.RowKit
open Wh
set_option linter.unusedSimpArgs false
set_option linter.unusedVariables false
theorem reads_from {w : World} {g B j : Nat} {l : List Nat} (h : Blk w g 163 (wcells l)) (hB : g < B) : ReadsW w B (some ⟨g, j, none⟩) (l.drop j) := by
 refine ⟨⟨by simp, fun _ => ⟨_, rfl, hB, fun i u hu => ?_⟩⟩, fun _ => ⟨_, _, _, rfl, h⟩⟩
 have := h.cell (j + i)
 rw [wcells_get] at this
 rw [List.getElem?_map, List.getElem?_drop] at hu
 rw [hu] at this
 rw [← this]
 unfold Addr.add
 split
 ·rename_i h0; subst h0; rfl
 ·rfl
theorem cmpN_nonpos {a b : Nat} : decide (cmpN a b ≤ 0) = decide (a ≤ b) := by
 unfold cmpN
 by_cases h1 : a < b
 ·rw [if_pos h1, decide_eq_true (show a ≤ b by omega)]; rfl
 ·by_cases h2 : b < a
  ·rw [if_neg h1, if_pos h2, decide_eq_false (show ¬ a ≤ b by omega)]; rfl
  ·rw [if_neg h1, if_neg h2, decide_eq_true (show a ≤ b by omega)]; rfl
theorem mul_len {x V m : Nat} (hx : x < 4294967296) (hm : (wds V).length ≤ m) : (wds (x * V)).length ≤ m + 1 := by
 refine len_wds ?_
 rw [Nat.pow_succ, Nat.mul_comm]
 exact Nat.mul_lt_mul_of_lt_of_le (lt_of_len hm) (Nat.le_of_lt hx) (by decide)
theorem val_single (x : Nat) : val [x] = x := by rw [val_cons, val_nil, Nat.mul_zero, Nat.add_zero]
set_option maxRecDepth 100000 in
set_option maxHeartbeats 4000000 in
theorem rfits_any {w : World} {g N m d j x V : Nat} {C : Option Addr} {L : List Nat} (hblk : Blk w g 163 (wcells L)) (hv : ReadsW w w.heap.size C (wds V)) (hN : N = L.length) (hm : m = (wds V).length) (hj : j + m + 1 ≤ N) (hw : Wd L) (hx : x ≤ 4294967295) (hNl : N ≤ 1000000000) :
  Calls Tryz.prog 171 #[.slice (some ⟨g, 0, none⟩) N N, .slice C m d, .int .i64 (j : Int), .int .u64 (x : Int)] w (Calm w (.bool (decide (x * V ≤ val ((L.drop j).take (m + 1)))))) := by
 have hw1 : Wd [x] := wd_cons.2 ⟨by omega, wd_nil⟩
 have hP := rproduct_any (reads_blk (Blk.new w 163 (wcells [x])) (Nat.lt_succ_self _)) (hv.alloc (Nat.le_refl _) (.cells (wcells [x]) 163) |>.more (Nat.le_succ _)) (by simp) (n := 1) (m := m) (c := 1) (d := d) rfl hm (by omega) (by omega) hw1 (wd_w V)
 rw [val_w, val_single] at hP
 have HP := Lib.hid hP
 have Hh := Lib.hid (And.intro hblk (And.intro hN (And.intro hm hw)))
 clear hP hw1 hblk hN hm hw hv
 go_enter Tryz.func171, Tryz.ntmps171
 go_wp2_with fail
 refine HP.out.mono ?_
 rintro e w2 ⟨A2, n2, c2, rfl, hn2, hc2a, hc2b, hr2, hb2⟩
 have hblk2 := (Hh.out.1.alloc (.cells (wcells [x]) 163)).below hb2 (by have := Hh.out.1.lt; simp; omega)
 have hb0 := (new_below w (.cells (wcells [x]) 163)).trans (hb2.mono (by simp))
 obtain ⟨M, hM⟩ : ∃ M, M = (L.drop j).take (m + 1) := ⟨_, rfl⟩
 have hrM : ReadsW w2 w2.heap.size (some ⟨g, j, none⟩) M := by rw [hM]; exact (reads_from hblk2 hblk2.lt).take _
 have hwM : Wd M := by rw [hM]; exact wd_take (wd_drop Hh.out.2.2.2 _) _
 have hlM : j + m + 1 - j = M.length := by rw [hM, List.length_take, List.length_drop]; have := Hh.out.2.1; omega
 have hC := rcut_any hrM (c := N - j) hlM (by omega) (by omega) hwM
 have hrc := reads_cut hrM hwM
 have HM := Lib.hid hM
 have hU := fun (n3 : Nat) (h3 : n3 = (wds (val M)).length) (hl3 : n3 ≤ 1000000000) => runder_any (c := c2) (d := N - j) hr2 hrc hn2.out h3 (by have := hn2.out; have := mul_len (x := x) (V := V) (m := m) (by omega) (by rw [Hh.out.2.2.1]; exact Nat.le_refl _); omega) (by omega)
 have hlw := (wds_take _ _ rfl hwM).2
 have Hm := Lib.hid (And.intro hlw hlM)
 have HU := Lib.hid hU
 have HC := Lib.hid hC
 have Hb0 := Lib.hid hb0
 clear hU hC hrc hrM hwM hlM hM hblk2 hb0 hb2 hr2 hn2 hlw
 go_wp2_with fail
 refine HC.out.mono ?_
 rintro e w3 ⟨m3, rfl, hm3, rfl⟩
 have HU2 := Lib.hid (HU.out m3 hm3 (by have := Hm.out; omega))
 clear hm3
 go_wp2_with fail
 refine HU2.out.mono ?_
 rintro e w4 ⟨q, rfl, rfl⟩
 go_wp2_with fail
 go_ret
 exact ⟨by rw [← HM.out]; exact congrArg (fun b => Ending.returned (.bool b)) cmpN_nonpos, below_drewN Hb0.out _⟩
end Go.Proofs.YtebpggfccljagaaGreatDoor
namespace Go.Proofs.YtebpggfccljagaaGreatDoor
open Go.RowKit
open Wh
set_option linter.unusedSimpArgs false
theorem bl_half {x : Nat} (h : 0 < x) : bl x = bl (x / 2) + 1 := by
 have h1 := bl_le h
 have h2 := lt_bl x
 have h0 : 0 < bl x := by
  rcases Nat.eq_zero_or_pos (bl x) with h0 | h0
  ·rw [h0] at h2; omega
  ·exact h0
 obtain ⟨L, hL⟩ : ∃ L, bl x = L + 1 := ⟨bl x - 1, by omega⟩
 rw [hL, Nat.add_sub_cancel] at h1
 rw [hL, Nat.pow_succ] at h2
 rw [hL]
 rcases Nat.eq_zero_or_pos L with h3 | h3
 ·subst h3
  have : x / 2 = 0 := by omega
  rw [this, bl_zero]
 ·obtain ⟨M, rfl⟩ : ∃ M, L = M + 1 := ⟨L - 1, by omega⟩
  rw [Nat.pow_succ] at h1 h2
  rw [bl_eq (m := x / 2) (L := M) (by omega) (by rw [Nat.pow_succ]; omega)]
theorem bl_head {m p t : Nat} (hl : (wds m).length = p + 1) (ht : at_ (wds m) p = t) : bl m = 32 * p + bl t := by
 have htp : 0 < t := by rw [← ht]; exact last_pos hl
 have e := top_one (l := wds m) (p := p) hl
 rw [at_get (by omega)] at ht
 rw [val_w, ht] at e
 have hlo := low_lt (wd_w m) (p := p) (by omega)
 have hB : (4294967296 : Nat) ^ p = 2 ^ (32 * p) := by rw [show (4294967296 : Nat) = 2 ^ 32 by decide, ← Nat.pow_mul]
 rw [hB] at e hlo
 have h1 := bl_le htp
 have h2 := lt_bl t
 have h0 : 0 < bl t := by
  rcases Nat.eq_zero_or_pos (bl t) with h0 | h0
  ·rw [h0] at h2; omega
  ·exact h0
 obtain ⟨L, hL⟩ : ∃ L, bl t = L + 1 := ⟨bl t - 1, by omega⟩
 rw [hL, Nat.add_sub_cancel] at h1
 rw [hL] at h2
 rw [hL, bl_eq (m := m) (L := 32 * p + L) ?_ ?_]
 ·omega
 ·rw [Nat.pow_add]
  have h3 : 2 ^ (32 * p) * 2 ^ L ≤ 2 ^ (32 * p) * t := Nat.mul_le_mul_left _ h1
  rw [Nat.mul_comm _ t] at h3
  omega
 ·rw [show 32 * p + L + 1 = 32 * p + (L + 1) by omega, Nat.pow_add]
  have h3 : 2 ^ (32 * p) * (t + 1) ≤ 2 ^ (32 * p) * 2 ^ (L + 1) := Nat.mul_le_mul_left _ h2
  rw [Nat.mul_comm _ (t + 1), Nat.add_mul, Nat.one_mul] at h3
  omega
set_option maxRecDepth 100000 in
set_option maxHeartbeats 2000000 in
theorem rbits_any {w : World} {B n c m : Nat} {A : Option Addr} (h : ReadsW w B A (wds m)) (hn : n = (wds m).length) (hnl : n ≤ 100000000) :
  Calls Tryz.prog 169 #[.slice A n c] w (fun e w' => e = .returned (.int .i64 ((bl m : Nat) : Int)) ∧ w = w') := by
 rcases Nat.eq_zero_or_pos n with h0 | h0
 ·have hm : m = 0 := by
   have h1 : wds m = [] := List.eq_nil_of_length_eq_zero (by omega)
   rw [← val_w m, h1]; rfl
  rw [hm, bl_zero]
  clear h hn hnl hm
  subst h0
  go_enter Tryz.func169, Tryz.ntmps169
  go_wp2
  go_ret
  exact ⟨rfl, rfl⟩
 ·obtain ⟨p, rfl⟩ : ∃ p, n = p + 1 := ⟨n - 1, by omega⟩
  obtain ⟨ad, rfl, hb1, c0⟩ := h.at_ (k := p) (by omega)
  rw [← at_get] at c0
  have hbm := bl_head hn.symm rfl
  have ht := at_lt (wd_w m) p
  generalize at_ (wds m) p = t at c0 hbm ht
  have hbt : bl t ≤ 32 := bl_lt.2 ht
  have ht2 : t ≤ 4294967295 := by omega
  rw [hbm]
  clear h hn hbm ht h0
  go_enter Tryz.func169, Tryz.ntmps169
  go_wp2_with fail
  go_loopg [3, 4] t (fun k nv xv wr => ∃ (j x : Nat), nv = .int .i64 (32 * (p : Int) + (j : Int)) ∧ xv = .int .u32 (x : Int) ∧ k = x ∧ x ≤ 4294967295 ∧ j ≤ 32 ∧ w = wr ∧ Hid (j + bl x = bl t))
  case atStart => exact ⟨0, t, by simp, rfl, rfl, ht2, by omega, rfl, Lib.hid (Nat.zero_add _)⟩
  case round =>
   obtain ⟨j, x, rfl, rfl, hk, hx, hj, rfl, hjx⟩ := hrel
   have Hk := Lib.hid hk
   clear hk
   rcases Nat.eq_zero_or_pos x with hx0 | hx0
   ·subst hx0
    clear hx
    go_wp2_with fail
    go_ret
    refine ⟨?_, rfl⟩
    have h1 := hjx.out
    rw [bl_zero] at h1
    exact congrArg (fun v => Ending.returned (.int .i64 v)) (show 32 * (p : Int) + (j : Int) = ((32 * p + bl t : Nat) : Int) by omega)
   ·have hxi : (0 : Int) < (x : Int) := by omega
    have hd : decide ((0 : Int) < (x : Int)) = true := decide_eq_true hxi
    have hh := bl_half hx0
    have Hh := Lib.hid hh
    have hj2 : j + 1 ≤ 32 := by have := hjx.out; omega
    clear hh
    go_wp2_with fail
    go_roundg (x / 2)
    case measure => have := Hk.out; omega
    case rel =>
     exact ⟨j + 1, x / 2, by first | rfl | (congr 1; omega), rfl, rfl, by omega, hj2, rfl, by show _ = _; have := hjx.out; have := Hh.out; omega⟩
set_option maxRecDepth 100000 in
set_option maxHeartbeats 2000000 in
theorem rOf_any {w : World} {n : Int} (h1 : -9223372036854775808 ≤ n) (h2 : n ≤ 9223372036854775807) :
  Calls Tryz.prog 97 #[.int .i64 n] w (Calm w (enc n)) := by
 obtain ⟨m, hm⟩ : ∃ m, m = n.natAbs := ⟨_, rfl⟩
 have hmle : m ≤ 9223372036854775808 := by omega
 obtain ⟨s, b, he⟩ : ∃ s b, enc n = .agg #[.bool s, .string b] := ⟨_, _, rfl⟩
 rw [he]
 obtain ⟨y, hy⟩ : ∃ y, y = m / 4294967296 := ⟨_, rfl⟩
 obtain ⟨x, hx⟩ : ∃ x, x = m % 4294967296 := ⟨_, rfl⟩
 have hv : val [x, y] = m := by rw [val_cons, val_cons, val_nil]; omega
 have hwd : Wd [x, y] := by rw [wd_cons, wd_cons]; exact ⟨by omega, by omega, wd_nil⟩
 have HM := Lib.hid (fun W : World => made_any (w := W.alloc (.cells (wcells [x, y]) 163)) (neg := decide (n < 0)) (reads_blk (Blk.new W 163 (wcells [x, y])) (B := W.heap.size + 1) (by omega)) (by simp) rfl (Nat.le_refl _) (by simp) (by simp) hwd)
 rw [hv, hm, sgn_of, he] at HM
 have Hxy := Lib.hid (And.intro hx hy)
 have hx2 : x ≤ 4294967295 := by omega
 have hy2 : y ≤ 2147483648 := by omega
 have E0 := Lib.hid (Env.new (Env.nil w) 34 #[.bool false, .string ⟨#[]⟩])
 clear hv hwd hx hy he
 by_cases hn : n < 0
 ·have hd : decide (n < 0) = true := decide_eq_true hn
  have e1 : IntKind.u64.wrap n = n + 18446744073709551616 := by rw [IntKind.wrap_u64]; omega
  have e2 : IntKind.u64.wrap (-(n + 18446744073709551616)) = (m : Int) := by rw [IntKind.wrap_u64]; omega
  rw [hd] at HM
  clear hm
  go_enter Tryz.func97, Tryz.ntmps97
  go_upto_region 4 with fail
  generalize (w.alloc (.cells #[.bool false, .string ⟨#[]⟩] 34)) = W1 at E0 ⊢
  go_wp2_with fail
  rw [show (m : Int) % 4294967296 = (x : Int) by have := Hxy.out.1; omega, show (m : Int) / 4294967296 = (y : Int) by have := Hxy.out.2; omega]
  refine (HM.out W1).mono ?_
  rintro e w2 ⟨rfl, h2⟩
  have E2 := Lib.hid ((Env.other E0.out (.cells (wcells [x, y]) 163)).call h2)
  clear h2
  have n4 := Env.at_ E2.out 0 rfl
  have y0 := n4.cell 0
  have y1 := n4.cell 1
  have y2 := n4.frozen 0
  have y3 := n4.frozen 1
  simp at y0 y1
  have n5 := (n4.set_ 0 (.bool s)).set_ 1 (.string b)
  have d0 := n5.cell 0
  have d1 := n5.cell 1
  simp at d0 d1
  have D := Lib.hid (And.intro d0 d1)
  clear n4 n5 d0 d1
  go_wp2_with fail
  refine bodyPost_ret (v := .agg #[.bool s, .string b]) (by simp [results, Tryz.results97, go_sem, D.out.1, D.out.2]) rfl ?_
  exact ⟨rfl, ((E2.out.1).setCell (Nat.le_refl _) _).setCell (Nat.le_refl _) _⟩
 ·have hd : decide (n < 0) = false := decide_eq_false hn
  have e1 : IntKind.u64.wrap n = (m : Int) := by rw [IntKind.wrap_u64]; omega
  rw [hd] at HM
  clear hm
  go_enter Tryz.func97, Tryz.ntmps97
  go_upto_region 4 with fail
  generalize (w.alloc (.cells #[.bool false, .string ⟨#[]⟩] 34)) = W1 at E0 ⊢
  go_wp2_with fail
  rw [show (m : Int) % 4294967296 = (x : Int) by have := Hxy.out.1; omega, show (m : Int) / 4294967296 = (y : Int) by have := Hxy.out.2; omega]
  refine (HM.out W1).mono ?_
  rintro e w2 ⟨rfl, h2⟩
  have E2 := Lib.hid ((Env.other E0.out (.cells (wcells [x, y]) 163)).call h2)
  clear h2
  have n4 := Env.at_ E2.out 0 rfl
  have y0 := n4.cell 0
  have y1 := n4.cell 1
  have y2 := n4.frozen 0
  have y3 := n4.frozen 1
  simp at y0 y1
  have n5 := (n4.set_ 0 (.bool s)).set_ 1 (.string b)
  have d0 := n5.cell 0
  have d1 := n5.cell 1
  simp at d0 d1
  have D := Lib.hid (And.intro d0 d1)
  clear n4 n5 d0 d1
  go_wp2_with fail
  refine bodyPost_ret (v := .agg #[.bool s, .string b]) (by simp [results, Tryz.results97, go_sem, D.out.1, D.out.2]) rfl ?_
  exact ⟨rfl, ((E2.out.1).setCell (Nat.le_refl _) _).setCell (Nat.le_refl _) _⟩
end Go.Proofs.YtebpggfccljagaaGreatDoor
namespace Go.Proofs.YtebpggfccljagaaGreatDoor
open Go.RowKit
open Wh
set_option linter.unusedSimpArgs false
set_option linter.unusedVariables false
theorem word_pow (k : Nat) : (4294967296 : Nat) ^ k = 2 ^ (32 * k) := by rw [show (4294967296 : Nat) = 2 ^ 32 by decide, ← Nat.pow_mul]
theorem norm_tail {V p : Nat} (hge : 2147483648 * 4294967296 ^ (p + 1) ≤ V) (hlt : V < 4294967296 ^ (p + 2)) : (wds V).length = p + 2 ∧ 2147483648 ≤ at_ (wds V) (p + 1) := by
 have hlen : (wds V).length = p + 2 := by
  have h3 := len_wds hlt
  rcases Nat.lt_or_ge (wds V).length (p + 2) with h4 | h4
  ·exfalso
   have h5 := lt_of_len (n := V) (k := p + 1) (by omega)
   have h6 : 1 * 4294967296 ^ (p + 1) ≤ 2147483648 * 4294967296 ^ (p + 1) := Nat.mul_le_mul_right _ (by decide)
   omega
  ·omega
 refine ⟨hlen, ?_⟩
 rw [at_get (by omega)]
 have e2 := top_one (l := wds V) (p := p + 1) hlen
 rw [val_w] at e2
 have hlo2 := low_lt (wd_w V) (p := p + 1) (by omega)
 generalize (wds V)[p + 1]'(by omega) = x at *
 have h3 : 4294967296 ^ (p + 1) * 2147483648 < 4294967296 ^ (p + 1) * (x + 1) := by
  rw [Nat.mul_add, Nat.mul_one, Nat.mul_comm, Nat.mul_comm _ x]; omega
 have := Nat.lt_of_mul_lt_mul_left h3
 omega
theorem norm_bl {b p : Nat} (hl : (wds b).length = p + 2) : ∃ y, bl b + y = 32 * (p + 2) ∧ y ≤ 31 ∧ 2147483648 * 4294967296 ^ (p + 1) ≤ b * 2 ^ y ∧ b * 2 ^ y < 4294967296 ^ (p + 2) := by
 have h1 := lt_of_len (n := b) (k := p + 2) (by omega)
 have h2 : 4294967296 ^ (p + 1) ≤ b := by
  rcases Nat.lt_or_ge b (4294967296 ^ (p + 1)) with h | h
  ·have := len_wds h; omega
  ·exact h
 rw [word_pow] at h1 h2
 have h3 := bl_lt.2 h1
 have h4 : ¬ bl b ≤ 32 * (p + 1) := fun h => by have := bl_lt.1 h; omega
 have h5 := bl_lt.1 (Nat.le_refl (bl b))
 have h6 : 2 ^ (bl b - 1) ≤ b := by
  rcases Nat.lt_or_ge b (2 ^ (bl b - 1)) with h | h
  ·have := bl_lt.2 h; omega
  ·exact h
 refine ⟨32 * (p + 2) - bl b, by omega, by omega, ?_, ?_⟩
 ·have h7 := Nat.mul_le_mul_right (2 ^ (32 * (p + 2) - bl b)) h6
  rw [← Nat.pow_add, show bl b - 1 + (32 * (p + 2) - bl b) = 31 + 32 * (p + 1) by omega, Nat.pow_add, show (2 : Nat) ^ 31 = 2147483648 by decide] at h7
  rw [word_pow]
  exact h7
 ·have h7 := Nat.mul_lt_mul_of_pos_right h5 (Nat.two_pow_pos (32 * (p + 2) - bl b))
  rw [← Nat.pow_add, show bl b + (32 * (p + 2) - bl b) = 32 * (p + 2) by omega] at h7
  rw [word_pow]
  exact h7
theorem first_guess {M lv : List Nat} {p T : Nat} (hw : Wd M) (hwv : Wd lv) (hM : M.length = p + 3) (hl : lv.length = p + 2) (h0 : 0 < lv[p + 1]) (hT : T = M[p + 2] * 4294967296 + M[p + 1]) (hU : val M < 4294967296 * val lv) :
  val M < (min (T / lv[p + 1]) 4294967295 + 1) * val lv := by
 have h := guess_start (tops_of hw hwv hM hl h0 hU)
 have h1 := h.2
 rw [← hT] at h1
 rcases Nat.le_total (T / lv[p + 1]) 4294967295 with h2 | h2
 ·rw [Nat.min_eq_left h2]; exact h1
 ·rw [Nat.min_eq_right h2]; exact hU
theorem guess_less {U V g : Nat} (_h : U < (g + 1) * V) (hn : ¬ g * V ≤ U) : 0 < g ∧ U < (g - 1 + 1) * V := by
 have hg : 0 < g := by
  rcases Nat.eq_zero_or_pos g with h0 | h0
  ·exfalso; apply hn; rw [h0, Nat.zero_mul]; exact Nat.zero_le _
  ·exact h0
 exact ⟨hg, by rw [show g - 1 + 1 = g by omega]; omega⟩
theorem off_word {u cc b : Nat} (hu : u < 4294967296) (hb : b ≤ 1) (_hcc : cc ≤ 18446744073709551615) :
  ∃ X b' : Nat, X = 4294967296 + u - cc % 4294967296 - b ∧ X ≤ 8589934591 ∧ b' = 1 - X / 4294967296 ∧ b' ≤ 1 ∧ X / 4294967296 ≤ 1 ∧ u + 4294967296 * b' = X % 4294967296 + (cc % 4294967296 + b) := by
 refine ⟨_, _, rfl, by omega, rfl, by omega, by omega, by omega⟩
theorem taken_end {M M1 lv : List Nat} {q c b n : Nat} (h : Taken M M1 lv q (n + 1) c b) (hn : n = lv.length) (hM : M.length = n + 1) (hb : b ≤ 1) (h1 : q * val lv ≤ val M) (h2 : val M < (q + 1) * val lv) : M1.length = n + 1 ∧ Wd M1 ∧ val M1 = val M % val lv ∧ q = val M / val lv := by
 obtain ⟨hl1, hwm1, _, hc0, hval⟩ := h
 have hc00 : c = 0 := hc0 (by omega)
 rw [hc00, Nat.zero_add, List.take_of_length_le (by omega), List.take_of_length_le (l := lv) (by omega), List.take_of_length_le (l := M) (by omega)] at hval
 have hO : val M1 < 4294967296 ^ (n + 1) := by have := val_lt hwm1; rwa [hl1, hM] at this
 have hb0 := (take_all hval hO hb).2 h1
 rw [hb0, Nat.mul_zero, Nat.add_zero] at hval
 rw [Nat.add_mul, Nat.one_mul] at h2
 have e := quot_of (q := q) (r := val M1) (a := val M) (b := val lv) (by omega) (by omega)
 exact ⟨by omega, hwm1, e.2.symm, e.1.symm⟩
set_option maxRecDepth 100000 in
set_option maxHeartbeats 2000000 in
theorem rdivided_lt {w : World} {B n m c d a b : Nat} {A C : Option Addr} (h1 : ReadsW w B A (wds a)) (h2 : ReadsW w B C (wds b)) (hB : B ≤ w.heap.size) (hn : n = (wds a).length) (hm : m = (wds b).length) (hnc : n ≤ c) (hcl : c ≤ 9223372036854775807) (hnl : n ≤ 1000000000) (hml : m ≤ 1000000000) (hab : a < b) :
  Calls Tryz.prog 163 #[.slice A n c, .slice C m d] w (Div2 w (a / b) (a % b)) := by
 have HU := Lib.hid (runder_any h1 h2 (c := c) (d := d) hn hm (by omega) (by omega))
 obtain ⟨x, hx, hx0⟩ : ∃ x : Int, cmpN a b = x ∧ x < 0 := ⟨-1, cmpN_lt hab, by omega⟩
 rw [hx] at HU
 have Hn := Lib.hid hn
 have Hab := Lib.hid (And.intro (Nat.div_eq_of_lt hab) (Nat.mod_eq_of_lt hab))
 clear hn hab hx hm
 go_enter Tryz.func163, Tryz.ntmps163
 go_wp2_with (go_at_call 168; refine HU.out.mono ?_; rintro e w' ⟨q, rfl, rfl⟩)
 go_ret2
 rw [Hab.out.1, Hab.out.2]
 exact ⟨_, _, _, _, _, _, rfl, ⟨by rw [wds_zero]; rfl, Hn.out⟩, Nat.le_refl _, hnc, by omega, hcl, by rw [wds_zero]; exact ReadsW.none_ _ _ _, (h1.more hB).drewN q, below_drewN (Below.refl _ _) _⟩
set_option maxRecDepth 100000 in
set_option maxHeartbeats 2000000 in
theorem rdivided_one {w : World} {B n m c d a b : Nat} {A C : Option Addr} (h1 : ReadsW w B A (wds a)) (h2 : ReadsW w B C (wds b)) (hB : B ≤ w.heap.size) (hn : n = (wds a).length) (hm : m = (wds b).length) (hnl : n ≤ 1000000000) (hml : m ≤ 1000000000) (hab : b ≤ a) (hm1 : m = 1) :
  Calls Tryz.prog 163 #[.slice A n c, .slice C m d] w (Div2 w (a / b) (a % b)) := by
 have hu : ∃ x : Int, cmpN a b = x ∧ 0 ≤ x := by
  rcases Nat.lt_or_ge b a with h | h
  ·exact ⟨1, cmpN_gt h, by omega⟩
  ·exact ⟨0, cmpN_eq (by omega), by omega⟩
 obtain ⟨x, hx, hx0⟩ := hu
 have HU := Lib.hid (runder_any h1 h2 (c := c) (d := d) hn hm (by omega) (by omega))
 rw [hx] at HU
 have hb : wds b = [b] := by
  have hl : (wds b).length = 1 := by omega
  have hlt : b < 4294967296 := by have := lt_of_len (n := b) (k := 1) (by omega); omega
  have hp : 0 < b := by
   rcases Nat.eq_zero_or_pos b with h0 | h0
   ·rw [h0, wds_zero] at hl; cases hl
   ·exact h0
  rw [wds_pos hp, Nat.mod_eq_of_lt hlt, Nat.div_eq_of_lt hlt, wds_zero]
 have hwd := wd_w b
 rw [hb] at h2 hwd
 have hbl : b < 4294967296 := hwd b (by simp)
 have hp : 0 < b := by
  rcases Nat.eq_zero_or_pos b with h0 | h0
  ·rw [h0, wds_zero] at hb; cases hb
  ·exact h0
 obtain ⟨bd, rfl, hb1, c1⟩ := h2.at_ (k := 0) (by simp)
 have c1' : w.cell? bd = some (.int .u32 (b : Int)) := by
  have : bd.add 0 = bd := by unfold Addr.add; rw [if_pos rfl]
  rw [this] at c1
  exact c1
 have hs := fun q => rsmall_any (h1.drewN q) (c := c) (d := b) hB hn (by omega) (wd_w a) hp hbl
 simp only [val_w] at hs
 obtain ⟨r, hr⟩ : ∃ r, r = a % b := ⟨_, rfl⟩
 rw [← hr] at hs
 have hrb : r < b := by rw [hr]; exact Nat.mod_lt _ hp
 have hrb2 : r ≤ 4294967295 := by omega
 have HS := Lib.hid hs
 have Hr := Lib.hid hr
 clear hs hr
 have Hn := Lib.hid hn
 subst hm1
 clear hn h1 h2 c1 hx hb hm
 go_enter Tryz.func163, Tryz.ntmps163
 go_wp2_with (first | (go_at_call 168; refine HU.out.mono ?_; rintro e w' ⟨q, rfl, rfl⟩) | (go_at_call 127; refine (HS.out _).mono ?_; rintro e w1 ⟨A1, n1, c1, rfl, hn1, hc1, hc2, hr1, hbl1, _⟩; have Hn1 := Lib.hid (And.intro hn1 (And.intro hr1 hbl1)); clear hn1 hr1 hbl1))
 have hbk := Blk.new w1 163 (wcells [r])
 have hwr : Wd [r] := wd_cons.2 ⟨by omega, wd_nil⟩
 have hcut := rcut_any (reads_blk hbk hbk.lt) (n := 1) (c := 1) rfl (by omega) (by omega) hwr
 have Hc := Lib.hid hcut
 have Hb := Lib.hid (And.intro hbk hwr)
 clear hcut hbk hwr
 go_wp2_with (go_at_call 112; refine Hc.out.mono ?_; rintro e w' ⟨q2, rfl, hq, rfl⟩; have Hq := Lib.hid hq; clear hq)
 go_ret2
 have hv1 : val [r] = r := by rw [val_cons, val_nil, Nat.mul_zero, Nat.add_zero]
 have hlen : (wds r).length ≤ 1 := by have := (wds_take 1 [r] rfl Hb.out.2).2; rw [hv1] at this; exact this
 have hq2 := Hq.out
 rw [hv1] at hq2
 refine ⟨_, _, _, _, _, _, rfl, ⟨Hn1.out.1, by rw [← Hr.out]; exact hq2⟩, hc1, by omega, by omega, by omega, (Hn1.out.2.1.alloc (Nat.le_refl _) _).more (by simp), ?_, ?_⟩
 ·rw [← Hr.out]
  have := reads_cut (reads_blk Hb.out.1 Hb.out.1.lt) Hb.out.2
  rw [hv1] at this
  exact this
 ·exact (undrewN Hn1.out.2.2).alloc (by have := (undrewN Hn1.out.2.2).size; exact this) _
end Go.Proofs.YtebpggfccljagaaGreatDoor
