import Derived.Test.YtebpggfccljagaaGreatDoorC1
import Derived.Test.YtebpggfccljagaaGreatDoorChecked
import Derived.WalkKit
import Derived.WalkLawsBesides
import Derived.WalkSpells
import Derived.Handy
import Derived.Deep.LoopGhost
import Derived.Test.YtebpggfccljagaaGreatDoorC5
namespace Go.Proofs.YtebpggfccljagaaGreatDoor.Sc
def letB (c : UInt8) : Bool := decide (97 ≤ c.toNat) && decide (c.toNat ≤ 122)
def digB (c : UInt8) : Bool := decide (48 ≤ c.toNat) && decide (c.toNat ≤ 57)
def lettersB (l : List UInt8) : Bool := decide (1 ≤ l.length) && decide (l.length ≤ 16) && l.all letB
def behB (c : UInt8) : Bool := letB c || digB c || c == 45
def namedB (l : List UInt8) : Bool := decide (1 ≤ l.length) && decide (l.length ≤ 32) && (match l with | [] => false | c :: r => letB c && r.all behB)
theorem all_take {p : UInt8 → Bool} {l : List UInt8} {i : Nat} (hi : i < l.length) (h : (l.take i).all p = true) (hp : p l[i] = true) : (l.take (i + 1)).all p = true := by
 rw [List.take_succ_eq_append_getElem hi, List.all_append, h]
 simp [hp]
theorem all_not {p : UInt8 → Bool} {l : List UInt8} {i : Nat} (hi : i < l.length) (hp : p l[i] = false) : l.all p = false := by
 rw [Bool.eq_false_iff]
 intro h
 have := List.all_eq_true.1 h l[i] (List.getElem_mem hi)
 rw [hp] at this; cases this
theorem letters_no {l : List UInt8} (h : l.all letB = false) : lettersB l = false := by unfold lettersB; rw [h, Bool.and_false]
theorem letters_yes {l : List UInt8} (h : l.all letB = true) : lettersB l = (decide (1 ≤ l.length) && decide (l.length ≤ 16)) := by unfold lettersB; rw [h, Bool.and_true]
def nameTo (l : List UInt8) (i : Nat) : Bool := match l.take i with | [] => true | c :: r => letB c && r.all behB
theorem nameTo_zero (l : List UInt8) : nameTo l 0 = true := rfl
theorem nameTo_next {l : List UInt8} {i : Nat} (hi : i < l.length) (h : nameTo l i = true) (hp : (if i = 0 then letB l[i] else behB l[i]) = true) : nameTo l (i + 1) = true := by
 cases l with
 | nil => simp at hi
 | cons c r =>
  cases i with
  | zero => simp [nameTo] at *; exact hp
  | succ j =>
   simp only [nameTo, List.take_succ_cons, List.getElem_cons_succ] at *
   simp only [Bool.and_eq_true] at h ⊢
   refine ⟨h.1, all_take (by simpa using hi) h.2 ?_⟩
   simpa using hp
theorem named_all {l : List UInt8} (h : nameTo l l.length = true) : namedB l = (decide (1 ≤ l.length) && decide (l.length ≤ 32)) := by
 unfold namedB
 unfold nameTo at h
 rw [List.take_length] at h
 cases l with
 | nil => rfl
 | cons c r => rw [h, Bool.and_true]
theorem named_no {l : List UInt8} {i : Nat} (hi : i < l.length) (hp : (if i = 0 then letB l[i] else behB l[i]) = false) : namedB l = false := by
 unfold namedB
 cases l with
 | nil => simp at hi
 | cons c r =>
  cases i with
  | zero =>
   have : letB c = false := by simpa using hp
   simp [this]
  | succ j =>
   have hj : j < r.length := by simpa using hi
   have : r.all behB = false := all_not (p := behB) hj (by simpa using hp)
   simp [this]
end Go.Proofs.YtebpggfccljagaaGreatDoor.Sc
namespace Go.Proofs.YtebpggfccljagaaGreatDoor
open Go.RowKit
open Sc
theorem byte_at {s : ByteArray} {i : Nat} (hi : i < s.size) : ∃ c : UInt8, s[i]'hi = c ∧ ∃ hl : i < s.data.toList.length, s.data.toList[i]'hl = c := ⟨s[i], rfl, by simpa using hi, rfl⟩
theorem ret_bool {a b : Bool} (h : b = a) : Ending.returned (.bool a) = .returned (.bool b) := by rw [h]
theorem letB_yes {c : UInt8} (h1 : (97 : Int) ≤ c.toNat) (h2 : (c.toNat : Int) ≤ 122) : letB c = true := by simp [letB]; omega
theorem letB_lo {c : UInt8} (h1 : (c.toNat : Int) < 97) : letB c = false := by simp [letB]; omega
theorem letB_hi {c : UInt8} (h1 : (122 : Int) < c.toNat) : letB c = false := by simp [letB]; omega
set_option maxRecDepth 100000 in
set_option maxHeartbeats 1000000 in
theorem letters_any (s : ByteArray) (w : World) (hs : s.size ≤ 9223372036854775807) : Calls Tryz.prog 45 #[.string s] w fun e w' => e = .returned (.bool (lettersB s.data.toList)) ∧ w = w' := by
 have HL := Lib.hid (show s.data.toList.length = s.size by simp)
 go_enter Tryz.func45, Tryz.ntmps45
 go_wp2_with fail
 go_loopg [6] s.size (fun k iv wr => ∃ i : Nat, iv = .int .i64 (i : Int) ∧ k = s.size - i ∧ i ≤ s.size ∧ w = wr ∧ Hid ((s.data.toList.take i).all letB = true))
 case atStart => exact ⟨0, rfl, by omega, by omega, rfl, rfl⟩
 case round =>
  obtain ⟨i, rfl, hk, hi, rfl, ha⟩ := hrel
  have Hk := Lib.hid hk
  clear hk
  by_cases hlt : i < s.size
  ·have hii : (i : Int) < (s.size : Int) := by omega
   have hi0 : (0 : Int) ≤ (i : Int) := by omega
   obtain ⟨c, hc, hl, hcl⟩ := byte_at hlt
   have Hcl := Lib.hid hcl
   have hc256 : c.toNat < 256 := c.toNat_lt
   by_cases h1 : (c.toNat : Int) < 97
   ·have HN := Lib.hid (letters_no (all_not hl (by rw [hcl]; exact letB_lo h1)))
    clear hcl
    go_wp2_with fail
    go_ret
    exact ⟨ret_bool HN.out, rfl⟩
   ·have h1' : (97 : Int) ≤ c.toNat := by omega
    by_cases h2 : (122 : Int) < c.toNat
    ·have HN := Lib.hid (letters_no (all_not hl (by rw [hcl]; exact letB_hi h2)))
     clear hcl h1
     go_wp2_with fail
     go_ret
     exact ⟨ret_bool HN.out, rfl⟩
    ·have h2' : (c.toNat : Int) ≤ 122 := by omega
     have HN := Lib.hid (all_take hl ha.out (by rw [hcl]; exact letB_yes h1' h2'))
     clear hcl h1 h2
     go_wp2_with fail
     go_roundg (s.size - (i + 1))
     case measure => have := Hk.out; omega
     case rel => exact ⟨i + 1, by go_num, rfl, by omega, rfl, HN⟩
  ·have hin : i = s.size := by omega
   subst hin
   have HY := Lib.hid (letters_yes (l := s.data.toList) (by have := ha.out; rw [← HL.out, List.take_length] at this; exact this))
   by_cases g1 : 1 ≤ s.size
   ·have i1 : (1 : Int) ≤ (s.size : Int) := by omega
    by_cases g2 : s.size ≤ 16
    ·have i2 : (s.size : Int) ≤ 16 := by omega
     have HB := Lib.hid (show lettersB s.data.toList = true by rw [HY.out, HL.out]; simp [g1, g2])
     clear g1 g2
     go_wp2_with fail
     go_ret
     exact ⟨ret_bool HB.out, rfl⟩
    ·have i2 : ¬ (s.size : Int) ≤ 16 := by omega
     have HB := Lib.hid (show lettersB s.data.toList = false by rw [HY.out, HL.out]; simp [g2])
     clear g1 g2
     go_wp2_with fail
     go_ret
     exact ⟨ret_bool HB.out, rfl⟩
   ·have i1 : ¬ (1 : Int) ≤ (s.size : Int) := by omega
    have HB := Lib.hid (show lettersB s.data.toList = false by rw [HY.out, HL.out]; simp [g1])
    clear g1
    go_wp2_with fail
    go_ret
    exact ⟨ret_bool HB.out, rfl⟩
set_option maxRecDepth 100000 in
set_option maxHeartbeats 1000000 in
theorem rletters_any (s : ByteArray) (w : World) (hs : s.size ≤ 9223372036854775807) : Calls Tryz.prog 48 #[.string s] w fun e w' => e = .returned (.bool (lettersB s.data.toList)) ∧ w = w' := by
 have HL := Lib.hid (show s.data.toList.length = s.size by simp)
 by_cases g1 : s.size < 1
 ·have i1 : (s.size : Int) < 1 := by omega
  have HB := Lib.hid (show lettersB s.data.toList = false by unfold lettersB; rw [HL.out]; simp; omega)
  clear g1
  go_enter Tryz.func48, Tryz.ntmps48
  go_wp2_with fail
  go_ret
  exact ⟨ret_bool HB.out, rfl⟩
 have i1 : ¬ (s.size : Int) < 1 := by omega
 by_cases g2 : 16 < s.size
 ·have i2 : (16 : Int) < (s.size : Int) := by omega
  have HB := Lib.hid (show lettersB s.data.toList = false by unfold lettersB; rw [HL.out]; simp; omega)
  clear g1 g2
  go_enter Tryz.func48, Tryz.ntmps48
  go_wp2_with fail
  go_ret
  exact ⟨ret_bool HB.out, rfl⟩
 have i2 : ¬ (16 : Int) < (s.size : Int) := by omega
 have HG := Lib.hid (show 1 ≤ s.size ∧ s.size ≤ 16 by omega)
 clear g1 g2
 go_enter Tryz.func48, Tryz.ntmps48
 go_wp2_with fail
 clear i1 i2
 go_loopg [3] s.size (fun k iv wr => ∃ i : Nat, iv = .int .i64 (i : Int) ∧ k = s.size - i ∧ i ≤ s.size ∧ w = wr ∧ Hid ((s.data.toList.take i).all letB = true))
 case atStart => exact ⟨0, rfl, by omega, by omega, rfl, rfl⟩
 case round =>
  obtain ⟨i, rfl, hk, hi, rfl, ha⟩ := hrel
  have Hk := Lib.hid hk
  clear hk
  by_cases hlt : i < s.size
  ·have hii : (i : Int) < (s.size : Int) := by omega
   have hi0 : (0 : Int) ≤ (i : Int) := by omega
   obtain ⟨c, hc, hl, hcl⟩ := byte_at hlt
   have hc256 : c.toNat < 256 := c.toNat_lt
   by_cases h1 : (c.toNat : Int) < 97
   ·have HN := Lib.hid (letters_no (all_not hl (by rw [hcl]; exact letB_lo h1)))
    clear hcl
    go_wp2_with fail
    go_ret
    exact ⟨ret_bool HN.out, rfl⟩
   ·have h1' : (97 : Int) ≤ c.toNat := by omega
    by_cases h2 : (122 : Int) < c.toNat
    ·have HN := Lib.hid (letters_no (all_not hl (by rw [hcl]; exact letB_hi h2)))
     clear hcl h1
     go_wp2_with fail
     go_ret
     exact ⟨ret_bool HN.out, rfl⟩
    ·have h2' : (c.toNat : Int) ≤ 122 := by omega
     have HN := Lib.hid (all_take hl ha.out (by rw [hcl]; exact letB_yes h1' h2'))
     clear hcl h1 h2
     go_wp2_with fail
     go_roundg (s.size - (i + 1))
     case measure => have := Hk.out; omega
     case rel => exact ⟨i + 1, by go_num, rfl, by omega, rfl, HN⟩
  ·have hin : i = s.size := by omega
   subst hin
   have HY := Lib.hid (letters_yes (l := s.data.toList) (by have := ha.out; rw [← HL.out, List.take_length] at this; exact this))
   have HB := Lib.hid (show lettersB s.data.toList = true by rw [HY.out, HL.out]; simp [HG.out.1, HG.out.2])
   go_wp2_with fail
   go_ret
   exact ⟨ret_bool HB.out, rfl⟩
theorem behB_let {c : UInt8} (h1 : (97 : Int) ≤ c.toNat) (h2 : (c.toNat : Int) ≤ 122) : behB c = true := by simp [behB, letB_yes h1 h2]
theorem behB_dig {c : UInt8} (h1 : (48 : Int) ≤ c.toNat) (h2 : (c.toNat : Int) ≤ 57) : behB c = true := by
 have : digB c = true := by simp [digB]; omega
 simp [behB, this]
theorem behB_dash {c : UInt8} (h : (c.toNat : Int) = 45) : behB c = true := by
 have : c = 45 := UInt8.toNat_inj.1 (by show c.toNat = 45; omega)
 subst this; decide
theorem behB_no {c : UInt8} (h1 : (c.toNat : Int) < 97 ∨ (122 : Int) < c.toNat) (h2 : (c.toNat : Int) < 48 ∨ (57 : Int) < c.toNat) (h3 : (c.toNat : Int) ≠ 45) : behB c = false := by
 have e1 : letB c = false := by rcases h1 with h | h; exact letB_lo h; exact letB_hi h
 have e2 : digB c = false := by simp [digB]; omega
 have e3 : (c == 45) = false := by
  rw [Bool.eq_false_iff]; intro h
  have : c = 45 := eq_of_beq h
  subst this; exact h3 rfl
 simp [behB, e1, e2, e3]
set_option maxRecDepth 100000 in
set_option maxHeartbeats 2000000 in
theorem named_any (s : ByteArray) (w : World) (hs : s.size ≤ 9223372036854775807) : Calls Tryz.prog 46 #[.string s] w fun e w' => e = .returned (.bool (namedB s.data.toList)) ∧ w = w' := by
 have HL := Lib.hid (show s.data.toList.length = s.size by simp)
 go_enter Tryz.func46, Tryz.ntmps46
 go_wp2_with fail
 go_loopg [7] s.size (fun k iv wr => ∃ i : Nat, iv = .int .i64 (i : Int) ∧ k = s.size - i ∧ i ≤ s.size ∧ w = wr ∧ Hid (nameTo s.data.toList i = true))
 case atStart => exact ⟨0, rfl, by omega, by omega, rfl, nameTo_zero _⟩
 case round =>
  obtain ⟨i, rfl, hk, hi, rfl, ha⟩ := hrel
  have Hk := Lib.hid hk
  clear hk
  by_cases hlt : i < s.size
  ·have hii : (i : Int) < (s.size : Int) := by omega
   have hi0 : (0 : Int) ≤ (i : Int) := by omega
   obtain ⟨c, hc, hl, hcl⟩ := byte_at hlt
   have hc256 : c.toNat < 256 := c.toNat_lt
   have HE := Lib.hid (show ∃ hl : i < s.data.toList.length, s.data.toList[i]'hl = c from ⟨hl, hcl⟩)
   clear hcl hl
   have Fall := Lib.hid (show (if i = 0 then letB c else behB c) = false → namedB s.data.toList = false from fun h => by obtain ⟨hl, hcl⟩ := HE.out; exact named_no hl (by rw [hcl]; exact h))
   have Go := Lib.hid (show (if i = 0 then letB c else behB c) = true → nameTo s.data.toList (i + 1) = true from fun h => by obtain ⟨hl, hcl⟩ := HE.out; exact nameTo_next hl ha.out (by rw [hcl]; exact h))
   by_cases h0 : i = 0
   ·subst h0
    by_cases h1 : (c.toNat : Int) < 97
    ·have HN := Lib.hid (Fall.out (by rw [if_pos rfl]; exact letB_lo h1))
     go_wp2_with fail
     go_ret
     exact ⟨ret_bool HN.out, rfl⟩
    ·have h1' : (97 : Int) ≤ (c.toNat : Int) := by omega
     by_cases h2 : (122 : Int) < (c.toNat : Int)
     ·have HN := Lib.hid (Fall.out (by rw [if_pos rfl]; exact letB_hi h2))
      go_wp2_with fail
      go_ret
      exact ⟨ret_bool HN.out, rfl⟩
     ·have h2' : (c.toNat : Int) ≤ 122 := by omega
      have HN := Lib.hid (Go.out (by rw [if_pos rfl]; exact letB_yes h1' h2'))
      go_wp2_with fail
      go_roundg (s.size - (0 + 1))
      case measure => have := Hk.out; omega
      case rel => exact ⟨0 + 1, by go_num, rfl, by omega, rfl, HN⟩
   ·have h0i : (1 : Int) ≤ (i : Int) := by omega
    have h0e : ((i : Int) == 0) = false := by simp; omega
    by_cases h1 : (c.toNat : Int) < 97
    ·have h1' : (c.toNat : Int) ≤ 122 := by omega
     by_cases h3 : (c.toNat : Int) < 48
     ·by_cases h5 : (c.toNat : Int) = 45
      ·have h5e : ((c.toNat : Int) == 45) = true := by simp [h5]
       have HN := Lib.hid (Go.out (by rw [if_neg h0]; exact behB_dash h5))
       go_wp2_with fail
       go_roundg (s.size - (i + 1))
       case measure => have := Hk.out; omega
       case rel => exact ⟨i + 1, by go_num, rfl, by omega, rfl, HN⟩
      ·have h5e : ((c.toNat : Int) == 45) = false := by simp [h5]
       have HN := Lib.hid (Fall.out (by rw [if_neg h0]; exact behB_no (.inl h1) (.inl h3) h5))
       go_wp2_with fail
       go_ret
       exact ⟨ret_bool HN.out, rfl⟩
     ·have h3' : (48 : Int) ≤ (c.toNat : Int) := by omega
      have h5e : ((c.toNat : Int) == 45) = false := by simp; omega
      by_cases h4 : (57 : Int) < (c.toNat : Int)
      ·have HN := Lib.hid (Fall.out (by rw [if_neg h0]; exact behB_no (.inl h1) (.inr h4) (by omega)))
       go_wp2_with fail
       go_ret
       exact ⟨ret_bool HN.out, rfl⟩
      ·have h4' : (c.toNat : Int) ≤ 57 := by omega
       have HN := Lib.hid (Go.out (by rw [if_neg h0]; exact behB_dig h3' h4'))
       go_wp2_with fail
       go_roundg (s.size - (i + 1))
       case measure => have := Hk.out; omega
       case rel => exact ⟨i + 1, by go_num, rfl, by omega, rfl, HN⟩
    ·have h1' : (97 : Int) ≤ (c.toNat : Int) := by omega
     by_cases h2 : (122 : Int) < (c.toNat : Int)
     ·have h3' : (48 : Int) ≤ (c.toNat : Int) := by omega
      have h4 : (57 : Int) < (c.toNat : Int) := by omega
      have h5e : ((c.toNat : Int) == 45) = false := by simp; omega
      have HN := Lib.hid (Fall.out (by rw [if_neg h0]; exact behB_no (.inr h2) (.inr h4) (by omega)))
      go_wp2_with fail
      go_ret
      exact ⟨ret_bool HN.out, rfl⟩
     ·have h2' : (c.toNat : Int) ≤ 122 := by omega
      have HN := Lib.hid (Go.out (by rw [if_neg h0]; exact behB_let h1' h2'))
      go_wp2_with fail
      go_roundg (s.size - (i + 1))
      case measure => have := Hk.out; omega
      case rel => exact ⟨i + 1, by go_num, rfl, by omega, rfl, HN⟩
  ·have hin : i = s.size := by omega
   subst hin
   have HY := Lib.hid (named_all (l := s.data.toList) (by have := ha.out; rw [← HL.out] at this; exact this))
   by_cases g1 : 1 ≤ s.size
   ·have i1 : (1 : Int) ≤ (s.size : Int) := by omega
    by_cases g2 : s.size ≤ 32
    ·have i2 : (s.size : Int) ≤ 32 := by omega
     have HB := Lib.hid (show namedB s.data.toList = true by rw [HY.out, HL.out]; simp [g1, g2])
     clear g1 g2
     go_wp2_with fail
     go_ret
     exact ⟨ret_bool HB.out, rfl⟩
    ·have i2 : ¬ (s.size : Int) ≤ 32 := by omega
     have HB := Lib.hid (show namedB s.data.toList = false by rw [HY.out, HL.out]; simp [g2])
     clear g1 g2
     go_wp2_with fail
     go_ret
     exact ⟨ret_bool HB.out, rfl⟩
   ·have i1 : ¬ (1 : Int) ≤ (s.size : Int) := by omega
    have HB := Lib.hid (show namedB s.data.toList = false by rw [HY.out, HL.out]; simp [g1])
    clear g1
    go_wp2_with fail
    go_ret
    exact ⟨ret_bool HB.out, rfl⟩
theorem named_short {l : List UInt8} (h : l.length < 1) : namedB l = false := by
 have : decide (1 ≤ l.length) = false := decide_eq_false (by omega)
 unfold namedB; rw [this]; rfl
theorem named_long {l : List UInt8} (h : 32 < l.length) : namedB l = false := by
 have : decide (l.length ≤ 32) = false := decide_eq_false (by omega)
 unfold namedB; rw [this, Bool.and_false, Bool.false_and]
set_option maxRecDepth 100000 in
set_option maxHeartbeats 2000000 in
theorem rnamed_any (s : ByteArray) (w : World) (hs : s.size ≤ 9223372036854775807) : Calls Tryz.prog 49 #[.string s] w fun e w' => e = .returned (.bool (namedB s.data.toList)) ∧ w = w' := by
 have HL := Lib.hid (show s.data.toList.length = s.size by simp)
 by_cases g1 : s.size < 1
 ·have i1 : (s.size : Int) < 1 := by omega
  have HB := Lib.hid (show namedB s.data.toList = false from named_short (by rw [HL.out]; exact g1))
  clear g1
  go_enter Tryz.func49, Tryz.ntmps49
  go_wp2_with fail
  go_ret
  exact ⟨ret_bool HB.out, rfl⟩
 have i1 : ¬ (s.size : Int) < 1 := by omega
 by_cases g2 : 32 < s.size
 ·have i2 : (32 : Int) < (s.size : Int) := by omega
  have HB := Lib.hid (show namedB s.data.toList = false from named_long (by rw [HL.out]; exact g2))
  clear g1 g2
  go_enter Tryz.func49, Tryz.ntmps49
  go_wp2_with fail
  go_ret
  exact ⟨ret_bool HB.out, rfl⟩
 have i2 : ¬ (32 : Int) < (s.size : Int) := by omega
 have HG := Lib.hid (show 1 ≤ s.size ∧ s.size ≤ 32 by omega)
 have hlt0 : 0 < s.size := by omega
 obtain ⟨c0, hc0, hl0, hcl0⟩ := byte_at hlt0
 have HE0 := Lib.hid (show ∃ hl : 0 < s.data.toList.length, s.data.toList[0]'hl = c0 from ⟨hl0, hcl0⟩)
 have h00 : (0 : Int) < (s.size : Int) := by omega
 have hc0256 : c0.toNat < 256 := c0.toNat_lt
 clear hcl0 hl0 g1 g2
 by_cases k1 : (c0.toNat : Int) < 97
 ·have HB := Lib.hid (show namedB s.data.toList = false by obtain ⟨hl, hcl⟩ := HE0.out; exact named_no hl (by rw [if_pos rfl, hcl]; exact letB_lo k1))
  go_enter Tryz.func49, Tryz.ntmps49
  go_wp2_with fail
  go_ret
  exact ⟨ret_bool HB.out, rfl⟩
 have k1' : (97 : Int) ≤ (c0.toNat : Int) := by omega
 by_cases k2 : (122 : Int) < (c0.toNat : Int)
 ·have HB := Lib.hid (show namedB s.data.toList = false by obtain ⟨hl, hcl⟩ := HE0.out; exact named_no hl (by rw [if_pos rfl, hcl]; exact letB_hi k2))
  go_enter Tryz.func49, Tryz.ntmps49
  go_wp2_with fail
  go_ret
  exact ⟨ret_bool HB.out, rfl⟩
 have k2' : (c0.toNat : Int) ≤ 122 := by omega
 have H1 := Lib.hid (show nameTo s.data.toList 1 = true by obtain ⟨hl, hcl⟩ := HE0.out; exact nameTo_next hl (nameTo_zero _) (by rw [if_pos rfl, hcl]; exact letB_yes k1' k2'))
 go_enter Tryz.func49, Tryz.ntmps49
 go_wp2_with fail
 clear k1 k1' k2 k2' hc0 hc0256 hlt0 h00 i1 i2
 go_loopg [3] (s.size - 1) (fun k iv wr => ∃ i : Nat, iv = .int .i64 (i : Int) ∧ k = s.size - i ∧ 1 ≤ i ∧ i ≤ s.size ∧ w = wr ∧ Hid (nameTo s.data.toList i = true))
 case atStart => exact ⟨1, rfl, rfl, by omega, HG.out.1, rfl, H1⟩
 case round =>
  obtain ⟨i, rfl, hk, hi1, hi, rfl, ha⟩ := hrel
  have Hk := Lib.hid hk
  clear hk
  by_cases hlt : i < s.size
  ·have hii : (i : Int) < (s.size : Int) := by omega
   have hi0 : (0 : Int) ≤ (i : Int) := by omega
   have h0 : ¬ i = 0 := by omega
   obtain ⟨c, hc, hl, hcl⟩ := byte_at hlt
   have hc256 : c.toNat < 256 := c.toNat_lt
   have HE := Lib.hid (show ∃ hl : i < s.data.toList.length, s.data.toList[i]'hl = c from ⟨hl, hcl⟩)
   clear hcl hl
   have Fall := Lib.hid (show (if i = 0 then letB c else behB c) = false → namedB s.data.toList = false from fun h => by obtain ⟨hl, hcl⟩ := HE.out; exact named_no hl (by rw [hcl]; exact h))
   have Go := Lib.hid (show (if i = 0 then letB c else behB c) = true → nameTo s.data.toList (i + 1) = true from fun h => by obtain ⟨hl, hcl⟩ := HE.out; exact nameTo_next hl ha.out (by rw [hcl]; exact h))
   by_cases h1 : (c.toNat : Int) < 97
   ·have h1n : ¬ (97 : Int) ≤ (c.toNat : Int) := by omega
    by_cases h3 : (c.toNat : Int) < 48
    ·have h3n : ¬ (48 : Int) ≤ (c.toNat : Int) := by omega
     by_cases h5 : (c.toNat : Int) = 45
     ·have h5e : ((c.toNat : Int) == 45) = true := by simp [h5]
      have HN := Lib.hid (Go.out (by rw [if_neg h0]; exact behB_dash h5))
      go_wp2_with fail
      go_roundg (s.size - (i + 1))
      case measure => have := Hk.out; omega
      case rel => exact ⟨i + 1, by go_num, rfl, by omega, by omega, rfl, HN⟩
     ·have h5e : ((c.toNat : Int) == 45) = false := by simp [h5]
      have HN := Lib.hid (Fall.out (by rw [if_neg h0]; exact behB_no (.inl h1) (.inl h3) h5))
      go_wp2_with fail
      go_ret
      exact ⟨ret_bool HN.out, rfl⟩
    ·have h3' : (48 : Int) ≤ (c.toNat : Int) := by omega
     have h5e : ((c.toNat : Int) == 45) = false := by simp; omega
     by_cases h4 : (57 : Int) < (c.toNat : Int)
     ·have h4n : ¬ (c.toNat : Int) ≤ 57 := by omega
      have HN := Lib.hid (Fall.out (by rw [if_neg h0]; exact behB_no (.inl h1) (.inr h4) (by omega)))
      go_wp2_with fail
      go_ret
      exact ⟨ret_bool HN.out, rfl⟩
     ·have h4' : (c.toNat : Int) ≤ 57 := by omega
      have HN := Lib.hid (Go.out (by rw [if_neg h0]; exact behB_dig h3' h4'))
      go_wp2_with fail
      go_roundg (s.size - (i + 1))
      case measure => have := Hk.out; omega
      case rel => exact ⟨i + 1, by go_num, rfl, by omega, by omega, rfl, HN⟩
   ·have h1' : (97 : Int) ≤ (c.toNat : Int) := by omega
    by_cases h2 : (122 : Int) < (c.toNat : Int)
    ·have h2n : ¬ (c.toNat : Int) ≤ 122 := by omega
     have h3' : (48 : Int) ≤ (c.toNat : Int) := by omega
     have h4n : ¬ (c.toNat : Int) ≤ 57 := by omega
     have h5e : ((c.toNat : Int) == 45) = false := by simp; omega
     have HN := Lib.hid (Fall.out (by rw [if_neg h0]; exact behB_no (.inr h2) (.inr (by omega)) (by omega)))
     go_wp2_with fail
     go_ret
     exact ⟨ret_bool HN.out, rfl⟩
    ·have h2' : (c.toNat : Int) ≤ 122 := by omega
     have HN := Lib.hid (Go.out (by rw [if_neg h0]; exact behB_let h1' h2'))
     go_wp2_with fail
     go_roundg (s.size - (i + 1))
     case measure => have := Hk.out; omega
     case rel => exact ⟨i + 1, by go_num, rfl, by omega, by omega, rfl, HN⟩
  ·have hin : i = s.size := by omega
   subst hin
   have HB := Lib.hid (show namedB s.data.toList = true by rw [named_all (l := s.data.toList) (by have := ha.out; rw [← HL.out] at this; exact this), HL.out]; simp [HG.out.1, HG.out.2])
   go_wp2_with fail
   go_ret
   exact ⟨ret_bool HB.out, rfl⟩
end Go.Proofs.YtebpggfccljagaaGreatDoor
namespace Go.Proofs.YtebpggfccljagaaGreatDoor
open Go.RowKit
open Wh
set_option linter.unusedSimpArgs false
set_option linter.unusedVariables false
theorem tl_iff {a b : ByteArray} : a.toList = b.toList ↔ a = b := ⟨tl_inj, fun h => by rw [h]⟩
theorem eql_gs (x0 y0 x1 y1 x2 y2 x3 y3 : Bool) (s0 t0 s1 t1 s2 t2 s3 t3 : ByteArray) (w : World) :
  (binOp .eql 38 (.agg #[.bool x0, .string s0, .bool x1, .string s1, .bool x2, .string s2, .bool x3, .string s3]) (.agg #[.bool y0, .string t0, .bool y1, .string t1, .bool y2, .string t2, .bool y3, .string t3])).run Tryz.prog w
   = .ok (.bool (decide (x0 = y0 ∧ s0 = t0 ∧ x1 = y1 ∧ s1 = t1 ∧ x2 = y2 ∧ s2 = t2 ∧ x3 = y3 ∧ s3 = t3))) w := by
 go_simp
 simp only [tl_iff]
 (repeat' split) <;> simp_all
structure ArgP where
 k : Int
 nm : ByteArray
 n0 : Bool
 s0 : ByteArray
 n1 : Bool
 s1 : ByteArray
 n2 : Bool
 s2 : ByteArray
 n3 : Bool
 s3 : ByteArray
 wd : List Int
 ct : Int
abbrev ARow := Option Addr × Nat × ArgP
def acs (r : ARow) : List Value := [.int .i64 r.2.2.k, .string r.2.2.nm, .bool r.2.2.n0, .string r.2.2.s0, .bool r.2.2.n1, .string r.2.2.s1, .bool r.2.2.n2, .string r.2.2.s2, .bool r.2.2.n3, .string r.2.2.s3, .slice r.1 r.2.2.wd.length r.2.1, .int .i64 r.2.2.ct]
def argV (r : ARow) : Value := .agg #[.int .i64 r.2.2.k, .string r.2.2.nm, .bool r.2.2.n0, .string r.2.2.s0, .bool r.2.2.n1, .string r.2.2.s1, .bool r.2.2.n2, .string r.2.2.s2, .bool r.2.2.n3, .string r.2.2.s3, .slice r.1 r.2.2.wd.length r.2.1, .int .i64 r.2.2.ct]
structure ArgR (w : World) (B : Nat) (r : ARow) : Prop where
 kz : -9223372036854775808 ≤ r.2.2.k ∧ r.2.2.k ≤ 9223372036854775807
 cz : -9223372036854775808 ≤ r.2.2.ct ∧ r.2.2.ct ≤ 9223372036854775807
 wd : ReadsI w B r.1 r.2.2.wd
def ReadsA (w : World) (B : Nat) (A : Option Addr) (rs : List ARow) : Prop := Reads w B 12 A rs.length (rs.flatMap acs) ∧ ∀ r ∈ rs, ArgR w B r
theorem acs_get : ∀ (l : List ARow) (k : Nat) (h : k < l.length) (j : Nat), j < 12 → (l.flatMap acs)[12 * k + j]? = (acs l[k])[j]?
 | x :: r, 0, _, j, hj => by
  rw [List.flatMap_cons, Nat.mul_zero, Nat.zero_add]
  exact List.getElem?_append_left (by show j < 12; exact hj)
 | x :: r, k + 1, h, j, hj => by
  rw [List.flatMap_cons, show 12 * (k + 1) + j = (acs x).length + (12 * k + j) by show _ = 12 + _; omega, List.getElem?_append_right (by omega), Nat.add_sub_cancel_left]
  exact acs_get r k (by simpa using h) j hj
theorem ReadsA.at_ {w : World} {B : Nat} {A : Option Addr} {rs : List ARow} (h : ReadsA w B A rs) {k : Nat} (hk : k < rs.length) :
  ∃ ad, A = some ad ∧ ad.block < B ∧ (∀ j u, j < 12 → (acs rs[k])[j]? = some u → w.cell? (if j = 0 then ad.add (k * 12) else ⟨(ad.add (k * 12)).block, (ad.add (k * 12)).off + j, none⟩) = some u) ∧ ArgR w B rs[k] := by
 obtain ⟨ad, e, hb, hc⟩ := h.1.2 (by omega)
 refine ⟨ad, e, hb, fun j u hj hu => ?_, h.2 _ (List.getElem_mem hk)⟩
 have h1 := acs_get rs k hk j hj
 rw [hu] at h1
 have h2 := hc _ _ h1
 by_cases h0 : j = 0
 ·subst h0
  rw [if_pos rfl, Nat.mul_comm]; exact h2
 ·rw [if_neg h0]
  rw [Nat.mul_comm, ← add_of_add, add_pos (by omega)] at h2
  exact h2
theorem ArgR.more {w : World} {B B' : Nat} {r : ARow} (h : ArgR w B r) (hB : B ≤ B') : ArgR w B' r := ⟨h.kz, h.cz, h.wd.more hB⟩
theorem ArgR.below {w w' : World} {B : Nat} {r : ARow} (h : ArgR w B r) (hb : Below B w w') : ArgR w' B r := ⟨h.kz, h.cz, h.wd.below hb⟩
theorem ArgR.alloc {w : World} {B : Nat} {r : ARow} (h : ArgR w B r) (hB : B ≤ w.heap.size) (o : Obj) : ArgR (w.alloc o) B r := ⟨h.kz, h.cz, h.wd.alloc hB o⟩
theorem ReadsA.more {w : World} {B B' : Nat} {A : Option Addr} {rs : List ARow} (h : ReadsA w B A rs) (hB : B ≤ B') : ReadsA w B' A rs := ⟨h.1.more hB, fun r hr => (h.2 r hr).more hB⟩
theorem ReadsA.below {w w' : World} {B : Nat} {A : Option Addr} {rs : List ARow} (h : ReadsA w B A rs) (hb : Below B w w') : ReadsA w' B A rs := ⟨h.1.below hb, fun r hr => (h.2 r hr).below hb⟩
theorem ReadsA.alloc {w : World} {B : Nat} {A : Option Addr} {rs : List ARow} (h : ReadsA w B A rs) (hB : B ≤ w.heap.size) (o : Obj) : ReadsA (w.alloc o) B A rs := ⟨h.1.alloc hB o, fun r hr => (h.2 r hr).alloc hB o⟩
def ArgP.zero (x : ArgP) : Prop := x.n0 = false ∧ x.s0 = ⟨#[]⟩ ∧ x.n1 = false ∧ x.s1 = ⟨#[]⟩ ∧ x.n2 = false ∧ x.s2 = ⟨#[]⟩ ∧ x.n3 = false ∧ x.s3 = ⟨#[]⟩
instance (x : ArgP) : Decidable x.zero := by unfold ArgP.zero; infer_instance
def letA (k : Int) : Bool := decide (k ≠ 0 ∧ k ≤ 4096 ∧ -4096 ≤ k)
def ArgP.gs (x : ArgP) : Prop := MayGs x.n0 x.s0 x.n1 x.s1 x.n2 x.s2 x.n3 x.s3
def ArgP.ok (x : ArgP) : Prop :=
 if x.k = 1 then Sc.namedB x.nm.data.toList = true ∧ x.zero ∧ x.wd = [] ∧ x.ct = 0
 else if x.k = 2 then x.nm = ⟨#[]⟩ ∧ x.gs ∧ x.wd = [] ∧ x.ct = 0
 else if x.k = 3 then x.nm = ⟨#[]⟩ ∧ x.zero ∧ x.wd = [] ∧ x.ct = 0
 else if x.k = 4 then x.nm = ⟨#[]⟩ ∧ x.zero ∧ x.wd.all letA = true ∧ x.wd.length ≤ 4096 ∧ x.ct = 0
 else if x.k = 5 then x.nm = ⟨#[]⟩ ∧ x.zero ∧ x.wd = [] ∧ 0 ≤ x.ct ∧ x.ct ≤ 2147483647
 else False
set_option maxRecDepth 100000 in
set_option maxHeartbeats 2000000 in
theorem may_1_0 {w : World} {ct : Int} {nm : ByteArray} {n0 n1 n2 n3 : Bool} {s0 s1 s2 s3 : ByteArray} {A : Option Addr} {n c : Nat} (hB : Sc.namedB nm.data.toList = false) (hsz : nm.size ≤ 9223372036854775807) :
  Calls Tryz.prog 47 #[.agg #[.int .i64 1, .string nm, .bool n0, .string s0, .bool n1, .string s1, .bool n2, .string s2, .bool n3, .string s3, .slice A n c, .int .i64 ct]] w (fun e w' => e = .returned (.bool false) ∧ Below w.heap.size w w') := by
 have HN : Hid (∀ W, Calls Tryz.prog 46 #[.string nm] W (fun e w' => e = .returned (.bool false) ∧ Below W.heap.size W w')) := Lib.hid fun W => (named_any nm W hsz).mono fun e w' h => ⟨by rw [h.1, hB], by rw [← h.2]; exact Below.refl _ _⟩
 clear hB hsz
 obtain ⟨bz, hbz⟩ : ∃ b : Bool, decide (n0 = false ∧ s0 = ⟨#[]⟩ ∧ n1 = false ∧ s1 = ⟨#[]⟩ ∧ n2 = false ∧ s2 = ⟨#[]⟩ ∧ n3 = false ∧ s3 = ⟨#[]⟩) = b := ⟨_, rfl⟩
 have hzq := fun W => eql_gs n0 false n1 false n2 false n3 false s0 ⟨#[]⟩ s1 ⟨#[]⟩ s2 ⟨#[]⟩ s3 ⟨#[]⟩ W
 rw [hbz] at hzq
 clear hbz
 have hbx := Box.new w 41 #[.int .i64 1, .string nm, .bool n0, .string s0, .bool n1, .string s1, .bool n2, .string s2, .bool n3, .string s3, .slice A n c, .int .i64 ct]
 go_enter Tryz.func47, Tryz.ntmps47
 go_wp2_with (go_at_call 46; (with_reducible refine (HN.out _).mono ?_); rintro _ W1 ⟨rfl, hb1⟩; have hbx := hbx.next hb1; have c0 := hbx.1.cell 0; have c1 := hbx.1.cell 1; have c2 := hbx.1.cell 2; have c3 := hbx.1.cell 3; have c4 := hbx.1.cell 4; have c5 := hbx.1.cell 5; have c6 := hbx.1.cell 6; have c7 := hbx.1.cell 7; have c8 := hbx.1.cell 8; have c9 := hbx.1.cell 9; have c10 := hbx.1.cell 10; have c11 := hbx.1.cell 11; clear hb1)
 go_ret
 exact ⟨rfl, hbx.2⟩
set_option maxRecDepth 100000 in
set_option maxHeartbeats 2000000 in
theorem may_1_1 {w : World} {ct : Int} {nm : ByteArray} {n0 n1 n2 n3 : Bool} {s0 s1 s2 s3 : ByteArray} {A : Option Addr} {n c : Nat} (hB : Sc.namedB nm.data.toList = true) (hsz : nm.size ≤ 9223372036854775807) (hz : decide (n0 = false ∧ s0 = ⟨#[]⟩ ∧ n1 = false ∧ s1 = ⟨#[]⟩ ∧ n2 = false ∧ s2 = ⟨#[]⟩ ∧ n3 = false ∧ s3 = ⟨#[]⟩) = false) :
  Calls Tryz.prog 47 #[.agg #[.int .i64 1, .string nm, .bool n0, .string s0, .bool n1, .string s1, .bool n2, .string s2, .bool n3, .string s3, .slice A n c, .int .i64 ct]] w (fun e w' => e = .returned (.bool false) ∧ Below w.heap.size w w') := by
 have HN : Hid (∀ W, Calls Tryz.prog 46 #[.string nm] W (fun e w' => e = .returned (.bool true) ∧ Below W.heap.size W w')) := Lib.hid fun W => (named_any nm W hsz).mono fun e w' h => ⟨by rw [h.1, hB], by rw [← h.2]; exact Below.refl _ _⟩
 clear hB hsz
 have hzq := fun W => eql_gs n0 false n1 false n2 false n3 false s0 ⟨#[]⟩ s1 ⟨#[]⟩ s2 ⟨#[]⟩ s3 ⟨#[]⟩ W
 rw [hz] at hzq
 clear hz
 have hbx := Box.new w 41 #[.int .i64 1, .string nm, .bool n0, .string s0, .bool n1, .string s1, .bool n2, .string s2, .bool n3, .string s3, .slice A n c, .int .i64 ct]
 go_enter Tryz.func47, Tryz.ntmps47
 go_wp2_with (go_at_call 46; (with_reducible refine (HN.out _).mono ?_); rintro _ W1 ⟨rfl, hb1⟩; have hbx := hbx.next hb1; have c0 := hbx.1.cell 0; have c1 := hbx.1.cell 1; have c2 := hbx.1.cell 2; have c3 := hbx.1.cell 3; have c4 := hbx.1.cell 4; have c5 := hbx.1.cell 5; have c6 := hbx.1.cell 6; have c7 := hbx.1.cell 7; have c8 := hbx.1.cell 8; have c9 := hbx.1.cell 9; have c10 := hbx.1.cell 10; have c11 := hbx.1.cell 11; clear hb1)
 go_ret
 exact ⟨rfl, hbx.2⟩
set_option maxRecDepth 100000 in
set_option maxHeartbeats 2000000 in
theorem may_1_2 {w : World} {ct : Int} {nm : ByteArray} {n0 n1 n2 n3 : Bool} {s0 s1 s2 s3 : ByteArray} {A : Option Addr} {n c : Nat} (hB : Sc.namedB nm.data.toList = true) (hsz : nm.size ≤ 9223372036854775807) (hz : decide (n0 = false ∧ s0 = ⟨#[]⟩ ∧ n1 = false ∧ s1 = ⟨#[]⟩ ∧ n2 = false ∧ s2 = ⟨#[]⟩ ∧ n3 = false ∧ s3 = ⟨#[]⟩) = true) (hl : ((n : Int) == 0) = false) :
  Calls Tryz.prog 47 #[.agg #[.int .i64 1, .string nm, .bool n0, .string s0, .bool n1, .string s1, .bool n2, .string s2, .bool n3, .string s3, .slice A n c, .int .i64 ct]] w (fun e w' => e = .returned (.bool false) ∧ Below w.heap.size w w') := by
 have HN : Hid (∀ W, Calls Tryz.prog 46 #[.string nm] W (fun e w' => e = .returned (.bool true) ∧ Below W.heap.size W w')) := Lib.hid fun W => (named_any nm W hsz).mono fun e w' h => ⟨by rw [h.1, hB], by rw [← h.2]; exact Below.refl _ _⟩
 clear hB hsz
 have hzq := fun W => eql_gs n0 false n1 false n2 false n3 false s0 ⟨#[]⟩ s1 ⟨#[]⟩ s2 ⟨#[]⟩ s3 ⟨#[]⟩ W
 rw [hz] at hzq
 clear hz
 have hbx := Box.new w 41 #[.int .i64 1, .string nm, .bool n0, .string s0, .bool n1, .string s1, .bool n2, .string s2, .bool n3, .string s3, .slice A n c, .int .i64 ct]
 go_enter Tryz.func47, Tryz.ntmps47
 go_wp2_with (go_at_call 46; (with_reducible refine (HN.out _).mono ?_); rintro _ W1 ⟨rfl, hb1⟩; have hbx := hbx.next hb1; have c0 := hbx.1.cell 0; have c1 := hbx.1.cell 1; have c2 := hbx.1.cell 2; have c3 := hbx.1.cell 3; have c4 := hbx.1.cell 4; have c5 := hbx.1.cell 5; have c6 := hbx.1.cell 6; have c7 := hbx.1.cell 7; have c8 := hbx.1.cell 8; have c9 := hbx.1.cell 9; have c10 := hbx.1.cell 10; have c11 := hbx.1.cell 11; clear hb1)
 go_ret
 exact ⟨rfl, hbx.2⟩
set_option maxRecDepth 100000 in
set_option maxHeartbeats 2000000 in
theorem may_1_3 {w : World} {ct : Int} {nm : ByteArray} {n0 n1 n2 n3 : Bool} {s0 s1 s2 s3 : ByteArray} {A : Option Addr} {n c : Nat} (hB : Sc.namedB nm.data.toList = true) (hsz : nm.size ≤ 9223372036854775807) (hz : decide (n0 = false ∧ s0 = ⟨#[]⟩ ∧ n1 = false ∧ s1 = ⟨#[]⟩ ∧ n2 = false ∧ s2 = ⟨#[]⟩ ∧ n3 = false ∧ s3 = ⟨#[]⟩) = true) (hl : ((n : Int) == 0) = true) (hc : (ct == 0) = false) :
  Calls Tryz.prog 47 #[.agg #[.int .i64 1, .string nm, .bool n0, .string s0, .bool n1, .string s1, .bool n2, .string s2, .bool n3, .string s3, .slice A n c, .int .i64 ct]] w (fun e w' => e = .returned (.bool false) ∧ Below w.heap.size w w') := by
 have HN : Hid (∀ W, Calls Tryz.prog 46 #[.string nm] W (fun e w' => e = .returned (.bool true) ∧ Below W.heap.size W w')) := Lib.hid fun W => (named_any nm W hsz).mono fun e w' h => ⟨by rw [h.1, hB], by rw [← h.2]; exact Below.refl _ _⟩
 clear hB hsz
 have hzq := fun W => eql_gs n0 false n1 false n2 false n3 false s0 ⟨#[]⟩ s1 ⟨#[]⟩ s2 ⟨#[]⟩ s3 ⟨#[]⟩ W
 rw [hz] at hzq
 clear hz
 have hbx := Box.new w 41 #[.int .i64 1, .string nm, .bool n0, .string s0, .bool n1, .string s1, .bool n2, .string s2, .bool n3, .string s3, .slice A n c, .int .i64 ct]
 go_enter Tryz.func47, Tryz.ntmps47
 go_wp2_with (go_at_call 46; (with_reducible refine (HN.out _).mono ?_); rintro _ W1 ⟨rfl, hb1⟩; have hbx := hbx.next hb1; have c0 := hbx.1.cell 0; have c1 := hbx.1.cell 1; have c2 := hbx.1.cell 2; have c3 := hbx.1.cell 3; have c4 := hbx.1.cell 4; have c5 := hbx.1.cell 5; have c6 := hbx.1.cell 6; have c7 := hbx.1.cell 7; have c8 := hbx.1.cell 8; have c9 := hbx.1.cell 9; have c10 := hbx.1.cell 10; have c11 := hbx.1.cell 11; clear hb1)
 go_ret
 exact ⟨rfl, hbx.2⟩
set_option maxRecDepth 100000 in
set_option maxHeartbeats 2000000 in
theorem may_1_4 {w : World} {ct : Int} {nm : ByteArray} {n0 n1 n2 n3 : Bool} {s0 s1 s2 s3 : ByteArray} {A : Option Addr} {n c : Nat} (hB : Sc.namedB nm.data.toList = true) (hsz : nm.size ≤ 9223372036854775807) (hz : decide (n0 = false ∧ s0 = ⟨#[]⟩ ∧ n1 = false ∧ s1 = ⟨#[]⟩ ∧ n2 = false ∧ s2 = ⟨#[]⟩ ∧ n3 = false ∧ s3 = ⟨#[]⟩) = true) (hl : ((n : Int) == 0) = true) (hc : (ct == 0) = true) :
  Calls Tryz.prog 47 #[.agg #[.int .i64 1, .string nm, .bool n0, .string s0, .bool n1, .string s1, .bool n2, .string s2, .bool n3, .string s3, .slice A n c, .int .i64 ct]] w (fun e w' => e = .returned (.bool true) ∧ Below w.heap.size w w') := by
 have HN : Hid (∀ W, Calls Tryz.prog 46 #[.string nm] W (fun e w' => e = .returned (.bool true) ∧ Below W.heap.size W w')) := Lib.hid fun W => (named_any nm W hsz).mono fun e w' h => ⟨by rw [h.1, hB], by rw [← h.2]; exact Below.refl _ _⟩
 clear hB hsz
 have hzq := fun W => eql_gs n0 false n1 false n2 false n3 false s0 ⟨#[]⟩ s1 ⟨#[]⟩ s2 ⟨#[]⟩ s3 ⟨#[]⟩ W
 rw [hz] at hzq
 clear hz
 have hbx := Box.new w 41 #[.int .i64 1, .string nm, .bool n0, .string s0, .bool n1, .string s1, .bool n2, .string s2, .bool n3, .string s3, .slice A n c, .int .i64 ct]
 go_enter Tryz.func47, Tryz.ntmps47
 go_wp2_with (go_at_call 46; (with_reducible refine (HN.out _).mono ?_); rintro _ W1 ⟨rfl, hb1⟩; have hbx := hbx.next hb1; have c0 := hbx.1.cell 0; have c1 := hbx.1.cell 1; have c2 := hbx.1.cell 2; have c3 := hbx.1.cell 3; have c4 := hbx.1.cell 4; have c5 := hbx.1.cell 5; have c6 := hbx.1.cell 6; have c7 := hbx.1.cell 7; have c8 := hbx.1.cell 8; have c9 := hbx.1.cell 9; have c10 := hbx.1.cell 10; have c11 := hbx.1.cell 11; clear hb1)
 go_ret
 exact ⟨rfl, hbx.2⟩
set_option maxRecDepth 100000 in
set_option maxHeartbeats 2000000 in
theorem may_2_0 {w : World} {ct : Int} {nm : ByteArray} {n0 n1 n2 n3 : Bool} {s0 s1 s2 s3 : ByteArray} {A : Option Addr} {n c : Nat} (hn : nm.toList.isEmpty = false) :
  Calls Tryz.prog 47 #[.agg #[.int .i64 2, .string nm, .bool n0, .string s0, .bool n1, .string s1, .bool n2, .string s2, .bool n3, .string s3, .slice A n c, .int .i64 ct]] w (fun e w' => e = .returned (.bool false) ∧ Below w.heap.size w w') := by
 obtain ⟨bz, hbz⟩ : ∃ b : Bool, decide (n0 = false ∧ s0 = ⟨#[]⟩ ∧ n1 = false ∧ s1 = ⟨#[]⟩ ∧ n2 = false ∧ s2 = ⟨#[]⟩ ∧ n3 = false ∧ s3 = ⟨#[]⟩) = b := ⟨_, rfl⟩
 have hzq := fun W => eql_gs n0 false n1 false n2 false n3 false s0 ⟨#[]⟩ s1 ⟨#[]⟩ s2 ⟨#[]⟩ s3 ⟨#[]⟩ W
 rw [hbz] at hzq
 clear hbz
 have hbx := Box.new w 41 #[.int .i64 2, .string nm, .bool n0, .string s0, .bool n1, .string s1, .bool n2, .string s2, .bool n3, .string s3, .slice A n c, .int .i64 ct]
 go_enter Tryz.func47, Tryz.ntmps47
 go_wp2_with fail
 go_ret
 exact ⟨rfl, hbx.2⟩
set_option maxRecDepth 100000 in
set_option maxHeartbeats 2000000 in
theorem may_2_1 {w : World} {ct : Int} {nm : ByteArray} {n0 n1 n2 n3 : Bool} {s0 s1 s2 s3 : ByteArray} {A : Option Addr} {n c : Nat} (hn : nm.toList.isEmpty = true) (hg : ¬ MayGs n0 s0 n1 s1 n2 s2 n3 s3) :
  Calls Tryz.prog 47 #[.agg #[.int .i64 2, .string nm, .bool n0, .string s0, .bool n1, .string s1, .bool n2, .string s2, .bool n3, .string s3, .slice A n c, .int .i64 ct]] w (fun e w' => e = .returned (.bool false) ∧ Below w.heap.size w w') := by
 have HG : Hid (∀ W, Calls Tryz.prog 76 #[.agg #[.bool n0, .string s0, .bool n1, .string s1, .bool n2, .string s2, .bool n3, .string s3]] W (fun e w' => e = .returned (.bool false) ∧ Below W.heap.size W w')) := Lib.hid fun W => mayg_any ⟨fun h => (by cases h), fun h => absurd h hg⟩
 clear hg
 obtain ⟨bz, hbz⟩ : ∃ b : Bool, decide (n0 = false ∧ s0 = ⟨#[]⟩ ∧ n1 = false ∧ s1 = ⟨#[]⟩ ∧ n2 = false ∧ s2 = ⟨#[]⟩ ∧ n3 = false ∧ s3 = ⟨#[]⟩) = b := ⟨_, rfl⟩
 have hzq := fun W => eql_gs n0 false n1 false n2 false n3 false s0 ⟨#[]⟩ s1 ⟨#[]⟩ s2 ⟨#[]⟩ s3 ⟨#[]⟩ W
 rw [hbz] at hzq
 clear hbz
 have hbx := Box.new w 41 #[.int .i64 2, .string nm, .bool n0, .string s0, .bool n1, .string s1, .bool n2, .string s2, .bool n3, .string s3, .slice A n c, .int .i64 ct]
 go_enter Tryz.func47, Tryz.ntmps47
 go_wp2_with (go_at_call 76; (with_reducible refine (HG.out _).mono ?_); rintro _ W1 ⟨rfl, hb1⟩; have hbx := hbx.next hb1; have c0 := hbx.1.cell 0; have c1 := hbx.1.cell 1; have c2 := hbx.1.cell 2; have c3 := hbx.1.cell 3; have c4 := hbx.1.cell 4; have c5 := hbx.1.cell 5; have c6 := hbx.1.cell 6; have c7 := hbx.1.cell 7; have c8 := hbx.1.cell 8; have c9 := hbx.1.cell 9; have c10 := hbx.1.cell 10; have c11 := hbx.1.cell 11; clear hb1)
 go_ret
 exact ⟨rfl, hbx.2⟩
set_option maxRecDepth 100000 in
set_option maxHeartbeats 2000000 in
theorem may_2_2 {w : World} {ct : Int} {nm : ByteArray} {n0 n1 n2 n3 : Bool} {s0 s1 s2 s3 : ByteArray} {A : Option Addr} {n c : Nat} (hn : nm.toList.isEmpty = true) (hg : MayGs n0 s0 n1 s1 n2 s2 n3 s3) (hl : ((n : Int) == 0) = false) :
  Calls Tryz.prog 47 #[.agg #[.int .i64 2, .string nm, .bool n0, .string s0, .bool n1, .string s1, .bool n2, .string s2, .bool n3, .string s3, .slice A n c, .int .i64 ct]] w (fun e w' => e = .returned (.bool false) ∧ Below w.heap.size w w') := by
 have HG : Hid (∀ W, Calls Tryz.prog 76 #[.agg #[.bool n0, .string s0, .bool n1, .string s1, .bool n2, .string s2, .bool n3, .string s3]] W (fun e w' => e = .returned (.bool true) ∧ Below W.heap.size W w')) := Lib.hid fun W => mayg_any ⟨fun _ => hg, fun _ => rfl⟩
 clear hg
 obtain ⟨bz, hbz⟩ : ∃ b : Bool, decide (n0 = false ∧ s0 = ⟨#[]⟩ ∧ n1 = false ∧ s1 = ⟨#[]⟩ ∧ n2 = false ∧ s2 = ⟨#[]⟩ ∧ n3 = false ∧ s3 = ⟨#[]⟩) = b := ⟨_, rfl⟩
 have hzq := fun W => eql_gs n0 false n1 false n2 false n3 false s0 ⟨#[]⟩ s1 ⟨#[]⟩ s2 ⟨#[]⟩ s3 ⟨#[]⟩ W
 rw [hbz] at hzq
 clear hbz
 have hbx := Box.new w 41 #[.int .i64 2, .string nm, .bool n0, .string s0, .bool n1, .string s1, .bool n2, .string s2, .bool n3, .string s3, .slice A n c, .int .i64 ct]
 go_enter Tryz.func47, Tryz.ntmps47
 go_wp2_with (go_at_call 76; (with_reducible refine (HG.out _).mono ?_); rintro _ W1 ⟨rfl, hb1⟩; have hbx := hbx.next hb1; have c0 := hbx.1.cell 0; have c1 := hbx.1.cell 1; have c2 := hbx.1.cell 2; have c3 := hbx.1.cell 3; have c4 := hbx.1.cell 4; have c5 := hbx.1.cell 5; have c6 := hbx.1.cell 6; have c7 := hbx.1.cell 7; have c8 := hbx.1.cell 8; have c9 := hbx.1.cell 9; have c10 := hbx.1.cell 10; have c11 := hbx.1.cell 11; clear hb1)
 go_ret
 exact ⟨rfl, hbx.2⟩
set_option maxRecDepth 100000 in
set_option maxHeartbeats 2000000 in
theorem may_2_3 {w : World} {ct : Int} {nm : ByteArray} {n0 n1 n2 n3 : Bool} {s0 s1 s2 s3 : ByteArray} {A : Option Addr} {n c : Nat} (hn : nm.toList.isEmpty = true) (hg : MayGs n0 s0 n1 s1 n2 s2 n3 s3) (hl : ((n : Int) == 0) = true) (hc : (ct == 0) = false) :
  Calls Tryz.prog 47 #[.agg #[.int .i64 2, .string nm, .bool n0, .string s0, .bool n1, .string s1, .bool n2, .string s2, .bool n3, .string s3, .slice A n c, .int .i64 ct]] w (fun e w' => e = .returned (.bool false) ∧ Below w.heap.size w w') := by
 have HG : Hid (∀ W, Calls Tryz.prog 76 #[.agg #[.bool n0, .string s0, .bool n1, .string s1, .bool n2, .string s2, .bool n3, .string s3]] W (fun e w' => e = .returned (.bool true) ∧ Below W.heap.size W w')) := Lib.hid fun W => mayg_any ⟨fun _ => hg, fun _ => rfl⟩
 clear hg
 obtain ⟨bz, hbz⟩ : ∃ b : Bool, decide (n0 = false ∧ s0 = ⟨#[]⟩ ∧ n1 = false ∧ s1 = ⟨#[]⟩ ∧ n2 = false ∧ s2 = ⟨#[]⟩ ∧ n3 = false ∧ s3 = ⟨#[]⟩) = b := ⟨_, rfl⟩
 have hzq := fun W => eql_gs n0 false n1 false n2 false n3 false s0 ⟨#[]⟩ s1 ⟨#[]⟩ s2 ⟨#[]⟩ s3 ⟨#[]⟩ W
 rw [hbz] at hzq
 clear hbz
 have hbx := Box.new w 41 #[.int .i64 2, .string nm, .bool n0, .string s0, .bool n1, .string s1, .bool n2, .string s2, .bool n3, .string s3, .slice A n c, .int .i64 ct]
 go_enter Tryz.func47, Tryz.ntmps47
 go_wp2_with (go_at_call 76; (with_reducible refine (HG.out _).mono ?_); rintro _ W1 ⟨rfl, hb1⟩; have hbx := hbx.next hb1; have c0 := hbx.1.cell 0; have c1 := hbx.1.cell 1; have c2 := hbx.1.cell 2; have c3 := hbx.1.cell 3; have c4 := hbx.1.cell 4; have c5 := hbx.1.cell 5; have c6 := hbx.1.cell 6; have c7 := hbx.1.cell 7; have c8 := hbx.1.cell 8; have c9 := hbx.1.cell 9; have c10 := hbx.1.cell 10; have c11 := hbx.1.cell 11; clear hb1)
 go_ret
 exact ⟨rfl, hbx.2⟩
set_option maxRecDepth 100000 in
set_option maxHeartbeats 2000000 in
theorem may_2_4 {w : World} {ct : Int} {nm : ByteArray} {n0 n1 n2 n3 : Bool} {s0 s1 s2 s3 : ByteArray} {A : Option Addr} {n c : Nat} (hn : nm.toList.isEmpty = true) (hg : MayGs n0 s0 n1 s1 n2 s2 n3 s3) (hl : ((n : Int) == 0) = true) (hc : (ct == 0) = true) :
  Calls Tryz.prog 47 #[.agg #[.int .i64 2, .string nm, .bool n0, .string s0, .bool n1, .string s1, .bool n2, .string s2, .bool n3, .string s3, .slice A n c, .int .i64 ct]] w (fun e w' => e = .returned (.bool true) ∧ Below w.heap.size w w') := by
 have HG : Hid (∀ W, Calls Tryz.prog 76 #[.agg #[.bool n0, .string s0, .bool n1, .string s1, .bool n2, .string s2, .bool n3, .string s3]] W (fun e w' => e = .returned (.bool true) ∧ Below W.heap.size W w')) := Lib.hid fun W => mayg_any ⟨fun _ => hg, fun _ => rfl⟩
 clear hg
 obtain ⟨bz, hbz⟩ : ∃ b : Bool, decide (n0 = false ∧ s0 = ⟨#[]⟩ ∧ n1 = false ∧ s1 = ⟨#[]⟩ ∧ n2 = false ∧ s2 = ⟨#[]⟩ ∧ n3 = false ∧ s3 = ⟨#[]⟩) = b := ⟨_, rfl⟩
 have hzq := fun W => eql_gs n0 false n1 false n2 false n3 false s0 ⟨#[]⟩ s1 ⟨#[]⟩ s2 ⟨#[]⟩ s3 ⟨#[]⟩ W
 rw [hbz] at hzq
 clear hbz
 have hbx := Box.new w 41 #[.int .i64 2, .string nm, .bool n0, .string s0, .bool n1, .string s1, .bool n2, .string s2, .bool n3, .string s3, .slice A n c, .int .i64 ct]
 go_enter Tryz.func47, Tryz.ntmps47
 go_wp2_with (go_at_call 76; (with_reducible refine (HG.out _).mono ?_); rintro _ W1 ⟨rfl, hb1⟩; have hbx := hbx.next hb1; have c0 := hbx.1.cell 0; have c1 := hbx.1.cell 1; have c2 := hbx.1.cell 2; have c3 := hbx.1.cell 3; have c4 := hbx.1.cell 4; have c5 := hbx.1.cell 5; have c6 := hbx.1.cell 6; have c7 := hbx.1.cell 7; have c8 := hbx.1.cell 8; have c9 := hbx.1.cell 9; have c10 := hbx.1.cell 10; have c11 := hbx.1.cell 11; clear hb1)
 go_ret
 exact ⟨rfl, hbx.2⟩
set_option maxRecDepth 100000 in
set_option maxHeartbeats 2000000 in
theorem may_3_0 {w : World} {ct : Int} {nm : ByteArray} {n0 n1 n2 n3 : Bool} {s0 s1 s2 s3 : ByteArray} {A : Option Addr} {n c : Nat} (hn : nm.toList.isEmpty = false) :
  Calls Tryz.prog 47 #[.agg #[.int .i64 3, .string nm, .bool n0, .string s0, .bool n1, .string s1, .bool n2, .string s2, .bool n3, .string s3, .slice A n c, .int .i64 ct]] w (fun e w' => e = .returned (.bool false) ∧ Below w.heap.size w w') := by
 obtain ⟨bz, hbz⟩ : ∃ b : Bool, decide (n0 = false ∧ s0 = ⟨#[]⟩ ∧ n1 = false ∧ s1 = ⟨#[]⟩ ∧ n2 = false ∧ s2 = ⟨#[]⟩ ∧ n3 = false ∧ s3 = ⟨#[]⟩) = b := ⟨_, rfl⟩
 have hzq := fun W => eql_gs n0 false n1 false n2 false n3 false s0 ⟨#[]⟩ s1 ⟨#[]⟩ s2 ⟨#[]⟩ s3 ⟨#[]⟩ W
 rw [hbz] at hzq
 clear hbz
 have hbx := Box.new w 41 #[.int .i64 3, .string nm, .bool n0, .string s0, .bool n1, .string s1, .bool n2, .string s2, .bool n3, .string s3, .slice A n c, .int .i64 ct]
 go_enter Tryz.func47, Tryz.ntmps47
 go_wp2_with fail
 go_ret
 exact ⟨rfl, hbx.2⟩
set_option maxRecDepth 100000 in
set_option maxHeartbeats 2000000 in
theorem may_3_1 {w : World} {ct : Int} {nm : ByteArray} {n0 n1 n2 n3 : Bool} {s0 s1 s2 s3 : ByteArray} {A : Option Addr} {n c : Nat} (hn : nm.toList.isEmpty = true) (hz : decide (n0 = false ∧ s0 = ⟨#[]⟩ ∧ n1 = false ∧ s1 = ⟨#[]⟩ ∧ n2 = false ∧ s2 = ⟨#[]⟩ ∧ n3 = false ∧ s3 = ⟨#[]⟩) = false) :
  Calls Tryz.prog 47 #[.agg #[.int .i64 3, .string nm, .bool n0, .string s0, .bool n1, .string s1, .bool n2, .string s2, .bool n3, .string s3, .slice A n c, .int .i64 ct]] w (fun e w' => e = .returned (.bool false) ∧ Below w.heap.size w w') := by
 have hzq := fun W => eql_gs n0 false n1 false n2 false n3 false s0 ⟨#[]⟩ s1 ⟨#[]⟩ s2 ⟨#[]⟩ s3 ⟨#[]⟩ W
 rw [hz] at hzq
 clear hz
 have hbx := Box.new w 41 #[.int .i64 3, .string nm, .bool n0, .string s0, .bool n1, .string s1, .bool n2, .string s2, .bool n3, .string s3, .slice A n c, .int .i64 ct]
 go_enter Tryz.func47, Tryz.ntmps47
 go_wp2_with fail
 go_ret
 exact ⟨rfl, hbx.2⟩
set_option maxRecDepth 100000 in
set_option maxHeartbeats 2000000 in
theorem may_3_2 {w : World} {ct : Int} {nm : ByteArray} {n0 n1 n2 n3 : Bool} {s0 s1 s2 s3 : ByteArray} {A : Option Addr} {n c : Nat} (hn : nm.toList.isEmpty = true) (hz : decide (n0 = false ∧ s0 = ⟨#[]⟩ ∧ n1 = false ∧ s1 = ⟨#[]⟩ ∧ n2 = false ∧ s2 = ⟨#[]⟩ ∧ n3 = false ∧ s3 = ⟨#[]⟩) = true) (hl : ((n : Int) == 0) = false) :
  Calls Tryz.prog 47 #[.agg #[.int .i64 3, .string nm, .bool n0, .string s0, .bool n1, .string s1, .bool n2, .string s2, .bool n3, .string s3, .slice A n c, .int .i64 ct]] w (fun e w' => e = .returned (.bool false) ∧ Below w.heap.size w w') := by
 have hzq := fun W => eql_gs n0 false n1 false n2 false n3 false s0 ⟨#[]⟩ s1 ⟨#[]⟩ s2 ⟨#[]⟩ s3 ⟨#[]⟩ W
 rw [hz] at hzq
 clear hz
 have hbx := Box.new w 41 #[.int .i64 3, .string nm, .bool n0, .string s0, .bool n1, .string s1, .bool n2, .string s2, .bool n3, .string s3, .slice A n c, .int .i64 ct]
 go_enter Tryz.func47, Tryz.ntmps47
 go_wp2_with fail
 go_ret
 exact ⟨rfl, hbx.2⟩
set_option maxRecDepth 100000 in
set_option maxHeartbeats 2000000 in
theorem may_3_3 {w : World} {ct : Int} {nm : ByteArray} {n0 n1 n2 n3 : Bool} {s0 s1 s2 s3 : ByteArray} {A : Option Addr} {n c : Nat} (hn : nm.toList.isEmpty = true) (hz : decide (n0 = false ∧ s0 = ⟨#[]⟩ ∧ n1 = false ∧ s1 = ⟨#[]⟩ ∧ n2 = false ∧ s2 = ⟨#[]⟩ ∧ n3 = false ∧ s3 = ⟨#[]⟩) = true) (hl : ((n : Int) == 0) = true) (hc : (ct == 0) = false) :
  Calls Tryz.prog 47 #[.agg #[.int .i64 3, .string nm, .bool n0, .string s0, .bool n1, .string s1, .bool n2, .string s2, .bool n3, .string s3, .slice A n c, .int .i64 ct]] w (fun e w' => e = .returned (.bool false) ∧ Below w.heap.size w w') := by
 have hzq := fun W => eql_gs n0 false n1 false n2 false n3 false s0 ⟨#[]⟩ s1 ⟨#[]⟩ s2 ⟨#[]⟩ s3 ⟨#[]⟩ W
 rw [hz] at hzq
 clear hz
 have hbx := Box.new w 41 #[.int .i64 3, .string nm, .bool n0, .string s0, .bool n1, .string s1, .bool n2, .string s2, .bool n3, .string s3, .slice A n c, .int .i64 ct]
 go_enter Tryz.func47, Tryz.ntmps47
 go_wp2_with fail
 go_ret
 exact ⟨rfl, hbx.2⟩
set_option maxRecDepth 100000 in
set_option maxHeartbeats 2000000 in
theorem may_3_4 {w : World} {ct : Int} {nm : ByteArray} {n0 n1 n2 n3 : Bool} {s0 s1 s2 s3 : ByteArray} {A : Option Addr} {n c : Nat} (hn : nm.toList.isEmpty = true) (hz : decide (n0 = false ∧ s0 = ⟨#[]⟩ ∧ n1 = false ∧ s1 = ⟨#[]⟩ ∧ n2 = false ∧ s2 = ⟨#[]⟩ ∧ n3 = false ∧ s3 = ⟨#[]⟩) = true) (hl : ((n : Int) == 0) = true) (hc : (ct == 0) = true) :
  Calls Tryz.prog 47 #[.agg #[.int .i64 3, .string nm, .bool n0, .string s0, .bool n1, .string s1, .bool n2, .string s2, .bool n3, .string s3, .slice A n c, .int .i64 ct]] w (fun e w' => e = .returned (.bool true) ∧ Below w.heap.size w w') := by
 have hzq := fun W => eql_gs n0 false n1 false n2 false n3 false s0 ⟨#[]⟩ s1 ⟨#[]⟩ s2 ⟨#[]⟩ s3 ⟨#[]⟩ W
 rw [hz] at hzq
 clear hz
 have hbx := Box.new w 41 #[.int .i64 3, .string nm, .bool n0, .string s0, .bool n1, .string s1, .bool n2, .string s2, .bool n3, .string s3, .slice A n c, .int .i64 ct]
 go_enter Tryz.func47, Tryz.ntmps47
 go_wp2_with fail
 go_ret
 exact ⟨rfl, hbx.2⟩
set_option maxRecDepth 100000 in
set_option maxHeartbeats 2000000 in
theorem may_5_0 {w : World} {ct : Int} {nm : ByteArray} {n0 n1 n2 n3 : Bool} {s0 s1 s2 s3 : ByteArray} {A : Option Addr} {n c : Nat} (hn : nm.toList.isEmpty = false) :
  Calls Tryz.prog 47 #[.agg #[.int .i64 5, .string nm, .bool n0, .string s0, .bool n1, .string s1, .bool n2, .string s2, .bool n3, .string s3, .slice A n c, .int .i64 ct]] w (fun e w' => e = .returned (.bool false) ∧ Below w.heap.size w w') := by
 obtain ⟨bz, hbz⟩ : ∃ b : Bool, decide (n0 = false ∧ s0 = ⟨#[]⟩ ∧ n1 = false ∧ s1 = ⟨#[]⟩ ∧ n2 = false ∧ s2 = ⟨#[]⟩ ∧ n3 = false ∧ s3 = ⟨#[]⟩) = b := ⟨_, rfl⟩
 have hzq := fun W => eql_gs n0 false n1 false n2 false n3 false s0 ⟨#[]⟩ s1 ⟨#[]⟩ s2 ⟨#[]⟩ s3 ⟨#[]⟩ W
 rw [hbz] at hzq
 clear hbz
 have hbx := Box.new w 41 #[.int .i64 5, .string nm, .bool n0, .string s0, .bool n1, .string s1, .bool n2, .string s2, .bool n3, .string s3, .slice A n c, .int .i64 ct]
 go_enter Tryz.func47, Tryz.ntmps47
 go_wp2_with fail
 go_ret
 exact ⟨rfl, hbx.2⟩
set_option maxRecDepth 100000 in
set_option maxHeartbeats 2000000 in
theorem may_5_1 {w : World} {ct : Int} {nm : ByteArray} {n0 n1 n2 n3 : Bool} {s0 s1 s2 s3 : ByteArray} {A : Option Addr} {n c : Nat} (hn : nm.toList.isEmpty = true) (hz : decide (n0 = false ∧ s0 = ⟨#[]⟩ ∧ n1 = false ∧ s1 = ⟨#[]⟩ ∧ n2 = false ∧ s2 = ⟨#[]⟩ ∧ n3 = false ∧ s3 = ⟨#[]⟩) = false) :
  Calls Tryz.prog 47 #[.agg #[.int .i64 5, .string nm, .bool n0, .string s0, .bool n1, .string s1, .bool n2, .string s2, .bool n3, .string s3, .slice A n c, .int .i64 ct]] w (fun e w' => e = .returned (.bool false) ∧ Below w.heap.size w w') := by
 have hzq := fun W => eql_gs n0 false n1 false n2 false n3 false s0 ⟨#[]⟩ s1 ⟨#[]⟩ s2 ⟨#[]⟩ s3 ⟨#[]⟩ W
 rw [hz] at hzq
 clear hz
 have hbx := Box.new w 41 #[.int .i64 5, .string nm, .bool n0, .string s0, .bool n1, .string s1, .bool n2, .string s2, .bool n3, .string s3, .slice A n c, .int .i64 ct]
 go_enter Tryz.func47, Tryz.ntmps47
 go_wp2_with fail
 go_ret
 exact ⟨rfl, hbx.2⟩
set_option maxRecDepth 100000 in
set_option maxHeartbeats 2000000 in
theorem may_5_2 {w : World} {ct : Int} {nm : ByteArray} {n0 n1 n2 n3 : Bool} {s0 s1 s2 s3 : ByteArray} {A : Option Addr} {n c : Nat} (hn : nm.toList.isEmpty = true) (hz : decide (n0 = false ∧ s0 = ⟨#[]⟩ ∧ n1 = false ∧ s1 = ⟨#[]⟩ ∧ n2 = false ∧ s2 = ⟨#[]⟩ ∧ n3 = false ∧ s3 = ⟨#[]⟩) = true) (hl : ((n : Int) == 0) = false) :
  Calls Tryz.prog 47 #[.agg #[.int .i64 5, .string nm, .bool n0, .string s0, .bool n1, .string s1, .bool n2, .string s2, .bool n3, .string s3, .slice A n c, .int .i64 ct]] w (fun e w' => e = .returned (.bool false) ∧ Below w.heap.size w w') := by
 have hzq := fun W => eql_gs n0 false n1 false n2 false n3 false s0 ⟨#[]⟩ s1 ⟨#[]⟩ s2 ⟨#[]⟩ s3 ⟨#[]⟩ W
 rw [hz] at hzq
 clear hz
 have hbx := Box.new w 41 #[.int .i64 5, .string nm, .bool n0, .string s0, .bool n1, .string s1, .bool n2, .string s2, .bool n3, .string s3, .slice A n c, .int .i64 ct]
 go_enter Tryz.func47, Tryz.ntmps47
 go_wp2_with fail
 go_ret
 exact ⟨rfl, hbx.2⟩
set_option maxRecDepth 100000 in
set_option maxHeartbeats 2000000 in
theorem may_5_3 {w : World} {ct : Int} {nm : ByteArray} {n0 n1 n2 n3 : Bool} {s0 s1 s2 s3 : ByteArray} {A : Option Addr} {n c : Nat} (hn : nm.toList.isEmpty = true) (hz : decide (n0 = false ∧ s0 = ⟨#[]⟩ ∧ n1 = false ∧ s1 = ⟨#[]⟩ ∧ n2 = false ∧ s2 = ⟨#[]⟩ ∧ n3 = false ∧ s3 = ⟨#[]⟩) = true) (hl : ((n : Int) == 0) = true) (hc1 : ¬ 0 ≤ ct) :
  Calls Tryz.prog 47 #[.agg #[.int .i64 5, .string nm, .bool n0, .string s0, .bool n1, .string s1, .bool n2, .string s2, .bool n3, .string s3, .slice A n c, .int .i64 ct]] w (fun e w' => e = .returned (.bool false) ∧ Below w.heap.size w w') := by
 have hzq := fun W => eql_gs n0 false n1 false n2 false n3 false s0 ⟨#[]⟩ s1 ⟨#[]⟩ s2 ⟨#[]⟩ s3 ⟨#[]⟩ W
 rw [hz] at hzq
 clear hz
 have hbx := Box.new w 41 #[.int .i64 5, .string nm, .bool n0, .string s0, .bool n1, .string s1, .bool n2, .string s2, .bool n3, .string s3, .slice A n c, .int .i64 ct]
 go_enter Tryz.func47, Tryz.ntmps47
 go_wp2_with fail
 go_ret
 exact ⟨rfl, hbx.2⟩
set_option maxRecDepth 100000 in
set_option maxHeartbeats 2000000 in
theorem may_5_4 {w : World} {ct : Int} {nm : ByteArray} {n0 n1 n2 n3 : Bool} {s0 s1 s2 s3 : ByteArray} {A : Option Addr} {n c : Nat} (hn : nm.toList.isEmpty = true) (hz : decide (n0 = false ∧ s0 = ⟨#[]⟩ ∧ n1 = false ∧ s1 = ⟨#[]⟩ ∧ n2 = false ∧ s2 = ⟨#[]⟩ ∧ n3 = false ∧ s3 = ⟨#[]⟩) = true) (hl : ((n : Int) == 0) = true) (hc1 : 0 ≤ ct) (hc2 : ¬ ct ≤ 2147483647) :
  Calls Tryz.prog 47 #[.agg #[.int .i64 5, .string nm, .bool n0, .string s0, .bool n1, .string s1, .bool n2, .string s2, .bool n3, .string s3, .slice A n c, .int .i64 ct]] w (fun e w' => e = .returned (.bool false) ∧ Below w.heap.size w w') := by
 have hzq := fun W => eql_gs n0 false n1 false n2 false n3 false s0 ⟨#[]⟩ s1 ⟨#[]⟩ s2 ⟨#[]⟩ s3 ⟨#[]⟩ W
 rw [hz] at hzq
 clear hz
 have hbx := Box.new w 41 #[.int .i64 5, .string nm, .bool n0, .string s0, .bool n1, .string s1, .bool n2, .string s2, .bool n3, .string s3, .slice A n c, .int .i64 ct]
 go_enter Tryz.func47, Tryz.ntmps47
 go_wp2_with fail
 go_ret
 exact ⟨rfl, hbx.2⟩
set_option maxRecDepth 100000 in
set_option maxHeartbeats 2000000 in
theorem may_5_5 {w : World} {ct : Int} {nm : ByteArray} {n0 n1 n2 n3 : Bool} {s0 s1 s2 s3 : ByteArray} {A : Option Addr} {n c : Nat} (hn : nm.toList.isEmpty = true) (hz : decide (n0 = false ∧ s0 = ⟨#[]⟩ ∧ n1 = false ∧ s1 = ⟨#[]⟩ ∧ n2 = false ∧ s2 = ⟨#[]⟩ ∧ n3 = false ∧ s3 = ⟨#[]⟩) = true) (hl : ((n : Int) == 0) = true) (hc1 : 0 ≤ ct) (hc2 : ct ≤ 2147483647) :
  Calls Tryz.prog 47 #[.agg #[.int .i64 5, .string nm, .bool n0, .string s0, .bool n1, .string s1, .bool n2, .string s2, .bool n3, .string s3, .slice A n c, .int .i64 ct]] w (fun e w' => e = .returned (.bool true) ∧ Below w.heap.size w w') := by
 have hzq := fun W => eql_gs n0 false n1 false n2 false n3 false s0 ⟨#[]⟩ s1 ⟨#[]⟩ s2 ⟨#[]⟩ s3 ⟨#[]⟩ W
 rw [hz] at hzq
 clear hz
 have hbx := Box.new w 41 #[.int .i64 5, .string nm, .bool n0, .string s0, .bool n1, .string s1, .bool n2, .string s2, .bool n3, .string s3, .slice A n c, .int .i64 ct]
 go_enter Tryz.func47, Tryz.ntmps47
 go_wp2_with fail
 go_ret
 exact ⟨rfl, hbx.2⟩
set_option maxRecDepth 100000 in
set_option maxHeartbeats 2000000 in
theorem may_else {w : World} {k ct : Int} {nm : ByteArray} {n0 n1 n2 n3 : Bool} {s0 s1 s2 s3 : ByteArray} {A : Option Addr} {n c : Nat} (h1 : ¬ k = 1) (h2 : ¬ k = 2) (h3 : ¬ k = 3) (h4 : ¬ k = 4) (h5 : ¬ k = 5) :
  Calls Tryz.prog 47 #[.agg #[.int .i64 k, .string nm, .bool n0, .string s0, .bool n1, .string s1, .bool n2, .string s2, .bool n3, .string s3, .slice A n c, .int .i64 ct]] w (fun e w' => e = .returned (.bool false) ∧ Below w.heap.size w w') := by
 obtain ⟨bz, hbz⟩ : ∃ b : Bool, decide (n0 = false ∧ s0 = ⟨#[]⟩ ∧ n1 = false ∧ s1 = ⟨#[]⟩ ∧ n2 = false ∧ s2 = ⟨#[]⟩ ∧ n3 = false ∧ s3 = ⟨#[]⟩) = b := ⟨_, rfl⟩
 have hzq := fun W => eql_gs n0 false n1 false n2 false n3 false s0 ⟨#[]⟩ s1 ⟨#[]⟩ s2 ⟨#[]⟩ s3 ⟨#[]⟩ W
 rw [hbz] at hzq
 clear hbz
 have hbx := Box.new w 41 #[.int .i64 k, .string nm, .bool n0, .string s0, .bool n1, .string s1, .bool n2, .string s2, .bool n3, .string s3, .slice A n c, .int .i64 ct]
 go_enter Tryz.func47, Tryz.ntmps47
 go_wp2_with fail
 go_ret
 exact ⟨rfl, hbx.2⟩
theorem letA_step {l : List Int} {i : Nat} (h : i < l.length) (h0 : (l.take i).all letA = true) (h1 : letA l[i] = true) : (l.take (i + 1)).all letA = true := by
 rw [List.take_succ_eq_append_getElem h, List.all_append, h0]
 simp [h1]
theorem letA_no {l : List Int} {i : Nat} (h : i < l.length) (h1 : letA l[i] = false) : l.all letA = false := by
 rw [List.all_eq_false]
 exact ⟨_, List.getElem_mem h, by rw [h1]; decide⟩
theorem ret_b {a b : Bool} {w w0 w' : World} (h : a = b) (hb : Below w0.heap.size w w') : Ending.returned (.bool a) = .returned (.bool b) ∧ Below w0.heap.size w w' := ⟨by rw [h], hb⟩
set_option maxRecDepth 100000 in
set_option maxHeartbeats 4000000 in
theorem may_4 {w : World} {ct : Int} {nm : ByteArray} {n0 n1 n2 n3 : Bool} {s0 s1 s2 s3 : ByteArray} {A : Option Addr} {n c B : Nat} {l : List Int} (hr : ReadsI w B A l) (hB : B ≤ w.heap.size) (hn : n = l.length) (hnl : n ≤ 1000000000) {b1 b2 b3 b4 r : Bool}
  (h1 : nm.toList.isEmpty = b1) (h2 : decide (n0 = false ∧ s0 = ⟨#[]⟩ ∧ n1 = false ∧ s1 = ⟨#[]⟩ ∧ n2 = false ∧ s2 = ⟨#[]⟩ ∧ n3 = false ∧ s3 = ⟨#[]⟩) = b2) (h3 : decide ((n : Int) ≤ 4096) = b3) (h4 : (ct == 0) = b4) (hres : r = (l.all letA && (b1 && (b2 && (b3 && b4))))) :
  Calls Tryz.prog 47 #[.agg #[.int .i64 4, .string nm, .bool n0, .string s0, .bool n1, .string s1, .bool n2, .string s2, .bool n3, .string s3, .slice A n c, .int .i64 ct]] w (fun e w' => e = .returned (.bool r) ∧ Below w.heap.size w w') := by
 have hzq := fun W => eql_gs n0 false n1 false n2 false n3 false s0 ⟨#[]⟩ s1 ⟨#[]⟩ s2 ⟨#[]⟩ s3 ⟨#[]⟩ W
 rw [h2] at hzq
 clear h2
 have Hr := Lib.hid (hr.alloc hB (.cells #[.int .i64 4, .string nm, .bool n0, .string s0, .bool n1, .string s1, .bool n2, .string s2, .bool n3, .string s3, .slice A n c, .int .i64 ct] 41))
 have Hn := Lib.hid hn
 have HR := Lib.hid hres
 have H3 := Lib.hid h3
 clear hr hn hres h3
 have hbx := Box.new w 41 #[.int .i64 4, .string nm, .bool n0, .string s0, .bool n1, .string s1, .bool n2, .string s2, .bool n3, .string s3, .slice A n c, .int .i64 ct]
 have c1 := hbx.1.cell 1
 have c10 := hbx.1.cell 10
 have c11 := hbx.1.cell 11
 have HX := Lib.hid hbx
 clear hbx
 go_enter Tryz.func47, Tryz.ntmps47
 go_wp2_with fail
 go_loopg [76] n (fun k iv wr => ∃ (i : Nat), iv = .int .i64 (i : Int) ∧ k = n - i ∧ i ≤ n ∧ Hid ((l.take i).all letA = true) ∧ Hid (wr = w.alloc (.cells #[.int .i64 4, .string nm, .bool n0, .string s0, .bool n1, .string s1, .bool n2, .string s2, .bool n3, .string s3, .slice A n c, .int .i64 ct] 41)))
 case atStart => exact ⟨0, rfl, by omega, by omega, Lib.hid (by simp), Lib.hid rfl⟩
 case round =>
  obtain ⟨i, rfl, hk, hi, htk, hw⟩ := hrel
  have Hk := Lib.hid hk
  clear hk
  have ew := hw.out
  subst ew
  by_cases hin : i < n
  ·have hil : i < l.length := by rw [← Hn.out]; omega
   obtain ⟨ad, rfl, hb1, e0⟩ := Hr.out.at_ hil
   have hii : (i : Int) < (n : Int) := by omega
   have Hst := Lib.hid (letA_step hil htk.out)
   have Hno := Lib.hid (letA_no hil)
   generalize l[i] = x at *
   clear hb1 hil
   by_cases x0 : x = 0
   ·subst x0
    go_wp2_with (go_quiet (fail))
    go_ret
    exact ret_b (by rw [HR.out, Hno.out (by decide), Bool.false_and]) HX.out.2
   ·have x1 : (x == 0) = false := by simpa using x0
    by_cases x2 : 4096 < x
    ·go_wp2_with (go_quiet (fail))
     go_ret
     exact ret_b (by rw [HR.out, Hno.out (decide_eq_false (by omega)), Bool.false_and]) HX.out.2
    ·by_cases x3 : x < -4096
     ·go_wp2_with (go_quiet (fail))
      go_ret
      exact ret_b (by rw [HR.out, Hno.out (decide_eq_false (by omega)), Bool.false_and]) HX.out.2
     ·have hnext := Lib.hid (Hst.out (decide_eq_true (by omega)))
      go_wp2_with (go_quiet (fail))
      go_roundg (n - (i + 1))
      case measure => have := Hk.out; omega
      case rel => exact ⟨i + 1, rfl, rfl, by omega, hnext, Lib.hid rfl⟩
  ·have hii : ¬ (i : Int) < (n : Int) := by omega
   have Hall := Lib.hid (show l.all letA = true by
    have h := htk.out
    rwa [List.take_of_length_le (by have := Hn.out; omega)] at h)
   cases b1
   ·go_wp2_with (go_quiet (fail))
    go_ret
    exact ret_b (by rw [HR.out, Bool.false_and, Bool.and_false]) HX.out.2
   cases b2
   ·go_wp2_with (go_quiet (fail))
    go_ret
    exact ret_b (by rw [HR.out, Bool.false_and, Bool.and_false, Bool.and_false]) HX.out.2
   cases b3
   ·have i3 : ¬ (n : Int) ≤ 4096 := of_decide_eq_false H3.out
    go_wp2_with (go_quiet (fail))
    go_ret
    exact ret_b (by rw [HR.out, Bool.false_and, Bool.and_false, Bool.and_false, Bool.and_false]) HX.out.2
   have i3 : (n : Int) ≤ 4096 := of_decide_eq_true H3.out
   cases b4
   ·go_wp2_with (go_quiet (fail))
    go_ret
    exact ret_b (by rw [HR.out, Bool.and_false, Bool.and_false, Bool.and_false, Bool.and_false]) HX.out.2
   ·go_wp2_with (go_quiet (fail))
    go_ret
    exact ret_b (by rw [HR.out, Hall.out]; rfl) HX.out.2
theorem emp_yes {s : ByteArray} (h : s = ⟨#[]⟩) : s.toList.isEmpty = true := by subst h; rw [toL]; rfl
theorem emp_no {s : ByteArray} (h : ¬ s = ⟨#[]⟩) : s.toList.isEmpty = false := by
 rw [Bool.eq_false_iff]
 intro h2
 exact h (tl_inj (by rw [List.isEmpty_iff.1 h2, toL]))
theorem len_yes {l : List Int} (h : l = []) : ((l.length : Int) == 0) = true := by subst h; rfl
theorem len_no {l : List Int} (h : ¬ l = []) : ((l.length : Int) == 0) = false := by
 have : l.length ≠ 0 := fun e => h (List.eq_nil_of_length_eq_zero e)
 simp; exact h
theorem ct_yes {z : Int} (h : z = 0) : (z == 0) = true := by subst h; rfl
theorem ct_no {z : Int} (h : ¬ z = 0) : (z == 0) = false := by simpa using h
theorem no_b {b : Bool} {p : Prop} (hb : b = true ↔ p) (h : ¬ p) : b = false := by
 cases b
 ·rfl
 ·exact absurd (hb.1 rfl) h
theorem may_k1 {w : World} {A : Option Addr} {c : Nat} {x : ArgP} (hk : x.k = 1) (hnm : x.nm.size ≤ 9223372036854775807) {b : Bool} (hb : b = true ↔ (Sc.namedB x.nm.data.toList = true ∧ x.zero ∧ x.wd = [] ∧ x.ct = 0)) :
  Calls Tryz.prog 47 #[argV (A, c, x)] w (fun e w' => e = .returned (.bool b) ∧ Below w.heap.size w w') := by
 unfold argV
 simp only
 rw [hk]
 by_cases h0 : ¬ (Sc.namedB x.nm.data.toList = true)
 ·rw [no_b hb fun h => h0 h.1]; exact may_1_0 (Bool.eq_false_iff.2 h0) hnm
 replace h0 := Classical.not_not.1 h0
 by_cases h1 : ¬ (x.zero)
 ·rw [no_b hb fun h => h1 h.2.1]; exact may_1_1 h0 hnm (decide_eq_false h1)
 replace h1 := Classical.not_not.1 h1
 by_cases h2 : ¬ (x.wd = [])
 ·rw [no_b hb fun h => h2 h.2.2.1]; exact may_1_2 h0 hnm (decide_eq_true h1) (len_no h2)
 replace h2 := Classical.not_not.1 h2
 by_cases h3 : ¬ (x.ct = 0)
 ·rw [no_b hb fun h => h3 h.2.2.2]; exact may_1_3 h0 hnm (decide_eq_true h1) (len_yes h2) (ct_no h3)
 replace h3 := Classical.not_not.1 h3
 rw [hb.2 ⟨h0, h1, h2, h3⟩]; exact may_1_4 h0 hnm (decide_eq_true h1) (len_yes h2) (ct_yes h3)
theorem may_k2 {w : World} {A : Option Addr} {c : Nat} {x : ArgP} (hk : x.k = 2) (hnm : x.nm.size ≤ 9223372036854775807) {b : Bool} (hb : b = true ↔ (x.nm = ⟨#[]⟩ ∧ x.gs ∧ x.wd = [] ∧ x.ct = 0)) :
  Calls Tryz.prog 47 #[argV (A, c, x)] w (fun e w' => e = .returned (.bool b) ∧ Below w.heap.size w w') := by
 unfold argV
 simp only
 rw [hk]
 by_cases h0 : ¬ (x.nm = ⟨#[]⟩)
 ·rw [no_b hb fun h => h0 h.1]; exact may_2_0 (emp_no h0)
 replace h0 := Classical.not_not.1 h0
 by_cases h1 : ¬ (x.gs)
 ·rw [no_b hb fun h => h1 h.2.1]; exact may_2_1 (emp_yes h0) h1
 replace h1 := Classical.not_not.1 h1
 by_cases h2 : ¬ (x.wd = [])
 ·rw [no_b hb fun h => h2 h.2.2.1]; exact may_2_2 (emp_yes h0) h1 (len_no h2)
 replace h2 := Classical.not_not.1 h2
 by_cases h3 : ¬ (x.ct = 0)
 ·rw [no_b hb fun h => h3 h.2.2.2]; exact may_2_3 (emp_yes h0) h1 (len_yes h2) (ct_no h3)
 replace h3 := Classical.not_not.1 h3
 rw [hb.2 ⟨h0, h1, h2, h3⟩]; exact may_2_4 (emp_yes h0) h1 (len_yes h2) (ct_yes h3)
theorem may_k3 {w : World} {A : Option Addr} {c : Nat} {x : ArgP} (hk : x.k = 3) (hnm : x.nm.size ≤ 9223372036854775807) {b : Bool} (hb : b = true ↔ (x.nm = ⟨#[]⟩ ∧ x.zero ∧ x.wd = [] ∧ x.ct = 0)) :
  Calls Tryz.prog 47 #[argV (A, c, x)] w (fun e w' => e = .returned (.bool b) ∧ Below w.heap.size w w') := by
 unfold argV
 simp only
 rw [hk]
 by_cases h0 : ¬ (x.nm = ⟨#[]⟩)
 ·rw [no_b hb fun h => h0 h.1]; exact may_3_0 (emp_no h0)
 replace h0 := Classical.not_not.1 h0
 by_cases h1 : ¬ (x.zero)
 ·rw [no_b hb fun h => h1 h.2.1]; exact may_3_1 (emp_yes h0) (decide_eq_false h1)
 replace h1 := Classical.not_not.1 h1
 by_cases h2 : ¬ (x.wd = [])
 ·rw [no_b hb fun h => h2 h.2.2.1]; exact may_3_2 (emp_yes h0) (decide_eq_true h1) (len_no h2)
 replace h2 := Classical.not_not.1 h2
 by_cases h3 : ¬ (x.ct = 0)
 ·rw [no_b hb fun h => h3 h.2.2.2]; exact may_3_3 (emp_yes h0) (decide_eq_true h1) (len_yes h2) (ct_no h3)
 replace h3 := Classical.not_not.1 h3
 rw [hb.2 ⟨h0, h1, h2, h3⟩]; exact may_3_4 (emp_yes h0) (decide_eq_true h1) (len_yes h2) (ct_yes h3)
theorem may_k5 {w : World} {A : Option Addr} {c : Nat} {x : ArgP} (hk : x.k = 5) (hnm : x.nm.size ≤ 9223372036854775807) {b : Bool} (hb : b = true ↔ (x.nm = ⟨#[]⟩ ∧ x.zero ∧ x.wd = [] ∧ 0 ≤ x.ct ∧ x.ct ≤ 2147483647)) :
  Calls Tryz.prog 47 #[argV (A, c, x)] w (fun e w' => e = .returned (.bool b) ∧ Below w.heap.size w w') := by
 unfold argV
 simp only
 rw [hk]
 by_cases h0 : ¬ (x.nm = ⟨#[]⟩)
 ·rw [no_b hb fun h => h0 h.1]; exact may_5_0 (emp_no h0)
 replace h0 := Classical.not_not.1 h0
 by_cases h1 : ¬ (x.zero)
 ·rw [no_b hb fun h => h1 h.2.1]; exact may_5_1 (emp_yes h0) (decide_eq_false h1)
 replace h1 := Classical.not_not.1 h1
 by_cases h2 : ¬ (x.wd = [])
 ·rw [no_b hb fun h => h2 h.2.2.1]; exact may_5_2 (emp_yes h0) (decide_eq_true h1) (len_no h2)
 replace h2 := Classical.not_not.1 h2
 by_cases h3 : ¬ (0 ≤ x.ct)
 ·rw [no_b hb fun h => h3 h.2.2.2.1]; exact may_5_3 (emp_yes h0) (decide_eq_true h1) (len_yes h2) h3
 replace h3 := Classical.not_not.1 h3
 by_cases h4 : ¬ (x.ct ≤ 2147483647)
 ·rw [no_b hb fun h => h4 h.2.2.2.2]; exact may_5_4 (emp_yes h0) (decide_eq_true h1) (len_yes h2) h3 h4
 replace h4 := Classical.not_not.1 h4
 rw [hb.2 ⟨h0, h1, h2, h3, h4⟩]; exact may_5_5 (emp_yes h0) (decide_eq_true h1) (len_yes h2) h3 h4
theorem may_any {w : World} {B : Nat} {r : ARow} (h : ArgR w B r) (hB : B ≤ w.heap.size) (hwl : r.2.2.wd.length ≤ 1000000000) (hnm : r.2.2.nm.size ≤ 9223372036854775807) {b : Bool} (hb : b = true ↔ r.2.2.ok) :
  Calls Tryz.prog 47 #[argV r] w (fun e w' => e = .returned (.bool b) ∧ Below w.heap.size w w') := by
 obtain ⟨A, c, x⟩ := r
 replace hb : b = true ↔ x.ok := hb
 replace hwl : x.wd.length ≤ 1000000000 := hwl
 replace hnm : x.nm.size ≤ 9223372036854775807 := hnm
 unfold ArgP.ok at hb
 by_cases h1 : x.k = 1
 ·rw [if_pos h1] at hb; exact may_k1 h1 hnm hb
 rw [if_neg h1] at hb
 by_cases h2 : x.k = 2
 ·rw [if_pos h2] at hb; exact may_k2 h2 hnm hb
 rw [if_neg h2] at hb
 by_cases h3 : x.k = 3
 ·rw [if_pos h3] at hb; exact may_k3 h3 hnm hb
 rw [if_neg h3] at hb
 by_cases h4 : x.k = 4
 ·rw [if_pos h4] at hb
  unfold argV
  simp only
  rw [h4]
  refine may_4 h.wd hB rfl hwl rfl rfl rfl rfl ?_
  have hi : x.nm.toList.isEmpty = decide (x.nm = ⟨#[]⟩) := by
   by_cases e : x.nm = ⟨#[]⟩
   ·rw [emp_yes e, decide_eq_true e]
   ·rw [emp_no e, decide_eq_false e]
  have hc : (x.ct == 0) = decide (x.ct = 0) := by
   by_cases e : x.ct = 0
   ·rw [ct_yes e, decide_eq_true e]
   ·rw [ct_no e, decide_eq_false e]
  rw [hi, hc, Bool.eq_iff_iff, hb]
  unfold ArgP.zero
  simp only [Bool.and_eq_true, decide_eq_true_eq]
  constructor
  ·rintro ⟨a1, a2, a3, a4, a5⟩
   exact ⟨a3, a1, a2, by omega, a5⟩
  ·rintro ⟨a3, a1, a2, a4, a5⟩
   exact ⟨a1, a2, a3, by omega, a5⟩
 rw [if_neg h4] at hb
 by_cases h5 : x.k = 5
 ·rw [if_pos h5] at hb; exact may_k5 h5 hnm hb
 rw [if_neg h5] at hb
 rw [no_b hb id]
 exact may_else h1 h2 h3 h4 h5
set_option maxRecDepth 100000 in
set_option maxHeartbeats 2000000 in
theorem same_0 {w : World} {B : Nat} {k ct : Int} {nm : ByteArray} {n0 n1 n2 n3 : Bool} {s0 s1 s2 s3 : ByteArray} {A : Option Addr} {n c : Nat} {l : List Int} {kx ctx : Int} {nmx : ByteArray} {n0x n1x n2x n3x : Bool} {s0x s1x s2x s3x : ByteArray} {Ax : Option Addr} {nx cx : Nat} {lx : List Int} (hr : ReadsI w B A l) (hrx : ReadsI w B Ax lx) (hB : B ≤ w.heap.size) (hn : n = l.length) (hnx : nx = lx.length) (hnl : n ≤ 1000000000) (hnlx : nx ≤ 1000000000) (e0 : ¬ l = lx) :
  Calls Tryz.prog 41 #[.agg #[.int .i64 k, .string nm, .bool n0, .string s0, .bool n1, .string s1, .bool n2, .string s2, .bool n3, .string s3, .slice A n c, .int .i64 ct], .agg #[.int .i64 kx, .string nmx, .bool n0x, .string s0x, .bool n1x, .string s1x, .bool n2x, .string s2x, .bool n3x, .string s3x, .slice Ax nx cx, .int .i64 ctx]] w (fun e w' => e = .returned (.bool false) ∧ Below w.heap.size w w') := by
 have HS : Hid (∀ W, Below w.heap.size w W → Calls Tryz.prog 31 #[.slice A n c, .slice Ax nx cx] W (fun e w' => ∃ d, e = .returned (.bool false) ∧ W.drewN d = w')) := Lib.hid fun W hb => (same_any ((hr.more hB).below hb) ((hrx.more hB).below hb) hn hnx hnl hnlx).mono fun e w' ⟨d, h1, h2⟩ => ⟨d, by rw [h1, decide_eq_false e0], h2⟩
 clear hr hrx hn hnx hnl hnlx e0
 have hbx := Box.new w 41 #[.int .i64 k, .string nm, .bool n0, .string s0, .bool n1, .string s1, .bool n2, .string s2, .bool n3, .string s3, .slice A n c, .int .i64 ct]
 have hby := Box.new (w.alloc (.cells #[.int .i64 k, .string nm, .bool n0, .string s0, .bool n1, .string s1, .bool n2, .string s2, .bool n3, .string s3, .slice A n c, .int .i64 ct] 41)) 41 #[.int .i64 kx, .string nmx, .bool n0x, .string s0x, .bool n1x, .string s1x, .bool n2x, .string s2x, .bool n3x, .string s3x, .slice Ax nx cx, .int .i64 ctx]
 have hbw := hbx.2.trans (hby.2.mono hbx.2.size)
 have hk := hbx.1.below hby.2 hbx.1.lt
 have c0 := hk.cell 0; have d0 := hby.1.cell 0; have c1 := hk.cell 1; have d1 := hby.1.cell 1; have c2 := hk.cell 2; have d2 := hby.1.cell 2; have c3 := hk.cell 3; have d3 := hby.1.cell 3; have c4 := hk.cell 4; have d4 := hby.1.cell 4; have c5 := hk.cell 5; have d5 := hby.1.cell 5; have c6 := hk.cell 6; have d6 := hby.1.cell 6; have c7 := hk.cell 7; have d7 := hby.1.cell 7; have c8 := hk.cell 8; have d8 := hby.1.cell 8; have c9 := hk.cell 9; have d9 := hby.1.cell 9; have c10 := hk.cell 10; have d10 := hby.1.cell 10; have c11 := hk.cell 11; have d11 := hby.1.cell 11
 go_enter Tryz.func41, Tryz.ntmps41
 go_wp2_with (go_at_call 31; (with_reducible refine (HS.out _ ?_).mono ?_); (first | exact hbw | skip); rintro _ _ ⟨d, rfl, rfl⟩)
 go_ret
 exact ⟨rfl, ⟨hbw.os, hbw.tape, hbw.output, hbw.size, hbw.block⟩⟩
set_option maxRecDepth 100000 in
set_option maxHeartbeats 2000000 in
theorem same_1 {w : World} {B : Nat} {k ct : Int} {nm : ByteArray} {n0 n1 n2 n3 : Bool} {s0 s1 s2 s3 : ByteArray} {A : Option Addr} {n c : Nat} {l : List Int} {kx ctx : Int} {nmx : ByteArray} {n0x n1x n2x n3x : Bool} {s0x s1x s2x s3x : ByteArray} {Ax : Option Addr} {nx cx : Nat} {lx : List Int} (hr : ReadsI w B A l) (hrx : ReadsI w B Ax lx) (hB : B ≤ w.heap.size) (hn : n = l.length) (hnx : nx = lx.length) (hnl : n ≤ 1000000000) (hnlx : nx ≤ 1000000000) (e0 : l = lx) (e1 : ¬ k = kx) :
  Calls Tryz.prog 41 #[.agg #[.int .i64 k, .string nm, .bool n0, .string s0, .bool n1, .string s1, .bool n2, .string s2, .bool n3, .string s3, .slice A n c, .int .i64 ct], .agg #[.int .i64 kx, .string nmx, .bool n0x, .string s0x, .bool n1x, .string s1x, .bool n2x, .string s2x, .bool n3x, .string s3x, .slice Ax nx cx, .int .i64 ctx]] w (fun e w' => e = .returned (.bool false) ∧ Below w.heap.size w w') := by
 have HS : Hid (∀ W, Below w.heap.size w W → Calls Tryz.prog 31 #[.slice A n c, .slice Ax nx cx] W (fun e w' => ∃ d, e = .returned (.bool true) ∧ W.drewN d = w')) := Lib.hid fun W hb => (same_any ((hr.more hB).below hb) ((hrx.more hB).below hb) hn hnx hnl hnlx).mono fun e w' ⟨d, h1, h2⟩ => ⟨d, by rw [h1, decide_eq_true e0], h2⟩
 clear hr hrx hn hnx hnl hnlx e0
 have e1b : (k == kx) = false := by simpa using e1
 have hbx := Box.new w 41 #[.int .i64 k, .string nm, .bool n0, .string s0, .bool n1, .string s1, .bool n2, .string s2, .bool n3, .string s3, .slice A n c, .int .i64 ct]
 have hby := Box.new (w.alloc (.cells #[.int .i64 k, .string nm, .bool n0, .string s0, .bool n1, .string s1, .bool n2, .string s2, .bool n3, .string s3, .slice A n c, .int .i64 ct] 41)) 41 #[.int .i64 kx, .string nmx, .bool n0x, .string s0x, .bool n1x, .string s1x, .bool n2x, .string s2x, .bool n3x, .string s3x, .slice Ax nx cx, .int .i64 ctx]
 have hbw := hbx.2.trans (hby.2.mono hbx.2.size)
 have hk := hbx.1.below hby.2 hbx.1.lt
 have c0 := hk.cell 0; have d0 := hby.1.cell 0; have c1 := hk.cell 1; have d1 := hby.1.cell 1; have c2 := hk.cell 2; have d2 := hby.1.cell 2; have c3 := hk.cell 3; have d3 := hby.1.cell 3; have c4 := hk.cell 4; have d4 := hby.1.cell 4; have c5 := hk.cell 5; have d5 := hby.1.cell 5; have c6 := hk.cell 6; have d6 := hby.1.cell 6; have c7 := hk.cell 7; have d7 := hby.1.cell 7; have c8 := hk.cell 8; have d8 := hby.1.cell 8; have c9 := hk.cell 9; have d9 := hby.1.cell 9; have c10 := hk.cell 10; have d10 := hby.1.cell 10; have c11 := hk.cell 11; have d11 := hby.1.cell 11
 go_enter Tryz.func41, Tryz.ntmps41
 go_wp2_with (go_at_call 31; (with_reducible refine (HS.out _ ?_).mono ?_); (first | exact hbw | skip); rintro _ _ ⟨d, rfl, rfl⟩)
 go_ret
 exact ⟨rfl, ⟨hbw.os, hbw.tape, hbw.output, hbw.size, hbw.block⟩⟩
set_option maxRecDepth 100000 in
set_option maxHeartbeats 2000000 in
theorem same_2 {w : World} {B : Nat} {k ct : Int} {nm : ByteArray} {n0 n1 n2 n3 : Bool} {s0 s1 s2 s3 : ByteArray} {A : Option Addr} {n c : Nat} {l : List Int} {kx ctx : Int} {nmx : ByteArray} {n0x n1x n2x n3x : Bool} {s0x s1x s2x s3x : ByteArray} {Ax : Option Addr} {nx cx : Nat} {lx : List Int} (hr : ReadsI w B A l) (hrx : ReadsI w B Ax lx) (hB : B ≤ w.heap.size) (hn : n = l.length) (hnx : nx = lx.length) (hnl : n ≤ 1000000000) (hnlx : nx ≤ 1000000000) (e0 : l = lx) (e1 : k = kx) (e2 : ¬ nm = nmx) :
  Calls Tryz.prog 41 #[.agg #[.int .i64 k, .string nm, .bool n0, .string s0, .bool n1, .string s1, .bool n2, .string s2, .bool n3, .string s3, .slice A n c, .int .i64 ct], .agg #[.int .i64 kx, .string nmx, .bool n0x, .string s0x, .bool n1x, .string s1x, .bool n2x, .string s2x, .bool n3x, .string s3x, .slice Ax nx cx, .int .i64 ctx]] w (fun e w' => e = .returned (.bool false) ∧ Below w.heap.size w w') := by
 have HS : Hid (∀ W, Below w.heap.size w W → Calls Tryz.prog 31 #[.slice A n c, .slice Ax nx cx] W (fun e w' => ∃ d, e = .returned (.bool true) ∧ W.drewN d = w')) := Lib.hid fun W hb => (same_any ((hr.more hB).below hb) ((hrx.more hB).below hb) hn hnx hnl hnlx).mono fun e w' ⟨d, h1, h2⟩ => ⟨d, by rw [h1, decide_eq_true e0], h2⟩
 clear hr hrx hn hnx hnl hnlx e0
 subst e1
 have e2a : ¬ nm.toList = nmx.toList := fun h => e2 (tl_inj h)
 have e2b : (nm.toList == nmx.toList) = false := by simpa using e2a
 have hbx := Box.new w 41 #[.int .i64 k, .string nm, .bool n0, .string s0, .bool n1, .string s1, .bool n2, .string s2, .bool n3, .string s3, .slice A n c, .int .i64 ct]
 have hby := Box.new (w.alloc (.cells #[.int .i64 k, .string nm, .bool n0, .string s0, .bool n1, .string s1, .bool n2, .string s2, .bool n3, .string s3, .slice A n c, .int .i64 ct] 41)) 41 #[.int .i64 k, .string nmx, .bool n0x, .string s0x, .bool n1x, .string s1x, .bool n2x, .string s2x, .bool n3x, .string s3x, .slice Ax nx cx, .int .i64 ctx]
 have hbw := hbx.2.trans (hby.2.mono hbx.2.size)
 have hk := hbx.1.below hby.2 hbx.1.lt
 have c0 := hk.cell 0; have d0 := hby.1.cell 0; have c1 := hk.cell 1; have d1 := hby.1.cell 1; have c2 := hk.cell 2; have d2 := hby.1.cell 2; have c3 := hk.cell 3; have d3 := hby.1.cell 3; have c4 := hk.cell 4; have d4 := hby.1.cell 4; have c5 := hk.cell 5; have d5 := hby.1.cell 5; have c6 := hk.cell 6; have d6 := hby.1.cell 6; have c7 := hk.cell 7; have d7 := hby.1.cell 7; have c8 := hk.cell 8; have d8 := hby.1.cell 8; have c9 := hk.cell 9; have d9 := hby.1.cell 9; have c10 := hk.cell 10; have d10 := hby.1.cell 10; have c11 := hk.cell 11; have d11 := hby.1.cell 11
 go_enter Tryz.func41, Tryz.ntmps41
 go_wp2_with (go_at_call 31; (with_reducible refine (HS.out _ ?_).mono ?_); (first | exact hbw | skip); rintro _ _ ⟨d, rfl, rfl⟩)
 go_ret
 exact ⟨rfl, ⟨hbw.os, hbw.tape, hbw.output, hbw.size, hbw.block⟩⟩
set_option maxRecDepth 100000 in
set_option maxHeartbeats 2000000 in
theorem same_3 {w : World} {B : Nat} {k ct : Int} {nm : ByteArray} {n0 n1 n2 n3 : Bool} {s0 s1 s2 s3 : ByteArray} {A : Option Addr} {n c : Nat} {l : List Int} {kx ctx : Int} {nmx : ByteArray} {n0x n1x n2x n3x : Bool} {s0x s1x s2x s3x : ByteArray} {Ax : Option Addr} {nx cx : Nat} {lx : List Int} (hr : ReadsI w B A l) (hrx : ReadsI w B Ax lx) (hB : B ≤ w.heap.size) (hn : n = l.length) (hnx : nx = lx.length) (hnl : n ≤ 1000000000) (hnlx : nx ≤ 1000000000) (e0 : l = lx) (e1 : k = kx) (e2 : nm = nmx) (e3 : ¬ (n0 = n0x ∧ s0 = s0x ∧ n1 = n1x ∧ s1 = s1x ∧ n2 = n2x ∧ s2 = s2x ∧ n3 = n3x ∧ s3 = s3x)) :
  Calls Tryz.prog 41 #[.agg #[.int .i64 k, .string nm, .bool n0, .string s0, .bool n1, .string s1, .bool n2, .string s2, .bool n3, .string s3, .slice A n c, .int .i64 ct], .agg #[.int .i64 kx, .string nmx, .bool n0x, .string s0x, .bool n1x, .string s1x, .bool n2x, .string s2x, .bool n3x, .string s3x, .slice Ax nx cx, .int .i64 ctx]] w (fun e w' => e = .returned (.bool false) ∧ Below w.heap.size w w') := by
 have HS : Hid (∀ W, Below w.heap.size w W → Calls Tryz.prog 31 #[.slice A n c, .slice Ax nx cx] W (fun e w' => ∃ d, e = .returned (.bool true) ∧ W.drewN d = w')) := Lib.hid fun W hb => (same_any ((hr.more hB).below hb) ((hrx.more hB).below hb) hn hnx hnl hnlx).mono fun e w' ⟨d, h1, h2⟩ => ⟨d, by rw [h1, decide_eq_true e0], h2⟩
 clear hr hrx hn hnx hnl hnlx e0
 subst e1
 subst e2
 have hzq := fun W => eql_gs n0 n0x n1 n1x n2 n2x n3 n3x s0 s0x s1 s1x s2 s2x s3 s3x W
 rw [decide_eq_false e3] at hzq
 clear e3
 have hbx := Box.new w 41 #[.int .i64 k, .string nm, .bool n0, .string s0, .bool n1, .string s1, .bool n2, .string s2, .bool n3, .string s3, .slice A n c, .int .i64 ct]
 have hby := Box.new (w.alloc (.cells #[.int .i64 k, .string nm, .bool n0, .string s0, .bool n1, .string s1, .bool n2, .string s2, .bool n3, .string s3, .slice A n c, .int .i64 ct] 41)) 41 #[.int .i64 k, .string nm, .bool n0x, .string s0x, .bool n1x, .string s1x, .bool n2x, .string s2x, .bool n3x, .string s3x, .slice Ax nx cx, .int .i64 ctx]
 have hbw := hbx.2.trans (hby.2.mono hbx.2.size)
 have hk := hbx.1.below hby.2 hbx.1.lt
 have c0 := hk.cell 0; have d0 := hby.1.cell 0; have c1 := hk.cell 1; have d1 := hby.1.cell 1; have c2 := hk.cell 2; have d2 := hby.1.cell 2; have c3 := hk.cell 3; have d3 := hby.1.cell 3; have c4 := hk.cell 4; have d4 := hby.1.cell 4; have c5 := hk.cell 5; have d5 := hby.1.cell 5; have c6 := hk.cell 6; have d6 := hby.1.cell 6; have c7 := hk.cell 7; have d7 := hby.1.cell 7; have c8 := hk.cell 8; have d8 := hby.1.cell 8; have c9 := hk.cell 9; have d9 := hby.1.cell 9; have c10 := hk.cell 10; have d10 := hby.1.cell 10; have c11 := hk.cell 11; have d11 := hby.1.cell 11
 go_enter Tryz.func41, Tryz.ntmps41
 go_wp2_with (go_at_call 31; (with_reducible refine (HS.out _ ?_).mono ?_); (first | exact hbw | skip); rintro _ _ ⟨d, rfl, rfl⟩)
 go_ret
 exact ⟨rfl, ⟨hbw.os, hbw.tape, hbw.output, hbw.size, hbw.block⟩⟩
set_option maxRecDepth 100000 in
set_option maxHeartbeats 2000000 in
theorem same_4 {w : World} {B : Nat} {k ct : Int} {nm : ByteArray} {n0 n1 n2 n3 : Bool} {s0 s1 s2 s3 : ByteArray} {A : Option Addr} {n c : Nat} {l : List Int} {kx ctx : Int} {nmx : ByteArray} {n0x n1x n2x n3x : Bool} {s0x s1x s2x s3x : ByteArray} {Ax : Option Addr} {nx cx : Nat} {lx : List Int} (hr : ReadsI w B A l) (hrx : ReadsI w B Ax lx) (hB : B ≤ w.heap.size) (hn : n = l.length) (hnx : nx = lx.length) (hnl : n ≤ 1000000000) (hnlx : nx ≤ 1000000000) (e0 : l = lx) (e1 : k = kx) (e2 : nm = nmx) (e3 : (n0 = n0x ∧ s0 = s0x ∧ n1 = n1x ∧ s1 = s1x ∧ n2 = n2x ∧ s2 = s2x ∧ n3 = n3x ∧ s3 = s3x)) (e4 : ¬ ct = ctx) :
  Calls Tryz.prog 41 #[.agg #[.int .i64 k, .string nm, .bool n0, .string s0, .bool n1, .string s1, .bool n2, .string s2, .bool n3, .string s3, .slice A n c, .int .i64 ct], .agg #[.int .i64 kx, .string nmx, .bool n0x, .string s0x, .bool n1x, .string s1x, .bool n2x, .string s2x, .bool n3x, .string s3x, .slice Ax nx cx, .int .i64 ctx]] w (fun e w' => e = .returned (.bool false) ∧ Below w.heap.size w w') := by
 have HS : Hid (∀ W, Below w.heap.size w W → Calls Tryz.prog 31 #[.slice A n c, .slice Ax nx cx] W (fun e w' => ∃ d, e = .returned (.bool true) ∧ W.drewN d = w')) := Lib.hid fun W hb => (same_any ((hr.more hB).below hb) ((hrx.more hB).below hb) hn hnx hnl hnlx).mono fun e w' ⟨d, h1, h2⟩ => ⟨d, by rw [h1, decide_eq_true e0], h2⟩
 clear hr hrx hn hnx hnl hnlx e0
 subst e1
 subst e2
 have hzq := fun W => eql_gs n0 n0x n1 n1x n2 n2x n3 n3x s0 s0x s1 s1x s2 s2x s3 s3x W
 rw [decide_eq_true e3] at hzq
 clear e3
 have e4b : (ct == ctx) = false := by simpa using e4
 have hbx := Box.new w 41 #[.int .i64 k, .string nm, .bool n0, .string s0, .bool n1, .string s1, .bool n2, .string s2, .bool n3, .string s3, .slice A n c, .int .i64 ct]
 have hby := Box.new (w.alloc (.cells #[.int .i64 k, .string nm, .bool n0, .string s0, .bool n1, .string s1, .bool n2, .string s2, .bool n3, .string s3, .slice A n c, .int .i64 ct] 41)) 41 #[.int .i64 k, .string nm, .bool n0x, .string s0x, .bool n1x, .string s1x, .bool n2x, .string s2x, .bool n3x, .string s3x, .slice Ax nx cx, .int .i64 ctx]
 have hbw := hbx.2.trans (hby.2.mono hbx.2.size)
 have hk := hbx.1.below hby.2 hbx.1.lt
 have c0 := hk.cell 0; have d0 := hby.1.cell 0; have c1 := hk.cell 1; have d1 := hby.1.cell 1; have c2 := hk.cell 2; have d2 := hby.1.cell 2; have c3 := hk.cell 3; have d3 := hby.1.cell 3; have c4 := hk.cell 4; have d4 := hby.1.cell 4; have c5 := hk.cell 5; have d5 := hby.1.cell 5; have c6 := hk.cell 6; have d6 := hby.1.cell 6; have c7 := hk.cell 7; have d7 := hby.1.cell 7; have c8 := hk.cell 8; have d8 := hby.1.cell 8; have c9 := hk.cell 9; have d9 := hby.1.cell 9; have c10 := hk.cell 10; have d10 := hby.1.cell 10; have c11 := hk.cell 11; have d11 := hby.1.cell 11
 go_enter Tryz.func41, Tryz.ntmps41
 go_wp2_with (go_at_call 31; (with_reducible refine (HS.out _ ?_).mono ?_); (first | exact hbw | skip); rintro _ _ ⟨d, rfl, rfl⟩)
 go_ret
 exact ⟨rfl, ⟨hbw.os, hbw.tape, hbw.output, hbw.size, hbw.block⟩⟩
set_option maxRecDepth 100000 in
set_option maxHeartbeats 2000000 in
theorem same_5 {w : World} {B : Nat} {k ct : Int} {nm : ByteArray} {n0 n1 n2 n3 : Bool} {s0 s1 s2 s3 : ByteArray} {A : Option Addr} {n c : Nat} {l : List Int} {kx ctx : Int} {nmx : ByteArray} {n0x n1x n2x n3x : Bool} {s0x s1x s2x s3x : ByteArray} {Ax : Option Addr} {nx cx : Nat} {lx : List Int} (hr : ReadsI w B A l) (hrx : ReadsI w B Ax lx) (hB : B ≤ w.heap.size) (hn : n = l.length) (hnx : nx = lx.length) (hnl : n ≤ 1000000000) (hnlx : nx ≤ 1000000000) (e0 : l = lx) (e1 : k = kx) (e2 : nm = nmx) (e3 : (n0 = n0x ∧ s0 = s0x ∧ n1 = n1x ∧ s1 = s1x ∧ n2 = n2x ∧ s2 = s2x ∧ n3 = n3x ∧ s3 = s3x)) (e4 : ct = ctx) :
  Calls Tryz.prog 41 #[.agg #[.int .i64 k, .string nm, .bool n0, .string s0, .bool n1, .string s1, .bool n2, .string s2, .bool n3, .string s3, .slice A n c, .int .i64 ct], .agg #[.int .i64 kx, .string nmx, .bool n0x, .string s0x, .bool n1x, .string s1x, .bool n2x, .string s2x, .bool n3x, .string s3x, .slice Ax nx cx, .int .i64 ctx]] w (fun e w' => e = .returned (.bool true) ∧ Below w.heap.size w w') := by
 have HS : Hid (∀ W, Below w.heap.size w W → Calls Tryz.prog 31 #[.slice A n c, .slice Ax nx cx] W (fun e w' => ∃ d, e = .returned (.bool true) ∧ W.drewN d = w')) := Lib.hid fun W hb => (same_any ((hr.more hB).below hb) ((hrx.more hB).below hb) hn hnx hnl hnlx).mono fun e w' ⟨d, h1, h2⟩ => ⟨d, by rw [h1, decide_eq_true e0], h2⟩
 clear hr hrx hn hnx hnl hnlx e0
 subst e1
 subst e2
 have hzq := fun W => eql_gs n0 n0x n1 n1x n2 n2x n3 n3x s0 s0x s1 s1x s2 s2x s3 s3x W
 rw [decide_eq_true e3] at hzq
 clear e3
 subst e4
 have hbx := Box.new w 41 #[.int .i64 k, .string nm, .bool n0, .string s0, .bool n1, .string s1, .bool n2, .string s2, .bool n3, .string s3, .slice A n c, .int .i64 ct]
 have hby := Box.new (w.alloc (.cells #[.int .i64 k, .string nm, .bool n0, .string s0, .bool n1, .string s1, .bool n2, .string s2, .bool n3, .string s3, .slice A n c, .int .i64 ct] 41)) 41 #[.int .i64 k, .string nm, .bool n0x, .string s0x, .bool n1x, .string s1x, .bool n2x, .string s2x, .bool n3x, .string s3x, .slice Ax nx cx, .int .i64 ct]
 have hbw := hbx.2.trans (hby.2.mono hbx.2.size)
 have hk := hbx.1.below hby.2 hbx.1.lt
 have c0 := hk.cell 0; have d0 := hby.1.cell 0; have c1 := hk.cell 1; have d1 := hby.1.cell 1; have c2 := hk.cell 2; have d2 := hby.1.cell 2; have c3 := hk.cell 3; have d3 := hby.1.cell 3; have c4 := hk.cell 4; have d4 := hby.1.cell 4; have c5 := hk.cell 5; have d5 := hby.1.cell 5; have c6 := hk.cell 6; have d6 := hby.1.cell 6; have c7 := hk.cell 7; have d7 := hby.1.cell 7; have c8 := hk.cell 8; have d8 := hby.1.cell 8; have c9 := hk.cell 9; have d9 := hby.1.cell 9; have c10 := hk.cell 10; have d10 := hby.1.cell 10; have c11 := hk.cell 11; have d11 := hby.1.cell 11
 go_enter Tryz.func41, Tryz.ntmps41
 go_wp2_with (go_at_call 31; (with_reducible refine (HS.out _ ?_).mono ?_); (first | exact hbw | skip); rintro _ _ ⟨d, rfl, rfl⟩)
 go_ret
 exact ⟨rfl, ⟨hbw.os, hbw.tape, hbw.output, hbw.size, hbw.block⟩⟩
theorem same_arg {w : World} {B : Nat} {r q : ARow} (hr : ArgR w B r) (hq : ArgR w B q) (hB : B ≤ w.heap.size) (hrl : r.2.2.wd.length ≤ 1000000000) (hql : q.2.2.wd.length ≤ 1000000000) {b : Bool} (hb : b = true ↔ r.2.2 = q.2.2) :
  Calls Tryz.prog 41 #[argV r, argV q] w (fun e w' => e = .returned (.bool b) ∧ Below w.heap.size w w') := by
 obtain ⟨A, c, k, nm, n0, s0, n1, s1, n2, s2, n3, s3, l, ct⟩ := r
 obtain ⟨Ax, cx, kx, nmx, n0x, s0x, n1x, s1x, n2x, s2x, n3x, s3x, lx, ctx⟩ := q
 have h1 := hr.wd
 have h2 := hq.wd
 by_cases e0 : l = lx
 ·by_cases e1 : k = kx
  ·by_cases e2 : nm = nmx
   ·by_cases e3 : (n0 = n0x ∧ s0 = s0x ∧ n1 = n1x ∧ s1 = s1x ∧ n2 = n2x ∧ s2 = s2x ∧ n3 = n3x ∧ s3 = s3x)
    ·by_cases e4 : ct = ctx
     ·rw [hb.2 (by obtain ⟨a1, a2, a3, a4, a5, a6, a7, a8⟩ := e3; subst e0 e1 e2 e4 a1 a2 a3 a4 a5 a6 a7 a8; rfl)]
      exact same_5 h1 h2 hB rfl rfl hrl hql e0 e1 e2 e3 e4
     ·rw [no_b hb fun h => e4 (congrArg ArgP.ct h)]; exact same_4 h1 h2 hB rfl rfl hrl hql e0 e1 e2 e3 e4
    ·rw [no_b hb fun h => e3 (by injection h; exact ⟨‹_›, ‹_›, ‹_›, ‹_›, ‹_›, ‹_›, ‹_›, ‹_›⟩)]; exact same_3 h1 h2 hB rfl rfl hrl hql e0 e1 e2 e3
   ·rw [no_b hb fun h => e2 (congrArg ArgP.nm h)]; exact same_2 h1 h2 hB rfl rfl hrl hql e0 e1 e2
  ·rw [no_b hb fun h => e1 (congrArg ArgP.k h)]; exact same_1 h1 h2 hB rfl rfl hrl hql e0 e1
 ·rw [no_b hb fun h => e0 (congrArg ArgP.wd h)]; exact same_0 h1 h2 hB rfl rfl hrl hql e0
set_option maxRecDepth 100000 in
set_option maxHeartbeats 2000000 in
theorem rmay_1 {w : World} {B : Nat} {ct : Int} {nm : ByteArray} {n0 n1 n2 n3 : Bool} {s0 s1 s2 s3 : ByteArray} {A : Option Addr} {c : Nat} {l : List Int} (hr : ArgR w B (A, c, ⟨1, nm, n0, s0, n1, s1, n2, s2, n3, s3, l, ct⟩)) (hB : B ≤ w.heap.size) (hl : l.length ≤ 1000000000) {b : Bool} (hn : Sc.namedB nm.data.toList = true) (hnz : nm.size ≤ 9223372036854775807) (hb : b = true ↔ (⟨1, nm, n0, s0, n1, s1, n2, s2, n3, s3, l, ct⟩ : ArgP) = ⟨1, nm, false, ⟨#[]⟩, false, ⟨#[]⟩, false, ⟨#[]⟩, false, ⟨#[]⟩, [], 0⟩) :
  Calls Tryz.prog 50 #[.agg #[.int .i64 1, .string nm, .bool n0, .string s0, .bool n1, .string s1, .bool n2, .string s2, .bool n3, .string s3, .slice A l.length c, .int .i64 ct]] w (fun e w' => e = .returned (.bool b) ∧ Below w.heap.size w w') := by
 have HQ : ArgR w B (none, 0, ⟨1, nm, false, ⟨#[]⟩, false, ⟨#[]⟩, false, ⟨#[]⟩, false, ⟨#[]⟩, [], 0⟩) := ⟨⟨(by decide : (-9223372036854775808 : Int) ≤ 1), (by decide : (1 : Int) ≤ 9223372036854775807)⟩, ⟨(by decide : (-9223372036854775808 : Int) ≤ 0), (by decide : (0 : Int) ≤ 9223372036854775807)⟩, ReadsI.none_ _ _ _⟩
 have HS : Hid (∀ W, Below w.heap.size w W → Calls Tryz.prog 41 #[.agg #[.int .i64 1, .string nm, .bool n0, .string s0, .bool n1, .string s1, .bool n2, .string s2, .bool n3, .string s3, .slice A l.length c, .int .i64 ct], .agg #[.int .i64 1, .string nm, .bool false, .string ⟨#[]⟩, .bool false, .string ⟨#[]⟩, .bool false, .string ⟨#[]⟩, .bool false, .string ⟨#[]⟩, .slice none 0 0, .int .i64 0]] W (fun e w' => e = .returned (.bool b) ∧ Below W.heap.size W w')) := Lib.hid fun W hw => same_arg (r := (A, c, ⟨1, nm, n0, s0, n1, s1, n2, s2, n3, s3, l, ct⟩)) (q := (none, 0, ⟨1, nm, false, ⟨#[]⟩, false, ⟨#[]⟩, false, ⟨#[]⟩, false, ⟨#[]⟩, [], 0⟩)) ((hr.more hB).below hw) ((HQ.more hB).below hw) hw.size hl (Nat.zero_le _) hb
 clear HQ
 have HN : Hid (∀ W, Calls Tryz.prog 49 #[.string nm] W (fun e w' => e = .returned (.bool true) ∧ W = w')) := Lib.hid fun W => (rnamed_any nm W hnz).mono fun e w' h => ⟨by rw [h.1, hn], h.2⟩
 clear hn hnz
 clear hr
 clear hb
 have hbx := Box.new w 41 #[.int .i64 1, .string nm, .bool n0, .string s0, .bool n1, .string s1, .bool n2, .string s2, .bool n3, .string s3, .slice A l.length c, .int .i64 ct]
 have hby := Box.new (w.alloc (.cells #[.int .i64 1, .string nm, .bool n0, .string s0, .bool n1, .string s1, .bool n2, .string s2, .bool n3, .string s3, .slice A l.length c, .int .i64 ct] 41)) 41 #[.int .i64 1, .string nm, .bool false, .string ⟨#[]⟩, .bool false, .string ⟨#[]⟩, .bool false, .string ⟨#[]⟩, .bool false, .string ⟨#[]⟩, .slice none 0 0, .int .i64 0]
 have hbw := hbx.2.trans (hby.2.mono hbx.2.size)
 have hsz : w.heap.size < (w.alloc (.cells #[.int .i64 1, .string nm, .bool n0, .string s0, .bool n1, .string s1, .bool n2, .string s2, .bool n3, .string s3, .slice A l.length c, .int .i64 ct] 41)).heap.size := hbx.1.lt
 have hbx := hbx.1.below hby.2 hsz
 have hby : Blk _ (w.heap.size + 1) 41 #[.int .i64 1, .string nm, .bool false, .string ⟨#[]⟩, .bool false, .string ⟨#[]⟩, .bool false, .string ⟨#[]⟩, .bool false, .string ⟨#[]⟩, .slice none 0 0, .int .i64 0] := (by have := hby.1; simpa using this)
 go_enter Tryz.func50, Tryz.ntmps50
 go_wp2_with (first
   | (go_at_call 49; (with_reducible refine (HN.out _).mono ?_); rintro _ _ ⟨rfl, rfl⟩)
   | (go_at_call 41; (with_reducible refine (HS.out _ ?_).mono ?_); (first | exact hbw | skip); rintro _ _ ⟨rfl, hb2⟩; have hbw := hbw.trans (hb2.mono hbw.size)))
 go_ret
 exact ⟨rfl, hbw⟩
set_option maxRecDepth 100000 in
set_option maxHeartbeats 2000000 in
theorem rmay_1n {w : World} {B : Nat} {ct : Int} {nm : ByteArray} {n0 n1 n2 n3 : Bool} {s0 s1 s2 s3 : ByteArray} {A : Option Addr} {c : Nat} {l : List Int} (hr : ArgR w B (A, c, ⟨1, nm, n0, s0, n1, s1, n2, s2, n3, s3, l, ct⟩)) (hB : B ≤ w.heap.size) (hl : l.length ≤ 1000000000) (hn : Sc.namedB nm.data.toList = false) (hnz : nm.size ≤ 9223372036854775807) :
  Calls Tryz.prog 50 #[.agg #[.int .i64 1, .string nm, .bool n0, .string s0, .bool n1, .string s1, .bool n2, .string s2, .bool n3, .string s3, .slice A l.length c, .int .i64 ct]] w (fun e w' => e = .returned (.bool false) ∧ Below w.heap.size w w') := by
 have HN : Hid (∀ W, Calls Tryz.prog 49 #[.string nm] W (fun e w' => e = .returned (.bool false) ∧ W = w')) := Lib.hid fun W => (rnamed_any nm W hnz).mono fun e w' h => ⟨by rw [h.1, hn], h.2⟩
 clear hn hnz
 clear hr
 have hbx := Box.new w 41 #[.int .i64 1, .string nm, .bool n0, .string s0, .bool n1, .string s1, .bool n2, .string s2, .bool n3, .string s3, .slice A l.length c, .int .i64 ct]
 have hby := Box.new (w.alloc (.cells #[.int .i64 1, .string nm, .bool n0, .string s0, .bool n1, .string s1, .bool n2, .string s2, .bool n3, .string s3, .slice A l.length c, .int .i64 ct] 41)) 41 #[.int .i64 1, .string nm, .bool false, .string ⟨#[]⟩, .bool false, .string ⟨#[]⟩, .bool false, .string ⟨#[]⟩, .bool false, .string ⟨#[]⟩, .slice none 0 0, .int .i64 0]
 have hbw := hbx.2.trans (hby.2.mono hbx.2.size)
 have hsz : w.heap.size < (w.alloc (.cells #[.int .i64 1, .string nm, .bool n0, .string s0, .bool n1, .string s1, .bool n2, .string s2, .bool n3, .string s3, .slice A l.length c, .int .i64 ct] 41)).heap.size := hbx.1.lt
 have hbx := hbx.1.below hby.2 hsz
 have hby : Blk _ (w.heap.size + 1) 41 #[.int .i64 1, .string nm, .bool false, .string ⟨#[]⟩, .bool false, .string ⟨#[]⟩, .bool false, .string ⟨#[]⟩, .bool false, .string ⟨#[]⟩, .slice none 0 0, .int .i64 0] := (by have := hby.1; simpa using this)
 go_enter Tryz.func50, Tryz.ntmps50
 go_wp2_with (go_at_call 49; (with_reducible refine (HN.out _).mono ?_); rintro _ _ ⟨rfl, rfl⟩)
 go_ret
 exact ⟨rfl, hbw⟩
set_option maxRecDepth 100000 in
set_option maxHeartbeats 2000000 in
theorem rmay_2 {w : World} {B : Nat} {ct : Int} {nm : ByteArray} {n0 n1 n2 n3 : Bool} {s0 s1 s2 s3 : ByteArray} {A : Option Addr} {c : Nat} {l : List Int} (hr : ArgR w B (A, c, ⟨2, nm, n0, s0, n1, s1, n2, s2, n3, s3, l, ct⟩)) (hB : B ≤ w.heap.size) (hl : l.length ≤ 1000000000) {b : Bool} (hg : MayGs n0 s0 n1 s1 n2 s2 n3 s3) (hb : b = true ↔ (⟨2, nm, n0, s0, n1, s1, n2, s2, n3, s3, l, ct⟩ : ArgP) = ⟨2, ⟨#[]⟩, n0, s0, n1, s1, n2, s2, n3, s3, [], 0⟩) :
  Calls Tryz.prog 50 #[.agg #[.int .i64 2, .string nm, .bool n0, .string s0, .bool n1, .string s1, .bool n2, .string s2, .bool n3, .string s3, .slice A l.length c, .int .i64 ct]] w (fun e w' => e = .returned (.bool b) ∧ Below w.heap.size w w') := by
 have HQ : ArgR w B (none, 0, ⟨2, ⟨#[]⟩, n0, s0, n1, s1, n2, s2, n3, s3, [], 0⟩) := ⟨⟨(by decide : (-9223372036854775808 : Int) ≤ 2), (by decide : (2 : Int) ≤ 9223372036854775807)⟩, ⟨(by decide : (-9223372036854775808 : Int) ≤ 0), (by decide : (0 : Int) ≤ 9223372036854775807)⟩, ReadsI.none_ _ _ _⟩
 have HS : Hid (∀ W, Below w.heap.size w W → Calls Tryz.prog 41 #[.agg #[.int .i64 2, .string nm, .bool n0, .string s0, .bool n1, .string s1, .bool n2, .string s2, .bool n3, .string s3, .slice A l.length c, .int .i64 ct], .agg #[.int .i64 2, .string ⟨#[]⟩, .bool n0, .string s0, .bool n1, .string s1, .bool n2, .string s2, .bool n3, .string s3, .slice none 0 0, .int .i64 0]] W (fun e w' => e = .returned (.bool b) ∧ Below W.heap.size W w')) := Lib.hid fun W hw => same_arg (r := (A, c, ⟨2, nm, n0, s0, n1, s1, n2, s2, n3, s3, l, ct⟩)) (q := (none, 0, ⟨2, ⟨#[]⟩, n0, s0, n1, s1, n2, s2, n3, s3, [], 0⟩)) ((hr.more hB).below hw) ((HQ.more hB).below hw) hw.size hl (Nat.zero_le _) hb
 clear HQ
 have HG : Hid (∀ W, Calls Tryz.prog 77 #[.agg #[.bool n0, .string s0, .bool n1, .string s1, .bool n2, .string s2, .bool n3, .string s3]] W (fun e w' => e = .returned (.bool true) ∧ Below W.heap.size W w')) := Lib.hid fun W => rmayg_any ⟨fun _ => hg, fun _ => rfl⟩
 clear hg
 clear hr
 clear hb
 have hbx := Box.new w 41 #[.int .i64 2, .string nm, .bool n0, .string s0, .bool n1, .string s1, .bool n2, .string s2, .bool n3, .string s3, .slice A l.length c, .int .i64 ct]
 have hby := Box.new (w.alloc (.cells #[.int .i64 2, .string nm, .bool n0, .string s0, .bool n1, .string s1, .bool n2, .string s2, .bool n3, .string s3, .slice A l.length c, .int .i64 ct] 41)) 41 #[.int .i64 2, .string ⟨#[]⟩, .bool n0, .string s0, .bool n1, .string s1, .bool n2, .string s2, .bool n3, .string s3, .slice none 0 0, .int .i64 0]
 have hbw := hbx.2.trans (hby.2.mono hbx.2.size)
 have hsz : w.heap.size < (w.alloc (.cells #[.int .i64 2, .string nm, .bool n0, .string s0, .bool n1, .string s1, .bool n2, .string s2, .bool n3, .string s3, .slice A l.length c, .int .i64 ct] 41)).heap.size := hbx.1.lt
 have hbx := hbx.1.below hby.2 hsz
 have hby : Blk _ (w.heap.size + 1) 41 #[.int .i64 2, .string ⟨#[]⟩, .bool n0, .string s0, .bool n1, .string s1, .bool n2, .string s2, .bool n3, .string s3, .slice none 0 0, .int .i64 0] := (by have := hby.1; simpa using this)
 go_enter Tryz.func50, Tryz.ntmps50
 go_wp2_with (first
   | (go_at_call 77; (with_reducible refine (HG.out _).mono ?_); rintro _ W1 ⟨rfl, hb1⟩; have hbx := hbx.below hb1 hbx.lt; have hby := hby.below hb1 hby.lt; have hbw := hbw.trans (hb1.mono hbw.size); have c0 := hbx.cell 0; have d0 := hby.cell 0; have c1 := hbx.cell 1; have d1 := hby.cell 1; have c2 := hbx.cell 2; have d2 := hby.cell 2; have c3 := hbx.cell 3; have d3 := hby.cell 3; have c4 := hbx.cell 4; have d4 := hby.cell 4; have c5 := hbx.cell 5; have d5 := hby.cell 5; have c6 := hbx.cell 6; have d6 := hby.cell 6; have c7 := hbx.cell 7; have d7 := hby.cell 7; have c8 := hbx.cell 8; have d8 := hby.cell 8; have c9 := hbx.cell 9; have d9 := hby.cell 9; have c10 := hbx.cell 10; have d10 := hby.cell 10; have c11 := hbx.cell 11; have d11 := hby.cell 11; clear hb1)
   | (go_at_call 41; (with_reducible refine (HS.out _ ?_).mono ?_); (first | exact hbw | skip); rintro _ _ ⟨rfl, hb2⟩; have hbw := hbw.trans (hb2.mono hbw.size)))
 go_ret
 exact ⟨rfl, hbw⟩
set_option maxRecDepth 100000 in
set_option maxHeartbeats 2000000 in
theorem rmay_2n {w : World} {B : Nat} {ct : Int} {nm : ByteArray} {n0 n1 n2 n3 : Bool} {s0 s1 s2 s3 : ByteArray} {A : Option Addr} {c : Nat} {l : List Int} (hr : ArgR w B (A, c, ⟨2, nm, n0, s0, n1, s1, n2, s2, n3, s3, l, ct⟩)) (hB : B ≤ w.heap.size) (hl : l.length ≤ 1000000000) (hg : ¬ MayGs n0 s0 n1 s1 n2 s2 n3 s3) :
  Calls Tryz.prog 50 #[.agg #[.int .i64 2, .string nm, .bool n0, .string s0, .bool n1, .string s1, .bool n2, .string s2, .bool n3, .string s3, .slice A l.length c, .int .i64 ct]] w (fun e w' => e = .returned (.bool false) ∧ Below w.heap.size w w') := by
 have HG : Hid (∀ W, Calls Tryz.prog 77 #[.agg #[.bool n0, .string s0, .bool n1, .string s1, .bool n2, .string s2, .bool n3, .string s3]] W (fun e w' => e = .returned (.bool false) ∧ Below W.heap.size W w')) := Lib.hid fun W => rmayg_any ⟨fun h => (by cases h), fun h => absurd h hg⟩
 clear hg
 clear hr
 have hbx := Box.new w 41 #[.int .i64 2, .string nm, .bool n0, .string s0, .bool n1, .string s1, .bool n2, .string s2, .bool n3, .string s3, .slice A l.length c, .int .i64 ct]
 have hby := Box.new (w.alloc (.cells #[.int .i64 2, .string nm, .bool n0, .string s0, .bool n1, .string s1, .bool n2, .string s2, .bool n3, .string s3, .slice A l.length c, .int .i64 ct] 41)) 41 #[.int .i64 2, .string ⟨#[]⟩, .bool n0, .string s0, .bool n1, .string s1, .bool n2, .string s2, .bool n3, .string s3, .slice none 0 0, .int .i64 0]
 have hbw := hbx.2.trans (hby.2.mono hbx.2.size)
 have hsz : w.heap.size < (w.alloc (.cells #[.int .i64 2, .string nm, .bool n0, .string s0, .bool n1, .string s1, .bool n2, .string s2, .bool n3, .string s3, .slice A l.length c, .int .i64 ct] 41)).heap.size := hbx.1.lt
 have hbx := hbx.1.below hby.2 hsz
 have hby : Blk _ (w.heap.size + 1) 41 #[.int .i64 2, .string ⟨#[]⟩, .bool n0, .string s0, .bool n1, .string s1, .bool n2, .string s2, .bool n3, .string s3, .slice none 0 0, .int .i64 0] := (by have := hby.1; simpa using this)
 go_enter Tryz.func50, Tryz.ntmps50
 go_wp2_with (go_at_call 77; (with_reducible refine (HG.out _).mono ?_); rintro _ W1 ⟨rfl, hb1⟩; have hbx := hbx.below hb1 hbx.lt; have hby := hby.below hb1 hby.lt; have hbw := hbw.trans (hb1.mono hbw.size); have c0 := hbx.cell 0; have d0 := hby.cell 0; have c1 := hbx.cell 1; have d1 := hby.cell 1; have c2 := hbx.cell 2; have d2 := hby.cell 2; have c3 := hbx.cell 3; have d3 := hby.cell 3; have c4 := hbx.cell 4; have d4 := hby.cell 4; have c5 := hbx.cell 5; have d5 := hby.cell 5; have c6 := hbx.cell 6; have d6 := hby.cell 6; have c7 := hbx.cell 7; have d7 := hby.cell 7; have c8 := hbx.cell 8; have d8 := hby.cell 8; have c9 := hbx.cell 9; have d9 := hby.cell 9; have c10 := hbx.cell 10; have d10 := hby.cell 10; have c11 := hbx.cell 11; have d11 := hby.cell 11; clear hb1)
 go_ret
 exact ⟨rfl, hbw⟩
set_option maxRecDepth 100000 in
set_option maxHeartbeats 2000000 in
theorem rmay_3 {w : World} {B : Nat} {ct : Int} {nm : ByteArray} {n0 n1 n2 n3 : Bool} {s0 s1 s2 s3 : ByteArray} {A : Option Addr} {c : Nat} {l : List Int} (hr : ArgR w B (A, c, ⟨3, nm, n0, s0, n1, s1, n2, s2, n3, s3, l, ct⟩)) (hB : B ≤ w.heap.size) (hl : l.length ≤ 1000000000) {b : Bool} (hb : b = true ↔ (⟨3, nm, n0, s0, n1, s1, n2, s2, n3, s3, l, ct⟩ : ArgP) = ⟨3, ⟨#[]⟩, false, ⟨#[]⟩, false, ⟨#[]⟩, false, ⟨#[]⟩, false, ⟨#[]⟩, [], 0⟩) :
  Calls Tryz.prog 50 #[.agg #[.int .i64 3, .string nm, .bool n0, .string s0, .bool n1, .string s1, .bool n2, .string s2, .bool n3, .string s3, .slice A l.length c, .int .i64 ct]] w (fun e w' => e = .returned (.bool b) ∧ Below w.heap.size w w') := by
 have HQ : ArgR w B (none, 0, ⟨3, ⟨#[]⟩, false, ⟨#[]⟩, false, ⟨#[]⟩, false, ⟨#[]⟩, false, ⟨#[]⟩, [], 0⟩) := ⟨⟨(by decide : (-9223372036854775808 : Int) ≤ 3), (by decide : (3 : Int) ≤ 9223372036854775807)⟩, ⟨(by decide : (-9223372036854775808 : Int) ≤ 0), (by decide : (0 : Int) ≤ 9223372036854775807)⟩, ReadsI.none_ _ _ _⟩
 have HS : Hid (∀ W, Below w.heap.size w W → Calls Tryz.prog 41 #[.agg #[.int .i64 3, .string nm, .bool n0, .string s0, .bool n1, .string s1, .bool n2, .string s2, .bool n3, .string s3, .slice A l.length c, .int .i64 ct], .agg #[.int .i64 3, .string ⟨#[]⟩, .bool false, .string ⟨#[]⟩, .bool false, .string ⟨#[]⟩, .bool false, .string ⟨#[]⟩, .bool false, .string ⟨#[]⟩, .slice none 0 0, .int .i64 0]] W (fun e w' => e = .returned (.bool b) ∧ Below W.heap.size W w')) := Lib.hid fun W hw => same_arg (r := (A, c, ⟨3, nm, n0, s0, n1, s1, n2, s2, n3, s3, l, ct⟩)) (q := (none, 0, ⟨3, ⟨#[]⟩, false, ⟨#[]⟩, false, ⟨#[]⟩, false, ⟨#[]⟩, false, ⟨#[]⟩, [], 0⟩)) ((hr.more hB).below hw) ((HQ.more hB).below hw) hw.size hl (Nat.zero_le _) hb
 clear HQ
 clear hr
 clear hb
 have hbx := Box.new w 41 #[.int .i64 3, .string nm, .bool n0, .string s0, .bool n1, .string s1, .bool n2, .string s2, .bool n3, .string s3, .slice A l.length c, .int .i64 ct]
 have hby := Box.new (w.alloc (.cells #[.int .i64 3, .string nm, .bool n0, .string s0, .bool n1, .string s1, .bool n2, .string s2, .bool n3, .string s3, .slice A l.length c, .int .i64 ct] 41)) 41 #[.int .i64 3, .string ⟨#[]⟩, .bool false, .string ⟨#[]⟩, .bool false, .string ⟨#[]⟩, .bool false, .string ⟨#[]⟩, .bool false, .string ⟨#[]⟩, .slice none 0 0, .int .i64 0]
 have hbw := hbx.2.trans (hby.2.mono hbx.2.size)
 have hsz : w.heap.size < (w.alloc (.cells #[.int .i64 3, .string nm, .bool n0, .string s0, .bool n1, .string s1, .bool n2, .string s2, .bool n3, .string s3, .slice A l.length c, .int .i64 ct] 41)).heap.size := hbx.1.lt
 have hbx := hbx.1.below hby.2 hsz
 have hby : Blk _ (w.heap.size + 1) 41 #[.int .i64 3, .string ⟨#[]⟩, .bool false, .string ⟨#[]⟩, .bool false, .string ⟨#[]⟩, .bool false, .string ⟨#[]⟩, .bool false, .string ⟨#[]⟩, .slice none 0 0, .int .i64 0] := (by have := hby.1; simpa using this)
 go_enter Tryz.func50, Tryz.ntmps50
 go_wp2_with (go_at_call 41; (with_reducible refine (HS.out _ ?_).mono ?_); (first | exact hbw | skip); rintro _ _ ⟨rfl, hb2⟩; have hbw := hbw.trans (hb2.mono hbw.size))
 go_ret
 exact ⟨rfl, hbw⟩
set_option maxRecDepth 100000 in
set_option maxHeartbeats 2000000 in
theorem rmay_5 {w : World} {B : Nat} {ct : Int} {nm : ByteArray} {n0 n1 n2 n3 : Bool} {s0 s1 s2 s3 : ByteArray} {A : Option Addr} {c : Nat} {l : List Int} (hr : ArgR w B (A, c, ⟨5, nm, n0, s0, n1, s1, n2, s2, n3, s3, l, ct⟩)) (hB : B ≤ w.heap.size) (hl : l.length ≤ 1000000000) {b : Bool} (h1 : 0 ≤ ct) (h2 : ct ≤ 2147483647) (hb : b = true ↔ (⟨5, nm, n0, s0, n1, s1, n2, s2, n3, s3, l, ct⟩ : ArgP) = ⟨5, ⟨#[]⟩, false, ⟨#[]⟩, false, ⟨#[]⟩, false, ⟨#[]⟩, false, ⟨#[]⟩, [], ct⟩) :
  Calls Tryz.prog 50 #[.agg #[.int .i64 5, .string nm, .bool n0, .string s0, .bool n1, .string s1, .bool n2, .string s2, .bool n3, .string s3, .slice A l.length c, .int .i64 ct]] w (fun e w' => e = .returned (.bool b) ∧ Below w.heap.size w w') := by
 have HQ : ArgR w B (none, 0, ⟨5, ⟨#[]⟩, false, ⟨#[]⟩, false, ⟨#[]⟩, false, ⟨#[]⟩, false, ⟨#[]⟩, [], ct⟩) := ⟨⟨(by decide : (-9223372036854775808 : Int) ≤ 5), (by decide : (5 : Int) ≤ 9223372036854775807)⟩, hr.cz, ReadsI.none_ _ _ _⟩
 have HS : Hid (∀ W, Below w.heap.size w W → Calls Tryz.prog 41 #[.agg #[.int .i64 5, .string nm, .bool n0, .string s0, .bool n1, .string s1, .bool n2, .string s2, .bool n3, .string s3, .slice A l.length c, .int .i64 ct], .agg #[.int .i64 5, .string ⟨#[]⟩, .bool false, .string ⟨#[]⟩, .bool false, .string ⟨#[]⟩, .bool false, .string ⟨#[]⟩, .bool false, .string ⟨#[]⟩, .slice none 0 0, .int .i64 ct]] W (fun e w' => e = .returned (.bool b) ∧ Below W.heap.size W w')) := Lib.hid fun W hw => same_arg (r := (A, c, ⟨5, nm, n0, s0, n1, s1, n2, s2, n3, s3, l, ct⟩)) (q := (none, 0, ⟨5, ⟨#[]⟩, false, ⟨#[]⟩, false, ⟨#[]⟩, false, ⟨#[]⟩, false, ⟨#[]⟩, [], ct⟩)) ((hr.more hB).below hw) ((HQ.more hB).below hw) hw.size hl (Nat.zero_le _) hb
 clear HQ
 clear hr
 clear hb
 have hbx := Box.new w 41 #[.int .i64 5, .string nm, .bool n0, .string s0, .bool n1, .string s1, .bool n2, .string s2, .bool n3, .string s3, .slice A l.length c, .int .i64 ct]
 have hby := Box.new (w.alloc (.cells #[.int .i64 5, .string nm, .bool n0, .string s0, .bool n1, .string s1, .bool n2, .string s2, .bool n3, .string s3, .slice A l.length c, .int .i64 ct] 41)) 41 #[.int .i64 5, .string ⟨#[]⟩, .bool false, .string ⟨#[]⟩, .bool false, .string ⟨#[]⟩, .bool false, .string ⟨#[]⟩, .bool false, .string ⟨#[]⟩, .slice none 0 0, .int .i64 ct]
 have hbw := hbx.2.trans (hby.2.mono hbx.2.size)
 have hsz : w.heap.size < (w.alloc (.cells #[.int .i64 5, .string nm, .bool n0, .string s0, .bool n1, .string s1, .bool n2, .string s2, .bool n3, .string s3, .slice A l.length c, .int .i64 ct] 41)).heap.size := hbx.1.lt
 have hbx := hbx.1.below hby.2 hsz
 have hby : Blk _ (w.heap.size + 1) 41 #[.int .i64 5, .string ⟨#[]⟩, .bool false, .string ⟨#[]⟩, .bool false, .string ⟨#[]⟩, .bool false, .string ⟨#[]⟩, .bool false, .string ⟨#[]⟩, .slice none 0 0, .int .i64 ct] := (by have := hby.1; simpa using this)
 go_enter Tryz.func50, Tryz.ntmps50
 go_wp2_with (go_at_call 41; (with_reducible refine (HS.out _ ?_).mono ?_); (first | exact hbw | skip); rintro _ _ ⟨rfl, hb2⟩; have hbw := hbw.trans (hb2.mono hbw.size))
 go_ret
 exact ⟨rfl, hbw⟩
set_option maxRecDepth 100000 in
set_option maxHeartbeats 2000000 in
theorem rmay_5n {w : World} {B : Nat} {ct : Int} {nm : ByteArray} {n0 n1 n2 n3 : Bool} {s0 s1 s2 s3 : ByteArray} {A : Option Addr} {c : Nat} {l : List Int} (hr : ArgR w B (A, c, ⟨5, nm, n0, s0, n1, s1, n2, s2, n3, s3, l, ct⟩)) (hB : B ≤ w.heap.size) (hl : l.length ≤ 1000000000) (h1 : ¬ 0 ≤ ct) :
  Calls Tryz.prog 50 #[.agg #[.int .i64 5, .string nm, .bool n0, .string s0, .bool n1, .string s1, .bool n2, .string s2, .bool n3, .string s3, .slice A l.length c, .int .i64 ct]] w (fun e w' => e = .returned (.bool false) ∧ Below w.heap.size w w') := by
 clear hr
 have hbx := Box.new w 41 #[.int .i64 5, .string nm, .bool n0, .string s0, .bool n1, .string s1, .bool n2, .string s2, .bool n3, .string s3, .slice A l.length c, .int .i64 ct]
 have hby := Box.new (w.alloc (.cells #[.int .i64 5, .string nm, .bool n0, .string s0, .bool n1, .string s1, .bool n2, .string s2, .bool n3, .string s3, .slice A l.length c, .int .i64 ct] 41)) 41 #[.int .i64 5, .string ⟨#[]⟩, .bool false, .string ⟨#[]⟩, .bool false, .string ⟨#[]⟩, .bool false, .string ⟨#[]⟩, .bool false, .string ⟨#[]⟩, .slice none 0 0, .int .i64 ct]
 have hbw := hbx.2.trans (hby.2.mono hbx.2.size)
 have hsz : w.heap.size < (w.alloc (.cells #[.int .i64 5, .string nm, .bool n0, .string s0, .bool n1, .string s1, .bool n2, .string s2, .bool n3, .string s3, .slice A l.length c, .int .i64 ct] 41)).heap.size := hbx.1.lt
 have hbx := hbx.1.below hby.2 hsz
 have hby : Blk _ (w.heap.size + 1) 41 #[.int .i64 5, .string ⟨#[]⟩, .bool false, .string ⟨#[]⟩, .bool false, .string ⟨#[]⟩, .bool false, .string ⟨#[]⟩, .bool false, .string ⟨#[]⟩, .slice none 0 0, .int .i64 ct] := (by have := hby.1; simpa using this)
 go_enter Tryz.func50, Tryz.ntmps50
 go_wp2_with fail
 go_ret
 exact ⟨rfl, hbw⟩
set_option maxRecDepth 100000 in
set_option maxHeartbeats 2000000 in
theorem rmay_5m {w : World} {B : Nat} {ct : Int} {nm : ByteArray} {n0 n1 n2 n3 : Bool} {s0 s1 s2 s3 : ByteArray} {A : Option Addr} {c : Nat} {l : List Int} (hr : ArgR w B (A, c, ⟨5, nm, n0, s0, n1, s1, n2, s2, n3, s3, l, ct⟩)) (hB : B ≤ w.heap.size) (hl : l.length ≤ 1000000000) (h1 : 0 ≤ ct) (h2 : ¬ ct ≤ 2147483647) :
  Calls Tryz.prog 50 #[.agg #[.int .i64 5, .string nm, .bool n0, .string s0, .bool n1, .string s1, .bool n2, .string s2, .bool n3, .string s3, .slice A l.length c, .int .i64 ct]] w (fun e w' => e = .returned (.bool false) ∧ Below w.heap.size w w') := by
 clear hr
 have hbx := Box.new w 41 #[.int .i64 5, .string nm, .bool n0, .string s0, .bool n1, .string s1, .bool n2, .string s2, .bool n3, .string s3, .slice A l.length c, .int .i64 ct]
 have hby := Box.new (w.alloc (.cells #[.int .i64 5, .string nm, .bool n0, .string s0, .bool n1, .string s1, .bool n2, .string s2, .bool n3, .string s3, .slice A l.length c, .int .i64 ct] 41)) 41 #[.int .i64 5, .string ⟨#[]⟩, .bool false, .string ⟨#[]⟩, .bool false, .string ⟨#[]⟩, .bool false, .string ⟨#[]⟩, .bool false, .string ⟨#[]⟩, .slice none 0 0, .int .i64 ct]
 have hbw := hbx.2.trans (hby.2.mono hbx.2.size)
 have hsz : w.heap.size < (w.alloc (.cells #[.int .i64 5, .string nm, .bool n0, .string s0, .bool n1, .string s1, .bool n2, .string s2, .bool n3, .string s3, .slice A l.length c, .int .i64 ct] 41)).heap.size := hbx.1.lt
 have hbx := hbx.1.below hby.2 hsz
 have hby : Blk _ (w.heap.size + 1) 41 #[.int .i64 5, .string ⟨#[]⟩, .bool false, .string ⟨#[]⟩, .bool false, .string ⟨#[]⟩, .bool false, .string ⟨#[]⟩, .bool false, .string ⟨#[]⟩, .slice none 0 0, .int .i64 ct] := (by have := hby.1; simpa using this)
 go_enter Tryz.func50, Tryz.ntmps50
 go_wp2_with fail
 go_ret
 exact ⟨rfl, hbw⟩
theorem all_from {l : List Int} {i : Nat} (h : (l.take i).all letA = false) : l.all letA = false := by
 rw [List.all_eq_false] at h ⊢
 obtain ⟨x, hx, h2⟩ := h
 exact ⟨x, List.mem_of_mem_take hx, h2⟩
theorem v_no {l : List Int} {i : Nat} {p b : Bool} (h : false = (p && (l.take i).all letA)) : (b && (p && l.all letA)) = false := by
 cases p
 ·rw [Bool.false_and, Bool.and_false]
 ·rw [Bool.true_and] at h
  rw [all_from h.symm, Bool.and_false, Bool.and_false]
theorem v_step {l : List Int} {i : Nat} {p : Bool} (h : i < l.length) (h0 : true = (p && (l.take i).all letA)) : letA l[i] = (p && (l.take (i + 1)).all letA) := by
 have := h0.symm
 rw [Bool.and_eq_true] at this
 rw [List.take_succ_eq_append_getElem h, List.all_append, this.1, this.2]
 simp
set_option maxRecDepth 100000 in
set_option maxHeartbeats 4000000 in
theorem rmay_4 {w : World} {B : Nat} {ct : Int} {nm : ByteArray} {n0 n1 n2 n3 : Bool} {s0 s1 s2 s3 : ByteArray} {A : Option Addr} {c : Nat} {l : List Int} (hr : ArgR w B (A, c, ⟨4, nm, n0, s0, n1, s1, n2, s2, n3, s3, l, ct⟩)) (hB : B ≤ w.heap.size) (hl : l.length ≤ 1000000000) {b r : Bool} (hres : r = (b && (decide ((l.length : Int) ≤ 4096) && l.all letA))) (hb : b = true ↔ (⟨4, nm, n0, s0, n1, s1, n2, s2, n3, s3, l, ct⟩ : ArgP) = ⟨4, ⟨#[]⟩, false, ⟨#[]⟩, false, ⟨#[]⟩, false, ⟨#[]⟩, false, ⟨#[]⟩, l, 0⟩) :
  Calls Tryz.prog 50 #[.agg #[.int .i64 4, .string nm, .bool n0, .string s0, .bool n1, .string s1, .bool n2, .string s2, .bool n3, .string s3, .slice A l.length c, .int .i64 ct]] w (fun e w' => e = .returned (.bool r) ∧ Below w.heap.size w w') := by
 have HQ : ArgR w B (A, c, ⟨4, ⟨#[]⟩, false, ⟨#[]⟩, false, ⟨#[]⟩, false, ⟨#[]⟩, false, ⟨#[]⟩, l, 0⟩) := ⟨⟨(by decide : (-9223372036854775808 : Int) ≤ 4), (by decide : (4 : Int) ≤ 9223372036854775807)⟩, ⟨(by decide : (-9223372036854775808 : Int) ≤ 0), (by decide : (0 : Int) ≤ 9223372036854775807)⟩, hr.wd⟩
 have HS : Hid (∀ W, Below w.heap.size w W → Calls Tryz.prog 41 #[.agg #[.int .i64 4, .string nm, .bool n0, .string s0, .bool n1, .string s1, .bool n2, .string s2, .bool n3, .string s3, .slice A l.length c, .int .i64 ct], .agg #[.int .i64 4, .string ⟨#[]⟩, .bool false, .string ⟨#[]⟩, .bool false, .string ⟨#[]⟩, .bool false, .string ⟨#[]⟩, .bool false, .string ⟨#[]⟩, .slice A l.length c, .int .i64 0]] W (fun e w' => e = .returned (.bool b) ∧ Below W.heap.size W w')) := Lib.hid fun W hw => same_arg (r := (A, c, ⟨4, nm, n0, s0, n1, s1, n2, s2, n3, s3, l, ct⟩)) (q := (A, c, ⟨4, ⟨#[]⟩, false, ⟨#[]⟩, false, ⟨#[]⟩, false, ⟨#[]⟩, false, ⟨#[]⟩, l, 0⟩)) ((hr.more hB).below hw) ((HQ.more hB).below hw) hw.size hl hl hb
 clear HQ hb
 have HR := Lib.hid hres
 have hbx := Box.new w 41 #[.int .i64 4, .string nm, .bool n0, .string s0, .bool n1, .string s1, .bool n2, .string s2, .bool n3, .string s3, .slice A l.length c, .int .i64 ct]
 have hby := Box.new (w.alloc (.cells #[.int .i64 4, .string nm, .bool n0, .string s0, .bool n1, .string s1, .bool n2, .string s2, .bool n3, .string s3, .slice A l.length c, .int .i64 ct] 41)) 41 #[.int .i64 4, .string ⟨#[]⟩, .bool false, .string ⟨#[]⟩, .bool false, .string ⟨#[]⟩, .bool false, .string ⟨#[]⟩, .bool false, .string ⟨#[]⟩, .slice A l.length c, .int .i64 0]
 have hbw := hbx.2.trans (hby.2.mono hbx.2.size)
 have Hr := Lib.hid ((hr.wd.more hB).below hbw)
 clear hr hres
 have hsz : w.heap.size < (w.alloc (.cells #[.int .i64 4, .string nm, .bool n0, .string s0, .bool n1, .string s1, .bool n2, .string s2, .bool n3, .string s3, .slice A l.length c, .int .i64 ct] 41)).heap.size := hbx.1.lt
 have hbx := hbx.1.below hby.2 hsz
 have hby : Blk _ (w.heap.size + 1) 41 #[.int .i64 4, .string ⟨#[]⟩, .bool false, .string ⟨#[]⟩, .bool false, .string ⟨#[]⟩, .bool false, .string ⟨#[]⟩, .bool false, .string ⟨#[]⟩, .slice A l.length c, .int .i64 0] := (by have := hby.1; simpa using this)
 obtain ⟨n, hn⟩ : ∃ n, n = l.length := ⟨_, rfl⟩
 have Hn := Lib.hid hn
 rw [← hn] at hbx hby hbw HR HS hl Hr ⊢
 clear hn hsz
 obtain ⟨W0, hW0⟩ : ∃ W0, W0 = (w.alloc (.cells #[.int .i64 4, .string nm, .bool n0, .string s0, .bool n1, .string s1, .bool n2, .string s2, .bool n3, .string s3, .slice A n c, .int .i64 ct] 41)).alloc (.cells #[.int .i64 4, .string ⟨#[]⟩, .bool false, .string ⟨#[]⟩, .bool false, .string ⟨#[]⟩, .bool false, .string ⟨#[]⟩, .bool false, .string ⟨#[]⟩, .slice A n c, .int .i64 0] 41) := ⟨_, rfl⟩
 have HW := Lib.hid hW0
 have Hbx := Lib.hid (show Blk W0 w.heap.size 41 #[.int .i64 4, .string nm, .bool n0, .string s0, .bool n1, .string s1, .bool n2, .string s2, .bool n3, .string s3, .slice A n c, .int .i64 ct] by rw [hW0]; exact hbx)
 have Hby := Lib.hid (show Blk W0 (w.heap.size + 1) 41 #[.int .i64 4, .string ⟨#[]⟩, .bool false, .string ⟨#[]⟩, .bool false, .string ⟨#[]⟩, .bool false, .string ⟨#[]⟩, .bool false, .string ⟨#[]⟩, .slice A n c, .int .i64 0] by rw [hW0]; exact hby)
 have Hbw := Lib.hid (show Below w.heap.size w W0 by rw [hW0]; exact hbw)
 have Hr := Lib.hid (show ReadsI W0 w.heap.size A l by rw [hW0]; exact Hr.out)
 clear hbx hby hbw hW0
 go_enter Tryz.func50, Tryz.ntmps50
 go_wp2_with fail
 have h4 : (decide ((n : Int) ≤ 4096)) = true ∨ decide ((n : Int) ≤ 4096) = false := by cases decide ((n : Int) ≤ 4096) <;> simp
 obtain ⟨p, hp⟩ : ∃ p, p = decide ((n : Int) ≤ 4096) := ⟨_, rfl⟩
 have Hp := Lib.hid hp
 clear h4
 rw [← hp] at HR
 go_loopg [4, 5] n (fun k vv iv wr => ∃ (v : Bool) (i : Nat), vv = .bool v ∧ iv = .int .i64 (i : Int) ∧ k = n - i ∧ i ≤ n ∧ Hid (v = (p && (l.take i).all letA)) ∧ Hid (wr = W0))
 case atStart => exact ⟨p, 0, by rw [hp], rfl, by omega, by omega, Lib.hid (by simp), Lib.hid HW.out.symm⟩
 case round =>
  obtain ⟨v, i, rfl, rfl, hk, hi, hv, hw⟩ := hrel
  have Hk := Lib.hid hk
  clear hk hp
  have ew := hw.out
  subst ew
  have c0 := Hbx.out.cell 0; have d0 := Hby.out.cell 0; have c1 := Hbx.out.cell 1; have d1 := Hby.out.cell 1; have c2 := Hbx.out.cell 2; have d2 := Hby.out.cell 2; have c3 := Hbx.out.cell 3; have d3 := Hby.out.cell 3; have c4 := Hbx.out.cell 4; have d4 := Hby.out.cell 4; have c5 := Hbx.out.cell 5; have d5 := Hby.out.cell 5; have c6 := Hbx.out.cell 6; have d6 := Hby.out.cell 6; have c7 := Hbx.out.cell 7; have d7 := Hby.out.cell 7; have c8 := Hbx.out.cell 8; have d8 := Hby.out.cell 8; have c9 := Hbx.out.cell 9; have d9 := Hby.out.cell 9; have c10 := Hbx.out.cell 10; have d10 := Hby.out.cell 10; have c11 := Hbx.out.cell 11; have d11 := Hby.out.cell 11
  by_cases hin : i < n
  ·have hii : (i : Int) < (n : Int) := by omega
   cases v
   ·go_wp2_with fail
    go_ret
    exact ret_b (by rw [HR.out, v_no hv.out]) Hbw.out
   ·have hil : i < l.length := by rw [← Hn.out]; omega
    obtain ⟨ad, rfl, hb1, e0⟩ := Hr.out.at_ hil
    have Hst := Lib.hid (v_step hil hv.out)
    generalize l[i] = x at *
    clear hb1 hil
    by_cases x0 : x = 0
    ·subst x0
     go_wp2_with fail
     go_roundg (n - (i + 1))
     case measure => have := Hk.out; omega
     case rel => exact ⟨_, i + 1, rfl, rfl, rfl, by omega, Lib.hid (by rw [← Hst.out]; rfl), Lib.hid rfl⟩
    ·have x1 : (x != 0) = true := by simpa using x0
     by_cases x2 : x ≤ 4096
     ·by_cases x3 : -4096 ≤ x
      ·go_wp2_with fail
       go_roundg (n - (i + 1))
       case measure => have := Hk.out; omega
       case rel => exact ⟨_, i + 1, rfl, rfl, rfl, by omega, Lib.hid (by rw [← Hst.out]; exact (decide_eq_true (by omega)).symm), Lib.hid rfl⟩
      ·go_wp2_with fail
       go_roundg (n - (i + 1))
       case measure => have := Hk.out; omega
       case rel => exact ⟨_, i + 1, rfl, rfl, rfl, by omega, Lib.hid (by rw [← Hst.out]; exact (decide_eq_false (by omega)).symm), Lib.hid rfl⟩
     ·go_wp2_with fail
      go_roundg (n - (i + 1))
      case measure => have := Hk.out; omega
      case rel => exact ⟨_, i + 1, rfl, rfl, rfl, by omega, Lib.hid (by rw [← Hst.out]; exact (decide_eq_false (by omega)).symm), Lib.hid rfl⟩
  ·have hii : ¬ (i : Int) < (n : Int) := by omega
   have hv2 := hv.out
   rw [List.take_of_length_le (by have := Hn.out; omega)] at hv2
   have Hv := Lib.hid hv2
   clear hv2
   cases v
   ·go_wp2_with fail
    go_ret
    exact ret_b (by rw [HR.out, ← Hv.out, Bool.and_false]) Hbw.out
   ·go_wp2_with (go_at_call 41; (with_reducible refine (HS.out _ ?_).mono ?_); (first | exact Hbw.out | skip); rintro _ _ ⟨rfl, hb2⟩)
    go_ret
    exact ret_b (by rw [HR.out, ← Hv.out, Bool.and_true]) (Hbw.out.trans (hb2.mono Hbw.out.size))
set_option maxRecDepth 100000 in
set_option maxHeartbeats 2000000 in
theorem rmay_else {w : World} {k : Int} {ct : Int} {nm : ByteArray} {n0 n1 n2 n3 : Bool} {s0 s1 s2 s3 : ByteArray} {A : Option Addr} {c : Nat} {l : List Int} (h1 : ¬ k = 1) (h2 : ¬ k = 2) (h3 : ¬ k = 3) (h4 : ¬ k = 4) (h5 : ¬ k = 5) :
  Calls Tryz.prog 50 #[.agg #[.int .i64 k, .string nm, .bool n0, .string s0, .bool n1, .string s1, .bool n2, .string s2, .bool n3, .string s3, .slice A l.length c, .int .i64 ct]] w (fun e w' => e = .returned (.bool false) ∧ Below w.heap.size w w') := by
 have hbx := Box.new w 41 #[.int .i64 k, .string nm, .bool n0, .string s0, .bool n1, .string s1, .bool n2, .string s2, .bool n3, .string s3, .slice A l.length c, .int .i64 ct]
 have hby := Box.new (w.alloc (.cells #[.int .i64 k, .string nm, .bool n0, .string s0, .bool n1, .string s1, .bool n2, .string s2, .bool n3, .string s3, .slice A l.length c, .int .i64 ct] 41)) 41 #[.int .i64 k, .string ⟨#[]⟩, .bool false, .string ⟨#[]⟩, .bool false, .string ⟨#[]⟩, .bool false, .string ⟨#[]⟩, .bool false, .string ⟨#[]⟩, .slice none 0 0, .int .i64 0]
 have hbw := hbx.2.trans (hby.2.mono hbx.2.size)
 clear hbx hby
 go_enter Tryz.func50, Tryz.ntmps50
 go_wp2_with fail
 go_ret
 exact ⟨rfl, hbw⟩
theorem rmay_any {w : World} {B : Nat} {r : ARow} (h : ArgR w B r) (hB : B ≤ w.heap.size) (hwl : r.2.2.wd.length ≤ 1000000000) (hnm : r.2.2.nm.size ≤ 9223372036854775807) {b : Bool} (hb : b = true ↔ r.2.2.ok) :
  Calls Tryz.prog 50 #[argV r] w (fun e w' => e = .returned (.bool b) ∧ Below w.heap.size w w') := by
 obtain ⟨A, c, k, nm, n0, s0, n1, s1, n2, s2, n3, s3, l, ct⟩ := r
 replace hb : b = true ↔ ArgP.ok ⟨k, nm, n0, s0, n1, s1, n2, s2, n3, s3, l, ct⟩ := hb
 replace hwl : l.length ≤ 1000000000 := hwl
 replace hnm : nm.size ≤ 9223372036854775807 := hnm
 unfold ArgP.ok ArgP.zero ArgP.gs at hb
 simp only at hb
 by_cases h1 : k = 1
 ·subst h1
  rw [if_pos rfl] at hb
  cases hn : Sc.namedB nm.data.toList
  ·rw [no_b hb fun h' => by rw [hn] at h'; exact absurd h'.1 (by decide)]
   exact rmay_1n h hB hwl hn hnm
  ·refine rmay_1 h hB hwl hn hnm (hb.trans ?_)
   rw [hn]
   simp only [ArgP.mk.injEq, true_and]
   grind
 rw [if_neg h1] at hb
 by_cases h2 : k = 2
 ·subst h2
  rw [if_pos rfl] at hb
  by_cases hg : MayGs n0 s0 n1 s1 n2 s2 n3 s3
  ·refine rmay_2 h hB hwl hg (hb.trans ?_)
   simp only [ArgP.mk.injEq, true_and]
   grind
  ·rw [no_b hb fun h' => hg h'.2.1]
   exact rmay_2n h hB hwl hg
 rw [if_neg h2] at hb
 by_cases h3 : k = 3
 ·subst h3
  rw [if_pos rfl] at hb
  refine rmay_3 h hB hwl (hb.trans ?_)
  simp only [ArgP.mk.injEq, true_and]
  grind
 rw [if_neg h3] at hb
 by_cases h4 : k = 4
 ·subst h4
  rw [if_pos rfl] at hb
  obtain ⟨b', hb'⟩ : ∃ b' : Bool, b' = true ↔ (⟨4, nm, n0, s0, n1, s1, n2, s2, n3, s3, l, ct⟩ : ArgP) = ⟨4, ⟨#[]⟩, false, ⟨#[]⟩, false, ⟨#[]⟩, false, ⟨#[]⟩, false, ⟨#[]⟩, l, 0⟩ := by
   by_cases e : (⟨4, nm, n0, s0, n1, s1, n2, s2, n3, s3, l, ct⟩ : ArgP) = ⟨4, ⟨#[]⟩, false, ⟨#[]⟩, false, ⟨#[]⟩, false, ⟨#[]⟩, false, ⟨#[]⟩, l, 0⟩
   ·exact ⟨true, fun _ => e, fun _ => rfl⟩
   ·exact ⟨false, fun h => (by cases h), fun h => absurd h e⟩
  refine rmay_4 h hB hwl (b := b') ?_ hb'
  rw [Bool.eq_iff_iff, hb]
  simp only [Bool.and_eq_true, decide_eq_true_eq, hb', ArgP.mk.injEq, true_and]
  have : ((l.length : Int) ≤ 4096) ↔ l.length ≤ 4096 := by omega
  grind
 rw [if_neg h4] at hb
 by_cases h5 : k = 5
 ·subst h5
  rw [if_pos rfl] at hb
  by_cases g1 : 0 ≤ ct
  ·by_cases g2 : ct ≤ 2147483647
   ·refine rmay_5 h hB hwl g1 g2 (hb.trans ?_)
    simp only [ArgP.mk.injEq, true_and]
    grind
   ·rw [no_b hb fun h' => g2 h'.2.2.2.2]
    exact rmay_5m h hB hwl g1 g2
  ·rw [no_b hb fun h' => g1 h'.2.2.2.1]
   exact rmay_5n h hB hwl g1
 rw [if_neg h5] at hb
 rw [no_b hb id]
 exact rmay_else h1 h2 h3 h4 h5
end Go.Proofs.YtebpggfccljagaaGreatDoor
