import Derived.Test.YtebpggfccljagaaGreatDoorC9
import Derived.Test.YtebpggfccljagaaGreatDoorC2
import Derived.Defers
import Derived.Recover
import Derived.Test.YtebpggfccljagaaGreatDoorC3
import Derived.Deep.CutBlock
import Derived.Test.YtebpggfccljagaaGreatDoorC8
import Derived.Test.YtebpggfccljagaaGreatDoorC7
import Derived.Test.YtebpggfccljagaaGreatDoorRows
import Derived.Test.YtebpggfccljagaaGreatDoorC1
import Derived.WalkKit
import Derived.ProofKit
import Derived.OpenShut
import Derived.Carry
import Derived.JoinedCond
import Derived.Test.YtebpggfccljagaaGreatDoorCards
import Derived.Test.YtebpggfccljagaaGreatDoorTie
import Derived.Deep.DeepHandedRow
import Derived.Deep.Slices
import Derived.Lib.LaidTab
import Derived.ChangeSlices
import Derived.LaidSub
import Derived.MakeChecks
import Derived.ChangeMaps
import Derived.Shelf.Vars
import Derived.ChangeMaps5
namespace Go.Proofs.YtebpggfccljagaaGreatDoor
open Go.RowKit
open Wh
set_option linter.unusedSimpArgs false
set_option linter.unusedVariables false
def EndsBy (s : ByteArray) (x : UInt8) : Prop := ∃ m, s.size = m + 1 ∧ 1 ≤ m ∧ s.data.toList[m]? = some x
theorem ends_list {s : ByteArray} {x b : UInt8} {m : Nat} (hm : s.size = m + 1) (h1 : 1 ≤ m) (hx : s.data.toList[m]? = some x) (h0 : 0 < s.size) (hc : s[0] = b) : s.data.toList = b :: ((s.extract 1 m).data.toList ++ [x]) := by
 have hl : s.data.toList.length = s.size := by simp
 have e := head_bytes h0 hc
 rw [e]
 congr 1
 have hml : m < s.data.toList.length := by omega
 rw [List.getElem?_eq_getElem hml] at hx
 have hx' : s.data.toList[m] = x := by injection hx
 rw [(drop_bytes s 1 (by omega)).1]
 have e2 : (s.extract 1 m).data.toList = (s.data.toList.take m).drop 1 := by rw [ext_bs s 1 m h1 (by omega)]
 rw [e2, ← hx']
 have e3 := List.take_append_drop m s.data.toList
 rw [List.drop_eq_getElem_cons hml, List.drop_of_length_le (by omega)] at e3
 conv => lhs; rw [← e3]
 rw [List.drop_append_of_le_length (by rw [List.length_take]; omega)]
theorem ends_not {s : ByteArray} {x b : UInt8} (h0 : 0 < s.size) (hc : s[0] = b) (hn : ¬ EndsBy s x) : ∀ q, (s.extract 1 s.size).data.toList ≠ q ++ [x] := fun q he => hn (by
 have hl : s.data.toList.length = s.size := by simp
 have e := head_bytes h0 hc
 rw [he] at e
 have h2 := congrArg List.length e
 simp only [List.length_cons, List.length_append, List.length_nil] at h2
 refine ⟨q.length + 1, by omega, by omega, ?_⟩
 rw [e, List.getElem?_cons_succ]
 simp)
theorem inner_bad {w : World} {g : Nat} {s : ByteArray} {x : UInt8} (hb : Blk w g 9 #[.string s]) (hs : s.size ≤ 6000) (h0 : 0 < s.size) (hn : ¬ EndsBy s x) :
  Calls Tryz.prog 65 #[.int .u8 (x.toNat : Int), .pointer (some ⟨g, 0, none⟩)] w (fun e w' => e = thrown ∧ w = w') := by
 by_cases h2 : 2 ≤ (s.size : Int)
 ·obtain ⟨m, hm⟩ : ∃ m, s.size = m + 1 := ⟨s.size - 1, by omega⟩
  obtain ⟨b, hc, hl, hcl⟩ := byte_at (s := s) (i := m) (by omega)
  refine inner_not hb hm (by omega) (by omega) (by omega) hc ?_
  refine beq_eq_false_iff_ne.2 fun h => hn ⟨m, hm, by omega, ?_⟩
  rw [List.getElem?_eq_getElem hl, hcl]
  congr 1
  exact UInt8.toNat_inj.1 (by omega)
 ·exact inner_short hb h2
theorem inner_good {w : World} {g m : Nat} {s : ByteArray} {x : UInt8} (hb : Blk w g 9 #[.string s]) (hs : s.size ≤ 6000) (hm : s.size = m + 1) (h1 : 1 ≤ m) (hx : s.data.toList[m]? = some x) :
  Calls Tryz.prog 65 #[.int .u8 (x.toNat : Int), .pointer (some ⟨g, 0, none⟩)] w (fun e w' => e = .returned (.string (s.extract 1 m)) ∧ w = w') := by
 obtain ⟨b, hc, hl, hcl⟩ := byte_at (s := s) (i := m) (by omega)
 rw [List.getElem?_eq_getElem hl, hcl] at hx
 injection hx with hx
 subst hx
 exact inner_yes hb hm h1 (by omega) (by omega) hc (by simp)
theorem cut_at (l : List UInt8) (c : UInt8) : (c ∉ l ∧ Lib.cut l [c] = (l, [], false)) ∨ (∃ p q, c ∉ p ∧ l = p ++ c :: q ∧ Lib.cut l [c] = (p, q, true)) := by
 have hmem : ∀ (r : List UInt8) (i : Nat), Lib.index r [c] = i → c ∉ r.take i ∧ r = r.take i ++ c :: r.drop (i + 1) := by
  intro r
  induction r with
  | nil => intro i h; simp [Lib.index] at h
  | cons b r ih =>
   intro i h
   rw [idx_step] at h
   by_cases hb : b = c
   ·rw [if_pos hb] at h
    have : i = 0 := by omega
    subst this
    simp [hb]
   ·rw [if_neg hb] at h
    by_cases h2 : Lib.index r [c] = -1
    ·rw [if_pos h2] at h; omega
    ·rw [if_neg h2] at h
     have hge := Lib.index_ge r [c]
     obtain ⟨j, hj⟩ : ∃ j : Nat, Lib.index r [c] = j := ⟨(Lib.index r [c]).toNat, by omega⟩
     have : i = j + 1 := by omega
     subst this
     obtain ⟨h3, h4⟩ := ih j hj
     refine ⟨?_, ?_⟩
     ·rw [List.take_succ_cons]
      intro hm
      rcases List.mem_cons.1 hm with hm | hm
      ·exact hb hm.symm
      ·exact h3 hm
     ·rw [List.take_succ_cons, List.drop_succ_cons, List.cons_append, ← h4]
 by_cases h : Lib.index l [c] = -1
 ·refine .inl ⟨?_, ?_⟩
  ·have : ∀ r : List UInt8, Lib.index r [c] = -1 → c ∉ r := by
    intro r
    induction r with
    | nil => intro _ h; simp at h
    | cons b r ih =>
     intro h hm
     rw [idx_step] at h
     by_cases hb : b = c
     ·rw [if_pos hb] at h; omega
     ·rw [if_neg hb] at h
      by_cases h2 : Lib.index r [c] = -1
      ·rcases List.mem_cons.1 hm with hm | hm
       ·exact hb hm.symm
       ·exact ih h2 hm
      ·rw [if_neg h2] at h
       have hge := Lib.index_ge r [c]
       omega
   exact this l h
  ·unfold Lib.cut
   rw [h, if_neg (by omega)]
 ·have hge := Lib.index_ge l [c]
  obtain ⟨i, hi⟩ : ∃ i : Nat, Lib.index l [c] = i := ⟨(Lib.index l [c]).toNat, by omega⟩
  obtain ⟨h1, h2⟩ := hmem l i hi
  refine .inr ⟨_, _, h1, h2, ?_⟩
  unfold Lib.cut
  rw [hi, if_pos (by omega)]
  simp
theorem cut_w {W : World} {B : Nat} (hg : Gl B W) (s : ByteArray) (hs : s.size ≤ 6000) {p q : List UInt8} {b : Bool} (h : Lib.cut s.data.toList [44] = (p, q, b)) :
  Calls Tryz.prog 57 #[.string s, .string ⟨#[44]⟩] W (fun e w' => e = .returned (.tuple #[.string ⟨p.toArray⟩, .string ⟨q.toArray⟩, .bool b]) ∧ Below W.heap.size W w') := by
 obtain ⟨m, hm⟩ := hg.m
 refine (Tryz.strings_Cut s ⟨#[44]⟩ m W (by omega) hm).mono ?_
 rintro e w' ⟨he, n, rfl⟩
 have e2 : Lib.cut s.data.toList (⟨#[44]⟩ : ByteArray).data.toList = (p, q, b) := h
 rw [e2] at he
 exact ⟨he, ⟨rfl, rfl, rfl, Nat.le_refl _, fun _ _ => rfl⟩⟩
theorem fread_yes {W : World} {B : Nat} (hg : Gl B W) {s : ByteArray} (hs : s.size ≤ 6000) {a b : Int} (hm : MayZ a b) (he : s.data.toList = txtF a b) :
  Calls Tryz.prog 66 #[.string s] W (fun e w' => e = .returned (.tuple #[encF a b, .int .i64 0]) ∧ Below W.heap.size W w') := by
 obtain ⟨m, h⟩ := hg.m
 refine (fread_any hs h).mono ?_
 rintro e w' ⟨h, hb⟩
 refine ⟨?_, hb⟩
 rcases h with ⟨a', b', h1, _, h2⟩ | ⟨_, h2⟩
 ·obtain ⟨rfl, rfl⟩ := txtF_inj (he.symm.trans h2)
  exact h1
 ·exact absurd he (h2 a b hm)
theorem fread_no {W : World} {B : Nat} (hg : Gl B W) {s : ByteArray} (hs : s.size ≤ 6000) (hn : ∀ a b, MayZ a b → s.data.toList ≠ txtF a b) :
  Calls Tryz.prog 66 #[.string s] W (fun e w' => e = .returned (.tuple #[.agg #[.bool false, .string ⟨#[]⟩, .bool false, .string ⟨#[]⟩], .int .i64 130]) ∧ Below W.heap.size W w') := by
 obtain ⟨m, h⟩ := hg.m
 refine (fread_any hs h).mono ?_
 rintro e w' ⟨h, hb⟩
 refine ⟨?_, hb⟩
 rcases h with ⟨a', b', _, h1, h2⟩ | ⟨h1, _⟩
 ·exact absurd h2 (hn a' b' h1)
 ·exact h1
theorem num_made {w : World} {B : Nat} (a b c d : Int) : ArgMade w B (none, 0, numP a b c d) :=
 ArgMade.plain rfl ⟨by show (-9223372036854775808 : Int) ≤ 2; decide, by show (2 : Int) ≤ 9223372036854775807; decide⟩ ⟨by show (-9223372036854775808 : Int) ≤ 0; decide, by show (0 : Int) ≤ 9223372036854775807; decide⟩ (by show (0 : Nat) ≤ _; omega)
theorem fread_some {B : Nat} {s : ByteArray} (hs : s.size ≤ 6000) : ∃ (x0 : Bool) (t0 : ByteArray) (x1 : Bool) (t1 : ByteArray) (z : Int), (∀ W, Gl B W → Calls Tryz.prog 66 #[.string s] W (fun e w' => e = .returned (.tuple #[.agg #[.bool x0, .string t0, .bool x1, .string t1], .int .i64 z]) ∧ Below W.heap.size W w')) ∧
  ((z = 0 ∧ ∃ a b, MayZ a b ∧ s.data.toList = txtF a b ∧ encF a b = .agg #[.bool x0, .string t0, .bool x1, .string t1]) ∨ (z = 130 ∧ ∀ a b, MayZ a b → s.data.toList ≠ txtF a b)) := by
 rcases Classical.em (∃ a b, MayZ a b ∧ s.data.toList = txtF a b) with ⟨a, b, h1, h2⟩ | h
 ·exact ⟨_, _, _, _, 0, fun W hg => fread_yes hg hs h1 h2, .inl ⟨rfl, a, b, h1, h2, rfl⟩⟩
 ·have hn : ∀ a b, MayZ a b → s.data.toList ≠ txtF a b := fun a b h1 h2 => h ⟨a, b, h1, h2⟩
  exact ⟨_, _, _, _, 130, fun W hg => fread_no hg hs hn, .inr ⟨rfl, hn⟩⟩
set_option maxRecDepth 100000 in
set_option maxHeartbeats 4000000 in
theorem arg_paren_end {w : World} {B : Nat} {s : ByteArray} (hg : Gl B w) (hs : s.size ≤ 6000) (h0 : 0 < s.size) (hc : s[0] = 40) (hn : ¬ EndsBy s 41) : Calls Tryz.prog 38 #[.string s] w (ArgOut w s.data.toList) := by
 have HY := Lib.hid (fun W => give_yes (w := W))
 have HA := Lib.hid (ArgS.new w s)
 have hne := str_facts h0
 have hi : (0 : Int) < (s.size : Int) := by omega
 have HI := Lib.hid (inner_bad HA.out.s hs h0 hn)
 have Hno := Lib.hid (paren_end (ends_not h0 hc hn))
 rw [← head_bytes h0 hc] at Hno
 unfold thrown at HI
 clear hg hs hn
 go_enter Tryz.func38, Tryz.ntmps38
 go_wp2_with (first | (go_at_call 37; (with_reducible refine (HY.out _).mono ?_); rintro _ _ ⟨rfl, rfl⟩) | (go_at_call 65; (refine HI.out.mono ?_); rintro _ _ ⟨rfl, rfl⟩))
 exact ⟨rfl, .inr ⟨rfl, Hno.out⟩, HA.out.b⟩
set_option maxRecDepth 100000 in
set_option maxHeartbeats 4000000 in
theorem arg_inf {w : World} {B : Nat} {s : ByteArray} (hg : Gl B w) (hs : s.size ≤ 6000) (h0 : 0 < s.size) (hc : s[0] = 40) {m : Nat} (hm : s.size = m + 1) (h1 : 1 ≤ m) (hx : s.data.toList[m]? = some 41) (hq : s.extract 1 m = ⟨#[105, 110, 102]⟩) : Calls Tryz.prog 38 #[.string s] w (ArgOut w s.data.toList) := by
 have HY := Lib.hid (fun W => give_yes (w := W))
 have HA := Lib.hid (ArgS.new w s)
 have hne := str_facts h0
 have hi : (0 : Int) < (s.size : Int) := by omega
 have HI := Lib.hid (inner_good HA.out.s hs hm h1 hx)
 have HE := Lib.hid (ends_list hm h1 hx h0 hc)
 have HQ := Lib.hid (show (s.extract 1 m).size ≤ 6000 by rw [ByteArray.size_extract]; omega)
 rw [hq] at HI HE
 have Hin := Lib.hid (show ArgIs s.data.toList infP by rw [HE.out]; exact is_inf)
 clear hg hs hm hx hq h1
 go_enter Tryz.func38, Tryz.ntmps38
 go_wp2_with (first | (go_at_call 37; (with_reducible refine (HY.out _).mono ?_); rintro _ _ ⟨rfl, rfl⟩) | (go_at_call 65; (refine HI.out.mono ?_); rintro _ _ ⟨rfl, rfl⟩))
 refine bodyPost_ret (v := argV (none, 0, infP)) (by simp [results, Tryz.results38, go_sem, argV, infP]) rfl ?_
 exact ⟨.inl ⟨(none, 0, infP), rfl, ArgMade.plain rfl (by decide) (by decide) (by decide), Hin.out⟩, ((new_below w _).alloc (by simp) _)⟩
set_option maxRecDepth 100000 in
set_option maxHeartbeats 4000000 in
theorem arg_cut {w : World} {B : Nat} {s : ByteArray} (hg : Gl B w) (hs : s.size ≤ 6000) (h0 : 0 < s.size) (hc : s[0] = 40) {m : Nat} (hm : s.size = m + 1) (h1 : 1 ≤ m) (hx : s.data.toList[m]? = some 41) (hq : s.extract 1 m ≠ ⟨#[105, 110, 102]⟩) : Calls Tryz.prog 38 #[.string s] w (ArgOut w s.data.toList) := by
 have HY := Lib.hid (fun W => give_yes (w := W))
 have HA := Lib.hid (ArgS.new w s)
 have hne := str_facts h0
 have hi : (0 : Int) < (s.size : Int) := by omega
 have HI := Lib.hid (inner_good HA.out.s hs hm h1 hx)
 have HE := Lib.hid (ends_list hm h1 hx h0 hc)
 have HQ := Lib.hid (show (s.extract 1 m).size ≤ 6000 by rw [ByteArray.size_extract]; omega)
 have HG := Lib.hid hg
 have HN := Lib.hid (fun W => give_no (w := W))
 unfold thrown at HN
 have hqd : ¬ (s.extract 1 m).toList = [105, 110, 102] := fun h => hq (tl_inj (by rw [h, ByteArray.toList_eq]))
 have hqn : ((s.extract 1 m).toList == [105, 110, 102]) = false := by simpa using hqd
 have hq2 : (s.extract 1 m).data.toList ≠ [105, 110, 102] := fun h => hq (ByteArray.ext (Array.toList_inj.1 h))
 have Hq2 := Lib.hid hq2
 generalize s.extract 1 m = t at *
 clear hs hm hx h1 hq hq2 hg
 rcases cut_at t.data.toList 44 with ⟨hno, hcut⟩ | ⟨p, q, hnp, htl, hcut⟩
 ·have HC := Lib.hid (fun W (hb : Below w.heap.size w W) => cut_w (HG.out.below hb) t HQ.out hcut)
  have HL := Lib.hid (show (⟨t.data.toList.toArray⟩ : ByteArray) = t from rfl)
  obtain ⟨x0, t0, x1, t1, z, hF1, _⟩ := fread_some (B := B) HQ.out
  obtain ⟨y0, u0, y1, u1, z2, hF2, _⟩ := fread_some (B := B) (s := ⟨#[]⟩) (by decide)
  have HF1 := Lib.hid hF1
  have HF2 := Lib.hid hF2
  have Hno := Lib.hid (show ArgNot s.data.toList by rw [HE.out]; exact paren_plain Hq2.out hno)
  clear hF1 hF2 hno hcut
  go_enter Tryz.func38, Tryz.ntmps38
  go_wp2_with (first | (go_at_call 37; (with_reducible refine (HY.out _).mono ?_); rintro _ _ ⟨rfl, rfl⟩) | (go_at_call 65; (refine HI.out.mono ?_); rintro _ _ ⟨rfl, rfl⟩) | (go_at_call 37; (with_reducible refine (HN.out _).mono ?_); rintro _ _ ⟨rfl, rfl⟩) | (go_at_call 57; (with_reducible refine (HC.out _ HA.out.b).mono ?_); rintro _ W1 ⟨rfl, hb1⟩; have HA1 := Lib.hid (HA.out.below hb1)) | (go_at_call 66; (with_reducible refine (HF1.out _ (HG.out.below HA1.out.b)).mono ?_); rintro _ W2 ⟨rfl, hb2⟩; have HA2 := Lib.hid ((HA1.out.below hb2).below (new_below _ (.cells #[.bool x0, .string t0, .bool x1, .string t1] 36))); have HX2 := Lib.hid (Blk.new W2 36 #[.bool x0, .string t0, .bool x1, .string t1])) | (go_at_call 66; (with_reducible refine (HF2.out _ (HG.out.below HA2.out.b)).mono ?_); rintro _ W3 ⟨rfl, hb3⟩; have HA3 := Lib.hid ((HA2.out.below hb3).below (new_below _ (.cells #[.bool y0, .string u0, .bool y1, .string u1] 36))); have HX3 := Lib.hid ((HX2.out.below hb3 HX2.out.lt).alloc (.cells #[.bool y0, .string u0, .bool y1, .string u1] 36)); have HY3 := Lib.hid (Blk.new W3 36 #[.bool y0, .string u0, .bool y1, .string u1]); have d0 := HX3.out.cell 0; have d1 := HX3.out.cell 1; have d2 := HX3.out.cell 2; have d3 := HX3.out.cell 3; have e0 := HY3.out.cell 0; have e1 := HY3.out.cell 1; have e2 := HY3.out.cell 2; have e3 := HY3.out.cell 3; have c0 := HA3.out.r.cell 0; have c1 := HA3.out.r.cell 1; have c2 := HA3.out.r.cell 2; have c3 := HA3.out.r.cell 3; have c4 := HA3.out.r.cell 4; have c5 := HA3.out.r.cell 5; have c6 := HA3.out.r.cell 6; have c7 := HA3.out.r.cell 7; have c8 := HA3.out.r.cell 8; have c9 := HA3.out.r.cell 9; have c10 := HA3.out.r.cell 10; have c11 := HA3.out.r.cell 11; have f0 := HA3.out.r.frozen 0; have f1 := HA3.out.r.frozen 1; have f2 := HA3.out.r.frozen 2; have f3 := HA3.out.r.frozen 3; have f4 := HA3.out.r.frozen 4; have f5 := HA3.out.r.frozen 5; have f6 := HA3.out.r.frozen 6; have f7 := HA3.out.r.frozen 7; have f8 := HA3.out.r.frozen 8; have f9 := HA3.out.r.frozen 9; have f10 := HA3.out.r.frozen 10; have f11 := HA3.out.r.frozen 11))
  exact ⟨rfl, .inr ⟨rfl, Hno.out⟩, HA3.out.b⟩
 ·have HC := Lib.hid (fun W (hb : Below w.heap.size w W) => cut_w (HG.out.below hb) t HQ.out hcut)
  have hlen : p.length + q.length + 1 = t.size := by
   have := congrArg List.length htl
   rw [List.length_append, List.length_cons] at this
   have h2 : t.data.toList.length = t.size := by simp
   omega
  have HQ' := HQ.out
  obtain ⟨x0, t0, x1, t1, z, hF1, hz⟩ := fread_some (B := B) (s := ⟨p.toArray⟩) (by show p.toArray.size ≤ 6000; rw [List.size_toArray]; omega)
  obtain ⟨y0, u0, y1, u1, z2, hF2, hz2⟩ := fread_some (B := B) (s := ⟨q.toArray⟩) (by show q.toArray.size ≤ 6000; rw [List.size_toArray]; omega)
  have HF1 := Lib.hid hF1
  have HF2 := Lib.hid hF2
  have HT := Lib.hid htl
  rw [HT.out] at HE
  have Hnp := Lib.hid hnp
  clear hF1 hF2 hnp hcut htl hlen HQ'
  rcases hz with ⟨rfl, a, b, ha, hpt, hV⟩ | ⟨rfl, hbad⟩
  ·rcases hz2 with ⟨rfl, c, d, hc2, hqt, hV2⟩ | ⟨rfl, hbad⟩
   ·have Hin := Lib.hid (show ArgIs s.data.toList (numP a b c d) by rw [HE.out]; exact paren_is hpt hqt)
    have Hval := Lib.hid (show argV (none, 0, numP a b c d) = .agg #[.int .i64 2, .string ⟨#[]⟩, .bool x0, .string t0, .bool x1, .string t1, .bool y0, .string u0, .bool y1, .string u1, .slice none 0 0, .int .i64 0] by
     unfold encF at hV hV2
     simp only [Value.agg.injEq, Array.mk.injEq, List.cons.injEq, Value.bool.injEq, Value.string.injEq, and_true] at hV hV2
     obtain ⟨g1, g2, g3, g4⟩ := hV
     obtain ⟨g5, g6, g7, g8⟩ := hV2
     unfold argV numP
     simp only [g1, g2, g3, g4, g5, g6, g7, g8]
     rfl)
    clear hpt hqt hV hV2 ha hc2
    go_enter Tryz.func38, Tryz.ntmps38
    go_wp2_with (first | (go_at_call 37; (with_reducible refine (HY.out _).mono ?_); rintro _ _ ⟨rfl, rfl⟩) | (go_at_call 65; (refine HI.out.mono ?_); rintro _ _ ⟨rfl, rfl⟩) | (go_at_call 37; (with_reducible refine (HN.out _).mono ?_); rintro _ _ ⟨rfl, rfl⟩) | (go_at_call 57; (with_reducible refine (HC.out _ HA.out.b).mono ?_); rintro _ W1 ⟨rfl, hb1⟩; have HA1 := Lib.hid (HA.out.below hb1)) | (go_at_call 66; (with_reducible refine (HF1.out _ (HG.out.below HA1.out.b)).mono ?_); rintro _ W2 ⟨rfl, hb2⟩; have HA2 := Lib.hid ((HA1.out.below hb2).below (new_below _ (.cells #[.bool x0, .string t0, .bool x1, .string t1] 36))); have HX2 := Lib.hid (Blk.new W2 36 #[.bool x0, .string t0, .bool x1, .string t1])) | (go_at_call 66; (with_reducible refine (HF2.out _ (HG.out.below HA2.out.b)).mono ?_); rintro _ W3 ⟨rfl, hb3⟩; have HA3 := Lib.hid ((HA2.out.below hb3).below (new_below _ (.cells #[.bool y0, .string u0, .bool y1, .string u1] 36))); have HX3 := Lib.hid ((HX2.out.below hb3 HX2.out.lt).alloc (.cells #[.bool y0, .string u0, .bool y1, .string u1] 36)); have HY3 := Lib.hid (Blk.new W3 36 #[.bool y0, .string u0, .bool y1, .string u1]); have d0 := HX3.out.cell 0; have d1 := HX3.out.cell 1; have d2 := HX3.out.cell 2; have d3 := HX3.out.cell 3; have e0 := HY3.out.cell 0; have e1 := HY3.out.cell 1; have e2 := HY3.out.cell 2; have e3 := HY3.out.cell 3; have c0 := HA3.out.r.cell 0; have c1 := HA3.out.r.cell 1; have c2 := HA3.out.r.cell 2; have c3 := HA3.out.r.cell 3; have c4 := HA3.out.r.cell 4; have c5 := HA3.out.r.cell 5; have c6 := HA3.out.r.cell 6; have c7 := HA3.out.r.cell 7; have c8 := HA3.out.r.cell 8; have c9 := HA3.out.r.cell 9; have c10 := HA3.out.r.cell 10; have c11 := HA3.out.r.cell 11; have f0 := HA3.out.r.frozen 0; have f1 := HA3.out.r.frozen 1; have f2 := HA3.out.r.frozen 2; have f3 := HA3.out.r.frozen 3; have f4 := HA3.out.r.frozen 4; have f5 := HA3.out.r.frozen 5; have f6 := HA3.out.r.frozen 6; have f7 := HA3.out.r.frozen 7; have f8 := HA3.out.r.frozen 8; have f9 := HA3.out.r.frozen 9; have f10 := HA3.out.r.frozen 10; have f11 := HA3.out.r.frozen 11))
    refine bodyPost_ret (v := .agg #[.int .i64 2, .string ⟨#[]⟩, .bool x0, .string t0, .bool x1, .string t1, .bool y0, .string u0, .bool y1, .string u1, .slice none 0 0, .int .i64 0]) (by simp [results, Tryz.results38, go_sem, c0, c1, c2, c3, c4, c5, c6, c7, c8, c9, c10, c11]) rfl ?_
    exact ⟨.inl ⟨(none, 0, numP a b c d), by rw [Hval.out], num_made a b c d, Hin.out⟩, HA3.out.done _ _ _ _ _ _ _ _ _ _ _ _⟩
   ·have Hno := Lib.hid (show ArgNot s.data.toList by rw [HE.out]; exact paren_bad Hnp.out (.inr hbad))
    clear hbad hV hpt ha
    go_enter Tryz.func38, Tryz.ntmps38
    go_wp2_with (first | (go_at_call 37; (with_reducible refine (HY.out _).mono ?_); rintro _ _ ⟨rfl, rfl⟩) | (go_at_call 65; (refine HI.out.mono ?_); rintro _ _ ⟨rfl, rfl⟩) | (go_at_call 37; (with_reducible refine (HN.out _).mono ?_); rintro _ _ ⟨rfl, rfl⟩) | (go_at_call 57; (with_reducible refine (HC.out _ HA.out.b).mono ?_); rintro _ W1 ⟨rfl, hb1⟩; have HA1 := Lib.hid (HA.out.below hb1)) | (go_at_call 66; (with_reducible refine (HF1.out _ (HG.out.below HA1.out.b)).mono ?_); rintro _ W2 ⟨rfl, hb2⟩; have HA2 := Lib.hid ((HA1.out.below hb2).below (new_below _ (.cells #[.bool x0, .string t0, .bool x1, .string t1] 36))); have HX2 := Lib.hid (Blk.new W2 36 #[.bool x0, .string t0, .bool x1, .string t1])) | (go_at_call 66; (with_reducible refine (HF2.out _ (HG.out.below HA2.out.b)).mono ?_); rintro _ W3 ⟨rfl, hb3⟩; have HA3 := Lib.hid ((HA2.out.below hb3).below (new_below _ (.cells #[.bool y0, .string u0, .bool y1, .string u1] 36))); have HX3 := Lib.hid ((HX2.out.below hb3 HX2.out.lt).alloc (.cells #[.bool y0, .string u0, .bool y1, .string u1] 36)); have HY3 := Lib.hid (Blk.new W3 36 #[.bool y0, .string u0, .bool y1, .string u1]); have d0 := HX3.out.cell 0; have d1 := HX3.out.cell 1; have d2 := HX3.out.cell 2; have d3 := HX3.out.cell 3; have e0 := HY3.out.cell 0; have e1 := HY3.out.cell 1; have e2 := HY3.out.cell 2; have e3 := HY3.out.cell 3; have c0 := HA3.out.r.cell 0; have c1 := HA3.out.r.cell 1; have c2 := HA3.out.r.cell 2; have c3 := HA3.out.r.cell 3; have c4 := HA3.out.r.cell 4; have c5 := HA3.out.r.cell 5; have c6 := HA3.out.r.cell 6; have c7 := HA3.out.r.cell 7; have c8 := HA3.out.r.cell 8; have c9 := HA3.out.r.cell 9; have c10 := HA3.out.r.cell 10; have c11 := HA3.out.r.cell 11; have f0 := HA3.out.r.frozen 0; have f1 := HA3.out.r.frozen 1; have f2 := HA3.out.r.frozen 2; have f3 := HA3.out.r.frozen 3; have f4 := HA3.out.r.frozen 4; have f5 := HA3.out.r.frozen 5; have f6 := HA3.out.r.frozen 6; have f7 := HA3.out.r.frozen 7; have f8 := HA3.out.r.frozen 8; have f9 := HA3.out.r.frozen 9; have f10 := HA3.out.r.frozen 10; have f11 := HA3.out.r.frozen 11))
    exact ⟨rfl, .inr ⟨rfl, Hno.out⟩, HA3.out.b⟩
  ·have Hno := Lib.hid (show ArgNot s.data.toList by rw [HE.out]; exact paren_bad Hnp.out (.inl hbad))
   clear hbad hz2
   go_enter Tryz.func38, Tryz.ntmps38
   go_wp2_with (first | (go_at_call 37; (with_reducible refine (HY.out _).mono ?_); rintro _ _ ⟨rfl, rfl⟩) | (go_at_call 65; (refine HI.out.mono ?_); rintro _ _ ⟨rfl, rfl⟩) | (go_at_call 37; (with_reducible refine (HN.out _).mono ?_); rintro _ _ ⟨rfl, rfl⟩) | (go_at_call 57; (with_reducible refine (HC.out _ HA.out.b).mono ?_); rintro _ W1 ⟨rfl, hb1⟩; have HA1 := Lib.hid (HA.out.below hb1)) | (go_at_call 66; (with_reducible refine (HF1.out _ (HG.out.below HA1.out.b)).mono ?_); rintro _ W2 ⟨rfl, hb2⟩; have HA2 := Lib.hid ((HA1.out.below hb2).below (new_below _ (.cells #[.bool x0, .string t0, .bool x1, .string t1] 36))); have HX2 := Lib.hid (Blk.new W2 36 #[.bool x0, .string t0, .bool x1, .string t1])) | (go_at_call 66; (with_reducible refine (HF2.out _ (HG.out.below HA2.out.b)).mono ?_); rintro _ W3 ⟨rfl, hb3⟩; have HA3 := Lib.hid ((HA2.out.below hb3).below (new_below _ (.cells #[.bool y0, .string u0, .bool y1, .string u1] 36))); have HX3 := Lib.hid ((HX2.out.below hb3 HX2.out.lt).alloc (.cells #[.bool y0, .string u0, .bool y1, .string u1] 36)); have HY3 := Lib.hid (Blk.new W3 36 #[.bool y0, .string u0, .bool y1, .string u1]); have d0 := HX3.out.cell 0; have d1 := HX3.out.cell 1; have d2 := HX3.out.cell 2; have d3 := HX3.out.cell 3; have e0 := HY3.out.cell 0; have e1 := HY3.out.cell 1; have e2 := HY3.out.cell 2; have e3 := HY3.out.cell 3; have c0 := HA3.out.r.cell 0; have c1 := HA3.out.r.cell 1; have c2 := HA3.out.r.cell 2; have c3 := HA3.out.r.cell 3; have c4 := HA3.out.r.cell 4; have c5 := HA3.out.r.cell 5; have c6 := HA3.out.r.cell 6; have c7 := HA3.out.r.cell 7; have c8 := HA3.out.r.cell 8; have c9 := HA3.out.r.cell 9; have c10 := HA3.out.r.cell 10; have c11 := HA3.out.r.cell 11; have f0 := HA3.out.r.frozen 0; have f1 := HA3.out.r.frozen 1; have f2 := HA3.out.r.frozen 2; have f3 := HA3.out.r.frozen 3; have f4 := HA3.out.r.frozen 4; have f5 := HA3.out.r.frozen 5; have f6 := HA3.out.r.frozen 6; have f7 := HA3.out.r.frozen 7; have f8 := HA3.out.r.frozen 8; have f9 := HA3.out.r.frozen 9; have f10 := HA3.out.r.frozen 10; have f11 := HA3.out.r.frozen 11))
   exact ⟨rfl, .inr ⟨rfl, Hno.out⟩, HA3.out.b⟩
theorem stepI_append {w : World} {ops : Array Oper} {o : Oper} {a : Act} {K : Act → World → Prop} {Q : Exit → Act → World → Prop} {E : Prop} (hgd : o.guard = none) (s x : Operand)
  (ho : o.op = .call { callee := .builtin .append, args := #[s, x], argTypes := #[39, 39] }) (B : Nat) (v : Value) (l : List Int) (hown : OwnI w B v l) (hs : a.eval s = v)
  (B' : Nat) (A : Option Addr) (news : List Int) (hr : ReadsI w B' A news) (m c : Nat) (hm : m = news.length) (hx : a.eval x = .slice A m c) (hl1 : l.length ≤ 1000000000) (hl2 : news.length ≤ 1000000000) (hbase : B ≤ w.heap.size)
  (h : ∀ A' n' c' w', OwnI w' B (.slice A' n' c') (l ++ news) → w.grownBy w' v.ownBlock → K (a.put o.dst (.slice A' n' c')) w') :
  if Region.wanted o (yielded ops a.tmps) = true then Oper.wp Tryz.prog o a w K Q else E := by
 have hw : Region.wanted o (yielded ops a.tmps) = true := by simp [Region.wanted, hgd]
 rw [if_pos hw]
 obtain ⟨i0, hi, hz0, hz1, hz2⟩ := info_parts infoI
 subst hm
 refine wp_append_any w s x 39 ho B 3 i0 (.int .i64 0) 1 8 Tryz.underlying39 hi hz0 hz1 hz2 rfl (by decide) v l.length (l.map iv) hs hown B' A news.length c (news.map iv) hx hr (iv_one _) (by unfold maxLen; omega) (by omega) hbase ?_
 intro v' w' h1 h2 h3
 have h4 : OwnI w' B v' (l ++ news) := by
  unfold OwnI
  rw [List.length_append, List.map_append]
  exact h1
 obtain ⟨A', c', rfl, _⟩ := h4.form
 exact h A' _ c' w' h4 h2
theorem own_neS {w : World} {B B' : Nat} {v v2 : Value} {L : List (List UInt8)} {l : List Int} (h : OwnS w B v L) (h' : OwnI w B' v2 l) : ∀ g, v.ownBlock = some g → v2.ownBlock ≠ some g := by
 intro g hg hg'
 rcases h.2 with ⟨rfl, _⟩ | ⟨g1, _, _, rfl, _, hh, _⟩
 ·cases hg
 ·rcases h'.2 with ⟨rfl, _⟩ | ⟨g2, _, _, rfl, _, hh', _⟩
  ·cases hg'
  ·have e1 : g1 = g := by simpa [Value.ownBlock] using hg
   have e2 : g2 = g := by simpa [Value.ownBlock] using hg'
   subst e1 e2
   rw [hh] at hh'
   injection hh' with hh'
   injection hh' with _ ht
   revert ht
   decide
theorem OwnS.grown {w w' : World} {B : Nat} {v : Value} {L : List (List UInt8)} (h : OwnS w B v L) {row : Option Nat} (hg : w.grownBy w' row) (hr : ∀ g, v.ownBlock = some g → row ≠ some g) : OwnS w' B v L := by
 refine ⟨h.1, ?_⟩
 rcases h.2 with h' | ⟨g, cap, cur, hv, hb, hh, r⟩
 ·exact .inl h'
 ·refine .inr ⟨g, cap, cur, hv, hb, (hg.block g (Array.getElem?_eq_some_iff.1 hh).1 ?_).trans hh, r⟩
  intro e
  exact hr g (by rw [hv]; rfl) e.symm
structure BrS (w wr : World) (s : ByteArray) (A : Option Addr) (n c : Nat) (zs : List Int) (L : List (List UInt8)) : Prop where
 a : ArgS w wr s
 x : Blk wr (w.heap.size + 1 + 1) 41 #[.int .i64 4, .string ⟨#[]⟩, .bool false, .string ⟨#[]⟩, .bool false, .string ⟨#[]⟩, .bool false, .string ⟨#[]⟩, .bool false, .string ⟨#[]⟩, .slice A n c, .int .i64 0]
 o : OwnI wr w.heap.size (.slice A n c) zs
 p : OwnS wr (w.heap.size + 1 + 1 + 1) (.slice (some ⟨w.heap.size + 1 + 1 + 1, 0, none⟩) L.length L.length) L
theorem BrS.below {w wr w' : World} {s : ByteArray} {A : Option Addr} {n c : Nat} {zs : List Int} {L : List (List UInt8)} (h : BrS w wr s A n c zs L) (hb : Below wr.heap.size wr w') : BrS w w' s A n c zs L :=
 ⟨h.a.below hb, h.x.below hb h.x.lt, h.o.kept hb, h.p.kept hb⟩
theorem ArgS.grown {w wr w' : World} {s : ByteArray} {l : List Int} {v : Value} (h : ArgS w wr s) (ho : OwnI wr w.heap.size v l) (hg : wr.grownBy w' v.ownBlock) : ArgS w w' s :=
 ⟨h.s.grown hg (fun e => own_blk_ne ho h.s (by decide) e.symm), h.r.grown hg (fun e => own_blk_ne ho h.r (by decide) e.symm), h.b.grown hg h.b.size (fun k hk => (ho.lt k hk).1)⟩
theorem BrS.app {w wr W3 : World} {s : ByteArray} {A : Option Addr} {n c : Nat} {zs ys : List Int} {L : List (List UInt8)} (h : BrS w wr s A n c zs L) {A' : Option Addr} {n' c' : Nat}
  (ho : OwnI W3 w.heap.size (.slice A' n' c') ys) (hg : wr.grownBy W3 (Value.slice A n c).ownBlock) : BrS w (W3.setCell ⟨w.heap.size + 1 + 1, 10, none⟩ (.slice A' n' c')) s A' n' c' ys L := by
 have hx3 := h.x.grown hg (fun e => own_blk_ne h.o h.x (by decide) e.symm)
 have ha3 := h.a.grown h.o hg
 have hp3 := h.p.grown hg (fun g hg => own_neS h.p h.o g hg)
 refine ⟨⟨ha3.s.far (p := ⟨w.heap.size + 1 + 1, 10, none⟩) (by show w.heap.size ≠ w.heap.size + 1 + 1; omega) _, ha3.r.far (p := ⟨w.heap.size + 1 + 1, 10, none⟩) (by show w.heap.size + 1 ≠ w.heap.size + 1 + 1; omega) _, ha3.b.setCell (p := ⟨w.heap.size + 1 + 1, 10, none⟩) (by show w.heap.size ≤ w.heap.size + 1 + 1; omega) _⟩, hx3.set_ 10 _, ?_, ?_⟩
 ·exact ho.grown (grown_set W3 ⟨w.heap.size + 1 + 1, 10, none⟩ _) (fun g hg e => own_blk_ne ho hx3 (by decide) (by rw [hg]; exact e.symm))
 ·exact ownsRow_setCell_below hp3 (by show w.heap.size + 1 + 1 < w.heap.size + 1 + 1 + 1; omega) _
theorem ArgS.own {w wr : World} {s : ByteArray} {l : List Int} {v : Value} (h : ArgS w wr s) (ho : OwnI wr w.heap.size v l) (u0 u1 u2 u3 u4 u5 u6 u7 u8 u9 u10 u11 : Value) : OwnI ((((((((((((wr.setCell ⟨w.heap.size + 1, 0, none⟩ u0).setCell ⟨w.heap.size + 1, 1, none⟩ u1).setCell ⟨w.heap.size + 1, 2, none⟩ u2).setCell ⟨w.heap.size + 1, 3, none⟩ u3).setCell ⟨w.heap.size + 1, 4, none⟩ u4).setCell ⟨w.heap.size + 1, 5, none⟩ u5).setCell ⟨w.heap.size + 1, 6, none⟩ u6).setCell ⟨w.heap.size + 1, 7, none⟩ u7).setCell ⟨w.heap.size + 1, 8, none⟩ u8).setCell ⟨w.heap.size + 1, 9, none⟩ u9).setCell ⟨w.heap.size + 1, 10, none⟩ u10).setCell ⟨w.heap.size + 1, 11, none⟩ u11) w.heap.size v l := by
 have hg : wr.grownBy ((((((((((((wr.setCell ⟨w.heap.size + 1, 0, none⟩ u0).setCell ⟨w.heap.size + 1, 1, none⟩ u1).setCell ⟨w.heap.size + 1, 2, none⟩ u2).setCell ⟨w.heap.size + 1, 3, none⟩ u3).setCell ⟨w.heap.size + 1, 4, none⟩ u4).setCell ⟨w.heap.size + 1, 5, none⟩ u5).setCell ⟨w.heap.size + 1, 6, none⟩ u6).setCell ⟨w.heap.size + 1, 7, none⟩ u7).setCell ⟨w.heap.size + 1, 8, none⟩ u8).setCell ⟨w.heap.size + 1, 9, none⟩ u9).setCell ⟨w.heap.size + 1, 10, none⟩ u10).setCell ⟨w.heap.size + 1, 11, none⟩ u11) (some (w.heap.size + 1)) := (only_setCell (p := ⟨w.heap.size + 1, 11, none⟩) ((only_setCell (p := ⟨w.heap.size + 1, 10, none⟩) ((only_setCell (p := ⟨w.heap.size + 1, 9, none⟩) ((only_setCell (p := ⟨w.heap.size + 1, 8, none⟩) ((only_setCell (p := ⟨w.heap.size + 1, 7, none⟩) ((only_setCell (p := ⟨w.heap.size + 1, 6, none⟩) ((only_setCell (p := ⟨w.heap.size + 1, 5, none⟩) ((only_setCell (p := ⟨w.heap.size + 1, 4, none⟩) ((only_setCell (p := ⟨w.heap.size + 1, 3, none⟩) ((only_setCell (p := ⟨w.heap.size + 1, 2, none⟩) ((only_setCell (p := ⟨w.heap.size + 1, 1, none⟩) ((only_setCell (p := ⟨w.heap.size + 1, 0, none⟩) (World.grownBy.refl wr (some (w.heap.size + 1))) (.inl rfl) u0)) (.inl rfl) u1)) (.inl rfl) u2)) (.inl rfl) u3)) (.inl rfl) u4)) (.inl rfl) u5)) (.inl rfl) u6)) (.inl rfl) u7)) (.inl rfl) u8)) (.inl rfl) u9)) (.inl rfl) u10)) (.inl rfl) u11)
 exact ho.grown hg (fun g hg e => own_blk_ne ho h.r (by decide) (by rw [hg]; exact e.symm))
theorem chk_ok {l : List Int} (h : l.length ≤ 4096) : chk [l] ≠ 3 := by
 unfold chk tooLong
 simp only [List.any_cons, List.any_nil, Bool.or_false]
 rw [if_neg (show ¬ decide (4096 < l.length) = true by simpa using h)]
 split <;> decide
theorem chk_long {l : List Int} (h : chk [l] = 3) : 4096 < l.length := by
 rcases Nat.lt_or_ge 4096 l.length with h1 | h1
 ·exact h1
 ·exact absurd h (chk_ok h1)
theorem word_made {w : World} {B : Nat} {A : Option Addr} {n c : Nat} {zs : List Int} (ho : OwnI w B (.slice A n c) zs) (hl : zs.length ≤ 1000000) : ArgMade w B (A, c, wordP zs) := by
 obtain ⟨h1, _⟩ := ho.len
 subst h1
 exact ⟨⟨by show (-9223372036854775808 : Int) ≤ 4; decide, by show (4 : Int) ≤ 9223372036854775807; decide⟩, ⟨by show (-9223372036854775808 : Int) ≤ 0; decide, by show (0 : Int) ≤ 9223372036854775807; decide⟩, ho, ⟨by show (0 : Nat) ≤ _; omega, hl⟩⟩
theorem parts_small (c : UInt8) : ∀ l : List UInt8, (parts c l).length ≤ l.length + 1
 | [] => by simp [parts]
 | b :: r => by
  have ih := parts_small c r
  unfold parts
  obtain ⟨q, qs, hq⟩ := parts_ne c r
  rw [hq] at ih ⊢
  split
  ·simp at ih ⊢; omega
  ·show ((_ :: qs : List (List UInt8))).length ≤ _
   simp at ih ⊢; omega
theorem word_blk {w wr : World} {s : ByteArray} (h : ArgS w wr s) (hz : wr.heap.size = w.heap.size + 1 + 1) : ArgS w (wr.alloc (.cells #[.int .i64 4, .string ⟨#[]⟩, .bool false, .string ⟨#[]⟩, .bool false, .string ⟨#[]⟩, .bool false, .string ⟨#[]⟩, .bool false, .string ⟨#[]⟩, .slice none 0 0, .int .i64 0] 41)) s ∧ Blk (wr.alloc (.cells #[.int .i64 4, .string ⟨#[]⟩, .bool false, .string ⟨#[]⟩, .bool false, .string ⟨#[]⟩, .bool false, .string ⟨#[]⟩, .bool false, .string ⟨#[]⟩, .slice none 0 0, .int .i64 0] 41)) (w.heap.size + 1 + 1) 41 #[.int .i64 4, .string ⟨#[]⟩, .bool false, .string ⟨#[]⟩, .bool false, .string ⟨#[]⟩, .bool false, .string ⟨#[]⟩, .bool false, .string ⟨#[]⟩, .slice none 0 0, .int .i64 0] := by
 have hb := Blk.new wr 41 #[.int .i64 4, .string ⟨#[]⟩, .bool false, .string ⟨#[]⟩, .bool false, .string ⟨#[]⟩, .bool false, .string ⟨#[]⟩, .bool false, .string ⟨#[]⟩, .slice none 0 0, .int .i64 0]
 rw [hz] at hb
 exact ⟨h.below (new_below _ _), hb⟩
set_option maxRecDepth 100000 in
set_option maxHeartbeats 4000000 in
theorem arg_brack_end {w : World} {B : Nat} {s : ByteArray} (hg : Gl B w) (hs : s.size ≤ 6000) (h0 : 0 < s.size) (hc : s[0] = 91) (hn : ¬ EndsBy s 93) : Calls Tryz.prog 38 #[.string s] w (ArgOut w s.data.toList) := by
 have HY := Lib.hid (fun W => give_yes (w := W))
 have HA := Lib.hid (ArgS.new w s)
 have hne := str_facts h0
 have hi : (0 : Int) < (s.size : Int) := by omega
 have HW := Lib.hid (word_blk HA.out (by simp))
 have HI := Lib.hid (inner_bad HW.out.1.s hs h0 hn)
 have Hno := Lib.hid (brack_end (ends_not h0 hc hn))
 rw [← head_bytes h0 hc] at Hno
 unfold thrown at HI
 clear hg hs hn
 go_enter Tryz.func38, Tryz.ntmps38
 go_wp2_with (first | (go_at_call 37; (with_reducible refine (HY.out _).mono ?_); rintro _ _ ⟨rfl, rfl⟩) | (go_at_call 65; (refine HI.out.mono ?_); rintro _ _ ⟨rfl, rfl⟩))
 exact ⟨rfl, .inr ⟨rfl, Hno.out⟩, HW.out.1.b⟩
set_option maxRecDepth 100000 in
set_option maxHeartbeats 4000000 in
theorem arg_brack_none {w : World} {B : Nat} {s : ByteArray} (hg : Gl B w) (hs : s.size ≤ 6000) (h0 : 0 < s.size) (hc : s[0] = 91) {m : Nat} (hm : s.size = m + 1) (h1 : 1 ≤ m) (hx : s.data.toList[m]? = some 93) (hq : s.extract 1 m = ⟨#[]⟩) : Calls Tryz.prog 38 #[.string s] w (ArgOut w s.data.toList) := by
 have HY := Lib.hid (fun W => give_yes (w := W))
 have HA := Lib.hid (ArgS.new w s)
 have hne := str_facts h0
 have hi : (0 : Int) < (s.size : Int) := by omega
 have HW := Lib.hid (word_blk HA.out (by simp))
 have HI := Lib.hid (inner_good HW.out.1.s hs hm h1 hx)
 have HE := Lib.hid (ends_list hm h1 hx h0 hc)
 have HQ := Lib.hid (show (s.extract 1 m).size ≤ 6000 by rw [ByteArray.size_extract]; omega)
 rw [hq] at HI HE
 have Hin := Lib.hid (show ArgIs s.data.toList (wordP []) by rw [HE.out]; exact brack_is rfl)
 clear hg hs hm hx hq h1
 have d0 := HW.out.2.cell 0
 have d1 := HW.out.2.cell 1
 have d2 := HW.out.2.cell 2
 have d3 := HW.out.2.cell 3
 have d4 := HW.out.2.cell 4
 have d5 := HW.out.2.cell 5
 have d6 := HW.out.2.cell 6
 have d7 := HW.out.2.cell 7
 have d8 := HW.out.2.cell 8
 have d9 := HW.out.2.cell 9
 have d10 := HW.out.2.cell 10
 have d11 := HW.out.2.cell 11
 have g0 := HW.out.2.frozen 0
 have g1 := HW.out.2.frozen 1
 have g2 := HW.out.2.frozen 2
 have g3 := HW.out.2.frozen 3
 have g4 := HW.out.2.frozen 4
 have g5 := HW.out.2.frozen 5
 have g6 := HW.out.2.frozen 6
 have g7 := HW.out.2.frozen 7
 have g8 := HW.out.2.frozen 8
 have g9 := HW.out.2.frozen 9
 have g10 := HW.out.2.frozen 10
 have g11 := HW.out.2.frozen 11
 have c0 := HW.out.1.r.cell 0
 have c1 := HW.out.1.r.cell 1
 have c2 := HW.out.1.r.cell 2
 have c3 := HW.out.1.r.cell 3
 have c4 := HW.out.1.r.cell 4
 have c5 := HW.out.1.r.cell 5
 have c6 := HW.out.1.r.cell 6
 have c7 := HW.out.1.r.cell 7
 have c8 := HW.out.1.r.cell 8
 have c9 := HW.out.1.r.cell 9
 have c10 := HW.out.1.r.cell 10
 have c11 := HW.out.1.r.cell 11
 have f0 := HW.out.1.r.frozen 0
 have f1 := HW.out.1.r.frozen 1
 have f2 := HW.out.1.r.frozen 2
 have f3 := HW.out.1.r.frozen 3
 have f4 := HW.out.1.r.frozen 4
 have f5 := HW.out.1.r.frozen 5
 have f6 := HW.out.1.r.frozen 6
 have f7 := HW.out.1.r.frozen 7
 have f8 := HW.out.1.r.frozen 8
 have f9 := HW.out.1.r.frozen 9
 have f10 := HW.out.1.r.frozen 10
 have f11 := HW.out.1.r.frozen 11
 go_enter Tryz.func38, Tryz.ntmps38
 go_wp2_with (first | (go_at_call 37; (with_reducible refine (HY.out _).mono ?_); rintro _ _ ⟨rfl, rfl⟩) | (go_at_call 65; (refine HI.out.mono ?_); rintro _ _ ⟨rfl, rfl⟩))
 refine bodyPost_ret (v := argV (none, 0, wordP [])) (by simp [results, Tryz.results38, go_sem, argV, wordP]) rfl ?_
 exact ⟨.inl ⟨(none, 0, wordP []), rfl, word_made (OwnI.nil _ _) (by simp), Hin.out⟩, ((((new_below w _).alloc (by simp) _)).alloc (by simp <;> omega) _)⟩
set_option maxRecDepth 100000 in
set_option maxHeartbeats 4000000 in
theorem arg_brack_go {w : World} {B : Nat} {s : ByteArray} (hg : Gl B w) (hs : s.size ≤ 6000) (h0 : 0 < s.size) (hc : s[0] = 91) {m : Nat} (hm : s.size = m + 1) (h1 : 1 ≤ m) (hx : s.data.toList[m]? = some 93) (hq : s.extract 1 m ≠ ⟨#[]⟩) : Calls Tryz.prog 38 #[.string s] w (ArgOut w s.data.toList) := by
 have HY := Lib.hid (fun W => give_yes (w := W))
 have HA := Lib.hid (ArgS.new w s)
 have hne := str_facts h0
 have hi : (0 : Int) < (s.size : Int) := by omega
 have HW := Lib.hid (word_blk HA.out (by simp))
 have HI := Lib.hid (inner_good HW.out.1.s hs hm h1 hx)
 have HE := Lib.hid (ends_list hm h1 hx h0 hc)
 have HQ := Lib.hid (show (s.extract 1 m).size ≤ 6000 by rw [ByteArray.size_extract]; omega)
 have HG := Lib.hid hg
 have HN := Lib.hid (fun W => give_no (w := W))
 unfold thrown at HN
 have hqd : ¬ (s.extract 1 m).toList = [] := fun h => hq (tl_inj (by rw [h, ByteArray.toList_eq]))
 have hqn : ((s.extract 1 m).toList == []) = false := by simpa using hqd
 have hqe : (s.extract 1 m).toList.isEmpty = false := by simpa using hqd
 have Hq2 := Lib.hid (show (s.extract 1 m).data.toList ≠ [] from fun h => hq (ByteArray.ext (Array.toList_inj.1 h)))
 generalize s.extract 1 m = t at *
 clear hs hm hx h1 hq hg
 have HL := Lib.hid (show (cutB t.data.toList 46).length ≤ 6001 by
  rw [cutB_parts]
  have h2 := parts_small 46 t.data.toList
  have h3 : t.data.toList.length = t.size := by simp
  have := HQ.out
  omega)
 have HSP := Lib.hid (fun W (hb : Below w.heap.size w W) => by
  obtain ⟨m, hm⟩ := (HG.out.below hb).m
  exact splitw_any (w := W) t 46 m (by have := HQ.out; omega) hm)
 have HJ := Lib.hid (show Lib.join (cutB t.data.toList 46) [46] = t.data.toList by rw [cutB_parts]; exact join_parts 46 _)
 have HBad := Lib.hid (fun (p : List UInt8) (hp : p ∈ cutB t.data.toList 46) hh => brack_bad (q := t.data.toList) (p := p) Hq2.out (by rw [← cutB_parts]; exact hp) hh)
 rw [← HE.out] at HBad
 have HLen : Hid (∀ p ∈ cutB t.data.toList 46, p.length ≤ 6000) := Lib.hid fun p hp => by
  have h1 := mem_join_len (c := 46) (l := cutB t.data.toList 46) p hp
  rw [HJ.out] at h1
  have h2 : t.data.toList.length = t.size := by simp
  have := HQ.out
  omega
 have HN1 := Lib.hid (show 1 ≤ (cutB t.data.toList 46).length by
  rw [cutB_parts]
  obtain ⟨q, qs, h⟩ := parts_ne 46 t.data.toList
  rw [h]; simp)
 generalize cutB t.data.toList 46 = L at *
 go_enter Tryz.func38, Tryz.ntmps38
 go_wp2_with (first | (go_at_call 37; (with_reducible refine (HY.out _).mono ?_); rintro _ _ ⟨rfl, rfl⟩) | (go_at_call 65; (refine HI.out.mono ?_); rintro _ _ ⟨rfl, rfl⟩) | (go_at_call 34; (refine (HSP.out _ HW.out.1.b).mono ?_); rintro _ W1 ⟨n, rfl, ho1, hb1⟩; have HA1 := Lib.hid (HW.out.1.below hb1); have hx1 := HW.out.2.below hb1 HW.out.2.lt))
 simp only [World.size_alloc] at ho1
 obtain rfl : n = L.length := by
  obtain ⟨A', c', e, _⟩ := ho1.form
  injection e
 have Hst := Lib.hid (show BrS w W1 s none 0 0 [] L from ⟨HA1.out, hx1, OwnI.nil _ _, ho1⟩)
 clear hx1 ho1 hb1 HA1 HSP
 go_loopg [69] L.length (fun k iv wr => ∃ (i : Nat) (A : Option Addr) (n c : Nat) (zs : List Int), iv = .int .i64 (i : Int) ∧ k = L.length - i ∧ i ≤ L.length ∧ Hid (zs.map Lib.itoa = L.take i ∧ Wf zs) ∧ Hid (BrS w wr s A n c zs L))
 case atStart => exact ⟨0, none, 0, 0, [], rfl, by omega, by omega, Lib.hid ⟨rfl, by intro k hk; simp at hk⟩, Hst⟩
 case round =>
  obtain ⟨i, A, n, c, zs, rfl, hk, hi, hz, hO⟩ := hrel
  have Hk := Lib.hid hk
  clear hk
  by_cases hin : i < L.length
  ·have hii : (i : Int) < (L.length : Int) := by omega
   have hi0 : (0 : Int) ≤ (i : Int) := by omega
   have hi6 : (i : Int) ≤ 6001 := by have := HL.out; omega
   have hcp := hO.out.p.get hin
   have HpL := Lib.hid (HLen.out _ (List.getElem_mem hin))
   have HpB := Lib.hid (HBad.out _ (List.getElem_mem hin))
   have Htk := Lib.hid (List.take_succ_eq_append_getElem hin)
   generalize L[i] = p at *
   have c10 := hO.out.x.cell 10
   have f10 := hO.out.x.frozen 10
   have HpS := Lib.hid (show (⟨p.toArray⟩ : ByteArray).size ≤ 6000 by show p.toArray.size ≤ 6000; rw [List.size_toArray]; exact HpL.out)
   rcases Classical.em (∃ z, Lib.itoa z = p ∧ (Lib.itoa z).length ≤ 12) with ⟨z, hzp, hzl⟩ | hno
   ·have HS := Lib.hid (fun W (hb : Below w.heap.size w W) => small_yes (s := ⟨p.toArray⟩) (HG.out.below hb) HpS.out (z := z) hzp hzl)
    have Hzb := Lib.hid (itoa_bound hzl)
    have Hnew := Lib.hid (show (zs ++ [z]).map Lib.itoa = L.take (i + 1) ∧ Wf (zs ++ [z]) by
     refine ⟨by rw [List.map_append, hz.out.1, Htk.out, ← hzp]; rfl, fun k hk => ?_⟩
     rcases List.mem_append.1 hk with h | h
     ·exact hz.out.2 k h
     ·rw [List.mem_singleton.1 h]; exact Hzb.out)
    have Hlz := Lib.hid (show zs.length ≤ 1000000000 by have h1 := congrArg List.length hz.out.1; rw [List.length_map, List.length_take] at h1; have := HL.out; omega)
    clear hzp hzl
    go_wp2_with fail
    refine wp_region_noPanic ?_
    refine wp_region_HK (fun w' => w'.cell? ⟨w.heap.size + 1 + 1, 10, none⟩ = some (.slice A n c)) 7 (by kernel_rfl) c10 (fun hHeld => ?_)
    refine wpHK_take (i := 0) (oi := Oper.mk (some 73) _ _ _ _ _) (v := ?_) rfl (by kernel_rfl) (by kernel_rfl) (by kernel_rfl) (by kernel_rfl) (fun _ _ _ h => h) (Or.inl ⟨by rfl, ?_⟩) (by assumption) ?_
    rotate_left
    ·(intro w' hSw; (try dsimp only at hSw); (obtain s1 := hSw); go_simp; try with_reducible rfl)
    try simp only [Act.put, List.setIfInBounds_toArray, List.set_cons_zero, List.set_cons_succ]
    refine wpHK_take (i := 1) (oi := Oper.mk (some 74) _ _ _ _ _) (v := ?_) rfl (by kernel_rfl) (by kernel_rfl) (by kernel_rfl) (by kernel_rfl) (fun _ _ _ h => h) (Or.inl ⟨by rfl, ?_⟩) (by assumption) ?_
    rotate_left
    ·(intro w' hSw; (try dsimp only at hSw); (obtain s1 := hSw); go_simp; try with_reducible rfl)
    try simp only [Act.put, List.setIfInBounds_toArray, List.set_cons_zero, List.set_cons_succ]
    refine wpHK_take (i := 2) (oi := Oper.mk (some 75) _ _ _ _ _) (v := ?_) rfl (by kernel_rfl) (by kernel_rfl) (by kernel_rfl) (by kernel_rfl) (fun _ _ _ h => h) (Or.inl ⟨by rfl, ?_⟩) (by assumption) ?_
    rotate_left
    ·(intro w' hSw; (try dsimp only at hSw); (obtain s1 := hSw); go_simp; try with_reducible rfl)
    try simp only [Act.put, List.setIfInBounds_toArray, List.set_cons_zero, List.set_cons_succ]
    refine wpHK_one (j := 3) (o := Oper.mk (some 76) _ _ _ _ _) rfl (by kernel_rfl) (fun K hK => ?_)
    go_simp
    refine (HS.out _ (hO.out.a.b.drew)).mono ?_
    rintro _ W4 ⟨rfl, hb4⟩
    have hS4 := hO.out.below (undrew hb4)
    have hS5 := hS4.below (new_below W4 (.cells #[.int .i64 z] 3))
    refine hK.out _ _ (hS4.x.cell 10) (fun _ => ?_)
    clear hK K hHeld
    have hHeld := (hS4.x.cell 10)
    try simp only [Act.put, List.setIfInBounds_toArray, List.set_cons_zero, List.set_cons_succ]
    refine wpHK_one (j := 4) (o := Oper.mk (some 77) _ _ _ _ _) rfl (by kernel_rfl) (fun K hK => ?_)
    go_simp
    refine hK.out _ _ (hS5.x.cell 10) (fun _ => ?_)
    clear hK K hHeld
    have hHeld := (hS5.x.cell 10)
    try simp only [Act.put, List.setIfInBounds_toArray, List.set_cons_zero, List.set_cons_succ]
    refine wpHK_one (j := 5) (o := Oper.mk (some 78) _ _ _ _ _) rfl (by kernel_rfl) (fun K hK => ?_)
    refine stepI_append (by rfl) (.tmp 74) (.tmp 77) (by rfl) w.heap.size _ zs hS5.o (by rfl) _ _ [z] (reads_single W4 z) 1 1 rfl (by rfl) Hlz.out (by simp) hS5.a.b.size ?_
    intro A5 n5 c5 w5 ho5 hg5
    refine hK.out _ _ ((hS5.x.grown hg5 (fun e => own_blk_ne hS5.o hS5.x (by decide) e.symm)).cell 10) (fun _ => ?_)
    clear hK K hHeld
    have hHeld := ((hS5.x.grown hg5 (fun e => own_blk_ne hS5.o hS5.x (by decide) e.symm)).cell 10)
    try simp only [Act.put, List.setIfInBounds_toArray, List.set_cons_zero, List.set_cons_succ]
    refine wpHK_take (i := 6) (oi := Oper.mk (some 79) _ _ _ _ _) (v := ?_) rfl (by kernel_rfl) (by kernel_rfl) (by kernel_rfl) (by kernel_rfl) (fun _ _ _ h => h) (Or.inl ⟨by rfl, ?_⟩) (by assumption) ?_
    rotate_left
    ·(intro w' hSw; (try dsimp only at hSw); (obtain s1 := hSw); go_simp; try with_reducible rfl)
    try simp only [Act.put, List.setIfInBounds_toArray, List.set_cons_zero, List.set_cons_succ]
    refine wpHK_tail (j := 7) (o := Oper.mk (none) _ _ _ _ _) rfl (by kernel_rfl) (by decide) (fun K hK => ?_)
    have g10 := (hS5.x.grown hg5 (fun e => own_blk_ne hS5.o hS5.x (by decide) e.symm)).frozen 10
    go_simp
    refine hK.out _ _ ?_
    clear hK K
    try simp only [Act.put, List.setIfInBounds_toArray, List.set_cons_zero, List.set_cons_succ]
    refine wpHK_done (by kernel_rfl) ?_ _
    refine NoPanic.normal ?_
    go_wp2_with fail
    go_roundg (L.length - (i + 1))
    case measure => have := Hk.out; omega
    case rel => exact ⟨i + 1, A5, n5, c5, zs ++ [z], rfl, rfl, by omega, Hnew, Lib.hid (hS5.app ho5 hg5)⟩
   ·have HS := Lib.hid (fun W (hb : Below w.heap.size w W) => small_no (s := ⟨p.toArray⟩) (HG.out.below hb) HpS.out fun z hl hz => hno ⟨z, hz, hl⟩)
    have Hno := Lib.hid (HpB.out fun k hk he => hno ⟨k, he, hk⟩)
    unfold thrown at HS
    clear hno
    go_wp2_with fail
    refine wp_region_HK (fun w' => w'.cell? ⟨w.heap.size + 1 + 1, 10, none⟩ = some (.slice A n c)) 7 (by kernel_rfl) c10 (fun hHeld => ?_)
    refine wpHK_take (i := 0) (oi := Oper.mk (some 73) _ _ _ _ _) (v := ?_) rfl (by kernel_rfl) (by kernel_rfl) (by kernel_rfl) (by kernel_rfl) (fun _ _ _ h => h) (Or.inl ⟨by rfl, ?_⟩) (by assumption) ?_
    rotate_left
    ·(intro w' hSw; (try dsimp only at hSw); (obtain s1 := hSw); go_simp; try with_reducible rfl)
    try simp only [Act.put, List.setIfInBounds_toArray, List.set_cons_zero, List.set_cons_succ]
    refine wpHK_take (i := 1) (oi := Oper.mk (some 74) _ _ _ _ _) (v := ?_) rfl (by kernel_rfl) (by kernel_rfl) (by kernel_rfl) (by kernel_rfl) (fun _ _ _ h => h) (Or.inl ⟨by rfl, ?_⟩) (by assumption) ?_
    rotate_left
    ·(intro w' hSw; (try dsimp only at hSw); (obtain s1 := hSw); go_simp; try with_reducible rfl)
    try simp only [Act.put, List.setIfInBounds_toArray, List.set_cons_zero, List.set_cons_succ]
    refine wpHK_take (i := 2) (oi := Oper.mk (some 75) _ _ _ _ _) (v := ?_) rfl (by kernel_rfl) (by kernel_rfl) (by kernel_rfl) (by kernel_rfl) (fun _ _ _ h => h) (Or.inl ⟨by rfl, ?_⟩) (by assumption) ?_
    rotate_left
    ·(intro w' hSw; (try dsimp only at hSw); (obtain s1 := hSw); go_simp; try with_reducible rfl)
    try simp only [Act.put, List.setIfInBounds_toArray, List.set_cons_zero, List.set_cons_succ]
    refine wpHK_one (j := 3) (o := Oper.mk (some 76) _ _ _ _ _) rfl (by kernel_rfl) (fun K hK => ?_)
    go_simp
    refine (HS.out _ (hO.out.a.b.drew)).mono ?_
    rintro _ W4 ⟨rfl, hb4⟩
    have hS4 := hO.out.below (undrew hb4)
    exact ⟨rfl, .inr ⟨rfl, Hno.out⟩, hS4.a.b⟩
  ·have hii : ¬ (i : Int) < (L.length : Int) := by omega
   have hall : zs.map Lib.itoa = L := by
    have h := hz.out.1
    rwa [List.take_of_length_le (by omega)] at h
   have HJ2 := Lib.hid (show t.data.toList = wtx zs by
    have h := HJ.out
    rw [← hall] at h
    exact h.symm)
   have hzl : zs.length = L.length := by rw [← hall, List.length_map]
   have hnz := hO.out.o.len.1
   have Hlz := Lib.hid (show 1 ≤ zs.length ∧ zs.length ≤ 6001 from ⟨by have := HN1.out; omega, by have := HL.out; omega⟩)
   have hn0 : ((n : Int) == 0) = false := by have := Hlz.out.1; simp; omega
   have hn1 : ¬ (n : Int) = 0 := by have := Hlz.out.1; omega
   have HC := Lib.hid (wchk_any (c := c) hO.out.o.reads (Nat.le_refl _) hnz hz.out.2 (by have := Hlz.out.2; omega))
   have k10 := hO.out.x.cell 10
   by_cases h3 : chk [zs] = 3
   ·have e1 : (chk [zs] != 3) = false := by rw [h3]; decide
    have Hno := Lib.hid (brack_long HJ2.out (chk_long h3))
    rw [← HE.out] at Hno
    clear h3 hall hzl hnz
    generalize chk [zs] = z at *
    go_wp2_with (first | (go_at_call 68; (with_reducible refine HC.out.mono ?_); rintro _ W4 ⟨rfl, hb4⟩; have HS4 := Lib.hid (hO.out.below hb4)) | (go_at_call 37; (with_reducible refine (HN.out _).mono ?_); rintro _ _ ⟨rfl, rfl⟩))
    exact ⟨rfl, .inr ⟨rfl, Hno.out⟩, HS4.out.a.b⟩
   ·have e1 : (chk [zs] != 3) = true := by simpa using h3
    have Hin := Lib.hid (show ArgIs s.data.toList (wordP zs) by rw [HE.out]; exact brack_is HJ2.out)
    clear h3 hall hzl hnz
    generalize chk [zs] = z at *
    go_wp2_with (first | (go_at_call 68; (with_reducible refine HC.out.mono ?_); rintro _ W4 ⟨rfl, hb4⟩; have HS4 := Lib.hid (hO.out.below hb4); have d0 := HS4.out.x.cell 0; have d1 := HS4.out.x.cell 1; have d2 := HS4.out.x.cell 2; have d3 := HS4.out.x.cell 3; have d4 := HS4.out.x.cell 4; have d5 := HS4.out.x.cell 5; have d6 := HS4.out.x.cell 6; have d7 := HS4.out.x.cell 7; have d8 := HS4.out.x.cell 8; have d9 := HS4.out.x.cell 9; have d10 := HS4.out.x.cell 10; have d11 := HS4.out.x.cell 11; have g0 := HS4.out.x.frozen 0; have g1 := HS4.out.x.frozen 1; have g2 := HS4.out.x.frozen 2; have g3 := HS4.out.x.frozen 3; have g4 := HS4.out.x.frozen 4; have g5 := HS4.out.x.frozen 5; have g6 := HS4.out.x.frozen 6; have g7 := HS4.out.x.frozen 7; have g8 := HS4.out.x.frozen 8; have g9 := HS4.out.x.frozen 9; have g10 := HS4.out.x.frozen 10; have g11 := HS4.out.x.frozen 11; have c0 := HS4.out.a.r.cell 0; have c1 := HS4.out.a.r.cell 1; have c2 := HS4.out.a.r.cell 2; have c3 := HS4.out.a.r.cell 3; have c4 := HS4.out.a.r.cell 4; have c5 := HS4.out.a.r.cell 5; have c6 := HS4.out.a.r.cell 6; have c7 := HS4.out.a.r.cell 7; have c8 := HS4.out.a.r.cell 8; have c9 := HS4.out.a.r.cell 9; have c10 := HS4.out.a.r.cell 10; have c11 := HS4.out.a.r.cell 11; have f0 := HS4.out.a.r.frozen 0; have f1 := HS4.out.a.r.frozen 1; have f2 := HS4.out.a.r.frozen 2; have f3 := HS4.out.a.r.frozen 3; have f4 := HS4.out.a.r.frozen 4; have f5 := HS4.out.a.r.frozen 5; have f6 := HS4.out.a.r.frozen 6; have f7 := HS4.out.a.r.frozen 7; have f8 := HS4.out.a.r.frozen 8; have f9 := HS4.out.a.r.frozen 9; have f10 := HS4.out.a.r.frozen 10; have f11 := HS4.out.a.r.frozen 11) | (go_at_call 37; (with_reducible refine (HY.out _).mono ?_); rintro _ _ ⟨rfl, rfl⟩))
    obtain rfl : n = zs.length := HS4.out.o.len.1
    refine bodyPost_ret (v := argV (A, c, wordP zs)) (by simp [results, Tryz.results38, go_sem, argV, wordP, c0, c1, c2, c3, c4, c5, c6, c7, c8, c9, c10, c11]) rfl ?_
    exact ⟨.inl ⟨(A, c, wordP zs), rfl, word_made (HS4.out.a.own HS4.out.o _ _ _ _ _ _ _ _ _ _ _ _) (by have := Hlz.out.2; omega), Hin.out⟩, HS4.out.a.done _ _ _ _ _ _ _ _ _ _ _ _⟩
theorem arg_any {w : World} {B : Nat} {s : ByteArray} (hg : Gl B w) (hs : s.size ≤ 6000) : Calls Tryz.prog 38 #[.string s] w (ArgOut w s.data.toList) := by
 rcases Nat.eq_zero_or_pos s.size with h0 | h0
 ·have he := str_empty (s := s) (List.eq_nil_of_length_eq_zero (by have hsz : s.data.toList.length = s.size := (by simp); omega))
  subst he
  exact arg_nil
 ·obtain ⟨b, hc, _⟩ := byte_at h0
  by_cases h1 : b = 40
  ·subst h1
   by_cases he : EndsBy s 41
   ·obtain ⟨m, hm, h1, hx⟩ := he
    by_cases hq : s.extract 1 m = ⟨#[105, 110, 102]⟩
    ·exact arg_inf hg hs h0 hc hm h1 hx hq
    ·exact arg_cut hg hs h0 hc hm h1 hx hq
   ·exact arg_paren_end hg hs h0 hc he
  by_cases h2 : b = 91
  ·subst h2
   by_cases he : EndsBy s 93
   ·obtain ⟨m, hm, h1, hx⟩ := he
    by_cases hq : s.extract 1 m = ⟨#[]⟩
    ·exact arg_brack_none hg hs h0 hc hm h1 hx hq
    ·exact arg_brack_go hg hs h0 hc hm h1 hx hq
   ·exact arg_brack_end hg hs h0 hc he
  by_cases h3 : b = 35
  ·subst h3
   exact arg_hash hg hs h0 hc
  exact arg_name hs h0 hc h1 h2 h3
set_option maxRecDepth 100000 in
set_option maxHeartbeats 4000000 in
theorem catch_thrown {w : World} {g2 g3 : Nat} {x0 x1 x2 y : Value} {u : TypeId} {pv : Value} (h2 : Blk w g2 25 #[x0, x1, x2]) (h3 : Blk w g3 26 #[y]) (hne : g2 ≠ g3) :
  CallsD Tryz.prog 33 #[.pointer (some ⟨g2, 0, none⟩), .pointer (some ⟨g3, 0, none⟩)] (.panicking [{ v := .iface u pv, recovered := false }]) w fun e u' w' =>
   e = .returned (.tuple #[]) ∧ u' = .panicking [{ v := .iface u pv, recovered := true }] ∧
    w' = ((((w.setCell ⟨g2, 0, none⟩ (.string ⟨#[]⟩)).setCell ⟨g2, 1, none⟩ (.string ⟨#[]⟩)).setCell ⟨g2, 2, none⟩ (.slice none 0 0)).setCell ⟨g3, 0, none⟩ (.int .i64 400)) := by
 have c0 : w.cell? ⟨g2, 0, none⟩ = some x0 := h2.cell 0
 have c1 : w.cell? ⟨g2, 1, none⟩ = some x1 := h2.cell 1
 have c2 : w.cell? ⟨g2, 2, none⟩ = some x2 := h2.cell 2
 have c3 : w.cell? ⟨g3, 0, none⟩ = some y := h3.cell 0
 have f0 := h2.frozen 0
 have f1 := h2.frozen 1
 have f2 := h2.frozen 2
 have f3 := h3.frozen 0
 have hne2 : ¬ g3 = g2 := fun h => hne h.symm
 refine callsD_of_wpS Tryz.func33 rfl fun c₀ cs hu => ?_
 apply wpS_seq
 apply wpS_region
 simp [wpOpsS, go_sem, recoverD, hu, Tryz.ntmps33, Exit.thenS]
 apply wpS_seq
 apply wpS_region
 simp [wpOpsS, go_sem, Tryz.ntmps33, Exit.thenS]
 refine wpS_cond (t := true) (by simp [Act.eval, Array.replicate]) ?_
 simp only [if_true]
 apply wpS_region
 simp [wpOpsS, go_sem, c0, c1, c2, c3, f0, f1, f2, f3, hne, hne2, bodyPostS, results, Tryz.results33]
theorem catch_idle {w : World} {g2 g3 : Nat} :
  CallsD Tryz.prog 33 #[.pointer (some ⟨g2, 0, none⟩), .pointer (some ⟨g3, 0, none⟩)] .returning w fun e u' w' => e = .returned (.tuple #[]) ∧ u' = .returning ∧ w' = w := by
 refine callsD_of_wpS Tryz.func33 rfl fun c₀ cs hu => ?_
 apply wpS_seq
 apply wpS_region
 simp [wpOpsS, go_sem, recoverD, hu, Tryz.ntmps33, Exit.thenS]
 apply wpS_seq
 apply wpS_region
 simp [wpOpsS, go_sem, Tryz.ntmps33, Exit.thenS]
 refine wpS_cond (t := false) (by simp [Act.eval, Array.replicate]) ?_
 simp only [Bool.false_eq_true, if_false]
 refine wpS_of_wp (wp_skip ?_)
 cases c₀
 simp_all [bodyPostS, results, Tryz.results33]
def ReadOut (w : World) (l : List UInt8) (e : Ending) (w' : World) : Prop :=
 ((∃ s : StR, e = .returned (.tuple #[.agg s.cells, .int .i64 0]) ∧ s.p.ok ∧ lineT s.p = l ∧ LentA w' w.heap.size (.slice s.A s.rs.length s.c) s.rs) ∨
  (e = .returned (.tuple #[.agg #[.string ⟨#[]⟩, .string ⟨#[]⟩, .slice none 0 0], .int .i64 400]) ∧ NoLine l)) ∧ Below w.heap.size w w'
structure RdS (w wr : World) (g4 : Nat) (A4 : Option Addr) (k c4 : Nat) (v nm : ByteArray) (A : Option Addr) (n c : Nat) (rs : List ARow) (L : List (List UInt8)) (j : Nat) : Prop where
 s : Blk wr w.heap.size 25 #[.string v, .string nm, .slice A n c]
 e : Blk wr (w.heap.size + 1) 26 #[.int .i64 0]
 l : Blk wr g4 77 #[.slice A4 k c4]
 p : OwnS wr (w.heap.size + 1 + 1) (.slice (some ⟨w.heap.size + 1 + 1, 0, none⟩) L.length L.length) L
 o : LentA wr w.heap.size (.slice A n c) rs
 b : Below w.heap.size w wr
 lt : w.heap.size + 1 + 1 < g4
 hk : k + j = L.length
 a4 : 0 < k → A4 = some ⟨w.heap.size + 1 + 1, j, none⟩
 hc : k ≤ c4
section
variable {w wr w' : World} {g4 k c4 n c j : Nat} {A4 A : Option Addr} {v nm : ByteArray} {rs : List ARow} {L : List (List UInt8)}
theorem LentA.kept {B : Nat} {v : Value} (h : LentA wr B v rs) (hb : Below wr.heap.size wr w') : LentA w' B v rs := ⟨h.1.kept hb, fun r hr => (h.2 r hr).kept hb⟩
theorem LentA.setB {B gx i : Nat} {t : TypeId} {v : Value} {cs : Array Value} (h : LentA wr B v rs) (hb : Blk wr gx t cs) (h1 : 41 ≠ t) (h2 : 3 ≠ t) (u : Value) : LentA (wr.setCell ⟨gx, i, none⟩ u) B v rs := by
 refine ⟨h.1.grown (grown_set wr ⟨gx, i, none⟩ u) (fun g hg e => own_blk_ne h.1 hb h1 (by rw [hg]; exact e.symm)), fun r hr => ?_⟩
 have h3 := h.2 r hr
 exact h3.grown (grown_set wr ⟨gx, i, none⟩ u) (fun g hg e => own_blk_ne h3 hb h2 (by rw [hg]; exact e.symm))
theorem OwnS.setB {B gx i : Nat} {t : TypeId} {v : Value} {cs : Array Value} (h : OwnS wr B v L) (hb : Blk wr gx t cs) (h1 : 9 ≠ t) (u : Value) : OwnS (wr.setCell ⟨gx, i, none⟩ u) B v L :=
 h.grown (grown_set wr ⟨gx, i, none⟩ u) (fun g hg e => own_blk_ne h hb h1 (by rw [hg]; exact e.symm))
theorem own_neSA {B B' : Nat} {v v2 : Value} (h : OwnS wr B v L) (h' : OwnA wr B' v2 rs) : ∀ g, v.ownBlock = some g → v2.ownBlock ≠ some g := by
 intro g hg hg'
 rcases h.2 with ⟨rfl, _⟩ | ⟨g1, _, _, rfl, _, hh, _⟩
 ·cases hg
 ·rcases h'.2 with ⟨rfl, _⟩ | ⟨g2, _, _, rfl, _, hh', _⟩
  ·cases hg'
  ·have e1 : g1 = g := by simpa [Value.ownBlock] using hg
   have e2 : g2 = g := by simpa [Value.ownBlock] using hg'
   subst e1 e2
   rw [hh] at hh'
   injection hh' with hh'
   injection hh' with _ ht
   revert ht
   decide
theorem RdS.below (h : RdS w wr g4 A4 k c4 v nm A n c rs L j) (hb : Below wr.heap.size wr w') : RdS w w' g4 A4 k c4 v nm A n c rs L j :=
 ⟨h.s.below hb h.s.lt, h.e.below hb h.e.lt, h.l.below hb h.l.lt, h.p.kept hb, h.o.kept hb, h.b.trans (hb.mono h.b.size), h.lt, h.hk, h.a4, h.hc⟩
theorem RdS.taken (h : RdS w wr g4 A4 (k + 1) c4 v nm A n c rs L j) {A' : Option Addr} (hA : 0 < k → A' = some ⟨w.heap.size + 1 + 1, j + 1, none⟩) : RdS w (wr.setCell ⟨g4, 0, none⟩ (.slice A' k (c4 - 1))) g4 A' k (c4 - 1) v nm A n c rs L (j + 1) :=
 ⟨h.s.far (p := ⟨g4, 0, none⟩) (by have := h.lt; show w.heap.size ≠ g4; omega) _, h.e.far (p := ⟨g4, 0, none⟩) (by have := h.lt; show w.heap.size + 1 ≠ g4; omega) _, h.l.set_ 0 _,
  h.p.setB h.l (by decide) _, h.o.setB h.l (by decide) (by decide) _, h.b.setCell (p := ⟨g4, 0, none⟩) (by have := h.lt; show w.heap.size ≤ g4; omega) _, h.lt, by have := h.hk; omega, hA, by have := h.hc; omega⟩
theorem RdS.verb (h : RdS w wr g4 A4 k c4 v nm A n c rs L j) (t : ByteArray) : RdS w (wr.setCell ⟨w.heap.size, 0, none⟩ (.string t)) g4 A4 k c4 t nm A n c rs L j :=
 ⟨h.s.set_ 0 _, h.e.far (p := ⟨w.heap.size, 0, none⟩) (by show w.heap.size + 1 ≠ w.heap.size; omega) _, h.l.far (p := ⟨w.heap.size, 0, none⟩) (by have := h.lt; show g4 ≠ w.heap.size; omega) _,
  h.p.setB h.s (by decide) _, h.o.setB h.s (by decide) (by decide) _, h.b.setCell (p := ⟨w.heap.size, 0, none⟩) (Nat.le_refl _) _, h.lt, h.hk, h.a4, h.hc⟩
theorem RdS.name (h : RdS w wr g4 A4 k c4 v nm A n c rs L j) (t : ByteArray) : RdS w (wr.setCell ⟨w.heap.size, 1, none⟩ (.string t)) g4 A4 k c4 v t A n c rs L j :=
 ⟨h.s.set_ 1 _, h.e.far (p := ⟨w.heap.size, 1, none⟩) (by show w.heap.size + 1 ≠ w.heap.size; omega) _, h.l.far (p := ⟨w.heap.size, 1, none⟩) (by have := h.lt; show g4 ≠ w.heap.size; omega) _,
  h.p.setB h.s (by decide) _, h.o.setB h.s (by decide) (by decide) _, h.b.setCell (p := ⟨w.heap.size, 1, none⟩) (Nat.le_refl _) _, h.lt, h.hk, h.a4, h.hc⟩
theorem RdS.same (h : RdS w wr g4 A4 k c4 v nm A n c rs L j) : RdS w ((((wr.setCell ⟨w.heap.size, 0, none⟩ (.string v)).setCell ⟨w.heap.size, 1, none⟩ (.string nm)).setCell ⟨w.heap.size, 2, none⟩ (.slice A n c)).setCell ⟨w.heap.size + 1, 0, none⟩ (.int .i64 0)) g4 A4 k c4 v nm A n c rs L j := by
 have h2 := (h.verb v).name nm
 refine ⟨(h2.s.set_ 2 _).far (p := ⟨w.heap.size + 1, 0, none⟩) (by show w.heap.size ≠ w.heap.size + 1; omega) _, (h2.e.far (p := ⟨w.heap.size, 2, none⟩) (by show w.heap.size + 1 ≠ w.heap.size; omega) _).set_ 0 _, (h2.l.far (p := ⟨w.heap.size, 2, none⟩) (by have := h.lt; show g4 ≠ w.heap.size; omega) _).far (p := ⟨w.heap.size + 1, 0, none⟩) (by have := h.lt; show g4 ≠ w.heap.size + 1; omega) _, ?_, ?_, ?_, h.lt, h.hk, h.a4, h.hc⟩
 ·exact (h2.p.setB h2.s (by decide) _).setB (h2.e.far (p := ⟨w.heap.size, 2, none⟩) (by show w.heap.size + 1 ≠ w.heap.size; omega) _) (by decide) _
 ·exact (h2.o.setB h2.s (by decide) (by decide) _).setB (h2.e.far (p := ⟨w.heap.size, 2, none⟩) (by show w.heap.size + 1 ≠ w.heap.size; omega) _) (by decide) (by decide) _
 ·exact (h2.b.setCell (p := ⟨w.heap.size, 2, none⟩) (Nat.le_refl _) _).setCell (p := ⟨w.heap.size + 1, 0, none⟩) (by show w.heap.size ≤ w.heap.size + 1; omega) _
theorem RdS.app {w2 w3 : World} {r : ARow} (h : RdS w wr g4 A4 k c4 v nm A n c rs L j) (hb2 : Below wr.heap.size wr w2) (hn : OwnI w2 w.heap.size (.slice r.1 r.2.2.wd.length r.2.1) r.2.2.wd) {A' : Option Addr} {n' c' : Nat}
  (ho3 : OwnA w3 w.heap.size (.slice A' n' c') (rs ++ [r])) (hg : (w2.alloc (.cells (acs r).toArray 41)).grownBy w3 (Value.slice A n c).ownBlock) :
  RdS w (w3.setCell ⟨w.heap.size, 2, none⟩ (.slice A' n' c')) g4 A4 k c4 v nm A' n' c' (rs ++ [r]) L j := by
 have h2 := (h.below hb2).below (new_below w2 (.cells (acs r).toArray 41))
 have ho := h2.o.1
 have hl := LentA.step h.o hb2 hn ho3 hg
 have hs3 := h2.s.grown hg (fun e => own_blk_ne ho h2.s (by decide) e.symm)
 have he3 := h2.e.grown hg (fun e => own_blk_ne ho h2.e (by decide) e.symm)
 have hl3 := h2.l.grown hg (fun e => own_blk_ne ho h2.l (by decide) e.symm)
 have hp3 : OwnS w3 (w.heap.size + 1 + 1) (.slice (some ⟨w.heap.size + 1 + 1, 0, none⟩) L.length L.length) L := h2.p.grown hg (fun g hg => own_neSA h2.p ho g hg)
 have hb3 := h2.b.grown hg h2.b.size (fun k hk => (ho.lt k hk).1)
 exact ⟨hs3.set_ 2 _, he3.far (p := ⟨w.heap.size, 2, none⟩) (by show w.heap.size + 1 ≠ w.heap.size; omega) _, hl3.far (p := ⟨w.heap.size, 2, none⟩) (by have := h.lt; show g4 ≠ w.heap.size; omega) _,
  hp3.setB hs3 (by decide) _, hl.setB hs3 (by decide) (by decide) _, hb3.setCell (p := ⟨w.heap.size, 2, none⟩) (Nat.le_refl _) _, h.lt, h.hk, h.a4, h.hc⟩
end
theorem leaves_congr {P : Program} {fn : Func} {t t' : Array Value} {R : Ending → World → Prop} (h : ∀ w, (results fn t).run P w = (results fn t').run P w) :
  ∀ (ds : List Deferred) (u : FrameMode) (w : World), Leaves P fn t R ds u w → Leaves P fn t' R ds u w
 | [], .returning, w, hL => by
  obtain ⟨v, h1, h2⟩ := hL
  exact ⟨v, by rw [← h w]; exact h1, h2⟩
 | [], .panicking _, w, hL => hL
 | [], .run, w, hL => hL
 | d :: ds, u, w, hL => by
  obtain ⟨h1, fv, cap, f, args, h2, h3, h4⟩ := hL
  refine ⟨h1, fv, cap, f, args, h2, h3, h4.mono ?_⟩
  intro e u' w' hR
  cases e with
  | returned v => exact leaves_congr h ds (settle u') w' hR
  | panicked c => exact leaves_congr h ds (raised u' c) w' hR
  | outgrown => exact hR
theorem res9_put {t : Array Value} {d : Nat} (h2 : d ≠ 2) (h3 : d ≠ 3) (v : Value) (w : World) : (results Tryz.f9 (t.setIfInBounds d v)).run Tryz.prog w = (results Tryz.f9 t).run Tryz.prog w := by
 have e2 : (t.setIfInBounds d v)[2]? = t[2]? := by rw [Array.getElem?_setIfInBounds_ne h2]
 have e3 : (t.setIfInBounds d v)[3]? = t[3]? := by rw [Array.getElem?_setIfInBounds_ne h3]
 simp only [results, Tryz.results9, List.mapM_toArray, Array.mapM_eq_mapM_toList, List.mapM_cons, List.mapM_nil, Array.getD_eq_getD_getElem?, e2, e3]
theorem hq9 {d : Nat} {v : Value} {R : Ending → World → Prop} {c : List PanicEntry} {a : Act} {w : World} (h2 : d ≠ 2) (h3 : d ≠ 3) (h : bodyPostD Tryz.prog Tryz.f9 R (.panic c) (a.put (some d) v) w) : bodyPostD Tryz.prog Tryz.f9 R (.panic c) a w :=
 leaves_congr (fun w => res9_put h2 h3 v w) _ _ _ h
def codeAt : Nat → Code → Code
 | 0, .seq a _ => a
 | n + 1, .seq _ b => codeAt n b
 | _, c => c
def rdFr (s : ByteArray) (b g4 : Nat) (v : Nat → Value) : Array Value := #[.string s, v 1, .pointer (some ⟨b, 0, none⟩), .pointer (some ⟨b + 1, 0, none⟩), .pointer (some ⟨g4, 0, none⟩), .func (.func 35) #[] #[.pointer (some ⟨g4, 0, none⟩)], v 6, v 7, v 8, v 9, v 10, v 11, v 12, v 13, v 14, v 15, v 16, v 17, v 18, v 19, v 20, v 21, v 22, v 23, v 24, v 25, v 26, v 27, v 28, v 29, v 30, v 31, v 32, v 33, v 34, v 35, v 36, v 37, v 38, v 39, v 40, v 41, v 42, v 43, v 44, v 45, v 46, v 47, v 48, v 49]
def rdDef (b : Nat) : List Deferred := [{ target := .fn (.func 33) #[.pointer (some ⟨b, 0, none⟩), .pointer (some ⟨b + 1, 0, none⟩)], args := #[] }]
theorem read_thrown {w wr : World} {g4 k c4 n c j : Nat} {A4 A : Option Addr} {v nm : ByteArray} {rs : List ARow} {L : List (List UInt8)} {l : List UInt8} (h : RdS w wr g4 A4 k c4 v nm A n c rs L j) (hno : NoLine l) {t : Array Value}
  (h2 : t.getD 2 undef = .pointer (some ⟨w.heap.size, 0, none⟩)) (h3 : t.getD 3 undef = .pointer (some ⟨w.heap.size + 1, 0, none⟩)) :
  bodyPostD Tryz.prog Tryz.f9 (ReadOut w l) (.panic [{ v := .iface 113 (.agg #[]), recovered := false }]) ⟨t, rdDef w.heap.size⟩ wr := by
 refine leaves_cons (f := 33) (args := #[.pointer (some ⟨w.heap.size, 0, none⟩), .pointer (some ⟨w.heap.size + 1, 0, none⟩)]) (by simp) (by simp [go_sem]) ?_
 refine (catch_thrown h.s h.e (by omega)).mono ?_
 rintro e u' w'' ⟨rfl, rfl, rfl⟩
 have c0 : wr.cell? ⟨w.heap.size, 0, none⟩ = some (.string v) := h.s.cell 0
 have c1 : wr.cell? ⟨w.heap.size, 1, none⟩ = some (.string nm) := h.s.cell 1
 have c2 : wr.cell? ⟨w.heap.size, 2, none⟩ = some (.slice A n c) := h.s.cell 2
 have c3 : wr.cell? ⟨w.heap.size + 1, 0, none⟩ = some (.int .i64 0) := h.e.cell 0
 have h2' : t[2]?.getD undef = .pointer (some ⟨w.heap.size, 0, none⟩) := by simpa using h2
 have h3' : t[3]?.getD undef = .pointer (some ⟨w.heap.size + 1, 0, none⟩) := by simpa using h3
 refine ⟨.tuple #[.agg #[.string ⟨#[]⟩, .string ⟨#[]⟩, .slice none 0 0], .int .i64 400], by simp [results, Tryz.results9, go_sem, h2', h3', c0, c1, c2, c3], .inr ⟨rfl, hno⟩, ?_⟩
 exact (((h.b.setCell (p := ⟨w.heap.size, 0, none⟩) (Nat.le_refl _) _).setCell (p := ⟨w.heap.size, 1, none⟩) (Nat.le_refl _) _).setCell (p := ⟨w.heap.size, 2, none⟩) (Nat.le_refl _) _).setCell (p := ⟨w.heap.size + 1, 0, none⟩) (by show w.heap.size ≤ w.heap.size + 1; omega) _
theorem read_done {w wr : World} {g4 k c4 c j : Nat} {A4 A : Option Addr} {v nm : ByteArray} {rs : List ARow} {L : List (List UInt8)} {l : List UInt8} (h : RdS w wr g4 A4 k c4 v nm A rs.length c rs L j) (hok : (⟨v, nm, rs.map (fun r => r.2.2)⟩ : StP).ok) (hl : lineT ⟨v, nm, rs.map (fun r => r.2.2)⟩ = l) {t : Array Value}
  (h2 : t.getD 2 undef = .pointer (some ⟨w.heap.size, 0, none⟩)) (h3 : t.getD 3 undef = .pointer (some ⟨w.heap.size + 1, 0, none⟩)) :
  bodyPostD Tryz.prog Tryz.f9 (ReadOut w l) .ret ⟨t, rdDef w.heap.size⟩ wr := by
 refine leaves_cons (f := 33) (args := #[.pointer (some ⟨w.heap.size, 0, none⟩), .pointer (some ⟨w.heap.size + 1, 0, none⟩)]) (by simp) (by simp [go_sem]) ?_
 refine (catch_idle (g2 := w.heap.size) (g3 := w.heap.size + 1)).mono ?_
 rintro e u' w'' ⟨rfl, rfl, rfl⟩
 have c0 : w''.cell? ⟨w.heap.size, 0, none⟩ = some (.string v) := h.s.cell 0
 have c1 : w''.cell? ⟨w.heap.size, 1, none⟩ = some (.string nm) := h.s.cell 1
 have c2 : w''.cell? ⟨w.heap.size, 2, none⟩ = some (.slice A rs.length c) := h.s.cell 2
 have c3 : w''.cell? ⟨w.heap.size + 1, 0, none⟩ = some (.int .i64 0) := h.e.cell 0
 have h2' : t[2]?.getD undef = .pointer (some ⟨w.heap.size, 0, none⟩) := by simpa using h2
 have h3' : t[3]?.getD undef = .pointer (some ⟨w.heap.size + 1, 0, none⟩) := by simpa using h3
 exact ⟨.tuple #[.agg #[.string v, .string nm, .slice A rs.length c], .int .i64 0], by simp [results, Tryz.results9, go_sem, h2', h3', c0, c1, c2, c3], .inl ⟨⟨v, nm, A, c, rs⟩, rfl, hok, hl, h.o⟩, h.b⟩
theorem stepA_append {w : World} {ops : Array Oper} {o : Oper} {a : Act} {K : Act → World → Prop} {Q : Exit → Act → World → Prop} {E : Prop} (hgd : o.guard = none) (s x : Operand)
  (ho : o.op = .call { callee := .builtin .append, args := #[s, x], argTypes := #[23, 23] }) (B : Nat) (v : Value) (rs : List ARow) (hown : OwnA w B v rs) (hs : a.eval s = v)
  (B' : Nat) (A : Option Addr) (ms : List ARow) (hr : Reads w B' 12 A ms.length (ms.flatMap acs)) (m c : Nat) (hm : m = ms.length) (hx : a.eval x = .slice A m c) (hl1 : rs.length ≤ 1000000) (hl2 : ms.length ≤ 1000000) (hbase : B ≤ w.heap.size)
  (h : ∀ A' n' c' w', OwnA w' B (.slice A' n' c') (rs ++ ms) → w.grownBy w' v.ownBlock → K (a.put o.dst (.slice A' n' c')) w') :
  if Region.wanted o (yielded ops a.tmps) = true then Oper.wp Tryz.prog o a w K Q else E := by
 have hw : Region.wanted o (yielded ops a.tmps) = true := by simp [Region.wanted, hgd]
 rw [if_pos hw]
 obtain ⟨i0, hi, hz0, hz1, hz2⟩ := info_parts infoA
 subst hm
 refine wp_append_any w s x 23 ho B 41 i0 (.agg #[.int .i64 0, .string ⟨#[]⟩, .bool false, .string ⟨#[]⟩, .bool false, .string ⟨#[]⟩, .bool false, .string ⟨#[]⟩, .bool false, .string ⟨#[]⟩, .slice none 0 0, .int .i64 0]) 12 152 Tryz.underlying23 hi hz0 hz1 hz2 (by kernel_rfl) (by decide) v rs.length (rs.flatMap acs) hs hown B' A ms.length c (ms.flatMap acs) hx hr (acs_one _) (by unfold maxLen; omega) (by omega) hbase ?_
 intro v' w' h1 h2 h3
 have h4 : OwnA w' B v' (rs ++ ms) := by
  unfold OwnA
  rw [List.length_append, List.flatMap_append]
  exact h1
 obtain ⟨A', c', rfl, _⟩ := h4.form
 exact h A' _ c' w' h4 h2
structure ArgFine (r : ARow) : Prop where
 kz : -9223372036854775808 ≤ r.2.2.k ∧ r.2.2.k ≤ 9223372036854775807
 cz : -9223372036854775808 ≤ r.2.2.ct ∧ r.2.2.ct ≤ 9223372036854775807
 fit : r.2.2.fit
theorem lent_readsA {w : World} {B n c : Nat} {A : Option Addr} {rs : List ARow} (h : LentA w B (.slice A n c) rs) (hf : ∀ r ∈ rs, ArgFine r) : ReadsA w w.heap.size A rs ∧ n = rs.length := by
 obtain ⟨h1, h2⟩ := h.1.reads
 exact ⟨⟨h1, fun r hr => ⟨(hf r hr).kz, (hf r hr).cz, (h.2 r hr).reads⟩⟩, h2⟩
theorem fine_step {W : World} {B i : Nat} {ts : List (List UInt8)} {rs : List ARow} {r : ARow} {p : List UInt8} (h1 : rs.length = i) (h2 : ∀ q (h : q < ts.length) (h' : q < rs.length), ArgIs ts[q] rs[q].2.2) (h3 : ∀ r ∈ rs, ArgFine r)
  (hp : ∃ h : i < ts.length, ts[i] = p) (hi : ArgIs p r.2.2) (hm : ArgMade W B r) : (rs ++ [r]).length = i + 1 ∧ (∀ q (h : q < ts.length) (h' : q < (rs ++ [r]).length), ArgIs ts[q] (rs ++ [r])[q].2.2) ∧ ∀ x ∈ rs ++ [r], ArgFine x := by
 refine ⟨by rw [List.length_append, List.length_singleton, h1], fun q h h' => ?_, fun x hx => ?_⟩
 ·rcases Nat.lt_or_ge q rs.length with hq | hq
  ·rw [List.getElem_append_left hq]
   exact h2 q h hq
  ·have e : q = i := by rw [List.length_append, List.length_singleton] at h'; omega
   subst e
   obtain ⟨hh, he⟩ := hp
   rw [List.getElem_append_right (by omega), he]
   simp only [h1, Nat.sub_self, List.getElem_cons_zero]
   exact hi
 ·rcases List.mem_append.1 hx with h | h
  ·exact h3 x h
  ·rw [List.mem_singleton.1 h]
   exact ⟨hm.kz, hm.cz, hm.fit⟩
set_option maxRecDepth 100000 in
set_option maxHeartbeats 8000000 in
theorem read_core {w wr : World} {B g4 k c4 j : Nat} {A4 : Option Addr} {s : ByteArray} {v nm : List UInt8} {L ts rest : List (List UInt8)} {l : List UInt8} {u : Nat → Value} (hg : Gl B w) (hS : RdS w wr g4 A4 k c4 ⟨v.toArray⟩ ⟨nm.toArray⟩ none 0 0 [] L j)
  (hts : ts = L.drop j) (hlen : ∀ t ∈ L, t.length ≤ 6000) (hv : v.length ≤ 6000) (hn : nm.length ≤ 6000) (hp : parts 32 l = v :: rest) (hnm : nameOf rest = (nm, ts)) (hne : ∀ r, rest ≠ [61] :: r) (hk7 : k ≤ 7000)
  (K : Act → World → Prop) (hK : ∀ a w', (codeRest 7 (bodyOf Tryz.f9)).wp Tryz.prog (bodyPostD Tryz.prog Tryz.f9 (ReadOut w l)) a w' → K a w') :
  (codeAt 6 (bodyOf Tryz.f9)).wp Tryz.prog (Exit.then K (bodyPostD Tryz.prog Tryz.f9 (ReadOut w l))) ⟨rdFr s w.heap.size g4 u, rdDef w.heap.size⟩ wr := by
 conv => enter [2]; dsimp only [codeAt, bodyOf, Tryz.f9, Option.getD_some]
 dsimp only [codeRest, bodyOf, Tryz.f9, Option.getD_some] at hK
 have HG := Lib.hid hg
 have HY := Lib.hid (fun W => give_yes (w := W))
 have HN := Lib.hid (fun W => give_no (w := W))
 unfold thrown at HN
 have hkt : ts.length = k := by rw [hts, List.length_drop]; have := hS.hk; omega
 have Hts := Lib.hid (And.intro hts hkt)
 have HP := Lib.hid (And.intro hp (And.intro hnm hne))
 have Hlen := Lib.hid (And.intro hlen (And.intro hv hn))
 have HS := Lib.hid hS
 clear hts hkt hp hnm hne hlen hv hn hg hS
 have c0 := HS.out.l.cell 0
 unfold rdFr rdDef
 by_cases h64 : (k : Int) ≤ 64
 ·go_wp2_with (go_at_call 37; (with_reducible refine (HY.out _).mono ?_); rintro _ _ ⟨rfl, rfl⟩)
  go_loopg [] k (fun kk wq => ∃ (i m : Nat) (A4 : Option Addr) (c4 : Nat) (A : Option Addr) (n c : Nat) (rs : List ARow), kk = m ∧ m + i = k ∧ Hid (RdS w wq g4 A4 m c4 ⟨v.toArray⟩ ⟨nm.toArray⟩ A n c rs L (j + i)) ∧ Hid (rs.length = i ∧ (∀ q (h : q < ts.length) (h' : q < rs.length), ArgIs ts[q] rs[q].2.2) ∧ ∀ r ∈ rs, ArgFine r))
  case atStart => exact ⟨0, k, A4, c4, none, 0, 0, [], rfl, by omega, HS, Lib.hid ⟨rfl, fun q _ h' => by simp at h', fun r hr => by simp at hr⟩⟩
  case round =>
   obtain ⟨i, m, A5, c5, A, n, c, rs, hkm, hmi, hO, hA⟩ := hrel
   have Hk := Lib.hid (And.intro hkm hmi)
   clear hkm hmi
   have d0 := hO.out.l.cell 0
   rcases Nat.eq_zero_or_pos m with hm0 | hm0
   ·subst hm0
    have hm1 : ¬ (0 : Int) < ((0 : Nat) : Int) := by omega
    obtain ⟨hrd, hnl⟩ := lent_readsA hO.out.o hA.out.2.2
    subst hnl
    have hik : i = k := by have := Hk.out.2; omega
    have Hlen2 := Lib.hid (show ts.length = rs.length by have := Hts.out.2; have := hA.out.1; omega)
    have h64b : (rs.length : Int) ≤ 64 := by have := hA.out.1; omega
    have HL2 := Lib.hid (read_line (xs := rs.map (fun r => r.2.2)) HP.out.1 HP.out.2.1 HP.out.2.2 (by rw [List.length_map]; exact Hlen2.out) (fun q h h' => by rw [List.getElem_map]; exact hA.out.2.1 q h (by simpa using h')))
    have Hfit := Lib.hid (show (⟨⟨v.toArray⟩, ⟨nm.toArray⟩, rs.map (fun r => r.2.2)⟩ : StP).fit from
     ⟨by show v.toArray.size ≤ _; rw [List.size_toArray]; have := Hlen.out.2.1; omega, by show nm.toArray.size ≤ _; rw [List.size_toArray]; have := Hlen.out.2.2; omega, by rw [List.length_map]; omega, fun x hx => by
      obtain ⟨r, hr, rfl⟩ := List.mem_map.1 hx
      exact (hA.out.2.2 r hr).fit⟩)
    have e0 := hO.out.s.cell 0
    have e1 := hO.out.s.cell 1
    have e2 := hO.out.s.cell 2
    rcases Classical.em (⟨⟨v.toArray⟩, ⟨nm.toArray⟩, rs.map (fun r => r.2.2)⟩ : StP).ok with hok | hno
    ·have HC := Lib.hid (scheck_any (s := ⟨⟨v.toArray⟩, ⟨nm.toArray⟩, A, c, rs⟩) (b := true) hrd (Nat.le_refl _) Hfit.out ⟨fun _ => hok, fun _ => rfl⟩)
     have Hok := Lib.hid (And.intro hok (HL2.out.1 hok))
     unfold StR.cells at HC
     simp only [if_true] at HC
     clear hok hrd hik
     go_wp2_with (first | (go_at_call 16; (with_reducible refine HC.out.mono ?_); rintro _ W8 ⟨rfl, hb8⟩; have HS8 := Lib.hid (hO.out.below hb8); have b0 := HS8.out.s.cell 0; have b1 := HS8.out.s.cell 1; have b2 := HS8.out.s.cell 2; have b3 := HS8.out.e.cell 0; have g0 := HS8.out.s.frozen 0; have g1 := HS8.out.s.frozen 1; have g2 := HS8.out.s.frozen 2; have g3 := HS8.out.e.frozen 0) | (go_at_call 37; (with_reducible refine (HY.out _).mono ?_); rintro _ _ ⟨rfl, rfl⟩))
     exact read_done HS8.out.same Hok.out.1 Hok.out.2 rfl rfl
    ·have HC := Lib.hid (scheck_any (s := ⟨⟨v.toArray⟩, ⟨nm.toArray⟩, A, c, rs⟩) (b := false) hrd (Nat.le_refl _) Hfit.out ⟨fun h => (by cases h), fun h => absurd h hno⟩)
     have Hno := Lib.hid (HL2.out.2 hno)
     unfold StR.cells at HC
     simp only [Bool.false_eq_true, if_false] at HC
     clear hno hrd hik
     go_wp2_with (first | (go_at_call 16; (with_reducible refine HC.out.mono ?_); rintro _ W8 ⟨rfl, hb8⟩; have HS8 := Lib.hid (hO.out.below hb8)) | (go_at_call 37; (with_reducible refine (HN.out _).mono ?_); rintro _ _ ⟨rfl, rfl⟩))
     exact read_thrown HS8.out Hno.out rfl rfl
   ·obtain ⟨m, rfl⟩ : ∃ q, m = q + 1 := ⟨m - 1, by omega⟩
    obtain rfl := hO.out.a4 (by omega)
    have hm1 : (0 : Int) < ((m + 1 : Nat) : Int) := by omega
    have hnc : (m : Int) + 1 ≤ (c5 : Int) := by have := hO.out.hc; omega
    have hij : j + i < L.length := by have := hO.out.hk; omega
    have Hcp := Lib.hid (hO.out.p.get hij)
    have Hts2 := Lib.hid (show ∃ h : i < ts.length, ts[i] = L[j + i] from ⟨by have := Hts.out.2; have := Hk.out.2; omega, by simp only [Hts.out.1, List.getElem_drop]⟩)
    have HpL := Lib.hid (Hlen.out.1 _ (List.getElem_mem hij))
    generalize hpe : L[j + i] = p at *
    clear hpe
    have HpS := Lib.hid (show (⟨p.toArray⟩ : ByteArray).size ≤ 6000 by show p.toArray.size ≤ 6000; rw [List.size_toArray]; exact HpL.out)
    have e2 := hO.out.s.cell 2
    have Hlr := Lib.hid (show rs.length ≤ 1000000 by have := hA.out.1; have := Hk.out.2; omega)
    go_wp2_with fail
    refine wp_region_HK (fun w' => w'.cell? ⟨w.heap.size, 2, none⟩ = some (.slice A n c)) 8 (by kernel_rfl) e2 (fun hHeld => ?_)
    refine wpHK_take (i := 0) (oi := Oper.mk (some 37) _ _ _ _ _) (v := ?_) rfl (by kernel_rfl) (by kernel_rfl) (by kernel_rfl) (by kernel_rfl) (fun _ _ _ h => hq9 (by decide) (by decide) h) (Or.inl ⟨by rfl, ?_⟩) (by assumption) ?_
    rotate_left
    ·(intro w' hSw; (try dsimp only at hSw); (obtain s1 := hSw); go_simp; try with_reducible rfl)
    try simp only [Act.put, List.setIfInBounds_toArray, List.set_cons_zero, List.set_cons_succ]
    refine wpHK_take (i := 1) (oi := Oper.mk (some 38) _ _ _ _ _) (v := ?_) rfl (by kernel_rfl) (by kernel_rfl) (by kernel_rfl) (by kernel_rfl) (fun _ _ _ h => hq9 (by decide) (by decide) h) (Or.inl ⟨by rfl, ?_⟩) (by assumption) ?_
    rotate_left
    ·(intro w' hSw; (try dsimp only at hSw); (obtain s1 := hSw); go_simp; try with_reducible rfl)
    try simp only [Act.put, List.setIfInBounds_toArray, List.set_cons_zero, List.set_cons_succ]
    refine wpHK_take (i := 2) (oi := Oper.mk (some 39) _ _ _ _ _) (v := ?_) rfl (by kernel_rfl) (by kernel_rfl) (by kernel_rfl) (by kernel_rfl) (fun _ _ _ h => hq9 (by decide) (by decide) h) (Or.inl ⟨by rfl, ?_⟩) (by assumption) ?_
    rotate_left
    ·(intro w' hSw; (try dsimp only at hSw); (obtain s1 := hSw); go_simp; try with_reducible rfl)
    try simp only [Act.put, List.setIfInBounds_toArray, List.set_cons_zero, List.set_cons_succ]
    refine wpHK_one (j := 3) (o := Oper.mk (some 40) _ _ _ _ _) rfl (by kernel_rfl) (fun K hK => ?_)
    go_simp
    have hS1 := hO.out.below (Below.refl _ _).drew
    refine (next_any (A := none) hS1.l Hcp.out hnc (by have := hO.out.lt; show w.heap.size + 1 + 1 ≠ g4; omega)).mono ?_
    rintro _ _ ⟨rfl, A7, rfl, hA7⟩
    have hS2 := hS1.taken hA7
    refine hK.out _ _ (hS2.s.cell 2) (fun _ => ?_)
    clear hK K hHeld
    have hHeld := (hS2.s.cell 2)
    try simp only [Act.put, List.setIfInBounds_toArray, List.set_cons_zero, List.set_cons_succ]
    refine wpHK_one (j := 4) (o := Oper.mk (some 41) _ _ _ _ _) rfl (by kernel_rfl) (fun K hK => ?_)
    go_simp
    refine (arg_any (HG.out.below hS2.b) HpS.out).mono ?_
    rintro e W5 ⟨⟨r, rfl, hm5, hi5⟩ | ⟨rfl, hno5⟩, hb5⟩
    rotate_left
    ·exact read_thrown (hS2.below hb5) (no_arg (t := p) HP.out.1 HP.out.2.1 (by obtain ⟨hh, he⟩ := Hts2.out; rw [← he]; exact List.getElem_mem hh) hno5) rfl rfl
    obtain ⟨A6, c6, x6⟩ := r
    simp only [argV]
    have hS3 := hS2.below hb5
    have hS4 := hS3.below (new_below W5 (.cells (acs (A6, c6, x6)).toArray 41))
    refine hK.out _ _ (hS3.s.cell 2) (fun _ => ?_)
    clear hK K hHeld
    have hHeld := (hS3.s.cell 2)
    try simp only [Act.put, List.setIfInBounds_toArray, List.set_cons_zero, List.set_cons_succ]
    refine wpHK_one (j := 5) (o := Oper.mk (some 42) _ _ _ _ _) rfl (by kernel_rfl) (fun K hK => ?_)
    go_simp
    refine hK.out _ _ (hS4.s.cell 2) (fun _ => ?_)
    clear hK K hHeld
    have hHeld := (hS4.s.cell 2)
    try simp only [Act.put, List.setIfInBounds_toArray, List.set_cons_zero, List.set_cons_succ]
    refine wpHK_one (j := 6) (o := Oper.mk (some 43) _ _ _ _ _) rfl (by kernel_rfl) (fun K hK => ?_)
    refine stepA_append (by rfl) (.tmp 38) (.tmp 42) (by rfl) w.heap.size _ rs hS4.o.1 (by rfl) _ _ [(A6, c6, x6)] (reads_singleA W5 (A6, c6, x6)) 1 1 rfl (by rfl) Hlr.out (by simp) hS4.b.size ?_
    intro A8 n8 c8 w8 ho8 hg8
    refine hK.out _ _ ((hS4.s.grown hg8 (fun e => own_blk_ne hS4.o.1 hS4.s (by decide) e.symm)).cell 2) (fun _ => ?_)
    clear hK K hHeld
    have hHeld := ((hS4.s.grown hg8 (fun e => own_blk_ne hS4.o.1 hS4.s (by decide) e.symm)).cell 2)
    try simp only [Act.put, List.setIfInBounds_toArray, List.set_cons_zero, List.set_cons_succ]
    refine wpHK_take (i := 7) (oi := Oper.mk (some 44) _ _ _ _ _) (v := ?_) rfl (by kernel_rfl) (by kernel_rfl) (by kernel_rfl) (by kernel_rfl) (fun _ _ _ h => hq9 (by decide) (by decide) h) (Or.inl ⟨by rfl, ?_⟩) (by assumption) ?_
    rotate_left
    ·(intro w' hSw; (try dsimp only at hSw); (obtain s1 := hSw); go_simp; try with_reducible rfl)
    try simp only [Act.put, List.setIfInBounds_toArray, List.set_cons_zero, List.set_cons_succ]
    refine wpHK_tail (j := 8) (o := Oper.mk (none) _ _ _ _ _) rfl (by kernel_rfl) (by decide) (fun K hK => ?_)
    have g2 := (hS4.s.grown hg8 (fun e => own_blk_ne hS4.o.1 hS4.s (by decide) e.symm)).frozen 2
    go_simp
    refine hK.out _ _ ?_
    clear hK K
    try simp only [Act.put, List.setIfInBounds_toArray, List.set_cons_zero, List.set_cons_succ]
    refine wpHK_done (by kernel_rfl) ?_ _
    go_wp2_with fail
    go_roundg m
    case measure => have := Hk.out.1; omega
    case rel => exact ⟨i + 1, m, A7, c5 - 1, A8, n8, c8, rs ++ [(A6, c6, x6)], rfl, by have := Hk.out.2; omega, Lib.hid (hS2.app (r := (A6, c6, x6)) hb5 (hm5.own.lower hS2.b.size) ho8 hg8), Lib.hid (fine_step hA.out.1 hA.out.2.1 hA.out.2.2 Hts2.out hi5 hm5)⟩
 ·go_wp2_with (go_at_call 37; (with_reducible refine (HN.out _).mono ?_); rintro _ _ ⟨rfl, rfl⟩)
  exact read_thrown HS.out (no_many HP.out.1 HP.out.2.1 (by have := Hts.out.2; omega)) rfl rfl
theorem read_core_t {w wr : World} {B g4 k c4 j : Nat} {A4 : Option Addr} {s : ByteArray} {v nm : List UInt8} {L ts rest : List (List UInt8)} {l : List UInt8} {t : Array Value} (hg : Gl B w) (hS : RdS w wr g4 A4 k c4 ⟨v.toArray⟩ ⟨nm.toArray⟩ none 0 0 [] L j)
  (hts : ts = L.drop j) (hlen : ∀ t ∈ L, t.length ≤ 6000) (hv : v.length ≤ 6000) (hn : nm.length ≤ 6000) (hp : parts 32 l = v :: rest) (hnm : nameOf rest = (nm, ts)) (hne : ∀ r, rest ≠ [61] :: r) (hk7 : k ≤ 7000)
  (K : Act → World → Prop) (hK : ∀ a w', (codeRest 7 (bodyOf Tryz.f9)).wp Tryz.prog (bodyPostD Tryz.prog Tryz.f9 (ReadOut w l)) a w' → K a w') (ht : t = rdFr s w.heap.size g4 (fun k => t.getD k undef)) :
  (codeAt 6 (bodyOf Tryz.f9)).wp Tryz.prog (Exit.then K (bodyPostD Tryz.prog Tryz.f9 (ReadOut w l))) ⟨t, rdDef w.heap.size⟩ wr := by
 have h := read_core (s := s) (u := fun k => t.getD k undef) hg hS hts hlen hv hn hp hnm hne hk7 K hK
 rw [← ht] at h
 exact h
theorem tail_str (n : List UInt8) : (⟨(61 :: n).toArray⟩ : ByteArray).extract 1 (⟨(61 :: n).toArray⟩ : ByteArray).size = ⟨n.toArray⟩ := by
 apply ByteArray.ext
 apply Array.toList_inj.1
 rw [(drop_bytes _ 1 (by show 1 ≤ (61 :: n).toArray.size; simp)).1]
 simp
theorem eq_prefix (q : List UInt8) : Lib.hasPrefix q [61] = true ↔ ∃ n, q = 61 :: n := by
 unfold Lib.hasPrefix
 cases q with
 | nil => simp [List.isPrefixOf]
 | cons b r =>
  simp [List.isPrefixOf]
  exact ⟨fun h => h.symm, fun h => h.symm⟩
set_option maxRecDepth 100000 in
set_option maxHeartbeats 8000000 in
theorem sread_any {w : World} {B : Nat} {s : ByteArray} (hg : Gl B w) (hs : s.size ≤ 6000) : Calls Tryz.prog 9 #[.string s] w (ReadOut w s.data.toList) := by
 have hmf : ∀ (fn : Fn) (first cap : Array Value) (w : World), (Instr.makeFunc fn first cap).run Tryz.prog w = .ok (.func fn first cap) w := fun _ _ _ _ => rfl
 have HG := Lib.hid hg
 have HSP := Lib.hid (fun W (hb : Below w.heap.size w W) => by
  obtain ⟨m, hm⟩ := (HG.out.below hb).m
  exact splitw_any (w := W) s 32 m (by omega) hm)
 have HYs := Lib.hid (fun W => give_yes (w := W))
 have HNo := Lib.hid (fun W => give_no (w := W))
 unfold thrown at HNo
 have HPr := Lib.hid (fun (q : ByteArray) W => Tryz.strings_HasPrefix q ⟨#[61]⟩ W)
 have h2 := Blk.new w 25 #[.string ⟨#[]⟩, .string ⟨#[]⟩, .slice none 0 0]
 have h3 := Blk.new (w.alloc (.cells #[.string ⟨#[]⟩, .string ⟨#[]⟩, .slice none 0 0] 25)) 26 #[.int .i64 0]
 have hb0 := (new_below w (.cells #[.string ⟨#[]⟩, .string ⟨#[]⟩, .slice none 0 0] 25)).alloc (by simp) (.cells #[.int .i64 0] 26)
 rw [World.size_alloc] at h3
 have H0 := Lib.hid (And.intro (h2.alloc (.cells #[.int .i64 0] 26)) (And.intro h3 hb0))
 have HLL : Hid (∀ p ∈ cutB s.data.toList 32, p.length ≤ 6000) := Lib.hid fun p hp => by
  rw [cutB_parts] at hp
  have h1 := mem_join_len (c := 32) (l := parts 32 s.data.toList) p hp
  rw [join_parts] at h1
  have h2 : s.data.toList.length = s.size := by simp
  omega
 have HL7 := Lib.hid (show (cutB s.data.toList 32).length ≤ 7000 by
  rw [cutB_parts]
  have h2 := parts_small 32 s.data.toList
  have h3 : s.data.toList.length = s.size := by simp
  omega)
 obtain ⟨v, rest, hvr⟩ := parts_ne 32 s.data.toList
 have Hp := Lib.hid hvr
 rw [cutB_parts, hvr] at HSP HLL HL7
 clear hg h2 h3 hb0 hvr
 go_enter_defers Tryz.func9, Tryz.ntmps9
 go_wp2_with (go_at_call 34; (refine (HSP.out _ H0.out.2.2).mono ?_); rintro _ W1 ⟨n, rfl, ho1, hb1⟩; simp only [World.size_alloc] at ho1)
 obtain rfl : n = (v :: rest).length := by
  obtain ⟨A', c', e, _⟩ := ho1.form
  injection e
 have hl1 := Blk.new W1 77 #[.slice (some ⟨w.heap.size + 1 + 1, 0, none⟩) (v :: rest).length (v :: rest).length]
 have hz1 := (ho1.lt _ rfl).2
 have HR := Lib.hid (show RdS w (W1.alloc (.cells #[.slice (some ⟨w.heap.size + 1 + 1, 0, none⟩) (v :: rest).length (v :: rest).length] 77)) W1.heap.size (some ⟨w.heap.size + 1 + 1, 0, none⟩) (rest.length + 1) (rest.length + 1) ⟨#[]⟩ ⟨#[]⟩ none 0 0 [] (v :: rest) 0 from
  ⟨(H0.out.1.below hb1 H0.out.1.lt).alloc _, (H0.out.2.1.below hb1 H0.out.2.1.lt).alloc _, hl1, ho1.alloc _, ⟨OwnA.nil _ _, fun r hr => by simp at hr⟩, (H0.out.2.2.trans (hb1.mono H0.out.2.2.size)).alloc (by have h9 : w.heap.size + 1 + 1 < W1.heap.size := hz1; omega) _, hz1, by rw [List.length_cons], fun _ => rfl, Nat.le_refl _⟩)
 have hcv := HR.out.p.get (i := 0) (by simp)
 simp only [List.getElem_cons_zero] at hcv
 have hnc : ((rest.length : Nat) : Int) + 1 ≤ ((rest.length + 1 : Nat) : Int) := by omega
 have hne4 : (⟨w.heap.size + 1 + 1, 0, none⟩ : Addr).block ≠ W1.heap.size := by show w.heap.size + 1 + 1 ≠ W1.heap.size; have h9 : w.heap.size + 1 + 1 < W1.heap.size := hz1; omega
 have n1 : ¬ w.heap.size = W1.heap.size := by have h9 : w.heap.size + 1 + 1 < W1.heap.size := hz1; omega
 have n2 : ¬ W1.heap.size = w.heap.size := fun h => n1 h.symm
 have HN1 := Lib.hid (next_any (A := none) HR.out.l hcv hnc hne4)
 clear hnc hne4 ho1 hb1 hl1
 refine HN1.out.mono ?_
 rintro _ W2 ⟨rfl, A7, hW2, hA7⟩
 have hR2 := HR.out.taken hA7
 rw [← hW2] at hR2
 clear hW2 HR HN1 hcv H0 HSP
 generalize W1.heap.size = g4 at *
 have b0 := hR2.s.cell 0
 have b1 := hR2.s.cell 1
 have b2 := hR2.s.cell 2
 have q0 := hR2.s.frozen 0
 have q1 := hR2.s.frozen 1
 have k0 := hR2.l.cell 0
 have HR2 := Lib.hid hR2
 have HR3 := Lib.hid (hR2.verb ⟨v.toArray⟩)
 clear hR2 hz1
 have HvL := Lib.hid (HLL.out v (by simp))
 cases rest with
 | nil =>
  go_upto_region 8 with fail
  rename_i hK
  exact read_core_t (s := s) (ts := []) (nm := []) HG.out HR3.out rfl HLL.out HvL.out (by simp) Hp.out rfl (fun r h => by cases h) (by simp) _ hK rfl
 | cons q r =>
  have hr1 : (0 : Int) < ((r.length + 1 : Nat) : Int) := by omega
  have n3 : ¬ w.heap.size + 1 + 1 = w.heap.size := by omega
  have n4 : ¬ w.heap.size = w.heap.size + 1 + 1 := by omega
  have e7 := HR2.out.a4 (by rw [List.length_cons]; omega)
  subst e7
  have kp := HR2.out.p.get (i := 1) (by simp)
  simp only [List.getElem_cons_succ, List.getElem_cons_zero] at kp
  have HqL := Lib.hid (HLL.out q (by simp))
  have HPq := Lib.hid (HPr.out ⟨q.toArray⟩)
  rcases Classical.em (∃ n, q = 61 :: n) with ⟨nm, rfl⟩ | hq
  ·have hpre : Lib.hasPrefix (61 :: nm) [61] = true := (eq_prefix _).2 ⟨nm, rfl⟩
   have hpre2 : Lib.hasPrefix (⟨(61 :: nm).toArray⟩ : ByteArray).data.toList [61] = true := hpre
   simp only [hpre2] at HPq
   clear hpre hpre2
   have Hx := Lib.hid (tail_str nm)
   have hsz : (1 : Int) ≤ ((⟨(61 :: nm).toArray⟩ : ByteArray).size : Int) := by
    show (1 : Int) ≤ ((61 :: nm).toArray.size : Int)
    rw [List.size_toArray, List.length_cons]
    omega
   have hnc : ((r.length : Nat) : Int) + 1 ≤ (((61 :: nm) :: r).length + 1 - 1 : Nat) := by simp
   have hcp := HR3.out.p.get (i := 1) (by simp)
   simp only [List.getElem_cons_succ, List.getElem_cons_zero] at hcp
   generalize hQe : (⟨(61 :: nm).toArray⟩ : ByteArray) = Q at *
   have HN2 := Lib.hid (next_any (A := none) (n := r.length) HR3.out.l hcp hnc (by have := HR3.out.lt; show w.heap.size + 1 + 1 ≠ g4; omega))
   have hxt : (Q.extract 1 Q.size).toList = nm := by rw [Hx.out, ByteArray.toList_eq]
   have Hnl := Lib.hid (show nm.length ≤ 6000 by have := HqL.out; rw [List.length_cons] at this; omega)
   clear hQe hcp hnc
   by_cases hnm : nm = []
   ·have Hno := Lib.hid (no_eq (l := s.data.toList) (v := v) (r := r) (by rw [Hp.out, hnm]))
    have t1 : ((Q.extract 1 Q.size).toList == []) = true := by rw [hxt, hnm]; rfl
    have t2 : ((Q.extract 1 Q.size).toList != []) = false := by rw [hxt, hnm]; rfl
    have t3 : (Q.extract 1 Q.size).toList.isEmpty = true := by rw [hxt, hnm]; rfl
    have t4 : (Q.extract 1 Q.size).toList = [] := by rw [hxt, hnm]
    clear hnm hxt
    go_wp2_with (first | (go_at_call 36; (with_reducible refine (HPq.out _).mono ?_); rintro _ _ ⟨rfl, rfl⟩) | (go_at_call 35; (refine HN2.out.mono ?_); rintro _ W4 ⟨rfl, A8, hW4, hA8⟩; have hR4 := HR3.out.taken hA8; rw [← hW4] at hR4; clear hW4; have HR5 := Lib.hid (hR4.name (Q.extract 1 Q.size)); have v1 := hR4.s.cell 1; have z1 := hR4.s.frozen 1; clear hR4) | (go_at_call 37; (with_reducible refine (HNo.out _).mono ?_); rintro _ _ ⟨rfl, rfl⟩))
    exact read_thrown HR5.out Hno.out rfl rfl
   ·have t4 : ¬ (Q.extract 1 Q.size).toList = [] := by rw [hxt]; exact hnm
    have t1 : ((Q.extract 1 Q.size).toList == []) = false := by simpa using t4
    have t2 : ((Q.extract 1 Q.size).toList != []) = true := by simpa using t4
    have t3 : (Q.extract 1 Q.size).toList.isEmpty = false := by simpa using t4
    have Hnm := Lib.hid hnm
    clear hnm hxt
    go_upto_region 8 with (first | (go_at_call 36; (with_reducible refine (HPq.out _).mono ?_); rintro _ _ ⟨rfl, rfl⟩) | (go_at_call 35; (refine HN2.out.mono ?_); rintro _ W4 ⟨rfl, A8, hW4, hA8⟩; have hR4 := HR3.out.taken hA8; rw [← hW4] at hR4; clear hW4; have HR5 := Lib.hid (hR4.name (Q.extract 1 Q.size)); have v1 := hR4.s.cell 1; have z1 := hR4.s.frozen 1; have kk := hR4.l.cell 0; clear hR4) | (go_at_call 37; (with_reducible refine (HYs.out _).mono ?_); rintro _ _ ⟨rfl, rfl⟩))
    rename_i hK
    have hR5 := HR5.out
    rw [Hx.out] at hR5 ⊢
    exact read_core_t (s := s) (ts := r) (nm := nm) HG.out hR5 rfl HLL.out HvL.out Hnl.out Hp.out rfl (fun x h => Hnm.out (List.cons.inj (List.cons.inj h).1).2) (by have := HL7.out; simp at this ⊢; omega) _ hK rfl
  ·have hpre : Lib.hasPrefix (⟨q.toArray⟩ : ByteArray).data.toList [61] = false := by
    cases h : Lib.hasPrefix (⟨q.toArray⟩ : ByteArray).data.toList [61]
    ·rfl
    ·exact absurd ((eq_prefix _).1 h) hq
   simp only [hpre] at HPq
   have Hq := Lib.hid (show nameOf (q :: r) = ([], q :: r) from nameOf_ne fun n x h => hq ⟨n, (List.cons.inj h).1⟩)
   have Hq2 := Lib.hid (show ∀ x, q :: r ≠ [61] :: x from fun x h => hq ⟨[], (List.cons.inj h).1⟩)
   clear hpre hq
   go_upto_region 8 with (go_at_call 36; (with_reducible refine (HPq.out _).mono ?_); rintro _ _ ⟨rfl, rfl⟩)
   rename_i hK
   exact read_core_t (s := s) (ts := q :: r) (nm := []) HG.out HR3.out rfl HLL.out HvL.out (by simp) Hp.out Hq.out Hq2.out (by have := HL7.out; simp at this ⊢; omega) _ hK rfl
theorem ok_fine {r : ARow} (h : r.2.2.ok) : ArgFine r := by
 obtain ⟨A, c, x⟩ := r
 simp only at h
 rcases ok_cases h with ⟨nm, rfl, h1⟩ | ⟨a, b, c, d, rfl, h1, h2⟩ | rfl | ⟨wd, rfl, h1, h2⟩ | ⟨ct, rfl, h1, h2⟩
 ·refine ⟨⟨by show (-9223372036854775808 : Int) ≤ 1; decide, by show (1 : Int) ≤ 9223372036854775807; decide⟩, ⟨by show (-9223372036854775808 : Int) ≤ 0; decide, by show (0 : Int) ≤ 9223372036854775807; decide⟩, ⟨?_, by show (0 : Nat) ≤ _; omega⟩⟩
  show nm.size ≤ 1000000
  unfold Sc.namedB at h1
  simp only [Bool.and_eq_true, decide_eq_true_eq] at h1
  have h2 : nm.data.toList.length = nm.size := by simp
  omega
 ·exact ⟨⟨by show (-9223372036854775808 : Int) ≤ 2; decide, by show (2 : Int) ≤ 9223372036854775807; decide⟩, ⟨by show (-9223372036854775808 : Int) ≤ 0; decide, by show (0 : Int) ≤ 9223372036854775807; decide⟩, ⟨by show (0 : Nat) ≤ _; omega, by show (0 : Nat) ≤ _; omega⟩⟩
 ·exact ⟨⟨by show (-9223372036854775808 : Int) ≤ 3; decide, by show (3 : Int) ≤ 9223372036854775807; decide⟩, ⟨by show (-9223372036854775808 : Int) ≤ 0; decide, by show (0 : Int) ≤ 9223372036854775807; decide⟩, ⟨by show (0 : Nat) ≤ _; omega, by show (0 : Nat) ≤ _; omega⟩⟩
 ·exact ⟨⟨by show (-9223372036854775808 : Int) ≤ 4; decide, by show (4 : Int) ≤ 9223372036854775807; decide⟩, ⟨by show (-9223372036854775808 : Int) ≤ 0; decide, by show (0 : Int) ≤ 9223372036854775807; decide⟩, ⟨by show (0 : Nat) ≤ _; omega, by show wd.length ≤ _; omega⟩⟩
 ·exact ⟨⟨by show (-9223372036854775808 : Int) ≤ 5; decide, by show (5 : Int) ≤ 9223372036854775807; decide⟩, ⟨by show (-9223372036854775808 : Int) ≤ ct; omega, by show ct ≤ 9223372036854775807; omega⟩, ⟨by show (0 : Nat) ≤ _; omega, by show (0 : Nat) ≤ _; omega⟩⟩
theorem ok_fit {s : StR} (h : s.p.ok) : s.p.fit ∧ ∀ r ∈ s.rs, ArgFine r := by
 have hall : ∀ r ∈ s.rs, ArgFine r := fun r hr => ok_fine (h.all r.2.2 (List.mem_map.2 ⟨r, hr, rfl⟩))
 refine ⟨⟨?_, ?_, Nat.le_trans h.len (by decide), fun x hx => ?_⟩, hall⟩
 ·have h1 := h.v
  unfold Sc.lettersB at h1
  simp only [Bool.and_eq_true, decide_eq_true_eq] at h1
  have h2 : s.p.v.data.toList.length = s.p.v.size := by simp
  omega
 ·rcases h.nm with h1 | h1
  ·rw [h1]; decide
  ·unfold Sc.namedB at h1
   simp only [Bool.and_eq_true, decide_eq_true_eq] at h1
   have h2 : s.p.nm.data.toList.length = s.p.nm.size := by simp
   omega
 ·obtain ⟨r, hr, rfl⟩ := List.mem_map.1 hx
  exact (hall r hr).fit
theorem sread_yes {w : World} {B : Nat} {s : ByteArray} (hg : Gl B w) (hs : s.size ≤ 6000) {p : StP} (hp : p.ok) (hl : lineT p = s.data.toList) :
  Calls Tryz.prog 9 #[.string s] w (fun e w' => (∃ t : StR, e = .returned (.tuple #[.agg t.cells, .int .i64 0]) ∧ t.p = p ∧ LentA w' w.heap.size (.slice t.A t.rs.length t.c) t.rs) ∧ Below w.heap.size w w') := by
 refine (sread_any hg hs).mono ?_
 rintro e w' ⟨⟨t, he, hok, hlt, hL⟩ | ⟨_, hno⟩, hb⟩
 ·exact ⟨⟨t, he, lineT_inj hok hp (hlt.trans hl.symm), hL⟩, hb⟩
 ·exact absurd hl (hno p hp)
theorem sread_no {w : World} {B : Nat} {s : ByteArray} (hg : Gl B w) (hs : s.size ≤ 6000) (hn : NoLine s.data.toList) :
  Calls Tryz.prog 9 #[.string s] w (fun e w' => e = .returned (.tuple #[.agg #[.string ⟨#[]⟩, .string ⟨#[]⟩, .slice none 0 0], .int .i64 400]) ∧ Below w.heap.size w w') := by
 refine (sread_any hg hs).mono ?_
 rintro e w' ⟨⟨t, he, hok, hlt, hL⟩ | ⟨he, _⟩, hb⟩
 ·exact absurd hlt (hn t.p hok)
 ·exact ⟨he, hb⟩
theorem reads_blkA {w : World} {g : Nat} {rs : List ARow} (h : Blk w g 41 (rs.flatMap acs).toArray) : Reads w (g + 1) 12 (some ⟨g, 0, none⟩) rs.length (rs.flatMap acs) := by
 refine ⟨by rw [flat_len], fun _ => ⟨_, rfl, Nat.lt_succ_self _, fun j u hu => ?_⟩⟩
 rw [Addr.add_lit, Nat.zero_add, h.cell j, List.getElem?_toArray]
 exact hu
def p0 : StP := ⟨⟨#[99, 105, 114, 99, 108, 101]⟩, ⟨#[99]⟩, [nameP ⟨#[97]⟩, infP, wordP [1, -2], countP 7]⟩
def rs0 (g : Nat) : List ARow := [(none, 0, nameP ⟨#[97]⟩), (none, 0, infP), (some ⟨g, 0, none⟩, 2, wordP [1, -2]), (none, 0, countP 7)]
theorem itoa_1 : Lib.itoa 1 = [49] := by
 unfold Lib.itoa
 rw [if_neg (by decide), Lib.decDigits, dif_pos (by decide)]
 rfl
theorem itoa_m2 : Lib.itoa (-2) = [45, 50] := by
 unfold Lib.itoa
 rw [if_pos (by decide), Lib.decDigits, dif_pos (by decide)]
 rfl
theorem itoa_7 : Lib.itoa 7 = [55] := by
 unfold Lib.itoa
 rw [if_neg (by decide), Lib.decDigits, dif_pos (by decide)]
 rfl
theorem p0_line : lineT p0 = [99, 105, 114, 99, 108, 101, 32, 61, 99, 32, 97, 32, 40, 105, 110, 102, 41, 32, 91, 49, 46, 45, 50, 93, 32, 35, 55] := by
 unfold lineT p0
 simp only [List.map_cons, List.map_nil, argT_name, argT_inf, argT_word, argT_count, wtx, itoa_1, itoa_m2, itoa_7]
 rfl
theorem p0_ok : p0.ok := by
 refine ⟨by decide, .inr (by decide), by decide, fun x hx => ?_⟩
 unfold p0 at hx
 simp only [List.mem_cons, List.not_mem_nil, or_false] at hx
 rcases hx with rfl | rfl | rfl | rfl
 ·unfold ArgP.ok nameP ArgP.zero; simp; decide
 ·unfold ArgP.ok infP ArgP.zero; simp
 ·unfold ArgP.ok wordP ArgP.zero; simp; decide
 ·unfold ArgP.ok countP ArgP.zero; simp
theorem no_draw : NoLine [100, 114, 97, 119, 32, 32, 99] :=
 no_arg (v := [100, 114, 97, 119]) (n := []) (rest := [[], [99]]) (ts := [[], [99]]) (by rfl) rfl (t := []) (by simp) not_nil
theorem rs0_reads (w : World) : ReadsA (((w.alloc (.cells #[.int .i64 1, .int .i64 (-2)] 3)).alloc (.cells #[.int .i64 1, .string ⟨#[97]⟩, .bool false, .string ⟨#[]⟩, .bool false, .string ⟨#[]⟩, .bool false, .string ⟨#[]⟩, .bool false, .string ⟨#[]⟩, .slice none 0 0, .int .i64 0, .int .i64 3, .string ⟨#[]⟩, .bool false, .string ⟨#[]⟩, .bool false, .string ⟨#[]⟩, .bool false, .string ⟨#[]⟩, .bool false, .string ⟨#[]⟩, .slice none 0 0, .int .i64 0, .int .i64 4, .string ⟨#[]⟩, .bool false, .string ⟨#[]⟩, .bool false, .string ⟨#[]⟩, .bool false, .string ⟨#[]⟩, .bool false, .string ⟨#[]⟩, .slice (some ⟨w.heap.size, 0, none⟩) 2 2, .int .i64 0, .int .i64 5, .string ⟨#[]⟩, .bool false, .string ⟨#[]⟩, .bool false, .string ⟨#[]⟩, .bool false, .string ⟨#[]⟩, .bool false, .string ⟨#[]⟩, .slice none 0 0, .int .i64 7] 41))) (w.heap.size + 1 + 1) (some ⟨w.heap.size + 1, 0, none⟩) (rs0 w.heap.size) := by
 have h1 := Blk.new (w.alloc (.cells #[.int .i64 1, .int .i64 (-2)] 3)) 41 #[.int .i64 1, .string ⟨#[97]⟩, .bool false, .string ⟨#[]⟩, .bool false, .string ⟨#[]⟩, .bool false, .string ⟨#[]⟩, .bool false, .string ⟨#[]⟩, .slice none 0 0, .int .i64 0, .int .i64 3, .string ⟨#[]⟩, .bool false, .string ⟨#[]⟩, .bool false, .string ⟨#[]⟩, .bool false, .string ⟨#[]⟩, .bool false, .string ⟨#[]⟩, .slice none 0 0, .int .i64 0, .int .i64 4, .string ⟨#[]⟩, .bool false, .string ⟨#[]⟩, .bool false, .string ⟨#[]⟩, .bool false, .string ⟨#[]⟩, .bool false, .string ⟨#[]⟩, .slice (some ⟨w.heap.size, 0, none⟩) 2 2, .int .i64 0, .int .i64 5, .string ⟨#[]⟩, .bool false, .string ⟨#[]⟩, .bool false, .string ⟨#[]⟩, .bool false, .string ⟨#[]⟩, .bool false, .string ⟨#[]⟩, .slice none 0 0, .int .i64 7]
 rw [World.size_alloc] at h1
 have h0 := (Blk.new w 3 #[.int .i64 1, .int .i64 (-2)]).alloc (.cells #[.int .i64 1, .string ⟨#[97]⟩, .bool false, .string ⟨#[]⟩, .bool false, .string ⟨#[]⟩, .bool false, .string ⟨#[]⟩, .bool false, .string ⟨#[]⟩, .slice none 0 0, .int .i64 0, .int .i64 3, .string ⟨#[]⟩, .bool false, .string ⟨#[]⟩, .bool false, .string ⟨#[]⟩, .bool false, .string ⟨#[]⟩, .bool false, .string ⟨#[]⟩, .slice none 0 0, .int .i64 0, .int .i64 4, .string ⟨#[]⟩, .bool false, .string ⟨#[]⟩, .bool false, .string ⟨#[]⟩, .bool false, .string ⟨#[]⟩, .bool false, .string ⟨#[]⟩, .slice (some ⟨w.heap.size, 0, none⟩) 2 2, .int .i64 0, .int .i64 5, .string ⟨#[]⟩, .bool false, .string ⟨#[]⟩, .bool false, .string ⟨#[]⟩, .bool false, .string ⟨#[]⟩, .bool false, .string ⟨#[]⟩, .slice none 0 0, .int .i64 7] 41)
 have h1' : Blk _ _ 41 ((rs0 w.heap.size).flatMap acs).toArray := h1
 refine ⟨reads_blkA h1', fun r hr => ?_⟩
 unfold rs0 at hr
 simp only [List.mem_cons, List.not_mem_nil, or_false] at hr
 rcases hr with rfl | rfl | rfl | rfl
 ·exact ⟨by decide, by decide, ReadsI.none_ _ _ _⟩
 ·exact ⟨by decide, by decide, ReadsI.none_ _ _ _⟩
 ·refine ⟨⟨by show (-9223372036854775808 : Int) ≤ 4; decide, by show (4 : Int) ≤ 9223372036854775807; decide⟩, ⟨by show (-9223372036854775808 : Int) ≤ 0; decide, by show (0 : Int) ≤ 9223372036854775807; decide⟩, rfl, fun _ => ⟨⟨w.heap.size, 0, none⟩, rfl, by show w.heap.size < _; omega, fun j u hu => ?_⟩⟩
  have hu' : #[Value.int .i64 1, .int .i64 (-2)][j]? = some u := by
   have : (([1, -2] : List Int).map iv)[j]? = some u := hu
   match j, this with
   | 0, h => exact h
   | 1, h => exact h
   | j + 2, h => simp at h
  rw [Addr.add_lit, Nat.zero_add, h0.cell j]
  exact hu'
 ·exact ⟨by decide, by decide, ReadsI.none_ _ _ _⟩
set_option maxRecDepth 100000 in
set_option maxHeartbeats 4000000 in
theorem known_any {w : World} {B : Nat} (hg : Gl B w) : Calls Tryz.prog 8 #[] w (fun e w' => e = .returned (.bool true) ∧ Below w.heap.size w w') := by
 have hb1 := ((new_below w (.cells #[.int .i64 1, .int .i64 (-2)] 3)).alloc (by simp) (.cells #[.int .i64 1, .string ⟨#[97]⟩, .bool false, .string ⟨#[]⟩, .bool false, .string ⟨#[]⟩, .bool false, .string ⟨#[]⟩, .bool false, .string ⟨#[]⟩, .slice none 0 0, .int .i64 0, .int .i64 3, .string ⟨#[]⟩, .bool false, .string ⟨#[]⟩, .bool false, .string ⟨#[]⟩, .bool false, .string ⟨#[]⟩, .bool false, .string ⟨#[]⟩, .slice none 0 0, .int .i64 0, .int .i64 4, .string ⟨#[]⟩, .bool false, .string ⟨#[]⟩, .bool false, .string ⟨#[]⟩, .bool false, .string ⟨#[]⟩, .bool false, .string ⟨#[]⟩, .slice (some ⟨w.heap.size, 0, none⟩) 2 2, .int .i64 0, .int .i64 5, .string ⟨#[]⟩, .bool false, .string ⟨#[]⟩, .bool false, .string ⟨#[]⟩, .bool false, .string ⟨#[]⟩, .bool false, .string ⟨#[]⟩, .slice none 0 0, .int .i64 7] 41)).alloc (by simp <;> omega) (.cells #[.string ⟨#[99, 105, 114, 99, 108, 101]⟩, .string ⟨#[99]⟩, .slice (some ⟨w.heap.size + 1, 0, none⟩) 4 4] 25)
 have hR := (rs0_reads w).alloc (by simp) (.cells #[.string ⟨#[99, 105, 114, 99, 108, 101]⟩, .string ⟨#[99]⟩, .slice (some ⟨w.heap.size + 1, 0, none⟩) 4 4] 25)
 have hx := Blk.new ((w.alloc (.cells #[.int .i64 1, .int .i64 (-2)] 3)).alloc (.cells #[.int .i64 1, .string ⟨#[97]⟩, .bool false, .string ⟨#[]⟩, .bool false, .string ⟨#[]⟩, .bool false, .string ⟨#[]⟩, .bool false, .string ⟨#[]⟩, .slice none 0 0, .int .i64 0, .int .i64 3, .string ⟨#[]⟩, .bool false, .string ⟨#[]⟩, .bool false, .string ⟨#[]⟩, .bool false, .string ⟨#[]⟩, .bool false, .string ⟨#[]⟩, .slice none 0 0, .int .i64 0, .int .i64 4, .string ⟨#[]⟩, .bool false, .string ⟨#[]⟩, .bool false, .string ⟨#[]⟩, .bool false, .string ⟨#[]⟩, .bool false, .string ⟨#[]⟩, .slice (some ⟨w.heap.size, 0, none⟩) 2 2, .int .i64 0, .int .i64 5, .string ⟨#[]⟩, .bool false, .string ⟨#[]⟩, .bool false, .string ⟨#[]⟩, .bool false, .string ⟨#[]⟩, .bool false, .string ⟨#[]⟩, .slice none 0 0, .int .i64 7] 41)) 25 #[.string ⟨#[99, 105, 114, 99, 108, 101]⟩, .string ⟨#[99]⟩, .slice (some ⟨w.heap.size + 1, 0, none⟩) 4 4]
 rw [World.size_alloc, World.size_alloc] at hx
 have hgl := hg.below hb1
 have hsz : w.heap.size + 1 + 1 ≤ (((w.alloc (.cells #[.int .i64 1, .int .i64 (-2)] 3)).alloc (.cells #[.int .i64 1, .string ⟨#[97]⟩, .bool false, .string ⟨#[]⟩, .bool false, .string ⟨#[]⟩, .bool false, .string ⟨#[]⟩, .bool false, .string ⟨#[]⟩, .slice none 0 0, .int .i64 0, .int .i64 3, .string ⟨#[]⟩, .bool false, .string ⟨#[]⟩, .bool false, .string ⟨#[]⟩, .bool false, .string ⟨#[]⟩, .bool false, .string ⟨#[]⟩, .slice none 0 0, .int .i64 0, .int .i64 4, .string ⟨#[]⟩, .bool false, .string ⟨#[]⟩, .bool false, .string ⟨#[]⟩, .bool false, .string ⟨#[]⟩, .bool false, .string ⟨#[]⟩, .slice (some ⟨w.heap.size, 0, none⟩) 2 2, .int .i64 0, .int .i64 5, .string ⟨#[]⟩, .bool false, .string ⟨#[]⟩, .bool false, .string ⟨#[]⟩, .bool false, .string ⟨#[]⟩, .bool false, .string ⟨#[]⟩, .slice none 0 0, .int .i64 7] 41)).alloc (.cells #[.string ⟨#[99, 105, 114, 99, 108, 101]⟩, .string ⟨#[99]⟩, .slice (some ⟨w.heap.size + 1, 0, none⟩) 4 4] 25)).heap.size := by simp
 have HLn := Lib.hid (line_ok (s := ⟨⟨#[99, 105, 114, 99, 108, 101]⟩, ⟨#[99]⟩, some ⟨w.heap.size + 1, 0, none⟩, 4, rs0 w.heap.size⟩) (B := w.heap.size + 1 + 1) (hgl.tab.more (show B ≤ w.heap.size + 1 + 1 by have := hg.hB; omega)) hR hsz (ok_fit (s := ⟨⟨#[99, 105, 114, 99, 108, 101]⟩, ⟨#[99]⟩, some ⟨w.heap.size + 1, 0, none⟩, 4, rs0 w.heap.size⟩) p0_ok).1 p0_ok)
 have hp : (⟨⟨#[99, 105, 114, 99, 108, 101]⟩, ⟨#[99]⟩, some ⟨w.heap.size + 1, 0, none⟩, 4, rs0 w.heap.size⟩ : StR).p = p0 := rfl
 rw [hp, p0_line] at HLn
 have HH := Lib.hid (And.intro hb1 (And.intro hR (And.intro hx hsz)))
 have HG := Lib.hid hg
 have HR1 := Lib.hid (fun W (hb : Below w.heap.size w W) => sread_yes (w := W) (s := ⟨#[99, 105, 114, 99, 108, 101, 32, 61, 99, 32, 97, 32, 40, 105, 110, 102, 41, 32, 91, 49, 46, 45, 50, 93, 32, 35, 55]⟩) (HG.out.below hb) (by decide) p0_ok p0_line)
 have HR2 := Lib.hid (fun W (hb : Below w.heap.size w W) => sread_no (w := W) (s := ⟨#[100, 114, 97, 119, 32, 32, 99]⟩) (HG.out.below hb) (by decide) no_draw)
 unfold StR.cells at HLn
 unfold bs at HLn
 clear hb1 hR hx hgl hsz hp hg
 go_enter Tryz.func8, Tryz.ntmps8
 go_wp2_with (go_at_call 14; (refine HLn.out.mono ?_); rintro _ W4 ⟨rfl, hb4⟩; have H4 := Lib.hid (And.intro (HH.out.1.trans (hb4.mono HH.out.1.size)) (And.intro (((HH.out.2.1.more HH.out.2.2.2).below hb4).more hb4.size) (HH.out.2.2.1.below hb4 HH.out.2.2.1.lt))))
 with_reducible refine (HR1.out _ H4.out.1).mono ?_
 rintro _ W5 ⟨⟨⟨tv, tn, tA, tc, trs⟩, rfl, htp, hL⟩, hb5⟩
 simp only [StR.cells]
 have H5 := Lib.hid (And.intro htp (And.intro (hL.kept (new_below W5 (.cells #[.string tv, .string tn, .slice tA trs.length tc] 25))) (And.intro (H4.out.1.trans (((hb5.mono H4.out.1.size)).alloc (by have := H4.out.1.size; have := hb5.size; omega) (.cells #[.string tv, .string tn, .slice tA trs.length tc] 25))) (And.intro (hb5.alloc hb5.size (.cells #[.string tv, .string tn, .slice tA trs.length tc] 25)) (Blk.new W5 25 #[.string tv, .string tn, .slice tA trs.length tc])))))
 clear htp hL hb5
 go_wp2_with fail
 with_reducible refine (HR2.out _ H5.out.2.2.1).mono ?_
 rintro _ W6 ⟨rfl, hb6⟩
 have H6 := Lib.hid (show Below W5.heap.size (W5.alloc (.cells #[.string tv, .string tn, .slice tA trs.length tc] 25)) (W6.alloc (.cells #[.string ⟨#[]⟩, .string ⟨#[]⟩, .slice none 0 0] 25)) from (hb6.mono (by simp)).alloc (by have := hb6.size; simp at this; omega) _)
 have H6b := Lib.hid (show Below (W5.alloc (.cells #[.string tv, .string tn, .slice tA trs.length tc] 25)).heap.size (W5.alloc (.cells #[.string tv, .string tn, .slice tA trs.length tc] 25)) (W6.alloc (.cells #[.string ⟨#[]⟩, .string ⟨#[]⟩, .slice none 0 0] 25)) from hb6.alloc hb6.size _)
 have H46 := Lib.hid (H5.out.2.2.2.1.trans (H6b.out.mono H5.out.2.2.2.1.size))
 have hx1 := H4.out.2.2.below H46.out H4.out.2.2.lt
 have hx4 := H5.out.2.2.2.2.below H6b.out H5.out.2.2.2.2.lt
 have c0 := hx1.cell 0
 have c1 := hx1.cell 1
 have c2 := hx1.cell 2
 have d0 := hx4.cell 0
 have d1 := hx4.cell 1
 have d2 := hx4.cell 2
 have hL6 := H5.out.2.1.kept H6b.out
 have hfine := (ok_fit (s := ⟨tv, tn, tA, tc, trs⟩) (by rw [H5.out.1]; exact p0_ok))
 have HS := Lib.hid (sst_any (s := ⟨⟨#[99, 105, 114, 99, 108, 101]⟩, ⟨#[99]⟩, some ⟨w.heap.size + 1, 0, none⟩, 4, rs0 w.heap.size⟩) (t := ⟨tv, tn, tA, tc, trs⟩) (b := true) ((H4.out.2.1.below H46.out).more H46.out.size) (lent_readsA hL6 hfine.2).1 (Nat.le_refl _) (ok_fit (s := ⟨⟨#[99, 105, 114, 99, 108, 101]⟩, ⟨#[99]⟩, some ⟨w.heap.size + 1, 0, none⟩, 4, rs0 w.heap.size⟩) p0_ok).1 hfine.1 ⟨fun _ => H5.out.1.symm, fun _ => rfl⟩)
 have Hbz := Lib.hid (H5.out.2.2.1.trans (H6b.out.mono H5.out.2.2.1.size))
 unfold StR.cells at HS
 clear hb6 hx1 hx4 hL6 hfine
 go_wp2_with fail
 refine HS.out.mono ?_
 rintro _ W7 ⟨rfl, hb7⟩
 have Hbe := Lib.hid (Hbz.out.trans (hb7.mono Hbz.out.size))
 clear hb7 c0 c1 c2 d0 d1 d2
 go_wp2_with fail
 go_ret
 exact ⟨rfl, Hbe.out⟩
end Go.Proofs.YtebpggfccljagaaGreatDoor
namespace Go.Proofs.YtebpggfccljagaaGreatDoor
open Go.ChangeShapes Go.WideShapes Go.ChangeAt Go.RowKit
theorem own : ownKnob Tryz.prog.godebug = none := by kernel_rfl
theorem trodAll_keep {H : Type} {enc : TypeId × Value → H} {P : Program} (hl : laidOutB P = true) {W W' : World} (hb : Below W.heap.size W W') {sp : Nat → Bool} :
  ∀ (ts : List TypeId) (vs : List Value) (ds : List (DataW H)) (ps : List MemPlace), DataW.TrodAll enc P W 0 (fun _ => true) true ts vs ds ps → (∀ t ∈ ts, P.readableRec t = true ∧ t < P.types.size) →
   (∀ x ∈ ps, x.block < W.heap.size) → (∀ x ∈ ps, sp x.block = true) → DataW.TrodAll enc P W' 0 sp true ts vs ds ps
 | [], vs, ds, ps, h, _, _, _ => by
  obtain ⟨rfl, rfl, rfl⟩ := trodAll_nil h
  exact trodAll_mk0
 | t :: ts, vs, ds, ps, h, ht, hlt, hsp => by
  obtain ⟨v, vs', d, ds', p, q, rfl, rfl, rfl, h0, h1⟩ := trodAll_cons h
  refine trodAll_cons_mk ?_ (trodAll_keep hl hb ts vs' ds' q h1 (fun t' h' => ht t' (List.mem_cons_of_mem _ h')) (fun x hx => hlt x (List.mem_append_right _ hx)) (fun x hx => hsp x (List.mem_append_right _ hx)))
  obtain ⟨hr, hrow⟩ := ht t List.mem_cons_self
  exact WideElems.Trod_stays hl hr hrow h0 (fun x hx => hb.same (hlt x (List.mem_append_left _ hx))) (fun x hx => hsp x (List.mem_append_left _ hx))
theorem laidOut : laidOutB Tryz.prog = true := by kernel_rfl
set_option maxRecDepth 100000 in
theorem law_post {H : Type} {enc : TypeId × Value → H} {f : Func} {s : ChangeSpec} {W W' : World} {args : Array Value} {ds gs : List (DataW H)} {before : List MemPlace} {bt : TypeId}
  (hW : DataW.Whole enc Tryz.prog f.params.toList s.vars false W args.toList ds gs before) (hb : Below W.heap.size W W') (hv : s.vars = []) (hrt : f.resultTypes = #[bt]) (hbt : Tryz.prog.underlying bt = some .bool)
  (hpar : ∀ t ∈ f.params.toList, Tryz.prog.readableRec t = true ∧ t < Tryz.prog.types.size)
  (hres : (s.fn H (ds ++ gs)).results = [.lit (.bool true)]) (hargs : (s.fn H (ds ++ gs)).args = ds) (hvs : (s.fn H (ds ++ gs)).vars = []) :
  s.post enc Tryz.prog f false true false false W args (.bool true) W' := by
 have hlt : ∀ p ∈ before, p.block < W.heap.size := fun p hp => hW.lt p hp
 have hW' := hW
 obtain ⟨p, q, hA, hV, rfl, hfz, hnd⟩ := hW
 have hq : q = [] := by
  rw [hv] at hV
  exact (trodVars_none hV).2
 subst hq
 refine post_of_below (pa := p) (pv := []) hW' (fun _ _ _ => ?_) (fun sp hsp => ?_) (fun sp hsp => ?_) rfl hb ?_
 ·rw [hres, hrt]
  exact trodAll_cons_mk (shut_bool hbt _) trodAll_mk0
 ·rw [hargs]
  exact trodAll_keep laidOut hb _ _ _ _ hA hpar (fun x hx => hlt x (List.mem_append_left _ hx)) (fun x hx => hsp x (List.mem_append_left _ hx))
 ·rw [hv, hvs]
  rfl
 ·exact ok_one hrt rfl (okWide_bool_mk hbt _)
end Go.Proofs.YtebpggfccljagaaGreatDoor
namespace Go.Proofs.YtebpggfccljagaaGreatDoor.Laid
open Go.ChangeShapes Go.WideShapes Go.ChangeAt Go.RowKit Go.Deep
open Wh
set_option linter.unusedSimpArgs false
set_option linter.unusedVariables false
instance : Inhabited ARow := ⟨sent⟩
theorem c3 : Tryz.prog.cellsOf 3 = 1 := by kernel_rfl
theorem c4 : Tryz.prog.cellsOf 4 = 1 := by kernel_rfl
theorem c9 : Tryz.prog.cellsOf 9 = 1 := by kernel_rfl
section
variable {H : Type} {enc : TypeId × Value → H} {w : World} {base fuel : Nat} {held : Bool}
end
end Go.Proofs.YtebpggfccljagaaGreatDoor.Laid
namespace Go.Proofs.YtebpggfccljagaaGreatDoor.Laid
open Go.ChangeShapes Go.WideShapes Go.ChangeAt Go.RowKit
open Wh
set_option linter.unusedSimpArgs false
set_option linter.unusedVariables false
theorem gTab : Tryz.prog.globalNamed "internal/strconv.uint64pow10" = some 1 := by kernel_rfl
theorem gTabType : (Tryz.prog.globals[1]?).map (·.type) = some 201 := by kernel_rfl
theorem cells201 : Tryz.prog.cellsOf 201 = 20 := by kernel_rfl
theorem cells161 : Tryz.prog.cellsOf 161 = 1 := by kernel_rfl
theorem pow10_is : Rows.laid_internal_strconv_uint64pow10 (H := Unit) = Lib.tabData .u64 Lib.pow10Tab := by kernel_rfl
def L5 : List (String × DataW Unit) := [("math/bits.deBruijn32tab", Rows.laid_math_bits_deBruijn32tab), ("math/bits.deBruijn64tab", Rows.laid_math_bits_deBruijn64tab), ("internal/strconv.uint64pow10", Rows.laid_internal_strconv_uint64pow10), ("unicode/utf8.acceptRanges", Rows.laid_unicode_utf8_acceptRanges), ("unicode/utf8.first", Rows.laid_unicode_utf8_first)]
theorem gl5 {W : World} (h : laidMetH Tryz.prog L5 W) (hsh : W.ShapedOpen Tryz.prog) : Gl W.heap.size W := by
 have h1 := h.filter (fun x => x.1 == "internal/strconv.uint64pow10")
 have e : L5.filter (fun x => x.1 == "internal/strconv.uint64pow10") = [("internal/strconv.uint64pow10", Lib.tabData .u64 Lib.pow10Tab)] := by
  rw [← pow10_is]
  rfl
 rw [e, Go.MakeChecks.laidMetH_plain _ _ _ (by kernel_rfl)] at h1
 have ht : Lib.TabIs Tryz.prog W "internal/strconv.uint64pow10" .u64 Lib.pow10Tab := Lib.tabIs_of_head (rest := []) gTab gTabType Tryz.underlying201 Tryz.underlying161 cells161 cells201 h1
 exact ⟨Lib.tabBelow_of_tabIs ht, cell_of_shapedOpen_int (P := Tryz.prog) (g := 0) (t := 3) (zero := #[.int .i64 0]) hsh (of_decide_eq_true (by kernel_rfl)) (by kernel_rfl) rfl (by kernel_rfl) (by kernel_rfl) Tryz.underlying3, Nat.le_refl _⟩
def numArr (l : List Nat) : Array Value := (l.map fun (n : Nat) => Value.int .u8 (Int.ofNat n)).toArray
def tabFirst : Array Value := numArr Go.Pinned.utf8FirstZ
def rangesOf (d : DataW Unit) : List Value := match d with
 | .agg l => l.flatMap fun x => match x with
  | .agg r => r.map fun y => match y with
   | .lit (.int k n) => Value.int k n
   | _ => Value.int .u8 0
  | _ => []
 | _ => []
def tabRanges : Array Value := (rangesOf Rows.laid_unicode_utf8_acceptRanges).toArray
def tab32 : Array Value := #[0, 1, 28, 2, 29, 14, 24, 3, 30, 22, 20, 15, 25, 17, 4, 8, 31, 27, 13, 23, 21, 19, 16, 7, 26, 12, 18, 6, 11, 5, 10, 9].map (Value.int .u8)
def tab64 : Array Value := #[0, 1, 56, 2, 57, 49, 28, 3, 61, 58, 42, 50, 38, 29, 17, 4, 62, 47, 59, 36, 45, 43, 51, 22, 53, 39, 33, 30, 24, 18, 12, 5, 63, 55, 48, 27, 60, 41, 37, 16, 46, 35, 44, 21, 52, 32, 23, 11, 54, 26, 40, 15, 34, 20, 31, 10, 25, 14, 19, 9, 13, 8, 7, 6].map (Value.int .u8)
def tabPow : Array Value := ((List.range 20).map fun i => Value.int .u64 ((10 ^ i : Nat) : Int)).toArray
def put (g : Nat) (cs : Array Value) (h : Array Obj) : Array Obj := h.modify g (fun o => match o with | .cells _ t frozen => .cells cs t frozen | o => o)
noncomputable def laidWorld (os : Os) : World :=
 { World.holding Tryz.prog os ⟨#[], #[], []⟩ with heap := put 1 tabPow (put 2 tabFirst (put 3 tabRanges (put 4 tab32 (put 5 tab64 (World.holding Tryz.prog os ⟨#[], #[], []⟩).heap)))) }
end Go.Proofs.YtebpggfccljagaaGreatDoor.Laid
