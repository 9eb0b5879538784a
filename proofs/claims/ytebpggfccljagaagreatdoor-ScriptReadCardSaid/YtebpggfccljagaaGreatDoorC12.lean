import Derived.Test.YtebpggfccljagaaGreatDoorRows
import Derived.Test.YtebpggfccljagaaGreatDoorC1
import Derived.WalkKit
import Derived.ProofKit
import Derived.OpenShut
import Derived.Carry
import Derived.JoinedCond
import Derived.Test.YtebpggfccljagaaGreatDoorC11
import Derived.Test.YtebpggfccljagaaGreatDoorCards
import Derived.Test.YtebpggfccljagaaGreatDoorTie
import Derived.Deep.DeepHandedRow
import Derived.Deep.Slices
import Derived.Lib.LaidTab
import Derived.ChangeSlices
import Derived.LaidSub
import Derived.MakeChecks
import Derived.ChangeMaps
import Derived.Shelf.Vars
import Derived.ChangeMaps5
import Derived.BigQuiet
import Derived.Deep.RegionHeld3
/- The frame of a law's row: what came in reads as it did. -/
namespace Go.Proofs.YtebpggfccljagaaGreatDoor
open Go.ChangeShapes Go.WideShapes Go.ChangeAt Go.RowKit

theorem own : ownKnob Tryz.prog.godebug = none := by kernel_rfl

theorem trodAll_keep {H : Type} {enc : TypeId × Value → H} {P : Program} (hl : laidOutB P = true) {W W' : World} (hb : Below W.heap.size W W') {sp : Nat → Bool} :
    ∀ (ts : List TypeId) (vs : List Value) (ds : List (DataW H)) (ps : List MemPlace), DataW.TrodAll enc P W 0 (fun _ => true) true ts vs ds ps → (∀ t ∈ ts, P.readableRec t = true ∧ t < P.types.size) →
      (∀ x ∈ ps, x.block < W.heap.size) → (∀ x ∈ ps, sp x.block = true) → DataW.TrodAll enc P W' 0 sp true ts vs ds ps
  | [], vs, ds, ps, h, _, _, _ => by
    obtain ⟨rfl, rfl, rfl⟩ := trodAll_nil h
    exact trodAll_mk0
  | t :: ts, vs, ds, ps, h, ht, hlt, hsp => by
    obtain ⟨v, vs', d, ds', p, q, rfl, rfl, rfl, h0, h1⟩ := trodAll_cons h
    refine trodAll_cons_mk ?_ (trodAll_keep hl hb ts vs' ds' q h1 (fun t' h' => ht t' (List.mem_cons_of_mem _ h')) (fun x hx => hlt x (List.mem_append_right _ hx)) (fun x hx => hsp x (List.mem_append_right _ hx)))
    obtain ⟨hr, hrow⟩ := ht t List.mem_cons_self
    exact WideElems.Trod_stays hl hr hrow h0 (fun x hx => hb.same (hlt x (List.mem_append_left _ hx))) (fun x hx => hsp x (List.mem_append_left _ hx))

theorem laidOut : laidOutB Tryz.prog = true := by kernel_rfl

set_option maxRecDepth 100000 in
/-- the post of a law that has returned true and written nothing that was there -/
theorem law_post {H : Type} {enc : TypeId × Value → H} {f : Func} {s : ChangeSpec} {W W' : World} {args : Array Value} {ds gs : List (DataW H)} {before : List MemPlace} {bt : TypeId}
    (hW : DataW.Whole enc Tryz.prog f.params.toList s.vars false W args.toList ds gs before) (hb : Below W.heap.size W W') (hv : s.vars = []) (hrt : f.resultTypes = #[bt]) (hbt : Tryz.prog.underlying bt = some .bool)
    (hpar : ∀ t ∈ f.params.toList, Tryz.prog.readableRec t = true ∧ t < Tryz.prog.types.size)
    (hres : (s.fn H (ds ++ gs)).results = [.lit (.bool true)]) (hargs : (s.fn H (ds ++ gs)).args = ds) (hvs : (s.fn H (ds ++ gs)).vars = []) :
    s.post enc Tryz.prog f false true false false W args (.bool true) W' := by
  have hlt : ∀ p ∈ before, p.block < W.heap.size := fun p hp => hW.lt p hp
  have hW' := hW
  obtain ⟨p, q, hA, hV, rfl, hfz, hnd⟩ := hW
  have hq : q = [] := by
    rw [hv] at hV
    exact (trodVars_none hV).2
  subst hq
  refine post_of_below (pa := p) (pv := []) hW' (fun _ _ _ => ?_) (fun sp hsp => ?_) (fun sp hsp => ?_) rfl hb ?_
  · rw [hres, hrt]
    exact trodAll_cons_mk (shut_bool hbt _) trodAll_mk0
  · rw [hargs]
    exact trodAll_keep laidOut hb _ _ _ _ hA hpar (fun x hx => hlt x (List.mem_append_left _ hx)) (fun x hx => hsp x (List.mem_append_left _ hx))
  · rw [hv, hvs]
    rfl
  · exact ok_one hrt rfl (okWide_bool_mk hbt _)
end Go.Proofs.YtebpggfccljagaaGreatDoor

/- Arguments of the laws opened: statements, rows of them. -/
namespace Go.Proofs.YtebpggfccljagaaGreatDoor.Laid
open Go.ChangeShapes Go.WideShapes Go.ChangeAt Go.RowKit Go.Deep
open Wh
set_option linter.unusedSimpArgs false
set_option linter.unusedVariables false

instance : Inhabited ARow := ⟨sent⟩
theorem c3 : Tryz.prog.cellsOf 3 = 1 := by kernel_rfl
theorem c4 : Tryz.prog.cellsOf 4 = 1 := by kernel_rfl
theorem c9 : Tryz.prog.cellsOf 9 = 1 := by kernel_rfl
section
variable {H : Type} {enc : TypeId × Value → H} {w : World} {base fuel : Nat} {held : Bool}
end
end Go.Proofs.YtebpggfccljagaaGreatDoor.Laid

/- What the rows of the script's laws list, opened; a world for the witness. -/
namespace Go.Proofs.YtebpggfccljagaaGreatDoor.Laid
open Go.ChangeShapes Go.WideShapes Go.ChangeAt Go.RowKit
open Wh
set_option linter.unusedSimpArgs false
set_option linter.unusedVariables false

theorem gTab : Tryz.prog.globalNamed "internal/strconv.uint64pow10" = some 1 := by kernel_rfl
theorem gTabType : (Tryz.prog.globals[1]?).map (·.type) = some 201 := by kernel_rfl
theorem cells201 : Tryz.prog.cellsOf 201 = 20 := by kernel_rfl
theorem cells161 : Tryz.prog.cellsOf 161 = 1 := by kernel_rfl
theorem pow10_is : Rows.laid_internal_strconv_uint64pow10 (H := Unit) = Lib.tabData .u64 Lib.pow10Tab := by kernel_rfl
def L5 : List (String × DataW Unit) := [("math/bits.deBruijn32tab", Rows.laid_math_bits_deBruijn32tab), ("math/bits.deBruijn64tab", Rows.laid_math_bits_deBruijn64tab), ("internal/strconv.uint64pow10", Rows.laid_internal_strconv_uint64pow10), ("unicode/utf8.acceptRanges", Rows.laid_unicode_utf8_acceptRanges), ("unicode/utf8.first", Rows.laid_unicode_utf8_first)]
theorem gl5 {W : World} (h : laidMetH Tryz.prog L5 W) (hsh : W.ShapedOpen Tryz.prog) : Gl W.heap.size W := by
  have h1 := h.filter (fun x => x.1 == "internal/strconv.uint64pow10")
  have e : L5.filter (fun x => x.1 == "internal/strconv.uint64pow10") = [("internal/strconv.uint64pow10", Lib.tabData .u64 Lib.pow10Tab)] := by
    rw [← pow10_is]
    rfl
  rw [e, Go.MakeChecks.laidMetH_plain _ _ _ (by kernel_rfl)] at h1
  have ht : Lib.TabIs Tryz.prog W "internal/strconv.uint64pow10" .u64 Lib.pow10Tab := Lib.tabIs_of_head (rest := []) gTab gTabType Tryz.underlying201 Tryz.underlying161 cells161 cells201 h1
  exact ⟨Lib.tabBelow_of_tabIs ht, cell_of_shapedOpen_int (P := Tryz.prog) (g := 0) (t := 3) (zero := #[.int .i64 0]) hsh (of_decide_eq_true (by kernel_rfl)) (by kernel_rfl) rfl (by kernel_rfl) (by kernel_rfl) Tryz.underlying3, Nat.le_refl _⟩
def numArr (l : List Nat) : Array Value := (l.map fun (n : Nat) => Value.int .u8 (Int.ofNat n)).toArray
def tabFirst : Array Value := numArr Go.Pinned.utf8FirstZ
def rangesOf (d : DataW Unit) : List Value := match d with
  | .agg l => l.flatMap fun x => match x with
    | .agg r => r.map fun y => match y with
      | .lit (.int k n) => Value.int k n
      | _ => Value.int .u8 0
    | _ => []
  | _ => []
def tabRanges : Array Value := (rangesOf Rows.laid_unicode_utf8_acceptRanges).toArray
def tab32 : Array Value := #[0, 1, 28, 2, 29, 14, 24, 3, 30, 22, 20, 15, 25, 17, 4, 8, 31, 27, 13, 23, 21, 19, 16, 7, 26, 12, 18, 6, 11, 5, 10, 9].map (Value.int .u8)
def tab64 : Array Value := #[0, 1, 56, 2, 57, 49, 28, 3, 61, 58, 42, 50, 38, 29, 17, 4, 62, 47, 59, 36, 45, 43, 51, 22, 53, 39, 33, 30, 24, 18, 12, 5, 63, 55, 48, 27, 60, 41, 37, 16, 46, 35, 44, 21, 52, 32, 23, 11, 54, 26, 40, 15, 34, 20, 31, 10, 25, 14, 19, 9, 13, 8, 7, 6].map (Value.int .u8)
def tabPow : Array Value := ((List.range 20).map fun i => Value.int .u64 ((10 ^ i : Nat) : Int)).toArray
def put (g : Nat) (cs : Array Value) (h : Array Obj) : Array Obj := h.modify g (fun o => match o with | .cells _ t frozen => .cells cs t frozen | o => o)
noncomputable def laidWorld (os : Os) : World :=
  { World.holding Tryz.prog os ⟨#[], #[], []⟩ with heap := put 1 tabPow (put 2 tabFirst (put 3 tabRanges (put 4 tab32 (put 5 tab64 (World.holding Tryz.prog os ⟨#[], #[], []⟩).heap)))) }
end Go.Proofs.YtebpggfccljagaaGreatDoor.Laid

/- ref30.guess (printed by gen_guess.py). -/
namespace Go.Proofs.YtebpggfccljagaaGreatDoor
open Go.RowKit
open Wh
set_option linter.unusedSimpArgs false
set_option linter.unusedVariables false

def GuessOut (w : World) (l : List UInt8) (e : Ending) (w' : World) : Prop := (∃ r : ARow, e = .returned (argV r) ∧ ArgMade w' w.heap.size r ∧ GuessIs l r.2.2) ∧ Below w.heap.size w w'
/-- the result's block -/
structure GsS (w wr : World) : Prop where
  r : Blk wr w.heap.size 41 #[.int .i64 0, .string ⟨#[]⟩, .bool false, .string ⟨#[]⟩, .bool false, .string ⟨#[]⟩, .bool false, .string ⟨#[]⟩, .bool false, .string ⟨#[]⟩, .slice none 0 0, .int .i64 0]
  b : Below w.heap.size w wr
theorem GsS.new (w : World) : GsS w (w.alloc (.cells #[.int .i64 0, .string ⟨#[]⟩, .bool false, .string ⟨#[]⟩, .bool false, .string ⟨#[]⟩, .bool false, .string ⟨#[]⟩, .bool false, .string ⟨#[]⟩, .slice none 0 0, .int .i64 0] 41)) := ⟨Blk.new w 41 _, new_below _ _⟩
theorem GsS.below {w wr w' : World} (h : GsS w wr) (hb : Below wr.heap.size wr w') : GsS w w' := ⟨h.r.below hb h.r.lt, h.b.trans (hb.mono h.b.size)⟩
theorem GsS.done {w wr : World} (h : GsS w wr) (u0 u1 u2 u3 u4 u5 u6 u7 u8 u9 u10 u11 : Value) : Below w.heap.size w ((((((((((((wr.setCell ⟨w.heap.size, 0, none⟩ u0).setCell ⟨w.heap.size, 1, none⟩ u1).setCell ⟨w.heap.size, 2, none⟩ u2).setCell ⟨w.heap.size, 3, none⟩ u3).setCell ⟨w.heap.size, 4, none⟩ u4).setCell ⟨w.heap.size, 5, none⟩ u5).setCell ⟨w.heap.size, 6, none⟩ u6).setCell ⟨w.heap.size, 7, none⟩ u7).setCell ⟨w.heap.size, 8, none⟩ u8).setCell ⟨w.heap.size, 9, none⟩ u9).setCell ⟨w.heap.size, 10, none⟩ u10).setCell ⟨w.heap.size, 11, none⟩ u11) :=
  ((((((((((((h.b.setCell (p := ⟨w.heap.size, 0, none⟩) (Nat.le_refl _) u0).setCell (p := ⟨w.heap.size, 1, none⟩) (Nat.le_refl _) u1).setCell (p := ⟨w.heap.size, 2, none⟩) (Nat.le_refl _) u2).setCell (p := ⟨w.heap.size, 3, none⟩) (Nat.le_refl _) u3).setCell (p := ⟨w.heap.size, 4, none⟩) (Nat.le_refl _) u4).setCell (p := ⟨w.heap.size, 5, none⟩) (Nat.le_refl _) u5).setCell (p := ⟨w.heap.size, 6, none⟩) (Nat.le_refl _) u6).setCell (p := ⟨w.heap.size, 7, none⟩) (Nat.le_refl _) u7).setCell (p := ⟨w.heap.size, 8, none⟩) (Nat.le_refl _) u8).setCell (p := ⟨w.heap.size, 9, none⟩) (Nat.le_refl _) u9).setCell (p := ⟨w.heap.size, 10, none⟩) (Nat.le_refl _) u10).setCell (p := ⟨w.heap.size, 11, none⟩) (Nat.le_refl _) u11)
theorem GsS.own {w wr : World} {l : List Int} {v : Value} (h : GsS w wr) (ho : OwnI wr w.heap.size v l) (u0 u1 u2 u3 u4 u5 u6 u7 u8 u9 u10 u11 : Value) : OwnI ((((((((((((wr.setCell ⟨w.heap.size, 0, none⟩ u0).setCell ⟨w.heap.size, 1, none⟩ u1).setCell ⟨w.heap.size, 2, none⟩ u2).setCell ⟨w.heap.size, 3, none⟩ u3).setCell ⟨w.heap.size, 4, none⟩ u4).setCell ⟨w.heap.size, 5, none⟩ u5).setCell ⟨w.heap.size, 6, none⟩ u6).setCell ⟨w.heap.size, 7, none⟩ u7).setCell ⟨w.heap.size, 8, none⟩ u8).setCell ⟨w.heap.size, 9, none⟩ u9).setCell ⟨w.heap.size, 10, none⟩ u10).setCell ⟨w.heap.size, 11, none⟩ u11) w.heap.size v l := by
  have hg : wr.grownBy ((((((((((((wr.setCell ⟨w.heap.size, 0, none⟩ u0).setCell ⟨w.heap.size, 1, none⟩ u1).setCell ⟨w.heap.size, 2, none⟩ u2).setCell ⟨w.heap.size, 3, none⟩ u3).setCell ⟨w.heap.size, 4, none⟩ u4).setCell ⟨w.heap.size, 5, none⟩ u5).setCell ⟨w.heap.size, 6, none⟩ u6).setCell ⟨w.heap.size, 7, none⟩ u7).setCell ⟨w.heap.size, 8, none⟩ u8).setCell ⟨w.heap.size, 9, none⟩ u9).setCell ⟨w.heap.size, 10, none⟩ u10).setCell ⟨w.heap.size, 11, none⟩ u11) (some w.heap.size) := (only_setCell (p := ⟨w.heap.size, 11, none⟩) ((only_setCell (p := ⟨w.heap.size, 10, none⟩) ((only_setCell (p := ⟨w.heap.size, 9, none⟩) ((only_setCell (p := ⟨w.heap.size, 8, none⟩) ((only_setCell (p := ⟨w.heap.size, 7, none⟩) ((only_setCell (p := ⟨w.heap.size, 6, none⟩) ((only_setCell (p := ⟨w.heap.size, 5, none⟩) ((only_setCell (p := ⟨w.heap.size, 4, none⟩) ((only_setCell (p := ⟨w.heap.size, 3, none⟩) ((only_setCell (p := ⟨w.heap.size, 2, none⟩) ((only_setCell (p := ⟨w.heap.size, 1, none⟩) ((only_setCell (p := ⟨w.heap.size, 0, none⟩) (World.grownBy.refl wr (some w.heap.size)) (.inl rfl) u0)) (.inl rfl) u1)) (.inl rfl) u2)) (.inl rfl) u3)) (.inl rfl) u4)) (.inl rfl) u5)) (.inl rfl) u6)) (.inl rfl) u7)) (.inl rfl) u8)) (.inl rfl) u9)) (.inl rfl) u10)) (.inl rfl) u11)
  exact ho.grown hg (fun g hg e => own_blk_ne ho h.r (by decide) (by rw [hg]; exact e.symm))
theorem max_k {s : ByteArray} (h0 : 0 < s.size) : ∃ k : Nat, max (1 : Int) ((s.size : Int) - 1) = (k : Int) ∧ (1 : Int) ≤ (k : Int) ∧ (k : Int) ≤ (s.size : Int) ∧ Hid ((s.size = 1 ∧ k = 1) ∨ s.size = k + 1) := by
  rcases Nat.lt_or_ge 1 s.size with h | h
  · exact ⟨s.size - 1, by omega, by omega, by omega, Lib.hid (.inr (by omega))⟩
  · exact ⟨1, by omega, by omega, by omega, Lib.hid (.inl ⟨by omega, rfl⟩)⟩
theorem inf_no {s : ByteArray} (h : s.data.toList ≠ [40, 105, 110, 102, 41]) : ¬ s.toList = [40, 105, 110, 102, 41] := fun h2 => h (by rw [← ByteArray.toList_eq]; exact h2)
/-- the first byte, what lies between, the last -/
theorem mid_list {s : ByteArray} {k : Nat} {b : UInt8} (h0 : 0 < s.size) (hc : s[0] = b) (hk : (s.size = 1 ∧ k = 1) ∨ s.size = k + 1) (h1 : (1 : Int) ≤ (k : Int)) : (s.data.toList = [b] ∧ (s.extract 1 k).data.toList = []) ∨ (∃ e, s.data.toList = b :: ((s.extract 1 k).data.toList ++ [e])) := by
  have hl : s.data.toList.length = s.size := by simp
  rcases hk with ⟨h, rfl⟩ | h
  · refine .inl ⟨?_, ?_⟩
    · have e := head_bytes h0 hc
      rw [e]
      congr 1
      rw [(drop_bytes s 1 (by omega)).1]
      exact List.drop_of_length_le (by omega)
    · rw [ext_bs s 1 1 (Nat.le_refl _) (by omega)]
      simp
  · have hkl : k < s.data.toList.length := by omega
    exact .inr ⟨s.data.toList[k], ends_list h (by omega) (List.getElem?_eq_getElem hkl) h0 hc⟩
theorem gp_not {l t : List UInt8} (hl : l = [40] ∧ t = [] ∨ ∃ e, l = 40 :: (t ++ [e])) (hi : l ≠ [40, 105, 110, 102, 41]) (h : ∀ a b c d, MayZ a b → MayZ c d → t ≠ txtF a b ++ 44 :: txtF c d) : ArgNot l := by
  rcases hl with ⟨rfl, _⟩ | ⟨e, rfl⟩
  · exact paren_end (fun q hq => by have := congrArg List.length hq; simp at this)
  · intro y hy he
    rcases head_paren hy he with ⟨a, b, c, d, rfl, h1, h2, hr⟩ | ⟨rfl, hr⟩
    · have h3 : t ++ [e] = (txtF a b ++ 44 :: txtF c d) ++ [41] := by rw [hr]; simp
      exact h a b c d h1 h2 (List.append_inj_left' h3 rfl)
    · exact hi (by rw [hr])
theorem two_parts {a b c d : Int} : parts 44 (txtF a b ++ 44 :: txtF c d) = [txtF a b, txtF c d] := by rw [parts_at (comma_no a b), parts_none (comma_no c d)]
theorem gp_is {l t p q : List UInt8} {a b c d : Int} (hl : l = [40] ∧ t = [] ∨ ∃ e, l = 40 :: (t ++ [e])) (hi : l ≠ [40, 105, 110, 102, 41]) (ht : parts 44 t = [p, q]) (h1 : p = txtF a b) (h2 : q = txtF c d) : GuessIs l (numP a b c d) := by
  rcases hl with ⟨rfl, rfl⟩ | ⟨e, rfl⟩
  · rw [show parts 44 ([] : List UInt8) = [[]] from rfl] at ht
    cases ht
  · intro y hy he
    rcases head_paren hy he with ⟨a', b', c', d', rfl, _, _, hr⟩ | ⟨rfl, hr⟩
    · have h3 : t ++ [e] = (txtF a' b' ++ 44 :: txtF c' d') ++ [41] := by rw [hr]; simp
      rw [List.append_inj_left' h3 rfl, two_parts] at ht
      injection ht with e1 e2
      injection e2 with e2 _
      obtain ⟨rfl, rfl⟩ := txtF_inj (e1.trans h1)
      obtain ⟨rfl, rfl⟩ := txtF_inj (e2.trans h2)
      rfl
    · exact absurd (by rw [hr]) hi
theorem gb_is {l t : List UInt8} (hl : l = [91] ∧ t = [] ∨ ∃ e, l = 91 :: (t ++ [e])) : GuessIs l (wordP (if t = [] then [] else (cutB t 46).map numB)) := by
  rcases hl with ⟨rfl, _⟩ | ⟨e, rfl⟩
  · exact (brack_end (fun q hq => by have := congrArg List.length hq; simp at this)).guess _
  · intro y hy he
    obtain ⟨wd, rfl, ha, hl, hr⟩ := head_brack hy he
    have h3 : t = wtx wd := List.append_inj_left' hr rfl
    by_cases ht : t = []
    · rw [if_pos ht]
      by_cases hw : wd = []
      · rw [hw]
      · exact absurd (h3.symm.trans ht) (wtx_ne hw)
    · rw [if_neg ht, cutB_parts, h3, wtx_parts (fun e => ht (by rw [h3, e]; rfl)), List.map_map]
      congr 1
      have hf : ∀ l : List Int, (∀ k ∈ l, -9999999999 ≤ k ∧ k ≤ 9999999999) → l = l.map (numB ∘ Lib.itoa) := by
        intro l
        induction l with
        | nil => intro _; rfl
        | cons k r ih =>
          intro h
          rw [List.map_cons, ← ih fun x hx => h x (List.mem_cons_of_mem _ hx)]
          congr 1
          obtain ⟨h1, h2⟩ := h k List.mem_cons_self
          exact (numB_itoa (itoa_small h1 h2)).symm
      refine hf wd fun k hk => ?_
      have h2 := of_decide_eq_true (List.all_eq_true.1 ha k hk)
      omega
theorem gh_is {q : List UInt8} : GuessIs (35 :: q) (countP (numB q)) := fun y hy he => by
  obtain ⟨ct, rfl, h1, h2, hr⟩ := head_hash hy he
  rw [hr, numB_itoa (itoa_small (by omega) (by omega))]
theorem none_made {w : World} {B : Nat} : ArgMade w B (none, 0, noneP) := ArgMade.plain rfl (by decide) (by decide) (by decide)
theorem numB_bound (l : List UInt8) : -9223372036854775808 ≤ numB l ∧ numB l ≤ 9223372036854775807 := by
  have h := numTo_z l (i := min l.length 12) (Nat.min_le_right _ _)
  unfold numB
  split <;> omega
theorem pieces_44 (s : ByteArray) (hs : s.size ≤ 6000) (w : World) : Calls Tryz.prog 39 #[.string s, .int .u8 44] w (fun e w' => ∃ A n c, e = .returned (.slice A n c) ∧ OwnS w' w.heap.size (.slice A n c) (cutB s.data.toList 44) ∧ Below w.heap.size w w') := pieces_any s (by omega) 44
theorem pieces_46 (s : ByteArray) (hs : s.size ≤ 6000) (w : World) : Calls Tryz.prog 39 #[.string s, .int .u8 46] w (fun e w' => ∃ A n c, e = .returned (.slice A n c) ∧ OwnS w' w.heap.size (.slice A n c) (cutB s.data.toList 46) ∧ Below w.heap.size w w') := pieces_any s (by omega) 46
theorem rfread_yes {W : World} {s : ByteArray} (hs : s.size ≤ 6000) {a b : Int} (he : s.data.toList = txtF a b) (hm : MayZ a b) :
    Calls Tryz.prog 69 #[.string s] W (fun e w' => e = .returned (.tuple #[encF a b, .int .i64 0]) ∧ Below W.heap.size W w') := by
  refine (rfread_any hs).mono ?_
  rintro e w' ⟨h, hb⟩
  refine ⟨?_, hb⟩
  rcases h with ⟨a', b', h1, _, h2⟩ | ⟨_, h2⟩
  · obtain ⟨rfl, rfl⟩ := txtF_inj (he.symm.trans h2)
    exact h1
  · exact absurd he (h2 a b hm)
theorem rfread_no {W : World} {s : ByteArray} (hs : s.size ≤ 6000) (hn : ∀ a b, MayZ a b → s.data.toList ≠ txtF a b) :
    Calls Tryz.prog 69 #[.string s] W (fun e w' => e = .returned (.tuple #[.agg #[.bool false, .string ⟨#[]⟩, .bool false, .string ⟨#[]⟩], .int .i64 130]) ∧ Below W.heap.size W w') := by
  refine (rfread_any hs).mono ?_
  rintro e w' ⟨h, hb⟩
  refine ⟨?_, hb⟩
  rcases h with ⟨a', b', _, h1, h2⟩ | ⟨h1, _⟩
  · exact absurd h2 (hn a' b' h1)
  · exact h1
theorem rfread_some {s : ByteArray} (hs : s.size ≤ 6000) : ∃ (x0 : Bool) (t0 : ByteArray) (x1 : Bool) (t1 : ByteArray) (z : Int), (∀ W, Calls Tryz.prog 69 #[.string s] W (fun e w' => e = .returned (.tuple #[.agg #[.bool x0, .string t0, .bool x1, .string t1], .int .i64 z]) ∧ Below W.heap.size W w')) ∧
    ((z = 0 ∧ ∃ a b, MayZ a b ∧ s.data.toList = txtF a b ∧ encF a b = .agg #[.bool x0, .string t0, .bool x1, .string t1]) ∨ (z = 130 ∧ ∀ a b, MayZ a b → s.data.toList ≠ txtF a b)) := by
  rcases Classical.em (∃ a b, MayZ a b ∧ s.data.toList = txtF a b) with ⟨a, b, h1, h2⟩ | h
  · exact ⟨_, _, _, _, 0, fun W => rfread_yes hs h2 h1, .inl ⟨rfl, a, b, h1, h2, rfl⟩⟩
  · have hn : ∀ a b, MayZ a b → s.data.toList ≠ txtF a b := fun a b h1 h2 => h ⟨a, b, h1, h2⟩
    exact ⟨_, _, _, _, 130, fun W => rfread_no hs hn, .inr ⟨rfl, hn⟩⟩
set_option maxRecDepth 100000 in
set_option maxHeartbeats 4000000 in
theorem guess_inf {w : World} : Calls Tryz.prog 40 #[.string ⟨#[40, 105, 110, 102, 41]⟩] w (GuessOut w [40, 105, 110, 102, 41]) := by
  have hb := GsS.new w
  go_enter Tryz.func40, Tryz.ntmps40
  go_wp2_with fail
  refine bodyPost_ret (v := argV (none, 0, infP)) (by simp [results, Tryz.results40, go_sem, argV, infP]) rfl ?_
  exact ⟨⟨(none, 0, infP), rfl, ArgMade.plain rfl (by decide) (by decide) (by decide), is_inf.2⟩, new_below _ _⟩
set_option maxRecDepth 100000 in
set_option maxHeartbeats 4000000 in
theorem guess_nil {w : World} : Calls Tryz.prog 40 #[.string ⟨#[]⟩] w (GuessOut w []) := by
  have hb := GsS.new w
  go_enter Tryz.func40, Tryz.ntmps40
  go_wp2_with fail
  refine bodyPost_ret (v := argV (none, 0, noneP)) (by simp [results, Tryz.results40, go_sem, argV, noneP]) rfl ?_
  exact ⟨⟨(none, 0, noneP), rfl, none_made, not_nil.guess _⟩, new_below _ _⟩
set_option maxRecDepth 100000 in
set_option maxHeartbeats 4000000 in
theorem guess_name {w : World} {s : ByteArray} (hs : s.size ≤ 6000) (h0 : 0 < s.size) (hni : s.data.toList ≠ [40, 105, 110, 102, 41]) {b : UInt8} (hc : s[0] = b) (h1 : b ≠ 40) (h2 : b ≠ 91) (h3 : b ≠ 35) : Calls Tryz.prog 40 #[.string s] w (GuessOut w s.data.toList) := by
  have hne := str_facts h0
  have hi : (0 : Int) < (s.size : Int) := by omega
  have hi1 : (1 : Int) ≤ (s.size : Int) := by omega
  have hi6 : (s.size : Int) ≤ 6000 := by omega
  have hnd := inf_no hni
  have hnb : (s.toList == [40, 105, 110, 102, 41]) = false := by simpa using hnd
  have H0 := Lib.hid (GsS.new w)
  obtain ⟨k, hmx, hk1, hk2, Hk⟩ := max_k h0
  have hb256 : b.toNat < 256 := b.toNat_lt
  have n1 : ((b.toNat : Int) == 40) = false := by
    refine beq_eq_false_iff_ne.2 fun h => h1 (UInt8.toNat_inj.1 ?_)
    show b.toNat = 40; omega
  have n2 : ((b.toNat : Int) == 91) = false := by
    refine beq_eq_false_iff_ne.2 fun h => h2 (UInt8.toNat_inj.1 ?_)
    show b.toNat = 91; omega
  have n3 : ((b.toNat : Int) == 35) = false := by
    refine beq_eq_false_iff_ne.2 fun h => h3 (UInt8.toNat_inj.1 ?_)
    show b.toNat = 35; omega
  have Hfin := Lib.hid (And.intro hs (show GuessIs s.data.toList (nameP s) from (is_name (head_bytes h0 hc) h1 h2 h3).2))
  clear hs hni h1 h2 h3
  go_enter Tryz.func40, Tryz.ntmps40
  go_wp2_with fail
  refine bodyPost_ret (v := argV (none, 0, nameP s)) (by simp [results, Tryz.results40, go_sem, argV, nameP]) rfl ?_
  exact ⟨⟨(none, 0, nameP s), rfl, ArgMade.plain rfl ⟨by show (-9223372036854775808 : Int) ≤ 1; decide, by show (1 : Int) ≤ 9223372036854775807; decide⟩ ⟨by show (-9223372036854775808 : Int) ≤ 0; decide, by show (0 : Int) ≤ 9223372036854775807; decide⟩ (Nat.le_trans Hfin.out.1 (by decide)), Hfin.out.2⟩, new_below _ _⟩
set_option maxRecDepth 100000 in
set_option maxHeartbeats 4000000 in
theorem guess_hash {w : World} {s : ByteArray} (hs : s.size ≤ 6000) (h0 : 0 < s.size) (hni : s.data.toList ≠ [40, 105, 110, 102, 41]) (hc : s[0] = 35) : Calls Tryz.prog 40 #[.string s] w (GuessOut w s.data.toList) := by
  have hne := str_facts h0
  have hi : (0 : Int) < (s.size : Int) := by omega
  have hi1 : (1 : Int) ≤ (s.size : Int) := by omega
  have hi6 : (s.size : Int) ≤ 6000 := by omega
  have hnd := inf_no hni
  have hnb : (s.toList == [40, 105, 110, 102, 41]) = false := by simpa using hnd
  have H0 := Lib.hid (GsS.new w)
  obtain ⟨k, hmx, hk1, hk2, Hk⟩ := max_k h0
  have HG := Lib.hid (show GuessIs s.data.toList (countP (numB (s.extract 1 s.size).data.toList)) by rw [head_bytes h0 hc]; exact gh_is)
  have HN := Lib.hid (fun W => rnum_any (w := W) (s.extract 1 s.size) (by rw [ByteArray.size_extract]; omega))
  have Hb := Lib.hid (numB_bound (s.extract 1 s.size).data.toList)
  generalize numB (s.extract 1 s.size).data.toList = z at *
  clear hs hni
  go_enter Tryz.func40, Tryz.ntmps40
  go_wp2_with (go_at_call 70; (with_reducible refine (HN.out _).mono ?_); rintro _ _ ⟨rfl, rfl⟩)
  refine bodyPost_ret (v := argV (none, 0, countP z)) (by simp [results, Tryz.results40, go_sem, argV, countP]) rfl ?_
  exact ⟨⟨(none, 0, countP z), rfl, count_made Hb.out.1 Hb.out.2, HG.out⟩, new_below _ _⟩
set_option maxRecDepth 100000 in
set_option maxHeartbeats 4000000 in
theorem guess_paren {w : World} {s : ByteArray} (hs : s.size ≤ 6000) (h0 : 0 < s.size) (hni : s.data.toList ≠ [40, 105, 110, 102, 41]) (hc : s[0] = 40) : Calls Tryz.prog 40 #[.string s] w (GuessOut w s.data.toList) := by
  have hne := str_facts h0
  have hi : (0 : Int) < (s.size : Int) := by omega
  have hi1 : (1 : Int) ≤ (s.size : Int) := by omega
  have hi6 : (s.size : Int) ≤ 6000 := by omega
  have hnd := inf_no hni
  have hnb : (s.toList == [40, 105, 110, 102, 41]) = false := by simpa using hnd
  have H0 := Lib.hid (GsS.new w)
  obtain ⟨k, hmx, hk1, hk2, Hk⟩ := max_k h0
  have hml := mid_list h0 hc Hk.out hk1
  have HT := Lib.hid (show (s.extract 1 k).size ≤ 6000 by rw [ByteArray.size_extract]; omega)
  have HC := Lib.hid (fun W => pieces_44 (s.extract 1 k) HT.out W)
  have HM := Lib.hid (And.intro hml hni)
  have HP := Lib.hid (cutB_parts (s.extract 1 k).data.toList 44)
  have HLen : Hid (∀ p ∈ cutB (s.extract 1 k).data.toList 44, p.length ≤ 6000) := Lib.hid fun p hp => by
    rw [cutB_parts] at hp
    have h1 := mem_join_len (c := 44) (l := parts 44 (s.extract 1 k).data.toList) p hp
    rw [join_parts] at h1
    have h2 : (s.extract 1 k).data.toList.length = (s.extract 1 k).size := Array.length_toList
    have := HT.out
    omega
  generalize cutB (s.extract 1 k).data.toList 44 = L at *
  clear hs hni hml
  rcases Classical.em (∃ p q, L = [p, q]) with ⟨p, q, rfl⟩ | hno
  · obtain ⟨x0, t0, x1, t1, z, hF1, hz⟩ := rfread_some (s := ⟨p.toArray⟩) (by show p.toArray.size ≤ 6000; rw [List.size_toArray]; exact HLen.out p (by simp))
    obtain ⟨y0, u0, y1, u1, z2, hF2, hz2⟩ := rfread_some (s := ⟨q.toArray⟩) (by show q.toArray.size ≤ 6000; rw [List.size_toArray]; exact HLen.out q (by simp))
    have HF1 := Lib.hid hF1
    have HF2 := Lib.hid hF2
    clear hF1 hF2
    rcases hz with ⟨rfl, a, b, ha, hpt, hV⟩ | ⟨rfl, hbad⟩
    · rcases hz2 with ⟨rfl, c', d, hc2, hqt, hV2⟩ | ⟨rfl, hbad⟩
      · have Hin := Lib.hid (gp_is HM.out.1 HM.out.2 HP.out.symm hpt hqt)
        have Hval := Lib.hid (show argV (none, 0, numP a b c' d) = .agg #[.int .i64 2, .string ⟨#[]⟩, .bool x0, .string t0, .bool x1, .string t1, .bool y0, .string u0, .bool y1, .string u1, .slice none 0 0, .int .i64 0] by
          unfold encF at hV hV2
          simp only [Value.agg.injEq, Array.mk.injEq, List.cons.injEq, Value.bool.injEq, Value.string.injEq, and_true] at hV hV2
          obtain ⟨g1, g2, g3, g4⟩ := hV
          obtain ⟨g5, g6, g7, g8⟩ := hV2
          unfold argV numP
          simp only [g1, g2, g3, g4, g5, g6, g7, g8]
          rfl)
        clear hpt hqt hV hV2 ha hc2
        go_enter Tryz.func40, Tryz.ntmps40
        go_wp2_with (first | (go_at_call 39; (with_reducible refine (HC.out _).mono ?_); rintro _ W1 ⟨A, n, c, rfl, ho1, hb1⟩; obtain rfl : n = 2 := (by obtain ⟨A', c', e, _⟩ := ho1.form; injection e); have HA1 := Lib.hid (H0.out.below hb1); obtain ⟨g, cap, hgv, _, _⟩ := World.ownsRow.form (show W1.ownsRow _ 9 1 _ _ _ from ho1) (by simp); injection hgv with hg1 _ _; subst hg1; have p0 := ho1.get (i := 0) (by simp); have p1 := ho1.get (i := 1) (by simp); simp only [List.getElem_cons_zero, List.getElem_cons_succ] at p0 p1; have P1 := Lib.hid p1; have hgl := block_lt_of_cell p0) | (go_at_call 69; (with_reducible refine (HF1.out _).mono ?_); rintro _ W2 ⟨rfl, hb2⟩; have HA2 := Lib.hid ((HA1.out.below hb2).below (new_below _ (.cells #[.bool x0, .string t0, .bool x1, .string t1] 36))); have HX2 := Lib.hid (Blk.new W2 36 #[.bool x0, .string t0, .bool x1, .string t1]); have p1 := (((hb2.alloc hb2.size (.cells #[.bool x0, .string t0, .bool x1, .string t1] 36)).cell (p := ⟨g, 1, none⟩) (by exact hgl))).trans P1.out) | (go_at_call 69; (with_reducible refine (HF2.out _).mono ?_); rintro _ W3 ⟨rfl, hb3⟩; have HA3 := Lib.hid ((HA2.out.below hb3).below (new_below _ (.cells #[.bool y0, .string u0, .bool y1, .string u1] 36))); have HX3 := Lib.hid ((HX2.out.below hb3 HX2.out.lt).alloc (.cells #[.bool y0, .string u0, .bool y1, .string u1] 36)); have HY3 := Lib.hid (Blk.new W3 36 #[.bool y0, .string u0, .bool y1, .string u1]); have d0 := HX3.out.cell 0; have d1 := HX3.out.cell 1; have d2 := HX3.out.cell 2; have d3 := HX3.out.cell 3; have e0 := HY3.out.cell 0; have e1 := HY3.out.cell 1; have e2 := HY3.out.cell 2; have e3 := HY3.out.cell 3; have c0 := HA3.out.r.cell 0; have c1 := HA3.out.r.cell 1; have c2 := HA3.out.r.cell 2; have c3 := HA3.out.r.cell 3; have c4 := HA3.out.r.cell 4; have c5 := HA3.out.r.cell 5; have c6 := HA3.out.r.cell 6; have c7 := HA3.out.r.cell 7; have c8 := HA3.out.r.cell 8; have c9 := HA3.out.r.cell 9; have c10 := HA3.out.r.cell 10; have c11 := HA3.out.r.cell 11; have f0 := HA3.out.r.frozen 0; have f1 := HA3.out.r.frozen 1; have f2 := HA3.out.r.frozen 2; have f3 := HA3.out.r.frozen 3; have f4 := HA3.out.r.frozen 4; have f5 := HA3.out.r.frozen 5; have f6 := HA3.out.r.frozen 6; have f7 := HA3.out.r.frozen 7; have f8 := HA3.out.r.frozen 8; have f9 := HA3.out.r.frozen 9; have f10 := HA3.out.r.frozen 10; have f11 := HA3.out.r.frozen 11))
        refine bodyPost_ret (v := .agg #[.int .i64 2, .string ⟨#[]⟩, .bool x0, .string t0, .bool x1, .string t1, .bool y0, .string u0, .bool y1, .string u1, .slice none 0 0, .int .i64 0]) (by simp [results, Tryz.results40, go_sem, c0, c1, c2, c3, c4, c5, c6, c7, c8, c9, c10, c11]) rfl ?_
        exact ⟨⟨(none, 0, numP a b c' d), by rw [Hval.out], num_made a b c' d, Hin.out⟩, HA3.out.done _ _ _ _ _ _ _ _ _ _ _ _⟩
      · have Hno := Lib.hid (gp_not HM.out.1 HM.out.2 fun a b c' d h1 h2 ht => by
          have h3 := HP.out
          rw [ht, two_parts] at h3
          injection h3 with _ h3
          injection h3 with h3 _
          exact hbad c' d h2 h3)
        clear hbad hV hpt ha
        go_enter Tryz.func40, Tryz.ntmps40
        go_wp2_with (first | (go_at_call 39; (with_reducible refine (HC.out _).mono ?_); rintro _ W1 ⟨A, n, c, rfl, ho1, hb1⟩; obtain rfl : n = 2 := (by obtain ⟨A', c', e, _⟩ := ho1.form; injection e); have HA1 := Lib.hid (H0.out.below hb1); obtain ⟨g, cap, hgv, _, _⟩ := World.ownsRow.form (show W1.ownsRow _ 9 1 _ _ _ from ho1) (by simp); injection hgv with hg1 _ _; subst hg1; have p0 := ho1.get (i := 0) (by simp); have p1 := ho1.get (i := 1) (by simp); simp only [List.getElem_cons_zero, List.getElem_cons_succ] at p0 p1; have P1 := Lib.hid p1; have hgl := block_lt_of_cell p0) | (go_at_call 69; (with_reducible refine (HF1.out _).mono ?_); rintro _ W2 ⟨rfl, hb2⟩; have HA2 := Lib.hid ((HA1.out.below hb2).below (new_below _ (.cells #[.bool x0, .string t0, .bool x1, .string t1] 36))); have HX2 := Lib.hid (Blk.new W2 36 #[.bool x0, .string t0, .bool x1, .string t1]); have p1 := (((hb2.alloc hb2.size (.cells #[.bool x0, .string t0, .bool x1, .string t1] 36)).cell (p := ⟨g, 1, none⟩) (by exact hgl))).trans P1.out) | (go_at_call 69; (with_reducible refine (HF2.out _).mono ?_); rintro _ W3 ⟨rfl, hb3⟩; have HA3 := Lib.hid ((HA2.out.below hb3).below (new_below _ (.cells #[.bool y0, .string u0, .bool y1, .string u1] 36))); have HX3 := Lib.hid ((HX2.out.below hb3 HX2.out.lt).alloc (.cells #[.bool y0, .string u0, .bool y1, .string u1] 36)); have HY3 := Lib.hid (Blk.new W3 36 #[.bool y0, .string u0, .bool y1, .string u1]); have d0 := HX3.out.cell 0; have d1 := HX3.out.cell 1; have d2 := HX3.out.cell 2; have d3 := HX3.out.cell 3; have e0 := HY3.out.cell 0; have e1 := HY3.out.cell 1; have e2 := HY3.out.cell 2; have e3 := HY3.out.cell 3; have c0 := HA3.out.r.cell 0; have c1 := HA3.out.r.cell 1; have c2 := HA3.out.r.cell 2; have c3 := HA3.out.r.cell 3; have c4 := HA3.out.r.cell 4; have c5 := HA3.out.r.cell 5; have c6 := HA3.out.r.cell 6; have c7 := HA3.out.r.cell 7; have c8 := HA3.out.r.cell 8; have c9 := HA3.out.r.cell 9; have c10 := HA3.out.r.cell 10; have c11 := HA3.out.r.cell 11; have f0 := HA3.out.r.frozen 0; have f1 := HA3.out.r.frozen 1; have f2 := HA3.out.r.frozen 2; have f3 := HA3.out.r.frozen 3; have f4 := HA3.out.r.frozen 4; have f5 := HA3.out.r.frozen 5; have f6 := HA3.out.r.frozen 6; have f7 := HA3.out.r.frozen 7; have f8 := HA3.out.r.frozen 8; have f9 := HA3.out.r.frozen 9; have f10 := HA3.out.r.frozen 10; have f11 := HA3.out.r.frozen 11))
        refine bodyPost_ret (v := argV (none, 0, noneP)) (by simp [results, Tryz.results40, go_sem, argV, noneP, c0, c1, c2, c3, c4, c5, c6, c7, c8, c9, c10, c11]) rfl ?_
        exact ⟨⟨(none, 0, noneP), rfl, none_made, Hno.out.guess _⟩, HA3.out.done _ _ _ _ _ _ _ _ _ _ _ _⟩
    · have Hno := Lib.hid (gp_not HM.out.1 HM.out.2 fun a b c' d h1 h2 ht => by
        have h3 := HP.out
        rw [ht, two_parts] at h3
        injection h3 with h3 _
        exact hbad a b h1 h3)
      clear hbad hz2
      go_enter Tryz.func40, Tryz.ntmps40
      go_wp2_with (first | (go_at_call 39; (with_reducible refine (HC.out _).mono ?_); rintro _ W1 ⟨A, n, c, rfl, ho1, hb1⟩; obtain rfl : n = 2 := (by obtain ⟨A', c', e, _⟩ := ho1.form; injection e); have HA1 := Lib.hid (H0.out.below hb1); obtain ⟨g, cap, hgv, _, _⟩ := World.ownsRow.form (show W1.ownsRow _ 9 1 _ _ _ from ho1) (by simp); injection hgv with hg1 _ _; subst hg1; have p0 := ho1.get (i := 0) (by simp); have p1 := ho1.get (i := 1) (by simp); simp only [List.getElem_cons_zero, List.getElem_cons_succ] at p0 p1; have P1 := Lib.hid p1; have hgl := block_lt_of_cell p0) | (go_at_call 69; (with_reducible refine (HF1.out _).mono ?_); rintro _ W2 ⟨rfl, hb2⟩; have HA2 := Lib.hid ((HA1.out.below hb2).below (new_below _ (.cells #[.bool x0, .string t0, .bool x1, .string t1] 36))); have HX2 := Lib.hid (Blk.new W2 36 #[.bool x0, .string t0, .bool x1, .string t1]); have p1 := (((hb2.alloc hb2.size (.cells #[.bool x0, .string t0, .bool x1, .string t1] 36)).cell (p := ⟨g, 1, none⟩) (by exact hgl))).trans P1.out) | (go_at_call 69; (with_reducible refine (HF2.out _).mono ?_); rintro _ W3 ⟨rfl, hb3⟩; have HA3 := Lib.hid ((HA2.out.below hb3).below (new_below _ (.cells #[.bool y0, .string u0, .bool y1, .string u1] 36))); have HX3 := Lib.hid ((HX2.out.below hb3 HX2.out.lt).alloc (.cells #[.bool y0, .string u0, .bool y1, .string u1] 36)); have HY3 := Lib.hid (Blk.new W3 36 #[.bool y0, .string u0, .bool y1, .string u1]); have d0 := HX3.out.cell 0; have d1 := HX3.out.cell 1; have d2 := HX3.out.cell 2; have d3 := HX3.out.cell 3; have e0 := HY3.out.cell 0; have e1 := HY3.out.cell 1; have e2 := HY3.out.cell 2; have e3 := HY3.out.cell 3; have c0 := HA3.out.r.cell 0; have c1 := HA3.out.r.cell 1; have c2 := HA3.out.r.cell 2; have c3 := HA3.out.r.cell 3; have c4 := HA3.out.r.cell 4; have c5 := HA3.out.r.cell 5; have c6 := HA3.out.r.cell 6; have c7 := HA3.out.r.cell 7; have c8 := HA3.out.r.cell 8; have c9 := HA3.out.r.cell 9; have c10 := HA3.out.r.cell 10; have c11 := HA3.out.r.cell 11; have f0 := HA3.out.r.frozen 0; have f1 := HA3.out.r.frozen 1; have f2 := HA3.out.r.frozen 2; have f3 := HA3.out.r.frozen 3; have f4 := HA3.out.r.frozen 4; have f5 := HA3.out.r.frozen 5; have f6 := HA3.out.r.frozen 6; have f7 := HA3.out.r.frozen 7; have f8 := HA3.out.r.frozen 8; have f9 := HA3.out.r.frozen 9; have f10 := HA3.out.r.frozen 10; have f11 := HA3.out.r.frozen 11))
      refine bodyPost_ret (v := argV (none, 0, noneP)) (by simp [results, Tryz.results40, go_sem, argV, noneP, c0, c1, c2, c3, c4, c5, c6, c7, c8, c9, c10, c11]) rfl ?_
      exact ⟨⟨(none, 0, noneP), rfl, none_made, Hno.out.guess _⟩, HA3.out.done _ _ _ _ _ _ _ _ _ _ _ _⟩
  · have Hno := Lib.hid (gp_not HM.out.1 HM.out.2 fun a b c' d h1 h2 ht => hno ⟨_, _, by rw [HP.out, ht, two_parts]⟩)
    have hl2 : ((L.length : Int) != 2) = true := by
      refine bne_iff_ne.2 fun h => hno ?_
      have h2 : L.length = 2 := by omega
      match L, h2 with
      | [p, q], _ => exact ⟨p, q, rfl⟩
    clear hno
    go_enter Tryz.func40, Tryz.ntmps40
    go_wp2_with (go_at_call 39; (with_reducible refine (HC.out _).mono ?_); rintro _ W1 ⟨A, n, c, rfl, ho1, hb1⟩; obtain rfl : n = L.length := (by obtain ⟨A', c', e, _⟩ := ho1.form; injection e); have HA3 := Lib.hid (H0.out.below hb1); have c0 := HA3.out.r.cell 0; have c1 := HA3.out.r.cell 1; have c2 := HA3.out.r.cell 2; have c3 := HA3.out.r.cell 3; have c4 := HA3.out.r.cell 4; have c5 := HA3.out.r.cell 5; have c6 := HA3.out.r.cell 6; have c7 := HA3.out.r.cell 7; have c8 := HA3.out.r.cell 8; have c9 := HA3.out.r.cell 9; have c10 := HA3.out.r.cell 10; have c11 := HA3.out.r.cell 11; have f0 := HA3.out.r.frozen 0; have f1 := HA3.out.r.frozen 1; have f2 := HA3.out.r.frozen 2; have f3 := HA3.out.r.frozen 3; have f4 := HA3.out.r.frozen 4; have f5 := HA3.out.r.frozen 5; have f6 := HA3.out.r.frozen 6; have f7 := HA3.out.r.frozen 7; have f8 := HA3.out.r.frozen 8; have f9 := HA3.out.r.frozen 9; have f10 := HA3.out.r.frozen 10; have f11 := HA3.out.r.frozen 11)
    refine bodyPost_ret (v := argV (none, 0, noneP)) (by simp [results, Tryz.results40, go_sem, argV, noneP, c0, c1, c2, c3, c4, c5, c6, c7, c8, c9, c10, c11]) rfl ?_
    exact ⟨⟨(none, 0, noneP), rfl, none_made, Hno.out.guess _⟩, HA3.out.done _ _ _ _ _ _ _ _ _ _ _ _⟩
theorem rnum_b (s : ByteArray) (hs : s.size ≤ 9223372036854775807) (W : World) : Calls Tryz.prog 70 #[.string s] W (fun e w' => e = .returned (.int .i64 (numB s.data.toList)) ∧ Below W.heap.size W w') :=
  (rnum_any s hs).mono (by rintro _ _ ⟨rfl, rfl⟩; exact ⟨rfl, Below.refl _ _⟩)
/-- what is held while a word is guessed -/
structure BgS (w wr : World) (g cap : Nat) (A : Option Addr) (n c : Nat) (zs : List Int) (L : List (List UInt8)) : Prop where
  a : GsS w wr
  x : Blk wr (w.heap.size + 1) 41 #[.int .i64 4, .string ⟨#[]⟩, .bool false, .string ⟨#[]⟩, .bool false, .string ⟨#[]⟩, .bool false, .string ⟨#[]⟩, .bool false, .string ⟨#[]⟩, .slice A n c, .int .i64 0]
  o : OwnI wr w.heap.size (.slice A n c) zs
  p : OwnS wr (w.heap.size + 1 + 1) (.slice (some ⟨g, 0, none⟩) L.length cap) L
theorem BgS.below {w wr w' : World} {g cap : Nat} {A : Option Addr} {n c : Nat} {zs : List Int} {L : List (List UInt8)} (h : BgS w wr g cap A n c zs L) (hb : Below wr.heap.size wr w') : BgS w w' g cap A n c zs L :=
  ⟨h.a.below hb, h.x.below hb h.x.lt, h.o.kept hb, h.p.kept hb⟩
theorem BgS.app {w wr W3 : World} {g cap : Nat} {A : Option Addr} {n c : Nat} {zs ys : List Int} {L : List (List UInt8)} (h : BgS w wr g cap A n c zs L) {A' : Option Addr} {n' c' : Nat}
    (ho : OwnI W3 w.heap.size (.slice A' n' c') ys) (hg : wr.grownBy W3 (Value.slice A n c).ownBlock) : BgS w (W3.setCell ⟨w.heap.size + 1, 10, none⟩ (.slice A' n' c')) g cap A' n' c' ys L := by
  have hx3 := h.x.grown hg (fun e => own_blk_ne h.o h.x (by decide) e.symm)
  have hr3 := h.a.r.grown hg (fun e => own_blk_ne h.o h.a.r (by decide) e.symm)
  have hb3 := h.a.b.grown hg h.a.b.size (fun k hk => (h.o.lt k hk).1)
  have hp3 := h.p.grown hg (fun g hg => own_neS h.p h.o g hg)
  refine ⟨⟨hr3.far (p := ⟨w.heap.size + 1, 10, none⟩) (by show w.heap.size ≠ w.heap.size + 1; omega) _, hb3.setCell (p := ⟨w.heap.size + 1, 10, none⟩) (by show w.heap.size ≤ w.heap.size + 1; omega) _⟩, hx3.set_ 10 _, ?_, ?_⟩
  · exact ho.grown (grown_set W3 ⟨w.heap.size + 1, 10, none⟩ _) (fun g hg e => own_blk_ne ho hx3 (by decide) (by rw [hg]; exact e.symm))
  · exact ownsRow_setCell_below hp3 (by show w.heap.size + 1 < w.heap.size + 1 + 1; omega) _
theorem gword_blk {w wr : World} (h : GsS w wr) (hz : wr.heap.size = w.heap.size + 1) : GsS w (wr.alloc (.cells #[.int .i64 4, .string ⟨#[]⟩, .bool false, .string ⟨#[]⟩, .bool false, .string ⟨#[]⟩, .bool false, .string ⟨#[]⟩, .bool false, .string ⟨#[]⟩, .slice none 0 0, .int .i64 0] 41)) ∧ Blk (wr.alloc (.cells #[.int .i64 4, .string ⟨#[]⟩, .bool false, .string ⟨#[]⟩, .bool false, .string ⟨#[]⟩, .bool false, .string ⟨#[]⟩, .bool false, .string ⟨#[]⟩, .slice none 0 0, .int .i64 0] 41)) (w.heap.size + 1) 41 #[.int .i64 4, .string ⟨#[]⟩, .bool false, .string ⟨#[]⟩, .bool false, .string ⟨#[]⟩, .bool false, .string ⟨#[]⟩, .bool false, .string ⟨#[]⟩, .slice none 0 0, .int .i64 0] := by
  have hb := Blk.new wr 41 #[.int .i64 4, .string ⟨#[]⟩, .bool false, .string ⟨#[]⟩, .bool false, .string ⟨#[]⟩, .bool false, .string ⟨#[]⟩, .bool false, .string ⟨#[]⟩, .slice none 0 0, .int .i64 0]
  rw [hz] at hb
  exact ⟨h.below (new_below _ _), hb⟩
set_option maxRecDepth 100000 in
set_option maxHeartbeats 4000000 in
theorem guess_brack {w : World} {s : ByteArray} (hs : s.size ≤ 6000) (h0 : 0 < s.size) (hni : s.data.toList ≠ [40, 105, 110, 102, 41]) (hc : s[0] = 91) : Calls Tryz.prog 40 #[.string s] w (GuessOut w s.data.toList) := by
  have hne := str_facts h0
  have hi : (0 : Int) < (s.size : Int) := by omega
  have hi1 : (1 : Int) ≤ (s.size : Int) := by omega
  have hi6 : (s.size : Int) ≤ 6000 := by omega
  have hnd := inf_no hni
  have hnb : (s.toList == [40, 105, 110, 102, 41]) = false := by simpa using hnd
  have H0 := Lib.hid (GsS.new w)
  obtain ⟨k, hmx, hk1, hk2, Hk⟩ := max_k h0
  have hml := mid_list h0 hc Hk.out hk1
  have HIs := Lib.hid (gb_is hml)
  have HT := Lib.hid (show (s.extract 1 k).size ≤ 6000 by rw [ByteArray.size_extract]; omega)
  have HC := Lib.hid (fun W => pieces_46 (s.extract 1 k) HT.out W)
  have HL := Lib.hid (show (cutB (s.extract 1 k).data.toList 46).length ≤ 6001 by
    rw [cutB_parts]
    have h2 := parts_small 46 (s.extract 1 k).data.toList
    have h3 : (s.extract 1 k).data.toList.length = (s.extract 1 k).size := Array.length_toList
    have := HT.out
    omega)
  have HLen : Hid (∀ p ∈ cutB (s.extract 1 k).data.toList 46, p.length ≤ 6000) := Lib.hid fun p hp => by
    rw [cutB_parts] at hp
    have h1 := mem_join_len (c := 46) (l := parts 46 (s.extract 1 k).data.toList) p hp
    rw [join_parts] at h1
    have h2 : (s.extract 1 k).data.toList.length = (s.extract 1 k).size := Array.length_toList
    have := HT.out
    omega
  have HN1 := Lib.hid (show 0 < (cutB (s.extract 1 k).data.toList 46).length by
    rw [cutB_parts]
    obtain ⟨q, qs, h⟩ := parts_ne 46 (s.extract 1 k).data.toList
    rw [h]; simp)
  have HW := Lib.hid (gword_blk H0.out (by simp))
  generalize cutB (s.extract 1 k).data.toList 46 = L at *
  clear hs hni hml
  go_enter Tryz.func40, Tryz.ntmps40
  go_wp2_with (go_at_call 39; (with_reducible refine (HC.out _).mono ?_); rintro _ W1 ⟨A1, n1, cap, rfl, ho1, hb1⟩; have HA1 := Lib.hid (HW.out.1.below hb1); have hx1 := HW.out.2.below hb1 HW.out.2.lt)
  obtain ⟨g, cap0, hgv, _, _⟩ := World.ownsRow.form (show W1.ownsRow _ 9 1 _ _ _ from ho1) HN1.out
  injection hgv with hgA hgn hgc
  subst hgA hgn hgc
  simp only [World.size_alloc] at ho1
  have Hst := Lib.hid (show BgS w W1 g cap none 0 0 [] L from ⟨HA1.out, hx1, OwnI.nil _ _, ho1⟩)
  generalize s.extract 1 k = t at *
  by_cases hq : t = ⟨#[]⟩
  · have HIs2 := Lib.hid (show GuessIs s.data.toList (wordP []) by have h := HIs.out; rw [if_pos (by rw [hq])] at h; exact h)
    subst hq
    clear hx1 ho1 hb1 HA1 HIs
    go_loopg [11] 0 (fun k iv wr => iv = .int .i64 (0 : Int) ∧ wr = W1)
    case atStart => exact ⟨rfl, rfl⟩
    case round =>
      obtain ⟨rfl, rfl⟩ := hrel
      have hl1 : (0 : Int) < (L.length : Int) := by have := HN1.out; omega
      have d0 := Hst.out.x.cell 0
      have d1 := Hst.out.x.cell 1
      have d2 := Hst.out.x.cell 2
      have d3 := Hst.out.x.cell 3
      have d4 := Hst.out.x.cell 4
      have d5 := Hst.out.x.cell 5
      have d6 := Hst.out.x.cell 6
      have d7 := Hst.out.x.cell 7
      have d8 := Hst.out.x.cell 8
      have d9 := Hst.out.x.cell 9
      have d10 := Hst.out.x.cell 10
      have d11 := Hst.out.x.cell 11
      have g0 := Hst.out.x.frozen 0
      have g1 := Hst.out.x.frozen 1
      have g2 := Hst.out.x.frozen 2
      have g3 := Hst.out.x.frozen 3
      have g4 := Hst.out.x.frozen 4
      have g5 := Hst.out.x.frozen 5
      have g6 := Hst.out.x.frozen 6
      have g7 := Hst.out.x.frozen 7
      have g8 := Hst.out.x.frozen 8
      have g9 := Hst.out.x.frozen 9
      have g10 := Hst.out.x.frozen 10
      have g11 := Hst.out.x.frozen 11
      have c0 := Hst.out.a.r.cell 0
      have c1 := Hst.out.a.r.cell 1
      have c2 := Hst.out.a.r.cell 2
      have c3 := Hst.out.a.r.cell 3
      have c4 := Hst.out.a.r.cell 4
      have c5 := Hst.out.a.r.cell 5
      have c6 := Hst.out.a.r.cell 6
      have c7 := Hst.out.a.r.cell 7
      have c8 := Hst.out.a.r.cell 8
      have c9 := Hst.out.a.r.cell 9
      have c10 := Hst.out.a.r.cell 10
      have c11 := Hst.out.a.r.cell 11
      have f0 := Hst.out.a.r.frozen 0
      have f1 := Hst.out.a.r.frozen 1
      have f2 := Hst.out.a.r.frozen 2
      have f3 := Hst.out.a.r.frozen 3
      have f4 := Hst.out.a.r.frozen 4
      have f5 := Hst.out.a.r.frozen 5
      have f6 := Hst.out.a.r.frozen 6
      have f7 := Hst.out.a.r.frozen 7
      have f8 := Hst.out.a.r.frozen 8
      have f9 := Hst.out.a.r.frozen 9
      have f10 := Hst.out.a.r.frozen 10
      have f11 := Hst.out.a.r.frozen 11
      go_wp2_with fail
      refine bodyPost_ret (v := argV (none, 0, wordP [])) (by simp [results, Tryz.results40, go_sem, argV, wordP, c0, c1, c2, c3, c4, c5, c6, c7, c8, c9, c10, c11]) rfl ?_
      exact ⟨⟨(none, 0, wordP []), rfl, word_made (OwnI.nil _ _) (by simp), HIs2.out⟩, Hst.out.a.done _ _ _ _ _ _ _ _ _ _ _ _⟩
  have hqd : ¬ t.toList = [] := fun h => hq (tl_inj (by rw [h, ByteArray.toList_eq]))
  have hqn : (t.toList == []) = false := by simpa using hqd
  have hqe : t.toList.isEmpty = false := by simpa using hqd
  have HIs2 := Lib.hid (show GuessIs s.data.toList (wordP (L.map numB)) by
    have h := HIs.out
    rw [if_neg (fun e => hq (ByteArray.ext (Array.toList_inj.1 e)))] at h
    exact h)
  clear hx1 ho1 hb1 HA1 HIs HC HT HW H0 hq
  go_loopg [11] L.length (fun k iv wr => ∃ (i : Nat) (A : Option Addr) (n c : Nat) (zs : List Int), iv = .int .i64 (i : Int) ∧ k = L.length - i ∧ i ≤ L.length ∧ Hid (zs = (L.take i).map numB) ∧ Hid (BgS w wr g cap A n c zs L))
  case atStart => exact ⟨0, none, 0, 0, [], rfl, by omega, by omega, Lib.hid rfl, Hst⟩
  case round =>
    obtain ⟨i, A, n, c, zs, rfl, hk, hi, hz, hO⟩ := hrel
    have Hk := Lib.hid hk
    clear hk
    by_cases hin : i < L.length
    · have hii : (i : Int) < (L.length : Int) := by omega
      have hi0 : (0 : Int) ≤ (i : Int) := by omega
      have hi6 : (i : Int) ≤ 6001 := by have := HL.out; omega
      have hcp := hO.out.p.get hin
      have HP2 := Lib.hid (fun (W : World) (h : OwnS W (w.heap.size + 1 + 1) (.slice (some ⟨g, 0, none⟩) L.length cap) L) => h.get hin)
      have HpL := Lib.hid (HLen.out _ (List.getElem_mem hin))
      have Hnew := Lib.hid (show zs ++ [numB L[i]] = (L.take (i + 1)).map numB by rw [List.take_succ_eq_append_getElem hin, List.map_append, hz.out]; rfl)
      generalize L[i] = p at *
      have c10 := hO.out.x.cell 10
      have f10 := hO.out.x.frozen 10
      have HS := Lib.hid (rnum_b ⟨p.toArray⟩ (by show p.toArray.size ≤ _; rw [List.size_toArray]; have := HpL.out; omega))
      simp only at HS
      generalize numB p = z at *
      have Hlz := Lib.hid (show zs.length ≤ 1000000000 by have h1 := congrArg List.length hz.out; rw [List.length_map, List.length_take] at h1; have := HL.out; omega)
      go_wp2_with fail
      refine wp_region_noPanic ?_
      refine wp_region_HK (fun w' => w'.cell? ⟨w.heap.size + 1, 10, none⟩ = some (.slice A n c) ∧ w'.cell? ⟨g, i, none⟩ = some (.string ⟨p.toArray⟩)) 10 (by kernel_rfl) ⟨c10, hcp⟩ (fun hHeld => ?_)
      refine wpHK_take (i := 0) (oi := Oper.mk (some 74) _ _ _ _ _) (v := ?_) rfl (by kernel_rfl) (by kernel_rfl) (by kernel_rfl) (by kernel_rfl) (fun _ _ _ h => h) (Or.inl ⟨by rfl, ?_⟩) (by assumption) ?_
      rotate_left
      · (intro w' hSw; (try dsimp only at hSw); (obtain ⟨s1, s2⟩ := hSw); go_simp; try with_reducible rfl)
      try simp only [Act.put, List.setIfInBounds_toArray, List.set_cons_zero, List.set_cons_succ]
      refine wpHK_take (i := 1) (oi := Oper.mk (some 75) _ _ _ _ _) (v := ?_) rfl (by kernel_rfl) (by kernel_rfl) (by kernel_rfl) (by kernel_rfl) (fun _ _ _ h => h) (Or.inl ⟨by rfl, ?_⟩) (by assumption) ?_
      rotate_left
      · (intro w' hSw; (try dsimp only at hSw); (obtain ⟨s1, s2⟩ := hSw); go_simp; try with_reducible rfl)
      try simp only [Act.put, List.setIfInBounds_toArray, List.set_cons_zero, List.set_cons_succ]
      refine wpHK_take (i := 2) (oi := Oper.mk (some 76) _ _ _ _ _) (v := ?_) rfl (by kernel_rfl) (by kernel_rfl) (by kernel_rfl) (by kernel_rfl) (fun _ _ _ h => h) (Or.inl ⟨by rfl, ?_⟩) (by assumption) ?_
      rotate_left
      · (intro w' hSw; (try dsimp only at hSw); (obtain ⟨s1, s2⟩ := hSw); go_simp; try with_reducible rfl)
      try simp only [Act.put, List.setIfInBounds_toArray, List.set_cons_zero, List.set_cons_succ]
      refine wpHK_take (i := 3) (oi := Oper.mk (some 77) _ _ _ _ _) (v := ?_) rfl (by kernel_rfl) (by kernel_rfl) (by kernel_rfl) (by kernel_rfl) (fun _ _ _ h => h) (Or.inl ⟨by rfl, ?_⟩) (by assumption) ?_
      rotate_left
      · (intro w' hSw; (try dsimp only at hSw); (obtain ⟨s1, s2⟩ := hSw); go_simp; try with_reducible rfl)
      try simp only [Act.put, List.setIfInBounds_toArray, List.set_cons_zero, List.set_cons_succ]
      refine wpHK_take (i := 4) (oi := Oper.mk (some 78) _ _ _ _ _) (v := ?_) rfl (by kernel_rfl) (by kernel_rfl) (by kernel_rfl) (by kernel_rfl) (fun _ _ _ h => h) (Or.inl ⟨by rfl, ?_⟩) (by assumption) ?_
      rotate_left
      · (intro w' hSw; (try dsimp only at hSw); (obtain ⟨s1, s2⟩ := hSw); go_simp; try with_reducible rfl)
      try simp only [Act.put, List.setIfInBounds_toArray, List.set_cons_zero, List.set_cons_succ]
      refine wpHK_take (i := 5) (oi := Oper.mk (some 79) _ _ _ _ _) (v := ?_) rfl (by kernel_rfl) (by kernel_rfl) (by kernel_rfl) (by kernel_rfl) (fun _ _ _ h => h) (Or.inl ⟨by rfl, ?_⟩) (by assumption) ?_
      rotate_left
      · (intro w' hSw; (try dsimp only at hSw); (obtain ⟨s1, s2⟩ := hSw); go_simp; try with_reducible rfl)
      try simp only [Act.put, List.setIfInBounds_toArray, List.set_cons_zero, List.set_cons_succ]
      refine wpHK_one (j := 6) (o := Oper.mk (some 80) _ _ _ _ _) rfl (by kernel_rfl) (fun K hK => ?_)
      go_simp
      refine (HS.out _).mono ?_
      rintro _ W4 ⟨rfl, hb4⟩
      have hS4 := hO.out.below (undrew hb4)
      have hS5 := hS4.below (new_below W4 (.cells #[.int .i64 z] 3))
      refine hK.out _ _ (And.intro (hS4.x.cell 10) (HP2.out _ hS4.p)) (fun _ => ?_)
      clear hK K hHeld
      have hHeld := (And.intro (hS4.x.cell 10) (HP2.out _ hS4.p))
      try simp only [Act.put, List.setIfInBounds_toArray, List.set_cons_zero, List.set_cons_succ]
      refine wpHK_one (j := 7) (o := Oper.mk (some 81) _ _ _ _ _) rfl (by kernel_rfl) (fun K hK => ?_)
      go_simp
      refine hK.out _ _ (And.intro (hS5.x.cell 10) (HP2.out _ hS5.p)) (fun _ => ?_)
      clear hK K hHeld
      have hHeld := (And.intro (hS5.x.cell 10) (HP2.out _ hS5.p))
      try simp only [Act.put, List.setIfInBounds_toArray, List.set_cons_zero, List.set_cons_succ]
      refine wpHK_one (j := 8) (o := Oper.mk (some 82) _ _ _ _ _) rfl (by kernel_rfl) (fun K hK => ?_)
      refine stepI_append (by rfl) (.tmp 75) (.tmp 81) (by rfl) w.heap.size _ zs hS5.o (by rfl) _ _ [z] (reads_single W4 z) 1 1 rfl (by rfl) Hlz.out (by simp) hS5.a.b.size ?_
      intro A5 n5 c5 w5 ho5 hg5
      refine hK.out _ _ (And.intro ((hS5.x.grown hg5 (fun e => own_blk_ne hS5.o hS5.x (by decide) e.symm)).cell 10) (HP2.out _ (hS5.p.grown hg5 (fun g hg => own_neS hS5.p hS5.o g hg)))) (fun _ => ?_)
      clear hK K hHeld
      have hHeld := (And.intro ((hS5.x.grown hg5 (fun e => own_blk_ne hS5.o hS5.x (by decide) e.symm)).cell 10) (HP2.out _ (hS5.p.grown hg5 (fun g hg => own_neS hS5.p hS5.o g hg))))
      try simp only [Act.put, List.setIfInBounds_toArray, List.set_cons_zero, List.set_cons_succ]
      refine wpHK_take (i := 9) (oi := Oper.mk (some 83) _ _ _ _ _) (v := ?_) rfl (by kernel_rfl) (by kernel_rfl) (by kernel_rfl) (by kernel_rfl) (fun _ _ _ h => h) (Or.inl ⟨by rfl, ?_⟩) (by assumption) ?_
      rotate_left
      · (intro w' hSw; (try dsimp only at hSw); (obtain ⟨s1, s2⟩ := hSw); go_simp; try with_reducible rfl)
      try simp only [Act.put, List.setIfInBounds_toArray, List.set_cons_zero, List.set_cons_succ]
      refine wpHK_tail (j := 10) (o := Oper.mk (none) _ _ _ _ _) rfl (by kernel_rfl) (by decide) (fun K hK => ?_)
      have g10 := (hS5.x.grown hg5 (fun e => own_blk_ne hS5.o hS5.x (by decide) e.symm)).frozen 10
      go_simp
      refine hK.out _ _ ?_
      clear hK K
      try simp only [Act.put, List.setIfInBounds_toArray, List.set_cons_zero, List.set_cons_succ]
      refine wpHK_done (by kernel_rfl) ?_ _
      refine NoPanic.normal ?_
      go_wp2_with fail
      go_roundg (L.length - (i + 1))
      case measure => have := Hk.out; omega
      case rel => exact ⟨i + 1, A5, n5, c5, zs ++ [z], rfl, rfl, by omega, Hnew, Lib.hid (hS5.app ho5 hg5)⟩
    · have hii : ¬ (i : Int) < (L.length : Int) := by omega
      have hall : zs = L.map numB := by
        have h := hz.out
        rwa [List.take_of_length_le (by omega)] at h
      have Hlz := Lib.hid (show zs.length ≤ 6001 by rw [hall, List.length_map]; exact HL.out)
      have Hin := Lib.hid (show GuessIs s.data.toList (wordP zs) by rw [hall]; exact HIs2.out)
      clear hall
      have d0 := hO.out.x.cell 0
      have d1 := hO.out.x.cell 1
      have d2 := hO.out.x.cell 2
      have d3 := hO.out.x.cell 3
      have d4 := hO.out.x.cell 4
      have d5 := hO.out.x.cell 5
      have d6 := hO.out.x.cell 6
      have d7 := hO.out.x.cell 7
      have d8 := hO.out.x.cell 8
      have d9 := hO.out.x.cell 9
      have d10 := hO.out.x.cell 10
      have d11 := hO.out.x.cell 11
      have g0 := hO.out.x.frozen 0
      have g1 := hO.out.x.frozen 1
      have g2 := hO.out.x.frozen 2
      have g3 := hO.out.x.frozen 3
      have g4 := hO.out.x.frozen 4
      have g5 := hO.out.x.frozen 5
      have g6 := hO.out.x.frozen 6
      have g7 := hO.out.x.frozen 7
      have g8 := hO.out.x.frozen 8
      have g9 := hO.out.x.frozen 9
      have g10 := hO.out.x.frozen 10
      have g11 := hO.out.x.frozen 11
      have c0 := hO.out.a.r.cell 0
      have c1 := hO.out.a.r.cell 1
      have c2 := hO.out.a.r.cell 2
      have c3 := hO.out.a.r.cell 3
      have c4 := hO.out.a.r.cell 4
      have c5 := hO.out.a.r.cell 5
      have c6 := hO.out.a.r.cell 6
      have c7 := hO.out.a.r.cell 7
      have c8 := hO.out.a.r.cell 8
      have c9 := hO.out.a.r.cell 9
      have c10 := hO.out.a.r.cell 10
      have c11 := hO.out.a.r.cell 11
      have f0 := hO.out.a.r.frozen 0
      have f1 := hO.out.a.r.frozen 1
      have f2 := hO.out.a.r.frozen 2
      have f3 := hO.out.a.r.frozen 3
      have f4 := hO.out.a.r.frozen 4
      have f5 := hO.out.a.r.frozen 5
      have f6 := hO.out.a.r.frozen 6
      have f7 := hO.out.a.r.frozen 7
      have f8 := hO.out.a.r.frozen 8
      have f9 := hO.out.a.r.frozen 9
      have f10 := hO.out.a.r.frozen 10
      have f11 := hO.out.a.r.frozen 11
      go_wp2_with fail
      obtain rfl : n = zs.length := hO.out.o.len.1
      refine bodyPost_ret (v := argV (A, c, wordP zs)) (by simp [results, Tryz.results40, go_sem, argV, wordP, c0, c1, c2, c3, c4, c5, c6, c7, c8, c9, c10, c11]) rfl ?_
      exact ⟨⟨(A, c, wordP zs), rfl, word_made (hO.out.a.own hO.out.o _ _ _ _ _ _ _ _ _ _ _ _) (by have := Hlz.out; omega), Hin.out⟩, hO.out.a.done _ _ _ _ _ _ _ _ _ _ _ _⟩
/-- ref30.guess -/
theorem guess_any {w : World} {s : ByteArray} (hs : s.size ≤ 6000) : Calls Tryz.prog 40 #[.string s] w (GuessOut w s.data.toList) := by
  by_cases hni : s.data.toList = [40, 105, 110, 102, 41]
  · have he : s = ⟨#[40, 105, 110, 102, 41]⟩ := ByteArray.ext (Array.toList_inj.1 hni)
    subst he
    exact guess_inf
  rcases Nat.eq_zero_or_pos s.size with h0 | h0
  · have he := str_empty (s := s) (List.eq_nil_of_length_eq_zero (by have : s.data.toList.length = s.size := by simp
                                                                     omega))
    subst he
    exact guess_nil
  · obtain ⟨b, hc, _⟩ := byte_at h0
    by_cases h1 : b = 40
    · subst h1
      exact guess_paren hs h0 hni hc
    by_cases h2 : b = 91
    · subst h2
      exact guess_brack hs h0 hni hc
    by_cases h3 : b = 35
    · subst h3
      exact guess_hash hs h0 hni hc
    exact guess_name hs h0 hni hc h1 h2 h3
end Go.Proofs.YtebpggfccljagaaGreatDoor

/- ref30.Read: what is held; plain. -/
namespace Go.Proofs.YtebpggfccljagaaGreatDoor
open Go.RowKit
open Wh
set_option linter.unusedSimpArgs false
set_option linter.unusedVariables false

/-- the name as ref30 takes it -/
def refName : List (List UInt8) → List UInt8 × List (List UInt8)
  | (61 :: b :: n) :: r => (b :: n, r)
  | r => ([], r)
theorem refName_eq (b : UInt8) (n : List UInt8) (r : List (List UInt8)) : refName ((61 :: b :: n) :: r) = (b :: n, r) := rfl
theorem refName_ne {r : List (List UInt8)} (h : ∀ b n q, r ≠ (61 :: b :: n) :: q) : refName r = ([], r) := by
  unfold refName
  split
  · exact absurd rfl (h _ _ _)
  · rfl
theorem refName_same {rest : List (List UInt8)} (h : ∀ r, rest ≠ [61] :: r) : nameOf rest = refName rest := by
  by_cases h1 : ∃ n q, rest = (61 :: n) :: q
  · obtain ⟨n, q, rfl⟩ := h1
    cases n with
    | nil => exact absurd rfl (h q)
    | cons b n => rw [refName_eq, nameOf_eq]
  · rw [nameOf_ne (fun n q e => h1 ⟨n, q, e⟩), refName_ne (fun b n q e => h1 ⟨b :: n, q, e⟩)]
/-- no line, where what was guessed has another -/
theorem ref_no {l v n : List UInt8} {rest ts : List (List UInt8)} (h : parts 32 l = v :: rest) (hn : refName rest = (n, ts)) {xs : List ArgP} (hx : xs.length = min ts.length 66) (hg : ∀ i (h : i < ts.length) (h' : i < xs.length), GuessIs ts[i] xs[i])
    (hbad : (⟨⟨v.toArray⟩, ⟨n.toArray⟩, xs⟩ : StP).ok → lineT ⟨⟨v.toArray⟩, ⟨n.toArray⟩, xs⟩ ≠ l) : NoLine l := by
  by_cases hr : ∃ r, rest = [61] :: r
  · obtain ⟨r, rfl⟩ := hr
    exact no_eq h
  · have hn2 := (refName_same fun r e => hr ⟨r, e⟩).trans hn
    by_cases hl : 64 < ts.length
    · exact no_many h hn2 hl
    · intro q hq he
      have e := only_line h hn2 (xs := xs) (by omega) hg hq he
      rw [e] at hq he
      exact hbad hq he
theorem pieces_32 (s : ByteArray) (hs : s.size ≤ 6000) (w : World) : Calls Tryz.prog 39 #[.string s, .int .u8 32] w (fun e w' => ∃ A n c, e = .returned (.slice A n c) ∧ OwnS w' w.heap.size (.slice A n c) (cutB s.data.toList 32) ∧ Below w.heap.size w w') := pieces_any s (by omega) 32
theorem fineG_step {W : World} {B i : Nat} {ts : List (List UInt8)} {rs : List ARow} {r : ARow} {p : List UInt8} (h1 : rs.length = i) (h2 : ∀ q (h : q < ts.length) (h' : q < rs.length), GuessIs ts[q] rs[q].2.2) (h3 : ∀ r ∈ rs, ArgFine r)
    (hp : ∃ h : i < ts.length, ts[i] = p) (hi : GuessIs p r.2.2) (hm : ArgMade W B r) : (rs ++ [r]).length = i + 1 ∧ (∀ q (h : q < ts.length) (h' : q < (rs ++ [r]).length), GuessIs ts[q] (rs ++ [r])[q].2.2) ∧ ∀ x ∈ rs ++ [r], ArgFine x := by
  refine ⟨by rw [List.length_append, List.length_singleton, h1], fun q h h' => ?_, fun x hx => ?_⟩
  · rcases Nat.lt_or_ge q rs.length with hq | hq
    · rw [List.getElem_append_left hq]
      exact h2 q h hq
    · have e : q = i := by rw [List.length_append, List.length_singleton] at h'; omega
      subst e
      obtain ⟨hh, he⟩ := hp
      rw [List.getElem_append_right (by omega), he]
      simp only [h1, Nat.sub_self, List.getElem_cons_zero]
      exact hi
  · rcases List.mem_append.1 hx with h | h
    · exact h3 x h
    · rw [List.mem_singleton.1 h]
      exact ⟨hm.kz, hm.cz, hm.fit⟩
/-- the blocks of ref30.Read -/
structure RgS (w wr : World) (g5 g N cap : Nat) (v nm : ByteArray) (A : Option Addr) (n c : Nat) (rs : List ARow) (L : List (List UInt8)) : Prop where
  s : Blk wr w.heap.size 25 #[.string ⟨#[]⟩, .string ⟨#[]⟩, .slice none 0 0]
  t : Blk wr g5 25 #[.string v, .string nm, .slice A n c]
  p : OwnS wr (w.heap.size + 1) (.slice (some ⟨g, 0, none⟩) N cap) L
  o : LentA wr w.heap.size (.slice A n c) rs
  b : Below w.heap.size w wr
  lt : w.heap.size < g5
  hN : N = L.length
section
variable {w wr w' : World} {g5 g N cap n c : Nat} {A : Option Addr} {v nm : ByteArray} {rs : List ARow} {L : List (List UInt8)}
theorem RgS.below (h : RgS w wr g5 g N cap v nm A n c rs L) (hb : Below wr.heap.size wr w') : RgS w w' g5 g N cap v nm A n c rs L :=
  ⟨h.s.below hb h.s.lt, h.t.below hb h.t.lt, h.p.kept hb, h.o.kept hb, h.b.trans (hb.mono h.b.size), h.lt, h.hN⟩
theorem RgS.new {W1 : World} (hs : Blk W1 w.heap.size 25 #[.string ⟨#[]⟩, .string ⟨#[]⟩, .slice none 0 0]) (hp : OwnS W1 (w.heap.size + 1) (.slice (some ⟨g, 0, none⟩) N cap) L) (hb : Below w.heap.size w W1) (hN : N = L.length) (v nm : ByteArray) :
    RgS w (W1.alloc (.cells #[.string v, .string nm, .slice none 0 0] 25)) W1.heap.size g N cap v nm none 0 0 [] L :=
  ⟨hs.alloc _, Blk.new W1 25 _, hp.alloc _, ⟨OwnA.nil _ _, fun r hr => by simp at hr⟩, hb.alloc hb.size _, hs.lt, hN⟩
/-- an argument behind the others -/
theorem RgS.app {w2 w3 : World} {r : ARow} (h : RgS w wr g5 g N cap v nm A n c rs L) (hb2 : Below wr.heap.size wr w2) (hn : OwnI w2 w.heap.size (.slice r.1 r.2.2.wd.length r.2.1) r.2.2.wd) {A' : Option Addr} {n' c' : Nat}
    (ho3 : OwnA w3 w.heap.size (.slice A' n' c') (rs ++ [r])) (hg : (w2.alloc (.cells (acs r).toArray 41)).grownBy w3 (Value.slice A n c).ownBlock) :
    RgS w (w3.setCell ⟨g5, 2, none⟩ (.slice A' n' c')) g5 g N cap v nm A' n' c' (rs ++ [r]) L := by
  have h2 := (h.below hb2).below (new_below w2 (.cells (acs r).toArray 41))
  have ho := h2.o.1
  have hl := LentA.step h.o hb2 hn ho3 hg
  have hs3 := h2.s.grown hg (fun e => own_blk_ne ho h2.s (by decide) e.symm)
  have ht3 := h2.t.grown hg (fun e => own_blk_ne ho h2.t (by decide) e.symm)
  have hp3 : OwnS w3 (w.heap.size + 1) (.slice (some ⟨g, 0, none⟩) N cap) L := h2.p.grown hg (fun g hg => own_neSA h2.p ho g hg)
  have hb3 := h2.b.grown hg h2.b.size (fun k hk => (ho.lt k hk).1)
  exact ⟨hs3.far (p := ⟨g5, 2, none⟩) (by have := h.lt; show w.heap.size ≠ g5; omega) _, ht3.set_ 2 _,
    hp3.setB ht3 (by decide) _, hl.setB ht3 (by decide) (by decide) _, hb3.setCell (p := ⟨g5, 2, none⟩) (by have := h.lt; show w.heap.size ≤ g5; omega) _, h.lt, h.hN⟩
theorem RgS.end_ (h : RgS w wr g5 g N cap v nm A n c rs L) (u0 u1 u2 : Value) : LentA (((wr.setCell ⟨w.heap.size, 0, none⟩ u0).setCell ⟨w.heap.size, 1, none⟩ u1).setCell ⟨w.heap.size, 2, none⟩ u2) w.heap.size (.slice A n c) rs ∧
    Below w.heap.size w (((wr.setCell ⟨w.heap.size, 0, none⟩ u0).setCell ⟨w.heap.size, 1, none⟩ u1).setCell ⟨w.heap.size, 2, none⟩ u2) :=
  ⟨((h.o.setB h.s (by decide) (by decide) _).setB (h.s.set_ 0 _) (by decide) (by decide) _).setB ((h.s.set_ 0 _).set_ 1 _) (by decide) (by decide) _,
    ((h.b.setCell (p := ⟨w.heap.size, 0, none⟩) (Nat.le_refl _) _).setCell (p := ⟨w.heap.size, 1, none⟩) (Nat.le_refl _) _).setCell (p := ⟨w.heap.size, 2, none⟩) (Nat.le_refl _) _⟩
end
end Go.Proofs.YtebpggfccljagaaGreatDoor

/- ref30.Read (printed by gen_rrdw.py). -/
namespace Go.Proofs.YtebpggfccljagaaGreatDoor
open Go.RowKit
open Wh
set_option linter.unusedSimpArgs false
set_option linter.unusedVariables false

/-- the frame -/
def rrFr (s : ByteArray) (b g5 g N cap j : Nat) (v : Nat → Value) : Array Value := #[.string s, v 1, .pointer (some ⟨b, 0, none⟩), v 3, .slice (some ⟨g, 0, none⟩) N cap, .pointer (some ⟨g5, 0, none⟩), .int .i64 (j : Int), v 7, v 8, v 9, v 10, v 11, v 12, v 13, v 14, v 15, v 16, v 17, v 18, v 19, v 20, v 21, v 22, v 23, v 24, v 25, v 26, v 27, v 28, v 29, v 30, v 31, v 32, v 33, v 34, v 35, v 36, v 37, v 38, v 39, v 40, v 41, v 42, v 43, v 44, v 45, v 46, v 47, v 48, v 49, v 50, v 51, v 52, v 53, v 54, v 55, v 56, v 57, v 58, v 59, v 60, v 61, v 62, v 63, v 64, v 65, v 66, v 67, v 68, v 69, v 70, v 71, v 72, v 73, v 74]
set_option maxRecDepth 100000 in
set_option maxHeartbeats 8000000 in
theorem rsr_core {w wr : World} {B g5 g N cap j : Nat} {s : ByteArray} {v nm : List UInt8} {L ts rest : List (List UInt8)} {u : Nat → Value} (hg : Gl B w) (hS : RgS w wr g5 g N cap ⟨v.toArray⟩ ⟨nm.toArray⟩ none 0 0 [] L)
    (hts : ts = L.drop j) (hj : j ≤ L.length) (hlen : ∀ t ∈ L, t.length ≤ 6000) (hv : v.length ≤ 6000) (hn : nm.length ≤ 6000) (hp : parts 32 s.data.toList = v :: rest) (hnm : refName rest = (nm, ts)) (hk7 : L.length ≤ 7000)
    (K2 : Act → World → Prop) (hK2 : ∀ a w', (codeRest 6 (bodyOf Tryz.f10)).wp Tryz.prog (bodyPost Tryz.prog Tryz.f10 (ReadOut w s.data.toList)) a w' → K2 a w') (K : Act → World → Prop) (hK : ∀ a w', (codeRest 1 (codeAt 5 (bodyOf Tryz.f10))).wp Tryz.prog (Exit.then K2 (bodyPost Tryz.prog Tryz.f10 (ReadOut w s.data.toList))) a w' → K a w') :
    (codeAt 0 (codeAt 5 (bodyOf Tryz.f10))).wp Tryz.prog (Exit.then K (Exit.then K2 (bodyPost Tryz.prog Tryz.f10 (ReadOut w s.data.toList)))) ⟨rrFr s w.heap.size g5 g N cap j u, []⟩ wr := by
  conv => enter [2]; dsimp only [codeAt, bodyOf, Tryz.f10, Option.getD_some]
  dsimp only [codeRest, codeAt, bodyOf, Tryz.f10, Option.getD_some] at hK hK2
  have HG := Lib.hid hg
  have hkt : ts.length + j = L.length := by rw [hts, List.length_drop]; omega
  have Hts := Lib.hid (And.intro hts (And.intro hkt hk7))
  have HP := Lib.hid (And.intro hp hnm)
  have Hlen := Lib.hid (And.intro hlen (And.intro hv hn))
  have HS := Lib.hid hS
  clear hts hkt hp hnm hlen hv hn hg hS hj hk7
  unfold rrFr
  go_wp2_with fail
  go_loopg [7] ts.length (fun kk iv wq => ∃ (q i : Nat) (A : Option Addr) (n c : Nat) (rs : List ARow), iv = .int .i64 (q : Int) ∧ Hid (q = j + i ∧ kk = ts.length - i ∧ i ≤ ts.length ∧ i ≤ 66 ∧ n = i) ∧ Hid (RgS w wq g5 g N cap ⟨v.toArray⟩ ⟨nm.toArray⟩ A n c rs L) ∧ Hid (rs.length = i ∧ (∀ q (h : q < ts.length) (h' : q < rs.length), GuessIs ts[q] rs[q].2.2) ∧ ∀ r ∈ rs, ArgFine r))
  case atStart => exact ⟨j, 0, none, 0, 0, [], rfl, Lib.hid ⟨rfl, rfl, Nat.zero_le _, by decide, rfl⟩, HS, Lib.hid ⟨rfl, fun q _ h' => by simp at h', fun r hr => by simp at hr⟩⟩
  case round =>
    obtain ⟨q, i, A, n, c, rs, rfl, hI, hO, hA⟩ := hrel
    have e0 := hO.out.t.cell 0
    have e1 := hO.out.t.cell 1
    have e2 := hO.out.t.cell 2
    by_cases hgo : q < N ∧ n < 66
    · have hii : (q : Int) < (N : Int) := by omega
      have hi0 : (0 : Int) ≤ (q : Int) := by omega
      have hi6 : (q : Int) ≤ 7000 := by have := Hts.out.2.2; have := hO.out.hN; omega
      have hn6 : (n : Int) < 66 := by omega
      have hin : q < L.length := by have := hO.out.hN; omega
      have hcp := hO.out.p.get hin
      have HP2 := Lib.hid (fun (W : World) (h : OwnS W (w.heap.size + 1) (.slice (some ⟨g, 0, none⟩) N cap) L) => h.get hin)
      have Hts2 := Lib.hid (show ∃ h : i < ts.length, ts[i] = L[q] from ⟨by have := Hts.out.2.1; have := hI.out.1; omega, by simp only [Hts.out.1, List.getElem_drop, hI.out.1]⟩)
      have HpL := Lib.hid (Hlen.out.1 _ (List.getElem_mem hin))
      have Hgo := Lib.hid hgo
      generalize L[q] = p at *
      have HpS := Lib.hid (show (⟨p.toArray⟩ : ByteArray).size ≤ 6000 by show p.toArray.size ≤ 6000; rw [List.size_toArray]; exact HpL.out)
      have HGs := Lib.hid (fun W => guess_any (w := W) HpS.out)
      have f2 := hO.out.t.frozen 2
      have Hlr := Lib.hid (show rs.length ≤ 1000000 by have := hA.out.1; have := hI.out.2.2.2.1; omega)
      clear hgo hin
      go_wp2_with fail
      refine wp_region_noPanic ?_
      refine wp_region_HK (fun w' => w'.cell? ⟨g5, 2, none⟩ = some (.slice A n c) ∧ w'.cell? ⟨g, q, none⟩ = some (.string ⟨p.toArray⟩)) 10 (by kernel_rfl) ⟨e2, hcp⟩ (fun hHeld => ?_)
      refine wpHK_take (i := 0) (oi := Oper.mk (some 51) _ _ _ _ _) (v := ?_) rfl (by kernel_rfl) (by kernel_rfl) (by kernel_rfl) (by kernel_rfl) (fun _ _ _ h => h) (Or.inl ⟨by rfl, ?_⟩) (by assumption) ?_
      rotate_left
      · (intro w' hSw; (try dsimp only at hSw); (obtain ⟨s1, s2⟩ := hSw); go_simp; try with_reducible rfl)
      try simp only [Act.put, List.setIfInBounds_toArray, List.set_cons_zero, List.set_cons_succ]
      refine wpHK_take (i := 1) (oi := Oper.mk (some 52) _ _ _ _ _) (v := ?_) rfl (by kernel_rfl) (by kernel_rfl) (by kernel_rfl) (by kernel_rfl) (fun _ _ _ h => h) (Or.inl ⟨by rfl, ?_⟩) (by assumption) ?_
      rotate_left
      · (intro w' hSw; (try dsimp only at hSw); (obtain ⟨s1, s2⟩ := hSw); go_simp; try with_reducible rfl)
      try simp only [Act.put, List.setIfInBounds_toArray, List.set_cons_zero, List.set_cons_succ]
      refine wpHK_take (i := 2) (oi := Oper.mk (some 53) _ _ _ _ _) (v := ?_) rfl (by kernel_rfl) (by kernel_rfl) (by kernel_rfl) (by kernel_rfl) (fun _ _ _ h => h) (Or.inl ⟨by rfl, ?_⟩) (by assumption) ?_
      rotate_left
      · (intro w' hSw; (try dsimp only at hSw); (obtain ⟨s1, s2⟩ := hSw); go_simp; try with_reducible rfl)
      try simp only [Act.put, List.setIfInBounds_toArray, List.set_cons_zero, List.set_cons_succ]
      refine wpHK_take (i := 3) (oi := Oper.mk (some 54) _ _ _ _ _) (v := ?_) rfl (by kernel_rfl) (by kernel_rfl) (by kernel_rfl) (by kernel_rfl) (fun _ _ _ h => h) (Or.inl ⟨by rfl, ?_⟩) (by assumption) ?_
      rotate_left
      · (intro w' hSw; (try dsimp only at hSw); (obtain ⟨s1, s2⟩ := hSw); go_simp; try with_reducible rfl)
      try simp only [Act.put, List.setIfInBounds_toArray, List.set_cons_zero, List.set_cons_succ]
      refine wpHK_take (i := 4) (oi := Oper.mk (some 55) _ _ _ _ _) (v := ?_) rfl (by kernel_rfl) (by kernel_rfl) (by kernel_rfl) (by kernel_rfl) (fun _ _ _ h => h) (Or.inl ⟨by rfl, ?_⟩) (by assumption) ?_
      rotate_left
      · (intro w' hSw; (try dsimp only at hSw); (obtain ⟨s1, s2⟩ := hSw); go_simp; try with_reducible rfl)
      try simp only [Act.put, List.setIfInBounds_toArray, List.set_cons_zero, List.set_cons_succ]
      refine wpHK_take (i := 5) (oi := Oper.mk (some 56) _ _ _ _ _) (v := ?_) rfl (by kernel_rfl) (by kernel_rfl) (by kernel_rfl) (by kernel_rfl) (fun _ _ _ h => h) (Or.inl ⟨by rfl, ?_⟩) (by assumption) ?_
      rotate_left
      · (intro w' hSw; (try dsimp only at hSw); (obtain ⟨s1, s2⟩ := hSw); go_simp; try with_reducible rfl)
      try simp only [Act.put, List.setIfInBounds_toArray, List.set_cons_zero, List.set_cons_succ]
      refine wpHK_one (j := 6) (o := Oper.mk (some 57) _ _ _ _ _) rfl (by kernel_rfl) (fun K hK => ?_)
      go_simp
      refine (HGs.out _).mono ?_
      rintro e W5 ⟨⟨r, rfl, hm5, hi5⟩, hb5⟩
      obtain ⟨A6, c6, x6⟩ := r
      simp only [argV]
      have hb5 := undrew hb5
      have hS3 := hO.out.below hb5
      have hS4 := hS3.below (new_below W5 (.cells (acs (A6, c6, x6)).toArray 41))
      refine hK.out _ _ (And.intro (hS3.t.cell 2) (HP2.out _ hS3.p)) (fun _ => ?_)
      clear hK K hHeld
      have hHeld := (And.intro (hS3.t.cell 2) (HP2.out _ hS3.p))
      try simp only [Act.put, List.setIfInBounds_toArray, List.set_cons_zero, List.set_cons_succ]
      refine wpHK_one (j := 7) (o := Oper.mk (some 58) _ _ _ _ _) rfl (by kernel_rfl) (fun K hK => ?_)
      go_simp
      refine hK.out _ _ (And.intro (hS4.t.cell 2) (HP2.out _ hS4.p)) (fun _ => ?_)
      clear hK K hHeld
      have hHeld := (And.intro (hS4.t.cell 2) (HP2.out _ hS4.p))
      try simp only [Act.put, List.setIfInBounds_toArray, List.set_cons_zero, List.set_cons_succ]
      refine wpHK_one (j := 8) (o := Oper.mk (some 59) _ _ _ _ _) rfl (by kernel_rfl) (fun K hK => ?_)
      refine stepA_append (by rfl) (.tmp 52) (.tmp 58) (by rfl) w.heap.size _ rs hS4.o.1 (by rfl) _ _ [(A6, c6, x6)] (reads_singleA W5 (A6, c6, x6)) 1 1 rfl (by rfl) Hlr.out (by simp) hS4.b.size ?_
      intro A8 n8 c8 w8 ho8 hg8
      refine hK.out _ _ (And.intro ((hS4.t.grown hg8 (fun e => own_blk_ne hS4.o.1 hS4.t (by decide) e.symm)).cell 2) (HP2.out _ (hS4.p.grown hg8 (fun g hg => own_neSA hS4.p hS4.o.1 g hg)))) (fun _ => ?_)
      clear hK K hHeld
      have hHeld := (And.intro ((hS4.t.grown hg8 (fun e => own_blk_ne hS4.o.1 hS4.t (by decide) e.symm)).cell 2) (HP2.out _ (hS4.p.grown hg8 (fun g hg => own_neSA hS4.p hS4.o.1 g hg))))
      try simp only [Act.put, List.setIfInBounds_toArray, List.set_cons_zero, List.set_cons_succ]
      refine wpHK_take (i := 9) (oi := Oper.mk (some 60) _ _ _ _ _) (v := ?_) rfl (by kernel_rfl) (by kernel_rfl) (by kernel_rfl) (by kernel_rfl) (fun _ _ _ h => h) (Or.inl ⟨by rfl, ?_⟩) (by assumption) ?_
      rotate_left
      · (intro w' hSw; (try dsimp only at hSw); (obtain ⟨s1, s2⟩ := hSw); go_simp; try with_reducible rfl)
      try simp only [Act.put, List.setIfInBounds_toArray, List.set_cons_zero, List.set_cons_succ]
      refine wpHK_tail (j := 10) (o := Oper.mk (none) _ _ _ _ _) rfl (by kernel_rfl) (by decide) (fun K hK => ?_)
      have g2 := (hS4.t.grown hg8 (fun e => own_blk_ne hS4.o.1 hS4.t (by decide) e.symm)).frozen 2
      have hO' := Lib.hid (hO.out.app (r := (A6, c6, x6)) hb5 (hm5.own.lower hO.out.b.size) ho8 hg8)
      go_simp
      refine hK.out _ _ ?_
      clear hK K
      try simp only [Act.put, List.setIfInBounds_toArray, List.set_cons_zero, List.set_cons_succ]
      refine wpHK_done (by kernel_rfl) ?_ _
      refine NoPanic.normal ?_
      go_wp2_with fail
      go_roundg (ts.length - (i + 1))
      case measure => have := hI.out.2.1; have := Hts2.out.1; omega
      case rel => exact ⟨q + 1, i + 1, A8, n8, c8, rs ++ [(A6, c6, x6)], rfl, Lib.hid ⟨by have := hI.out.1; omega, rfl, by have := Hts2.out.1; omega, by have := hI.out.2.2.2.2; have := Hgo.out.2; omega, by
        have h1 := (lent_readsA (hO'.out.o) (fineG_step hA.out.1 hA.out.2.1 hA.out.2.2 Hts2.out hi5 hm5).2.2).2
        rw [h1, List.length_append, hA.out.1]; rfl⟩, hO', Lib.hid (fineG_step hA.out.1 hA.out.2.1 hA.out.2.2 Hts2.out hi5 hm5)⟩
    · obtain ⟨hrd, hnl⟩ := lent_readsA hO.out.o hA.out.2.2
      subst hnl
      have hmin : rs.length = min ts.length 66 := by
        have h1 := hI.out
        have h2 := hA.out.1
        have h3 := Hts.out.2.1
        have h4 := hO.out.hN
        omega
      have HX := Lib.hid (ref_no (xs := rs.map (fun r => r.2.2)) HP.out.1 HP.out.2 (by rw [List.length_map]; exact hmin) (fun q h h' => by rw [List.getElem_map]; exact hA.out.2.1 q h (by simpa using h')))
      have Hfit := Lib.hid (show (⟨⟨v.toArray⟩, ⟨nm.toArray⟩, rs.map (fun r => r.2.2)⟩ : StP).fit from
        ⟨by show v.toArray.size ≤ _; rw [List.size_toArray]; have := Hlen.out.2.1; omega, by show nm.toArray.size ≤ _; rw [List.size_toArray]; have := Hlen.out.2.2; omega, by rw [List.length_map]; omega, fun x hx => by
          obtain ⟨r, hr, rfl⟩ := List.mem_map.1 hx
          exact (hA.out.2.2 r hr).fit⟩)
      have HT := Lib.hid (HG.out.below hO.out.b)
      have hstop : ((q : Int) < (N : Int) ∧ ¬ (rs.length : Int) < 66) ∨ ¬ (q : Int) < (N : Int) := by omega
      rcases Classical.em (⟨⟨v.toArray⟩, ⟨nm.toArray⟩, rs.map (fun r => r.2.2)⟩ : StP).ok with hok | hno
      · have HC := Lib.hid (rline_ok (s := ⟨⟨v.toArray⟩, ⟨nm.toArray⟩, A, c, rs⟩) (HT.out.tab.more HT.out.hB) hrd (Nat.le_refl _) Hfit.out hok)
        have Hok := Lib.hid hok
        unfold StR.cells StR.p bs at HC
        simp only at HC
        have HL := Lib.hid (show (⟨(lineT ⟨⟨v.toArray⟩, ⟨nm.toArray⟩, rs.map (fun r => r.2.2)⟩).toArray⟩ : ByteArray).data.toList = lineT ⟨⟨v.toArray⟩, ⟨nm.toArray⟩, rs.map (fun r => r.2.2)⟩ from rfl)
        generalize (⟨(lineT ⟨⟨v.toArray⟩, ⟨nm.toArray⟩, rs.map (fun r => r.2.2)⟩).toArray⟩ : ByteArray) = X at *
        clear hok hrd hgo hmin
        by_cases hxe : X = s
        · subst hxe
          rcases hstop with ⟨k1, k2⟩ | k1
          · go_wp2_with (go_at_call 15; (with_reducible refine HC.out.mono ?_); rintro _ W8 ⟨rfl, hb8⟩; have HS8 := Lib.hid (hO.out.below hb8); have t0 := HS8.out.t.cell 0; have t1 := HS8.out.t.cell 1; have t2 := HS8.out.t.cell 2; have g0 := HS8.out.s.frozen 0; have g1 := HS8.out.s.frozen 1; have g2 := HS8.out.s.frozen 2; have s0 := HS8.out.s.cell 0; have s1 := HS8.out.s.cell 1; have s2 := HS8.out.s.cell 2)
            refine bodyPost_ret (v := .tuple #[.agg #[.string ⟨v.toArray⟩, .string ⟨nm.toArray⟩, .slice A rs.length c], .int .i64 0]) (by simp [results, Tryz.results10, go_sem, s0, s1, s2]) rfl ?_
            exact ⟨.inl ⟨⟨⟨v.toArray⟩, ⟨nm.toArray⟩, A, c, rs⟩, rfl, Hok.out, HL.out.symm, (HS8.out.end_ _ _ _).1⟩, (HS8.out.end_ _ _ _).2⟩
          · go_wp2_with (go_at_call 15; (with_reducible refine HC.out.mono ?_); rintro _ W8 ⟨rfl, hb8⟩; have HS8 := Lib.hid (hO.out.below hb8); have t0 := HS8.out.t.cell 0; have t1 := HS8.out.t.cell 1; have t2 := HS8.out.t.cell 2; have g0 := HS8.out.s.frozen 0; have g1 := HS8.out.s.frozen 1; have g2 := HS8.out.s.frozen 2; have s0 := HS8.out.s.cell 0; have s1 := HS8.out.s.cell 1; have s2 := HS8.out.s.cell 2)
            refine bodyPost_ret (v := .tuple #[.agg #[.string ⟨v.toArray⟩, .string ⟨nm.toArray⟩, .slice A rs.length c], .int .i64 0]) (by simp [results, Tryz.results10, go_sem, s0, s1, s2]) rfl ?_
            exact ⟨.inl ⟨⟨⟨v.toArray⟩, ⟨nm.toArray⟩, A, c, rs⟩, rfl, Hok.out, HL.out.symm, (HS8.out.end_ _ _ _).1⟩, (HS8.out.end_ _ _ _).2⟩
        · have x1 : ¬ X.toList = s.toList := fun h => hxe (tl_inj h)
          have x2 : (X.toList == s.toList) = false := by simpa using x1
          have Hno := Lib.hid (HX.out fun _ e => hxe (ByteArray.ext (Array.toList_inj.1 (HL.out.trans e))))
          clear hxe
          rcases hstop with ⟨k1, k2⟩ | k1
          · go_wp2_with (go_at_call 15; (with_reducible refine HC.out.mono ?_); rintro _ W8 ⟨rfl, hb8⟩; have HS8 := Lib.hid (hO.out.below hb8); have t0 := HS8.out.t.cell 0; have t1 := HS8.out.t.cell 1; have t2 := HS8.out.t.cell 2; have g0 := HS8.out.s.frozen 0; have g1 := HS8.out.s.frozen 1; have g2 := HS8.out.s.frozen 2; have s0 := HS8.out.s.cell 0; have s1 := HS8.out.s.cell 1; have s2 := HS8.out.s.cell 2)
            refine bodyPost_ret (v := .tuple #[.agg #[.string ⟨#[]⟩, .string ⟨#[]⟩, .slice none 0 0], .int .i64 400]) (by simp [results, Tryz.results10, go_sem, s0, s1, s2]) rfl ?_
            first
              | exact ⟨.inr ⟨rfl, Hno.out⟩, (HS8.out.end_ _ _ _).2⟩
              | exact ⟨.inr ⟨rfl, Hno.out⟩, HS8.out.b⟩
          · go_wp2_with (go_at_call 15; (with_reducible refine HC.out.mono ?_); rintro _ W8 ⟨rfl, hb8⟩; have HS8 := Lib.hid (hO.out.below hb8); have t0 := HS8.out.t.cell 0; have t1 := HS8.out.t.cell 1; have t2 := HS8.out.t.cell 2; have g0 := HS8.out.s.frozen 0; have g1 := HS8.out.s.frozen 1; have g2 := HS8.out.s.frozen 2; have s0 := HS8.out.s.cell 0; have s1 := HS8.out.s.cell 1; have s2 := HS8.out.s.cell 2)
            refine bodyPost_ret (v := .tuple #[.agg #[.string ⟨#[]⟩, .string ⟨#[]⟩, .slice none 0 0], .int .i64 400]) (by simp [results, Tryz.results10, go_sem, s0, s1, s2]) rfl ?_
            first
              | exact ⟨.inr ⟨rfl, Hno.out⟩, (HS8.out.end_ _ _ _).2⟩
              | exact ⟨.inr ⟨rfl, Hno.out⟩, HS8.out.b⟩
      · have HC := Lib.hid (rline_bad (s := ⟨⟨v.toArray⟩, ⟨nm.toArray⟩, A, c, rs⟩) hrd (Nat.le_refl _) Hfit.out hno)
        have Hno := Lib.hid (HX.out fun h _ => hno h)
        unfold StR.cells at HC
        simp only at HC
        clear hno hrd hgo hmin
        rcases hstop with ⟨k1, k2⟩ | k1
        · go_wp2_with (go_at_call 15; (with_reducible refine HC.out.mono ?_); rintro _ W8 ⟨rfl, hb8⟩; have HS8 := Lib.hid (hO.out.below hb8); have t0 := HS8.out.t.cell 0; have t1 := HS8.out.t.cell 1; have t2 := HS8.out.t.cell 2; have g0 := HS8.out.s.frozen 0; have g1 := HS8.out.s.frozen 1; have g2 := HS8.out.s.frozen 2; have s0 := HS8.out.s.cell 0; have s1 := HS8.out.s.cell 1; have s2 := HS8.out.s.cell 2)
          refine bodyPost_ret (v := .tuple #[.agg #[.string ⟨#[]⟩, .string ⟨#[]⟩, .slice none 0 0], .int .i64 400]) (by simp [results, Tryz.results10, go_sem, s0, s1, s2]) rfl ?_
          first
            | exact ⟨.inr ⟨rfl, Hno.out⟩, (HS8.out.end_ _ _ _).2⟩
            | exact ⟨.inr ⟨rfl, Hno.out⟩, HS8.out.b⟩
        · go_wp2_with (go_at_call 15; (with_reducible refine HC.out.mono ?_); rintro _ W8 ⟨rfl, hb8⟩; have HS8 := Lib.hid (hO.out.below hb8); have t0 := HS8.out.t.cell 0; have t1 := HS8.out.t.cell 1; have t2 := HS8.out.t.cell 2; have g0 := HS8.out.s.frozen 0; have g1 := HS8.out.s.frozen 1; have g2 := HS8.out.s.frozen 2; have s0 := HS8.out.s.cell 0; have s1 := HS8.out.s.cell 1; have s2 := HS8.out.s.cell 2)
          refine bodyPost_ret (v := .tuple #[.agg #[.string ⟨#[]⟩, .string ⟨#[]⟩, .slice none 0 0], .int .i64 400]) (by simp [results, Tryz.results10, go_sem, s0, s1, s2]) rfl ?_
          first
            | exact ⟨.inr ⟨rfl, Hno.out⟩, (HS8.out.end_ _ _ _).2⟩
            | exact ⟨.inr ⟨rfl, Hno.out⟩, HS8.out.b⟩
theorem rsr_core_t {w wr : World} {B g5 g N cap j : Nat} {s : ByteArray} {v nm : List UInt8} {L ts rest : List (List UInt8)} {t : Array Value} (hg : Gl B w) (hS : RgS w wr g5 g N cap ⟨v.toArray⟩ ⟨nm.toArray⟩ none 0 0 [] L)
    (hts : ts = L.drop j) (hj : j ≤ L.length) (hlen : ∀ t ∈ L, t.length ≤ 6000) (hv : v.length ≤ 6000) (hn : nm.length ≤ 6000) (hp : parts 32 s.data.toList = v :: rest) (hnm : refName rest = (nm, ts)) (hk7 : L.length ≤ 7000)
    (K2 : Act → World → Prop) (hK2 : ∀ a w', (codeRest 6 (bodyOf Tryz.f10)).wp Tryz.prog (bodyPost Tryz.prog Tryz.f10 (ReadOut w s.data.toList)) a w' → K2 a w') (K : Act → World → Prop) (hK : ∀ a w', (codeRest 1 (codeAt 5 (bodyOf Tryz.f10))).wp Tryz.prog (Exit.then K2 (bodyPost Tryz.prog Tryz.f10 (ReadOut w s.data.toList))) a w' → K a w') (ht : t = rrFr s w.heap.size g5 g N cap j (fun k => t.getD k undef)) :
    (codeAt 0 (codeAt 5 (bodyOf Tryz.f10))).wp Tryz.prog (Exit.then K (Exit.then K2 (bodyPost Tryz.prog Tryz.f10 (ReadOut w s.data.toList)))) ⟨t, []⟩ wr := by
  have h := rsr_core (s := s) (u := fun k => t.getD k undef) hg hS hts hj hlen hv hn hp hnm hk7 K2 hK2 K hK
  rw [← ht] at h
  exact h
set_option maxRecDepth 100000 in
set_option maxHeartbeats 8000000 in
/-- ref30.Read -/
theorem rsread_any {w : World} {B : Nat} {s : ByteArray} (hg : Gl B w) (hs : s.size ≤ 6000) : Calls Tryz.prog 10 #[.string s] w (ReadOut w s.data.toList) := by
  have HG := Lib.hid hg
  have HC := Lib.hid (fun W => pieces_32 s hs W)
  have h2 := Blk.new w 25 #[.string ⟨#[]⟩, .string ⟨#[]⟩, .slice none 0 0]
  have H0 := Lib.hid (And.intro h2 (new_below w (.cells #[.string ⟨#[]⟩, .string ⟨#[]⟩, .slice none 0 0] 25)))
  have HLL : Hid (∀ p ∈ cutB s.data.toList 32, p.length ≤ 6000) := Lib.hid fun p hp => by
    rw [cutB_parts] at hp
    have h1 := mem_join_len (c := 32) (l := parts 32 s.data.toList) p hp
    rw [join_parts] at h1
    have h2 : s.data.toList.length = s.size := by simp
    omega
  have HL7 := Lib.hid (show (cutB s.data.toList 32).length ≤ 7000 by
    rw [cutB_parts]
    have h2 := parts_small 32 s.data.toList
    have h3 : s.data.toList.length = s.size := by simp
    omega)
  obtain ⟨v, rest, hvr⟩ := parts_ne 32 s.data.toList
  have Hp := Lib.hid hvr
  rw [cutB_parts, hvr] at HC HLL HL7
  have HvL := Lib.hid (HLL.out v (by simp))
  clear hg h2 hvr
  cases rest with
  | nil =>
    go_enter Tryz.func10, Tryz.ntmps10
    go_upto_region 7 with (go_at_call 39; (with_reducible refine (HC.out _).mono ?_); rintro _ W1 ⟨A1, N, cap, rfl, ho1, hb1⟩; have HB1 := Lib.hid (H0.out.1.below hb1 H0.out.1.lt); have HB2 := Lib.hid (H0.out.2.trans (hb1.mono H0.out.2.size)); simp only [World.size_alloc] at ho1; obtain ⟨g, cap0, hgv, hgb, hgl⟩ := World.ownsRow.form (show W1.ownsRow _ 9 1 _ _ _ from ho1) (by simp); injection hgv with hgA hgn hgc; subst hgA; have HN := Lib.hid hgn; clear hgc; have p0 := ho1.get (i := 0) (by simp); simp only [List.getElem_cons_zero] at p0; have n1 : ¬ g = W1.heap.size := (by omega); have n2 : ¬ W1.heap.size = g := (by omega); have hN0 : (0 : Int) < (N : Int) := (by rw [hgn]; simp only [List.length_cons]; omega); have hN1 : ¬ (1 : Int) < (N : Int) := (by rw [hgn]; simp); clear hgn)
    rename_i hK2 _ hK
    exact rsr_core_t (s := s) (ts := []) (nm := []) HG.out (RgS.new HB1.out ho1 HB2.out HN.out ⟨v.toArray⟩ ⟨#[]⟩) rfl (by simp) HLL.out HvL.out (by simp) Hp.out rfl HL7.out _ hK2 _ hK rfl
  | cons q r =>
    have HqL := Lib.hid (HLL.out q (by simp))
    have hn1 : ∀ N : Nat, N = (v :: q :: r).length → (1 : Int) < (N : Int) := fun N h => by rw [h]; simp only [List.length_cons]; omega
    have Hn1 := Lib.hid hn1
    clear hn1
    generalize hQ : (⟨q.toArray⟩ : ByteArray) = Q
    have HQ := Lib.hid hQ
    by_cases hq1 : 1 < Q.size
    · obtain ⟨b, hb, _⟩ := byte_at (show 0 < Q.size by omega)
      have hi1 : (1 : Int) < (Q.size : Int) := by omega
      have hi2 : (1 : Int) ≤ (Q.size : Int) := by omega
      have hi0 : (0 : Int) < (Q.size : Int) := by omega
      by_cases hb61 : b = 61
      · subst hb61
        have HE := Lib.hid (show ∃ b n, q = 61 :: b :: n by
          have h1 := head_bytes (show 0 < Q.size by omega) hb
          rw [← hQ] at h1
          have h3 : q = 61 :: (Q.extract 1 Q.size).data.toList := by rw [← hQ]; exact h1
          have h4 : q.length = Q.size := by rw [← hQ]; show q.length = q.toArray.size; rw [List.size_toArray]
          cases hx : (Q.extract 1 Q.size).data.toList with
          | nil => rw [hx] at h3; rw [h3] at h4; simp at h4; omega
          | cons b n => exact ⟨b, n, by rw [h3, hx]⟩)
        clear hQ
        go_enter Tryz.func10, Tryz.ntmps10
        go_upto_region 7 with (go_at_call 39; (with_reducible refine (HC.out _).mono ?_); rintro _ W1 ⟨A1, N, cap, rfl, ho1, hb1⟩; have HB1 := Lib.hid (H0.out.1.below hb1 H0.out.1.lt); have HB2 := Lib.hid (H0.out.2.trans (hb1.mono H0.out.2.size)); simp only [World.size_alloc] at ho1; obtain ⟨g, cap0, hgv, hgb, hgl⟩ := World.ownsRow.form (show W1.ownsRow _ 9 1 _ _ _ from ho1) (by simp); injection hgv with hgA hgn hgc; subst hgA; have HN := Lib.hid hgn; clear hgc; have p0 := ho1.get (i := 0) (by simp); simp only [List.getElem_cons_zero] at p0; have n1 : ¬ g = W1.heap.size := (by omega); have n2 : ¬ W1.heap.size = g := (by omega); have hN0 : (0 : Int) < (N : Int) := (by rw [hgn]; simp only [List.length_cons]; omega); have hN1 : (1 : Int) < (N : Int) := Hn1.out N hgn; clear hgn; have p1 := ho1.get (i := 1) (by simp); simp only [List.getElem_cons_zero, List.getElem_cons_succ, HQ.out] at p1)
        rename_i hK2 _ hK
        obtain ⟨b, n, hqe⟩ := HE.out
        have hx : Q.extract 1 Q.size = ⟨(b :: n).toArray⟩ := by rw [← HQ.out, hqe]; exact tail_str (b :: n)
        rw [hx]
        have hnl : (b :: n).length ≤ 6000 := by have := HqL.out; rw [hqe] at this; simp only [List.length_cons] at this ⊢; omega
        exact rsr_core_t (s := s) (ts := r) (nm := b :: n) HG.out (RgS.new HB1.out ho1 HB2.out HN.out ⟨v.toArray⟩ ⟨(b :: n).toArray⟩) rfl (by simp) HLL.out HvL.out hnl Hp.out (by rw [hqe]; exact refName_eq b n r) HL7.out _ hK2 _ hK rfl
      · have nb : ((b.toNat : Int) == 61) = false := by
          refine beq_eq_false_iff_ne.2 fun h => hb61 (UInt8.toNat_inj.1 ?_)
          show b.toNat = 61; omega
        have HE := Lib.hid (show ∀ b' n x, q :: r ≠ (61 :: b' :: n) :: x from fun b' n x h => by
          have h1 := head_bytes (show 0 < Q.size by omega) hb
          rw [← hQ] at h1
          have h3 : q = b :: _ := h1
          rw [(List.cons.inj h).1] at h3
          exact hb61 (List.cons.inj h3).1.symm)
        clear hQ hb61
        go_enter Tryz.func10, Tryz.ntmps10
        go_upto_region 7 with (go_at_call 39; (with_reducible refine (HC.out _).mono ?_); rintro _ W1 ⟨A1, N, cap, rfl, ho1, hb1⟩; have HB1 := Lib.hid (H0.out.1.below hb1 H0.out.1.lt); have HB2 := Lib.hid (H0.out.2.trans (hb1.mono H0.out.2.size)); simp only [World.size_alloc] at ho1; obtain ⟨g, cap0, hgv, hgb, hgl⟩ := World.ownsRow.form (show W1.ownsRow _ 9 1 _ _ _ from ho1) (by simp); injection hgv with hgA hgn hgc; subst hgA; have HN := Lib.hid hgn; clear hgc; have p0 := ho1.get (i := 0) (by simp); simp only [List.getElem_cons_zero] at p0; have n1 : ¬ g = W1.heap.size := (by omega); have n2 : ¬ W1.heap.size = g := (by omega); have hN0 : (0 : Int) < (N : Int) := (by rw [hgn]; simp only [List.length_cons]; omega); have hN1 : (1 : Int) < (N : Int) := Hn1.out N hgn; clear hgn; have p1 := ho1.get (i := 1) (by simp); simp only [List.getElem_cons_zero, List.getElem_cons_succ, HQ.out] at p1)
        rename_i hK2 _ hK
        exact rsr_core_t (s := s) (ts := q :: r) (nm := []) HG.out (RgS.new HB1.out ho1 HB2.out HN.out ⟨v.toArray⟩ ⟨#[]⟩) rfl (by simp) HLL.out HvL.out (by simp) Hp.out (refName_ne HE.out) HL7.out _ hK2 _ hK rfl
    · have hi1 : ¬ (1 : Int) < (Q.size : Int) := by omega
      have HE := Lib.hid (show ∀ b' n x, q :: r ≠ (61 :: b' :: n) :: x from fun b' n x h => by
        have h4 : q.length = Q.size := by rw [← hQ]; show q.length = q.toArray.size; rw [List.size_toArray]
        rw [(List.cons.inj h).1] at h4
        simp at h4
        omega)
      clear hQ
      go_enter Tryz.func10, Tryz.ntmps10
      go_upto_region 7 with (go_at_call 39; (with_reducible refine (HC.out _).mono ?_); rintro _ W1 ⟨A1, N, cap, rfl, ho1, hb1⟩; have HB1 := Lib.hid (H0.out.1.below hb1 H0.out.1.lt); have HB2 := Lib.hid (H0.out.2.trans (hb1.mono H0.out.2.size)); simp only [World.size_alloc] at ho1; obtain ⟨g, cap0, hgv, hgb, hgl⟩ := World.ownsRow.form (show W1.ownsRow _ 9 1 _ _ _ from ho1) (by simp); injection hgv with hgA hgn hgc; subst hgA; have HN := Lib.hid hgn; clear hgc; have p0 := ho1.get (i := 0) (by simp); simp only [List.getElem_cons_zero] at p0; have n1 : ¬ g = W1.heap.size := (by omega); have n2 : ¬ W1.heap.size = g := (by omega); have hN0 : (0 : Int) < (N : Int) := (by rw [hgn]; simp only [List.length_cons]; omega); have hN1 : (1 : Int) < (N : Int) := Hn1.out N hgn; clear hgn; have p1 := ho1.get (i := 1) (by simp); simp only [List.getElem_cons_zero, List.getElem_cons_succ, HQ.out] at p1)
      rename_i hK2 _ hK
      exact rsr_core_t (s := s) (ts := q :: r) (nm := []) HG.out (RgS.new HB1.out ho1 HB2.out HN.out ⟨v.toArray⟩ ⟨#[]⟩) rfl (by simp) HLL.out HvL.out (by simp) Hp.out (refName_ne HE.out) HL7.out _ hK2 _ hK rfl
end Go.Proofs.YtebpggfccljagaaGreatDoor

/- law30.ScriptLine. -/
namespace Go.Proofs.YtebpggfccljagaaGreatDoor
open Go.RowKit
open Wh
set_option linter.unusedSimpArgs false
set_option linter.unusedVariables false

/-- the boxes of the law's two statements -/
structure LnS (w wr : World) (v nm v2 nm2 : ByteArray) (A A2 : Option Addr) (n c n2 c2 : Nat) : Prop where
  x : Blk wr w.heap.size 25 #[.string v, .string nm, .slice A n c]
  y : Blk wr (w.heap.size + 1) 25 #[.string v2, .string nm2, .slice A2 n2 c2]
  b : Below w.heap.size w wr
theorem LnS.below {w wr w' : World} {v nm v2 nm2 : ByteArray} {A A2 : Option Addr} {n c n2 c2 : Nat} (h : LnS w wr v nm v2 nm2 A A2 n c n2 c2) (hb : Below wr.heap.size wr w') : LnS w w' v nm v2 nm2 A A2 n c n2 c2 :=
  ⟨h.x.below hb h.x.lt, h.y.below hb h.y.lt, h.b.trans (hb.mono h.b.size)⟩
end Go.Proofs.YtebpggfccljagaaGreatDoor

/- law30.ScriptRead: what is held. -/
namespace Go.Proofs.YtebpggfccljagaaGreatDoor
open Go.RowKit
open Wh
set_option linter.unusedSimpArgs false
set_option linter.unusedVariables false

def zeroP : StP := ⟨⟨#[]⟩, ⟨#[]⟩, []⟩
/-- what a text says: a statement, or none -/
def Says (l : List UInt8) (p : StP) (z : Int) : Prop := (p.ok ∧ lineT p = l ∧ z = 0) ∨ (p = zeroP ∧ z = 400 ∧ NoLine l)
theorem Says.uniq {l : List UInt8} {p q : StP} {z y : Int} (h : Says l p z) (h' : Says l q y) : p = q ∧ z = y := by
  rcases h with ⟨h1, h2, rfl⟩ | ⟨rfl, rfl, h3⟩
  · rcases h' with ⟨k1, k2, rfl⟩ | ⟨rfl, rfl, k3⟩
    · exact ⟨lineT_inj h1 k1 (h2.trans k2.symm), rfl⟩
    · exact absurd h2 (k3 p h1)
  · rcases h' with ⟨k1, k2, rfl⟩ | ⟨rfl, rfl, k3⟩
    · exact absurd k2 (h3 q k1)
    · exact ⟨rfl, rfl⟩
theorem Says.small {l : List UInt8} {p : StP} {z : Int} (h : Says l p z) : z = 0 ∨ z = 400 := by
  rcases h with ⟨_, _, rfl⟩ | ⟨_, rfl, _⟩
  · exact .inl rfl
  · exact .inr rfl
theorem Says.fit {l : List UInt8} {s : StR} {z : Int} (h : Says l s.p z) : s.p.fit ∧ (∀ r ∈ s.rs, ArgFine r) ∧ s.rs.length ≤ 64 ∧ (∀ r ∈ s.rs, r.2.2.wd.length ≤ 1000000) := by
  rcases h with ⟨h1, _, _⟩ | ⟨h1, _, _⟩
  · have h2 := ok_fit h1
    have h3 := h1.len
    unfold StR.p at h3
    rw [List.length_map] at h3
    exact ⟨h2.1, h2.2, h3, fun r hr => (h2.2 r hr).fit.wd⟩
  · have h2 : s.rs = [] := by
      unfold StR.p zeroP at h1
      injection h1 with _ _ h3
      exact List.map_eq_nil_iff.1 h3
    have h3 : ∀ r ∈ s.rs, ArgFine r := fun r hr => by rw [h2] at hr; cases hr
    refine ⟨by rw [h1]; exact ⟨Nat.zero_le _, Nat.zero_le _, Nat.zero_le _, fun x hx => by cases hx⟩, h3, by rw [h2]; exact Nat.zero_le _, fun r hr => by rw [h2] at hr; cases hr⟩
theorem ReadOut.get {w w' : World} {l : List UInt8} {e : Ending} (h : ReadOut w l e w') : ∃ (s : StR) (z : Int), e = .returned (.tuple #[.agg s.cells, .int .i64 z]) ∧ Says l s.p z ∧ LentA w' w.heap.size (.slice s.A s.rs.length s.c) s.rs ∧ Below w.heap.size w w' := by
  obtain ⟨⟨s, he, h1, h2, h3⟩ | ⟨he, h1⟩, hb⟩ := h
  · exact ⟨s, 0, he, .inl ⟨h1, h2, rfl⟩, h3, hb⟩
  · exact ⟨⟨⟨#[]⟩, ⟨#[]⟩, none, 0, []⟩, 400, he, .inr ⟨rfl, rfl, h1⟩, ⟨OwnA.nil _ _, fun r hr => by cases hr⟩, hb⟩
theorem LentA.low {w : World} {B : Nat} {v : Value} {rs : List ARow} (h : LentA w B v rs) {a : Addr} (ha : a.block < B) (u : Value) : LentA (w.setCell a u) B v rs :=
  ⟨ownsRow_setCell_below h.1 ha u, fun r hr => ownsRow_setCell_below (h.2 r hr) ha u⟩
theorem LentA.lower {w : World} {B B' : Nat} {v : Value} {rs : List ARow} (h : LentA w B v rs) (hB : B' ≤ B) : LentA w B' v rs := by
  refine ⟨⟨h.1.1, ?_⟩, fun r hr => (h.2 r hr).lower hB⟩
  rcases h.1.2 with h1 | ⟨g, cap, cur, h1, h2, h3⟩
  · exact .inl h1
  · exact .inr ⟨g, cap, cur, h1, Nat.le_trans hB h2, h3⟩
/-- what is held while the first answer is written over -/
structure LrS (w wr : World) (E b3 b5 b7 gA : Nat) (s t q : StR) (i : Nat) : Prop where
  x3 : Blk wr b3 25 s.cells
  x5 : Blk wr b5 25 t.cells
  x7 : Blk wr b7 25 q.cells
  e3 : E ≤ b3
  e5 : E ≤ b5
  e7 : E ≤ b7
  tl : LentA wr E (.slice t.A t.rs.length t.c) t.rs
  ql : LentA wr E (.slice q.A q.rs.length q.c) q.rs
  b : Below w.heap.size w wr
  row : ∀ k (hk : k < s.rs.length), i ≤ k → s.A = some ⟨gA, 0, none⟩ ∧ w.heap.size ≤ gA ∧ gA < E ∧ ∃ cs, Blk wr gA 41 cs ∧ k * 12 + 12 ≤ cs.size ∧ cs[k * 12 + 10]? = some (.slice s.rs[k].1 s.rs[k].2.2.wd.length s.rs[k].2.1)
  wd : ∀ r ∈ s.rs, 0 < r.2.2.wd.length → ∃ g cs, r.1 = some ⟨g, 0, none⟩ ∧ Blk wr g 3 cs ∧ r.2.2.wd.length ≤ cs.size ∧ w.heap.size ≤ g ∧ g < E
section
variable {w wr w' : World} {E b3 b5 b7 gA i : Nat} {s t q : StR}
theorem LrS.next (h : LrS w wr E b3 b5 b7 gA s t q i) : LrS w wr E b3 b5 b7 gA s t q (i + 1) :=
  ⟨h.x3, h.x5, h.x7, h.e3, h.e5, h.e7, h.tl, h.ql, h.b, fun k hk hi => h.row k hk (by omega), h.wd⟩
theorem LrS.below (h : LrS w wr E b3 b5 b7 gA s t q i) (hE : E ≤ wr.heap.size) (hb : Below wr.heap.size wr w') : LrS w w' E b3 b5 b7 gA s t q i :=
  ⟨h.x3.below hb h.x3.lt, h.x5.below hb h.x5.lt, h.x7.below hb h.x7.lt, h.e3, h.e5, h.e7, h.tl.kept hb, h.ql.kept hb, h.b.trans (hb.mono h.b.size),
    fun k hk hi => by
      obtain ⟨h1, h2, h3, cs, h4, h5, h6⟩ := h.row k hk hi
      exact ⟨h1, h2, h3, cs, h4.below hb h4.lt, h5, h6⟩,
    fun r hr h0 => by
      obtain ⟨g, cs, h1, h2, h3, h4, h5⟩ := h.wd r hr h0
      exact ⟨g, cs, h1, h2.below hb h2.lt, h3, h4, h5⟩⟩
/-- a cell of the first answer's is written -/
theorem LrS.put (h : LrS w wr E b3 b5 b7 gA s t q i) {g k : Nat} (h1 : w.heap.size ≤ g) (h2 : g < E) (h3 : g = gA → k < i * 12) (u : Value) : LrS w (wr.setCell ⟨g, k, none⟩ u) E b3 b5 b7 gA s t q i :=
  ⟨h.x3.far (p := ⟨g, k, none⟩) (by have := h.e3; show b3 ≠ g; omega) u, h.x5.far (p := ⟨g, k, none⟩) (by have := h.e5; show b5 ≠ g; omega) u, h.x7.far (p := ⟨g, k, none⟩) (by have := h.e7; show b7 ≠ g; omega) u, h.e3, h.e5, h.e7,
    h.tl.low (a := ⟨g, k, none⟩) h2 u, h.ql.low (a := ⟨g, k, none⟩) h2 u, h.b.setCell (p := ⟨g, k, none⟩) h1 u,
    fun j hj hi => by
      obtain ⟨k1, k2, k3, cs, k4, k5, k6⟩ := h.row j hj hi
      by_cases hg : g = gA
      · subst hg
        have hk := h3 rfl
        refine ⟨k1, k2, k3, _, k4.set_ k u, by rw [Array.size_setIfInBounds]; exact k5, ?_⟩
        rw [Array.getElem?_setIfInBounds_ne (by omega)]
        exact k6
      · exact ⟨k1, k2, k3, cs, k4.far (p := ⟨g, k, none⟩) (fun e => hg e.symm) u, k5, k6⟩,
    fun r hr h0 => by
      obtain ⟨g', cs, k1, k2, k3, k4, k5⟩ := h.wd r hr h0
      by_cases hg : g' = g
      · subst hg
        exact ⟨g', _, k1, k2.set_ k u, by rw [Array.size_setIfInBounds]; exact k3, k4, k5⟩
      · exact ⟨g', cs, k1, k2.far (p := ⟨g, k, none⟩) hg u, k3, k4, k5⟩⟩
theorem LrS.start {W1 : World} (h1 : LentA W1 w.heap.size (.slice s.A s.rs.length s.c) s.rs) (hb : Below W1.heap.size W1 wr) (h3 : Blk wr b3 25 s.cells) (h5 : Blk wr b5 25 t.cells) (h7 : Blk wr b7 25 q.cells) (e3 : W1.heap.size ≤ b3) (e5 : W1.heap.size ≤ b5) (e7 : W1.heap.size ≤ b7)
    (ht : LentA wr W1.heap.size (.slice t.A t.rs.length t.c) t.rs) (hq : LentA wr W1.heap.size (.slice q.A q.rs.length q.c) q.rs) (hw : Below w.heap.size w wr) : ∃ gA, LrS w wr W1.heap.size b3 b5 b7 gA s t q 0 := by
  have hwd : ∀ r ∈ s.rs, 0 < r.2.2.wd.length → ∃ g cs, r.1 = some ⟨g, 0, none⟩ ∧ Blk wr g 3 cs ∧ r.2.2.wd.length ≤ cs.size ∧ w.heap.size ≤ g ∧ g < W1.heap.size := fun r hr h0 => by
    rcases (h1.2 r hr).2 with ⟨_, h2⟩ | ⟨g, cap, cur, hv, hbs, hh, hc, hm, hz, _⟩
    · omega
    · injection hv with hv _ _
      have hB : Blk W1 g 3 cur := hh
      exact ⟨g, cur, hv, hB.below hb hB.lt, by omega, hbs, hB.lt⟩
  rcases h1.1.2 with ⟨_, h0⟩ | ⟨g, cap, cur, hv, hbs, hh, hc, hm, hz, htk⟩
  · exact ⟨0, h3, h5, h7, e3, e5, e7, ht, hq, hw, fun k hk _ => by omega, hwd⟩
  · injection hv with hv _ _
    have hB : Blk W1 g 41 cur := hh
    refine ⟨g, h3, h5, h7, e3, e5, e7, ht, hq, hw, fun k hk _ => ⟨hv, hbs, hB.lt, cur, hB.below hb hB.lt, by omega, ?_⟩, hwd⟩
    have e1 := acs_get s.rs k hk 10 (by decide)
    rw [← htk] at e1
    rw [List.getElem?_take_of_lt (by omega)] at e1
    rw [show k * 12 + 10 = 12 * k + 10 by omega, ← Array.getElem?_toList, e1]
    rfl
end
end Go.Proofs.YtebpggfccljagaaGreatDoor

/- law30.ScriptRead (printed by gen_lreads.py). -/
namespace Go.Proofs.YtebpggfccljagaaGreatDoor
open Go.RowKit
open Wh
set_option linter.unusedSimpArgs false
set_option linter.unusedVariables false

set_option maxRecDepth 100000 in
set_option maxHeartbeats 8000000 in
theorem sreadlaw_any {w : World} {B : Nat} (hg : Gl B w) {s : ByteArray} : Calls Tryz.prog 3 #[.string s] w (fun e w' => e = .returned (.bool true) ∧ Below w.heap.size w w') := by
  have HK := Lib.hid (fun W (hb : Below w.heap.size w W) => known_any (hg.below hb))
  have HG := Lib.hid hg
  clear hg
  by_cases hlen : (3000 : Int) < (s.size : Int)
  · go_enter Tryz.func3, Tryz.ntmps3
    go_wp2_with fail
    refine (HK.out _ (Below.refl _ _)).mono ?_
    rintro _ W1 ⟨rfl, hb1⟩
    go_wp2_with fail
    go_ret
    exact ⟨rfl, hb1⟩
  have HS6 := Lib.hid (show s.size ≤ 6000 by omega)
  go_enter Tryz.func3, Tryz.ntmps3
  go_wp2_with fail
  refine (sread_any HG.out HS6.out).mono ?_
  intro e W1 hR1
  obtain ⟨⟨v1, m1, A1, c1, r1⟩, z1, rfl, hs1, hl1, hb1⟩ := hR1.get
  unfold StR.cells
  simp only at hl1 ⊢
  clear hR1
  have hg1 := (HG.out.below hb1).alloc (.cells #[.string v1, .string m1, .slice A1 r1.length c1] 25)
  have H1 := Lib.hid (And.intro hs1 (And.intro hl1 (And.intro hb1 hg1)))
  clear hs1 hl1 hb1 hg1
  go_wp2_with fail
  refine (sread_any H1.out.2.2.2 HS6.out).mono ?_
  intro e W2 hR2
  obtain ⟨⟨v2, m2, A2, c2, r2⟩, z2, rfl, hs2, hl2, hb2⟩ := hR2.get
  unfold StR.cells
  simp only at hl2 ⊢
  clear hR2
  have hg2 := (H1.out.2.2.2.below hb2).alloc (.cells #[.string v2, .string m2, .slice A2 r2.length c2] 25)
  have H2 := Lib.hid (And.intro hs2 (And.intro hl2 (And.intro hb2 hg2)))
  clear hs2 hl2 hb2 hg2
  go_wp2_with fail
  refine (rsread_any H2.out.2.2.2 HS6.out).mono ?_
  intro e W3 hR3
  obtain ⟨⟨v3, m3, A3, c3, r3⟩, z3, rfl, hs3, hl3, hb3⟩ := hR3.get
  unfold StR.cells
  simp only at hl3 ⊢
  clear hR3
  obtain ⟨e12, _⟩ := H2.out.1.uniq H1.out.1
  obtain ⟨e13, rfl⟩ := hs3.uniq H1.out.1
  have HE := Lib.hid (And.intro e12 e13)
  have HF1 := Lib.hid H1.out.1.fit
  have HF2 := Lib.hid H2.out.1.fit
  have HF3 := Lib.hid hs3.fit
  clear hs3 e12 e13
  have hz1 : W1.heap.size < W2.heap.size := by have := hb3.size; have := H2.out.2.2.1.size; simp only [World.size_alloc] at this; omega
  have hz2 : W2.heap.size < W3.heap.size := by have := hb3.size; simp only [World.size_alloc] at this; omega
  -- the three statements' boxes
  have y3 := (Blk.new W1 25 #[.string v1, .string m1, .slice A1 r1.length c1])
  have y3b := ((y3.below H2.out.2.2.1 y3.lt).alloc (.cells #[.string v2, .string m2, .slice A2 r2.length c2] 25))
  have y5 := (Blk.new W2 25 #[.string v2, .string m2, .slice A2 r2.length c2])
  have x3 := (y3b.below hb3 y3b.lt).alloc (.cells #[.string v3, .string m3, .slice A3 r3.length c3] 25)
  have x5 := (y5.below hb3 y5.lt).alloc (.cells #[.string v3, .string m3, .slice A3 r3.length c3] 25)
  have x7 := Blk.new W3 25 #[.string v3, .string m3, .slice A3 r3.length c3]
  clear y3 y3b y5
  have hbE : Below W1.heap.size W1 (W3.alloc (.cells #[.string v3, .string m3, .slice A3 r3.length c3] 25)) := by
    have h1 := new_below W1 (.cells #[.string v1, .string m1, .slice A1 r1.length c1] 25)
    have h2 := (h1.trans (H2.out.2.2.1.mono h1.size))
    have h3 := h2.alloc h2.size (.cells #[.string v2, .string m2, .slice A2 r2.length c2] 25)
    have h4 := h3.trans (hb3.mono h3.size)
    exact h4.alloc h4.size _
  have htl : LentA (W3.alloc (.cells #[.string v3, .string m3, .slice A3 r3.length c3] 25)) W1.heap.size (.slice A2 r2.length c2) r2 := by
    have h1 := (H2.out.2.1.kept (new_below W2 (.cells #[.string v2, .string m2, .slice A2 r2.length c2] 25)))
    have h2 := (h1.kept hb3).kept (new_below W3 (.cells #[.string v3, .string m3, .slice A3 r3.length c3] 25))
    exact h2.lower (by simp)
  have hql : LentA (W3.alloc (.cells #[.string v3, .string m3, .slice A3 r3.length c3] 25)) W1.heap.size (.slice A3 r3.length c3) r3 :=
    (hl3.kept (new_below W3 (.cells #[.string v3, .string m3, .slice A3 r3.length c3] 25))).lower (by simp only [World.size_alloc]; omega)
  have hbw := H1.out.2.2.1.trans (hbE.mono H1.out.2.2.1.size)
  obtain ⟨gA, hst⟩ := LrS.start (s := ⟨v1, m1, A1, c1, r1⟩) (t := ⟨v2, m2, A2, c2, r2⟩) (q := ⟨v3, m3, A3, c3, r3⟩) H1.out.2.1 hbE x3 x5 x7 (Nat.le_refl _) (by omega) (by omega) htl hql hbw
  have hl1 := H1.out.2.1.kept hbE
  clear htl hql x3 x5 x7 hl3 hb3 hbE
  have Hz := Lib.hid (And.intro hz1 hz2)
  clear hz1 hz2
  go_upto_region 6 with fail
  generalize hW4 : W3.alloc (.cells #[.string v3, .string m3, .slice A3 r3.length c3] 25) = W4 at *
  clear hW4 H2 H1 hbw
  generalize W1.heap.size = E at *
  generalize W2.heap.size = b5 at *
  generalize W3.heap.size = b7 at *
  have Hst := Lib.hid hst
  have x0 : W4.cell? ⟨E, 0, none⟩ = some (.string v1) := Hst.out.x3.cell 0
  have x1 : W4.cell? ⟨E, 1, none⟩ = some (.string m1) := Hst.out.x3.cell 1
  have x2 : W4.cell? ⟨E, 2, none⟩ = some (.slice A1 r1.length c1) := Hst.out.x3.cell 2
  have y0 : W4.cell? ⟨b7, 0, none⟩ = some (.string v3) := Hst.out.x7.cell 0
  have y1 : W4.cell? ⟨b7, 1, none⟩ = some (.string m3) := Hst.out.x7.cell 1
  have y2 : W4.cell? ⟨b7, 2, none⟩ = some (.slice A3 r3.length c3) := Hst.out.x7.cell 2
  have HC := Lib.hid (sst_any (s := ⟨v1, m1, A1, c1, r1⟩) (t := ⟨v3, m3, A3, c3, r3⟩) (b := true) (lent_readsA hl1 HF1.out.2.1).1 (lent_readsA Hst.out.ql HF3.out.2.1).1 (Nat.le_refl _) HF1.out.1 HF3.out.1 ⟨fun _ => HE.out.2.symm, fun _ => rfl⟩)
  unfold StR.cells at HC
  simp only at HC
  clear hst hl1
  go_wp2_with fail
  refine HC.out.mono ?_
  rintro _ W5 ⟨rfl, hb5⟩
  have HL0 := Lib.hid (Hst.out.below (by have := Hst.out.x3.lt; have := Hst.out.e3; omega) hb5)
  clear x0 x1 x2 y0 y1 y2 hb5 HC Hst
  have Hn := Lib.hid (show r1.length ≤ 64 from HF1.out.2.2.1)
  go_wp2_with fail
  go_loopg [10, 11] r1.length (fun kk iv jv wq => ∃ i : Nat, iv = .int .i64 (i : Int) ∧ kk = r1.length - i ∧ i ≤ r1.length ∧ Hid (LrS w wq E E b5 b7 gA ⟨v1, m1, A1, c1, r1⟩ ⟨v2, m2, A2, c2, r2⟩ ⟨v3, m3, A3, c3, r3⟩ i))
  case atStart => exact ⟨0, rfl, by omega, by omega, HL0⟩
  case round =>
    obtain ⟨i, rfl, hk, hi, hO⟩ := hrel
    have Hk := Lib.hid hk
    clear hk
    have hc0 : wr.cell? ⟨E, 2, none⟩ = some (.slice A1 r1.length c1) := hO.out.x3.cell 2
    by_cases hin : i < r1.length
    · have hii : (i : Int) < (r1.length : Int) := by omega
      have hi0 : (0 : Int) ≤ (i : Int) := by omega
      have hi6 : (i : Int) ≤ 64 := by have := Hn.out; omega
      obtain ⟨hA, hg1, hg2, cs, hB, hsz, h10⟩ := hO.out.row i hin (Nat.le_refl _)
      simp only at hA h10
      subst hA
      have HR := Lib.hid (fun (W : World) (h : LrS w W E E b5 b7 gA ⟨v1, m1, some ⟨gA, 0, none⟩, c1, r1⟩ ⟨v2, m2, A2, c2, r2⟩ ⟨v3, m3, A3, c3, r3⟩ i) => h.row i hin (Nat.le_refl _))
      have HWd := Lib.hid (fun (W : World) (h : LrS w W E E b5 b7 gA ⟨v1, m1, some ⟨gA, 0, none⟩, c1, r1⟩ ⟨v2, m2, A2, c2, r2⟩ ⟨v3, m3, A3, c3, r3⟩ i) => h.wd _ (List.getElem_mem hin))
      have HwL := Lib.hid (HF1.out.2.2.2 _ (List.getElem_mem hin))
      simp only at HR HWd HwL
      clear h10 hsz hB cs
      generalize r1[i] = r at *
      obtain ⟨Aw, cw, x⟩ := r
      simp only at HR HWd HwL
      generalize hm : x.wd.length = m at *
      clear hm
      go_wp2_with fail
      go_loopg [11] m (fun kk jv wq => ∃ q : Nat, jv = .int .i64 (q : Int) ∧ kk = m - q ∧ q ≤ m ∧ Hid (LrS w wq E E b5 b7 gA ⟨v1, m1, some ⟨gA, 0, none⟩, c1, r1⟩ ⟨v2, m2, A2, c2, r2⟩ ⟨v3, m3, A3, c3, r3⟩ i))
      case atStart => exact ⟨0, rfl, by omega, by omega, hO⟩
      case round =>
        rename_i wo _ _
        obtain ⟨q, rfl, hk2, hq, hI⟩ := hrel
        have Hk2 := Lib.hid hk2
        clear hk2
        obtain ⟨_, hg1, hg2, cs, hB, hsz, h10⟩ := HR.out _ hI.out
        have hd0 : wr.cell? ⟨E, 2, none⟩ = some (.slice (some ⟨gA, 0, none⟩) r1.length c1) := hI.out.x3.cell 2
        have hd1 : wr.cell? ⟨gA, i * 12 + 10, none⟩ = some (.slice Aw m cw) := (hB.cell _).trans h10
        by_cases hqm : q < m
        · have hqi : (q : Int) < (m : Int) := by omega
          have hq0 : (0 : Int) ≤ (q : Int) := by omega
          have hq6 : (q : Int) ≤ 1000000 := by have := HwL.out; omega
          obtain ⟨gw, cs2, rfl, hB2, hsz2, hw1, hw2⟩ := HWd.out _ hI.out (by omega)
          have hd2 : wr.cell? ⟨gw, q, none⟩ = some cs2[q] := (hB2.cell q).trans (Array.getElem?_eq_getElem (by omega))
          generalize cs2[q] = u at *
          have hf2 := hB2.frozen q
          have Hnx := Lib.hid (hI.out.put hw1 hw2 (k := q) (fun e => absurd e (hB2.ne_ hB (by decide))) (.int .i64 99))
          clear hB2 hB h10
          go_wp2_with fail
          go_roundg (m - (q + 1))
          case measure => have := Hk2.out; omega
          case rel => exact ⟨q + 1, rfl, rfl, by omega, Hnx⟩
        · have hqi : ¬ (q : Int) < (m : Int) := by omega
          have hu0 : wr.cell? ⟨gA, i * 12, none⟩ = some (cs[i * 12]'(by omega)) := (hB.cell _).trans (Array.getElem?_eq_getElem (by omega))
          have hv0 := hB.frozen (i * 12)
          have hu1 : wr.cell? ⟨gA, i * 12 + 1, none⟩ = some (cs[i * 12 + 1]'(by omega)) := (hB.cell _).trans (Array.getElem?_eq_getElem (by omega))
          have hv1 := hB.frozen (i * 12 + 1)
          have hu2 : wr.cell? ⟨gA, i * 12 + 2, none⟩ = some (cs[i * 12 + 2]'(by omega)) := (hB.cell _).trans (Array.getElem?_eq_getElem (by omega))
          have hv2 := hB.frozen (i * 12 + 2)
          have hu3 : wr.cell? ⟨gA, i * 12 + 3, none⟩ = some (cs[i * 12 + 3]'(by omega)) := (hB.cell _).trans (Array.getElem?_eq_getElem (by omega))
          have hv3 := hB.frozen (i * 12 + 3)
          have hu4 : wr.cell? ⟨gA, i * 12 + 4, none⟩ = some (cs[i * 12 + 4]'(by omega)) := (hB.cell _).trans (Array.getElem?_eq_getElem (by omega))
          have hv4 := hB.frozen (i * 12 + 4)
          have hu5 : wr.cell? ⟨gA, i * 12 + 5, none⟩ = some (cs[i * 12 + 5]'(by omega)) := (hB.cell _).trans (Array.getElem?_eq_getElem (by omega))
          have hv5 := hB.frozen (i * 12 + 5)
          have hu6 : wr.cell? ⟨gA, i * 12 + 6, none⟩ = some (cs[i * 12 + 6]'(by omega)) := (hB.cell _).trans (Array.getElem?_eq_getElem (by omega))
          have hv6 := hB.frozen (i * 12 + 6)
          have hu7 : wr.cell? ⟨gA, i * 12 + 7, none⟩ = some (cs[i * 12 + 7]'(by omega)) := (hB.cell _).trans (Array.getElem?_eq_getElem (by omega))
          have hv7 := hB.frozen (i * 12 + 7)
          have hu8 : wr.cell? ⟨gA, i * 12 + 8, none⟩ = some (cs[i * 12 + 8]'(by omega)) := (hB.cell _).trans (Array.getElem?_eq_getElem (by omega))
          have hv8 := hB.frozen (i * 12 + 8)
          have hu9 : wr.cell? ⟨gA, i * 12 + 9, none⟩ = some (cs[i * 12 + 9]'(by omega)) := (hB.cell _).trans (Array.getElem?_eq_getElem (by omega))
          have hv9 := hB.frozen (i * 12 + 9)
          have hu10 : wr.cell? ⟨gA, i * 12 + 10, none⟩ = some (cs[i * 12 + 10]'(by omega)) := (hB.cell _).trans (Array.getElem?_eq_getElem (by omega))
          have hv10 := hB.frozen (i * 12 + 10)
          have hu11 : wr.cell? ⟨gA, i * 12 + 11, none⟩ = some (cs[i * 12 + 11]'(by omega)) := (hB.cell _).trans (Array.getElem?_eq_getElem (by omega))
          have hv11 := hB.frozen (i * 12 + 11)
          have Hnx := Lib.hid (((((((((((((hI.out.next).put hg1 hg2 (k := i * 12) (fun _ => by omega) (.int .i64 0)).put hg1 hg2 (k := i * 12 + 1) (fun _ => by omega) (.string ⟨#[]⟩)).put hg1 hg2 (k := i * 12 + 2) (fun _ => by omega) (.bool false)).put hg1 hg2 (k := i * 12 + 3) (fun _ => by omega) (.string ⟨#[]⟩)).put hg1 hg2 (k := i * 12 + 4) (fun _ => by omega) (.bool false)).put hg1 hg2 (k := i * 12 + 5) (fun _ => by omega) (.string ⟨#[]⟩)).put hg1 hg2 (k := i * 12 + 6) (fun _ => by omega) (.bool false)).put hg1 hg2 (k := i * 12 + 7) (fun _ => by omega) (.string ⟨#[]⟩)).put hg1 hg2 (k := i * 12 + 8) (fun _ => by omega) (.bool false)).put hg1 hg2 (k := i * 12 + 9) (fun _ => by omega) (.string ⟨#[]⟩)).put hg1 hg2 (k := i * 12 + 10) (fun _ => by omega) (.slice none 0 0)).put hg1 hg2 (k := i * 12 + 11) (fun _ => by omega) (.int .i64 0))
          clear hB h10
          go_wp2_with fail
          go_roundg (r1.length - (i + 1))
          case measure => have := Hk.out; omega
          case rel => exact ⟨i + 1, rfl, rfl, by omega, Hnx⟩
    · have hii : ¬ (i : Int) < (r1.length : Int) := by omega
      have y0 : wr.cell? ⟨b5, 0, none⟩ = some (.string v2) := hO.out.x5.cell 0
      have y1 : wr.cell? ⟨b5, 1, none⟩ = some (.string m2) := hO.out.x5.cell 1
      have y2 : wr.cell? ⟨b5, 2, none⟩ = some (.slice A2 r2.length c2) := hO.out.x5.cell 2
      have z0 : wr.cell? ⟨b7, 0, none⟩ = some (.string v3) := hO.out.x7.cell 0
      have z1 : wr.cell? ⟨b7, 1, none⟩ = some (.string m3) := hO.out.x7.cell 1
      have z2 : wr.cell? ⟨b7, 2, none⟩ = some (.slice A3 r3.length c3) := hO.out.x7.cell 2
      have HC := Lib.hid (sst_any (s := ⟨v2, m2, A2, c2, r2⟩) (t := ⟨v3, m3, A3, c3, r3⟩) (b := true) (lent_readsA hO.out.tl HF2.out.2.1).1 (lent_readsA hO.out.ql HF3.out.2.1).1 (Nat.le_refl _) HF2.out.1 HF3.out.1 ⟨fun _ => HE.out.1.trans HE.out.2.symm, fun _ => rfl⟩)
      unfold StR.cells at HC
      simp only at HC
      have HB := Lib.hid hO.out.b
      go_wp2_with fail
      refine HC.out.mono ?_
      rintro _ W8 ⟨rfl, hb8⟩
      have HB8 := Lib.hid (HB.out.trans (hb8.mono HB.out.size))
      go_wp2_with fail
      refine (HK.out _ HB8.out).mono ?_
      rintro _ W9 ⟨rfl, hb9⟩
      have HB9 := Lib.hid (HB8.out.trans (hb9.mono HB8.out.size))
      go_wp2_with fail
      go_ret
      exact ⟨rfl, HB9.out⟩
end Go.Proofs.YtebpggfccljagaaGreatDoor
