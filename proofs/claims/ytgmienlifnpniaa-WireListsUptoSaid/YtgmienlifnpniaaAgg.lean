/- Aggregates of many cells by whole blocks: loads, stores and results without an unrolling. -/
import Derived.Test.YtgmienlifnpniaaKit
import Derived.Deep.MidRow
namespace Go.Proofs.Ytgmienlifnpniaa
open Go.RowKit

theorem only_setCells {a w : World} {b : Nat} (h : a.grownBy w (some b)) : ∀ (vs : List Value) (o : Nat), a.grownBy (w.setCells b o vs) (some b)
  | [], _ => h
  | v :: vs, o => only_setCells (only_setCell (p := ⟨b, o, none⟩) h (.inl rfl) v) vs (o + 1)
theorem size_setCells (b : Nat) : ∀ (vs : List Value) (o : Nat) (w : World), (w.setCells b o vs).heap.size = w.heap.size
  | [], _, _ => rfl
  | _ :: vs, o, _ => (size_setCells b vs (o + 1) _).trans (World.size_setCell _ _ _)
theorem blk_setCells {b : Nat} {t : TypeId} : ∀ (vs : List Value) (o : Nat) (w : World) (cs : Array Value), Blk w b t cs → o + vs.length ≤ cs.size →
    Blk (w.setCells b o vs) b t (cs.toList.take o ++ vs ++ cs.toList.drop (o + vs.length)).toArray
  | [], o, w, cs, h, _ => by simpa [World.setCells] using h
  | v :: vs, o, w, cs, h, hl => by
    rw [List.length_cons] at hl
    have h1 := blk_setCells vs (o + 1) _ _ (h.set_ o v) (by simp; omega)
    have e : (cs.setIfInBounds o v).toList.take (o + 1) ++ vs ++ (cs.setIfInBounds o v).toList.drop (o + 1 + vs.length) = cs.toList.take o ++ (v :: vs) ++ cs.toList.drop (o + (v :: vs).length) := by
      rw [Array.toList_setIfInBounds, List.take_set, List.drop_set_of_lt (by omega), List.take_succ_eq_append_getElem (by simp; omega), List.set_append_right _ _ (by rw [List.length_take]; exact Nat.min_le_left _ _), List.length_take, List.length_cons]
      rw [show o - min o cs.toList.length = 0 by rw [Nat.min_eq_left (by simp; omega), Nat.sub_self], List.set_cons_zero, show o + 1 + vs.length = o + (vs.length + 1) by omega]
      simp
    rw [e] at h1
    exact h1

section
variable {P : Program} {w : World}
/-- a store of a part of a block -/
theorem wpList_store_part {ops : Array Oper} {rest : List Oper} {op : Oper} {a : Act} {Q : Exit → Act → World → Prop} (hgd : op.guard = none) (ty : TypeId) (x y : Operand) (ho : op.op = .store ty x y)
    (b o : Nat) (cells : Array Value) (hx : a.eval x = .pointer (some ⟨b, o, none⟩)) (hy : a.eval y = .agg cells) (t : TypeId) (cs cs' : Array Value) (hb : Blk w b t cs)
    (hle : o + cells.size ≤ cs.size) (hcs : cs.toList.take o ++ cells.toList ++ cs.toList.drop (o + cells.size) = cs'.toList)
    (hi : (P.info? ty).map (·.size) = some cells.size) (h1 : cells.all (·.oneCell') = true)
    (h : ∀ w', Blk w' b t cs' → w.grownBy w' (some b) → w'.heap.size = w.heap.size → wpList P ops Q rest (a.put op.dst undef) w') : wpList P ops Q (op :: rest) a w := by
  refine wpList_store_mid hgd ty x y ho b o cells hx hy ?_ hi h1 (h _ ?_ (only_setCells (World.grownBy.refl w _) _ _) (size_setCells _ _ _ _))
  · intro j hj
    refine ⟨?_, hb.frozen _⟩
    rw [hb.cell, Array.getElem?_eq_getElem (by omega)]
    rfl
  · have := blk_setCells cells.toList o w cs hb (by simpa using hle)
    rw [Array.length_toList, hcs] at this
    simpa using this
/-- a load of a part of a block -/
theorem wpList_load_part {ops : Array Oper} {rest : List Oper} {op : Oper} {a : Act} {Q : Exit → Act → World → Prop} (hgd : op.guard = none) (ty : TypeId) (x : Operand) (ho : op.op = .load ty x)
    (b o : Nat) (hx : a.eval x = .pointer (some ⟨b, o, none⟩)) (t : TypeId) (cs cs' : Array Value) (d : TypeDesc) (hb : Blk w b t cs) (hcs : (cs.extract o (o + cs'.size)).toList = cs'.toList)
    (hu : P.underlying ty = some d) (hd : d.isRow = true) (hi : (P.info? ty).map (·.size) = some cs'.size)
    (h : wpList P ops Q rest (a.put op.dst (.agg cs')) w) : wpList P ops Q (op :: rest) a w := by
  refine wpList_load_mid hgd ty x ho b o hx cs'.toList d ?_ hu hd (by simpa using hi) (by simpa using h)
  rw [← hcs]
  exact World.rangeAt_of_block hb o cs'.size
theorem results_row_tmp {fn : Func} {p q : Tmp} {ty : TypeId} (h : fn.results = #[.cell p ty, .tmp q]) (tmps : Array Value) (g : Nat) (t : TypeId) (cs : Array Value) (d : TypeDesc)
    (hp : tmps.getD p undef = .pointer (some ⟨g, 0, none⟩)) (hg : Blk w g t cs)
    (hu : P.underlying ty = some d) (hd : d.isRow = true) (hi : (P.info? ty).map (·.size) = some cs.size) :
    (results fn tmps).run P w = .ok (.tuple #[.agg cs, tmps.getD q undef]) w := by
  have hp' : tmps[p]?.getD undef = .pointer (some ⟨g, 0, none⟩) := by simpa using hp
  have hr := World.rangeAt_of_block (w := w) hg 0 cs.size
  rw [Nat.zero_add, Array.extract_size] at hr
  have hl := run_loadVar_mid (P := P) w g 0 ty cs.toList d hr hu hd (by simpa using hi)
  simp [results, h, hp', asAddr, hl]
end
end Go.Proofs.Ytgmienlifnpniaa
