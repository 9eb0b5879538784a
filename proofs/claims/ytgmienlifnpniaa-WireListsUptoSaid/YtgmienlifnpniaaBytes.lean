/- Byte slices: new bytes (OwnB), bytes that are read (ReadsB); append of bytes and of a string; a string made of bytes. -/
import Derived.Test.YtgmienlifnpniaaProg
import Derived.Test.YtgmienlifnpniaaKit
import Derived.WalkKit
import Derived.WalkLawsBesides
import Derived.WalkSpells
import Derived.Handy
import Derived.Deep.LoopGhost
import Derived.Lib.AppendStr
import Derived.Laws.BytesArg
namespace Go.Proofs.Ytgmienlifnpniaa
open Go.RowKit

/-- a byte as a value -/
def bv (b : UInt8) : Value := .int .u8 (b.toNat : Int)

theorem bv_one (l : List UInt8) : ∀ u ∈ l.map bv, u.oneCell' = true := by
  intro u hu
  obtain ⟨b, _, rfl⟩ := List.mem_map.1 hu
  rfl

/-- new bytes -/
def OwnB (w : World) (B : Nat) (v : Value) (l : List UInt8) : Prop := w.ownsRow B 5 1 v l.length (l.map bv)

/-- a slice's address, and the bytes that it reads, below block B -/
def ReadsB (w : World) (B : Nat) (A : Option Addr) (l : List UInt8) : Prop := Reads w B 1 A l.length (l.map bv)

theorem infoB : (Try.prog.info? 5).map (fun i => (i.zero, i.size, i.bytes)) = some (some (.int .u8 0), 1, 1) := by kernel_rfl

theorem OwnB.form {w : World} {B : Nat} {v : Value} {l : List UInt8} (h : OwnB w B v l) : ∃ A c, v = .slice A l.length c ∧ l.length ≤ c := by
  rcases h.2 with ⟨rfl, h0⟩ | ⟨g, cap, cur, rfl, _, _, hc, _⟩
  · exact ⟨none, 0, by rw [h0], by omega⟩
  · exact ⟨_, cap, rfl, hc⟩
theorem OwnB.len {w : World} {B n c : Nat} {A : Option Addr} {l : List UInt8} (h : OwnB w B (.slice A n c) l) : n = l.length := by
  obtain ⟨A', c', e, _⟩ := h.form
  injection e
theorem own_nil {w : World} {B : Nat} {v : Value} {l : List UInt8} (h : OwnB w B v l) (hv : v.ownBlock = none) : v = .slice none 0 0 := by
  rcases h.2 with ⟨rfl, _⟩ | ⟨g, cap, cur, rfl, _⟩
  · rfl
  · cases hv
theorem OwnB.far {w : World} {B g : Nat} {v : Value} {l : List UInt8} (h : OwnB w B v l) (hg : g < B) : some g ≠ v.ownBlock := by
  rcases h.2 with ⟨rfl, _⟩ | ⟨g', cap, cur, rfl, hb, _⟩
  · intro e; cases e
  · intro e
    have : g = g' := Option.some.inj e
    omega
theorem OwnB.grown {w w' : World} {B : Nat} {v : Value} {l : List UInt8} {r : Option Nat} (h : OwnB w B v l) (hg : w.grownBy w' r) (hr : v.ownBlock ≠ r ∨ v.ownBlock = none) : OwnB w' B v l := World.ownsRow.kept h hg hr.symm
theorem OwnB.reads {w : World} {B n c : Nat} {A : Option Addr} {l : List UInt8} (h : OwnB w B (.slice A n c) l) : ReadsB w w.heap.size A l := by
  obtain rfl := h.len
  exact Reads.of_own h
theorem OwnB.mono {w : World} {B B' : Nat} {v : Value} {l : List UInt8} (h : OwnB w B v l) (hB : B' ≤ B) : OwnB w B' v l := by
  refine ⟨h.1, ?_⟩
  rcases h.2 with h' | ⟨g, cap, cur, hv, hg, r⟩
  · exact .inl h'
  · exact .inr ⟨g, cap, cur, hv, by omega, r⟩
theorem OwnB.kept {w w' : World} {B : Nat} {v : Value} {l : List UInt8} (h : OwnB w B v l) (hb : Below w.heap.size w w') : OwnB w' B v l := by
  refine ⟨h.1, ?_⟩
  rcases h.2 with h' | ⟨g, cap, cur, hv, hg, hh, r⟩
  · exact .inl h'
  · exact .inr ⟨g, cap, cur, hv, hg, (hb.block g (lt_of_block hh)).trans hh, r⟩
theorem OwnB.alloc {w : World} {B : Nat} {v : Value} {l : List UInt8} (h : OwnB w B v l) (o : Obj) : OwnB (w.alloc o) B v l := World.ownsRow.alloc h o
theorem OwnB.drew {w : World} {B : Nat} {v : Value} {l : List UInt8} (h : OwnB w B v l) : OwnB w.drew B v l := h
theorem OwnB.drewN {w : World} {B : Nat} {v : Value} {l : List UInt8} (h : OwnB w B v l) (n : Nat) : OwnB (w.drewN n) B v l := h
theorem OwnB.nil (w : World) (B : Nat) : OwnB w B (.slice none 0 0) [] := World.ownsRow_nil w B _ 1

theorem OwnB.lit (w : World) (B : Nat) (l : List UInt8) (cs : Array Value) (n : Nat) (hcs : cs.toList = l.map bv) (hn : n = l.length) (hB : B ≤ w.heap.size) (hl : l.length ≤ 140737488355328) :
    OwnB (w.alloc (.cells cs 5)) B (.slice (some ⟨w.heap.size, 0, none⟩) n n) l := by
  subst hn
  have hs : cs.size = l.length := by rw [← Array.length_toList, hcs, List.length_map]
  exact ⟨by simp, .inr ⟨_, l.length, cs, rfl, hB, heap_alloc_new w _, Nat.le_refl _, by unfold maxLen; omega, by omega, by rw [hcs, Nat.mul_one, List.take_of_length_le (by simp)]⟩⟩
theorem ReadsB.alloc {w : World} {B : Nat} {A : Option Addr} {l : List UInt8} (h : ReadsB w B A l) (hB : B ≤ w.heap.size) (o : Obj) : ReadsB (w.alloc o) B A l := Reads.alloc h hB o

theorem wpB_append {w : World} {ops : Array Oper} {rest : List Oper} {o : Oper} {a : Act} {Q : Exit → Act → World → Prop} (hgd : o.guard = none) (s x : Operand)
    (ho : o.op = .call { callee := .builtin .append, args := #[s, x], argTypes := #[23, 23] }) (B : Nat) (v : Value) (l : List UInt8) (hown : OwnB w B v l) (hs : a.eval s = v)
    (B' : Nat) (A : Option Addr) (news : List UInt8) (hr : ReadsB w B' A news) (m c : Nat) (hm : m = news.length) (hx : a.eval x = .slice A m c) (hlen : l.length + news.length ≤ 140737488355328) (hbase : B ≤ w.heap.size)
    (h : ∀ A' n' c' w', OwnB w' B (.slice A' n' c') (l ++ news) → w.grownBy w' v.ownBlock → (v ≠ .slice none 0 0 → A' ≠ none) → wpList Try.prog ops Q rest (a.put o.dst (.slice A' n' c')) w') :
    wpList Try.prog ops Q (o :: rest) a w := by
  obtain ⟨i0, hi, hz0, hz1, hz2⟩ := info_parts infoB
  subst hm
  refine wpList_append_any w hgd s x 23 ho B 5 i0 (.int .u8 0) 1 1 Try.underlying23 hi hz0 hz1 hz2 rfl (by decide) v l.length (l.map bv) hs hown B' A news.length c (news.map bv) hx hr (bv_one _) (by unfold maxLen; omega) (by omega) hbase ?_
  intro v' w' h1 h2 h3
  have h4 : OwnB w' B v' (l ++ news) := by
    unfold OwnB
    rw [List.length_append, List.map_append]
    exact h1
  obtain ⟨A', c', rfl, _⟩ := h4.form
  refine h A' _ c' w' h4 h2 (fun hv => ?_)
  rintro rfl
  rcases h3 with h3 | h3
  · exact hv (own_nil hown h3.symm)
  · cases h3

theorem wpB_append_str {w : World} {ops : Array Oper} {rest : List Oper} {o : Oper} {a : Act} {Q : Exit → Act → World → Prop} (hgd : o.guard = none) (s x : Operand)
    (ho : o.op = .call { callee := .builtin .append, args := #[s, x], argTypes := #[23, 9] }) (B : Nat) (v : Value) (l : List UInt8) (hown : OwnB w B v l) (hs : a.eval s = v)
    (t : ByteArray) (hx : a.eval x = .string t) (hlen : l.length + t.size ≤ 140737488355328) (hbase : B ≤ w.heap.size)
    (h : ∀ A' n' c' w', OwnB w' B (.slice A' n' c') (l ++ t.data.toList) → w.grownBy w' v.ownBlock → wpList Try.prog ops Q rest (a.put o.dst (.slice A' n' c')) w') :
    wpList Try.prog ops Q (o :: rest) a w := by
  obtain ⟨i0, hi, hz0, hz1, hz2⟩ := info_parts infoB
  refine Lib.wpList_append_own_string w hgd s x 23 9 ho B 5 i0 Try.underlying23 Try.underlying9 hi hz0 hz1 hz2 v l.length (l.map bv) hs hown t hx (by unfold maxLen; omega) (by omega) hbase ?_
  intro v' w' h1 h2 _
  have h4 : OwnB w' B v' (l ++ t.data.toList) := by
    unfold OwnB
    rw [List.length_append, List.map_append]
    have e : t.data.toList.length = t.size := Array.length_toList
    rw [e]
    exact h1
  obtain ⟨A', c', rfl, _⟩ := h4.form
  exact h A' _ c' w' h4 h2

theorem stepB_append {w : World} {ops : Array Oper} {o : Oper} {a : Act} {K : Act → World → Prop} {Q : Exit → Act → World → Prop} {E : Prop} (hgd : o.guard = none) (s x : Operand)
    (ho : o.op = .call { callee := .builtin .append, args := #[s, x], argTypes := #[23, 23] }) (B : Nat) (v : Value) (l : List UInt8) (hown : OwnB w B v l) (hs : a.eval s = v)
    (B' : Nat) (A : Option Addr) (news : List UInt8) (hr : ReadsB w B' A news) (m c : Nat) (hm : m = news.length) (hx : a.eval x = .slice A m c) (hlen : l.length + news.length ≤ 140737488355328) (hbase : B ≤ w.heap.size)
    (h : ∀ A' n' c' w', OwnB w' B (.slice A' n' c') (l ++ news) → w.grownBy w' v.ownBlock → (v ≠ .slice none 0 0 → A' ≠ none) → K (a.put o.dst (.slice A' n' c')) w') :
    if Region.wanted o (yielded ops a.tmps) = true then Oper.wp Try.prog o a w K Q else E := by
  have hw : Region.wanted o (yielded ops a.tmps) = true := by simp [Region.wanted, hgd]
  rw [if_pos hw]
  obtain ⟨i0, hi, hz0, hz1, hz2⟩ := info_parts infoB
  subst hm
  refine wp_append_any w s x 23 ho B 5 i0 (.int .u8 0) 1 1 Try.underlying23 hi hz0 hz1 hz2 rfl (by decide) v l.length (l.map bv) hs hown B' A news.length c (news.map bv) hx hr (bv_one _) (by unfold maxLen; omega) (by omega) hbase ?_
  intro v' w' h1 h2 h3
  have h4 : OwnB w' B v' (l ++ news) := by
    unfold OwnB
    rw [List.length_append, List.map_append]
    exact h1
  obtain ⟨A', c', rfl, _⟩ := h4.form
  refine h A' _ c' w' h4 h2 (fun hv => ?_)
  rintro rfl
  rcases h3 with h3 | h3
  · exact hv (own_nil hown h3.symm)
  · cases h3

theorem stepB_append_str {w : World} {ops : Array Oper} {o : Oper} {a : Act} {K : Act → World → Prop} {Q : Exit → Act → World → Prop} {E : Prop} (hgd : o.guard = none) (s x : Operand)
    (ho : o.op = .call { callee := .builtin .append, args := #[s, x], argTypes := #[23, 9] }) (B : Nat) (v : Value) (l : List UInt8) (hown : OwnB w B v l) (hs : a.eval s = v)
    (t : ByteArray) (hx : a.eval x = .string t) (hlen : l.length + t.size ≤ 140737488355328) (hbase : B ≤ w.heap.size)
    (h : ∀ A' n' c' w', OwnB w' B (.slice A' n' c') (l ++ t.data.toList) → w.grownBy w' v.ownBlock → K (a.put o.dst (.slice A' n' c')) w') :
    if Region.wanted o (yielded ops a.tmps) = true then Oper.wp Try.prog o a w K Q else E := by
  have hw : Region.wanted o (yielded ops a.tmps) = true := by simp [Region.wanted, hgd]
  rw [if_pos hw]
  obtain ⟨i0, hi, hz0, hz1, hz2⟩ := info_parts infoB
  obtain ⟨v', w', hr, h1, h2, _⟩ := Lib.run_append_own_string (P := Try.prog) w B 23 9 o.type 5 i0 Try.underlying23 Try.underlying9 hi hz0 hz1 hz2 v l.length (l.map bv) hown t (by unfold maxLen; omega) (by omega) hbase
  have h4 : OwnB w' B v' (l ++ t.data.toList) := by
    unfold OwnB
    rw [List.length_append, List.map_append]
    have e : t.data.toList.length = t.size := Array.length_toList
    rw [e]
    exact h1
  obtain ⟨A', c', rfl, _⟩ := h4.form
  unfold Oper.wp execOp
  simp only [ho, resolve, invoke, builtin, Sem.run_bind, Sem.run_pure, Result.andThen_ok, List.map_toArray, List.map_cons, List.map_nil, hs, hx, hr]
  exact h A' _ c' w' h4 h2

theorem wpB_make {w : World} {ops : Array Oper} {rest : List Oper} {o : Oper} {a : Act} {Q : Exit → Act → World → Prop} (hgd : o.guard = none) (s x : Operand)
    (ho : o.op = .makeSlice 23 s x) (B : Nat) (kl kc : IntKind) (C : Int) (n : Nat) (hs : a.eval s = .int kl 0) (hx : a.eval x = .int kc C) (hC : C = (n : Int)) (hlen : n ≤ 281474976710656) (hbase : B ≤ w.heap.size)
    (h : ∀ w', OwnB w' B (.slice (some ⟨w.heap.size, 0, none⟩) 0 n) [] → w.grownBy w' none → wpList Try.prog ops Q rest (a.put o.dst (.slice (some ⟨w.heap.size, 0, none⟩) 0 n)) w') :
    wpList Try.prog ops Q (o :: rest) a w := by
  obtain ⟨i0, hi, hz0, hz1, hz2⟩ := info_parts infoB
  exact wpList_make_own w hgd s x 23 ho B 5 i0 (.int .u8 0) 1 Try.underlying23 hi hz0 hz1 kl kc C n hs hx hC (by rw [hz2]; omega) (by unfold maxLen; omega) hbase h

/-- string(b) -/
theorem run_str {w : World} {B n c : Nat} {A : Option Addr} {l : List UInt8} (hn : n = l.length) (hr : ReadsB w B A l) : (convert 23 9 (.slice A n c)).run Try.prog w = .ok (.string ⟨l.toArray⟩) w := by
  subst hn
  rw [run_convert_bytes_string w 23 9 5 A _ c Try.underlying23 Try.underlying5 Try.underlying9]
  rcases A with _ | ad
  · have hl : l = [] := by
      rcases Nat.eq_zero_or_pos l.length with h0 | h0
      · exact List.eq_nil_of_length_eq_zero h0
      · obtain ⟨_, h, _⟩ := hr.2 h0
        cases h
    subst hl
    simp [Conv.bytesToString]
    rfl
  · have e : l.map bv = (l.map fun b => (b.toNat : Int)).map (Value.int .u8) := by rw [List.map_map]; rfl
    have hc : ∀ (j : Nat) (u : Value), (l.map bv)[j]? = some u → w.cell? (ad.add j) = some u := by
      intro j u hu
      have h0 : 0 < l.length := by
        rcases Nat.eq_zero_or_pos l.length with h0 | h0
        · have hl := List.eq_nil_of_length_eq_zero h0
          subst hl
          simp at hu
        · exact h0
      obtain ⟨ad', h, _, hc⟩ := hr.2 h0
      injection h with h
      subst h
      exact hc j u hu
    have hl := run_loadCells_list (P := Try.prog) w ad (l.map bv) hc
    rw [List.length_map, e] at hl
    rw [run_bytesToString w ad l.length c _ hl, foldl_push_bytes]
    simp [ByteArray.empty, ByteArray.emptyWithCapacity]
    show [] ++ _ = l
    rw [List.nil_append]
    conv => rhs; rw [← List.map_id l]
    refine List.map_congr_left fun b _ => ?_
    simp

end Go.Proofs.Ytgmienlifnpniaa
