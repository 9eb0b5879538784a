/- tracerylaw01.spoil writes over its own bytes alone; told holds a form against what is wanted. -/
import Derived.Test.YtgmienlifnpniaaGauss
namespace Go.Proofs.Ytgmienlifnpniaa
open Go.RowKit

theorem wpB_append2 {w : World} {ops : Array Oper} {rest : List Oper} {o : Oper} {a : Act} {Q : Exit → Act → World → Prop} (hgd : o.guard = none) (s x : Operand)
    (ho : o.op = .call { callee := .builtin .append, args := #[s, x], argTypes := #[23, 23] }) (B : Nat) (v : Value) (l : List UInt8) (hown : OwnB w B v l) (hs : a.eval s = v)
    (B' : Nat) (A : Option Addr) (news : List UInt8) (hr : ReadsB w B' A news) (m c : Nat) (hm : m = news.length) (hx : a.eval x = .slice A m c) (hlen : l.length + news.length ≤ 140737488355328) (hbase : B ≤ w.heap.size)
    (h : ∀ A' n' c' w', OwnB w' B (.slice A' n' c') (l ++ news) → w.grownBy w' v.ownBlock → ((Value.slice A' n' c').ownBlock = v.ownBlock ∨ (Value.slice A' n' c').ownBlock = some w.heap.size) → wpList Try.prog ops Q rest (a.put o.dst (.slice A' n' c')) w') :
    wpList Try.prog ops Q (o :: rest) a w := by
  obtain ⟨i0, hi, hz0, hz1, hz2⟩ := info_parts infoB
  subst hm
  refine wpList_append_any w hgd s x 23 ho B 5 i0 (.int .u8 0) 1 1 Try.underlying23 hi hz0 hz1 hz2 rfl (by decide) v l.length (l.map bv) hs hown B' A news.length c (news.map bv) hx hr (bv_one _) (by unfold maxLen; omega) (by omega) hbase ?_
  intro v' w' h1 h2 h3
  have h4 : OwnB w' B v' (l ++ news) := by
    unfold OwnB
    rw [List.length_append, List.map_append]
    exact h1
  obtain ⟨A', c', rfl, _⟩ := h4.form
  exact h A' _ c' w' h4 h2 h3

theorem OwnB.put {w : World} {B g n c : Nat} {l : List UInt8} (h : OwnB w B (.slice (some ⟨g, 0, none⟩) n c) l) (i : Nat) (hi : i < n) (b : UInt8) :
    OwnB (w.setCell ⟨g, i, none⟩ (bv b)) B (.slice (some ⟨g, 0, none⟩) n c) (l.set i b) := by
  obtain rfl := h.len
  have := World.ownsRow.stored h i (bv b)
  unfold OwnB
  rw [List.length_set, List.map_set]
  exact this.1
theorem OwnB.at_ {w : World} {B g n c : Nat} {l : List UInt8} (h : OwnB w B (.slice (some ⟨g, 0, none⟩) n c) l) (i : Nat) (hi : i < n) : ∃ b : UInt8, w.cell? ⟨g, i, none⟩ = some (.int .u8 (b.toNat : Int)) := by
  obtain rfl := h.len
  have h1 := World.ownsRow.cellAt h i (by omega)
  refine ⟨l[i], ?_⟩
  rw [h1]
  simp [hi, bv]
theorem OwnB.free {w : World} {B g n c : Nat} {l : List UInt8} (h : OwnB w B (.slice (some ⟨g, 0, none⟩) n c) l) (i : Nat) : w.frozen? ⟨g, i, none⟩ = false := by
  obtain rfl := h.len
  exact World.ownsRow.frozenAt h i
theorem OwnB.kind {w : World} {B n c : Nat} {A : Option Addr} {l : List UInt8} (h : OwnB w B (.slice A n c) l) : (A = none ∧ n = 0 ∧ c = 0) ∨ ∃ g, A = some ⟨g, 0, none⟩ := by
  rcases h.2 with ⟨h', h0⟩ | ⟨g, cap, cur, h', _⟩
  · injection h' with h1 h2 h3
    exact .inl ⟨h1, h2, h3⟩
  · injection h' with h1
    exact .inr ⟨g, h1⟩

set_option maxRecDepth 100000 in
set_option maxHeartbeats 1000000 in
theorem spoil_any (A : Option Addr) (n c : Nat) (l : List UInt8) (w : World) (B : Nat) (h : OwnB w B (.slice A n c) l) (hl : l.length ≤ 1048576) (hB : B ≤ w.heap.size) :
    Calls Try.prog 20 #[.slice A n c] w fun e w' => e = .returned (.tuple #[]) ∧ w.grownBy w' (Value.slice A n c).ownBlock := by
  have hn := h.len
  have hn2 : n ≤ 1048576 := by omega
  go_enter Try.func20, Try.ntmps20
  go_wp2
  go_loopg [2] n (fun k i wr => ∃ (j : Nat) (l' : List UInt8), i = .int .i64 (j : Int) ∧ j + k = n ∧ l'.length = n ∧ OwnB wr B (.slice A n c) l' ∧ w.grownBy wr (Value.slice A n c).ownBlock)
  case atStart => exact ⟨0, l, rfl, by omega, hn.symm, h, World.grownBy.refl w _⟩
  case round =>
    obtain ⟨j, l', rfl, hj, hl', ho, hg⟩ := hrel
    have Hj := Lib.hid hj
    have Hl := Lib.hid hl'
    have Hn := Lib.hid hn
    clear hn
    by_cases hlt : j < n
    · clear hj hl'
      rcases ho.kind with ⟨rfl, rfl, rfl⟩ | ⟨g, rfl⟩
      · omega
      · obtain ⟨b, hc⟩ := ho.at_ j hlt
        have hf := ho.free j
        go_wp2
        go_roundg (n - (j + 1))
        case measure => have := Hj.out; omega
        case rel =>
          exact ⟨j + 1, l'.set j 90, by go_num, by omega, by rw [List.length_set]; exact Hl.out, ho.put j hlt 90, only_setCell (p := ⟨g, j, none⟩) hg (.inl rfl) _⟩
    · have hz : w.heap.size ≤ wr.heap.size := hg.size
      clear hj hl'
      go_wp2
      go_loopg [0, 3] 9 (fun k v i wr2 => ∃ (j2 : Nat) (A2 : Option Addr) (n2 c2 : Nat) (l2 : List UInt8), i = .int .i64 (j2 : Int) ∧ v = .slice A2 n2 c2 ∧ j2 + k = 9 ∧ Hid (l2.length = n + j2) ∧ OwnB wr2 B (.slice A2 n2 c2) l2 ∧ w.heap.size ≤ wr2.heap.size ∧
        w.grownBy wr2 (Value.slice A n c).ownBlock ∧ Hid ((Value.slice A2 n2 c2).ownBlock = (Value.slice A n c).ownBlock ∨ ∀ g, (Value.slice A2 n2 c2).ownBlock = some g → w.heap.size ≤ g))
      case atStart => exact ⟨0, A, n, c, l', rfl, rfl, rfl, Hl.out, ho, hz, hg, .inl rfl⟩
      case round =>
        obtain ⟨j2, A2, n2, c2, l2, rfl, rfl, hj2, hl2, ho2, hz2, hg2, hk⟩ := hrel
        have Hj2 := Lib.hid hj2
        have hj3 : j2 ≤ 9 := by omega
        by_cases hlt2 : j2 < 9
        · have hll : l2.length ≤ 1048590 := by have := hl2.out; omega
          clear hj2
          go_wp2_with (at_builtin; refine wpB_append2 rfl (.tmp 17) (.tmp 18) rfl B _ _ (ho2.alloc _) rfl _ _ [91] (lit_reads _ _ rfl (by decide)) _ _ rfl rfl (by rw [List.length_singleton]; omega) (by rw [World.size_alloc]; omega) ?_; intro A3 n3 c3 w3 ho3 hg3 hk3)
          go_roundg (9 - (j2 + 1))
          case measure => have := Hj2.out; omega
          case rel =>
            have hs3 := hg3.size
            rw [World.size_alloc] at hs3
            refine ⟨j2 + 1, A3, n3, c3, _, by go_num, rfl, by omega, by rw [List.length_append, List.length_singleton, hl2.out]; exact rfl, ho3, by omega, ?_, ?_⟩
            · exact ⟨hg3.os.trans hg2.os, hg3.tape.trans hg2.tape, hg3.output.trans hg2.output, by omega, fun i hi hne => by
                rw [hg3.block i (by rw [World.size_alloc]; omega) (fun e => by
                  rcases hk.out with h1 | h1
                  · exact hne (e.trans h1)
                  · have := h1 i e.symm; omega), Below.heap_alloc _ _ _ (by omega)]
                exact hg2.block i hi hne⟩
            · rcases hk3 with h1 | h1
              · rcases hk.out with h2 | h2
                · exact .inl (h1.trans h2)
                · exact .inr fun g hg => h2 g (h1.symm.trans hg)
              · refine .inr fun g hg => ?_
                have e : wr.heap.size + 1 = g := by
                  have := h1.symm.trans hg
                  rw [World.size_alloc] at this
                  exact Option.some.inj this
                omega
        · have hj9 : j2 = 9 := by omega
          subst hj9
          clear hj2
          go_wp2
          go_returns
          exact ⟨rfl, hg2⟩
end Go.Proofs.Ytgmienlifnpniaa
