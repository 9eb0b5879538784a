/- The reader in memory: Open, there, Place, Left, bytes. -/
import Derived.Test.YtgmienlifnpniaaNum
import Derived.BigQuiet
import Derived.Laws.MakeOwn
namespace Go.Proofs.Ytgmienlifnpniaa
open Go.RowKit

/-- A reader at g: its bytes l in a row of its own, at a place. -/
structure Rd (w : World) (B g : Nat) (v : Value) (l : List UInt8) (at_ : Nat) : Prop where
  base : B ≤ g
  blk : Blk w g 100 #[v, .int .i64 (at_ : Int)]
  own : OwnB w B v l
  yes : v ≠ .slice none 0 0
  le : at_ ≤ l.length
  len : l.length ≤ 140737488355328

theorem Rd.form {w : World} {B g : Nat} {v : Value} {l : List UInt8} {a : Nat} (h : Rd w B g v l a) :
    ∃ bb c, v = .slice (some ⟨bb, 0, none⟩) l.length c ∧ l.length ≤ c ∧ c ≤ maxLen ∧ bb ≠ g ∧ bb < w.heap.size ∧ (∀ j (hj : j < l.length), w.cell? ⟨bb, j, none⟩ = some (bv l[j])) := by
  have hne := own_blk_ne h.own h.blk (by decide)
  rcases h.own.2 with ⟨hv, _⟩ | ⟨bb, cap, cur, hv, hb, hh, hc, hm, _⟩
  · exact absurd hv h.yes
  · subst hv
    refine ⟨bb, cap, rfl, hc, hm, fun e => hne (by rw [e]; rfl), lt_of_block hh, fun j hj => ?_⟩
    have h1 := World.ownsRow.cellAt h.own j (by omega)
    rw [h1]
    simp [hj]

theorem Rd.kept {w w' : World} {B g : Nat} {v : Value} {l : List UInt8} {a : Nat} (h : Rd w B g v l a) (hb : Below w.heap.size w w') : Rd w' B g v l a :=
  ⟨h.base, h.blk.below hb h.blk.lt, h.own.kept hb, h.yes, h.le, h.len⟩
theorem Rd.drewN {w : World} {B g : Nat} {v : Value} {l : List UInt8} {a : Nat} (h : Rd w B g v l a) (n : Nat) : Rd (w.drewN n) B g v l a :=
  ⟨h.base, h.blk, h.own, h.yes, h.le, h.len⟩
theorem Rd.drew {w : World} {B g : Nat} {v : Value} {l : List UInt8} {a : Nat} (h : Rd w B g v l a) : Rd w.drew B g v l a :=
  ⟨h.base, h.blk, h.own, h.yes, h.le, h.len⟩
theorem Rd.alloc {w : World} {B g : Nat} {v : Value} {l : List UInt8} {a : Nat} (h : Rd w B g v l a) (o : Obj) : Rd (w.alloc o) B g v l a :=
  ⟨h.base, h.blk.alloc o, h.own.alloc o, h.yes, h.le, h.len⟩
theorem Rd.far {w : World} {B g : Nat} {v : Value} {l : List UInt8} {a : Nat} (h : Rd w B g v l a) {p : Addr} (hp : p.block ≠ g) (hp2 : v.ownBlock ≠ some p.block) (u : Value) : Rd (w.setCell p u) B g v l a :=
  ⟨h.base, h.blk.far (fun e => hp e.symm) u, ownsRow_setCell_other h.own hp2 u, h.yes, h.le, h.len⟩
/-- the reader goes on -/
theorem Rd.go {w : World} {B g : Nat} {v : Value} {l : List UInt8} {a : Nat} (h : Rd w B g v l a) (n : Nat) (hn : n ≤ l.length) : Rd (w.setCell ⟨g, 1, none⟩ (.int .i64 (n : Int))) B g v l n := by
  have hne := own_blk_ne h.own h.blk (by decide)
  exact ⟨h.base, h.blk.set_ 1 _, ownsRow_setCell_other h.own (a := ⟨g, 1, none⟩) hne _, h.yes, hn, h.len⟩
theorem Rd.c0 {w : World} {B g : Nat} {v : Value} {l : List UInt8} {a : Nat} (h : Rd w B g v l a) : w.cell? ⟨g, 0, none⟩ = some v := h.blk.cell 0
theorem Rd.c1 {w : World} {B g : Nat} {v : Value} {l : List UInt8} {a : Nat} (h : Rd w B g v l a) : w.cell? ⟨g, 1, none⟩ = some (.int .i64 (a : Int)) := h.blk.cell 1
theorem Rd.f1 {w : World} {B g : Nat} {v : Value} {l : List UInt8} {a : Nat} (h : Rd w B g v l a) : w.frozen? ⟨g, 1, none⟩ = false := h.blk.frozen 1

set_option maxRecDepth 100000 in
set_option maxHeartbeats 400000 in
theorem open_any (A : Option Addr) (n c : Nat) (l : List UInt8) (w : World) (hr : ReadsB w w.heap.size A l) (hl : l.length ≤ 140737488355327) (hn : n = l.length) :
    Calls Try.prog 34 #[.slice A n c] w fun e w' => ∃ g v, e = .returned (.pointer (some ⟨g, 0, none⟩)) ∧ Rd w' w.heap.size g v l 0 ∧ Below w.heap.size w w' := by
  subst hn
  go_enter Try.func34, Try.ntmps34
  go_wp2_with (first
    | (at_make; refine wpB_make rfl _ _ rfl w.heap.size _ _ _ (l.length + 1) rfl rfl (by omega) (by omega) (Nat.le_refl _) ?_
       intro w1 ho1 hg1
       have hr1 : ReadsB w1 w.heap.size A l := hr.grown hg1 (Nat.le_refl _) (by intro g h; cases h)
       have hs1 := hg1.size
       have hb1 : Below w.heap.size w w1 := (Below.refl _ _).grown hg1 (Nat.le_refl _) (by intro g h; cases h))
    | (at_builtin; refine wpB_append rfl (.tmp 6) (.tmp 7) rfl w.heap.size _ [] ho1 rfl _ _ l hr1 _ _ rfl rfl (by simp; omega) hs1 ?_; intro A' n' c' w2 ho2 hg2 hv2))
  have hs2 := hg2.size
  have hb2 : Below w.heap.size w w2 := hb1.grown hg2 hs1 (fun k hk => by have e : w.heap.size = k := Option.some.inj hk; omega)
  have hy : Value.slice A' n' c' ≠ .slice none 0 0 := by
    intro h
    injection h with h
    exact hv2 (by simp) h
  go_ret
  exact ⟨_, _, rfl, ⟨by omega, Blk.new _ _ _, ho2.alloc _, hy, Nat.zero_le _, by omega⟩, hb2.alloc (by omega) _⟩

theorem ret_i64 {a b : Int} (h : a = b) : Ending.returned (.int .i64 a) = .returned (.int .i64 b) := by rw [h]

theorem there_any {w : World} {B g : Nat} {v : Value} {l : List UInt8} {a : Nat} (h : Rd w B g v l a) :
    Calls Try.prog 60 #[.pointer (some ⟨g, 0, none⟩)] w fun e w' => e = .returned (.bool true) ∧ w = w' := by
  obtain ⟨bb, c, rfl, _⟩ := h.form
  have c0 := h.c0
  go_enter Try.func60, Try.ntmps60
  go_wp2
  go_ret
  exact ⟨rfl, rfl⟩

theorem place_any {w : World} {B g : Nat} {v : Value} {l : List UInt8} {a : Nat} (h : Rd w B g v l a) :
    Calls Try.prog 37 #[.pointer (some ⟨g, 0, none⟩)] w fun e w' => e = .returned (.int .i64 (a : Int)) ∧ w = w' := by
  have H := Lib.hid (there_any h)
  have c1 := h.c1
  go_enter Try.func37, Try.ntmps37
  go_wp2_with (go_at_call 60; refine H.out.mono ?_; rintro e w' ⟨rfl, rfl⟩)
  go_ret
  exact ⟨rfl, rfl⟩

theorem left_any {w : World} {B g : Nat} {v : Value} {l : List UInt8} {a : Nat} (h : Rd w B g v l a) :
    Calls Try.prog 38 #[.pointer (some ⟨g, 0, none⟩)] w fun e w' => e = .returned (.int .i64 ((l.length - a : Nat) : Int)) ∧ ∃ n, w.drewN n = w' := by
  have H := Lib.hid (there_any h)
  obtain ⟨bb, c, rfl, _⟩ := h.form
  have c1 := h.c1
  have c0 := h.c0
  have h1 := h.le
  have h2 := h.len
  go_enter Try.func38, Try.ntmps38
  go_wp2_with (first | (go_at_call 60; refine H.out.mono ?_; rintro e w' ⟨rfl, rfl⟩) | go_quiet (fail))
  go_ret
  exact ⟨ret_i64 (by omega), nq, rfl⟩

/-- bytes: there are not so many -/
theorem bytes_no {w : World} {B g : Nat} {v : Value} {l : List UInt8} {a : Nat} (h : Rd w B g v l a) (n : Int) (hn : ((l.length - a : Nat) : Int) < n) (hn2 : n < 18446744073709551616) :
    Calls Try.prog 68 #[.pointer (some ⟨g, 0, none⟩), .int .u64 n] w fun e w' => e = .returned (.tuple #[.string ⟨#[]⟩, .int .i64 110]) ∧ ∃ n, w.drewN n = w' := by
  have H := Lib.hid (left_any h)
  have h2 := h.len
  have h3 : ((l.length - a : Nat) : Int) ≤ 140737488355328 := by omega
  generalize l.length - a = m at *
  clear h2 h
  go_enter Try.func68, Try.ntmps68
  go_wp2_with (go_at_call 38; refine H.out.mono ?_; rintro e w' ⟨rfl, nq, rfl⟩)
  go_ret2
  exact ⟨rfl, nq, rfl⟩

theorem slice_str {w : World} {bb c a n : Nat} {l : List UInt8} (hc : ∀ j (hj : j < l.length), w.cell? ⟨bb, j, none⟩ = some (bv l[j])) (hb : bb < w.heap.size) (hn : a + n ≤ l.length) (m : Nat) (hm : m = n) :
    (convert 23 9 (.slice (some ⟨bb, a, none⟩) m c)).run Try.prog w = .ok (.string ⟨((l.drop a).take n).toArray⟩) w := by
  subst hm
  refine run_str (B := w.heap.size) (by simp; omega) ⟨by simp, fun _ => ⟨_, rfl, hb, fun j u hu => ?_⟩⟩
  have hj : j < m := by
    have := (List.getElem?_eq_some_iff.1 hu).1
    simp at this
    omega
  rw [Addr.add_lit, hc (a + j) (by omega)]
  rw [List.getElem?_map, List.getElem?_take, if_pos hj, List.getElem?_drop, List.getElem?_eq_getElem (by omega)] at hu
  exact hu

/-- bytes: so many are taken -/
theorem bytes_yes {w : World} {B g : Nat} {v : Value} {l : List UInt8} {a : Nat} (h : Rd w B g v l a) (n : Nat) (hn : n ≤ l.length - a) :
    Calls Try.prog 68 #[.pointer (some ⟨g, 0, none⟩), .int .u64 (n : Int)] w fun e w' => e = .returned (.tuple #[.string ⟨((l.drop a).take n).toArray⟩, .int .i64 0]) ∧ Rd w' B g v l (a + n) ∧ w.grownBy w' (some g) := by
  have H := Lib.hid (left_any h)
  have h1 := h.le
  have h2 := h.len
  have hr := Lib.hid fun nq => (h.drewN nq).go (a + n) (by omega)
  obtain ⟨bb, c, rfl, hc1, hc2, hc3, hc4, hcell⟩ := h.form
  have c0 := h.c0
  have c1 := h.c1
  have f1 := h.f1
  unfold maxLen at hc2
  have hs : ∀ nq m, (convert 23 9 (.slice (some ⟨bb, a, none⟩) n (c - a))).run Try.prog (((w.drewN nq).setCell ⟨g, 1, none⟩ (.int .i64 ((a : Int) + n))).drewN m) = .ok (.string ⟨((l.drop a).take n).toArray⟩) (((w.drewN nq).setCell ⟨g, 1, none⟩ (.int .i64 ((a : Int) + n))).drewN m) := fun nq m =>
    slice_str (fun j hj => by rw [World.cell?_drewN, World.cell?_setCell_other _ _ _ _ (fun e => hc3 (by injection e with e; exact e.symm))]; exact hcell j hj) (by simpa using hc4) (by omega) n rfl
  have Hh := Lib.hid h
  have Hcell := Lib.hid hcell
  clear h hcell
  by_cases hca : c = a
  · subst hca
    have hn0 : n = 0 := by omega
    subst hn0
    have hs2 : ∀ nq m, (convert 23 9 (.slice (some ⟨bb, 0, none⟩) 0 0)).run Try.prog (((w.drewN nq).setCell ⟨g, 1, none⟩ (.int .i64 (c : Int))).drewN m) = .ok (.string ⟨#[]⟩) (((w.drewN nq).setCell ⟨g, 1, none⟩ (.int .i64 (c : Int))).drewN m) := fun nq m =>
      run_str (B := 0) (l := []) rfl ⟨rfl, fun h => by cases h⟩
    have i0 : (0 : Int) ≤ c := by omega
    clear hs hc1
    go_enter Try.func68, Try.ntmps68
    go_wp2_with (first | (go_at_call 38; refine H.out.mono ?_; rintro e w' ⟨rfl, k0, rfl⟩) | go_quiet (fail))
    have hg : w.grownBy ((w.drewN k0).setCell ⟨g, 1, none⟩ (.int .i64 (c : Int))) (some g) := only_setCell (p := ⟨g, 1, none⟩) (only_drewN (World.grownBy.refl w _) k0) (.inl rfl) _
    have hr2 := hr.out k0
    go_ret2
    exact ⟨rfl, hr2.drewN _, only_drewN hg _⟩
  · have i0 : (0 : Int) ≤ a := by omega
    have i1 : (a : Int) ≤ a + n := by omega
    have i2 : (a : Int) + n ≤ c := by omega
    have e1 : ((a : Int) + n).toNat = a + n := by omega
    have e2 : a + n - a = n := by omega
    go_enter Try.func68, Try.ntmps68
    go_wp2_with (first | (go_at_call 38; refine H.out.mono ?_; rintro e w' ⟨rfl, k0, rfl⟩) | go_quiet (fail))
    have hg : w.grownBy ((w.drewN k0).setCell ⟨g, 1, none⟩ (.int .i64 ((a : Int) + n))) (some g) := only_setCell (p := ⟨g, 1, none⟩) (only_drewN (World.grownBy.refl w _) k0) (.inl rfl) _
    have hr2 := hr.out k0
    rw [show ((a + n : Nat) : Int) = (a : Int) + n from by omega] at hr2
    go_ret2
    exact ⟨rfl, hr2.drewN _, only_drewN hg _⟩
end Go.Proofs.Ytgmienlifnpniaa
