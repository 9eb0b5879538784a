/- tried, of whole numbers, fractions, and of two of each (printed by gen_reads.py). -/
import Derived.Test.YtgmienlifnpniaaRdBoth
namespace Go.Proofs.Ytgmienlifnpniaa
open Go.RowKit
set_option linter.unusedSimpArgs false
/-- what the function within leaves, where its thing is an aggregate: beside an error any thing of the kind -/
def WithinV {α : Type} (val : α → Value) (res : Wire.Res α) (w : World) (B g : Nat) (v : Value) (l : List UInt8) (a : Nat) (e : Ending) (w' : World) : Prop :=
  match res with
  | .err c => ∃ x a', e = .returned (.tuple #[val x, .int .i64 (c : Int)]) ∧ Rd w' B g v l a' ∧ w.grownBy w' (some g)
  | .ok n k => e = .returned (.tuple #[val n, .int .i64 0]) ∧ Rd w' B g v l (a + k) ∧ w.grownBy w' (some g)
theorem withinv_err {α : Type} {val : α → Value} {res : Wire.Res α} {w : World} {B g : Nat} {v : Value} {l : List UInt8} {a c : Nat} {e : Ending} {w' : World} (h : res = .err c)
    (h2 : ∃ x a', e = .returned (.tuple #[val x, .int .i64 (c : Int)]) ∧ Rd w' B g v l a' ∧ w.grownBy w' (some g)) : WithinV val res w B g v l a e w' := by
  subst h; exact h2
theorem withinv_ok {α : Type} {val : α → Value} {res : Wire.Res α} {w : World} {B g : Nat} {v : Value} {l : List UInt8} {a n : Nat} {x : α} {e : Ending} {w' : World} (h : res = .ok x n)
    (h2 : e = .returned (.tuple #[val x, .int .i64 0]) ∧ Rd w' B g v l (a + n) ∧ w.grownBy w' (some g)) : WithinV val res w B g v l a e w' := by
  subst h; exact h2
theorem withinv_err' {α : Type} {val : α → Value} {res : Wire.Res α} {w : World} {B g c : Nat} {v : Value} {l : List UInt8} {a : Nat} {e : Ending} {w' : World} (h : res = .err c) (h2 : WithinV val res w B g v l a e w') :
    ∃ x a', e = .returned (.tuple #[val x, .int .i64 (c : Int)]) ∧ Rd w' B g v l a' ∧ w.grownBy w' (some g) := by
  subst h; exact h2
theorem withinv_ok' {α : Type} {val : α → Value} {res : Wire.Res α} {w : World} {B g n : Nat} {x : α} {v : Value} {l : List UInt8} {a : Nat} {e : Ending} {w' : World} (h : res = .ok x n) (h2 : WithinV val res w B g v l a e w') :
    e = .returned (.tuple #[val x, .int .i64 0]) ∧ Rd w' B g v l (a + n) ∧ w.grownBy w' (some g) := by
  subst h; exact h2

set_option maxRecDepth 100000 in
set_option maxHeartbeats 8000000 in
theorem tried_W {w : World} {B g : Nat} {v : Value} {l : List UInt8} {a : Nat} {cv : Array Value} {res : Wire.Res (Bool × ByteArray)} (hres : ∀ {c}, res = .err c → c ≠ 0) (h : Rd w B g v l a)
    (H : Calls Try.prog 84 cv ((w.alloc (.cells #[.bool false, .string ⟨#[]⟩] 28)).alloc (.cells #[.bool false, .string ⟨#[]⟩] 28))
      (WithinV (fun x : (Bool × ByteArray) => .agg #[.bool x.1, .string x.2]) res ((w.alloc (.cells #[.bool false, .string ⟨#[]⟩] 28)).alloc (.cells #[.bool false, .string ⟨#[]⟩] 28)) B g v l a)) :
    Calls Try.prog 83 #[.pointer (some ⟨g, 0, none⟩), .func (.func 84) #[] cv] w
      (Reads1 (fun x : (Bool × ByteArray) => .agg #[.bool x.1, .string x.2]) (.agg #[.bool false, .string ⟨#[]⟩]) res w B g v l a) := by
  have h2 := (h.alloc (.cells #[.bool false, .string ⟨#[]⟩] 28)).alloc (.cells #[.bool false, .string ⟨#[]⟩] 28)
  have Ht := Lib.hid (there_any h2)
  have hB0 := (Blk.new w 28 #[.bool false, .string ⟨#[]⟩]).alloc (.cells #[.bool false, .string ⟨#[]⟩] 28)
  have hB1 := Blk.new (w.alloc (.cells #[.bool false, .string ⟨#[]⟩] 28)) 28 #[.bool false, .string ⟨#[]⟩]
  rw [World.size_alloc] at hB1
  have c1 := h2.c1
  have hle := h.le
  have hgl := h.lt
  have hne0 : some w.heap.size ≠ some g := fun e => by have := Option.some.inj e; omega
  have hne1 : some (w.heap.size + 1) ≠ some g := fun e => by have := Option.some.inj e; omega
  have ga : ∀ {wa : World}, (((w.alloc (.cells #[.bool false, .string ⟨#[]⟩] 28)).alloc (.cells #[.bool false, .string ⟨#[]⟩] 28))).grownBy wa (some g) → w.heap.size + 2 ≤ wa.heap.size := fun h => by have := h.size; simp only [World.size_alloc] at this; omega
  have HB0 := Lib.hid hB0
  have HB1 := Lib.hid hB1
  have Hh := Lib.hid h
  cases hn : res with
  | err c =>
    have hc := ne_code (hres hn)
    have H1 := Lib.hid (H.mono fun e w' hh => withinv_err' hn hh)
    clear hn h h2 H hB0 hB1 hres
    go_enter Try.func83, Try.ntmps83
    go_wp2_with (first | (go_at_call 60; refine Ht.out.mono ?_; rintro e w' ⟨rfl, rfl⟩) | fail)
    refine H1.out.mono ?_
    rintro e w1 ⟨⟨xn, xs⟩, a', rfl, hr1, hg1⟩
    have z1 := ga hg1
    have k0 := HB0.out.grown hg1 hne0
    have k1 := HB1.out.grown hg1 hne1
    have q0 : w1.cell? ⟨w.heap.size, 0, none⟩ = some (.bool false) := k0.cell 0
    have f0 := k0.frozen 0
    have u0 : w1.cell? ⟨w.heap.size + 1, 0, none⟩ = some (.bool false) := k1.cell 0
    have q1 : w1.cell? ⟨w.heap.size, 1, none⟩ = some (.string ⟨#[]⟩) := k0.cell 1
    have f1 := k0.frozen 1
    have u1 : w1.cell? ⟨w.heap.size + 1, 1, none⟩ = some (.string ⟨#[]⟩) := k1.cell 1
    have c1' := hr1.c1
    have f1' := hr1.f1
    have zg := hr1.lt
    have n1 : w.heap.size ≠ w1.heap.size := by omega
    have n2 : w.heap.size + 1 ≠ w1.heap.size := by omega
    have n3 : w.heap.size ≠ g := by omega
    have n4 : w.heap.size + 1 ≠ g := by omega
    have n5 : g ≠ w1.heap.size := by omega
    have z3 : w.heap.size + 1 < w1.heap.size := by omega
    have z4 : w.heap.size < w1.heap.size := by omega
    clear k0 k1
    go_wp2_with fail
    refine bodyPost_ret (by simp [results, Try.results83, go_sem, q0, q1, n1, n3, z4]; rfl) rfl ?_
    refine reads1_err rfl ⟨rfl, ?_, only_alloc (only_new (only_new (only_setCell (p := ⟨g, 1, none⟩) (only_of_alloc (only_of_alloc hg1)) (.inl rfl) _) (Nat.le_refl _) _) (Nat.le_refl _) _) _⟩
    exact (Rd.off Hh.out (Rd.off Hh.out (hr1.go a hle) (Nat.le_refl _) _) (Nat.le_refl _) _).alloc _
  | ok x k =>
    obtain ⟨xn, xs⟩ := x
    have H1 := Lib.hid (H.mono fun e w' hh => withinv_ok' hn hh)
    clear hn h h2 H hB0 hB1 hres
    go_enter Try.func83, Try.ntmps83
    go_wp2_with (first | (go_at_call 60; refine Ht.out.mono ?_; rintro e w' ⟨rfl, rfl⟩) | fail)
    refine H1.out.mono ?_
    rintro e w1 ⟨rfl, hr1, hg1⟩
    have z1 := ga hg1
    have k0 := HB0.out.grown hg1 hne0
    have k1 := HB1.out.grown hg1 hne1
    have q0 : w1.cell? ⟨w.heap.size, 0, none⟩ = some (.bool false) := k0.cell 0
    have f0 := k0.frozen 0
    have u0 : w1.cell? ⟨w.heap.size + 1, 0, none⟩ = some (.bool false) := k1.cell 0
    have q1 : w1.cell? ⟨w.heap.size, 1, none⟩ = some (.string ⟨#[]⟩) := k0.cell 1
    have f1 := k0.frozen 1
    have u1 : w1.cell? ⟨w.heap.size + 1, 1, none⟩ = some (.string ⟨#[]⟩) := k1.cell 1
    have c1' := hr1.c1
    have f1' := hr1.f1
    have zg := hr1.lt
    have n1 : w.heap.size ≠ w1.heap.size := by omega
    have n2 : w.heap.size + 1 ≠ w1.heap.size := by omega
    have n3 : w.heap.size ≠ g := by omega
    have n4 : w.heap.size + 1 ≠ g := by omega
    have n5 : g ≠ w1.heap.size := by omega
    have z3 : w.heap.size + 1 < w1.heap.size := by omega
    have z4 : w.heap.size < w1.heap.size := by omega
    clear k0 k1
    go_wp2_with fail
    refine bodyPost_ret (by simp [results, Try.results83, go_sem, q0, q1, n1, n3, z4]; rfl) rfl ?_
    refine reads1_ok rfl ⟨rfl, ?_, only_alloc (only_new (only_new (only_of_alloc (only_of_alloc hg1)) (Nat.le_refl _) _) (Nat.le_refl _) _) _⟩
    exact (Rd.off Hh.out (Rd.off Hh.out (hr1) (Nat.le_refl _) _) (Nat.le_refl _) _).alloc _


set_option maxRecDepth 100000 in
set_option maxHeartbeats 8000000 in
theorem tried_F {w : World} {B g : Nat} {v : Value} {l : List UInt8} {a : Nat} {cv : Array Value} {res : Wire.Res ((Bool × ByteArray) × (Bool × ByteArray))} (hres : ∀ {c}, res = .err c → c ≠ 0) (h : Rd w B g v l a)
    (H : Calls Try.prog 91 cv ((w.alloc (.cells #[.bool false, .string ⟨#[]⟩, .bool false, .string ⟨#[]⟩] 30)).alloc (.cells #[.bool false, .string ⟨#[]⟩, .bool false, .string ⟨#[]⟩] 30))
      (WithinV (fun x : ((Bool × ByteArray) × (Bool × ByteArray)) => .agg #[.bool x.1.1, .string x.1.2, .bool x.2.1, .string x.2.2]) res ((w.alloc (.cells #[.bool false, .string ⟨#[]⟩, .bool false, .string ⟨#[]⟩] 30)).alloc (.cells #[.bool false, .string ⟨#[]⟩, .bool false, .string ⟨#[]⟩] 30)) B g v l a)) :
    Calls Try.prog 90 #[.pointer (some ⟨g, 0, none⟩), .func (.func 91) #[] cv] w
      (Reads1 (fun x : ((Bool × ByteArray) × (Bool × ByteArray)) => .agg #[.bool x.1.1, .string x.1.2, .bool x.2.1, .string x.2.2]) (.agg #[.bool false, .string ⟨#[]⟩, .bool false, .string ⟨#[]⟩]) res w B g v l a) := by
  have h2 := (h.alloc (.cells #[.bool false, .string ⟨#[]⟩, .bool false, .string ⟨#[]⟩] 30)).alloc (.cells #[.bool false, .string ⟨#[]⟩, .bool false, .string ⟨#[]⟩] 30)
  have Ht := Lib.hid (there_any h2)
  have hB0 := (Blk.new w 30 #[.bool false, .string ⟨#[]⟩, .bool false, .string ⟨#[]⟩]).alloc (.cells #[.bool false, .string ⟨#[]⟩, .bool false, .string ⟨#[]⟩] 30)
  have hB1 := Blk.new (w.alloc (.cells #[.bool false, .string ⟨#[]⟩, .bool false, .string ⟨#[]⟩] 30)) 30 #[.bool false, .string ⟨#[]⟩, .bool false, .string ⟨#[]⟩]
  rw [World.size_alloc] at hB1
  have c1 := h2.c1
  have hle := h.le
  have hgl := h.lt
  have hne0 : some w.heap.size ≠ some g := fun e => by have := Option.some.inj e; omega
  have hne1 : some (w.heap.size + 1) ≠ some g := fun e => by have := Option.some.inj e; omega
  have ga : ∀ {wa : World}, (((w.alloc (.cells #[.bool false, .string ⟨#[]⟩, .bool false, .string ⟨#[]⟩] 30)).alloc (.cells #[.bool false, .string ⟨#[]⟩, .bool false, .string ⟨#[]⟩] 30))).grownBy wa (some g) → w.heap.size + 2 ≤ wa.heap.size := fun h => by have := h.size; simp only [World.size_alloc] at this; omega
  have HB0 := Lib.hid hB0
  have HB1 := Lib.hid hB1
  have Hh := Lib.hid h
  cases hn : res with
  | err c =>
    have hc := ne_code (hres hn)
    have H1 := Lib.hid (H.mono fun e w' hh => withinv_err' hn hh)
    clear hn h h2 H hB0 hB1 hres
    go_enter Try.func90, Try.ntmps90
    go_wp2_with (first | (go_at_call 60; refine Ht.out.mono ?_; rintro e w' ⟨rfl, rfl⟩) | fail)
    refine H1.out.mono ?_
    rintro e w1 ⟨⟨⟨xun, xus⟩, ⟨xdn, xds⟩⟩, a', rfl, hr1, hg1⟩
    have z1 := ga hg1
    have k0 := HB0.out.grown hg1 hne0
    have k1 := HB1.out.grown hg1 hne1
    have q0 : w1.cell? ⟨w.heap.size, 0, none⟩ = some (.bool false) := k0.cell 0
    have f0 := k0.frozen 0
    have u0 : w1.cell? ⟨w.heap.size + 1, 0, none⟩ = some (.bool false) := k1.cell 0
    have q1 : w1.cell? ⟨w.heap.size, 1, none⟩ = some (.string ⟨#[]⟩) := k0.cell 1
    have f1 := k0.frozen 1
    have u1 : w1.cell? ⟨w.heap.size + 1, 1, none⟩ = some (.string ⟨#[]⟩) := k1.cell 1
    have q2 : w1.cell? ⟨w.heap.size, 2, none⟩ = some (.bool false) := k0.cell 2
    have f2 := k0.frozen 2
    have u2 : w1.cell? ⟨w.heap.size + 1, 2, none⟩ = some (.bool false) := k1.cell 2
    have q3 : w1.cell? ⟨w.heap.size, 3, none⟩ = some (.string ⟨#[]⟩) := k0.cell 3
    have f3 := k0.frozen 3
    have u3 : w1.cell? ⟨w.heap.size + 1, 3, none⟩ = some (.string ⟨#[]⟩) := k1.cell 3
    have c1' := hr1.c1
    have f1' := hr1.f1
    have zg := hr1.lt
    have n1 : w.heap.size ≠ w1.heap.size := by omega
    have n2 : w.heap.size + 1 ≠ w1.heap.size := by omega
    have n3 : w.heap.size ≠ g := by omega
    have n4 : w.heap.size + 1 ≠ g := by omega
    have n5 : g ≠ w1.heap.size := by omega
    have z3 : w.heap.size + 1 < w1.heap.size := by omega
    have z4 : w.heap.size < w1.heap.size := by omega
    clear k0 k1
    go_wp2_with fail
    refine bodyPost_ret (by simp [results, Try.results90, go_sem, q0, q1, q2, q3, n1, n3, z4]; rfl) rfl ?_
    refine reads1_err rfl ⟨rfl, ?_, only_alloc (only_new (only_new (only_new (only_new (only_setCell (p := ⟨g, 1, none⟩) (only_of_alloc (only_of_alloc hg1)) (.inl rfl) _) (Nat.le_refl _) _) (Nat.le_refl _) _) (Nat.le_refl _) _) (Nat.le_refl _) _) _⟩
    exact (Rd.off Hh.out (Rd.off Hh.out (Rd.off Hh.out (Rd.off Hh.out (hr1.go a hle) (Nat.le_refl _) _) (Nat.le_refl _) _) (Nat.le_refl _) _) (Nat.le_refl _) _).alloc _
  | ok x k =>
    obtain ⟨⟨xun, xus⟩, ⟨xdn, xds⟩⟩ := x
    have H1 := Lib.hid (H.mono fun e w' hh => withinv_ok' hn hh)
    clear hn h h2 H hB0 hB1 hres
    go_enter Try.func90, Try.ntmps90
    go_wp2_with (first | (go_at_call 60; refine Ht.out.mono ?_; rintro e w' ⟨rfl, rfl⟩) | fail)
    refine H1.out.mono ?_
    rintro e w1 ⟨rfl, hr1, hg1⟩
    have z1 := ga hg1
    have k0 := HB0.out.grown hg1 hne0
    have k1 := HB1.out.grown hg1 hne1
    have q0 : w1.cell? ⟨w.heap.size, 0, none⟩ = some (.bool false) := k0.cell 0
    have f0 := k0.frozen 0
    have u0 : w1.cell? ⟨w.heap.size + 1, 0, none⟩ = some (.bool false) := k1.cell 0
    have q1 : w1.cell? ⟨w.heap.size, 1, none⟩ = some (.string ⟨#[]⟩) := k0.cell 1
    have f1 := k0.frozen 1
    have u1 : w1.cell? ⟨w.heap.size + 1, 1, none⟩ = some (.string ⟨#[]⟩) := k1.cell 1
    have q2 : w1.cell? ⟨w.heap.size, 2, none⟩ = some (.bool false) := k0.cell 2
    have f2 := k0.frozen 2
    have u2 : w1.cell? ⟨w.heap.size + 1, 2, none⟩ = some (.bool false) := k1.cell 2
    have q3 : w1.cell? ⟨w.heap.size, 3, none⟩ = some (.string ⟨#[]⟩) := k0.cell 3
    have f3 := k0.frozen 3
    have u3 : w1.cell? ⟨w.heap.size + 1, 3, none⟩ = some (.string ⟨#[]⟩) := k1.cell 3
    have c1' := hr1.c1
    have f1' := hr1.f1
    have zg := hr1.lt
    have n1 : w.heap.size ≠ w1.heap.size := by omega
    have n2 : w.heap.size + 1 ≠ w1.heap.size := by omega
    have n3 : w.heap.size ≠ g := by omega
    have n4 : w.heap.size + 1 ≠ g := by omega
    have n5 : g ≠ w1.heap.size := by omega
    have z3 : w.heap.size + 1 < w1.heap.size := by omega
    have z4 : w.heap.size < w1.heap.size := by omega
    clear k0 k1
    go_wp2_with fail
    refine bodyPost_ret (by simp [results, Try.results90, go_sem, q0, q1, q2, q3, n1, n3, z4]; rfl) rfl ?_
    refine reads1_ok rfl ⟨rfl, ?_, only_alloc (only_new (only_new (only_new (only_new (only_of_alloc (only_of_alloc hg1)) (Nat.le_refl _) _) (Nat.le_refl _) _) (Nat.le_refl _) _) (Nat.le_refl _) _) _⟩
    exact (Rd.off Hh.out (Rd.off Hh.out (Rd.off Hh.out (Rd.off Hh.out (hr1) (Nat.le_refl _) _) (Nat.le_refl _) _) (Nat.le_refl _) _) (Nat.le_refl _) _).alloc _

end Go.Proofs.Ytgmienlifnpniaa
