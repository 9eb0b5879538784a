/- both, of floats: two, one behind the other; (*Reader).Complex. -/
import Derived.Test.YtgmienlifnpniaaRdFloat
namespace Go.Proofs.Ytgmienlifnpniaa
open Go.RowKit
set_option linter.unusedSimpArgs false
namespace Wire
/-- two things, one behind the other -/
def both {α : Type} (p : List UInt8 → Res α) (r : List UInt8) : Res (α × α) :=
  match p r with
  | .err c => .err c
  | .ok x k => match p (r.drop k) with
    | .err c => .err c
    | .ok y m => .ok (x, y) (k + m)
theorem both_err {α : Type} {p : List UInt8 → Res α} (hp : ∀ {r c}, p r = .err c → c ≠ 0) {r : List UInt8} {c : Nat} (h : both p r = .err c) : c ≠ 0 := by
  unfold both at h
  split at h
  · rename_i h1
    injection h with h
    subst h
    exact hp h1
  · split at h
    · rename_i h1
      injection h with h
      subst h
      exact hp h1
    · cases h
theorem both1 {α : Type} {p : List UInt8 → Res α} {r : List UInt8} {c : Nat} (h : p r = .err c) : both p r = .err c := by unfold both; rw [h]
theorem both2 {α : Type} {p : List UInt8 → Res α} {r : List UInt8} {x : α} {k c : Nat} (h : p r = .ok x k) (h2 : p (r.drop k) = .err c) : both p r = .err c := by unfold both; rw [h]; simp only; rw [h2]
theorem both3 {α : Type} {p : List UInt8 → Res α} {r : List UInt8} {x y : α} {k m : Nat} (h : p r = .ok x k) (h2 : p (r.drop k) = .ok y m) : both p r = .ok (x, y) (k + m) := by unfold both; rw [h]; simp only; rw [h2]
end Wire

/-- what the function within leaves, where its thing is an aggregate: beside an error a zero one -/
def WithinZ {α : Type} (val : α → Value) (zero : Value) (res : Wire.Res α) (w : World) (B g : Nat) (v : Value) (l : List UInt8) (a : Nat) (e : Ending) (w' : World) : Prop :=
  match res with
  | .err c => ∃ a', e = .returned (.tuple #[zero, .int .i64 (c : Int)]) ∧ Rd w' B g v l a' ∧ w.grownBy w' (some g)
  | .ok n k => e = .returned (.tuple #[val n, .int .i64 0]) ∧ Rd w' B g v l (a + k) ∧ w.grownBy w' (some g)
theorem withinz_err {α : Type} {val : α → Value} {zero : Value} {res : Wire.Res α} {w : World} {B g : Nat} {v : Value} {l : List UInt8} {a c : Nat} {e : Ending} {w' : World} (h : res = .err c)
    (h2 : ∃ a', e = .returned (.tuple #[zero, .int .i64 (c : Int)]) ∧ Rd w' B g v l a' ∧ w.grownBy w' (some g)) : WithinZ val zero res w B g v l a e w' := by
  subst h; exact h2
theorem withinz_ok {α : Type} {val : α → Value} {zero : Value} {res : Wire.Res α} {w : World} {B g : Nat} {v : Value} {l : List UInt8} {a n : Nat} {x : α} {e : Ending} {w' : World} (h : res = .ok x n)
    (h2 : e = .returned (.tuple #[val x, .int .i64 0]) ∧ Rd w' B g v l (a + n) ∧ w.grownBy w' (some g)) : WithinZ val zero res w B g v l a e w' := by
  subst h; exact h2
theorem withinz_err' {α : Type} {val : α → Value} {zero : Value} {res : Wire.Res α} {w : World} {B g c : Nat} {v : Value} {l : List UInt8} {a : Nat} {e : Ending} {w' : World} (h : res = .err c) (h2 : WithinZ val zero res w B g v l a e w') :
    ∃ a', e = .returned (.tuple #[zero, .int .i64 (c : Int)]) ∧ Rd w' B g v l a' ∧ w.grownBy w' (some g) := by
  subst h; exact h2
theorem withinz_ok' {α : Type} {val : α → Value} {zero : Value} {res : Wire.Res α} {w : World} {B g n : Nat} {x : α} {v : Value} {l : List UInt8} {a : Nat} {e : Ending} {w' : World} (h : res = .ok x n) (h2 : WithinZ val zero res w B g v l a e w') :
    e = .returned (.tuple #[val x, .int .i64 0]) ∧ Rd w' B g v l (a + n) ∧ w.grownBy w' (some g) := by
  subst h; exact h2
theorem reads1_err' {α : Type} {val : α → Value} {zero : Value} {res : Wire.Res α} {w : World} {B g c : Nat} {v : Value} {l : List UInt8} {a : Nat} {e : Ending} {w' : World} (h : res = .err c) (h2 : Reads1 val zero res w B g v l a e w') :
    e = .returned (.tuple #[zero, .int .i64 (c : Int)]) ∧ Rd w' B g v l a ∧ w.grownBy w' (some g) := by
  subst h; exact h2
theorem reads1_ok' {α : Type} {val : α → Value} {zero : Value} {res : Wire.Res α} {w : World} {B g n : Nat} {x : α} {v : Value} {l : List UInt8} {a : Nat} {e : Ending} {w' : World} (h : res = .ok x n) (h2 : Reads1 val zero res w B g v l a e w') :
    e = .returned (.tuple #[val x, .int .i64 0]) ∧ Rd w' B g v l (a + n) ∧ w.grownBy w' (some g) := by
  subst h; exact h2

theorem rd_ne {w : World} {B g b : Nat} {v : Value} {l : List UInt8} {a : Nat} {t : TypeId} {cs : Array Value} (h : Rd w B g v l a) (hb : Blk w b t cs) (ht : t ≠ 100) (_ht5 : t ≠ 5) : b ≠ g := hb.ne_ h.blk ht

attribute [local go_sem] run_store_float run_store_complex

theorem Rd.lt {w : World} {B g : Nat} {v : Value} {l : List UInt8} {a : Nat} (h : Rd w B g v l a) : g < w.heap.size := h.blk.lt
theorem Rd.off {B g : Nat} {v : Value} {l : List UInt8} {a b i : Nat} {w0 : World} (h0 : Rd w0 B g v l a) {w : World} {a' : Nat} (h : Rd w B g v l a') (hb : w0.heap.size ≤ b) (u : Value) : Rd (w.setCell ⟨b, i, none⟩ u) B g v l a' := by
  refine h.far (p := ⟨b, i, none⟩) (by have := h0.lt; show b ≠ g; omega) (fun e => ?_) u
  have := World.ownsRow.lt h0.own b e
  omega
theorem only_new {a w : World} {g : Nat} (h : a.grownBy w (some g)) {b i : Nat} (hb : a.heap.size ≤ b) (u : Value) : a.grownBy (w.setCell ⟨b, i, none⟩ u) (some g) := only_setCell (p := ⟨b, i, none⟩) h (.inr hb) u

theorem Blk.put0 {w : World} {b : Nat} {t : TypeId} {cs : Array Value} (h : Blk w b t cs) (hs : 0 < cs.size) (u : Value) : (w.setCell ⟨b, 0, none⟩ u).cell? ⟨b, 0, none⟩ = some u :=
  World.cell?_setCell_same w _ _ (u := cs[0]) (by rw [h.cell 0]; exact Array.getElem?_eq_getElem hs)
theorem Blk.put1 {w : World} {b : Nat} {t : TypeId} {cs : Array Value} (h : Blk w b t cs) (hs : 1 < cs.size) (u : Value) : (w.setCell ⟨b, 1, none⟩ u).cell? ⟨b, 1, none⟩ = some u :=
  World.cell?_setCell_same w _ _ (u := cs[1]) (by rw [h.cell 1]; exact Array.getElem?_eq_getElem hs)

set_option maxRecDepth 100000 in
set_option maxHeartbeats 4000000 in
theorem both64_1 {w : World} {B g bx bo : Nat} {v : Value} {l : List UInt8} {a : Nat} (h : Rd w B g v l a) (hbx : Blk w bx 61 #[.pointer (some ⟨g, 0, none⟩)]) (hbo : Blk w bo 113 #[.func (.func 45) #[] #[]]) :
    Calls Try.prog 87 #[.pointer (some ⟨bo, 0, none⟩), .pointer (some ⟨bx, 0, none⟩)] w
      (WithinZ (fun xy : Nat × Nat => .agg #[.float .f64 xy.1, .float .f64 xy.2]) (.agg #[.float .f64 0, .float .f64 0]) (Wire.both Wire.flt (l.drop a)) w B g v l a) := by
  have h2 := (h.alloc (.cells #[.float .f64 0, .float .f64 0] 110)).alloc (.cells #[.float .f64 0, .float .f64 0] 110)
  have hbx2 := (hbx.alloc (.cells #[.float .f64 0, .float .f64 0] 110)).alloc (.cells #[.float .f64 0, .float .f64 0] 110)
  have hbo2 := (hbo.alloc (.cells #[.float .f64 0, .float .f64 0] 110)).alloc (.cells #[.float .f64 0, .float .f64 0] 110)
  have hB0 := (Blk.new w 110 #[.float .f64 0, .float .f64 0]).alloc (.cells #[.float .f64 0, .float .f64 0] 110)
  have hB1 := Blk.new (w.alloc (.cells #[.float .f64 0, .float .f64 0] 110)) 110 #[.float .f64 0, .float .f64 0]
  rw [World.size_alloc] at hB1
  have hgl := h.lt
  have cx := hbx.cell 0
  have co := hbo.cell 0
  have lx := hbx.lt
  have lo := hbo.lt
  have hxg := rd_ne h hbx (by decide) (by decide)
  have hog := rd_ne h hbo (by decide) (by decide)
  have hgl2 := Lib.hid hgl
  have Hx := Lib.hid hbx2
  have Ho := Lib.hid hbo2
  have HB0 := Lib.hid hB0
  have HB1 := Lib.hid hB1
  have Hh := Lib.hid h
  cases hn : Wire.flt (l.drop a) with
  | err c =>
    have hc := ne_code (Wire.flt_err hn)
    have Hs := Lib.hid (Wire.both1 hn)
    have H1 := Lib.hid ((float_rd h2).mono fun e w' hh => reads1_err' hn hh)
    clear h h2 hbx hbo hbx2 hbo2 hB0 hB1 hn hgl
    go_enter Try.func87, Try.ntmps87
    go_wp2
    refine wp_loop_rounds 3 ?_
    rw [rounds_succ]
    go_wp2_with (go_at_call 45; refine H1.out.mono ?_; rintro e w1 ⟨rfl, hr1, hg1⟩; have k0 := HB0.out.grown hg1 (fun e => by have := Option.some.inj e; have := hgl2.out; omega); have q0 : w1.cell? ⟨w.heap.size, 0, none⟩ = some (.float .f64 0) := k0.cell 0; have q1 : w1.cell? ⟨w.heap.size, 1, none⟩ = some (.float .f64 0) := k0.cell 1; have f0 := k0.frozen 0; have f1 := k0.frozen 1; have r0 := k0.put0 (by decide) (.float .f64 0); have r1 := (k0.set_ 0 (.float .f64 0)).put1 (by decide) (.float .f64 0); clear k0)
    try simp only [Exit.inBlock, Exit.then]
    refine bodyPost_ret (by simp [results, Try.results87, go_sem, r0, r1]; rfl) rfl ?_
    exact withinz_err Hs.out ⟨_, rfl, Rd.off Hh.out (Rd.off Hh.out hr1 (Nat.le_refl _) _) (Nat.le_refl _) _, only_new (only_new (only_of_alloc (only_of_alloc hg1)) (Nat.le_refl _) _) (Nat.le_refl _) _⟩
  | ok x k =>
    have hdd : (l.drop a).drop k = l.drop (a + k) := by rw [List.drop_drop]
    have H1 := Lib.hid ((float_rd h2).mono fun e w' hh => reads1_ok' hn hh)
    have ga : ∀ {wa : World}, ((w.alloc (.cells #[.float .f64 0, .float .f64 0] 110)).alloc (.cells #[.float .f64 0, .float .f64 0] 110)).grownBy wa (some g) → w.heap.size + 2 ≤ wa.heap.size := fun h => by have := h.size; simp only [World.size_alloc] at this; omega
    cases hn2 : Wire.flt (l.drop (a + k)) with
    | err c =>
      have hc := ne_code (Wire.flt_err hn2)
      have Hs := Lib.hid (Wire.both2 hn (by rw [hdd]; exact hn2))
      have H2 := Lib.hid fun w' (h' : Rd w' B g v l (a + k)) => (float_rd h').mono fun e w' hh => reads1_err' hn2 hh
      clear h h2 hbx hbo hbx2 hbo2 hB0 hB1 hn hgl hn2 hdd
      go_enter Try.func87, Try.ntmps87
      go_wp2
      refine wp_loop_rounds 3 ?_
      rw [rounds_succ]
      go_wp2_with fail
      refine H1.out.mono ?_
      rintro e w1 ⟨rfl, hr1, hg1⟩
      have hne0 : some w.heap.size ≠ some g := fun e => by have := Option.some.inj e; have := hgl2.out; omega
      have hne1 : some (w.heap.size + 1) ≠ some g := fun e => by have := Option.some.inj e; have := hgl2.out; omega
      have z1 := ga hg1
      have y0 := (HB1.out.grown hg1 hne1).cell 0
      have y1 := (HB1.out.grown hg1 hne1).frozen 0
      have cx1 := (Hx.out.grown hg1 (fun e => hxg (Option.some.inj e))).cell 0
      have co1 := (Ho.out.grown hg1 (fun e => hog (Option.some.inj e))).cell 0
      have hx1 : bx ≠ w.heap.size + 1 := by omega
      have ho1 : bo ≠ w.heap.size + 1 := by omega
      go_wp2_with fail
      rw [rounds_succ]
      go_wp2_with fail
      have z2 : w.heap.size + 2 ≤ (w1.setCell ⟨w.heap.size + 1, 0, none⟩ (.float .f64 x)).heap.size := by rw [World.size_setCell]; exact z1
      refine (H2.out _ (Rd.off Hh.out hr1 (Nat.le_succ _) _)).mono ?_
      rintro e w2 ⟨rfl, hr2, hg2⟩
      have k0 := ((HB0.out.grown hg1 hne0).far (p := ⟨w.heap.size + 1, 0, none⟩) (by show w.heap.size ≠ w.heap.size + 1; omega) (.float .f64 x)).grown hg2 hne0
      have q0 : w2.cell? ⟨w.heap.size, 0, none⟩ = some (.float .f64 0) := k0.cell 0
      have q1 : w2.cell? ⟨w.heap.size, 1, none⟩ = some (.float .f64 0) := k0.cell 1
      have f0 := k0.frozen 0
      have f1 := k0.frozen 1
      have r0 := k0.put0 (by decide) (.float .f64 0)
      have r1 := (k0.set_ 0 (.float .f64 0)).put1 (by decide) (.float .f64 0)
      clear k0
      go_wp2_with fail
      try simp only [Exit.inBlock, Exit.then]
      refine bodyPost_ret (by simp [results, Try.results87, go_sem, r0, r1]; rfl) rfl ?_
      have hgg := (only_new (only_of_alloc (only_of_alloc hg1)) (Nat.le_succ w.heap.size) (i := 0) (.float .f64 x)).trans hg2
      exact withinz_err Hs.out ⟨_, rfl, Rd.off Hh.out (Rd.off Hh.out hr2 (Nat.le_refl _) _) (Nat.le_refl _) _, only_new (only_new hgg (Nat.le_refl _) _) (Nat.le_refl _) _⟩
    | ok y m =>
      have Hs := Lib.hid (Wire.both3 hn (by rw [hdd]; exact hn2))
      have H2 := Lib.hid fun w' (h' : Rd w' B g v l (a + k)) => (float_rd h').mono fun e w' hh => reads1_ok' hn2 hh
      clear h h2 hbx hbo hbx2 hbo2 hB0 hB1 hn hgl hn2 hdd
      go_enter Try.func87, Try.ntmps87
      go_wp2
      refine wp_loop_rounds 3 ?_
      rw [rounds_succ]
      go_wp2_with fail
      refine H1.out.mono ?_
      rintro e w1 ⟨rfl, hr1, hg1⟩
      have hne0 : some w.heap.size ≠ some g := fun e => by have := Option.some.inj e; have := hgl2.out; omega
      have hne1 : some (w.heap.size + 1) ≠ some g := fun e => by have := Option.some.inj e; have := hgl2.out; omega
      have z1 := ga hg1
      have y0 := (HB1.out.grown hg1 hne1).cell 0
      have y1 := (HB1.out.grown hg1 hne1).frozen 0
      have cx1 := (Hx.out.grown hg1 (fun e => hxg (Option.some.inj e))).cell 0
      have co1 := (Ho.out.grown hg1 (fun e => hog (Option.some.inj e))).cell 0
      have hx1 : bx ≠ w.heap.size + 1 := by omega
      have ho1 : bo ≠ w.heap.size + 1 := by omega
      go_wp2_with fail
      rw [rounds_succ]
      go_wp2_with fail
      refine (H2.out _ (Rd.off Hh.out hr1 (Nat.le_succ _) _)).mono ?_
      rintro e w2 ⟨rfl, hr2, hg2⟩
      have k0 := ((HB0.out.grown hg1 hne0).far (p := ⟨w.heap.size + 1, 0, none⟩) (by show w.heap.size ≠ w.heap.size + 1; omega) (.float .f64 x)).grown hg2 hne0
      have k1 := ((HB1.out.grown hg1 hne1).set_ 0 (.float .f64 x)).grown hg2 hne1
      have u0 : w2.cell? ⟨w.heap.size + 1, 0, none⟩ = some (.float .f64 x) := k1.cell 0
      have u1 : w2.cell? ⟨w.heap.size + 1, 1, none⟩ = some (.float .f64 0) := k1.cell 1
      have g0 := k1.frozen 0
      have g1 := k1.frozen 1
      have k0' := k0.far (p := ⟨w.heap.size + 1, 1, none⟩) (by show w.heap.size ≠ w.heap.size + 1; omega) (.float .f64 y)
      have q0 : w2.cell? ⟨w.heap.size, 0, none⟩ = some (.float .f64 0) := k0.cell 0
      have q1 : w2.cell? ⟨w.heap.size, 1, none⟩ = some (.float .f64 0) := k0.cell 1
      have f0 := k0.frozen 0
      have f1 := k0.frozen 1
      have r0 := k0'.put0 (by decide) (.float .f64 x)
      have r1 := (k0'.set_ 0 (.float .f64 x)).put1 (by simp) (.float .f64 y)
      clear k0 k0' k1
      go_wp2_with fail
      rw [rounds_succ]
      go_wp2_with fail
      try simp only [Exit.inBlock, Exit.then]
      refine bodyPost_ret (by simp [results, Try.results87, go_sem, r0, r1]; rfl) rfl ?_
      have hgg := (only_new (only_of_alloc (only_of_alloc hg1)) (Nat.le_succ w.heap.size) (i := 0) (.float .f64 x)).trans hg2
      refine withinz_ok Hs.out ⟨rfl, ?_, only_new (only_new (only_new hgg (Nat.le_succ _) _) (Nat.le_refl _) _) (Nat.le_refl _) _⟩
      rw [← Nat.add_assoc]
      exact Rd.off Hh.out (Rd.off Hh.out (Rd.off Hh.out hr2 (Nat.le_succ _) _) (Nat.le_refl _) _) (Nat.le_refl _) _

set_option maxRecDepth 100000 in
set_option maxHeartbeats 4000000 in
theorem tried64 {w : World} {B g : Nat} {v : Value} {l : List UInt8} {a : Nat} {cv : Array Value} {res : Wire.Res (Nat × Nat)} (hres : ∀ {c}, res = .err c → c ≠ 0) (h : Rd w B g v l a)
    (H : Calls Try.prog 87 cv ((w.alloc (.cells #[.float .f64 0, .float .f64 0] 110)).alloc (.cells #[.float .f64 0, .float .f64 0] 110))
      (WithinZ (fun xy : Nat × Nat => .agg #[.float .f64 xy.1, .float .f64 xy.2]) (.agg #[.float .f64 0, .float .f64 0]) res ((w.alloc (.cells #[.float .f64 0, .float .f64 0] 110)).alloc (.cells #[.float .f64 0, .float .f64 0] 110)) B g v l a)) :
    Calls Try.prog 86 #[.pointer (some ⟨g, 0, none⟩), .func (.func 87) #[] cv] w
      (Reads1 (fun xy : Nat × Nat => .agg #[.float .f64 xy.1, .float .f64 xy.2]) (.agg #[.float .f64 0, .float .f64 0]) res w B g v l a) := by
  have h2 := (h.alloc (.cells #[.float .f64 0, .float .f64 0] 110)).alloc (.cells #[.float .f64 0, .float .f64 0] 110)
  have Ht := Lib.hid (there_any h2)
  have hB0 := (Blk.new w 110 #[.float .f64 0, .float .f64 0]).alloc (.cells #[.float .f64 0, .float .f64 0] 110)
  have hB1 := Blk.new (w.alloc (.cells #[.float .f64 0, .float .f64 0] 110)) 110 #[.float .f64 0, .float .f64 0]
  rw [World.size_alloc] at hB1
  have c1 := h2.c1
  have hle := h.le
  have hgl := h.lt
  have hne0 : some w.heap.size ≠ some g := fun e => by have := Option.some.inj e; omega
  have hne1 : some (w.heap.size + 1) ≠ some g := fun e => by have := Option.some.inj e; omega
  have ga : ∀ {wa : World}, ((w.alloc (.cells #[.float .f64 0, .float .f64 0] 110)).alloc (.cells #[.float .f64 0, .float .f64 0] 110)).grownBy wa (some g) → w.heap.size + 2 ≤ wa.heap.size := fun h => by have := h.size; simp only [World.size_alloc] at this; omega
  have HB0 := Lib.hid hB0
  have HB1 := Lib.hid hB1
  have Hh := Lib.hid h
  cases hn : res with
  | err c =>
    have hc := ne_code (hres hn)
    have H1 := Lib.hid (H.mono fun e w' hh => withinz_err' hn hh)
    clear hn h h2 H hB0 hB1 hres
    go_enter Try.func86, Try.ntmps86
    go_wp2_with (first | (go_at_call 60; refine Ht.out.mono ?_; rintro e w' ⟨rfl, rfl⟩) | fail)
    refine H1.out.mono ?_
    rintro e w1 ⟨a', rfl, hr1, hg1⟩
    have z1 := ga hg1
    have k0 := HB0.out.grown hg1 hne0
    have k1 := HB1.out.grown hg1 hne1
    have q0 : w1.cell? ⟨w.heap.size, 0, none⟩ = some (.float .f64 0) := k0.cell 0
    have q1 : w1.cell? ⟨w.heap.size, 1, none⟩ = some (.float .f64 0) := k0.cell 1
    have f0 := k0.frozen 0
    have f1 := k0.frozen 1
    have u0 : w1.cell? ⟨w.heap.size + 1, 0, none⟩ = some (.float .f64 0) := k1.cell 0
    have u1 : w1.cell? ⟨w.heap.size + 1, 1, none⟩ = some (.float .f64 0) := k1.cell 1
    have c1' := hr1.c1
    have f1' := hr1.f1
    have zg := hr1.lt
    have n1 : w.heap.size ≠ w1.heap.size := by omega
    have n2 : w.heap.size + 1 ≠ w1.heap.size := by omega
    have n3 : w.heap.size ≠ g := by omega
    have n4 : w.heap.size + 1 ≠ g := by omega
    have n5 : g ≠ w1.heap.size := by omega
    have z3 : w.heap.size + 1 < w1.heap.size := by omega
    have z4 : w.heap.size < w1.heap.size := by omega
    clear k0 k1
    go_wp2_with fail
    refine bodyPost_ret (by simp [results, Try.results86, go_sem, q0, q1, n1, n3, z4]; rfl) rfl ?_
    refine reads1_err rfl ⟨rfl, ?_, only_alloc (only_new (only_new (only_setCell (p := ⟨g, 1, none⟩) (only_of_alloc (only_of_alloc hg1)) (.inl rfl) _) (Nat.le_refl _) _) (Nat.le_refl _) _) _⟩
    exact (Rd.off Hh.out (Rd.off Hh.out (hr1.go a hle) (Nat.le_refl _) _) (Nat.le_refl _) _).alloc _
  | ok xy k =>
    obtain ⟨x, y⟩ := xy
    have H1 := Lib.hid (H.mono fun e w' hh => withinz_ok' hn hh)
    clear hn h h2 H hB0 hB1 hres
    go_enter Try.func86, Try.ntmps86
    go_wp2_with (first | (go_at_call 60; refine Ht.out.mono ?_; rintro e w' ⟨rfl, rfl⟩) | fail)
    refine H1.out.mono ?_
    rintro e w1 ⟨rfl, hr1, hg1⟩
    have z1 := ga hg1
    have k0 := HB0.out.grown hg1 hne0
    have k1 := HB1.out.grown hg1 hne1
    have q0 : w1.cell? ⟨w.heap.size, 0, none⟩ = some (.float .f64 0) := k0.cell 0
    have q1 : w1.cell? ⟨w.heap.size, 1, none⟩ = some (.float .f64 0) := k0.cell 1
    have f0 := k0.frozen 0
    have f1 := k0.frozen 1
    have u0 : w1.cell? ⟨w.heap.size + 1, 0, none⟩ = some (.float .f64 0) := k1.cell 0
    have u1 : w1.cell? ⟨w.heap.size + 1, 1, none⟩ = some (.float .f64 0) := k1.cell 1
    have c1' := hr1.c1
    have f1' := hr1.f1
    have zg := hr1.lt
    have n1 : w.heap.size ≠ w1.heap.size := by omega
    have n2 : w.heap.size + 1 ≠ w1.heap.size := by omega
    have n3 : w.heap.size ≠ g := by omega
    have n4 : w.heap.size + 1 ≠ g := by omega
    have n5 : g ≠ w1.heap.size := by omega
    have z3 : w.heap.size + 1 < w1.heap.size := by omega
    have z4 : w.heap.size < w1.heap.size := by omega
    clear k0 k1
    go_wp2_with fail
    refine bodyPost_ret (by simp [results, Try.results86, go_sem, q0, q1, n1, n3, z4]; rfl) rfl ?_
    refine reads1_ok rfl ⟨rfl, ?_, only_alloc (only_new (only_new (only_of_alloc (only_of_alloc hg1)) (Nat.le_refl _) _) (Nat.le_refl _) _) _⟩
    exact (Rd.off Hh.out (Rd.off Hh.out hr1 (Nat.le_refl _) _) (Nat.le_refl _) _).alloc _

set_option maxRecDepth 100000 in
set_option maxHeartbeats 4000000 in
theorem both64_any {w : World} {B g : Nat} {v : Value} {l : List UInt8} {a : Nat} (h : Rd w B g v l a) :
    Calls Try.prog 65 #[.pointer (some ⟨g, 0, none⟩), .func (.func 45) #[] #[]] w
      (Reads1 (fun xy : Nat × Nat => .agg #[.float .f64 xy.1, .float .f64 xy.2]) (.agg #[.float .f64 0, .float .f64 0]) (Wire.both Wire.flt (l.drop a)) w B g v l a) := by
  have hmf : ∀ (fn : Fn) (first cap : Array Value) (w : World), (Instr.makeFunc fn first cap).run Try.prog w = .ok (.func fn first cap) w := fun _ _ _ _ => rfl
  have h3 := ((h.alloc (.cells #[.pointer (some ⟨g, 0, none⟩)] 61)).alloc (.cells #[.func (.func 45) #[] #[]] 113)).alloc (.cells #[.float .f64 0, .float .f64 0] 110)
  have hb1 := ((((Blk.new w 61 #[.pointer (some ⟨g, 0, none⟩)]).alloc (.cells #[.func (.func 45) #[] #[]] 113)).alloc (.cells #[.float .f64 0, .float .f64 0] 110)).alloc (.cells #[.float .f64 0, .float .f64 0] 110)).alloc (.cells #[.float .f64 0, .float .f64 0] 110)
  have hb2 := (((Blk.new (w.alloc (.cells #[.pointer (some ⟨g, 0, none⟩)] 61)) 113 #[.func (.func 45) #[] #[]]).alloc (.cells #[.float .f64 0, .float .f64 0] 110)).alloc (.cells #[.float .f64 0, .float .f64 0] 110)).alloc (.cells #[.float .f64 0, .float .f64 0] 110)
  have hB0 := Blk.new ((w.alloc (.cells #[.pointer (some ⟨g, 0, none⟩)] 61)).alloc (.cells #[.func (.func 45) #[] #[]] 113)) 110 #[.float .f64 0, .float .f64 0]
  have HT := tried64 (fun h => Wire.both_err Wire.flt_err h) h3 (both64_1 ((h3.alloc _).alloc _) hb1 hb2)
  rw [World.size_alloc] at HT
  simp only [World.size_alloc] at hB0
  have hgl := h.lt
  have hne0 : some (w.heap.size + 1 + 1) ≠ some g := fun e => by have := Option.some.inj e; omega
  have HB0 := Lib.hid hB0
  have Hh := Lib.hid h
  cases hn : Wire.both Wire.flt (l.drop a) with
  | err c =>
    have H1 := Lib.hid (HT.mono fun e w' hh => reads1_err' hn hh)
    clear hn h h3 hb1 hb2 HT hB0
    go_enter Try.func65, Try.ntmps65
    go_wp2_with fail
    refine H1.out.mono ?_
    rintro e w1 ⟨rfl, hr1, hg1⟩
    have k0 := HB0.out.grown hg1 hne0
    have q0 : w1.cell? ⟨w.heap.size + 1 + 1, 0, none⟩ = some (.float .f64 0) := k0.cell 0
    have q1 : w1.cell? ⟨w.heap.size + 1 + 1, 1, none⟩ = some (.float .f64 0) := k0.cell 1
    have f0 := k0.frozen 0
    have f1 := k0.frozen 1
    clear k0
    go_wp2_with fail
    refine bodyPost_ret (by simp [results, Try.results65, go_sem, q0, q1]; rfl) rfl ?_
    refine reads1_err rfl ⟨rfl, Rd.off Hh.out (Rd.off Hh.out hr1 (Nat.le_add_right _ 2) _) (Nat.le_add_right _ 2) _, only_new (only_new (only_of_alloc (only_of_alloc (only_of_alloc hg1))) (Nat.le_add_right _ 2) _) (Nat.le_add_right _ 2) _⟩
  | ok xy k =>
    obtain ⟨x, y⟩ := xy
    have H1 := Lib.hid (HT.mono fun e w' hh => reads1_ok' hn hh)
    clear hn h h3 hb1 hb2 HT hB0
    go_enter Try.func65, Try.ntmps65
    go_wp2_with fail
    refine H1.out.mono ?_
    rintro e w1 ⟨rfl, hr1, hg1⟩
    have k0 := HB0.out.grown hg1 hne0
    have q0 : w1.cell? ⟨w.heap.size + 1 + 1, 0, none⟩ = some (.float .f64 0) := k0.cell 0
    have q1 : w1.cell? ⟨w.heap.size + 1 + 1, 1, none⟩ = some (.float .f64 0) := k0.cell 1
    have f0 := k0.frozen 0
    have f1 := k0.frozen 1
    clear k0
    go_wp2_with fail
    refine bodyPost_ret (by simp [results, Try.results65, go_sem, q0, q1]; rfl) rfl ?_
    refine reads1_ok rfl ⟨rfl, Rd.off Hh.out (Rd.off Hh.out hr1 (Nat.le_add_right _ 2) _) (Nat.le_add_right _ 2) _, only_new (only_new (only_of_alloc (only_of_alloc (only_of_alloc hg1))) (Nat.le_add_right _ 2) _) (Nat.le_add_right _ 2) _⟩


set_option maxRecDepth 100000 in
set_option maxHeartbeats 4000000 in
theorem complex_rd {w : World} {B g : Nat} {v : Value} {l : List UInt8} {a : Nat} (h : Rd w B g v l a) :
    Calls Try.prog 41 #[.pointer (some ⟨g, 0, none⟩)] w
      (Reads1 (fun xy : Nat × Nat => .complex .f64 xy.1 xy.2) (.complex .f64 0 0) (Wire.both Wire.flt (l.drop a)) w B g v l a) := by
  have HT := both64_any h
  have Hh := Lib.hid h
  cases hn : Wire.both Wire.flt (l.drop a) with
  | err c =>
    have H1 := Lib.hid (HT.mono fun e w' hh => reads1_err' hn hh)
    clear hn h HT
    go_enter Try.func41, Try.ntmps41
    go_wp2_with (go_at_call 65; refine H1.out.mono ?_; rintro e w1 ⟨rfl, hr1, hg1⟩)
    go_ret2
    exact reads1_err rfl ⟨rfl, hr1.alloc _, only_alloc hg1 _⟩
  | ok xy k =>
    obtain ⟨x, y⟩ := xy
    have H1 := Lib.hid (HT.mono fun e w' hh => reads1_ok' hn hh)
    clear hn h HT
    go_enter Try.func41, Try.ntmps41
    go_wp2_with (go_at_call 65; refine H1.out.mono ?_; rintro e w1 ⟨rfl, hr1, hg1⟩)
    go_ret2
    exact reads1_ok rfl ⟨rfl, hr1.alloc _, only_alloc hg1 _⟩
end Go.Proofs.Ytgmienlifnpniaa
