/- both, of whole numbers (printed by gen_reads.py). -/
import Derived.Test.YtgmienlifnpniaaRdWhole
namespace Go.Proofs.Ytgmienlifnpniaa
open Go.RowKit
set_option linter.unusedSimpArgs false

set_option maxRecDepth 100000 in
set_option maxHeartbeats 8000000 in
theorem tried_WW {w : World} {B g : Nat} {v : Value} {l : List UInt8} {a : Nat} {cv : Array Value} {res : Wire.Res ((Bool × ByteArray) × (Bool × ByteArray))} (hres : ∀ {c}, res = .err c → c ≠ 0) (h : Rd w B g v l a)
    (H : Calls Try.prog 98 cv ((w.alloc (.cells #[.bool false, .string ⟨#[]⟩, .bool false, .string ⟨#[]⟩] 146)).alloc (.cells #[.bool false, .string ⟨#[]⟩, .bool false, .string ⟨#[]⟩] 146))
      (WithinV (fun x : ((Bool × ByteArray) × (Bool × ByteArray)) => .agg #[.bool x.1.1, .string x.1.2, .bool x.2.1, .string x.2.2]) res ((w.alloc (.cells #[.bool false, .string ⟨#[]⟩, .bool false, .string ⟨#[]⟩] 146)).alloc (.cells #[.bool false, .string ⟨#[]⟩, .bool false, .string ⟨#[]⟩] 146)) B g v l a)) :
    Calls Try.prog 97 #[.pointer (some ⟨g, 0, none⟩), .func (.func 98) #[] cv] w
      (Reads1 (fun x : ((Bool × ByteArray) × (Bool × ByteArray)) => .agg #[.bool x.1.1, .string x.1.2, .bool x.2.1, .string x.2.2]) (.agg #[.bool false, .string ⟨#[]⟩, .bool false, .string ⟨#[]⟩]) res w B g v l a) := by
  have h2 := (h.alloc (.cells #[.bool false, .string ⟨#[]⟩, .bool false, .string ⟨#[]⟩] 146)).alloc (.cells #[.bool false, .string ⟨#[]⟩, .bool false, .string ⟨#[]⟩] 146)
  have Ht := Lib.hid (there_any h2)
  have hB0 := (Blk.new w 146 #[.bool false, .string ⟨#[]⟩, .bool false, .string ⟨#[]⟩]).alloc (.cells #[.bool false, .string ⟨#[]⟩, .bool false, .string ⟨#[]⟩] 146)
  have hB1 := Blk.new (w.alloc (.cells #[.bool false, .string ⟨#[]⟩, .bool false, .string ⟨#[]⟩] 146)) 146 #[.bool false, .string ⟨#[]⟩, .bool false, .string ⟨#[]⟩]
  rw [World.size_alloc] at hB1
  have c1 := h2.c1
  have hle := h.le
  have hgl := h.lt
  have hne0 : some w.heap.size ≠ some g := fun e => by have := Option.some.inj e; omega
  have hne1 : some (w.heap.size + 1) ≠ some g := fun e => by have := Option.some.inj e; omega
  have ga : ∀ {wa : World}, (((w.alloc (.cells #[.bool false, .string ⟨#[]⟩, .bool false, .string ⟨#[]⟩] 146)).alloc (.cells #[.bool false, .string ⟨#[]⟩, .bool false, .string ⟨#[]⟩] 146))).grownBy wa (some g) → w.heap.size + 2 ≤ wa.heap.size := fun h => by have := h.size; simp only [World.size_alloc] at this; omega
  have HB0 := Lib.hid hB0
  have HB1 := Lib.hid hB1
  have Hh := Lib.hid h
  cases hn : res with
  | err c =>
    have hc := ne_code (hres hn)
    have H1 := Lib.hid (H.mono fun e w' hh => withinv_err' hn hh)
    clear hn h h2 H hB0 hB1 hres
    go_enter Try.func97, Try.ntmps97
    go_wp2_with (first | (go_at_call 60; refine Ht.out.mono ?_; rintro e w' ⟨rfl, rfl⟩) | fail)
    refine H1.out.mono ?_
    rintro e w1 ⟨⟨⟨xun, xus⟩, ⟨xdn, xds⟩⟩, a', rfl, hr1, hg1⟩
    have z1 := ga hg1
    have k0 := HB0.out.grown hg1 hne0
    have k1 := HB1.out.grown hg1 hne1
    have q0 : w1.cell? ⟨w.heap.size, 0, none⟩ = some (.bool false) := k0.cell 0
    have f0 := k0.frozen 0
    have u0 : w1.cell? ⟨w.heap.size + 1, 0, none⟩ = some (.bool false) := k1.cell 0
    have q1 : w1.cell? ⟨w.heap.size, 1, none⟩ = some (.string ⟨#[]⟩) := k0.cell 1
    have f1 := k0.frozen 1
    have u1 : w1.cell? ⟨w.heap.size + 1, 1, none⟩ = some (.string ⟨#[]⟩) := k1.cell 1
    have q2 : w1.cell? ⟨w.heap.size, 2, none⟩ = some (.bool false) := k0.cell 2
    have f2 := k0.frozen 2
    have u2 : w1.cell? ⟨w.heap.size + 1, 2, none⟩ = some (.bool false) := k1.cell 2
    have q3 : w1.cell? ⟨w.heap.size, 3, none⟩ = some (.string ⟨#[]⟩) := k0.cell 3
    have f3 := k0.frozen 3
    have u3 : w1.cell? ⟨w.heap.size + 1, 3, none⟩ = some (.string ⟨#[]⟩) := k1.cell 3
    have c1' := hr1.c1
    have f1' := hr1.f1
    have zg := hr1.lt
    have n1 : w.heap.size ≠ w1.heap.size := by omega
    have n2 : w.heap.size + 1 ≠ w1.heap.size := by omega
    have n3 : w.heap.size ≠ g := by omega
    have n4 : w.heap.size + 1 ≠ g := by omega
    have n5 : g ≠ w1.heap.size := by omega
    have z3 : w.heap.size + 1 < w1.heap.size := by omega
    have z4 : w.heap.size < w1.heap.size := by omega
    clear k0 k1
    go_wp2_with fail
    refine bodyPost_ret (by simp [results, Try.results97, go_sem, q0, q1, q2, q3, n1, n3, z4]; rfl) rfl ?_
    refine reads1_err rfl ⟨rfl, ?_, only_alloc (only_new (only_new (only_new (only_new (only_setCell (p := ⟨g, 1, none⟩) (only_of_alloc (only_of_alloc hg1)) (.inl rfl) _) (Nat.le_refl _) _) (Nat.le_refl _) _) (Nat.le_refl _) _) (Nat.le_refl _) _) _⟩
    exact (Rd.off Hh.out (Rd.off Hh.out (Rd.off Hh.out (Rd.off Hh.out (hr1.go a hle) (Nat.le_refl _) _) (Nat.le_refl _) _) (Nat.le_refl _) _) (Nat.le_refl _) _).alloc _
  | ok x k =>
    obtain ⟨⟨xun, xus⟩, ⟨xdn, xds⟩⟩ := x
    have H1 := Lib.hid (H.mono fun e w' hh => withinv_ok' hn hh)
    clear hn h h2 H hB0 hB1 hres
    go_enter Try.func97, Try.ntmps97
    go_wp2_with (first | (go_at_call 60; refine Ht.out.mono ?_; rintro e w' ⟨rfl, rfl⟩) | fail)
    refine H1.out.mono ?_
    rintro e w1 ⟨rfl, hr1, hg1⟩
    have z1 := ga hg1
    have k0 := HB0.out.grown hg1 hne0
    have k1 := HB1.out.grown hg1 hne1
    have q0 : w1.cell? ⟨w.heap.size, 0, none⟩ = some (.bool false) := k0.cell 0
    have f0 := k0.frozen 0
    have u0 : w1.cell? ⟨w.heap.size + 1, 0, none⟩ = some (.bool false) := k1.cell 0
    have q1 : w1.cell? ⟨w.heap.size, 1, none⟩ = some (.string ⟨#[]⟩) := k0.cell 1
    have f1 := k0.frozen 1
    have u1 : w1.cell? ⟨w.heap.size + 1, 1, none⟩ = some (.string ⟨#[]⟩) := k1.cell 1
    have q2 : w1.cell? ⟨w.heap.size, 2, none⟩ = some (.bool false) := k0.cell 2
    have f2 := k0.frozen 2
    have u2 : w1.cell? ⟨w.heap.size + 1, 2, none⟩ = some (.bool false) := k1.cell 2
    have q3 : w1.cell? ⟨w.heap.size, 3, none⟩ = some (.string ⟨#[]⟩) := k0.cell 3
    have f3 := k0.frozen 3
    have u3 : w1.cell? ⟨w.heap.size + 1, 3, none⟩ = some (.string ⟨#[]⟩) := k1.cell 3
    have c1' := hr1.c1
    have f1' := hr1.f1
    have zg := hr1.lt
    have n1 : w.heap.size ≠ w1.heap.size := by omega
    have n2 : w.heap.size + 1 ≠ w1.heap.size := by omega
    have n3 : w.heap.size ≠ g := by omega
    have n4 : w.heap.size + 1 ≠ g := by omega
    have n5 : g ≠ w1.heap.size := by omega
    have z3 : w.heap.size + 1 < w1.heap.size := by omega
    have z4 : w.heap.size < w1.heap.size := by omega
    clear k0 k1
    go_wp2_with fail
    refine bodyPost_ret (by simp [results, Try.results97, go_sem, q0, q1, q2, q3, n1, n3, z4]; rfl) rfl ?_
    refine reads1_ok rfl ⟨rfl, ?_, only_alloc (only_new (only_new (only_new (only_new (only_of_alloc (only_of_alloc hg1)) (Nat.le_refl _) _) (Nat.le_refl _) _) (Nat.le_refl _) _) (Nat.le_refl _) _) _⟩
    exact (Rd.off Hh.out (Rd.off Hh.out (Rd.off Hh.out (Rd.off Hh.out (hr1) (Nat.le_refl _) _) (Nat.le_refl _) _) (Nat.le_refl _) _) (Nat.le_refl _) _).alloc _


set_option maxRecDepth 100000 in
set_option maxHeartbeats 16000000 in
theorem both1_WW {w : World} {B g bx bo : Nat} {v : Value} {l : List UInt8} {a : Nat} (h : Rd w B g v l a) (hbx : Blk w bx 61 #[.pointer (some ⟨g, 0, none⟩)]) (hbo : Blk w bo 149 #[.func (.func 52) #[] #[]]) :
    Calls Try.prog 98 #[.pointer (some ⟨bo, 0, none⟩), .pointer (some ⟨bx, 0, none⟩)] w
      (WithinV (fun x : ((Bool × ByteArray) × (Bool × ByteArray)) => .agg #[.bool x.1.1, .string x.1.2, .bool x.2.1, .string x.2.2]) (Wire.both Wire.whole (l.drop a)) w B g v l a) := by
  have h2 := (h.alloc (.cells #[.bool false, .string ⟨#[]⟩, .bool false, .string ⟨#[]⟩] 146)).alloc (.cells #[.bool false, .string ⟨#[]⟩, .bool false, .string ⟨#[]⟩] 146)
  have hbx2 := (hbx.alloc (.cells #[.bool false, .string ⟨#[]⟩, .bool false, .string ⟨#[]⟩] 146)).alloc (.cells #[.bool false, .string ⟨#[]⟩, .bool false, .string ⟨#[]⟩] 146)
  have hbo2 := (hbo.alloc (.cells #[.bool false, .string ⟨#[]⟩, .bool false, .string ⟨#[]⟩] 146)).alloc (.cells #[.bool false, .string ⟨#[]⟩, .bool false, .string ⟨#[]⟩] 146)
  have hB0 := (Blk.new w 146 #[.bool false, .string ⟨#[]⟩, .bool false, .string ⟨#[]⟩]).alloc (.cells #[.bool false, .string ⟨#[]⟩, .bool false, .string ⟨#[]⟩] 146)
  have hB1 := Blk.new (w.alloc (.cells #[.bool false, .string ⟨#[]⟩, .bool false, .string ⟨#[]⟩] 146)) 146 #[.bool false, .string ⟨#[]⟩, .bool false, .string ⟨#[]⟩]
  rw [World.size_alloc] at hB1
  have hgl := h.lt
  have cx := hbx.cell 0
  have co := hbo.cell 0
  have lx := hbx.lt
  have lo := hbo.lt
  have hxg := rd_ne h hbx (by decide) (by decide)
  have hog := rd_ne h hbo (by decide) (by decide)
  have hne0 : some w.heap.size ≠ some g := fun e => by have := Option.some.inj e; omega
  have hne1 : some (w.heap.size + 1) ≠ some g := fun e => by have := Option.some.inj e; omega
  have hnx : some bx ≠ some g := fun e => hxg (Option.some.inj e)
  have hno : some bo ≠ some g := fun e => hog (Option.some.inj e)
  have h01 : w.heap.size ≠ w.heap.size + 1 := by omega
  have ga : ∀ {wa : World}, (((w.alloc (.cells #[.bool false, .string ⟨#[]⟩, .bool false, .string ⟨#[]⟩] 146)).alloc (.cells #[.bool false, .string ⟨#[]⟩, .bool false, .string ⟨#[]⟩] 146))).grownBy wa (some g) → w.heap.size + 2 ≤ wa.heap.size := fun h => by have := h.size; simp only [World.size_alloc] at this; omega
  have Hx := Lib.hid hbx2
  have Ho := Lib.hid hbo2
  have HB0 := Lib.hid hB0
  have HB1 := Lib.hid hB1
  have Hh := Lib.hid h
  cases hn : Wire.whole (l.drop a) with
  | err c =>
    have hc := ne_code (Wire.whole_err hn)
    have Hs := Lib.hid (Wire.both1 hn)
    have H1 := Lib.hid ((whole_rd h2).mono fun e w' hh => reads1_err' hn hh)
    clear h h2 hbx hbo hbx2 hbo2 hB0 hB1 hn hgl
    go_enter Try.func98, Try.ntmps98
    go_wp2
    refine wp_loop_rounds 3 ?_
    rw [rounds_succ]
    go_wp2_with fail
    refine H1.out.mono ?_
    rintro e w1 ⟨rfl, hr1, hg1⟩
    have z1 := ga hg1
    have j1 : w.heap.size ≠ w1.heap.size := by omega
    have j2 : w.heap.size + 1 ≠ w1.heap.size := by omega
    have j3 : w.heap.size < w1.heap.size := by omega
    have j4 : w.heap.size + 1 < w1.heap.size := by omega
    have k0 := HB0.out.grown hg1 hne0
    have q0 : w1.cell? ⟨w.heap.size, 0, none⟩ = some (.bool false) := k0.cell 0
    have q1 : w1.cell? ⟨w.heap.size, 1, none⟩ = some (.string ⟨#[]⟩) := k0.cell 1
    have q2 : w1.cell? ⟨w.heap.size, 2, none⟩ = some (.bool false) := k0.cell 2
    have q3 : w1.cell? ⟨w.heap.size, 3, none⟩ = some (.string ⟨#[]⟩) := k0.cell 3
    have f0 := k0.frozen 0
    have f1 := k0.frozen 1
    have f2 := k0.frozen 2
    have f3 := k0.frozen 3
    clear k0
    go_wp2_with fail
    try simp only [Exit.inBlock, Exit.then]
    refine bodyPost_ret (by simp [results, Try.results98, go_sem, q0, q1, q2, q3, j1, j3]; rfl) rfl ?_
    exact withinv_err Hs.out ⟨((false, ⟨#[]⟩), (false, ⟨#[]⟩)), _, rfl, (Rd.off Hh.out (Rd.off Hh.out (Rd.off Hh.out (Rd.off Hh.out (hr1) (Nat.le_refl _) _) (Nat.le_refl _) _) (Nat.le_refl _) _) (Nat.le_refl _) _).alloc _, only_alloc (only_new (only_new (only_new (only_new (only_of_alloc (only_of_alloc hg1)) (Nat.le_refl _) _) (Nat.le_refl _) _) (Nat.le_refl _) _) (Nat.le_refl _) _) _⟩
  | ok x k =>
    obtain ⟨xn, xs⟩ := x
    have hdd : (l.drop a).drop k = l.drop (a + k) := by rw [List.drop_drop]
    have H1 := Lib.hid ((whole_rd h2).mono fun e w' hh => reads1_ok' hn hh)
    cases hn2 : Wire.whole (l.drop (a + k)) with
    | err c =>
      have hc := ne_code (Wire.whole_err hn2)
      have Hs := Lib.hid (Wire.both2 hn (by rw [hdd]; exact hn2))
      have H2 := Lib.hid fun w' (h' : Rd w' B g v l (a + k)) => (whole_rd h').mono fun e w' hh => reads1_err' hn2 hh
      clear h h2 hbx hbo hbx2 hbo2 hB0 hB1 hn hgl hn2 hdd
      go_enter Try.func98, Try.ntmps98
      go_wp2
      refine wp_loop_rounds 3 ?_
      rw [rounds_succ]
      go_wp2_with fail
      refine H1.out.mono ?_
      rintro e w1 ⟨rfl, hr1, hg1⟩
      have z1 := ga hg1
      have j1 : w.heap.size ≠ w1.heap.size := by omega
      have j2 : w.heap.size + 1 ≠ w1.heap.size := by omega
      have j3 : w.heap.size < w1.heap.size := by omega
      have j4 : w.heap.size + 1 < w1.heap.size := by omega
      have y0 : w1.cell? ⟨w.heap.size + 1, 0, none⟩ = some (.bool false) := (HB1.out.grown hg1 hne1).cell 0
      have y1 : w1.cell? ⟨w.heap.size + 1, 1, none⟩ = some (.string ⟨#[]⟩) := (HB1.out.grown hg1 hne1).cell 1
      have y2 : w1.cell? ⟨w.heap.size + 1, 2, none⟩ = some (.bool false) := (HB1.out.grown hg1 hne1).cell 2
      have y3 : w1.cell? ⟨w.heap.size + 1, 3, none⟩ = some (.string ⟨#[]⟩) := (HB1.out.grown hg1 hne1).cell 3
      have e0 := (HB1.out.grown hg1 hne1).frozen 0
      have e1 := (HB1.out.grown hg1 hne1).frozen 1
      have e2 := (HB1.out.grown hg1 hne1).frozen 2
      have e3 := (HB1.out.grown hg1 hne1).frozen 3
      have cx1 := (Hx.out.grown hg1 hnx).cell 0
      have co1 := (Ho.out.grown hg1 hno).cell 0
      have hx1 : bx ≠ w.heap.size + 1 := by omega
      have ho1 : bo ≠ w.heap.size + 1 := by omega
      have hx2 : bx < w1.heap.size := by omega
      have ho2 : bo < w1.heap.size := by omega
      go_wp2_with fail
      rw [rounds_succ]
      go_wp2_with fail
      refine (H2.out _ ((Rd.off Hh.out (Rd.off Hh.out (hr1) (Nat.le_succ _) _) (Nat.le_succ _) _).alloc (.cells #[.bool xn, .string xs] 28))).mono ?_
      rintro e w2 ⟨rfl, hr2, hg2⟩
      have z2 := hg2.size
      simp only [World.size_alloc, World.size_setCell] at z2
      have j5 : w.heap.size ≠ w2.heap.size := by omega
      have j6 : w.heap.size + 1 ≠ w2.heap.size := by omega
      have j7 : w.heap.size < w2.heap.size := by omega
      have j8 : w.heap.size + 1 < w2.heap.size := by omega
      have hgg := ((only_alloc (only_new (only_new (only_of_alloc (only_of_alloc hg1)) (Nat.le_succ w.heap.size) _) (Nat.le_succ w.heap.size) _) (.cells #[.bool xn, .string xs] 28))).trans hg2
      have k0 := ((((HB0.out.grown hg1 hne0).far (p := ⟨w.heap.size + 1, 0, none⟩) h01 (.bool xn)).far (p := ⟨w.heap.size + 1, 1, none⟩) h01 (.string xs)).alloc (.cells #[.bool xn, .string xs] 28)).grown hg2 hne0
      have q0 : w2.cell? ⟨w.heap.size, 0, none⟩ = some (.bool false) := k0.cell 0
      have q1 : w2.cell? ⟨w.heap.size, 1, none⟩ = some (.string ⟨#[]⟩) := k0.cell 1
      have q2 : w2.cell? ⟨w.heap.size, 2, none⟩ = some (.bool false) := k0.cell 2
      have q3 : w2.cell? ⟨w.heap.size, 3, none⟩ = some (.string ⟨#[]⟩) := k0.cell 3
      have f0 := k0.frozen 0
      have f1 := k0.frozen 1
      have f2 := k0.frozen 2
      have f3 := k0.frozen 3
      clear k0
      go_wp2_with fail
      try simp only [Exit.inBlock, Exit.then]
      refine bodyPost_ret (by simp [results, Try.results98, go_sem, q0, q1, q2, q3, j5, j7]; rfl) rfl ?_
      exact withinv_err Hs.out ⟨((false, ⟨#[]⟩), (false, ⟨#[]⟩)), _, rfl, (Rd.off Hh.out (Rd.off Hh.out (Rd.off Hh.out (Rd.off Hh.out (hr2) (Nat.le_refl _) _) (Nat.le_refl _) _) (Nat.le_refl _) _) (Nat.le_refl _) _).alloc _, only_alloc (only_new (only_new (only_new (only_new (hgg) (Nat.le_refl _) _) (Nat.le_refl _) _) (Nat.le_refl _) _) (Nat.le_refl _) _) _⟩
    | ok y m =>
      obtain ⟨yn, ys⟩ := y
      have Hs := Lib.hid (Wire.both3 hn (by rw [hdd]; exact hn2))
      have H2 := Lib.hid fun w' (h' : Rd w' B g v l (a + k)) => (whole_rd h').mono fun e w' hh => reads1_ok' hn2 hh
      clear h h2 hbx hbo hbx2 hbo2 hB0 hB1 hn hgl hn2 hdd
      go_enter Try.func98, Try.ntmps98
      go_wp2
      refine wp_loop_rounds 3 ?_
      rw [rounds_succ]
      go_wp2_with fail
      refine H1.out.mono ?_
      rintro e w1 ⟨rfl, hr1, hg1⟩
      have z1 := ga hg1
      have j1 : w.heap.size ≠ w1.heap.size := by omega
      have j2 : w.heap.size + 1 ≠ w1.heap.size := by omega
      have j3 : w.heap.size < w1.heap.size := by omega
      have j4 : w.heap.size + 1 < w1.heap.size := by omega
      have y0 : w1.cell? ⟨w.heap.size + 1, 0, none⟩ = some (.bool false) := (HB1.out.grown hg1 hne1).cell 0
      have y1 : w1.cell? ⟨w.heap.size + 1, 1, none⟩ = some (.string ⟨#[]⟩) := (HB1.out.grown hg1 hne1).cell 1
      have y2 : w1.cell? ⟨w.heap.size + 1, 2, none⟩ = some (.bool false) := (HB1.out.grown hg1 hne1).cell 2
      have y3 : w1.cell? ⟨w.heap.size + 1, 3, none⟩ = some (.string ⟨#[]⟩) := (HB1.out.grown hg1 hne1).cell 3
      have e0 := (HB1.out.grown hg1 hne1).frozen 0
      have e1 := (HB1.out.grown hg1 hne1).frozen 1
      have e2 := (HB1.out.grown hg1 hne1).frozen 2
      have e3 := (HB1.out.grown hg1 hne1).frozen 3
      have cx1 := (Hx.out.grown hg1 hnx).cell 0
      have co1 := (Ho.out.grown hg1 hno).cell 0
      have hx1 : bx ≠ w.heap.size + 1 := by omega
      have ho1 : bo ≠ w.heap.size + 1 := by omega
      have hx2 : bx < w1.heap.size := by omega
      have ho2 : bo < w1.heap.size := by omega
      go_wp2_with fail
      rw [rounds_succ]
      go_wp2_with fail
      refine (H2.out _ ((Rd.off Hh.out (Rd.off Hh.out (hr1) (Nat.le_succ _) _) (Nat.le_succ _) _).alloc (.cells #[.bool xn, .string xs] 28))).mono ?_
      rintro e w2 ⟨rfl, hr2, hg2⟩
      have z2 := hg2.size
      simp only [World.size_alloc, World.size_setCell] at z2
      have j5 : w.heap.size ≠ w2.heap.size := by omega
      have j6 : w.heap.size + 1 ≠ w2.heap.size := by omega
      have j7 : w.heap.size < w2.heap.size := by omega
      have j8 : w.heap.size + 1 < w2.heap.size := by omega
      have hgg := ((only_alloc (only_new (only_new (only_of_alloc (only_of_alloc hg1)) (Nat.le_succ w.heap.size) _) (Nat.le_succ w.heap.size) _) (.cells #[.bool xn, .string xs] 28))).trans hg2
      have k0 := ((((HB0.out.grown hg1 hne0).far (p := ⟨w.heap.size + 1, 0, none⟩) h01 (.bool xn)).far (p := ⟨w.heap.size + 1, 1, none⟩) h01 (.string xs)).alloc (.cells #[.bool xn, .string xs] 28)).grown hg2 hne0
      have k1 := (((((HB1.out.grown hg1 hne1).set_ 0 (.bool xn)).set_ 1 (.string xs)).alloc (.cells #[.bool xn, .string xs] 28)).grown hg2 hne1)
      have t0 := k1.frozen 0
      have t1 := k1.frozen 1
      have t2 := k1.frozen 2
      have t3 := k1.frozen 3
      have u0 : w2.cell? ⟨w.heap.size + 1, 0, none⟩ = some (.bool xn) := k1.cell 0
      have u1 : w2.cell? ⟨w.heap.size + 1, 1, none⟩ = some (.string xs) := k1.cell 1
      have u2 : w2.cell? ⟨w.heap.size + 1, 2, none⟩ = some (.bool false) := k1.cell 2
      have u3 : w2.cell? ⟨w.heap.size + 1, 3, none⟩ = some (.string ⟨#[]⟩) := k1.cell 3
      go_wp2_with fail
      obtain ⟨w3, hw3⟩ : ∃ w3, w3 = (((w2.setCell ⟨w.heap.size + 1, 2, none⟩ (.bool yn)).setCell ⟨w.heap.size + 1, 3, none⟩ (.string ys)).alloc (.cells #[.bool yn, .string ys] 28)) := ⟨_, rfl⟩
      have k0y : Blk w3 w.heap.size 146 #[.bool false, .string ⟨#[]⟩, .bool false, .string ⟨#[]⟩] := by rw [hw3]; exact ((k0.far (p := ⟨w.heap.size + 1, 2, none⟩) h01 (.bool yn)).far (p := ⟨w.heap.size + 1, 3, none⟩) h01 (.string ys)).alloc _
      have k1y : Blk w3 (w.heap.size + 1) 146 #[.bool xn, .string xs, .bool yn, .string ys] := by rw [hw3]; exact (((((((HB1.out.grown hg1 hne1).set_ 0 (.bool xn)).set_ 1 (.string xs)).alloc (.cells #[.bool xn, .string xs] 28)).grown hg2 hne1).set_ 2 (.bool yn)).set_ 3 (.string ys)).alloc _
      have hr3 : Rd w3 B g v l (a + k + m) := by rw [hw3]; exact (Rd.off (b := w.heap.size + 1) (i := 3) Hh.out (Rd.off (b := w.heap.size + 1) (i := 2) Hh.out hr2 (Nat.le_succ _) (.bool yn)) (Nat.le_succ _) (.string ys)).alloc _
      have hg3 : w.grownBy w3 (some g) := by rw [hw3]; exact only_alloc (only_new (b := w.heap.size + 1) (i := 3) (only_new (b := w.heap.size + 1) (i := 2) hgg (Nat.le_succ _) (.bool yn)) (Nat.le_succ _) (.string ys)) _
      rw [← hw3]
      clear hw3 k0 k1 hr2 hg2 hgg hr1 hg1 cx1 co1 t0 u0 t1 u1 t2 u2 t3 u3
      have q0 : w3.cell? ⟨w.heap.size, 0, none⟩ = some (.bool false) := k0y.cell 0
      have q1 : w3.cell? ⟨w.heap.size, 1, none⟩ = some (.string ⟨#[]⟩) := k0y.cell 1
      have q2 : w3.cell? ⟨w.heap.size, 2, none⟩ = some (.bool false) := k0y.cell 2
      have q3 : w3.cell? ⟨w.heap.size, 3, none⟩ = some (.string ⟨#[]⟩) := k0y.cell 3
      have f0 := k0y.frozen 0
      have f1 := k0y.frozen 1
      have f2 := k0y.frozen 2
      have f3 := k0y.frozen 3
      have u0 : w3.cell? ⟨w.heap.size + 1, 0, none⟩ = some (.bool xn) := k1y.cell 0
      have u1 : w3.cell? ⟨w.heap.size + 1, 1, none⟩ = some (.string xs) := k1y.cell 1
      have u2 : w3.cell? ⟨w.heap.size + 1, 2, none⟩ = some (.bool yn) := k1y.cell 2
      have u3 : w3.cell? ⟨w.heap.size + 1, 3, none⟩ = some (.string ys) := k1y.cell 3
      clear k0y k1y
      rw [rounds_succ]
      go_wp2_with fail
      try simp only [Exit.inBlock, Exit.then]
      refine bodyPost_ret (by simp [results, Try.results98, go_sem, q0, q1, q2, q3]; rfl) rfl ?_
      refine withinv_ok Hs.out ⟨rfl, ?_, only_new (only_new (only_new (only_new (hg3) (Nat.le_refl _) _) (Nat.le_refl _) _) (Nat.le_refl _) _) (Nat.le_refl _) _⟩
      rw [← Nat.add_assoc]
      exact Rd.off Hh.out (Rd.off Hh.out (Rd.off Hh.out (Rd.off Hh.out (hr3) (Nat.le_refl _) _) (Nat.le_refl _) _) (Nat.le_refl _) _) (Nat.le_refl _) _


set_option maxRecDepth 100000 in
set_option maxHeartbeats 8000000 in
theorem both_WW {w : World} {B g : Nat} {v : Value} {l : List UInt8} {a : Nat} (h : Rd w B g v l a) :
    Calls Try.prog 92 #[.pointer (some ⟨g, 0, none⟩), .func (.func 52) #[] #[]] w
      (Reads1 (fun x : ((Bool × ByteArray) × (Bool × ByteArray)) => .agg #[.bool x.1.1, .string x.1.2, .bool x.2.1, .string x.2.2]) (.agg #[.bool false, .string ⟨#[]⟩, .bool false, .string ⟨#[]⟩]) (Wire.both Wire.whole (l.drop a)) w B g v l a) := by
  have hmf : ∀ (fn : Fn) (first cap : Array Value) (w : World), (Instr.makeFunc fn first cap).run Try.prog w = .ok (.func fn first cap) w := fun _ _ _ _ => rfl
  have h3 := ((h.alloc (.cells #[.pointer (some ⟨g, 0, none⟩)] 61)).alloc (.cells #[.func (.func 52) #[] #[]] 149)).alloc (.cells #[.bool false, .string ⟨#[]⟩, .bool false, .string ⟨#[]⟩] 146)
  have hb1 := (((( Blk.new w 61 #[.pointer (some ⟨g, 0, none⟩)]).alloc (.cells #[.func (.func 52) #[] #[]] 149)).alloc (.cells #[.bool false, .string ⟨#[]⟩, .bool false, .string ⟨#[]⟩] 146)).alloc (.cells #[.bool false, .string ⟨#[]⟩, .bool false, .string ⟨#[]⟩] 146)).alloc (.cells #[.bool false, .string ⟨#[]⟩, .bool false, .string ⟨#[]⟩] 146)
  have hb2 := (((Blk.new (w.alloc (.cells #[.pointer (some ⟨g, 0, none⟩)] 61)) 149 #[.func (.func 52) #[] #[]]).alloc (.cells #[.bool false, .string ⟨#[]⟩, .bool false, .string ⟨#[]⟩] 146)).alloc (.cells #[.bool false, .string ⟨#[]⟩, .bool false, .string ⟨#[]⟩] 146)).alloc (.cells #[.bool false, .string ⟨#[]⟩, .bool false, .string ⟨#[]⟩] 146)
  have hB0 := Blk.new ((w.alloc (.cells #[.pointer (some ⟨g, 0, none⟩)] 61)).alloc (.cells #[.func (.func 52) #[] #[]] 149)) 146 #[.bool false, .string ⟨#[]⟩, .bool false, .string ⟨#[]⟩]
  have HT := tried_WW (fun h => Wire.both_err Wire.whole_err h) h3 (both1_WW ((h3.alloc _).alloc _) hb1 hb2)
  rw [World.size_alloc] at HT
  simp only [World.size_alloc] at hB0
  have hgl := h.lt
  have hne0 : some (w.heap.size + 1 + 1) ≠ some g := fun e => by have := Option.some.inj e; omega
  have HB0 := Lib.hid hB0
  have Hh := Lib.hid h
  cases hn : Wire.both Wire.whole (l.drop a) with
  | err c =>
    have H1 := Lib.hid (HT.mono fun e w' hh => reads1_err' hn hh)
    clear hn h h3 hb1 hb2 HT hB0
    go_enter Try.func92, Try.ntmps92
    go_wp2_with fail
    refine H1.out.mono ?_
    rintro e w1 ⟨rfl, hr1, hg1⟩
    have k0 := HB0.out.grown hg1 hne0
    have q0 : w1.cell? ⟨w.heap.size + 1 + 1, 0, none⟩ = some (.bool false) := k0.cell 0
    have f0 := k0.frozen 0
    have q1 : w1.cell? ⟨w.heap.size + 1 + 1, 1, none⟩ = some (.string ⟨#[]⟩) := k0.cell 1
    have f1 := k0.frozen 1
    have q2 : w1.cell? ⟨w.heap.size + 1 + 1, 2, none⟩ = some (.bool false) := k0.cell 2
    have f2 := k0.frozen 2
    have q3 : w1.cell? ⟨w.heap.size + 1 + 1, 3, none⟩ = some (.string ⟨#[]⟩) := k0.cell 3
    have f3 := k0.frozen 3
    clear k0
    go_wp2_with fail
    refine bodyPost_ret (by simp [results, Try.results92, go_sem, q0, q1, q2, q3]; rfl) rfl ?_
    refine reads1_err rfl ⟨rfl, Rd.off Hh.out (Rd.off Hh.out (Rd.off Hh.out (Rd.off Hh.out (hr1) (Nat.le_add_right _ 2) _) (Nat.le_add_right _ 2) _) (Nat.le_add_right _ 2) _) (Nat.le_add_right _ 2) _, only_new (only_new (only_new (only_new (only_of_alloc (only_of_alloc (only_of_alloc hg1))) (Nat.le_add_right _ 2) _) (Nat.le_add_right _ 2) _) (Nat.le_add_right _ 2) _) (Nat.le_add_right _ 2) _⟩
  | ok x k =>
    obtain ⟨⟨xun, xus⟩, ⟨xdn, xds⟩⟩ := x
    have H1 := Lib.hid (HT.mono fun e w' hh => reads1_ok' hn hh)
    clear hn h h3 hb1 hb2 HT hB0
    go_enter Try.func92, Try.ntmps92
    go_wp2_with fail
    refine H1.out.mono ?_
    rintro e w1 ⟨rfl, hr1, hg1⟩
    have k0 := HB0.out.grown hg1 hne0
    have q0 : w1.cell? ⟨w.heap.size + 1 + 1, 0, none⟩ = some (.bool false) := k0.cell 0
    have f0 := k0.frozen 0
    have q1 : w1.cell? ⟨w.heap.size + 1 + 1, 1, none⟩ = some (.string ⟨#[]⟩) := k0.cell 1
    have f1 := k0.frozen 1
    have q2 : w1.cell? ⟨w.heap.size + 1 + 1, 2, none⟩ = some (.bool false) := k0.cell 2
    have f2 := k0.frozen 2
    have q3 : w1.cell? ⟨w.heap.size + 1 + 1, 3, none⟩ = some (.string ⟨#[]⟩) := k0.cell 3
    have f3 := k0.frozen 3
    clear k0
    go_wp2_with fail
    refine bodyPost_ret (by simp [results, Try.results92, go_sem, q0, q1, q2, q3]; rfl) rfl ?_
    refine reads1_ok rfl ⟨rfl, Rd.off Hh.out (Rd.off Hh.out (Rd.off Hh.out (Rd.off Hh.out (hr1) (Nat.le_add_right _ 2) _) (Nat.le_add_right _ 2) _) (Nat.le_add_right _ 2) _) (Nat.le_add_right _ 2) _, only_new (only_new (only_new (only_new (only_of_alloc (only_of_alloc (only_of_alloc hg1))) (Nat.le_add_right _ 2) _) (Nat.le_add_right _ 2) _) (Nat.le_add_right _ 2) _) (Nat.le_add_right _ 2) _⟩

end Go.Proofs.Ytgmienlifnpniaa
