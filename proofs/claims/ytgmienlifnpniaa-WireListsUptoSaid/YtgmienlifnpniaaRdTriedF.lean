/- tried, of pairs of fractions (printed by gen_ff.py). -/
import Derived.Test.YtgmienlifnpniaaRdFrac
import Derived.Test.YtgmienlifnpniaaAgg
namespace Go.Proofs.Ytgmienlifnpniaa
open Go.RowKit
set_option linter.unusedSimpArgs false

theorem Rd.wipe {w w' : World} {B g b : Nat} {v : Value} {l : List UInt8} {a a' : Nat} {w0 : World} (h0 : Rd w0 B g v l a) (h : Rd w B g v l a') (hb : w0.heap.size ≤ b) (hg : w.grownBy w' (some b)) : Rd w' B g v l a' := by
  have e1 : some g ≠ some b := fun e => by have := Option.some.inj e; have := h0.lt; omega
  refine ⟨h.base, h.blk.grown hg e1, h.own.grown hg (.inl fun e => ?_), h.yes, h.le, h.len⟩
  have := World.ownsRow.lt h0.own b e
  omega
theorem only_wipe {a w w' : World} {b g : Nat} (h : a.grownBy w (some g)) (hb : a.heap.size ≤ b) (hg : w.grownBy w' (some b)) : a.grownBy w' (some g) :=
  ⟨hg.os.trans h.os, hg.tape.trans h.tape, hg.output.trans h.output, Nat.le_trans h.size hg.size, fun i hi hne => (hg.block i (Nat.lt_of_lt_of_le hi h.size) (fun e => by have := Option.some.inj e; omega)).trans (h.block i hi hne)⟩

set_option maxRecDepth 100000 in
set_option maxHeartbeats 4000000 in
theorem tried_FF {w : World} {B g : Nat} {v : Value} {l : List UInt8} {a : Nat} {cv : Array Value} {res : Wire.Res (((Bool × ByteArray) × (Bool × ByteArray)) × ((Bool × ByteArray) × (Bool × ByteArray)))} (hres : ∀ {c}, res = .err c → c ≠ 0) (h : Rd w B g v l a)
    (H : Calls Try.prog 89 cv ((w.alloc (.cells #[.bool false, .string ⟨#[]⟩, .bool false, .string ⟨#[]⟩, .bool false, .string ⟨#[]⟩, .bool false, .string ⟨#[]⟩] 117)).alloc (.cells #[.bool false, .string ⟨#[]⟩, .bool false, .string ⟨#[]⟩, .bool false, .string ⟨#[]⟩, .bool false, .string ⟨#[]⟩] 117))
      (WithinV (fun x : (((Bool × ByteArray) × (Bool × ByteArray)) × ((Bool × ByteArray) × (Bool × ByteArray))) => .agg #[.bool x.1.1.1, .string x.1.1.2, .bool x.1.2.1, .string x.1.2.2, .bool x.2.1.1, .string x.2.1.2, .bool x.2.2.1, .string x.2.2.2]) res ((w.alloc (.cells #[.bool false, .string ⟨#[]⟩, .bool false, .string ⟨#[]⟩, .bool false, .string ⟨#[]⟩, .bool false, .string ⟨#[]⟩] 117)).alloc (.cells #[.bool false, .string ⟨#[]⟩, .bool false, .string ⟨#[]⟩, .bool false, .string ⟨#[]⟩, .bool false, .string ⟨#[]⟩] 117)) B g v l a)) :
    Calls Try.prog 88 #[.pointer (some ⟨g, 0, none⟩), .func (.func 89) #[] cv] w
      (Reads1 (fun x : (((Bool × ByteArray) × (Bool × ByteArray)) × ((Bool × ByteArray) × (Bool × ByteArray))) => .agg #[.bool x.1.1.1, .string x.1.1.2, .bool x.1.2.1, .string x.1.2.2, .bool x.2.1.1, .string x.2.1.2, .bool x.2.2.1, .string x.2.2.2]) (.agg #[.bool false, .string ⟨#[]⟩, .bool false, .string ⟨#[]⟩, .bool false, .string ⟨#[]⟩, .bool false, .string ⟨#[]⟩]) res w B g v l a) := by
  have h2 := (h.alloc (.cells #[.bool false, .string ⟨#[]⟩, .bool false, .string ⟨#[]⟩, .bool false, .string ⟨#[]⟩, .bool false, .string ⟨#[]⟩] 117)).alloc (.cells #[.bool false, .string ⟨#[]⟩, .bool false, .string ⟨#[]⟩, .bool false, .string ⟨#[]⟩, .bool false, .string ⟨#[]⟩] 117)
  have Ht := Lib.hid (there_any h2)
  have hB0 := (Blk.new w 117 #[.bool false, .string ⟨#[]⟩, .bool false, .string ⟨#[]⟩, .bool false, .string ⟨#[]⟩, .bool false, .string ⟨#[]⟩]).alloc (.cells #[.bool false, .string ⟨#[]⟩, .bool false, .string ⟨#[]⟩, .bool false, .string ⟨#[]⟩, .bool false, .string ⟨#[]⟩] 117)
  have hB1 := Blk.new (w.alloc (.cells #[.bool false, .string ⟨#[]⟩, .bool false, .string ⟨#[]⟩, .bool false, .string ⟨#[]⟩, .bool false, .string ⟨#[]⟩] 117)) 117 #[.bool false, .string ⟨#[]⟩, .bool false, .string ⟨#[]⟩, .bool false, .string ⟨#[]⟩, .bool false, .string ⟨#[]⟩]
  rw [World.size_alloc] at hB1
  have c1 := h2.c1
  have hle := h.le
  have hgl := h.lt
  have hne0 : some w.heap.size ≠ some g := fun e => by have := Option.some.inj e; omega
  have hne1 : some (w.heap.size + 1) ≠ some g := fun e => by have := Option.some.inj e; omega
  have ga : ∀ {wa : World}, (((w.alloc (.cells #[.bool false, .string ⟨#[]⟩, .bool false, .string ⟨#[]⟩, .bool false, .string ⟨#[]⟩, .bool false, .string ⟨#[]⟩] 117)).alloc (.cells #[.bool false, .string ⟨#[]⟩, .bool false, .string ⟨#[]⟩, .bool false, .string ⟨#[]⟩, .bool false, .string ⟨#[]⟩] 117))).grownBy wa (some g) → w.heap.size + 2 ≤ wa.heap.size := fun h => by have := h.size; simp only [World.size_alloc] at this; omega
  have HB0 := Lib.hid hB0
  have HB1 := Lib.hid hB1
  have Hh := Lib.hid h
  cases hn : res with
  | err c =>
    have hc := ne_code (hres hn)
    have H1 := Lib.hid (H.mono fun e w' hh => withinv_err' hn hh)
    clear hn h h2 H hB0 hB1 hres
    go_enter Try.func88, Try.ntmps88
    go_wp2_with (first | (go_at_call 60; refine Ht.out.mono ?_; rintro e w' ⟨rfl, rfl⟩) | fail)
    refine H1.out.mono ?_
    rintro e w1 ⟨⟨x, y⟩, a', rfl, hr1, hg1⟩
    have z1 := ga hg1
    have k0' := (HB0.out.grown hg1 hne0).alloc (.cells #[.bool x.1.1, .string x.1.2, .bool x.2.1, .string x.2.2, .bool y.1.1, .string y.1.2, .bool y.2.1, .string y.2.2] 117)
    have k1' := (HB1.out.grown hg1 hne1).alloc (.cells #[.bool x.1.1, .string x.1.2, .bool x.2.1, .string x.2.2, .bool y.1.1, .string y.1.2, .bool y.2.1, .string y.2.2] 117)
    have k8' := Blk.new w1 117 #[.bool x.1.1, .string x.1.2, .bool x.2.1, .string x.2.2, .bool y.1.1, .string y.1.2, .bool y.2.1, .string y.2.2]
    have hr3 := hr1.alloc (.cells #[.bool x.1.1, .string x.1.2, .bool x.2.1, .string x.2.2, .bool y.1.1, .string y.1.2, .bool y.2.1, .string y.2.2] 117)
    have hg3' := only_alloc (only_of_alloc (only_of_alloc hg1)) (.cells #[.bool x.1.1, .string x.1.2, .bool x.2.1, .string x.2.2, .bool y.1.1, .string y.1.2, .bool y.2.1, .string y.2.2] 117)
    have c1' := hr1.c1
    have f1' := hr1.f1
    have zg := hr1.lt
    have n1 : w.heap.size ≠ w1.heap.size := by omega
    have n5 : g ≠ w1.heap.size := by omega
    have k0f := ((HB0.out.grown hg1 hne0).far (p := ⟨g, 1, none⟩) (by show _ ≠ g; omega) (.int .i64 (a : Int))).alloc (.cells #[.bool x.1.1, .string x.1.2, .bool x.2.1, .string x.2.2, .bool y.1.1, .string y.1.2, .bool y.2.1, .string y.2.2] 117)
    have k1f := ((HB1.out.grown hg1 hne1).far (p := ⟨g, 1, none⟩) (by show _ ≠ g; omega) (.int .i64 (a : Int))).alloc (.cells #[.bool x.1.1, .string x.1.2, .bool x.2.1, .string x.2.2, .bool y.1.1, .string y.1.2, .bool y.2.1, .string y.2.2] 117)
    have hr4 := (hr1.go a hle).alloc (.cells #[.bool x.1.1, .string x.1.2, .bool x.2.1, .string x.2.2, .bool y.1.1, .string y.1.2, .bool y.2.1, .string y.2.2] 117)
    have hg4' := only_alloc (only_setCell (p := ⟨g, 1, none⟩) (only_of_alloc (only_of_alloc hg1)) (.inl rfl) (.int .i64 (a : Int))) (.cells #[.bool x.1.1, .string x.1.2, .bool x.2.1, .string x.2.2, .bool y.1.1, .string y.1.2, .bool y.2.1, .string y.2.2] 117)
    clear hr1 hg1
    go_wp2_with (first
      | (refine wpList_load_part (by rfl) 117 (.tmp 6) (by rfl) (w.heap.size + 1) 0 (by rfl) 117 #[.bool false, .string ⟨#[]⟩, .bool false, .string ⟨#[]⟩, .bool false, .string ⟨#[]⟩, .bool false, .string ⟨#[]⟩] #[.bool false, .string ⟨#[]⟩, .bool false, .string ⟨#[]⟩, .bool false, .string ⟨#[]⟩, .bool false, .string ⟨#[]⟩] _ k1f (by rfl) Try.underlying117 rfl (by kernel_rfl) ?_)
      | (refine wpList_store_part (by rfl) 117 (.tmp 4) (.tmp 29) (by rfl) w.heap.size 0 #[.bool false, .string ⟨#[]⟩, .bool false, .string ⟨#[]⟩, .bool false, .string ⟨#[]⟩, .bool false, .string ⟨#[]⟩] (by rfl) (by rfl) 117 #[.bool false, .string ⟨#[]⟩, .bool false, .string ⟨#[]⟩, .bool false, .string ⟨#[]⟩, .bool false, .string ⟨#[]⟩] #[.bool false, .string ⟨#[]⟩, .bool false, .string ⟨#[]⟩, .bool false, .string ⟨#[]⟩, .bool false, .string ⟨#[]⟩] k0f (by simp) (by rfl) (by kernel_rfl) (by simp [Value.oneCell']) ?_; intro w4 k0'' hg4 hs4))
    refine bodyPost_ret (results_row_tmp rfl _ _ _ _ _ (by rfl) k0'' Try.underlying117 rfl (by kernel_rfl)) rfl ?_
    exact reads1_err rfl ⟨rfl, Rd.wipe Hh.out hr4 (Nat.le_refl _) hg4, only_wipe hg4' (Nat.le_refl _) hg4⟩
  | ok x k =>
    obtain ⟨x, y⟩ := x
    have H1 := Lib.hid (H.mono fun e w' hh => withinv_ok' hn hh)
    clear hn h h2 H hB0 hB1 hres
    go_enter Try.func88, Try.ntmps88
    go_wp2_with (first | (go_at_call 60; refine Ht.out.mono ?_; rintro e w' ⟨rfl, rfl⟩) | fail)
    refine H1.out.mono ?_
    rintro e w1 ⟨rfl, hr1, hg1⟩
    have z1 := ga hg1
    have k0' := (HB0.out.grown hg1 hne0).alloc (.cells #[.bool x.1.1, .string x.1.2, .bool x.2.1, .string x.2.2, .bool y.1.1, .string y.1.2, .bool y.2.1, .string y.2.2] 117)
    have k1' := (HB1.out.grown hg1 hne1).alloc (.cells #[.bool x.1.1, .string x.1.2, .bool x.2.1, .string x.2.2, .bool y.1.1, .string y.1.2, .bool y.2.1, .string y.2.2] 117)
    have k8' := Blk.new w1 117 #[.bool x.1.1, .string x.1.2, .bool x.2.1, .string x.2.2, .bool y.1.1, .string y.1.2, .bool y.2.1, .string y.2.2]
    have hr3 := hr1.alloc (.cells #[.bool x.1.1, .string x.1.2, .bool x.2.1, .string x.2.2, .bool y.1.1, .string y.1.2, .bool y.2.1, .string y.2.2] 117)
    have hg3' := only_alloc (only_of_alloc (only_of_alloc hg1)) (.cells #[.bool x.1.1, .string x.1.2, .bool x.2.1, .string x.2.2, .bool y.1.1, .string y.1.2, .bool y.2.1, .string y.2.2] 117)
    have c1' := hr1.c1
    have f1' := hr1.f1
    have zg := hr1.lt
    have n1 : w.heap.size ≠ w1.heap.size := by omega
    have n5 : g ≠ w1.heap.size := by omega
    clear hr1 hg1
    go_wp2_with (first
      | (refine wpList_load_part (by rfl) 117 (.tmp 8) (by rfl) w1.heap.size 0 (by rfl) 117 #[.bool x.1.1, .string x.1.2, .bool x.2.1, .string x.2.2, .bool y.1.1, .string y.1.2, .bool y.2.1, .string y.2.2] #[.bool x.1.1, .string x.1.2, .bool x.2.1, .string x.2.2, .bool y.1.1, .string y.1.2, .bool y.2.1, .string y.2.2] _ k8' (by rfl) Try.underlying117 rfl (by kernel_rfl) ?_)
      | (refine wpList_store_part (by rfl) 117 (.tmp 4) (.tmp 31) (by rfl) w.heap.size 0 #[.bool x.1.1, .string x.1.2, .bool x.2.1, .string x.2.2, .bool y.1.1, .string y.1.2, .bool y.2.1, .string y.2.2] (by rfl) (by rfl) 117 #[.bool false, .string ⟨#[]⟩, .bool false, .string ⟨#[]⟩, .bool false, .string ⟨#[]⟩, .bool false, .string ⟨#[]⟩] #[.bool x.1.1, .string x.1.2, .bool x.2.1, .string x.2.2, .bool y.1.1, .string y.1.2, .bool y.2.1, .string y.2.2] k0' (by simp) (by rfl) (by kernel_rfl) (by simp [Value.oneCell']) ?_; intro w4 k0'' hg4 hs4))
    refine bodyPost_ret (results_row_tmp rfl _ _ _ _ _ (by rfl) k0'' Try.underlying117 rfl (by kernel_rfl)) rfl ?_
    exact reads1_ok rfl ⟨rfl, Rd.wipe Hh.out hr3 (Nat.le_refl _) hg4, only_wipe hg3' (Nat.le_refl _) hg4⟩
end Go.Proofs.Ytgmienlifnpniaa
