/- both, of fractions: the function within (printed by gen_ff.py). -/
import Derived.Test.YtgmienlifnpniaaRdTriedF
namespace Go.Proofs.Ytgmienlifnpniaa
open Go.RowKit
set_option linter.unusedSimpArgs false

set_option maxRecDepth 100000 in
set_option maxHeartbeats 8000000 in
theorem both1_FF {w : World} {B g bx bo : Nat} {v : Value} {l : List UInt8} {a : Nat} (h : Rd w B g v l a) (hbx : Blk w bx 61 #[.pointer (some ⟨g, 0, none⟩)]) (hbo : Blk w bo 120 #[.func (.func 70) #[] #[]]) :
    Calls Try.prog 89 #[.pointer (some ⟨bo, 0, none⟩), .pointer (some ⟨bx, 0, none⟩)] w
      (WithinV (fun x : (((Bool × ByteArray) × (Bool × ByteArray)) × ((Bool × ByteArray) × (Bool × ByteArray))) => .agg #[.bool x.1.1.1, .string x.1.1.2, .bool x.1.2.1, .string x.1.2.2, .bool x.2.1.1, .string x.2.1.2, .bool x.2.2.1, .string x.2.2.2]) (Wire.both Wire.frac (l.drop a)) w B g v l a) := by
  have h2 := (h.alloc (.cells #[.bool false, .string ⟨#[]⟩, .bool false, .string ⟨#[]⟩, .bool false, .string ⟨#[]⟩, .bool false, .string ⟨#[]⟩] 117)).alloc (.cells #[.bool false, .string ⟨#[]⟩, .bool false, .string ⟨#[]⟩, .bool false, .string ⟨#[]⟩, .bool false, .string ⟨#[]⟩] 117)
  have hbx2 := (hbx.alloc (.cells #[.bool false, .string ⟨#[]⟩, .bool false, .string ⟨#[]⟩, .bool false, .string ⟨#[]⟩, .bool false, .string ⟨#[]⟩] 117)).alloc (.cells #[.bool false, .string ⟨#[]⟩, .bool false, .string ⟨#[]⟩, .bool false, .string ⟨#[]⟩, .bool false, .string ⟨#[]⟩] 117)
  have hbo2 := (hbo.alloc (.cells #[.bool false, .string ⟨#[]⟩, .bool false, .string ⟨#[]⟩, .bool false, .string ⟨#[]⟩, .bool false, .string ⟨#[]⟩] 117)).alloc (.cells #[.bool false, .string ⟨#[]⟩, .bool false, .string ⟨#[]⟩, .bool false, .string ⟨#[]⟩, .bool false, .string ⟨#[]⟩] 117)
  have hB0 := (Blk.new w 117 #[.bool false, .string ⟨#[]⟩, .bool false, .string ⟨#[]⟩, .bool false, .string ⟨#[]⟩, .bool false, .string ⟨#[]⟩]).alloc (.cells #[.bool false, .string ⟨#[]⟩, .bool false, .string ⟨#[]⟩, .bool false, .string ⟨#[]⟩, .bool false, .string ⟨#[]⟩] 117)
  have hB1 := Blk.new (w.alloc (.cells #[.bool false, .string ⟨#[]⟩, .bool false, .string ⟨#[]⟩, .bool false, .string ⟨#[]⟩, .bool false, .string ⟨#[]⟩] 117)) 117 #[.bool false, .string ⟨#[]⟩, .bool false, .string ⟨#[]⟩, .bool false, .string ⟨#[]⟩, .bool false, .string ⟨#[]⟩]
  rw [World.size_alloc] at hB1
  have hgl := h.lt
  have cx := hbx.cell 0
  have co := hbo.cell 0
  have lx := hbx.lt
  have lo := hbo.lt
  have hxg := rd_ne h hbx (by decide) (by decide)
  have hog := rd_ne h hbo (by decide) (by decide)
  have hne0 : some w.heap.size ≠ some g := fun e => by have := Option.some.inj e; omega
  have hne1 : some (w.heap.size + 1) ≠ some g := fun e => by have := Option.some.inj e; omega
  have hnx : some bx ≠ some g := fun e => hxg (Option.some.inj e)
  have hno : some bo ≠ some g := fun e => hog (Option.some.inj e)
  have ga : ∀ {wa : World}, (((w.alloc (.cells #[.bool false, .string ⟨#[]⟩, .bool false, .string ⟨#[]⟩, .bool false, .string ⟨#[]⟩, .bool false, .string ⟨#[]⟩] 117)).alloc (.cells #[.bool false, .string ⟨#[]⟩, .bool false, .string ⟨#[]⟩, .bool false, .string ⟨#[]⟩, .bool false, .string ⟨#[]⟩] 117))).grownBy wa (some g) → w.heap.size + 2 ≤ wa.heap.size := fun h => by have := h.size; simp only [World.size_alloc] at this; omega
  have Hx := Lib.hid hbx2
  have Ho := Lib.hid hbo2
  have HB0 := Lib.hid hB0
  have HB1 := Lib.hid hB1
  have Hh := Lib.hid h
  cases hn : Wire.frac (l.drop a) with
  | err c =>
    have hc := ne_code (Wire.frac_err hn)
    have Hs := Lib.hid (Wire.both1 hn)
    have H1 := Lib.hid ((frac_rd h2).mono fun e w' hh => reads1_err' hn hh)
    clear h h2 hbx hbo hbx2 hbo2 hB0 hB1 hn hgl
    go_enter Try.func89, Try.ntmps89
    go_wp2
    refine wp_loop_rounds 3 ?_
    rw [rounds_succ]
    go_wp2_with fail
    refine H1.out.mono ?_
    rintro e w1 ⟨rfl, hr1, hg1⟩
    have z1 := ga hg1
    have k0 := HB0.out.grown hg1 hne0
    have k1 := HB1.out.grown hg1 hne1
    have k0a := k0.alloc (.cells #[.bool false, .string ⟨#[]⟩, .bool false, .string ⟨#[]⟩] 30)
    go_wp2_with (first
      | (refine wpList_store_part (by rfl) 117 (.tmp 2) (.tmp 19) (by rfl) w.heap.size 0 #[.bool false, .string ⟨#[]⟩, .bool false, .string ⟨#[]⟩, .bool false, .string ⟨#[]⟩, .bool false, .string ⟨#[]⟩] (by rfl) (by rfl) 117 #[.bool false, .string ⟨#[]⟩, .bool false, .string ⟨#[]⟩, .bool false, .string ⟨#[]⟩, .bool false, .string ⟨#[]⟩] #[.bool false, .string ⟨#[]⟩, .bool false, .string ⟨#[]⟩, .bool false, .string ⟨#[]⟩, .bool false, .string ⟨#[]⟩] k0a (by simp) (by rfl) (by kernel_rfl) (by simp [Value.oneCell']) ?_; intro w4 k0d hg4 hs4))
    try simp only [Exit.inBlock, Exit.then]
    refine bodyPost_ret (results_row_tmp rfl _ _ _ _ _ (by rfl) k0d Try.underlying117 rfl (by kernel_rfl)) rfl ?_
    exact withinv_err Hs.out ⟨((((false, ⟨#[]⟩), (false, ⟨#[]⟩)), ((false, ⟨#[]⟩), (false, ⟨#[]⟩)))), _, rfl, Rd.wipe Hh.out (hr1.alloc _) (Nat.le_refl _) hg4, only_wipe (only_alloc (only_of_alloc (only_of_alloc hg1)) _) (Nat.le_refl _) hg4⟩
  | ok x k =>
    have hdd : (l.drop a).drop k = l.drop (a + k) := by rw [List.drop_drop]
    have H1 := Lib.hid ((frac_rd h2).mono fun e w' hh => reads1_ok' hn hh)
    cases hn2 : Wire.frac (l.drop (a + k)) with
    | err c =>
      have hc := ne_code (Wire.frac_err hn2)
      have Hs := Lib.hid (Wire.both2 hn (by rw [hdd]; exact hn2))
      have H2 := Lib.hid fun w' (h' : Rd w' B g v l (a + k)) => (frac_rd h').mono fun e w' hh => reads1_err' hn2 hh
      clear h h2 hbx hbo hbx2 hbo2 hB0 hB1 hn hgl hn2 hdd
      go_enter Try.func89, Try.ntmps89
      go_wp2
      refine wp_loop_rounds 3 ?_
      rw [rounds_succ]
      go_wp2_with fail
      refine H1.out.mono ?_
      rintro e w1 ⟨rfl, hr1, hg1⟩
      have z1 := ga hg1
      have k0 := HB0.out.grown hg1 hne0
      have k1 := HB1.out.grown hg1 hne1
      have k0a := k0.alloc (.cells #[.bool x.1.1, .string x.1.2, .bool x.2.1, .string x.2.2] 30)
      have k1a := k1.alloc (.cells #[.bool x.1.1, .string x.1.2, .bool x.2.1, .string x.2.2] 30)
      have hr1a := hr1.alloc (.cells #[.bool x.1.1, .string x.1.2, .bool x.2.1, .string x.2.2] 30)
      have hg1a := only_alloc (only_of_alloc (only_of_alloc hg1)) (.cells #[.bool x.1.1, .string x.1.2, .bool x.2.1, .string x.2.2] 30)
      have xx := ((Hx.out.grown hg1 hnx).alloc (.cells #[.bool x.1.1, .string x.1.2, .bool x.2.1, .string x.2.2] 30))
      have oo := ((Ho.out.grown hg1 hno).alloc (.cells #[.bool x.1.1, .string x.1.2, .bool x.2.1, .string x.2.2] 30))
      clear k0 k1
      go_wp2_with (refine wpList_store_part (by rfl) 30 (.tmp 23) (.tmp 22) (by rfl) (w.heap.size + 1) 0 #[.bool x.1.1, .string x.1.2, .bool x.2.1, .string x.2.2] (by rfl) (by rfl) 117 #[.bool false, .string ⟨#[]⟩, .bool false, .string ⟨#[]⟩, .bool false, .string ⟨#[]⟩, .bool false, .string ⟨#[]⟩] #[.bool x.1.1, .string x.1.2, .bool x.2.1, .string x.2.2, .bool false, .string ⟨#[]⟩, .bool false, .string ⟨#[]⟩] k1a (by simp) (by rfl) (by kernel_rfl) (by simp [Value.oneCell']) ?_; intro w3 k1b hg3 hs3)
      rw [World.size_alloc] at hs3
      have k0b := k0a.grown hg3 (fun e => by have := Option.some.inj e; omega)
      have xb := xx.grown hg3 (fun e => by have := Option.some.inj e; omega)
      have ob := oo.grown hg3 (fun e => by have := Option.some.inj e; omega)
      have hr3 := Rd.wipe Hh.out hr1a (Nat.le_succ w.heap.size) hg3
      have hg3' := only_wipe hg1a (Nat.le_succ w.heap.size) hg3
      clear k0a k1a hr1a hg1a xx oo hr1 hg1 hg3
      have cx1 := xb.cell 0
      have co1 := ob.cell 0
      rw [rounds_succ]
      go_wp2_with fail
      refine (H2.out _ hr3).mono ?_
      rintro e w4 ⟨rfl, hr4, hg4⟩
      have hs4 := hg4.size
      have k0c := k0b.grown hg4 hne0
      have k1c := k1b.grown hg4 hne1
      have hg4' := hg3'.trans hg4
      clear cx1 co1 xb ob k0b k1b hr3 hg3' hg4
      have k0d := k0c.alloc (.cells #[.bool false, .string ⟨#[]⟩, .bool false, .string ⟨#[]⟩] 30)
      go_wp2_with (first
        | (refine wpList_store_part (by rfl) 117 (.tmp 2) (.tmp 19) (by rfl) w.heap.size 0 #[.bool false, .string ⟨#[]⟩, .bool false, .string ⟨#[]⟩, .bool false, .string ⟨#[]⟩, .bool false, .string ⟨#[]⟩] (by rfl) (by rfl) 117 #[.bool false, .string ⟨#[]⟩, .bool false, .string ⟨#[]⟩, .bool false, .string ⟨#[]⟩, .bool false, .string ⟨#[]⟩] #[.bool false, .string ⟨#[]⟩, .bool false, .string ⟨#[]⟩, .bool false, .string ⟨#[]⟩, .bool false, .string ⟨#[]⟩] k0d (by simp) (by rfl) (by kernel_rfl) (by simp [Value.oneCell']) ?_; intro w5 k0e hg5 hs5))
      try simp only [Exit.inBlock, Exit.then]
      refine bodyPost_ret (results_row_tmp rfl _ _ _ _ _ (by rfl) k0e Try.underlying117 rfl (by kernel_rfl)) rfl ?_
      exact withinv_err Hs.out ⟨((((false, ⟨#[]⟩), (false, ⟨#[]⟩)), ((false, ⟨#[]⟩), (false, ⟨#[]⟩)))), _, rfl, Rd.wipe Hh.out (hr4.alloc _) (Nat.le_refl _) hg5, only_wipe (only_alloc hg4' _) (Nat.le_refl _) hg5⟩
    | ok y m =>
      have Hs := Lib.hid (Wire.both3 hn (by rw [hdd]; exact hn2))
      have H2 := Lib.hid fun w' (h' : Rd w' B g v l (a + k)) => (frac_rd h').mono fun e w' hh => reads1_ok' hn2 hh
      clear h h2 hbx hbo hbx2 hbo2 hB0 hB1 hn hgl hn2 hdd
      go_enter Try.func89, Try.ntmps89
      go_wp2
      refine wp_loop_rounds 3 ?_
      rw [rounds_succ]
      go_wp2_with fail
      refine H1.out.mono ?_
      rintro e w1 ⟨rfl, hr1, hg1⟩
      have z1 := ga hg1
      have k0 := HB0.out.grown hg1 hne0
      have k1 := HB1.out.grown hg1 hne1
      have k0a := k0.alloc (.cells #[.bool x.1.1, .string x.1.2, .bool x.2.1, .string x.2.2] 30)
      have k1a := k1.alloc (.cells #[.bool x.1.1, .string x.1.2, .bool x.2.1, .string x.2.2] 30)
      have hr1a := hr1.alloc (.cells #[.bool x.1.1, .string x.1.2, .bool x.2.1, .string x.2.2] 30)
      have hg1a := only_alloc (only_of_alloc (only_of_alloc hg1)) (.cells #[.bool x.1.1, .string x.1.2, .bool x.2.1, .string x.2.2] 30)
      have xx := ((Hx.out.grown hg1 hnx).alloc (.cells #[.bool x.1.1, .string x.1.2, .bool x.2.1, .string x.2.2] 30))
      have oo := ((Ho.out.grown hg1 hno).alloc (.cells #[.bool x.1.1, .string x.1.2, .bool x.2.1, .string x.2.2] 30))
      clear k0 k1
      go_wp2_with (refine wpList_store_part (by rfl) 30 (.tmp 23) (.tmp 22) (by rfl) (w.heap.size + 1) 0 #[.bool x.1.1, .string x.1.2, .bool x.2.1, .string x.2.2] (by rfl) (by rfl) 117 #[.bool false, .string ⟨#[]⟩, .bool false, .string ⟨#[]⟩, .bool false, .string ⟨#[]⟩, .bool false, .string ⟨#[]⟩] #[.bool x.1.1, .string x.1.2, .bool x.2.1, .string x.2.2, .bool false, .string ⟨#[]⟩, .bool false, .string ⟨#[]⟩] k1a (by simp) (by rfl) (by kernel_rfl) (by simp [Value.oneCell']) ?_; intro w3 k1b hg3 hs3)
      rw [World.size_alloc] at hs3
      have k0b := k0a.grown hg3 (fun e => by have := Option.some.inj e; omega)
      have xb := xx.grown hg3 (fun e => by have := Option.some.inj e; omega)
      have ob := oo.grown hg3 (fun e => by have := Option.some.inj e; omega)
      have hr3 := Rd.wipe Hh.out hr1a (Nat.le_succ w.heap.size) hg3
      have hg3' := only_wipe hg1a (Nat.le_succ w.heap.size) hg3
      clear k0a k1a hr1a hg1a xx oo hr1 hg1 hg3
      have cx1 := xb.cell 0
      have co1 := ob.cell 0
      rw [rounds_succ]
      go_wp2_with fail
      refine (H2.out _ hr3).mono ?_
      rintro e w4 ⟨rfl, hr4, hg4⟩
      have hs4 := hg4.size
      have k0c := k0b.grown hg4 hne0
      have k1c := k1b.grown hg4 hne1
      have hg4' := hg3'.trans hg4
      clear cx1 co1 xb ob k0b k1b hr3 hg3' hg4
      have k0d := k0c.alloc (.cells #[.bool y.1.1, .string y.1.2, .bool y.2.1, .string y.2.2] 30)
      have k1d := k1c.alloc (.cells #[.bool y.1.1, .string y.1.2, .bool y.2.1, .string y.2.2] 30)
      have hr4a := hr4.alloc (.cells #[.bool y.1.1, .string y.1.2, .bool y.2.1, .string y.2.2] 30)
      have hg4a := only_alloc hg4' (.cells #[.bool y.1.1, .string y.1.2, .bool y.2.1, .string y.2.2] 30)
      clear k0c k1c hr4 hg4'
      go_wp2_with (refine wpList_store_part (by rfl) 30 (.tmp 23) (.tmp 22) (by rfl) (w.heap.size + 1) 4 #[.bool y.1.1, .string y.1.2, .bool y.2.1, .string y.2.2] (by rfl) (by rfl) 117 #[.bool x.1.1, .string x.1.2, .bool x.2.1, .string x.2.2, .bool false, .string ⟨#[]⟩, .bool false, .string ⟨#[]⟩] #[.bool x.1.1, .string x.1.2, .bool x.2.1, .string x.2.2, .bool y.1.1, .string y.1.2, .bool y.2.1, .string y.2.2] k1d (by simp) (by rfl) (by kernel_rfl) (by simp [Value.oneCell']) ?_; intro w5 k1e hg5 hs5)
      rw [World.size_alloc] at hs5
      have k0e := k0d.grown hg5 (fun e => by have := Option.some.inj e; omega)
      have hr5 := Rd.wipe Hh.out hr4a (Nat.le_succ w.heap.size) hg5
      have hg5' := only_wipe hg4a (Nat.le_succ w.heap.size) hg5
      clear k0d k1d hr4a hg4a hg5
      rw [rounds_succ]
      go_wp2_with (first
        | (refine wpList_load_part (by rfl) 117 (.tmp 4) (by rfl) (w.heap.size + 1) 0 (by rfl) 117 #[.bool x.1.1, .string x.1.2, .bool x.2.1, .string x.2.2, .bool y.1.1, .string y.1.2, .bool y.2.1, .string y.2.2] #[.bool x.1.1, .string x.1.2, .bool x.2.1, .string x.2.2, .bool y.1.1, .string y.1.2, .bool y.2.1, .string y.2.2] _ k1e (by rfl) Try.underlying117 rfl (by kernel_rfl) ?_)
        | (refine wpList_store_part (by rfl) 117 (.tmp 2) (.tmp 25) (by rfl) w.heap.size 0 #[.bool x.1.1, .string x.1.2, .bool x.2.1, .string x.2.2, .bool y.1.1, .string y.1.2, .bool y.2.1, .string y.2.2] (by rfl) (by rfl) 117 #[.bool false, .string ⟨#[]⟩, .bool false, .string ⟨#[]⟩, .bool false, .string ⟨#[]⟩, .bool false, .string ⟨#[]⟩] #[.bool x.1.1, .string x.1.2, .bool x.2.1, .string x.2.2, .bool y.1.1, .string y.1.2, .bool y.2.1, .string y.2.2] k0e (by simp) (by rfl) (by kernel_rfl) (by simp [Value.oneCell']) ?_; intro w6 k0f hg6 hs6))
      try simp only [Exit.inBlock, Exit.then]
      refine bodyPost_ret (results_row_tmp rfl _ _ _ _ _ (by rfl) k0f Try.underlying117 rfl (by kernel_rfl)) rfl ?_
      refine withinv_ok Hs.out ⟨rfl, ?_, only_wipe hg5' (Nat.le_refl _) hg6⟩
      rw [← Nat.add_assoc]
      exact Rd.wipe Hh.out hr5 (Nat.le_refl _) hg6
end Go.Proofs.Ytgmienlifnpniaa
