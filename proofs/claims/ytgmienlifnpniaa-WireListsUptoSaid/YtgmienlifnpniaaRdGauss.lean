/- both, of fractions; (*Reader).Gauss (printed by gen_ff.py). -/
import Derived.Test.YtgmienlifnpniaaRdBothF1
namespace Go.Proofs.Ytgmienlifnpniaa
open Go.RowKit
set_option linter.unusedSimpArgs false

set_option maxRecDepth 100000 in
set_option maxHeartbeats 8000000 in
theorem both_FF {w : World} {B g : Nat} {v : Value} {l : List UInt8} {a : Nat} (h : Rd w B g v l a) :
    Calls Try.prog 69 #[.pointer (some ⟨g, 0, none⟩), .func (.func 70) #[] #[]] w
      (Reads1 (fun x : (((Bool × ByteArray) × (Bool × ByteArray)) × ((Bool × ByteArray) × (Bool × ByteArray))) => .agg #[.bool x.1.1.1, .string x.1.1.2, .bool x.1.2.1, .string x.1.2.2, .bool x.2.1.1, .string x.2.1.2, .bool x.2.2.1, .string x.2.2.2]) (.agg #[.bool false, .string ⟨#[]⟩, .bool false, .string ⟨#[]⟩, .bool false, .string ⟨#[]⟩, .bool false, .string ⟨#[]⟩]) (Wire.both Wire.frac (l.drop a)) w B g v l a) := by
  have hmf : ∀ (fn : Fn) (first cap : Array Value) (w : World), (Instr.makeFunc fn first cap).run Try.prog w = .ok (.func fn first cap) w := fun _ _ _ _ => rfl
  have h3 := ((h.alloc (.cells #[.pointer (some ⟨g, 0, none⟩)] 61)).alloc (.cells #[.func (.func 70) #[] #[]] 120)).alloc (.cells #[.bool false, .string ⟨#[]⟩, .bool false, .string ⟨#[]⟩, .bool false, .string ⟨#[]⟩, .bool false, .string ⟨#[]⟩] 117)
  have hb1 := ((((Blk.new w 61 #[.pointer (some ⟨g, 0, none⟩)]).alloc (.cells #[.func (.func 70) #[] #[]] 120)).alloc (.cells #[.bool false, .string ⟨#[]⟩, .bool false, .string ⟨#[]⟩, .bool false, .string ⟨#[]⟩, .bool false, .string ⟨#[]⟩] 117)).alloc (.cells #[.bool false, .string ⟨#[]⟩, .bool false, .string ⟨#[]⟩, .bool false, .string ⟨#[]⟩, .bool false, .string ⟨#[]⟩] 117)).alloc (.cells #[.bool false, .string ⟨#[]⟩, .bool false, .string ⟨#[]⟩, .bool false, .string ⟨#[]⟩, .bool false, .string ⟨#[]⟩] 117)
  have hb2 := (((Blk.new (w.alloc (.cells #[.pointer (some ⟨g, 0, none⟩)] 61)) 120 #[.func (.func 70) #[] #[]]).alloc (.cells #[.bool false, .string ⟨#[]⟩, .bool false, .string ⟨#[]⟩, .bool false, .string ⟨#[]⟩, .bool false, .string ⟨#[]⟩] 117)).alloc (.cells #[.bool false, .string ⟨#[]⟩, .bool false, .string ⟨#[]⟩, .bool false, .string ⟨#[]⟩, .bool false, .string ⟨#[]⟩] 117)).alloc (.cells #[.bool false, .string ⟨#[]⟩, .bool false, .string ⟨#[]⟩, .bool false, .string ⟨#[]⟩, .bool false, .string ⟨#[]⟩] 117)
  have hB0 := Blk.new ((w.alloc (.cells #[.pointer (some ⟨g, 0, none⟩)] 61)).alloc (.cells #[.func (.func 70) #[] #[]] 120)) 117 #[.bool false, .string ⟨#[]⟩, .bool false, .string ⟨#[]⟩, .bool false, .string ⟨#[]⟩, .bool false, .string ⟨#[]⟩]
  have HT := tried_FF (fun h => Wire.both_err Wire.frac_err h) h3 (both1_FF ((h3.alloc _).alloc _) hb1 hb2)
  rw [World.size_alloc] at HT
  simp only [World.size_alloc] at hB0
  have hgl := h.lt
  have hne0 : some (w.heap.size + 1 + 1) ≠ some g := fun e => by have := Option.some.inj e; omega
  have HB0 := Lib.hid hB0
  have Hh := Lib.hid h
  cases hn : Wire.both Wire.frac (l.drop a) with
  | err c =>
    have H1 := Lib.hid (HT.mono fun e w' hh => reads1_err' hn hh)
    clear hn h h3 hb1 hb2 HT hB0
    go_enter Try.func69, Try.ntmps69
    go_wp2_with fail
    refine H1.out.mono ?_
    rintro e w1 ⟨rfl, hr1, hg1⟩
    have k0 := HB0.out.grown hg1 hne0
    go_wp2_with (refine wpList_store_part (by rfl) 117 (.tmp 4) (.tmp 9) (by rfl) (w.heap.size + 1 + 1) 0 #[.bool false, .string ⟨#[]⟩, .bool false, .string ⟨#[]⟩, .bool false, .string ⟨#[]⟩, .bool false, .string ⟨#[]⟩] (by rfl) (by rfl) 117 #[.bool false, .string ⟨#[]⟩, .bool false, .string ⟨#[]⟩, .bool false, .string ⟨#[]⟩, .bool false, .string ⟨#[]⟩] #[.bool false, .string ⟨#[]⟩, .bool false, .string ⟨#[]⟩, .bool false, .string ⟨#[]⟩, .bool false, .string ⟨#[]⟩] k0 (by simp) (by rfl) (by kernel_rfl) (by simp [Value.oneCell']) ?_; intro w2 k0' hg2 hs2)
    refine bodyPost_ret (results_row_tmp rfl _ _ _ _ _ (by rfl) k0' Try.underlying117 rfl (by kernel_rfl)) rfl ?_
    exact reads1_err rfl ⟨rfl, Rd.wipe Hh.out hr1 (Nat.le_add_right _ 2) hg2, only_wipe (only_of_alloc (only_of_alloc (only_of_alloc hg1))) (Nat.le_add_right _ 2) hg2⟩
  | ok x k =>
    obtain ⟨x, y⟩ := x
    have H1 := Lib.hid (HT.mono fun e w' hh => reads1_ok' hn hh)
    clear hn h h3 hb1 hb2 HT hB0
    go_enter Try.func69, Try.ntmps69
    go_wp2_with fail
    refine H1.out.mono ?_
    rintro e w1 ⟨rfl, hr1, hg1⟩
    have k0 := HB0.out.grown hg1 hne0
    go_wp2_with (refine wpList_store_part (by rfl) 117 (.tmp 4) (.tmp 9) (by rfl) (w.heap.size + 1 + 1) 0 #[.bool x.1.1, .string x.1.2, .bool x.2.1, .string x.2.2, .bool y.1.1, .string y.1.2, .bool y.2.1, .string y.2.2] (by rfl) (by rfl) 117 #[.bool false, .string ⟨#[]⟩, .bool false, .string ⟨#[]⟩, .bool false, .string ⟨#[]⟩, .bool false, .string ⟨#[]⟩] #[.bool x.1.1, .string x.1.2, .bool x.2.1, .string x.2.2, .bool y.1.1, .string y.1.2, .bool y.2.1, .string y.2.2] k0 (by simp) (by rfl) (by kernel_rfl) (by simp [Value.oneCell']) ?_; intro w2 k0' hg2 hs2)
    refine bodyPost_ret (results_row_tmp rfl _ _ _ _ _ (by rfl) k0' Try.underlying117 rfl (by kernel_rfl)) rfl ?_
    exact reads1_ok rfl ⟨rfl, Rd.wipe Hh.out hr1 (Nat.le_add_right _ 2) hg2, only_wipe (only_of_alloc (only_of_alloc (only_of_alloc hg1))) (Nat.le_add_right _ 2) hg2⟩

set_option maxRecDepth 100000 in
set_option maxHeartbeats 8000000 in
theorem gauss_rd {w : World} {B g : Nat} {v : Value} {l : List UInt8} {a : Nat} (h : Rd w B g v l a) :
    Calls Try.prog 44 #[.pointer (some ⟨g, 0, none⟩)] w (Reads1 (fun x : (((Bool × ByteArray) × (Bool × ByteArray)) × ((Bool × ByteArray) × (Bool × ByteArray))) => .agg #[.bool x.1.1.1, .string x.1.1.2, .bool x.1.2.1, .string x.1.2.2, .bool x.2.1.1, .string x.2.1.2, .bool x.2.2.1, .string x.2.2.2]) (.agg #[.bool false, .string ⟨#[]⟩, .bool false, .string ⟨#[]⟩, .bool false, .string ⟨#[]⟩, .bool false, .string ⟨#[]⟩]) (Wire.both Wire.frac (l.drop a)) w B g v l a) := by
  have h2 := h.alloc (.cells #[.bool false, .string ⟨#[]⟩, .bool false, .string ⟨#[]⟩, .bool false, .string ⟨#[]⟩, .bool false, .string ⟨#[]⟩] 32)
  have hB0 := Blk.new w 32 #[.bool false, .string ⟨#[]⟩, .bool false, .string ⟨#[]⟩, .bool false, .string ⟨#[]⟩, .bool false, .string ⟨#[]⟩]
  have HT := both_FF h2
  have hgl := h.lt
  have hne0 : some w.heap.size ≠ some g := fun e => by have := Option.some.inj e; omega
  have HB0 := Lib.hid hB0
  have Hh := Lib.hid h
  cases hn : Wire.both Wire.frac (l.drop a) with
  | err c =>
    have H1 := Lib.hid (HT.mono fun e w' hh => reads1_err' hn hh)
    clear hn h h2 HT hB0
    go_enter Try.func44, Try.ntmps44
    go_wp2_with fail
    refine H1.out.mono ?_
    rintro e w1 ⟨rfl, hr1, hg1⟩
    have z1 : w.heap.size < w1.heap.size := by have := hg1.size; simp only [World.size_alloc] at this; omega
    have k0 := (HB0.out.grown hg1 hne0).alloc (.cells #[.bool false, .string ⟨#[]⟩, .bool false, .string ⟨#[]⟩, .bool false, .string ⟨#[]⟩, .bool false, .string ⟨#[]⟩] 117)
    have hr2 := hr1.alloc (.cells #[.bool false, .string ⟨#[]⟩, .bool false, .string ⟨#[]⟩, .bool false, .string ⟨#[]⟩, .bool false, .string ⟨#[]⟩] 117)
    have hg2' := only_alloc (only_of_alloc hg1) (.cells #[.bool false, .string ⟨#[]⟩, .bool false, .string ⟨#[]⟩, .bool false, .string ⟨#[]⟩, .bool false, .string ⟨#[]⟩] 117)
    clear hr1 hg1
    go_wp2_with (refine wpList_store_part (by rfl) 32 (.tmp 2) (.tmp 15) (by rfl) w.heap.size 0 #[.bool false, .string ⟨#[]⟩, .bool false, .string ⟨#[]⟩, .bool false, .string ⟨#[]⟩, .bool false, .string ⟨#[]⟩] (by rfl) (by rfl) 32 #[.bool false, .string ⟨#[]⟩, .bool false, .string ⟨#[]⟩, .bool false, .string ⟨#[]⟩, .bool false, .string ⟨#[]⟩] #[.bool false, .string ⟨#[]⟩, .bool false, .string ⟨#[]⟩, .bool false, .string ⟨#[]⟩, .bool false, .string ⟨#[]⟩] k0 (by simp) (by rfl) (by kernel_rfl) (by simp [Value.oneCell']) ?_; intro w2 k0' hg2 hs2)
    refine bodyPost_ret (results_row_tmp rfl _ _ _ _ _ (by rfl) k0' Try.underlying32 rfl (by kernel_rfl)) rfl ?_
    exact reads1_err rfl ⟨rfl, Rd.wipe Hh.out hr2 (Nat.le_refl _) hg2, only_wipe hg2' (Nat.le_refl _) hg2⟩
  | ok x k =>
    obtain ⟨x, y⟩ := x
    have H1 := Lib.hid (HT.mono fun e w' hh => reads1_ok' hn hh)
    clear hn h h2 HT hB0
    go_enter Try.func44, Try.ntmps44
    go_wp2_with fail
    refine H1.out.mono ?_
    rintro e w1 ⟨rfl, hr1, hg1⟩
    have z1 : w.heap.size < w1.heap.size := by have := hg1.size; simp only [World.size_alloc] at this; omega
    have k0 := (HB0.out.grown hg1 hne0).alloc (.cells #[.bool x.1.1, .string x.1.2, .bool x.2.1, .string x.2.2, .bool y.1.1, .string y.1.2, .bool y.2.1, .string y.2.2] 117)
    have hr2 := hr1.alloc (.cells #[.bool x.1.1, .string x.1.2, .bool x.2.1, .string x.2.2, .bool y.1.1, .string y.1.2, .bool y.2.1, .string y.2.2] 117)
    have hg2' := only_alloc (only_of_alloc hg1) (.cells #[.bool x.1.1, .string x.1.2, .bool x.2.1, .string x.2.2, .bool y.1.1, .string y.1.2, .bool y.2.1, .string y.2.2] 117)
    clear hr1 hg1
    go_wp2_with (refine wpList_store_part (by rfl) 32 (.tmp 2) (.tmp 15) (by rfl) w.heap.size 0 #[.bool x.1.1, .string x.1.2, .bool x.2.1, .string x.2.2, .bool y.1.1, .string y.1.2, .bool y.2.1, .string y.2.2] (by rfl) (by rfl) 32 #[.bool false, .string ⟨#[]⟩, .bool false, .string ⟨#[]⟩, .bool false, .string ⟨#[]⟩, .bool false, .string ⟨#[]⟩] #[.bool x.1.1, .string x.1.2, .bool x.2.1, .string x.2.2, .bool y.1.1, .string y.1.2, .bool y.2.1, .string y.2.2] k0 (by simp) (by rfl) (by kernel_rfl) (by simp [Value.oneCell']) ?_; intro w2 k0' hg2 hs2)
    refine bodyPost_ret (results_row_tmp rfl _ _ _ _ _ (by rfl) k0' Try.underlying32 rfl (by kernel_rfl)) rfl ?_
    exact reads1_ok rfl ⟨rfl, Rd.wipe Hh.out hr2 (Nat.le_refl _) hg2, only_wipe hg2' (Nat.le_refl _) hg2⟩
end Go.Proofs.Ytgmienlifnpniaa
