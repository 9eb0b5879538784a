/- The reference's reader: Gauss (printed by gen_rgauss.py). -/
import Derived.Test.YtgmienlifnpniaaRRd5
import Derived.Test.YtgmienlifnpniaaAgg
namespace Go.Proofs.Ytgmienlifnpniaa
open Go.RowKit
set_option linter.unusedSimpArgs false

theorem RR.wipe {w w' : World} {B g c b a a' : Nat} {A : Option Addr} {l : List UInt8} {w0 : World} (h0 : RR w0 B g A c l a) (h : RR w B g A c l a') (hb : w0.heap.size ≤ b) (hg : w.grownBy w' (some b)) : RR w' B g A c l a' :=
  h.other hg (by have := h0.lt; omega) (by have := h0.lt; have := h0.base; omega)
theorem only_wipe' {a w w' : World} {b g : Nat} (h : a.grownBy w (some g)) (hb : a.heap.size ≤ b) (hg : w.grownBy w' (some b)) : a.grownBy w' (some g) :=
  ⟨hg.os.trans h.os, hg.tape.trans h.tape, hg.output.trans h.output, Nat.le_trans h.size hg.size, fun i hi hne => (hg.block i (Nat.lt_of_lt_of_le hi h.size) (fun e => by have := Option.some.inj e; omega)).trans (h.block i hi hne)⟩

set_option maxRecDepth 100000 in
set_option maxHeartbeats 8000000 in
theorem rgaussR_any {w : World} {B g c a : Nat} {A : Option Addr} {l : List UInt8} (h : RR w B g A c l a) :
    Calls Try.prog 79 #[.pointer (some ⟨g, 0, none⟩)] w (RReads (fun x : (((Bool × ByteArray) × (Bool × ByteArray)) × ((Bool × ByteArray) × (Bool × ByteArray))) => .agg #[.bool x.1.1.1, .string x.1.1.2, .bool x.1.2.1, .string x.1.2.2, .bool x.2.1.1, .string x.2.1.2, .bool x.2.2.1, .string x.2.2.2]) (.agg #[.bool false, .string ⟨#[]⟩, .bool false, .string ⟨#[]⟩, .bool false, .string ⟨#[]⟩, .bool false, .string ⟨#[]⟩]) (Wire.both Wire.frac (l.drop a)) w B g A c l a) := by
  have h2 := h.alloc (.cells #[.bool false, .string ⟨#[]⟩, .bool false, .string ⟨#[]⟩, .bool false, .string ⟨#[]⟩, .bool false, .string ⟨#[]⟩] 32)
  have hB0 := Blk.new w 32 #[.bool false, .string ⟨#[]⟩, .bool false, .string ⟨#[]⟩, .bool false, .string ⟨#[]⟩, .bool false, .string ⟨#[]⟩]
  have c1 := h2.c1
  have hle := h.le
  have hgl := h.lt
  have hne0 : some w.heap.size ≠ some g := fun e => by have := Option.some.inj e; omega
  have ng : w.heap.size ≠ g := by omega
  have HB0 := Lib.hid hB0
  have Hh := Lib.hid h
  have ga : ∀ {wa : World}, (w.alloc (.cells #[.bool false, .string ⟨#[]⟩, .bool false, .string ⟨#[]⟩, .bool false, .string ⟨#[]⟩, .bool false, .string ⟨#[]⟩] 32)).grownBy wa (some g) → w.heap.size < wa.heap.size := fun h => by have := h.size; simp only [World.size_alloc] at this; omega
  cases hn : Wire.frac (l.drop a) with
  | err k =>
    have Hs := Lib.hid (Wire.both1 hn)
    have H1 := Lib.hid ((rfracR_any h2).mono fun e w' hh => rreads_err' hn hh)
    have hc := ne_code (Wire.frac_err hn)
    clear hn h h2 hB0
    go_enter Try.func79, Try.ntmps79
    go_wp2_with fail
    refine H1.out.mono ?_
    rintro e w1 ⟨rfl, hr1, hg1⟩
    have k0 := (HB0.out.grown hg1 hne0).alloc (.cells #[.bool false, .string ⟨#[]⟩, .bool false, .string ⟨#[]⟩] 30)
    go_wp2_with (refine wpList_store_part (by rfl) 32 (.tmp 2) (.tmp 19) (by rfl) w.heap.size 0 #[.bool false, .string ⟨#[]⟩, .bool false, .string ⟨#[]⟩, .bool false, .string ⟨#[]⟩, .bool false, .string ⟨#[]⟩] (by rfl) (by rfl) 32 #[.bool false, .string ⟨#[]⟩, .bool false, .string ⟨#[]⟩, .bool false, .string ⟨#[]⟩, .bool false, .string ⟨#[]⟩] #[.bool false, .string ⟨#[]⟩, .bool false, .string ⟨#[]⟩, .bool false, .string ⟨#[]⟩, .bool false, .string ⟨#[]⟩] k0 (by simp) (by rfl) (by kernel_rfl) (by simp [Value.oneCell']) ?_; intro w9 k9 hg9 hs9)
    refine bodyPost_ret (results_row_tmp rfl _ _ _ _ _ (by rfl) k9 Try.underlying32 rfl (by kernel_rfl)) rfl ?_
    exact rreads_err Hs.out ⟨rfl, RR.wipe Hh.out (hr1.alloc _) (Nat.le_refl _) hg9, only_wipe' (only_alloc (only_of_alloc hg1) _) (Nat.le_refl _) hg9⟩
  | ok x k =>
    have hdd : (l.drop a).drop k = l.drop (a + k) := by rw [List.drop_drop]
    have H1 := Lib.hid ((rfracR_any h2).mono fun e w' hh => rreads_ok' hn hh)
    cases hn2 : Wire.frac (l.drop (a + k)) with
    | err k1 =>
      have hc := ne_code (Wire.frac_err hn2)
      have Hs := Lib.hid (Wire.both2 hn (by rw [hdd]; exact hn2))
      have H2 := Lib.hid fun w' (h' : RR w' B g A c l (a + k)) => (rfracR_any h').mono fun e w' hh => rreads_err' hn2 hh
      clear h h2 hB0 hn hn2 hdd
      go_enter Try.func79, Try.ntmps79
      go_wp2_with fail
      refine H1.out.mono ?_
      rintro e w1 ⟨rfl, hr1, hg1⟩
      have k0 := HB0.out.grown hg1 hne0
      have z1 := ga hg1
      go_wp2_with fail
      refine (H2.out _ (hr1.alloc (.cells #[.bool x.1.1, .string x.1.2, .bool x.2.1, .string x.2.2] 30))).mono ?_
      rintro e w2 ⟨rfl, hr2, hg2⟩
      have kk := (k0.alloc (.cells #[.bool x.1.1, .string x.1.2, .bool x.2.1, .string x.2.2] 30)).grown hg2 hne0
      have kx := (Blk.new w1 30 #[.bool x.1.1, .string x.1.2, .bool x.2.1, .string x.2.2]).grown hg2 (fun e => by have := Option.some.inj e; have := hr1.lt; omega)
      have hgg := (only_alloc (only_of_alloc hg1) (.cells #[.bool x.1.1, .string x.1.2, .bool x.2.1, .string x.2.2] 30)).trans hg2
      have z2 : w1.heap.size < w2.heap.size := kx.lt
      have f1' := hr2.f1
      have c1' := hr2.c1
      have hgl2 := hr2.lt
      have n3' : g ≠ w2.heap.size := by omega
      have k3 := (kk.far (p := ⟨g, 1, none⟩) (show w.heap.size ≠ g by omega) (.int .i64 (a : Int))).alloc (.cells #[.bool false, .string ⟨#[]⟩, .bool false, .string ⟨#[]⟩] 30)
      have hr3 := (hr2.go a hle).alloc (.cells #[.bool false, .string ⟨#[]⟩, .bool false, .string ⟨#[]⟩] 30)
      have hg3 := only_alloc (only_setCell (p := ⟨g, 1, none⟩) hgg (.inl rfl) (.int .i64 (a : Int))) (.cells #[.bool false, .string ⟨#[]⟩, .bool false, .string ⟨#[]⟩] 30)
      clear kk kx k0 hr1 hg1 hr2 hg2 hgg
      go_wp2_with (refine wpList_store_part (by rfl) 32 (.tmp 2) (.tmp 32) (by rfl) w.heap.size 0 #[.bool false, .string ⟨#[]⟩, .bool false, .string ⟨#[]⟩, .bool false, .string ⟨#[]⟩, .bool false, .string ⟨#[]⟩] (by rfl) (by rfl) 32 #[.bool false, .string ⟨#[]⟩, .bool false, .string ⟨#[]⟩, .bool false, .string ⟨#[]⟩, .bool false, .string ⟨#[]⟩] #[.bool false, .string ⟨#[]⟩, .bool false, .string ⟨#[]⟩, .bool false, .string ⟨#[]⟩, .bool false, .string ⟨#[]⟩] k3 (by simp) (by rfl) (by kernel_rfl) (by simp [Value.oneCell']) ?_; intro w9 k9 hg9 hs9)
      refine bodyPost_ret (results_row_tmp rfl _ _ _ _ _ (by rfl) k9 Try.underlying32 rfl (by kernel_rfl)) rfl ?_
      exact rreads_err Hs.out ⟨rfl, RR.wipe Hh.out hr3 (Nat.le_refl _) hg9, only_wipe' hg3 (Nat.le_refl _) hg9⟩
    | ok y k2 =>
      have Hs := Lib.hid (Wire.both3 hn (by rw [hdd]; exact hn2))
      have H2 := Lib.hid fun w' (h' : RR w' B g A c l (a + k)) => (rfracR_any h').mono fun e w' hh => rreads_ok' hn2 hh
      clear h h2 hB0 hn hn2 hdd
      go_enter Try.func79, Try.ntmps79
      go_wp2_with fail
      refine H1.out.mono ?_
      rintro e w1 ⟨rfl, hr1, hg1⟩
      have k0 := HB0.out.grown hg1 hne0
      have z1 := ga hg1
      go_wp2_with fail
      refine (H2.out _ (hr1.alloc (.cells #[.bool x.1.1, .string x.1.2, .bool x.2.1, .string x.2.2] 30))).mono ?_
      rintro e w2 ⟨rfl, hr2, hg2⟩
      have kk := (k0.alloc (.cells #[.bool x.1.1, .string x.1.2, .bool x.2.1, .string x.2.2] 30)).grown hg2 hne0
      have kx := (Blk.new w1 30 #[.bool x.1.1, .string x.1.2, .bool x.2.1, .string x.2.2]).grown hg2 (fun e => by have := Option.some.inj e; have := hr1.lt; omega)
      have hgg := (only_alloc (only_of_alloc hg1) (.cells #[.bool x.1.1, .string x.1.2, .bool x.2.1, .string x.2.2] 30)).trans hg2
      have z2 : w1.heap.size < w2.heap.size := kx.lt
      have f1' := hr2.f1
      have c1' := hr2.c1
      have hgl2 := hr2.lt
      have n3' : g ≠ w2.heap.size := by omega
      have t0 : w2.cell? ⟨w1.heap.size, 0, none⟩ = some (.bool x.1.1) := kx.cell 0
      have t1 : w2.cell? ⟨w1.heap.size, 1, none⟩ = some (.string x.1.2) := kx.cell 1
      have t2 : w2.cell? ⟨w1.heap.size, 2, none⟩ = some (.bool x.2.1) := kx.cell 2
      have t3 : w2.cell? ⟨w1.heap.size, 3, none⟩ = some (.string x.2.2) := kx.cell 3
      have k3 := kk.alloc (.cells #[.bool y.1.1, .string y.1.2, .bool y.2.1, .string y.2.2] 30)
      have hr3 := hr2.alloc (.cells #[.bool y.1.1, .string y.1.2, .bool y.2.1, .string y.2.2] 30)
      have hg3 := only_alloc hgg (.cells #[.bool y.1.1, .string y.1.2, .bool y.2.1, .string y.2.2] 30)
      clear kk kx k0 hr1 hg1 hr2 hg2 hgg
      go_wp2_with (refine wpList_store_part (by rfl) 32 (.tmp 2) (.tmp 36) (by rfl) w.heap.size 0 #[.bool x.1.1, .string x.1.2, .bool x.2.1, .string x.2.2, .bool y.1.1, .string y.1.2, .bool y.2.1, .string y.2.2] (by rfl) (by rfl) 32 #[.bool false, .string ⟨#[]⟩, .bool false, .string ⟨#[]⟩, .bool false, .string ⟨#[]⟩, .bool false, .string ⟨#[]⟩] #[.bool x.1.1, .string x.1.2, .bool x.2.1, .string x.2.2, .bool y.1.1, .string y.1.2, .bool y.2.1, .string y.2.2] k3 (by simp) (by rfl) (by kernel_rfl) (by simp [Value.oneCell']) ?_; intro w9 k9 hg9 hs9)
      refine bodyPost_ret (results_row_tmp rfl _ _ _ _ _ (by rfl) k9 Try.underlying32 rfl (by kernel_rfl)) rfl ?_
      refine rreads_ok Hs.out ⟨rfl, ?_, only_wipe' hg3 (Nat.le_refl _) hg9⟩
      rw [← Nat.add_assoc]
      exact RR.wipe Hh.out hr3 (Nat.le_refl _) hg9
end Go.Proofs.Ytgmienlifnpniaa
