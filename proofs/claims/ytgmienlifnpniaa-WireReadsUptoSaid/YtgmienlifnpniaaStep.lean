/- tracerylaw01.step: one call by the program's reader and by the reference's (printed by gen_step.py). -/
import Derived.Test.YtgmienlifnpniaaRRd6
import Derived.Test.YtgmienlifnpniaaRRd7
import Derived.Test.YtgmienlifnpniaaTake2
import Derived.Test.YtgmienlifnpniaaRdGauss
import Derived.Test.YtgmienlifnpniaaEqArr
namespace Go.Proofs.Ytgmienlifnpniaa
open Go.RowKit
set_option linter.unusedSimpArgs false

/-- both readers, over the same bytes, at the same place -/
structure Two (w : World) (B g : Nat) (v : Value) (gd : Nat) (A : Option Addr) (c : Nat) (l : List UInt8) (a : Nat) : Prop where
  one : Rd w B g v l a
  two : RR w B gd A c l a
  ne : g ≠ gd
  ne2 : v.ownBlock ≠ some gd
  size : B ≤ w.heap.size
section
variable {w w' : World} {B g gd c a a' : Nat} {v : Value} {A : Option Addr} {l : List UInt8}
theorem Two.alloc (h : Two w B g v gd A c l a) (o : Obj) : Two (w.alloc o) B g v gd A c l a := ⟨h.one.alloc o, h.two.alloc o, h.ne, h.ne2, by rw [World.size_alloc]; have := h.size; omega⟩
theorem Two.drewN (h : Two w B g v gd A c l a) (n : Nat) : Two (w.drewN n) B g v gd A c l a := ⟨h.one.drewN n, h.two.drewN n, h.ne, h.ne2, h.size⟩
theorem Two.two' (h : Two w B g v gd A c l a) (hg : w.grownBy w' (some g)) : RR w' B gd A c l a := h.two.other hg (Ne.symm h.ne) h.one.base
theorem Rd.other {a1 : Nat} (h : Rd w B g v l a1) (hg : w.grownBy w' (some gd)) (hne : g ≠ gd) (hne2 : v.ownBlock ≠ some gd) : Rd w' B g v l a1 :=
  ⟨h.base, h.blk.grown hg (fun e => hne (Option.some.inj e)), h.own.grown hg (.inl hne2), h.yes, h.le, h.len⟩
theorem Two.kept (h : Two w B g v gd A c l a) (hb : Below w.heap.size w w') : Two w' B g v gd A c l a := ⟨h.one.kept hb, h.two.kept hb, h.ne, h.ne2, Nat.le_trans h.size hb.size⟩
end
theorem below_of_two {w w' : World} {B g : Nat} (h : w.grownBy w' (some g)) (hB : B ≤ g) (hB2 : B ≤ w.heap.size) : Below B w w' :=
  (Below.refl _ _).grown h hB2 (fun k hk => by have := Option.some.inj hk; omega)
theorem canon0 : Wire.canon 0 = 0 := by decide +kernel
theorem flt_canon {r : List UInt8} {x k : Nat} (h : Wire.flt r = .ok x k) : Wire.canon x = x := by
  unfold Wire.flt at h
  split at h
  · cases h
  · split at h
    · rename_i hc
      injection h with h1 h2
      subst h1
      exact hc
    · cases h
theorem both_flt_canon {r : List UInt8} {x : Nat × Nat} {k : Nat} (h : Wire.both Wire.flt r = .ok x k) : Wire.canon x.1 = x.1 ∧ Wire.canon x.2 = x.2 := by
  unfold Wire.both at h
  split at h
  · cases h
  · rename_i h1
    split at h
    · cases h
    · rename_i h2
      injection h with h h'
      subst h
      exact ⟨flt_canon h1, flt_canon h2⟩

/-- what one call leaves -/
def Stepped (w : World) (B g : Nat) (v : Value) (gd : Nat) (A : Option Addr) (c : Nat) (l : List UInt8) (e : Ending) (w' : World) : Prop :=
  e = .returned (.bool true) ∧ ∃ a', Two w' B g v gd A c l a' ∧ Below B w w'


set_option maxRecDepth 100000 in
set_option maxHeartbeats 4000000 in
theorem step_1 {w : World} {B g gd c a : Nat} {v : Value} {A : Option Addr} {l : List UInt8} (M : Int) (h : Two w B g v gd A c l a) :
    Calls Try.prog 47 #[.pointer (some ⟨g, 0, none⟩), .pointer (some ⟨gd, 0, none⟩), .agg #[.int .i64 1, .int .i64 M]] w (Stepped w B g v gd A c l) := by
  have hh := h.alloc (.cells #[.int .i64 1, .int .i64 M] 89)
  have hw0 : Below B w (w.alloc (.cells #[.int .i64 1, .int .i64 M] 89)) := (Below.refl _ _).alloc h.size _
  clear h
  cases hn : Wire.num (l.drop a) with
  | err k =>
    have H1 := Lib.hid ((number_any hh.one).mono fun e w' hh => reads1_err' hn hh)
    have H2 := Lib.hid fun w' (h' : RR w' B gd A c l a) => (rnumber_any h').mono fun e w' hh => rreads_err' hn hh
    clear hn  
    go_enter Try.func47, Try.ntmps47
    go_wp2_with fail
    refine H1.out.mono ?_
    rintro e w2 ⟨rfl, hr2, hg2⟩
    have z2 : B ≤ w2.heap.size := Nat.le_trans hh.size hg2.size
    go_wp2_with fail
    refine (H2.out _ (((hh.two' hg2)))).mono ?_
    rintro e w3 ⟨rfl, hr3, hg3⟩
    have hf : Two w3 B g v gd A c l a := ⟨(hr2).other hg3 hh.ne hh.ne2, hr3, hh.ne, hh.ne2, Nat.le_trans z2 hg3.size⟩
    have hbf : Below B (w.alloc (.cells #[.int .i64 1, .int .i64 M] 89)) w3 := ((below_of_two hg2 hh.one.base hh.size)).trans (below_of_two hg3 hh.two.base z2)
    clear hr2 hr3 hg2 hg3
    go_wp2_with (first | (go_at_call 33; refine (num_errno _ _).mono ?_; rintro e w' ⟨rfl, rfl⟩))
    go_ret
    exact ⟨rfl, _, hf, hw0.trans hbf⟩
  | ok x k =>
    have H1 := Lib.hid ((number_any hh.one).mono fun e w' hh => reads1_ok' hn hh)
    have H2 := Lib.hid fun w' (h' : RR w' B gd A c l a) => (rnumber_any h').mono fun e w' hh => rreads_ok' hn hh
    clear hn  
    go_enter Try.func47, Try.ntmps47
    go_wp2_with fail
    refine H1.out.mono ?_
    rintro e w2 ⟨rfl, hr2, hg2⟩
    have z2 : B ≤ w2.heap.size := Nat.le_trans hh.size hg2.size
    go_wp2_with fail
    refine (H2.out _ (((hh.two' hg2)))).mono ?_
    rintro e w3 ⟨rfl, hr3, hg3⟩
    have hf : Two w3 B g v gd A c l (a + k) := ⟨(hr2).other hg3 hh.ne hh.ne2, hr3, hh.ne, hh.ne2, Nat.le_trans z2 hg3.size⟩
    have hbf : Below B (w.alloc (.cells #[.int .i64 1, .int .i64 M] 89)) w3 := ((below_of_two hg2 hh.one.base hh.size)).trans (below_of_two hg3 hh.two.base z2)
    clear hr2 hr3 hg2 hg3
    go_wp2_with (first | (go_at_call 33; refine (num_errno _ _).mono ?_; rintro e w' ⟨rfl, rfl⟩))
    go_ret
    exact ⟨rfl, _, hf, hw0.trans hbf⟩


set_option maxRecDepth 100000 in
set_option maxHeartbeats 4000000 in
theorem step_2 {w : World} {B g gd c a : Nat} {v : Value} {A : Option Addr} {l : List UInt8} (M : Int) (h : Two w B g v gd A c l a) :
    Calls Try.prog 47 #[.pointer (some ⟨g, 0, none⟩), .pointer (some ⟨gd, 0, none⟩), .agg #[.int .i64 2, .int .i64 M]] w (Stepped w B g v gd A c l) := by
  have hh := h.alloc (.cells #[.int .i64 2, .int .i64 M] 89)
  have hw0 : Below B w (w.alloc (.cells #[.int .i64 2, .int .i64 M] 89)) := (Below.refl _ _).alloc h.size _
  clear h
  cases hn : Wire.num (l.drop a) with
  | err k =>
    have H1 := Lib.hid ((signed_rd hh.one).mono fun e w' hh => reads1_err' hn hh)
    have H2 := Lib.hid fun w' (h' : RR w' B gd A c l a) => (rsignedR_any h').mono fun e w' hh => rreads_err' hn hh
    clear hn  
    go_enter Try.func47, Try.ntmps47
    go_wp2_with fail
    refine H1.out.mono ?_
    rintro e w2 ⟨rfl, hr2, hg2⟩
    have z2 : B ≤ w2.heap.size := Nat.le_trans hh.size hg2.size
    go_wp2_with fail
    refine (H2.out _ (((hh.two' hg2)))).mono ?_
    rintro e w3 ⟨rfl, hr3, hg3⟩
    have hf : Two w3 B g v gd A c l a := ⟨(hr2).other hg3 hh.ne hh.ne2, hr3, hh.ne, hh.ne2, Nat.le_trans z2 hg3.size⟩
    have hbf : Below B (w.alloc (.cells #[.int .i64 2, .int .i64 M] 89)) w3 := ((below_of_two hg2 hh.one.base hh.size)).trans (below_of_two hg3 hh.two.base z2)
    clear hr2 hr3 hg2 hg3
    go_wp2_with (first | (go_at_call 33; refine (num_errno _ _).mono ?_; rintro e w' ⟨rfl, rfl⟩))
    go_ret
    exact ⟨rfl, _, hf, hw0.trans hbf⟩
  | ok x k =>
    have H1 := Lib.hid ((signed_rd hh.one).mono fun e w' hh => reads1_ok' hn hh)
    have H2 := Lib.hid fun w' (h' : RR w' B gd A c l a) => (rsignedR_any h').mono fun e w' hh => rreads_ok' hn hh
    clear hn  
    go_enter Try.func47, Try.ntmps47
    go_wp2_with fail
    refine H1.out.mono ?_
    rintro e w2 ⟨rfl, hr2, hg2⟩
    have z2 : B ≤ w2.heap.size := Nat.le_trans hh.size hg2.size
    go_wp2_with fail
    refine (H2.out _ (((hh.two' hg2)))).mono ?_
    rintro e w3 ⟨rfl, hr3, hg3⟩
    have hf : Two w3 B g v gd A c l (a + k) := ⟨(hr2).other hg3 hh.ne hh.ne2, hr3, hh.ne, hh.ne2, Nat.le_trans z2 hg3.size⟩
    have hbf : Below B (w.alloc (.cells #[.int .i64 2, .int .i64 M] 89)) w3 := ((below_of_two hg2 hh.one.base hh.size)).trans (below_of_two hg3 hh.two.base z2)
    clear hr2 hr3 hg2 hg3
    go_wp2_with (first | (go_at_call 33; refine (num_errno _ _).mono ?_; rintro e w' ⟨rfl, rfl⟩))
    go_ret
    exact ⟨rfl, _, hf, hw0.trans hbf⟩


set_option maxRecDepth 100000 in
set_option maxHeartbeats 4000000 in
theorem step_3 {w : World} {B g gd c a : Nat} {v : Value} {A : Option Addr} {l : List UInt8} (M : Int) (h : Two w B g v gd A c l a) :
    Calls Try.prog 47 #[.pointer (some ⟨g, 0, none⟩), .pointer (some ⟨gd, 0, none⟩), .agg #[.int .i64 3, .int .i64 M]] w (Stepped w B g v gd A c l) := by
  have hh := h.alloc (.cells #[.int .i64 3, .int .i64 M] 89)
  have hw0 : Below B w (w.alloc (.cells #[.int .i64 3, .int .i64 M] 89)) := (Below.refl _ _).alloc h.size _
  clear h
  cases hn : Wire.flt (l.drop a) with
  | err k =>
    have HB := Lib.hid fun w => rbits_any 0 w
    rw [canon0] at HB
    have H1 := Lib.hid ((float_rd hh.one).mono fun e w' hh => reads1_err' hn hh)
    have H2 := Lib.hid fun w' (h' : RR w' B gd A c l a) => (rflt_any h').mono fun e w' hh => rreads_err' hn hh
    clear hn  
    go_enter Try.func47, Try.ntmps47
    go_wp2_with fail
    refine H1.out.mono ?_
    rintro e w2 ⟨rfl, hr2, hg2⟩
    have z2 : B ≤ w2.heap.size := Nat.le_trans hh.size hg2.size
    go_wp2_with fail
    refine (H2.out _ (((hh.two' hg2)))).mono ?_
    rintro e w3 ⟨rfl, hr3, hg3⟩
    have hf : Two w3 B g v gd A c l a := ⟨(hr2).other hg3 hh.ne hh.ne2, hr3, hh.ne, hh.ne2, Nat.le_trans z2 hg3.size⟩
    have hbf : Below B (w.alloc (.cells #[.int .i64 3, .int .i64 M] 89)) w3 := ((below_of_two hg2 hh.one.base hh.size)).trans (below_of_two hg3 hh.two.base z2)
    clear hr2 hr3 hg2 hg3
    go_wp2_with (first | (go_at_call 33; refine (num_errno _ _).mono ?_; rintro e w' ⟨rfl, rfl⟩) | (go_at_call 56; refine (HB.out _).mono ?_; rintro e w' ⟨rfl, rfl⟩))
    go_ret
    exact ⟨rfl, _, hf, hw0.trans hbf⟩
  | ok x k =>
    have HB := Lib.hid fun w => rbits_any x w
    have hcn := flt_canon hn
    rw [hcn] at HB
    have H1 := Lib.hid ((float_rd hh.one).mono fun e w' hh => reads1_ok' hn hh)
    have H2 := Lib.hid fun w' (h' : RR w' B gd A c l a) => (rflt_any h').mono fun e w' hh => rreads_ok' hn hh
    clear hn hcn 
    go_enter Try.func47, Try.ntmps47
    go_wp2_with fail
    refine H1.out.mono ?_
    rintro e w2 ⟨rfl, hr2, hg2⟩
    have z2 : B ≤ w2.heap.size := Nat.le_trans hh.size hg2.size
    go_wp2_with fail
    refine (H2.out _ (((hh.two' hg2)))).mono ?_
    rintro e w3 ⟨rfl, hr3, hg3⟩
    have hf : Two w3 B g v gd A c l (a + k) := ⟨(hr2).other hg3 hh.ne hh.ne2, hr3, hh.ne, hh.ne2, Nat.le_trans z2 hg3.size⟩
    have hbf : Below B (w.alloc (.cells #[.int .i64 3, .int .i64 M] 89)) w3 := ((below_of_two hg2 hh.one.base hh.size)).trans (below_of_two hg3 hh.two.base z2)
    clear hr2 hr3 hg2 hg3
    go_wp2_with (first | (go_at_call 33; refine (num_errno _ _).mono ?_; rintro e w' ⟨rfl, rfl⟩) | (go_at_call 56; refine (HB.out _).mono ?_; rintro e w' ⟨rfl, rfl⟩))
    go_ret
    exact ⟨rfl, _, hf, hw0.trans hbf⟩


set_option maxRecDepth 100000 in
set_option maxHeartbeats 4000000 in
theorem step_4 {w : World} {B g gd c a : Nat} {v : Value} {A : Option Addr} {l : List UInt8} (M : Int) (h : Two w B g v gd A c l a) :
    Calls Try.prog 47 #[.pointer (some ⟨g, 0, none⟩), .pointer (some ⟨gd, 0, none⟩), .agg #[.int .i64 4, .int .i64 M]] w (Stepped w B g v gd A c l) := by
  have hh := h.alloc (.cells #[.int .i64 4, .int .i64 M] 89)
  have hw0 : Below B w (w.alloc (.cells #[.int .i64 4, .int .i64 M] 89)) := (Below.refl _ _).alloc h.size _
  clear h
  cases hn : Wire.both Wire.flt (l.drop a) with
  | err k =>
    have HB := Lib.hid fun w => rbits_any 0 w
    rw [canon0] at HB
    have HC := HB
    have H1 := Lib.hid ((complex_rd hh.one).mono fun e w' hh => reads1_err' hn hh)
    have H2 := Lib.hid fun w' (h' : RR w' B gd A c l a) => (rcomplex_any h').mono fun e w' hh => rreads_err' hn hh
    clear hn  
    go_enter Try.func47, Try.ntmps47
    go_wp2_with fail
    refine H1.out.mono ?_
    rintro e w2 ⟨rfl, hr2, hg2⟩
    have z2 : B ≤ w2.heap.size := Nat.le_trans hh.size hg2.size
    go_wp2_with fail
    refine (H2.out _ (((hh.two' hg2)))).mono ?_
    rintro e w3 ⟨rfl, hr3, hg3⟩
    have z3 : w2.heap.size ≤ w3.heap.size := hg3.size
    have hf : Two w3 B g v gd A c l a := ⟨(hr2).other hg3 hh.ne hh.ne2, hr3, hh.ne, hh.ne2, by omega⟩
    have hbf : Below B (w.alloc (.cells #[.int .i64 4, .int .i64 M] 89)) w3 := ((below_of_two hg2 hh.one.base hh.size)).trans (below_of_two hg3 hh.two.base z2)
    clear hr2 hr3 hg2 hg3
    have hf := hf.alloc (.cells #[.int .u64 0, .int .u64 0] 57)
    have hbf := hbf.alloc (by omega) (.cells #[.int .u64 0, .int .u64 0] 57)
    have hE := run_eql_two
    go_wp2_with fail
    go_quiet ((first | (go_at_call 56; exact quiet_left (HB.out _)) | (go_at_call 56; exact quiet_left (HC.out _)) | (go_at_call 33; exact quiet_left (num_errno _ _))))
    go_wp2
    go_ret
    exact ⟨rfl, _, hf.drewN _, hw0.trans (below_drewN hbf _)⟩
  | ok x k =>
    obtain ⟨hc1, hc2⟩ := both_flt_canon hn
    have HB := Lib.hid fun w => rbits_any x.1 w
    have HC := Lib.hid fun w => rbits_any x.2 w
    rw [hc1] at HB
    rw [hc2] at HC
    have H1 := Lib.hid ((complex_rd hh.one).mono fun e w' hh => reads1_ok' hn hh)
    have H2 := Lib.hid fun w' (h' : RR w' B gd A c l a) => (rcomplex_any h').mono fun e w' hh => rreads_ok' hn hh
    clear hn  hc1 hc2
    go_enter Try.func47, Try.ntmps47
    go_wp2_with fail
    refine H1.out.mono ?_
    rintro e w2 ⟨rfl, hr2, hg2⟩
    have z2 : B ≤ w2.heap.size := Nat.le_trans hh.size hg2.size
    go_wp2_with fail
    refine (H2.out _ (((hh.two' hg2)))).mono ?_
    rintro e w3 ⟨rfl, hr3, hg3⟩
    have z3 : w2.heap.size ≤ w3.heap.size := hg3.size
    have hf : Two w3 B g v gd A c l (a + k) := ⟨(hr2).other hg3 hh.ne hh.ne2, hr3, hh.ne, hh.ne2, by omega⟩
    have hbf : Below B (w.alloc (.cells #[.int .i64 4, .int .i64 M] 89)) w3 := ((below_of_two hg2 hh.one.base hh.size)).trans (below_of_two hg3 hh.two.base z2)
    clear hr2 hr3 hg2 hg3
    have hf := hf.alloc (.cells #[.int .u64 (x.1 : Int), .int .u64 (x.2 : Int)] 57)
    have hbf := hbf.alloc (by omega) (.cells #[.int .u64 (x.1 : Int), .int .u64 (x.2 : Int)] 57)
    have hE := run_eql_two
    go_wp2_with fail
    go_quiet ((first | (go_at_call 56; exact quiet_left (HB.out _)) | (go_at_call 56; exact quiet_left (HC.out _)) | (go_at_call 33; exact quiet_left (num_errno _ _))))
    go_wp2
    go_ret
    exact ⟨rfl, _, hf.drewN _, hw0.trans (below_drewN hbf _)⟩


set_option maxRecDepth 100000 in
set_option maxHeartbeats 4000000 in
theorem step_6 {w : World} {B g gd c a : Nat} {v : Value} {A : Option Addr} {l : List UInt8} (M : Int) (h : Two w B g v gd A c l a) :
    Calls Try.prog 47 #[.pointer (some ⟨g, 0, none⟩), .pointer (some ⟨gd, 0, none⟩), .agg #[.int .i64 6, .int .i64 M]] w (Stepped w B g v gd A c l) := by
  have hh := h.alloc (.cells #[.int .i64 6, .int .i64 M] 89)
  have hw0 : Below B w (w.alloc (.cells #[.int .i64 6, .int .i64 M] 89)) := (Below.refl _ _).alloc h.size _
  clear h
  cases hn : Wire.whole (l.drop a) with
  | err k =>
    have H1 := Lib.hid ((whole_rd hh.one).mono fun e w' hh => reads1_err' hn hh)
    have H2 := Lib.hid fun w' (h' : RR w' B gd A c l a) => (rwholeR_any h').mono fun e w' hh => rreads_err' hn hh
    clear hn  
    go_enter Try.func47, Try.ntmps47
    go_wp2_with fail
    refine H1.out.mono ?_
    rintro e w2 ⟨rfl, hr2, hg2⟩
    have z2 : B ≤ w2.heap.size := Nat.le_trans hh.size hg2.size
    go_wp2_with fail
    refine (H2.out _ (((hh.two' hg2).alloc (.cells #[.bool false, .string ⟨#[]⟩] 28)))).mono ?_
    rintro e w3 ⟨rfl, hr3, hg3⟩
    have kx := (Blk.new w2 28 #[.bool false, .string ⟨#[]⟩]).grown hg3 (fun e => by have := Option.some.inj e; have := (hh.two' hg2).lt; omega)
    have z3 : w2.heap.size < w3.heap.size := kx.lt
    have n3 : w2.heap.size ≠ w3.heap.size := by omega
    have t0 : w3.cell? ⟨w2.heap.size, 0, none⟩ = some (.bool false) := kx.cell 0
    have t1 : w3.cell? ⟨w2.heap.size, 1, none⟩ = some (.string ⟨#[]⟩) := kx.cell 1
    clear kx
    have hf : Two w3 B g v gd A c l a := ⟨(hr2.alloc (.cells #[.bool false, .string ⟨#[]⟩] 28)).other hg3 hh.ne hh.ne2, hr3, hh.ne, hh.ne2, by omega⟩
    have hbf : Below B (w.alloc (.cells #[.int .i64 6, .int .i64 M] 89)) w3 := ((below_of_two hg2 hh.one.base hh.size).alloc z2 (.cells #[.bool false, .string ⟨#[]⟩] 28)).trans (below_of_two hg3 hh.two.base (by rw [World.size_alloc]; omega))
    clear hr2 hr3 hg2 hg3
    have hf := hf.alloc (.cells #[.bool false, .string ⟨#[]⟩] 28)
    have hbf := hbf.alloc (by omega) (.cells #[.bool false, .string ⟨#[]⟩] 28)
    go_wp2_with (first | (go_at_call 33; refine (num_errno _ _).mono ?_; rintro e w' ⟨rfl, rfl⟩))
    go_ret
    exact ⟨rfl, _, hf, hw0.trans hbf⟩
  | ok x k =>
    have H1 := Lib.hid ((whole_rd hh.one).mono fun e w' hh => reads1_ok' hn hh)
    have H2 := Lib.hid fun w' (h' : RR w' B gd A c l a) => (rwholeR_any h').mono fun e w' hh => rreads_ok' hn hh
    clear hn  
    go_enter Try.func47, Try.ntmps47
    go_wp2_with fail
    refine H1.out.mono ?_
    rintro e w2 ⟨rfl, hr2, hg2⟩
    have z2 : B ≤ w2.heap.size := Nat.le_trans hh.size hg2.size
    go_wp2_with fail
    refine (H2.out _ (((hh.two' hg2).alloc (.cells #[.bool x.1, .string x.2] 28)))).mono ?_
    rintro e w3 ⟨rfl, hr3, hg3⟩
    have kx := (Blk.new w2 28 #[.bool x.1, .string x.2]).grown hg3 (fun e => by have := Option.some.inj e; have := (hh.two' hg2).lt; omega)
    have z3 : w2.heap.size < w3.heap.size := kx.lt
    have n3 : w2.heap.size ≠ w3.heap.size := by omega
    have t0 : w3.cell? ⟨w2.heap.size, 0, none⟩ = some (.bool x.1) := kx.cell 0
    have t1 : w3.cell? ⟨w2.heap.size, 1, none⟩ = some (.string x.2) := kx.cell 1
    clear kx
    have hf : Two w3 B g v gd A c l (a + k) := ⟨(hr2.alloc (.cells #[.bool x.1, .string x.2] 28)).other hg3 hh.ne hh.ne2, hr3, hh.ne, hh.ne2, by omega⟩
    have hbf : Below B (w.alloc (.cells #[.int .i64 6, .int .i64 M] 89)) w3 := ((below_of_two hg2 hh.one.base hh.size).alloc z2 (.cells #[.bool x.1, .string x.2] 28)).trans (below_of_two hg3 hh.two.base (by rw [World.size_alloc]; omega))
    clear hr2 hr3 hg2 hg3
    have hf := hf.alloc (.cells #[.bool x.1, .string x.2] 28)
    have hbf := hbf.alloc (by omega) (.cells #[.bool x.1, .string x.2] 28)
    go_wp2_with (first | (go_at_call 33; refine (num_errno _ _).mono ?_; rintro e w' ⟨rfl, rfl⟩))
    go_ret
    exact ⟨rfl, _, hf, hw0.trans hbf⟩


set_option maxRecDepth 100000 in
set_option maxHeartbeats 4000000 in
theorem step_7 {w : World} {B g gd c a : Nat} {v : Value} {A : Option Addr} {l : List UInt8} (M : Int) (h : Two w B g v gd A c l a) :
    Calls Try.prog 47 #[.pointer (some ⟨g, 0, none⟩), .pointer (some ⟨gd, 0, none⟩), .agg #[.int .i64 7, .int .i64 M]] w (Stepped w B g v gd A c l) := by
  have hh := h.alloc (.cells #[.int .i64 7, .int .i64 M] 89)
  have hw0 : Below B w (w.alloc (.cells #[.int .i64 7, .int .i64 M] 89)) := (Below.refl _ _).alloc h.size _
  clear h
  cases hn : Wire.frac (l.drop a) with
  | err k =>
    have H1 := Lib.hid ((frac_rd hh.one).mono fun e w' hh => reads1_err' hn hh)
    have H2 := Lib.hid fun w' (h' : RR w' B gd A c l a) => (rfracR_any h').mono fun e w' hh => rreads_err' hn hh
    clear hn  
    go_enter Try.func47, Try.ntmps47
    go_wp2_with fail
    refine H1.out.mono ?_
    rintro e w2 ⟨rfl, hr2, hg2⟩
    have z2 : B ≤ w2.heap.size := Nat.le_trans hh.size hg2.size
    go_wp2_with fail
    refine (H2.out _ (((hh.two' hg2).alloc (.cells #[.bool false, .string ⟨#[]⟩, .bool false, .string ⟨#[]⟩] 30)))).mono ?_
    rintro e w3 ⟨rfl, hr3, hg3⟩
    have kx := (Blk.new w2 30 #[.bool false, .string ⟨#[]⟩, .bool false, .string ⟨#[]⟩]).grown hg3 (fun e => by have := Option.some.inj e; have := (hh.two' hg2).lt; omega)
    have z3 : w2.heap.size < w3.heap.size := kx.lt
    have n3 : w2.heap.size ≠ w3.heap.size := by omega
    have t0 : w3.cell? ⟨w2.heap.size, 0, none⟩ = some (.bool false) := kx.cell 0
    have t1 : w3.cell? ⟨w2.heap.size, 1, none⟩ = some (.string ⟨#[]⟩) := kx.cell 1
    have t2 : w3.cell? ⟨w2.heap.size, 2, none⟩ = some (.bool false) := kx.cell 2
    have t3 : w3.cell? ⟨w2.heap.size, 3, none⟩ = some (.string ⟨#[]⟩) := kx.cell 3
    clear kx
    have hf : Two w3 B g v gd A c l a := ⟨(hr2.alloc (.cells #[.bool false, .string ⟨#[]⟩, .bool false, .string ⟨#[]⟩] 30)).other hg3 hh.ne hh.ne2, hr3, hh.ne, hh.ne2, by omega⟩
    have hbf : Below B (w.alloc (.cells #[.int .i64 7, .int .i64 M] 89)) w3 := ((below_of_two hg2 hh.one.base hh.size).alloc z2 (.cells #[.bool false, .string ⟨#[]⟩, .bool false, .string ⟨#[]⟩] 30)).trans (below_of_two hg3 hh.two.base (by rw [World.size_alloc]; omega))
    clear hr2 hr3 hg2 hg3
    have hf := hf.alloc (.cells #[.bool false, .string ⟨#[]⟩, .bool false, .string ⟨#[]⟩] 30)
    have hbf := hbf.alloc (by omega) (.cells #[.bool false, .string ⟨#[]⟩, .bool false, .string ⟨#[]⟩] 30)
    go_wp2_with (first | (go_at_call 33; refine (num_errno _ _).mono ?_; rintro e w' ⟨rfl, rfl⟩))
    go_ret
    exact ⟨rfl, _, hf, hw0.trans hbf⟩
  | ok x k =>
    have H1 := Lib.hid ((frac_rd hh.one).mono fun e w' hh => reads1_ok' hn hh)
    have H2 := Lib.hid fun w' (h' : RR w' B gd A c l a) => (rfracR_any h').mono fun e w' hh => rreads_ok' hn hh
    clear hn  
    go_enter Try.func47, Try.ntmps47
    go_wp2_with fail
    refine H1.out.mono ?_
    rintro e w2 ⟨rfl, hr2, hg2⟩
    have z2 : B ≤ w2.heap.size := Nat.le_trans hh.size hg2.size
    go_wp2_with fail
    refine (H2.out _ (((hh.two' hg2).alloc (.cells #[.bool x.1.1, .string x.1.2, .bool x.2.1, .string x.2.2] 30)))).mono ?_
    rintro e w3 ⟨rfl, hr3, hg3⟩
    have kx := (Blk.new w2 30 #[.bool x.1.1, .string x.1.2, .bool x.2.1, .string x.2.2]).grown hg3 (fun e => by have := Option.some.inj e; have := (hh.two' hg2).lt; omega)
    have z3 : w2.heap.size < w3.heap.size := kx.lt
    have n3 : w2.heap.size ≠ w3.heap.size := by omega
    have t0 : w3.cell? ⟨w2.heap.size, 0, none⟩ = some (.bool x.1.1) := kx.cell 0
    have t1 : w3.cell? ⟨w2.heap.size, 1, none⟩ = some (.string x.1.2) := kx.cell 1
    have t2 : w3.cell? ⟨w2.heap.size, 2, none⟩ = some (.bool x.2.1) := kx.cell 2
    have t3 : w3.cell? ⟨w2.heap.size, 3, none⟩ = some (.string x.2.2) := kx.cell 3
    clear kx
    have hf : Two w3 B g v gd A c l (a + k) := ⟨(hr2.alloc (.cells #[.bool x.1.1, .string x.1.2, .bool x.2.1, .string x.2.2] 30)).other hg3 hh.ne hh.ne2, hr3, hh.ne, hh.ne2, by omega⟩
    have hbf : Below B (w.alloc (.cells #[.int .i64 7, .int .i64 M] 89)) w3 := ((below_of_two hg2 hh.one.base hh.size).alloc z2 (.cells #[.bool x.1.1, .string x.1.2, .bool x.2.1, .string x.2.2] 30)).trans (below_of_two hg3 hh.two.base (by rw [World.size_alloc]; omega))
    clear hr2 hr3 hg2 hg3
    have hf := hf.alloc (.cells #[.bool x.1.1, .string x.1.2, .bool x.2.1, .string x.2.2] 30)
    have hbf := hbf.alloc (by omega) (.cells #[.bool x.1.1, .string x.1.2, .bool x.2.1, .string x.2.2] 30)
    go_wp2_with (first | (go_at_call 33; refine (num_errno _ _).mono ?_; rintro e w' ⟨rfl, rfl⟩))
    go_ret
    exact ⟨rfl, _, hf, hw0.trans hbf⟩


set_option maxRecDepth 100000 in
set_option maxHeartbeats 4000000 in
theorem step_8 {w : World} {B g gd c a : Nat} {v : Value} {A : Option Addr} {l : List UInt8} (M : Int) (h : Two w B g v gd A c l a) :
    Calls Try.prog 47 #[.pointer (some ⟨g, 0, none⟩), .pointer (some ⟨gd, 0, none⟩), .agg #[.int .i64 8, .int .i64 M]] w (Stepped w B g v gd A c l) := by
  have hh := h.alloc (.cells #[.int .i64 8, .int .i64 M] 89)
  have hw0 : Below B w (w.alloc (.cells #[.int .i64 8, .int .i64 M] 89)) := (Below.refl _ _).alloc h.size _
  clear h
  cases hn : Wire.both Wire.frac (l.drop a) with
  | err k =>
    have H1 := Lib.hid ((gauss_rd hh.one).mono fun e w' hh => reads1_err' hn hh)
    have H2 := Lib.hid fun w' (h' : RR w' B gd A c l a) => (rgaussR_any h').mono fun e w' hh => rreads_err' hn hh
    clear hn  
    go_enter Try.func47, Try.ntmps47
    go_wp2_with fail
    refine H1.out.mono ?_
    rintro e w2 ⟨rfl, hr2, hg2⟩
    have z2 : B ≤ w2.heap.size := Nat.le_trans hh.size hg2.size
    go_wp2_with fail
    refine (H2.out _ (((hh.two' hg2).alloc (.cells #[.bool false, .string ⟨#[]⟩, .bool false, .string ⟨#[]⟩, .bool false, .string ⟨#[]⟩, .bool false, .string ⟨#[]⟩] 32)))).mono ?_
    rintro e w3 ⟨rfl, hr3, hg3⟩
    have kx := (Blk.new w2 32 #[.bool false, .string ⟨#[]⟩, .bool false, .string ⟨#[]⟩, .bool false, .string ⟨#[]⟩, .bool false, .string ⟨#[]⟩]).grown hg3 (fun e => by have := Option.some.inj e; have := (hh.two' hg2).lt; omega)
    have z3 : w2.heap.size < w3.heap.size := kx.lt
    have n3 : w2.heap.size ≠ w3.heap.size := by omega
    have t0 : w3.cell? ⟨w2.heap.size, 0, none⟩ = some (.bool false) := kx.cell 0
    have t1 : w3.cell? ⟨w2.heap.size, 1, none⟩ = some (.string ⟨#[]⟩) := kx.cell 1
    have t2 : w3.cell? ⟨w2.heap.size, 2, none⟩ = some (.bool false) := kx.cell 2
    have t3 : w3.cell? ⟨w2.heap.size, 3, none⟩ = some (.string ⟨#[]⟩) := kx.cell 3
    have t4 : w3.cell? ⟨w2.heap.size, 4, none⟩ = some (.bool false) := kx.cell 4
    have t5 : w3.cell? ⟨w2.heap.size, 5, none⟩ = some (.string ⟨#[]⟩) := kx.cell 5
    have t6 : w3.cell? ⟨w2.heap.size, 6, none⟩ = some (.bool false) := kx.cell 6
    have t7 : w3.cell? ⟨w2.heap.size, 7, none⟩ = some (.string ⟨#[]⟩) := kx.cell 7
    clear kx
    have hf : Two w3 B g v gd A c l a := ⟨(hr2.alloc (.cells #[.bool false, .string ⟨#[]⟩, .bool false, .string ⟨#[]⟩, .bool false, .string ⟨#[]⟩, .bool false, .string ⟨#[]⟩] 32)).other hg3 hh.ne hh.ne2, hr3, hh.ne, hh.ne2, by omega⟩
    have hbf : Below B (w.alloc (.cells #[.int .i64 8, .int .i64 M] 89)) w3 := ((below_of_two hg2 hh.one.base hh.size).alloc z2 (.cells #[.bool false, .string ⟨#[]⟩, .bool false, .string ⟨#[]⟩, .bool false, .string ⟨#[]⟩, .bool false, .string ⟨#[]⟩] 32)).trans (below_of_two hg3 hh.two.base (by rw [World.size_alloc]; omega))
    clear hr2 hr3 hg2 hg3
    have hf := hf.alloc (.cells #[.bool false, .string ⟨#[]⟩, .bool false, .string ⟨#[]⟩, .bool false, .string ⟨#[]⟩, .bool false, .string ⟨#[]⟩] 32)
    have hbf := hbf.alloc (by omega) (.cells #[.bool false, .string ⟨#[]⟩, .bool false, .string ⟨#[]⟩, .bool false, .string ⟨#[]⟩, .bool false, .string ⟨#[]⟩] 32)
    go_wp2_with (first | (go_at_call 33; refine (num_errno _ _).mono ?_; rintro e w' ⟨rfl, rfl⟩))
    go_ret
    exact ⟨rfl, _, hf, hw0.trans hbf⟩
  | ok x k =>
    have H1 := Lib.hid ((gauss_rd hh.one).mono fun e w' hh => reads1_ok' hn hh)
    have H2 := Lib.hid fun w' (h' : RR w' B gd A c l a) => (rgaussR_any h').mono fun e w' hh => rreads_ok' hn hh
    clear hn  
    go_enter Try.func47, Try.ntmps47
    go_wp2_with fail
    refine H1.out.mono ?_
    rintro e w2 ⟨rfl, hr2, hg2⟩
    have z2 : B ≤ w2.heap.size := Nat.le_trans hh.size hg2.size
    go_wp2_with fail
    refine (H2.out _ (((hh.two' hg2).alloc (.cells #[.bool x.1.1.1, .string x.1.1.2, .bool x.1.2.1, .string x.1.2.2, .bool x.2.1.1, .string x.2.1.2, .bool x.2.2.1, .string x.2.2.2] 32)))).mono ?_
    rintro e w3 ⟨rfl, hr3, hg3⟩
    have kx := (Blk.new w2 32 #[.bool x.1.1.1, .string x.1.1.2, .bool x.1.2.1, .string x.1.2.2, .bool x.2.1.1, .string x.2.1.2, .bool x.2.2.1, .string x.2.2.2]).grown hg3 (fun e => by have := Option.some.inj e; have := (hh.two' hg2).lt; omega)
    have z3 : w2.heap.size < w3.heap.size := kx.lt
    have n3 : w2.heap.size ≠ w3.heap.size := by omega
    have t0 : w3.cell? ⟨w2.heap.size, 0, none⟩ = some (.bool x.1.1.1) := kx.cell 0
    have t1 : w3.cell? ⟨w2.heap.size, 1, none⟩ = some (.string x.1.1.2) := kx.cell 1
    have t2 : w3.cell? ⟨w2.heap.size, 2, none⟩ = some (.bool x.1.2.1) := kx.cell 2
    have t3 : w3.cell? ⟨w2.heap.size, 3, none⟩ = some (.string x.1.2.2) := kx.cell 3
    have t4 : w3.cell? ⟨w2.heap.size, 4, none⟩ = some (.bool x.2.1.1) := kx.cell 4
    have t5 : w3.cell? ⟨w2.heap.size, 5, none⟩ = some (.string x.2.1.2) := kx.cell 5
    have t6 : w3.cell? ⟨w2.heap.size, 6, none⟩ = some (.bool x.2.2.1) := kx.cell 6
    have t7 : w3.cell? ⟨w2.heap.size, 7, none⟩ = some (.string x.2.2.2) := kx.cell 7
    clear kx
    have hf : Two w3 B g v gd A c l (a + k) := ⟨(hr2.alloc (.cells #[.bool x.1.1.1, .string x.1.1.2, .bool x.1.2.1, .string x.1.2.2, .bool x.2.1.1, .string x.2.1.2, .bool x.2.2.1, .string x.2.2.2] 32)).other hg3 hh.ne hh.ne2, hr3, hh.ne, hh.ne2, by omega⟩
    have hbf : Below B (w.alloc (.cells #[.int .i64 8, .int .i64 M] 89)) w3 := ((below_of_two hg2 hh.one.base hh.size).alloc z2 (.cells #[.bool x.1.1.1, .string x.1.1.2, .bool x.1.2.1, .string x.1.2.2, .bool x.2.1.1, .string x.2.1.2, .bool x.2.2.1, .string x.2.2.2] 32)).trans (below_of_two hg3 hh.two.base (by rw [World.size_alloc]; omega))
    clear hr2 hr3 hg2 hg3
    have hf := hf.alloc (.cells #[.bool x.1.1.1, .string x.1.1.2, .bool x.1.2.1, .string x.1.2.2, .bool x.2.1.1, .string x.2.1.2, .bool x.2.2.1, .string x.2.2.2] 32)
    have hbf := hbf.alloc (by omega) (.cells #[.bool x.1.1.1, .string x.1.1.2, .bool x.1.2.1, .string x.1.2.2, .bool x.2.1.1, .string x.2.1.2, .bool x.2.2.1, .string x.2.2.2] 32)
    go_wp2_with (first | (go_at_call 33; refine (num_errno _ _).mono ?_; rintro e w' ⟨rfl, rfl⟩))
    go_ret
    exact ⟨rfl, _, hf, hw0.trans hbf⟩

end Go.Proofs.Ytgmienlifnpniaa
