/- The reference's reader: Signed, Float, Complex. -/
import Derived.Test.YtgmienlifnpniaaRRd
import Derived.Test.YtgmienlifnpniaaRdBoth
namespace Go.Proofs.Ytgmienlifnpniaa
open Go.RowKit
set_option linter.unusedSimpArgs false

theorem RR.off {B g c a b i a' : Nat} {A : Option Addr} {l : List UInt8} {w0 w : World} (h0 : RR w0 B g A c l a) (h : RR w B g A c l a') (hb : w0.heap.size ≤ b) (u : Value) : RR (w.setCell ⟨b, i, none⟩ u) B g A c l a' :=
  h.far (p := ⟨b, i, none⟩) (by have := h0.lt; show b ≠ g; omega) (by have := h0.lt; have := h0.base; show B ≤ b; omega) u

theorem unfolded_any (n : Nat) (w : World) (h : n < 18446744073709551616) :
    Calls Try.prog 93 #[.int .u64 (n : Int)] w fun e w' => e = .returned (.int .i64 (Wire.unfold_ n)) ∧ w = w' := by
  by_cases h1 : n % 2 = 1
  · have h2 : (((n : Int) % 2) == 1) = true := by simp; omega
    have Hs := Lib.hid (show Wire.unfold_ n = -((n : Int) / 2) - 1 by unfold Wire.unfold_; rw [if_pos h1]; omega)
    clear h1
    go_enter Try.func93, Try.ntmps93
    go_wp2
    go_ret
    exact ⟨ret_i64 Hs.out.symm, rfl⟩
  · have h2 : (((n : Int) % 2) == 1) = false := by simp; omega
    have Hs := Lib.hid (show Wire.unfold_ n = ((n : Int) / 2) by unfold Wire.unfold_; rw [if_neg h1]; omega)
    clear h1
    go_enter Try.func93, Try.ntmps93
    go_wp2
    go_ret
    exact ⟨ret_i64 Hs.out.symm, rfl⟩

set_option maxRecDepth 100000 in
theorem rsignedR_any {w : World} {B g c a : Nat} {A : Option Addr} {l : List UInt8} (h : RR w B g A c l a) :
    Calls Try.prog 74 #[.pointer (some ⟨g, 0, none⟩)] w (RReads (fun n : Nat => .int .i64 (Wire.unfold_ n)) (.int .i64 0) (Wire.num (l.drop a)) w B g A c l a) := by
  cases hn : Wire.num (l.drop a) with
  | err k =>
    have H1 := Lib.hid ((rnumber_any h).mono fun e w' hh => rreads_err' hn hh)
    have H2 := Lib.hid fun w => unfolded_any 0 w (by decide)
    clear hn h
    go_enter Try.func74, Try.ntmps74
    go_wp2_with (first | (go_at_call 73; refine H1.out.mono ?_; rintro e w1 ⟨rfl, hr1, hg1⟩) | (go_at_call 93; refine (H2.out _).mono ?_; rintro e w2 ⟨rfl, rfl⟩))
    go_ret2
    exact ⟨rfl, hr1, hg1⟩
  | ok n k =>
    obtain ⟨hn1, _, _⟩ := Wire.num_bd hn
    have H1 := Lib.hid ((rnumber_any h).mono fun e w' hh => rreads_ok' hn hh)
    have H2 := Lib.hid fun w => unfolded_any n w hn1
    clear hn h
    go_enter Try.func74, Try.ntmps74
    go_wp2_with (first | (go_at_call 73; refine H1.out.mono ?_; rintro e w1 ⟨rfl, hr1, hg1⟩) | (go_at_call 93; refine (H2.out _).mono ?_; rintro e w2 ⟨rfl, rfl⟩))
    go_ret2
    exact ⟨rfl, hr1, hg1⟩

theorem be_take {r : List UInt8} {j : Nat} (h : j < r.length) : Wire.beV (r.take (j + 1)) = Wire.beV (r.take j) * 256 + (r[j]).toNat := by rw [List.take_succ_eq_append_getElem h, Wire.beV_snoc]

set_option maxRecDepth 100000 in
set_option maxHeartbeats 1000000 in
theorem rflt_any {w : World} {B g c a : Nat} {A : Option Addr} {l : List UInt8} (h : RR w B g A c l a) :
    Calls Try.prog 75 #[.pointer (some ⟨g, 0, none⟩)] w (RReads (fun u : Nat => .int .u64 (u : Int)) (.int .u64 0) (Wire.flt (l.drop a)) w B g A c l a) := by
  have hk : (l.drop a).length = l.length - a := List.length_drop
  have HL := Lib.hid (rleft_any h)
  have c0 := h.c0
  have c1 := h.c1
  have f1 := h.f1
  have hle := h.le
  have hll := h.len
  have Hh := Lib.hid h
  by_cases h8 : (l.drop a).length < 8
  · have Hs := Lib.hid (show Wire.flt (l.drop a) = .err 110 from if_pos h8)
    have hl8 : ((l.length - a : Nat) : Int) < 8 := by omega
    generalize l.length - a = m at *
    clear h hk h8
    go_enter Try.func75, Try.ntmps75
    go_wp2_with (go_at_call 48; refine HL.out.mono ?_; rintro e w1 ⟨rfl, kq, rfl⟩)
    go_ret2
    exact rreads_err Hs.out ⟨rfl, Hh.out.drewN _, only_drewN (World.grownBy.refl w _) _⟩
  · have hl8 : 8 ≤ ((l.length - a : Nat) : Int) := by omega
    have hl9 : a + 8 ≤ l.length := by omega
    have Hs0 := Lib.hid (show Wire.flt (l.drop a) = if Wire.canon (Wire.beV ((l.drop a).take 8)) = Wire.beV ((l.drop a).take 8) then .ok (Wire.beV ((l.drop a).take 8)) 8 else .err 111 from if_neg h8)
    obtain ⟨ad, rfl, hb⟩ := h.bytes (by omega)
    have Hb := Lib.hid hb
    have hx := run_frombits
    have HB := Lib.hid rbits_any
    clear hb hk h8
    generalize hmm : l.length - a = m at *
    clear hmm h
    go_enter Try.func75, Try.ntmps75
    go_wp2_with (go_at_call 48; refine HL.out.mono ?_; rintro e w1 ⟨rfl, kq, rfl⟩)
    go_loopg [4, 5] 8 (fun k u i wr => ∃ (j n : Nat), i = .int .i64 (j : Int) ∧ j + k = 8 ∧ u = .int .u64 (Wire.beV ((l.drop a).take j) : Int) ∧ wr = w.drewN n)
    case atStart => exact ⟨0, kq, rfl, rfl, rfl, rfl⟩
    case round =>
      obtain ⟨j, n, rfl, hj, rfl, rfl⟩ := hrel
      have Hj := Lib.hid hj
      have hj8 : j ≤ 8 := by omega
      by_cases hlt : j < 8
      · have hbd := Wire.beV_lt' j ((l.drop a).take j) (by rw [List.length_take, List.length_drop]; omega)
        have hbd2 : Wire.beV ((l.drop a).take j) < 72057594037927936 := Nat.lt_of_lt_of_le hbd (Nat.le_trans (Nat.pow_le_pow_right (by decide) (show j ≤ 7 by omega)) (by decide))
        have cb := Hb.out (a + j) (by omega)
        unfold bv at cb
        have Hsn := Lib.hid (be_take (r := l.drop a) (j := j) (by rw [List.length_drop]; omega))
        rw [List.getElem_drop] at Hsn
        have hb256 := (l[a + j]'(by omega)).toNat_lt
        generalize l[a + j]'(by omega) = b at *
        generalize Wire.beV ((l.drop a).take j) = u at *
        have hi : IntKind.i64.wrap ((a : Int) + (j : Int)) = ((a + j : Nat) : Int) := by rw [IntKind.wrap_i64]; omega
        have hi0 : (0 : Int) ≤ (a : Int) + j := by omega
        have hi1 : (a : Int) + j < l.length := by omega
        have hi2 : ((a : Int) + j).toNat = a + j := by omega
        clear hbd hj
        go_wp2_with (go_quiet (fail))
        go_roundg (8 - (j + 1))
        case measure => have := Hj.out; omega
        case rel =>
          refine ⟨j + 1, _, by go_num, by omega, ?_, rfl⟩
          rw [Hsn.out]
          exact congrArg (Value.int .u64) (by omega)
      · have hj9 : j = 8 := by omega
        subst hj9
        have hu := Wire.beV_lt' 8 ((l.drop a).take 8) (by rw [List.length_take, List.length_drop]; omega)
        generalize Wire.beV ((l.drop a).take 8) = u at *
        have hu2 : u < 18446744073709551616 := hu
        clear hu hj
        by_cases hc : Wire.canon u = u
        · have Hs := Lib.hid (Hs0.out.trans (if_pos hc))
          have hne : ((u : Int) != (Wire.canon u : Int)) = false := by rw [hc]; simp
          clear hc
          go_wp2_with (go_at_call 56; refine (HB.out u _).mono ?_; rintro e w' ⟨rfl, rfl⟩)
          go_ret2
          exact rreads_ok Hs.out ⟨rfl, (Hh.out.drewN _).go (a + 8) (by omega), only_setCell (p := ⟨g, 1, none⟩) (only_drewN (World.grownBy.refl w _) _) (.inl rfl) _⟩
        · have Hs := Lib.hid (Hs0.out.trans (if_neg hc))
          have hne : ((u : Int) != (Wire.canon u : Int)) = true := by simp; omega
          clear hc
          go_wp2_with (go_at_call 56; refine (HB.out u _).mono ?_; rintro e w' ⟨rfl, rfl⟩)
          go_ret2
          exact rreads_err Hs.out ⟨rfl, Hh.out.drewN _, only_drewN (World.grownBy.refl w _) _⟩

set_option maxRecDepth 100000 in
set_option maxHeartbeats 8000000 in
theorem rcomplex_any {w : World} {B g c a : Nat} {A : Option Addr} {l : List UInt8} (h : RR w B g A c l a) :
    Calls Try.prog 76 #[.pointer (some ⟨g, 0, none⟩)] w (RReads (fun x : (Nat × Nat) => .agg #[.int .u64 (x.1 : Int), .int .u64 (x.2 : Int)]) (.agg #[.int .u64 0, .int .u64 0]) (Wire.both Wire.flt (l.drop a)) w B g A c l a) := by
  have h2 := h.alloc (.cells #[.int .u64 0, .int .u64 0] 57)
  have hB0 := Blk.new w 57 #[.int .u64 0, .int .u64 0]
  have c1 := h2.c1
  have hle := h.le
  have hgl := h.lt
  have hne0 : some w.heap.size ≠ some g := fun e => by have := Option.some.inj e; omega
  have ng : w.heap.size ≠ g := by omega
  have HB0 := Lib.hid hB0
  have Hh := Lib.hid h
  cases hn : Wire.flt (l.drop a) with
  | err k1 =>
    have hc := ne_code (Wire.flt_err hn)
    have Hs := Lib.hid (Wire.both1 hn)
    have H1 := Lib.hid ((rflt_any h2).mono fun e w' hh => rreads_err' hn hh)
    clear h h2 hB0 hn
    go_enter Try.func76, Try.ntmps76
    go_wp2_with fail
    refine H1.out.mono ?_
    rintro e w1 ⟨rfl, hr1, hg1⟩
    have k0 := HB0.out.grown hg1 hne0
    have q0 : w1.cell? ⟨w.heap.size, 0, none⟩ = some (.int .u64 0) := k0.cell 0
    have f0 := k0.frozen 0
    have q1 : w1.cell? ⟨w.heap.size, 1, none⟩ = some (.int .u64 0) := k0.cell 1
    have f1 := k0.frozen 1
    have z1 : w.heap.size < w1.heap.size := by have := hg1.size; simp only [World.size_alloc] at this; omega
    have n1 : w.heap.size ≠ w1.heap.size := by omega
    clear k0
    go_wp2_with fail
    refine bodyPost_ret (by simp [results, Try.results76, go_sem, q0, q1, n1, z1]; rfl) rfl ?_
    exact rreads_err Hs.out ⟨rfl, RR.off Hh.out (RR.off Hh.out (hr1) (Nat.le_refl _) _) (Nat.le_refl _) _, only_new (only_new (only_of_alloc hg1) (Nat.le_refl _) _) (Nat.le_refl _) _⟩
  | ok x k =>
    obtain x := x
    have hdd : (l.drop a).drop k = l.drop (a + k) := by rw [List.drop_drop]
    have H1 := Lib.hid ((rflt_any h2).mono fun e w' hh => rreads_ok' hn hh)
    cases hn2 : Wire.flt (l.drop (a + k)) with
    | err k1 =>
      have hc := ne_code (Wire.flt_err hn2)
      have Hs := Lib.hid (Wire.both2 hn (by rw [hdd]; exact hn2))
      have H2 := Lib.hid fun w' (h' : RR w' B g A c l (a + k)) => (rflt_any h').mono fun e w' hh => rreads_err' hn2 hh
      clear h h2 hB0 hn hn2 hdd
      go_enter Try.func76, Try.ntmps76
      go_wp2_with fail
      refine H1.out.mono ?_
      rintro e w1 ⟨rfl, hr1, hg1⟩
      have k0 := HB0.out.grown hg1 hne0
      have z1 : w.heap.size < w1.heap.size := by have := hg1.size; simp only [World.size_alloc] at this; omega
      go_wp2_with fail
      refine (H2.out _ (hr1)).mono ?_
      rintro e w2 ⟨rfl, hr2, hg2⟩
      have k1 := k0.grown hg2 hne0
      have q0 : w2.cell? ⟨w.heap.size, 0, none⟩ = some (.int .u64 0) := k1.cell 0
      have f0 := k1.frozen 0
      have q1 : w2.cell? ⟨w.heap.size, 1, none⟩ = some (.int .u64 0) := k1.cell 1
      have f1 := k1.frozen 1
      have z2 : w.heap.size < w2.heap.size := by have := hg2.size; (try simp only [World.size_alloc] at this); omega
      have n1 : w.heap.size ≠ w2.heap.size := by omega
      have n2 : g ≠ w2.heap.size := by omega
      have hgg := (only_of_alloc hg1).trans hg2
      have c2 := hr2.c1
      have f2 := hr2.f1
      clear k0 k1
      go_wp2_with fail
      refine bodyPost_ret (by simp [results, Try.results76, go_sem, q0, q1, n1, z2, ng]; rfl) rfl ?_
      exact rreads_err Hs.out ⟨rfl, RR.off Hh.out (RR.off Hh.out ((hr2).go a hle) (Nat.le_refl _) _) (Nat.le_refl _) _, only_new (only_new (only_setCell (p := ⟨g, 1, none⟩) (hgg) (.inl rfl) _) (Nat.le_refl _) _) (Nat.le_refl _) _⟩
    | ok y k2 =>
      obtain y := y
      have Hs := Lib.hid (Wire.both3 hn (by rw [hdd]; exact hn2))
      have H2 := Lib.hid fun w' (h' : RR w' B g A c l (a + k)) => (rflt_any h').mono fun e w' hh => rreads_ok' hn2 hh
      clear h h2 hB0 hn hn2 hdd
      go_enter Try.func76, Try.ntmps76
      go_wp2_with fail
      refine H1.out.mono ?_
      rintro e w1 ⟨rfl, hr1, hg1⟩
      have k0 := HB0.out.grown hg1 hne0
      have z1 : w.heap.size < w1.heap.size := by have := hg1.size; simp only [World.size_alloc] at this; omega
      go_wp2_with fail
      refine (H2.out _ (hr1)).mono ?_
      rintro e w2 ⟨rfl, hr2, hg2⟩
      have k1 := k0.grown hg2 hne0
      have q0 : w2.cell? ⟨w.heap.size, 0, none⟩ = some (.int .u64 0) := k1.cell 0
      have f0 := k1.frozen 0
      have q1 : w2.cell? ⟨w.heap.size, 1, none⟩ = some (.int .u64 0) := k1.cell 1
      have f1 := k1.frozen 1
      have z2 : w.heap.size < w2.heap.size := by have := hg2.size; (try simp only [World.size_alloc] at this); omega
      have n1 : w.heap.size ≠ w2.heap.size := by omega
      have hgg := (only_of_alloc hg1).trans hg2
      clear k0 k1
      go_wp2_with fail
      refine bodyPost_ret (by simp [results, Try.results76, go_sem, q0, q1, n1, z2]; rfl) rfl ?_
      refine rreads_ok Hs.out ⟨rfl, ?_, only_new (only_new (hgg) (Nat.le_refl _) _) (Nat.le_refl _) _⟩
      rw [← Nat.add_assoc]
      exact RR.off Hh.out (RR.off Hh.out (hr2) (Nat.le_refl _) _) (Nat.le_refl _) _

end Go.Proofs.Ytgmienlifnpniaa
