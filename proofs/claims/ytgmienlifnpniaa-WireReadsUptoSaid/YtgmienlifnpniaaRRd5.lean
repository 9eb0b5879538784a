/- The reference's reader: Frac (printed by gen_rfrac.py). -/
import Derived.Test.YtgmienlifnpniaaRRd4
import Derived.Test.YtgmienlifnpniaaRdFrac
import Derived.Test.YtgmienlifnpniaaPlain
namespace Go.Proofs.Ytgmienlifnpniaa
open Go.RowKit
set_option linter.unusedSimpArgs false

set_option maxRecDepth 100000 in
set_option maxHeartbeats 8000000 in
theorem rfracR_any {w : World} {B g c a : Nat} {A : Option Addr} {l : List UInt8} (h : RR w B g A c l a) :
    Calls Try.prog 78 #[.pointer (some ⟨g, 0, none⟩)] w (RReads (fun x : ((Bool × ByteArray) × (Bool × ByteArray)) => .agg #[.bool x.1.1, .string x.1.2, .bool x.2.1, .string x.2.2]) (.agg #[.bool false, .string ⟨#[]⟩, .bool false, .string ⟨#[]⟩]) (Wire.frac (l.drop a)) w B g A c l a) := by
  have h2 := h.alloc (.cells #[.bool false, .string ⟨#[]⟩, .bool false, .string ⟨#[]⟩] 30)
  have hB0 := Blk.new w 30 #[.bool false, .string ⟨#[]⟩, .bool false, .string ⟨#[]⟩]
  have c1 := h2.c1
  have hle := h.le
  have hgl := h.lt
  have hne0 : some w.heap.size ≠ some g := fun e => by have := Option.some.inj e; omega
  have ng : w.heap.size ≠ g := by omega
  have HB0 := Lib.hid hB0
  have Hh := Lib.hid h
  have ga : ∀ {wa : World}, (w.alloc (.cells #[.bool false, .string ⟨#[]⟩, .bool false, .string ⟨#[]⟩] 30)).grownBy wa (some g) → w.heap.size < wa.heap.size := fun h => by have := h.size; simp only [World.size_alloc] at this; omega
  cases hn : Wire.whole (l.drop a) with
  | err k =>
    have Hs := Lib.hid (show Wire.frac (l.drop a) = .err k by unfold Wire.frac; rw [Wire.both1 hn])
    have H1 := Lib.hid ((rwholeR_any h2).mono fun e w' hh => rreads_err' hn hh)
    have hc := ne_code (Wire.whole_err hn)
    clear hn h h2 hB0
    go_enter Try.func78, Try.ntmps78
    go_wp2_with fail
    refine H1.out.mono ?_
    rintro e w1 ⟨rfl, hr1, hg1⟩
    have k0 := HB0.out.grown hg1 hne0
    have q0 : w1.cell? ⟨w.heap.size, 0, none⟩ = some (.bool false) := k0.cell 0
    have f0 := k0.frozen 0
    have q1 : w1.cell? ⟨w.heap.size, 1, none⟩ = some (.string ⟨#[]⟩) := k0.cell 1
    have f1 := k0.frozen 1
    have q2 : w1.cell? ⟨w.heap.size, 2, none⟩ = some (.bool false) := k0.cell 2
    have f2 := k0.frozen 2
    have q3 : w1.cell? ⟨w.heap.size, 3, none⟩ = some (.string ⟨#[]⟩) := k0.cell 3
    have f3 := k0.frozen 3
    have z1 := ga hg1
    have n1 : w.heap.size ≠ w1.heap.size := by omega
    clear k0
    go_wp2_with fail
    refine bodyPost_ret (by simp [results, Try.results78, go_sem, q0, q1, q2, q3, n1, z1]; rfl) rfl ?_
    exact rreads_err Hs.out ⟨rfl, (RR.off Hh.out (RR.off Hh.out (RR.off Hh.out (RR.off Hh.out (hr1) (Nat.le_refl _) _) (Nat.le_refl _) _) (Nat.le_refl _) _) (Nat.le_refl _) _).alloc _, only_alloc (only_new (only_new (only_new (only_new (only_of_alloc hg1) (Nat.le_refl _) _) (Nat.le_refl _) _) (Nat.le_refl _) _) (Nat.le_refl _) _) _⟩
  | ok x k =>
    obtain ⟨n1, s1⟩ := x
    have hdd : (l.drop a).drop k = l.drop (a + k) := by rw [List.drop_drop]
    have hs1 := Wire.whole_sz hn
    have H1 := Lib.hid ((rwholeR_any h2).mono fun e w' hh => rreads_ok' hn hh)
    cases hn2 : Wire.whole (l.drop (a + k)) with
    | err k1 =>
      have hc := ne_code (Wire.whole_err hn2)
      have hc2 : ((k1 : Int) == 0) = false := by simpa using hc
      have Hs := Lib.hid (show Wire.frac (l.drop a) = .err k1 by unfold Wire.frac; rw [Wire.both2 hn (by rw [hdd]; exact hn2)])
      have H2 := Lib.hid fun w' (h' : RR w' B g A c l (a + k)) => (rwholeR_any h').mono fun e w' hh => rreads_err' hn2 hh
      clear h h2 hB0 hn hn2 hdd
      go_enter Try.func78, Try.ntmps78
      go_wp2_with fail
      refine H1.out.mono ?_
      rintro e w1 ⟨rfl, hr1, hg1⟩
      have k0 := HB0.out.grown hg1 hne0
      have z1 := ga hg1
      go_wp2_with fail
      refine (H2.out _ (hr1.alloc (.cells #[.bool n1, .string s1] 28))).mono ?_
      rintro e w2 ⟨rfl, hr2, hg2⟩
      have k2 := (k0.alloc (.cells #[.bool n1, .string s1] 28)).grown hg2 hne0
      have kx := (Blk.new w1 28 #[.bool n1, .string s1]).grown hg2 (fun e => by have := Option.some.inj e; have := hr1.lt; omega)
      have hgg := (only_alloc (only_of_alloc hg1) (.cells #[.bool n1, .string s1] 28)).trans hg2
      have z2 : w1.heap.size < w2.heap.size := kx.lt
      have z3 : w.heap.size < w2.heap.size := by omega
      have n1' : w.heap.size ≠ w2.heap.size := by omega
      have n2' : w.heap.size ≠ w2.heap.size + 1 := by omega
      have t0 : w2.cell? ⟨w1.heap.size, 0, none⟩ = some (.bool n1) := kx.cell 0
      have t1 : w2.cell? ⟨w1.heap.size, 1, none⟩ = some (.string s1) := kx.cell 1
      have f1' := hr2.f1
      have c1' := hr2.c1
      have hgl2 := hr2.lt
      have n3' : g ≠ w2.heap.size := by omega
      have n4' : g ≠ w2.heap.size + 1 := by omega
      clear k0 kx hr1 hg1 hg2
      have q0 : w2.cell? ⟨w.heap.size, 0, none⟩ = some (.bool false) := k2.cell 0
      have f0 := k2.frozen 0
      have q1 : w2.cell? ⟨w.heap.size, 1, none⟩ = some (.string ⟨#[]⟩) := k2.cell 1
      have f1 := k2.frozen 1
      have q2 : w2.cell? ⟨w.heap.size, 2, none⟩ = some (.bool false) := k2.cell 2
      have f2 := k2.frozen 2
      have q3 : w2.cell? ⟨w.heap.size, 3, none⟩ = some (.string ⟨#[]⟩) := k2.cell 3
      have f3 := k2.frozen 3
      clear k2
      go_wp2_with fail
      refine bodyPost_ret (by simp [results, Try.results78, go_sem, q0, q1, q2, q3, n1', n2', z3, ng]; rfl) rfl ?_
      exact rreads_err Hs.out ⟨rfl, ((RR.off Hh.out (RR.off Hh.out (RR.off Hh.out (RR.off Hh.out (hr2.go a hle) (Nat.le_refl _) _) (Nat.le_refl _) _) (Nat.le_refl _) _) (Nat.le_refl _) _).alloc _).alloc _, only_alloc (only_alloc (only_new (only_new (only_new (only_new (only_setCell (p := ⟨g, 1, none⟩) hgg (.inl rfl) _) (Nat.le_refl _) _) (Nat.le_refl _) _) (Nat.le_refl _) _) (Nat.le_refl _) _) _) _⟩
    | ok y k2 =>
      obtain ⟨n2, s2⟩ := y
      have hs2 := Wire.whole_sz hn2
      have Hs0 := Lib.hid (show Wire.frac (l.drop a) = if Wire.fracP n1 s1 n2 s2 = true then .ok ((n1, s1), (n2, s2)) (k + k2) else .err 111 by unfold Wire.frac; rw [Wire.both3 hn (by rw [hdd]; exact hn2)])
      have H2 := Lib.hid fun w' (h' : RR w' B g A c l (a + k)) => (rwholeR_any h').mono fun e w' hh => rreads_ok' hn2 hh
      have HP := Lib.hid (fun w => rfrac_any n1 s1 n2 s2 w (by omega) (by omega))
      clear h h2 hB0 hn hn2 hdd
      go_enter Try.func78, Try.ntmps78
      go_wp2_with fail
      refine H1.out.mono ?_
      rintro e w1 ⟨rfl, hr1, hg1⟩
      have k0 := HB0.out.grown hg1 hne0
      have z1 := ga hg1
      go_wp2_with fail
      refine (H2.out _ (hr1.alloc (.cells #[.bool n1, .string s1] 28))).mono ?_
      rintro e w2 ⟨rfl, hr2, hg2⟩
      have kk2 := (k0.alloc (.cells #[.bool n1, .string s1] 28)).grown hg2 hne0
      have kx := (Blk.new w1 28 #[.bool n1, .string s1]).grown hg2 (fun e => by have := Option.some.inj e; have := hr1.lt; omega)
      have hgg := (only_alloc (only_of_alloc hg1) (.cells #[.bool n1, .string s1] 28)).trans hg2
      have z2 : w1.heap.size < w2.heap.size := kx.lt
      have z3 : w.heap.size < w2.heap.size := by omega
      have n1' : w.heap.size ≠ w2.heap.size := by omega
      have n2' : w.heap.size ≠ w2.heap.size + 1 := by omega
      have t0 : w2.cell? ⟨w1.heap.size, 0, none⟩ = some (.bool n1) := kx.cell 0
      have t1 : w2.cell? ⟨w1.heap.size, 1, none⟩ = some (.string s1) := kx.cell 1
      have f1' := hr2.f1
      have c1' := hr2.c1
      have hgl2 := hr2.lt
      have n3' : g ≠ w2.heap.size := by omega
      have n4' : g ≠ w2.heap.size + 1 := by omega
      clear k0 kx hr1 hg1 hg2
      go_wp2_with fail
      refine (HP.out _).mono ?_
      rintro e w3 ⟨rfl, hb3⟩
      have k4 := ((kk2.alloc (.cells #[.bool n2, .string s2] 28)).alloc (.cells #[.bool n1, .string s1, .bool n2, .string s2] 30)).below hb3 (by simp only [World.size_alloc]; omega)
      have kz := (Blk.new (w2.alloc (.cells #[.bool n2, .string s2] 28)) 30 #[.bool n1, .string s1, .bool n2, .string s2]).below hb3 (by simp only [World.size_alloc]; omega)
      rw [World.size_alloc] at kz
      have hr3 := ((hr2.alloc (.cells #[.bool n2, .string s2] 28)).alloc (.cells #[.bool n1, .string s1, .bool n2, .string s2] 30)).kept hb3
      have hg3 := (only_alloc (only_alloc hgg (.cells #[.bool n2, .string s2] 28)) (.cells #[.bool n1, .string s1, .bool n2, .string s2] 30)).trans (only_of_below hb3 (some g))
      have q0 : w3.cell? ⟨w.heap.size, 0, none⟩ = some (.bool false) := k4.cell 0
      have f0 := k4.frozen 0
      have q1 : w3.cell? ⟨w.heap.size, 1, none⟩ = some (.string ⟨#[]⟩) := k4.cell 1
      have f1 := k4.frozen 1
      have q2 : w3.cell? ⟨w.heap.size, 2, none⟩ = some (.bool false) := k4.cell 2
      have f2 := k4.frozen 2
      have q3 : w3.cell? ⟨w.heap.size, 3, none⟩ = some (.string ⟨#[]⟩) := k4.cell 3
      have f3 := k4.frozen 3
      have u0 : w3.cell? ⟨w2.heap.size + 1, 0, none⟩ = some (.bool n1) := kz.cell 0
      have u1 : w3.cell? ⟨w2.heap.size + 1, 1, none⟩ = some (.string s1) := kz.cell 1
      have u2 : w3.cell? ⟨w2.heap.size + 1, 2, none⟩ = some (.bool n2) := kz.cell 2
      have u3 : w3.cell? ⟨w2.heap.size + 1, 3, none⟩ = some (.string s2) := kz.cell 3
      clear f1' c1'
      have f1' := hr3.f1
      have c1' := hr3.c1
      clear k4 kz kk2 hb3 hgg hr2
      cases hp : Wire.fracP n1 s1 n2 s2 with
      | false =>
        have Hs := Lib.hid (show Wire.frac (l.drop a) = .err 111 by rw [Hs0.out, hp]; rfl)
        clear hp
        go_wp2_with fail
        refine bodyPost_ret (by simp [results, Try.results78, go_sem, q0, q1, q2, q3, ng]; rfl) rfl ?_
        exact rreads_err Hs.out ⟨rfl, RR.off Hh.out (RR.off Hh.out (RR.off Hh.out (RR.off Hh.out (hr3.go a hle) (Nat.le_refl _) _) (Nat.le_refl _) _) (Nat.le_refl _) _) (Nat.le_refl _) _, only_new (only_new (only_new (only_new (only_setCell (p := ⟨g, 1, none⟩) hg3 (.inl rfl) _) (Nat.le_refl _) _) (Nat.le_refl _) _) (Nat.le_refl _) _) (Nat.le_refl _) _⟩
      | true =>
        have Hs := Lib.hid (show Wire.frac (l.drop a) = .ok ((n1, s1), (n2, s2)) (k + k2) by rw [Hs0.out, hp]; rfl)
        clear hp
        go_wp2_with fail
        refine bodyPost_ret (by simp [results, Try.results78, go_sem, q0, q1, q2, q3]; rfl) rfl ?_
        refine rreads_ok Hs.out ⟨rfl, ?_, only_new (only_new (only_new (only_new (hg3) (Nat.le_refl _) _) (Nat.le_refl _) _) (Nat.le_refl _) _) (Nat.le_refl _) _⟩
        rw [← Nat.add_assoc]
        exact RR.off Hh.out (RR.off Hh.out (RR.off Hh.out (RR.off Hh.out (hr3) (Nat.le_refl _) _) (Nat.le_refl _) _) (Nat.le_refl _) _) (Nat.le_refl _) _
end Go.Proofs.Ytgmienlifnpniaa
