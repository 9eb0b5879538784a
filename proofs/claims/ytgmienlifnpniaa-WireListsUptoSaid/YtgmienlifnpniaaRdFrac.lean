/- (*Reader).Frac. -/
import Derived.Test.YtgmienlifnpniaaRdBothW
import Derived.Test.YtgmienlifnpniaaFrac
namespace Go.Proofs.Ytgmienlifnpniaa
open Go.RowKit
set_option linter.unusedSimpArgs false
namespace Wire
/-- a fraction -/
def frac (r : List UInt8) : Res ((Bool × ByteArray) × (Bool × ByteArray)) :=
  match both whole r with
  | .err c => .err c
  | .ok x k => if fracP x.1.1 x.1.2 x.2.1 x.2.2 = true then .ok x k else .err 111
theorem frac_err {r : List UInt8} {c : Nat} (h : frac r = .err c) : c ≠ 0 := by
  unfold frac at h
  split at h
  · rename_i hn
    injection h with h
    subst h
    exact both_err whole_err hn
  · split at h
    · cases h
    · injection h with h; omega
theorem whole_sz {r : List UInt8} {n : Bool} {s : ByteArray} {k : Nat} (h : whole r = .ok (n, s) k) : s.size ≤ 16384 := by
  unfold whole at h
  split at h
  · cases h
  · split at h
    · cases h
    · split at h
      · cases h
      · split at h
        · rename_i hp
          injection h with h h'
          injection h with h1 h2
          subst h2
          exact plain_len (s := ⟨(List.take _ (List.drop _ r)).toArray⟩) hp
        · cases h
theorem both_whole_sz {r : List UInt8} {n1 n2 : Bool} {s1 s2 : ByteArray} {k : Nat} (h : both whole r = .ok ((n1, s1), (n2, s2)) k) : s1.size ≤ 16384 ∧ s2.size ≤ 16384 := by
  unfold both at h
  split at h
  · cases h
  · rename_i h1
    split at h
    · cases h
    · rename_i h2
      injection h with h h'
      injection h with ha hb
      subst ha hb
      exact ⟨whole_sz h1, whole_sz h2⟩
end Wire

set_option maxRecDepth 100000 in
set_option maxHeartbeats 8000000 in
theorem frac1_any {w : World} {B g bx : Nat} {v : Value} {l : List UInt8} {a : Nat} (h : Rd w B g v l a) (hbx : Blk w bx 61 #[.pointer (some ⟨g, 0, none⟩)]) :
    Calls Try.prog 91 #[.pointer (some ⟨bx, 0, none⟩)] w
      (WithinV (fun x : ((Bool × ByteArray) × (Bool × ByteArray)) => .agg #[.bool x.1.1, .string x.1.2, .bool x.2.1, .string x.2.2]) (Wire.frac (l.drop a)) w B g v l a) := by
  have h2 := h.alloc (.cells #[.bool false, .string ⟨#[]⟩, .bool false, .string ⟨#[]⟩] 30)
  have hB0 := Blk.new w 30 #[.bool false, .string ⟨#[]⟩, .bool false, .string ⟨#[]⟩]
  have HT := both_WW h2
  have cx := hbx.cell 0
  have lx := hbx.lt
  have hgl := h.lt
  have hne0 : some w.heap.size ≠ some g := fun e => by have := Option.some.inj e; omega
  have ga : ∀ {wa : World}, (w.alloc (.cells #[.bool false, .string ⟨#[]⟩, .bool false, .string ⟨#[]⟩] 30)).grownBy wa (some g) → w.heap.size + 1 ≤ wa.heap.size := fun h => by have := h.size; simp only [World.size_alloc] at this; omega
  have n3 : w.heap.size ≠ g := by omega
  have n6 : bx ≠ w.heap.size := by omega
  have HB0 := Lib.hid hB0
  have Hh := Lib.hid h
  cases hn : Wire.both Wire.whole (l.drop a) with
  | err c =>
    have Hs := Lib.hid (show Wire.frac (l.drop a) = .err c by unfold Wire.frac; rw [hn])
    have hc := ne_code (Wire.both_err Wire.whole_err hn)
    have hc2 : ((c : Int) == 0) = false := by simpa using hc
    have H1 := Lib.hid (HT.mono fun e w' hh => reads1_err' hn hh)
    clear hn hbx h h2 hB0 HT
    go_enter Try.func91, Try.ntmps91
    go_wp2_with fail
    refine H1.out.mono ?_
    rintro e w1 ⟨rfl, hr1, hg1⟩
    have k0 := HB0.out.grown hg1 hne0
    have q0 : w1.cell? ⟨w.heap.size, 0, none⟩ = some (.bool false) := k0.cell 0
    have q1 : w1.cell? ⟨w.heap.size, 1, none⟩ = some (.string ⟨#[]⟩) := k0.cell 1
    have q2 : w1.cell? ⟨w.heap.size, 2, none⟩ = some (.bool false) := k0.cell 2
    have q3 : w1.cell? ⟨w.heap.size, 3, none⟩ = some (.string ⟨#[]⟩) := k0.cell 3
    have f0 := k0.frozen 0
    have f1 := k0.frozen 1
    have f2 := k0.frozen 2
    have f3 := k0.frozen 3
    have z1 := ga hg1
    have j1 : w.heap.size ≠ w1.heap.size := by omega
    have j2 : w.heap.size ≠ w1.heap.size + 1 := by omega
    have j3 : w.heap.size < w1.heap.size := by omega
    have j4 : w.heap.size < w1.heap.size + 1 := by omega
    clear k0 z1
    go_wp2_with fail
    refine bodyPost_ret (by simp [results, Try.results91, go_sem, q0, q1, q2, q3, j1, j2, j3, j4]; rfl) rfl ?_
    exact withinv_err Hs.out ⟨((false, ⟨#[]⟩), (false, ⟨#[]⟩)), _, rfl, ((Rd.off Hh.out (Rd.off Hh.out (Rd.off Hh.out (Rd.off Hh.out (hr1) (Nat.le_refl _) _) (Nat.le_refl _) _) (Nat.le_refl _) _) (Nat.le_refl _) _).alloc _).alloc _, only_alloc (only_alloc (only_new (only_new (only_new (only_new (only_of_alloc hg1) (Nat.le_refl _) _) (Nat.le_refl _) _) (Nat.le_refl _) _) (Nat.le_refl _) _) _) _⟩
  | ok x k =>
    obtain ⟨⟨n1, s1⟩, ⟨n2, s2⟩⟩ := x
    obtain ⟨hs1, hs2⟩ := Wire.both_whole_sz hn
    have Hs0 := Lib.hid (show Wire.frac (l.drop a) = if Wire.fracP n1 s1 n2 s2 = true then .ok ((n1, s1), (n2, s2)) k else .err 111 by unfold Wire.frac; rw [hn])
    have H1 := Lib.hid (HT.mono fun e w' hh => reads1_ok' hn hh)
    have HP := Lib.hid (fun w => frac_any n1 s1 n2 s2 w (by omega) (by omega))
    clear hn hbx h h2 hB0 HT
    go_enter Try.func91, Try.ntmps91
    go_wp2_with fail
    refine H1.out.mono ?_
    rintro e w1 ⟨rfl, hr1, hg1⟩
    have k0 := HB0.out.grown hg1 hne0
    have z1 := ga hg1
    go_wp2_with fail
    refine (HP.out _).mono ?_
    rintro e w3 ⟨rfl, hb3⟩
    have k3 := ((k0.alloc (.cells #[.bool n1, .string s1, .bool n2, .string s2] 146)).alloc (.cells #[.bool n1, .string s1, .bool n2, .string s2] 30)).below hb3 (by simp only [World.size_alloc]; omega)
    have k4 := (Blk.new (w1.alloc (.cells #[.bool n1, .string s1, .bool n2, .string s2] 146)) 30 #[.bool n1, .string s1, .bool n2, .string s2]).below hb3 (by simp only [World.size_alloc]; omega)
    rw [World.size_alloc] at k4
    have hr3 := ((hr1.alloc _).alloc _).kept hb3
    have hg3 := (only_alloc (only_alloc (only_of_alloc hg1) (.cells #[.bool n1, .string s1, .bool n2, .string s2] 146)) (.cells #[.bool n1, .string s1, .bool n2, .string s2] 30)).trans (only_of_below hb3 (some g))
    have q0 : w3.cell? ⟨w.heap.size, 0, none⟩ = some (.bool false) := k3.cell 0
    have f0 := k3.frozen 0
    have q1 : w3.cell? ⟨w.heap.size, 1, none⟩ = some (.string ⟨#[]⟩) := k3.cell 1
    have f1 := k3.frozen 1
    have q2 : w3.cell? ⟨w.heap.size, 2, none⟩ = some (.bool false) := k3.cell 2
    have f2 := k3.frozen 2
    have q3 : w3.cell? ⟨w.heap.size, 3, none⟩ = some (.string ⟨#[]⟩) := k3.cell 3
    have f3 := k3.frozen 3
    have u0 : w3.cell? ⟨w1.heap.size + 1, 0, none⟩ = some (.bool n1) := k4.cell 0
    have u1 : w3.cell? ⟨w1.heap.size + 1, 1, none⟩ = some (.string s1) := k4.cell 1
    have u2 : w3.cell? ⟨w1.heap.size + 1, 2, none⟩ = some (.bool n2) := k4.cell 2
    have u3 : w3.cell? ⟨w1.heap.size + 1, 3, none⟩ = some (.string s2) := k4.cell 3
    clear k0 k3 k4 hb3 hr1 hg1 z1
    cases hp : Wire.fracP n1 s1 n2 s2 with
    | false =>
      have Hs := Lib.hid (show Wire.frac (l.drop a) = .err 111 by rw [Hs0.out, hp]; rfl)
      clear hp
      go_wp2_with fail
      refine bodyPost_ret (by simp [results, Try.results91, go_sem, q0, q1, q2, q3]; rfl) rfl ?_
      exact withinv_err Hs.out ⟨((n1, s1), (n2, s2)), _, rfl, Rd.off Hh.out (Rd.off Hh.out (Rd.off Hh.out (Rd.off Hh.out (hr3) (Nat.le_refl _) _) (Nat.le_refl _) _) (Nat.le_refl _) _) (Nat.le_refl _) _, only_new (only_new (only_new (only_new (hg3) (Nat.le_refl _) _) (Nat.le_refl _) _) (Nat.le_refl _) _) (Nat.le_refl _) _⟩
    | true =>
      have Hs := Lib.hid (show Wire.frac (l.drop a) = .ok ((n1, s1), (n2, s2)) k by rw [Hs0.out, hp]; rfl)
      clear hp
      go_wp2_with fail
      refine bodyPost_ret (by simp [results, Try.results91, go_sem, q0, q1, q2, q3]; rfl) rfl ?_
      exact withinv_ok Hs.out ⟨rfl, Rd.off Hh.out (Rd.off Hh.out (Rd.off Hh.out (Rd.off Hh.out (hr3) (Nat.le_refl _) _) (Nat.le_refl _) _) (Nat.le_refl _) _) (Nat.le_refl _) _, only_new (only_new (only_new (only_new (hg3) (Nat.le_refl _) _) (Nat.le_refl _) _) (Nat.le_refl _) _) (Nat.le_refl _) _⟩

set_option maxRecDepth 100000 in
set_option maxHeartbeats 8000000 in
theorem frac_rd {w : World} {B g : Nat} {v : Value} {l : List UInt8} {a : Nat} (h : Rd w B g v l a) :
    Calls Try.prog 70 #[.pointer (some ⟨g, 0, none⟩)] w (Reads1 (fun x : ((Bool × ByteArray) × (Bool × ByteArray)) => .agg #[.bool x.1.1, .string x.1.2, .bool x.2.1, .string x.2.2]) (.agg #[.bool false, .string ⟨#[]⟩, .bool false, .string ⟨#[]⟩]) (Wire.frac (l.drop a)) w B g v l a) := by
  have hmf : ∀ (fn : Fn) (first cap : Array Value) (w : World), (Instr.makeFunc fn first cap).run Try.prog w = .ok (.func fn first cap) w := fun _ _ _ _ => rfl
  have h2 := (h.alloc (.cells #[.pointer (some ⟨g, 0, none⟩)] 61)).alloc (.cells #[.bool false, .string ⟨#[]⟩, .bool false, .string ⟨#[]⟩] 30)
  have hb1 := (((Blk.new w 61 #[.pointer (some ⟨g, 0, none⟩)]).alloc (.cells #[.bool false, .string ⟨#[]⟩, .bool false, .string ⟨#[]⟩] 30)).alloc (.cells #[.bool false, .string ⟨#[]⟩, .bool false, .string ⟨#[]⟩] 30)).alloc (.cells #[.bool false, .string ⟨#[]⟩, .bool false, .string ⟨#[]⟩] 30)
  have hB0 := Blk.new (w.alloc (.cells #[.pointer (some ⟨g, 0, none⟩)] 61)) 30 #[.bool false, .string ⟨#[]⟩, .bool false, .string ⟨#[]⟩]
  have HT := tried_F (fun h => Wire.frac_err h) h2 (frac1_any ((h2.alloc _).alloc _) hb1)
  simp only [World.size_alloc] at hB0
  have hgl := h.lt
  have hne0 : some (w.heap.size + 1) ≠ some g := fun e => by have := Option.some.inj e; omega
  have HB0 := Lib.hid hB0
  have Hh := Lib.hid h
  cases hn : Wire.frac (l.drop a) with
  | err c =>
    have H1 := Lib.hid (HT.mono fun e w' hh => reads1_err' hn hh)
    clear hn h h2 hb1 HT hB0
    go_enter Try.func70, Try.ntmps70
    go_wp2_with fail
    refine H1.out.mono ?_
    rintro e w1 ⟨rfl, hr1, hg1⟩
    have k0 := HB0.out.grown hg1 hne0
    have q0 : w1.cell? ⟨w.heap.size + 1, 0, none⟩ = some (.bool false) := k0.cell 0
    have f0 := k0.frozen 0
    have q1 : w1.cell? ⟨w.heap.size + 1, 1, none⟩ = some (.string ⟨#[]⟩) := k0.cell 1
    have f1 := k0.frozen 1
    have q2 : w1.cell? ⟨w.heap.size + 1, 2, none⟩ = some (.bool false) := k0.cell 2
    have f2 := k0.frozen 2
    have q3 : w1.cell? ⟨w.heap.size + 1, 3, none⟩ = some (.string ⟨#[]⟩) := k0.cell 3
    have f3 := k0.frozen 3
    clear k0
    go_wp2_with fail
    refine bodyPost_ret (by simp [results, Try.results70, go_sem, q0, q1, q2, q3]; rfl) rfl ?_
    refine reads1_err rfl ⟨rfl, Rd.off Hh.out (Rd.off Hh.out (Rd.off Hh.out (Rd.off Hh.out (hr1) (Nat.le_succ _) _) (Nat.le_succ _) _) (Nat.le_succ _) _) (Nat.le_succ _) _, only_new (only_new (only_new (only_new (only_of_alloc (only_of_alloc hg1)) (Nat.le_succ _) _) (Nat.le_succ _) _) (Nat.le_succ _) _) (Nat.le_succ _) _⟩
  | ok x k =>
    obtain ⟨⟨xun, xus⟩, ⟨xdn, xds⟩⟩ := x
    have H1 := Lib.hid (HT.mono fun e w' hh => reads1_ok' hn hh)
    clear hn h h2 hb1 HT hB0
    go_enter Try.func70, Try.ntmps70
    go_wp2_with fail
    refine H1.out.mono ?_
    rintro e w1 ⟨rfl, hr1, hg1⟩
    have k0 := HB0.out.grown hg1 hne0
    have q0 : w1.cell? ⟨w.heap.size + 1, 0, none⟩ = some (.bool false) := k0.cell 0
    have f0 := k0.frozen 0
    have q1 : w1.cell? ⟨w.heap.size + 1, 1, none⟩ = some (.string ⟨#[]⟩) := k0.cell 1
    have f1 := k0.frozen 1
    have q2 : w1.cell? ⟨w.heap.size + 1, 2, none⟩ = some (.bool false) := k0.cell 2
    have f2 := k0.frozen 2
    have q3 : w1.cell? ⟨w.heap.size + 1, 3, none⟩ = some (.string ⟨#[]⟩) := k0.cell 3
    have f3 := k0.frozen 3
    clear k0
    go_wp2_with fail
    refine bodyPost_ret (by simp [results, Try.results70, go_sem, q0, q1, q2, q3]; rfl) rfl ?_
    refine reads1_ok rfl ⟨rfl, Rd.off Hh.out (Rd.off Hh.out (Rd.off Hh.out (Rd.off Hh.out (hr1) (Nat.le_succ _) _) (Nat.le_succ _) _) (Nat.le_succ _) _) (Nat.le_succ _) _, only_new (only_new (only_new (only_new (only_of_alloc (only_of_alloc hg1)) (Nat.le_succ _) _) (Nat.le_succ _) _) (Nat.le_succ _) _) (Nat.le_succ _) _⟩

end Go.Proofs.Ytgmienlifnpniaa
