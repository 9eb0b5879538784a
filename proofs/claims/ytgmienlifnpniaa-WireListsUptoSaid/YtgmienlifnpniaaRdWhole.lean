/- (*Reader).Whole. -/
import Derived.Test.YtgmienlifnpniaaRdTried
namespace Go.Proofs.Ytgmienlifnpniaa
open Go.RowKit
set_option linter.unusedSimpArgs false
namespace Wire
/-- a whole number -/
def whole (r : List UInt8) : Res (Bool × ByteArray) :=
  match num r with
  | .err c => .err c
  | .ok n k => if 16384 < n / 2 then .err 111 else if r.length - k < n / 2 then .err 110 else
    if plainW 16384 (decide (n % 2 = 1)) ((r.drop k).take (n / 2)) = true then .ok (decide (n % 2 = 1), ⟨((r.drop k).take (n / 2)).toArray⟩) (k + n / 2) else .err 111
theorem whole_err {r : List UInt8} {c : Nat} (h : whole r = .err c) : c ≠ 0 := by
  unfold whole at h
  split at h
  · rename_i hn
    injection h with h
    subst h
    rcases numGo_err _ _ _ _ _ hn with rfl | rfl <;> omega
  · split at h
    · injection h with h; omega
    · split at h
      · injection h with h; omega
      · split at h
        · cases h
        · injection h with h; omega
end Wire
abbrev valW : Bool × ByteArray → Value := fun x => .agg #[.bool x.1, .string x.2]

set_option maxRecDepth 100000 in
set_option maxHeartbeats 4000000 in
theorem whole1_any {w : World} {B g bx : Nat} {v : Value} {l : List UInt8} {a : Nat} (h : Rd w B g v l a) (hbx : Blk w bx 61 #[.pointer (some ⟨g, 0, none⟩)]) :
    Calls Try.prog 84 #[.pointer (some ⟨bx, 0, none⟩)] w (WithinV valW (Wire.whole (l.drop a)) w B g v l a) := by
  have h2 := h.alloc (.cells #[.bool false, .string ⟨#[]⟩] 28)
  have hbx2 := hbx.alloc (.cells #[.bool false, .string ⟨#[]⟩] 28)
  have hB0 := Blk.new w 28 #[.bool false, .string ⟨#[]⟩]
  have cx := hbx.cell 0
  have lx := hbx.lt
  have hxg := rd_ne h hbx (by decide) (by decide)
  have hgl := h.lt
  have hne0 : some w.heap.size ≠ some g := fun e => by have := Option.some.inj e; omega
  have hnex : some bx ≠ some g := fun e => by have := Option.some.inj e; omega
  have ga : ∀ {wa : World}, (w.alloc (.cells #[.bool false, .string ⟨#[]⟩] 28)).grownBy wa (some g) → w.heap.size + 1 ≤ wa.heap.size := fun h => by have := h.size; simp only [World.size_alloc] at this; omega
  have n3 : w.heap.size ≠ g := by omega
  have n6 : bx ≠ w.heap.size := by omega
  have HB0 := Lib.hid hB0
  have Hx := Lib.hid hbx2
  have Hh := Lib.hid h
  cases hn : Wire.num (l.drop a) with
  | err c =>
    have Hs := Lib.hid (show Wire.whole (l.drop a) = .err c by unfold Wire.whole; rw [hn])
    have H1 := Lib.hid (number_err h2 hn)
    have hc := Wire.numGo_err _ _ _ _ _ hn
    clear hn hbx hbx2 h h2 hB0
    go_enter Try.func84, Try.ntmps84
    go_wp2_with fail
    refine H1.out.mono ?_
    rintro e w1 ⟨rfl, hr1, hg1⟩
    have k0 := HB0.out.grown hg1 hne0
    have q0 : w1.cell? ⟨w.heap.size, 0, none⟩ = some (.bool false) := k0.cell 0
    have q1 : w1.cell? ⟨w.heap.size, 1, none⟩ = some (.string ⟨#[]⟩) := k0.cell 1
    have f0 := k0.frozen 0
    have f1 := k0.frozen 1
    clear k0
    rcases hc with rfl | rfl
    all_goals
      go_wp2_with fail
      refine bodyPost_ret (by simp [results, Try.results84, go_sem, q0, q1]; rfl) rfl ?_
      exact withinv_err Hs.out ⟨(false, ⟨#[]⟩), _, rfl, Rd.off Hh.out (Rd.off Hh.out hr1 (Nat.le_refl _) _) (Nat.le_refl _) _, only_new (only_new (only_of_alloc hg1) (Nat.le_refl _) _) (Nat.le_refl _) _⟩
  | ok n k =>
    have H1 := Lib.hid (number_ok h2 hn)
    obtain ⟨hn1, hn2, hn3⟩ := Wire.num_bd hn
    have hk : (l.drop a).length = l.length - a := List.length_drop
    have hd := Lib.hid (show ((n : Int) / 2) = ((n / 2 : Nat) : Int) by simp)
    obtain ⟨neg, hneg, hneg2⟩ : ∃ neg, ((bits .and .u64 (n : Int) 1 == 1) = neg) ∧ decide (n % 2 = 1) = neg := by
      refine ⟨_, rfl, ?_⟩
      rw [and_one_u64 _ (by omega) (by omega)]
      rw [Bool.eq_iff_iff]
      simp
      omega
    by_cases h3 : 16384 < n / 2
    · have Hs := Lib.hid (show Wire.whole (l.drop a) = .err 111 by unfold Wire.whole; rw [hn]; exact if_pos h3)
      clear hn hbx hbx2 h h2 hB0 hn3
      go_enter Try.func84, Try.ntmps84
      go_wp2_with fail
      refine H1.out.mono ?_
      rintro e w1 ⟨rfl, hr1, hg1⟩
      have k0 := HB0.out.grown hg1 hne0
      have q0 : w1.cell? ⟨w.heap.size, 0, none⟩ = some (.bool false) := k0.cell 0
      have q1 : w1.cell? ⟨w.heap.size, 1, none⟩ = some (.string ⟨#[]⟩) := k0.cell 1
      have f0 := k0.frozen 0
      have f1 := k0.frozen 1
      clear k0
      go_wp2_with fail
      refine bodyPost_ret (by simp [results, Try.results84, go_sem, q0, q1]; rfl) rfl ?_
      exact withinv_err Hs.out ⟨(false, ⟨#[]⟩), _, rfl, Rd.off Hh.out (Rd.off Hh.out hr1 (Nat.le_refl _) _) (Nat.le_refl _) _, only_new (only_new (only_of_alloc hg1) (Nat.le_refl _) _) (Nat.le_refl _) _⟩
    · by_cases h4 : (l.drop a).length - k < n / 2
      · have Hs := Lib.hid (show Wire.whole (l.drop a) = .err 110 by unfold Wire.whole; rw [hn]; simp only; rw [if_neg h3, if_pos h4])
        have H5 : ((l.length - (a + k) : Nat) : Int) < ((n : Int) / 2) := by omega
        have H6 : ((n : Int) / 2) < 18446744073709551616 := by omega
        have h7 : decide (16384 < (n : Int) / 2) = false := by simp; omega
        have HYh := Lib.hid (show ∀ (w1 : World), Rd w1 B g v l (a + k) → Calls Try.prog 68 #[.pointer (some ⟨g, 0, none⟩), .int .u64 ((n : Int) / 2)] w1 fun e w' => e = .returned (.tuple #[.string ⟨#[]⟩, .int .i64 110]) ∧ Rd w' B g v l (a + k) ∧ w1.grownBy w' (some g) from
          fun w1 hr1 => (bytes_no hr1 _ H5 H6).mono (by rintro e w2 ⟨rfl, kq, rfl⟩; exact ⟨rfl, hr1.drewN _, only_drewN (World.grownBy.refl w1 _) _⟩))
        clear hn hbx hbx2 h h2 hB0 hn3 h4 h3 hk hneg2 H5 H6
        go_enter Try.func84, Try.ntmps84
        go_wp2_with fail
        refine H1.out.mono ?_
        rintro e w1 ⟨rfl, hr1, hg1⟩
        have k0 := HB0.out.grown hg1 hne0
        have cx1 := (Hx.out.grown hg1 hnex).cell 0
        have z1 := ga hg1
        go_wp2_with fail
        refine (HYh.out _ hr1).mono ?_
        rintro e w2 ⟨rfl, hr2, hg2⟩
        have z2 := hg2.size
        have k2 := k0.grown hg2 hne0
        have q0 : w2.cell? ⟨w.heap.size, 0, none⟩ = some (.bool false) := k2.cell 0
        have q1 : w2.cell? ⟨w.heap.size, 1, none⟩ = some (.string ⟨#[]⟩) := k2.cell 1
        have f0 := k2.frozen 0
        have f1 := k2.frozen 1
        have n1 : w.heap.size ≠ w2.heap.size := by omega
        have z4 : w.heap.size < w2.heap.size := by omega
        clear k0 k2
        go_wp2_with fail
        refine bodyPost_ret (by simp [results, Try.results84, go_sem, q0, q1, n1, z4]; rfl) rfl ?_
        exact withinv_err Hs.out ⟨(neg, ⟨#[]⟩), _, rfl, (Rd.off Hh.out (Rd.off Hh.out hr2 (Nat.le_refl _) _) (Nat.le_refl _) _).alloc _, only_alloc (only_new (only_new (only_of_alloc (hg1.trans hg2)) (Nat.le_refl _) _) (Nat.le_refl _) _) _⟩
      · have Hs0 := Lib.hid (show Wire.whole (l.drop a) = if Wire.plainW 16384 neg (((l.drop a).drop k).take (n / 2)) = true then .ok (neg, ⟨(((l.drop a).drop k).take (n / 2)).toArray⟩) (k + n / 2) else .err 111 by unfold Wire.whole; rw [hn]; simp only; rw [if_neg h3, if_neg h4, hneg2])
        have H5 := Lib.hid (show n / 2 ≤ l.length - (a + k) by omega)
        have h7 : decide (16384 < (n : Int) / 2) = false := by simp; omega
        have hd2 : (l.drop a).drop k = l.drop (a + k) := List.drop_drop
        rw [hd2] at Hs0
        obtain ⟨s, hs⟩ : ∃ s : ByteArray, s = ⟨((l.drop (a + k)).take (n / 2)).toArray⟩ := ⟨_, rfl⟩
        have hs1 : s.size = n / 2 := by subst hs; show (List.toArray _).size = _; simp; omega
        have hs2 : (l.drop (a + k)).take (n / 2) = s.data.toList := by subst hs; rfl
        rw [← hs, hs2] at Hs0
        have HY : ∀ (w1 : World), Rd w1 B g v l (a + k) → Calls Try.prog 68 #[.pointer (some ⟨g, 0, none⟩), .int .u64 ((n : Int) / 2)] w1 fun e w' => e = .returned (.tuple #[.string s, .int .i64 0]) ∧ Rd w' B g v l (a + k + n / 2) ∧ w1.grownBy w' (some g) := by
          intro w1 hr1
          rw [hd.out, hs]
          exact bytes_yes hr1 _ H5.out
        have HYh := Lib.hid HY
        cases hp : Wire.plainW 16384 neg s.data.toList with
        | false =>
          have Hs := Lib.hid (show Wire.whole (l.drop a) = .err 111 by rw [Hs0.out, hp]; rfl)
          have HP := Lib.hid (fun w => whole_any neg s 16384 w (by omega) (by omega) (by omega))
          have hp2 := Lib.hid hp
          clear hn hbx hbx2 h h2 hB0 hn3 h4 h3 hk hneg2 HY hs2 hp hs Hs0
          go_enter Try.func84, Try.ntmps84
          go_wp2_with fail
          refine H1.out.mono ?_
          rintro e w1 ⟨rfl, hr1, hg1⟩
          have k0 := HB0.out.grown hg1 hne0
          have cx1 := (Hx.out.grown hg1 hnex).cell 0
          have z1 := ga hg1
          go_wp2_with fail
          refine (HYh.out _ hr1).mono ?_
          rintro e w2 ⟨rfl, hr2, hg2⟩
          have z2 := hg2.size
          have k2 := k0.grown hg2 hne0
          have n1 : w.heap.size ≠ w2.heap.size := by omega
          have z4 : w.heap.size < w2.heap.size := by omega
          go_wp2_with fail
          refine (HP.out _).mono ?_
          rintro e w3 ⟨rfl, hb3⟩
          have k3 := (k2.alloc (.cells #[.bool neg, .string s] 28)).below hb3 (by rw [World.size_alloc]; omega)
          have k4 := (Blk.new w2 28 #[.bool neg, .string s]).below hb3 (by rw [World.size_alloc]; omega)
          have z5 := hb3.size
          rw [World.size_alloc] at z5
          have q0 : w3.cell? ⟨w.heap.size, 0, none⟩ = some (.bool false) := k3.cell 0
          have q1 : w3.cell? ⟨w.heap.size, 1, none⟩ = some (.string ⟨#[]⟩) := k3.cell 1
          have f0 := k3.frozen 0
          have f1 := k3.frozen 1
          have u0 : w3.cell? ⟨w2.heap.size, 0, none⟩ = some (.bool neg) := k4.cell 0
          have u1 : w3.cell? ⟨w2.heap.size, 1, none⟩ = some (.string s) := k4.cell 1
          clear k0 k2 k3 k4
          rw [show (16384 : Int).toNat = 16384 from rfl, hp2.out]
          go_wp2_with fail
          refine bodyPost_ret (by simp [results, Try.results84, go_sem, q0, q1, n1, z4]; rfl) rfl ?_
          refine withinv_err Hs.out ⟨(neg, s), a + k + n / 2, rfl, Rd.off Hh.out (Rd.off Hh.out ?_ (Nat.le_refl _) _) (Nat.le_refl _) _, only_new (only_new ?_ (Nat.le_refl _) _) (Nat.le_refl _) _⟩
          · exact (hr2.alloc _).kept hb3
          · exact (only_alloc (only_of_alloc (hg1.trans hg2)) _).trans (only_of_below hb3 _)
        | true =>
          have Hs := Lib.hid (show Wire.whole (l.drop a) = .ok (neg, s) (k + n / 2) by rw [Hs0.out, hp]; rfl)
          have HP := Lib.hid (fun w => whole_any neg s 16384 w (by omega) (by omega) (by omega))
          have hp2 := Lib.hid hp
          clear hn hbx hbx2 h h2 hB0 hn3 h4 h3 hk hneg2 HY hs2 hp hs Hs0
          go_enter Try.func84, Try.ntmps84
          go_wp2_with fail
          refine H1.out.mono ?_
          rintro e w1 ⟨rfl, hr1, hg1⟩
          have k0 := HB0.out.grown hg1 hne0
          have cx1 := (Hx.out.grown hg1 hnex).cell 0
          have z1 := ga hg1
          go_wp2_with fail
          refine (HYh.out _ hr1).mono ?_
          rintro e w2 ⟨rfl, hr2, hg2⟩
          have z2 := hg2.size
          have k2 := k0.grown hg2 hne0
          have n1 : w.heap.size ≠ w2.heap.size := by omega
          have z4 : w.heap.size < w2.heap.size := by omega
          go_wp2_with fail
          refine (HP.out _).mono ?_
          rintro e w3 ⟨rfl, hb3⟩
          have k3 := (k2.alloc (.cells #[.bool neg, .string s] 28)).below hb3 (by rw [World.size_alloc]; omega)
          have k4 := (Blk.new w2 28 #[.bool neg, .string s]).below hb3 (by rw [World.size_alloc]; omega)
          have z5 := hb3.size
          rw [World.size_alloc] at z5
          have q0 : w3.cell? ⟨w.heap.size, 0, none⟩ = some (.bool false) := k3.cell 0
          have q1 : w3.cell? ⟨w.heap.size, 1, none⟩ = some (.string ⟨#[]⟩) := k3.cell 1
          have f0 := k3.frozen 0
          have f1 := k3.frozen 1
          have u0 : w3.cell? ⟨w2.heap.size, 0, none⟩ = some (.bool neg) := k4.cell 0
          have u1 : w3.cell? ⟨w2.heap.size, 1, none⟩ = some (.string s) := k4.cell 1
          clear k0 k2 k3 k4
          rw [show (16384 : Int).toNat = 16384 from rfl, hp2.out]
          go_wp2_with fail
          refine bodyPost_ret (by simp [results, Try.results84, go_sem, q0, q1, n1, z4]; rfl) rfl ?_
          refine withinv_ok Hs.out ⟨rfl, Rd.off Hh.out (Rd.off Hh.out ?_ (Nat.le_refl _) _) (Nat.le_refl _) _, only_new (only_new ?_ (Nat.le_refl _) _) (Nat.le_refl _) _⟩
          · rw [← Nat.add_assoc]
            exact (hr2.alloc _).kept hb3
          · exact (only_alloc (only_of_alloc (hg1.trans hg2)) _).trans (only_of_below hb3 _)

set_option maxRecDepth 100000 in
set_option maxHeartbeats 8000000 in
theorem whole_rd {w : World} {B g : Nat} {v : Value} {l : List UInt8} {a : Nat} (h : Rd w B g v l a) :
    Calls Try.prog 52 #[.pointer (some ⟨g, 0, none⟩)] w (Reads1 (fun x : (Bool × ByteArray) => .agg #[.bool x.1, .string x.2]) (.agg #[.bool false, .string ⟨#[]⟩]) (Wire.whole (l.drop a)) w B g v l a) := by
  have hmf : ∀ (fn : Fn) (first cap : Array Value) (w : World), (Instr.makeFunc fn first cap).run Try.prog w = .ok (.func fn first cap) w := fun _ _ _ _ => rfl
  have h2 := (h.alloc (.cells #[.pointer (some ⟨g, 0, none⟩)] 61)).alloc (.cells #[.bool false, .string ⟨#[]⟩] 28)
  have hb1 := (((Blk.new w 61 #[.pointer (some ⟨g, 0, none⟩)]).alloc (.cells #[.bool false, .string ⟨#[]⟩] 28)).alloc (.cells #[.bool false, .string ⟨#[]⟩] 28)).alloc (.cells #[.bool false, .string ⟨#[]⟩] 28)
  have hB0 := Blk.new (w.alloc (.cells #[.pointer (some ⟨g, 0, none⟩)] 61)) 28 #[.bool false, .string ⟨#[]⟩]
  have HT := tried_W (fun h => Wire.whole_err h) h2 (whole1_any ((h2.alloc _).alloc _) hb1)
  simp only [World.size_alloc] at hB0
  have hgl := h.lt
  have hne0 : some (w.heap.size + 1) ≠ some g := fun e => by have := Option.some.inj e; omega
  have HB0 := Lib.hid hB0
  have Hh := Lib.hid h
  cases hn : Wire.whole (l.drop a) with
  | err c =>
    have H1 := Lib.hid (HT.mono fun e w' hh => reads1_err' hn hh)
    clear hn h h2 hb1 HT hB0
    go_enter Try.func52, Try.ntmps52
    go_wp2_with fail
    refine H1.out.mono ?_
    rintro e w1 ⟨rfl, hr1, hg1⟩
    have k0 := HB0.out.grown hg1 hne0
    have q0 : w1.cell? ⟨w.heap.size + 1, 0, none⟩ = some (.bool false) := k0.cell 0
    have f0 := k0.frozen 0
    have q1 : w1.cell? ⟨w.heap.size + 1, 1, none⟩ = some (.string ⟨#[]⟩) := k0.cell 1
    have f1 := k0.frozen 1
    clear k0
    go_wp2_with fail
    refine bodyPost_ret (by simp [results, Try.results52, go_sem, q0, q1]; rfl) rfl ?_
    refine reads1_err rfl ⟨rfl, Rd.off Hh.out (Rd.off Hh.out (hr1) (Nat.le_succ _) _) (Nat.le_succ _) _, only_new (only_new (only_of_alloc (only_of_alloc hg1)) (Nat.le_succ _) _) (Nat.le_succ _) _⟩
  | ok x k =>
    obtain ⟨xn, xs⟩ := x
    have H1 := Lib.hid (HT.mono fun e w' hh => reads1_ok' hn hh)
    clear hn h h2 hb1 HT hB0
    go_enter Try.func52, Try.ntmps52
    go_wp2_with fail
    refine H1.out.mono ?_
    rintro e w1 ⟨rfl, hr1, hg1⟩
    have k0 := HB0.out.grown hg1 hne0
    have q0 : w1.cell? ⟨w.heap.size + 1, 0, none⟩ = some (.bool false) := k0.cell 0
    have f0 := k0.frozen 0
    have q1 : w1.cell? ⟨w.heap.size + 1, 1, none⟩ = some (.string ⟨#[]⟩) := k0.cell 1
    have f1 := k0.frozen 1
    clear k0
    go_wp2_with fail
    refine bodyPost_ret (by simp [results, Try.results52, go_sem, q0, q1]; rfl) rfl ?_
    refine reads1_ok rfl ⟨rfl, Rd.off Hh.out (Rd.off Hh.out (hr1) (Nat.le_succ _) _) (Nat.le_succ _) _, only_new (only_new (only_of_alloc (only_of_alloc hg1)) (Nat.le_succ _) _) (Nat.le_succ _) _⟩

end Go.Proofs.Ytgmienlifnpniaa
