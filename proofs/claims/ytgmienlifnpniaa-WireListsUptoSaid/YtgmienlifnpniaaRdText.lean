/- (*Reader).Text. -/
import Derived.Test.YtgmienlifnpniaaRdNumber
namespace Go.Proofs.Ytgmienlifnpniaa
open Go.RowKit
namespace Wire
/-- a text, of at most so many bytes -/
def text (most : Int) (r : List UInt8) : Res (List UInt8) :=
  if most < 0 then .err 2 else
  match num r with
  | .err c => .err c
  | .ok n k => if most < (n : Int) then .err 3 else if r.length - k < n then .err 110 else .ok ((r.drop k).take n) (k + n)
end Wire

theorem number_err {w : World} {B g c : Nat} {v : Value} {l : List UInt8} {a : Nat} (h : Rd w B g v l a) (hn : Wire.num (l.drop a) = .err c) :
    Calls Try.prog 39 #[.pointer (some ⟨g, 0, none⟩)] w fun e w' => e = .returned (.tuple #[.int .u64 0, .int .i64 (c : Int)]) ∧ Rd w' B g v l a ∧ w.grownBy w' (some g) :=
  (number_any h).mono fun e w' hh => by unfold Reads1 at hh; rw [hn] at hh; exact hh
theorem number_ok {w : World} {B g n k : Nat} {v : Value} {l : List UInt8} {a : Nat} (h : Rd w B g v l a) (hn : Wire.num (l.drop a) = .ok n k) :
    Calls Try.prog 39 #[.pointer (some ⟨g, 0, none⟩)] w fun e w' => e = .returned (.tuple #[.int .u64 (n : Int), .int .i64 0]) ∧ Rd w' B g v l (a + k) ∧ w.grownBy w' (some g) :=
  (number_any h).mono fun e w' hh => by unfold Reads1 at hh; rw [hn] at hh; exact hh

/-- what the function within leaves -/
def Within {α : Type} (val : α → Value) (res : Wire.Res α) (w : World) (B g : Nat) (v : Value) (l : List UInt8) (a : Nat) (e : Ending) (w' : World) : Prop :=
  match res with
  | .err c => ∃ x a', e = .returned (.tuple #[x, .int .i64 (c : Int)]) ∧ Rd w' B g v l a' ∧ w.grownBy w' (some g)
  | .ok n k => e = .returned (.tuple #[val n, .int .i64 0]) ∧ Rd w' B g v l (a + k) ∧ w.grownBy w' (some g)

theorem Blk.keep1 {w w' : World} {b g : Nat} {t : TypeId} {u : Value} (h : Blk w b t #[u]) (hg : w.grownBy w' (some g)) (hne : b ≠ g) : w'.cell? ⟨b, 0, none⟩ = some u :=
  (h.grown hg (fun e => hne (Option.some.inj e))).cell 0

def strV (l : List UInt8) : Value := .string ⟨l.toArray⟩

theorem within_err {α : Type} {val : α → Value} {res : Wire.Res α} {w : World} {B g : Nat} {v : Value} {l : List UInt8} {a c : Nat} {e : Ending} {w' : World} (h : res = .err c)
    (h2 : ∃ x a', e = .returned (.tuple #[x, .int .i64 (c : Int)]) ∧ Rd w' B g v l a' ∧ w.grownBy w' (some g)) : Within val res w B g v l a e w' := by
  subst h; exact h2
theorem within_ok {α : Type} {val : α → Value} {res : Wire.Res α} {w : World} {B g : Nat} {v : Value} {l : List UInt8} {a n : Nat} {x : α} {e : Ending} {w' : World} (h : res = .ok x n)
    (h2 : e = .returned (.tuple #[val x, .int .i64 0]) ∧ Rd w' B g v l (a + n) ∧ w.grownBy w' (some g)) : Within val res w B g v l a e w' := by
  subst h; exact h2

set_option maxRecDepth 100000 in
set_option maxHeartbeats 1000000 in
theorem text1_any {w : World} {B g bx bm : Nat} {v : Value} {l : List UInt8} {a : Nat} {most : Int} (h : Rd w B g v l a) (hbx : Blk w bx 61 #[.pointer (some ⟨g, 0, none⟩)]) (hbm : Blk w bm 3 #[.int .i64 most])
    (hm : most < 9223372036854775808) :
    Calls Try.prog 67 #[.pointer (some ⟨bm, 0, none⟩), .pointer (some ⟨bx, 0, none⟩)] w (Within strV (Wire.text most (l.drop a)) w B g v l a) := by
  have cx := hbx.cell 0
  have cm := hbm.cell 0
  by_cases hneg : most < 0
  · have Hs := Lib.hid (show Wire.text most (l.drop a) = .err 2 from if_pos hneg)
    go_enter Try.func67, Try.ntmps67
    go_wp2
    go_ret2
    exact within_err Hs.out ⟨_, _, rfl, h, World.grownBy.refl w _⟩
  have hxg := Lib.hid (hbx.ne_ h.blk (by decide))
  have hmg := Lib.hid (hbm.ne_ h.blk (by decide))
  have hbx' := Lib.hid hbx
  have hbm' := Lib.hid hbm
  cases hn : Wire.num (l.drop a) with
  | err c =>
    have Hs := Lib.hid (show Wire.text most (l.drop a) = .err c by unfold Wire.text; rw [if_neg hneg, hn])
    have H1 := Lib.hid (number_err h hn)
    have hc := Wire.numGo_err _ _ _ _ _ hn
    clear hn hbx hbm
    go_enter Try.func67, Try.ntmps67
    rcases hc with rfl | rfl
    all_goals
      go_wp2_with (go_at_call 39; refine H1.out.mono ?_; rintro e w1 ⟨rfl, hr1, hg1⟩)
      go_ret2
      exact within_err Hs.out ⟨_, _, rfl, hr1, hg1⟩
  | ok n k =>
    have H1 := Lib.hid (number_ok h hn)
    obtain ⟨hn1, hn2, hn3⟩ := Wire.num_bd hn
    by_cases h3 : most < (n : Int)
    · have Hs := Lib.hid (show Wire.text most (l.drop a) = .err 3 by unfold Wire.text; rw [if_neg hneg, hn]; exact if_pos h3)
      clear hn hbx hbm hn3
      go_enter Try.func67, Try.ntmps67
      go_wp2_with (go_at_call 39; refine H1.out.mono ?_; rintro e w1 ⟨rfl, hr1, hg1⟩; have cx1 := hbx'.out.keep1 hg1 hxg.out; have cm1 := hbm'.out.keep1 hg1 hmg.out)
      go_ret2
      exact within_err Hs.out ⟨_, _, rfl, hr1, hg1⟩
    · have hk : (l.drop a).length = l.length - a := List.length_drop
      by_cases h4 : (l.drop a).length - k < n
      · have Hs := Lib.hid (show Wire.text most (l.drop a) = .err 110 by unfold Wire.text; rw [if_neg hneg, hn]; simp only; rw [if_neg h3, if_pos h4])
        have h5 : ((l.length - (a + k) : Nat) : Int) < (n : Int) := by omega
        have H5 := Lib.hid h5
        clear hn hbx hbm hn3 h4 h5
        go_enter Try.func67, Try.ntmps67
        go_wp2_with (first
          | (go_at_call 39; refine H1.out.mono ?_; rintro e w1 ⟨rfl, hr1, hg1⟩; have cx1 := hbx'.out.keep1 hg1 hxg.out; have cm1 := hbm'.out.keep1 hg1 hmg.out)
          | (go_at_call 68; refine (bytes_no hr1 _ H5.out (by omega)).mono ?_; rintro e w2 ⟨rfl, kq, rfl⟩))
        go_ret2
        exact within_err Hs.out ⟨_, _, rfl, hr1.drewN _, only_drewN hg1 _⟩
      · have Hs := Lib.hid (show Wire.text most (l.drop a) = .ok (((l.drop a).drop k).take n) (k + n) by unfold Wire.text; rw [if_neg hneg, hn]; simp only; rw [if_neg h3, if_neg h4])
        have h5 : n ≤ l.length - (a + k) := by omega
        have H5 := Lib.hid h5
        clear hn hbx hbm hn3 h4 h5
        go_enter Try.func67, Try.ntmps67
        go_wp2_with (first
          | (go_at_call 39; refine H1.out.mono ?_; rintro e w1 ⟨rfl, hr1, hg1⟩; have cx1 := hbx'.out.keep1 hg1 hxg.out; have cm1 := hbm'.out.keep1 hg1 hmg.out)
          | (go_at_call 68; refine (bytes_yes hr1 _ H5.out).mono ?_; rintro e w2 ⟨rfl, hr2, hg2⟩))
        go_ret2
        refine within_ok Hs.out ⟨?_, ?_, hg1.trans hg2⟩
        · rw [List.drop_drop]; rfl
        · rw [← Nat.add_assoc]; exact hr2

namespace Wire
theorem text_err {most : Int} {r : List UInt8} {c : Nat} (h : text most r = .err c) : c ≠ 0 := by
  unfold text at h
  split at h
  · injection h with h; omega
  · split at h
    · rename_i hn
      injection h with h
      subst h
      rcases numGo_err _ _ _ _ _ hn with rfl | rfl <;> omega
    · split at h
      · injection h with h; omega
      · split at h
        · injection h with h; omega
        · cases h
end Wire

theorem within_err' {α : Type} {val : α → Value} {res : Wire.Res α} {w : World} {B g c : Nat} {v : Value} {l : List UInt8} {a : Nat} {e : Ending} {w' : World} (h : res = .err c) (h2 : Within val res w B g v l a e w') :
    ∃ x a', e = .returned (.tuple #[x, .int .i64 (c : Int)]) ∧ Rd w' B g v l a' ∧ w.grownBy w' (some g) := by
  subst h; exact h2
theorem within_ok' {α : Type} {val : α → Value} {res : Wire.Res α} {w : World} {B g n : Nat} {x : α} {v : Value} {l : List UInt8} {a : Nat} {e : Ending} {w' : World} (h : res = .ok x n) (h2 : Within val res w B g v l a e w') :
    e = .returned (.tuple #[val x, .int .i64 0]) ∧ Rd w' B g v l (a + n) ∧ w.grownBy w' (some g) := by
  subst h; exact h2
theorem reads1_err {α : Type} {val : α → Value} {zero : Value} {res : Wire.Res α} {w : World} {B g c : Nat} {v : Value} {l : List UInt8} {a : Nat} {e : Ending} {w' : World} (h : res = .err c)
    (h2 : e = .returned (.tuple #[zero, .int .i64 (c : Int)]) ∧ Rd w' B g v l a ∧ w.grownBy w' (some g)) : Reads1 val zero res w B g v l a e w' := by
  subst h; exact h2
theorem reads1_ok {α : Type} {val : α → Value} {zero : Value} {res : Wire.Res α} {w : World} {B g n : Nat} {x : α} {v : Value} {l : List UInt8} {a : Nat} {e : Ending} {w' : World} (h : res = .ok x n)
    (h2 : e = .returned (.tuple #[val x, .int .i64 0]) ∧ Rd w' B g v l (a + n) ∧ w.grownBy w' (some g)) : Reads1 val zero res w B g v l a e w' := by
  subst h; exact h2

theorem ne_code {c : Nat} (h : c ≠ 0) : ((c : Int) != 0) = true := by simp; omega

set_option maxRecDepth 100000 in
set_option maxHeartbeats 1000000 in
theorem text_any {w : World} {B g : Nat} {v : Value} {l : List UInt8} {a : Nat} {most : Int} (h : Rd w B g v l a) (hm : most < 9223372036854775808) :
    Calls Try.prog 42 #[.pointer (some ⟨g, 0, none⟩), .int .i64 most] w (Reads1 strV (strV []) (Wire.text most (l.drop a)) w B g v l a) := by
  have hmf : ∀ (fn : Fn) (first cap : Array Value) (w : World), (Instr.makeFunc fn first cap).run Try.prog w = .ok (.func fn first cap) w := fun _ _ _ _ => rfl
  have h2 := (h.alloc (.cells #[.pointer (some ⟨g, 0, none⟩)] 61)).alloc (.cells #[.int .i64 most] 3)
  have H := Lib.hid (there_any h2)
  have hb1 := (Blk.new w 61 #[.pointer (some ⟨g, 0, none⟩)]).alloc (.cells #[.int .i64 most] 3)
  have hb2 := Blk.new (w.alloc (.cells #[.pointer (some ⟨g, 0, none⟩)] 61)) 3 #[.int .i64 most]
  have HC := text1_any h2 hb1 hb2 hm
  have c1 := h2.c1
  have hle := h.le
  cases hn : Wire.text most (l.drop a) with
  | err c =>
    have hc := ne_code (Wire.text_err hn)
    have H1 := Lib.hid (HC.mono fun e w' hh => within_err' hn hh)
    clear hn h h2 hb1 hb2 HC
    rw [World.size_alloc] at H1
    go_enter Try.func42, Try.ntmps42
    go_wp2_with (first | (go_at_call 60; refine H.out.mono ?_; rintro e w' ⟨rfl, rfl⟩) | (go_at_call 67; refine H1.out.mono ?_; rintro e w' ⟨x, a', rfl, hr, hg⟩; have f1' := hr.f1; have c1' := hr.c1) | go_in)
    go_ret2
    exact ⟨rfl, hr.go a hle, only_setCell (p := ⟨g, 1, none⟩) (only_of_alloc (only_of_alloc hg)) (.inl rfl) _⟩
  | ok n k =>
    have H1 := Lib.hid (HC.mono fun e w' hh => within_ok' hn hh)
    clear hn h h2 hb1 hb2 HC
    rw [World.size_alloc] at H1
    go_enter Try.func42, Try.ntmps42
    go_wp2_with (first | (go_at_call 60; refine H.out.mono ?_; rintro e w' ⟨rfl, rfl⟩) | (go_at_call 67; refine H1.out.mono ?_; rintro e w' ⟨rfl, hr, hg⟩) | go_in)
    go_ret2
    exact ⟨rfl, hr, only_of_alloc (only_of_alloc hg)⟩
end Go.Proofs.Ytgmienlifnpniaa
