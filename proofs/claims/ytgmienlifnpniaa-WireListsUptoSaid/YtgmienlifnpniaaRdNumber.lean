/- (*Reader).Number. -/
import Derived.Test.YtgmienlifnpniaaRdNum
namespace Go.Proofs.Ytgmienlifnpniaa
open Go.RowKit

/-- what a method of the reader leaves -/
def Reads1 {α : Type} (val : α → Value) (zero : Value) (res : Wire.Res α) (w : World) (B g : Nat) (v : Value) (l : List UInt8) (a : Nat) (e : Ending) (w' : World) : Prop :=
  match res with
  | .err c => e = .returned (.tuple #[zero, .int .i64 (c : Int)]) ∧ Rd w' B g v l a ∧ w.grownBy w' (some g)
  | .ok n k => e = .returned (.tuple #[val n, .int .i64 0]) ∧ Rd w' B g v l (a + k) ∧ w.grownBy w' (some g)

theorem num1_err {w : World} {B g bx c : Nat} {v : Value} {l : List UInt8} {a : Nat} (h : Rd w B g v l a) (hbx : Blk w bx 61 #[.pointer (some ⟨g, 0, none⟩)]) (hn : Wire.num (l.drop a) = .err c) :
    Calls Try.prog 64 #[.pointer (some ⟨bx, 0, none⟩)] w fun e w' => ∃ a', e = .returned (.tuple #[.int .u64 0, .int .i64 (c : Int)]) ∧ Rd w' B g v l a' ∧ w.grownBy w' (some g) :=
  (num1_any h hbx).mono fun e w' hh => by unfold NumIn at hh; rw [hn] at hh; exact hh
theorem num1_ok {w : World} {B g bx n k : Nat} {v : Value} {l : List UInt8} {a : Nat} (h : Rd w B g v l a) (hbx : Blk w bx 61 #[.pointer (some ⟨g, 0, none⟩)]) (hn : Wire.num (l.drop a) = .ok n k) :
    Calls Try.prog 64 #[.pointer (some ⟨bx, 0, none⟩)] w fun e w' => e = .returned (.tuple #[.int .u64 (n : Int), .int .i64 0]) ∧ Rd w' B g v l (a + k) ∧ w.grownBy w' (some g) :=
  (num1_any h hbx).mono fun e w' hh => by unfold NumIn at hh; rw [hn] at hh; exact hh

theorem only_of_alloc {w w' : World} {o : Obj} {r : Option Nat} (h : (w.alloc o).grownBy w' r) : w.grownBy w' r :=
  (World.grownBy_alloc w o r).trans h

set_option maxRecDepth 100000 in
set_option maxHeartbeats 1000000 in
theorem number_any {w : World} {B g : Nat} {v : Value} {l : List UInt8} {a : Nat} (h : Rd w B g v l a) :
    Calls Try.prog 39 #[.pointer (some ⟨g, 0, none⟩)] w (Reads1 (fun n : Nat => .int .u64 (n : Int)) (.int .u64 0) (Wire.num (l.drop a)) w B g v l a) := by
  have hmf : ∀ (fn : Fn) (first cap : Array Value) (w : World), (Instr.makeFunc fn first cap).run Try.prog w = .ok (.func fn first cap) w := fun _ _ _ _ => rfl
  have h2 := h.alloc (.cells #[.pointer (some ⟨g, 0, none⟩)] 61)
  have H := Lib.hid (there_any h2)
  have hb := Blk.new w 61 #[.pointer (some ⟨g, 0, none⟩)]
  have c1 := h2.c1
  have hle := h.le
  cases hn : Wire.num (l.drop a) with
  | err c =>
    have H1 := Lib.hid (num1_err h2 hb hn)
    have hc := Wire.numGo_err _ _ _ _ _ hn
    clear hn h h2 hb
    unfold Reads1
    go_enter Try.func39, Try.ntmps39
    rcases hc with rfl | rfl
    all_goals
      go_wp2_with (first | (go_at_call 60; refine H.out.mono ?_; rintro e w' ⟨rfl, rfl⟩) | (go_at_call 64; refine H1.out.mono ?_; rintro e w' ⟨a', rfl, hr, hg⟩; have f1' := hr.f1; have c1' := hr.c1) | go_in)
      go_ret2
      exact ⟨rfl, hr.go a hle, only_setCell (p := ⟨g, 1, none⟩) (only_of_alloc hg) (.inl rfl) _⟩
  | ok n k =>
    have H1 := Lib.hid (num1_ok h2 hb hn)
    clear hn h h2 hb
    unfold Reads1
    go_enter Try.func39, Try.ntmps39
    go_wp2_with (first | (go_at_call 60; refine H.out.mono ?_; rintro e w' ⟨rfl, rfl⟩) | (go_at_call 64; refine H1.out.mono ?_; rintro e w' ⟨rfl, hr, hg⟩) | go_in)
    go_ret2
    exact ⟨rfl, hr, only_of_alloc hg⟩
end Go.Proofs.Ytgmienlifnpniaa
