/- Readers that are not there: a nil one, a zero one. -/
import Derived.Test.YtgmienlifnpniaaRdGauss
import Derived.Test.YtgmienlifnpniaaAgg
namespace Go.Proofs.Ytgmienlifnpniaa
open Go.RowKit
set_option linter.unusedSimpArgs false

attribute [local go_sem] run_store_float run_store_complex

/-- the reader 'pp' is not there, in the worlds of Z -/
structure Gone (Z : World → Prop) (pp : Option Addr) : Prop where
  al : ∀ w o, Z w → Z (w.alloc o)
  be : ∀ w w', Z w → Below w.heap.size w w' → Z w'
  no : ∀ w, Z w → Calls Try.prog 60 #[.pointer pp] w fun e w' => e = .returned (.bool false) ∧ w = w'

theorem gone_nil : Gone (fun _ => True) none := by
  refine ⟨fun _ _ _ => trivial, fun _ _ _ _ => trivial, fun w _ => ?_⟩
  go_enter Try.func60, Try.ntmps60
  go_wp2
  go_ret
  exact ⟨rfl, rfl⟩
theorem gone_zero (g : Nat) : Gone (fun w => Blk w g 100 #[.slice none 0 0, .int .i64 0]) (some ⟨g, 0, none⟩) := by
  refine ⟨fun _ _ h => h.alloc _, fun _ _ h hb => h.below hb h.lt, fun w h => ?_⟩
  have c0 := h.cell 0
  go_enter Try.func60, Try.ntmps60
  go_wp2
  go_ret
  exact ⟨rfl, rfl⟩

theorem aa {w : World} (o : Obj) : Below w.heap.size w (w.alloc o) := (Below.refl _ _).alloc (Nat.le_refl _) o

set_option maxRecDepth 100000 in
set_option maxHeartbeats 1000000 in
theorem number_gone {Z : World → Prop} {pp : Option Addr} (G : Gone Z pp) (w : World) (hz : Z w) : Calls Try.prog 39 #[.pointer pp] w fun e w' => e = .returned (.tuple #[.int .u64 0, .int .i64 1]) ∧ Below w.heap.size w w' := by
  have hmf : ∀ (fn : Fn) (first cap : Array Value) (w : World), (Instr.makeFunc fn first cap).run Try.prog w = .ok (.func fn first cap) w := fun _ _ _ _ => rfl
  go_enter Try.func39, Try.ntmps39
  go_wp2_with (first | (go_at_call 60; refine (G.no _ (G.al _ _ hz)).mono ?_; rintro e w' ⟨rfl, rfl⟩) | go_in)
  go_ret2
  exact ⟨rfl, aa _⟩
set_option maxRecDepth 100000 in
set_option maxHeartbeats 4000000 in
theorem signed_gone {Z : World → Prop} {pp : Option Addr} (G : Gone Z pp) (w : World) (hz : Z w) : Calls Try.prog 40 #[.pointer pp] w fun e w' => e = .returned (.tuple #[.int .i64 0, .int .i64 1]) ∧ Below w.heap.size w w' := by
  have hmf : ∀ (fn : Fn) (first cap : Array Value) (w : World), (Instr.makeFunc fn first cap).run Try.prog w = .ok (.func fn first cap) w := fun _ _ _ _ => rfl
  have G2 := G.be
  have G6 := Lib.hid G.no
  have GA := Lib.hid G.al
  have Hz := Lib.hid hz
  clear hz G
  go_enter Try.func40, Try.ntmps40
  go_wp2_with (go_at_call 39; refine (number_gone ⟨GA.out, G2, G6.out⟩ w Hz.out).mono ?_; rintro e w1 ⟨rfl, hb1⟩)
  go_ret2
  exact ⟨congrArg (fun z : Int => Ending.returned (.tuple #[.int .i64 z, .int .i64 1])) (by decide +kernel), hb1⟩

set_option maxRecDepth 100000 in
set_option maxHeartbeats 4000000 in
theorem float_gone {Z : World → Prop} {pp : Option Addr} (G : Gone Z pp) (w : World) (hz : Z w) : Calls Try.prog 45 #[.pointer pp] w fun e w' => e = .returned (.tuple #[.float .f64 0, .int .i64 1]) ∧ Below w.heap.size w w' := by
  have hmf : ∀ (fn : Fn) (first cap : Array Value) (w : World), (Instr.makeFunc fn first cap).run Try.prog w = .ok (.func fn first cap) w := fun _ _ _ _ => rfl
  have G6 := Lib.hid G.no
  have GA := Lib.hid G.al
  have Hz := Lib.hid hz
  clear hz G
  go_enter Try.func45, Try.ntmps45
  go_wp2_with (first | (go_at_call 60; refine (G6.out _ (by repeat (first | exact Hz.out | refine GA.out _ _ ?_))).mono ?_; rintro e w' ⟨rfl, rfl⟩) | go_in)
  go_ret2
  exact ⟨rfl, aa _⟩

set_option maxRecDepth 100000 in
set_option maxHeartbeats 4000000 in
theorem text_gone {Z : World → Prop} {pp : Option Addr} (G : Gone Z pp) (w : World) (hz : Z w) : Calls Try.prog 42 #[.pointer pp, .int .i64 (-1)] w fun e w' => e = .returned (.tuple #[.string ⟨#[]⟩, .int .i64 1]) ∧ Below w.heap.size w w' := by
  have hmf : ∀ (fn : Fn) (first cap : Array Value) (w : World), (Instr.makeFunc fn first cap).run Try.prog w = .ok (.func fn first cap) w := fun _ _ _ _ => rfl
  have G6 := Lib.hid G.no
  have GA := Lib.hid G.al
  have Hz := Lib.hid hz
  clear hz G
  go_enter Try.func42, Try.ntmps42
  go_wp2_with (first | (go_at_call 60; refine (G6.out _ (by repeat (first | exact Hz.out | refine GA.out _ _ ?_))).mono ?_; rintro e w' ⟨rfl, rfl⟩) | go_in)
  go_ret2
  exact ⟨rfl, (aa _).alloc (by simp) _⟩
set_option maxRecDepth 100000 in
set_option maxHeartbeats 4000000 in
theorem place_gone {Z : World → Prop} {pp : Option Addr} (G : Gone Z pp) (w : World) (hz : Z w) : Calls Try.prog 37 #[.pointer pp] w fun e w' => e = .returned (.int .i64 0) ∧ Below w.heap.size w w' := by
  have hmf : ∀ (fn : Fn) (first cap : Array Value) (w : World), (Instr.makeFunc fn first cap).run Try.prog w = .ok (.func fn first cap) w := fun _ _ _ _ => rfl
  have G6 := Lib.hid G.no
  have GA := Lib.hid G.al
  have Hz := Lib.hid hz
  clear hz G
  go_enter Try.func37, Try.ntmps37
  go_wp2_with (go_at_call 60; refine (G6.out _ (by repeat (first | exact Hz.out | refine GA.out _ _ ?_))).mono ?_; rintro e w' ⟨rfl, rfl⟩)
  go_ret
  exact ⟨rfl, Below.refl _ _⟩

set_option maxRecDepth 100000 in
set_option maxHeartbeats 4000000 in
theorem left_gone {Z : World → Prop} {pp : Option Addr} (G : Gone Z pp) (w : World) (hz : Z w) : Calls Try.prog 38 #[.pointer pp] w fun e w' => e = .returned (.int .i64 0) ∧ Below w.heap.size w w' := by
  have hmf : ∀ (fn : Fn) (first cap : Array Value) (w : World), (Instr.makeFunc fn first cap).run Try.prog w = .ok (.func fn first cap) w := fun _ _ _ _ => rfl
  have G6 := Lib.hid G.no
  have GA := Lib.hid G.al
  have Hz := Lib.hid hz
  clear hz G
  go_enter Try.func38, Try.ntmps38
  go_wp2_with (go_at_call 60; refine (G6.out _ (by repeat (first | exact Hz.out | refine GA.out _ _ ?_))).mono ?_; rintro e w' ⟨rfl, rfl⟩)
  go_ret
  exact ⟨rfl, Below.refl _ _⟩

set_option maxRecDepth 100000 in
set_option maxHeartbeats 4000000 in
theorem triedW_gone {Z : World → Prop} {pp : Option Addr} {fn : Fn} {cv : Array Value} (G : Gone Z pp) (w : World) (hz : Z w) : Calls Try.prog 83 #[.pointer pp, .func fn #[] cv] w fun e w' => e = .returned (.tuple #[.agg #[.bool false, .string ⟨#[]⟩], .int .i64 1]) ∧ Below w.heap.size w w' := by
  have hmf : ∀ (fn : Fn) (first cap : Array Value) (w : World), (Instr.makeFunc fn first cap).run Try.prog w = .ok (.func fn first cap) w := fun _ _ _ _ => rfl
  have G6 := Lib.hid G.no
  have GA := Lib.hid G.al
  have Hz := Lib.hid hz
  clear hz G
  go_enter Try.func83, Try.ntmps83
  go_wp2_with (go_at_call 60; refine (G6.out _ (by repeat (first | exact Hz.out | refine GA.out _ _ ?_))).mono ?_; rintro e w' ⟨rfl, rfl⟩)
  refine bodyPost_ret (by simp [results, Try.results83, go_sem]; try rfl) rfl ⟨rfl, ?_⟩
  repeat (first | exact Below.refl _ _ | refine Below.alloc ?_ (by simp) _ | refine Below.setCell ?_ (by simp) _)
set_option maxRecDepth 100000 in
set_option maxHeartbeats 4000000 in
theorem triedF_gone {Z : World → Prop} {pp : Option Addr} {fn : Fn} {cv : Array Value} (G : Gone Z pp) (w : World) (hz : Z w) : Calls Try.prog 90 #[.pointer pp, .func fn #[] cv] w fun e w' => e = .returned (.tuple #[.agg #[.bool false, .string ⟨#[]⟩, .bool false, .string ⟨#[]⟩], .int .i64 1]) ∧ Below w.heap.size w w' := by
  have hmf : ∀ (fn : Fn) (first cap : Array Value) (w : World), (Instr.makeFunc fn first cap).run Try.prog w = .ok (.func fn first cap) w := fun _ _ _ _ => rfl
  have G2 := G.be
  have G6 := Lib.hid G.no
  have GA := Lib.hid G.al
  have Hz := Lib.hid hz
  clear hz G
  go_enter Try.func90, Try.ntmps90
  go_wp2_with (go_at_call 60; refine (G6.out _ (by repeat (first | exact Hz.out | refine GA.out _ _ ?_))).mono ?_; rintro e w' ⟨rfl, rfl⟩)
  refine bodyPost_ret (by simp [results, Try.results90, go_sem]; try rfl) rfl ⟨rfl, ?_⟩
  repeat (first | exact Below.refl _ _ | refine Below.alloc ?_ (by simp) _ | refine Below.setCell ?_ (by simp) _)

set_option maxRecDepth 100000 in
set_option maxHeartbeats 4000000 in
theorem tried64_gone {Z : World → Prop} {pp : Option Addr} {fn : Fn} {cv : Array Value} (G : Gone Z pp) (w : World) (hz : Z w) : Calls Try.prog 86 #[.pointer pp, .func fn #[] cv] w fun e w' => e = .returned (.tuple #[.agg #[.float .f64 0, .float .f64 0], .int .i64 1]) ∧ Below w.heap.size w w' := by
  have hmf : ∀ (fn : Fn) (first cap : Array Value) (w : World), (Instr.makeFunc fn first cap).run Try.prog w = .ok (.func fn first cap) w := fun _ _ _ _ => rfl
  have G2 := G.be
  have G6 := Lib.hid G.no
  have GA := Lib.hid G.al
  have Hz := Lib.hid hz
  clear hz G
  go_enter Try.func86, Try.ntmps86
  go_wp2_with (go_at_call 60; refine (G6.out _ (by repeat (first | exact Hz.out | refine GA.out _ _ ?_))).mono ?_; rintro e w' ⟨rfl, rfl⟩)
  refine bodyPost_ret (by simp [results, Try.results86, go_sem]; try rfl) rfl ⟨rfl, ?_⟩
  repeat (first | exact Below.refl _ _ | refine Below.alloc ?_ (by simp) _ | refine Below.setCell ?_ (by simp) _)
end Go.Proofs.Ytgmienlifnpniaa
