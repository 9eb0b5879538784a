/- Readers that are not there: the methods that return aggregates; nothing (printed by gen_gone.py). -/
import Derived.Test.YtgmienlifnpniaaGone
namespace Go.Proofs.Ytgmienlifnpniaa
open Go.RowKit
set_option linter.unusedSimpArgs false
attribute [local go_sem] run_store_float run_store_complex

set_option maxRecDepth 100000 in
set_option maxHeartbeats 4000000 in
theorem whole_gone {Z : World → Prop} {pp : Option Addr} (G : Gone Z pp) (w : World) (hz : Z w) : Calls Try.prog 52 #[.pointer pp] w fun e w' => e = .returned (.tuple #[.agg #[.bool false, .string ⟨#[]⟩], .int .i64 1]) ∧ Below w.heap.size w w' := by
  have hmf : ∀ (fn : Fn) (first cap : Array Value) (w : World), (Instr.makeFunc fn first cap).run Try.prog w = .ok (.func fn first cap) w := fun _ _ _ _ => rfl
  have G2 := G.be
  have G6 := Lib.hid G.no
  have GA := Lib.hid G.al
  have Hz := Lib.hid hz
  clear hz G
  go_enter Try.func52, Try.ntmps52
  have hB := Blk.new (w.alloc (.cells #[.pointer pp] 61)) 28 #[.bool false, .string ⟨#[]⟩]
  (try simp only [World.size_alloc] at hB)
  have HB := Lib.hid hB
  clear hB
  go_wp2_with fail
  refine (triedW_gone ⟨GA.out, G2, G6.out⟩ _ (by repeat (first | exact Hz.out | refine GA.out _ _ ?_))).mono ?_
  rintro e w1 ⟨rfl, hb1⟩
  have hs1 := hb1.size
  simp only [World.size_alloc] at hs1 hb1
  have k1 : Blk (w1) (w.heap.size + 1) 28 #[.bool false, .string ⟨#[]⟩] := (HB.out.below hb1 (by omega))
  have b1 : Below w.heap.size w (w1) := (Below.trans (by repeat (first | exact Below.refl _ _ | refine Below.alloc ?_ (by first | exact Nat.le_refl _ | (simp only [World.size_alloc]; omega)) _)) (hb1.mono (by omega)))
  have hs2 : w.heap.size ≤ (w1).heap.size := b1.size
  go_wp2_with (refine wpList_store_part (by rfl) 28 (.tmp 2) (.tmp 7) (by rfl) (w.heap.size + 1) 0 #[.bool false, .string ⟨#[]⟩] (by rfl) (by rfl) 28 #[.bool false, .string ⟨#[]⟩] #[.bool false, .string ⟨#[]⟩] k1 (by simp) (by rfl) (by kernel_rfl) (by simp [Value.oneCell']) ?_; intro w2 k2 hg2 hs2')
  refine bodyPost_ret (results_row_tmp rfl _ _ _ _ _ (by rfl) k2 Try.underlying28 rfl (by kernel_rfl)) rfl ⟨rfl, ?_⟩
  exact b1.grown hg2 hs2 (fun k hk => by have := Option.some.inj hk; omega)

set_option maxRecDepth 100000 in
set_option maxHeartbeats 4000000 in
theorem frac_gone {Z : World → Prop} {pp : Option Addr} (G : Gone Z pp) (w : World) (hz : Z w) : Calls Try.prog 70 #[.pointer pp] w fun e w' => e = .returned (.tuple #[.agg #[.bool false, .string ⟨#[]⟩, .bool false, .string ⟨#[]⟩], .int .i64 1]) ∧ Below w.heap.size w w' := by
  have hmf : ∀ (fn : Fn) (first cap : Array Value) (w : World), (Instr.makeFunc fn first cap).run Try.prog w = .ok (.func fn first cap) w := fun _ _ _ _ => rfl
  have G2 := G.be
  have G6 := Lib.hid G.no
  have GA := Lib.hid G.al
  have Hz := Lib.hid hz
  clear hz G
  go_enter Try.func70, Try.ntmps70
  have hB := Blk.new (w.alloc (.cells #[.pointer pp] 61)) 30 #[.bool false, .string ⟨#[]⟩, .bool false, .string ⟨#[]⟩]
  (try simp only [World.size_alloc] at hB)
  have HB := Lib.hid hB
  clear hB
  go_wp2_with fail
  refine (triedF_gone ⟨GA.out, G2, G6.out⟩ _ (by repeat (first | exact Hz.out | refine GA.out _ _ ?_))).mono ?_
  rintro e w1 ⟨rfl, hb1⟩
  have hs1 := hb1.size
  simp only [World.size_alloc] at hs1 hb1
  have k1 : Blk (w1) (w.heap.size + 1) 30 #[.bool false, .string ⟨#[]⟩, .bool false, .string ⟨#[]⟩] := (HB.out.below hb1 (by omega))
  have b1 : Below w.heap.size w (w1) := (Below.trans (by repeat (first | exact Below.refl _ _ | refine Below.alloc ?_ (by first | exact Nat.le_refl _ | (simp only [World.size_alloc]; omega)) _)) (hb1.mono (by omega)))
  have hs2 : w.heap.size ≤ (w1).heap.size := b1.size
  go_wp2_with (refine wpList_store_part (by rfl) 30 (.tmp 2) (.tmp 7) (by rfl) (w.heap.size + 1) 0 #[.bool false, .string ⟨#[]⟩, .bool false, .string ⟨#[]⟩] (by rfl) (by rfl) 30 #[.bool false, .string ⟨#[]⟩, .bool false, .string ⟨#[]⟩] #[.bool false, .string ⟨#[]⟩, .bool false, .string ⟨#[]⟩] k1 (by simp) (by rfl) (by kernel_rfl) (by simp [Value.oneCell']) ?_; intro w2 k2 hg2 hs2')
  refine bodyPost_ret (results_row_tmp rfl _ _ _ _ _ (by rfl) k2 Try.underlying30 rfl (by kernel_rfl)) rfl ⟨rfl, ?_⟩
  exact b1.grown hg2 hs2 (fun k hk => by have := Option.some.inj hk; omega)

set_option maxRecDepth 100000 in
set_option maxHeartbeats 4000000 in
theorem both64_gone {Z : World → Prop} {pp : Option Addr} (G : Gone Z pp) (w : World) (hz : Z w) : Calls Try.prog 65 #[.pointer pp, .func (.func 45) #[] #[]] w fun e w' => e = .returned (.tuple #[.agg #[.float .f64 0, .float .f64 0], .int .i64 1]) ∧ Below w.heap.size w w' := by
  have hmf : ∀ (fn : Fn) (first cap : Array Value) (w : World), (Instr.makeFunc fn first cap).run Try.prog w = .ok (.func fn first cap) w := fun _ _ _ _ => rfl
  have G2 := G.be
  have G6 := Lib.hid G.no
  have GA := Lib.hid G.al
  have Hz := Lib.hid hz
  clear hz G
  go_enter Try.func65, Try.ntmps65
  have hB := Blk.new ((w.alloc (.cells #[.pointer pp] 61)).alloc (.cells #[.func (.func 45) #[] #[]] 113)) 110 #[.float .f64 0, .float .f64 0]
  (try simp only [World.size_alloc] at hB)
  have HB := Lib.hid hB
  clear hB
  go_wp2_with fail
  refine (tried64_gone ⟨GA.out, G2, G6.out⟩ _ (by repeat (first | exact Hz.out | refine GA.out _ _ ?_))).mono ?_
  rintro e w1 ⟨rfl, hb1⟩
  have hs1 := hb1.size
  simp only [World.size_alloc] at hs1 hb1
  have k1 : Blk (w1) (w.heap.size + 1 + 1) 110 #[.float .f64 0, .float .f64 0] := (HB.out.below hb1 (by omega))
  have b1 : Below w.heap.size w (w1) := (Below.trans (by repeat (first | exact Below.refl _ _ | refine Below.alloc ?_ (by first | exact Nat.le_refl _ | (simp only [World.size_alloc]; omega)) _)) (hb1.mono (by omega)))
  have hs2 : w.heap.size ≤ (w1).heap.size := b1.size
  go_wp2_with (refine wpList_store_part (by rfl) 110 (.tmp 4) (.tmp 9) (by rfl) (w.heap.size + 1 + 1) 0 #[.float .f64 0, .float .f64 0] (by rfl) (by rfl) 110 #[.float .f64 0, .float .f64 0] #[.float .f64 0, .float .f64 0] k1 (by simp) (by rfl) (by kernel_rfl) (by simp [Value.oneCell']) ?_; intro w2 k2 hg2 hs2')
  refine bodyPost_ret (results_row_tmp rfl _ _ _ _ _ (by rfl) k2 Try.underlying110 rfl (by kernel_rfl)) rfl ⟨rfl, ?_⟩
  exact b1.grown hg2 hs2 (fun k hk => by have := Option.some.inj hk; omega)

set_option maxRecDepth 100000 in
set_option maxHeartbeats 4000000 in
theorem complex_gone {Z : World → Prop} {pp : Option Addr} (G : Gone Z pp) (w : World) (hz : Z w) : Calls Try.prog 41 #[.pointer pp] w fun e w' => e = .returned (.tuple #[.complex .f64 0 0, .int .i64 1]) ∧ Below w.heap.size w w' := by
  have hmf : ∀ (fn : Fn) (first cap : Array Value) (w : World), (Instr.makeFunc fn first cap).run Try.prog w = .ok (.func fn first cap) w := fun _ _ _ _ => rfl
  have G2 := G.be
  have G6 := Lib.hid G.no
  have GA := Lib.hid G.al
  have Hz := Lib.hid hz
  clear hz G
  go_enter Try.func41, Try.ntmps41
  go_wp2_with fail
  refine (both64_gone ⟨GA.out, G2, G6.out⟩ _ Hz.out).mono ?_
  rintro e w1 ⟨rfl, hb1⟩
  go_wp2_with fail
  go_ret2
  exact ⟨rfl, hb1.alloc hb1.size _⟩

set_option maxRecDepth 100000 in
set_option maxHeartbeats 4000000 in
theorem tried8_gone {Z : World → Prop} {pp : Option Addr} {fn : Fn} {cv : Array Value} (G : Gone Z pp) (w : World) (hz : Z w) : Calls Try.prog 88 #[.pointer pp, .func fn #[] cv] w fun e w' => e = .returned (.tuple #[.agg #[.bool false, .string ⟨#[]⟩, .bool false, .string ⟨#[]⟩, .bool false, .string ⟨#[]⟩, .bool false, .string ⟨#[]⟩], .int .i64 1]) ∧ Below w.heap.size w w' := by
  have hmf : ∀ (fn : Fn) (first cap : Array Value) (w : World), (Instr.makeFunc fn first cap).run Try.prog w = .ok (.func fn first cap) w := fun _ _ _ _ => rfl
  have G2 := G.be
  have G6 := Lib.hid G.no
  have GA := Lib.hid G.al
  have Hz := Lib.hid hz
  clear hz G
  go_enter Try.func88, Try.ntmps88
  have k1 := (Blk.new w 117 #[.bool false, .string ⟨#[]⟩, .bool false, .string ⟨#[]⟩, .bool false, .string ⟨#[]⟩, .bool false, .string ⟨#[]⟩]).alloc (.cells #[.bool false, .string ⟨#[]⟩, .bool false, .string ⟨#[]⟩, .bool false, .string ⟨#[]⟩, .bool false, .string ⟨#[]⟩] 117)
  go_wp2_with (first
    | (go_at_call 60; refine (G6.out _ (by repeat (first | exact Hz.out | refine GA.out _ _ ?_))).mono ?_; rintro e w' ⟨rfl, rfl⟩)
    | (refine wpList_store_part (by rfl) 117 (.tmp 4) (.tmp 13) (by rfl) w.heap.size 0 #[.bool false, .string ⟨#[]⟩, .bool false, .string ⟨#[]⟩, .bool false, .string ⟨#[]⟩, .bool false, .string ⟨#[]⟩] (by rfl) (by rfl) 117 #[.bool false, .string ⟨#[]⟩, .bool false, .string ⟨#[]⟩, .bool false, .string ⟨#[]⟩, .bool false, .string ⟨#[]⟩] #[.bool false, .string ⟨#[]⟩, .bool false, .string ⟨#[]⟩, .bool false, .string ⟨#[]⟩, .bool false, .string ⟨#[]⟩] k1 (by simp) (by rfl) (by kernel_rfl) (by simp [Value.oneCell']) ?_; intro w2 k2 hg2 hs2'))
  refine bodyPost_ret (results_row_tmp rfl _ _ _ _ _ (by rfl) k2 Try.underlying117 rfl (by kernel_rfl)) rfl ⟨rfl, ?_⟩
  exact ((aa _).alloc (by simp) _).grown hg2 (by simp only [World.size_alloc]; omega) (fun k hk => by have := Option.some.inj hk; omega)

set_option maxRecDepth 100000 in
set_option maxHeartbeats 4000000 in
theorem both8_gone {Z : World → Prop} {pp : Option Addr} (G : Gone Z pp) (w : World) (hz : Z w) : Calls Try.prog 69 #[.pointer pp, .func (.func 70) #[] #[]] w fun e w' => e = .returned (.tuple #[.agg #[.bool false, .string ⟨#[]⟩, .bool false, .string ⟨#[]⟩, .bool false, .string ⟨#[]⟩, .bool false, .string ⟨#[]⟩], .int .i64 1]) ∧ Below w.heap.size w w' := by
  have hmf : ∀ (fn : Fn) (first cap : Array Value) (w : World), (Instr.makeFunc fn first cap).run Try.prog w = .ok (.func fn first cap) w := fun _ _ _ _ => rfl
  have G2 := G.be
  have G6 := Lib.hid G.no
  have GA := Lib.hid G.al
  have Hz := Lib.hid hz
  clear hz G
  go_enter Try.func69, Try.ntmps69
  have hB := Blk.new ((w.alloc (.cells #[.pointer pp] 61)).alloc (.cells #[.func (.func 70) #[] #[]] 120)) 117 #[.bool false, .string ⟨#[]⟩, .bool false, .string ⟨#[]⟩, .bool false, .string ⟨#[]⟩, .bool false, .string ⟨#[]⟩]
  (try simp only [World.size_alloc] at hB)
  have HB := Lib.hid hB
  clear hB
  go_wp2_with fail
  refine (tried8_gone ⟨GA.out, G2, G6.out⟩ _ (by repeat (first | exact Hz.out | refine GA.out _ _ ?_))).mono ?_
  rintro e w1 ⟨rfl, hb1⟩
  have hs1 := hb1.size
  simp only [World.size_alloc] at hs1 hb1
  have k1 : Blk (w1) (w.heap.size + 1 + 1) 117 #[.bool false, .string ⟨#[]⟩, .bool false, .string ⟨#[]⟩, .bool false, .string ⟨#[]⟩, .bool false, .string ⟨#[]⟩] := (HB.out.below hb1 (by omega))
  have b1 : Below w.heap.size w (w1) := (Below.trans (by repeat (first | exact Below.refl _ _ | refine Below.alloc ?_ (by first | exact Nat.le_refl _ | (simp only [World.size_alloc]; omega)) _)) (hb1.mono (by omega)))
  have hs2 : w.heap.size ≤ (w1).heap.size := b1.size
  go_wp2_with (refine wpList_store_part (by rfl) 117 (.tmp 4) (.tmp 9) (by rfl) (w.heap.size + 1 + 1) 0 #[.bool false, .string ⟨#[]⟩, .bool false, .string ⟨#[]⟩, .bool false, .string ⟨#[]⟩, .bool false, .string ⟨#[]⟩] (by rfl) (by rfl) 117 #[.bool false, .string ⟨#[]⟩, .bool false, .string ⟨#[]⟩, .bool false, .string ⟨#[]⟩, .bool false, .string ⟨#[]⟩] #[.bool false, .string ⟨#[]⟩, .bool false, .string ⟨#[]⟩, .bool false, .string ⟨#[]⟩, .bool false, .string ⟨#[]⟩] k1 (by simp) (by rfl) (by kernel_rfl) (by simp [Value.oneCell']) ?_; intro w2 k2 hg2 hs2')
  refine bodyPost_ret (results_row_tmp rfl _ _ _ _ _ (by rfl) k2 Try.underlying117 rfl (by kernel_rfl)) rfl ⟨rfl, ?_⟩
  exact b1.grown hg2 hs2 (fun k hk => by have := Option.some.inj hk; omega)

set_option maxRecDepth 100000 in
set_option maxHeartbeats 4000000 in
theorem gauss_gone {Z : World → Prop} {pp : Option Addr} (G : Gone Z pp) (w : World) (hz : Z w) : Calls Try.prog 44 #[.pointer pp] w fun e w' => e = .returned (.tuple #[.agg #[.bool false, .string ⟨#[]⟩, .bool false, .string ⟨#[]⟩, .bool false, .string ⟨#[]⟩, .bool false, .string ⟨#[]⟩], .int .i64 1]) ∧ Below w.heap.size w w' := by
  have hmf : ∀ (fn : Fn) (first cap : Array Value) (w : World), (Instr.makeFunc fn first cap).run Try.prog w = .ok (.func fn first cap) w := fun _ _ _ _ => rfl
  have G2 := G.be
  have G6 := Lib.hid G.no
  have GA := Lib.hid G.al
  have Hz := Lib.hid hz
  clear hz G
  go_enter Try.func44, Try.ntmps44
  have hB := Blk.new w 32 #[.bool false, .string ⟨#[]⟩, .bool false, .string ⟨#[]⟩, .bool false, .string ⟨#[]⟩, .bool false, .string ⟨#[]⟩]
  (try simp only [World.size_alloc] at hB)
  have HB := Lib.hid hB
  clear hB
  go_wp2_with fail
  refine (both8_gone ⟨GA.out, G2, G6.out⟩ _ (by repeat (first | exact Hz.out | refine GA.out _ _ ?_))).mono ?_
  rintro e w1 ⟨rfl, hb1⟩
  have hs1 := hb1.size
  simp only [World.size_alloc] at hs1 hb1
  have k1 : Blk (w1.alloc (.cells #[.bool false, .string ⟨#[]⟩, .bool false, .string ⟨#[]⟩, .bool false, .string ⟨#[]⟩, .bool false, .string ⟨#[]⟩] 117)) (w.heap.size) 32 #[.bool false, .string ⟨#[]⟩, .bool false, .string ⟨#[]⟩, .bool false, .string ⟨#[]⟩, .bool false, .string ⟨#[]⟩] := (HB.out.below hb1 (by omega)).alloc (.cells #[.bool false, .string ⟨#[]⟩, .bool false, .string ⟨#[]⟩, .bool false, .string ⟨#[]⟩, .bool false, .string ⟨#[]⟩] 117)
  have b1 : Below w.heap.size w (w1.alloc (.cells #[.bool false, .string ⟨#[]⟩, .bool false, .string ⟨#[]⟩, .bool false, .string ⟨#[]⟩, .bool false, .string ⟨#[]⟩] 117)) := (Below.trans (by repeat (first | exact Below.refl _ _ | refine Below.alloc ?_ (by first | exact Nat.le_refl _ | (simp only [World.size_alloc]; omega)) _)) (hb1.mono (by omega))).alloc (by omega) (.cells #[.bool false, .string ⟨#[]⟩, .bool false, .string ⟨#[]⟩, .bool false, .string ⟨#[]⟩, .bool false, .string ⟨#[]⟩] 117)
  have hs2 : w.heap.size ≤ (w1.alloc (.cells #[.bool false, .string ⟨#[]⟩, .bool false, .string ⟨#[]⟩, .bool false, .string ⟨#[]⟩, .bool false, .string ⟨#[]⟩] 117)).heap.size := b1.size
  go_wp2_with (refine wpList_store_part (by rfl) 32 (.tmp 2) (.tmp 15) (by rfl) (w.heap.size) 0 #[.bool false, .string ⟨#[]⟩, .bool false, .string ⟨#[]⟩, .bool false, .string ⟨#[]⟩, .bool false, .string ⟨#[]⟩] (by rfl) (by rfl) 32 #[.bool false, .string ⟨#[]⟩, .bool false, .string ⟨#[]⟩, .bool false, .string ⟨#[]⟩, .bool false, .string ⟨#[]⟩] #[.bool false, .string ⟨#[]⟩, .bool false, .string ⟨#[]⟩, .bool false, .string ⟨#[]⟩, .bool false, .string ⟨#[]⟩] k1 (by simp) (by rfl) (by kernel_rfl) (by simp [Value.oneCell']) ?_; intro w2 k2 hg2 hs2')
  refine bodyPost_ret (results_row_tmp rfl _ _ _ _ _ (by rfl) k2 Try.underlying32 rfl (by kernel_rfl)) rfl ⟨rfl, ?_⟩
  exact b1.grown hg2 hs2 (fun k hk => by have := Option.some.inj hk; omega)

set_option maxRecDepth 100000 in
set_option maxHeartbeats 8000000 in
theorem nothing_any {Z : World → Prop} {pp : Option Addr} (G : Gone Z pp) (w : World) (hz : Z w) : Calls Try.prog 53 #[.pointer pp] w fun e w' => e = .returned (.bool true) ∧ Below w.heap.size w w' := by
  have G2 := G.be
  have G6 := Lib.hid G.no
  have GA := Lib.hid G.al
  have z0 := hz
  have b0 := Below.refl w.heap.size w
  have GG := Lib.hid G
  clear hz G
  go_enter Try.func53, Try.ntmps53
  go_wp2_with fail
  refine (number_gone GG.out _ z0).mono ?_
  rintro e w1 ⟨rfl, hb1⟩
  have z1 := G2 _ _ z0 hb1
  have b1 := b0.up hb1 b0.size
  go_wp2_with fail
  refine (signed_gone GG.out _ z1).mono ?_
  rintro e w2 ⟨rfl, hb2⟩
  have z2 := G2 _ _ z1 hb2
  have b2 := b1.up hb2 b1.size
  go_wp2_with fail
  refine (float_gone GG.out _ z2).mono ?_
  rintro e w3 ⟨rfl, hb3⟩
  have z3 := G2 _ _ z2 hb3
  have b3 := b2.up hb3 b2.size
  go_wp2_with fail
  refine (complex_gone GG.out _ z3).mono ?_
  rintro e w4 ⟨rfl, hb4⟩
  have z4 := G2 _ _ z3 hb4
  have b4 := b3.up hb4 b3.size
  go_wp2_with fail
  refine (text_gone GG.out _ z4).mono ?_
  rintro e w5 ⟨rfl, hb5⟩
  have z5 := G2 _ _ z4 hb5
  have b5 := b4.up hb5 b4.size
  go_wp2_with fail
  refine (whole_gone GG.out _ z5).mono ?_
  rintro e w6 ⟨rfl, hb6⟩
  have kb0 := Blk.new w6 28 #[.bool false, .string ⟨#[]⟩]
  have z6 := GA.out _ (.cells #[.bool false, .string ⟨#[]⟩] 28) (G2 _ _ z5 hb6)
  have b6 := Below.alloc (b5.up hb6 b5.size) (b5.up hb6 b5.size).size (.cells #[.bool false, .string ⟨#[]⟩] 28)
  go_wp2_with fail
  refine (frac_gone GG.out _ z6).mono ?_
  rintro e w7 ⟨rfl, hb7⟩
  replace kb0 := kb0.below hb7 (by exact kb0.lt)
  replace kb0 := kb0.alloc (.cells #[.bool false, .string ⟨#[]⟩, .bool false, .string ⟨#[]⟩] 30)
  have kb1 := Blk.new w7 30 #[.bool false, .string ⟨#[]⟩, .bool false, .string ⟨#[]⟩]
  have z7 := GA.out _ (.cells #[.bool false, .string ⟨#[]⟩, .bool false, .string ⟨#[]⟩] 30) (G2 _ _ z6 hb7)
  have b7 := Below.alloc (b6.up hb7 b6.size) (b6.up hb7 b6.size).size (.cells #[.bool false, .string ⟨#[]⟩, .bool false, .string ⟨#[]⟩] 30)
  go_wp2_with fail
  refine (gauss_gone GG.out _ z7).mono ?_
  rintro e w8 ⟨rfl, hb8⟩
  replace kb0 := kb0.below hb8 (by exact kb0.lt)
  replace kb1 := kb1.below hb8 (by exact kb1.lt)
  replace kb0 := kb0.alloc (.cells #[.bool false, .string ⟨#[]⟩, .bool false, .string ⟨#[]⟩, .bool false, .string ⟨#[]⟩, .bool false, .string ⟨#[]⟩] 32)
  replace kb1 := kb1.alloc (.cells #[.bool false, .string ⟨#[]⟩, .bool false, .string ⟨#[]⟩, .bool false, .string ⟨#[]⟩, .bool false, .string ⟨#[]⟩] 32)
  have kb2 := Blk.new w8 32 #[.bool false, .string ⟨#[]⟩, .bool false, .string ⟨#[]⟩, .bool false, .string ⟨#[]⟩, .bool false, .string ⟨#[]⟩]
  have z8 := GA.out _ (.cells #[.bool false, .string ⟨#[]⟩, .bool false, .string ⟨#[]⟩, .bool false, .string ⟨#[]⟩, .bool false, .string ⟨#[]⟩] 32) (G2 _ _ z7 hb8)
  have b8 := Below.alloc (b7.up hb8 b7.size) (b7.up hb8 b7.size).size (.cells #[.bool false, .string ⟨#[]⟩, .bool false, .string ⟨#[]⟩, .bool false, .string ⟨#[]⟩, .bool false, .string ⟨#[]⟩] 32)
  have u0_0 := kb0.cell 0
  have u0_1 := kb0.cell 1
  have u1_0 := kb1.cell 0
  have u1_1 := kb1.cell 1
  have u1_2 := kb1.cell 2
  have u1_3 := kb1.cell 3
  go_wp2_with (first
    | (go_at_call 33; refine (num_errno _ _).mono ?_; rintro e w' ⟨rfl, rfl⟩)
    | (go_at_call 37; refine (place_gone GG.out _ z8).mono ?_; rintro e w9 ⟨rfl, hb9⟩; have z9 := G2 _ _ z8 hb9; have b9 := b8.up hb9 b8.size)
    | (go_at_call 38; refine (left_gone GG.out _ z9).mono ?_; rintro e w10 ⟨rfl, hb10⟩; have b10 := b9.up hb10 b9.size))
  go_ret
  exact ⟨rfl, b10⟩
end Go.Proofs.Ytgmienlifnpniaa
