import Derived.Test.YtebpggfccljagaaGreatDoorC6
/- ref30.SameArg (printed by gen_same.py). -/
namespace Go.Proofs.YtebpggfccljagaaGreatDoor
open Go.RowKit
open Wh
set_option linter.unusedSimpArgs false
set_option linter.unusedVariables false

set_option maxRecDepth 100000 in
set_option maxHeartbeats 2000000 in
theorem same_0 {w : World} {B : Nat} {k ct : Int} {nm : ByteArray} {n0 n1 n2 n3 : Bool} {s0 s1 s2 s3 : ByteArray} {A : Option Addr} {n c : Nat} {l : List Int} {kx ctx : Int} {nmx : ByteArray} {n0x n1x n2x n3x : Bool} {s0x s1x s2x s3x : ByteArray} {Ax : Option Addr} {nx cx : Nat} {lx : List Int} (hr : ReadsI w B A l) (hrx : ReadsI w B Ax lx) (hB : B ≤ w.heap.size) (hn : n = l.length) (hnx : nx = lx.length) (hnl : n ≤ 1000000000) (hnlx : nx ≤ 1000000000) (e0 : ¬ l = lx) :
    Calls Tryz.prog 41 #[.agg #[.int .i64 k, .string nm, .bool n0, .string s0, .bool n1, .string s1, .bool n2, .string s2, .bool n3, .string s3, .slice A n c, .int .i64 ct], .agg #[.int .i64 kx, .string nmx, .bool n0x, .string s0x, .bool n1x, .string s1x, .bool n2x, .string s2x, .bool n3x, .string s3x, .slice Ax nx cx, .int .i64 ctx]] w (fun e w' => e = .returned (.bool false) ∧ Below w.heap.size w w') := by
  have HS : Hid (∀ W, Below w.heap.size w W → Calls Tryz.prog 31 #[.slice A n c, .slice Ax nx cx] W (fun e w' => ∃ d, e = .returned (.bool false) ∧ W.drewN d = w')) := Lib.hid fun W hb => (same_any ((hr.more hB).below hb) ((hrx.more hB).below hb) hn hnx hnl hnlx).mono fun e w' ⟨d, h1, h2⟩ => ⟨d, by rw [h1, decide_eq_false e0], h2⟩
  clear hr hrx hn hnx hnl hnlx e0
  have hbx := Box.new w 41 #[.int .i64 k, .string nm, .bool n0, .string s0, .bool n1, .string s1, .bool n2, .string s2, .bool n3, .string s3, .slice A n c, .int .i64 ct]
  have hby := Box.new (w.alloc (.cells #[.int .i64 k, .string nm, .bool n0, .string s0, .bool n1, .string s1, .bool n2, .string s2, .bool n3, .string s3, .slice A n c, .int .i64 ct] 41)) 41 #[.int .i64 kx, .string nmx, .bool n0x, .string s0x, .bool n1x, .string s1x, .bool n2x, .string s2x, .bool n3x, .string s3x, .slice Ax nx cx, .int .i64 ctx]
  have hbw := hbx.2.trans (hby.2.mono hbx.2.size)
  have hk := hbx.1.below hby.2 hbx.1.lt
  have c0 := hk.cell 0; have d0 := hby.1.cell 0; have c1 := hk.cell 1; have d1 := hby.1.cell 1; have c2 := hk.cell 2; have d2 := hby.1.cell 2; have c3 := hk.cell 3; have d3 := hby.1.cell 3; have c4 := hk.cell 4; have d4 := hby.1.cell 4; have c5 := hk.cell 5; have d5 := hby.1.cell 5; have c6 := hk.cell 6; have d6 := hby.1.cell 6; have c7 := hk.cell 7; have d7 := hby.1.cell 7; have c8 := hk.cell 8; have d8 := hby.1.cell 8; have c9 := hk.cell 9; have d9 := hby.1.cell 9; have c10 := hk.cell 10; have d10 := hby.1.cell 10; have c11 := hk.cell 11; have d11 := hby.1.cell 11
  go_enter Tryz.func41, Tryz.ntmps41
  go_wp2_with (go_at_call 31; (with_reducible refine (HS.out _ ?_).mono ?_); (first | exact hbw | skip); rintro _ _ ⟨d, rfl, rfl⟩)
  go_ret
  exact ⟨rfl, ⟨hbw.os, hbw.tape, hbw.output, hbw.size, hbw.block⟩⟩
set_option maxRecDepth 100000 in
set_option maxHeartbeats 2000000 in
theorem same_1 {w : World} {B : Nat} {k ct : Int} {nm : ByteArray} {n0 n1 n2 n3 : Bool} {s0 s1 s2 s3 : ByteArray} {A : Option Addr} {n c : Nat} {l : List Int} {kx ctx : Int} {nmx : ByteArray} {n0x n1x n2x n3x : Bool} {s0x s1x s2x s3x : ByteArray} {Ax : Option Addr} {nx cx : Nat} {lx : List Int} (hr : ReadsI w B A l) (hrx : ReadsI w B Ax lx) (hB : B ≤ w.heap.size) (hn : n = l.length) (hnx : nx = lx.length) (hnl : n ≤ 1000000000) (hnlx : nx ≤ 1000000000) (e0 : l = lx) (e1 : ¬ k = kx) :
    Calls Tryz.prog 41 #[.agg #[.int .i64 k, .string nm, .bool n0, .string s0, .bool n1, .string s1, .bool n2, .string s2, .bool n3, .string s3, .slice A n c, .int .i64 ct], .agg #[.int .i64 kx, .string nmx, .bool n0x, .string s0x, .bool n1x, .string s1x, .bool n2x, .string s2x, .bool n3x, .string s3x, .slice Ax nx cx, .int .i64 ctx]] w (fun e w' => e = .returned (.bool false) ∧ Below w.heap.size w w') := by
  have HS : Hid (∀ W, Below w.heap.size w W → Calls Tryz.prog 31 #[.slice A n c, .slice Ax nx cx] W (fun e w' => ∃ d, e = .returned (.bool true) ∧ W.drewN d = w')) := Lib.hid fun W hb => (same_any ((hr.more hB).below hb) ((hrx.more hB).below hb) hn hnx hnl hnlx).mono fun e w' ⟨d, h1, h2⟩ => ⟨d, by rw [h1, decide_eq_true e0], h2⟩
  clear hr hrx hn hnx hnl hnlx e0
  have e1b : (k == kx) = false := by simpa using e1
  have hbx := Box.new w 41 #[.int .i64 k, .string nm, .bool n0, .string s0, .bool n1, .string s1, .bool n2, .string s2, .bool n3, .string s3, .slice A n c, .int .i64 ct]
  have hby := Box.new (w.alloc (.cells #[.int .i64 k, .string nm, .bool n0, .string s0, .bool n1, .string s1, .bool n2, .string s2, .bool n3, .string s3, .slice A n c, .int .i64 ct] 41)) 41 #[.int .i64 kx, .string nmx, .bool n0x, .string s0x, .bool n1x, .string s1x, .bool n2x, .string s2x, .bool n3x, .string s3x, .slice Ax nx cx, .int .i64 ctx]
  have hbw := hbx.2.trans (hby.2.mono hbx.2.size)
  have hk := hbx.1.below hby.2 hbx.1.lt
  have c0 := hk.cell 0; have d0 := hby.1.cell 0; have c1 := hk.cell 1; have d1 := hby.1.cell 1; have c2 := hk.cell 2; have d2 := hby.1.cell 2; have c3 := hk.cell 3; have d3 := hby.1.cell 3; have c4 := hk.cell 4; have d4 := hby.1.cell 4; have c5 := hk.cell 5; have d5 := hby.1.cell 5; have c6 := hk.cell 6; have d6 := hby.1.cell 6; have c7 := hk.cell 7; have d7 := hby.1.cell 7; have c8 := hk.cell 8; have d8 := hby.1.cell 8; have c9 := hk.cell 9; have d9 := hby.1.cell 9; have c10 := hk.cell 10; have d10 := hby.1.cell 10; have c11 := hk.cell 11; have d11 := hby.1.cell 11
  go_enter Tryz.func41, Tryz.ntmps41
  go_wp2_with (go_at_call 31; (with_reducible refine (HS.out _ ?_).mono ?_); (first | exact hbw | skip); rintro _ _ ⟨d, rfl, rfl⟩)
  go_ret
  exact ⟨rfl, ⟨hbw.os, hbw.tape, hbw.output, hbw.size, hbw.block⟩⟩
set_option maxRecDepth 100000 in
set_option maxHeartbeats 2000000 in
theorem same_2 {w : World} {B : Nat} {k ct : Int} {nm : ByteArray} {n0 n1 n2 n3 : Bool} {s0 s1 s2 s3 : ByteArray} {A : Option Addr} {n c : Nat} {l : List Int} {kx ctx : Int} {nmx : ByteArray} {n0x n1x n2x n3x : Bool} {s0x s1x s2x s3x : ByteArray} {Ax : Option Addr} {nx cx : Nat} {lx : List Int} (hr : ReadsI w B A l) (hrx : ReadsI w B Ax lx) (hB : B ≤ w.heap.size) (hn : n = l.length) (hnx : nx = lx.length) (hnl : n ≤ 1000000000) (hnlx : nx ≤ 1000000000) (e0 : l = lx) (e1 : k = kx) (e2 : ¬ nm = nmx) :
    Calls Tryz.prog 41 #[.agg #[.int .i64 k, .string nm, .bool n0, .string s0, .bool n1, .string s1, .bool n2, .string s2, .bool n3, .string s3, .slice A n c, .int .i64 ct], .agg #[.int .i64 kx, .string nmx, .bool n0x, .string s0x, .bool n1x, .string s1x, .bool n2x, .string s2x, .bool n3x, .string s3x, .slice Ax nx cx, .int .i64 ctx]] w (fun e w' => e = .returned (.bool false) ∧ Below w.heap.size w w') := by
  have HS : Hid (∀ W, Below w.heap.size w W → Calls Tryz.prog 31 #[.slice A n c, .slice Ax nx cx] W (fun e w' => ∃ d, e = .returned (.bool true) ∧ W.drewN d = w')) := Lib.hid fun W hb => (same_any ((hr.more hB).below hb) ((hrx.more hB).below hb) hn hnx hnl hnlx).mono fun e w' ⟨d, h1, h2⟩ => ⟨d, by rw [h1, decide_eq_true e0], h2⟩
  clear hr hrx hn hnx hnl hnlx e0
  subst e1
  have e2a : ¬ nm.toList = nmx.toList := fun h => e2 (tl_inj h)
  have e2b : (nm.toList == nmx.toList) = false := by simpa using e2a
  have hbx := Box.new w 41 #[.int .i64 k, .string nm, .bool n0, .string s0, .bool n1, .string s1, .bool n2, .string s2, .bool n3, .string s3, .slice A n c, .int .i64 ct]
  have hby := Box.new (w.alloc (.cells #[.int .i64 k, .string nm, .bool n0, .string s0, .bool n1, .string s1, .bool n2, .string s2, .bool n3, .string s3, .slice A n c, .int .i64 ct] 41)) 41 #[.int .i64 k, .string nmx, .bool n0x, .string s0x, .bool n1x, .string s1x, .bool n2x, .string s2x, .bool n3x, .string s3x, .slice Ax nx cx, .int .i64 ctx]
  have hbw := hbx.2.trans (hby.2.mono hbx.2.size)
  have hk := hbx.1.below hby.2 hbx.1.lt
  have c0 := hk.cell 0; have d0 := hby.1.cell 0; have c1 := hk.cell 1; have d1 := hby.1.cell 1; have c2 := hk.cell 2; have d2 := hby.1.cell 2; have c3 := hk.cell 3; have d3 := hby.1.cell 3; have c4 := hk.cell 4; have d4 := hby.1.cell 4; have c5 := hk.cell 5; have d5 := hby.1.cell 5; have c6 := hk.cell 6; have d6 := hby.1.cell 6; have c7 := hk.cell 7; have d7 := hby.1.cell 7; have c8 := hk.cell 8; have d8 := hby.1.cell 8; have c9 := hk.cell 9; have d9 := hby.1.cell 9; have c10 := hk.cell 10; have d10 := hby.1.cell 10; have c11 := hk.cell 11; have d11 := hby.1.cell 11
  go_enter Tryz.func41, Tryz.ntmps41
  go_wp2_with (go_at_call 31; (with_reducible refine (HS.out _ ?_).mono ?_); (first | exact hbw | skip); rintro _ _ ⟨d, rfl, rfl⟩)
  go_ret
  exact ⟨rfl, ⟨hbw.os, hbw.tape, hbw.output, hbw.size, hbw.block⟩⟩
set_option maxRecDepth 100000 in
set_option maxHeartbeats 2000000 in
theorem same_3 {w : World} {B : Nat} {k ct : Int} {nm : ByteArray} {n0 n1 n2 n3 : Bool} {s0 s1 s2 s3 : ByteArray} {A : Option Addr} {n c : Nat} {l : List Int} {kx ctx : Int} {nmx : ByteArray} {n0x n1x n2x n3x : Bool} {s0x s1x s2x s3x : ByteArray} {Ax : Option Addr} {nx cx : Nat} {lx : List Int} (hr : ReadsI w B A l) (hrx : ReadsI w B Ax lx) (hB : B ≤ w.heap.size) (hn : n = l.length) (hnx : nx = lx.length) (hnl : n ≤ 1000000000) (hnlx : nx ≤ 1000000000) (e0 : l = lx) (e1 : k = kx) (e2 : nm = nmx) (e3 : ¬ (n0 = n0x ∧ s0 = s0x ∧ n1 = n1x ∧ s1 = s1x ∧ n2 = n2x ∧ s2 = s2x ∧ n3 = n3x ∧ s3 = s3x)) :
    Calls Tryz.prog 41 #[.agg #[.int .i64 k, .string nm, .bool n0, .string s0, .bool n1, .string s1, .bool n2, .string s2, .bool n3, .string s3, .slice A n c, .int .i64 ct], .agg #[.int .i64 kx, .string nmx, .bool n0x, .string s0x, .bool n1x, .string s1x, .bool n2x, .string s2x, .bool n3x, .string s3x, .slice Ax nx cx, .int .i64 ctx]] w (fun e w' => e = .returned (.bool false) ∧ Below w.heap.size w w') := by
  have HS : Hid (∀ W, Below w.heap.size w W → Calls Tryz.prog 31 #[.slice A n c, .slice Ax nx cx] W (fun e w' => ∃ d, e = .returned (.bool true) ∧ W.drewN d = w')) := Lib.hid fun W hb => (same_any ((hr.more hB).below hb) ((hrx.more hB).below hb) hn hnx hnl hnlx).mono fun e w' ⟨d, h1, h2⟩ => ⟨d, by rw [h1, decide_eq_true e0], h2⟩
  clear hr hrx hn hnx hnl hnlx e0
  subst e1
  subst e2
  have hzq := fun W => eql_gs n0 n0x n1 n1x n2 n2x n3 n3x s0 s0x s1 s1x s2 s2x s3 s3x W
  rw [decide_eq_false e3] at hzq
  clear e3
  have hbx := Box.new w 41 #[.int .i64 k, .string nm, .bool n0, .string s0, .bool n1, .string s1, .bool n2, .string s2, .bool n3, .string s3, .slice A n c, .int .i64 ct]
  have hby := Box.new (w.alloc (.cells #[.int .i64 k, .string nm, .bool n0, .string s0, .bool n1, .string s1, .bool n2, .string s2, .bool n3, .string s3, .slice A n c, .int .i64 ct] 41)) 41 #[.int .i64 k, .string nm, .bool n0x, .string s0x, .bool n1x, .string s1x, .bool n2x, .string s2x, .bool n3x, .string s3x, .slice Ax nx cx, .int .i64 ctx]
  have hbw := hbx.2.trans (hby.2.mono hbx.2.size)
  have hk := hbx.1.below hby.2 hbx.1.lt
  have c0 := hk.cell 0; have d0 := hby.1.cell 0; have c1 := hk.cell 1; have d1 := hby.1.cell 1; have c2 := hk.cell 2; have d2 := hby.1.cell 2; have c3 := hk.cell 3; have d3 := hby.1.cell 3; have c4 := hk.cell 4; have d4 := hby.1.cell 4; have c5 := hk.cell 5; have d5 := hby.1.cell 5; have c6 := hk.cell 6; have d6 := hby.1.cell 6; have c7 := hk.cell 7; have d7 := hby.1.cell 7; have c8 := hk.cell 8; have d8 := hby.1.cell 8; have c9 := hk.cell 9; have d9 := hby.1.cell 9; have c10 := hk.cell 10; have d10 := hby.1.cell 10; have c11 := hk.cell 11; have d11 := hby.1.cell 11
  go_enter Tryz.func41, Tryz.ntmps41
  go_wp2_with (go_at_call 31; (with_reducible refine (HS.out _ ?_).mono ?_); (first | exact hbw | skip); rintro _ _ ⟨d, rfl, rfl⟩)
  go_ret
  exact ⟨rfl, ⟨hbw.os, hbw.tape, hbw.output, hbw.size, hbw.block⟩⟩
set_option maxRecDepth 100000 in
set_option maxHeartbeats 2000000 in
theorem same_4 {w : World} {B : Nat} {k ct : Int} {nm : ByteArray} {n0 n1 n2 n3 : Bool} {s0 s1 s2 s3 : ByteArray} {A : Option Addr} {n c : Nat} {l : List Int} {kx ctx : Int} {nmx : ByteArray} {n0x n1x n2x n3x : Bool} {s0x s1x s2x s3x : ByteArray} {Ax : Option Addr} {nx cx : Nat} {lx : List Int} (hr : ReadsI w B A l) (hrx : ReadsI w B Ax lx) (hB : B ≤ w.heap.size) (hn : n = l.length) (hnx : nx = lx.length) (hnl : n ≤ 1000000000) (hnlx : nx ≤ 1000000000) (e0 : l = lx) (e1 : k = kx) (e2 : nm = nmx) (e3 : (n0 = n0x ∧ s0 = s0x ∧ n1 = n1x ∧ s1 = s1x ∧ n2 = n2x ∧ s2 = s2x ∧ n3 = n3x ∧ s3 = s3x)) (e4 : ¬ ct = ctx) :
    Calls Tryz.prog 41 #[.agg #[.int .i64 k, .string nm, .bool n0, .string s0, .bool n1, .string s1, .bool n2, .string s2, .bool n3, .string s3, .slice A n c, .int .i64 ct], .agg #[.int .i64 kx, .string nmx, .bool n0x, .string s0x, .bool n1x, .string s1x, .bool n2x, .string s2x, .bool n3x, .string s3x, .slice Ax nx cx, .int .i64 ctx]] w (fun e w' => e = .returned (.bool false) ∧ Below w.heap.size w w') := by
  have HS : Hid (∀ W, Below w.heap.size w W → Calls Tryz.prog 31 #[.slice A n c, .slice Ax nx cx] W (fun e w' => ∃ d, e = .returned (.bool true) ∧ W.drewN d = w')) := Lib.hid fun W hb => (same_any ((hr.more hB).below hb) ((hrx.more hB).below hb) hn hnx hnl hnlx).mono fun e w' ⟨d, h1, h2⟩ => ⟨d, by rw [h1, decide_eq_true e0], h2⟩
  clear hr hrx hn hnx hnl hnlx e0
  subst e1
  subst e2
  have hzq := fun W => eql_gs n0 n0x n1 n1x n2 n2x n3 n3x s0 s0x s1 s1x s2 s2x s3 s3x W
  rw [decide_eq_true e3] at hzq
  clear e3
  have e4b : (ct == ctx) = false := by simpa using e4
  have hbx := Box.new w 41 #[.int .i64 k, .string nm, .bool n0, .string s0, .bool n1, .string s1, .bool n2, .string s2, .bool n3, .string s3, .slice A n c, .int .i64 ct]
  have hby := Box.new (w.alloc (.cells #[.int .i64 k, .string nm, .bool n0, .string s0, .bool n1, .string s1, .bool n2, .string s2, .bool n3, .string s3, .slice A n c, .int .i64 ct] 41)) 41 #[.int .i64 k, .string nm, .bool n0x, .string s0x, .bool n1x, .string s1x, .bool n2x, .string s2x, .bool n3x, .string s3x, .slice Ax nx cx, .int .i64 ctx]
  have hbw := hbx.2.trans (hby.2.mono hbx.2.size)
  have hk := hbx.1.below hby.2 hbx.1.lt
  have c0 := hk.cell 0; have d0 := hby.1.cell 0; have c1 := hk.cell 1; have d1 := hby.1.cell 1; have c2 := hk.cell 2; have d2 := hby.1.cell 2; have c3 := hk.cell 3; have d3 := hby.1.cell 3; have c4 := hk.cell 4; have d4 := hby.1.cell 4; have c5 := hk.cell 5; have d5 := hby.1.cell 5; have c6 := hk.cell 6; have d6 := hby.1.cell 6; have c7 := hk.cell 7; have d7 := hby.1.cell 7; have c8 := hk.cell 8; have d8 := hby.1.cell 8; have c9 := hk.cell 9; have d9 := hby.1.cell 9; have c10 := hk.cell 10; have d10 := hby.1.cell 10; have c11 := hk.cell 11; have d11 := hby.1.cell 11
  go_enter Tryz.func41, Tryz.ntmps41
  go_wp2_with (go_at_call 31; (with_reducible refine (HS.out _ ?_).mono ?_); (first | exact hbw | skip); rintro _ _ ⟨d, rfl, rfl⟩)
  go_ret
  exact ⟨rfl, ⟨hbw.os, hbw.tape, hbw.output, hbw.size, hbw.block⟩⟩
set_option maxRecDepth 100000 in
set_option maxHeartbeats 2000000 in
theorem same_5 {w : World} {B : Nat} {k ct : Int} {nm : ByteArray} {n0 n1 n2 n3 : Bool} {s0 s1 s2 s3 : ByteArray} {A : Option Addr} {n c : Nat} {l : List Int} {kx ctx : Int} {nmx : ByteArray} {n0x n1x n2x n3x : Bool} {s0x s1x s2x s3x : ByteArray} {Ax : Option Addr} {nx cx : Nat} {lx : List Int} (hr : ReadsI w B A l) (hrx : ReadsI w B Ax lx) (hB : B ≤ w.heap.size) (hn : n = l.length) (hnx : nx = lx.length) (hnl : n ≤ 1000000000) (hnlx : nx ≤ 1000000000) (e0 : l = lx) (e1 : k = kx) (e2 : nm = nmx) (e3 : (n0 = n0x ∧ s0 = s0x ∧ n1 = n1x ∧ s1 = s1x ∧ n2 = n2x ∧ s2 = s2x ∧ n3 = n3x ∧ s3 = s3x)) (e4 : ct = ctx) :
    Calls Tryz.prog 41 #[.agg #[.int .i64 k, .string nm, .bool n0, .string s0, .bool n1, .string s1, .bool n2, .string s2, .bool n3, .string s3, .slice A n c, .int .i64 ct], .agg #[.int .i64 kx, .string nmx, .bool n0x, .string s0x, .bool n1x, .string s1x, .bool n2x, .string s2x, .bool n3x, .string s3x, .slice Ax nx cx, .int .i64 ctx]] w (fun e w' => e = .returned (.bool true) ∧ Below w.heap.size w w') := by
  have HS : Hid (∀ W, Below w.heap.size w W → Calls Tryz.prog 31 #[.slice A n c, .slice Ax nx cx] W (fun e w' => ∃ d, e = .returned (.bool true) ∧ W.drewN d = w')) := Lib.hid fun W hb => (same_any ((hr.more hB).below hb) ((hrx.more hB).below hb) hn hnx hnl hnlx).mono fun e w' ⟨d, h1, h2⟩ => ⟨d, by rw [h1, decide_eq_true e0], h2⟩
  clear hr hrx hn hnx hnl hnlx e0
  subst e1
  subst e2
  have hzq := fun W => eql_gs n0 n0x n1 n1x n2 n2x n3 n3x s0 s0x s1 s1x s2 s2x s3 s3x W
  rw [decide_eq_true e3] at hzq
  clear e3
  subst e4
  have hbx := Box.new w 41 #[.int .i64 k, .string nm, .bool n0, .string s0, .bool n1, .string s1, .bool n2, .string s2, .bool n3, .string s3, .slice A n c, .int .i64 ct]
  have hby := Box.new (w.alloc (.cells #[.int .i64 k, .string nm, .bool n0, .string s0, .bool n1, .string s1, .bool n2, .string s2, .bool n3, .string s3, .slice A n c, .int .i64 ct] 41)) 41 #[.int .i64 k, .string nm, .bool n0x, .string s0x, .bool n1x, .string s1x, .bool n2x, .string s2x, .bool n3x, .string s3x, .slice Ax nx cx, .int .i64 ct]
  have hbw := hbx.2.trans (hby.2.mono hbx.2.size)
  have hk := hbx.1.below hby.2 hbx.1.lt
  have c0 := hk.cell 0; have d0 := hby.1.cell 0; have c1 := hk.cell 1; have d1 := hby.1.cell 1; have c2 := hk.cell 2; have d2 := hby.1.cell 2; have c3 := hk.cell 3; have d3 := hby.1.cell 3; have c4 := hk.cell 4; have d4 := hby.1.cell 4; have c5 := hk.cell 5; have d5 := hby.1.cell 5; have c6 := hk.cell 6; have d6 := hby.1.cell 6; have c7 := hk.cell 7; have d7 := hby.1.cell 7; have c8 := hk.cell 8; have d8 := hby.1.cell 8; have c9 := hk.cell 9; have d9 := hby.1.cell 9; have c10 := hk.cell 10; have d10 := hby.1.cell 10; have c11 := hk.cell 11; have d11 := hby.1.cell 11
  go_enter Tryz.func41, Tryz.ntmps41
  go_wp2_with (go_at_call 31; (with_reducible refine (HS.out _ ?_).mono ?_); (first | exact hbw | skip); rintro _ _ ⟨d, rfl, rfl⟩)
  go_ret
  exact ⟨rfl, ⟨hbw.os, hbw.tape, hbw.output, hbw.size, hbw.block⟩⟩

theorem same_arg {w : World} {B : Nat} {r q : ARow} (hr : ArgR w B r) (hq : ArgR w B q) (hB : B ≤ w.heap.size) (hrl : r.2.2.wd.length ≤ 1000000000) (hql : q.2.2.wd.length ≤ 1000000000) {b : Bool} (hb : b = true ↔ r.2.2 = q.2.2) :
    Calls Tryz.prog 41 #[argV r, argV q] w (fun e w' => e = .returned (.bool b) ∧ Below w.heap.size w w') := by
  obtain ⟨A, c, k, nm, n0, s0, n1, s1, n2, s2, n3, s3, l, ct⟩ := r
  obtain ⟨Ax, cx, kx, nmx, n0x, s0x, n1x, s1x, n2x, s2x, n3x, s3x, lx, ctx⟩ := q
  have h1 := hr.wd
  have h2 := hq.wd
  by_cases e0 : l = lx
  · by_cases e1 : k = kx
    · by_cases e2 : nm = nmx
      · by_cases e3 : (n0 = n0x ∧ s0 = s0x ∧ n1 = n1x ∧ s1 = s1x ∧ n2 = n2x ∧ s2 = s2x ∧ n3 = n3x ∧ s3 = s3x)
        · by_cases e4 : ct = ctx
          · rw [hb.2 (by obtain ⟨a1, a2, a3, a4, a5, a6, a7, a8⟩ := e3; subst e0 e1 e2 e4 a1 a2 a3 a4 a5 a6 a7 a8; rfl)]
            exact same_5 h1 h2 hB rfl rfl hrl hql e0 e1 e2 e3 e4
          · rw [no_b hb fun h => e4 (congrArg ArgP.ct h)]; exact same_4 h1 h2 hB rfl rfl hrl hql e0 e1 e2 e3 e4
        · rw [no_b hb fun h => e3 (by injection h; exact ⟨‹_›, ‹_›, ‹_›, ‹_›, ‹_›, ‹_›, ‹_›, ‹_›⟩)]; exact same_3 h1 h2 hB rfl rfl hrl hql e0 e1 e2 e3
      · rw [no_b hb fun h => e2 (congrArg ArgP.nm h)]; exact same_2 h1 h2 hB rfl rfl hrl hql e0 e1 e2
    · rw [no_b hb fun h => e1 (congrArg ArgP.k h)]; exact same_1 h1 h2 hB rfl rfl hrl hql e0 e1
  · rw [no_b hb fun h => e0 (congrArg ArgP.wd h)]; exact same_0 h1 h2 hB rfl rfl hrl hql e0
end Go.Proofs.YtebpggfccljagaaGreatDoor

/- ref30.MayArg (printed by gen_rmay.py). -/
namespace Go.Proofs.YtebpggfccljagaaGreatDoor
open Go.RowKit
open Wh
set_option linter.unusedSimpArgs false
set_option linter.unusedVariables false

set_option maxRecDepth 100000 in
set_option maxHeartbeats 2000000 in
theorem rmay_1 {w : World} {B : Nat} {ct : Int} {nm : ByteArray} {n0 n1 n2 n3 : Bool} {s0 s1 s2 s3 : ByteArray} {A : Option Addr} {c : Nat} {l : List Int} (hr : ArgR w B (A, c, ⟨1, nm, n0, s0, n1, s1, n2, s2, n3, s3, l, ct⟩)) (hB : B ≤ w.heap.size) (hl : l.length ≤ 1000000000) {b : Bool} (hn : Sc.namedB nm.data.toList = true) (hnz : nm.size ≤ 9223372036854775807) (hb : b = true ↔ (⟨1, nm, n0, s0, n1, s1, n2, s2, n3, s3, l, ct⟩ : ArgP) = ⟨1, nm, false, ⟨#[]⟩, false, ⟨#[]⟩, false, ⟨#[]⟩, false, ⟨#[]⟩, [], 0⟩) :
    Calls Tryz.prog 50 #[.agg #[.int .i64 1, .string nm, .bool n0, .string s0, .bool n1, .string s1, .bool n2, .string s2, .bool n3, .string s3, .slice A l.length c, .int .i64 ct]] w (fun e w' => e = .returned (.bool b) ∧ Below w.heap.size w w') := by
  have HQ : ArgR w B (none, 0, ⟨1, nm, false, ⟨#[]⟩, false, ⟨#[]⟩, false, ⟨#[]⟩, false, ⟨#[]⟩, [], 0⟩) := ⟨⟨(by decide : (-9223372036854775808 : Int) ≤ 1), (by decide : (1 : Int) ≤ 9223372036854775807)⟩, ⟨(by decide : (-9223372036854775808 : Int) ≤ 0), (by decide : (0 : Int) ≤ 9223372036854775807)⟩, ReadsI.none_ _ _ _⟩
  have HS : Hid (∀ W, Below w.heap.size w W → Calls Tryz.prog 41 #[.agg #[.int .i64 1, .string nm, .bool n0, .string s0, .bool n1, .string s1, .bool n2, .string s2, .bool n3, .string s3, .slice A l.length c, .int .i64 ct], .agg #[.int .i64 1, .string nm, .bool false, .string ⟨#[]⟩, .bool false, .string ⟨#[]⟩, .bool false, .string ⟨#[]⟩, .bool false, .string ⟨#[]⟩, .slice none 0 0, .int .i64 0]] W (fun e w' => e = .returned (.bool b) ∧ Below W.heap.size W w')) := Lib.hid fun W hw => same_arg (r := (A, c, ⟨1, nm, n0, s0, n1, s1, n2, s2, n3, s3, l, ct⟩)) (q := (none, 0, ⟨1, nm, false, ⟨#[]⟩, false, ⟨#[]⟩, false, ⟨#[]⟩, false, ⟨#[]⟩, [], 0⟩)) ((hr.more hB).below hw) ((HQ.more hB).below hw) hw.size hl (Nat.zero_le _) hb
  clear HQ
  have HN : Hid (∀ W, Calls Tryz.prog 49 #[.string nm] W (fun e w' => e = .returned (.bool true) ∧ W = w')) := Lib.hid fun W => (rnamed_any nm W hnz).mono fun e w' h => ⟨by rw [h.1, hn], h.2⟩
  clear hn hnz
  clear hr
  clear hb
  have hbx := Box.new w 41 #[.int .i64 1, .string nm, .bool n0, .string s0, .bool n1, .string s1, .bool n2, .string s2, .bool n3, .string s3, .slice A l.length c, .int .i64 ct]
  have hby := Box.new (w.alloc (.cells #[.int .i64 1, .string nm, .bool n0, .string s0, .bool n1, .string s1, .bool n2, .string s2, .bool n3, .string s3, .slice A l.length c, .int .i64 ct] 41)) 41 #[.int .i64 1, .string nm, .bool false, .string ⟨#[]⟩, .bool false, .string ⟨#[]⟩, .bool false, .string ⟨#[]⟩, .bool false, .string ⟨#[]⟩, .slice none 0 0, .int .i64 0]
  have hbw := hbx.2.trans (hby.2.mono hbx.2.size)
  have hsz : w.heap.size < (w.alloc (.cells #[.int .i64 1, .string nm, .bool n0, .string s0, .bool n1, .string s1, .bool n2, .string s2, .bool n3, .string s3, .slice A l.length c, .int .i64 ct] 41)).heap.size := hbx.1.lt
  have hbx := hbx.1.below hby.2 hsz
  have hby : Blk _ (w.heap.size + 1) 41 #[.int .i64 1, .string nm, .bool false, .string ⟨#[]⟩, .bool false, .string ⟨#[]⟩, .bool false, .string ⟨#[]⟩, .bool false, .string ⟨#[]⟩, .slice none 0 0, .int .i64 0] := (by have := hby.1; simpa using this)
  go_enter Tryz.func50, Tryz.ntmps50
  go_wp2_with (first
      | (go_at_call 49; (with_reducible refine (HN.out _).mono ?_); rintro _ _ ⟨rfl, rfl⟩)
      | (go_at_call 41; (with_reducible refine (HS.out _ ?_).mono ?_); (first | exact hbw | skip); rintro _ _ ⟨rfl, hb2⟩; have hbw := hbw.trans (hb2.mono hbw.size)))
  go_ret
  exact ⟨rfl, hbw⟩
set_option maxRecDepth 100000 in
set_option maxHeartbeats 2000000 in
theorem rmay_1n {w : World} {B : Nat} {ct : Int} {nm : ByteArray} {n0 n1 n2 n3 : Bool} {s0 s1 s2 s3 : ByteArray} {A : Option Addr} {c : Nat} {l : List Int} (hr : ArgR w B (A, c, ⟨1, nm, n0, s0, n1, s1, n2, s2, n3, s3, l, ct⟩)) (hB : B ≤ w.heap.size) (hl : l.length ≤ 1000000000) (hn : Sc.namedB nm.data.toList = false) (hnz : nm.size ≤ 9223372036854775807) :
    Calls Tryz.prog 50 #[.agg #[.int .i64 1, .string nm, .bool n0, .string s0, .bool n1, .string s1, .bool n2, .string s2, .bool n3, .string s3, .slice A l.length c, .int .i64 ct]] w (fun e w' => e = .returned (.bool false) ∧ Below w.heap.size w w') := by
  have HN : Hid (∀ W, Calls Tryz.prog 49 #[.string nm] W (fun e w' => e = .returned (.bool false) ∧ W = w')) := Lib.hid fun W => (rnamed_any nm W hnz).mono fun e w' h => ⟨by rw [h.1, hn], h.2⟩
  clear hn hnz
  clear hr
  have hbx := Box.new w 41 #[.int .i64 1, .string nm, .bool n0, .string s0, .bool n1, .string s1, .bool n2, .string s2, .bool n3, .string s3, .slice A l.length c, .int .i64 ct]
  have hby := Box.new (w.alloc (.cells #[.int .i64 1, .string nm, .bool n0, .string s0, .bool n1, .string s1, .bool n2, .string s2, .bool n3, .string s3, .slice A l.length c, .int .i64 ct] 41)) 41 #[.int .i64 1, .string nm, .bool false, .string ⟨#[]⟩, .bool false, .string ⟨#[]⟩, .bool false, .string ⟨#[]⟩, .bool false, .string ⟨#[]⟩, .slice none 0 0, .int .i64 0]
  have hbw := hbx.2.trans (hby.2.mono hbx.2.size)
  have hsz : w.heap.size < (w.alloc (.cells #[.int .i64 1, .string nm, .bool n0, .string s0, .bool n1, .string s1, .bool n2, .string s2, .bool n3, .string s3, .slice A l.length c, .int .i64 ct] 41)).heap.size := hbx.1.lt
  have hbx := hbx.1.below hby.2 hsz
  have hby : Blk _ (w.heap.size + 1) 41 #[.int .i64 1, .string nm, .bool false, .string ⟨#[]⟩, .bool false, .string ⟨#[]⟩, .bool false, .string ⟨#[]⟩, .bool false, .string ⟨#[]⟩, .slice none 0 0, .int .i64 0] := (by have := hby.1; simpa using this)
  go_enter Tryz.func50, Tryz.ntmps50
  go_wp2_with (go_at_call 49; (with_reducible refine (HN.out _).mono ?_); rintro _ _ ⟨rfl, rfl⟩)
  go_ret
  exact ⟨rfl, hbw⟩
set_option maxRecDepth 100000 in
set_option maxHeartbeats 2000000 in
theorem rmay_2 {w : World} {B : Nat} {ct : Int} {nm : ByteArray} {n0 n1 n2 n3 : Bool} {s0 s1 s2 s3 : ByteArray} {A : Option Addr} {c : Nat} {l : List Int} (hr : ArgR w B (A, c, ⟨2, nm, n0, s0, n1, s1, n2, s2, n3, s3, l, ct⟩)) (hB : B ≤ w.heap.size) (hl : l.length ≤ 1000000000) {b : Bool} (hg : MayGs n0 s0 n1 s1 n2 s2 n3 s3) (hb : b = true ↔ (⟨2, nm, n0, s0, n1, s1, n2, s2, n3, s3, l, ct⟩ : ArgP) = ⟨2, ⟨#[]⟩, n0, s0, n1, s1, n2, s2, n3, s3, [], 0⟩) :
    Calls Tryz.prog 50 #[.agg #[.int .i64 2, .string nm, .bool n0, .string s0, .bool n1, .string s1, .bool n2, .string s2, .bool n3, .string s3, .slice A l.length c, .int .i64 ct]] w (fun e w' => e = .returned (.bool b) ∧ Below w.heap.size w w') := by
  have HQ : ArgR w B (none, 0, ⟨2, ⟨#[]⟩, n0, s0, n1, s1, n2, s2, n3, s3, [], 0⟩) := ⟨⟨(by decide : (-9223372036854775808 : Int) ≤ 2), (by decide : (2 : Int) ≤ 9223372036854775807)⟩, ⟨(by decide : (-9223372036854775808 : Int) ≤ 0), (by decide : (0 : Int) ≤ 9223372036854775807)⟩, ReadsI.none_ _ _ _⟩
  have HS : Hid (∀ W, Below w.heap.size w W → Calls Tryz.prog 41 #[.agg #[.int .i64 2, .string nm, .bool n0, .string s0, .bool n1, .string s1, .bool n2, .string s2, .bool n3, .string s3, .slice A l.length c, .int .i64 ct], .agg #[.int .i64 2, .string ⟨#[]⟩, .bool n0, .string s0, .bool n1, .string s1, .bool n2, .string s2, .bool n3, .string s3, .slice none 0 0, .int .i64 0]] W (fun e w' => e = .returned (.bool b) ∧ Below W.heap.size W w')) := Lib.hid fun W hw => same_arg (r := (A, c, ⟨2, nm, n0, s0, n1, s1, n2, s2, n3, s3, l, ct⟩)) (q := (none, 0, ⟨2, ⟨#[]⟩, n0, s0, n1, s1, n2, s2, n3, s3, [], 0⟩)) ((hr.more hB).below hw) ((HQ.more hB).below hw) hw.size hl (Nat.zero_le _) hb
  clear HQ
  have HG : Hid (∀ W, Calls Tryz.prog 77 #[.agg #[.bool n0, .string s0, .bool n1, .string s1, .bool n2, .string s2, .bool n3, .string s3]] W (fun e w' => e = .returned (.bool true) ∧ Below W.heap.size W w')) := Lib.hid fun W => rmayg_any ⟨fun _ => hg, fun _ => rfl⟩
  clear hg
  clear hr
  clear hb
  have hbx := Box.new w 41 #[.int .i64 2, .string nm, .bool n0, .string s0, .bool n1, .string s1, .bool n2, .string s2, .bool n3, .string s3, .slice A l.length c, .int .i64 ct]
  have hby := Box.new (w.alloc (.cells #[.int .i64 2, .string nm, .bool n0, .string s0, .bool n1, .string s1, .bool n2, .string s2, .bool n3, .string s3, .slice A l.length c, .int .i64 ct] 41)) 41 #[.int .i64 2, .string ⟨#[]⟩, .bool n0, .string s0, .bool n1, .string s1, .bool n2, .string s2, .bool n3, .string s3, .slice none 0 0, .int .i64 0]
  have hbw := hbx.2.trans (hby.2.mono hbx.2.size)
  have hsz : w.heap.size < (w.alloc (.cells #[.int .i64 2, .string nm, .bool n0, .string s0, .bool n1, .string s1, .bool n2, .string s2, .bool n3, .string s3, .slice A l.length c, .int .i64 ct] 41)).heap.size := hbx.1.lt
  have hbx := hbx.1.below hby.2 hsz
  have hby : Blk _ (w.heap.size + 1) 41 #[.int .i64 2, .string ⟨#[]⟩, .bool n0, .string s0, .bool n1, .string s1, .bool n2, .string s2, .bool n3, .string s3, .slice none 0 0, .int .i64 0] := (by have := hby.1; simpa using this)
  go_enter Tryz.func50, Tryz.ntmps50
  go_wp2_with (first
      | (go_at_call 77; (with_reducible refine (HG.out _).mono ?_); rintro _ W1 ⟨rfl, hb1⟩; have hbx := hbx.below hb1 hbx.lt; have hby := hby.below hb1 hby.lt; have hbw := hbw.trans (hb1.mono hbw.size); have c0 := hbx.cell 0; have d0 := hby.cell 0; have c1 := hbx.cell 1; have d1 := hby.cell 1; have c2 := hbx.cell 2; have d2 := hby.cell 2; have c3 := hbx.cell 3; have d3 := hby.cell 3; have c4 := hbx.cell 4; have d4 := hby.cell 4; have c5 := hbx.cell 5; have d5 := hby.cell 5; have c6 := hbx.cell 6; have d6 := hby.cell 6; have c7 := hbx.cell 7; have d7 := hby.cell 7; have c8 := hbx.cell 8; have d8 := hby.cell 8; have c9 := hbx.cell 9; have d9 := hby.cell 9; have c10 := hbx.cell 10; have d10 := hby.cell 10; have c11 := hbx.cell 11; have d11 := hby.cell 11; clear hb1)
      | (go_at_call 41; (with_reducible refine (HS.out _ ?_).mono ?_); (first | exact hbw | skip); rintro _ _ ⟨rfl, hb2⟩; have hbw := hbw.trans (hb2.mono hbw.size)))
  go_ret
  exact ⟨rfl, hbw⟩
set_option maxRecDepth 100000 in
set_option maxHeartbeats 2000000 in
theorem rmay_2n {w : World} {B : Nat} {ct : Int} {nm : ByteArray} {n0 n1 n2 n3 : Bool} {s0 s1 s2 s3 : ByteArray} {A : Option Addr} {c : Nat} {l : List Int} (hr : ArgR w B (A, c, ⟨2, nm, n0, s0, n1, s1, n2, s2, n3, s3, l, ct⟩)) (hB : B ≤ w.heap.size) (hl : l.length ≤ 1000000000) (hg : ¬ MayGs n0 s0 n1 s1 n2 s2 n3 s3) :
    Calls Tryz.prog 50 #[.agg #[.int .i64 2, .string nm, .bool n0, .string s0, .bool n1, .string s1, .bool n2, .string s2, .bool n3, .string s3, .slice A l.length c, .int .i64 ct]] w (fun e w' => e = .returned (.bool false) ∧ Below w.heap.size w w') := by
  have HG : Hid (∀ W, Calls Tryz.prog 77 #[.agg #[.bool n0, .string s0, .bool n1, .string s1, .bool n2, .string s2, .bool n3, .string s3]] W (fun e w' => e = .returned (.bool false) ∧ Below W.heap.size W w')) := Lib.hid fun W => rmayg_any ⟨fun h => (by cases h), fun h => absurd h hg⟩
  clear hg
  clear hr
  have hbx := Box.new w 41 #[.int .i64 2, .string nm, .bool n0, .string s0, .bool n1, .string s1, .bool n2, .string s2, .bool n3, .string s3, .slice A l.length c, .int .i64 ct]
  have hby := Box.new (w.alloc (.cells #[.int .i64 2, .string nm, .bool n0, .string s0, .bool n1, .string s1, .bool n2, .string s2, .bool n3, .string s3, .slice A l.length c, .int .i64 ct] 41)) 41 #[.int .i64 2, .string ⟨#[]⟩, .bool n0, .string s0, .bool n1, .string s1, .bool n2, .string s2, .bool n3, .string s3, .slice none 0 0, .int .i64 0]
  have hbw := hbx.2.trans (hby.2.mono hbx.2.size)
  have hsz : w.heap.size < (w.alloc (.cells #[.int .i64 2, .string nm, .bool n0, .string s0, .bool n1, .string s1, .bool n2, .string s2, .bool n3, .string s3, .slice A l.length c, .int .i64 ct] 41)).heap.size := hbx.1.lt
  have hbx := hbx.1.below hby.2 hsz
  have hby : Blk _ (w.heap.size + 1) 41 #[.int .i64 2, .string ⟨#[]⟩, .bool n0, .string s0, .bool n1, .string s1, .bool n2, .string s2, .bool n3, .string s3, .slice none 0 0, .int .i64 0] := (by have := hby.1; simpa using this)
  go_enter Tryz.func50, Tryz.ntmps50
  go_wp2_with (go_at_call 77; (with_reducible refine (HG.out _).mono ?_); rintro _ W1 ⟨rfl, hb1⟩; have hbx := hbx.below hb1 hbx.lt; have hby := hby.below hb1 hby.lt; have hbw := hbw.trans (hb1.mono hbw.size); have c0 := hbx.cell 0; have d0 := hby.cell 0; have c1 := hbx.cell 1; have d1 := hby.cell 1; have c2 := hbx.cell 2; have d2 := hby.cell 2; have c3 := hbx.cell 3; have d3 := hby.cell 3; have c4 := hbx.cell 4; have d4 := hby.cell 4; have c5 := hbx.cell 5; have d5 := hby.cell 5; have c6 := hbx.cell 6; have d6 := hby.cell 6; have c7 := hbx.cell 7; have d7 := hby.cell 7; have c8 := hbx.cell 8; have d8 := hby.cell 8; have c9 := hbx.cell 9; have d9 := hby.cell 9; have c10 := hbx.cell 10; have d10 := hby.cell 10; have c11 := hbx.cell 11; have d11 := hby.cell 11; clear hb1)
  go_ret
  exact ⟨rfl, hbw⟩
set_option maxRecDepth 100000 in
set_option maxHeartbeats 2000000 in
theorem rmay_3 {w : World} {B : Nat} {ct : Int} {nm : ByteArray} {n0 n1 n2 n3 : Bool} {s0 s1 s2 s3 : ByteArray} {A : Option Addr} {c : Nat} {l : List Int} (hr : ArgR w B (A, c, ⟨3, nm, n0, s0, n1, s1, n2, s2, n3, s3, l, ct⟩)) (hB : B ≤ w.heap.size) (hl : l.length ≤ 1000000000) {b : Bool} (hb : b = true ↔ (⟨3, nm, n0, s0, n1, s1, n2, s2, n3, s3, l, ct⟩ : ArgP) = ⟨3, ⟨#[]⟩, false, ⟨#[]⟩, false, ⟨#[]⟩, false, ⟨#[]⟩, false, ⟨#[]⟩, [], 0⟩) :
    Calls Tryz.prog 50 #[.agg #[.int .i64 3, .string nm, .bool n0, .string s0, .bool n1, .string s1, .bool n2, .string s2, .bool n3, .string s3, .slice A l.length c, .int .i64 ct]] w (fun e w' => e = .returned (.bool b) ∧ Below w.heap.size w w') := by
  have HQ : ArgR w B (none, 0, ⟨3, ⟨#[]⟩, false, ⟨#[]⟩, false, ⟨#[]⟩, false, ⟨#[]⟩, false, ⟨#[]⟩, [], 0⟩) := ⟨⟨(by decide : (-9223372036854775808 : Int) ≤ 3), (by decide : (3 : Int) ≤ 9223372036854775807)⟩, ⟨(by decide : (-9223372036854775808 : Int) ≤ 0), (by decide : (0 : Int) ≤ 9223372036854775807)⟩, ReadsI.none_ _ _ _⟩
  have HS : Hid (∀ W, Below w.heap.size w W → Calls Tryz.prog 41 #[.agg #[.int .i64 3, .string nm, .bool n0, .string s0, .bool n1, .string s1, .bool n2, .string s2, .bool n3, .string s3, .slice A l.length c, .int .i64 ct], .agg #[.int .i64 3, .string ⟨#[]⟩, .bool false, .string ⟨#[]⟩, .bool false, .string ⟨#[]⟩, .bool false, .string ⟨#[]⟩, .bool false, .string ⟨#[]⟩, .slice none 0 0, .int .i64 0]] W (fun e w' => e = .returned (.bool b) ∧ Below W.heap.size W w')) := Lib.hid fun W hw => same_arg (r := (A, c, ⟨3, nm, n0, s0, n1, s1, n2, s2, n3, s3, l, ct⟩)) (q := (none, 0, ⟨3, ⟨#[]⟩, false, ⟨#[]⟩, false, ⟨#[]⟩, false, ⟨#[]⟩, false, ⟨#[]⟩, [], 0⟩)) ((hr.more hB).below hw) ((HQ.more hB).below hw) hw.size hl (Nat.zero_le _) hb
  clear HQ
  clear hr
  clear hb
  have hbx := Box.new w 41 #[.int .i64 3, .string nm, .bool n0, .string s0, .bool n1, .string s1, .bool n2, .string s2, .bool n3, .string s3, .slice A l.length c, .int .i64 ct]
  have hby := Box.new (w.alloc (.cells #[.int .i64 3, .string nm, .bool n0, .string s0, .bool n1, .string s1, .bool n2, .string s2, .bool n3, .string s3, .slice A l.length c, .int .i64 ct] 41)) 41 #[.int .i64 3, .string ⟨#[]⟩, .bool false, .string ⟨#[]⟩, .bool false, .string ⟨#[]⟩, .bool false, .string ⟨#[]⟩, .bool false, .string ⟨#[]⟩, .slice none 0 0, .int .i64 0]
  have hbw := hbx.2.trans (hby.2.mono hbx.2.size)
  have hsz : w.heap.size < (w.alloc (.cells #[.int .i64 3, .string nm, .bool n0, .string s0, .bool n1, .string s1, .bool n2, .string s2, .bool n3, .string s3, .slice A l.length c, .int .i64 ct] 41)).heap.size := hbx.1.lt
  have hbx := hbx.1.below hby.2 hsz
  have hby : Blk _ (w.heap.size + 1) 41 #[.int .i64 3, .string ⟨#[]⟩, .bool false, .string ⟨#[]⟩, .bool false, .string ⟨#[]⟩, .bool false, .string ⟨#[]⟩, .bool false, .string ⟨#[]⟩, .slice none 0 0, .int .i64 0] := (by have := hby.1; simpa using this)
  go_enter Tryz.func50, Tryz.ntmps50
  go_wp2_with (go_at_call 41; (with_reducible refine (HS.out _ ?_).mono ?_); (first | exact hbw | skip); rintro _ _ ⟨rfl, hb2⟩; have hbw := hbw.trans (hb2.mono hbw.size))
  go_ret
  exact ⟨rfl, hbw⟩
set_option maxRecDepth 100000 in
set_option maxHeartbeats 2000000 in
theorem rmay_5 {w : World} {B : Nat} {ct : Int} {nm : ByteArray} {n0 n1 n2 n3 : Bool} {s0 s1 s2 s3 : ByteArray} {A : Option Addr} {c : Nat} {l : List Int} (hr : ArgR w B (A, c, ⟨5, nm, n0, s0, n1, s1, n2, s2, n3, s3, l, ct⟩)) (hB : B ≤ w.heap.size) (hl : l.length ≤ 1000000000) {b : Bool} (h1 : 0 ≤ ct) (h2 : ct ≤ 2147483647) (hb : b = true ↔ (⟨5, nm, n0, s0, n1, s1, n2, s2, n3, s3, l, ct⟩ : ArgP) = ⟨5, ⟨#[]⟩, false, ⟨#[]⟩, false, ⟨#[]⟩, false, ⟨#[]⟩, false, ⟨#[]⟩, [], ct⟩) :
    Calls Tryz.prog 50 #[.agg #[.int .i64 5, .string nm, .bool n0, .string s0, .bool n1, .string s1, .bool n2, .string s2, .bool n3, .string s3, .slice A l.length c, .int .i64 ct]] w (fun e w' => e = .returned (.bool b) ∧ Below w.heap.size w w') := by
  have HQ : ArgR w B (none, 0, ⟨5, ⟨#[]⟩, false, ⟨#[]⟩, false, ⟨#[]⟩, false, ⟨#[]⟩, false, ⟨#[]⟩, [], ct⟩) := ⟨⟨(by decide : (-9223372036854775808 : Int) ≤ 5), (by decide : (5 : Int) ≤ 9223372036854775807)⟩, hr.cz, ReadsI.none_ _ _ _⟩
  have HS : Hid (∀ W, Below w.heap.size w W → Calls Tryz.prog 41 #[.agg #[.int .i64 5, .string nm, .bool n0, .string s0, .bool n1, .string s1, .bool n2, .string s2, .bool n3, .string s3, .slice A l.length c, .int .i64 ct], .agg #[.int .i64 5, .string ⟨#[]⟩, .bool false, .string ⟨#[]⟩, .bool false, .string ⟨#[]⟩, .bool false, .string ⟨#[]⟩, .bool false, .string ⟨#[]⟩, .slice none 0 0, .int .i64 ct]] W (fun e w' => e = .returned (.bool b) ∧ Below W.heap.size W w')) := Lib.hid fun W hw => same_arg (r := (A, c, ⟨5, nm, n0, s0, n1, s1, n2, s2, n3, s3, l, ct⟩)) (q := (none, 0, ⟨5, ⟨#[]⟩, false, ⟨#[]⟩, false, ⟨#[]⟩, false, ⟨#[]⟩, false, ⟨#[]⟩, [], ct⟩)) ((hr.more hB).below hw) ((HQ.more hB).below hw) hw.size hl (Nat.zero_le _) hb
  clear HQ
  clear hr
  clear hb
  have hbx := Box.new w 41 #[.int .i64 5, .string nm, .bool n0, .string s0, .bool n1, .string s1, .bool n2, .string s2, .bool n3, .string s3, .slice A l.length c, .int .i64 ct]
  have hby := Box.new (w.alloc (.cells #[.int .i64 5, .string nm, .bool n0, .string s0, .bool n1, .string s1, .bool n2, .string s2, .bool n3, .string s3, .slice A l.length c, .int .i64 ct] 41)) 41 #[.int .i64 5, .string ⟨#[]⟩, .bool false, .string ⟨#[]⟩, .bool false, .string ⟨#[]⟩, .bool false, .string ⟨#[]⟩, .bool false, .string ⟨#[]⟩, .slice none 0 0, .int .i64 ct]
  have hbw := hbx.2.trans (hby.2.mono hbx.2.size)
  have hsz : w.heap.size < (w.alloc (.cells #[.int .i64 5, .string nm, .bool n0, .string s0, .bool n1, .string s1, .bool n2, .string s2, .bool n3, .string s3, .slice A l.length c, .int .i64 ct] 41)).heap.size := hbx.1.lt
  have hbx := hbx.1.below hby.2 hsz
  have hby : Blk _ (w.heap.size + 1) 41 #[.int .i64 5, .string ⟨#[]⟩, .bool false, .string ⟨#[]⟩, .bool false, .string ⟨#[]⟩, .bool false, .string ⟨#[]⟩, .bool false, .string ⟨#[]⟩, .slice none 0 0, .int .i64 ct] := (by have := hby.1; simpa using this)
  go_enter Tryz.func50, Tryz.ntmps50
  go_wp2_with (go_at_call 41; (with_reducible refine (HS.out _ ?_).mono ?_); (first | exact hbw | skip); rintro _ _ ⟨rfl, hb2⟩; have hbw := hbw.trans (hb2.mono hbw.size))
  go_ret
  exact ⟨rfl, hbw⟩
set_option maxRecDepth 100000 in
set_option maxHeartbeats 2000000 in
theorem rmay_5n {w : World} {B : Nat} {ct : Int} {nm : ByteArray} {n0 n1 n2 n3 : Bool} {s0 s1 s2 s3 : ByteArray} {A : Option Addr} {c : Nat} {l : List Int} (hr : ArgR w B (A, c, ⟨5, nm, n0, s0, n1, s1, n2, s2, n3, s3, l, ct⟩)) (hB : B ≤ w.heap.size) (hl : l.length ≤ 1000000000) (h1 : ¬ 0 ≤ ct) :
    Calls Tryz.prog 50 #[.agg #[.int .i64 5, .string nm, .bool n0, .string s0, .bool n1, .string s1, .bool n2, .string s2, .bool n3, .string s3, .slice A l.length c, .int .i64 ct]] w (fun e w' => e = .returned (.bool false) ∧ Below w.heap.size w w') := by
  clear hr
  have hbx := Box.new w 41 #[.int .i64 5, .string nm, .bool n0, .string s0, .bool n1, .string s1, .bool n2, .string s2, .bool n3, .string s3, .slice A l.length c, .int .i64 ct]
  have hby := Box.new (w.alloc (.cells #[.int .i64 5, .string nm, .bool n0, .string s0, .bool n1, .string s1, .bool n2, .string s2, .bool n3, .string s3, .slice A l.length c, .int .i64 ct] 41)) 41 #[.int .i64 5, .string ⟨#[]⟩, .bool false, .string ⟨#[]⟩, .bool false, .string ⟨#[]⟩, .bool false, .string ⟨#[]⟩, .bool false, .string ⟨#[]⟩, .slice none 0 0, .int .i64 ct]
  have hbw := hbx.2.trans (hby.2.mono hbx.2.size)
  have hsz : w.heap.size < (w.alloc (.cells #[.int .i64 5, .string nm, .bool n0, .string s0, .bool n1, .string s1, .bool n2, .string s2, .bool n3, .string s3, .slice A l.length c, .int .i64 ct] 41)).heap.size := hbx.1.lt
  have hbx := hbx.1.below hby.2 hsz
  have hby : Blk _ (w.heap.size + 1) 41 #[.int .i64 5, .string ⟨#[]⟩, .bool false, .string ⟨#[]⟩, .bool false, .string ⟨#[]⟩, .bool false, .string ⟨#[]⟩, .bool false, .string ⟨#[]⟩, .slice none 0 0, .int .i64 ct] := (by have := hby.1; simpa using this)
  go_enter Tryz.func50, Tryz.ntmps50
  go_wp2_with fail
  go_ret
  exact ⟨rfl, hbw⟩
set_option maxRecDepth 100000 in
set_option maxHeartbeats 2000000 in
theorem rmay_5m {w : World} {B : Nat} {ct : Int} {nm : ByteArray} {n0 n1 n2 n3 : Bool} {s0 s1 s2 s3 : ByteArray} {A : Option Addr} {c : Nat} {l : List Int} (hr : ArgR w B (A, c, ⟨5, nm, n0, s0, n1, s1, n2, s2, n3, s3, l, ct⟩)) (hB : B ≤ w.heap.size) (hl : l.length ≤ 1000000000) (h1 : 0 ≤ ct) (h2 : ¬ ct ≤ 2147483647) :
    Calls Tryz.prog 50 #[.agg #[.int .i64 5, .string nm, .bool n0, .string s0, .bool n1, .string s1, .bool n2, .string s2, .bool n3, .string s3, .slice A l.length c, .int .i64 ct]] w (fun e w' => e = .returned (.bool false) ∧ Below w.heap.size w w') := by
  clear hr
  have hbx := Box.new w 41 #[.int .i64 5, .string nm, .bool n0, .string s0, .bool n1, .string s1, .bool n2, .string s2, .bool n3, .string s3, .slice A l.length c, .int .i64 ct]
  have hby := Box.new (w.alloc (.cells #[.int .i64 5, .string nm, .bool n0, .string s0, .bool n1, .string s1, .bool n2, .string s2, .bool n3, .string s3, .slice A l.length c, .int .i64 ct] 41)) 41 #[.int .i64 5, .string ⟨#[]⟩, .bool false, .string ⟨#[]⟩, .bool false, .string ⟨#[]⟩, .bool false, .string ⟨#[]⟩, .bool false, .string ⟨#[]⟩, .slice none 0 0, .int .i64 ct]
  have hbw := hbx.2.trans (hby.2.mono hbx.2.size)
  have hsz : w.heap.size < (w.alloc (.cells #[.int .i64 5, .string nm, .bool n0, .string s0, .bool n1, .string s1, .bool n2, .string s2, .bool n3, .string s3, .slice A l.length c, .int .i64 ct] 41)).heap.size := hbx.1.lt
  have hbx := hbx.1.below hby.2 hsz
  have hby : Blk _ (w.heap.size + 1) 41 #[.int .i64 5, .string ⟨#[]⟩, .bool false, .string ⟨#[]⟩, .bool false, .string ⟨#[]⟩, .bool false, .string ⟨#[]⟩, .bool false, .string ⟨#[]⟩, .slice none 0 0, .int .i64 ct] := (by have := hby.1; simpa using this)
  go_enter Tryz.func50, Tryz.ntmps50
  go_wp2_with fail
  go_ret
  exact ⟨rfl, hbw⟩
end Go.Proofs.YtebpggfccljagaaGreatDoor

/- ref30.MayArg, a word; joined (printed by gen_rmay4.py). -/
namespace Go.Proofs.YtebpggfccljagaaGreatDoor
open Go.RowKit
open Wh
set_option linter.unusedSimpArgs false
set_option linter.unusedVariables false

theorem all_from {l : List Int} {i : Nat} (h : (l.take i).all letA = false) : l.all letA = false := by
  rw [List.all_eq_false] at h ⊢
  obtain ⟨x, hx, h2⟩ := h
  exact ⟨x, List.mem_of_mem_take hx, h2⟩
theorem v_no {l : List Int} {i : Nat} {p b : Bool} (h : false = (p && (l.take i).all letA)) : (b && (p && l.all letA)) = false := by
  cases p
  · rw [Bool.false_and, Bool.and_false]
  · rw [Bool.true_and] at h
    rw [all_from h.symm, Bool.and_false, Bool.and_false]
theorem v_step {l : List Int} {i : Nat} {p : Bool} (h : i < l.length) (h0 : true = (p && (l.take i).all letA)) : letA l[i] = (p && (l.take (i + 1)).all letA) := by
  have := h0.symm
  rw [Bool.and_eq_true] at this
  rw [List.take_succ_eq_append_getElem h, List.all_append, this.1, this.2]
  simp
set_option maxRecDepth 100000 in
set_option maxHeartbeats 4000000 in
theorem rmay_4 {w : World} {B : Nat} {ct : Int} {nm : ByteArray} {n0 n1 n2 n3 : Bool} {s0 s1 s2 s3 : ByteArray} {A : Option Addr} {c : Nat} {l : List Int} (hr : ArgR w B (A, c, ⟨4, nm, n0, s0, n1, s1, n2, s2, n3, s3, l, ct⟩)) (hB : B ≤ w.heap.size) (hl : l.length ≤ 1000000000) {b r : Bool} (hres : r = (b && (decide ((l.length : Int) ≤ 4096) && l.all letA))) (hb : b = true ↔ (⟨4, nm, n0, s0, n1, s1, n2, s2, n3, s3, l, ct⟩ : ArgP) = ⟨4, ⟨#[]⟩, false, ⟨#[]⟩, false, ⟨#[]⟩, false, ⟨#[]⟩, false, ⟨#[]⟩, l, 0⟩) :
    Calls Tryz.prog 50 #[.agg #[.int .i64 4, .string nm, .bool n0, .string s0, .bool n1, .string s1, .bool n2, .string s2, .bool n3, .string s3, .slice A l.length c, .int .i64 ct]] w (fun e w' => e = .returned (.bool r) ∧ Below w.heap.size w w') := by
  have HQ : ArgR w B (A, c, ⟨4, ⟨#[]⟩, false, ⟨#[]⟩, false, ⟨#[]⟩, false, ⟨#[]⟩, false, ⟨#[]⟩, l, 0⟩) := ⟨⟨(by decide : (-9223372036854775808 : Int) ≤ 4), (by decide : (4 : Int) ≤ 9223372036854775807)⟩, ⟨(by decide : (-9223372036854775808 : Int) ≤ 0), (by decide : (0 : Int) ≤ 9223372036854775807)⟩, hr.wd⟩
  have HS : Hid (∀ W, Below w.heap.size w W → Calls Tryz.prog 41 #[.agg #[.int .i64 4, .string nm, .bool n0, .string s0, .bool n1, .string s1, .bool n2, .string s2, .bool n3, .string s3, .slice A l.length c, .int .i64 ct], .agg #[.int .i64 4, .string ⟨#[]⟩, .bool false, .string ⟨#[]⟩, .bool false, .string ⟨#[]⟩, .bool false, .string ⟨#[]⟩, .bool false, .string ⟨#[]⟩, .slice A l.length c, .int .i64 0]] W (fun e w' => e = .returned (.bool b) ∧ Below W.heap.size W w')) := Lib.hid fun W hw => same_arg (r := (A, c, ⟨4, nm, n0, s0, n1, s1, n2, s2, n3, s3, l, ct⟩)) (q := (A, c, ⟨4, ⟨#[]⟩, false, ⟨#[]⟩, false, ⟨#[]⟩, false, ⟨#[]⟩, false, ⟨#[]⟩, l, 0⟩)) ((hr.more hB).below hw) ((HQ.more hB).below hw) hw.size hl hl hb
  clear HQ hb
  have HR := Lib.hid hres
  have hbx := Box.new w 41 #[.int .i64 4, .string nm, .bool n0, .string s0, .bool n1, .string s1, .bool n2, .string s2, .bool n3, .string s3, .slice A l.length c, .int .i64 ct]
  have hby := Box.new (w.alloc (.cells #[.int .i64 4, .string nm, .bool n0, .string s0, .bool n1, .string s1, .bool n2, .string s2, .bool n3, .string s3, .slice A l.length c, .int .i64 ct] 41)) 41 #[.int .i64 4, .string ⟨#[]⟩, .bool false, .string ⟨#[]⟩, .bool false, .string ⟨#[]⟩, .bool false, .string ⟨#[]⟩, .bool false, .string ⟨#[]⟩, .slice A l.length c, .int .i64 0]
  have hbw := hbx.2.trans (hby.2.mono hbx.2.size)
  have Hr := Lib.hid ((hr.wd.more hB).below hbw)
  clear hr hres
  have hsz : w.heap.size < (w.alloc (.cells #[.int .i64 4, .string nm, .bool n0, .string s0, .bool n1, .string s1, .bool n2, .string s2, .bool n3, .string s3, .slice A l.length c, .int .i64 ct] 41)).heap.size := hbx.1.lt
  have hbx := hbx.1.below hby.2 hsz
  have hby : Blk _ (w.heap.size + 1) 41 #[.int .i64 4, .string ⟨#[]⟩, .bool false, .string ⟨#[]⟩, .bool false, .string ⟨#[]⟩, .bool false, .string ⟨#[]⟩, .bool false, .string ⟨#[]⟩, .slice A l.length c, .int .i64 0] := (by have := hby.1; simpa using this)
  obtain ⟨n, hn⟩ : ∃ n, n = l.length := ⟨_, rfl⟩
  have Hn := Lib.hid hn
  rw [← hn] at hbx hby hbw HR HS hl Hr ⊢
  clear hn hsz
  obtain ⟨W0, hW0⟩ : ∃ W0, W0 = (w.alloc (.cells #[.int .i64 4, .string nm, .bool n0, .string s0, .bool n1, .string s1, .bool n2, .string s2, .bool n3, .string s3, .slice A n c, .int .i64 ct] 41)).alloc (.cells #[.int .i64 4, .string ⟨#[]⟩, .bool false, .string ⟨#[]⟩, .bool false, .string ⟨#[]⟩, .bool false, .string ⟨#[]⟩, .bool false, .string ⟨#[]⟩, .slice A n c, .int .i64 0] 41) := ⟨_, rfl⟩
  have HW := Lib.hid hW0
  have Hbx := Lib.hid (show Blk W0 w.heap.size 41 #[.int .i64 4, .string nm, .bool n0, .string s0, .bool n1, .string s1, .bool n2, .string s2, .bool n3, .string s3, .slice A n c, .int .i64 ct] by rw [hW0]; exact hbx)
  have Hby := Lib.hid (show Blk W0 (w.heap.size + 1) 41 #[.int .i64 4, .string ⟨#[]⟩, .bool false, .string ⟨#[]⟩, .bool false, .string ⟨#[]⟩, .bool false, .string ⟨#[]⟩, .bool false, .string ⟨#[]⟩, .slice A n c, .int .i64 0] by rw [hW0]; exact hby)
  have Hbw := Lib.hid (show Below w.heap.size w W0 by rw [hW0]; exact hbw)
  have Hr := Lib.hid (show ReadsI W0 w.heap.size A l by rw [hW0]; exact Hr.out)
  clear hbx hby hbw hW0
  go_enter Tryz.func50, Tryz.ntmps50
  go_wp2_with fail
  have h4 : (decide ((n : Int) ≤ 4096)) = true ∨ decide ((n : Int) ≤ 4096) = false := by cases decide ((n : Int) ≤ 4096) <;> simp
  obtain ⟨p, hp⟩ : ∃ p, p = decide ((n : Int) ≤ 4096) := ⟨_, rfl⟩
  have Hp := Lib.hid hp
  clear h4
  rw [← hp] at HR
  go_loopg [4, 5] n (fun k vv iv wr => ∃ (v : Bool) (i : Nat), vv = .bool v ∧ iv = .int .i64 (i : Int) ∧ k = n - i ∧ i ≤ n ∧ Hid (v = (p && (l.take i).all letA)) ∧ Hid (wr = W0))
  case atStart => exact ⟨p, 0, by rw [hp], rfl, by omega, by omega, Lib.hid (by simp), Lib.hid HW.out.symm⟩
  case round =>
    obtain ⟨v, i, rfl, rfl, hk, hi, hv, hw⟩ := hrel
    have Hk := Lib.hid hk
    clear hk hp
    have ew := hw.out
    subst ew
    have c0 := Hbx.out.cell 0; have d0 := Hby.out.cell 0; have c1 := Hbx.out.cell 1; have d1 := Hby.out.cell 1; have c2 := Hbx.out.cell 2; have d2 := Hby.out.cell 2; have c3 := Hbx.out.cell 3; have d3 := Hby.out.cell 3; have c4 := Hbx.out.cell 4; have d4 := Hby.out.cell 4; have c5 := Hbx.out.cell 5; have d5 := Hby.out.cell 5; have c6 := Hbx.out.cell 6; have d6 := Hby.out.cell 6; have c7 := Hbx.out.cell 7; have d7 := Hby.out.cell 7; have c8 := Hbx.out.cell 8; have d8 := Hby.out.cell 8; have c9 := Hbx.out.cell 9; have d9 := Hby.out.cell 9; have c10 := Hbx.out.cell 10; have d10 := Hby.out.cell 10; have c11 := Hbx.out.cell 11; have d11 := Hby.out.cell 11
    by_cases hin : i < n
    · have hii : (i : Int) < (n : Int) := by omega
      cases v
      · go_wp2_with fail
        go_ret
        exact ret_b (by rw [HR.out, v_no hv.out]) Hbw.out
      · have hil : i < l.length := by rw [← Hn.out]; omega
        obtain ⟨ad, rfl, hb1, e0⟩ := Hr.out.at_ hil
        have Hst := Lib.hid (v_step hil hv.out)
        generalize l[i] = x at *
        clear hb1 hil
        by_cases x0 : x = 0
        · subst x0
          go_wp2_with fail
          go_roundg (n - (i + 1))
          case measure => have := Hk.out; omega
          case rel => exact ⟨_, i + 1, rfl, rfl, rfl, by omega, Lib.hid (by rw [← Hst.out]; rfl), Lib.hid rfl⟩
        · have x1 : (x != 0) = true := by simpa using x0
          by_cases x2 : x ≤ 4096
          · by_cases x3 : -4096 ≤ x
            · go_wp2_with fail
              go_roundg (n - (i + 1))
              case measure => have := Hk.out; omega
              case rel => exact ⟨_, i + 1, rfl, rfl, rfl, by omega, Lib.hid (by rw [← Hst.out]; exact (decide_eq_true (by omega)).symm), Lib.hid rfl⟩
            · go_wp2_with fail
              go_roundg (n - (i + 1))
              case measure => have := Hk.out; omega
              case rel => exact ⟨_, i + 1, rfl, rfl, rfl, by omega, Lib.hid (by rw [← Hst.out]; exact (decide_eq_false (by omega)).symm), Lib.hid rfl⟩
          · go_wp2_with fail
            go_roundg (n - (i + 1))
            case measure => have := Hk.out; omega
            case rel => exact ⟨_, i + 1, rfl, rfl, rfl, by omega, Lib.hid (by rw [← Hst.out]; exact (decide_eq_false (by omega)).symm), Lib.hid rfl⟩
    · have hii : ¬ (i : Int) < (n : Int) := by omega
      have hv2 := hv.out
      rw [List.take_of_length_le (by have := Hn.out; omega)] at hv2
      have Hv := Lib.hid hv2
      clear hv2
      cases v
      · go_wp2_with fail
        go_ret
        exact ret_b (by rw [HR.out, ← Hv.out, Bool.and_false]) Hbw.out
      · go_wp2_with (go_at_call 41; (with_reducible refine (HS.out _ ?_).mono ?_); (first | exact Hbw.out | skip); rintro _ _ ⟨rfl, hb2⟩)
        go_ret
        exact ret_b (by rw [HR.out, ← Hv.out, Bool.and_true]) (Hbw.out.trans (hb2.mono Hbw.out.size))

set_option maxRecDepth 100000 in
set_option maxHeartbeats 2000000 in
theorem rmay_else {w : World} {k : Int} {ct : Int} {nm : ByteArray} {n0 n1 n2 n3 : Bool} {s0 s1 s2 s3 : ByteArray} {A : Option Addr} {c : Nat} {l : List Int} (h1 : ¬ k = 1) (h2 : ¬ k = 2) (h3 : ¬ k = 3) (h4 : ¬ k = 4) (h5 : ¬ k = 5) :
    Calls Tryz.prog 50 #[.agg #[.int .i64 k, .string nm, .bool n0, .string s0, .bool n1, .string s1, .bool n2, .string s2, .bool n3, .string s3, .slice A l.length c, .int .i64 ct]] w (fun e w' => e = .returned (.bool false) ∧ Below w.heap.size w w') := by
  have hbx := Box.new w 41 #[.int .i64 k, .string nm, .bool n0, .string s0, .bool n1, .string s1, .bool n2, .string s2, .bool n3, .string s3, .slice A l.length c, .int .i64 ct]
  have hby := Box.new (w.alloc (.cells #[.int .i64 k, .string nm, .bool n0, .string s0, .bool n1, .string s1, .bool n2, .string s2, .bool n3, .string s3, .slice A l.length c, .int .i64 ct] 41)) 41 #[.int .i64 k, .string ⟨#[]⟩, .bool false, .string ⟨#[]⟩, .bool false, .string ⟨#[]⟩, .bool false, .string ⟨#[]⟩, .bool false, .string ⟨#[]⟩, .slice none 0 0, .int .i64 0]
  have hbw := hbx.2.trans (hby.2.mono hbx.2.size)
  clear hbx hby
  go_enter Tryz.func50, Tryz.ntmps50
  go_wp2_with fail
  go_ret
  exact ⟨rfl, hbw⟩
theorem rmay_any {w : World} {B : Nat} {r : ARow} (h : ArgR w B r) (hB : B ≤ w.heap.size) (hwl : r.2.2.wd.length ≤ 1000000000) (hnm : r.2.2.nm.size ≤ 9223372036854775807) {b : Bool} (hb : b = true ↔ r.2.2.ok) :
    Calls Tryz.prog 50 #[argV r] w (fun e w' => e = .returned (.bool b) ∧ Below w.heap.size w w') := by
  obtain ⟨A, c, k, nm, n0, s0, n1, s1, n2, s2, n3, s3, l, ct⟩ := r
  replace hb : b = true ↔ ArgP.ok ⟨k, nm, n0, s0, n1, s1, n2, s2, n3, s3, l, ct⟩ := hb
  replace hwl : l.length ≤ 1000000000 := hwl
  replace hnm : nm.size ≤ 9223372036854775807 := hnm
  unfold ArgP.ok ArgP.zero ArgP.gs at hb
  simp only at hb
  by_cases h1 : k = 1
  · subst h1
    rw [if_pos rfl] at hb
    cases hn : Sc.namedB nm.data.toList
    · rw [no_b hb fun h' => by rw [hn] at h'; exact absurd h'.1 (by decide)]
      exact rmay_1n h hB hwl hn hnm
    · refine rmay_1 h hB hwl hn hnm (hb.trans ?_)
      rw [hn]
      simp only [ArgP.mk.injEq, true_and]
      grind
  rw [if_neg h1] at hb
  by_cases h2 : k = 2
  · subst h2
    rw [if_pos rfl] at hb
    by_cases hg : MayGs n0 s0 n1 s1 n2 s2 n3 s3
    · refine rmay_2 h hB hwl hg (hb.trans ?_)
      simp only [ArgP.mk.injEq, true_and]
      grind
    · rw [no_b hb fun h' => hg h'.2.1]
      exact rmay_2n h hB hwl hg
  rw [if_neg h2] at hb
  by_cases h3 : k = 3
  · subst h3
    rw [if_pos rfl] at hb
    refine rmay_3 h hB hwl (hb.trans ?_)
    simp only [ArgP.mk.injEq, true_and]
    grind
  rw [if_neg h3] at hb
  by_cases h4 : k = 4
  · subst h4
    rw [if_pos rfl] at hb
    obtain ⟨b', hb'⟩ : ∃ b' : Bool, b' = true ↔ (⟨4, nm, n0, s0, n1, s1, n2, s2, n3, s3, l, ct⟩ : ArgP) = ⟨4, ⟨#[]⟩, false, ⟨#[]⟩, false, ⟨#[]⟩, false, ⟨#[]⟩, false, ⟨#[]⟩, l, 0⟩ := by
      by_cases e : (⟨4, nm, n0, s0, n1, s1, n2, s2, n3, s3, l, ct⟩ : ArgP) = ⟨4, ⟨#[]⟩, false, ⟨#[]⟩, false, ⟨#[]⟩, false, ⟨#[]⟩, false, ⟨#[]⟩, l, 0⟩
      · exact ⟨true, fun _ => e, fun _ => rfl⟩
      · exact ⟨false, fun h => (by cases h), fun h => absurd h e⟩
    refine rmay_4 h hB hwl (b := b') ?_ hb'
    rw [Bool.eq_iff_iff, hb]
    simp only [Bool.and_eq_true, decide_eq_true_eq, hb', ArgP.mk.injEq, true_and]
    have : ((l.length : Int) ≤ 4096) ↔ l.length ≤ 4096 := by omega
    grind
  rw [if_neg h4] at hb
  by_cases h5 : k = 5
  · subst h5
    rw [if_pos rfl] at hb
    by_cases g1 : 0 ≤ ct
    · by_cases g2 : ct ≤ 2147483647
      · refine rmay_5 h hB hwl g1 g2 (hb.trans ?_)
        simp only [ArgP.mk.injEq, true_and]
        grind
      · rw [no_b hb fun h' => g2 h'.2.2.2.2]
        exact rmay_5m h hB hwl g1 g2
    · rw [no_b hb fun h' => g1 h'.2.2.2.1]
      exact rmay_5n h hB hwl g1
  rw [if_neg h5] at hb
  rw [no_b hb id]
  exact rmay_else h1 h2 h3 h4 h5
end Go.Proofs.YtebpggfccljagaaGreatDoor
