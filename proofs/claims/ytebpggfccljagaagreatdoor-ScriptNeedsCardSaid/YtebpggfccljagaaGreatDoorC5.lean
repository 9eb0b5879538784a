import Derived.Test.YtebpggfccljagaaGreatDoorC4
import Derived.Deep.RegionHeld3
import Derived.Test.YtebpggfccljagaaGreatDoorC3
import Derived.Test.YtebpggfccljagaaGreatDoorC1
import Derived.Test.YtebpggfccljagaaGreatDoorChecked
import Derived.WalkKit
import Derived.WalkLawsBesides
import Derived.WalkSpells
import Derived.Handy
import Derived.Deep.LoopGhost
/- frac.short, May. -/
namespace Go.Proofs.YtebpggfccljagaaGreatDoor
open Go.RowKit
open Wh
set_option linter.unusedSimpArgs false

set_option maxRecDepth 100000 in
theorem shortf_any (n : Bool) (s : ByteArray) (w : World) :
    Calls Tryz.prog 117 #[.agg #[.bool n, .string s]] w (fun e w' => e = .returned (.bool (decide ((s.size : Int) ≤ 1024))) ∧ Below w.heap.size w w') := by
  have hb := new_below w (.cells #[.bool n, .string s] 34)
  go_enter Tryz.func117, Tryz.ntmps117
  go_wp2_with fail
  go_ret
  exact ⟨rfl, hb⟩

theorem len_numG {n : Bool} {s : ByteArray} (h : s.data.toList.length ≤ 16384) : (wds (num (n, s)).natAbs).length ≤ 100000000 := by
  have h1 := len_mag h
  unfold num
  rw [sgn_abs]
  exact Nat.le_trans h1 (by decide)
theorem num_back (z : Int) : num (decide (z < 0), ⟨(bys z.natAbs).toArray⟩) = z := by
  unfold num
  show sgn (decide (z < 0)) (bval (bys z.natAbs).toArray.toList) = z
  rw [List.toList_toArray, bval_b, sgn_of]
theorem enc_parts {n : Bool} {s : ByteArray} (h : MayL n s.data.toList) : decide (num (n, s) < 0) = n ∧ (⟨(bys (num (n, s)).natAbs).toArray⟩ : ByteArray) = s := by
  have := may_num h
  unfold enc at this
  simpa using this
/-- lowest terms, by what is told -/
theorem low_iff {na nb x0 x1 : Bool} {sa sb t0 t1 : ByteArray} (ha : MayL na sa.data.toList) (hb : MayL nb sb.data.toList) (hp : 0 < num (nb, sb))
    (hV : encF ((num (na, sa)).tdiv (Nat.gcd (num (na, sa)).natAbs (num (nb, sb)).natAbs : Int)) ((num (nb, sb)).tdiv (Nat.gcd (num (na, sa)).natAbs (num (nb, sb)).natAbs : Int)) = .agg #[.bool x0, .string t0, .bool x1, .string t1]) :
    (x0 = na ∧ t0 = sa ∧ x1 = nb ∧ t1 = sb) ↔ Nat.gcd (num (na, sa)).natAbs (num (nb, sb)).natAbs = 1 := by
  have pa := enc_parts ha
  have pb := enc_parts hb
  obtain ⟨a, hae⟩ : ∃ a, a = num (na, sa) := ⟨_, rfl⟩
  obtain ⟨b, hbe⟩ : ∃ b, b = num (nb, sb) := ⟨_, rfl⟩
  rw [← hae, ← hbe] at hV ⊢
  rw [← hae] at pa
  rw [← hbe] at pb hp
  obtain ⟨G, hG⟩ : ∃ G, G = Nat.gcd a.natAbs b.natAbs := ⟨_, rfl⟩
  rw [← hG] at hV ⊢
  have hq := num_back (b.tdiv (G : Int))
  have hG0 : 0 < G := by rw [hG]; exact Nat.gcd_pos_of_pos_right _ (by omega)
  obtain ⟨k, hk⟩ : G ∣ b.natAbs := by rw [hG]; exact Nat.gcd_dvd_right _ _
  unfold encF at hV
  simp only [Value.agg.injEq, Array.mk.injEq, List.cons.injEq, Value.bool.injEq, Value.string.injEq, and_true] at hV
  obtain ⟨v0, v1, v2, v3⟩ := hV
  constructor
  · rintro ⟨rfl, rfl, rfl, rfl⟩
    rw [v2, v3, ← hbe] at hq
    have e : b = (G : Int) * (k : Int) := by
      have : (b.natAbs : Int) = b := by omega
      rw [← this, hk]; push_cast; rfl
    have hkb : (k : Int) = b := by
      have h1 : b.tdiv (G : Int) = (k : Int) := by rw [e, Int.mul_comm (G : Int)]; exact Int.mul_tdiv_cancel _ (by omega)
      rw [← h1]; exact hq.symm
    rw [hkb] at e
    have h1 : b * ((G : Int) - 1) = 0 := by
      rw [Int.mul_sub, Int.mul_one, Int.mul_comm, ← e]; omega
    rcases Int.mul_eq_zero.1 h1 with h | h
    · omega
    · omega
  · intro h
    rw [h] at v0 v1 v2 v3
    simp only [Int.natCast_one, Int.tdiv_one] at v0 v1 v2 v3
    exact ⟨by rw [← v0]; exact pa.1, by rw [← v1]; exact pa.2, by rw [← v2]; exact pb.1, by rw [← v3]; exact pb.2⟩
/-- a block that a call lays for itself stays -/
def Box (w0 w : World) (t : TypeId) (cs : Array Value) : Prop := Blk w w0.heap.size t cs ∧ Below w0.heap.size w0 w
theorem Box.new (w0 : World) (t : TypeId) (cs : Array Value) : Box w0 (w0.alloc (.cells cs t)) t cs := ⟨Blk.new w0 t cs, new_below _ _⟩
theorem Box.next {w0 w w' : World} {t : TypeId} {cs : Array Value} (h : Box w0 w t cs) (hb : Below w.heap.size w w') : Box w0 w' t cs := ⟨h.1.below hb h.1.lt, h.2.trans (hb.mono h.2.size)⟩
/-- may a fraction be? -/
structure MayFr (na : Bool) (sa : ByteArray) (nb : Bool) (sb : ByteArray) : Prop where
  a : MayL na sa.data.toList
  b : MayL nb sb.data.toList
  al : sa.size ≤ 1024
  bl : sb.size ≤ 1024
  pos : 0 < num (nb, sb)
  low : Nat.gcd (num (na, sa)).natAbs (num (nb, sb)).natAbs = 1

set_option maxRecDepth 100000 in
set_option maxHeartbeats 4000000 in
theorem mayf_last {w : World} {na nb : Bool} {sa sb : ByteArray} (ha : MayL na sa.data.toList) (hb : MayL nb sb.data.toList) (hal : sa.size ≤ 1024) (hbl : sb.size ≤ 1024) (hp : 0 < num (nb, sb)) {r : Bool}
    (hr : r = decide (Nat.gcd (num (na, sa)).natAbs (num (nb, sb)).natAbs = 1)) :
    Calls Tryz.prog 91 #[.agg #[.bool na, .string sa, .bool nb, .string sb]] w (fun e w' => e = .returned (.bool r) ∧ Below w.heap.size w w') := by
  have H1 := Lib.hid (fun W => check_ok (w := W) ha)
  have H2 := Lib.hid (fun W => check_ok (w := W) hb)
  have S1 := Lib.hid (shortf_any na sa)
  have S2 := Lib.hid (shortf_any nb sb)
  have HG : Hid (∀ W, Calls Tryz.prog 118 #[.agg #[.bool nb, .string sb]] W (fun e w' => e = .returned (.int .i64 1) ∧ Below W.heap.size W w')) := by
    refine Lib.hid (fun W => (wsign_any (w := W) (na := nb) (sa := sb)).mono ?_)
    rintro e w' ⟨h1, _, h3⟩
    refine ⟨?_, h3⟩
    rw [h1 hb]; unfold sg; rw [if_neg (by omega), if_neg (by omega)]
  have HR := Lib.hid (fun W => ratf_any (w := W) (na := na) (nb := nb) ha.1 hb.1 hp)
  obtain ⟨x0, t0, x1, t1, hV⟩ : ∃ x0 t0 x1 t1, encF ((num (na, sa)).tdiv (Nat.gcd (num (na, sa)).natAbs (num (nb, sb)).natAbs : Int)) ((num (nb, sb)).tdiv (Nat.gcd (num (na, sa)).natAbs (num (nb, sb)).natAbs : Int)) = .agg #[.bool x0, .string t0, .bool x1, .string t1] := ⟨_, _, _, _, rfl⟩
  have HT : Hid (∀ (W : World) (g : Nat), RatB W g ((num (na, sa)).tdiv (Nat.gcd (num (na, sa)).natAbs (num (nb, sb)).natAbs : Int)) ((num (nb, sb)).tdiv (Nat.gcd (num (na, sa)).natAbs (num (nb, sb)).natAbs : Int)) → Calls Tryz.prog 103 #[.pointer (some ⟨g, 0, none⟩)] W (fun e w' => e = .returned (.agg #[.bool x0, .string t0, .bool x1, .string t1]) ∧ Below W.heap.size W w')) := by
    refine Lib.hid (fun W g h => ?_)
    rw [← hV]
    exact toldf_any h (Nat.le_trans (len_mono (by rw [Int.natAbs_tdiv]; exact Nat.div_le_self _ _)) (len_numG ha.1)) (Nat.le_trans (len_mono (by rw [Int.natAbs_tdiv]; exact Nat.div_le_self _ _)) (len_numG hb.1))
  have heq : ∀ W, (binOp .eql 36 (.agg #[.bool x0, .string t0, .bool x1, .string t1]) (.agg #[.bool na, .string sa, .bool nb, .string sb])).run Tryz.prog W = .ok (.bool r) W := fun W => by
    rw [eql_fr, hr]
    congr 2
    exact decide_eq_decide.2 (low_iff ha hb hp hV)
  clear hV hr
  have i1 : (sa.size : Int) ≤ 1024 := by omega
  have i2 : (sb.size : Int) ≤ 1024 := by omega
  clear hal hbl
  go_enter Tryz.func91, Tryz.ntmps91
  have hbx := Box.new w 36 #[.bool na, .string sa, .bool nb, .string sb]
  go_wp2_with (first
    | (go_at_call 116; (with_reducible refine (H1.out _).mono ?_); rintro _ W1 ⟨rfl, hb1⟩; have hbx := hbx.next hb1; have c0 := hbx.1.cell 0; have c1 := hbx.1.cell 1; have c2 := hbx.1.cell 2; have c3 := hbx.1.cell 3; clear hb1)
    | (go_at_call 116; (with_reducible refine (H2.out _).mono ?_); rintro _ W2 ⟨rfl, hb1⟩; have hbx := hbx.next hb1; have c0 := hbx.1.cell 0; have c1 := hbx.1.cell 1; have c2 := hbx.1.cell 2; have c3 := hbx.1.cell 3; clear hb1)
    | (go_at_call 117; (with_reducible refine (S1.out _).mono ?_); rintro _ W3 ⟨rfl, hb1⟩; have hbx := hbx.next hb1; have c0 := hbx.1.cell 0; have c1 := hbx.1.cell 1; have c2 := hbx.1.cell 2; have c3 := hbx.1.cell 3; clear hb1)
    | (go_at_call 117; (with_reducible refine (S2.out _).mono ?_); rintro _ W4 ⟨rfl, hb1⟩; have hbx := hbx.next hb1; have c0 := hbx.1.cell 0; have c1 := hbx.1.cell 1; have c2 := hbx.1.cell 2; have c3 := hbx.1.cell 3; clear hb1)
    | (go_at_call 118; (with_reducible refine (HG.out _).mono ?_); rintro _ W5 ⟨rfl, hb1⟩; have hbx := hbx.next hb1; have c0 := hbx.1.cell 0; have c1 := hbx.1.cell 1; have c2 := hbx.1.cell 2; have c3 := hbx.1.cell 3; clear hb1))
  have hbs := hbx
  have hsz0 := hbx.1.lt
  go_region_held3 (fun w' => w'.cell? ⟨w.heap.size, 0, none⟩ = some (.bool na) ∧ w'.cell? ⟨w.heap.size, 1, none⟩ = some (.string sa) ∧ w'.cell? ⟨w.heap.size, 2, none⟩ = some (.bool nb) ∧ w'.cell? ⟨w.heap.size, 3, none⟩ = some (.string sb))
    (first
      | go_keep
      | (rw [hb6.cell (by show w.heap.size < _; simpa using hsz0), hb6.cell (by show w.heap.size < _; simpa using hsz0), hb6.cell (by show w.heap.size < _; simpa using hsz0), hb6.cell (by show w.heap.size < _; simpa using hsz0)]; go_keep)
      | (rw [hb7.cell (by show w.heap.size < _; omega), hb7.cell (by show w.heap.size < _; omega), hb7.cell (by show w.heap.size < _; omega), hb7.cell (by show w.heap.size < _; omega)]; go_keep))
    (first
      | (go_at_call 119; (with_reducible refine (HR.out _).mono ?_); rintro _ W6 ⟨g6, rfl, hl6, hr6, hb6⟩; have z6 : w.heap.size < W6.heap.size := (by have := hb6.size; simp at this; omega))
      | (go_at_call 103; (with_reducible refine (HT.out _ _ hr6).mono ?_); rintro _ W7 ⟨rfl, hb7⟩; have z7 := hb7.size))
  go_wp2_with fail
  go_ret
  exact ⟨rfl, (hbs.2.drew.trans (hb6.mono (by simp; exact hbs.2.size))).trans (hb7.mono (by omega))⟩

set_option maxRecDepth 100000 in
set_option maxHeartbeats 2000000 in
theorem mayf_no1 {w : World} {na nb : Bool} {sa sb : ByteArray} (ha : ¬ MayL na sa.data.toList) :
    Calls Tryz.prog 91 #[.agg #[.bool na, .string sa, .bool nb, .string sb]] w (fun e w' => e = .returned (.bool false) ∧ Below w.heap.size w w') := by
  have H1 := Lib.hid (fun W => check_no (w := W) ha)
  clear ha
  go_enter Tryz.func91, Tryz.ntmps91
  have hbx := Box.new w 36 #[.bool na, .string sa, .bool nb, .string sb]
  go_wp2_with (first
    | (go_at_call 116; (with_reducible refine (H1.out _).mono ?_); rintro _ _ ⟨rfl, hb1⟩; have hbx := hbx.next hb1; have c0 := hbx.1.cell 0; have c1 := hbx.1.cell 1; have c2 := hbx.1.cell 2; have c3 := hbx.1.cell 3; clear hb1))
  go_ret
  exact ⟨rfl, hbx.2⟩

set_option maxRecDepth 100000 in
set_option maxHeartbeats 2000000 in
theorem mayf_no2 {w : World} {na nb : Bool} {sa sb : ByteArray} (ha : MayL na sa.data.toList) (hb : ¬ MayL nb sb.data.toList) :
    Calls Tryz.prog 91 #[.agg #[.bool na, .string sa, .bool nb, .string sb]] w (fun e w' => e = .returned (.bool false) ∧ Below w.heap.size w w') := by
  have H1 := Lib.hid (fun W => check_ok (w := W) ha)
  have H2 := Lib.hid (fun W => check_no (w := W) hb)
  clear ha hb
  go_enter Tryz.func91, Tryz.ntmps91
  have hbx := Box.new w 36 #[.bool na, .string sa, .bool nb, .string sb]
  go_wp2_with (first
    | (go_at_call 116; (with_reducible refine (H1.out _).mono ?_); rintro _ _ ⟨rfl, hb1⟩; have hbx := hbx.next hb1; have c0 := hbx.1.cell 0; have c1 := hbx.1.cell 1; have c2 := hbx.1.cell 2; have c3 := hbx.1.cell 3; clear hb1)
    | (go_at_call 116; (with_reducible refine (H2.out _).mono ?_); rintro _ _ ⟨rfl, hb1⟩; have hbx := hbx.next hb1; have c0 := hbx.1.cell 0; have c1 := hbx.1.cell 1; have c2 := hbx.1.cell 2; have c3 := hbx.1.cell 3; clear hb1))
  go_ret
  exact ⟨rfl, hbx.2⟩

set_option maxRecDepth 100000 in
set_option maxHeartbeats 2000000 in
theorem mayf_no3 {w : World} {na nb : Bool} {sa sb : ByteArray} (ha : MayL na sa.data.toList) (hb : MayL nb sb.data.toList) (hal : ¬ (sa.size : Int) ≤ 1024) :
    Calls Tryz.prog 91 #[.agg #[.bool na, .string sa, .bool nb, .string sb]] w (fun e w' => e = .returned (.bool false) ∧ Below w.heap.size w w') := by
  have H1 := Lib.hid (fun W => check_ok (w := W) ha)
  have H2 := Lib.hid (fun W => check_ok (w := W) hb)
  have S1 := Lib.hid (shortf_any na sa)
  clear ha hb
  go_enter Tryz.func91, Tryz.ntmps91
  have hbx := Box.new w 36 #[.bool na, .string sa, .bool nb, .string sb]
  go_wp2_with (first
    | (go_at_call 116; (with_reducible refine (H1.out _).mono ?_); rintro _ _ ⟨rfl, hb1⟩; have hbx := hbx.next hb1; have c0 := hbx.1.cell 0; have c1 := hbx.1.cell 1; have c2 := hbx.1.cell 2; have c3 := hbx.1.cell 3; clear hb1)
    | (go_at_call 116; (with_reducible refine (H2.out _).mono ?_); rintro _ _ ⟨rfl, hb1⟩; have hbx := hbx.next hb1; have c0 := hbx.1.cell 0; have c1 := hbx.1.cell 1; have c2 := hbx.1.cell 2; have c3 := hbx.1.cell 3; clear hb1)
    | (go_at_call 117; (with_reducible refine (S1.out _).mono ?_); rintro _ _ ⟨rfl, hb1⟩; have hbx := hbx.next hb1; have c0 := hbx.1.cell 0; have c1 := hbx.1.cell 1; have c2 := hbx.1.cell 2; have c3 := hbx.1.cell 3; clear hb1))
  go_ret
  exact ⟨rfl, hbx.2⟩

set_option maxRecDepth 100000 in
set_option maxHeartbeats 2000000 in
theorem mayf_no4 {w : World} {na nb : Bool} {sa sb : ByteArray} (ha : MayL na sa.data.toList) (hb : MayL nb sb.data.toList) (hal : (sa.size : Int) ≤ 1024) (hbl : ¬ (sb.size : Int) ≤ 1024) :
    Calls Tryz.prog 91 #[.agg #[.bool na, .string sa, .bool nb, .string sb]] w (fun e w' => e = .returned (.bool false) ∧ Below w.heap.size w w') := by
  have H1 := Lib.hid (fun W => check_ok (w := W) ha)
  have H2 := Lib.hid (fun W => check_ok (w := W) hb)
  have S1 := Lib.hid (shortf_any na sa)
  have S2 := Lib.hid (shortf_any nb sb)
  clear ha hb
  go_enter Tryz.func91, Tryz.ntmps91
  have hbx := Box.new w 36 #[.bool na, .string sa, .bool nb, .string sb]
  go_wp2_with (first
    | (go_at_call 116; (with_reducible refine (H1.out _).mono ?_); rintro _ _ ⟨rfl, hb1⟩; have hbx := hbx.next hb1; have c0 := hbx.1.cell 0; have c1 := hbx.1.cell 1; have c2 := hbx.1.cell 2; have c3 := hbx.1.cell 3; clear hb1)
    | (go_at_call 116; (with_reducible refine (H2.out _).mono ?_); rintro _ _ ⟨rfl, hb1⟩; have hbx := hbx.next hb1; have c0 := hbx.1.cell 0; have c1 := hbx.1.cell 1; have c2 := hbx.1.cell 2; have c3 := hbx.1.cell 3; clear hb1)
    | (go_at_call 117; (with_reducible refine (S1.out _).mono ?_); rintro _ _ ⟨rfl, hb1⟩; have hbx := hbx.next hb1; have c0 := hbx.1.cell 0; have c1 := hbx.1.cell 1; have c2 := hbx.1.cell 2; have c3 := hbx.1.cell 3; clear hb1)
    | (go_at_call 117; (with_reducible refine (S2.out _).mono ?_); rintro _ _ ⟨rfl, hb1⟩; have hbx := hbx.next hb1; have c0 := hbx.1.cell 0; have c1 := hbx.1.cell 1; have c2 := hbx.1.cell 2; have c3 := hbx.1.cell 3; clear hb1))
  go_ret
  exact ⟨rfl, hbx.2⟩

set_option maxRecDepth 100000 in
set_option maxHeartbeats 2000000 in
theorem mayf_no5 {w : World} {na nb : Bool} {sa sb : ByteArray} (ha : MayL na sa.data.toList) (hb : MayL nb sb.data.toList) (hal : (sa.size : Int) ≤ 1024) (hbl : (sb.size : Int) ≤ 1024) {z : Int} (hz : z = sg (num (nb, sb))) (hz0 : z ≤ 0) :
    Calls Tryz.prog 91 #[.agg #[.bool na, .string sa, .bool nb, .string sb]] w (fun e w' => e = .returned (.bool false) ∧ Below w.heap.size w w') := by
  have H1 := Lib.hid (fun W => check_ok (w := W) ha)
  have H2 := Lib.hid (fun W => check_ok (w := W) hb)
  have S1 := Lib.hid (shortf_any na sa)
  have S2 := Lib.hid (shortf_any nb sb)
  have HG : Hid (∀ W, Calls Tryz.prog 118 #[.agg #[.bool nb, .string sb]] W (fun e w' => e = .returned (.int .i64 z) ∧ Below W.heap.size W w')) := by
    refine Lib.hid (fun W => (wsign_any (w := W) (na := nb) (sa := sb)).mono ?_)
    rintro e w' ⟨h1, _, h3⟩
    exact ⟨by rw [h1 hb, hz], h3⟩
  clear ha hb hz
  go_enter Tryz.func91, Tryz.ntmps91
  have hbx := Box.new w 36 #[.bool na, .string sa, .bool nb, .string sb]
  go_wp2_with (first
    | (go_at_call 116; (with_reducible refine (H1.out _).mono ?_); rintro _ _ ⟨rfl, hb1⟩; have hbx := hbx.next hb1; have c0 := hbx.1.cell 0; have c1 := hbx.1.cell 1; have c2 := hbx.1.cell 2; have c3 := hbx.1.cell 3; clear hb1)
    | (go_at_call 116; (with_reducible refine (H2.out _).mono ?_); rintro _ _ ⟨rfl, hb1⟩; have hbx := hbx.next hb1; have c0 := hbx.1.cell 0; have c1 := hbx.1.cell 1; have c2 := hbx.1.cell 2; have c3 := hbx.1.cell 3; clear hb1)
    | (go_at_call 117; (with_reducible refine (S1.out _).mono ?_); rintro _ _ ⟨rfl, hb1⟩; have hbx := hbx.next hb1; have c0 := hbx.1.cell 0; have c1 := hbx.1.cell 1; have c2 := hbx.1.cell 2; have c3 := hbx.1.cell 3; clear hb1)
    | (go_at_call 117; (with_reducible refine (S2.out _).mono ?_); rintro _ _ ⟨rfl, hb1⟩; have hbx := hbx.next hb1; have c0 := hbx.1.cell 0; have c1 := hbx.1.cell 1; have c2 := hbx.1.cell 2; have c3 := hbx.1.cell 3; clear hb1)
    | (go_at_call 118; (with_reducible refine (HG.out _).mono ?_); rintro _ _ ⟨rfl, hb1⟩; have hbx := hbx.next hb1; have c0 := hbx.1.cell 0; have c1 := hbx.1.cell 1; have c2 := hbx.1.cell 2; have c3 := hbx.1.cell 3; clear hb1))
  go_ret
  exact ⟨rfl, hbx.2⟩

/-- frac.May -/
theorem mayf_any {w : World} {na nb : Bool} {sa sb : ByteArray} {r : Bool} (hr : r = true ↔ MayFr na sa nb sb) :
    Calls Tryz.prog 91 #[.agg #[.bool na, .string sa, .bool nb, .string sb]] w (fun e w' => e = .returned (.bool r) ∧ Below w.heap.size w w') := by
  have no : ¬ MayFr na sa nb sb → r = false := fun h => by
    cases r
    · rfl
    · exact absurd (hr.1 rfl) h
  by_cases ha : MayL na sa.data.toList
  · by_cases hb : MayL nb sb.data.toList
    · by_cases hal : sa.size ≤ 1024
      · by_cases hbl : sb.size ≤ 1024
        · by_cases hp : 0 < num (nb, sb)
          · refine mayf_last ha hb hal hbl hp ?_
            by_cases hg : Nat.gcd (num (na, sa)).natAbs (num (nb, sb)).natAbs = 1
            · rw [decide_eq_true hg]; exact hr.2 ⟨ha, hb, hal, hbl, hp, hg⟩
            · rw [decide_eq_false hg]; exact no fun h => hg h.low
          · rw [no fun h => hp h.pos]
            refine mayf_no5 ha hb (by omega) (by omega) rfl ?_
            unfold sg
            split
            · omega
            · rw [if_pos (by omega)]; omega
        · rw [no fun h => hbl h.bl]; exact mayf_no4 ha hb (by omega) (by omega)
      · rw [no fun h => hal h.al]; exact mayf_no3 ha hb (by omega)
    · rw [no fun h => hb h.b]; exact mayf_no2 ha hb
  · rw [no fun h => ha h.a]; exact mayf_no1 ha
end Go.Proofs.YtebpggfccljagaaGreatDoor

/- The law's long, bad, is, arg. -/
namespace Go.Proofs.YtebpggfccljagaaGreatDoor
open Go.RowKit
open Wh
set_option linter.unusedSimpArgs false

end Go.Proofs.YtebpggfccljagaaGreatDoor

/- The laws' common contracts: what is refused, what is long or bad, the reference's answers. -/
namespace Go.Proofs.YtebpggfccljagaaGreatDoor
open Go.RowKit
open Wh
set_option linter.unusedSimpArgs false

section
variable {w : World} {na nb : Bool} {sa sb : ByteArray} {z : Int} {s : Bool} {b : ByteArray}
end
end Go.Proofs.YtebpggfccljagaaGreatDoor

/- Common contracts of WholeTells. -/
namespace Go.Proofs.YtebpggfccljagaaGreatDoor
open Go.RowKit
open Wh
set_option linter.unusedSimpArgs false

section
variable {w : World} {na : Bool} {sa : ByteArray}
end
end Go.Proofs.YtebpggfccljagaaGreatDoor

/- The reference's Text (printed by gen_rtext.py). -/
namespace Go.Proofs.YtebpggfccljagaaGreatDoor
open Go.RowKit
open Wh
set_option linter.unusedSimpArgs false
set_option linter.unusedVariables false

end Go.Proofs.YtebpggfccljagaaGreatDoor

/- frac.Text. -/
namespace Go.Proofs.YtebpggfccljagaaGreatDoor
open Go.RowKit
open Wh
set_option linter.unusedSimpArgs false

theorem txt_len {n : Bool} {s : ByteArray} : (txt (num (n, s))).length ≤ 3 * s.size + 2 := by
  have hsl : s.data.toList.length = s.size := Array.length_toList
  have h1 : (num (n, s)).natAbs < 10 ^ (3 * s.size) := by
    unfold num
    rw [sgn_abs]
    have h2 := bval_lt s.data.toList
    rw [hsl] at h2
    have h3 : 256 ^ s.size ≤ 1000 ^ s.size := Nat.pow_le_pow_left (by decide) _
    have h4 : (10 : Nat) ^ (3 * s.size) = 1000 ^ s.size := by rw [Nat.pow_mul]
    rw [h4]; exact Nat.lt_of_lt_of_le h2 h3
  have h5 := dec_len _ _ h1
  unfold txt
  split
  · simp
  · rw [List.length_append]
    split <;> simp <;> omega
theorem Below.drew' {B : Nat} {w w' : World} (h : Below B w.drew w') : Below B w w' := ⟨h.os, h.tape, h.output, h.size, h.block⟩
/-- a fraction's text -/
def txtF (a b : Int) : List UInt8 := if b = 1 then txt a else txt a ++ 47 :: txt b

theorem num_one_iff {n : Bool} {s : ByteArray} (h : MayL n s.data.toList) : num (n, s) = 1 ↔ (n = false ∧ s = ⟨#[1]⟩) := by
  constructor
  · intro h1
    have := enc_parts h
    rw [h1] at this
    refine ⟨this.1.symm, ?_⟩
    rw [← this.2]
    have e := enc_one
    unfold enc at e
    simpa using e
  · rintro ⟨rfl, rfl⟩
    have e := num_back 1
    have e2 := enc_one
    unfold enc at e2
    simp only [Value.agg.injEq, Array.mk.injEq, List.cons.injEq, Value.bool.injEq, Value.string.injEq, and_true] at e2
    rw [e2.1, e2.2] at e
    exact e

set_option maxRecDepth 100000 in
set_option maxHeartbeats 2000000 in
theorem textf_no {w : World} {na nb : Bool} {sa sb : ByteArray} (h : ¬ MayFr na sa nb sb) :
    Calls Tryz.prog 71 #[.agg #[.bool na, .string sa, .bool nb, .string sb]] w (fun e w' => e = .returned (.tuple #[.string ⟨#[]⟩, .int .i64 2]) ∧ Below w.heap.size w w') := by
  have HM := Lib.hid (fun W => mayf_any (w := W) (r := false) (na := na) (sa := sa) (nb := nb) (sb := sb) ⟨fun h => (by cases h), fun h' => absurd h' h⟩)
  clear h
  have hbx := Box.new w 36 #[.bool na, .string sa, .bool nb, .string sb]
  go_enter Tryz.func71, Tryz.ntmps71
  go_wp2_with (go_at_call 91; (with_reducible refine (HM.out _).mono ?_); rintro _ _ ⟨rfl, hb1⟩; have hbx := hbx.next hb1)
  go_ret2
  exact ⟨rfl, hbx.2⟩

theorem len_oneG : (wds (1 : Int).natAbs).length ≤ 100000000 := by
  show (wds 1).length ≤ 100000000
  rw [wds_pos (by decide), show 1 / 4294967296 = 0 by decide, wds_zero]
  simp

set_option maxRecDepth 100000 in
set_option maxHeartbeats 4000000 in
theorem textf_yes {w : World} {na nb : Bool} {sa sb : ByteArray} (h : MayFr na sa nb sb) :
    Calls Tryz.prog 71 #[.agg #[.bool na, .string sa, .bool nb, .string sb]] w (fun e w' => e = .returned (.tuple #[.string ⟨(txtF (num (na, sa)) (num (nb, sb))).toArray⟩, .int .i64 0]) ∧ Below w.heap.size w w') := by
  have HM := Lib.hid (fun W => mayf_any (w := W) (r := true) (na := na) (sa := sa) (nb := nb) (sb := sb) ⟨fun _ => h, fun _ => rfl⟩)
  have HTa : Hid (∀ W, Calls Tryz.prog 92 #[.agg #[.bool na, .string sa]] W (fun e w' => e = .returned (.tuple #[.string ⟨(txt (num (na, sa))).toArray⟩, .int .i64 0]) ∧ Below W.heap.size W w')) :=
    Lib.hid fun W => (text_any (w := W)).mono fun e w' ⟨h1, _, h3⟩ => ⟨h1 h.a, h3⟩
  have HTb : Hid (∀ W, Calls Tryz.prog 92 #[.agg #[.bool nb, .string sb]] W (fun e w' => e = .returned (.tuple #[.string ⟨(txt (num (nb, sb))).toArray⟩, .int .i64 0]) ∧ Below W.heap.size W w')) :=
    Lib.hid fun W => (text_any (w := W)).mono fun e w' ⟨h1, _, h3⟩ => ⟨h1 h.b, h3⟩
  have HO := Lib.hid (fun W => newint_any (w := W) (n := 1) (by decide) (by decide))
  have HK : Hid (∀ (W : World) (g : Nat), IntB W g 1 → Calls Tryz.prog 93 #[.pointer (some ⟨g, 0, none⟩)] W (fun e w' => e = .returned (.agg #[.bool false, .string ⟨#[1]⟩]) ∧ Below W.heap.size W w')) :=
    Lib.hid fun W g hi => (back_any hi len_oneG).mono fun e w' ⟨h1, h2⟩ => ⟨by rw [h1, enc_one], h2⟩
  have la : (⟨(txt (num (na, sa))).toArray⟩ : ByteArray).size ≤ 4000 := by
    have := txt_len (n := na) (s := sa)
    have := h.al
    show (txt (num (na, sa))).toArray.size ≤ 4000
    rw [List.size_toArray]; omega
  have lb : (⟨(txt (num (nb, sb))).toArray⟩ : ByteArray).size ≤ 4000 := by
    have := txt_len (n := nb) (s := sb)
    have := h.bl
    show (txt (num (nb, sb))).toArray.size ≤ 4000
    rw [List.size_toArray]; omega
  obtain ⟨ta, hta⟩ : ∃ ta : ByteArray, ta = ⟨(txt (num (na, sa))).toArray⟩ := ⟨_, rfl⟩
  obtain ⟨tb, htb⟩ : ∃ tb : ByteArray, tb = ⟨(txt (num (nb, sb))).toArray⟩ := ⟨_, rfl⟩
  rw [← hta] at HTa la
  rw [← htb] at HTb lb
  have Hone := Lib.hid (num_one_iff h.b)
  have Ht := Lib.hid (And.intro hta htb)
  have hne := neq_wh nb false sb ⟨#[1]⟩
  clear h hta htb
  obtain ⟨d, hd⟩ : ∃ d : Bool, d = !decide (nb = false ∧ sb = ⟨#[1]⟩) := ⟨_, rfl⟩
  rw [← hd] at hne
  have Hd := Lib.hid hd
  clear hd
  cases d
  · -- the denominator is 1
    go_enter Tryz.func71, Tryz.ntmps71
    have hbx := Box.new w 36 #[.bool na, .string sa, .bool nb, .string sb]
    go_wp2_with (first
      | (go_at_call 91; (with_reducible refine (HM.out _).mono ?_); rintro _ W1 ⟨rfl, hb1⟩; have hbx := hbx.next hb1; have c0 := hbx.1.cell 0; have c1 := hbx.1.cell 1; have c2 := hbx.1.cell 2; have c3 := hbx.1.cell 3; clear hb1)
      | (go_at_call 92; (with_reducible refine (HTa.out _).mono ?_); rintro _ W2 ⟨rfl, hb1⟩; have hbx := hbx.next hb1; have c0 := hbx.1.cell 0; have c1 := hbx.1.cell 1; have c2 := hbx.1.cell 2; have c3 := hbx.1.cell 3; clear hb1))
    have hbs := hbx
    have hsz0 := hbx.1.lt
    go_region_held3 (fun w' => w'.cell? ⟨w.heap.size, 2, none⟩ = some (.bool nb) ∧ w'.cell? ⟨w.heap.size, 3, none⟩ = some (.string sb))
      (first
        | go_keep
        | (rw [hb6.cell (by show w.heap.size < _; simpa using hsz0), hb6.cell (by show w.heap.size < _; simpa using hsz0)]; go_keep)
        | (rw [hb7.cell (by show w.heap.size < _; omega), hb7.cell (by show w.heap.size < _; omega)]; go_keep))
      (first
        | (go_at_call 94; (with_reducible refine (HO.out _).mono ?_); rintro _ W6 ⟨rfl, hi6, hb6⟩; have z6 : w.heap.size < W6.heap.size := (by have := hb6.size; simp at this; omega))
        | (go_at_call 93; (refine (HK.out _ _ hi6).mono ?_); rintro _ W7 ⟨rfl, hb7⟩; have z7 := hb7.size))
    have hbx7 := (hbs.next (Below.drew' hb6)).next hb7
    go_wp2_with fail
    go_ret2
    refine ⟨?_, hbx7.2⟩
    have h1 : num (nb, sb) = 1 := Hone.out.2 (by have := Hd.out; simpa using this.symm)
    rw [h1, Ht.out.1]
    rfl
  · -- the denominator is told, too
    go_enter Tryz.func71, Tryz.ntmps71
    have hbx := Box.new w 36 #[.bool na, .string sa, .bool nb, .string sb]
    go_wp2_with (first
      | (go_at_call 91; (with_reducible refine (HM.out _).mono ?_); rintro _ W1 ⟨rfl, hb1⟩; have hbx := hbx.next hb1; have c0 := hbx.1.cell 0; have c1 := hbx.1.cell 1; have c2 := hbx.1.cell 2; have c3 := hbx.1.cell 3; clear hb1)
      | (go_at_call 92; (with_reducible refine (HTa.out _).mono ?_); rintro _ W2 ⟨rfl, hb1⟩; have hbx := hbx.next hb1; have c0 := hbx.1.cell 0; have c1 := hbx.1.cell 1; have c2 := hbx.1.cell 2; have c3 := hbx.1.cell 3; clear hb1))
    have hbs := hbx
    have hsz0 := hbx.1.lt
    go_region_held3 (fun w' => w'.cell? ⟨w.heap.size, 2, none⟩ = some (.bool nb) ∧ w'.cell? ⟨w.heap.size, 3, none⟩ = some (.string sb))
      (first
        | go_keep
        | (rw [hb6.cell (by show w.heap.size < _; simpa using hsz0), hb6.cell (by show w.heap.size < _; simpa using hsz0)]; go_keep)
        | (rw [hb7.cell (by show w.heap.size < _; omega), hb7.cell (by show w.heap.size < _; omega)]; go_keep))
      (first
        | (go_at_call 94; (with_reducible refine (HO.out _).mono ?_); rintro _ W6 ⟨rfl, hi6, hb6⟩; have z6 : w.heap.size < W6.heap.size := (by have := hb6.size; simp at this; omega))
        | (go_at_call 93; (refine (HK.out _ _ hi6).mono ?_); rintro _ W7 ⟨rfl, hb7⟩; have z7 := hb7.size))
    have hbx7 := (hbs.next (Below.drew' hb6)).next hb7
    have c2 := hbx7.1.cell 2
    have c3 := hbx7.1.cell 3
    go_wp2_with (go_at_call 92; (with_reducible refine (HTb.out _).mono ?_); rintro _ W8 ⟨rfl, hb8⟩; have hbx8 := hbx7.next hb8)
    go_ret2
    refine ⟨?_, hbx8.2⟩
    have h1 : ¬ num (nb, sb) = 1 := fun h => by
      have h2 := Hone.out.1 h
      have h3 := Hd.out
      simp [h2.1, h2.2] at h3
    unfold txtF
    rw [if_neg h1, Ht.out.1, Ht.out.2]
    apply congrArg (fun x => Ending.returned (.tuple #[.string x, .int .i64 0]))
    apply ByteArray.ext
    simp
end Go.Proofs.YtebpggfccljagaaGreatDoor

/- traceryref03.Fits, Formed, May. -/
namespace Go.Proofs.YtebpggfccljagaaGreatDoor
open Go.RowKit
open Wh
set_option linter.unusedSimpArgs false
set_option linter.unusedVariables false

end Go.Proofs.YtebpggfccljagaaGreatDoor

/- ref03.Text, gauss.May, ref04.May. -/
namespace Go.Proofs.YtebpggfccljagaaGreatDoor
open Go.RowKit
open Wh
set_option linter.unusedSimpArgs false
set_option linter.unusedVariables false

/-- may a number of two parts be? -/
structure MayGs (n0 : Bool) (s0 : ByteArray) (n1 : Bool) (s1 : ByteArray) (n2 : Bool) (s2 : ByteArray) (n3 : Bool) (s3 : ByteArray) : Prop where
  re : MayFr n0 s0 n1 s1
  im : MayFr n2 s2 n3 s3

set_option maxRecDepth 100000 in
set_option maxHeartbeats 2000000 in
theorem mayg_any {w : World} {n0 n1 n2 n3 : Bool} {s0 s1 s2 s3 : ByteArray} {r : Bool} (hr : r = true ↔ MayGs n0 s0 n1 s1 n2 s2 n3 s3) :
    Calls Tryz.prog 76 #[.agg #[.bool n0, .string s0, .bool n1, .string s1, .bool n2, .string s2, .bool n3, .string s3]] w (fun e w' => e = .returned (.bool r) ∧ Below w.heap.size w w') := by
  by_cases hf : MayFr n0 s0 n1 s1
  · have H1 := Lib.hid (fun W => mayf_any (w := W) (r := true) ⟨fun _ => hf, fun _ => rfl⟩)
    have H2 := Lib.hid (fun W => mayf_any (w := W) (r := r) (na := n2) (sa := s2) (nb := n3) (sb := s3) ⟨fun h => (hr.1 h).im, fun h => hr.2 ⟨hf, h⟩⟩)
    clear hf hr
    have hbx := Box.new w 38 #[.bool n0, .string s0, .bool n1, .string s1, .bool n2, .string s2, .bool n3, .string s3]
    go_enter Tryz.func76, Tryz.ntmps76
    go_wp2_with (first
      | (go_at_call 91; (with_reducible refine (H1.out _).mono ?_); rintro _ W1 ⟨rfl, hb1⟩; have hbx := hbx.next hb1; have c4 := hbx.1.cell 4; have c5 := hbx.1.cell 5; have c6 := hbx.1.cell 6; have c7 := hbx.1.cell 7; clear hb1)
      | (go_at_call 91; (with_reducible refine (H2.out _).mono ?_); rintro _ W2 ⟨rfl, hb1⟩; have hbx := hbx.next hb1; clear hb1))
    go_ret
    exact ⟨rfl, hbx.2⟩
  · have H1 := Lib.hid (fun W => mayf_any (w := W) (r := false) ⟨fun h => (by cases h), fun h => absurd h hf⟩)
    have : r = false := by
      cases r
      · rfl
      · exact absurd (hr.1 rfl).re hf
    subst this
    clear hf hr
    have hbx := Box.new w 38 #[.bool n0, .string s0, .bool n1, .string s1, .bool n2, .string s2, .bool n3, .string s3]
    go_enter Tryz.func76, Tryz.ntmps76
    go_wp2_with (go_at_call 91; (with_reducible refine (H1.out _).mono ?_); rintro _ W1 ⟨rfl, hb1⟩; have hbx := hbx.next hb1; clear hb1)
    go_ret
    exact ⟨rfl, hbx.2⟩

end Go.Proofs.YtebpggfccljagaaGreatDoor

/- slices.Equal, ref30.SameInts (from wip/words). -/
namespace Go.Proofs.YtebpggfccljagaaGreatDoor
open Go.RowKit
open Wh
set_option linter.unusedSimpArgs false
set_option linter.unusedVariables false

theorem take_grow {l m : List Int} {i : Nat} (hl : i < l.length) (hm : i < m.length) (h : l.take i = m.take i) (hx : l[i] = m[i]) : l.take (i + 1) = m.take (i + 1) := by
  rw [List.take_succ_eq_append_getElem hl, List.take_succ_eq_append_getElem hm, h, hx]
/-- what Equal leaves -/
def EqOut (w : World) (l m : List Int) (e : Ending) (w' : World) : Prop := ∃ d, e = .returned (.bool (decide (l = m))) ∧ w.drewN d = w'
theorem eq_yes {w : World} {l m : List Int} (d : Nat) (h : l = m) : EqOut w l m (.returned (.bool true)) (w.drewN d) := ⟨d, by rw [decide_eq_true h], rfl⟩
theorem eq_no {w : World} {l m : List Int} (d : Nat) (h : ¬ l = m) : EqOut w l m (.returned (.bool false)) (w.drewN d) := ⟨d, by rw [decide_eq_false h], rfl⟩
set_option maxRecDepth 100000 in
set_option maxHeartbeats 2000000 in
theorem equal_any {w : World} {B B' n n' c c' : Nat} {A A' : Option Addr} {l m : List Int} (hr : ReadsI w B A l) (hr' : ReadsI w B' A' m) (hn : n = l.length) (hn' : n' = m.length) (hb : n ≤ 1000000000) (hb' : n' ≤ 1000000000) :
    Calls Tryz.prog 52 #[.slice A n c, .slice A' n' c'] w (EqOut w l m) := by
  have Hn := Lib.hid hn
  have Hn' := Lib.hid hn'
  have Hr := Lib.hid hr
  have Hr' := Lib.hid hr'
  clear hr hr' hn hn'
  rcases Decidable.em (n = n') with he | he
  · subst he
    have hbe : ((n : Int) == (n : Int)) = true := by simp
    go_enter Tryz.func52, Tryz.ntmps52
    go_wp2_with fail
    go_loopg [13] n (fun k iv wr => ∃ (i d : Nat), iv = .int .i64 (i : Int) ∧ k = n - i ∧ i ≤ n ∧ Hid (l.take i = m.take i) ∧ Hid (wr = w.drewN d))
    case atStart => exact ⟨0, 0, rfl, by omega, by omega, Lib.hid rfl, Lib.hid rfl⟩
    case round =>
      obtain ⟨i, d, rfl, hk, hi, htk, hw⟩ := hrel
      have Hk := Lib.hid hk
      clear hk
      have ew := hw.out
      subst ew
      by_cases hin : i < n
      · have hil : i < l.length := by rw [← Hn.out]; omega
        have hjl : i < m.length := by rw [← Hn'.out]; omega
        obtain ⟨ad, rfl, hb1, c0⟩ := Hr.out.at_ hil
        obtain ⟨ad2, rfl, hb2, d0⟩ := Hr'.out.at_ hjl
        have hii : (i : Int) < (n : Int) := by omega
        rcases Decidable.em (l[i] = m[i]) with hxy | hxy
        · have hnext := Lib.hid (take_grow hil hjl htk.out hxy)
          rw [← hxy] at d0
          generalize l[i] = x at *
          clear hb1 hb2 hil hjl hxy
          go_wp2_with (go_quiet (fail))
          go_roundg (n - (i + 1))
          case measure => have := Hk.out; omega
          case rel => exact ⟨i + 1, _, rfl, rfl, by omega, hnext, Lib.hid rfl⟩
        · have hne := Lib.hid (show ¬ l = m from fun e => hxy (by subst e; rfl))
          generalize l[i] = x at *
          generalize m[i] = y at *
          have hbeq : (x == y) = false := by simp; exact hxy
          clear hb1 hb2 hil hjl
          go_wp2_with (go_quiet (fail))
          go_ret
          exact eq_no _ hne.out
      · have hii : (n : Int) ≤ (i : Int) := by omega
        have heq := Lib.hid (show l = m by
          have h := htk.out
          rw [List.take_of_length_le (by have := Hn.out; omega), List.take_of_length_le (by have := Hn'.out; omega)] at h
          exact h)
        go_wp2_with (go_quiet (fail))
        go_ret
        exact eq_yes _ heq.out
  · have hne := Lib.hid (show ¬ l = m from fun e => he (by rw [Hn.out, Hn'.out, e]))
    have hbe : ((n : Int) == (n' : Int)) = false := by simp; omega
    have hbe2 : ¬ (n : Int) = (n' : Int) := by omega
    go_enter Tryz.func52, Tryz.ntmps52
    go_wp2_with fail
    go_ret
    exact eq_no 0 hne.out
set_option maxRecDepth 100000 in
set_option maxHeartbeats 2000000 in
theorem same_any {w : World} {B B' n n' c c' : Nat} {A A' : Option Addr} {l m : List Int} (hr : ReadsI w B A l) (hr' : ReadsI w B' A' m) (hn : n = l.length) (hn' : n' = m.length) (hb : n ≤ 1000000000) (hb' : n' ≤ 1000000000) :
    Calls Tryz.prog 31 #[.slice A n c, .slice A' n' c'] w (EqOut w l m) := by
  have Hn := Lib.hid hn
  have Hn' := Lib.hid hn'
  have Hr := Lib.hid hr
  have Hr' := Lib.hid hr'
  clear hr hr' hn hn'
  rcases Decidable.em (n = n') with he | he
  · subst he
    have hbe : ((n : Int) == (n : Int)) = true := by simp
    have hbe2 : ((n : Int) != (n : Int)) = false := by simp
    go_enter Tryz.func31, Tryz.ntmps31
    go_wp2_with fail
    go_loopg [5] n (fun k iv wr => ∃ (i d : Nat), iv = .int .i64 (i : Int) ∧ k = n - i ∧ i ≤ n ∧ Hid (l.take i = m.take i) ∧ Hid (wr = w.drewN d))
    case atStart => exact ⟨0, 0, rfl, by omega, by omega, Lib.hid rfl, Lib.hid rfl⟩
    case round =>
      obtain ⟨i, d, rfl, hk, hi, htk, hw⟩ := hrel
      have Hk := Lib.hid hk
      clear hk
      have ew := hw.out
      subst ew
      by_cases hin : i < n
      · have hil : i < l.length := by rw [← Hn.out]; omega
        have hjl : i < m.length := by rw [← Hn'.out]; omega
        obtain ⟨ad, rfl, hb1, c0⟩ := Hr.out.at_ hil
        obtain ⟨ad2, rfl, hb2, d0⟩ := Hr'.out.at_ hjl
        have hii : (i : Int) < (n : Int) := by omega
        rcases Decidable.em (l[i] = m[i]) with hxy | hxy
        · have hnext := Lib.hid (take_grow hil hjl htk.out hxy)
          rw [← hxy] at d0
          generalize l[i] = x at *
          clear hb1 hb2 hil hjl hxy
          go_wp2_with (go_quiet (fail))
          go_roundg (n - (i + 1))
          case measure => have := Hk.out; omega
          case rel => exact ⟨i + 1, _, rfl, rfl, by omega, hnext, Lib.hid rfl⟩
        · have hne := Lib.hid (show ¬ l = m from fun e => hxy (by subst e; rfl))
          generalize l[i] = x at *
          generalize m[i] = y at *
          have hbeq : (x == y) = false := by simp; exact hxy
          have hbeq2 : (x != y) = true := by simp; exact hxy
          clear hb1 hb2 hil hjl
          go_wp2_with (go_quiet (fail))
          go_ret
          exact eq_no _ hne.out
      · have hii : (n : Int) ≤ (i : Int) := by omega
        have heq := Lib.hid (show l = m by
          have h := htk.out
          rw [List.take_of_length_le (by have := Hn.out; omega), List.take_of_length_le (by have := Hn'.out; omega)] at h
          exact h)
        go_wp2_with (go_quiet (fail))
        go_ret
        exact eq_yes _ heq.out
  · have hne := Lib.hid (show ¬ l = m from fun e => he (by rw [Hn.out, Hn'.out, e]))
    have hbe : ((n : Int) == (n' : Int)) = false := by simp; omega
    have hbe2 : ¬ (n : Int) = (n' : Int) := by omega
    have hbe3 : ((n : Int) != (n' : Int)) = true := by simp; omega
    go_enter Tryz.func31, Tryz.ntmps31
    go_wp2_with fail
    go_ret
    exact eq_no 0 hne.out
end Go.Proofs.YtebpggfccljagaaGreatDoor

/- Script: plain: letters, names. -/
namespace Go.Proofs.YtebpggfccljagaaGreatDoor.Sc
def letB (c : UInt8) : Bool := decide (97 ≤ c.toNat) && decide (c.toNat ≤ 122)
def digB (c : UInt8) : Bool := decide (48 ≤ c.toNat) && decide (c.toNat ≤ 57)
/-- a word of letters -/
def lettersB (l : List UInt8) : Bool := decide (1 ≤ l.length) && decide (l.length ≤ 16) && l.all letB
/-- what may stand in a name behind its first letter -/
def behB (c : UInt8) : Bool := letB c || digB c || c == 45
/-- a name -/
def namedB (l : List UInt8) : Bool := decide (1 ≤ l.length) && decide (l.length ≤ 32) && (match l with | [] => false | c :: r => letB c && r.all behB)
theorem all_take {p : UInt8 → Bool} {l : List UInt8} {i : Nat} (hi : i < l.length) (h : (l.take i).all p = true) (hp : p l[i] = true) : (l.take (i + 1)).all p = true := by
  rw [List.take_succ_eq_append_getElem hi, List.all_append, h]
  simp [hp]
theorem all_not {p : UInt8 → Bool} {l : List UInt8} {i : Nat} (hi : i < l.length) (hp : p l[i] = false) : l.all p = false := by
  rw [Bool.eq_false_iff]
  intro h
  have := List.all_eq_true.1 h l[i] (List.getElem_mem hi)
  rw [hp] at this; cases this
theorem letters_no {l : List UInt8} (h : l.all letB = false) : lettersB l = false := by unfold lettersB; rw [h, Bool.and_false]
theorem letters_yes {l : List UInt8} (h : l.all letB = true) : lettersB l = (decide (1 ≤ l.length) && decide (l.length ≤ 16)) := by unfold lettersB; rw [h, Bool.and_true]
/-- the bytes of a name up to a place -/
def nameTo (l : List UInt8) (i : Nat) : Bool := match l.take i with | [] => true | c :: r => letB c && r.all behB
theorem nameTo_zero (l : List UInt8) : nameTo l 0 = true := rfl
theorem nameTo_next {l : List UInt8} {i : Nat} (hi : i < l.length) (h : nameTo l i = true) (hp : (if i = 0 then letB l[i] else behB l[i]) = true) : nameTo l (i + 1) = true := by
  cases l with
  | nil => simp at hi
  | cons c r =>
    cases i with
    | zero => simp [nameTo] at *; exact hp
    | succ j =>
      simp only [nameTo, List.take_succ_cons, List.getElem_cons_succ] at *
      simp only [Bool.and_eq_true] at h ⊢
      refine ⟨h.1, all_take (by simpa using hi) h.2 ?_⟩
      simpa using hp
theorem named_all {l : List UInt8} (h : nameTo l l.length = true) : namedB l = (decide (1 ≤ l.length) && decide (l.length ≤ 32)) := by
  unfold namedB
  unfold nameTo at h
  rw [List.take_length] at h
  cases l with
  | nil => rfl
  | cons c r => rw [h, Bool.and_true]
theorem named_no {l : List UInt8} {i : Nat} (hi : i < l.length) (hp : (if i = 0 then letB l[i] else behB l[i]) = false) : namedB l = false := by
  unfold namedB
  cases l with
  | nil => simp at hi
  | cons c r =>
    cases i with
    | zero =>
      have : letB c = false := by simpa using hp
      simp [this]
    | succ j =>
      have hj : j < r.length := by simpa using hi
      have : r.all behB = false := all_not (p := behB) hj (by simpa using hp)
      simp [this]
end Go.Proofs.YtebpggfccljagaaGreatDoor.Sc

/- Script: letters, names: the program's and the reference's. -/
namespace Go.Proofs.YtebpggfccljagaaGreatDoor
open Go.RowKit
open Sc

/-- a byte of a text, as the walk meets it -/
theorem byte_at {s : ByteArray} {i : Nat} (hi : i < s.size) : ∃ c : UInt8, s[i]'hi = c ∧ ∃ hl : i < s.data.toList.length, s.data.toList[i]'hl = c := ⟨s[i], rfl, by simpa using hi, rfl⟩
theorem ret_bool {a b : Bool} (h : b = a) : Ending.returned (.bool a) = .returned (.bool b) := by rw [h]
theorem letB_yes {c : UInt8} (h1 : (97 : Int) ≤ c.toNat) (h2 : (c.toNat : Int) ≤ 122) : letB c = true := by simp [letB]; omega
theorem letB_lo {c : UInt8} (h1 : (c.toNat : Int) < 97) : letB c = false := by simp [letB]; omega
theorem letB_hi {c : UInt8} (h1 : (122 : Int) < c.toNat) : letB c = false := by simp [letB]; omega

set_option maxRecDepth 100000 in
set_option maxHeartbeats 1000000 in
theorem letters_any (s : ByteArray) (w : World) (hs : s.size ≤ 9223372036854775807) : Calls Tryz.prog 45 #[.string s] w fun e w' => e = .returned (.bool (lettersB s.data.toList)) ∧ w = w' := by
  have HL := Lib.hid (show s.data.toList.length = s.size by simp)
  go_enter Tryz.func45, Tryz.ntmps45
  go_wp2_with fail
  go_loopg [6] s.size (fun k iv wr => ∃ i : Nat, iv = .int .i64 (i : Int) ∧ k = s.size - i ∧ i ≤ s.size ∧ w = wr ∧ Hid ((s.data.toList.take i).all letB = true))
  case atStart => exact ⟨0, rfl, by omega, by omega, rfl, rfl⟩
  case round =>
    obtain ⟨i, rfl, hk, hi, rfl, ha⟩ := hrel
    have Hk := Lib.hid hk
    clear hk
    by_cases hlt : i < s.size
    · have hii : (i : Int) < (s.size : Int) := by omega
      have hi0 : (0 : Int) ≤ (i : Int) := by omega
      obtain ⟨c, hc, hl, hcl⟩ := byte_at hlt
      have Hcl := Lib.hid hcl
      have hc256 : c.toNat < 256 := c.toNat_lt
      by_cases h1 : (c.toNat : Int) < 97
      · have HN := Lib.hid (letters_no (all_not hl (by rw [hcl]; exact letB_lo h1)))
        clear hcl
        go_wp2_with fail
        go_ret
        exact ⟨ret_bool HN.out, rfl⟩
      · have h1' : (97 : Int) ≤ c.toNat := by omega
        by_cases h2 : (122 : Int) < c.toNat
        · have HN := Lib.hid (letters_no (all_not hl (by rw [hcl]; exact letB_hi h2)))
          clear hcl h1
          go_wp2_with fail
          go_ret
          exact ⟨ret_bool HN.out, rfl⟩
        · have h2' : (c.toNat : Int) ≤ 122 := by omega
          have HN := Lib.hid (all_take hl ha.out (by rw [hcl]; exact letB_yes h1' h2'))
          clear hcl h1 h2
          go_wp2_with fail
          go_roundg (s.size - (i + 1))
          case measure => have := Hk.out; omega
          case rel => exact ⟨i + 1, by go_num, rfl, by omega, rfl, HN⟩
    · have hin : i = s.size := by omega
      subst hin
      have HY := Lib.hid (letters_yes (l := s.data.toList) (by have := ha.out; rw [← HL.out, List.take_length] at this; exact this))
      by_cases g1 : 1 ≤ s.size
      · have i1 : (1 : Int) ≤ (s.size : Int) := by omega
        by_cases g2 : s.size ≤ 16
        · have i2 : (s.size : Int) ≤ 16 := by omega
          have HB := Lib.hid (show lettersB s.data.toList = true by rw [HY.out, HL.out]; simp [g1, g2])
          clear g1 g2
          go_wp2_with fail
          go_ret
          exact ⟨ret_bool HB.out, rfl⟩
        · have i2 : ¬ (s.size : Int) ≤ 16 := by omega
          have HB := Lib.hid (show lettersB s.data.toList = false by rw [HY.out, HL.out]; simp [g2])
          clear g1 g2
          go_wp2_with fail
          go_ret
          exact ⟨ret_bool HB.out, rfl⟩
      · have i1 : ¬ (1 : Int) ≤ (s.size : Int) := by omega
        have HB := Lib.hid (show lettersB s.data.toList = false by rw [HY.out, HL.out]; simp [g1])
        clear g1
        go_wp2_with fail
        go_ret
        exact ⟨ret_bool HB.out, rfl⟩

theorem behB_let {c : UInt8} (h1 : (97 : Int) ≤ c.toNat) (h2 : (c.toNat : Int) ≤ 122) : behB c = true := by simp [behB, letB_yes h1 h2]
theorem behB_dig {c : UInt8} (h1 : (48 : Int) ≤ c.toNat) (h2 : (c.toNat : Int) ≤ 57) : behB c = true := by
  have : digB c = true := by simp [digB]; omega
  simp [behB, this]
theorem behB_dash {c : UInt8} (h : (c.toNat : Int) = 45) : behB c = true := by
  have : c = 45 := UInt8.toNat_inj.1 (by show c.toNat = 45; omega)
  subst this; decide
theorem behB_no {c : UInt8} (h1 : (c.toNat : Int) < 97 ∨ (122 : Int) < c.toNat) (h2 : (c.toNat : Int) < 48 ∨ (57 : Int) < c.toNat) (h3 : (c.toNat : Int) ≠ 45) : behB c = false := by
  have e1 : letB c = false := by rcases h1 with h | h; exact letB_lo h; exact letB_hi h
  have e2 : digB c = false := by simp [digB]; omega
  have e3 : (c == 45) = false := by
    rw [Bool.eq_false_iff]; intro h
    have : c = 45 := eq_of_beq h
    subst this; exact h3 rfl
  simp [behB, e1, e2, e3]

set_option maxRecDepth 100000 in
set_option maxHeartbeats 2000000 in
theorem named_any (s : ByteArray) (w : World) (hs : s.size ≤ 9223372036854775807) : Calls Tryz.prog 46 #[.string s] w fun e w' => e = .returned (.bool (namedB s.data.toList)) ∧ w = w' := by
  have HL := Lib.hid (show s.data.toList.length = s.size by simp)
  go_enter Tryz.func46, Tryz.ntmps46
  go_wp2_with fail
  go_loopg [7] s.size (fun k iv wr => ∃ i : Nat, iv = .int .i64 (i : Int) ∧ k = s.size - i ∧ i ≤ s.size ∧ w = wr ∧ Hid (nameTo s.data.toList i = true))
  case atStart => exact ⟨0, rfl, by omega, by omega, rfl, nameTo_zero _⟩
  case round =>
    obtain ⟨i, rfl, hk, hi, rfl, ha⟩ := hrel
    have Hk := Lib.hid hk
    clear hk
    by_cases hlt : i < s.size
    · have hii : (i : Int) < (s.size : Int) := by omega
      have hi0 : (0 : Int) ≤ (i : Int) := by omega
      obtain ⟨c, hc, hl, hcl⟩ := byte_at hlt
      have hc256 : c.toNat < 256 := c.toNat_lt
      have HE := Lib.hid (show ∃ hl : i < s.data.toList.length, s.data.toList[i]'hl = c from ⟨hl, hcl⟩)
      clear hcl hl
      have Fall := Lib.hid (show (if i = 0 then letB c else behB c) = false → namedB s.data.toList = false from fun h => by obtain ⟨hl, hcl⟩ := HE.out; exact named_no hl (by rw [hcl]; exact h))
      have Go := Lib.hid (show (if i = 0 then letB c else behB c) = true → nameTo s.data.toList (i + 1) = true from fun h => by obtain ⟨hl, hcl⟩ := HE.out; exact nameTo_next hl ha.out (by rw [hcl]; exact h))
      by_cases h0 : i = 0
      · subst h0
        by_cases h1 : (c.toNat : Int) < 97
        · have HN := Lib.hid (Fall.out (by rw [if_pos rfl]; exact letB_lo h1))
          go_wp2_with fail
          go_ret
          exact ⟨ret_bool HN.out, rfl⟩
        · have h1' : (97 : Int) ≤ (c.toNat : Int) := by omega
          by_cases h2 : (122 : Int) < (c.toNat : Int)
          · have HN := Lib.hid (Fall.out (by rw [if_pos rfl]; exact letB_hi h2))
            go_wp2_with fail
            go_ret
            exact ⟨ret_bool HN.out, rfl⟩
          · have h2' : (c.toNat : Int) ≤ 122 := by omega
            have HN := Lib.hid (Go.out (by rw [if_pos rfl]; exact letB_yes h1' h2'))
            go_wp2_with fail
            go_roundg (s.size - (0 + 1))
            case measure => have := Hk.out; omega
            case rel => exact ⟨0 + 1, by go_num, rfl, by omega, rfl, HN⟩
      · have h0i : (1 : Int) ≤ (i : Int) := by omega
        have h0e : ((i : Int) == 0) = false := by simp; omega
        by_cases h1 : (c.toNat : Int) < 97
        · have h1' : (c.toNat : Int) ≤ 122 := by omega
          by_cases h3 : (c.toNat : Int) < 48
          · by_cases h5 : (c.toNat : Int) = 45
            · have h5e : ((c.toNat : Int) == 45) = true := by simp [h5]
              have HN := Lib.hid (Go.out (by rw [if_neg h0]; exact behB_dash h5))
              go_wp2_with fail
              go_roundg (s.size - (i + 1))
              case measure => have := Hk.out; omega
              case rel => exact ⟨i + 1, by go_num, rfl, by omega, rfl, HN⟩
            · have h5e : ((c.toNat : Int) == 45) = false := by simp [h5]
              have HN := Lib.hid (Fall.out (by rw [if_neg h0]; exact behB_no (.inl h1) (.inl h3) h5))
              go_wp2_with fail
              go_ret
              exact ⟨ret_bool HN.out, rfl⟩
          · have h3' : (48 : Int) ≤ (c.toNat : Int) := by omega
            have h5e : ((c.toNat : Int) == 45) = false := by simp; omega
            by_cases h4 : (57 : Int) < (c.toNat : Int)
            · have HN := Lib.hid (Fall.out (by rw [if_neg h0]; exact behB_no (.inl h1) (.inr h4) (by omega)))
              go_wp2_with fail
              go_ret
              exact ⟨ret_bool HN.out, rfl⟩
            · have h4' : (c.toNat : Int) ≤ 57 := by omega
              have HN := Lib.hid (Go.out (by rw [if_neg h0]; exact behB_dig h3' h4'))
              go_wp2_with fail
              go_roundg (s.size - (i + 1))
              case measure => have := Hk.out; omega
              case rel => exact ⟨i + 1, by go_num, rfl, by omega, rfl, HN⟩
        · have h1' : (97 : Int) ≤ (c.toNat : Int) := by omega
          by_cases h2 : (122 : Int) < (c.toNat : Int)
          · have h3' : (48 : Int) ≤ (c.toNat : Int) := by omega
            have h4 : (57 : Int) < (c.toNat : Int) := by omega
            have h5e : ((c.toNat : Int) == 45) = false := by simp; omega
            have HN := Lib.hid (Fall.out (by rw [if_neg h0]; exact behB_no (.inr h2) (.inr h4) (by omega)))
            go_wp2_with fail
            go_ret
            exact ⟨ret_bool HN.out, rfl⟩
          · have h2' : (c.toNat : Int) ≤ 122 := by omega
            have HN := Lib.hid (Go.out (by rw [if_neg h0]; exact behB_let h1' h2'))
            go_wp2_with fail
            go_roundg (s.size - (i + 1))
            case measure => have := Hk.out; omega
            case rel => exact ⟨i + 1, by go_num, rfl, by omega, rfl, HN⟩
    · have hin : i = s.size := by omega
      subst hin
      have HY := Lib.hid (named_all (l := s.data.toList) (by have := ha.out; rw [← HL.out] at this; exact this))
      by_cases g1 : 1 ≤ s.size
      · have i1 : (1 : Int) ≤ (s.size : Int) := by omega
        by_cases g2 : s.size ≤ 32
        · have i2 : (s.size : Int) ≤ 32 := by omega
          have HB := Lib.hid (show namedB s.data.toList = true by rw [HY.out, HL.out]; simp [g1, g2])
          clear g1 g2
          go_wp2_with fail
          go_ret
          exact ⟨ret_bool HB.out, rfl⟩
        · have i2 : ¬ (s.size : Int) ≤ 32 := by omega
          have HB := Lib.hid (show namedB s.data.toList = false by rw [HY.out, HL.out]; simp [g2])
          clear g1 g2
          go_wp2_with fail
          go_ret
          exact ⟨ret_bool HB.out, rfl⟩
      · have i1 : ¬ (1 : Int) ≤ (s.size : Int) := by omega
        have HB := Lib.hid (show namedB s.data.toList = false by rw [HY.out, HL.out]; simp [g1])
        clear g1
        go_wp2_with fail
        go_ret
        exact ⟨ret_bool HB.out, rfl⟩
end Go.Proofs.YtebpggfccljagaaGreatDoor

/- Script: the reference's Named. -/
namespace Go.Proofs.YtebpggfccljagaaGreatDoor
open Go.RowKit
open Sc
end Go.Proofs.YtebpggfccljagaaGreatDoor

/- Arguments. -/
namespace Go.Proofs.YtebpggfccljagaaGreatDoor
open Go.RowKit
open Wh
set_option linter.unusedSimpArgs false
set_option linter.unusedVariables false

theorem tl_iff {a b : ByteArray} : a.toList = b.toList ↔ a = b := ⟨tl_inj, fun h => by rw [h]⟩
theorem eql_gs (x0 y0 x1 y1 x2 y2 x3 y3 : Bool) (s0 t0 s1 t1 s2 t2 s3 t3 : ByteArray) (w : World) :
    (binOp .eql 38 (.agg #[.bool x0, .string s0, .bool x1, .string s1, .bool x2, .string s2, .bool x3, .string s3]) (.agg #[.bool y0, .string t0, .bool y1, .string t1, .bool y2, .string t2, .bool y3, .string t3])).run Tryz.prog w
      = .ok (.bool (decide (x0 = y0 ∧ s0 = t0 ∧ x1 = y1 ∧ s1 = t1 ∧ x2 = y2 ∧ s2 = t2 ∧ x3 = y3 ∧ s3 = t3))) w := by
  go_simp
  simp only [tl_iff]
  (repeat' split) <;> simp_all
/-- an argument: what its cells read -/
structure ArgP where
  k : Int
  nm : ByteArray
  n0 : Bool
  s0 : ByteArray
  n1 : Bool
  s1 : ByteArray
  n2 : Bool
  s2 : ByteArray
  n3 : Bool
  s3 : ByteArray
  wd : List Int
  ct : Int
/-- an argument, with where its word lies and how much room it has -/
abbrev ARow := Option Addr × Nat × ArgP
def acs (r : ARow) : List Value := [.int .i64 r.2.2.k, .string r.2.2.nm, .bool r.2.2.n0, .string r.2.2.s0, .bool r.2.2.n1, .string r.2.2.s1, .bool r.2.2.n2, .string r.2.2.s2, .bool r.2.2.n3, .string r.2.2.s3, .slice r.1 r.2.2.wd.length r.2.1, .int .i64 r.2.2.ct]
def argV (r : ARow) : Value := .agg #[.int .i64 r.2.2.k, .string r.2.2.nm, .bool r.2.2.n0, .string r.2.2.s0, .bool r.2.2.n1, .string r.2.2.s1, .bool r.2.2.n2, .string r.2.2.s2, .bool r.2.2.n3, .string r.2.2.s3, .slice r.1 r.2.2.wd.length r.2.1, .int .i64 r.2.2.ct]
/-- an argument that is read -/
structure ArgR (w : World) (B : Nat) (r : ARow) : Prop where
  kz : -9223372036854775808 ≤ r.2.2.k ∧ r.2.2.k ≤ 9223372036854775807
  cz : -9223372036854775808 ≤ r.2.2.ct ∧ r.2.2.ct ≤ 9223372036854775807
  wd : ReadsI w B r.1 r.2.2.wd
/-- arguments that are read -/
def ReadsA (w : World) (B : Nat) (A : Option Addr) (rs : List ARow) : Prop := Reads w B 12 A rs.length (rs.flatMap acs) ∧ ∀ r ∈ rs, ArgR w B r
theorem acs_get : ∀ (l : List ARow) (k : Nat) (h : k < l.length) (j : Nat), j < 12 → (l.flatMap acs)[12 * k + j]? = (acs l[k])[j]?
  | x :: r, 0, _, j, hj => by
    rw [List.flatMap_cons, Nat.mul_zero, Nat.zero_add]
    exact List.getElem?_append_left (by show j < 12; exact hj)
  | x :: r, k + 1, h, j, hj => by
    rw [List.flatMap_cons, show 12 * (k + 1) + j = (acs x).length + (12 * k + j) by show _ = 12 + _; omega, List.getElem?_append_right (by omega), Nat.add_sub_cancel_left]
    exact acs_get r k (by simpa using h) j hj
theorem ReadsA.at_ {w : World} {B : Nat} {A : Option Addr} {rs : List ARow} (h : ReadsA w B A rs) {k : Nat} (hk : k < rs.length) :
    ∃ ad, A = some ad ∧ ad.block < B ∧ (∀ j u, j < 12 → (acs rs[k])[j]? = some u → w.cell? (if j = 0 then ad.add (k * 12) else ⟨(ad.add (k * 12)).block, (ad.add (k * 12)).off + j, none⟩) = some u) ∧ ArgR w B rs[k] := by
  obtain ⟨ad, e, hb, hc⟩ := h.1.2 (by omega)
  refine ⟨ad, e, hb, fun j u hj hu => ?_, h.2 _ (List.getElem_mem hk)⟩
  have h1 := acs_get rs k hk j hj
  rw [hu] at h1
  have h2 := hc _ _ h1
  by_cases h0 : j = 0
  · subst h0
    rw [if_pos rfl, Nat.mul_comm]; exact h2
  · rw [if_neg h0]
    rw [Nat.mul_comm, ← add_of_add, add_pos (by omega)] at h2
    exact h2
theorem ArgR.more {w : World} {B B' : Nat} {r : ARow} (h : ArgR w B r) (hB : B ≤ B') : ArgR w B' r := ⟨h.kz, h.cz, h.wd.more hB⟩
theorem ArgR.below {w w' : World} {B : Nat} {r : ARow} (h : ArgR w B r) (hb : Below B w w') : ArgR w' B r := ⟨h.kz, h.cz, h.wd.below hb⟩
theorem ArgR.alloc {w : World} {B : Nat} {r : ARow} (h : ArgR w B r) (hB : B ≤ w.heap.size) (o : Obj) : ArgR (w.alloc o) B r := ⟨h.kz, h.cz, h.wd.alloc hB o⟩
theorem ReadsA.more {w : World} {B B' : Nat} {A : Option Addr} {rs : List ARow} (h : ReadsA w B A rs) (hB : B ≤ B') : ReadsA w B' A rs := ⟨h.1.more hB, fun r hr => (h.2 r hr).more hB⟩
theorem ReadsA.below {w w' : World} {B : Nat} {A : Option Addr} {rs : List ARow} (h : ReadsA w B A rs) (hb : Below B w w') : ReadsA w' B A rs := ⟨h.1.below hb, fun r hr => (h.2 r hr).below hb⟩
theorem ReadsA.alloc {w : World} {B : Nat} {A : Option Addr} {rs : List ARow} (h : ReadsA w B A rs) (hB : B ≤ w.heap.size) (o : Obj) : ReadsA (w.alloc o) B A rs := ⟨h.1.alloc hB o, fun r hr => (h.2 r hr).alloc hB o⟩
/-- no number there -/
def ArgP.zero (x : ArgP) : Prop := x.n0 = false ∧ x.s0 = ⟨#[]⟩ ∧ x.n1 = false ∧ x.s1 = ⟨#[]⟩ ∧ x.n2 = false ∧ x.s2 = ⟨#[]⟩ ∧ x.n3 = false ∧ x.s3 = ⟨#[]⟩
instance (x : ArgP) : Decidable x.zero := by unfold ArgP.zero; infer_instance
/-- a letter of a word -/
def letA (k : Int) : Bool := decide (k ≠ 0 ∧ k ≤ 4096 ∧ -4096 ≤ k)
def ArgP.gs (x : ArgP) : Prop := MayGs x.n0 x.s0 x.n1 x.s1 x.n2 x.s2 x.n3 x.s3
/-- may an argument be? -/
def ArgP.ok (x : ArgP) : Prop :=
  if x.k = 1 then Sc.namedB x.nm.data.toList = true ∧ x.zero ∧ x.wd = [] ∧ x.ct = 0
  else if x.k = 2 then x.nm = ⟨#[]⟩ ∧ x.gs ∧ x.wd = [] ∧ x.ct = 0
  else if x.k = 3 then x.nm = ⟨#[]⟩ ∧ x.zero ∧ x.wd = [] ∧ x.ct = 0
  else if x.k = 4 then x.nm = ⟨#[]⟩ ∧ x.zero ∧ x.wd.all letA = true ∧ x.wd.length ≤ 4096 ∧ x.ct = 0
  else if x.k = 5 then x.nm = ⟨#[]⟩ ∧ x.zero ∧ x.wd = [] ∧ 0 ≤ x.ct ∧ x.ct ≤ 2147483647
  else False
end Go.Proofs.YtebpggfccljagaaGreatDoor

/- script.may (printed by gen_may.py). -/
namespace Go.Proofs.YtebpggfccljagaaGreatDoor
open Go.RowKit
open Wh
set_option linter.unusedSimpArgs false
set_option linter.unusedVariables false

set_option maxRecDepth 100000 in
set_option maxHeartbeats 2000000 in
theorem may_1_0 {w : World} {ct : Int} {nm : ByteArray} {n0 n1 n2 n3 : Bool} {s0 s1 s2 s3 : ByteArray} {A : Option Addr} {n c : Nat} (hB : Sc.namedB nm.data.toList = false) (hsz : nm.size ≤ 9223372036854775807) :
    Calls Tryz.prog 47 #[.agg #[.int .i64 1, .string nm, .bool n0, .string s0, .bool n1, .string s1, .bool n2, .string s2, .bool n3, .string s3, .slice A n c, .int .i64 ct]] w (fun e w' => e = .returned (.bool false) ∧ Below w.heap.size w w') := by
  have HN : Hid (∀ W, Calls Tryz.prog 46 #[.string nm] W (fun e w' => e = .returned (.bool false) ∧ Below W.heap.size W w')) := Lib.hid fun W => (named_any nm W hsz).mono fun e w' h => ⟨by rw [h.1, hB], by rw [← h.2]; exact Below.refl _ _⟩
  clear hB hsz
  obtain ⟨bz, hbz⟩ : ∃ b : Bool, decide (n0 = false ∧ s0 = ⟨#[]⟩ ∧ n1 = false ∧ s1 = ⟨#[]⟩ ∧ n2 = false ∧ s2 = ⟨#[]⟩ ∧ n3 = false ∧ s3 = ⟨#[]⟩) = b := ⟨_, rfl⟩
  have hzq := fun W => eql_gs n0 false n1 false n2 false n3 false s0 ⟨#[]⟩ s1 ⟨#[]⟩ s2 ⟨#[]⟩ s3 ⟨#[]⟩ W
  rw [hbz] at hzq
  clear hbz
  have hbx := Box.new w 41 #[.int .i64 1, .string nm, .bool n0, .string s0, .bool n1, .string s1, .bool n2, .string s2, .bool n3, .string s3, .slice A n c, .int .i64 ct]
  go_enter Tryz.func47, Tryz.ntmps47
  go_wp2_with (go_at_call 46; (with_reducible refine (HN.out _).mono ?_); rintro _ W1 ⟨rfl, hb1⟩; have hbx := hbx.next hb1; have c0 := hbx.1.cell 0; have c1 := hbx.1.cell 1; have c2 := hbx.1.cell 2; have c3 := hbx.1.cell 3; have c4 := hbx.1.cell 4; have c5 := hbx.1.cell 5; have c6 := hbx.1.cell 6; have c7 := hbx.1.cell 7; have c8 := hbx.1.cell 8; have c9 := hbx.1.cell 9; have c10 := hbx.1.cell 10; have c11 := hbx.1.cell 11; clear hb1)
  go_ret
  exact ⟨rfl, hbx.2⟩

set_option maxRecDepth 100000 in
set_option maxHeartbeats 2000000 in
theorem may_1_1 {w : World} {ct : Int} {nm : ByteArray} {n0 n1 n2 n3 : Bool} {s0 s1 s2 s3 : ByteArray} {A : Option Addr} {n c : Nat} (hB : Sc.namedB nm.data.toList = true) (hsz : nm.size ≤ 9223372036854775807) (hz : decide (n0 = false ∧ s0 = ⟨#[]⟩ ∧ n1 = false ∧ s1 = ⟨#[]⟩ ∧ n2 = false ∧ s2 = ⟨#[]⟩ ∧ n3 = false ∧ s3 = ⟨#[]⟩) = false) :
    Calls Tryz.prog 47 #[.agg #[.int .i64 1, .string nm, .bool n0, .string s0, .bool n1, .string s1, .bool n2, .string s2, .bool n3, .string s3, .slice A n c, .int .i64 ct]] w (fun e w' => e = .returned (.bool false) ∧ Below w.heap.size w w') := by
  have HN : Hid (∀ W, Calls Tryz.prog 46 #[.string nm] W (fun e w' => e = .returned (.bool true) ∧ Below W.heap.size W w')) := Lib.hid fun W => (named_any nm W hsz).mono fun e w' h => ⟨by rw [h.1, hB], by rw [← h.2]; exact Below.refl _ _⟩
  clear hB hsz
  have hzq := fun W => eql_gs n0 false n1 false n2 false n3 false s0 ⟨#[]⟩ s1 ⟨#[]⟩ s2 ⟨#[]⟩ s3 ⟨#[]⟩ W
  rw [hz] at hzq
  clear hz
  have hbx := Box.new w 41 #[.int .i64 1, .string nm, .bool n0, .string s0, .bool n1, .string s1, .bool n2, .string s2, .bool n3, .string s3, .slice A n c, .int .i64 ct]
  go_enter Tryz.func47, Tryz.ntmps47
  go_wp2_with (go_at_call 46; (with_reducible refine (HN.out _).mono ?_); rintro _ W1 ⟨rfl, hb1⟩; have hbx := hbx.next hb1; have c0 := hbx.1.cell 0; have c1 := hbx.1.cell 1; have c2 := hbx.1.cell 2; have c3 := hbx.1.cell 3; have c4 := hbx.1.cell 4; have c5 := hbx.1.cell 5; have c6 := hbx.1.cell 6; have c7 := hbx.1.cell 7; have c8 := hbx.1.cell 8; have c9 := hbx.1.cell 9; have c10 := hbx.1.cell 10; have c11 := hbx.1.cell 11; clear hb1)
  go_ret
  exact ⟨rfl, hbx.2⟩

set_option maxRecDepth 100000 in
set_option maxHeartbeats 2000000 in
theorem may_1_2 {w : World} {ct : Int} {nm : ByteArray} {n0 n1 n2 n3 : Bool} {s0 s1 s2 s3 : ByteArray} {A : Option Addr} {n c : Nat} (hB : Sc.namedB nm.data.toList = true) (hsz : nm.size ≤ 9223372036854775807) (hz : decide (n0 = false ∧ s0 = ⟨#[]⟩ ∧ n1 = false ∧ s1 = ⟨#[]⟩ ∧ n2 = false ∧ s2 = ⟨#[]⟩ ∧ n3 = false ∧ s3 = ⟨#[]⟩) = true) (hl : ((n : Int) == 0) = false) :
    Calls Tryz.prog 47 #[.agg #[.int .i64 1, .string nm, .bool n0, .string s0, .bool n1, .string s1, .bool n2, .string s2, .bool n3, .string s3, .slice A n c, .int .i64 ct]] w (fun e w' => e = .returned (.bool false) ∧ Below w.heap.size w w') := by
  have HN : Hid (∀ W, Calls Tryz.prog 46 #[.string nm] W (fun e w' => e = .returned (.bool true) ∧ Below W.heap.size W w')) := Lib.hid fun W => (named_any nm W hsz).mono fun e w' h => ⟨by rw [h.1, hB], by rw [← h.2]; exact Below.refl _ _⟩
  clear hB hsz
  have hzq := fun W => eql_gs n0 false n1 false n2 false n3 false s0 ⟨#[]⟩ s1 ⟨#[]⟩ s2 ⟨#[]⟩ s3 ⟨#[]⟩ W
  rw [hz] at hzq
  clear hz
  have hbx := Box.new w 41 #[.int .i64 1, .string nm, .bool n0, .string s0, .bool n1, .string s1, .bool n2, .string s2, .bool n3, .string s3, .slice A n c, .int .i64 ct]
  go_enter Tryz.func47, Tryz.ntmps47
  go_wp2_with (go_at_call 46; (with_reducible refine (HN.out _).mono ?_); rintro _ W1 ⟨rfl, hb1⟩; have hbx := hbx.next hb1; have c0 := hbx.1.cell 0; have c1 := hbx.1.cell 1; have c2 := hbx.1.cell 2; have c3 := hbx.1.cell 3; have c4 := hbx.1.cell 4; have c5 := hbx.1.cell 5; have c6 := hbx.1.cell 6; have c7 := hbx.1.cell 7; have c8 := hbx.1.cell 8; have c9 := hbx.1.cell 9; have c10 := hbx.1.cell 10; have c11 := hbx.1.cell 11; clear hb1)
  go_ret
  exact ⟨rfl, hbx.2⟩

set_option maxRecDepth 100000 in
set_option maxHeartbeats 2000000 in
theorem may_1_3 {w : World} {ct : Int} {nm : ByteArray} {n0 n1 n2 n3 : Bool} {s0 s1 s2 s3 : ByteArray} {A : Option Addr} {n c : Nat} (hB : Sc.namedB nm.data.toList = true) (hsz : nm.size ≤ 9223372036854775807) (hz : decide (n0 = false ∧ s0 = ⟨#[]⟩ ∧ n1 = false ∧ s1 = ⟨#[]⟩ ∧ n2 = false ∧ s2 = ⟨#[]⟩ ∧ n3 = false ∧ s3 = ⟨#[]⟩) = true) (hl : ((n : Int) == 0) = true) (hc : (ct == 0) = false) :
    Calls Tryz.prog 47 #[.agg #[.int .i64 1, .string nm, .bool n0, .string s0, .bool n1, .string s1, .bool n2, .string s2, .bool n3, .string s3, .slice A n c, .int .i64 ct]] w (fun e w' => e = .returned (.bool false) ∧ Below w.heap.size w w') := by
  have HN : Hid (∀ W, Calls Tryz.prog 46 #[.string nm] W (fun e w' => e = .returned (.bool true) ∧ Below W.heap.size W w')) := Lib.hid fun W => (named_any nm W hsz).mono fun e w' h => ⟨by rw [h.1, hB], by rw [← h.2]; exact Below.refl _ _⟩
  clear hB hsz
  have hzq := fun W => eql_gs n0 false n1 false n2 false n3 false s0 ⟨#[]⟩ s1 ⟨#[]⟩ s2 ⟨#[]⟩ s3 ⟨#[]⟩ W
  rw [hz] at hzq
  clear hz
  have hbx := Box.new w 41 #[.int .i64 1, .string nm, .bool n0, .string s0, .bool n1, .string s1, .bool n2, .string s2, .bool n3, .string s3, .slice A n c, .int .i64 ct]
  go_enter Tryz.func47, Tryz.ntmps47
  go_wp2_with (go_at_call 46; (with_reducible refine (HN.out _).mono ?_); rintro _ W1 ⟨rfl, hb1⟩; have hbx := hbx.next hb1; have c0 := hbx.1.cell 0; have c1 := hbx.1.cell 1; have c2 := hbx.1.cell 2; have c3 := hbx.1.cell 3; have c4 := hbx.1.cell 4; have c5 := hbx.1.cell 5; have c6 := hbx.1.cell 6; have c7 := hbx.1.cell 7; have c8 := hbx.1.cell 8; have c9 := hbx.1.cell 9; have c10 := hbx.1.cell 10; have c11 := hbx.1.cell 11; clear hb1)
  go_ret
  exact ⟨rfl, hbx.2⟩

set_option maxRecDepth 100000 in
set_option maxHeartbeats 2000000 in
theorem may_1_4 {w : World} {ct : Int} {nm : ByteArray} {n0 n1 n2 n3 : Bool} {s0 s1 s2 s3 : ByteArray} {A : Option Addr} {n c : Nat} (hB : Sc.namedB nm.data.toList = true) (hsz : nm.size ≤ 9223372036854775807) (hz : decide (n0 = false ∧ s0 = ⟨#[]⟩ ∧ n1 = false ∧ s1 = ⟨#[]⟩ ∧ n2 = false ∧ s2 = ⟨#[]⟩ ∧ n3 = false ∧ s3 = ⟨#[]⟩) = true) (hl : ((n : Int) == 0) = true) (hc : (ct == 0) = true) :
    Calls Tryz.prog 47 #[.agg #[.int .i64 1, .string nm, .bool n0, .string s0, .bool n1, .string s1, .bool n2, .string s2, .bool n3, .string s3, .slice A n c, .int .i64 ct]] w (fun e w' => e = .returned (.bool true) ∧ Below w.heap.size w w') := by
  have HN : Hid (∀ W, Calls Tryz.prog 46 #[.string nm] W (fun e w' => e = .returned (.bool true) ∧ Below W.heap.size W w')) := Lib.hid fun W => (named_any nm W hsz).mono fun e w' h => ⟨by rw [h.1, hB], by rw [← h.2]; exact Below.refl _ _⟩
  clear hB hsz
  have hzq := fun W => eql_gs n0 false n1 false n2 false n3 false s0 ⟨#[]⟩ s1 ⟨#[]⟩ s2 ⟨#[]⟩ s3 ⟨#[]⟩ W
  rw [hz] at hzq
  clear hz
  have hbx := Box.new w 41 #[.int .i64 1, .string nm, .bool n0, .string s0, .bool n1, .string s1, .bool n2, .string s2, .bool n3, .string s3, .slice A n c, .int .i64 ct]
  go_enter Tryz.func47, Tryz.ntmps47
  go_wp2_with (go_at_call 46; (with_reducible refine (HN.out _).mono ?_); rintro _ W1 ⟨rfl, hb1⟩; have hbx := hbx.next hb1; have c0 := hbx.1.cell 0; have c1 := hbx.1.cell 1; have c2 := hbx.1.cell 2; have c3 := hbx.1.cell 3; have c4 := hbx.1.cell 4; have c5 := hbx.1.cell 5; have c6 := hbx.1.cell 6; have c7 := hbx.1.cell 7; have c8 := hbx.1.cell 8; have c9 := hbx.1.cell 9; have c10 := hbx.1.cell 10; have c11 := hbx.1.cell 11; clear hb1)
  go_ret
  exact ⟨rfl, hbx.2⟩

set_option maxRecDepth 100000 in
set_option maxHeartbeats 2000000 in
theorem may_2_0 {w : World} {ct : Int} {nm : ByteArray} {n0 n1 n2 n3 : Bool} {s0 s1 s2 s3 : ByteArray} {A : Option Addr} {n c : Nat} (hn : nm.toList.isEmpty = false) :
    Calls Tryz.prog 47 #[.agg #[.int .i64 2, .string nm, .bool n0, .string s0, .bool n1, .string s1, .bool n2, .string s2, .bool n3, .string s3, .slice A n c, .int .i64 ct]] w (fun e w' => e = .returned (.bool false) ∧ Below w.heap.size w w') := by
  obtain ⟨bz, hbz⟩ : ∃ b : Bool, decide (n0 = false ∧ s0 = ⟨#[]⟩ ∧ n1 = false ∧ s1 = ⟨#[]⟩ ∧ n2 = false ∧ s2 = ⟨#[]⟩ ∧ n3 = false ∧ s3 = ⟨#[]⟩) = b := ⟨_, rfl⟩
  have hzq := fun W => eql_gs n0 false n1 false n2 false n3 false s0 ⟨#[]⟩ s1 ⟨#[]⟩ s2 ⟨#[]⟩ s3 ⟨#[]⟩ W
  rw [hbz] at hzq
  clear hbz
  have hbx := Box.new w 41 #[.int .i64 2, .string nm, .bool n0, .string s0, .bool n1, .string s1, .bool n2, .string s2, .bool n3, .string s3, .slice A n c, .int .i64 ct]
  go_enter Tryz.func47, Tryz.ntmps47
  go_wp2_with fail
  go_ret
  exact ⟨rfl, hbx.2⟩

set_option maxRecDepth 100000 in
set_option maxHeartbeats 2000000 in
theorem may_2_1 {w : World} {ct : Int} {nm : ByteArray} {n0 n1 n2 n3 : Bool} {s0 s1 s2 s3 : ByteArray} {A : Option Addr} {n c : Nat} (hn : nm.toList.isEmpty = true) (hg : ¬ MayGs n0 s0 n1 s1 n2 s2 n3 s3) :
    Calls Tryz.prog 47 #[.agg #[.int .i64 2, .string nm, .bool n0, .string s0, .bool n1, .string s1, .bool n2, .string s2, .bool n3, .string s3, .slice A n c, .int .i64 ct]] w (fun e w' => e = .returned (.bool false) ∧ Below w.heap.size w w') := by
  have HG : Hid (∀ W, Calls Tryz.prog 76 #[.agg #[.bool n0, .string s0, .bool n1, .string s1, .bool n2, .string s2, .bool n3, .string s3]] W (fun e w' => e = .returned (.bool false) ∧ Below W.heap.size W w')) := Lib.hid fun W => mayg_any ⟨fun h => (by cases h), fun h => absurd h hg⟩
  clear hg
  obtain ⟨bz, hbz⟩ : ∃ b : Bool, decide (n0 = false ∧ s0 = ⟨#[]⟩ ∧ n1 = false ∧ s1 = ⟨#[]⟩ ∧ n2 = false ∧ s2 = ⟨#[]⟩ ∧ n3 = false ∧ s3 = ⟨#[]⟩) = b := ⟨_, rfl⟩
  have hzq := fun W => eql_gs n0 false n1 false n2 false n3 false s0 ⟨#[]⟩ s1 ⟨#[]⟩ s2 ⟨#[]⟩ s3 ⟨#[]⟩ W
  rw [hbz] at hzq
  clear hbz
  have hbx := Box.new w 41 #[.int .i64 2, .string nm, .bool n0, .string s0, .bool n1, .string s1, .bool n2, .string s2, .bool n3, .string s3, .slice A n c, .int .i64 ct]
  go_enter Tryz.func47, Tryz.ntmps47
  go_wp2_with (go_at_call 76; (with_reducible refine (HG.out _).mono ?_); rintro _ W1 ⟨rfl, hb1⟩; have hbx := hbx.next hb1; have c0 := hbx.1.cell 0; have c1 := hbx.1.cell 1; have c2 := hbx.1.cell 2; have c3 := hbx.1.cell 3; have c4 := hbx.1.cell 4; have c5 := hbx.1.cell 5; have c6 := hbx.1.cell 6; have c7 := hbx.1.cell 7; have c8 := hbx.1.cell 8; have c9 := hbx.1.cell 9; have c10 := hbx.1.cell 10; have c11 := hbx.1.cell 11; clear hb1)
  go_ret
  exact ⟨rfl, hbx.2⟩

set_option maxRecDepth 100000 in
set_option maxHeartbeats 2000000 in
theorem may_2_2 {w : World} {ct : Int} {nm : ByteArray} {n0 n1 n2 n3 : Bool} {s0 s1 s2 s3 : ByteArray} {A : Option Addr} {n c : Nat} (hn : nm.toList.isEmpty = true) (hg : MayGs n0 s0 n1 s1 n2 s2 n3 s3) (hl : ((n : Int) == 0) = false) :
    Calls Tryz.prog 47 #[.agg #[.int .i64 2, .string nm, .bool n0, .string s0, .bool n1, .string s1, .bool n2, .string s2, .bool n3, .string s3, .slice A n c, .int .i64 ct]] w (fun e w' => e = .returned (.bool false) ∧ Below w.heap.size w w') := by
  have HG : Hid (∀ W, Calls Tryz.prog 76 #[.agg #[.bool n0, .string s0, .bool n1, .string s1, .bool n2, .string s2, .bool n3, .string s3]] W (fun e w' => e = .returned (.bool true) ∧ Below W.heap.size W w')) := Lib.hid fun W => mayg_any ⟨fun _ => hg, fun _ => rfl⟩
  clear hg
  obtain ⟨bz, hbz⟩ : ∃ b : Bool, decide (n0 = false ∧ s0 = ⟨#[]⟩ ∧ n1 = false ∧ s1 = ⟨#[]⟩ ∧ n2 = false ∧ s2 = ⟨#[]⟩ ∧ n3 = false ∧ s3 = ⟨#[]⟩) = b := ⟨_, rfl⟩
  have hzq := fun W => eql_gs n0 false n1 false n2 false n3 false s0 ⟨#[]⟩ s1 ⟨#[]⟩ s2 ⟨#[]⟩ s3 ⟨#[]⟩ W
  rw [hbz] at hzq
  clear hbz
  have hbx := Box.new w 41 #[.int .i64 2, .string nm, .bool n0, .string s0, .bool n1, .string s1, .bool n2, .string s2, .bool n3, .string s3, .slice A n c, .int .i64 ct]
  go_enter Tryz.func47, Tryz.ntmps47
  go_wp2_with (go_at_call 76; (with_reducible refine (HG.out _).mono ?_); rintro _ W1 ⟨rfl, hb1⟩; have hbx := hbx.next hb1; have c0 := hbx.1.cell 0; have c1 := hbx.1.cell 1; have c2 := hbx.1.cell 2; have c3 := hbx.1.cell 3; have c4 := hbx.1.cell 4; have c5 := hbx.1.cell 5; have c6 := hbx.1.cell 6; have c7 := hbx.1.cell 7; have c8 := hbx.1.cell 8; have c9 := hbx.1.cell 9; have c10 := hbx.1.cell 10; have c11 := hbx.1.cell 11; clear hb1)
  go_ret
  exact ⟨rfl, hbx.2⟩

set_option maxRecDepth 100000 in
set_option maxHeartbeats 2000000 in
theorem may_2_3 {w : World} {ct : Int} {nm : ByteArray} {n0 n1 n2 n3 : Bool} {s0 s1 s2 s3 : ByteArray} {A : Option Addr} {n c : Nat} (hn : nm.toList.isEmpty = true) (hg : MayGs n0 s0 n1 s1 n2 s2 n3 s3) (hl : ((n : Int) == 0) = true) (hc : (ct == 0) = false) :
    Calls Tryz.prog 47 #[.agg #[.int .i64 2, .string nm, .bool n0, .string s0, .bool n1, .string s1, .bool n2, .string s2, .bool n3, .string s3, .slice A n c, .int .i64 ct]] w (fun e w' => e = .returned (.bool false) ∧ Below w.heap.size w w') := by
  have HG : Hid (∀ W, Calls Tryz.prog 76 #[.agg #[.bool n0, .string s0, .bool n1, .string s1, .bool n2, .string s2, .bool n3, .string s3]] W (fun e w' => e = .returned (.bool true) ∧ Below W.heap.size W w')) := Lib.hid fun W => mayg_any ⟨fun _ => hg, fun _ => rfl⟩
  clear hg
  obtain ⟨bz, hbz⟩ : ∃ b : Bool, decide (n0 = false ∧ s0 = ⟨#[]⟩ ∧ n1 = false ∧ s1 = ⟨#[]⟩ ∧ n2 = false ∧ s2 = ⟨#[]⟩ ∧ n3 = false ∧ s3 = ⟨#[]⟩) = b := ⟨_, rfl⟩
  have hzq := fun W => eql_gs n0 false n1 false n2 false n3 false s0 ⟨#[]⟩ s1 ⟨#[]⟩ s2 ⟨#[]⟩ s3 ⟨#[]⟩ W
  rw [hbz] at hzq
  clear hbz
  have hbx := Box.new w 41 #[.int .i64 2, .string nm, .bool n0, .string s0, .bool n1, .string s1, .bool n2, .string s2, .bool n3, .string s3, .slice A n c, .int .i64 ct]
  go_enter Tryz.func47, Tryz.ntmps47
  go_wp2_with (go_at_call 76; (with_reducible refine (HG.out _).mono ?_); rintro _ W1 ⟨rfl, hb1⟩; have hbx := hbx.next hb1; have c0 := hbx.1.cell 0; have c1 := hbx.1.cell 1; have c2 := hbx.1.cell 2; have c3 := hbx.1.cell 3; have c4 := hbx.1.cell 4; have c5 := hbx.1.cell 5; have c6 := hbx.1.cell 6; have c7 := hbx.1.cell 7; have c8 := hbx.1.cell 8; have c9 := hbx.1.cell 9; have c10 := hbx.1.cell 10; have c11 := hbx.1.cell 11; clear hb1)
  go_ret
  exact ⟨rfl, hbx.2⟩

set_option maxRecDepth 100000 in
set_option maxHeartbeats 2000000 in
theorem may_2_4 {w : World} {ct : Int} {nm : ByteArray} {n0 n1 n2 n3 : Bool} {s0 s1 s2 s3 : ByteArray} {A : Option Addr} {n c : Nat} (hn : nm.toList.isEmpty = true) (hg : MayGs n0 s0 n1 s1 n2 s2 n3 s3) (hl : ((n : Int) == 0) = true) (hc : (ct == 0) = true) :
    Calls Tryz.prog 47 #[.agg #[.int .i64 2, .string nm, .bool n0, .string s0, .bool n1, .string s1, .bool n2, .string s2, .bool n3, .string s3, .slice A n c, .int .i64 ct]] w (fun e w' => e = .returned (.bool true) ∧ Below w.heap.size w w') := by
  have HG : Hid (∀ W, Calls Tryz.prog 76 #[.agg #[.bool n0, .string s0, .bool n1, .string s1, .bool n2, .string s2, .bool n3, .string s3]] W (fun e w' => e = .returned (.bool true) ∧ Below W.heap.size W w')) := Lib.hid fun W => mayg_any ⟨fun _ => hg, fun _ => rfl⟩
  clear hg
  obtain ⟨bz, hbz⟩ : ∃ b : Bool, decide (n0 = false ∧ s0 = ⟨#[]⟩ ∧ n1 = false ∧ s1 = ⟨#[]⟩ ∧ n2 = false ∧ s2 = ⟨#[]⟩ ∧ n3 = false ∧ s3 = ⟨#[]⟩) = b := ⟨_, rfl⟩
  have hzq := fun W => eql_gs n0 false n1 false n2 false n3 false s0 ⟨#[]⟩ s1 ⟨#[]⟩ s2 ⟨#[]⟩ s3 ⟨#[]⟩ W
  rw [hbz] at hzq
  clear hbz
  have hbx := Box.new w 41 #[.int .i64 2, .string nm, .bool n0, .string s0, .bool n1, .string s1, .bool n2, .string s2, .bool n3, .string s3, .slice A n c, .int .i64 ct]
  go_enter Tryz.func47, Tryz.ntmps47
  go_wp2_with (go_at_call 76; (with_reducible refine (HG.out _).mono ?_); rintro _ W1 ⟨rfl, hb1⟩; have hbx := hbx.next hb1; have c0 := hbx.1.cell 0; have c1 := hbx.1.cell 1; have c2 := hbx.1.cell 2; have c3 := hbx.1.cell 3; have c4 := hbx.1.cell 4; have c5 := hbx.1.cell 5; have c6 := hbx.1.cell 6; have c7 := hbx.1.cell 7; have c8 := hbx.1.cell 8; have c9 := hbx.1.cell 9; have c10 := hbx.1.cell 10; have c11 := hbx.1.cell 11; clear hb1)
  go_ret
  exact ⟨rfl, hbx.2⟩

set_option maxRecDepth 100000 in
set_option maxHeartbeats 2000000 in
theorem may_3_0 {w : World} {ct : Int} {nm : ByteArray} {n0 n1 n2 n3 : Bool} {s0 s1 s2 s3 : ByteArray} {A : Option Addr} {n c : Nat} (hn : nm.toList.isEmpty = false) :
    Calls Tryz.prog 47 #[.agg #[.int .i64 3, .string nm, .bool n0, .string s0, .bool n1, .string s1, .bool n2, .string s2, .bool n3, .string s3, .slice A n c, .int .i64 ct]] w (fun e w' => e = .returned (.bool false) ∧ Below w.heap.size w w') := by
  obtain ⟨bz, hbz⟩ : ∃ b : Bool, decide (n0 = false ∧ s0 = ⟨#[]⟩ ∧ n1 = false ∧ s1 = ⟨#[]⟩ ∧ n2 = false ∧ s2 = ⟨#[]⟩ ∧ n3 = false ∧ s3 = ⟨#[]⟩) = b := ⟨_, rfl⟩
  have hzq := fun W => eql_gs n0 false n1 false n2 false n3 false s0 ⟨#[]⟩ s1 ⟨#[]⟩ s2 ⟨#[]⟩ s3 ⟨#[]⟩ W
  rw [hbz] at hzq
  clear hbz
  have hbx := Box.new w 41 #[.int .i64 3, .string nm, .bool n0, .string s0, .bool n1, .string s1, .bool n2, .string s2, .bool n3, .string s3, .slice A n c, .int .i64 ct]
  go_enter Tryz.func47, Tryz.ntmps47
  go_wp2_with fail
  go_ret
  exact ⟨rfl, hbx.2⟩

set_option maxRecDepth 100000 in
set_option maxHeartbeats 2000000 in
theorem may_3_1 {w : World} {ct : Int} {nm : ByteArray} {n0 n1 n2 n3 : Bool} {s0 s1 s2 s3 : ByteArray} {A : Option Addr} {n c : Nat} (hn : nm.toList.isEmpty = true) (hz : decide (n0 = false ∧ s0 = ⟨#[]⟩ ∧ n1 = false ∧ s1 = ⟨#[]⟩ ∧ n2 = false ∧ s2 = ⟨#[]⟩ ∧ n3 = false ∧ s3 = ⟨#[]⟩) = false) :
    Calls Tryz.prog 47 #[.agg #[.int .i64 3, .string nm, .bool n0, .string s0, .bool n1, .string s1, .bool n2, .string s2, .bool n3, .string s3, .slice A n c, .int .i64 ct]] w (fun e w' => e = .returned (.bool false) ∧ Below w.heap.size w w') := by
  have hzq := fun W => eql_gs n0 false n1 false n2 false n3 false s0 ⟨#[]⟩ s1 ⟨#[]⟩ s2 ⟨#[]⟩ s3 ⟨#[]⟩ W
  rw [hz] at hzq
  clear hz
  have hbx := Box.new w 41 #[.int .i64 3, .string nm, .bool n0, .string s0, .bool n1, .string s1, .bool n2, .string s2, .bool n3, .string s3, .slice A n c, .int .i64 ct]
  go_enter Tryz.func47, Tryz.ntmps47
  go_wp2_with fail
  go_ret
  exact ⟨rfl, hbx.2⟩

set_option maxRecDepth 100000 in
set_option maxHeartbeats 2000000 in
theorem may_3_2 {w : World} {ct : Int} {nm : ByteArray} {n0 n1 n2 n3 : Bool} {s0 s1 s2 s3 : ByteArray} {A : Option Addr} {n c : Nat} (hn : nm.toList.isEmpty = true) (hz : decide (n0 = false ∧ s0 = ⟨#[]⟩ ∧ n1 = false ∧ s1 = ⟨#[]⟩ ∧ n2 = false ∧ s2 = ⟨#[]⟩ ∧ n3 = false ∧ s3 = ⟨#[]⟩) = true) (hl : ((n : Int) == 0) = false) :
    Calls Tryz.prog 47 #[.agg #[.int .i64 3, .string nm, .bool n0, .string s0, .bool n1, .string s1, .bool n2, .string s2, .bool n3, .string s3, .slice A n c, .int .i64 ct]] w (fun e w' => e = .returned (.bool false) ∧ Below w.heap.size w w') := by
  have hzq := fun W => eql_gs n0 false n1 false n2 false n3 false s0 ⟨#[]⟩ s1 ⟨#[]⟩ s2 ⟨#[]⟩ s3 ⟨#[]⟩ W
  rw [hz] at hzq
  clear hz
  have hbx := Box.new w 41 #[.int .i64 3, .string nm, .bool n0, .string s0, .bool n1, .string s1, .bool n2, .string s2, .bool n3, .string s3, .slice A n c, .int .i64 ct]
  go_enter Tryz.func47, Tryz.ntmps47
  go_wp2_with fail
  go_ret
  exact ⟨rfl, hbx.2⟩

set_option maxRecDepth 100000 in
set_option maxHeartbeats 2000000 in
theorem may_3_3 {w : World} {ct : Int} {nm : ByteArray} {n0 n1 n2 n3 : Bool} {s0 s1 s2 s3 : ByteArray} {A : Option Addr} {n c : Nat} (hn : nm.toList.isEmpty = true) (hz : decide (n0 = false ∧ s0 = ⟨#[]⟩ ∧ n1 = false ∧ s1 = ⟨#[]⟩ ∧ n2 = false ∧ s2 = ⟨#[]⟩ ∧ n3 = false ∧ s3 = ⟨#[]⟩) = true) (hl : ((n : Int) == 0) = true) (hc : (ct == 0) = false) :
    Calls Tryz.prog 47 #[.agg #[.int .i64 3, .string nm, .bool n0, .string s0, .bool n1, .string s1, .bool n2, .string s2, .bool n3, .string s3, .slice A n c, .int .i64 ct]] w (fun e w' => e = .returned (.bool false) ∧ Below w.heap.size w w') := by
  have hzq := fun W => eql_gs n0 false n1 false n2 false n3 false s0 ⟨#[]⟩ s1 ⟨#[]⟩ s2 ⟨#[]⟩ s3 ⟨#[]⟩ W
  rw [hz] at hzq
  clear hz
  have hbx := Box.new w 41 #[.int .i64 3, .string nm, .bool n0, .string s0, .bool n1, .string s1, .bool n2, .string s2, .bool n3, .string s3, .slice A n c, .int .i64 ct]
  go_enter Tryz.func47, Tryz.ntmps47
  go_wp2_with fail
  go_ret
  exact ⟨rfl, hbx.2⟩

set_option maxRecDepth 100000 in
set_option maxHeartbeats 2000000 in
theorem may_3_4 {w : World} {ct : Int} {nm : ByteArray} {n0 n1 n2 n3 : Bool} {s0 s1 s2 s3 : ByteArray} {A : Option Addr} {n c : Nat} (hn : nm.toList.isEmpty = true) (hz : decide (n0 = false ∧ s0 = ⟨#[]⟩ ∧ n1 = false ∧ s1 = ⟨#[]⟩ ∧ n2 = false ∧ s2 = ⟨#[]⟩ ∧ n3 = false ∧ s3 = ⟨#[]⟩) = true) (hl : ((n : Int) == 0) = true) (hc : (ct == 0) = true) :
    Calls Tryz.prog 47 #[.agg #[.int .i64 3, .string nm, .bool n0, .string s0, .bool n1, .string s1, .bool n2, .string s2, .bool n3, .string s3, .slice A n c, .int .i64 ct]] w (fun e w' => e = .returned (.bool true) ∧ Below w.heap.size w w') := by
  have hzq := fun W => eql_gs n0 false n1 false n2 false n3 false s0 ⟨#[]⟩ s1 ⟨#[]⟩ s2 ⟨#[]⟩ s3 ⟨#[]⟩ W
  rw [hz] at hzq
  clear hz
  have hbx := Box.new w 41 #[.int .i64 3, .string nm, .bool n0, .string s0, .bool n1, .string s1, .bool n2, .string s2, .bool n3, .string s3, .slice A n c, .int .i64 ct]
  go_enter Tryz.func47, Tryz.ntmps47
  go_wp2_with fail
  go_ret
  exact ⟨rfl, hbx.2⟩

set_option maxRecDepth 100000 in
set_option maxHeartbeats 2000000 in
theorem may_5_0 {w : World} {ct : Int} {nm : ByteArray} {n0 n1 n2 n3 : Bool} {s0 s1 s2 s3 : ByteArray} {A : Option Addr} {n c : Nat} (hn : nm.toList.isEmpty = false) :
    Calls Tryz.prog 47 #[.agg #[.int .i64 5, .string nm, .bool n0, .string s0, .bool n1, .string s1, .bool n2, .string s2, .bool n3, .string s3, .slice A n c, .int .i64 ct]] w (fun e w' => e = .returned (.bool false) ∧ Below w.heap.size w w') := by
  obtain ⟨bz, hbz⟩ : ∃ b : Bool, decide (n0 = false ∧ s0 = ⟨#[]⟩ ∧ n1 = false ∧ s1 = ⟨#[]⟩ ∧ n2 = false ∧ s2 = ⟨#[]⟩ ∧ n3 = false ∧ s3 = ⟨#[]⟩) = b := ⟨_, rfl⟩
  have hzq := fun W => eql_gs n0 false n1 false n2 false n3 false s0 ⟨#[]⟩ s1 ⟨#[]⟩ s2 ⟨#[]⟩ s3 ⟨#[]⟩ W
  rw [hbz] at hzq
  clear hbz
  have hbx := Box.new w 41 #[.int .i64 5, .string nm, .bool n0, .string s0, .bool n1, .string s1, .bool n2, .string s2, .bool n3, .string s3, .slice A n c, .int .i64 ct]
  go_enter Tryz.func47, Tryz.ntmps47
  go_wp2_with fail
  go_ret
  exact ⟨rfl, hbx.2⟩

set_option maxRecDepth 100000 in
set_option maxHeartbeats 2000000 in
theorem may_5_1 {w : World} {ct : Int} {nm : ByteArray} {n0 n1 n2 n3 : Bool} {s0 s1 s2 s3 : ByteArray} {A : Option Addr} {n c : Nat} (hn : nm.toList.isEmpty = true) (hz : decide (n0 = false ∧ s0 = ⟨#[]⟩ ∧ n1 = false ∧ s1 = ⟨#[]⟩ ∧ n2 = false ∧ s2 = ⟨#[]⟩ ∧ n3 = false ∧ s3 = ⟨#[]⟩) = false) :
    Calls Tryz.prog 47 #[.agg #[.int .i64 5, .string nm, .bool n0, .string s0, .bool n1, .string s1, .bool n2, .string s2, .bool n3, .string s3, .slice A n c, .int .i64 ct]] w (fun e w' => e = .returned (.bool false) ∧ Below w.heap.size w w') := by
  have hzq := fun W => eql_gs n0 false n1 false n2 false n3 false s0 ⟨#[]⟩ s1 ⟨#[]⟩ s2 ⟨#[]⟩ s3 ⟨#[]⟩ W
  rw [hz] at hzq
  clear hz
  have hbx := Box.new w 41 #[.int .i64 5, .string nm, .bool n0, .string s0, .bool n1, .string s1, .bool n2, .string s2, .bool n3, .string s3, .slice A n c, .int .i64 ct]
  go_enter Tryz.func47, Tryz.ntmps47
  go_wp2_with fail
  go_ret
  exact ⟨rfl, hbx.2⟩

set_option maxRecDepth 100000 in
set_option maxHeartbeats 2000000 in
theorem may_5_2 {w : World} {ct : Int} {nm : ByteArray} {n0 n1 n2 n3 : Bool} {s0 s1 s2 s3 : ByteArray} {A : Option Addr} {n c : Nat} (hn : nm.toList.isEmpty = true) (hz : decide (n0 = false ∧ s0 = ⟨#[]⟩ ∧ n1 = false ∧ s1 = ⟨#[]⟩ ∧ n2 = false ∧ s2 = ⟨#[]⟩ ∧ n3 = false ∧ s3 = ⟨#[]⟩) = true) (hl : ((n : Int) == 0) = false) :
    Calls Tryz.prog 47 #[.agg #[.int .i64 5, .string nm, .bool n0, .string s0, .bool n1, .string s1, .bool n2, .string s2, .bool n3, .string s3, .slice A n c, .int .i64 ct]] w (fun e w' => e = .returned (.bool false) ∧ Below w.heap.size w w') := by
  have hzq := fun W => eql_gs n0 false n1 false n2 false n3 false s0 ⟨#[]⟩ s1 ⟨#[]⟩ s2 ⟨#[]⟩ s3 ⟨#[]⟩ W
  rw [hz] at hzq
  clear hz
  have hbx := Box.new w 41 #[.int .i64 5, .string nm, .bool n0, .string s0, .bool n1, .string s1, .bool n2, .string s2, .bool n3, .string s3, .slice A n c, .int .i64 ct]
  go_enter Tryz.func47, Tryz.ntmps47
  go_wp2_with fail
  go_ret
  exact ⟨rfl, hbx.2⟩

set_option maxRecDepth 100000 in
set_option maxHeartbeats 2000000 in
theorem may_5_3 {w : World} {ct : Int} {nm : ByteArray} {n0 n1 n2 n3 : Bool} {s0 s1 s2 s3 : ByteArray} {A : Option Addr} {n c : Nat} (hn : nm.toList.isEmpty = true) (hz : decide (n0 = false ∧ s0 = ⟨#[]⟩ ∧ n1 = false ∧ s1 = ⟨#[]⟩ ∧ n2 = false ∧ s2 = ⟨#[]⟩ ∧ n3 = false ∧ s3 = ⟨#[]⟩) = true) (hl : ((n : Int) == 0) = true) (hc1 : ¬ 0 ≤ ct) :
    Calls Tryz.prog 47 #[.agg #[.int .i64 5, .string nm, .bool n0, .string s0, .bool n1, .string s1, .bool n2, .string s2, .bool n3, .string s3, .slice A n c, .int .i64 ct]] w (fun e w' => e = .returned (.bool false) ∧ Below w.heap.size w w') := by
  have hzq := fun W => eql_gs n0 false n1 false n2 false n3 false s0 ⟨#[]⟩ s1 ⟨#[]⟩ s2 ⟨#[]⟩ s3 ⟨#[]⟩ W
  rw [hz] at hzq
  clear hz
  have hbx := Box.new w 41 #[.int .i64 5, .string nm, .bool n0, .string s0, .bool n1, .string s1, .bool n2, .string s2, .bool n3, .string s3, .slice A n c, .int .i64 ct]
  go_enter Tryz.func47, Tryz.ntmps47
  go_wp2_with fail
  go_ret
  exact ⟨rfl, hbx.2⟩

set_option maxRecDepth 100000 in
set_option maxHeartbeats 2000000 in
theorem may_5_4 {w : World} {ct : Int} {nm : ByteArray} {n0 n1 n2 n3 : Bool} {s0 s1 s2 s3 : ByteArray} {A : Option Addr} {n c : Nat} (hn : nm.toList.isEmpty = true) (hz : decide (n0 = false ∧ s0 = ⟨#[]⟩ ∧ n1 = false ∧ s1 = ⟨#[]⟩ ∧ n2 = false ∧ s2 = ⟨#[]⟩ ∧ n3 = false ∧ s3 = ⟨#[]⟩) = true) (hl : ((n : Int) == 0) = true) (hc1 : 0 ≤ ct) (hc2 : ¬ ct ≤ 2147483647) :
    Calls Tryz.prog 47 #[.agg #[.int .i64 5, .string nm, .bool n0, .string s0, .bool n1, .string s1, .bool n2, .string s2, .bool n3, .string s3, .slice A n c, .int .i64 ct]] w (fun e w' => e = .returned (.bool false) ∧ Below w.heap.size w w') := by
  have hzq := fun W => eql_gs n0 false n1 false n2 false n3 false s0 ⟨#[]⟩ s1 ⟨#[]⟩ s2 ⟨#[]⟩ s3 ⟨#[]⟩ W
  rw [hz] at hzq
  clear hz
  have hbx := Box.new w 41 #[.int .i64 5, .string nm, .bool n0, .string s0, .bool n1, .string s1, .bool n2, .string s2, .bool n3, .string s3, .slice A n c, .int .i64 ct]
  go_enter Tryz.func47, Tryz.ntmps47
  go_wp2_with fail
  go_ret
  exact ⟨rfl, hbx.2⟩

set_option maxRecDepth 100000 in
set_option maxHeartbeats 2000000 in
theorem may_5_5 {w : World} {ct : Int} {nm : ByteArray} {n0 n1 n2 n3 : Bool} {s0 s1 s2 s3 : ByteArray} {A : Option Addr} {n c : Nat} (hn : nm.toList.isEmpty = true) (hz : decide (n0 = false ∧ s0 = ⟨#[]⟩ ∧ n1 = false ∧ s1 = ⟨#[]⟩ ∧ n2 = false ∧ s2 = ⟨#[]⟩ ∧ n3 = false ∧ s3 = ⟨#[]⟩) = true) (hl : ((n : Int) == 0) = true) (hc1 : 0 ≤ ct) (hc2 : ct ≤ 2147483647) :
    Calls Tryz.prog 47 #[.agg #[.int .i64 5, .string nm, .bool n0, .string s0, .bool n1, .string s1, .bool n2, .string s2, .bool n3, .string s3, .slice A n c, .int .i64 ct]] w (fun e w' => e = .returned (.bool true) ∧ Below w.heap.size w w') := by
  have hzq := fun W => eql_gs n0 false n1 false n2 false n3 false s0 ⟨#[]⟩ s1 ⟨#[]⟩ s2 ⟨#[]⟩ s3 ⟨#[]⟩ W
  rw [hz] at hzq
  clear hz
  have hbx := Box.new w 41 #[.int .i64 5, .string nm, .bool n0, .string s0, .bool n1, .string s1, .bool n2, .string s2, .bool n3, .string s3, .slice A n c, .int .i64 ct]
  go_enter Tryz.func47, Tryz.ntmps47
  go_wp2_with fail
  go_ret
  exact ⟨rfl, hbx.2⟩

set_option maxRecDepth 100000 in
set_option maxHeartbeats 2000000 in
theorem may_else {w : World} {k ct : Int} {nm : ByteArray} {n0 n1 n2 n3 : Bool} {s0 s1 s2 s3 : ByteArray} {A : Option Addr} {n c : Nat} (h1 : ¬ k = 1) (h2 : ¬ k = 2) (h3 : ¬ k = 3) (h4 : ¬ k = 4) (h5 : ¬ k = 5) :
    Calls Tryz.prog 47 #[.agg #[.int .i64 k, .string nm, .bool n0, .string s0, .bool n1, .string s1, .bool n2, .string s2, .bool n3, .string s3, .slice A n c, .int .i64 ct]] w (fun e w' => e = .returned (.bool false) ∧ Below w.heap.size w w') := by
  obtain ⟨bz, hbz⟩ : ∃ b : Bool, decide (n0 = false ∧ s0 = ⟨#[]⟩ ∧ n1 = false ∧ s1 = ⟨#[]⟩ ∧ n2 = false ∧ s2 = ⟨#[]⟩ ∧ n3 = false ∧ s3 = ⟨#[]⟩) = b := ⟨_, rfl⟩
  have hzq := fun W => eql_gs n0 false n1 false n2 false n3 false s0 ⟨#[]⟩ s1 ⟨#[]⟩ s2 ⟨#[]⟩ s3 ⟨#[]⟩ W
  rw [hbz] at hzq
  clear hbz
  have hbx := Box.new w 41 #[.int .i64 k, .string nm, .bool n0, .string s0, .bool n1, .string s1, .bool n2, .string s2, .bool n3, .string s3, .slice A n c, .int .i64 ct]
  go_enter Tryz.func47, Tryz.ntmps47
  go_wp2_with fail
  go_ret
  exact ⟨rfl, hbx.2⟩
end Go.Proofs.YtebpggfccljagaaGreatDoor

/- script.may, a word. -/
namespace Go.Proofs.YtebpggfccljagaaGreatDoor
open Go.RowKit
open Wh
set_option linter.unusedSimpArgs false
set_option linter.unusedVariables false

theorem letA_step {l : List Int} {i : Nat} (h : i < l.length) (h0 : (l.take i).all letA = true) (h1 : letA l[i] = true) : (l.take (i + 1)).all letA = true := by
  rw [List.take_succ_eq_append_getElem h, List.all_append, h0]
  simp [h1]
theorem letA_no {l : List Int} {i : Nat} (h : i < l.length) (h1 : letA l[i] = false) : l.all letA = false := by
  rw [List.all_eq_false]
  exact ⟨_, List.getElem_mem h, by rw [h1]; decide⟩
theorem ret_b {a b : Bool} {w w0 w' : World} (h : a = b) (hb : Below w0.heap.size w w') : Ending.returned (.bool a) = .returned (.bool b) ∧ Below w0.heap.size w w' := ⟨by rw [h], hb⟩
set_option maxRecDepth 100000 in
set_option maxHeartbeats 4000000 in
theorem may_4 {w : World} {ct : Int} {nm : ByteArray} {n0 n1 n2 n3 : Bool} {s0 s1 s2 s3 : ByteArray} {A : Option Addr} {n c B : Nat} {l : List Int} (hr : ReadsI w B A l) (hB : B ≤ w.heap.size) (hn : n = l.length) (hnl : n ≤ 1000000000) {b1 b2 b3 b4 r : Bool}
    (h1 : nm.toList.isEmpty = b1) (h2 : decide (n0 = false ∧ s0 = ⟨#[]⟩ ∧ n1 = false ∧ s1 = ⟨#[]⟩ ∧ n2 = false ∧ s2 = ⟨#[]⟩ ∧ n3 = false ∧ s3 = ⟨#[]⟩) = b2) (h3 : decide ((n : Int) ≤ 4096) = b3) (h4 : (ct == 0) = b4) (hres : r = (l.all letA && (b1 && (b2 && (b3 && b4))))) :
    Calls Tryz.prog 47 #[.agg #[.int .i64 4, .string nm, .bool n0, .string s0, .bool n1, .string s1, .bool n2, .string s2, .bool n3, .string s3, .slice A n c, .int .i64 ct]] w (fun e w' => e = .returned (.bool r) ∧ Below w.heap.size w w') := by
  have hzq := fun W => eql_gs n0 false n1 false n2 false n3 false s0 ⟨#[]⟩ s1 ⟨#[]⟩ s2 ⟨#[]⟩ s3 ⟨#[]⟩ W
  rw [h2] at hzq
  clear h2
  have Hr := Lib.hid (hr.alloc hB (.cells #[.int .i64 4, .string nm, .bool n0, .string s0, .bool n1, .string s1, .bool n2, .string s2, .bool n3, .string s3, .slice A n c, .int .i64 ct] 41))
  have Hn := Lib.hid hn
  have HR := Lib.hid hres
  have H3 := Lib.hid h3
  clear hr hn hres h3
  have hbx := Box.new w 41 #[.int .i64 4, .string nm, .bool n0, .string s0, .bool n1, .string s1, .bool n2, .string s2, .bool n3, .string s3, .slice A n c, .int .i64 ct]
  have c1 := hbx.1.cell 1
  have c10 := hbx.1.cell 10
  have c11 := hbx.1.cell 11
  have HX := Lib.hid hbx
  clear hbx
  go_enter Tryz.func47, Tryz.ntmps47
  go_wp2_with fail
  go_loopg [76] n (fun k iv wr => ∃ (i : Nat), iv = .int .i64 (i : Int) ∧ k = n - i ∧ i ≤ n ∧ Hid ((l.take i).all letA = true) ∧ Hid (wr = w.alloc (.cells #[.int .i64 4, .string nm, .bool n0, .string s0, .bool n1, .string s1, .bool n2, .string s2, .bool n3, .string s3, .slice A n c, .int .i64 ct] 41)))
  case atStart => exact ⟨0, rfl, by omega, by omega, Lib.hid (by simp), Lib.hid rfl⟩
  case round =>
    obtain ⟨i, rfl, hk, hi, htk, hw⟩ := hrel
    have Hk := Lib.hid hk
    clear hk
    have ew := hw.out
    subst ew
    by_cases hin : i < n
    · have hil : i < l.length := by rw [← Hn.out]; omega
      obtain ⟨ad, rfl, hb1, e0⟩ := Hr.out.at_ hil
      have hii : (i : Int) < (n : Int) := by omega
      have Hst := Lib.hid (letA_step hil htk.out)
      have Hno := Lib.hid (letA_no hil)
      generalize l[i] = x at *
      clear hb1 hil
      by_cases x0 : x = 0
      · subst x0
        go_wp2_with (go_quiet (fail))
        go_ret
        exact ret_b (by rw [HR.out, Hno.out (by decide), Bool.false_and]) HX.out.2
      · have x1 : (x == 0) = false := by simpa using x0
        by_cases x2 : 4096 < x
        · go_wp2_with (go_quiet (fail))
          go_ret
          exact ret_b (by rw [HR.out, Hno.out (decide_eq_false (by omega)), Bool.false_and]) HX.out.2
        · by_cases x3 : x < -4096
          · go_wp2_with (go_quiet (fail))
            go_ret
            exact ret_b (by rw [HR.out, Hno.out (decide_eq_false (by omega)), Bool.false_and]) HX.out.2
          · have hnext := Lib.hid (Hst.out (decide_eq_true (by omega)))
            go_wp2_with (go_quiet (fail))
            go_roundg (n - (i + 1))
            case measure => have := Hk.out; omega
            case rel => exact ⟨i + 1, rfl, rfl, by omega, hnext, Lib.hid rfl⟩
    · have hii : ¬ (i : Int) < (n : Int) := by omega
      have Hall := Lib.hid (show l.all letA = true by
        have h := htk.out
        rwa [List.take_of_length_le (by have := Hn.out; omega)] at h)
      cases b1
      · go_wp2_with (go_quiet (fail))
        go_ret
        exact ret_b (by rw [HR.out, Bool.false_and, Bool.and_false]) HX.out.2
      cases b2
      · go_wp2_with (go_quiet (fail))
        go_ret
        exact ret_b (by rw [HR.out, Bool.false_and, Bool.and_false, Bool.and_false]) HX.out.2
      cases b3
      · have i3 : ¬ (n : Int) ≤ 4096 := of_decide_eq_false H3.out
        go_wp2_with (go_quiet (fail))
        go_ret
        exact ret_b (by rw [HR.out, Bool.false_and, Bool.and_false, Bool.and_false, Bool.and_false]) HX.out.2
      have i3 : (n : Int) ≤ 4096 := of_decide_eq_true H3.out
      cases b4
      · go_wp2_with (go_quiet (fail))
        go_ret
        exact ret_b (by rw [HR.out, Bool.and_false, Bool.and_false, Bool.and_false, Bool.and_false]) HX.out.2
      · go_wp2_with (go_quiet (fail))
        go_ret
        exact ret_b (by rw [HR.out, Hall.out]; rfl) HX.out.2
end Go.Proofs.YtebpggfccljagaaGreatDoor

/- script.may, joined (printed by gen_mayany.py). -/
namespace Go.Proofs.YtebpggfccljagaaGreatDoor
open Go.RowKit
open Wh
set_option linter.unusedSimpArgs false
set_option linter.unusedVariables false

theorem emp_yes {s : ByteArray} (h : s = ⟨#[]⟩) : s.toList.isEmpty = true := by subst h; rw [toL]; rfl
theorem emp_no {s : ByteArray} (h : ¬ s = ⟨#[]⟩) : s.toList.isEmpty = false := by
  rw [Bool.eq_false_iff]
  intro h2
  exact h (tl_inj (by rw [List.isEmpty_iff.1 h2, toL]))
theorem len_yes {l : List Int} (h : l = []) : ((l.length : Int) == 0) = true := by subst h; rfl
theorem len_no {l : List Int} (h : ¬ l = []) : ((l.length : Int) == 0) = false := by
  have : l.length ≠ 0 := fun e => h (List.eq_nil_of_length_eq_zero e)
  simp; exact h
theorem ct_yes {z : Int} (h : z = 0) : (z == 0) = true := by subst h; rfl
theorem ct_no {z : Int} (h : ¬ z = 0) : (z == 0) = false := by simpa using h
theorem no_b {b : Bool} {p : Prop} (hb : b = true ↔ p) (h : ¬ p) : b = false := by
  cases b
  · rfl
  · exact absurd (hb.1 rfl) h

theorem may_k1 {w : World} {A : Option Addr} {c : Nat} {x : ArgP} (hk : x.k = 1) (hnm : x.nm.size ≤ 9223372036854775807) {b : Bool} (hb : b = true ↔ (Sc.namedB x.nm.data.toList = true ∧ x.zero ∧ x.wd = [] ∧ x.ct = 0)) :
    Calls Tryz.prog 47 #[argV (A, c, x)] w (fun e w' => e = .returned (.bool b) ∧ Below w.heap.size w w') := by
  unfold argV
  simp only
  rw [hk]
  by_cases h0 : ¬ (Sc.namedB x.nm.data.toList = true)
  · rw [no_b hb fun h => h0 h.1]; exact may_1_0 (Bool.eq_false_iff.2 h0) hnm
  replace h0 := Classical.not_not.1 h0
  by_cases h1 : ¬ (x.zero)
  · rw [no_b hb fun h => h1 h.2.1]; exact may_1_1 h0 hnm (decide_eq_false h1)
  replace h1 := Classical.not_not.1 h1
  by_cases h2 : ¬ (x.wd = [])
  · rw [no_b hb fun h => h2 h.2.2.1]; exact may_1_2 h0 hnm (decide_eq_true h1) (len_no h2)
  replace h2 := Classical.not_not.1 h2
  by_cases h3 : ¬ (x.ct = 0)
  · rw [no_b hb fun h => h3 h.2.2.2]; exact may_1_3 h0 hnm (decide_eq_true h1) (len_yes h2) (ct_no h3)
  replace h3 := Classical.not_not.1 h3
  rw [hb.2 ⟨h0, h1, h2, h3⟩]; exact may_1_4 h0 hnm (decide_eq_true h1) (len_yes h2) (ct_yes h3)
theorem may_k2 {w : World} {A : Option Addr} {c : Nat} {x : ArgP} (hk : x.k = 2) (hnm : x.nm.size ≤ 9223372036854775807) {b : Bool} (hb : b = true ↔ (x.nm = ⟨#[]⟩ ∧ x.gs ∧ x.wd = [] ∧ x.ct = 0)) :
    Calls Tryz.prog 47 #[argV (A, c, x)] w (fun e w' => e = .returned (.bool b) ∧ Below w.heap.size w w') := by
  unfold argV
  simp only
  rw [hk]
  by_cases h0 : ¬ (x.nm = ⟨#[]⟩)
  · rw [no_b hb fun h => h0 h.1]; exact may_2_0 (emp_no h0)
  replace h0 := Classical.not_not.1 h0
  by_cases h1 : ¬ (x.gs)
  · rw [no_b hb fun h => h1 h.2.1]; exact may_2_1 (emp_yes h0) h1
  replace h1 := Classical.not_not.1 h1
  by_cases h2 : ¬ (x.wd = [])
  · rw [no_b hb fun h => h2 h.2.2.1]; exact may_2_2 (emp_yes h0) h1 (len_no h2)
  replace h2 := Classical.not_not.1 h2
  by_cases h3 : ¬ (x.ct = 0)
  · rw [no_b hb fun h => h3 h.2.2.2]; exact may_2_3 (emp_yes h0) h1 (len_yes h2) (ct_no h3)
  replace h3 := Classical.not_not.1 h3
  rw [hb.2 ⟨h0, h1, h2, h3⟩]; exact may_2_4 (emp_yes h0) h1 (len_yes h2) (ct_yes h3)
theorem may_k3 {w : World} {A : Option Addr} {c : Nat} {x : ArgP} (hk : x.k = 3) (hnm : x.nm.size ≤ 9223372036854775807) {b : Bool} (hb : b = true ↔ (x.nm = ⟨#[]⟩ ∧ x.zero ∧ x.wd = [] ∧ x.ct = 0)) :
    Calls Tryz.prog 47 #[argV (A, c, x)] w (fun e w' => e = .returned (.bool b) ∧ Below w.heap.size w w') := by
  unfold argV
  simp only
  rw [hk]
  by_cases h0 : ¬ (x.nm = ⟨#[]⟩)
  · rw [no_b hb fun h => h0 h.1]; exact may_3_0 (emp_no h0)
  replace h0 := Classical.not_not.1 h0
  by_cases h1 : ¬ (x.zero)
  · rw [no_b hb fun h => h1 h.2.1]; exact may_3_1 (emp_yes h0) (decide_eq_false h1)
  replace h1 := Classical.not_not.1 h1
  by_cases h2 : ¬ (x.wd = [])
  · rw [no_b hb fun h => h2 h.2.2.1]; exact may_3_2 (emp_yes h0) (decide_eq_true h1) (len_no h2)
  replace h2 := Classical.not_not.1 h2
  by_cases h3 : ¬ (x.ct = 0)
  · rw [no_b hb fun h => h3 h.2.2.2]; exact may_3_3 (emp_yes h0) (decide_eq_true h1) (len_yes h2) (ct_no h3)
  replace h3 := Classical.not_not.1 h3
  rw [hb.2 ⟨h0, h1, h2, h3⟩]; exact may_3_4 (emp_yes h0) (decide_eq_true h1) (len_yes h2) (ct_yes h3)
theorem may_k5 {w : World} {A : Option Addr} {c : Nat} {x : ArgP} (hk : x.k = 5) (hnm : x.nm.size ≤ 9223372036854775807) {b : Bool} (hb : b = true ↔ (x.nm = ⟨#[]⟩ ∧ x.zero ∧ x.wd = [] ∧ 0 ≤ x.ct ∧ x.ct ≤ 2147483647)) :
    Calls Tryz.prog 47 #[argV (A, c, x)] w (fun e w' => e = .returned (.bool b) ∧ Below w.heap.size w w') := by
  unfold argV
  simp only
  rw [hk]
  by_cases h0 : ¬ (x.nm = ⟨#[]⟩)
  · rw [no_b hb fun h => h0 h.1]; exact may_5_0 (emp_no h0)
  replace h0 := Classical.not_not.1 h0
  by_cases h1 : ¬ (x.zero)
  · rw [no_b hb fun h => h1 h.2.1]; exact may_5_1 (emp_yes h0) (decide_eq_false h1)
  replace h1 := Classical.not_not.1 h1
  by_cases h2 : ¬ (x.wd = [])
  · rw [no_b hb fun h => h2 h.2.2.1]; exact may_5_2 (emp_yes h0) (decide_eq_true h1) (len_no h2)
  replace h2 := Classical.not_not.1 h2
  by_cases h3 : ¬ (0 ≤ x.ct)
  · rw [no_b hb fun h => h3 h.2.2.2.1]; exact may_5_3 (emp_yes h0) (decide_eq_true h1) (len_yes h2) h3
  replace h3 := Classical.not_not.1 h3
  by_cases h4 : ¬ (x.ct ≤ 2147483647)
  · rw [no_b hb fun h => h4 h.2.2.2.2]; exact may_5_4 (emp_yes h0) (decide_eq_true h1) (len_yes h2) h3 h4
  replace h4 := Classical.not_not.1 h4
  rw [hb.2 ⟨h0, h1, h2, h3, h4⟩]; exact may_5_5 (emp_yes h0) (decide_eq_true h1) (len_yes h2) h3 h4

theorem may_any {w : World} {B : Nat} {r : ARow} (h : ArgR w B r) (hB : B ≤ w.heap.size) (hwl : r.2.2.wd.length ≤ 1000000000) (hnm : r.2.2.nm.size ≤ 9223372036854775807) {b : Bool} (hb : b = true ↔ r.2.2.ok) :
    Calls Tryz.prog 47 #[argV r] w (fun e w' => e = .returned (.bool b) ∧ Below w.heap.size w w') := by
  obtain ⟨A, c, x⟩ := r
  replace hb : b = true ↔ x.ok := hb
  replace hwl : x.wd.length ≤ 1000000000 := hwl
  replace hnm : x.nm.size ≤ 9223372036854775807 := hnm
  unfold ArgP.ok at hb
  by_cases h1 : x.k = 1
  · rw [if_pos h1] at hb; exact may_k1 h1 hnm hb
  rw [if_neg h1] at hb
  by_cases h2 : x.k = 2
  · rw [if_pos h2] at hb; exact may_k2 h2 hnm hb
  rw [if_neg h2] at hb
  by_cases h3 : x.k = 3
  · rw [if_pos h3] at hb; exact may_k3 h3 hnm hb
  rw [if_neg h3] at hb
  by_cases h4 : x.k = 4
  · rw [if_pos h4] at hb
    unfold argV
    simp only
    rw [h4]
    refine may_4 h.wd hB rfl hwl rfl rfl rfl rfl ?_
    have hi : x.nm.toList.isEmpty = decide (x.nm = ⟨#[]⟩) := by
      by_cases e : x.nm = ⟨#[]⟩
      · rw [emp_yes e, decide_eq_true e]
      · rw [emp_no e, decide_eq_false e]
    have hc : (x.ct == 0) = decide (x.ct = 0) := by
      by_cases e : x.ct = 0
      · rw [ct_yes e, decide_eq_true e]
      · rw [ct_no e, decide_eq_false e]
    rw [hi, hc, Bool.eq_iff_iff, hb]
    unfold ArgP.zero
    simp only [Bool.and_eq_true, decide_eq_true_eq]
    constructor
    · rintro ⟨a1, a2, a3, a4, a5⟩
      exact ⟨a3, a1, a2, by omega, a5⟩
    · rintro ⟨a3, a1, a2, a4, a5⟩
      exact ⟨a1, a2, a3, by omega, a5⟩
  rw [if_neg h4] at hb
  by_cases h5 : x.k = 5
  · rw [if_pos h5] at hb; exact may_k5 h5 hnm hb
  rw [if_neg h5] at hb
  rw [no_b hb id]
  exact may_else h1 h2 h3 h4 h5
end Go.Proofs.YtebpggfccljagaaGreatDoor

/- ref30.SameArg (printed by gen_same.py). -/
namespace Go.Proofs.YtebpggfccljagaaGreatDoor
open Go.RowKit
open Wh
set_option linter.unusedSimpArgs false
set_option linter.unusedVariables false

set_option maxRecDepth 100000 in
set_option maxHeartbeats 2000000 in
theorem same_0 {w : World} {B : Nat} {k ct : Int} {nm : ByteArray} {n0 n1 n2 n3 : Bool} {s0 s1 s2 s3 : ByteArray} {A : Option Addr} {n c : Nat} {l : List Int} {kx ctx : Int} {nmx : ByteArray} {n0x n1x n2x n3x : Bool} {s0x s1x s2x s3x : ByteArray} {Ax : Option Addr} {nx cx : Nat} {lx : List Int} (hr : ReadsI w B A l) (hrx : ReadsI w B Ax lx) (hB : B ≤ w.heap.size) (hn : n = l.length) (hnx : nx = lx.length) (hnl : n ≤ 1000000000) (hnlx : nx ≤ 1000000000) (e0 : ¬ l = lx) :
    Calls Tryz.prog 41 #[.agg #[.int .i64 k, .string nm, .bool n0, .string s0, .bool n1, .string s1, .bool n2, .string s2, .bool n3, .string s3, .slice A n c, .int .i64 ct], .agg #[.int .i64 kx, .string nmx, .bool n0x, .string s0x, .bool n1x, .string s1x, .bool n2x, .string s2x, .bool n3x, .string s3x, .slice Ax nx cx, .int .i64 ctx]] w (fun e w' => e = .returned (.bool false) ∧ Below w.heap.size w w') := by
  have HS : Hid (∀ W, Below w.heap.size w W → Calls Tryz.prog 31 #[.slice A n c, .slice Ax nx cx] W (fun e w' => ∃ d, e = .returned (.bool false) ∧ W.drewN d = w')) := Lib.hid fun W hb => (same_any ((hr.more hB).below hb) ((hrx.more hB).below hb) hn hnx hnl hnlx).mono fun e w' ⟨d, h1, h2⟩ => ⟨d, by rw [h1, decide_eq_false e0], h2⟩
  clear hr hrx hn hnx hnl hnlx e0
  have hbx := Box.new w 41 #[.int .i64 k, .string nm, .bool n0, .string s0, .bool n1, .string s1, .bool n2, .string s2, .bool n3, .string s3, .slice A n c, .int .i64 ct]
  have hby := Box.new (w.alloc (.cells #[.int .i64 k, .string nm, .bool n0, .string s0, .bool n1, .string s1, .bool n2, .string s2, .bool n3, .string s3, .slice A n c, .int .i64 ct] 41)) 41 #[.int .i64 kx, .string nmx, .bool n0x, .string s0x, .bool n1x, .string s1x, .bool n2x, .string s2x, .bool n3x, .string s3x, .slice Ax nx cx, .int .i64 ctx]
  have hbw := hbx.2.trans (hby.2.mono hbx.2.size)
  have hk := hbx.1.below hby.2 hbx.1.lt
  have c0 := hk.cell 0; have d0 := hby.1.cell 0; have c1 := hk.cell 1; have d1 := hby.1.cell 1; have c2 := hk.cell 2; have d2 := hby.1.cell 2; have c3 := hk.cell 3; have d3 := hby.1.cell 3; have c4 := hk.cell 4; have d4 := hby.1.cell 4; have c5 := hk.cell 5; have d5 := hby.1.cell 5; have c6 := hk.cell 6; have d6 := hby.1.cell 6; have c7 := hk.cell 7; have d7 := hby.1.cell 7; have c8 := hk.cell 8; have d8 := hby.1.cell 8; have c9 := hk.cell 9; have d9 := hby.1.cell 9; have c10 := hk.cell 10; have d10 := hby.1.cell 10; have c11 := hk.cell 11; have d11 := hby.1.cell 11
  go_enter Tryz.func41, Tryz.ntmps41
  go_wp2_with (go_at_call 31; (with_reducible refine (HS.out _ ?_).mono ?_); (first | exact hbw | skip); rintro _ _ ⟨d, rfl, rfl⟩)
  go_ret
  exact ⟨rfl, ⟨hbw.os, hbw.tape, hbw.output, hbw.size, hbw.block⟩⟩
set_option maxRecDepth 100000 in
set_option maxHeartbeats 2000000 in
theorem same_1 {w : World} {B : Nat} {k ct : Int} {nm : ByteArray} {n0 n1 n2 n3 : Bool} {s0 s1 s2 s3 : ByteArray} {A : Option Addr} {n c : Nat} {l : List Int} {kx ctx : Int} {nmx : ByteArray} {n0x n1x n2x n3x : Bool} {s0x s1x s2x s3x : ByteArray} {Ax : Option Addr} {nx cx : Nat} {lx : List Int} (hr : ReadsI w B A l) (hrx : ReadsI w B Ax lx) (hB : B ≤ w.heap.size) (hn : n = l.length) (hnx : nx = lx.length) (hnl : n ≤ 1000000000) (hnlx : nx ≤ 1000000000) (e0 : l = lx) (e1 : ¬ k = kx) :
    Calls Tryz.prog 41 #[.agg #[.int .i64 k, .string nm, .bool n0, .string s0, .bool n1, .string s1, .bool n2, .string s2, .bool n3, .string s3, .slice A n c, .int .i64 ct], .agg #[.int .i64 kx, .string nmx, .bool n0x, .string s0x, .bool n1x, .string s1x, .bool n2x, .string s2x, .bool n3x, .string s3x, .slice Ax nx cx, .int .i64 ctx]] w (fun e w' => e = .returned (.bool false) ∧ Below w.heap.size w w') := by
  have HS : Hid (∀ W, Below w.heap.size w W → Calls Tryz.prog 31 #[.slice A n c, .slice Ax nx cx] W (fun e w' => ∃ d, e = .returned (.bool true) ∧ W.drewN d = w')) := Lib.hid fun W hb => (same_any ((hr.more hB).below hb) ((hrx.more hB).below hb) hn hnx hnl hnlx).mono fun e w' ⟨d, h1, h2⟩ => ⟨d, by rw [h1, decide_eq_true e0], h2⟩
  clear hr hrx hn hnx hnl hnlx e0
  have e1b : (k == kx) = false := by simpa using e1
  have hbx := Box.new w 41 #[.int .i64 k, .string nm, .bool n0, .string s0, .bool n1, .string s1, .bool n2, .string s2, .bool n3, .string s3, .slice A n c, .int .i64 ct]
  have hby := Box.new (w.alloc (.cells #[.int .i64 k, .string nm, .bool n0, .string s0, .bool n1, .string s1, .bool n2, .string s2, .bool n3, .string s3, .slice A n c, .int .i64 ct] 41)) 41 #[.int .i64 kx, .string nmx, .bool n0x, .string s0x, .bool n1x, .string s1x, .bool n2x, .string s2x, .bool n3x, .string s3x, .slice Ax nx cx, .int .i64 ctx]
  have hbw := hbx.2.trans (hby.2.mono hbx.2.size)
  have hk := hbx.1.below hby.2 hbx.1.lt
  have c0 := hk.cell 0; have d0 := hby.1.cell 0; have c1 := hk.cell 1; have d1 := hby.1.cell 1; have c2 := hk.cell 2; have d2 := hby.1.cell 2; have c3 := hk.cell 3; have d3 := hby.1.cell 3; have c4 := hk.cell 4; have d4 := hby.1.cell 4; have c5 := hk.cell 5; have d5 := hby.1.cell 5; have c6 := hk.cell 6; have d6 := hby.1.cell 6; have c7 := hk.cell 7; have d7 := hby.1.cell 7; have c8 := hk.cell 8; have d8 := hby.1.cell 8; have c9 := hk.cell 9; have d9 := hby.1.cell 9; have c10 := hk.cell 10; have d10 := hby.1.cell 10; have c11 := hk.cell 11; have d11 := hby.1.cell 11
  go_enter Tryz.func41, Tryz.ntmps41
  go_wp2_with (go_at_call 31; (with_reducible refine (HS.out _ ?_).mono ?_); (first | exact hbw | skip); rintro _ _ ⟨d, rfl, rfl⟩)
  go_ret
  exact ⟨rfl, ⟨hbw.os, hbw.tape, hbw.output, hbw.size, hbw.block⟩⟩
set_option maxRecDepth 100000 in
set_option maxHeartbeats 2000000 in
theorem same_2 {w : World} {B : Nat} {k ct : Int} {nm : ByteArray} {n0 n1 n2 n3 : Bool} {s0 s1 s2 s3 : ByteArray} {A : Option Addr} {n c : Nat} {l : List Int} {kx ctx : Int} {nmx : ByteArray} {n0x n1x n2x n3x : Bool} {s0x s1x s2x s3x : ByteArray} {Ax : Option Addr} {nx cx : Nat} {lx : List Int} (hr : ReadsI w B A l) (hrx : ReadsI w B Ax lx) (hB : B ≤ w.heap.size) (hn : n = l.length) (hnx : nx = lx.length) (hnl : n ≤ 1000000000) (hnlx : nx ≤ 1000000000) (e0 : l = lx) (e1 : k = kx) (e2 : ¬ nm = nmx) :
    Calls Tryz.prog 41 #[.agg #[.int .i64 k, .string nm, .bool n0, .string s0, .bool n1, .string s1, .bool n2, .string s2, .bool n3, .string s3, .slice A n c, .int .i64 ct], .agg #[.int .i64 kx, .string nmx, .bool n0x, .string s0x, .bool n1x, .string s1x, .bool n2x, .string s2x, .bool n3x, .string s3x, .slice Ax nx cx, .int .i64 ctx]] w (fun e w' => e = .returned (.bool false) ∧ Below w.heap.size w w') := by
  have HS : Hid (∀ W, Below w.heap.size w W → Calls Tryz.prog 31 #[.slice A n c, .slice Ax nx cx] W (fun e w' => ∃ d, e = .returned (.bool true) ∧ W.drewN d = w')) := Lib.hid fun W hb => (same_any ((hr.more hB).below hb) ((hrx.more hB).below hb) hn hnx hnl hnlx).mono fun e w' ⟨d, h1, h2⟩ => ⟨d, by rw [h1, decide_eq_true e0], h2⟩
  clear hr hrx hn hnx hnl hnlx e0
  subst e1
  have e2a : ¬ nm.toList = nmx.toList := fun h => e2 (tl_inj h)
  have e2b : (nm.toList == nmx.toList) = false := by simpa using e2a
  have hbx := Box.new w 41 #[.int .i64 k, .string nm, .bool n0, .string s0, .bool n1, .string s1, .bool n2, .string s2, .bool n3, .string s3, .slice A n c, .int .i64 ct]
  have hby := Box.new (w.alloc (.cells #[.int .i64 k, .string nm, .bool n0, .string s0, .bool n1, .string s1, .bool n2, .string s2, .bool n3, .string s3, .slice A n c, .int .i64 ct] 41)) 41 #[.int .i64 k, .string nmx, .bool n0x, .string s0x, .bool n1x, .string s1x, .bool n2x, .string s2x, .bool n3x, .string s3x, .slice Ax nx cx, .int .i64 ctx]
  have hbw := hbx.2.trans (hby.2.mono hbx.2.size)
  have hk := hbx.1.below hby.2 hbx.1.lt
  have c0 := hk.cell 0; have d0 := hby.1.cell 0; have c1 := hk.cell 1; have d1 := hby.1.cell 1; have c2 := hk.cell 2; have d2 := hby.1.cell 2; have c3 := hk.cell 3; have d3 := hby.1.cell 3; have c4 := hk.cell 4; have d4 := hby.1.cell 4; have c5 := hk.cell 5; have d5 := hby.1.cell 5; have c6 := hk.cell 6; have d6 := hby.1.cell 6; have c7 := hk.cell 7; have d7 := hby.1.cell 7; have c8 := hk.cell 8; have d8 := hby.1.cell 8; have c9 := hk.cell 9; have d9 := hby.1.cell 9; have c10 := hk.cell 10; have d10 := hby.1.cell 10; have c11 := hk.cell 11; have d11 := hby.1.cell 11
  go_enter Tryz.func41, Tryz.ntmps41
  go_wp2_with (go_at_call 31; (with_reducible refine (HS.out _ ?_).mono ?_); (first | exact hbw | skip); rintro _ _ ⟨d, rfl, rfl⟩)
  go_ret
  exact ⟨rfl, ⟨hbw.os, hbw.tape, hbw.output, hbw.size, hbw.block⟩⟩
set_option maxRecDepth 100000 in
set_option maxHeartbeats 2000000 in
theorem same_3 {w : World} {B : Nat} {k ct : Int} {nm : ByteArray} {n0 n1 n2 n3 : Bool} {s0 s1 s2 s3 : ByteArray} {A : Option Addr} {n c : Nat} {l : List Int} {kx ctx : Int} {nmx : ByteArray} {n0x n1x n2x n3x : Bool} {s0x s1x s2x s3x : ByteArray} {Ax : Option Addr} {nx cx : Nat} {lx : List Int} (hr : ReadsI w B A l) (hrx : ReadsI w B Ax lx) (hB : B ≤ w.heap.size) (hn : n = l.length) (hnx : nx = lx.length) (hnl : n ≤ 1000000000) (hnlx : nx ≤ 1000000000) (e0 : l = lx) (e1 : k = kx) (e2 : nm = nmx) (e3 : ¬ (n0 = n0x ∧ s0 = s0x ∧ n1 = n1x ∧ s1 = s1x ∧ n2 = n2x ∧ s2 = s2x ∧ n3 = n3x ∧ s3 = s3x)) :
    Calls Tryz.prog 41 #[.agg #[.int .i64 k, .string nm, .bool n0, .string s0, .bool n1, .string s1, .bool n2, .string s2, .bool n3, .string s3, .slice A n c, .int .i64 ct], .agg #[.int .i64 kx, .string nmx, .bool n0x, .string s0x, .bool n1x, .string s1x, .bool n2x, .string s2x, .bool n3x, .string s3x, .slice Ax nx cx, .int .i64 ctx]] w (fun e w' => e = .returned (.bool false) ∧ Below w.heap.size w w') := by
  have HS : Hid (∀ W, Below w.heap.size w W → Calls Tryz.prog 31 #[.slice A n c, .slice Ax nx cx] W (fun e w' => ∃ d, e = .returned (.bool true) ∧ W.drewN d = w')) := Lib.hid fun W hb => (same_any ((hr.more hB).below hb) ((hrx.more hB).below hb) hn hnx hnl hnlx).mono fun e w' ⟨d, h1, h2⟩ => ⟨d, by rw [h1, decide_eq_true e0], h2⟩
  clear hr hrx hn hnx hnl hnlx e0
  subst e1
  subst e2
  have hzq := fun W => eql_gs n0 n0x n1 n1x n2 n2x n3 n3x s0 s0x s1 s1x s2 s2x s3 s3x W
  rw [decide_eq_false e3] at hzq
  clear e3
  have hbx := Box.new w 41 #[.int .i64 k, .string nm, .bool n0, .string s0, .bool n1, .string s1, .bool n2, .string s2, .bool n3, .string s3, .slice A n c, .int .i64 ct]
  have hby := Box.new (w.alloc (.cells #[.int .i64 k, .string nm, .bool n0, .string s0, .bool n1, .string s1, .bool n2, .string s2, .bool n3, .string s3, .slice A n c, .int .i64 ct] 41)) 41 #[.int .i64 k, .string nm, .bool n0x, .string s0x, .bool n1x, .string s1x, .bool n2x, .string s2x, .bool n3x, .string s3x, .slice Ax nx cx, .int .i64 ctx]
  have hbw := hbx.2.trans (hby.2.mono hbx.2.size)
  have hk := hbx.1.below hby.2 hbx.1.lt
  have c0 := hk.cell 0; have d0 := hby.1.cell 0; have c1 := hk.cell 1; have d1 := hby.1.cell 1; have c2 := hk.cell 2; have d2 := hby.1.cell 2; have c3 := hk.cell 3; have d3 := hby.1.cell 3; have c4 := hk.cell 4; have d4 := hby.1.cell 4; have c5 := hk.cell 5; have d5 := hby.1.cell 5; have c6 := hk.cell 6; have d6 := hby.1.cell 6; have c7 := hk.cell 7; have d7 := hby.1.cell 7; have c8 := hk.cell 8; have d8 := hby.1.cell 8; have c9 := hk.cell 9; have d9 := hby.1.cell 9; have c10 := hk.cell 10; have d10 := hby.1.cell 10; have c11 := hk.cell 11; have d11 := hby.1.cell 11
  go_enter Tryz.func41, Tryz.ntmps41
  go_wp2_with (go_at_call 31; (with_reducible refine (HS.out _ ?_).mono ?_); (first | exact hbw | skip); rintro _ _ ⟨d, rfl, rfl⟩)
  go_ret
  exact ⟨rfl, ⟨hbw.os, hbw.tape, hbw.output, hbw.size, hbw.block⟩⟩
set_option maxRecDepth 100000 in
set_option maxHeartbeats 2000000 in
theorem same_4 {w : World} {B : Nat} {k ct : Int} {nm : ByteArray} {n0 n1 n2 n3 : Bool} {s0 s1 s2 s3 : ByteArray} {A : Option Addr} {n c : Nat} {l : List Int} {kx ctx : Int} {nmx : ByteArray} {n0x n1x n2x n3x : Bool} {s0x s1x s2x s3x : ByteArray} {Ax : Option Addr} {nx cx : Nat} {lx : List Int} (hr : ReadsI w B A l) (hrx : ReadsI w B Ax lx) (hB : B ≤ w.heap.size) (hn : n = l.length) (hnx : nx = lx.length) (hnl : n ≤ 1000000000) (hnlx : nx ≤ 1000000000) (e0 : l = lx) (e1 : k = kx) (e2 : nm = nmx) (e3 : (n0 = n0x ∧ s0 = s0x ∧ n1 = n1x ∧ s1 = s1x ∧ n2 = n2x ∧ s2 = s2x ∧ n3 = n3x ∧ s3 = s3x)) (e4 : ¬ ct = ctx) :
    Calls Tryz.prog 41 #[.agg #[.int .i64 k, .string nm, .bool n0, .string s0, .bool n1, .string s1, .bool n2, .string s2, .bool n3, .string s3, .slice A n c, .int .i64 ct], .agg #[.int .i64 kx, .string nmx, .bool n0x, .string s0x, .bool n1x, .string s1x, .bool n2x, .string s2x, .bool n3x, .string s3x, .slice Ax nx cx, .int .i64 ctx]] w (fun e w' => e = .returned (.bool false) ∧ Below w.heap.size w w') := by
  have HS : Hid (∀ W, Below w.heap.size w W → Calls Tryz.prog 31 #[.slice A n c, .slice Ax nx cx] W (fun e w' => ∃ d, e = .returned (.bool true) ∧ W.drewN d = w')) := Lib.hid fun W hb => (same_any ((hr.more hB).below hb) ((hrx.more hB).below hb) hn hnx hnl hnlx).mono fun e w' ⟨d, h1, h2⟩ => ⟨d, by rw [h1, decide_eq_true e0], h2⟩
  clear hr hrx hn hnx hnl hnlx e0
  subst e1
  subst e2
  have hzq := fun W => eql_gs n0 n0x n1 n1x n2 n2x n3 n3x s0 s0x s1 s1x s2 s2x s3 s3x W
  rw [decide_eq_true e3] at hzq
  clear e3
  have e4b : (ct == ctx) = false := by simpa using e4
  have hbx := Box.new w 41 #[.int .i64 k, .string nm, .bool n0, .string s0, .bool n1, .string s1, .bool n2, .string s2, .bool n3, .string s3, .slice A n c, .int .i64 ct]
  have hby := Box.new (w.alloc (.cells #[.int .i64 k, .string nm, .bool n0, .string s0, .bool n1, .string s1, .bool n2, .string s2, .bool n3, .string s3, .slice A n c, .int .i64 ct] 41)) 41 #[.int .i64 k, .string nm, .bool n0x, .string s0x, .bool n1x, .string s1x, .bool n2x, .string s2x, .bool n3x, .string s3x, .slice Ax nx cx, .int .i64 ctx]
  have hbw := hbx.2.trans (hby.2.mono hbx.2.size)
  have hk := hbx.1.below hby.2 hbx.1.lt
  have c0 := hk.cell 0; have d0 := hby.1.cell 0; have c1 := hk.cell 1; have d1 := hby.1.cell 1; have c2 := hk.cell 2; have d2 := hby.1.cell 2; have c3 := hk.cell 3; have d3 := hby.1.cell 3; have c4 := hk.cell 4; have d4 := hby.1.cell 4; have c5 := hk.cell 5; have d5 := hby.1.cell 5; have c6 := hk.cell 6; have d6 := hby.1.cell 6; have c7 := hk.cell 7; have d7 := hby.1.cell 7; have c8 := hk.cell 8; have d8 := hby.1.cell 8; have c9 := hk.cell 9; have d9 := hby.1.cell 9; have c10 := hk.cell 10; have d10 := hby.1.cell 10; have c11 := hk.cell 11; have d11 := hby.1.cell 11
  go_enter Tryz.func41, Tryz.ntmps41
  go_wp2_with (go_at_call 31; (with_reducible refine (HS.out _ ?_).mono ?_); (first | exact hbw | skip); rintro _ _ ⟨d, rfl, rfl⟩)
  go_ret
  exact ⟨rfl, ⟨hbw.os, hbw.tape, hbw.output, hbw.size, hbw.block⟩⟩
set_option maxRecDepth 100000 in
set_option maxHeartbeats 2000000 in
theorem same_5 {w : World} {B : Nat} {k ct : Int} {nm : ByteArray} {n0 n1 n2 n3 : Bool} {s0 s1 s2 s3 : ByteArray} {A : Option Addr} {n c : Nat} {l : List Int} {kx ctx : Int} {nmx : ByteArray} {n0x n1x n2x n3x : Bool} {s0x s1x s2x s3x : ByteArray} {Ax : Option Addr} {nx cx : Nat} {lx : List Int} (hr : ReadsI w B A l) (hrx : ReadsI w B Ax lx) (hB : B ≤ w.heap.size) (hn : n = l.length) (hnx : nx = lx.length) (hnl : n ≤ 1000000000) (hnlx : nx ≤ 1000000000) (e0 : l = lx) (e1 : k = kx) (e2 : nm = nmx) (e3 : (n0 = n0x ∧ s0 = s0x ∧ n1 = n1x ∧ s1 = s1x ∧ n2 = n2x ∧ s2 = s2x ∧ n3 = n3x ∧ s3 = s3x)) (e4 : ct = ctx) :
    Calls Tryz.prog 41 #[.agg #[.int .i64 k, .string nm, .bool n0, .string s0, .bool n1, .string s1, .bool n2, .string s2, .bool n3, .string s3, .slice A n c, .int .i64 ct], .agg #[.int .i64 kx, .string nmx, .bool n0x, .string s0x, .bool n1x, .string s1x, .bool n2x, .string s2x, .bool n3x, .string s3x, .slice Ax nx cx, .int .i64 ctx]] w (fun e w' => e = .returned (.bool true) ∧ Below w.heap.size w w') := by
  have HS : Hid (∀ W, Below w.heap.size w W → Calls Tryz.prog 31 #[.slice A n c, .slice Ax nx cx] W (fun e w' => ∃ d, e = .returned (.bool true) ∧ W.drewN d = w')) := Lib.hid fun W hb => (same_any ((hr.more hB).below hb) ((hrx.more hB).below hb) hn hnx hnl hnlx).mono fun e w' ⟨d, h1, h2⟩ => ⟨d, by rw [h1, decide_eq_true e0], h2⟩
  clear hr hrx hn hnx hnl hnlx e0
  subst e1
  subst e2
  have hzq := fun W => eql_gs n0 n0x n1 n1x n2 n2x n3 n3x s0 s0x s1 s1x s2 s2x s3 s3x W
  rw [decide_eq_true e3] at hzq
  clear e3
  subst e4
  have hbx := Box.new w 41 #[.int .i64 k, .string nm, .bool n0, .string s0, .bool n1, .string s1, .bool n2, .string s2, .bool n3, .string s3, .slice A n c, .int .i64 ct]
  have hby := Box.new (w.alloc (.cells #[.int .i64 k, .string nm, .bool n0, .string s0, .bool n1, .string s1, .bool n2, .string s2, .bool n3, .string s3, .slice A n c, .int .i64 ct] 41)) 41 #[.int .i64 k, .string nm, .bool n0x, .string s0x, .bool n1x, .string s1x, .bool n2x, .string s2x, .bool n3x, .string s3x, .slice Ax nx cx, .int .i64 ct]
  have hbw := hbx.2.trans (hby.2.mono hbx.2.size)
  have hk := hbx.1.below hby.2 hbx.1.lt
  have c0 := hk.cell 0; have d0 := hby.1.cell 0; have c1 := hk.cell 1; have d1 := hby.1.cell 1; have c2 := hk.cell 2; have d2 := hby.1.cell 2; have c3 := hk.cell 3; have d3 := hby.1.cell 3; have c4 := hk.cell 4; have d4 := hby.1.cell 4; have c5 := hk.cell 5; have d5 := hby.1.cell 5; have c6 := hk.cell 6; have d6 := hby.1.cell 6; have c7 := hk.cell 7; have d7 := hby.1.cell 7; have c8 := hk.cell 8; have d8 := hby.1.cell 8; have c9 := hk.cell 9; have d9 := hby.1.cell 9; have c10 := hk.cell 10; have d10 := hby.1.cell 10; have c11 := hk.cell 11; have d11 := hby.1.cell 11
  go_enter Tryz.func41, Tryz.ntmps41
  go_wp2_with (go_at_call 31; (with_reducible refine (HS.out _ ?_).mono ?_); (first | exact hbw | skip); rintro _ _ ⟨d, rfl, rfl⟩)
  go_ret
  exact ⟨rfl, ⟨hbw.os, hbw.tape, hbw.output, hbw.size, hbw.block⟩⟩

theorem same_arg {w : World} {B : Nat} {r q : ARow} (hr : ArgR w B r) (hq : ArgR w B q) (hB : B ≤ w.heap.size) (hrl : r.2.2.wd.length ≤ 1000000000) (hql : q.2.2.wd.length ≤ 1000000000) {b : Bool} (hb : b = true ↔ r.2.2 = q.2.2) :
    Calls Tryz.prog 41 #[argV r, argV q] w (fun e w' => e = .returned (.bool b) ∧ Below w.heap.size w w') := by
  obtain ⟨A, c, k, nm, n0, s0, n1, s1, n2, s2, n3, s3, l, ct⟩ := r
  obtain ⟨Ax, cx, kx, nmx, n0x, s0x, n1x, s1x, n2x, s2x, n3x, s3x, lx, ctx⟩ := q
  have h1 := hr.wd
  have h2 := hq.wd
  by_cases e0 : l = lx
  · by_cases e1 : k = kx
    · by_cases e2 : nm = nmx
      · by_cases e3 : (n0 = n0x ∧ s0 = s0x ∧ n1 = n1x ∧ s1 = s1x ∧ n2 = n2x ∧ s2 = s2x ∧ n3 = n3x ∧ s3 = s3x)
        · by_cases e4 : ct = ctx
          · rw [hb.2 (by obtain ⟨a1, a2, a3, a4, a5, a6, a7, a8⟩ := e3; subst e0 e1 e2 e4 a1 a2 a3 a4 a5 a6 a7 a8; rfl)]
            exact same_5 h1 h2 hB rfl rfl hrl hql e0 e1 e2 e3 e4
          · rw [no_b hb fun h => e4 (congrArg ArgP.ct h)]; exact same_4 h1 h2 hB rfl rfl hrl hql e0 e1 e2 e3 e4
        · rw [no_b hb fun h => e3 (by injection h; exact ⟨‹_›, ‹_›, ‹_›, ‹_›, ‹_›, ‹_›, ‹_›, ‹_›⟩)]; exact same_3 h1 h2 hB rfl rfl hrl hql e0 e1 e2 e3
      · rw [no_b hb fun h => e2 (congrArg ArgP.nm h)]; exact same_2 h1 h2 hB rfl rfl hrl hql e0 e1 e2
    · rw [no_b hb fun h => e1 (congrArg ArgP.k h)]; exact same_1 h1 h2 hB rfl rfl hrl hql e0 e1
  · rw [no_b hb fun h => e0 (congrArg ArgP.wd h)]; exact same_0 h1 h2 hB rfl rfl hrl hql e0
end Go.Proofs.YtebpggfccljagaaGreatDoor

/- ref30.MayArg (printed by gen_rmay.py). -/
namespace Go.Proofs.YtebpggfccljagaaGreatDoor
open Go.RowKit
open Wh
set_option linter.unusedSimpArgs false
set_option linter.unusedVariables false

end Go.Proofs.YtebpggfccljagaaGreatDoor

/- ref30.MayArg, a word; joined (printed by gen_rmay4.py). -/
namespace Go.Proofs.YtebpggfccljagaaGreatDoor
open Go.RowKit
open Wh
set_option linter.unusedSimpArgs false
set_option linter.unusedVariables false

end Go.Proofs.YtebpggfccljagaaGreatDoor
