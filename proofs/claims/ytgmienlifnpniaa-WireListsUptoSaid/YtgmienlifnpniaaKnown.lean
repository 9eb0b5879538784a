/- tracerylaw01.known returns true. -/
import Derived.Test.YtgmienlifnpniaaRdText
import Derived.Test.YtgmienlifnpniaaWrite
namespace Go.Proofs.Ytgmienlifnpniaa
open Go.RowKit

theorem OwnB.str {w : World} {B n c : Nat} {A : Option Addr} {l : List UInt8} (h : OwnB w B (.slice A n c) l) : ∀ k, (convert 23 9 (.slice A n c)).run Try.prog (w.drewN k) = .ok (.string ⟨l.toArray⟩) (w.drewN k) :=
  fun k => run_str h.len (h.drewN k).reads

theorem OwnB.str0 {w : World} {B n c : Nat} {A : Option Addr} {l l' : List UInt8} (h : OwnB w B (.slice A n c) l) (e : l = l') : (convert 23 9 (.slice A n c)).run Try.prog w = .ok (.string ⟨l'.toArray⟩) w := by
  subst e
  exact run_str h.len h.reads

theorem lit_reads {w : World} (cs : Array Value) (l : List UInt8) (hcs : cs.toList = l.map bv) (hl : l.length ≤ 140737488355328) : ReadsB (w.alloc (.cells cs 5)) (w.alloc (.cells cs 5)).heap.size (some ⟨w.heap.size, 0, none⟩) l :=
  (OwnB.lit w w.heap.size l cs l.length hcs rfl (Nat.le_refl _) hl).reads

theorem below_of_only {w w' : World} {B g : Nat} (h : w.grownBy w' (some g)) (hB : B ≤ g) (hB2 : B ≤ w.heap.size) : Below B w w' :=
  (Below.refl _ _).grown h hB2 (fun k hk => by have := Option.some.inj hk; omega)

theorem text_ok {w : World} {B g k : Nat} {x : List UInt8} {v : Value} {l : List UInt8} {a : Nat} {most : Int} (h : Rd w B g v l a) (hm : most < 9223372036854775808) (hn : Wire.text most (l.drop a) = .ok x k) :
    Calls Try.prog 42 #[.pointer (some ⟨g, 0, none⟩), .int .i64 most] w fun e w' => e = .returned (.tuple #[.string ⟨x.toArray⟩, .int .i64 0]) ∧ Rd w' B g v l (a + k) ∧ w.grownBy w' (some g) :=
  (text_any h hm).mono fun e w' hh => by unfold Reads1 at hh; rw [hn] at hh; exact hh

theorem _root_.Go.RowKit.Below.up {w w1 w2 : World} {B : Nat} (h : Below B w w1) (h2 : Below w1.heap.size w1 w2) (hB : B ≤ w1.heap.size) : Below B w w2 := h.trans (h2.mono hB)

theorem bA {w w1 : World} {o : Obj} (h : Below (w.alloc o).heap.size (w.alloc o) w1) : Below w.heap.size w w1 := ((Below.refl _ _).alloc (Nat.le_refl _) o).trans (h.mono (by rw [World.size_alloc]; omega))
theorem _root_.Go.RowKit.Below.own {w w1 w2 wx : World} {B : Nat} {v : Value} {l : List UInt8} (h : Below B w w1) (hs : B ≤ w1.heap.size) (ho : OwnB wx B v l) (hg : w1.grownBy w2 v.ownBlock) : Below B w w2 :=
  h.grown hg hs (fun k hk => by
    rcases Nat.lt_or_ge k B with h | h
    · exact absurd hk.symm (ho.far h)
    · exact h)

set_option maxRecDepth 100000 in
set_option maxHeartbeats 1000000 in
theorem known_any (w : World) : Calls Try.prog 10 #[] w fun e w' => e = .returned (.bool true) ∧ Below w.heap.size w w' := by
  have n1 : Wire.num [129, 0, 2, 97, 98] = .ok 128 2 := rfl
  have n2 : Wire.text 2 [2, 97, 98] = .ok [97, 98] 3 := rfl
  have n3 : Wire.num [128, 1] = .err 111 := rfl
  have n4 : Wire.num [130, 128, 128, 128, 128, 128, 128, 128, 128, 0] = .err 111 := rfl
  have N1 := Lib.hid n1
  have N2 := Lib.hid n2
  have N3 := Lib.hid n3
  have N4 := Lib.hid n4
  clear n1 n2 n3 n4
  go_enter Try.func10, Try.ntmps10
  go_wp2_with fail
  refine (open_any _ _ _ [129, 0, 2, 97, 98] _ (lit_reads _ _ rfl (by decide)) (by decide) rfl).mono ?_
  rintro e w1 ⟨g, v, rfl, hr1, hb1⟩
  go_wp2_with (go_at_call 39; refine (number_ok hr1 N1.out).mono ?_; rintro e w2 ⟨rfl, hr2, hg2⟩)
  refine (text_ok hr2 (by decide) N2.out).mono ?_
  rintro e w3 ⟨rfl, hr3, hg3⟩
  go_wp2_with (go_at_call 21; refine (wholeW_yes _ _ _ rfl).mono ?_; rintro e w4 ⟨A4, m4, c4, rfl, ho4, hb4⟩)
  have hr4 := hr3.kept hb4
  have s1 := hb1.size
  have s2 := hg2.size
  have s3 := hg3.size
  have s4 := hb4.size
  have b4 : Below w.heap.size w w4 := by
    have bg := hr1.base
    rw [World.size_alloc] at s1 bg
    have b1 : Below w.heap.size w w1 := ((Below.refl _ _).alloc (Nat.le_refl _) _).trans (hb1.mono (by rw [World.size_alloc]; omega))
    exact ((b1.trans (below_of_only hg2 (by omega) (by omega))).trans (below_of_only hg3 (by omega) (by omega))).up hb4 (by omega)
  refine (open_any _ _ _ [128, 1] _ (lit_reads _ _ rfl (by decide)) (by decide) rfl).mono ?_
  rintro e w5 ⟨g2, v2, rfl, hr5, hb5⟩
  go_wp2_with (go_at_call 39; refine (number_err hr5 N3.out).mono ?_; rintro e w6 ⟨rfl, hr6, hg6⟩)
  have s5 := hb5.size
  have s6 := hg6.size
  have b6 : Below w4.heap.size w4 w6 := by
    have bg := hr5.base
    rw [World.size_alloc] at s5 bg
    exact (((Below.refl _ _).alloc (Nat.le_refl _) _).trans (hb5.mono (by rw [World.size_alloc]; omega))).trans (below_of_only hg6 (by omega) (by omega))
  refine (open_any _ _ _ [130, 128, 128, 128, 128, 128, 128, 128, 128, 0] _ (lit_reads _ _ rfl (by decide)) (by decide) rfl).mono ?_
  rintro e w7 ⟨g3, v3, rfl, hr7, hb7⟩
  go_wp2_with (go_at_call 39; refine (number_err hr7 N4.out).mono ?_; rintro e w8 ⟨rfl, hr8, hg8⟩)
  have s7 := hb7.size
  have s8 := hg8.size
  have s6' := b6.size
  have b8 : Below w4.heap.size w4 w8 := by
    have bg := hr7.base
    rw [World.size_alloc] at s7 bg
    exact ((b6.trans ((Below.refl _ _).alloc (by omega) _)).trans (hb7.mono (by rw [World.size_alloc]; omega))).trans (below_of_only hg8 (by omega) (by omega))
  have L1 := Lib.hid ((left_any (hr4.kept b8)).mono fun e w' hh => (show e = .returned (.int .i64 0) ∧ ∃ n, w8.drewN n = w' from hh))
  have L3 := Lib.hid fun k => (left_any (hr8.drewN k)).mono fun e w' hh => (show e = .returned (.int .i64 10) ∧ ∃ n, (w8.drewN k).drewN n = w' from hh)
  have w4s := (ho4.kept b8).str
  rw [show Wire.formW true [5] = [3, 5] from by unfold Wire.formW; rw [Wire.form_small (by decide)]; rfl] at w4s
  have W4 := Lib.hid w4s
  clear w4s
  have hz : w4.heap.size ≤ w8.heap.size := b8.size
  have hend : Below w.heap.size w w8 := b4.up b8 (by have := b4.size; omega)
  clear hr1 hr2 hr3 hr4 hr5 hr6 hr7 hr8 hb1 hg2 hg3 hb4 hb5 hg6 hb7 hg8 b6 b8 b4 ho4 s1 s2 s3 s4 s5 s6 s7 s8
  have hw4 := W4.out
  go_wp2_with (first
    | (go_at_call 33; refine (num_errno _ _).mono ?_; rintro e w' ⟨rfl, rfl⟩)
    | (go_at_call 38; with_reducible refine L1.out.mono ?_; rintro e w' ⟨rfl, k1, rfl⟩)
    | (go_at_call 38; with_reducible refine (L3.out _).mono ?_; rintro e w' ⟨rfl, k3, rfl⟩)
    | (go_at_call 13; refine (signed_any _ _ (by decide) (by decide)).mono ?_; rintro e w9 ⟨A9, m9, c9, rfl, ho9, hb9⟩; have t9 := ho9.str0 (l' := [1]) (Wire.form_small (by decide)))
    | (go_at_call 9; refine (num_any _ _ (by decide) (by decide)).mono ?_; rintro e w10 ⟨A10, m10, c10, rfl, ho10, hb10⟩; have t10 := ho10.str0 (l' := [129, 0]) Wire.form_128))
  go_ret
  have h9 := hb9.size
  rw [World.heap_drewN] at h9
  exact ⟨rfl, ((below_drewN hend _).up hb9 (by rw [World.heap_drewN]; exact hend.size)).up hb10 (by have := hend.size; omega)⟩
end Go.Proofs.Ytgmienlifnpniaa
