/- The reference's reader: Numbers. -/
import Derived.Test.YtgmienlifnpniaaRRd2
import Derived.Test.YtgmienlifnpniaaTake
namespace Go.Proofs.Ytgmienlifnpniaa
open Go.RowKit
set_option linter.unusedSimpArgs false

/-- what the reference's Numbers leaves -/
def RTake (res : Wire.Res (List Nat)) (w : World) (B g : Nat) (A : Option Addr) (c : Nat) (l : List UInt8) (a : Nat) (e : Ending) (w' : World) : Prop :=
  match res with
  | .err k => e = .returned (.tuple #[.slice none 0 0, .int .i64 (k : Int)]) ∧ RR w' B g A c l a ∧ w.grownBy w' (some g)
  | .ok xs k => ∃ A1 n1 c1, e = .returned (.tuple #[.slice A1 n1 c1, .int .i64 0]) ∧ OwnU w' w.heap.size (.slice A1 n1 c1) xs ∧ RR w' B g A c l (a + k) ∧ w.grownBy w' (some g)
section
variable {res : Wire.Res (List Nat)} {w w' : World} {B g c a : Nat} {A : Option Addr} {l : List UInt8} {e : Ending}
theorem rtake_err {k : Nat} (h : res = .err k) (h2 : e = .returned (.tuple #[.slice none 0 0, .int .i64 (k : Int)]) ∧ RR w' B g A c l a ∧ w.grownBy w' (some g)) : RTake res w B g A c l a e w' := by subst h; exact h2
theorem rtake_ok {xs : List Nat} {k : Nat} (h : res = .ok xs k) (h2 : ∃ A1 n1 c1, e = .returned (.tuple #[.slice A1 n1 c1, .int .i64 0]) ∧ OwnU w' w.heap.size (.slice A1 n1 c1) xs ∧ RR w' B g A c l (a + k) ∧ w.grownBy w' (some g)) : RTake res w B g A c l a e w' := by subst h; exact h2
theorem rtake_err' {k : Nat} (h : res = .err k) (h2 : RTake res w B g A c l a e w') : e = .returned (.tuple #[.slice none 0 0, .int .i64 (k : Int)]) ∧ RR w' B g A c l a ∧ w.grownBy w' (some g) := by subst h; exact h2
theorem rtake_ok' {xs : List Nat} {k : Nat} (h : res = .ok xs k) (h2 : RTake res w B g A c l a e w') : ∃ A1 n1 c1, e = .returned (.tuple #[.slice A1 n1 c1, .int .i64 0]) ∧ OwnU w' w.heap.size (.slice A1 n1 c1) xs ∧ RR w' B g A c l (a + k) ∧ w.grownBy w' (some g) := by subst h; exact h2
end
theorem RR.far_row {w w' : World} {B g c a a' : Nat} {A : Option Addr} {l : List UInt8} {w0 : World} {r : Option Nat} (h0 : RR w0 B g A c l a) (h : RR w B g A c l a') (hb : ∀ k, r = some k → w0.heap.size ≤ k) (hg : w.grownBy w' r) : RR w' B g A c l a' := by
  have hgl := h0.lt
  have hbb := h0.base
  exact ⟨h.base, h.blk.grown hg (fun e => by have := hb g e.symm; omega), Reads.grown h.read hg (by have := h.lt; omega) (fun k hk => by have := hb k hk; omega), h.le, h.len, h.cap, h.cap2⟩

set_option maxRecDepth 100000 in
set_option maxHeartbeats 4000000 in
theorem rnumbersR_any {w : World} {B g c a : Nat} {A : Option Addr} {l : List UInt8} {M : Nat} (h : RR w B g A c l a) (hm2 : (M : Int) ≤ 9223372036854775807) (hll : l.length ≤ 1048577) :
    Calls Try.prog 96 #[.pointer (some ⟨g, 0, none⟩), .int .i64 (M : Int)] w (RTake (Wire.take_ (M : Int) (l.drop a)) w B g A c l a) := by
  have c1 := h.c1
  have hle := h.le
  have hgl := h.lt
  have Hh := Lib.hid h
  cases hn : Wire.num (l.drop a) with
  | err k =>
    have Hs := Lib.hid (show Wire.take_ (M : Int) (l.drop a) = .err k by unfold Wire.take_; rw [if_neg (by omega), hn])
    have H1 := Lib.hid ((rnumber_any h).mono fun e w' hh => rreads_err' hn hh)
    have hc := Wire.numGo_err _ _ _ _ _ hn
    clear hn h
    rcases hc with rfl | rfl
    all_goals
      go_enter Try.func96, Try.ntmps96
      go_wp2_with fail
      refine H1.out.mono ?_
      rintro e w1 ⟨rfl, hr1, hg1⟩
      have f1' := hr1.f1
      have c1' := hr1.c1
      go_wp2_with fail
      refine wp_loop_rounds 1 ?_
      rw [rounds_succ]
      go_wp2_with fail
      go_ret2
      exact rtake_err Hs.out ⟨rfl, hr1.go a hle, only_setCell (p := ⟨g, 1, none⟩) hg1 (.inl rfl) _⟩
  | ok n k =>
    obtain ⟨hn1, hn2, hn3⟩ := Wire.num_bd hn
    have hk : (l.drop a).length = l.length - a := List.length_drop
    have H1 := Lib.hid ((rnumber_any h).mono fun e w' hh => rreads_ok' hn hh)
    by_cases h3 : (M : Int) < (n : Int)
    · have Hs := Lib.hid (show Wire.take_ (M : Int) (l.drop a) = .err 3 by unfold Wire.take_; rw [if_neg (by omega), hn]; exact if_pos h3)
      clear hn h hn3 hk
      go_enter Try.func96, Try.ntmps96
      go_wp2_with fail
      refine H1.out.mono ?_
      rintro e w1 ⟨rfl, hr1, hg1⟩
      have f1' := hr1.f1
      have c1' := hr1.c1
      go_wp2_with fail
      refine wp_loop_rounds 1 ?_
      rw [rounds_succ]
      go_wp2_with fail
      go_ret2
      exact rtake_err Hs.out ⟨rfl, hr1.go a hle, only_setCell (p := ⟨g, 1, none⟩) hg1 (.inl rfl) _⟩
    · have Hs := Lib.hid (show Wire.take_ (M : Int) (l.drop a) = Wire.nums n (l.drop (a + k)) [] k by unfold Wire.take_; rw [if_neg (by omega), hn]; simp only; rw [if_neg h3, List.drop_drop])
      have h3' : (n : Int) ≤ (M : Int) := by omega
      have hak : a + k ≤ l.length := by omega
      have hn63 : (n : Int) ≤ 9223372036854775807 := by omega
      have h3b : decide (M < n) = false := by simp; omega
      clear hn hn3 h h3 hk hn1
      go_enter Try.func96, Try.ntmps96
      go_wp2_with fail
      refine H1.out.mono ?_
      rintro e w1 ⟨rfl, hr1, hg1⟩
      go_wp2_with fail
      have hz1 := hg1.size
      go_loopg [8, 9, 10] n (fun q ev sl i wr => ∃ (j at_ : Nat) (E : Int) (acc : List Nat) (A' : Option Addr) (n' c' : Nat), i = .int .u64 (j : Int) ∧ ev = .int .i64 E ∧ sl = .slice A' n' c' ∧ Hid (at_ ≤ l.length ∧ acc.length ≤ 1048578 ∧ j ≤ n) ∧ RR wr B g A c l at_ ∧ OwnU wr w.heap.size (.slice A' n' c') acc ∧ w.grownBy wr (some g) ∧
        Hid ((E = 0 ∧ j + q = n ∧ acc.length + a ≤ at_ ∧ a ≤ at_ ∧ Wire.nums n (l.drop (a + k)) [] k = Wire.nums q (l.drop at_) acc (at_ - a)) ∨ (∃ ec : Nat, E = (ec : Int) ∧ ec ≠ 0 ∧ Wire.nums n (l.drop (a + k)) [] k = .err ec)))
      case atStart =>
        refine ⟨0, a + k, 0, [], none, 0, 0, rfl, rfl, rfl, ⟨by omega, by simp, by omega⟩, hr1, World.ownsRow_nil w1 w.heap.size _ 1, hg1, .inl ⟨rfl, by omega, by simp, by omega, ?_⟩⟩
        rw [show a + k - a = k by omega]
      case round =>
        obtain ⟨j, at_, E, acc, A', n', c', rfl, rfl, rfl, hat, hr, ho, hg, hs⟩ := hrel
        rcases hs.out with ⟨rfl, hj, hacc, haat, hnum⟩ | ⟨ec, rfl, hec, hnum⟩
        · have Hj := Lib.hid hj
          have Hacc := Lib.hid hacc
          have Haat := Lib.hid haat
          have Hnum := Lib.hid hnum
          clear hs hacc haat hnum
          by_cases hlt : j < n
          · obtain ⟨q, rfl⟩ : ∃ q, gk = q + 1 := ⟨gk - 1, by omega⟩
            clear hj
            cases hx : Wire.num (l.drop at_) with
            | err ec =>
              have H2 := Lib.hid ((rnumber_any hr).mono fun e w' hh => rreads_err' hx hh)
              have hc := Wire.numGo_err _ _ _ _ _ hx
              have Hs2 := Lib.hid (Hnum.out.trans (show Wire.nums (q + 1) (l.drop at_) acc (at_ - a) = .err ec by rw [Wire.nums, hx]))
              clear hx
              have hec : Hid (ec ≠ 0) := by show ec ≠ 0; omega
              clear hc
              go_wp2_with fail
              refine H2.out.mono ?_
              rintro e w2 ⟨rfl, hr2, hg2⟩
              have z2 : w.heap.size ≤ w2.heap.size := Nat.le_trans hg.size hg2.size
              have ho2 := (ho.grown hg2 hgl).alloc (.cells #[uv 0] 22)
              have hgg := only_alloc (hg.trans hg2) (.cells #[uv 0] 22)
              have hr3 := hr2.alloc (.cells #[uv 0] 22)
              go_wp2_with (at_builtin; refine wpU_append rfl (.tmp 45) (.tmp 47) rfl w.heap.size _ acc ho2 rfl _ _ 0 (ownU_lit w2 0) _ rfl (by have := hat.out; omega) (by rw [World.size_alloc]; omega) ?_; intro A3 n3 c3 w3 ho3 hg3)
              go_roundg q
              case measure => omega
              case rel =>
                refine ⟨j + 1, at_, _, acc ++ [0], A3, n3, c3, by go_num, rfl, rfl, ⟨hat.out.1, ?_, by omega⟩, RR.far_row Hh.out hr3 (fun k hk => ho2.base hk) hg3, ho3, only_own hgg (fun k hk => ho2.base hk) hg3, .inr ⟨ec, rfl, hec.out, Hs2.out⟩⟩
                have := Hacc.out
                have := hat.out
                have := Haat.out
                rw [List.length_append, List.length_singleton]
                omega
            | ok x m =>
              have H2 := Lib.hid ((rnumber_any hr).mono fun e w' hh => rreads_ok' hx hh)
              obtain ⟨hx1, hx2, hx3⟩ := Wire.num_bd hx
              have hs2 := Lib.hid (Hnum.out.trans (show Wire.nums (q + 1) (l.drop at_) acc (at_ - a) = Wire.nums q (l.drop (at_ + m)) (acc ++ [x]) (at_ - a + m) by rw [Wire.nums, hx]; simp only; rw [List.drop_drop]))
              have hx4 := Lib.hid (show at_ + m ≤ l.length by rw [List.length_drop] at hx3; have := hat.out; omega)
              have hm1 := Lib.hid hx2
              clear hx hx1 hx2 hx3
              go_wp2_with fail
              refine H2.out.mono ?_
              rintro e w2 ⟨rfl, hr2, hg2⟩
              have z2 : w.heap.size ≤ w2.heap.size := Nat.le_trans hg.size hg2.size
              have ho2 := (ho.grown hg2 hgl).alloc (.cells #[uv x] 22)
              have hgg := only_alloc (hg.trans hg2) (.cells #[uv x] 22)
              have hr3 := hr2.alloc (.cells #[uv x] 22)
              go_wp2_with (at_builtin; refine wpU_append rfl (.tmp 45) (.tmp 47) rfl w.heap.size _ acc ho2 rfl _ _ x (ownU_lit w2 x) _ rfl (by have := hat.out; omega) (by rw [World.size_alloc]; omega) ?_; intro A3 n3 c3 w3 ho3 hg3)
              go_roundg q
              case measure => omega
              case rel =>
                have i1 := Hacc.out
                have i2 := hm1.out
                have i3 := Haat.out
                have i4 := Hj.out
                have i5 := hx4.out
                refine ⟨j + 1, at_ + m, 0, acc ++ [x], A3, n3, c3, by go_num, rfl, rfl, ⟨i5, ?_, by omega⟩, RR.far_row Hh.out hr3 (fun k hk => ho2.base hk) hg3, ho3, only_own hgg (fun k hk => ho2.base hk) hg3, .inl ⟨rfl, by omega, ?_, by omega, ?_⟩⟩
                · rw [List.length_append, List.length_singleton]; omega
                · rw [List.length_append, List.length_singleton]; omega
                · rw [hs2.out, show at_ + m - a = at_ - a + m by omega]
          · have hq : gk = 0 := by omega
            subst hq
            have hjn : j = n := by omega
            subst hjn
            have Hs2 := Lib.hid (Hs.out.trans (Hnum.out.trans (show Wire.nums 0 (l.drop at_) acc (at_ - a) = .ok acc (at_ - a) from rfl)))
            clear hj
            go_wp2_with fail
            go_ret2
            refine rtake_ok Hs2.out ⟨_, _, _, rfl, ho, ?_, hg⟩
            rw [show a + (at_ - a) = at_ by have := Haat.out; omega]
            exact hr
        · have Hs2 := Lib.hid (Hs.out.trans hnum)
          have hc1 : ((ec : Int) == 0) = false := by simp; omega
          have hc2 := ne_code hec
          have f1' := hr.f1
          have c1' := hr.c1
          clear hs hnum hec
          go_wp2_with fail
          go_ret2
          exact rtake_err Hs2.out ⟨rfl, hr.go a hle, only_setCell (p := ⟨g, 1, none⟩) hg (.inl rfl) _⟩
end Go.Proofs.Ytgmienlifnpniaa
