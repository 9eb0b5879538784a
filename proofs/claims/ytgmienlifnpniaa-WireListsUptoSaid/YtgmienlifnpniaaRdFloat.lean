/- (*Reader).Signed, Float. -/
import Derived.Test.YtgmienlifnpniaaRdText
import Derived.Test.YtgmienlifnpniaaFloat
import Derived.Laws.DeepNot64
import Derived.WalkSmall
namespace Go.Proofs.Ytgmienlifnpniaa
open Go.RowKit
set_option linter.unusedSimpArgs false
namespace Wire
def beV (l : List UInt8) : Nat := l.foldl (fun a b => a * 256 + b.toNat) 0
theorem beV_snoc (l : List UInt8) (b : UInt8) : beV (l ++ [b]) = beV l * 256 + b.toNat := by unfold beV; rw [List.foldl_append]; rfl
theorem beV_lt' : ∀ (n : Nat) (l : List UInt8), l.length = n → beV l < 256 ^ n
  | 0, l, h => by
    rw [List.eq_nil_of_length_eq_zero h]
    decide
  | n + 1, l, h => by
    have e : l = l.dropLast ++ [l.getLast (by intro e; rw [e] at h; cases h)] := (List.dropLast_concat_getLast _).symm
    rw [e, beV_snoc, Nat.pow_succ]
    have := beV_lt' n l.dropLast (by rw [List.length_dropLast]; omega)
    have hb := (l.getLast (by intro e; rw [e] at h; cases h)).toNat_lt
    omega
def flt (r : List UInt8) : Res Nat :=
  if r.length < 8 then .err 110 else if canon (beV (r.take 8)) = beV (r.take 8) then .ok (beV (r.take 8)) 8 else .err 111
theorem flt_err {r : List UInt8} {c : Nat} (h : flt r = .err c) : c ≠ 0 := by
  unfold flt at h
  split at h
  · injection h with h; omega
  · split at h
    · cases h
    · injection h with h; omega
/-- a number with its sign -/
def unfold_ (u : Nat) : Int := if u % 2 = 1 then -(u / 2 : Nat) - 1 else (u / 2 : Nat)
end Wire

theorem shl_or (u : Nat) (b : UInt8) (h : u < 72057594037927936) : bits .or .u64 ((u : Int) * 256) (IntKind.u64.wrap (b.toNat : Int)) = ((u * 256 + b.toNat : Nat) : Int) := by
  have hb := b.toNat_lt
  rw [IntKind.wrap_u64, show ((u : Int) * 256) = ((u * 256 : Nat) : Int) from by omega, show ((b.toNat : Nat) : Int) % 18446744073709551616 = ((b.toNat : Nat) : Int) from by omega, u64_or_nat _ _ (by omega) (by omega), nat_join 8 _ _ (by omega) (by omega)]

set_option maxRecDepth 100000 in
set_option maxHeartbeats 1000000 in
theorem float1_any {w : World} {B g bx : Nat} {v : Value} {l : List UInt8} {a : Nat} (h : Rd w B g v l a) (hbx : Blk w bx 61 #[.pointer (some ⟨g, 0, none⟩)]) :
    Calls Try.prog 72 #[.pointer (some ⟨bx, 0, none⟩)] w (Within (fun u : Nat => .float .f64 u) (Wire.flt (l.drop a)) w B g v l a) := by
  have cx := hbx.cell 0
  have hk : (l.drop a).length = l.length - a := List.length_drop
  by_cases h8 : (l.drop a).length < 8
  · have Hs := Lib.hid (show Wire.flt (l.drop a) = .err 110 from if_pos h8)
    have H1 := Lib.hid (bytes_no h 8 (by omega) (by omega))
    clear hk h8
    go_enter Try.func72, Try.ntmps72
    go_wp2_with (go_at_call 68; refine H1.out.mono ?_; rintro e w1 ⟨rfl, kq, rfl⟩)
    go_ret2
    exact within_err Hs.out ⟨_, _, rfl, h.drewN _, only_drewN (World.grownBy.refl w _) _⟩
  · have H1 := Lib.hid (bytes_yes h 8 (by omega))
    have hlen : ((l.drop a).take 8).length = 8 := by rw [List.length_take]; omega
    have Hs0 := Lib.hid (show Wire.flt (l.drop a) = if Wire.canon (Wire.beV ((l.drop a).take 8)) = Wire.beV ((l.drop a).take 8) then .ok (Wire.beV ((l.drop a).take 8)) 8 else .err 111 from if_neg h8)
    generalize (l.drop a).take 8 = r at *
    have hx := run_frombits
    have Hlen := Lib.hid hlen
    have hl8 : r.length ≤ 8 := by omega
    have hl8' : 8 ≤ r.length := by omega
    have HB := Lib.hid bits_any
    clear hk h8 hlen
    go_enter Try.func72, Try.ntmps72
    go_wp2_with (go_at_call 68; refine H1.out.mono ?_; rintro e w1 ⟨rfl, hr1, hg1⟩)
    go_loopg [5, 18] 8 (fun k u i wr => ∃ (j : Nat), i = .int .i64 (j : Int) ∧ j + k = 8 ∧ u = .int .u64 (Wire.beV (r.take j) : Int) ∧ wr = w1)
    case atStart => exact ⟨0, rfl, rfl, rfl, rfl⟩
    case round =>
      obtain ⟨j, rfl, hj, rfl, rfl⟩ := hrel
      have Hj := Lib.hid hj
      have hj8 : j ≤ 8 := by omega
      by_cases hlt : j < 8
      · have hbd := Wire.beV_lt' j (r.take j) (by rw [List.length_take]; omega)
        have hbd2 : Wire.beV (r.take j) < 72057594037927936 := Nat.lt_of_lt_of_le hbd (Nat.le_trans (Nat.pow_le_pow_right (by decide) (show j ≤ 7 by omega)) (by decide))
        have hjr : j < r.length := by omega
        have hjr2 : (j : Int) < (r.length : Int) := by omega
        have hsn : Wire.beV (r.take (j + 1)) = Wire.beV (r.take j) * 256 + (r[j]'hjr).toNat := by rw [List.take_succ_eq_append_getElem hjr, Wire.beV_snoc]
        have Hsn := Lib.hid hsn
        clear hsn hbd hj
        go_wp2
        go_roundg (8 - (j + 1))
        case measure => have := Hj.out; omega
        case rel =>
          refine ⟨j + 1, by go_num, by omega, ?_, rfl⟩
          rw [Hsn.out, ← shl_or _ _ hbd2]
          rfl
      · have hj9 : j = 8 := by omega
        subst hj9
        have er : r.take 8 = r := List.take_of_length_le hl8
        have Er := Lib.hid er
        have hu := Wire.beV_lt' 8 r Hlen.out
        rw [er]
        generalize Wire.beV r = u at *
        have hu2 : u < 18446744073709551616 := hu
        clear hu er hj
        by_cases hc : Wire.canon u = u
        · have Hs := Lib.hid (Hs0.out.trans (if_pos hc))
          have Hc := Lib.hid hc
          have hne : ((Wire.canon u : Int) != (u : Int)) = false := by rw [hc]; simp
          clear hc
          go_wp2_with (go_at_call 55; refine (HB.out u _).mono ?_; rintro e w' ⟨rfl, rfl⟩)
          go_ret2
          exact within_ok Hs.out ⟨rfl, hr1, hg1⟩
        · have Hs := Lib.hid (Hs0.out.trans (if_neg hc))
          have hne : ((Wire.canon u : Int) != (u : Int)) = true := by simp; omega
          clear hc
          go_wp2_with (go_at_call 55; refine (HB.out u _).mono ?_; rintro e w' ⟨rfl, rfl⟩)
          go_ret2
          exact within_err Hs.out ⟨_, _, rfl, hr1, hg1⟩

set_option maxRecDepth 100000 in
set_option maxHeartbeats 1000000 in
theorem float_rd {w : World} {B g : Nat} {v : Value} {l : List UInt8} {a : Nat} (h : Rd w B g v l a) :
    Calls Try.prog 45 #[.pointer (some ⟨g, 0, none⟩)] w (Reads1 (fun u : Nat => .float .f64 u) (.float .f64 0) (Wire.flt (l.drop a)) w B g v l a) := by
  have hmf : ∀ (fn : Fn) (first cap : Array Value) (w : World), (Instr.makeFunc fn first cap).run Try.prog w = .ok (.func fn first cap) w := fun _ _ _ _ => rfl
  have h2 := h.alloc (.cells #[.pointer (some ⟨g, 0, none⟩)] 61)
  have H := Lib.hid (there_any h2)
  have hb1 := Blk.new w 61 #[.pointer (some ⟨g, 0, none⟩)]
  have HC := float1_any h2 hb1
  have c1 := h2.c1
  have hle := h.le
  cases hn : Wire.flt (l.drop a) with
  | err c =>
    have hc := ne_code (Wire.flt_err hn)
    have H1 := Lib.hid (HC.mono fun e w' hh => within_err' hn hh)
    clear hn h h2 hb1 HC
    go_enter Try.func45, Try.ntmps45
    go_wp2_with (first | (go_at_call 60; refine H.out.mono ?_; rintro e w' ⟨rfl, rfl⟩) | (go_at_call 72; refine H1.out.mono ?_; rintro e w' ⟨x, a', rfl, hr, hg⟩; have f1' := hr.f1; have c1' := hr.c1) | go_in)
    go_ret2
    exact ⟨rfl, hr.go a hle, only_setCell (p := ⟨g, 1, none⟩) (only_of_alloc hg) (.inl rfl) _⟩
  | ok n k =>
    have H1 := Lib.hid (HC.mono fun e w' hh => within_ok' hn hh)
    clear hn h h2 hb1 HC
    go_enter Try.func45, Try.ntmps45
    go_wp2_with (first | (go_at_call 60; refine H.out.mono ?_; rintro e w' ⟨rfl, rfl⟩) | (go_at_call 72; refine H1.out.mono ?_; rintro e w' ⟨rfl, hr, hg⟩) | go_in)
    go_ret2
    exact ⟨rfl, hr, only_of_alloc hg⟩

theorem xor_m1 (a : Nat) (ha : a < 9223372036854775808) : bits .xor .i64 (a : Int) (-1) = -1 - (a : Int) := by
  rw [← i64_not a ha]
  show IntKind.i64.wrap ((BitVec.ofInt 64 (a : Int) ^^^ BitVec.ofInt 64 (-1)).toNat : Int) = IntKind.i64.wrap ((BitVec.ofInt 64 (-1) ^^^ BitVec.ofInt 64 (a : Int)).toNat : Int)
  rw [BitVec.xor_comm]
theorem unf (u : Nat) (h : u < 18446744073709551616) : bits .xor .i64 ((u : Int) / 2) (wrap64 (-wrap64 (bits .and .u64 (u : Int) 1))) = Wire.unfold_ u := by
  rw [and_one_u64 _ (by omega) (by omega)]
  unfold Wire.unfold_
  rw [show ((u : Int) / 2) = ((u / 2 : Nat) : Int) from by omega]
  by_cases h1 : u % 2 = 1
  · rw [if_pos h1, show ((u : Int) % 2) = 1 from by omega, show wrap64 1 = 1 from by unfold wrap64; omega, show wrap64 (-1) = -1 from by unfold wrap64; omega, xor_m1 _ (by omega)]
    omega
  · rw [if_neg h1, show ((u : Int) % 2) = 0 from by omega, show wrap64 0 = 0 from by unfold wrap64; omega, show wrap64 (-0) = ((0 : Nat) : Int) from by unfold wrap64; omega, i64_xor_nat _ _ (by omega) (by omega), Nat.xor_zero]

set_option maxRecDepth 100000 in
set_option maxHeartbeats 1000000 in
theorem signed_rd {w : World} {B g : Nat} {v : Value} {l : List UInt8} {a : Nat} (h : Rd w B g v l a) :
    Calls Try.prog 40 #[.pointer (some ⟨g, 0, none⟩)] w (Reads1 (fun n : Nat => .int .i64 (Wire.unfold_ n)) (.int .i64 0) (Wire.num (l.drop a)) w B g v l a) := by
  cases hn : Wire.num (l.drop a) with
  | err c =>
    have H1 := Lib.hid (number_err h hn)
    clear hn h
    go_enter Try.func40, Try.ntmps40
    go_wp2_with (go_at_call 39; refine H1.out.mono ?_; rintro e w1 ⟨rfl, hr1, hg1⟩)
    go_ret2
    exact ⟨by have e := unf 0 (by decide); exact congrArg (fun z : Int => Ending.returned (.tuple #[.int .i64 z, .int .i64 (c : Int)])) e, hr1, hg1⟩
  | ok n k =>
    have H1 := Lib.hid (number_ok h hn)
    obtain ⟨hn1, _, _⟩ := Wire.num_bd hn
    clear hn h
    go_enter Try.func40, Try.ntmps40
    go_wp2_with (go_at_call 39; refine H1.out.mono ?_; rintro e w1 ⟨rfl, hr1, hg1⟩)
    go_ret2
    exact ⟨congrArg (fun z : Int => Ending.returned (.tuple #[.int .i64 z, .int .i64 0])) (unf n hn1), hr1, hg1⟩
end Go.Proofs.Ytgmienlifnpniaa
