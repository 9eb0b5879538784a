/- The reference's reader in memory: Left, Number, Signed. -/
import Derived.Test.YtgmienlifnpniaaRdFloat
namespace Go.Proofs.Ytgmienlifnpniaa
open Go.RowKit
set_option linter.unusedSimpArgs false

/-- the reference's reader at g: bytes that it does not own, and how far it is -/
structure RR (w : World) (B g : Nat) (A : Option Addr) (c : Nat) (l : List UInt8) (at_ : Nat) : Prop where
  base : B ≤ g
  blk : Blk w g 86 #[.slice A l.length c, .int .i64 (at_ : Int)]
  read : ReadsB w B A l
  le : at_ ≤ l.length
  len : l.length ≤ 140737488355328
  cap : l.length ≤ c
  cap2 : c ≤ maxLen

section
variable {w w' : World} {B g c a : Nat} {A : Option Addr} {l : List UInt8}
theorem RR.lt (h : RR w B g A c l a) : g < w.heap.size := h.blk.lt
theorem RR.kept (h : RR w B g A c l a) (hb : Below w.heap.size w w') : RR w' B g A c l a :=
  ⟨h.base, h.blk.below hb h.blk.lt, Reads.below h.read ⟨hb.os, hb.tape, hb.output, Nat.le_trans (by have := h.base; have := h.lt; omega) hb.size, fun i hi => hb.block i (by have := h.base; have := h.lt; omega)⟩, h.le, h.len, h.cap, h.cap2⟩
theorem RR.drewN (h : RR w B g A c l a) (n : Nat) : RR (w.drewN n) B g A c l a := ⟨h.base, h.blk, h.read, h.le, h.len, h.cap, h.cap2⟩
theorem RR.drew (h : RR w B g A c l a) : RR w.drew B g A c l a := ⟨h.base, h.blk, h.read, h.le, h.len, h.cap, h.cap2⟩
theorem RR.alloc (h : RR w B g A c l a) (o : Obj) : RR (w.alloc o) B g A c l a :=
  ⟨h.base, h.blk.alloc o, Reads.alloc h.read (by have := h.base; have := h.lt; omega) o, h.le, h.len, h.cap, h.cap2⟩
theorem RR.far (h : RR w B g A c l a) {p : Addr} (hp : p.block ≠ g) (hp2 : B ≤ p.block) (u : Value) : RR (w.setCell p u) B g A c l a :=
  ⟨h.base, h.blk.far (fun e => hp e.symm) u, Reads.setCell h.read hp2 u, h.le, h.len, h.cap, h.cap2⟩
theorem RR.go (h : RR w B g A c l a) (n : Nat) (hn : n ≤ l.length) : RR (w.setCell ⟨g, 1, none⟩ (.int .i64 (n : Int))) B g A c l n :=
  ⟨h.base, h.blk.set_ 1 _, Reads.setCell h.read h.base _, hn, h.len, h.cap, h.cap2⟩
theorem RR.c0 (h : RR w B g A c l a) : w.cell? ⟨g, 0, none⟩ = some (.slice A l.length c) := h.blk.cell 0
theorem RR.c1 (h : RR w B g A c l a) : w.cell? ⟨g, 1, none⟩ = some (.int .i64 (a : Int)) := h.blk.cell 1
theorem RR.f1 (h : RR w B g A c l a) : w.frozen? ⟨g, 1, none⟩ = false := h.blk.frozen 1
theorem RR.other (h : RR w B g A c l a) {g' : Nat} (hg : w.grownBy w' (some g')) (hne : g ≠ g') (hB : B ≤ g') : RR w' B g A c l a :=
  ⟨h.base, h.blk.grown hg (fun e => hne (Option.some.inj e)), Reads.grown h.read hg (by have := h.base; have := h.lt; omega) (fun k hk => by have := Option.some.inj hk; omega), h.le, h.len, h.cap, h.cap2⟩
/-- the bytes, one by one -/
theorem RR.bytes (h : RR w B g A c l a) (h0 : 0 < l.length) : ∃ ad : Addr, A = some ad ∧ ∀ j (hj : j < l.length), w.cell? (ad.add j) = some (bv l[j]) := by
  obtain ⟨ad, e, _, hc⟩ := h.read.2 h0
  exact ⟨ad, e, fun j hj => hc j _ (by rw [List.getElem?_map, List.getElem?_eq_getElem hj]; rfl)⟩
end

/-- what a reading by the reference leaves -/
def RReads {α : Type} (val : α → Value) (zero : Value) (res : Wire.Res α) (w : World) (B g : Nat) (A : Option Addr) (c : Nat) (l : List UInt8) (a : Nat) (e : Ending) (w' : World) : Prop :=
  match res with
  | .err k => e = .returned (.tuple #[zero, .int .i64 (k : Int)]) ∧ RR w' B g A c l a ∧ w.grownBy w' (some g)
  | .ok n k => e = .returned (.tuple #[val n, .int .i64 0]) ∧ RR w' B g A c l (a + k) ∧ w.grownBy w' (some g)
section
variable {α : Type} {val : α → Value} {zero : Value} {res : Wire.Res α} {w w' : World} {B g c a : Nat} {A : Option Addr} {l : List UInt8} {e : Ending}
theorem rreads_err {k : Nat} (h : res = .err k) (h2 : e = .returned (.tuple #[zero, .int .i64 (k : Int)]) ∧ RR w' B g A c l a ∧ w.grownBy w' (some g)) : RReads val zero res w B g A c l a e w' := by subst h; exact h2
theorem rreads_ok {x : α} {k : Nat} (h : res = .ok x k) (h2 : e = .returned (.tuple #[val x, .int .i64 0]) ∧ RR w' B g A c l (a + k) ∧ w.grownBy w' (some g)) : RReads val zero res w B g A c l a e w' := by subst h; exact h2
theorem rreads_err' {k : Nat} (h : res = .err k) (h2 : RReads val zero res w B g A c l a e w') : e = .returned (.tuple #[zero, .int .i64 (k : Int)]) ∧ RR w' B g A c l a ∧ w.grownBy w' (some g) := by subst h; exact h2
theorem rreads_ok' {x : α} {k : Nat} (h : res = .ok x k) (h2 : RReads val zero res w B g A c l a e w') : e = .returned (.tuple #[val x, .int .i64 0]) ∧ RR w' B g A c l (a + k) ∧ w.grownBy w' (some g) := by subst h; exact h2
end

theorem rleft_any {w : World} {B g c a : Nat} {A : Option Addr} {l : List UInt8} (h : RR w B g A c l a) :
    Calls Try.prog 48 #[.pointer (some ⟨g, 0, none⟩)] w fun e w' => e = .returned (.int .i64 ((l.length - a : Nat) : Int)) ∧ ∃ n, w.drewN n = w' := by
  have c1 := h.c1
  have c0 := h.c0
  have h1 := h.le
  have h2 := h.len
  go_enter Try.func48, Try.ntmps48
  go_wp2_with (go_quiet (fail))
  go_ret
  exact ⟨ret_i64 (by omega), nq, rfl⟩

namespace Wire
theorem numGo_bad {b : UInt8} {r : List UInt8} {f : Bool} {N k : Nat} (h : (f = true ∧ b.toNat = 128) ∨ 144115188075855871 < N) : numGo (b :: r) f N k = .err 111 := by
  rw [numGo, if_pos]
  rcases h with ⟨rfl, hb⟩ | h
  · have : b = 128 := UInt8.toNat_inj.1 hb
    subst this
    rfl
  · simp; right; omega
theorem numGo_fine {b : UInt8} {r : List UInt8} {f : Bool} {N k : Nat} (h1 : ¬ (f = true ∧ b.toNat = 128)) (h2 : N ≤ 144115188075855871) :
    numGo (b :: r) f N k = if b.toNat < 128 then .ok (N * 128 + b.toNat % 128) (k + 1) else numGo r false (N * 128 + b.toNat % 128) (k + 1) := by
  rw [numGo, if_neg]
  · have e : (b < 128) = (b.toNat < 128) := by rw [UInt8.lt_iff_toNat_lt]; rfl
    simp only [e]
  · intro h
    rw [Bool.or_eq_true] at h
    rcases h with h | h
    · rw [Bool.and_eq_true, beq_iff_eq] at h
      obtain ⟨h, rfl⟩ := h
      exact h1 ⟨h, rfl⟩
    · simp at h
      omega
end Wire

set_option maxRecDepth 100000 in
set_option maxHeartbeats 1000000 in
theorem rnumber_any {w : World} {B g c a : Nat} {A : Option Addr} {l : List UInt8} (h : RR w B g A c l a) :
    Calls Try.prog 73 #[.pointer (some ⟨g, 0, none⟩)] w (RReads (fun n : Nat => .int .u64 (n : Int)) (.int .u64 0) (Wire.num (l.drop a)) w B g A c l a) := by
  have c1 := h.c1
  have c0 := h.c0
  have f1 := h.f1
  have h1 := h.le
  have h2 := h.len
  have Hh := Lib.hid h
  go_enter Try.func73, Try.ntmps73
  go_wp2
  go_loopg [4, 5] (l.length - a) (fun k n i wr => ∃ (N j : Nat), i = .int .i64 (j : Int) ∧ n = .int .u64 (N : Int) ∧ j + k = l.length ∧ a ≤ j ∧ N < 18446744073709551616 ∧ wr = w ∧
    Hid (Wire.num (l.drop a) = Wire.numGo (l.drop j) (decide (j = a)) N (j - a)))
  case atStart => exact ⟨0, a, rfl, rfl, by omega, by omega, by decide, rfl, by show _ = _; rw [Nat.sub_self, decide_eq_true rfl]; rfl⟩
  case round =>
    obtain ⟨N, j, rfl, rfl, hj, haj, hN, rfl, hs⟩ := hrel
    have Hj := Lib.hid hj
    clear h
    by_cases hlt : j < l.length
    · obtain ⟨ad, rfl, hb⟩ := Hh.out.bytes (by omega)
      have cb := hb j hlt
      unfold bv at cb
      have hcons := List.drop_eq_getElem_cons hlt
      rw [hcons] at hs
      have hb256 := (l[j]).toNat_lt
      generalize l[j] = b at *
      have hj2 : (j : Int) < (l.length : Int) := by omega
      clear hb hcons hj
      by_cases hN2 : 144115188075855871 < N
      · have Hs := Lib.hid (hs.out.trans (Wire.numGo_bad (.inr hN2)))
        clear hs
        by_cases he : j = a
        · subst he
          by_cases hb128 : b.toNat = 128
          · have hbb : ((b.toNat : Int) == 128) = true := by simp; omega
            clear hb128
            go_wp2
            go_ret2
            exact rreads_err Hs.out ⟨rfl, Hh.out, World.grownBy.refl _ _⟩
          · have hbb : ((b.toNat : Int) == 128) = false := by simp; omega
            clear hb128
            go_wp2
            go_ret2
            exact rreads_err Hs.out ⟨rfl, Hh.out, World.grownBy.refl _ _⟩
        · have hee : ((j : Int) == (a : Int)) = false := by simp; omega
          clear he
          go_wp2
          go_ret2
          exact rreads_err Hs.out ⟨rfl, Hh.out, World.grownBy.refl _ _⟩
      · by_cases hf : j = a ∧ b.toNat = 128
        · obtain ⟨rfl, hb128⟩ := hf
          have Hs := Lib.hid (hs.out.trans (Wire.numGo_bad (.inl ⟨by simp, hb128⟩)))
          have hbb : ((b.toNat : Int) == 128) = true := by simp; omega
          clear hs hb128
          go_wp2
          go_ret2
          exact rreads_err Hs.out ⟨rfl, Hh.out, World.grownBy.refl _ _⟩
        · have Hs := Lib.hid (hs.out.trans (Wire.numGo_fine (fun ⟨x, y⟩ => hf ⟨by simpa using x, y⟩) (by omega)))
          have hN3 : N ≤ 144115188075855871 := by omega
          have Hf := Lib.hid hf
          have hg : (((j : Int) == (a : Int)) = true ∧ ((b.toNat : Int) == 128) = false) ∨ ((j : Int) == (a : Int)) = false := by
            by_cases he : j = a
            · left; subst he; simp; omega
            · right; simp; omega
          clear hs hN2 hf
          by_cases hb8 : b.toNat < 128
          · have Hs2 := Lib.hid (Hs.out.trans (if_pos hb8))
            rcases hg with ⟨g1, g2⟩ | g1
            all_goals
              go_wp2
              go_ret2
              refine rreads_ok Hs2.out ⟨congrArg (fun z : Int => Ending.returned (.tuple #[.int .u64 z, .int .i64 0])) (by omega), ?_, only_setCell (World.grownBy.refl _ _) (.inl rfl) _⟩
              have := Hh.out.go (j + 1) (by omega)
              rw [show a + (j - a + 1) = j + 1 by omega]
              exact this
          · have Hs2 := Lib.hid (Hs.out.trans (if_neg hb8))
            rcases hg with ⟨g1, g2⟩ | g1
            all_goals
              go_wp2
              go_roundg (l.length - (j + 1))
              case measure => have := Hj.out; omega
              case rel =>
                refine ⟨N * 128 + b.toNat % 128, j + 1, by go_num, congrArg (Value.int .u64) (by omega), by omega, by omega, by omega, rfl, ?_⟩
                show _ = _
                rw [Hs2.out, show j + 1 - a = j - a + 1 by omega, decide_eq_false (by omega)]
    · have he : j = l.length := by omega
      subst he
      have Hs := Lib.hid (hs.out.trans (show _ = Wire.Res.err 110 by rw [List.drop_length]; rfl))
      clear hs hj
      go_wp2
      go_ret2
      exact rreads_err Hs.out ⟨rfl, Hh.out, World.grownBy.refl _ _⟩
end Go.Proofs.Ytgmienlifnpniaa
