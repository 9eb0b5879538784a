/- (*Reader).Number: the loop within, and the method. -/
import Derived.Test.YtgmienlifnpniaaRd
import Derived.Test.YtgmienlifnpniaaSpec
namespace Go.Proofs.Ytgmienlifnpniaa
open Go.RowKit

/-- what reading leaves: the answer or the error, and the reader -/
def NumIn (w : World) (B g : Nat) (v : Value) (l : List UInt8) (a : Nat) (e : Ending) (w' : World) : Prop :=
  match Wire.num (l.drop a) with
  | .err c => ∃ a', e = .returned (.tuple #[.int .u64 0, .int .i64 (c : Int)]) ∧ Rd w' B g v l a' ∧ w.grownBy w' (some g)
  | .ok n k => e = .returned (.tuple #[.int .u64 (n : Int), .int .i64 0]) ∧ Rd w' B g v l (a + k) ∧ w.grownBy w' (some g)

theorem numIn_err {w : World} {B g : Nat} {v : Value} {l : List UInt8} {a : Nat} {e : Ending} {w' : World} {c : Nat} (h : Wire.num (l.drop a) = .err c)
    (h2 : ∃ a', e = .returned (.tuple #[.int .u64 0, .int .i64 (c : Int)]) ∧ Rd w' B g v l a' ∧ w.grownBy w' (some g)) : NumIn w B g v l a e w' := by
  unfold NumIn; rw [h]; exact h2
theorem numIn_ok {w : World} {B g : Nat} {v : Value} {l : List UInt8} {a : Nat} {e : Ending} {w' : World} {n k : Nat} (h : Wire.num (l.drop a) = .ok n k)
    (h2 : e = .returned (.tuple #[.int .u64 (n : Int), .int .i64 0]) ∧ Rd w' B g v l (a + k) ∧ w.grownBy w' (some g)) : NumIn w B g v l a e w' := by
  unfold NumIn; rw [h]; exact h2

theorem nz (N : Nat) : ((N : Int) / 144115188075855872 != 0) = (N / 144115188075855872 != 0) := by
  rw [Bool.eq_iff_iff]; simp; omega
theorem dig_or (N : Nat) (b : UInt8) (h : N / 144115188075855872 = 0) : bits .or .u64 (IntKind.u64.wrap ((N : Int) * 128)) (IntKind.u64.wrap (bits .and .u8 (b.toNat : Int) 127)) = ((N * 128 + b.toNat % 128 : Nat) : Int) := by
  have hb := b.toNat_lt
  have e1 : bits .and .u8 (b.toNat : Int) 127 = ((b.toNat % 128 : Nat) : Int) := by
    rw [show (127 : Int) = ((127 : Nat) : Int) from rfl, u8_and_nat _ _ (by omega) (by omega), nat_mask7]
  rw [e1, IntKind.wrap_u64, IntKind.wrap_u64, show ((N : Int) * 128) % 18446744073709551616 = ((N * 128 : Nat) : Int) from by omega,
    show ((b.toNat % 128 : Nat) : Int) % 18446744073709551616 = ((b.toNat % 128 : Nat) : Int) from by omega, u64_or_nat _ _ (by omega) (by omega), nat_join 7 _ _ (by omega) (by omega)]
theorem numGo_111 {b : UInt8} {r : List UInt8} {f : Bool} {N k : Nat} (h : (f && b == 128 || N / 144115188075855872 != 0) = true) : Wire.numGo (b :: r) f N k = .err 111 := by
  simp only [Wire.numGo, h, if_true]
theorem numGo_done {b : UInt8} {r : List UInt8} {f : Bool} {N k : Nat} (h : (f && b == 128 || N / 144115188075855872 != 0) = false) (hb : (b.toNat : Int) < 128) : Wire.numGo (b :: r) f N k = .ok (N * 128 + b.toNat % 128) (k + 1) := by
  have hb2 : b < 128 := by rw [UInt8.lt_iff_toNat_lt]; show b.toNat < 128; omega
  simp only [Wire.numGo, h, hb2, if_true]
  rfl
theorem numGo_on {b : UInt8} {r : List UInt8} {f : Bool} {N k : Nat} (h : (f && b == 128 || N / 144115188075855872 != 0) = false) (hb : 128 ≤ (b.toNat : Int)) : Wire.numGo (b :: r) f N k = Wire.numGo r false (N * 128 + b.toNat % 128) (k + 1) := by
  have hb2 : ¬ b < 128 := by rw [UInt8.lt_iff_toNat_lt]; show ¬ b.toNat < 128; omega
  simp only [Wire.numGo, h, hb2, if_false]
  rfl

set_option maxRecDepth 100000 in
set_option maxHeartbeats 1000000 in
theorem num1_any {w : World} {B g bx : Nat} {v : Value} {l : List UInt8} {a : Nat} (h : Rd w B g v l a) (hbx : Blk w bx 61 #[.pointer (some ⟨g, 0, none⟩)]) :
    Calls Try.prog 64 #[.pointer (some ⟨bx, 0, none⟩)] w (NumIn w B g v l a) := by
  go_enter Try.func64, Try.ntmps64
  go_wp2
  go_step3
  go_wp2
  go_step3
  go_wp2
  go_loopg [3, 4] (l.length - a) (fun j n f wr => ∃ (k N : Nat) (fst : Bool), n = .int .u64 (N : Int) ∧ f = .bool fst ∧ j = l.length - (a + k) ∧ N < 18446744073709551616 ∧
    Rd wr B g v l (a + k) ∧ Blk wr bx 61 #[.pointer (some ⟨g, 0, none⟩)] ∧ w.grownBy wr (some g) ∧ Hid (Wire.num (l.drop a) = Wire.numGo (l.drop (a + k)) fst N k))
  case atStart => exact ⟨0, 0, true, rfl, rfl, rfl, by omega, h, hbx, World.grownBy.refl w _, rfl⟩
  case round =>
    obtain ⟨k, N, fst, rfl, rfl, hj, hN, hr, hb, hg, hs⟩ := hrel
    have Hj := Lib.hid hj
    clear hj
    have Hr := Lib.hid hr
    obtain ⟨bb, c, rfl, hc1, hc2, hc3, hc4, hcell⟩ := hr.form
    unfold maxLen at hc2
    have c0 := hr.c0
    have c1 := hr.c1
    have f1 := hr.f1
    have hle := hr.le
    have hx := hb.cell 0
    by_cases hend : a + k = l.length
    · have hs2 : Wire.num (l.drop a) = .err 110 := by
        rw [hs.out, List.drop_of_length_le (by omega)]; rfl
      have Hs2 := Lib.hid hs2
      have Hend := Lib.hid hend
      have hend2 : ((a + k : Nat) : Int) = (l.length : Int) := by omega
      clear hs2 hr h hs hcell hend
      go_wp2_with (go_quiet (fail))
      rw [Exit.noGoto_ret]
      go_ret2
      exact numIn_err Hs2.out ⟨_, rfl, Hr.out.drewN _, only_drewN hg _⟩
    · have hlt : a + k < l.length := by omega
      have hne : ¬ (((a + k : Nat) : Int) = (l.length : Int)) := by omega
      have hb1 : (((a + k : Nat) : Int) == (l.length : Int)) = false := by simpa using hne
      obtain ⟨b, hbv⟩ : ∃ b : UInt8, l[a + k]'hlt = b := ⟨_, rfl⟩
      have cb : wr.cell? ⟨bb, a + k, none⟩ = some (.int .u8 (b.toNat : Int)) := by rw [hcell (a + k) hlt, hbv]; rfl
      have hb256 : (b.toNat : Int) < 256 := by have := b.toNat_lt; omega
      have hgo : Wire.num (l.drop a) = Wire.numGo (b :: l.drop (a + k + 1)) fst N k := by
        rw [hs.out, List.drop_eq_getElem_cons hlt, hbv]
      have Hgo := Lib.hid hgo
      have Hlt := Lib.hid hlt
      clear hgo hbv hs hr h hcell hend hne
      have hbg : bx ≠ g := hb.ne_ Hr.out.blk (by decide)
      have Hbg := Lib.hid hbg
      clear hbg
      by_cases hq : (fst && b == 128) = true
      · have h1 : fst = true := by
          revert hq; cases fst <;> simp
        have h2 : b = 128 := by
          revert hq; cases fst <;> simp
        subst h1 h2
        go_wp2_with (go_quiet (fail))
        rw [Exit.noGoto_ret]
        go_ret2
        exact numIn_err (Hgo.out.trans (numGo_111 (by simp))) ⟨_, rfl, Hr.out.drewN _, only_drewN hg _⟩
      have Hq := Lib.hid (show (fst && b == 128) = false by simpa using hq)
      cases fst
      · clear hq
        go_wp2_with (go_quiet (fail))
        · have ht : ((N : Int) / 144115188075855872 != 0) = true := by assumption
          rw [Exit.noGoto_ret]
          go_ret2
          rw [nz] at ht
          exact numIn_err (Hgo.out.trans (numGo_111 (by simp [ht]))) ⟨_, rfl, Hr.out.drewN _, only_drewN hg _⟩
        · have ht : ((N : Int) / 144115188075855872 != 0) = false := by assumption
          have hlo : (b.toNat : Int) < 128 := by assumption
          rw [nz] at ht
          rw [dig_or N b (by simpa using ht)]
          rw [Exit.noGoto_ret]
          go_ret2
          refine numIn_ok (Hgo.out.trans (numGo_done (by rw [Hq.out, ht]; rfl) hlo)) ⟨rfl, ?_, ?_⟩
          · rw [show ((a : Int) + k + 1) = ((a + k + 1 : Nat) : Int) from by omega]
            exact ((Hr.out.drewN _).go (a + k + 1) Hlt.out)
          · exact only_setCell (p := ⟨g, 1, none⟩) (only_drewN hg _) (.inl rfl) _
        · have ht : ((N : Int) / 144115188075855872 != 0) = false := by assumption
          have hhi : 128 ≤ (b.toNat : Int) := by assumption
          rw [nz] at ht
          rw [dig_or N b (by simpa using ht)]
          go_roundg (l.length - (a + (k + 1)))
          case measure => have := Hj.out; have := Hlt.out; omega
          case rel =>
            have hN0 : N / 144115188075855872 = 0 := by simpa using ht
            rw [show ((a : Int) + k + 1) = ((a + k + 1 : Nat) : Int) from by omega]
            refine ⟨k + 1, _, false, rfl, rfl, rfl, by omega, ((Hr.out.drewN _).go (a + k + 1) Hlt.out), (hb.drewN _).far (p := ⟨g, 1, none⟩) Hbg.out _, only_setCell (p := ⟨g, 1, none⟩) (only_drewN hg _) (.inl rfl) _, ?_⟩
            have e := Hgo.out.trans (numGo_on (by rw [Hq.out, ht]; rfl) hhi)
            exact e
      · have hb128 : ((b.toNat : Int) == 128) = false := by
          have h1 := Hq.out
          simp only [Bool.true_and, beq_eq_false_iff_ne] at h1 ⊢
          intro h2
          apply h1
          have h3 : b.toNat = 128 := by omega
          exact UInt8.toNat_inj.1 h3
        clear hq
        go_wp2_with (go_quiet (fail))
        · have ht : ((N : Int) / 144115188075855872 != 0) = true := by assumption
          rw [Exit.noGoto_ret]
          go_ret2
          rw [nz] at ht
          exact numIn_err (Hgo.out.trans (numGo_111 (by simp [ht]))) ⟨_, rfl, Hr.out.drewN _, only_drewN hg _⟩
        · have ht : ((N : Int) / 144115188075855872 != 0) = false := by assumption
          have hlo : (b.toNat : Int) < 128 := by assumption
          rw [nz] at ht
          rw [dig_or N b (by simpa using ht)]
          rw [Exit.noGoto_ret]
          go_ret2
          refine numIn_ok (Hgo.out.trans (numGo_done (by rw [Hq.out, ht]; rfl) hlo)) ⟨rfl, ?_, ?_⟩
          · rw [show ((a : Int) + k + 1) = ((a + k + 1 : Nat) : Int) from by omega]
            exact ((Hr.out.drewN _).go (a + k + 1) Hlt.out)
          · exact only_setCell (p := ⟨g, 1, none⟩) (only_drewN hg _) (.inl rfl) _
        · have ht : ((N : Int) / 144115188075855872 != 0) = false := by assumption
          have hhi : 128 ≤ (b.toNat : Int) := by assumption
          rw [nz] at ht
          rw [dig_or N b (by simpa using ht)]
          go_roundg (l.length - (a + (k + 1)))
          case measure => have := Hj.out; have := Hlt.out; omega
          case rel =>
            have hN0 : N / 144115188075855872 = 0 := by simpa using ht
            rw [show ((a : Int) + k + 1) = ((a + k + 1 : Nat) : Int) from by omega]
            refine ⟨k + 1, _, false, rfl, rfl, rfl, by omega, ((Hr.out.drewN _).go (a + k + 1) Hlt.out), (hb.drewN _).far (p := ⟨g, 1, none⟩) Hbg.out _, only_setCell (p := ⟨g, 1, none⟩) (only_drewN hg _) (.inl rfl) _, ?_⟩
            have e := Hgo.out.trans (numGo_on (by rw [Hq.out, ht]; rfl) hhi)
            exact e
end Go.Proofs.Ytgmienlifnpniaa
