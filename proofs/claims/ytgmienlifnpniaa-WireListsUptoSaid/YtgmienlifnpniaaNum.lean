/- wire.Number writes the form of a number: new bytes. -/
import Derived.Test.YtgmienlifnpniaaProg
import Derived.Test.YtgmienlifnpniaaBytes
import Derived.Test.YtgmienlifnpniaaForm
import Derived.WalkKit
import Derived.WalkLawsBesides
import Derived.WalkSpells
import Derived.Outline
import Derived.Handy
import Derived.Deep.LoopGhost
namespace Go.Proofs.Ytgmienlifnpniaa
open Go.RowKit

theorem and127 (n : Int) (h0 : 0 ≤ n) (h1 : n < 18446744073709551616) : bits .and .u64 n 127 = n % 128 := by
  rw [u64_and n 127 h0 h1 (by decide) (by decide)]
  have : (127 : Int).toNat = 127 := rfl
  rw [this, nat_mask7]; omega
theorem or128 (M : Nat) (h1 : M < 18446744073709551616) : bits .or .u8 (bits .and .u64 (M : Int) 127 % 256) 128 = ((UInt8.ofNat (M % 128 + 128)).toNat : Int) := by
  rw [and127 _ (by omega) (by omega), u8_or128_right _ (by omega) (by omega), Wire.byte_hi]; omega
theorem lo128 (M : Nat) (h1 : M < 18446744073709551616) : bits .and .u64 (M : Int) 127 % 256 = ((UInt8.ofNat (M % 128)).toNat : Int) := by
  rw [and127 _ (by omega) (by omega), Wire.byte_lo]; omega

/-- a store of one more digit -/
theorem digit_set {cs : Array Value} {k : Nat} {D : List UInt8} (h0 : 1 ≤ k) (h1 : k ≤ 9) (hs : cs.size = 10) (hd : cs.toList.drop k = D.map bv) (b : UInt8) :
    (cs.setIfInBounds (k - 1) (bv b)).size = 10 ∧ (cs.setIfInBounds (k - 1) (bv b)).toList.drop (k - 1) = (b :: D).map bv := by
  refine ⟨by simp [hs], ?_⟩
  rw [Array.toList_setIfInBounds, List.drop_set, if_neg (by omega), Nat.sub_self]
  have hl : k - 1 < cs.toList.length := by simp [hs]; omega
  rw [List.drop_eq_getElem_cons hl, show k - 1 + 1 = k from by omega, hd]
  rfl

set_option maxRecDepth 100000 in
set_option maxHeartbeats 400000 in
theorem num_any (n : Int) (w : World) (h0 : 0 ≤ n) (h1 : n < 18446744073709551616) :
    Calls Try.prog 9 #[.int .u64 n] w fun e w' => ∃ A n' c, e = .returned (.slice A n' c) ∧ OwnB w' w.heap.size (.slice A n' c) (Wire.form n.toNat) ∧ Below w.heap.size w w' := by
  obtain ⟨N, rfl⟩ := Int.eq_ofNat_of_zero_le h0
  rw [Int.toNat_natCast]
  go_enter Try.func9, Try.ntmps9
  go_wp2
  go_loopg [0, 4] 9 (fun j m i wr => ∃ (M : Nat) (D : List UInt8) (cs : Array Value), m = .int .u64 (M : Int) ∧ i = .int .i64 (j : Int) ∧ j ≤ 9 ∧
    M < 18446744073709551616 ∧ Hid (D.length + j = 10 ∧ Wire.hi M ++ D = Wire.form N ∧ M * 128 ^ D.length ≤ N) ∧ Blk wr w.heap.size 101 cs ∧ wr.heap.size = w.heap.size + 1 ∧ Below w.heap.size w wr ∧
    Hid (cs.size = 10 ∧ cs.toList.drop j = D.map bv))
  case atStart =>
    refine ⟨N / 128, [UInt8.ofNat (N % 128)], _, rfl, rfl, by omega, by omega, ⟨rfl, rfl, by simp; omega⟩, Blk.new _ _ _, by simp, (Below.refl _ _).alloc (Nat.le_refl _) _, ?_⟩
    rw [lo128 N (by omega)]
    exact ⟨rfl, rfl⟩
  case round =>
    obtain ⟨M, D, cs, rfl, rfl, hj, hM, hD, hb, hsz, hbl, hcs⟩ := hrel
    by_cases hlt : 0 < M
    · have hj1 : 1 ≤ gk := by
        obtain ⟨e1, e2, e3⟩ := hD.out
        rcases Nat.eq_zero_or_pos gk with h | h
        · subst h
          exfalso
          have e4 : D.length = 10 := by omega
          rw [e4] at e3
          have : (128 : Nat) ^ 10 = 1180591620717411303424 := by decide
          rw [this] at e3
          omega
        · exact h
      have hc : wr.cell? ⟨w.heap.size, gk - 1, none⟩ = cs[gk - 1]? := hb.cell _
      have hc2 : cs[gk - 1]? = some (cs.getD (gk - 1) undef) := by
        have hl : gk - 1 < cs.size := by have := hcs.out.1; omega
        rw [Array.getD_eq_getD_getElem?, Array.getElem?_eq_getElem hl]; rfl
      have hc3 := hc.trans hc2
      clear hc hc2
      have hf := hb.frozen (gk - 1)
      go_wp2
      go_roundg (gk - 1)
      case measure => omega
      case rel =>
        rw [or128 M hM]
        obtain ⟨e1, e2, e3⟩ := hD.out
        obtain ⟨e4, e5⟩ := hcs.out
        refine ⟨M / 128, UInt8.ofNat (M % 128 + 128) :: D, _, by rw [Int.natCast_ediv]; rfl, by go_num, by omega, by omega, ⟨by simp; omega, Wire.step_hi hlt e2, ?_⟩, hb.set_ _ _, by simp [hsz], hbl.setCell (Nat.le_refl _) _, digit_set hj1 hj e4 e5 _⟩
        rw [List.length_cons, Nat.pow_succ, Nat.mul_comm _ 128, ← Nat.mul_assoc]
        exact Nat.le_trans (Nat.mul_le_mul_right _ (Nat.div_mul_le_self M 128)) e3
    · have hM0 : M = 0 := by omega
      subst hM0
      obtain ⟨e1, e2, e3⟩ := hD.out
      obtain ⟨e4, e5⟩ := hcs.out
      have hown : OwnB (wr.alloc (.cells #[] 5)) w.heap.size (.slice (some ⟨wr.heap.size, 0, none⟩) 0 0) [] :=
        World.ownsRow_made wr #[] 0 (by rw [hsz]; omega) (by unfold maxLen; omega) rfl
      have hr : ReadsB (wr.alloc (.cells #[] 5)) (wr.heap.size) (some ⟨w.heap.size, gk, none⟩) D := by
        refine ⟨by simp, fun _ => ⟨_, rfl, by simp [hsz], fun j u hu => ?_⟩⟩
        rw [Addr.add_lit, (hb.alloc _).cell, ← Array.getElem?_toList, ← hu, ← e5, List.getElem?_drop]
      have hsz2 : w.heap.size ≤ wr.heap.size := by omega
      have hsz3 : w.heap.size < wr.heap.size := by omega
      have Hsz := Lib.hid hsz
      have He : D = Wire.form N := by rw [← e2, Wire.hi_zero]; rfl
      subst He
      have hlen : (Wire.form N).length ≤ 10 := by omega
      have hm : 10 - gk = (Wire.form N).length := by omega
      have Hm := Lib.hid hm
      have hg10 : (gk : Int) ≤ 10 := by omega
      have hne : ¬ (10 = gk) := by omega
      clear h0 h1 hM hlt hsz hD hcs e1 e2 e3 e4 e5 hm
      go_wp2_with (at_builtin; refine wpB_append rfl (.tmp 24) (.tmp 26) rfl w.heap.size _ [] hown rfl _ _ (Wire.form N) hr _ _ Hm.out rfl (by simp; omega) (by rw [World.size_alloc]; omega) ?_; intro A' n' c' w1 ho hg _)
      go_ret
      exact ⟨_, _, _, rfl, ho, (hbl.alloc hsz2 _).grown hg (by rw [World.size_alloc]; omega) (fun k hk => by have e : wr.heap.size = k := Option.some.inj hk; omega)⟩
end Go.Proofs.Ytgmienlifnpniaa
