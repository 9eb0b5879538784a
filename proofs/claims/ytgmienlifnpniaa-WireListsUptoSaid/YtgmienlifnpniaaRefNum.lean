/- traceryref01.Number writes the form of a number. -/
import Derived.Test.YtgmienlifnpniaaNum
namespace Go.Proofs.Ytgmienlifnpniaa
open Go.RowKit

set_option maxRecDepth 100000 in
set_option maxHeartbeats 400000 in
theorem rnum_any (n : Int) (w : World) (h0 : 0 ≤ n) (h1 : n < 18446744073709551616) :
    Calls Try.prog 12 #[.int .u64 n] w fun e w' => ∃ A n' c, e = .returned (.slice A n' c) ∧ OwnB w' w.heap.size (.slice A n' c) (Wire.form n.toNat) ∧ Below w.heap.size w w' := by
  obtain ⟨N, rfl⟩ := Int.eq_ofNat_of_zero_le h0
  rw [Int.toNat_natCast]
  go_enter Try.func12, Try.ntmps12
  go_wp2
  go_loopg [0, 3] (N / 128) (fun k m b wr => ∃ (D : List UInt8), m = .int .u64 (k : Int) ∧ k < 18446744073709551616 ∧ Hid (Wire.hi k ++ D = Wire.form N) ∧ D.length ≤ 10 ∧ OwnB wr w.heap.size b D ∧ w.heap.size ≤ wr.heap.size ∧ Below w.heap.size w wr)
  case atStart =>
    refine ⟨[UInt8.ofNat (N % 128)], by rw [Int.natCast_ediv]; rfl, by omega, rfl, by simp, OwnB.lit w _ _ _ 1 ?_ rfl (Nat.le_refl _) (by simp), by simp, (Below.refl _ _).alloc (Nat.le_refl _) _⟩
    show [_] = [Value.int _ _]
    rw [Wire.byte_lo]
    rfl
  case round =>
    obtain ⟨D, rfl, hM, hD, hD1, ho, hsz, hbl⟩ := hrel
    by_cases hlt : 0 < gk
    · obtain ⟨A, c, rfl, hc⟩ := ho.form
      have ho2 := ho.reads.alloc (Nat.le_refl _) (.cells #[.int .u8 ((gk : Int) % 128 + 128)] 5)
      have hl : OwnB (wr.alloc (.cells #[.int .u8 ((gk : Int) % 128 + 128)] 5)) w.heap.size (.slice (some ⟨wr.heap.size, 0, none⟩) 1 1) [UInt8.ofNat (gk % 128 + 128)] := by
        refine OwnB.lit wr _ _ _ 1 ?_ rfl hsz (by simp)
        show [_] = [Value.int _ _]
        rw [Wire.byte_hi]
        rfl
      go_wp2_with (at_builtin; refine wpB_append rfl (.tmp 18) (.tmp 19) rfl w.heap.size _ [UInt8.ofNat (gk % 128 + 128)] hl rfl _ _ D ho2 _ _ rfl rfl (by simp; omega) (by rw [World.size_alloc]; omega) ?_; intro A' n' c' w1 ho3 hg _)
      go_roundg (gk / 128)
      case measure => omega
      case rel =>
        have hD2 := Wire.step_hi hlt hD.out
        refine ⟨UInt8.ofNat (gk % 128 + 128) :: D, by rw [Int.natCast_ediv]; rfl, by omega, hD2, ?_, ho3, by have := hg.size; rw [World.size_alloc] at this; omega, (hbl.alloc hsz _).grown hg (by rw [World.size_alloc]; omega) (fun k hk => by have e : wr.heap.size = k := Option.some.inj hk; omega)⟩
        have := Wire.form_len (n := N) (by omega)
        rw [← hD2, List.length_append] at this
        omega
    · have hM0 : gk = 0 := by omega
      subst hM0
      have He : D = Wire.form N := by rw [← hD.out, Wire.hi_zero]; rfl
      subst He
      obtain ⟨A, c, rfl, _⟩ := ho.form
      go_wp2
      go_ret
      exact ⟨_, _, _, rfl, ho, hbl⟩
end Go.Proofs.Ytgmienlifnpniaa
