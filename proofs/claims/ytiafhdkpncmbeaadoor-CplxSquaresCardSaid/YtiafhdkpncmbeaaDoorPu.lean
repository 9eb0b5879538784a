/- strconv.ParseUint at base 16: sixteen hexadecimal digits. -/
import Derived.Test.YtiafhdkpncmbeaaDoorC1
import Derived.Lib.Strings
import Derived.Lib.Walk
import Derived.Lib.ConvBytes
import Derived.Lib.AtoiAllMem
import Derived.Lib.Hide
import Derived.Laws.Strings3
import Derived.WalkKit
import Derived.BigCall
import Derived.BigGuard
namespace Go.Proofs.YtiafhdkpncmbeaaDoor
open Go.RowKit

namespace Hex
/-- a hexadecimal digit, small letters alone -/
def Is (c : UInt8) : Prop := 48 ≤ c.toNat ∧ c.toNat ≤ 57 ∨ 97 ≤ c.toNat ∧ c.toNat ≤ 102
def dig (c : UInt8) : Nat := if c.toNat ≤ 57 then c.toNat - 48 else c.toNat - 97 + 10
/-- the number of digits behind a number -/
def num (n : Nat) (l : List UInt8) : Nat := l.foldl (fun n c => n * 16 + dig c) n
theorem dig_lt {c : UInt8} (h : Is c) : dig c < 16 := by unfold dig; rcases h with h | h <;> split <;> omega
end Hex

set_option maxRecDepth 100000 in
theorem lower_any (c : Int) (w : World) : Calls Tryd.prog 38 #[.int .u8 c] w fun e w' => e = .returned (.int .u8 (bits .or .u8 c 32)) ∧ w = w' := by
  go_enter Tryd.func38, Tryd.ntmps38
  go_wp2
  go_ret
  exact ⟨rfl, rfl⟩

theorem or32 {c : Nat} (h1 : 97 ≤ c) (h2 : c ≤ 102) : bits .or .u8 (c : Int) 32 = (c : Int) := by
  have : c = 97 ∨ c = 98 ∨ c = 99 ∨ c = 100 ∨ c = 101 ∨ c = 102 := by omega
  rcases this with h | h | h | h | h | h <;> subst h <;> decide

set_option maxHeartbeats 4000000 in
set_option maxRecDepth 100000 in
theorem parseUint_16 (t : ByteArray) (bs : List UInt8) (hbs : t.data.toList = bs) (hlen : t.size = 16) (hhex : ∀ c ∈ bs, Hex.Is c) (z : Int) (hz : z = (Hex.num 0 bs : Nat)) (w : World) :
    Calls Tryd.prog 34 #[.string t, .int .i64 16, .int .i64 64] w fun e w' => e = .returned (.tuple #[.int .u64 z, .nilIface]) ∧ w' = Lib.bytesWorld w 5 t := by
  have hemp : t.toList.isEmpty = false := by
    rw [← decide_eq_emptyBytes]
    exact decide_eq_false (fun h => absurd hlen (by rw [h]; decide))
  have hcv := Lib.run_convert_string_bytes (P := Tryd.prog) w 9 64 5 t (u := .string) Tryd.underlying9 Tryd.underlying64 Tryd.underlying5
  have hB : ∀ j, j < t.size → (Lib.bytesWorld w 5 t).cell? ⟨w.heap.size, j, none⟩ = some (.int .u8 (t.data.toList.getD j 0).toNat) := fun j hj => Lib.bytesWorld_cell w 5 t j hj
  obtain ⟨W1, hW1⟩ : ∃ W1, W1 = Lib.bytesWorld w 5 t := ⟨_, rfl⟩
  rw [← hW1] at hcv hB ⊢
  clear hW1
  have hLn : bs.length = 16 := by rw [← hbs, ← Lib.size_eq]; exact hlen
  rw [hbs] at hB
  rw [hlen] at hB hcv
  have Hz := Lib.hid hz
  have Hx := Lib.hid hhex
  have Hl := Lib.hid hLn
  have HB := Lib.hid hB
  clear hbs hlen hz hhex hLn hB
  have hmv : IntKind.u64.wrap (IntKind.u64.wrap 18446744073709551616 - 1) = 18446744073709551615 := by
    rw [IntKind.wrap_u64, IntKind.wrap_u64]
    decide
  have HL := lower_any
  go_enter Tryd.func34, Tryd.ntmps34
  go_wp2
  go_loop [12, 13, 101] (fun vu vn vi => ∃ (k acc : Nat) (a : Int), vu = .bool false ∧ vn = .int .u64 a ∧ vi = .int .i64 k ∧ k ≤ 16 ∧ Hid (a = (acc : Int) ∧ acc < 16 ^ k ∧ Hex.num 0 bs = Hex.num acc (bs.drop k)))
    (fun _ _ vi => 16 - (intOf vi).toNat)
  case atStart => exact ⟨0, 0, 0, rfl, rfl, rfl, by omega, rfl, by decide, rfl⟩
  case round =>
    obtain ⟨k, acc, a, rfl, rfl, rfl, hk, hh⟩ := hrel
    obtain ⟨ha, hacc, hdec⟩ := hh.out
    clear hh
    by_cases hkn : k < 16
    · have hc := HB.out k hkn
      have hkl : k < bs.length := by rw [Hl.out]; exact hkn
      have hdrop : bs.drop k = bs[k] :: bs.drop (k + 1) := List.drop_eq_getElem_cons hkl
      have hget : bs.getD k 0 = bs[k] := by simp [List.getD, List.getElem?_eq_getElem hkl]
      have hix := Hx.out bs[k] (List.getElem_mem hkl)
      rw [hdrop] at hdec
      rw [hget] at hc
      generalize bs[k] = c at hc hdec hix
      have hc256 : c.toNat < 256 := c.toNat_lt
      have hdl := Hex.dig_lt hix
      have hpow : (16 : Nat) ^ k ≤ 16 ^ 15 := Nat.pow_le_pow_right (by decide) (by omega)
      have hp15 : (16 : Nat) ^ 15 = 1152921504606846976 := by decide
      have hps : (16 : Nat) ^ (k + 1) = 16 * 16 ^ k := by rw [Nat.pow_succ, Nat.mul_comm]
      have a0 : 0 ≤ a := by omega
      have icut : a < 1152921504606846976 := by omega
      have HN : Hid (a * 16 + (Hex.dig c : Int) = ((acc * 16 + Hex.dig c : Nat) : Int) ∧ acc * 16 + Hex.dig c < 16 ^ (k + 1) ∧ Hex.num 0 bs = Hex.num (acc * 16 + Hex.dig c) (bs.drop (k + 1))) := Lib.hid ⟨by omega, by omega, hdec.trans rfl⟩
      have Hk : Hid (16 - (k + 1) < 16 - k) := Lib.hid (by omega)
      clear hdrop hget hpow hp15 hps hacc ha hdec
      rcases hix with ⟨d1, d2⟩ | ⟨d1, d2⟩
      · have hdv : (Hex.dig c : Int) = (c.toNat : Int) - 48 := by unfold Hex.dig; rw [if_pos d2]; omega
        rw [hdv] at HN
        clear hdv hdl
        have iov : a * 16 + ((c.toNat : Int) - 48) ≤ 18446744073709551615 := by omega
        go_wp2
        refine ⟨⟨k + 1, _, _, rfl, rfl, (by first | rfl | (congr 1; omega)), by omega, HN⟩, by simp [intOf]; omega⟩
      · have hdv : (Hex.dig c : Int) = (c.toNat : Int) - 97 + 10 := by unfold Hex.dig; rw [if_neg (by omega)]; omega
        rw [hdv] at HN
        clear hdv hdl
        have h32 := or32 d1 d2
        have iov : a * 16 + ((c.toNat : Int) - 97 + 10) ≤ 18446744073709551615 := by omega
        go_wp2_with (go_at_call 38; with_reducible refine (HL _ _).mono ?_; rintro _ _ ⟨rfl, rfl⟩)
        refine ⟨⟨k + 1, _, _, rfl, rfl, (by first | rfl | (congr 1; omega)), by omega, HN⟩, by simp [intOf]; omega⟩
    · have hkk : k = 16 := by omega
      subst hkk
      have hF : Hex.num acc (bs.drop 16) = acc := by rw [List.drop_eq_nil_of_le (by rw [Hl.out]; decide)]; rfl
      have hza : a = z := by rw [Hz.out, hdec, hF]; exact ha
      subst hza
      clear hF ha hacc hdec Hz
      go_wp2
      go_ret2
      exact ⟨rfl, rfl⟩
end Go.Proofs.YtiafhdkpncmbeaaDoor
