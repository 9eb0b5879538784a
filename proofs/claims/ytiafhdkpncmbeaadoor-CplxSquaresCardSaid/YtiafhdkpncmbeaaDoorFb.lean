/- strconv.FormatUint at base 16. -/
import Derived.Test.YtiafhdkpncmbeaaDoorC1
import Derived.Lib.SlBytesRow
import Derived.Lib.LaidTab
import Derived.Lib.TrailingZeros
import Derived.Deep.LoopGhost
namespace Go.Proofs.YtiafhdkpncmbeaaDoor
open Go.RowKit

namespace Hex
/-- the digits of the base, by their bytes -/
def byteOf (n : Nat) : Nat := if n < 10 then 48 + n else 87 + n
/-- a number's digits -/
def text (n : Nat) : List Nat := if _h : n < 16 then [byteOf n] else text (n / 16) ++ [byteOf (n % 16)]
termination_by n
decreasing_by omega
theorem text_lt {n : Nat} (h : n < 16) : text n = [byteOf n] := by rw [text, dif_pos h]
theorem text_ge {n : Nat} (h : ¬ n < 16) : text n = text (n / 16) ++ [byteOf (n % 16)] := by rw [text, dif_neg h]
theorem byteOf_lt (n : Nat) (h : n < 16) : byteOf n < 256 := by unfold byteOf; split <;> omega
/-- bytes that lie in a block -/
def cells (L : List Nat) : Array Value := (L.map fun (n : Nat) => Value.int .u8 (n : Int)).toArray
theorem cells_get (L : List Nat) (i : Nat) : (cells L)[i]? = (L[i]?).map (fun (n : Nat) => Value.int .u8 (n : Int)) := by simp [cells]
theorem cells_set (L : List Nat) (i n : Nat) : (cells L).setIfInBounds i (.int .u8 (n : Int)) = cells (L.set i n) := by
  apply Array.ext_getElem?
  intro j
  rw [Array.getElem?_setIfInBounds, cells_get, cells_get]
  simp only [cells, List.size_toArray, List.length_map, List.getElem?_set]
  by_cases h : i = j
  · subst h
    by_cases hl : i < L.length <;> simp [hl]
  · simp [h]
def bytes (L : List Nat) : ByteArray := ⟨(L.map UInt8.ofNat).toArray⟩
theorem bytes_size (L : List Nat) : (bytes L).size = L.length := by simp [bytes, ByteArray.size]
end Hex

theorem Hex.text_small (n : Nat) : ∀ x ∈ Hex.text n, x < 256 := by
  induction n using Nat.strongRecOn with
  | ind n ih =>
    by_cases h : n < 16
    · rw [Hex.text_lt h]
      intro x hx
      simp only [List.mem_singleton] at hx
      rw [hx]; exact Hex.byteOf_lt n h
    · rw [Hex.text_ge h]
      intro x hx
      rcases List.mem_append.mp hx with h1 | h1
      · exact ih (n / 16) (by omega) x h1
      · simp only [List.mem_singleton] at h1
        rw [h1]; exact Hex.byteOf_lt _ (Nat.mod_lt _ (by decide))

theorem slice65 (b i : Nat) (hi : i ≤ 64) (w : World) : (Instr.sliceAt 83 (.pointer (some ⟨b, 0, none⟩)) (some (.int .i64 (i : Int))) none none).run Tryd.prog w = .ok (.slice (some ⟨b, i, none⟩) (65 - i) (65 - i)) w := by
  have e1 : Tryd.prog.arrayLen 83 = 65 := by kernel_rfl
  have e2 : Tryd.prog.elem 83 = 5 := by kernel_rfl
  have e3 : (sizeOf 5).run Tryd.prog w = .ok 1 w := by kernel_rfl
  rw [run_sliceAt_array_l w 83 ⟨b, 0, none⟩ (by kernel_rfl) .i64 i (by omega) (by rw [e1]; omega), e1, e2, e3]
  have e4 : (i : Int).toNat = i := by omega
  show Result.ok (slicedAt ⟨b, 0, none⟩ (i : Int).toNat 65 65 1) w = _
  rw [e4]
  unfold slicedAt
  rw [if_neg (by omega)]
  unfold Addr.add
  by_cases h0 : i = 0
  · subst h0; rfl
  · rw [Nat.mul_one, if_neg h0]; simp

/-- a block's rest reads as a text -/
theorem read_rest {w : World} {b i : Nat} {L T : List Nat} (hb : Blk w b 83 (Hex.cells L)) (hT : L.drop i = T) (hs : ∀ x ∈ T, x < 256) : Lib.Bytes w b i (Hex.bytes T) := by
  intro j hj
  rw [Hex.bytes_size] at hj
  rw [hb.cell, Hex.cells_get]
  have h1 : L[i + j]? = some T[j] := by
    rw [← List.getElem?_drop, hT, List.getElem?_eq_getElem hj]
  rw [h1]
  have h2 : (Hex.bytes T)[j]'(by rw [Hex.bytes_size]; exact hj) = UInt8.ofNat T[j] := by
    show (Hex.bytes T).data[j]'_ = _
    simp [Hex.bytes]
  rw [h2]
  have h3 := hs T[j] (List.getElem_mem hj)
  have h4 : (UInt8.ofNat T[j]).toNat = T[j] := by simp; omega
  rw [h4]; rfl

theorem drop_set_at {L : List Nat} {i x : Nat} (h : i < L.length) : (L.set i x).drop i = x :: L.drop (i + 1) := by
  rw [List.drop_eq_getElem_cons (by rw [List.length_set]; exact h), List.getElem_set_self]
  congr 1
  apply List.ext_getElem?
  intro j
  rw [List.getElem?_drop, List.getElem?_drop, List.getElem?_set_ne (by omega)]

/-- the block of deBruijn64tab: what it holds for 16 -/
def Tz (B : Nat) (w : World) : Prop := ∀ w', Below B w w' → w'.cell? ⟨5, 15, none⟩ = some (.int .u8 4)
theorem Tz.here {B : Nat} {w : World} (h : Tz B w) : w.cell? ⟨5, 15, none⟩ = some (.int .u8 4) := h w (Below.refl _ _)
theorem Tz.on {B : Nat} {w w' : World} (h : Tz B w) (hb : Below B w w') : Tz B w' := fun w2 h2 => h w2 (hb.trans h2)

set_option maxRecDepth 100000 in
theorem tz64 {w : World} {B : Nat} (h : Tz B w) : Calls Tryd.prog 58 #[.int .u64 16] w fun e w' => e = .returned (.int .i64 4) ∧ w = w' := by
  have hc := h.here
  clear h
  have h1 : IntKind.u64.wrap (-16) = 18446744073709551600 := by decide
  have h2 : bits .and .u64 16 18446744073709551600 = 16 := by decide
  have h3 : IntKind.u64.wrap (16 * 285870213051353865) = 4573923408821661840 := by decide
  go_enter Tryd.func58, Tryd.ntmps58
  go_wp2
  go_ret
  exact ⟨rfl, rfl⟩
set_option maxRecDepth 100000 in
theorem tz16 {w : World} {B : Nat} (h : Tz B w) : Calls Tryd.prog 55 #[.int .u64 16] w fun e w' => e = .returned (.int .i64 4) ∧ w = w' := by
  have H := Lib.hid (tz64 h)
  clear h
  go_enter Tryd.func55, Tryd.ntmps55
  go_wp2_with (go_at_call 58; with_reducible refine H.out.mono ?_; rintro _ _ ⟨rfl, rfl⟩)
  go_ret
  exact ⟨rfl, rfl⟩
set_option maxRecDepth 100000 in
theorem pow16 (w : World) : Calls Tryd.prog 54 #[.int .i64 16] w fun e w' => e = .returned (.bool true) ∧ w = w' := by
  go_enter Tryd.func54, Tryd.ntmps54
  go_wp2
  go_ret
  exact ⟨rfl, rfl⟩

/-- the digits, as they stand in the text -/
def hexs : ByteArray := { data := #[48, 49, 50, 51, 52, 53, 54, 55, 56, 57, 97, 98, 99, 100, 101, 102, 103, 104, 105, 106, 107, 108, 109, 110, 111, 112, 113, 114, 115, 116, 117, 118, 119, 120, 121, 122] }
theorem hexs_at (m : Nat) (hm : m < 16) (w : World) : (Instr.index 9 (.string { data := #[48, 49, 50, 51, 52, 53, 54, 55, 56, 57, 97, 98, 99, 100, 101, 102, 103, 104, 105, 106, 107, 108, 109, 110, 111, 112, 113, 114, 115, 116, 117, 118, 119, 120, 121, 122] }) (.int .u64 (m : Int))).run Tryd.prog w = .ok (.int .u8 (Hex.byteOf m : Int)) w := by
  rw [run_index_string w 9 _ .u64 m Tryd.underlying9]
  have hs : ({ data := #[48, 49, 50, 51, 52, 53, 54, 55, 56, 57, 97, 98, 99, 100, 101, 102, 103, 104, 105, 106, 107, 108, 109, 110, 111, 112, 113, 114, 115, 116, 117, 118, 119, 120, 121, 122] } : ByteArray).size = 36 := by decide
  rw [dif_pos ⟨by omega, by rw [hs]; omega⟩]
  have hv : m = 0 ∨ m = 1 ∨ m = 2 ∨ m = 3 ∨ m = 4 ∨ m = 5 ∨ m = 6 ∨ m = 7 ∨ m = 8 ∨ m = 9 ∨ m = 10 ∨ m = 11 ∨ m = 12 ∨ m = 13 ∨ m = 14 ∨ m = 15 := by omega
  rcases hv with h | h | h | h | h | h | h | h | h | h | h | h | h | h | h | h <;> subst h <;> rfl

theorem and15 (u : Nat) (h : u < 18446744073709551616) : bits .and .u64 (u : Int) 15 = ((u % 16 : Nat) : Int) := by
  have h1 := u64_and_nat u 15 h (by decide)
  rw [nat_mask4] at h1
  exact h1

set_option maxRecDepth 100000 in
set_option maxHeartbeats 2000000 in
theorem formatBits_16 {w : World} {B u0 : Nat} (ht : Tz B w) (hB : B ≤ w.heap.size) (hu : u0 < 18446744073709551616) :
    Calls Tryd.prog 47 #[.slice none 0 0, .int .u64 (u0 : Int), .int .i64 16, .bool false, .bool false] w fun e w' => e = .returned (.tuple #[.slice none 0 0, .string (Hex.bytes (Hex.text u0))]) ∧ Below w.heap.size w w' := by
  have H1 := pow16
  have H2 := Lib.hid (fun (W : World) (h : Tz B W) => tz16 h)
  have Hu := Lib.hid hu
  have HB := Lib.hid hB
  clear hu hB
  go_enter Tryd.func47, Tryd.ntmps47
  go_wp2_with (first | (go_at_call 54; with_reducible refine (H1 _).mono ?_; rintro _ _ ⟨rfl, rfl⟩) | (go_at_call 55; with_reducible refine (H2.out _ (ht.on (((Below.refl _ _).alloc HB.out _)))).mono ?_; rintro _ _ ⟨rfl, rfl⟩))
  go_loopg [1, 13] 65 (fun k ux iv wr => ∃ (j u : Nat) (L : List Nat), ux = .int .u64 (u : Int) ∧ iv = .int .i64 (j : Int) ∧ k = j ∧ L.length = 65 ∧ Blk wr w.heap.size 83 (Hex.cells L) ∧ Below w.heap.size w wr ∧
    Hid (u < 16 ^ (j - 49) ∧ 50 ≤ j ∧ j ≤ 65 ∧ Hex.text u0 = Hex.text u ++ L.drop j))
  case atStart =>
    refine ⟨65, u0, List.replicate 65 0, rfl, rfl, rfl, by simp, ?_, (Below.refl _ _).alloc (Nat.le_refl _) _, Lib.hid ⟨by have := Hu.out; omega, by omega, by omega, by simp⟩⟩
    have : Tryd.zeroCells83 = Hex.cells (List.replicate 65 0) := by kernel_rfl
    rw [← this]; exact Blk.new _ _ _
  case round =>
    obtain ⟨j, u, L, rfl, rfl, hk, hL, hblk, hbel, hr⟩ := hrel
    have Hk := Lib.hid hk
    have HL := Lib.hid hL
    have Hb := Lib.hid hblk
    have HBe := Lib.hid hbel
    have hm : u % 16 < 16 := Nat.mod_lt _ (by decide)
    obtain ⟨r1, r2, r3, r4⟩ := hr.out
    have hu64 : u < 18446744073709551616 := by
      have : 16 ^ (j - 49) ≤ 16 ^ 16 := Nat.pow_le_pow_right (by decide) (by omega)
      omega
    obtain ⟨i, rfl⟩ : ∃ i, j = i + 1 := ⟨j - 1, by omega⟩
    have hiL : i < L.length := by omega
    have hout : wr.cell? ⟨w.heap.size, i, none⟩ = some (.int .u8 ((L[i] : Nat) : Int)) := by rw [hblk.cell, Hex.cells_get, List.getElem?_eq_getElem hiL]; rfl
    have hfz := hblk.frozen i
    have hi1 : 49 ≤ (i : Int) := by omega
    have hi2 : (i : Int) ≤ 64 := by omega
    generalize L[i] = old at hout
    by_cases hge : u < 16
    · have h16 : (u : Int) < 16 := by omega
      have h0 : (0 : Int) ≤ u := by omega
      have hx := hexs_at u hge
      have hsl := slice65 w.heap.size i (by omega)
      have hT : (L.set i (Hex.byteOf u)).drop i = Hex.text u0 := by
        rw [r4, Hex.text_lt hge, drop_set_at hiL]; rfl
      have hblk2 := hblk.set_ i (.int .u8 (Hex.byteOf u : Int))
      rw [Hex.cells_set] at hblk2
      have hlen : (Hex.text u0).length = 65 - i := by rw [← hT, List.length_drop, List.length_set, hL]
      have hcv : ∀ c, (convert 64 9 (.slice (some ⟨w.heap.size, i, none⟩) (65 - i) c)).run Tryd.prog (wr.setCell ⟨w.heap.size, i, none⟩ (.int .u8 (Hex.byteOf u : Int))) = .ok (.string (Hex.bytes (Hex.text u0))) (wr.setCell ⟨w.heap.size, i, none⟩ (.int .u8 (Hex.byteOf u : Int))) := by
        intro c
        have h := Lib.run_convert_whole (P := Tryd.prog) _ 64 5 9 Tryd.underlying64 Tryd.underlying5 Tryd.underlying9 w.heap.size i (Hex.bytes (Hex.text u0)) (read_rest hblk2 hT (Hex.text_small u0)) c
        rw [Hex.bytes_size, hlen] at h
        exact h
      clear hk hL hblk hbel r1 r2 r3 r4 hu64 hm hr hiL hblk2 hT hlen
      rw [show ((i + 1 : Nat) : Int) = (i : Int) + 1 by omega]
      go_wp2
      go_ret2
      exact ⟨rfl, HBe.out.setCell (Nat.le_refl _) _⟩
    · have h16 : (16 : Int) ≤ u := by omega
      have h2 : (u : Int) ≤ 18446744073709551615 := by omega
      have ha := and15 u hu64
      have hx := hexs_at (u % 16) hm
      have hi49 : 50 ≤ i := by
        refine Nat.le_of_not_lt fun hc => ?_
        have : i + 1 - 49 ≤ 1 := by omega
        have h3 : 16 ^ (i + 1 - 49) ≤ 16 ^ 1 := Nat.pow_le_pow_right (by decide) this
        omega
      have HN : Hid (u / 16 < 16 ^ (i - 49) ∧ 50 ≤ i ∧ i ≤ 65 ∧ Hex.text u0 = Hex.text (u / 16) ++ (L.set i (Hex.byteOf (u % 16))).drop i) := by
        refine Lib.hid ⟨?_, hi49, by omega, ?_⟩
        · have : 16 ^ (i + 1 - 49) = 16 ^ (i - 49) * 16 := by rw [← Nat.pow_succ]; congr 1; omega
          rw [this] at r1
          omega
        · rw [r4, Hex.text_ge (by omega), List.append_assoc, drop_set_at hiL]; rfl
      clear hk hL hblk hbel r1 r2 r3 r4 hu64 hm hr hiL hi49
      rw [show ((i + 1 : Nat) : Int) = (i : Int) + 1 by omega]
      generalize hmm : u % 16 = m at *
      go_wp2
      rw [show (u : Int) / 16 = ((u / 16 : Nat) : Int) by omega]
      go_roundg i
      case measure => have := Hk.out; omega
      case rel =>
        refine ⟨i, u / 16, L.set i (Hex.byteOf m), rfl, rfl, rfl, by rw [List.length_set]; exact HL.out, ?_, HBe.out.setCell (Nat.le_refl _) _, HN⟩
        have := Hb.out.set_ i (.int .u8 (Hex.byteOf m : Int))
        rwa [Hex.cells_set] at this
end Go.Proofs.YtiafhdkpncmbeaaDoor
