/- Floats by their bits: bits, Bits, Float64frombits, Float64bits; the eight bytes. -/
import Derived.Test.YtgmienlifnpniaaKnown
namespace Go.Proofs.Ytgmienlifnpniaa
open Go.RowKit
namespace Wire
/-- is a word of 64 bits no number's? -/
def isNan (b : Nat) : Bool := FloatKind.f64.format.order b b != some .eq
/-- its bits, those of one NaN -/
def canon (b : Nat) : Nat := if isNan b then 9221120237041090560 else b
theorem canon_nan {b : Nat} (h : isNan b = true) : canon b = 9221120237041090560 := if_pos h
theorem canon_num {b : Nat} (h : isNan b = false) : canon b = b := by unfold canon; rw [h]; rfl
theorem canon_lt {b : Nat} (h : b < 18446744073709551616) : canon b < 18446744073709551616 := by
  unfold canon; split <;> omega
theorem nan_one : isNan 9221120237041090560 = true := by decide +kernel
theorem canon_canon (b : Nat) : canon (canon b) = canon b := by
  by_cases h : isNan b = true
  · rw [canon_nan h, canon_nan nan_one]
  · rw [canon_num (b := b) (by simpa using h), canon_num (by simpa using h)]
/-- the eight bytes of a word, the highest first -/
def be8 (u : Nat) : List UInt8 := [UInt8.ofNat (u / 72057594037927936), UInt8.ofNat (u / 281474976710656), UInt8.ofNat (u / 1099511627776), UInt8.ofNat (u / 4294967296), UInt8.ofNat (u / 16777216), UInt8.ofNat (u / 65536), UInt8.ofNat (u / 256), UInt8.ofNat u]
theorem be8_len (u : Nat) : (be8 u).length = 8 := rfl
end Wire

theorem run_frombits (n : Int) (w : World) : (callFunc 11 #[.int .u64 n]).run Try.prog w = .ok (.value (.float .f64 n.toNat)) w := by
  rw [run_callFunc_extern Try.func11 (by kernel_rfl) (by kernel_rfl) (by kernel_rfl) (e := Extern.MathFloatBits.float64frombits) (by kernel_rfl)]
  rfl
theorem run_bits (n : Nat) (w : World) : (callFunc 85 #[.float .f64 n]).run Try.prog w = .ok (.value (.int .u64 (n : Int))) w := by
  rw [run_callFunc_extern Try.func85 (by kernel_rfl) (by kernel_rfl) (by kernel_rfl) (e := Extern.MathFloatBits.float64bits) (by kernel_rfl)]
  rfl

theorem ret_u64 {a b : Int} (h : a = b) : Ending.returned (.int .u64 a) = .returned (.int .u64 b) := by rw [h]

set_option maxRecDepth 100000 in
theorem bits_any (b : Nat) (w : World) :
    Calls Try.prog 55 #[.float .f64 b] w fun e w' => e = .returned (.int .u64 (Wire.canon b : Int)) ∧ w = w' := by
  have hx := run_bits
  by_cases h : Wire.isNan b = true
  · have hc := Lib.hid (Wire.canon_nan h)
    have h2 : (FloatKind.f64.format.order b b != some .eq) = true := h
    clear h
    go_enter Try.func55, Try.ntmps55
    go_wp2
    go_ret
    exact ⟨ret_u64 (by rw [hc.out]; rfl), rfl⟩
  · have h' : Wire.isNan b = false := by simpa using h
    have hc := Lib.hid (Wire.canon_num h')
    have h2 : (FloatKind.f64.format.order b b != some .eq) = false := h'
    clear h h'
    go_enter Try.func55, Try.ntmps55
    go_wp2
    go_ret
    exact ⟨ret_u64 (by rw [hc.out]), rfl⟩
set_option maxRecDepth 100000 in
theorem rbits_any (b : Nat) (w : World) :
    Calls Try.prog 56 #[.float .f64 b] w fun e w' => e = .returned (.int .u64 (Wire.canon b : Int)) ∧ w = w' := by
  have hx := run_bits
  by_cases h : Wire.isNan b = true
  · have hc := Lib.hid (Wire.canon_nan h)
    have h2 : (FloatKind.f64.format.order b b != some .eq) = true := h
    clear h
    go_enter Try.func56, Try.ntmps56
    go_wp2
    go_ret
    exact ⟨ret_u64 (by rw [hc.out]; rfl), rfl⟩
  · have h' : Wire.isNan b = false := by simpa using h
    have hc := Lib.hid (Wire.canon_num h')
    have h2 : (FloatKind.f64.format.order b b != some .eq) = false := h'
    clear h h'
    go_enter Try.func56, Try.ntmps56
    go_wp2
    go_ret
    exact ⟨ret_u64 (by rw [hc.out]), rfl⟩

theorem be8_cells (u : Nat) (hu : u < 18446744073709551616) : (#[Value.int IntKind.u8 ((u : Int) / 72057594037927936), Value.int IntKind.u8 ((u : Int) / 281474976710656 % 256), Value.int IntKind.u8 ((u : Int) / 1099511627776 % 256), Value.int IntKind.u8 ((u : Int) / 4294967296 % 256),
    Value.int IntKind.u8 ((u : Int) / 16777216 % 256), Value.int IntKind.u8 ((u : Int) / 65536 % 256), Value.int IntKind.u8 ((u : Int) / 256 % 256), Value.int IntKind.u8 ((u : Int) % 256)]).toList = (Wire.be8 u).map bv := by
  simp only [Wire.be8, List.map_cons, List.map_nil, bv, UInt8.toNat_ofNat', List.cons.injEq, Value.int.injEq, true_and, and_true]
  refine ⟨?_, ?_, ?_, ?_, ?_, ?_, ?_, ?_⟩ <;> omega

set_option maxRecDepth 100000 in
set_option maxHeartbeats 400000 in
theorem float_any (b : Nat) (w : World) (hb : b < 18446744073709551616) :
    Calls Try.prog 15 #[.float .f64 b] w fun e w' => ∃ A n' c, e = .returned (.slice A n' c) ∧ OwnB w' w.heap.size (.slice A n' c) (Wire.be8 (Wire.canon b)) ∧ Below w.heap.size w w' := by
  have hu := Wire.canon_lt hb
  have H := Lib.hid (bits_any b)
  generalize Wire.canon b = u at *
  have hmk : ∀ w, (Instr.makeSlice 23 (.int .i64 8) (.int .i64 8)).run Try.prog w = .ok (.slice (some ⟨w.heap.size, 0, none⟩) 8 8) (w.alloc (.cells #[.int .u8 0, .int .u8 0, .int .u8 0, .int .u8 0, .int .u8 0, .int .u8 0, .int .u8 0, .int .u8 0] 5)) := fun _ => by kernel_rfl
  go_enter Try.func15, Try.ntmps15
  go_wp2_with (go_at_call 55; refine (H.out _).mono ?_; rintro e w' ⟨rfl, rfl⟩)
  go_rounds 9
  go_ret
  refine ⟨_, _, _, rfl, OwnB.lit w _ (Wire.be8 u) _ 8 (be8_cells u hu) rfl (Nat.le_refl _) (by rw [Wire.be8_len]; omega), (Below.refl _ _).alloc (Nat.le_refl _) _⟩

theorem lit1 {w : World} {x : Int} (h0 : 0 ≤ x) (h1 : x < 256) : ReadsB (w.alloc (.cells #[.int .u8 x] 5)) (w.alloc (.cells #[.int .u8 x] 5)).heap.size (some ⟨w.heap.size, 0, none⟩) [UInt8.ofNat x.toNat] := by
  refine lit_reads _ _ ?_ (by simp)
  show [_] = [Value.int _ _]
  rw [UInt8.toNat_ofNat', Nat.mod_eq_of_lt (by omega), Int.toNat_of_nonneg h0]

theorem own_step {w w0 w1 : World} {B : Nat} {v : Value} {l : List UInt8} {o : Obj} (ho : OwnB w0 B v l) (hb : Below B w w0) (hs : B ≤ w0.heap.size) (hg : (w0.alloc o).grownBy w1 v.ownBlock) : Below B w w1 ∧ B ≤ w1.heap.size := by
  have h1 := hg.size
  rw [World.size_alloc] at h1
  exact ⟨(hb.alloc hs o).grown hg (by rw [World.size_alloc]; omega) (fun k hk => by
    rcases Nat.lt_or_ge k B with h | h
    · exact absurd hk.symm (ho.far h)
    · exact h), by omega⟩
theorem len_step {l : List UInt8} {x : UInt8} {k : Nat} (h : l.length ≤ k) : (l ++ [x]).length ≤ k + 1 := by rw [List.length_append, List.length_singleton]; omega

theorem be8_pushed (u : Nat) : Wire.be8 u = [] ++ [UInt8.ofNat ((u : Int) / 72057594037927936).toNat] ++ [UInt8.ofNat ((u : Int) / 281474976710656 % 256).toNat] ++ [UInt8.ofNat ((u : Int) / 1099511627776 % 256).toNat] ++ [UInt8.ofNat ((u : Int) / 4294967296 % 256).toNat]
    ++ [UInt8.ofNat ((u : Int) / 16777216 % 256).toNat] ++ [UInt8.ofNat ((u : Int) / 65536 % 256).toNat] ++ [UInt8.ofNat ((u : Int) / 256 % 256).toNat] ++ [UInt8.ofNat ((u : Int) % 256).toNat] := by
  have h : ∀ (x : Nat) (y : Int), y = ((x % 256 : Nat) : Int) → UInt8.ofNat x = UInt8.ofNat y.toNat := fun x y e => by
    subst e
    apply UInt8.toNat_inj.1
    rw [UInt8.toNat_ofNat', UInt8.toNat_ofNat', Int.toNat_natCast]
    omega
  simp only [Wire.be8, List.nil_append, List.cons_append, List.cons.injEq, and_true]
  refine ⟨?_, h _ _ (by omega), h _ _ (by omega), h _ _ (by omega), h _ _ (by omega), h _ _ (by omega), h _ _ (by omega), h _ _ (by omega)⟩
  have e : ((u : Int) / 72057594037927936).toNat = u / 72057594037927936 := by omega
  rw [e]

set_option maxRecDepth 100000 in
set_option maxHeartbeats 2000000 in
theorem rfloat_any (b : Nat) (w : World) (hb : b < 18446744073709551616) :
    Calls Try.prog 16 #[.float .f64 b] w fun e w' => ∃ A n' c, e = .returned (.slice A n' c) ∧ OwnB w' w.heap.size (.slice A n' c) (Wire.be8 (Wire.canon b)) ∧ Below w.heap.size w w' := by
  have hu := Wire.canon_lt hb
  have H := Lib.hid (rbits_any b)
  generalize Wire.canon b = u at *
  clear hb
  go_enter Try.func16, Try.ntmps16
  go_wp2_with (go_at_call 56; refine (H.out _).mono ?_; rintro e w' ⟨rfl, rfl⟩)
  refine wp_loop_rounds 9 ?_
  have ho := OwnB.nil w w.heap.size
  have hb := Below.refl w.heap.size w
  have hs := Nat.le_refl w.heap.size
  iterate 8 (
    rw [rounds_succ]
    go_wp2_with (at_builtin; refine wpB_append rfl (.tmp 12) (.tmp 18) rfl w.heap.size _ _ (ho.alloc _) rfl _ _ _ (lit1 (by omega) (by omega)) _ _ rfl rfl (by simp only [List.length_append, List.length_singleton, List.length_nil]; omega) (by rw [World.size_alloc]; omega) ?_; intro A n c w1 ho1 hg hnx; clear hnx)
    have hst := own_step ho hb hs hg
    replace ho := ho1
    replace hb := hst.1
    replace hs := hst.2
    clear ho1 hst hg)
  rw [rounds_succ]
  go_wp2
  go_ret
  refine ⟨_, _, _, rfl, ?_, hb⟩
  have e : Wire.be8 u = _ := be8_pushed u
  rw [e]
  exact ho
end Go.Proofs.Ytgmienlifnpniaa
