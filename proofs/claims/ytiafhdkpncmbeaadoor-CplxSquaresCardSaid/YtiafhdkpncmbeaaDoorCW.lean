/- What law.works asks: the texts of two numbers, read and told. -/
import Derived.Test.YtiafhdkpncmbeaaDoorC4
import Derived.Test.YtiafhdkpncmbeaaDoorPu
import Derived.Test.YtiafhdkpncmbeaaDoorFb
import Derived.Lib.AtoiErrMem
import Derived.Laws.RangeString
import Derived.Laws.RangeAny
import Derived.Deep.RegionHeld3
namespace Go.Proofs.YtiafhdkpncmbeaaDoor
open Go.RowKit

set_option maxRecDepth 100000 in
theorem fmtU_in {w : World} {B u0 : Nat} (ht : Tz B w) (hB : B ≤ w.heap.size) (hu : u0 < 18446744073709551616) :
    Calls Tryd.prog 37 #[.int .u64 (u0 : Int), .int .i64 16] w fun e w' => e = .returned (.string (Hex.bytes (Hex.text u0))) ∧ Below w.heap.size w w' := by
  have H := Lib.hid (formatBits_16 ht hB hu)
  clear ht hB hu
  go_enter Tryd.func37, Tryd.ntmps37
  go_wp2_with (go_at_call 47; with_reducible refine H.out.mono ?_; rintro _ W1 ⟨rfl, hb1⟩)
  go_ret
  exact ⟨rfl, hb1⟩
set_option maxRecDepth 100000 in
theorem fmtU_any {w : World} {B u0 : Nat} (ht : Tz B w) (hB : B ≤ w.heap.size) (hu : u0 < 18446744073709551616) :
    Calls Tryd.prog 32 #[.int .u64 (u0 : Int), .int .i64 16] w fun e w' => e = .returned (.string (Hex.bytes (Hex.text u0))) ∧ Below w.heap.size w w' := by
  have H := Lib.hid (fmtU_in ht hB hu)
  clear ht hB hu
  go_enter Tryd.func32, Tryd.ntmps32
  go_wp2_with (go_at_call 37; with_reducible refine H.out.mono ?_; rintro _ W1 ⟨rfl, hb1⟩)
  go_ret
  exact ⟨rfl, hb1⟩

set_option maxRecDepth 100000 in
set_option maxHeartbeats 1000000 in
theorem digits_any {w : World} {B x : Nat} {T : ByteArray} (ht : Tz B w) (hB : B ≤ w.heap.size) (hx : x < 18446744073709551616) (hn : FloatKind.f64.format.order x x = some .eq) (hT : Hex.bytes (Hex.text x) = T) (hl : T.size = 16) :
    Calls Tryd.prog 25 #[.float .f64 x] w fun e w' => e = .returned (.string T) ∧ Below w.heap.size w w' := by
  have H := Lib.hid (fmtU_any ht hB hx)
  rw [hT] at H
  have hb := run_bits
  clear ht hB hx hT
  go_enter Tryd.func25, Tryd.ntmps25
  go_wp2_with (go_at_call 32; with_reducible refine H.out.mono ?_; rintro _ W1 ⟨rfl, hb1⟩)
  go_ret
  exact ⟨rfl, hb1⟩

set_option maxRecDepth 100000 in
theorem parseU_any {w : World} {t : ByteArray} {bs : List UInt8} (hbs : t.data.toList = bs) (hlen : t.size = 16) (hhex : ∀ c ∈ bs, Hex.Is c) {z : Int} (hz : z = (Hex.num 0 bs : Nat)) :
    Calls Tryd.prog 30 #[.string t, .int .i64 16, .int .i64 64] w fun e w' => e = .returned (.tuple #[.int .u64 z, .nilIface]) ∧ Below w.heap.size w w' := by
  have H := Lib.hid (parseUint_16 t bs hbs hlen hhex z hz w)
  have HB := Lib.hid (show Below w.heap.size w (Lib.bytesWorld w 5 t) from Lib.bytesWorld_below w 5 t)
  clear hbs hlen hhex hz
  go_enter Tryd.func30, Tryd.ntmps30
  go_wp2_with (go_at_call 34; with_reducible refine H.out.mono ?_; rintro _ W1 ⟨rfl, rfl⟩)
  go_ret2
  exact ⟨rfl, HB.out⟩

set_option maxRecDepth 100000 in
set_option maxHeartbeats 1000000 in
theorem float_any {w : World} {B x : Nat} {T : ByteArray} {bs : List UInt8} (ht : Tz B w) (hB : B ≤ w.heap.size) (hx : x < 18446744073709551616) (hn : FloatKind.f64.format.order x x = some .eq) (hT : Hex.bytes (Hex.text x) = T) (hl : T.size = 16)
    (hbs : T.data.toList = bs) (hhex : ∀ c ∈ bs, Hex.Is c) (hz : (x : Int) = (Hex.num 0 bs : Nat)) (hnan : (T.toList == [110, 97, 110]) = false) :
    Calls Tryd.prog 22 #[.string T] w fun e w' => e = .returned (.tuple #[.float .f64 x, .bool true]) ∧ Below w.heap.size w w' := by
  have H := Lib.hid (parseU_any (w := w) hbs hl hhex hz)
  have HD := Lib.hid (fun (W : World) (hb : Below w.heap.size w W) => digits_any (ht.on (hb.mono hB)) (Nat.le_trans hB hb.size) hx hn hT hl)
  have hf := run_frombits
  clear ht hB hx hT hbs hhex hz hl
  go_enter Tryd.func22, Tryd.ntmps22
  go_wp2_with (first | (go_at_call 30; with_reducible refine H.out.mono ?_; rintro _ W1 ⟨rfl, hb1⟩) | (go_at_call 25; with_reducible refine (HD.out _ hb1).mono ?_; rintro _ W2 ⟨rfl, hb2⟩))
  go_ret2
  exact ⟨rfl, (hb1.trans (hb2.mono hb1.size))⟩

set_option maxRecDepth 100000 in
theorem text_any {w : World} {B x y : Nat} {T U V : ByteArray} (ht : Tz B w) (hB : B ≤ w.heap.size) (hx : x < 18446744073709551616) (hn : FloatKind.f64.format.order x x = some .eq) (hT : Hex.bytes (Hex.text x) = T) (hl : T.size = 16)
    (hy : y < 18446744073709551616) (hm : FloatKind.f64.format.order y y = some .eq) (hU : Hex.bytes (Hex.text y) = U) (hk : U.size = 16) (hV : T ++ { data := #[44] } ++ U = V) :
    Calls Tryd.prog 12 #[.complex .f64 x y] w fun e w' => e = .returned (.string V) ∧ Below w.heap.size w w' := by
  have H := Lib.hid (digits_any ht hB hx hn hT hl)
  have HD := Lib.hid (fun (W : World) (hb : Below w.heap.size w W) => digits_any (ht.on (hb.mono hB)) (Nat.le_trans hB hb.size) hy hm hU hk)
  have hT2 : T.size ≤ 16 := by omega
  have hU2 : U.size ≤ 16 := by omega
  clear ht hB hx hn hT hl hy hm hU hk
  have HV := Lib.hid hV
  clear hV
  go_enter Tryd.func12, Tryd.ntmps12
  go_wp2_with (go_at_call 25; first | (with_reducible refine H.out.mono ?_; rintro _ W1 ⟨rfl, hb1⟩) | (with_reducible refine (HD.out _ hb1).mono ?_; rintro _ W2 ⟨rfl, hb2⟩))
  go_ret
  exact ⟨congrArg (fun z => Ending.returned (Value.string z)) HV.out, (hb1.trans (hb2.mono hb1.size))⟩

attribute [local go_sem] run_store_float

set_option maxRecDepth 100000 in
theorem of_any (a b : Nat) (w : World) :
    Calls Tryd.prog 24 #[.complex .f64 a b] w fun e w' => e = .returned (.agg #[.float .f64 a, .float .f64 b]) ∧ Below w.heap.size w w' := by
  go_enter Tryd.func24, Tryd.ntmps24
  go_wp2
  refine bodyPost_ret (v := .agg #[.float .f64 a, .float .f64 b]) (by simp [results, Tryd.results24, go_sem]) rfl ?_
  exact ⟨rfl, (Below.refl _ _).alloc (Nat.le_refl _) _⟩

set_option maxRecDepth 100000 in
theorem rnan_no (x : Nat) (h : FloatKind.f64.format.order x x = some .eq) (w : World) :
    Calls Tryd.prog 36 #[.float .f64 x] w fun e w' => e = .returned (.bool false) ∧ w = w' := by
  go_enter Tryd.func36, Tryd.ntmps36
  go_wp2
  go_ret
  exact ⟨rfl, rfl⟩
set_option maxRecDepth 100000 in
theorem like_same (x : Nat) (h : FloatKind.f64.format.order x x = some .eq) (w : World) :
    Calls Tryd.prog 31 #[.float .f64 x, .float .f64 x] w fun e w' => e = .returned (.bool true) ∧ w = w' := by
  have hb := run_bits
  have H := Lib.hid (rnan_no x h)
  clear h
  go_enter Tryd.func31, Tryd.ntmps31
  go_wp2_with (go_at_call 36; with_reducible refine (H.out _).mono ?_; rintro _ _ ⟨rfl, rfl⟩)
  go_ret
  exact ⟨rfl, rfl⟩
set_option maxRecDepth 100000 in
theorem same_same (x y : Nat) (hx : FloatKind.f64.format.order x x = some .eq) (hy : FloatKind.f64.format.order y y = some .eq) (w : World) :
    Calls Tryd.prog 23 #[.agg #[.float .f64 x, .float .f64 y], .agg #[.float .f64 x, .float .f64 y]] w fun e w' => e = .returned (.bool true) ∧ Below w.heap.size w w' := by
  have H := Lib.hid (like_same x hx)
  have HD := Lib.hid (like_same y hy)
  clear hx hy
  go_enter Tryd.func23, Tryd.ntmps23
  go_wp2_with (go_at_call 31; first | (with_reducible refine (H.out _).mono ?_; rintro _ _ ⟨rfl, rfl⟩) | (with_reducible refine (HD.out _).mono ?_; rintro _ _ ⟨rfl, rfl⟩))
  go_ret
  exact ⟨rfl, ((Below.refl _ _).alloc (Nat.le_refl _) _).alloc (by simp) _⟩

set_option maxRecDepth 100000 in
set_option maxHeartbeats 1000000 in
theorem is_same (x y : Nat) (hx : FloatKind.f64.format.order x x = some .eq) (hy : FloatKind.f64.format.order y y = some .eq) (w : World) :
    Calls Tryd.prog 11 #[.complex .f64 x y, .agg #[.float .f64 x, .float .f64 y]] w fun e w' => e = .returned (.bool true) ∧ Below w.heap.size w w' := by
  have H := Lib.hid (same_same x y hx hy)
  have HO := Lib.hid (of_any x y)
  clear hx hy
  go_enter Tryd.func11, Tryd.ntmps11
  go_wp2_with fail
  go_region_held3 (fun w' => w'.cell? ⟨w.heap.size, 0, none⟩ = some (.float .f64 x) ∧ w'.cell? ⟨w.heap.size, 1, none⟩ = some (.float .f64 y))
    (first
      | go_keep
      | (rw [hb1.cell (by simp), hb1.cell (by simp)]; go_keep)
      | (rw [hb2.cell (by show _ < W1.heap.size; simp; omega), hb2.cell (by show _ < W1.heap.size; simp; omega)]; go_keep))
    (first
      | (go_at_call 24; (with_reducible refine (HO.out _).mono ?_); rintro _ W1 ⟨rfl, hb1⟩; have z1 : w.heap.size + 1 ≤ W1.heap.size := (by have := hb1.size; simpa using this))
      | (go_at_call 23; (with_reducible refine (H.out _).mono ?_); rintro _ W2 ⟨rfl, hb2⟩; have z2 := hb2.size))
  go_wp2
  go_ret
  exact ⟨rfl, ((((Below.refl _ _).alloc (Nat.le_refl _) _).drew).trans (hb1.mono (by simp))).trans (hb2.mono (by omega))⟩

/-- the text that is read -/
abbrev s0 : ByteArray := { data := #[51, 102, 102, 48, 48, 48, 48, 48, 48, 48, 48, 48, 48, 48, 48, 48, 44, 56, 48, 48, 48, 48, 48, 48, 48, 48, 48, 48, 48, 48, 48, 48, 48] }
abbrev t1 : ByteArray := { data := #[51, 102, 102, 48, 48, 48, 48, 48, 48, 48, 48, 48, 48, 48, 48, 48] }
abbrev t2 : ByteArray := { data := #[56, 48, 48, 48, 48, 48, 48, 48, 48, 48, 48, 48, 48, 48, 48, 48] }
theorem hex1 : Hex.bytes (Hex.text 4607182418800017408) = t1 := by
  have : Hex.text 4607182418800017408 = [51, 102, 102, 48, 48, 48, 48, 48, 48, 48, 48, 48, 48, 48, 48, 48] := by
    repeat rw [Hex.text_ge (by decide)]
    rw [Hex.text_lt (by decide)]
    decide
  rw [this]; rfl
theorem hex2 : Hex.bytes (Hex.text 9223372036854775808) = t2 := by
  have : Hex.text 9223372036854775808 = [56, 48, 48, 48, 48, 48, 48, 48, 48, 48, 48, 48, 48, 48, 48, 48] := by
    repeat rw [Hex.text_ge (by decide)]
    rw [Hex.text_lt (by decide)]
    decide
  rw [this]; rfl
theorem s0_at (pos : Nat) (hp : pos ≤ 16) (hlt : pos < s0.size) : ∃ c : Nat, (s0[pos]'hlt).toNat = c ∧ (pos < 16 ∧ c < 128 ∧ c ≠ 44 ∨ pos = 16 ∧ c = 44) := by
  have hv : pos = 0 ∨ pos = 1 ∨ pos = 2 ∨ pos = 3 ∨ pos = 4 ∨ pos = 5 ∨ pos = 6 ∨ pos = 7 ∨ pos = 8 ∨ pos = 9 ∨ pos = 10 ∨ pos = 11 ∨ pos = 12 ∨ pos = 13 ∨ pos = 14 ∨ pos = 15 ∨ pos = 16 := by omega
  rcases hv with h | h | h | h | h | h | h | h | h | h | h | h | h | h | h | h | h <;> subst h
  · exact ⟨51, by kernel_rfl, by decide⟩
  · exact ⟨102, by kernel_rfl, by decide⟩
  · exact ⟨102, by kernel_rfl, by decide⟩
  · exact ⟨48, by kernel_rfl, by decide⟩
  · exact ⟨48, by kernel_rfl, by decide⟩
  · exact ⟨48, by kernel_rfl, by decide⟩
  · exact ⟨48, by kernel_rfl, by decide⟩
  · exact ⟨48, by kernel_rfl, by decide⟩
  · exact ⟨48, by kernel_rfl, by decide⟩
  · exact ⟨48, by kernel_rfl, by decide⟩
  · exact ⟨48, by kernel_rfl, by decide⟩
  · exact ⟨48, by kernel_rfl, by decide⟩
  · exact ⟨48, by kernel_rfl, by decide⟩
  · exact ⟨48, by kernel_rfl, by decide⟩
  · exact ⟨48, by kernel_rfl, by decide⟩
  · exact ⟨48, by kernel_rfl, by decide⟩
  · exact ⟨44, by kernel_rfl, by decide⟩
theorem ord1 : FloatKind.f64.format.order 4607182418800017408 4607182418800017408 = some .eq := by decide
theorem ord2 : FloatKind.f64.format.order 9223372036854775808 9223372036854775808 = some .eq := by decide
theorem float1 {w : World} {B : Nat} (ht : Tz B w) (hB : B ≤ w.heap.size) : Calls Tryd.prog 22 #[.string t1] w fun e w' => e = .returned (.tuple #[.float .f64 4607182418800017408, .bool true]) ∧ Below w.heap.size w w' :=
  float_any ht hB (by decide) ord1 hex1 (by decide) (bs := [51, 102, 102, 48, 48, 48, 48, 48, 48, 48, 48, 48, 48, 48, 48, 48]) rfl (by intro c hc; simp only [List.mem_cons, List.not_mem_nil, or_false] at hc; unfold Hex.Is; rcases hc with h | h | h | h | h | h | h | h | h | h | h | h | h | h | h | h <;> subst h <;> decide) (by kernel_rfl) (by kernel_rfl)
theorem float2 {w : World} {B : Nat} (ht : Tz B w) (hB : B ≤ w.heap.size) : Calls Tryd.prog 22 #[.string t2] w fun e w' => e = .returned (.tuple #[.float .f64 9223372036854775808, .bool true]) ∧ Below w.heap.size w w' :=
  float_any ht hB (by decide) ord2 hex2 (by decide) (bs := [56, 48, 48, 48, 48, 48, 48, 48, 48, 48, 48, 48, 48, 48, 48, 48]) rfl (by intro c hc; simp only [List.mem_cons, List.not_mem_nil, or_false] at hc; unfold Hex.Is; rcases hc with h | h | h | h | h | h | h | h | h | h | h | h | h | h | h | h <;> subst h <;> decide) (by kernel_rfl) (by kernel_rfl)

set_option maxRecDepth 100000 in
set_option maxHeartbeats 2000000 in
theorem read_s0 {w : World} {B : Nat} (ht : Tz B w) (hB : B ≤ w.heap.size) :
    Calls Tryd.prog 10 #[.string s0] w fun e w' => e = .returned (.tuple #[.complex .f64 4607182418800017408 9223372036854775808, .int .i64 0]) ∧ Below w.heap.size w w' := by
  have H1 := Lib.hid (fun (W : World) (hb : Below w.heap.size w W) => float1 (ht.on (hb.mono hB)) (Nat.le_trans hB hb.size))
  have H2 := Lib.hid (fun (W : World) (hb : Below w.heap.size w W) => float2 (ht.on (hb.mono hB)) (Nat.le_trans hB hb.size))
  have hsz : s0.size = 33 := by kernel_rfl
  clear ht hB
  go_enter Tryd.func10, Tryd.ntmps10
  go_wp2_with fail
  go_loopw [] (fun w' => ∃ pos : Nat, w' = w.iter s0 pos ∧ pos ≤ 16) (fun w' => s0.size - w'.iterPos w.heap.size)
  case atStart => exact ⟨0, rfl, by omega⟩
  case round =>
    obtain ⟨pos, rfl, hp⟩ := hrel
    have hlt : pos < s0.size := by omega
    obtain ⟨c, hc1, hc2⟩ := s0_at pos hp hlt
    have hnx : ∀ ty, (Instr.next (.pointer (some ⟨w.heap.size, 0, none⟩)) true ty).run Tryd.prog (w.iter s0 pos) = .ok (.tuple #[.bool true, .int .i64 pos, .int .i32 (c : Int)]) (w.iter s0 (pos + 1)) := fun ty => by
      rw [run_next_ascii w s0 pos ty hlt (by rw [hc1]; rcases hc2 with ⟨_, h, _⟩ | ⟨_, h⟩ <;> omega), hc1]
    rcases hc2 with ⟨h1, h2, h3⟩ | ⟨h1, h2⟩
    · have hne : ((c : Int) == 44) = false := by simp; omega
      clear h2 h3 hc1 hlt
      go_wp2
      go_roundw
      case rel => exact ⟨pos + 1, rfl, by omega⟩
      case measure => simp; omega
    · subst h1 h2
      clear hp hlt hc1
      have e1 : s0.extract 0 16 = t1 := by kernel_rfl
      have e2 : s0.extract 17 33 = t2 := by kernel_rfl
      have hb0 : Below w.heap.size w (w.iter s0 (16 + 1)) := (Below.refl _ _).alloc (Nat.le_refl _) _
      go_wp2_with (go_at_call 22; first | (with_reducible refine (H1.out _ hb0).mono ?_; rintro _ W1 ⟨rfl, hb1⟩) | (with_reducible refine (H2.out _ (hb0.trans (hb1.mono hb0.size))).mono ?_; rintro _ W2 ⟨rfl, hb2⟩))
      go_ret2
      exact ⟨rfl, (hb0.trans (hb1.mono hb0.size)).trans (hb2.mono (Nat.le_trans hb0.size hb1.size))⟩

theorem plain_three : Plain64 4613937818241073152 := ⟨by decide, by kernel_rfl, by kernel_rfl⟩
theorem plain_four : Plain64 4616189618054758400 := ⟨by decide, by kernel_rfl, by kernel_rfl⟩
theorem plain_mfour : Plain64 13839561654909534208 := ⟨by decide, by kernel_rfl, by kernel_rfl⟩
theorem steps34 : AbsSteps 4616189618054758400 4613937818241073152 4617315517961601024 := ⟨4604930618986332160, 4603241769126068224, 4609715693590413312, 4608308318706860032, by kernel_rfl, by kernel_rfl, by kernel_rfl, by kernel_rfl, by kernel_rfl⟩
theorem abs34 (w : World) : Calls Tryd.prog 7 #[.complex .f64 4613937818241073152 4616189618054758400] w fun e w' => e = .returned (.float .f64 4617315517961601024) ∧ w = w' :=
  zabs_lt _ _ _ plain_three plain_four (by kernel_rfl) (by kernel_rfl) steps34 w
theorem abs3m4 (w : World) : Calls Tryd.prog 7 #[.complex .f64 4613937818241073152 13839561654909534208] w fun e w' => e = .returned (.float .f64 4617315517961601024) ∧ w = w' :=
  zabs_lt _ _ _ plain_three plain_mfour (by kernel_rfl) (by kernel_rfl) steps34 w
theorem sqrt34 (w : World) : Calls Tryd.prog 5 #[.complex .f64 4613937818241073152 4616189618054758400] w fun e w' => e = .returned (.tuple #[.complex .f64 4611686018427387904 4607182418800017408, .int .i64 0]) ∧ w = w' :=
  zsqrt_up _ _ 4617315517961601024 4612811918334230528 4609434218613702656 4616189618054758400 4611686018427387904 4616189618054758400 4607182418800017408 plain_three plain_four (by kernel_rfl) (Lib.hid abs34) (by kernel_rfl) (by kernel_rfl) (by kernel_rfl) (by kernel_rfl) (by kernel_rfl) (by kernel_rfl) (by kernel_rfl) w
theorem mul12 (w : World) : Calls Tryd.prog 6 #[.complex .f64 4607182418800017408 4611686018427387904, .complex .f64 4613937818241073152 13830554455654793216] w fun e w' => e = .returned (.complex .f64 4617315517961601024 4617315517961601024) ∧ w = w' :=
  mul_any _ _ _ _ 4613937818241073152 13835058055282163712 13830554455654793216 4618441417868443648 _ _ (by kernel_rfl) (by kernel_rfl) (by kernel_rfl) (by kernel_rfl) (by kernel_rfl) (by kernel_rfl) w
theorem ord_five : FloatKind.f64.format.order 4617315517961601024 4617315517961601024 = some .eq := by kernel_rfl
theorem ord_two : FloatKind.f64.format.order 4611686018427387904 4611686018427387904 = some .eq := by kernel_rfl
theorem ord_one : FloatKind.f64.format.order 4607182418800017408 4607182418800017408 = some .eq := by kernel_rfl

set_option maxRecDepth 100000 in
set_option maxHeartbeats 2000000 in
/-- law.works holds -/
theorem works_any {w : World} {B : Nat} (ht : Tz B w) (hB : B ≤ w.heap.size) :
    Calls Tryd.prog 4 #[] w fun e w' => e = .returned (.bool true) ∧ Below w.heap.size w w' := by
  have H5 := Lib.hid sqrt34
  have H6 := Lib.hid mul12
  have H7 := Lib.hid abs3m4
  have H9 := Lib.hid num_any
  have HI1 := Lib.hid (is_same 4617315517961601024 4617315517961601024 ord_five ord_five)
  have HI2 := Lib.hid (is_same 4611686018427387904 4607182418800017408 ord_two ord_one)
  have HR := Lib.hid (read_s0 ht hB)
  have HT := Lib.hid (fun (W : World) (hb : Below w.heap.size w W) => text_any (V := s0) (ht.on (hb.mono hB)) (Nat.le_trans hB hb.size) (x := 4607182418800017408) (by decide) ord1 hex1 (by kernel_rfl) (y := 9223372036854775808) (by decide) ord2 hex2 (by kernel_rfl) (by kernel_rfl))
  have h5 : (FloatKind.f64.format.order 4617315517961601024 4617315517961601024 == some .eq) = true := by rw [ord_five]; rfl
  clear ht hB
  go_enter Tryd.func4, Tryd.ntmps4
  go_wp2_with (first
    | (go_at_call 5; with_reducible refine (H5.out _).mono ?_; rintro _ _ ⟨rfl, rfl⟩)
    | (go_at_call 6; with_reducible refine (H6.out _).mono ?_; rintro _ _ ⟨rfl, rfl⟩)
    | (go_at_call 9; with_reducible refine (H9.out _ _).mono ?_; rintro _ _ ⟨rfl, rfl⟩)
    | (go_at_call 7; with_reducible refine (H7.out _).mono ?_; rintro _ _ ⟨rfl, rfl⟩)
    | (go_at_call 10; with_reducible refine HR.out.mono ?_; rintro _ W1 ⟨rfl, hb1⟩)
    | (go_at_call 11; first | (with_reducible refine (HI1.out _).mono ?_; rintro _ W2 ⟨rfl, hb2⟩) | (with_reducible refine (HI2.out _).mono ?_; rintro _ W3 ⟨rfl, hb3⟩; have hb4 : Below w.heap.size w W3 := (hb1.trans (hb2.mono hb1.size)).trans (hb3.mono (Nat.le_trans hb1.size hb2.size))))
    | (go_at_call 12; with_reducible refine (HT.out _ hb4).mono ?_; rintro _ W4 ⟨rfl, hb5⟩))
  trace_state
  go_ret
  exact ⟨rfl, hb4.trans (hb5.mono hb4.size)⟩
end Go.Proofs.YtiafhdkpncmbeaaDoor
