/- Arguments opened: a thing of Things' parts; a slice of bytes. -/
import Derived.Test.YtgmienlifnpniaaFrame
import Derived.Test.YtgmienlifnpniaaBytes
import Derived.ChangeSlices
namespace Go.Proofs.Ytgmienlifnpniaa.Opened
open Go.ChangeShapes Go.WideShapes Go.ChangeAt Go.RowKit

section
variable {H : Type} {enc : TypeId × Value → H} {w : World} {base fuel : Nat} {spare : Nat → Bool} {held : Bool}

theorem c28 : Try.prog.cellsOf 28 = 2 := by kernel_rfl
theorem c9 : Try.prog.cellsOf 9 = 1 := by kernel_rfl
theorem c4 : Try.prog.cellsOf 4 = 1 := by kernel_rfl
theorem c2 : Try.prog.cellsOf 2 = 1 := by kernel_rfl
theorem c22 : Try.prog.cellsOf 22 = 1 := by kernel_rfl
theorem c30 : Try.prog.cellsOf 30 = 4 := by kernel_rfl
theorem c32 : Try.prog.cellsOf 32 = 8 := by kernel_rfl
theorem c34 : Try.prog.cellsOf 34 = 13 := by kernel_rfl

set_option maxRecDepth 100000 in
theorem open_whole {cs : List Value} {x : DataW H × List MemPlace} (h : DataW.trod enc Try.prog w base spare held fuel 28 cs = some x) :
    ∃ (b : Bool) (s : ByteArray), cs = [.bool b, .string s] ∧ x.1 = .agg [.lit (.bool b), .lit (.string s.data.toList)] := by
  obtain ⟨xs, n, _, rfl, hl, hx, hf⟩ := DataW.trod_struct Try.underlying28 h
  rw [c28] at hl
  match cs, hl, xs, hx with
  | [d0, d1], _, [x0, x1], _ =>
    have h0 : DataW.trod enc Try.prog w base spare held n 4 ((List.drop 0 [d0, d1]).take (Try.prog.cellsOf 4)) = some x0 := hf 0 _ rfl
    have h1 : DataW.trod enc Try.prog w base spare held n 9 ((List.drop 1 [d0, d1]).take (Try.prog.cellsOf 9)) = some x1 := hf 1 _ rfl
    rw [c4] at h0
    rw [c9] at h1
    obtain ⟨b, hb, hx0⟩ := DataW.trod_bool Try.underlying4 h0
    obtain ⟨s, hs, hx1, _⟩ := DataW.trod_string Try.underlying9 h1
    simp only [List.drop, List.take, List.cons.injEq, and_true] at hb hs
    subst hb hs hx0 hx1
    exact ⟨b, s, rfl, rfl⟩
set_option maxRecDepth 100000 in
theorem open_frac {cs : List Value} {x : DataW H × List MemPlace} (h : DataW.trod enc Try.prog w base spare held fuel 30 cs = some x) :
    ∃ (b : Bool) (s : ByteArray) (b2 : Bool) (s2 : ByteArray), cs = [.bool b, .string s, .bool b2, .string s2] ∧
      x.1 = .agg [.agg [.lit (.bool b), .lit (.string s.data.toList)], .agg [.lit (.bool b2), .lit (.string s2.data.toList)]] := by
  obtain ⟨xs, n, _, rfl, hl, hx, hf⟩ := DataW.trod_struct Try.underlying30 h
  rw [c30] at hl
  match cs, hl, xs, hx with
  | [d0, d1, d2, d3], _, [x0, x1], _ =>
    have h0 : DataW.trod enc Try.prog w base spare held n 28 ((List.drop 0 [d0, d1, d2, d3]).take (Try.prog.cellsOf 28)) = some x0 := hf 0 _ rfl
    have h1 : DataW.trod enc Try.prog w base spare held n 28 ((List.drop 2 [d0, d1, d2, d3]).take (Try.prog.cellsOf 28)) = some x1 := hf 1 _ rfl
    rw [c28] at h0 h1
    obtain ⟨b, s, hb, hx0⟩ := open_whole h0
    obtain ⟨b2, s2, hs, hx1⟩ := open_whole h1
    simp only [List.drop, List.take, List.cons.injEq, and_true] at hb hs
    obtain ⟨rfl, rfl⟩ := hb
    obtain ⟨rfl, rfl⟩ := hs
    exact ⟨b, s, b2, s2, rfl, by simp [hx0, hx1]⟩
set_option maxRecDepth 100000 in
theorem open_gauss {cs : List Value} {x : DataW H × List MemPlace} (h : DataW.trod enc Try.prog w base spare held fuel 32 cs = some x) :
    ∃ (n1 : Bool) (s1 : ByteArray) (n2 : Bool) (s2 : ByteArray) (n3 : Bool) (s3 : ByteArray) (n4 : Bool) (s4 : ByteArray), cs = [.bool n1, .string s1, .bool n2, .string s2, .bool n3, .string s3, .bool n4, .string s4] ∧
      x.1 = .agg [.agg [.agg [.lit (.bool n1), .lit (.string s1.data.toList)], .agg [.lit (.bool n2), .lit (.string s2.data.toList)]], .agg [.agg [.lit (.bool n3), .lit (.string s3.data.toList)], .agg [.lit (.bool n4), .lit (.string s4.data.toList)]]] := by
  obtain ⟨xs, n, _, rfl, hl, hx, hf⟩ := DataW.trod_struct Try.underlying32 h
  rw [c32] at hl
  match cs, hl, xs, hx with
  | [d0, d1, d2, d3, d4, d5, d6, d7], _, [x0, x1], _ =>
    have h0 : DataW.trod enc Try.prog w base spare held n 30 ((List.drop 0 [d0, d1, d2, d3, d4, d5, d6, d7]).take (Try.prog.cellsOf 30)) = some x0 := hf 0 _ rfl
    have h1 : DataW.trod enc Try.prog w base spare held n 30 ((List.drop 4 [d0, d1, d2, d3, d4, d5, d6, d7]).take (Try.prog.cellsOf 30)) = some x1 := hf 1 _ rfl
    rw [c30] at h0 h1
    obtain ⟨n1, s1, n2, s2, hb, hx0⟩ := open_frac h0
    obtain ⟨n3, s3, n4, s4, hs, hx1⟩ := open_frac h1
    simp only [List.drop, List.take, List.cons.injEq, and_true] at hb hs
    obtain ⟨rfl, rfl, rfl, rfl⟩ := hb
    obtain ⟨rfl, rfl, rfl, rfl⟩ := hs
    exact ⟨n1, s1, n2, s2, n3, s3, n4, s4, rfl, by simp [hx0, hx1]⟩
set_option maxRecDepth 100000 in
theorem open_things {cs : List Value} {x : DataW H × List MemPlace} (h : DataW.trod enc Try.prog w base spare held fuel 34 cs = some x) :
    ∃ (N S X Y : Int) (T : ByteArray) (n1 : Bool) (s1 : ByteArray) (n2 : Bool) (s2 : ByteArray) (n3 : Bool) (s3 : ByteArray) (n4 : Bool) (s4 : ByteArray),
      cs = [.int .u64 N, .int .i64 S, .int .u64 X, .int .u64 Y, .string T, .bool n1, .string s1, .bool n2, .string s2, .bool n3, .string s3, .bool n4, .string s4] ∧
      x.1 = .agg [.lit (.int .u64 N), .lit (.int .i64 S), .lit (.int .u64 X), .lit (.int .u64 Y), .lit (.string T.data.toList),
        .agg [.agg [.agg [.lit (.bool n1), .lit (.string s1.data.toList)], .agg [.lit (.bool n2), .lit (.string s2.data.toList)]], .agg [.agg [.lit (.bool n3), .lit (.string s3.data.toList)], .agg [.lit (.bool n4), .lit (.string s4.data.toList)]]]] ∧
      (Lit.int .u64 N).wf = true ∧ (Lit.int .i64 S).wf = true ∧ (Lit.int .u64 X).wf = true ∧ (Lit.int .u64 Y).wf = true := by
  obtain ⟨xs, n, _, rfl, hl, hx, hf⟩ := DataW.trod_struct Try.underlying34 h
  rw [c34] at hl
  match cs, hl, xs, hx with
  | [d0, d1, d2, d3, d4, d5, d6, d7, d8, d9, d10, d11, d12], _, [x0, x1, x2, x3, x4, x5], _ =>
    have h0 : DataW.trod enc Try.prog w base spare held n 22 ((List.drop 0 [d0, d1, d2, d3, d4, d5, d6, d7, d8, d9, d10, d11, d12]).take (Try.prog.cellsOf 22)) = some x0 := hf 0 _ rfl
    have h1 : DataW.trod enc Try.prog w base spare held n 2 ((List.drop 1 [d0, d1, d2, d3, d4, d5, d6, d7, d8, d9, d10, d11, d12]).take (Try.prog.cellsOf 2)) = some x1 := hf 1 _ rfl
    have h2 : DataW.trod enc Try.prog w base spare held n 22 ((List.drop 2 [d0, d1, d2, d3, d4, d5, d6, d7, d8, d9, d10, d11, d12]).take (Try.prog.cellsOf 22)) = some x2 := hf 2 _ rfl
    have h3 : DataW.trod enc Try.prog w base spare held n 22 ((List.drop 3 [d0, d1, d2, d3, d4, d5, d6, d7, d8, d9, d10, d11, d12]).take (Try.prog.cellsOf 22)) = some x3 := hf 3 _ rfl
    have h4 : DataW.trod enc Try.prog w base spare held n 9 ((List.drop 4 [d0, d1, d2, d3, d4, d5, d6, d7, d8, d9, d10, d11, d12]).take (Try.prog.cellsOf 9)) = some x4 := hf 4 _ rfl
    have h5 : DataW.trod enc Try.prog w base spare held n 32 ((List.drop 5 [d0, d1, d2, d3, d4, d5, d6, d7, d8, d9, d10, d11, d12]).take (Try.prog.cellsOf 32)) = some x5 := hf 5 _ rfl
    rw [c22] at h0 h2 h3
    rw [c2] at h1
    rw [c9] at h4
    rw [c32] at h5
    obtain ⟨N, e0, g0, w0⟩ := DataW.trod_int Try.underlying22 h0
    obtain ⟨S, e1, g1, w1⟩ := DataW.trod_int Try.underlying2 h1
    obtain ⟨X, e2, g2, w2⟩ := DataW.trod_int Try.underlying22 h2
    obtain ⟨Y, e3, g3, w3⟩ := DataW.trod_int Try.underlying22 h3
    obtain ⟨T, e4, g4, _⟩ := DataW.trod_string Try.underlying9 h4
    obtain ⟨n1, s1, n2, s2, n3, s3, n4, s4, e5, g5⟩ := open_gauss h5
    simp only [List.drop, List.take, List.cons.injEq, and_true] at e0 e1 e2 e3 e4 e5
    subst e0 e1 e2 e3 e4
    obtain ⟨rfl, rfl, rfl, rfl, rfl, rfl, rfl, rfl⟩ := e5
    exact ⟨N, S, X, Y, T, n1, s1, n2, s2, n3, s3, n4, s4, rfl, by simp [g0, g1, g2, g3, g4, g5], w0, w1, w2, w3⟩
end


theorem bulk_lits {H : Type} (k : IntKind) : ∀ zs : List Int, Rows.uptoBulkAll (lits (H := H) k zs) = zs.length
  | [] => rfl
  | z :: zs => by
    show Rows.uptoBulk (DataW.lit (.int k z)) + Rows.uptoBulkAll (lits (H := H) k zs) = _
    rw [bulk_lits k zs]
    show 1 + zs.length = (z :: zs).length
    rw [List.length_cons]; omega

set_option maxRecDepth 100000 in
theorem c5 : Try.prog.cellsOf 5 = 1 := by kernel_rfl
set_option maxRecDepth 100000 in
/-- a slice of bytes that came in -/
theorem open_bytesR {H : Type} {enc : TypeId × Value → H} {W : World} {base : Nat} {v1 : Value} {d1 : DataW H} {p1 : List MemPlace} (hval : Value.okWide Try.prog W .any base 23 v1)
    (h1 : DataW.Trod enc Try.prog W 0 (fun _ => true) true 23 v1 d1 p1) :
    ∃ (A : Option Addr) (c : Nat) (l : List UInt8), v1 = .slice A l.length c ∧ ReadsB W W.heap.size A l ∧ l.length ≤ c ∧ c ≤ maxLen ∧ l.length ≤ Rows.uptoBulk d1 := by
  obtain ⟨a1, len, cap, rfl⟩ := okWide_slice Try.underlying23 hval
  obtain ⟨fuel, hf⟩ := h1
  rcases open_ints Try.underlying23 Try.underlying5 c5 hf with ⟨hcs, hx⟩ | ⟨a, len', cap', zs, hcs, _, hl, hm, hz, hx, hcell, hwz⟩
  · simp [Value.cells] at hcs
    obtain ⟨rfl, rfl, rfl⟩ := hcs
    exact ⟨none, 0, [], rfl, ⟨rfl, fun h => absurd h (by decide)⟩, Nat.le_refl _, Nat.zero_le _, Nat.zero_le _⟩
  · simp [Value.cells] at hcs
    obtain ⟨rfl, rfl, rfl⟩ := hcs
    simp only [Prod.mk.injEq] at hx
    obtain ⟨rfl, rfl⟩ := hx
    simp only [if_true] at hz
    have hlen : ((zs.take len).map fun n => UInt8.ofNat n.toNat).length = len := by simp; omega
    refine ⟨some a, cap, (zs.take len).map fun n => UInt8.ofNat n.toNat, by rw [hlen], ⟨by simp, fun h0 => ⟨a, rfl, ?_, fun j u hu => ?_⟩⟩, by rw [hlen]; exact hl, hm, ?_⟩
    · rw [hlen] at h0
      have := block_lt_of_cell (hcell 0 (by omega))
      rwa [block_of_add] at this
    · have hj : j < len := by
        have := (List.getElem?_eq_some_iff.1 hu).1
        simp at this
        omega
      rw [hcell j (by omega), ← hu]
      have hb := range_u8 hwz j
      rw [List.getElem?_map, List.getElem?_map, List.getElem?_take, if_pos hj, List.getElem?_eq_getElem (show j < zs.length by omega)]
      have e : zs.getD j 0 = zs[j]'(by omega) := by simp [List.getD, List.getElem?_eq_getElem (show j < zs.length by omega)]
      rw [List.getD_eq_getElem?_getD] at e
      rw [e] at hb
      rw [List.getD_eq_getElem?_getD, e]
      simp only [Option.map_some, bv, UInt8.toNat_ofNat']
      congr 2
      omega
    · rw [hlen]
      simp only [Rows.uptoBulk, bulk_lits]
      simp
      omega
end Go.Proofs.Ytgmienlifnpniaa.Opened
