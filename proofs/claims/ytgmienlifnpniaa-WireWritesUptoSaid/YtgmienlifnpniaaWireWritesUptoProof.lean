/- WireWrites: the form of any number, signed one, float, complex number, text, whole number, fraction, exact complex number, plain or not, is the reference's; what is told is new each time. Condition: what comes in is of bulk at most 1048576 (the given second form). -/
import Derived.Test.YtgmienlifnpniaaWrites
import Derived.Test.YtgmienlifnpniaaFrame
namespace Go.Proofs.Ytgmienlifnpniaa.wireWrites
open Go.ChangeShapes Go.WideShapes Go.ChangeAt Go.RowKit

section
variable {H : Type} {enc : TypeId × Value → H} {w : World} {base fuel : Nat} {spare : Nat → Bool} {held : Bool}

theorem c28 : Try.prog.cellsOf 28 = 2 := by kernel_rfl
theorem c9 : Try.prog.cellsOf 9 = 1 := by kernel_rfl
theorem c4 : Try.prog.cellsOf 4 = 1 := by kernel_rfl
theorem c2 : Try.prog.cellsOf 2 = 1 := by kernel_rfl
theorem c22 : Try.prog.cellsOf 22 = 1 := by kernel_rfl
theorem c30 : Try.prog.cellsOf 30 = 4 := by kernel_rfl
theorem c32 : Try.prog.cellsOf 32 = 8 := by kernel_rfl
theorem c34 : Try.prog.cellsOf 34 = 13 := by kernel_rfl

set_option maxRecDepth 100000 in
theorem open_whole {cs : List Value} {x : DataW H × List MemPlace} (h : DataW.trod enc Try.prog w base spare held fuel 28 cs = some x) :
    ∃ (b : Bool) (s : ByteArray), cs = [.bool b, .string s] ∧ x.1 = .agg [.lit (.bool b), .lit (.string s.data.toList)] := by
  obtain ⟨xs, n, _, rfl, hl, hx, hf⟩ := DataW.trod_struct Try.underlying28 h
  rw [c28] at hl
  match cs, hl, xs, hx with
  | [d0, d1], _, [x0, x1], _ =>
    have h0 : DataW.trod enc Try.prog w base spare held n 4 ((List.drop 0 [d0, d1]).take (Try.prog.cellsOf 4)) = some x0 := hf 0 _ rfl
    have h1 : DataW.trod enc Try.prog w base spare held n 9 ((List.drop 1 [d0, d1]).take (Try.prog.cellsOf 9)) = some x1 := hf 1 _ rfl
    rw [c4] at h0
    rw [c9] at h1
    obtain ⟨b, hb, hx0⟩ := DataW.trod_bool Try.underlying4 h0
    obtain ⟨s, hs, hx1, _⟩ := DataW.trod_string Try.underlying9 h1
    simp only [List.drop, List.take, List.cons.injEq, and_true] at hb hs
    subst hb hs hx0 hx1
    exact ⟨b, s, rfl, rfl⟩
set_option maxRecDepth 100000 in
theorem open_frac {cs : List Value} {x : DataW H × List MemPlace} (h : DataW.trod enc Try.prog w base spare held fuel 30 cs = some x) :
    ∃ (b : Bool) (s : ByteArray) (b2 : Bool) (s2 : ByteArray), cs = [.bool b, .string s, .bool b2, .string s2] ∧
      x.1 = .agg [.agg [.lit (.bool b), .lit (.string s.data.toList)], .agg [.lit (.bool b2), .lit (.string s2.data.toList)]] := by
  obtain ⟨xs, n, _, rfl, hl, hx, hf⟩ := DataW.trod_struct Try.underlying30 h
  rw [c30] at hl
  match cs, hl, xs, hx with
  | [d0, d1, d2, d3], _, [x0, x1], _ =>
    have h0 : DataW.trod enc Try.prog w base spare held n 28 ((List.drop 0 [d0, d1, d2, d3]).take (Try.prog.cellsOf 28)) = some x0 := hf 0 _ rfl
    have h1 : DataW.trod enc Try.prog w base spare held n 28 ((List.drop 2 [d0, d1, d2, d3]).take (Try.prog.cellsOf 28)) = some x1 := hf 1 _ rfl
    rw [c28] at h0 h1
    obtain ⟨b, s, hb, hx0⟩ := open_whole h0
    obtain ⟨b2, s2, hs, hx1⟩ := open_whole h1
    simp only [List.drop, List.take, List.cons.injEq, and_true] at hb hs
    obtain ⟨rfl, rfl⟩ := hb
    obtain ⟨rfl, rfl⟩ := hs
    exact ⟨b, s, b2, s2, rfl, by simp [hx0, hx1]⟩
set_option maxRecDepth 100000 in
theorem open_gauss {cs : List Value} {x : DataW H × List MemPlace} (h : DataW.trod enc Try.prog w base spare held fuel 32 cs = some x) :
    ∃ (n1 : Bool) (s1 : ByteArray) (n2 : Bool) (s2 : ByteArray) (n3 : Bool) (s3 : ByteArray) (n4 : Bool) (s4 : ByteArray), cs = [.bool n1, .string s1, .bool n2, .string s2, .bool n3, .string s3, .bool n4, .string s4] ∧
      x.1 = .agg [.agg [.agg [.lit (.bool n1), .lit (.string s1.data.toList)], .agg [.lit (.bool n2), .lit (.string s2.data.toList)]], .agg [.agg [.lit (.bool n3), .lit (.string s3.data.toList)], .agg [.lit (.bool n4), .lit (.string s4.data.toList)]]] := by
  obtain ⟨xs, n, _, rfl, hl, hx, hf⟩ := DataW.trod_struct Try.underlying32 h
  rw [c32] at hl
  match cs, hl, xs, hx with
  | [d0, d1, d2, d3, d4, d5, d6, d7], _, [x0, x1], _ =>
    have h0 : DataW.trod enc Try.prog w base spare held n 30 ((List.drop 0 [d0, d1, d2, d3, d4, d5, d6, d7]).take (Try.prog.cellsOf 30)) = some x0 := hf 0 _ rfl
    have h1 : DataW.trod enc Try.prog w base spare held n 30 ((List.drop 4 [d0, d1, d2, d3, d4, d5, d6, d7]).take (Try.prog.cellsOf 30)) = some x1 := hf 1 _ rfl
    rw [c30] at h0 h1
    obtain ⟨n1, s1, n2, s2, hb, hx0⟩ := open_frac h0
    obtain ⟨n3, s3, n4, s4, hs, hx1⟩ := open_frac h1
    simp only [List.drop, List.take, List.cons.injEq, and_true] at hb hs
    obtain ⟨rfl, rfl, rfl, rfl⟩ := hb
    obtain ⟨rfl, rfl, rfl, rfl⟩ := hs
    exact ⟨n1, s1, n2, s2, n3, s3, n4, s4, rfl, by simp [hx0, hx1]⟩
set_option maxRecDepth 100000 in
theorem open_things {cs : List Value} {x : DataW H × List MemPlace} (h : DataW.trod enc Try.prog w base spare held fuel 34 cs = some x) :
    ∃ (N S X Y : Int) (T : ByteArray) (n1 : Bool) (s1 : ByteArray) (n2 : Bool) (s2 : ByteArray) (n3 : Bool) (s3 : ByteArray) (n4 : Bool) (s4 : ByteArray),
      cs = [.int .u64 N, .int .i64 S, .int .u64 X, .int .u64 Y, .string T, .bool n1, .string s1, .bool n2, .string s2, .bool n3, .string s3, .bool n4, .string s4] ∧
      x.1 = .agg [.lit (.int .u64 N), .lit (.int .i64 S), .lit (.int .u64 X), .lit (.int .u64 Y), .lit (.string T.data.toList),
        .agg [.agg [.agg [.lit (.bool n1), .lit (.string s1.data.toList)], .agg [.lit (.bool n2), .lit (.string s2.data.toList)]], .agg [.agg [.lit (.bool n3), .lit (.string s3.data.toList)], .agg [.lit (.bool n4), .lit (.string s4.data.toList)]]]] ∧
      (Lit.int .u64 N).wf = true ∧ (Lit.int .i64 S).wf = true ∧ (Lit.int .u64 X).wf = true ∧ (Lit.int .u64 Y).wf = true := by
  obtain ⟨xs, n, _, rfl, hl, hx, hf⟩ := DataW.trod_struct Try.underlying34 h
  rw [c34] at hl
  match cs, hl, xs, hx with
  | [d0, d1, d2, d3, d4, d5, d6, d7, d8, d9, d10, d11, d12], _, [x0, x1, x2, x3, x4, x5], _ =>
    have h0 : DataW.trod enc Try.prog w base spare held n 22 ((List.drop 0 [d0, d1, d2, d3, d4, d5, d6, d7, d8, d9, d10, d11, d12]).take (Try.prog.cellsOf 22)) = some x0 := hf 0 _ rfl
    have h1 : DataW.trod enc Try.prog w base spare held n 2 ((List.drop 1 [d0, d1, d2, d3, d4, d5, d6, d7, d8, d9, d10, d11, d12]).take (Try.prog.cellsOf 2)) = some x1 := hf 1 _ rfl
    have h2 : DataW.trod enc Try.prog w base spare held n 22 ((List.drop 2 [d0, d1, d2, d3, d4, d5, d6, d7, d8, d9, d10, d11, d12]).take (Try.prog.cellsOf 22)) = some x2 := hf 2 _ rfl
    have h3 : DataW.trod enc Try.prog w base spare held n 22 ((List.drop 3 [d0, d1, d2, d3, d4, d5, d6, d7, d8, d9, d10, d11, d12]).take (Try.prog.cellsOf 22)) = some x3 := hf 3 _ rfl
    have h4 : DataW.trod enc Try.prog w base spare held n 9 ((List.drop 4 [d0, d1, d2, d3, d4, d5, d6, d7, d8, d9, d10, d11, d12]).take (Try.prog.cellsOf 9)) = some x4 := hf 4 _ rfl
    have h5 : DataW.trod enc Try.prog w base spare held n 32 ((List.drop 5 [d0, d1, d2, d3, d4, d5, d6, d7, d8, d9, d10, d11, d12]).take (Try.prog.cellsOf 32)) = some x5 := hf 5 _ rfl
    rw [c22] at h0 h2 h3
    rw [c2] at h1
    rw [c9] at h4
    rw [c32] at h5
    obtain ⟨N, e0, g0, w0⟩ := DataW.trod_int Try.underlying22 h0
    obtain ⟨S, e1, g1, w1⟩ := DataW.trod_int Try.underlying2 h1
    obtain ⟨X, e2, g2, w2⟩ := DataW.trod_int Try.underlying22 h2
    obtain ⟨Y, e3, g3, w3⟩ := DataW.trod_int Try.underlying22 h3
    obtain ⟨T, e4, g4, _⟩ := DataW.trod_string Try.underlying9 h4
    obtain ⟨n1, s1, n2, s2, n3, s3, n4, s4, e5, g5⟩ := open_gauss h5
    simp only [List.drop, List.take, List.cons.injEq, and_true] at e0 e1 e2 e3 e4 e5
    subst e0 e1 e2 e3 e4
    obtain ⟨rfl, rfl, rfl, rfl, rfl, rfl, rfl, rfl⟩ := e5
    exact ⟨N, S, X, Y, T, n1, s1, n2, s2, n3, s3, n4, s4, rfl, by simp [g0, g1, g2, g3, g4, g5], w0, w1, w2, w3⟩
end

set_option maxRecDepth 100000 in
theorem contract (H : Type) (enc : TypeId × Value → H) (W : World) (base : Nat) (args : Array Value) (ds gs : List (DataW H)) (before : List MemPlace)
    (hval : ∀ (j : Nat) t v, Try.f4.params[j]? = some t → args[j]? = some v → Value.okWide Try.prog W .any base t v)
    (hW : DataW.Whole enc Try.prog Try.f4.params.toList Rows.wireWritesSpec.vars false W args.toList ds gs before) (hk : Rows.uptoSmall H (ds ++ gs) = true) :
    Calls Try.prog 4 args W fun e W' => ∃ v, e = .returned v ∧ Rows.wireWritesSpec.post enc Try.prog Try.f4 false true false false W args v W' := by
  have hW' := hW
  obtain ⟨p, q, hA0, hV, rfl, hfz, hnd⟩ := hW
  have hA : DataW.TrodAll enc Try.prog W 0 (fun _ => true) true Try.f4.params.toList args.toList ds p := hA0
  rw [Try.params4] at hA hval
  obtain ⟨v0, vs0, d0, ds0, p0, q0, hargs, rfl, rfl, h0, r0⟩ := trodAll_cons hA
  obtain ⟨rfl, rfl, rfl⟩ := trodAll_nil r0
  obtain rfl : args = #[v0] := by cases args; simp_all
  obtain ⟨rfl, rfl⟩ := trodVars_none hV
  obtain ⟨cs, rfl, hsz⟩ := okWide_struct Try.underlying34 (hval 0 34 v0 rfl rfl)
  obtain ⟨fuel, hf⟩ := h0
  obtain ⟨N, S, X, Y, T, n1, s1, n2, s2, n3, s3, n4, s4, hcs, hd, w0, w1, w2, w3⟩ := open_things hf
  have ecs : cs = #[.int .u64 N, .int .i64 S, .int .u64 X, .int .u64 Y, .string T, .bool n1, .string s1, .bool n2, .string s2, .bool n3, .string s3, .bool n4, .string s4] := by
    have : cs.toList = _ := hcs
    rw [← Array.toArray_toList (xs := cs), this]
  subst ecs
  simp only at hd
  subst hd
  have hk2 := of_decide_eq_true hk
  have hlen : ∀ s : ByteArray, s.data.toList.length = s.size := fun s => Array.length_toList
  simp only [List.append_nil, Rows.uptoBulkAll, Rows.uptoBulk, hlen] at hk2
  have b0 := bounds_u64 w0
  have b1 := bounds_i64 w1
  have b2 := bounds_u64 w2
  have b3 := bounds_u64 w3
  refine (writes_any N S X Y T n1 s1 n2 s2 n3 s3 n4 s4 W (by omega) (by omega) (by omega) (by omega) (by omega) (by omega) (by omega) (by omega) (by omega) (by omega) (by omega) (by omega) (by omega)).mono fun e W' ⟨he, hb⟩ => ?_
  subst he
  exact ⟨_, rfl, law_post hW' hb rfl rfl Try.underlying4 (by rw [Try.params4]; simp; kernel_rfl) rfl rfl rfl⟩

set_option maxRecDepth 100000 in
theorem lifted (os : Os) (started : os.Started) (H : Type) (enc : TypeId × Value → H) (F : Stop.Interp) :
    ReturnsInHanded {} Try.checked os 4 .any ((Rows.OpenSpec.upto Rows.wireWritesSpec).pre6 enc Try.prog Try.f4 Rows.wireWritesUptoRow.domain false) (((Rows.OpenSpec.upto Rows.wireWritesSpec).at F).post enc Try.prog Try.f4 false true false false) := by
  refine returnsInHanded_of_cond (C := Try.checked) (s := Rows.OpenSpec.upto Rows.wireWritesSpec) (k := Rows.uptoSmall) rfl own started (by kernel_rfl) Try.func4
    (OpenSpec.witness (enc := enc) (C := Try.checked) (s := Rows.OpenSpec.upto Rows.wireWritesSpec) (k := Rows.uptoSmall) rfl false
      ⟨#[], #[.agg #[.int .u64 0, .int .i64 0, .int .u64 0, .int .u64 0, .string ⟨#[]⟩, .bool false, .string ⟨#[]⟩, .bool false, .string ⟨#[]⟩, .bool false, .string ⟨#[]⟩, .bool false, .string ⟨#[]⟩]], []⟩ 8 (by kernel_rfl) (by kernel_rfl) (by kernel_rfl)
      (x := ([.agg [.lit (.int .u64 0), .lit (.int .i64 0), .lit (.int .u64 0), .lit (.int .u64 0), .lit (.string []), .agg [.agg [.agg [.lit (.bool false), .lit (.string [])], .agg [.lit (.bool false), .lit (.string [])]], .agg [.agg [.lit (.bool false), .lit (.string [])], .agg [.lit (.bool false), .lit (.string [])]]]]], [], [])) (by kernel_rfl) rfl (by kernel_rfl)) ?_
  intro W base args ds gs before hval hW _ hk _
  exact contract H enc W base args ds gs before hval hW hk

theorem over : Rows.wireWritesUptoRow.holds Try.pinned (Rows.OpenSpec.upto Rows.wireWritesSpec) :=
  OpenClaim.holds_of_cond 4 Try.f4 rfl rfl rfl rfl rfl rfl rfl ⟨rfl, rfl, rfl, rfl, rfl⟩ rfl rfl rfl rfl rfl (by kernel_rfl) Try.func4 (by kernel_rfl)
    (of_decide_eq_true (by kernel_rfl)) (by unfold Func.isWrapper; first | (rw [if_pos (by decide +kernel)]; kernel_rfl) | (rw [if_neg (by decide +kernel)]; exact ⟨rfl, rfl⟩))
    (fun os started H enc _ F => lifted os started H enc F)

theorem proved : Rows.WireWritesUptoSaid :=
  over
#print axioms proved
end Go.Proofs.Ytgmienlifnpniaa.wireWrites
