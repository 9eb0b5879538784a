/- WholeRing: for any three whole numbers that may be and any shift, sums and products obey the laws of a ring, what is shifted there and back and what is told and read again is the same, and the law returns true; no condition. -/
import Derived.Test.YtpnginnjbdedbaaC11
namespace Go.Proofs.Ytpnginnjbdedbaa.wholeRing
open Go.ChangeShapes Go.WideShapes Go.ChangeAt Go.RowKit Opened
set_option linter.unusedVariables false

theorem c26 : Try.prog.cellsOf 26 = 2 := by kernel_rfl
theorem c3 : Try.prog.cellsOf 3 = 1 := by kernel_rfl
theorem c71 : Try.prog.cellsOf 71 = 7 := by kernel_rfl
set_option maxRecDepth 100000 in
/-- an argument that is a Four -/
theorem open_four {H : Type} {enc : TypeId × Value → H} {W : World} {b0 : Nat} {v : Value} {d : DataW H} {p : List MemPlace} {P0 : Nat → Bool} (hval : Value.okWide Try.prog W .any b0 71 v) (h : DataW.Trod enc Try.prog W 0 P0 true 71 v d p) :
    ∃ (na : Bool) (sa : ByteArray) (nb : Bool) (sb : ByteArray) (nc : Bool) (sc : ByteArray) (n : Int), v = .agg #[.bool na, .string sa, .bool nb, .string sb, .bool nc, .string sc, .int .i64 n] ∧ (Lit.int .i64 n).wf = true := by
  obtain ⟨cs, rfl, hsz⟩ := okWide_struct Try.underlying71 hval
  obtain ⟨fuel, hf⟩ := h
  obtain ⟨xs, m, _, _, hl, hx, hfd⟩ := DataW.trod_struct Try.underlying71 hf
  rw [c71] at hl

  obtain ⟨l, hlc⟩ : ∃ l, l = (Value.agg cs).cells.toList := ⟨_, rfl⟩
  have hcs : cs.toList = l := by rw [hlc]; rfl
  rw [← hlc] at hl hfd
  match l, hl, xs, hx with
  | [d0, d1, d2, d3, d4, d5, d6], _, [x0, x1, x2, x3], _ =>
    have h0 : DataW.trod enc Try.prog W 0 P0 true m 26 ((List.drop 0 [d0, d1, d2, d3, d4, d5, d6]).take (Try.prog.cellsOf 26)) = some x0 := hfd 0 _ rfl
    have h1 : DataW.trod enc Try.prog W 0 P0 true m 26 ((List.drop 2 [d0, d1, d2, d3, d4, d5, d6]).take (Try.prog.cellsOf 26)) = some x1 := hfd 1 _ rfl
    have h2 : DataW.trod enc Try.prog W 0 P0 true m 26 ((List.drop 4 [d0, d1, d2, d3, d4, d5, d6]).take (Try.prog.cellsOf 26)) = some x2 := hfd 2 _ rfl
    have h3 : DataW.trod enc Try.prog W 0 P0 true m 3 ((List.drop 6 [d0, d1, d2, d3, d4, d5, d6]).take (Try.prog.cellsOf 3)) = some x3 := hfd 3 _ rfl
    rw [c26] at h0 h1 h2
    rw [c3] at h3
    obtain ⟨na, sa, e0, _⟩ := open_whole h0
    obtain ⟨nb, sb, e1, _⟩ := open_whole h1
    obtain ⟨nc, sc, e2, _⟩ := open_whole h2
    obtain ⟨n, e3, _, hn⟩ := DataW.trod_int Try.underlying3 h3
    simp only [List.drop, List.take, List.cons.injEq, and_true] at e0 e1 e2 e3
    obtain ⟨rfl, rfl⟩ := e0
    obtain ⟨rfl, rfl⟩ := e1
    obtain ⟨rfl, rfl⟩ := e2
    subst e3
    refine ⟨na, sa, nb, sb, nc, sc, n, ?_, ?_⟩
    · rw [← Array.toArray_toList (xs := cs), hcs]
    · exact hn
set_option maxRecDepth 100000 in
theorem contract (H : Type) (enc : TypeId × Value → H) (W : World) (base : Nat) (args : Array Value) (ds gs : List (DataW H)) (before : List MemPlace)
    (hval : ∀ (j : Nat) t v, Try.f10.params[j]? = some t → args[j]? = some v → Value.okWide Try.prog W .any base t v)
    (hW : DataW.Whole enc Try.prog Try.f10.params.toList Rows.wholeRingSpec.vars false W args.toList ds gs before) :
    Calls Try.prog 10 args W fun e W' => ∃ v, e = .returned v ∧ Rows.wholeRingSpec.post enc Try.prog Try.f10 false true false false W args v W' := by
  have hW' := hW
  obtain ⟨p, q, hA0, hV, rfl, hfz, hnd⟩ := hW
  have hA : DataW.TrodAll enc Try.prog W 0 (fun _ => true) true Try.f10.params.toList args.toList ds p := hA0
  rw [Try.params10] at hA hval
  obtain ⟨v0, vs0, d0, ds0, p0, q0, hargs, rfl, rfl, h0, r0⟩ := trodAll_cons hA
  obtain ⟨rfl, rfl, rfl⟩ := trodAll_nil r0
  obtain rfl : args = #[v0] := by cases args; simp_all
  obtain ⟨rfl, rfl⟩ := trodVars_none hV
  obtain ⟨na, sa, nb, sb, nc, sc, n, rfl, wn⟩ := open_four (hval 0 71 v0 rfl rfl) h0
  have bn := bounds_i64 wn
  refine (ring_any (w := W) (by omega) (by omega)).mono fun e W' ⟨he, hb⟩ => ?_
  subst he
  exact ⟨_, rfl, law_post hW' hb rfl rfl Try.underlying4 (by rw [Try.params10]; simp; try (repeat' constructor) <;> kernel_rfl) rfl rfl rfl⟩

set_option maxRecDepth 100000 in
theorem lifted (os : Os) (started : os.Started) (H : Type) (enc : TypeId × Value → H) :
    ReturnsInHanded {} Try.checked os 10 .any (Rows.wholeRingSpec.pre6 enc Try.prog Try.f10 Rows.wholeRingRow.domain false) (Rows.wholeRingSpec.post enc Try.prog Try.f10 false true false false) := by
  refine returnsInHanded_of_change (C := Try.checked) own started (by kernel_rfl) Try.func10
    (ChangeSpec.witness6 (enc := enc) (C := Try.checked) false ⟨#[], #[.agg #[.bool false, .string ⟨#[]⟩, .bool false, .string ⟨#[]⟩, .bool false, .string ⟨#[]⟩, .int .i64 0]], []⟩ 8 (by kernel_rfl) (by kernel_rfl) (by kernel_rfl) (by kernel_rfl)) ?_
  intro W base args ds gs before hval hW hcnd _
  exact contract H enc W base args ds gs before hval hW

theorem over : Rows.wholeRingRow.holds Try.pinned (OpenSpec.ofChange Rows.wholeRingSpec) :=
  OpenClaim.holds_of_wide 10 Try.f10 rfl rfl rfl rfl rfl rfl rfl ⟨rfl, rfl, rfl, rfl, rfl⟩ rfl rfl rfl rfl rfl (by kernel_rfl) Try.func10 (by kernel_rfl)
    (of_decide_eq_true (by kernel_rfl)) (by unfold Func.isWrapper; first | (rw [if_pos (by decide +kernel)]; kernel_rfl) | (rw [if_neg (by decide +kernel)]; exact ⟨rfl, rfl⟩))
    (fun os started H enc _ => lifted os started H enc)

/-- the statement -/
theorem proved : Rows.WholeRingSaid :=
  over
#print axioms proved
end Go.Proofs.Ytpnginnjbdedbaa.wholeRing
