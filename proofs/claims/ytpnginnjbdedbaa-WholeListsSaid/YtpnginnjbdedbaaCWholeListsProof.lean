/- WholeLists: of any list of whole numbers the sum and the greatest divisor are as the document has them, the list stays, and the law returns true; no condition. -/
import Derived.Test.YtpnginnjbdedbaaC9
import Derived.Deep.Slices
namespace Go.Proofs.Ytpnginnjbdedbaa.wholeLists
open Go.ChangeShapes Go.WideShapes Go.ChangeAt Go.RowKit Go.Deep Opened
set_option linter.unusedVariables false

theorem c26 : Try.prog.cellsOf 26 = 2 := by kernel_rfl
set_option maxRecDepth 100000 in
/-- an argument that is a list of whole numbers -/
theorem open_whs {H : Type} {enc : TypeId × Value → H} {W : World} {base : Nat} {v1 : Value} {d1 : DataW H} {p1 : List MemPlace} (hval : Value.okWide Try.prog W .any base 22 v1)
    (h1 : DataW.Trod enc Try.prog W 0 (fun _ => true) true 22 v1 d1 p1) :
    ∃ (A : Option Addr) (c : Nat) (l : List (Bool × ByteArray)), v1 = .slice A l.length c ∧ ReadsWh W W.heap.size A l := by
  obtain ⟨a1, len, cap, rfl⟩ := okWide_slice Try.underlying22 hval
  obtain ⟨fuel, hf⟩ := h1
  rcases open_slice Try.underlying22 hf with ⟨hcs, hx⟩ | ⟨a, len', cap', m, n, D, Pl, hcs, _, hl, hm, hmm, hx, hcell⟩
  · simp [Value.cells] at hcs
    obtain ⟨rfl, rfl, rfl⟩ := hcs
    exact ⟨none, 0, [], rfl, ⟨rfl, fun h => absurd h (by decide)⟩⟩
  · simp [Value.cells] at hcs
    obtain ⟨rfl, rfl, rfl⟩ := hcs
    simp only [if_true] at hmm
    rw [c26] at hcell
    have each : ∀ i, i < len → ∃ q : Bool × ByteArray, W.cell? (a.add (i * 2)) = some (.bool q.1) ∧ W.cell? (a.add (i * 2 + 1)) = some (.string q.2) := by
      intro i hi
      obtain ⟨cs', h1, h2⟩ := hcell i (by omega)
      obtain ⟨b, s, rfl, _⟩ := open_whole h2
      obtain ⟨_, hlen, hc⟩ := World.cells?_some h1
      have e0 := hc 0 (by decide)
      have e1 := hc 1 (by decide)
      rw [add_of_add] at e0 e1
      exact ⟨(b, s), e0, e1⟩
    obtain ⟨V, hV⟩ := choose_lt (α := Bool × ByteArray) (p := fun i q => W.cell? (a.add (i * 2)) = some (.bool q.1) ∧ W.cell? (a.add (i * 2 + 1)) = some (.string q.2)) each
    have hlen : ((List.range len).map V).length = len := by simp
    refine ⟨some a, cap, (List.range len).map V, by rw [hlen], by rw [wcs_len]; omega, fun h0 => ⟨a, rfl, ?_, fun j u hu => ?_⟩⟩
    · rw [hlen] at h0
      have := block_lt_of_cell (hV 0 h0).1
      rwa [block_of_add] at this
    · have hj : j < 2 * len := by
        have := (List.getElem?_eq_some_iff.1 hu).1
        rw [wcs_len, hlen] at this
        exact this
      have hi : j / 2 < ((List.range len).map V).length := by rw [hlen]; omega
      obtain ⟨g0, g1⟩ := flat_get ((List.range len).map V) (j / 2) hi
      have hVi := hV (j / 2) (by omega)
      have hel : ((List.range len).map V)[j / 2] = V (j / 2) := by simp
      rw [hel] at g0 g1
      rcases Nat.mod_two_eq_zero_or_one j with h | h
      · have ej : j = j / 2 * 2 := by omega
        have e2 : W.cell? (a.add j) = W.cell? (a.add (j / 2 * 2)) := by rw [← ej]
        have e3 : (((List.range len).map V).flatMap wcs)[j]? = (((List.range len).map V).flatMap wcs)[2 * (j / 2)]? := by rw [show 2 * (j / 2) = j by omega]
        rw [e2, hVi.1, ← hu, e3, g0]
      · have ej : j = j / 2 * 2 + 1 := by omega
        have e2 : W.cell? (a.add j) = W.cell? (a.add (j / 2 * 2 + 1)) := by rw [← ej]
        have e3 : (((List.range len).map V).flatMap wcs)[j]? = (((List.range len).map V).flatMap wcs)[2 * (j / 2) + 1]? := by rw [show 2 * (j / 2) + 1 = j by omega]
        rw [e2, hVi.2, ← hu, e3, g1]
set_option maxRecDepth 100000 in
theorem contract (H : Type) (enc : TypeId × Value → H) (W : World) (base : Nat) (args : Array Value) (ds gs : List (DataW H)) (before : List MemPlace)
    (hval : ∀ (j : Nat) t v, Try.f3.params[j]? = some t → args[j]? = some v → Value.okWide Try.prog W .any base t v)
    (hW : DataW.Whole enc Try.prog Try.f3.params.toList Rows.wholeListsSpec.vars false W args.toList ds gs before) :
    Calls Try.prog 3 args W fun e W' => ∃ v, e = .returned v ∧ Rows.wholeListsSpec.post enc Try.prog Try.f3 false true false false W args v W' := by
  have hW' := hW
  obtain ⟨p, q, hA0, hV, rfl, hfz, hnd⟩ := hW
  have hA : DataW.TrodAll enc Try.prog W 0 (fun _ => true) true Try.f3.params.toList args.toList ds p := hA0
  rw [Try.params3] at hA hval
  obtain ⟨v0, vs0, d0, ds0, p0, q0, hargs, rfl, rfl, h0, r0⟩ := trodAll_cons hA
  obtain ⟨rfl, rfl, rfl⟩ := trodAll_nil r0
  obtain rfl : args = #[v0] := by cases args; simp_all
  obtain ⟨rfl, rfl⟩ := trodVars_none hV
  obtain ⟨A, c, l, rfl, hr⟩ := open_whs (hval 0 22 v0 rfl rfl) h0
  refine (lists_any (w := W) hr rfl).mono fun e W' ⟨he, hb⟩ => ?_
  subst he
  exact ⟨_, rfl, law_post hW' hb rfl rfl Try.underlying4 (by rw [Try.params3]; simp; try (repeat' constructor) <;> kernel_rfl) rfl rfl rfl⟩

set_option maxRecDepth 100000 in
theorem lifted (os : Os) (started : os.Started) (H : Type) (enc : TypeId × Value → H) :
    ReturnsInHanded {} Try.checked os 3 .any (Rows.wholeListsSpec.pre6 enc Try.prog Try.f3 Rows.wholeListsRow.domain false) (Rows.wholeListsSpec.post enc Try.prog Try.f3 false true false false) := by
  refine returnsInHanded_of_change (C := Try.checked) own started (by kernel_rfl) Try.func3
    (ChangeSpec.witness6 (enc := enc) (C := Try.checked) false ⟨#[], #[.slice none 0 0], []⟩ 8 (by kernel_rfl) (by kernel_rfl) (by kernel_rfl) (by kernel_rfl)) ?_
  intro W base args ds gs before hval hW hcnd _
  exact contract H enc W base args ds gs before hval hW

theorem over : Rows.wholeListsRow.holds Try.pinned (OpenSpec.ofChange Rows.wholeListsSpec) :=
  OpenClaim.holds_of_wide 3 Try.f3 rfl rfl rfl rfl rfl rfl rfl ⟨rfl, rfl, rfl, rfl, rfl⟩ rfl rfl rfl rfl rfl (by kernel_rfl) Try.func3 (by kernel_rfl)
    (of_decide_eq_true (by kernel_rfl)) (by unfold Func.isWrapper; first | (rw [if_pos (by decide +kernel)]; kernel_rfl) | (rw [if_neg (by decide +kernel)]; exact ⟨rfl, rfl⟩))
    (fun os started H enc _ => lifted os started H enc)

/-- the statement -/
theorem proved : Rows.WholeListsSaid :=
  over
#print axioms proved
end Go.Proofs.Ytpnginnjbdedbaa.wholeLists
