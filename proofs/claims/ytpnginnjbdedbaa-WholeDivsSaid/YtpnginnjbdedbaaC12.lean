import Derived.Test.YtpnginnjbdedbaaC11
import Derived.Test.YtpnginnjbdedbaaRows
import Derived.Test.YtpnginnjbdedbaaC1
import Derived.WalkKit
import Derived.ProofKit
import Derived.OpenShut
import Derived.Carry
import Derived.JoinedCond
import Derived.ChangeSlices
/- The frame of a law's row: what came in reads as it did. -/
namespace Go.Proofs.Ytpnginnjbdedbaa
open Go.ChangeShapes Go.WideShapes Go.ChangeAt Go.RowKit

theorem own : ownKnob Try.prog.godebug = none := by kernel_rfl

theorem trodAll_keep {H : Type} {enc : TypeId × Value → H} {P : Program} (hl : laidOutB P = true) {W W' : World} (hb : Below W.heap.size W W') {sp : Nat → Bool} :
    ∀ (ts : List TypeId) (vs : List Value) (ds : List (DataW H)) (ps : List MemPlace), DataW.TrodAll enc P W 0 (fun _ => true) true ts vs ds ps → (∀ t ∈ ts, P.readableRec t = true ∧ t < P.types.size) →
      (∀ x ∈ ps, x.block < W.heap.size) → (∀ x ∈ ps, sp x.block = true) → DataW.TrodAll enc P W' 0 sp true ts vs ds ps
  | [], vs, ds, ps, h, _, _, _ => by
    obtain ⟨rfl, rfl, rfl⟩ := trodAll_nil h
    exact trodAll_mk0
  | t :: ts, vs, ds, ps, h, ht, hlt, hsp => by
    obtain ⟨v, vs', d, ds', p, q, rfl, rfl, rfl, h0, h1⟩ := trodAll_cons h
    refine trodAll_cons_mk ?_ (trodAll_keep hl hb ts vs' ds' q h1 (fun t' h' => ht t' (List.mem_cons_of_mem _ h')) (fun x hx => hlt x (List.mem_append_right _ hx)) (fun x hx => hsp x (List.mem_append_right _ hx)))
    obtain ⟨hr, hrow⟩ := ht t List.mem_cons_self
    exact WideElems.Trod_stays hl hr hrow h0 (fun x hx => hb.same (hlt x (List.mem_append_left _ hx))) (fun x hx => hsp x (List.mem_append_left _ hx))

theorem laidOut : laidOutB Try.prog = true := by kernel_rfl

set_option maxRecDepth 100000 in
/-- the post of a law that has returned true and written nothing that was there -/
theorem law_post {H : Type} {enc : TypeId × Value → H} {f : Func} {s : ChangeSpec} {W W' : World} {args : Array Value} {ds gs : List (DataW H)} {before : List MemPlace} {bt : TypeId}
    (hW : DataW.Whole enc Try.prog f.params.toList s.vars false W args.toList ds gs before) (hb : Below W.heap.size W W') (hv : s.vars = []) (hrt : f.resultTypes = #[bt]) (hbt : Try.prog.underlying bt = some .bool)
    (hpar : ∀ t ∈ f.params.toList, Try.prog.readableRec t = true ∧ t < Try.prog.types.size)
    (hres : (s.fn H (ds ++ gs)).results = [.lit (.bool true)]) (hargs : (s.fn H (ds ++ gs)).args = ds) (hvs : (s.fn H (ds ++ gs)).vars = []) :
    s.post enc Try.prog f false true false false W args (.bool true) W' := by
  have hlt : ∀ p ∈ before, p.block < W.heap.size := fun p hp => hW.lt p hp
  have hW' := hW
  obtain ⟨p, q, hA, hV, rfl, hfz, hnd⟩ := hW
  have hq : q = [] := by
    rw [hv] at hV
    exact (trodVars_none hV).2
  subst hq
  refine post_of_below (pa := p) (pv := []) hW' (fun _ _ _ => ?_) (fun sp hsp => ?_) (fun sp hsp => ?_) rfl hb ?_
  · rw [hres, hrt]
    exact trodAll_cons_mk (shut_bool hbt _) trodAll_mk0
  · rw [hargs]
    exact trodAll_keep laidOut hb _ _ _ _ hA hpar (fun x hx => hlt x (List.mem_append_left _ hx)) (fun x hx => hsp x (List.mem_append_left _ hx))
  · rw [hv, hvs]
    rfl
  · exact ok_one hrt rfl (okWide_bool_mk hbt _)
end Go.Proofs.Ytpnginnjbdedbaa

/- Arguments opened: a whole number. -/
namespace Go.Proofs.Ytpnginnjbdedbaa.Opened
open Go.ChangeShapes Go.WideShapes Go.ChangeAt Go.RowKit

section
variable {H : Type} {enc : TypeId × Value → H} {w : World} {base fuel : Nat} {spare : Nat → Bool} {held : Bool}
theorem c26 : Try.prog.cellsOf 26 = 2 := by kernel_rfl
theorem c9 : Try.prog.cellsOf 9 = 1 := by kernel_rfl
theorem c4 : Try.prog.cellsOf 4 = 1 := by kernel_rfl
set_option maxRecDepth 100000 in
theorem open_whole {cs : List Value} {x : DataW H × List MemPlace} (h : DataW.trod enc Try.prog w base spare held fuel 26 cs = some x) :
    ∃ (b : Bool) (s : ByteArray), cs = [.bool b, .string s] ∧ x.1 = .agg [.lit (.bool b), .lit (.string s.data.toList)] := by
  obtain ⟨xs, n, _, rfl, hl, hx, hf⟩ := DataW.trod_struct Try.underlying26 h
  rw [c26] at hl
  match cs, hl, xs, hx with
  | [d0, d1], _, [x0, x1], _ =>
    have h0 : DataW.trod enc Try.prog w base spare held n 4 ((List.drop 0 [d0, d1]).take (Try.prog.cellsOf 4)) = some x0 := hf 0 _ rfl
    have h1 : DataW.trod enc Try.prog w base spare held n 9 ((List.drop 1 [d0, d1]).take (Try.prog.cellsOf 9)) = some x1 := hf 1 _ rfl
    rw [c4] at h0
    rw [c9] at h1
    obtain ⟨b, hb, hx0⟩ := DataW.trod_bool Try.underlying4 h0
    obtain ⟨s, hs, hx1, _⟩ := DataW.trod_string Try.underlying9 h1
    simp only [List.drop, List.take, List.cons.injEq, and_true] at hb hs
    subst hb hs hx0 hx1
    exact ⟨b, s, rfl, rfl⟩
set_option maxRecDepth 100000 in
/-- an argument that is a whole number -/
theorem open_arg {W : World} {b0 : Nat} {v : Value} {d : DataW H} {p : List MemPlace} {P0 : Nat → Bool} (hval : Value.okWide Try.prog W .any b0 26 v) (h : DataW.Trod enc Try.prog W 0 P0 true 26 v d p) :
    ∃ (b : Bool) (s : ByteArray), v = .agg #[.bool b, .string s] ∧ d = .agg [.lit (.bool b), .lit (.string s.data.toList)] := by
  obtain ⟨cs, rfl, hsz⟩ := okWide_struct Try.underlying26 hval
  obtain ⟨fuel, hf⟩ := h
  obtain ⟨b, s, hcs, hd⟩ := open_whole hf
  have ecs : cs = #[.bool b, .string s] := by
    have : cs.toList = _ := hcs
    rw [← Array.toArray_toList (xs := cs), this]
  exact ⟨b, s, by rw [ecs], hd⟩
/-- an argument that is a text -/
theorem open_str {P : Program} {r : Reach} {b0 : Nat} {t : TypeId} {v : Value} {d : DataW H} {ps : List MemPlace} (ht : P.underlying t = some .string) (hval : Value.okWide P w r b0 t v) (hd : DataW.Trod enc P w base spare held t v d ps) :
    ∃ s : ByteArray, v = .string s ∧ d = .lit (.string s.data.toList) ∧ ps = [] := by
  obtain ⟨s, rfl⟩ := okWide_string ht hval
  obtain ⟨fuel, hf⟩ := hd
  obtain ⟨s', h, hx, _⟩ := DataW.trod_string ht hf
  simp [Value.cells] at h
  subst h
  simp only [Prod.mk.injEq] at hx
  exact ⟨s, rfl, hx.1, hx.2⟩
end
end Go.Proofs.Ytpnginnjbdedbaa.Opened
