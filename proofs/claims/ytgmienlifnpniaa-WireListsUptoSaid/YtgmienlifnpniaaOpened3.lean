/- A list of pairs that came in, opened. -/
import Derived.Test.YtgmienlifnpniaaOpened
import Derived.Test.YtgmienlifnpniaaLists0
import Derived.Deep.Slices
namespace Go.Proofs.Ytgmienlifnpniaa.Opened
open Go.ChangeShapes Go.WideShapes Go.ChangeAt Go.RowKit Go.Deep

theorem bulk_pos' {H : Type} (d : DataW H) : 1 ≤ Rows.uptoBulk d := by
  cases d with
  | lit v => cases v <;> simp [Rows.uptoBulk]
  | nil => simp [Rows.uptoBulk]
  | ptr d => simp [Rows.uptoBulk]
  | slice a b => simp [Rows.uptoBulk]
  | agg a => simp [Rows.uptoBulk]
  | iface t d => simp [Rows.uptoBulk]
  | map m => simp [Rows.uptoBulk]
  | held h => simp [Rows.uptoBulk]
theorem bulk_len' {H : Type} : ∀ ds : List (DataW H), ds.length ≤ Rows.uptoBulkAll ds
  | [] => Nat.zero_le _
  | d :: ds => by
    have h1 := bulk_pos' d
    have h2 := bulk_len' ds
    show ds.length + 1 ≤ Rows.uptoBulk d + Rows.uptoBulkAll ds
    omega
theorem c57 : Try.prog.cellsOf 57 = 2 := by kernel_rfl
theorem c22' : Try.prog.cellsOf 22 = 1 := by kernel_rfl
set_option maxRecDepth 100000 in
theorem open_pair {H : Type} {enc : TypeId × Value → H} {w : World} {base fuel : Nat} {spare : Nat → Bool} {held : Bool} {cs : List Value} {x : DataW H × List MemPlace} (h : DataW.trod enc Try.prog w base spare held fuel 57 cs = some x) :
    ∃ p : Nat × Nat, cs = [uv p.1, uv p.2] ∧ p.1 < 18446744073709551616 ∧ p.2 < 18446744073709551616 := by
  obtain ⟨xs, n, _, _, hl, hx, hf⟩ := DataW.trod_array Try.underlying57 h
  rw [c57] at hl
  rw [c22'] at hf
  match cs, hl, xs, hx with
  | [d0, d1], _, [x0, x1], _ =>
    have h0 : DataW.trod enc Try.prog w base spare held n 22 [d0] = some x0 := hf 0 (by decide)
    have h1 : DataW.trod enc Try.prog w base spare held n 22 [d1] = some x1 := hf 1 (by decide)
    obtain ⟨X, e0, _, w0⟩ := DataW.trod_int Try.underlying22 h0
    obtain ⟨Y, e1, _, w1⟩ := DataW.trod_int Try.underlying22 h1
    simp only [List.cons.injEq, and_true] at e0 e1
    have b0 := bounds_u64 w0
    have b1 := bounds_u64 w1
    obtain ⟨X, rfl⟩ := Int.eq_ofNat_of_zero_le b0.1
    obtain ⟨Y, rfl⟩ := Int.eq_ofNat_of_zero_le b1.1
    exact ⟨(X, Y), by rw [e0, e1]; rfl, by show X < _; omega, by show Y < _; omega⟩

set_option maxRecDepth 100000 in
theorem open_pairs {H : Type} {enc : TypeId × Value → H} {W : World} {base : Nat} {v1 : Value} {d1 : DataW H} {p1 : List MemPlace} (hval : Value.okWide Try.prog W .any base 56 v1)
    (h1 : DataW.Trod enc Try.prog W 0 (fun _ => true) true 56 v1 d1 p1) :
    ∃ (A : Option Addr) (c : Nat) (l : List (Nat × Nat)), v1 = .slice A l.length c ∧ ReadsP W W.heap.size A l ∧ (0 < l.length → ∃ ab ao, A = some ⟨ab, ao, none⟩) ∧ Wire.Small l ∧ l.length ≤ Rows.uptoBulk d1 := by
  obtain ⟨a1, len, cap, rfl⟩ := okWide_slice Try.underlying56 hval
  obtain ⟨fuel, hf⟩ := h1
  rcases open_slice Try.underlying56 hf with ⟨hcs, hx⟩ | ⟨a, len', cap', m, n, D, Pl, hcs, _, hl, hm, hmm, hx, hcell⟩
  · simp [Value.cells] at hcs
    obtain ⟨rfl, rfl, rfl⟩ := hcs
    exact ⟨none, 0, [], rfl, ⟨rfl, fun h => absurd h (by decide)⟩, fun h => absurd h (by decide), (fun p hp => by cases hp), Nat.zero_le _⟩
  · simp [Value.cells] at hcs
    obtain ⟨rfl, rfl, rfl⟩ := hcs
    simp only [Prod.mk.injEq] at hx
    obtain ⟨rfl, rfl⟩ := hx
    simp only [if_true] at hmm
    rw [c57] at hcell
    have each : ∀ i, i < len → ∃ q : Nat × Nat, W.cell? (a.add (i * 2)) = some (uv q.1) ∧ W.cell? (a.add (i * 2 + 1)) = some (uv q.2) ∧ q.1 < 18446744073709551616 ∧ q.2 < 18446744073709551616 := by
      intro i hi
      obtain ⟨cs', h1, h2⟩ := hcell i (by omega)
      obtain ⟨q, rfl, hq1, hq2⟩ := open_pair h2
      obtain ⟨_, hlen, hc⟩ := World.cells?_some h1
      have e0 := hc 0 (by decide)
      have e1 := hc 1 (by decide)
      rw [add_of_add] at e0 e1
      exact ⟨q, e0, e1, hq1, hq2⟩
    obtain ⟨V, hV⟩ := choose_lt (α := Nat × Nat) (p := fun i q => W.cell? (a.add (i * 2)) = some (uv q.1) ∧ W.cell? (a.add (i * 2 + 1)) = some (uv q.2) ∧ q.1 < 18446744073709551616 ∧ q.2 < 18446744073709551616) each
    have hlen : ((List.range len).map V).length = len := by simp
    refine ⟨some a, cap, (List.range len).map V, by rw [hlen], ⟨pcells_len _, fun h0 => ⟨a, rfl, ?_, fun j u hu => ?_⟩⟩, fun h0 => ?_, fun p hp => ?_, ?_⟩
    · rw [hlen] at h0
      have := block_lt_of_cell (hV 0 h0).1
      rwa [block_of_add] at this
    · have hj : j < len * 2 := by
        have := (List.getElem?_eq_some_iff.1 hu).1
        rw [pcells_len, hlen] at this
        exact this
      have hi : j / 2 < ((List.range len).map V).length := by rw [hlen]; omega
      obtain ⟨g0, g1⟩ := pcells_at ((List.range len).map V) (j / 2) hi
      have hVi := hV (j / 2) (by omega)
      have hel : ((List.range len).map V)[j / 2] = V (j / 2) := by simp
      rw [hel] at g0 g1
      rcases Nat.mod_two_eq_zero_or_one j with h | h
      · have ej : j = j / 2 * 2 := by omega
        have e2 : W.cell? (a.add j) = W.cell? (a.add (j / 2 * 2)) := by rw [← ej]
        have e3 : (pcells ((List.range len).map V))[j]? = (pcells ((List.range len).map V))[j / 2 * 2]? := by rw [← ej]
        rw [e2, hVi.1, ← hu, e3, g0]
      · have ej : j = j / 2 * 2 + 1 := by omega
        have e2 : W.cell? (a.add j) = W.cell? (a.add (j / 2 * 2 + 1)) := by rw [← ej]
        have e3 : (pcells ((List.range len).map V))[j]? = (pcells ((List.range len).map V))[j / 2 * 2 + 1]? := by rw [← ej]
        rw [e2, hVi.2.1, ← hu, e3, g1]
    · rw [hlen] at h0
      obtain ⟨ab, ao, spot⟩ := a
      have hspot : spot = none := by
        have := World.cell?_spot (hV 0 h0).1
        simpa [Addr.add] using this
      subst hspot
      exact ⟨ab, ao, rfl⟩
    · rw [List.mem_map] at hp
      obtain ⟨i, hi, rfl⟩ := hp
      have := hV i (List.mem_range.1 hi)
      exact ⟨this.2.2.1, this.2.2.2⟩
    · rw [hlen]
      have := bulk_len' (H := H) ((List.range len).map D)
      simp only [List.length_map, List.length_range] at this
      simp only [Rows.uptoBulk]
      omega
end Go.Proofs.Ytgmienlifnpniaa.Opened
