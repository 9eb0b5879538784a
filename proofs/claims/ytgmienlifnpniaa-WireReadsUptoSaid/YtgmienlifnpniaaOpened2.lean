/- A script of calls that came in, opened. -/
import Derived.Test.YtgmienlifnpniaaOpened
import Derived.Test.YtgmienlifnpniaaReads
import Derived.Deep.SlicePairs
namespace Go.Proofs.Ytgmienlifnpniaa.Opened
open Go.ChangeShapes Go.WideShapes Go.ChangeAt Go.RowKit Go.Deep

theorem bulk_pos {H : Type} (d : DataW H) : 1 ≤ Rows.uptoBulk d := by
  cases d with
  | lit v => cases v <;> simp [Rows.uptoBulk]
  | nil => simp [Rows.uptoBulk]
  | ptr d => simp [Rows.uptoBulk]
  | slice a b => simp [Rows.uptoBulk]
  | agg a => simp [Rows.uptoBulk]
  | iface t d => simp [Rows.uptoBulk]
  | map m => simp [Rows.uptoBulk]
  | held h => simp [Rows.uptoBulk]
theorem bulk_len {H : Type} : ∀ ds : List (DataW H), ds.length ≤ Rows.uptoBulkAll ds
  | [] => Nat.zero_le _
  | d :: ds => by
    have h1 := bulk_pos d
    have h2 := bulk_len ds
    show ds.length + 1 ≤ Rows.uptoBulk d + Rows.uptoBulkAll ds
    omega

theorem c89 : Try.prog.cellsOf 89 = 2 := by kernel_rfl
theorem c3 : Try.prog.cellsOf 3 = 1 := by kernel_rfl
set_option maxRecDepth 100000 in
theorem open_ops {H : Type} {enc : TypeId × Value → H} {W : World} {base : Nat} {v1 : Value} {d1 : DataW H} {p1 : List MemPlace} (hval : Value.okWide Try.prog W .any base 83 v1)
    (h1 : DataW.Trod enc Try.prog W 0 (fun _ => true) true 83 v1 d1 p1) :
    ∃ (A : Option Addr) (n c : Nat), v1 = .slice A n c ∧ ReadsOps W W.heap.size A n ∧ n ≤ c ∧ c ≤ maxLen ∧ n ≤ Rows.uptoBulk d1 := by
  obtain ⟨a1, len, cap, rfl⟩ := okWide_slice Try.underlying83 hval
  obtain ⟨fuel, hf⟩ := h1
  rcases open_slice_pairs Try.underlying83 Try.underlying89 c89 rfl rfl c3 c3 hf with ⟨hcs, hx⟩ | ⟨a, len', cap', m, n, V0, V1, D0, D1, P0, P1, hcs, _, hl, hm, hmm, hx, hcell⟩
  · simp [Value.cells] at hcs
    obtain ⟨rfl, rfl, rfl⟩ := hcs
    exact ⟨none, 0, 0, rfl, fun h => absurd h (by decide), Nat.le_refl _, Nat.zero_le _, Nat.zero_le _⟩
  · simp [Value.cells] at hcs
    obtain ⟨rfl, rfl, rfl⟩ := hcs
    simp only [Prod.mk.injEq] at hx
    obtain ⟨rfl, rfl⟩ := hx
    simp only [if_true] at hmm
    refine ⟨some a, len, cap, rfl, fun h0 => ?_, hl, hm, ?_⟩
    · obtain ⟨ab, ao, spot⟩ := a
      have hspot : spot = none := by
        have := World.cell?_spot (hcell 0 (by omega)).1
        simpa [Addr.add] using this
      subst hspot
      refine ⟨ab, ao, rfl, ?_, fun j hj => ?_⟩
      · have := block_lt_of_cell (hcell 0 (by omega)).1
        rwa [block_of_add] at this
      · obtain ⟨e0, e1, t0, t1⟩ := hcell j (by omega)
        obtain ⟨K, hK, _, _⟩ := DataW.trod_int Try.underlying3 t0
        obtain ⟨M, hM, _, wM⟩ := DataW.trod_int Try.underlying3 t1
        simp only [List.cons.injEq, and_true] at hK hM
        rw [hK] at e0
        rw [hM] at e1
        rw [Addr.add_lit] at e0 e1
        exact ⟨K, M, by have := bounds_i64 wM; omega, e0, by rw [← Nat.add_assoc] at e1; exact e1⟩
    · have := bulk_len (H := H) ((List.range len).map fun i => .agg [D0 i, D1 i])
      simp only [List.length_map, List.length_range] at this
      simp only [Rows.uptoBulk]
      omega
end Go.Proofs.Ytgmienlifnpniaa.Opened
