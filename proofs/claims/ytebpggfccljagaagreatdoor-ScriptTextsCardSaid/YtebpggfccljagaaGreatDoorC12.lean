import Derived.Test.YtebpggfccljagaaGreatDoorC11
import Derived.Test.YtebpggfccljagaaGreatDoorC4
import Derived.Sort.OwnSortedInts
import Derived.Test.YtebpggfccljagaaGreatDoorC8
/- What Needs says: plain. -/
namespace Go.Proofs.YtebpggfccljagaaGreatDoor
open Go.RowKit
open Wh
set_option linter.unusedSimpArgs false
set_option linter.unusedVariables false

theorem atP_lt {ps : List StP} {x : List UInt8} {b k : Nat} (h : atP ps x b = some k) : k < b ∧ k < ps.length := by
  unfold atP at h
  rw [List.findIdx?_eq_some_iff_getElem] at h
  obtain ⟨h1, _⟩ := h
  rw [List.length_take] at h1
  omega
theorem atP_is {ps : List StP} {x : List UInt8} {b k : Nat} (h : atP ps x b = some k) : ∃ h : k < ps.length, ps[k].nm.data.toList = x := by
  have h0 := (atP_lt h).2
  refine ⟨h0, ?_⟩
  unfold atP at h
  rw [List.findIdx?_eq_some_iff_getElem] at h
  obtain ⟨h1, h2, _⟩ := h
  rw [List.getElem_take] at h2
  simpa using h2
theorem atP_first {ps : List StP} {x : List UInt8} {b k : Nat} (h : atP ps x b = some k) : ∀ j (hj : j < ps.length), j < k → ps[j].nm.data.toList ≠ x := by
  have h0 := atP_lt h
  unfold atP at h
  rw [List.findIdx?_eq_some_iff_getElem] at h
  obtain ⟨h1, h2, h3⟩ := h
  intro j hj hjk
  have h4 := h3 j hjk
  rw [List.getElem_take] at h4
  simpa using h4
/-- a place found among the first ones is found among more -/
theorem atP_more {ps : List StP} {x : List UInt8} {b c k : Nat} (h : atP ps x b = some k) (hc : b ≤ c) : atP ps x c = some k := by
  obtain ⟨h1, h2⟩ := atP_is h
  exact atP_hit (by have := (atP_lt h).1; omega) h1 h2 (atP_first h)
/-- what a statement uses -/
def Uses (ps : List StP) (i j : Nat) : Prop := ∃ p, ps[i]? = some p ∧ ∃ x ∈ p.xs, x.k = 1 ∧ atP ps x.nm.data.toList i = some j
/-- what the last one needs: it, and what is used by what is needed -/
def Nd (ps : List StP) (last j : Nat) : Prop := ∀ S : Nat → Prop, S last → (∀ i k, S i → Uses ps i k → S k) → S j
theorem Nd.top {ps : List StP} {last : Nat} : Nd ps last last := fun _ h _ => h
theorem Nd.step {ps : List StP} {last i j : Nat} (h : Nd ps last i) (hu : Uses ps i j) : Nd ps last j := fun S h0 h1 => h1 i j (h S h0 h1) hu
theorem Nd.cases_ {ps : List StP} {last j : Nat} (h : Nd ps last j) : j = last ∨ ∃ i, Nd ps last i ∧ Uses ps i j := by
  have h2 := h (fun j => Nd ps last j ∧ (j = last ∨ ∃ i, Nd ps last i ∧ Uses ps i j)) ⟨Nd.top, .inl rfl⟩ (fun i k hi hu => ⟨hi.1.step hu, .inr ⟨i, hi.1, hu⟩⟩)
  exact h2.2
theorem Uses.lt {ps : List StP} {i j : Nat} (h : Uses ps i j) : j < i := by
  obtain ⟨p, _, x, _, _, hx⟩ := h
  exact (atP_lt hx).1
theorem Nd.le {ps : List StP} {last j : Nat} (h : Nd ps last j) : j ≤ last := h (fun j => j ≤ last) (Nat.le_refl _) (fun i k hi hu => by have := hu.lt; omega)
/-- the places needed, in order -/
def NeedL (ps : List StP) (last : Nat) (l : List Int) : Prop := ∃ m : List Nat, l = m.map (fun k : Nat => (k : Int)) ∧ m.Pairwise (· < ·) ∧ ∀ i, i ∈ m ↔ Nd ps last i
/-- a row in order is told by its members -/
theorem ordered_ext : ∀ {a b : List Nat}, a.Pairwise (· < ·) → b.Pairwise (· < ·) → (∀ i, i ∈ a ↔ i ∈ b) → a = b
  | [], [], _, _, _ => rfl
  | [], y :: b, _, _, h => absurd ((h y).2 (by simp)) (by simp)
  | x :: a, [], _, _, h => absurd ((h x).1 (by simp)) (by simp)
  | x :: a, y :: b, ha, hb, h => by
    rw [List.pairwise_cons] at ha hb
    have hxy : x = y := by
      have h1 := (h x).1 (by simp)
      have h2 := (h y).2 (by simp)
      rcases List.mem_cons.1 h1 with e | h1
      · exact e
      rcases List.mem_cons.1 h2 with e | h2
      · exact e.symm
      have h3 := hb.1 x h1
      have h4 := ha.1 y h2
      omega
    subst hxy
    rw [ordered_ext ha.2 hb.2 (fun i => ?_)]
    have h5 := h i
    constructor
    · intro hi
      have := ha.1 i hi
      rcases List.mem_cons.1 (h5.1 (by simp [hi])) with e | e
      · omega
      · exact e
    · intro hi
      have := hb.1 i hi
      rcases List.mem_cons.1 (h5.2 (by simp [hi])) with e | e
      · omega
      · exact e
theorem NeedL.uniq {ps : List StP} {last : Nat} {a b : List Int} (h : NeedL ps last a) (k : NeedL ps last b) : a = b := by
  obtain ⟨m, rfl, h1, h2⟩ := h
  obtain ⟨n, rfl, k1, k2⟩ := k
  rw [ordered_ext h1 k1 (fun i => (h2 i).trans (k2 i).symm)]
/-- what Needs says -/
def NeedsSays (ps : List StP) (x : List UInt8) (l : List Int) (z : Int) : Prop :=
  (z ≠ 0 ∧ l = [] ∧ ∃ n, OrdSays ps n z) ∨ (z = 401 ∧ l = [] ∧ OrdSays ps ps.length 0 ∧ (x = [] ∨ atP ps x ps.length = none)) ∨ (z = 0 ∧ OrdSays ps ps.length 0 ∧ x ≠ [] ∧ ∃ last, atP ps x ps.length = some last ∧ NeedL ps last l)
theorem OrdSays.full {ps : List StP} {n : Nat} (h : OrdSays ps n 0) : n = ps.length := by
  rcases h with ⟨_, _, _, h⟩ | ⟨_, _, _, _, h⟩ | ⟨_, _, h, _⟩
  · cases h
  · cases h
  · exact h
theorem OrdSays.all {ps : List StP} {n : Nat} (h : OrdSays ps n 0) : (∀ p ∈ ps, p.ok) ∧ ∀ j, j < ps.length → Stands ps j := by
  rcases h with ⟨_, _, _, h⟩ | ⟨_, _, _, _, h⟩ | ⟨h1, h2, _, _⟩
  · cases h
  · cases h
  · exact ⟨h1, h2⟩
theorem NeedsSays.uniq {ps : List StP} {x : List UInt8} {l m : List Int} {z y : Int} (h : NeedsSays ps x l z) (k : NeedsSays ps x m y) : l = m ∧ z = y := by
  rcases h with ⟨h1, rfl, n, h2⟩ | ⟨rfl, rfl, h2, h3⟩ | ⟨rfl, h2, h3, last, h4, h5⟩
  · rcases k with ⟨k1, rfl, n', k2⟩ | ⟨rfl, rfl, k2, k3⟩ | ⟨rfl, k2, k3, last', k4, k5⟩
    · exact ⟨rfl, (h2.uniq k2).2⟩
    · exact absurd (h2.uniq k2).2 h1
    · exact absurd (h2.uniq k2).2 h1
  · rcases k with ⟨k1, rfl, n', k2⟩ | ⟨rfl, rfl, k2, k3⟩ | ⟨rfl, k2, k3, last', k4, k5⟩
    · exact absurd (k2.uniq h2).2 k1
    · exact ⟨rfl, rfl⟩
    · rcases h3 with h3 | h3
      · exact absurd h3 k3
      · rw [h3] at k4; cases k4
  · rcases k with ⟨k1, rfl, n', k2⟩ | ⟨rfl, rfl, k2, k3⟩ | ⟨rfl, k2, k3, last', k4, k5⟩
    · exact absurd (k2.uniq h2).2 k1
    · rcases k3 with k3 | k3
      · exact absurd k3 h3
      · rw [k3] at h4; cases h4
    · rw [h4] at k4
      injection k4 with k4
      subst k4
      exact ⟨h5.uniq k5, rfl⟩
/-- what is marked while the places are gone through from above, those from i on done -/
def Marked (ps : List StP) (last i : Nat) (f : Nat → Bool) : Prop := ∀ j, f j = true ↔ (j = last ∨ ∃ k, i ≤ k ∧ Nd ps last k ∧ Uses ps k j)
theorem Marked.at_ {ps : List StP} {last i j : Nat} {f : Nat → Bool} (h : Marked ps last (i + 1) f) (hj : i ≤ j) : f j = true ↔ Nd ps last j := by
  rw [h j]
  constructor
  · rintro (rfl | ⟨k, _, h1, h2⟩)
    · exact Nd.top
    · exact h1.step h2
  · intro hn
    rcases hn.cases_ with e | ⟨k, h1, h2⟩
    · exact .inl e
    · exact .inr ⟨k, by have := h2.lt; omega, h1, h2⟩
theorem Marked.start {ps : List StP} {last : Nat} : Marked ps last (last + 1) (fun j => if j = last then true else false) := fun j => by
  constructor
  · intro h; exact .inl (by simpa using h)
  · rintro (h | ⟨k, h1, h2, _⟩)
    · simpa using h
    · have := h2.le; omega
/-- a place that is not needed marks nothing -/
theorem Marked.pass {ps : List StP} {last i : Nat} {f : Nat → Bool} (h : Marked ps last (i + 1) f) (hf : f i = false) : Marked ps last i f := fun j => by
  rw [h j]
  constructor
  · rintro (h1 | ⟨k, h1, h2⟩)
    · exact .inl h1
    · exact .inr ⟨k, by omega, h2⟩
  · rintro (h1 | ⟨k, h1, h2, h3⟩)
    · exact .inl h1
    · rcases Nat.lt_or_ge i k with hk | hk
      · exact .inr ⟨k, hk, h2, h3⟩
      · have e : k = i := by omega
        subst e
        have h4 := (h.at_ (Nat.le_refl _)).2 h2
        rw [hf] at h4
        cases h4
/-- .. while the arguments of place i are gone through, those ahead of q done -/
def MarkQ (ps : List StP) (last i q : Nat) (xs : List ArgP) (f : Nat → Bool) : Prop := ∀ j, f j = true ↔ ((j = last ∨ ∃ k, i + 1 ≤ k ∧ Nd ps last k ∧ Uses ps k j) ∨ ∃ x ∈ xs.take q, x.k = 1 ∧ atP ps x.nm.data.toList i = some j)
theorem MarkQ.start {ps : List StP} {last i : Nat} {xs : List ArgP} {f : Nat → Bool} (h : Marked ps last (i + 1) f) : MarkQ ps last i 0 xs f := fun j => by
  rw [h j]; simp
theorem MarkQ.pass {ps : List StP} {last i q : Nat} {xs : List ArgP} {f : Nat → Bool} (h : MarkQ ps last i q xs f) (hq : q < xs.length) (hk : xs[q].k ≠ 1) : MarkQ ps last i (q + 1) xs f := fun j => by
  rw [h j, show xs.take (q + 1) = xs.take q ++ [xs[q]] from List.take_succ_eq_append_getElem hq]
  constructor
  · rintro (h1 | ⟨x, hx, h2⟩)
    · exact .inl h1
    · exact .inr ⟨x, List.mem_append_left _ hx, h2⟩
  · rintro (h1 | ⟨x, hx, h2, h3⟩)
    · exact .inl h1
    · rcases List.mem_append.1 hx with hx | hx
      · exact .inr ⟨x, hx, h2, h3⟩
      · rw [List.mem_singleton.1 hx] at h2
        exact absurd h2 hk
theorem MarkQ.mark {ps : List StP} {last i q d : Nat} {xs : List ArgP} {f : Nat → Bool} (h : MarkQ ps last i q xs f) (hq : q < xs.length) (hk : xs[q].k = 1) (ha : atP ps xs[q].nm.data.toList i = some d) : MarkQ ps last i (q + 1) xs (fun j => if j = d then true else f j) := fun j => by
  rw [show xs.take (q + 1) = xs.take q ++ [xs[q]] from List.take_succ_eq_append_getElem hq]
  by_cases hj : j = d
  · subst hj
    simp only [if_true, true_iff]
    exact .inr ⟨_, List.mem_append_right _ (List.mem_singleton.2 rfl), hk, ha⟩
  · simp only [hj, if_false]
    rw [h j]
    constructor
    · rintro (h1 | ⟨x, hx, h2⟩)
      · exact .inl h1
      · exact .inr ⟨x, List.mem_append_left _ hx, h2⟩
    · rintro (h1 | ⟨x, hx, h2, h3⟩)
      · exact .inl h1
      · rcases List.mem_append.1 hx with hx | hx
        · exact .inr ⟨x, hx, h2, h3⟩
        · rw [List.mem_singleton.1 hx, ha] at h3
          injection h3 with h3
          exact absurd h3.symm hj
theorem MarkQ.done {ps : List StP} {last i q : Nat} {p : StP} {f : Nat → Bool} (h : MarkQ ps last i q p.xs f) (hp : ps[i]? = some p) (hq : p.xs.length ≤ q) (hn : Nd ps last i) : Marked ps last i f := fun j => by
  rw [h j, List.take_of_length_le hq]
  constructor
  · rintro ((h1 | ⟨k, h1, h2⟩) | ⟨x, h1, h2, h3⟩)
    · exact .inl h1
    · exact .inr ⟨k, by omega, h2⟩
    · exact .inr ⟨i, Nat.le_refl _, hn, p, hp, x, h1, h2, h3⟩
  · rintro (h1 | ⟨k, h1, h2, h3⟩)
    · exact .inl (.inl h1)
    · rcases Nat.lt_or_ge i k with hk | hk
      · exact .inl (.inr ⟨k, hk, h2, h3⟩)
      · have e : k = i := by omega
        subst e
        obtain ⟨p', hp', x, hx, h4, h5⟩ := h3
        rw [hp] at hp'
        injection hp' with hp'
        subst hp'
        exact .inr ⟨x, hx, h4, h5⟩
theorem MarkQ.self {ps : List StP} {last i q : Nat} {xs : List ArgP} {f g : Nat → Bool} (h : MarkQ ps last i q xs f) (hg : Marked ps last (i + 1) g) : f i = g i := by
  have h1 := h i
  have h2 := hg i
  cases hgi : g i with
  | true => rw [hgi] at h2; exact h1.2 (.inl (h2.1 rfl))
  | false =>
    cases hfi : f i with
    | false => rfl
    | true =>
      rcases h1.1 hfi with h3 | ⟨x, _, _, h3⟩
      · have := h2.2 h3; rw [hgi] at this; cases this
      · have := (atP_lt h3).1; omega
end Go.Proofs.YtebpggfccljagaaGreatDoor

/- Rows of marks. -/
namespace Go.Proofs.YtebpggfccljagaaGreatDoor
open Go.RowKit
set_option linter.unusedSimpArgs false
set_option linter.unusedVariables false

/-- marks -/
def mcells (f : Nat → Bool) (n : Nat) : Array Value := ((List.range n).map (fun j => Value.bool (f j))).toArray
theorem mcells_get (f : Nat → Bool) {n j : Nat} (h : j < n) : (mcells f n)[j]? = some (.bool (f j)) := by
  unfold mcells
  rw [List.getElem?_toArray, List.getElem?_map, List.getElem?_range h]
  rfl
theorem mcells_set (f : Nat → Bool) (n d : Nat) : (mcells f n).setIfInBounds d (.bool true) = mcells (fun j => if j = d then true else f j) n := by
  unfold mcells
  rw [List.setIfInBounds_toArray]
  congr 1
  refine List.ext_getElem (by simp) fun j h1 h2 => ?_
  rw [List.getElem_set]
  simp only [List.getElem_map, List.getElem_range]
  by_cases h : d = j
  · rw [if_pos h, if_pos h.symm]
  · rw [if_neg h, if_neg (fun e => h e.symm)]
theorem infoM : (Tryz.prog.info? 4).map (fun i => (i.zero, i.size, i.bytes)) = some (some (.bool false), 1, 1) := by kernel_rfl
theorem madeM (n : Nat) : madeCells (Value.cells (.bool false)) (n * 1) = mcells (fun _ => false) n := by
  rw [Nat.mul_one]
  have h : (madeCells (Value.cells (.bool false)) n).toList = (List.range n).map (fun j => Value.bool false) := by
    unfold madeCells
    rw [Array.toList_map, Array.toList_range]
    refine List.map_congr_left fun i _ => ?_
    have e : i % (Value.bool false).cells.size = 0 := Nat.mod_one i
    rw [e]
    rfl
  unfold mcells
  rw [← h]
theorem run_makeM (n : Nat) (hn : n ≤ 1000) (w : World) :
    (Instr.makeSlice 109 (.int .i64 (n : Int)) (.int .i64 (n : Int))).run Tryz.prog w = .ok (.slice (some ⟨w.heap.size, 0, none⟩) n n) (w.alloc (.cells (mcells (fun _ => false) n) 4)) := by
  obtain ⟨i0, hi, hz0, hz1, hz2⟩ := info_parts infoM
  have h := run_make_rowN (P := Tryz.prog) 109 4 i0 (.bool false) Tryz.underlying109 hi hz0 .i64 .i64 n n (Nat.le_refl _) (by rw [hz2]; omega) (by omega) w
  rw [hz1, madeM] at h
  exact h
end Go.Proofs.YtebpggfccljagaaGreatDoor

/- script.Needs. -/
namespace Go.Proofs.YtebpggfccljagaaGreatDoor
open Go.RowKit Go.ChangeShapes Go.Maps
open Wh
set_option linter.unusedSimpArgs false
set_option linter.unusedVariables false

theorem mapAt_none (ps : List StP) : ∀ i, has (mapAt ps i) (.string []) = false
  | 0 => rfl
  | i + 1 => by
    rw [mapAt]
    split
    · rename_i p _
      split
      · exact mapAt_none ps i
      · rename_i h
        rw [has_put_other (fun e => h (by injection e with e; exact e.symm))]
        exact mapAt_none ps i
    · exact mapAt_none ps i
/-- the full map says where a name stands -/
theorem mapAt_full {ps : List StP} (hs : ∀ j, j < ps.length → Stands ps j) (x : List UInt8) :
    (has (mapAt ps ps.length) (.string x) = false ∧ (x = [] ∨ atP ps x ps.length = none)) ∨ (has (mapAt ps ps.length) (.string x) = true ∧ x ≠ [] ∧ ∃ k, atP ps x ps.length = some k ∧ ∀ c : Int, (mapAt ps ps.length).atKey (.string x) (.lit (.int .i64 0)) = .lit (.int .i64 c) → c = (k : Int)) := by
  by_cases hx : x = []
  · subst hx
    exact .inl ⟨mapAt_none ps _, .inl rfl⟩
  · obtain ⟨h1, h2⟩ := mapAt_says hx ps.length (Nat.le_refl _) hs
    cases h : atP ps x ps.length with
    | none => rw [h] at h1; exact .inl ⟨h1, .inr rfl⟩
    | some k =>
      rw [h] at h1
      refine .inr ⟨h1, hx, k, rfl, fun c hc => ?_⟩
      rw [h2 k _ h] at hc
      injection hc with hc
      injection hc with _ hc
      exact hc.symm
theorem OrdSays.code {ps : List StP} {n : Nat} {z : Int} (h : OrdSays ps n z) : z = 0 ∨ z = 2 ∨ z = 401 := by
  rcases h with ⟨_, _, _, h⟩ | ⟨_, _, _, _, h⟩ | ⟨_, _, _, h⟩
  · exact .inr (.inl h)
  · exact .inr (.inr h)
  · exact .inl h
/-- the places needed, the last one first, those from i on -/
def Downs (ps : List StP) (last i : Nat) (l : List Int) : Prop := ∃ m : List Nat, l = m.map (fun k : Nat => (k : Int)) ∧ m.Pairwise (fun a b => b < a) ∧ ∀ j, j ∈ m ↔ (i ≤ j ∧ Nd ps last j)
theorem Downs.start {ps : List StP} {last : Nat} : Downs ps last (last + 1) [] := ⟨[], rfl, List.Pairwise.nil, fun j => ⟨fun h => (by cases h), fun h => by have := h.2.le; omega⟩⟩
theorem Downs.pass {ps : List StP} {last i : Nat} {l : List Int} (h : Downs ps last (i + 1) l) (hn : ¬ Nd ps last i) : Downs ps last i l := by
  obtain ⟨m, h1, h2, h3⟩ := h
  refine ⟨m, h1, h2, fun j => ?_⟩
  rw [h3 j]
  constructor
  · rintro ⟨h4, h5⟩; exact ⟨by omega, h5⟩
  · rintro ⟨h4, h5⟩
    rcases Nat.lt_or_ge i j with h6 | h6
    · exact ⟨h6, h5⟩
    · have e : j = i := by omega
      rw [e] at h5
      exact absurd h5 hn
theorem Downs.take {ps : List StP} {last i : Nat} {l : List Int} (h : Downs ps last (i + 1) l) (hn : Nd ps last i) : Downs ps last i (l ++ [(i : Int)]) := by
  obtain ⟨m, h1, h2, h3⟩ := h
  refine ⟨m ++ [i], by rw [h1, List.map_append]; rfl, ?_, fun j => ?_⟩
  · rw [List.pairwise_append]
    refine ⟨h2, List.pairwise_singleton _ _, fun a ha b hb => ?_⟩
    rw [List.mem_singleton.1 hb]
    have := ((h3 a).1 ha).1
    omega
  · rw [List.mem_append, h3 j, List.mem_singleton]
    constructor
    · rintro (⟨h4, h5⟩ | rfl)
      · exact ⟨by omega, h5⟩
      · exact ⟨Nat.le_refl _, hn⟩
    · rintro ⟨h4, h5⟩
      rcases Nat.lt_or_ge i j with h6 | h6
      · exact .inl ⟨h6, h5⟩
      · exact .inr (by omega)
theorem Downs.done {ps : List StP} {last : Nat} {l : List Int} (h : Downs ps last 0 l) : NeedL ps last l.reverse := by
  obtain ⟨m, h1, h2, h3⟩ := h
  refine ⟨m.reverse, by rw [h1, List.map_reverse], by rw [List.pairwise_reverse]; exact h2, fun j => ?_⟩
  rw [List.mem_reverse, h3 j]
  exact ⟨fun h => h.2, fun h => ⟨Nat.zero_le _, h⟩⟩
theorem desc_len : ∀ {m : List Nat} {k : Nat}, m.Pairwise (fun a b => b < a) → (∀ a ∈ m, a < k) → m.length ≤ k
  | [], _, _, _ => Nat.zero_le _
  | a :: m, k, h, hk => by
    rw [List.pairwise_cons] at h
    have h1 := desc_len h.2 h.1
    have h2 := hk a (by simp)
    rw [List.length_cons]
    omega
theorem Downs.len {ps : List StP} {last i : Nat} {l : List Int} (h : Downs ps last i l) (hl : last ≤ 40) : l.length ≤ 41 := by
  obtain ⟨m, h1, h2, h3⟩ := h
  rw [h1, List.length_map]
  exact desc_len h2 (fun a ha => by have := ((h3 a).1 ha).2.le; omega)
/-- a row of one's own, turned round -/
theorem rev_any {w : World} {B n c : Nat} {A : Option Addr} {l : List Int} (h : OwnI w B (.slice A n c) l) (hl : l.length ≤ 1000) :
    Calls Tryz.prog 62 #[.slice A n c] w (fun e w' => e = .returned (.tuple #[]) ∧ OwnI w' B (.slice A n c) l.reverse ∧ w.grownBy w' (Value.slice A n c).ownBlock) := by
  rcases h.2 with ⟨hv, h0⟩ | ⟨g, cap, cur, hv, hg, hh, hc, hm, hs, ht⟩
  · injection hv with e1 e2 e3
    subst e1 e2 e3
    have e0 : l = [] := List.eq_nil_of_length_eq_zero h0
    subst e0
    refine (Tryz.slices_Reverse_int_empty none 0 w).mono ?_
    rintro e w' ⟨rfl, rfl⟩
    exact ⟨rfl, h, World.grownBy.refl _ _⟩
  · injection hv with e1 e2 e3
    subst e1 e2 e3
    rw [Nat.mul_one] at ht
    refine (Tryz.slices_Reverse_int g 0 c l w (holds_of_blockI hh ht) (by omega)).mono ?_
    rintro e w' ⟨rfl, k, rfl⟩
    have h1 := ownsRow_sortedI (os := #[]) (n := k) (ss := l) (ts := l.reverse) (by simp) hg hh hc hm hs
    have h2 := grownBy_sortedI (w := w) (g := g) (n := k) (os := #[]) l.reverse.toArray
    rw [Sort.grow_empty] at h1 h2
    refine ⟨rfl, ?_, h2⟩
    unfold OwnI
    rw [List.length_reverse]
    exact h1
/-- a map lies in another block than a row -/
theorem own_map_ne {w : World} {B b n : Nat} {e : TypeId} {z k : Nat} {v : Value} {xs : List Value} {D : DataW Unit} {K : TypeId} {R : Value → Option (DataW Unit × List MemPlace)} (h : w.ownsRow B e z v k xs) (hm : w.ownsMap Tryz.prog K R b n D) : some b ≠ v.ownBlock := by
  intro e'
  obtain ⟨es, clock, hb, _⟩ := hm
  rcases h.2 with ⟨rfl, _⟩ | ⟨g1, _, _, rfl, _, hh, _⟩
  · cases e'
  · have e1 : b = g1 := by simpa [Value.ownBlock] using e'
    subst e1
    rw [hb] at hh
    injection hh with hh
    cases hh
def NeedsOut (w : World) (ps : List StP) (x : List UInt8) (e : Ending) (w' : World) : Prop :=
  (∃ (A' : Option Addr) (n' c' : Nat) (l : List Int) (z : Int), e = .returned (.tuple #[.slice A' n' c', .int .i64 z]) ∧ OwnI w' w.heap.size (.slice A' n' c') l ∧ NeedsSays ps x l z) ∧ Below w.heap.size w w'
set_option maxRecDepth 100000 in
set_option maxHeartbeats 8000000 in
/-- script.Needs -/
theorem sneeds_any {w : World} {A : Option Addr} {n c : Nat} {ss : List StR} {x : ByteArray} (hr : ReadsT w w.heap.size A ss) (hn : n = ss.length) (hl : ss.length ≤ 40) (hf : ∀ s ∈ ss, s.p.fit) (hx : x.size ≤ maxLen) :
    Calls Tryz.prog 29 #[.slice A n c, .string x] w (NeedsOut w (ss.map StR.p) x.data.toList) := by
  have hmk := run_makeM
  have Hr := Lib.hid (fun W (hb : Below w.heap.size w W) => hr.calm (Nat.le_refl _) hb)
  have HO := Lib.hid (order_any (c := c) hr hn hl hf)
  have Hn := Lib.hid (And.intro hn hl)
  have Hf := Lib.hid hf
  have hn4 : (n : Int) ≤ 40 := by omega
  have hn5 : n ≤ 1000 := by omega
  have hkey : keyOf Tryz.prog 9 (.string x) = some (.string x.data.toList) := Go.WideMaps.keyOf_string_mk Tryz.underlying9 hx
  have Hlen := Lib.hid (show (ss.map StR.p).length = n by rw [List.length_map]; exact hn.symm)
  have hmk1 := hmk n hn5
  clear hr hn hl hf hx hmk
  go_enter Tryz.func29, Tryz.ntmps29
  go_wp2_with fail
  refine HO.out.mono ?_
  rintro _ W2 ⟨⟨mv, m, z, rfl, hs, hmp⟩, hb⟩
  have Hs := Lib.hid hs
  have Hb := Lib.hid hb
  rcases hs.code with rfl | rfl | rfl
  rotate_left
  · clear hs hmp hb
    go_wp2_with fail
    refine bodyPost_ret (v := .tuple #[.slice none 0 0, .int .i64 2]) (by simp [results, Tryz.results29, go_sem]) rfl ?_
    exact ⟨⟨none, 0, 0, [], 2, rfl, OwnI.nil _ _, .inl ⟨by decide, rfl, _, Hs.out⟩⟩, Hb.out⟩
  · clear hs hmp hb
    go_wp2_with fail
    refine bodyPost_ret (v := .tuple #[.slice none 0 0, .int .i64 401]) (by simp [results, Tryz.results29, go_sem]) rfl ?_
    exact ⟨⟨none, 0, 0, [], 401, rfl, OwnI.nil _ _, .inl ⟨by decide, rfl, _, Hs.out⟩⟩, Hb.out⟩
  obtain ⟨b, rfl, hbb, N, hN, hM⟩ := hmp rfl
  have HS0 := Lib.hid (show OrdSays (ss.map StR.p) (ss.map StR.p).length 0 by have h := hs.full; rw [h] at hs; exact hs)
  have HM := Lib.hid hM
  have Hbb := Lib.hid hbb
  have hfull := mapAt_full hs.all.2 x.data.toList
  clear hs hmp hb hM hN hbb
  rcases hfull with ⟨hh, hw⟩ | ⟨hh, hx0, last, hat, hc⟩
  · have Hw := Lib.hid hw
    clear hw
    go_wp2_with (at_lookup; refine wpList_lookup_own_ok_int _ rfl (.tmp 26) (.tmp 27) 104 rfl 9 3 .i64 str_keyed Tryz.underlying104 Tryz.underlying3 (by intros; first | exact Tryz.zeroValue3 _ | rfl) b N _ rfl HM.out _ (.string x.data.toList) rfl hkey ?_; intro c1x hat1 hwc1; clear hat1 hwc1; rw [hh])
    refine bodyPost_ret (v := .tuple #[.slice none 0 0, .int .i64 401]) (by simp [results, Tryz.results29, go_sem]) rfl ?_
    exact ⟨⟨none, 0, 0, [], 401, rfl, OwnI.nil _ _, .inr (.inl ⟨rfl, rfl, HS0.out, Hw.out⟩)⟩, Hb.out⟩
  have Hc := Lib.hid hc
  have Hat := Lib.hid (And.intro hx0 hat)
  have hln : last < n := by have := (atP_lt hat).2; rw [Hlen.out] at this; exact this
  have hln1 : (last : Int) < (n : Int) := by omega
  have hln0 : (0 : Int) ≤ (last : Int) := by omega
  have hln4 : (last : Int) ≤ 40 := by omega
  clear hc hat hx0
  have hbk := Blk.new W2 4 (mcells (fun _ => false) n)
  have hfz := hbk.frozen last
  have hou := hbk.cell last
  rw [mcells_get _ hln] at hou
  go_wp2_with (at_lookup; refine wpList_lookup_own_ok_int _ rfl (.tmp 26) (.tmp 27) 104 rfl 9 3 .i64 str_keyed Tryz.underlying104 Tryz.underlying3 (by intros; first | exact Tryz.zeroValue3 _ | rfl) b N _ rfl HM.out _ (.string x.data.toList) rfl hkey ?_; intro c1x hat1 hwc1; rw [hh, Hc.out _ hat1]; clear hat1 hwc1)
  have hk0 : Blk (W2.alloc (.cells ((mcells (fun _ => false) n).setIfInBounds last (.bool true)) 4)) W2.heap.size 4 (mcells (fun j => if j = last then true else false) n) := by rw [← mcells_set]; exact Blk.new _ _ _
  have hm0 := HM.out.alloc (.cells ((mcells (fun _ => false) n).setIfInBounds last (.bool true)) 4)
  have hb0 := Hb.out.alloc Hb.out.size (.cells ((mcells (fun _ => false) n).setIfInBounds last (.bool true)) 4)
  have Hg := Lib.hid (And.intro Hb.out.size HM.out.lt)
  clear hmk1 hbk hfz hou
  generalize W2.alloc (.cells ((mcells (fun _ => false) n).setIfInBounds last (.bool true)) 4) = W3 at *
  have H3 := Lib.hid (And.intro hk0 (And.intro hm0 hb0))
  clear hk0 hm0 hb0
  generalize W2.heap.size = g at *
  go_loopg [12, 13, 15, 59] (last + 1) (fun k ov jv av qv wr => ∃ (i : Nat) (A' : Option Addr) (n' c' : Nat) (f : Nat → Bool) (l : List Int), ov = .slice A' n' c' ∧ jv = .int .i64 ((i : Int) - 1) ∧ k = i ∧ i ≤ last + 1 ∧ Hid (OwnI wr w.heap.size (.slice A' n' c') l ∧ Downs (ss.map StR.p) last i l) ∧ Hid (Blk wr g 4 (mcells f n) ∧ Marked (ss.map StR.p) last i f) ∧ Hid (Below w.heap.size w wr ∧ wr.ownsMap Tryz.prog 9 (plainElem Tryz.prog 3) b N (mapAt (ss.map StR.p) (ss.map StR.p).length)))
  case atStart => exact ⟨last + 1, none, 0, 0, _, [], rfl, congrArg (Value.int .i64) (by omega), rfl, Nat.le_refl _, Lib.hid ⟨OwnI.nil _ _, Downs.start⟩, Lib.hid ⟨H3.out.1, Marked.start⟩, Lib.hid ⟨H3.out.2.2, H3.out.2.1⟩⟩
  case round =>
    obtain ⟨i, A', n', c', f, l, rfl, rfl, hk, hi, hO, hK, hB⟩ := hrel
    have Hk := Lib.hid hk
    clear hk
    cases i with
    | zero =>
      have hj : ((0 : Nat) : Int) - 1 = -1 := by omega
      rw [hj]
      have HR := Lib.hid (rev_any hO.out.1 (by have := hO.out.2.len (by omega); omega))
      go_wp2_with fail
      refine HR.out.mono ?_
      rintro _ W4 ⟨rfl, ho, hg⟩
      have Ho := Lib.hid (And.intro ho (hB.out.1.grown hg hB.out.1.size (fun k hk => (OwnI.lt hO.out.1 k hk).1)))
      clear ho hg
      go_wp2_with fail
      refine bodyPost_ret (v := .tuple #[.slice A' n' c', .int .i64 0]) (by simp [results, Tryz.results29, go_sem]) rfl ?_
      exact ⟨⟨A', n', c', l.reverse, 0, rfl, Ho.out.1, .inr (.inr ⟨rfl, HS0.out, Hat.out.1, last, Hat.out.2, hO.out.2.done⟩)⟩, Ho.out.2⟩
    | succ j =>
      have hj : ((j + 1 : Nat) : Int) - 1 = (j : Int) := by omega
      rw [hj]
      have hjn : (j : Int) < (n : Int) := by omega
      have hj0 : (0 : Int) ≤ (j : Int) := by omega
      have hj4 : (j : Int) ≤ 40 := by omega
      have hjn' : j < n := by omega
      have hou := hK.out.1.cell j
      rw [mcells_get _ hjn'] at hou
      cases hfj : f j with
      | false =>
        rw [hfj] at hou
        have Hfj := Lib.hid hfj
        clear hfj hj
        go_wp2_with fail
        go_roundg j
        case measure => have := Hk.out; omega
        case rel =>
          exact ⟨j, A', n', c', f, l, rfl, rfl, rfl, by omega, Lib.hid ⟨hO.out.1, hO.out.2.pass (fun h => by have h2 := (hK.out.2.at_ (Nat.le_refl _)).2 h; rw [Hfj.out] at h2; cases h2)⟩, Lib.hid ⟨hK.out.1, hK.out.2.pass Hfj.out⟩, hB⟩
      | true =>
        rw [hfj] at hou
        have Hnd := Lib.hid ((hK.out.2.at_ (Nat.le_refl _)).1 hfj)
        clear hfj hj
        have hjl : j < ss.length := by rw [← Hn.out.1]; exact hjn'
        obtain ⟨ad, rfl, hb1, ⟨c0, c1, c2⟩, ha⟩ := (Hr.out _ hB.out.1).cells hjl
        have HC := Lib.hid (fun (W : World) (hb : Below w.heap.size w W) => show W.cell? ⟨(ad.add (j * 3)).block, (ad.add (j * 3)).off + 2, none⟩ = some (.slice ss[j].A ss[j].rs.length ss[j].c) ∧ ReadsA W W.heap.size ss[j].A ss[j].rs from by
          obtain ⟨ad', e, _, ⟨_, _, d2⟩, ha'⟩ := (Hr.out W hb).cells hjl
          injection e with e
          subst e
          exact ⟨d2, ha'⟩)
        have Hgp := Lib.hid (show (ss.map StR.p)[j]? = some ss[j].p by rw [List.getElem?_map, List.getElem?_eq_getElem hjl]; rfl)
        have Hfi := Lib.hid (Hf.out _ (List.getElem_mem hjl))
        clear ha hb1 c0 c1 c2
        generalize ss[j] = s at *
        obtain ⟨v, nm, A1, c1', rs⟩ := s
        simp only at HC
        clear hjl
        have Hll := Lib.hid (hO.out.2.len (by omega))
        go_wp2_with (refine wpI_append rfl (.tmp 49) (.tmp 51) rfl w.heap.size _ l [(j : Int)] (hO.out.1.alloc _) rfl rfl rfl (reads_single _ (j : Int)) (by have := Hll.out; omega) (by simp) (by have := hB.out.1.size; simp; omega) ?_; intro A2 n2 c2 w2 ho2 hn2 hc2 hg2 hw2 hb2; have Ho2 := Lib.hid ho2; have Hb2 := Lib.hid (hb2 _ (hB.out.1.alloc hB.out.1.size _)); have Hk2 := Lib.hid ((hK.out.1.alloc (.cells #[.int .i64 (j : Int)] 3)).grown hg2 (fun e => own_blk_ne hO.out.1 hK.out.1 (by decide) e.symm)); have Hm2 := Lib.hid ((hB.out.2.alloc (.cells #[.int .i64 (j : Int)] 3)).kept hg2 (own_map_ne hO.out.1 hB.out.2)); have d2 := (HC.out _ Hb2.out).1; clear ho2 hn2 hc2 hg2 hw2 hb2)
        have Hrl := Lib.hid (show rs.length ≤ 1000000 by have h : (rs.map (fun r : ARow => r.2.2)).length ≤ 1000000 := Hfi.out.len; rwa [List.length_map] at h)
        go_loopg [15, 59] rs.length (fun kk av qv wq => ∃ (q : Nat) (f' : Nat → Bool), qv = .int .i64 (q : Int) ∧ kk = rs.length - q ∧ q ≤ rs.length ∧ Hid (Blk wq g 4 (mcells f' n) ∧ MarkQ (ss.map StR.p) last j q (rs.map (fun r : ARow => r.2.2)) f') ∧ Hid (w2.grownBy wq (some g)))
        case atStart => exact ⟨0, f, rfl, by omega, by omega, Lib.hid ⟨Hk2.out, MarkQ.start hK.out.2⟩, Lib.hid (World.grownBy.refl _ _)⟩
        case round =>
          obtain ⟨q, f', rfl, hkq, hq, hKq, hGq⟩ := hrel
          have Hkq := Lib.hid hkq
          clear hkq
          have Hbq := Lib.hid (Hb2.out.grown hGq.out Hb2.out.size (fun k hk => by injection hk with hk; rw [← hk]; exact Hg.out.1))
          have Hmq := Lib.hid (Hm2.out.kept hGq.out (fun e => by injection e with e; have := Hg.out.2; omega))
          by_cases hqm : q < rs.length
          · have hqi : (q : Int) < (rs.length : Int) := by omega
            have hq0 : (0 : Int) ≤ (q : Int) := by omega
            have hq6 : (q : Int) ≤ 1000000 := by have := Hrl.out; omega
            obtain ⟨ad2, rfl, hb2, ⟨d0, d1, d2', d3, d4, d5, d6, d7, d8, d9, d10, d11⟩, ha2⟩ := (HC.out _ Hbq.out).2.cells hqm
            have hqx : q < (rs.map (fun r : ARow => r.2.2)).length := by rw [List.length_map]; exact hqm
            have Hxs := Lib.hid (show (rs.map (fun r : ARow => r.2.2))[q] = rs[q].2.2 by rw [List.getElem_map])
            have Hin := Lib.hid (List.getElem_mem hqm)
            have HMp := Lib.hid (show rs[q].2.2.k ≠ 1 → MarkQ (ss.map StR.p) last j (q + 1) (rs.map (fun r : ARow => r.2.2)) f' from fun h => hKq.out.2.pass hqx (by rw [Hxs.out]; exact h))
            have HMm := Lib.hid (show ∀ d, rs[q].2.2.k = 1 → atP (ss.map StR.p) rs[q].2.2.nm.data.toList j = some d → MarkQ (ss.map StR.p) last j (q + 1) (rs.map (fun r : ARow => r.2.2)) (fun j => if j = d then true else f' j) from fun d h h1 => hKq.out.2.mark hqx (by rw [Hxs.out]; exact h) (by rw [Hxs.out]; exact h1))
            clear ha2 hb2 Hxs hqx
            generalize rs[q] = r at *
            clear hqm
            obtain ⟨Aw, cw, y⟩ := r
            simp only at d0 d1 d2' d3 d4 d5 d6 d7 d8 d9 d10 d11 HMp HMm
            by_cases hk1 : y.k = 1
            · have k1 : (y.k == 1) = true := by simp [hk1]
              have Hpm := Lib.hid (List.mem_of_getElem? Hgp.out)
              have hxok := (HS0.out.all.1 _ Hpm.out).all y (List.mem_map.2 ⟨_, Hin.out, rfl⟩)
              have hxn : y.nm.data.toList ≠ [] := by
                unfold ArgP.ok at hxok
                rw [if_pos hk1] at hxok
                obtain ⟨c, q, hl, _⟩ := named_head hxok.1
                rw [hl]; simp
              have hst := (HS0.out.all.2 j (by rw [Hlen.out]; exact hjn') _ Hgp.out).2 y (List.mem_map.2 ⟨_, Hin.out, rfl⟩) hk1
              obtain ⟨d, hd⟩ : ∃ d, atP (ss.map StR.p) y.nm.data.toList j = some d := by
                cases h : atP (ss.map StR.p) y.nm.data.toList j with
                | none => exact absurd h hst
                | some d => exact ⟨d, rfl⟩
              have hdj := (atP_lt hd).1
              have Hcd := Lib.hid (show ∀ c : Int, (mapAt (ss.map StR.p) (ss.map StR.p).length).atKey (.string y.nm.data.toList) (.lit (.int .i64 0)) = .lit (.int .i64 c) → c = (d : Int) from by
                rcases mapAt_full HS0.out.all.2 y.nm.data.toList with ⟨_, h1⟩ | ⟨_, _, k, h2, h3⟩
                · rcases h1 with h1 | h1
                  · exact absurd h1 hxn
                  · rw [atP_more hd (by rw [Hlen.out]; omega)] at h1; cases h1
                · rw [atP_more hd (by rw [Hlen.out]; omega)] at h2
                  injection h2 with h2
                  rw [h2]; exact h3)
              have HM1 := Lib.hid (HMm.out d hk1 hd)
              have hkey2 : keyOf Tryz.prog 9 (.string y.nm) = some (.string y.nm.data.toList) := Go.WideMaps.keyOf_string_mk Tryz.underlying9 (by have h : y.nm.size ≤ 1000000 := (Hfi.out.all y (List.mem_map.2 ⟨_, Hin.out, rfl⟩)).nm; unfold maxLen; omega)
              have hdn : (d : Int) < (n : Int) := by omega
              have hd00 : (0 : Int) ≤ (d : Int) := by omega
              have hd4 : (d : Int) ≤ 40 := by omega
              have hka := hKq.out.1.alloc (.cells #[.int .i64 1, .string y.nm, .bool y.n0, .string y.s0, .bool y.n1, .string y.s1, .bool y.n2, .string y.s2, .bool y.n3, .string y.s3, .slice Aw y.wd.length cw, .int .i64 y.ct] 41)
              have hou2 := hka.cell d
              rw [mcells_get _ (by omega : d < n)] at hou2
              have hfz2 := hka.frozen d
              have Hma := Lib.hid (Hmq.out.alloc (.cells #[.int .i64 1, .string y.nm, .bool y.n0, .string y.s0, .bool y.n1, .string y.s1, .bool y.n2, .string y.s2, .bool y.n3, .string y.s3, .slice Aw y.wd.length cw, .int .i64 y.ct] 41))
              have hks := hka.set_ d (.bool true)
              rw [mcells_set] at hks
              have Hks := Lib.hid hks
              have Hgs := Lib.hid (only_setCell (p := ⟨g, d, none⟩) (only_alloc hGq.out (.cells #[.int .i64 1, .string y.nm, .bool y.n0, .string y.s0, .bool y.n1, .string y.s1, .bool y.n2, .string y.s2, .bool y.n3, .string y.s3, .slice Aw y.wd.length cw, .int .i64 y.ct] 41)) (.inl rfl) (.bool true))
              clear HMp HMm hd hst hxok hxn hdj hka hks
              go_wp2_with (at_lookup; refine wpList_lookup_own_int _ rfl (.tmp 67) (.tmp 69) 104 rfl 9 3 .i64 str_keyed Tryz.underlying104 Tryz.underlying3 (by intros; first | exact Tryz.zeroValue3 _ | rfl) b N _ rfl Hma.out _ (.string y.nm.data.toList) rfl hkey2 ?_; intro c3 hat3 hwc3; rw [Hcd.out _ hat3]; clear hat3 hwc3)
              go_roundg (rs.length - (q + 1))
              case measure => have := Hkq.out; omega
              case rel => exact ⟨q + 1, _, rfl, rfl, by omega, Lib.hid ⟨Hks.out, HM1.out⟩, Hgs⟩
            · have k1 : (y.k == 1) = false := by simpa using hk1
              have HM1 := Lib.hid (HMp.out hk1)
              have Hka := Lib.hid (hKq.out.1.alloc (.cells #[.int .i64 y.k, .string y.nm, .bool y.n0, .string y.s0, .bool y.n1, .string y.s1, .bool y.n2, .string y.s2, .bool y.n3, .string y.s3, .slice Aw y.wd.length cw, .int .i64 y.ct] 41))
              have Hga := Lib.hid (only_alloc hGq.out (.cells #[.int .i64 y.k, .string y.nm, .bool y.n0, .string y.s0, .bool y.n1, .string y.s1, .bool y.n2, .string y.s2, .bool y.n3, .string y.s3, .slice Aw y.wd.length cw, .int .i64 y.ct] 41))
              clear HMp HMm hk1
              go_wp2_with fail
              go_roundg (rs.length - (q + 1))
              case measure => have := Hkq.out; omega
              case rel => exact ⟨q + 1, f', rfl, rfl, by omega, Lib.hid ⟨Hka.out, HM1.out⟩, Hga⟩
          · have hqi : ¬ (q : Int) < (rs.length : Int) := by omega
            have HMd := Lib.hid (hKq.out.2.done Hgp.out (by show (rs.map (fun r : ARow => r.2.2)).length ≤ q; rw [List.length_map]; omega) Hnd.out)
            have Hoq := Lib.hid (Ho2.out.grown hGq.out (fun k hk e => own_blk_ne Ho2.out Hk2.out (by decide) (by rw [hk]; exact e.symm)))
            go_wp2_with fail
            go_roundg j
            case measure => have := Hk.out; omega
            case rel =>
              exact ⟨j, A2, n2, c2, f', l ++ [(j : Int)], rfl, rfl, rfl, by omega, Lib.hid ⟨Hoq.out, hO.out.2.take Hnd.out⟩, Lib.hid ⟨hKq.out.1, HMd.out⟩, Lib.hid ⟨Hbq.out, Hmq.out⟩⟩
end Go.Proofs.YtebpggfccljagaaGreatDoor

/- ref30.Order. -/
namespace Go.Proofs.YtebpggfccljagaaGreatDoor
open Go.RowKit
open Wh
set_option linter.unusedSimpArgs false
set_option linter.unusedVariables false

set_option maxRecDepth 100000 in
set_option maxHeartbeats 8000000 in
/-- ref30.Order -/
theorem rorder_any {w : World} {A : Option Addr} {n c : Nat} {ss : List StR} (hr : ReadsT w w.heap.size A ss) (hn : n = ss.length) (hl : ss.length ≤ 40) (hf : ∀ s ∈ ss, s.p.fit) :
    Calls Tryz.prog 28 #[.slice A n c] w (fun e w' => (∃ m z, e = .returned (.tuple #[.int .i64 ((m : Nat) : Int), .int .i64 z]) ∧ OrdSays (ss.map StR.p) m z) ∧ Below w.heap.size w w') := by
  have Hr := Lib.hid (fun W (hb : Below w.heap.size w W) => hr.calm (Nat.le_refl _) hb)
  have Hn := Lib.hid (And.intro hn hl)
  have Hf := Lib.hid hf
  have hn4 : (n : Int) ≤ 40 := by omega
  have hn5 : ¬ (4096 : Int) < (n : Int) := by omega
  have Hlen := Lib.hid (show (ss.map StR.p).length = n by rw [List.length_map]; exact hn.symm)
  clear hr hn hl hf
  go_enter Tryz.func28, Tryz.ntmps28
  go_wp2_with fail
  go_loopg [4] n (fun k iv wr => ∃ (i : Nat), iv = .int .i64 (i : Int) ∧ k = n - i ∧ i ≤ n ∧ Hid (∀ p ∈ (ss.map StR.p).take i, p.ok) ∧ Hid (Below w.heap.size w wr))
  case atStart => exact ⟨0, rfl, by omega, by omega, Lib.hid (by simp), Lib.hid (Below.refl _ _)⟩
  case round =>
    obtain ⟨i, rfl, hk, hi, hI, hO⟩ := hrel
    have Hk := Lib.hid hk
    clear hk
    by_cases hin : i < n
    · have hil : i < ss.length := by rw [← Hn.out.1]; omega
      have hip : i < (ss.map StR.p).length := by rw [List.length_map]; exact hil
      obtain ⟨ad, rfl, hb1, ⟨c0, c1, c2⟩, ha⟩ := (Hr.out _ hO.out).cells hil
      have hii : (i : Int) < (n : Int) := by omega
      have hi0 : (0 : Int) ≤ (i : Int) := by omega
      have hi6 : (i : Int) ≤ 40 := by omega
      have Htk := Lib.hid (show (ss.map StR.p).take (i + 1) = (ss.map StR.p).take i ++ [ss[i].p] by rw [List.take_succ_eq_append_getElem hip, List.getElem_map])
      have Hgp := Lib.hid (show (ss.map StR.p)[i] = ss[i].p by rw [List.getElem_map])
      have Hfi := Lib.hid (Hf.out _ (List.getElem_mem hil))
      rcases Classical.em (ss[i].p.ok) with hok | hno
      · have HV := Lib.hid (rscheck_any ha (Nat.le_refl _) Hfi.out (b := true) ⟨fun _ => hok, fun _ => rfl⟩)
        have Hok := Lib.hid hok
        unfold StR.cells at HV
        simp only [if_true] at HV
        clear ha hb1 hok
        generalize ss[i] = s at *
        obtain ⟨v, nm, A1, c1', rs⟩ := s
        simp only at c0 c1 c2 HV
        clear hil hip Hgp
        go_wp2_with fail
        refine HV.out.mono ?_
        rintro _ W2 ⟨rfl, hb2⟩
        have hO2 := Lib.hid (hO.out.trans (hb2.mono hO.out.size))
        clear hb2 c0 c1 c2
        go_wp2_with fail
        go_roundg (n - (i + 1))
        case measure => have := Hk.out; omega
        case rel =>
          refine ⟨i + 1, rfl, rfl, by omega, Lib.hid fun p hp => ?_, hO2⟩
          rw [Htk.out] at hp
          rcases List.mem_append.1 hp with h | h
          · exact hI.out p h
          · rw [List.mem_singleton.1 h]; exact Hok.out
      · have HV := Lib.hid (rscheck_any ha (Nat.le_refl _) Hfi.out (b := false) ⟨fun h => (by cases h), fun h => absurd h hno⟩)
        have Hout := Lib.hid (show OrdSays (ss.map StR.p) i 2 from .inl ⟨hip, by rw [Hgp.out]; exact hno, hI.out, rfl⟩)
        unfold StR.cells at HV
        simp only [Bool.false_eq_true, if_false] at HV
        clear ha hb1 hno Hgp
        generalize ss[i] = s at *
        obtain ⟨v, nm, A1, c1', rs⟩ := s
        simp only at c0 c1 c2 HV
        clear hil hip
        go_wp2_with fail
        refine HV.out.mono ?_
        rintro _ W2 ⟨rfl, hb2⟩
        have hO2 := Lib.hid (hO.out.trans (hb2.mono hO.out.size))
        clear hb2 c0 c1 c2
        go_wp2_with fail
        refine bodyPost_ret (v := .tuple #[.int .i64 (i : Int), .int .i64 2]) (by simp [results, Tryz.results28, go_sem]) rfl ?_
        exact ⟨⟨i, 2, rfl, Hout.out⟩, hO2.out⟩
    · have hii : ¬ (i : Int) < (n : Int) := by omega
      have HOk := Lib.hid (show ∀ p ∈ ss.map StR.p, p.ok by
        have h := hI.out
        rwa [List.take_of_length_le (by have := Hlen.out; omega)] at h)
      go_wp2_with fail
      go_loopg [5, 6, 7] n (fun k iv kv av wr => ∃ (i : Nat), iv = .int .i64 (i : Int) ∧ k = n - i ∧ i ≤ n ∧ Hid (∀ j, j < i → Stands (ss.map StR.p) j) ∧ Hid (Below w.heap.size w wr))
      case atStart => exact ⟨0, rfl, by omega, by omega, Lib.hid (fun j h => by omega), hO⟩
      case round =>
        clear hI hO Hk hi hin hii
        obtain ⟨u, rfl, hk, hi, hI, hO⟩ := hrel
        have Hk := Lib.hid hk
        clear hk
        by_cases hin : u < n
        · have hil : u < ss.length := by rw [← Hn.out.1]; omega
          have HRT := Lib.hid (Hr.out _ hO.out)
          have HrT := Lib.hid (fun W (hb : Below w.heap.size w W) => Hr.out W hb)
          obtain ⟨ad, rfl, hb1, ⟨c0, c1, c2⟩, ha⟩ := HRT.out.cells hil
          have hii : (u : Int) < (n : Int) := by omega
          have hi0 : (0 : Int) ≤ (u : Int) := by omega
          have hi6 : (u : Int) ≤ 40 := by omega
          have Hgp := Lib.hid (show (ss.map StR.p)[u]? = some ss[u].p by rw [List.getElem?_map, List.getElem?_eq_getElem hil]; rfl)
          have Hfi := Lib.hid (Hf.out _ (List.getElem_mem hil))
          have hAt := fun W (hb : Below w.heap.size w W) (x : ByteArray) => at_any (c := c) (b := u) (x := x) (Hr.out W hb) Hn.out.1 Hn.out.2 (show u ≤ n by omega)
          have HAt := Lib.hid hAt
          have Hha := Lib.hid ha
          clear ha hb1 hAt
          generalize ss[u] = s at *
          obtain ⟨v, nm, A1, c1', rs⟩ := s
          simp only at c0 c1 c2 Hha
          clear hil
          have HC2 := Lib.hid (fun (W : World) (hb : Below wr.heap.size wr W) => (hb.cell (block_lt_of_cell c2)).trans c2)
          have Hrl := Lib.hid (show rs.length ≤ 1000000 by have h : (rs.map (fun r : ARow => r.2.2)).length ≤ 1000000 := Hfi.out.len; rwa [List.length_map] at h)
          by_cases hne : nm = ⟨#[]⟩
          · subst hne
            have Hnm := Lib.hid (show (⟨#[]⟩ : ByteArray).data.toList ≠ [] → atP (ss.map StR.p) (⟨#[]⟩ : ByteArray).data.toList u = none from fun h => absurd rfl h)
            go_wp2_with fail
            go_loopg [6, 7] rs.length (fun kk kv av wq => ∃ (q : Nat), kv = .int .i64 (q : Int) ∧ kk = rs.length - q ∧ q ≤ rs.length ∧ Hid (∀ r ∈ rs.take q, r.2.2.k = 1 → atP (ss.map StR.p) r.2.2.nm.data.toList u ≠ none) ∧ Hid (Below wr.heap.size wr wq))
            case atStart => exact ⟨0, rfl, by omega, by omega, Lib.hid (by simp), Lib.hid (Below.refl _ _)⟩
            case round =>
              obtain ⟨q, rfl, hk2, hq, hT, hB⟩ := hrel
              have Hk2 := Lib.hid hk2
              clear hk2
              have hc2 := HC2.out _ hB.out
              have Hw := Lib.hid (hO.out.trans (hB.out.mono hO.out.size))
              by_cases hqm : q < rs.length
              · have hqi : (q : Int) < (rs.length : Int) := by omega
                have hq0 : (0 : Int) ≤ (q : Int) := by omega
                have hq6 : (q : Int) ≤ 1000000 := by have := Hrl.out; omega
                obtain ⟨ad2, rfl, hb2, ⟨d0, d1, d2, d3, d4, d5, d6, d7, d8, d9, d10, d11⟩, ha2⟩ := (Hha.out.calm (Nat.le_refl _) hB.out).cells hqm
                have Hin := Lib.hid (List.getElem_mem hqm)
                have Htk := Lib.hid (List.take_succ_eq_append_getElem hqm)
                clear ha2 hb2
                generalize rs[q] = r at *
                clear hqm
                obtain ⟨Aw, cw, x⟩ := r
                simp only at d0 d1 d2 d3 d4 d5 d6 d7 d8 d9 d10 d11
                have HBa := Lib.hid (hB.out.alloc hB.out.size (.cells #[.int .i64 x.k, .string x.nm, .bool x.n0, .string x.s0, .bool x.n1, .string x.s1, .bool x.n2, .string x.s2, .bool x.n3, .string x.s3, .slice Aw x.wd.length cw, .int .i64 x.ct] 41))
                have HCl := Lib.hid (HAt.out _ (hO.out.trans (HBa.out.mono hO.out.size)) x.nm)
                by_cases hk1 : x.k = 1
                · have k1 : (x.k == 1) = true := by simp [hk1]
                  rw [hk1] at HCl HBa
                  rcases hop : atP (ss.map StR.p) x.nm.data.toList u with _ | z
                  · rw [hop] at HCl
                    unfold atZ at HCl
                    have Hout := Lib.hid (show OrdSays (ss.map StR.p) u 401 from .inr (.inl ⟨HOk.out, by have := Hlen.out; omega, fun hst => (hst _ Hgp.out).2 x (List.mem_map.2 ⟨_, Hin.out, rfl⟩) hk1 hop, hI.out, rfl⟩))
                    go_wp2_with fail
                    refine HCl.out.mono ?_
                    rintro _ _ ⟨rfl, rfl⟩
                    go_wp2_with fail
                    refine bodyPost_ret (v := .tuple #[.int .i64 (u : Int), .int .i64 401]) (by simp [results, Tryz.results28, go_sem]) rfl ?_
                    exact ⟨⟨u, 401, rfl, Hout.out⟩, hO.out.trans (HBa.out.mono hO.out.size)⟩
                  · rw [hop] at HCl
                    unfold atZ at HCl
                    have hz : ¬ (z : Int) < 0 := by omega
                    have Hop := Lib.hid hop
                    clear hop
                    go_wp2_with fail
                    refine HCl.out.mono ?_
                    rintro _ _ ⟨rfl, rfl⟩
                    go_wp2_with fail
                    go_roundg (rs.length - (q + 1))
                    case measure => have := Hk2.out; omega
                    case rel => exact ⟨q + 1, rfl, rfl, by omega, Lib.hid (fun r hr h1 => by
                      rw [Htk.out] at hr
                      rcases List.mem_append.1 hr with h | h
                      · exact hT.out r h h1
                      · rw [List.mem_singleton.1 h]
                        show atP (ss.map StR.p) x.nm.data.toList u ≠ none
                        rw [Hop.out]; simp), HBa⟩
                · have k1 : (x.k == 1) = false := by simpa using hk1
                  have Hk1 := Lib.hid hk1
                  clear HCl
                  go_wp2_with fail
                  go_roundg (rs.length - (q + 1))
                  case measure => have := Hk2.out; omega
                  case rel => exact ⟨q + 1, rfl, rfl, by omega, Lib.hid (fun r hr h1 => by
                    rw [Htk.out] at hr
                    rcases List.mem_append.1 hr with h | h
                    · exact hT.out r h h1
                    · rw [List.mem_singleton.1 h] at h1
                      exact absurd h1 Hk1.out), HBa⟩
              · have hqi : ¬ (q : Int) < (rs.length : Int) := by omega
                have Hst := Lib.hid (show Stands (ss.map StR.p) u from fun p hp => by
                  rw [Hgp.out] at hp
                  injection hp with hp
                  subst hp
                  refine ⟨Hnm.out, fun x hx h1 => ?_⟩
                  obtain ⟨r, hr, rfl⟩ := List.mem_map.1 hx
                  exact hT.out r (by rw [List.take_of_length_le (by omega)]; exact hr) h1)
                go_wp2_with fail
                go_roundg (n - (u + 1))
                case measure => have := Hk.out; omega
                case rel => exact ⟨u + 1, rfl, rfl, by omega, Lib.hid (fun j hj => by
                  rcases Nat.lt_or_ge j u with h | h
                  · exact hI.out j h
                  · have e : j = u := by omega
                    rw [e]; exact Hst.out), Hw⟩
          · have x1 : ¬ nm.toList = [] := fun h => hne (tl_inj (by rw [h, ByteArray.toList_eq]))
            have x2 : (nm.toList == []) = false := by simpa using x1
            have x3 : nm.toList.isEmpty = false := by simpa using x1
            have HCl := Lib.hid (HAt.out _ hO.out nm)
            rcases hop : atP (ss.map StR.p) nm.data.toList u with _ | z
            · rw [hop] at HCl
              unfold atZ at HCl
              have Hnm := Lib.hid (show nm.data.toList ≠ [] → atP (ss.map StR.p) nm.data.toList u = none from fun _ => hop)
              clear hop
              go_wp2_with fail
              refine HCl.out.mono ?_
              rintro _ _ ⟨rfl, rfl⟩
              go_wp2_with fail
              go_loopg [6, 7] rs.length (fun kk kv av wq => ∃ (q : Nat), kv = .int .i64 (q : Int) ∧ kk = rs.length - q ∧ q ≤ rs.length ∧ Hid (∀ r ∈ rs.take q, r.2.2.k = 1 → atP (ss.map StR.p) r.2.2.nm.data.toList u ≠ none) ∧ Hid (Below wr.heap.size wr wq))
              case atStart => exact ⟨0, rfl, by omega, by omega, Lib.hid (by simp), Lib.hid (Below.refl _ _)⟩
              case round =>
                obtain ⟨q, rfl, hk2, hq, hT, hB⟩ := hrel
                have Hk2 := Lib.hid hk2
                clear hk2
                have hc2 := HC2.out _ hB.out
                have Hw := Lib.hid (hO.out.trans (hB.out.mono hO.out.size))
                by_cases hqm : q < rs.length
                · have hqi : (q : Int) < (rs.length : Int) := by omega
                  have hq0 : (0 : Int) ≤ (q : Int) := by omega
                  have hq6 : (q : Int) ≤ 1000000 := by have := Hrl.out; omega
                  obtain ⟨ad2, rfl, hb2, ⟨d0, d1, d2, d3, d4, d5, d6, d7, d8, d9, d10, d11⟩, ha2⟩ := (Hha.out.calm (Nat.le_refl _) hB.out).cells hqm
                  have Hin := Lib.hid (List.getElem_mem hqm)
                  have Htk := Lib.hid (List.take_succ_eq_append_getElem hqm)
                  clear ha2 hb2
                  generalize rs[q] = r at *
                  clear hqm
                  obtain ⟨Aw, cw, x⟩ := r
                  simp only at d0 d1 d2 d3 d4 d5 d6 d7 d8 d9 d10 d11
                  have HBa := Lib.hid (hB.out.alloc hB.out.size (.cells #[.int .i64 x.k, .string x.nm, .bool x.n0, .string x.s0, .bool x.n1, .string x.s1, .bool x.n2, .string x.s2, .bool x.n3, .string x.s3, .slice Aw x.wd.length cw, .int .i64 x.ct] 41))
                  have HCl := Lib.hid (HAt.out _ (hO.out.trans (HBa.out.mono hO.out.size)) x.nm)
                  by_cases hk1 : x.k = 1
                  · have k1 : (x.k == 1) = true := by simp [hk1]
                    rw [hk1] at HCl HBa
                    rcases hop : atP (ss.map StR.p) x.nm.data.toList u with _ | z
                    · rw [hop] at HCl
                      unfold atZ at HCl
                      have Hout := Lib.hid (show OrdSays (ss.map StR.p) u 401 from .inr (.inl ⟨HOk.out, by have := Hlen.out; omega, fun hst => (hst _ Hgp.out).2 x (List.mem_map.2 ⟨_, Hin.out, rfl⟩) hk1 hop, hI.out, rfl⟩))
                      go_wp2_with fail
                      refine HCl.out.mono ?_
                      rintro _ _ ⟨rfl, rfl⟩
                      go_wp2_with fail
                      refine bodyPost_ret (v := .tuple #[.int .i64 (u : Int), .int .i64 401]) (by simp [results, Tryz.results28, go_sem]) rfl ?_
                      exact ⟨⟨u, 401, rfl, Hout.out⟩, hO.out.trans (HBa.out.mono hO.out.size)⟩
                    · rw [hop] at HCl
                      unfold atZ at HCl
                      have hz : ¬ (z : Int) < 0 := by omega
                      have Hop := Lib.hid hop
                      clear hop
                      go_wp2_with fail
                      refine HCl.out.mono ?_
                      rintro _ _ ⟨rfl, rfl⟩
                      go_wp2_with fail
                      go_roundg (rs.length - (q + 1))
                      case measure => have := Hk2.out; omega
                      case rel => exact ⟨q + 1, rfl, rfl, by omega, Lib.hid (fun r hr h1 => by
                        rw [Htk.out] at hr
                        rcases List.mem_append.1 hr with h | h
                        · exact hT.out r h h1
                        · rw [List.mem_singleton.1 h]
                          show atP (ss.map StR.p) x.nm.data.toList u ≠ none
                          rw [Hop.out]; simp), HBa⟩
                  · have k1 : (x.k == 1) = false := by simpa using hk1
                    have Hk1 := Lib.hid hk1
                    clear HCl
                    go_wp2_with fail
                    go_roundg (rs.length - (q + 1))
                    case measure => have := Hk2.out; omega
                    case rel => exact ⟨q + 1, rfl, rfl, by omega, Lib.hid (fun r hr h1 => by
                      rw [Htk.out] at hr
                      rcases List.mem_append.1 hr with h | h
                      · exact hT.out r h h1
                      · rw [List.mem_singleton.1 h] at h1
                        exact absurd h1 Hk1.out), HBa⟩
                · have hqi : ¬ (q : Int) < (rs.length : Int) := by omega
                  have Hst := Lib.hid (show Stands (ss.map StR.p) u from fun p hp => by
                    rw [Hgp.out] at hp
                    injection hp with hp
                    subst hp
                    refine ⟨Hnm.out, fun x hx h1 => ?_⟩
                    obtain ⟨r, hr, rfl⟩ := List.mem_map.1 hx
                    exact hT.out r (by rw [List.take_of_length_le (by omega)]; exact hr) h1)
                  go_wp2_with fail
                  go_roundg (n - (u + 1))
                  case measure => have := Hk.out; omega
                  case rel => exact ⟨u + 1, rfl, rfl, by omega, Lib.hid (fun j hj => by
                    rcases Nat.lt_or_ge j u with h | h
                    · exact hI.out j h
                    · have e : j = u := by omega
                      rw [e]; exact Hst.out), Hw⟩
            · rw [hop] at HCl
              unfold atZ at HCl
              have hz : (0 : Int) ≤ (z : Int) := by omega
              have Hout := Lib.hid (show OrdSays (ss.map StR.p) u 401 from .inr (.inl ⟨HOk.out, by have := Hlen.out; omega, (fun hst => by
                have h1 := (hst _ Hgp.out).1 (fun h => hne (ByteArray.ext (Array.toList_inj.1 h)))
                rw [show (StR.p ⟨v, nm, A1, c1', rs⟩).nm = nm from rfl, hop] at h1
                cases h1), hI.out, rfl⟩))
              clear hop
              go_wp2_with fail
              refine HCl.out.mono ?_
              rintro _ _ ⟨rfl, rfl⟩
              go_wp2_with fail
              refine bodyPost_ret (v := .tuple #[.int .i64 (u : Int), .int .i64 401]) (by simp [results, Tryz.results28, go_sem]) rfl ?_
              exact ⟨⟨u, 401, rfl, Hout.out⟩, hO.out⟩
        · have hii : ¬ (u : Int) < (n : Int) := by omega
          have Hout := Lib.hid (show OrdSays (ss.map StR.p) n 0 from .inr (.inr ⟨HOk.out, fun j hj => hI.out j (by have := Hlen.out; omega), Hlen.out.symm, rfl⟩))
          go_wp2_with fail
          refine bodyPost_ret (v := .tuple #[.int .i64 (n : Int), .int .i64 0]) (by simp [results, Tryz.results28, go_sem]) rfl ?_
          exact ⟨⟨n, 0, rfl, Hout.out⟩, hO.out⟩
end Go.Proofs.YtebpggfccljagaaGreatDoor

/- ref30.Needs. -/
namespace Go.Proofs.YtebpggfccljagaaGreatDoor
open Go.RowKit Go.ChangeShapes Go.Maps
open Wh
set_option linter.unusedSimpArgs false
set_option linter.unusedVariables false

/-- the marked places below i, in order -/
def Ups (f : Nat → Bool) (i : Nat) (l : List Int) : Prop := ∃ m : List Nat, l = m.map (fun k : Nat => (k : Int)) ∧ m.Pairwise (· < ·) ∧ ∀ j, j ∈ m ↔ (j < i ∧ f j = true)
theorem Ups.start {f : Nat → Bool} : Ups f 0 [] := ⟨[], rfl, List.Pairwise.nil, fun j => ⟨fun h => (by cases h), fun h => absurd h.1 (Nat.not_lt_zero _)⟩⟩
theorem Ups.pass {f : Nat → Bool} {i : Nat} {l : List Int} (h : Ups f i l) (hf : f i = false) : Ups f (i + 1) l := by
  obtain ⟨m, h1, h2, h3⟩ := h
  refine ⟨m, h1, h2, fun j => ?_⟩
  rw [h3 j]
  constructor
  · rintro ⟨h4, h5⟩; exact ⟨by omega, h5⟩
  · rintro ⟨h4, h5⟩
    rcases Nat.lt_or_ge j i with h6 | h6
    · exact ⟨h6, h5⟩
    · have e : j = i := by omega
      rw [e, hf] at h5
      cases h5
theorem Ups.take {f : Nat → Bool} {i : Nat} {l : List Int} (h : Ups f i l) (hf : f i = true) : Ups f (i + 1) (l ++ [(i : Int)]) := by
  obtain ⟨m, h1, h2, h3⟩ := h
  refine ⟨m ++ [i], by rw [h1, List.map_append]; rfl, ?_, fun j => ?_⟩
  · rw [List.pairwise_append]
    refine ⟨h2, List.pairwise_singleton _ _, fun a ha b hb => ?_⟩
    rw [List.mem_singleton.1 hb]
    exact ((h3 a).1 ha).1
  · rw [List.mem_append, h3 j, List.mem_singleton]
    constructor
    · rintro (⟨h4, h5⟩ | rfl)
      · exact ⟨by omega, h5⟩
      · exact ⟨Nat.lt_succ_self _, hf⟩
    · rintro ⟨h4, h5⟩
      rcases Nat.lt_or_ge j i with h6 | h6
      · exact .inl ⟨h6, h5⟩
      · exact .inr (by omega)
theorem asc_len : ∀ {m : List Nat} {a b : Nat}, m.Pairwise (· < ·) → (∀ x ∈ m, a ≤ x ∧ x < b) → m.length ≤ b - a
  | [], _, _, _, _ => Nat.zero_le _
  | x :: m, a, b, h, hk => by
    rw [List.pairwise_cons] at h
    have h1 := asc_len (a := x + 1) (b := b) h.2 (fun y hy => ⟨h.1 y hy, (hk y (by simp [hy])).2⟩)
    have h2 := hk x (by simp)
    rw [List.length_cons]
    omega
theorem Ups.len {f : Nat → Bool} {i : Nat} {l : List Int} (h : Ups f i l) : l.length ≤ i := by
  obtain ⟨m, h1, h2, h3⟩ := h
  rw [h1, List.length_map]
  have := asc_len (a := 0) (b := i) h2 (fun x hx => ⟨Nat.zero_le _, ((h3 x).1 hx).1⟩)
  omega
theorem Ups.done {ps : List StP} {last : Nat} {f : Nat → Bool} {l : List Int} (h : Ups f (last + 1) l) (hf : Marked ps last 0 f) : NeedL ps last l := by
  obtain ⟨m, h1, h2, h3⟩ := h
  refine ⟨m, h1, h2, fun j => ?_⟩
  rw [h3 j, hf j]
  constructor
  · rintro ⟨_, rfl | ⟨k, _, h5, h6⟩⟩
    · exact Nd.top
    · exact h5.step h6
  · intro hn
    refine ⟨by have := hn.le; omega, ?_⟩
    rcases hn.cases_ with e | ⟨k, h4, h5⟩
    · exact .inl e
    · exact .inr ⟨k, Nat.zero_le _, h4, h5⟩
set_option maxRecDepth 100000 in
set_option maxHeartbeats 8000000 in
/-- ref30.Needs -/
theorem rneeds_any {w : World} {A : Option Addr} {n c : Nat} {ss : List StR} {x : ByteArray} (hr : ReadsT w w.heap.size A ss) (hn : n = ss.length) (hl : ss.length ≤ 40) (hf : ∀ s ∈ ss, s.p.fit) :
    Calls Tryz.prog 30 #[.slice A n c, .string x] w (NeedsOut w (ss.map StR.p) x.data.toList) := by
  have Hr := Lib.hid (fun W (hb : Below w.heap.size w W) => hr.calm (Nat.le_refl _) hb)
  have HO := Lib.hid (rorder_any (c := c) hr hn hl hf)
  have Hn := Lib.hid (And.intro hn hl)
  have Hf := Lib.hid hf
  have hn4 : (n : Int) ≤ 40 := by omega
  have hn5 : n ≤ 1000 := by omega
  have Hlen := Lib.hid (show (ss.map StR.p).length = n by rw [List.length_map]; exact hn.symm)
  have hmk1 := run_makeM n hn5
  clear hr hn hl hf
  go_enter Tryz.func30, Tryz.ntmps30
  go_wp2_with fail
  refine HO.out.mono ?_
  rintro _ W2 ⟨⟨m, z, rfl, hs⟩, hb⟩
  have Hs := Lib.hid hs
  have Hb := Lib.hid hb
  rcases hs.code with rfl | rfl | rfl
  rotate_left
  · clear hs hb
    go_wp2_with fail
    refine bodyPost_ret (v := .tuple #[.slice none 0 0, .int .i64 2]) (by simp [results, Tryz.results30, go_sem]) rfl ?_
    exact ⟨⟨none, 0, 0, [], 2, rfl, OwnI.nil _ _, .inl ⟨by decide, rfl, _, Hs.out⟩⟩, Hb.out⟩
  · clear hs hb
    go_wp2_with fail
    refine bodyPost_ret (v := .tuple #[.slice none 0 0, .int .i64 401]) (by simp [results, Tryz.results30, go_sem]) rfl ?_
    exact ⟨⟨none, 0, 0, [], 401, rfl, OwnI.nil _ _, .inl ⟨by decide, rfl, _, Hs.out⟩⟩, Hb.out⟩
  have HS0 := Lib.hid (show OrdSays (ss.map StR.p) (ss.map StR.p).length 0 by have h := hs.full; rw [h] at hs; exact hs)
  have HCl := Lib.hid (at_any (c := c) (b := n) (x := x) (Hr.out _ hb) Hn.out.1 Hn.out.2 (Nat.le_refl _))
  clear hs hb
  cases hat : atP (ss.map StR.p) x.data.toList n with
  | none =>
    rw [hat] at HCl
    unfold atZ at HCl
    have Hat := Lib.hid hat
    clear hat
    go_wp2_with fail
    refine HCl.out.mono ?_
    rintro _ _ ⟨rfl, rfl⟩
    go_wp2_with fail
    refine bodyPost_ret (v := .tuple #[.slice none 0 0, .int .i64 401]) (by simp [results, Tryz.results30, go_sem]) rfl ?_
    exact ⟨⟨none, 0, 0, [], 401, rfl, OwnI.nil _ _, .inr (.inl ⟨rfl, rfl, HS0.out, .inr (by rw [Hlen.out]; exact Hat.out)⟩)⟩, Hb.out⟩
  | some last =>
    rw [hat] at HCl
    unfold atZ at HCl
    have hln : last < n := (atP_lt hat).1
    have hln1 : (last : Int) < (n : Int) := by omega
    have hln0 : ¬ (last : Int) < 0 := by omega
    have hln00 : (0 : Int) ≤ (last : Int) := by omega
    have hln4 : (last : Int) ≤ 40 := by omega
    have Hat := Lib.hid hat
    clear hat
    by_cases hne : x = ⟨#[]⟩
    · subst hne
      go_wp2_with fail
      refine HCl.out.mono ?_
      rintro _ _ ⟨rfl, rfl⟩
      go_wp2_with fail
      refine bodyPost_ret (v := .tuple #[.slice none 0 0, .int .i64 401]) (by simp [results, Tryz.results30, go_sem]) rfl ?_
      exact ⟨⟨none, 0, 0, [], 401, rfl, OwnI.nil _ _, .inr (.inl ⟨rfl, rfl, HS0.out, .inl rfl⟩)⟩, Hb.out⟩
    have x1 : ¬ x.toList = [] := fun h => hne (tl_inj (by rw [h, ByteArray.toList_eq]))
    have x2 : (x.toList == []) = false := by simpa using x1
    have x3 : x.toList.isEmpty = false := by simpa using x1
    have Hx1 := Lib.hid (show x.data.toList ≠ [] from fun h => hne (ByteArray.ext (Array.toList_inj.1 h)))
    have hbk := Blk.new W2 4 (mcells (fun _ => false) n)
    have hfz := hbk.frozen last
    have hou := hbk.cell last
    rw [mcells_get _ hln] at hou
    go_wp2_with fail
    refine HCl.out.mono ?_
    rintro _ _ ⟨rfl, rfl⟩
    go_wp2_with fail
    have hk0 : Blk (W2.alloc (.cells ((mcells (fun _ => false) n).setIfInBounds last (.bool true)) 4)) W2.heap.size 4 (mcells (fun j => if j = last then true else false) n) := by rw [← mcells_set]; exact Blk.new _ _ _
    have hb0 := Hb.out.alloc Hb.out.size (.cells ((mcells (fun _ => false) n).setIfInBounds last (.bool true)) 4)
    have Hg := Lib.hid Hb.out.size
    clear hmk1 hbk hfz hou
    generalize W2.alloc (.cells ((mcells (fun _ => false) n).setIfInBounds last (.bool true)) 4) = W3 at *
    have H3 := Lib.hid (And.intro hk0 hb0)
    clear hk0 hb0
    generalize W2.heap.size = g at *
    go_loopg [10, 11] (last + 1) (fun k jv qv wr => ∃ (i : Nat) (f : Nat → Bool), jv = .int .i64 ((i : Int) - 1) ∧ k = i ∧ i ≤ last + 1 ∧ Hid (Blk wr g 4 (mcells f n) ∧ Marked (ss.map StR.p) last i f) ∧ Hid (Below w.heap.size w wr))
    case atStart => exact ⟨last + 1, _, congrArg (Value.int .i64) (by omega), rfl, Nat.le_refl _, Lib.hid ⟨H3.out.1, Marked.start⟩, Lib.hid H3.out.2⟩
    case round =>
      obtain ⟨i, f, rfl, hk, hi, hK, hB⟩ := hrel
      have Hk := Lib.hid hk
      clear hk
      cases i with
      | zero =>
        have hj : ((0 : Nat) : Int) - 1 = -1 := by omega
        rw [hj]
        go_wp2_with fail
        go_loopg [12, 13] (last + 1) (fun k ov jv wq => ∃ (i : Nat) (A' : Option Addr) (n' c' : Nat) (l : List Int), ov = .slice A' n' c' ∧ jv = .int .i64 (i : Int) ∧ k = last + 1 - i ∧ i ≤ last + 1 ∧ Hid (OwnI wq w.heap.size (.slice A' n' c') l ∧ Ups f i l) ∧ Hid (Blk wq g 4 (mcells f n) ∧ Below w.heap.size w wq))
        case atStart => exact ⟨0, none, 0, 0, [], rfl, rfl, by omega, by omega, Lib.hid ⟨OwnI.nil _ _, Ups.start⟩, Lib.hid ⟨hK.out.1, hB.out⟩⟩
        case round =>
          obtain ⟨i, A', n', c', l, rfl, rfl, hk, hi, hO, hKq⟩ := hrel
          have Hkq := Lib.hid hk
          clear hk
          by_cases hil : i ≤ last
          · have hii : (i : Int) ≤ (last : Int) := by omega
            have hin : (i : Int) < (n : Int) := by omega
            have hi0 : (0 : Int) ≤ (i : Int) := by omega
            have hi4 : (i : Int) ≤ 40 := by omega
            have hou := hKq.out.1.cell i
            rw [mcells_get _ (by omega : i < n)] at hou
            cases hfi : f i with
            | false =>
              rw [hfi] at hou
              have Hfi := Lib.hid hfi
              clear hfi
              go_wp2_with fail
              go_roundg (last + 1 - (i + 1))
              case measure => have := Hkq.out; omega
              case rel => exact ⟨i + 1, A', n', c', l, rfl, rfl, rfl, by omega, Lib.hid ⟨hO.out.1, hO.out.2.pass Hfi.out⟩, hKq⟩
            | true =>
              rw [hfi] at hou
              have Hfi := Lib.hid hfi
              clear hfi
              have Hll := Lib.hid (show l.length ≤ 41 by have := hO.out.2.len; omega)
              go_wp2_with (refine wpI_append rfl (.tmp 93) (.tmp 95) rfl w.heap.size _ l [(i : Int)] (hO.out.1.alloc _) rfl rfl rfl (reads_single _ (i : Int)) (by have := Hll.out; omega) (by simp) (by have := hKq.out.2.size; simp; omega) ?_; intro A2 n2 c2 w2 ho2 hn2 hc2 hg2 hw2 hb2; have Ho2 := Lib.hid ho2; have Hb2 := Lib.hid (hb2 _ (hKq.out.2.alloc hKq.out.2.size _)); have Hk2 := Lib.hid ((hKq.out.1.alloc (.cells #[.int .i64 (i : Int)] 3)).grown hg2 (fun e => own_blk_ne hO.out.1 hKq.out.1 (by decide) e.symm)); clear ho2 hn2 hc2 hg2 hw2 hb2)
              go_roundg (last + 1 - (i + 1))
              case measure => have := Hkq.out; omega
              case rel => exact ⟨i + 1, A2, n2, c2, l ++ [(i : Int)], rfl, rfl, rfl, by omega, Lib.hid ⟨Ho2.out, hO.out.2.take Hfi.out⟩, Lib.hid ⟨Hk2.out, Hb2.out⟩⟩
          · have hii : ¬ (i : Int) ≤ (last : Int) := by omega
            have Hil := Lib.hid (show i = last + 1 by omega)
            go_wp2_with fail
            refine bodyPost_ret (v := .tuple #[.slice A' n' c', .int .i64 0]) (by simp [results, Tryz.results30, go_sem]) rfl ?_
            exact ⟨⟨A', n', c', l, 0, rfl, hO.out.1, .inr (.inr ⟨rfl, HS0.out, Hx1.out, last, by rw [Hlen.out]; exact Hat.out, (show Ups f (last + 1) l by rw [← Hil.out]; exact hO.out.2).done hK.out.2⟩)⟩, hKq.out.2⟩
      | succ j =>
        have hj : ((j + 1 : Nat) : Int) - 1 = (j : Int) := by omega
        rw [hj]
        have hjn : (j : Int) < (n : Int) := by omega
        have hj0 : (0 : Int) ≤ (j : Int) := by omega
        have hj4 : (j : Int) ≤ 40 := by omega
        have hjn' : j < n := by omega
        have hjl : j < ss.length := by rw [← Hn.out.1]; exact hjn'
        obtain ⟨ad, rfl, hb1, ⟨c0, c1, c2⟩, ha⟩ := (Hr.out _ hB.out).cells hjl
        have HC := Lib.hid (fun (W : World) (hb : Below w.heap.size w W) => show W.cell? ⟨(ad.add (j * 3)).block, (ad.add (j * 3)).off + 2, none⟩ = some (.slice ss[j].A ss[j].rs.length ss[j].c) ∧ ReadsA W W.heap.size ss[j].A ss[j].rs from by
          obtain ⟨ad', e, _, ⟨_, _, d2⟩, ha'⟩ := (Hr.out W hb).cells hjl
          injection e with e
          subst e
          exact ⟨d2, ha'⟩)
        have Hgp := Lib.hid (show (ss.map StR.p)[j]? = some ss[j].p by rw [List.getElem?_map, List.getElem?_eq_getElem hjl]; rfl)
        have Hfi := Lib.hid (Hf.out _ (List.getElem_mem hjl))
        have HAt := Lib.hid (fun W (hb : Below w.heap.size w W) (x : ByteArray) => at_any (c := c) (b := j) (x := x) (Hr.out W hb) Hn.out.1 Hn.out.2 (show j ≤ n by omega))
        clear ha hb1 c0 c1 c2
        generalize ss[j] = s at *
        obtain ⟨v, nm, A1, c1', rs⟩ := s
        simp only at HC
        clear hjl hj
        have Hrl := Lib.hid (show rs.length ≤ 1000000 by have h : (rs.map (fun r : ARow => r.2.2)).length ≤ 1000000 := Hfi.out.len; rwa [List.length_map] at h)
        cases hfj : f j with
        | false =>
          have Hfj := Lib.hid hfj
          clear hfj
          have hou := hK.out.1.cell j
          rw [mcells_get _ hjn', Hfj.out] at hou
          have c2 := (HC.out _ hB.out).1
          have Hps := Lib.hid (hK.out.2.pass Hfj.out)
          go_wp2_with fail
          go_loopg [11] 0 (fun kk qv wq => qv = .int .i64 0 ∧ kk = 0 ∧ Hid (wq = wr))
          case atStart => exact ⟨rfl, rfl, Lib.hid rfl⟩
          case round =>
            obtain ⟨rfl, hk0, hW⟩ := hrel
            have e := hW.out
            subst e
            clear hk0
            by_cases hrs : 0 < rs.length
            · have hrs1 : (0 : Int) < (rs.length : Int) := by omega
              go_wp2_with fail
              go_roundg j
              case measure => have := Hk.out; omega
              case rel => exact ⟨j, f, rfl, rfl, by omega, Lib.hid ⟨hK.out.1, Hps.out⟩, hB⟩
            · have hrs1 : ¬ (0 : Int) < (rs.length : Int) := by omega
              go_wp2_with fail
              go_roundg j
              case measure => have := Hk.out; omega
              case rel => exact ⟨j, f, rfl, rfl, by omega, Lib.hid ⟨hK.out.1, Hps.out⟩, hB⟩
        | true =>
          have Hnd := Lib.hid ((hK.out.2.at_ (Nat.le_refl _)).1 hfj)
          have Hfj := Lib.hid hfj
          clear hfj
          go_wp2_with fail
          go_loopg [11] rs.length (fun kk qv wq => ∃ (q : Nat) (f' : Nat → Bool), qv = .int .i64 (q : Int) ∧ kk = rs.length - q ∧ q ≤ rs.length ∧ Hid (Blk wq g 4 (mcells f' n) ∧ MarkQ (ss.map StR.p) last j q (rs.map (fun r : ARow => r.2.2)) f') ∧ Hid (wr.grownBy wq (some g)))
          case atStart => exact ⟨0, f, rfl, by omega, by omega, Lib.hid ⟨hK.out.1, MarkQ.start hK.out.2⟩, Lib.hid (World.grownBy.refl _ _)⟩
          case round =>
            obtain ⟨q, f', rfl, hkq, hq, hKq, hGq⟩ := hrel
            have Hkq := Lib.hid hkq
            clear hkq
            have Hbq := Lib.hid (hB.out.grown hGq.out hB.out.size (fun k hk => by injection hk with hk; rw [← hk]; exact Hg.out))
            have c2 := (HC.out _ Hbq.out).1
            have hou := hKq.out.1.cell j
            rw [mcells_get _ hjn', hKq.out.2.self hK.out.2, Hfj.out] at hou
            by_cases hqm : q < rs.length
            · have hqi : (q : Int) < (rs.length : Int) := by omega
              have hq0 : (0 : Int) ≤ (q : Int) := by omega
              have hq6 : (q : Int) ≤ 1000000 := by have := Hrl.out; omega
              obtain ⟨ad2, rfl, hb2, ⟨d0, d1, d2', d3, d4, d5, d6, d7, d8, d9, d10, d11⟩, ha2⟩ := (HC.out _ Hbq.out).2.cells hqm
              have hqx : q < (rs.map (fun r : ARow => r.2.2)).length := by rw [List.length_map]; exact hqm
              have Hxs := Lib.hid (show (rs.map (fun r : ARow => r.2.2))[q] = rs[q].2.2 by rw [List.getElem_map])
              have Hin := Lib.hid (List.getElem_mem hqm)
              have HMp := Lib.hid (show rs[q].2.2.k ≠ 1 → MarkQ (ss.map StR.p) last j (q + 1) (rs.map (fun r : ARow => r.2.2)) f' from fun h => hKq.out.2.pass hqx (by rw [Hxs.out]; exact h))
              have HMm := Lib.hid (show ∀ d, rs[q].2.2.k = 1 → atP (ss.map StR.p) rs[q].2.2.nm.data.toList j = some d → MarkQ (ss.map StR.p) last j (q + 1) (rs.map (fun r : ARow => r.2.2)) (fun j => if j = d then true else f' j) from fun d h h1 => hKq.out.2.mark hqx (by rw [Hxs.out]; exact h) (by rw [Hxs.out]; exact h1))
              clear ha2 hb2 Hxs hqx
              clear d2' d3 d4 d5 d6 d7 d8 d9 d10 d11
              generalize rs[q] = r at *
              clear hqm
              obtain ⟨Aw, cw, y⟩ := r
              simp only at d0 d1 HMp HMm
              by_cases hk1 : y.k = 1
              · have k1 : (y.k == 1) = true := by simp [hk1]
                have hst := (HS0.out.all.2 j (by rw [Hlen.out]; exact hjn') _ Hgp.out).2 y (List.mem_map.2 ⟨_, Hin.out, rfl⟩) hk1
                obtain ⟨d, hd⟩ : ∃ d, atP (ss.map StR.p) y.nm.data.toList j = some d := by
                  cases h : atP (ss.map StR.p) y.nm.data.toList j with
                  | none => exact absurd h hst
                  | some d => exact ⟨d, rfl⟩
                have hdj := (atP_lt hd).1
                have HM1 := Lib.hid (HMm.out d hk1 hd)
                have HCq := Lib.hid (HAt.out _ Hbq.out y.nm)
                rw [hd] at HCq
                unfold atZ at HCq
                have hdn : (d : Int) < (n : Int) := by omega
                have hd00 : (0 : Int) ≤ (d : Int) := by omega
                have hd4 : (d : Int) ≤ 40 := by omega
                have hou2 := hKq.out.1.cell d
                rw [mcells_get _ (by omega : d < n)] at hou2
                have hfz2 := hKq.out.1.frozen d
                have hks := hKq.out.1.set_ d (.bool true)
                rw [mcells_set] at hks
                have Hks := Lib.hid hks
                have Hgs := Lib.hid (only_setCell (p := ⟨g, d, none⟩) hGq.out (.inl rfl) (.bool true))
                clear HMp HMm hd hst hdj hks
                go_wp2_with fail
                refine HCq.out.mono ?_
                rintro _ _ ⟨rfl, rfl⟩
                go_wp2_with fail
                go_roundg (rs.length - (q + 1))
                case measure => have := Hkq.out; omega
                case rel => exact ⟨q + 1, _, rfl, rfl, by omega, Lib.hid ⟨Hks.out, HM1.out⟩, Hgs⟩
              · have k1 : (y.k == 1) = false := by simpa using hk1
                have HM1 := Lib.hid (HMp.out hk1)
                clear HMp HMm hk1
                go_wp2_with fail
                go_roundg (rs.length - (q + 1))
                case measure => have := Hkq.out; omega
                case rel => exact ⟨q + 1, f', rfl, rfl, by omega, Lib.hid ⟨hKq.out.1, HM1.out⟩, hGq⟩
            · have hqi : ¬ (q : Int) < (rs.length : Int) := by omega
              have HMd := Lib.hid (hKq.out.2.done Hgp.out (by show (rs.map (fun r : ARow => r.2.2)).length ≤ q; rw [List.length_map]; omega) Hnd.out)
              go_wp2_with fail
              go_roundg j
              case measure => have := Hk.out; omega
              case rel => exact ⟨j, f', rfl, rfl, by omega, Lib.hid ⟨hKq.out.1, HMd.out⟩, Lib.hid Hbq.out⟩
end Go.Proofs.YtebpggfccljagaaGreatDoor

/- script.Text. -/
namespace Go.Proofs.YtebpggfccljagaaGreatDoor
open Go.RowKit
open Wh
set_option linter.unusedSimpArgs false
set_option linter.unusedVariables false

theorem bld_write (B b : Nat) (bs : List Value) (s : ByteArray) (w : World) (h : Lib.IsBuilder 99 5 B b bs w) (hlen : bs.length + s.size ≤ 140737488355328) (hBw : B ≤ w.heap.size) :
    Calls Tryz.prog 58 #[.pointer (some ⟨b, 0, none⟩), .string s] w (fun e w' => e = .returned (.tuple #[.int .i64 s.size, .nilIface]) ∧ (Lib.BuilderAt 99 5 B b (.pointer (some ⟨b, 0, none⟩)) (bs ++ Lib.strCells s) w' ∧ Below B w w')) :=
  Any.Builder_WriteString { Tryz.lays156 with } Tryz.Builder_Extra_156 B b bs s w h hlen hBw
theorem bld_string (B b : Nat) (l : List UInt8) (w : World) (h : Lib.IsBuilder 99 5 B b (Lib.byteCells l) w) (hBw : B ≤ w.heap.size) :
    Calls Tryz.prog 59 #[.pointer (some ⟨b, 0, none⟩)] w (fun e w' => e = .returned (.string ⟨l.toArray⟩) ∧ Below B w w') :=
  Any.Builder_String_any { Tryz.lays156 with } Tryz.Builder_Extra_156 B b l w h hBw
theorem row_kept {w w' : World} {B : Nat} {e : TypeId} {size : Nat} {v : Value} {n : Nat} {xs : List Value} (h : w.ownsRow B e size v n xs) (hb : Below w.heap.size w w') : w'.ownsRow B e size v n xs := by
  refine ⟨h.1, ?_⟩
  rcases h.2 with h' | ⟨g, cap, cur, hv, hB, hh, r⟩
  · exact .inl h'
  · exact .inr ⟨g, cap, cur, hv, hB, (hb.block g (Array.getElem?_eq_some_iff.1 hh).1).trans hh, r⟩
theorem at_kept {w w' : World} {B b : Nat} {p : Value} {bs : List Value} (h : Lib.BuilderAt 99 5 B b p bs w) (hb : Below w.heap.size w w') : Lib.BuilderAt 99 5 B b p bs w' := by
  obtain ⟨h1, v, h2, h3, h4⟩ := h
  exact ⟨h1, v, (hb.block b (Array.getElem?_eq_some_iff.1 h2).1).trans h2, row_kept h3 hb, h4⟩
theorem bld_kept {w w' : World} {B b : Nat} {bs : List Value} (h : Lib.IsBuilder 99 5 B b bs w) (hb : Below w.heap.size w w') : Lib.IsBuilder 99 5 B b bs w' :=
  h.elim (fun h => .inl (at_kept h hb)) (fun h => .inr (at_kept h hb))
set_option maxRecDepth 100000 in
set_option maxHeartbeats 4000000 in
/-- script.Text -/
theorem stext_any {w : World} {B : Nat} {A : Option Addr} {n c : Nat} {ss : List StR} (hg : Gl B w) (hr : ReadsT w w.heap.size A ss) (hn : n = ss.length) (hl : ss.length ≤ 40) (hf : ∀ s ∈ ss, s.p.fit) :
    Calls Tryz.prog 25 #[.slice A n c] w (fun e w' => (∃ X m z, e = .returned (.tuple #[.string X, .int .i64 ((m : Nat) : Int), .int .i64 z]) ∧ TxtSays (ss.map StR.p) X.data.toList m z) ∧ Below w.heap.size w w') := by
  have HG := Lib.hid hg
  have Hr := Lib.hid (fun W (hb : Below w.heap.size w W) => hr.calm (Nat.le_refl _) hb)
  have Hn := Lib.hid (And.intro hn hl)
  have Hf := Lib.hid hf
  have hn4 : (n : Int) ≤ 40 := by omega
  have hn5 : ¬ (4096 : Int) < (n : Int) := by omega
  have HB0 := Lib.hid (And.intro (new_below w (.cells #[.pointer none, .slice none 0 0] 99)) (show Lib.IsBuilder 99 5 w.heap.size w.heap.size (Lib.byteCells []) (w.alloc (.cells #[.pointer none, .slice none 0 0] 99)) from Lib.fresh_isBuilder 99 5 w))
  clear hg hr hn hl hf
  go_enter Tryz.func25, Tryz.ntmps25
  go_wp2_with fail
  go_loopg [6, 7, 8, 9, 15] n (fun k i6 i7 i8 i9 iv wr => ∃ (i : Nat) (X : List UInt8), iv = .int .i64 (i : Int) ∧ k = n - i ∧ i ≤ n ∧ (X.length : Int) ≤ (i : Int) * 200000001 ∧ Hid ((∀ p ∈ (ss.map StR.p).take i, p.ok) ∧ X = linesT ((ss.map StR.p).take i)) ∧ Hid (Below w.heap.size w wr ∧ Lib.IsBuilder 99 5 w.heap.size w.heap.size (Lib.byteCells X) wr))
  case atStart => exact ⟨0, [], rfl, by omega, by omega, by decide, Lib.hid ⟨by simp, rfl⟩, HB0⟩
  case round =>
    obtain ⟨i, X, rfl, hk, hi, hS, hI, hO⟩ := hrel
    have Hk := Lib.hid hk
    clear hk
    by_cases hin : i < n
    · have hil : i < ss.length := by rw [← Hn.out.1]; omega
      have hip : i < (ss.map StR.p).length := by rw [List.length_map]; exact hil
      obtain ⟨ad, rfl, hb1, ⟨c0, c1, c2⟩, ha⟩ := (Hr.out _ hO.out.1).cells hil
      have hii : (i : Int) < (n : Int) := by omega
      have hi0 : (0 : Int) ≤ (i : Int) := by omega
      have hi6 : (i : Int) ≤ 40 := by omega
      have Hsz := Lib.hid (show X.length ≤ 8000000040 by omega)
      have Htk := Lib.hid (show (ss.map StR.p).take (i + 1) = (ss.map StR.p).take i ++ [ss[i].p] by rw [List.take_succ_eq_append_getElem hip, List.getElem_map])
      have Hgp := Lib.hid (show (ss.map StR.p)[i] = ss[i].p by rw [List.getElem_map])
      have Hfi := Lib.hid (Hf.out _ (List.getElem_mem hil))
      have HT := Lib.hid ((HG.out.below hO.out.1).alloc (.cells ss[i].cells 25))
      have ha2 := ha.alloc (Nat.le_refl _) (.cells ss[i].cells 25)
      have hb3 := hO.out.1.alloc hO.out.1.size (.cells ss[i].cells 25)
      have hB3 := bld_kept hO.out.2 (new_below wr (.cells ss[i].cells 25))
      have HO3 := Lib.hid (And.intro hb3 hB3)
      clear hb3 hB3
      rcases Classical.em (ss[i].p.ok) with hok | hno
      · have HV := Lib.hid (line_ok (HT.out.tab.more HT.out.hB) (ha2.more (by simp)) (Nat.le_refl _) Hfi.out hok)
        have Hok := Lib.hid hok
        unfold StR.cells bs at HV
        unfold StR.cells at HO3 HT ha2
        have HXL := Lib.hid (show (⟨(lineT ss[i].p).toArray⟩ : ByteArray).data.toList = lineT ss[i].p from rfl)
        have hX : ((⟨(lineT ss[i].p).toArray⟩ : ByteArray).size : Int) ≤ 200000000 := by
          have h1 := lineT_len hok
          show ((lineT ss[i].p).toArray.size : Int) ≤ 200000000
          rw [List.size_toArray]; omega
        generalize (⟨(lineT ss[i].p).toArray⟩ : ByteArray) = Y at *
        clear ha hb1 hok ha2
        generalize ss[i] = s at *
        obtain ⟨v, nm, A1, c1', rs⟩ := s
        simp only at c0 c1 c2 HV HO3 HT
        clear hil hip Hgp
        go_wp2_with fail
        refine HV.out.mono ?_
        rintro _ W2 ⟨rfl, hb2⟩
        have HO4 := Lib.hid (And.intro (HO3.out.1.trans (hb2.mono HO3.out.1.size)) (bld_kept HO3.out.2 hb2))
        clear hb2 c0 c1 c2
        have hYs : (Y ++ ⟨#[10]⟩ : ByteArray).size = Y.size + 1 := by
          rw [ByteArray.size_append]; rfl
        have HW := Lib.hid (bld_write w.heap.size w.heap.size _ (Y ++ ⟨#[10]⟩) W2 HO4.out.2 (by rw [hYs]; have := Hsz.out; unfold Lib.byteCells; rw [List.length_map]; omega) HO4.out.1.size)
        have HYs := Lib.hid hYs
        clear hYs
        go_wp2_with fail
        refine HW.out.mono ?_
        rintro _ W3 ⟨rfl, hat3, hb3⟩
        have HO5 := Lib.hid (And.intro (HO4.out.1.trans hb3) (show Lib.IsBuilder 99 5 w.heap.size w.heap.size (Lib.byteCells (X ++ (lineT (StR.p ⟨v, nm, A1, c1', rs⟩) ++ [10]))) W3 from by
          have e : Lib.byteCells (X ++ (lineT (StR.p ⟨v, nm, A1, c1', rs⟩) ++ [10])) = Lib.byteCells X ++ Lib.strCells (Y ++ ⟨#[10]⟩) := by
            rw [Lib.strCells_eq, Lib.byteCells_append]
            simp only [ByteArray.data_append, Array.toList_append]
            rw [HXL.out]
          rw [e]
          exact .inr hat3))
        clear hat3 hb3
        go_wp2_with fail
        go_roundg (n - (i + 1))
        case measure => have := Hk.out; omega
        case rel =>
          refine ⟨i + 1, X ++ (lineT (StR.p ⟨v, nm, A1, c1', rs⟩) ++ [10]), rfl, rfl, by omega, ?_, Lib.hid ⟨fun p hp => ?_, ?_⟩, HO5⟩
          · have h1 := lineT_len Hok.out
            simp only [List.length_append, List.length_singleton]
            omega
          · rw [Htk.out] at hp
            rcases List.mem_append.1 hp with h | h
            · exact hI.out.1 p h
            · rw [List.mem_singleton.1 h]; exact Hok.out
          · rw [Htk.out, hI.out.2]
            unfold linesT
            rw [List.flatMap_append, List.flatMap_cons, List.flatMap_nil, List.append_nil]
      · have HV := Lib.hid (line_bad (ha2.more (by simp)) (Nat.le_refl _) Hfi.out hno)
        have Hout := Lib.hid (show TxtSays (ss.map StR.p) [] i 2 from .inr ⟨hip, by rw [Hgp.out]; exact hno, hI.out.1, rfl, rfl⟩)
        unfold StR.cells at HV HO3 HT ha2
        clear ha hb1 hno Hgp ha2
        generalize ss[i] = s at *
        obtain ⟨v, nm, A1, c1', rs⟩ := s
        simp only at c0 c1 c2 HV HO3 HT
        clear hil hip
        go_wp2_with fail
        refine HV.out.mono ?_
        rintro _ W2 ⟨rfl, hb2⟩
        have HO4 := Lib.hid (HO3.out.1.trans (hb2.mono HO3.out.1.size))
        clear hb2 c0 c1 c2
        go_wp2_with fail
        refine bodyPost_ret (v := .tuple #[.string ⟨#[]⟩, .int .i64 (i : Int), .int .i64 2]) (by simp [results, Tryz.results25, go_sem]) rfl ?_
        exact ⟨⟨⟨#[]⟩, i, 2, rfl, Hout.out⟩, HO4.out⟩
    · have hii : ¬ (i : Int) < (n : Int) := by omega
      have Hout := Lib.hid (show TxtSays (ss.map StR.p) X n 0 from by
        have h := hI.out
        rw [List.take_of_length_le (by rw [List.length_map]; have := Hn.out.1; omega)] at h
        exact .inl ⟨h.1, h.2, by rw [List.length_map]; exact Hn.out.1, rfl⟩)
      have HW := Lib.hid (bld_string w.heap.size w.heap.size X wr hO.out.2 hO.out.1.size)
      go_wp2_with fail
      refine HW.out.mono ?_
      rintro _ W3 ⟨rfl, hb3⟩
      have HO5 := Lib.hid (hO.out.1.trans hb3)
      clear hb3
      go_wp2_with fail
      refine bodyPost_ret (v := .tuple #[.string ⟨X.toArray⟩, .int .i64 (n : Int), .int .i64 0]) (by simp [results, Tryz.results25, go_sem]) rfl ?_
      exact ⟨⟨⟨X.toArray⟩, n, 0, rfl, Hout.out⟩, HO5.out⟩
end Go.Proofs.YtebpggfccljagaaGreatDoor

/- law30.ScriptTexts. -/
namespace Go.Proofs.YtebpggfccljagaaGreatDoor
open Go.RowKit
open Wh
set_option linter.unusedSimpArgs false
set_option linter.unusedVariables false

theorem NeedsSays.len {ps : List StP} {x : List UInt8} {l : List Int} {z : Int} (h : NeedsSays ps x l z) : l.length ≤ ps.length := by
  rcases h with ⟨_, rfl, _⟩ | ⟨_, rfl, _⟩ | ⟨_, _, _, last, h4, m, rfl, h5, h6⟩
  · exact Nat.zero_le _
  · exact Nat.zero_le _
  · rw [List.length_map]
    have h7 := asc_len (a := 0) (b := last + 1) h5 (fun j hj => ⟨Nat.zero_le _, by have := ((h6 j).1 hj).le; omega⟩)
    have := (atP_lt h4).2
    omega
theorem names_take (ps : List StP) (i : Nat) : ∃ q, namesT ps = namesT (ps.take i) ++ q := by
  refine ⟨namesT (ps.drop i), ?_⟩
  have h := congrArg namesT (List.take_append_drop i ps)
  rw [← h]
  unfold namesT
  rw [List.map_append, List.filter_append]
theorem names_pass {ps : List StP} {i : Nat} (hi : i < ps.length) (h : ps[i].nm.data.toList = []) : (namesT (ps.take (i + 1))).length = (namesT (ps.take i)).length := by
  rw [List.take_succ_eq_append_getElem hi, namesT_app, if_pos h, List.append_nil]
theorem names_next {ps : List StP} {i : Nat} (hi : i < ps.length) (h : ps[i].nm.data.toList ≠ []) :
    (namesT (ps.take (i + 1))).length = (namesT (ps.take i)).length + 1 ∧ (namesT ps)[(namesT (ps.take i)).length]? = some ps[i].nm.data.toList := by
  have h1 : namesT (ps.take (i + 1)) = namesT (ps.take i) ++ [ps[i].nm.data.toList] := by rw [List.take_succ_eq_append_getElem hi, namesT_app, if_neg h]
  refine ⟨by rw [h1, List.length_append]; rfl, ?_⟩
  obtain ⟨q, hq⟩ := names_take ps (i + 1)
  rw [hq, h1, List.append_assoc, List.getElem?_append_right (Nat.le_refl _), Nat.sub_self]
  rfl
theorem bs_self (b : ByteArray) : bs b.data.toList = .string b := rfl
set_option maxRecDepth 100000 in
set_option maxHeartbeats 8000000 in
/-- law30.ScriptTexts -/
theorem stexts_any {w : World} {B : Nat} (hg : Gl B w) {A : Option Addr} {c : Nat} {ss : List StR} {x : ByteArray} (hr : ReadsT w w.heap.size A ss) (hx : x.size ≤ maxLen) :
    Calls Tryz.prog 6 #[.slice A ss.length c, .string x] w (fun e w' => e = .returned (.bool true) ∧ Below w.heap.size w w') := by
  have HK := Lib.hid (fun W (hb : Below w.heap.size w W) => known_any (hg.below hb))
  have HV := Lib.hid (large_any (c := c) hr (Nat.le_refl _) rfl)
  have HG := Lib.hid hg
  have HX := Lib.hid hx
  have Hr := Lib.hid (fun W (hb : Below w.heap.size w W) => hr.calm (Nat.le_refl _) hb)
  clear hg hr hx
  generalize hn : ss.length = n at *
  have Hn := Lib.hid hn.symm
  clear hn
  go_enter Tryz.func6, Tryz.ntmps6
  go_wp2_with fail
  refine HV.out.mono ?_
  rintro _ W1 ⟨b1, rfl, hv1, hb1⟩
  cases b1
  · have Hsm := Lib.hid (hv1 rfl)
    have H1 := Lib.hid hb1
    clear hv1 hb1
    have hn40 : n ≤ 40 := Hsm.out.1
    have Hl := Lib.hid (show ss.length ≤ 40 by rw [← Hn.out]; exact hn40)
    have Hf := Lib.hid (fun s (hs : s ∈ ss) => (Hsm.out.2 s hs).fit)
    go_wp2_with fail
    refine (stext_any (HG.out.below H1.out) (Hr.out _ H1.out) Hn.out Hl.out Hf.out).mono ?_
    rintro _ W2 ⟨⟨X, m, z, rfl, hs2⟩, hb2⟩
    have H2 := Lib.hid (And.intro (H1.out.trans (hb2.mono H1.out.size)) hs2)
    clear hb2 hs2
    go_wp2_with fail
    refine (rstext_any (HG.out.below H2.out.1) (Hr.out _ H2.out.1) Hn.out Hl.out Hf.out).mono ?_
    rintro _ W3 ⟨⟨X', m', z', rfl, hs3⟩, hb3⟩
    obtain ⟨eX, rfl, rfl⟩ := H2.out.2.uniq hs3
    obtain rfl : X = X' := ByteArray.ext (Array.toList_inj.1 eX)
    have H3 := Lib.hid (H2.out.1.trans (hb3.mono H2.out.1.size))
    clear hb3 hs3 eX
    go_wp2_with fail
    refine (sorder_any (Hr.out _ H3.out) Hn.out Hl.out Hf.out).mono ?_
    rintro _ W4 ⟨⟨o, g, rfl, hs4⟩, hb4⟩
    have H4 := Lib.hid (And.intro (H3.out.trans (hb4.mono H3.out.size)) hs4)
    clear hb4 hs4
    go_wp2_with fail
    refine (rorder_any (Hr.out _ H4.out.1) Hn.out Hl.out Hf.out).mono ?_
    rintro _ W5 ⟨⟨o', g', rfl, hs5⟩, hb5⟩
    obtain ⟨rfl, rfl⟩ := H4.out.2.uniq hs5
    have H5 := Lib.hid (H4.out.1.trans (hb5.mono H4.out.1.size))
    clear hb5 hs5
    go_wp2_with fail
    refine (sneeds_any (Hr.out _ H5.out) Hn.out Hl.out Hf.out HX.out).mono ?_
    rintro _ W6 ⟨⟨A6, n6, c6, l6, z6, rfl, ho6, hs6⟩, hb6⟩
    have H6 := Lib.hid (And.intro (H5.out.trans (hb6.mono H5.out.size)) (And.intro ho6 hs6))
    clear hb6 hs6 ho6
    go_wp2_with fail
    refine (rneeds_any (x := x) (Hr.out _ H6.out.1) Hn.out Hl.out Hf.out).mono ?_
    rintro _ W7 ⟨⟨A7, n7, c7, l7, z7, rfl, ho7, hs7⟩, hb7⟩
    obtain ⟨rfl, rfl⟩ := H6.out.2.2.uniq hs7
    have hll : l6.length ≤ 1000000000 := by have := hs7.len; rw [List.length_map] at this; have := Hl.out; omega
    have HS := Lib.hid (same_any (c := c6) (c' := c7) (H6.out.2.1.kept hb7).reads ho7.reads (H6.out.2.1.len).1 ho7.len.1 (by rw [H6.out.2.1.len.1]; exact hll) (by rw [ho7.len.1]; exact hll))
    rw [show EqOut W7 l6 l6 = (fun e w' => ∃ d, e = .returned (.bool true) ∧ W7.drewN d = w') from by unfold EqOut; simp] at HS
    have H7 := Lib.hid (H6.out.1.trans (hb7.mono H6.out.1.size))
    clear hb7 hs7 ho7 hll
    have e1 : (X.toList == X.toList) = true := by simp
    have e2 : ∀ z : Int, (z == z) = true := fun z => by simp
    have e3 := e2 m
    have e4 := e2 z
    have e5 := e2 o
    have e6 := e2 g
    have e7 := e2 z6
    clear e2
    go_wp2_with fail
    refine HS.out.mono ?_
    rintro _ W8 ⟨d8, rfl, hd8⟩
    have H8 := Lib.hid (show Below w.heap.size w W8 by rw [← hd8]; exact below_drewN H7.out d8)
    clear hd8
    go_wp2_with fail
    refine (names_any (Hr.out _ H8.out) Hn.out Hl.out).mono ?_
    rintro _ W9 ⟨A9, n9, c9, rfl, ho9, hb9⟩
    have H9 := Lib.hid (And.intro (H8.out.trans (hb9.mono H8.out.size)) ho9)
    have hn9 : n9 = (namesT (ss.map StR.p)).length := by
      obtain ⟨A', c', e, _⟩ := ho9.form
      injection e
    have Hn9 := Lib.hid hn9
    have hn94 : n9 ≤ 40 := by have := namesT_len (ss.map StR.p); rw [List.length_map] at this; have := Hl.out; omega
    clear hb9 ho9 hn9
    go_wp2_with fail
    go_loopg [20, 21] n (fun k av iv wr => ∃ (i j : Nat), av = .int .i64 (j : Int) ∧ iv = .int .i64 (i : Int) ∧ k = n - i ∧ i ≤ n ∧ Hid (j = (namesT ((ss.map StR.p).take i)).length) ∧ Hid (∃ d, wr = W9.drewN d))
    case atStart => exact ⟨0, 0, rfl, rfl, by omega, by omega, Lib.hid rfl, Lib.hid ⟨0, rfl⟩⟩
    case round =>
      obtain ⟨i, j, rfl, rfl, hk, hi, hj, hO⟩ := hrel
      have Hk := Lib.hid hk
      clear hk
      have HB := Lib.hid (show Below w.heap.size w wr by obtain ⟨d, rfl⟩ := hO.out; exact below_drewN H9.out.1 d)
      by_cases hin : i < n
      · have hil : i < ss.length := by rw [← Hn.out]; exact hin
        have hip : i < (ss.map StR.p).length := by rw [List.length_map]; exact hil
        obtain ⟨ad, rfl, hb1, ⟨c0, c1, c2⟩, ha⟩ := (Hr.out _ HB.out).cells hil
        have hii : (i : Int) < (n : Int) := by omega
        have hi0 : (0 : Int) ≤ (i : Int) := by omega
        have hi4 : (i : Int) ≤ 40 := by omega
        have Hgp := Lib.hid (show (ss.map StR.p)[i].nm = ss[i].nm by rw [List.getElem_map]; rfl)
        clear c0 c2 ha hb1
        generalize ss[i].nm = nm at *
        by_cases hne : nm = ⟨#[]⟩
        · subst hne
          have Hj := Lib.hid (hj.out.trans (names_pass hip (by rw [Hgp.out])).symm)
          go_wp2_with fail
          go_roundg (n - (i + 1))
          case measure => have := Hk.out; omega
          case rel => exact ⟨i + 1, j, rfl, rfl, rfl, by omega, Hj, hO⟩
        · have x1 : ¬ nm.toList = [] := fun h => hne (tl_inj (by rw [h, ByteArray.toList_eq]))
          have x2 : (nm.toList == []) = false := by simpa using x1
          have x3 : nm.toList.isEmpty = false := by simpa using x1
          have hnx := names_next hip (by rw [Hgp.out]; exact fun h => hne (ByteArray.ext (Array.toList_inj.1 h)))
          rw [← hj.out, Hgp.out] at hnx
          have Hj := Lib.hid hnx.1
          have hjn : j < n9 := by rw [Hn9.out]; exact (List.getElem?_eq_some_iff.1 hnx.2).1
          have hj1 : (j : Int) < (n9 : Int) := by omega
          have hj0 : (0 : Int) ≤ (j : Int) := by omega
          have hj4 : (j : Int) ≤ 40 := by omega
          have hrow : wr.ownsRow W8.heap.size 9 1 (.slice A9 n9 c9) (namesT (ss.map StR.p)).length ((namesT (ss.map StR.p)).map bs) := by obtain ⟨d, rfl⟩ := hO.out; exact H9.out.2
          rw [← Hn9.out] at hrow
          obtain ⟨ad9, u, rfl, hb9, hu, d0⟩ := (Reads.of_own hrow).at_ hjn
          clear hrow
          rw [List.getElem?_map, hnx.2] at hu
          injection hu with hu
          subst hu
          rw [bs_self] at d0
          have y1 : (nm.toList == nm.toList) = true := by simp
          clear hb9 hnx
          go_wp2_with (go_quiet (fail))
          go_roundg (n - (i + 1))
          case measure => have := Hk.out; omega
          case rel => exact ⟨i + 1, j + 1, rfl, rfl, rfl, by omega, Lib.hid Hj.out.symm, by obtain ⟨d, hd⟩ := hO.out; exact Lib.hid ⟨_, by rw [hd, World.drewN_drewN]⟩⟩
      · have hii : ¬ (i : Int) < (n : Int) := by omega
        have hjn : j = n9 := by
          have h := hj.out
          rw [List.take_of_length_le (by rw [List.length_map, Hn.out.symm]; omega)] at h
          rw [h, Hn9.out]
        subst hjn
        have y1 : ((j : Int) == (j : Int)) = true := by simp
        go_wp2_with (go_at_call 8; (refine (HK.out _ HB.out).mono ?_); rintro _ Wa ⟨rfl, hba⟩; have Ha := Lib.hid (HB.out.trans (hba.mono HB.out.size)); clear hba)
        go_ret
        exact ⟨rfl, Ha.out⟩
  · have H1 := Lib.hid hb1
    clear hv1 hb1
    go_wp2_with (go_at_call 8; (refine (HK.out _ H1.out).mono ?_); rintro _ W2 ⟨rfl, hb2⟩; have H2 := Lib.hid (H1.out.trans (hb2.mono H1.out.size)); clear hb2)
    go_ret
    exact ⟨rfl, H2.out⟩
end Go.Proofs.YtebpggfccljagaaGreatDoor

/- Rows of statements that came in. -/
namespace Go.Proofs.YtebpggfccljagaaGreatDoor.Laid
open Go.ChangeShapes Go.WideShapes Go.ChangeAt Go.RowKit Go.Deep
open Wh
set_option linter.unusedSimpArgs false
set_option linter.unusedVariables false

instance : Inhabited StR := ⟨⟨⟨#[]⟩, ⟨#[]⟩, none, 0, []⟩⟩
section
variable {H : Type} {enc : TypeId × Value → H} {w : World} {base fuel : Nat} {held : Bool}
set_option maxRecDepth 100000 in
/-- statements -/
theorem open_stmtsE {cs : List Value} {x : DataW H × List MemPlace} (h : DataW.trod enc Tryz.prog w base (fun _ => true) held fuel 51 cs = some x) :
    ∃ (A : Option Addr) (c : Nat) (ss : List StR), cs = [.slice A ss.length c] ∧ ss.length ≤ c ∧ c ≤ maxLen ∧ ReadsT w w.heap.size A ss := by
  rcases open_slice Tryz.underlying51 h with ⟨hcs, hx⟩ | ⟨a, len, cap, m, n, D, Pl, hcs, hb, hl, hm, hmm, hx, hall⟩
  · exact ⟨none, 0, [], hcs, Nat.le_refl _, by decide, ⟨⟨rfl, fun h => absurd h (by decide)⟩, fun r hr => by cases hr⟩⟩
  · simp only [if_true] at hmm
    subst hmm
    rw [c25] at hall
    have each : ∀ i, i < m → ∃ s : StR, w.cells? base (a.add (i * 3)) 3 = some (scs s) ∧ ReadsA w w.heap.size s.A s.rs := fun i hi => by
      obtain ⟨cs', h1, h2⟩ := hall i hi
      obtain ⟨s, rfl, _, _, hr⟩ := open_stmtE h2
      exact ⟨s, h1, hr⟩
    obtain ⟨r, hr⟩ := choose_lt each
    refine ⟨some a, m, (List.range len).map r, by rw [List.length_map, List.length_range]; exact hcs, by rw [List.length_map, List.length_range]; exact hl, hm, ⟨by rw [scs_len], fun hn => ⟨a, rfl, ?_, fun j u hu => ?_⟩⟩, fun x hx => ?_⟩
    · rw [List.length_map, List.length_range] at hn
      obtain ⟨_, _, hcell⟩ := World.cells?_some (hr 0 (by omega)).1
      have h0 := hcell 0 (by decide)
      have h1 : w.cell? ((a.add (0 * 3)).add 0) = some (.string (r 0).v) := h0
      have := block_lt_of_cell h1
      rwa [block_of_add, block_of_add] at this
    · have hj := (List.getElem?_eq_some_iff.1 hu).1
      rw [scs_len, List.length_map, List.length_range] at hj
      have hq : j / 3 < len := by omega
      have e : j = 3 * (j / 3) + j % 3 := (Nat.div_add_mod j 3).symm
      have hg := scs_get ((List.range len).map r) (j / 3) (by simpa using hq) (j % 3) (Nat.mod_lt _ (by decide))
      rw [← e, hu] at hg
      rw [List.getElem_map, List.getElem_range] at hg
      obtain ⟨_, _, hcell⟩ := World.cells?_some (hr (j / 3) (by omega)).1
      have h0 := hcell (j % 3) (Nat.mod_lt _ (by decide))
      rw [← hg, add_of_add] at h0
      rw [← h0]
      congr 2
      omega
    · obtain ⟨i, hi, rfl⟩ := List.mem_map.1 hx
      exact (hr i (by have := List.mem_range.1 hi; omega)).2
set_option maxRecDepth 100000 in
theorem open_stmts {v : Value} {d : DataW H} {p : List MemPlace} {b0 : Nat} (hval : Value.okWide Tryz.prog w .any b0 51 v) (h : DataW.Trod enc Tryz.prog w 0 (fun _ => true) true 51 v d p) :
    ∃ (A : Option Addr) (c : Nat) (ss : List StR), v = .slice A ss.length c ∧ ss.length ≤ c ∧ c ≤ maxLen ∧ ReadsT w w.heap.size A ss := by
  obtain ⟨a1, len0, cap0, rfl⟩ := okWide_slice Tryz.underlying51 hval
  obtain ⟨fuel, hf⟩ := h
  obtain ⟨A, c, ss, hcs, h1, h2, h3⟩ := open_stmtsE hf
  have e : Value.slice a1 len0 cap0 = .slice A ss.length c := by
    have : [Value.slice a1 len0 cap0] = [.slice A ss.length c] := hcs
    exact (List.cons.inj this).1
  exact ⟨A, c, ss, e, h1, h2, h3⟩
end
end Go.Proofs.YtebpggfccljagaaGreatDoor.Laid
