import Derived.Test.YtebpggfccljagaaGreatC2
import Derived.Test.YtebpggfccljagaaGreatC3
namespace Go.Proofs.YtebpggfccljagaaGreat
open Go Go.RowKit
inductive Kd where
 | plain
 | fresh
 | fills (a : Nat)
 deriving DecidableEq
abbrev ptr (g : Nat) : Value := .pointer (some ⟨g, 0, none⟩)
def upd (u : Nat → Value) (i : Nat) (v : Value) : Nat → Value := fun j => if j = i then v else u j
structure Vgs (V : World → Nat → Prop) : Prop where
 lt : ∀ {w g}, V w g → g < w.heap.size
 below : ∀ {w w' g}, V w g → Below w.heap.size w w' → V w' g
 off : ∀ {w w' g r}, V w g → g ≠ r → w.grownBy w' (some r) → V w' g
structure Steady (V : World → Nat → Prop) (b : Bool) (S : Value → World → Prop) : Prop where
 below : ∀ {v w w'}, S v w → Below w.heap.size w w' → S v w'
 off : ∀ {v w w' g}, S v w → V w g → (b = true → v ≠ ptr g) → w.grownBy w' (some g) → S v w'
def Kd.isFill : Kd → Bool
 | .fills _ => true
 | _ => false
def Eff (V : World → Nat → Prop) (kd : Kd) (u : Nat → Value) (w w' : World) (v : Value) : Prop :=
 match kd with
 | .plain => Below w.heap.size w w'
 | .fresh => Below w.heap.size w w' ∧ v = ptr w.heap.size ∧ V w' w.heap.size
 | .fills a => ∃ g, u a = ptr g ∧ v = ptr g ∧ w.grownBy w' (some g)
def cntB (L : Array Bool) : Nat := L.toList.count true
theorem count_set : ∀ (l : List Bool) (i : Nat), l[i]? = some false → (l.set i true).count true = l.count true + 1
 | [], _, h => by simp at h
 | x :: xs, 0, h => by
  simp only [List.getElem?_cons_zero, Option.some.injEq] at h
  subst h
  simp
 | x :: xs, i + 1, h => by
  simp only [List.getElem?_cons_succ] at h
  rw [List.set_cons_succ, List.count_cons, List.count_cons, count_set xs i h]
  omega
theorem cntB_set {L : Array Bool} {i : Nat} (h : L.getD i true = false) : cntB (L.setIfInBounds i true) = cntB L + 1 := by
 unfold cntB
 rw [Array.toList_setIfInBounds]
 refine count_set _ _ ?_
 rw [Array.getElem?_toList]
 rw [Array.getD_eq_getD_getElem?] at h
 cases hh : L[i]? with
 | none => rw [hh] at h; simp at h
 | some b => rw [hh] at h; simp at h; rw [h]
theorem count_full : ∀ (l : List Bool), l.count true = l.length → ∀ i, i < l.length → l[i]? = some true
 | [], _, i, hi => by simp at hi
 | x :: xs, h, i, hi => by
  have hle : xs.count true ≤ xs.length := List.count_le_length
  rw [List.count_cons, List.length_cons] at h
  have hx : x = true := by
   cases x
   ·simp at h; omega
   ·rfl
  subst hx
  simp at h
  cases i with
  | zero => rfl
  | succ i => rw [List.getElem?_cons_succ]; exact count_full xs h i (by simpa using hi)
def Lk (n k : Nat) : Array Bool := (List.replicate k true ++ List.replicate (n - k) false).toArray
section
variable {P : Program} {ops : Array Oper} {Q : Exit → Act → World → Prop} {md : Region.Mode}
def edge (md : Region.Mode) (o : Oper) (j : Nat) : Bool := o.after.any fun e => Region.binds md e && e.on == j
def backward (md : Region.Mode) (ops : Array Oper) : Bool := (List.range ops.size).all fun i => ((ops[i]?).map fun o => o.after.all fun e => !Region.binds md e || decide (e.on < i)).getD true
def okKd (md : Region.Mode) (ops : Array Oper) (k : Nat) (ks : List Kd) : Bool :=
 (List.range k).all fun c => match ks.getD c .plain with
  | .fills a => decide (a < k) && decide (ks.getD a .plain = .fresh) && ((ops[c]?).map fun o => edge md o a).getD false && ((List.range k).all fun c' => decide (c' = c) || !decide (ks.getD c' .plain = .fills a))
  | _ => true
theorem okKd_spec {k : Nat} {ks : List Kd} (h : okKd md ops k ks = true) {c a : Nat} (hc : c < k) (hf : ks.getD c .plain = .fills a) :
  a < k ∧ ks.getD a .plain = .fresh ∧ (∀ o, ops[c]? = some o → edge md o a = true) ∧ ∀ c' < k, ks.getD c' .plain = .fills a → c' = c := by
 unfold okKd at h
 rw [List.all_eq_true] at h
 have h1 := h c (List.mem_range.2 hc)
 rw [hf] at h1
 simp only [Bool.and_eq_true, decide_eq_true_eq, List.all_eq_true, List.mem_range, Bool.or_eq_true, Bool.not_eq_true', decide_eq_false_iff_not] at h1
 obtain ⟨⟨⟨h2, h3⟩, h4⟩, h5⟩ := h1
 refine ⟨h2, h3, fun o ho => ?_, fun c' hc' hf' => (h5 c' hc').resolve_right (fun hn => hn hf')⟩
 rw [ho] at h4
 exact h4
theorem backward_spec (h : backward md ops = true) {i : Nat} {o : Oper} (ho : ops[i]? = some o) {e : Edge} (he : e ∈ o.after) (hb : Region.binds md e = true) : e.on < i := by
 unfold backward at h
 rw [List.all_eq_true] at h
 have h1 := h i (List.mem_range.2 (Array.getElem?_eq_some_iff.1 ho).1)
 rw [ho] at h1
 simp only [Option.map_some, Option.getD_some, Array.all_eq_true_iff_forall_mem] at h1
 have h2 := h1 e he
 simpa [hb] using h2
structure MInv (V : World → Nat → Prop) (F : Nat → Value → World → Prop) (ks : List Kd) (k : Nat) (base : World) (L : Array Bool) (u : Nat → Value) (w : World) : Prop where
 bel : Below base.heap.size base w
 facts : ∀ j < k, L.getD j false = true → ks.getD j .plain ≠ .fresh → F j (u j) w
 news : ∀ a < k, L.getD a false = true → ks.getD a .plain = .fresh → ∃ g, u a = ptr g ∧ base.heap.size ≤ g ∧ g < w.heap.size ∧ ((∀ c < k, ks.getD c .plain = .fills a → L.getD c false = false) → V w g)
 apart : ∀ a < k, ∀ b < k, a ≠ b → L.getD a false = true → L.getD b false = true → ks.getD a .plain = .fresh → ks.getD b .plain = .fresh → u a ≠ u b
 fil : ∀ c < k, L.getD c false = true → ∀ a, ks.getD c .plain = .fills a → L.getD a false = true ∧ u c = u a
def StepAt (P : Program) (md : Region.Mode) (ops : Array Oper) (Q : Exit → Act → World → Prop) (V : World → Nat → Prop) (F : Nat → Value → World → Prop) (ks : List Kd) (mk : (Nat → Value) → Act) (C : World → Prop) (lo : Nat) (i : Nat) : Prop :=
 ∀ o, ops[i]? = some o → ∀ u w, C w → (∀ j, edge md o j = true → ks.getD j .plain ≠ .fresh → F j (u j) w) → (∀ a, ks.getD i .plain = .fills a → ∃ g, u a = ptr g ∧ lo ≤ g ∧ V w g) →
  ∀ K : Act → World → Prop, Shut (∀ v w', Eff V (ks.getD i .plain) u w w' v → (ks.getD i .plain ≠ .fresh → F i v w') → K ((mk u).put o.dst v) w') →
   if Region.wanted o (yielded ops (mk u).tmps) = true then Oper.wp P o (mk u) w K Q else K ((mk u).put o.dst undef) w
theorem grown_base {b w w' : World} {g : Nat} (h : Below b.heap.size b w) (hg : b.heap.size ≤ g) (h' : w.grownBy w' (some g)) : Below b.heap.size b w' :=
 ⟨h'.os.trans h.os, h'.tape.trans h.tape, h'.output.trans h.output, Nat.le_trans h.size h'.size, fun i hi => (h'.block i (Nat.lt_of_lt_of_le hi h.size) (by intro e; injection e with e; omega)).trans (h.block i hi)⟩
theorem getD_set_cases {L : Array Bool} {i j : Nat} (h : (L.setIfInBounds i true).getD j false = true) : j = i ∨ L.getD j false = true := by
 by_cases hij : i = j
 ·exact .inl hij.symm
 ·rw [getD_set_ne false hij] at h; exact .inr h
theorem MInv.step {V : World → Nat → Prop} (hV : Vgs V) {F : Nat → Value → World → Prop} {ks : List Kd} {k : Nat} {base : World} {L : Array Bool} {u : Nat → Value} {w w' : World} {i : Nat} {v : Value}
  (hF : ∀ j < k, ks.getD j .plain ≠ .fresh → Steady V (ks.getD j .plain).isFill (F j)) (hok : okKd md ops k ks = true)
  (h : MInv V F ks k base L u w) (hi : i < k) (hlt : i < L.size) (hnl : L.getD i false = false)
  (hfil : ∀ a, ks.getD i .plain = .fills a → L.getD a false = true)
  (he : Eff V (ks.getD i .plain) u w w' v) (hf : ks.getD i .plain ≠ .fresh → F i v w') : MInv V F ks k base (L.setIfInBounds i true) (upd u i v) w' := by
 have hsame : ∀ j, j ≠ i → upd u i v j = u j := fun j hj => by unfold upd; rw [if_neg hj]
 have hown : upd u i v i = v := by unfold upd; rw [if_pos rfl]
 have hne : ∀ j, L.getD j false = true → j ≠ i := fun j hj e => by rw [e, hnl] at hj; cases hj
 have hfilN : ∀ c < k, (L.setIfInBounds i true).getD c false = true → ∀ a, ks.getD c .plain = .fills a → (L.setIfInBounds i true).getD a false = true ∧ upd u i v c = upd u i v a := fun c hc hl a hfa => by
  rcases getD_set_cases hl with rfl | hl'
  ·have hal := hfil a hfa
   refine ⟨getD_set_true hal, ?_⟩
   rw [hown, hsame a (hne a hal)]
   rw [hfa] at he
   obtain ⟨g, h1, h2, _⟩ : ∃ g, u a = ptr g ∧ v = ptr g ∧ w.grownBy w' (some g) := he
   rw [h1, h2]
  ·obtain ⟨h1, h2⟩ := h.fil c hc hl' a hfa
   exact ⟨getD_set_true h1, by rw [hsame c (hne c hl'), hsame a (hne a h1)]; exact h2⟩
 rcases hk : ks.getD i .plain with _ | _ | a
 ·rw [hk] at he
  have hb : Below w.heap.size w w' := he
  refine ⟨h.bel.trans (hb.mono h.bel.size), fun j hj hl hn => ?_, fun a ha hl hn => ?_, fun a ha b hb' hab hla hlb hfa hfb => ?_, hfilN⟩
  ·rcases getD_set_cases hl with rfl | hl
   ·rw [hown]; exact hf hn
   ·rw [hsame j (hne j hl)]; exact (hF j hj hn).below (h.facts j hj hl hn) hb
  ·rcases getD_set_cases hl with rfl | hl
   ·rw [hk] at hn; cases hn
   ·obtain ⟨g, h1, h2, h3, h4⟩ := h.news a ha hl hn
    refine ⟨g, by rw [hsame a (hne a hl)]; exact h1, h2, Nat.lt_of_lt_of_le h3 hb.size, fun hc => hV.below (h4 fun c hc' hcf => ?_) hb⟩
    rcases hLc : L.getD c false with _ | _
    ·rfl
    ·have := hc c hc' hcf
     rw [getD_set_true hLc] at this
     cases this
  ·rcases getD_set_cases hla with rfl | ila
   ·rw [hk] at hfa; cases hfa
   ·rcases getD_set_cases hlb with rfl | ilb
    ·rw [hk] at hfb; cases hfb
    ·rw [hsame a (hne a ila), hsame b (hne b ilb)]; exact h.apart a ha b hb' hab ila ilb hfa hfb
 ·rw [hk] at he
  obtain ⟨hb, hv, hvg⟩ : Below w.heap.size w w' ∧ v = ptr w.heap.size ∧ V w' w.heap.size := he
  have hdiff : ∀ a < k, L.getD a false = true → ks.getD a .plain = .fresh → u a ≠ v := fun a ha hl hn e => by
   obtain ⟨g, h1, _, h3, _⟩ := h.news a ha hl hn
   rw [h1, hv] at e
   injection e with e
   injection e with e
   injection e with e
   omega
  refine ⟨h.bel.trans (hb.mono h.bel.size), fun j hj hl hn => ?_, fun a ha hl hn => ?_, fun a ha b hb' hab hla hlb hfa hfb => ?_, hfilN⟩
  ·rcases getD_set_cases hl with rfl | hl
   ·exact absurd hk hn
   ·rw [hsame j (hne j hl)]; exact (hF j hj hn).below (h.facts j hj hl hn) hb
  ·rcases getD_set_cases hl with rfl | hl
   ·exact ⟨w.heap.size, by rw [hown]; exact hv, h.bel.size, hV.lt hvg, fun _ => hvg⟩
   ·obtain ⟨g, h1, h2, h3, h4⟩ := h.news a ha hl hn
    refine ⟨g, by rw [hsame a (hne a hl)]; exact h1, h2, Nat.lt_of_lt_of_le h3 hb.size, fun hc => hV.below (h4 fun c hc' hcf => ?_) hb⟩
    rcases hLc : L.getD c false with _ | _
    ·rfl
    ·have := hc c hc' hcf
     rw [getD_set_true hLc] at this
     cases this
  ·rcases getD_set_cases hla with rfl | ila
   ·rcases getD_set_cases hlb with rfl | ilb
    ·exact absurd rfl hab
    ·rw [hown, hsame b (hne b ilb)]; exact fun e => hdiff b hb' ilb hfb e.symm
   ·rcases getD_set_cases hlb with rfl | ilb
    ·rw [hown, hsame a (hne a ila)]; exact hdiff a ha ila hfa
    ·rw [hsame a (hne a ila), hsame b (hne b ilb)]; exact h.apart a ha b hb' hab ila ilb hfa hfb
 ·rw [hk] at he
  obtain ⟨g, hg, _, hgr⟩ : ∃ g, u a = ptr g ∧ v = ptr g ∧ w.grownBy w' (some g) := he
  obtain ⟨hak, haf, _, huniq⟩ := okKd_spec hok hi hk
  have hal := hfil a hk
  obtain ⟨g', e1, e2, e3, e4⟩ := h.news a hak hal haf
  have hgg : g = g' := by
   rw [hg] at e1
   injection e1 with e1
   injection e1 with e1
   injection e1 with e1
  subst hgg
  have hvg : V w g := e4 fun c hc hcf => by
   have := huniq c hc hcf
   rw [this]
   exact hnl
  refine ⟨grown_base h.bel e2 hgr, fun j hj hl hn => ?_, fun b hb hl hn => ?_, fun a' ha b hb' hab hla hlb hfa hfb => ?_, hfilN⟩
  ·rcases getD_set_cases hl with rfl | hl
   ·rw [hown]; exact hf hn
   ·rw [hsame j (hne j hl)]; 
    refine (hF j hj hn).off (h.facts j hj hl hn) hvg (fun hb e => ?_) hgr
    rcases hkj : ks.getD j .plain with _ | _ | a'
    ·rw [hkj] at hb; cases hb
    ·rw [hkj] at hb; cases hb
    ·obtain ⟨h1, h2⟩ := h.fil j hj hl a' hkj
     obtain ⟨hak', haf', _, _⟩ := okKd_spec hok hj hkj
     have haa : a' ≠ a := fun e' => hne j hl (huniq j hj (by rw [hkj, e']))
     exact h.apart a' hak' a hak haa h1 hal haf' haf (by rw [← h2, e, hg])
  ·rcases getD_set_cases hl with rfl | hl
   ·rw [hk] at hn; cases hn
   ·obtain ⟨g2, h1, h2, h3, h4⟩ := h.news b hb hl hn
    refine ⟨g2, by rw [hsame b (hne b hl)]; exact h1, h2, Nat.lt_of_lt_of_le h3 hgr.size, fun hc => ?_⟩
    have hba : b ≠ a := fun e => by
     have := hc i hi (by rw [hk, e])
     have hset : (L.setIfInBounds i true).getD i false = true := by simp [hlt]
     rw [hset] at this
     cases this
    refine hV.off (h4 fun c hc' hcf => ?_) (fun e => ?_) hgr
    ·rcases hLc : L.getD c false with _ | _
     ·rfl
     ·have := hc c hc' hcf
      rw [getD_set_true hLc] at this
      cases this
    ·exact h.apart b hb a hak hba hl hal hn haf (by rw [h1, hg, e])
  ·rcases getD_set_cases hla with rfl | ila
   ·rw [hk] at hfa; cases hfa
   ·rcases getD_set_cases hlb with rfl | ilb
    ·rw [hk] at hfb; cases hfb
    ·rw [hsame a' (hne a' ila), hsame b (hne b ilb)]; exact h.apart a' ha b hb' hab ila ilb hfa hfb
theorem Lk_of {L : Array Bool} {n k : Nat} (hs : L.size = n) (hk : k ≤ n) (h1 : ∀ j < k, L.getD j false = true) (h2 : ∀ j, k ≤ j → L.getD j false = false) : L = Lk n k := by
 refine Array.ext_getElem? fun i => ?_
 have e : (Lk n k)[i]? = if i < k then some true else if i < n then some false else none := by
  simp only [Lk, List.getElem?_toArray, List.getElem?_append, List.length_replicate, List.getElem?_replicate]
  by_cases h : i < k
  ·simp [h]
  ·by_cases h' : i < n
   ·have : i - k < n - k := by omega
    simp [h, h', this]
   ·have : ¬ i - k < n - k := by omega
    simp [h, h', this]
 rw [e]
 by_cases h : i < k
 ·have h3 := h1 i h
  have hlt : i < L.size := by omega
  simp [hlt, h] at h3 ⊢
  exact h3
 ·by_cases h' : i < n
  ·have h3 := h2 i (by omega)
   have hlt : i < L.size := by omega
   simp [hlt, h, h'] at h3 ⊢
   exact h3
  ·have hlt : ¬ i < L.size := by omega
   simp [h, h', Array.getElem?_eq_none (Nat.le_of_not_lt hlt)]
theorem cntB_Lk {n k : Nat} : cntB (Lk n k) = k := by
 unfold cntB Lk
 simp [List.count_append, List.count_replicate]
theorem mono_any {V : World → Nat → Prop} (hV : Vgs V) {F : Nat → Value → World → Prop} {ks : List Kd} {k : Nat} {base : World} {mk : (Nat → Value) → Act} {C : World → Prop}
  (hk : k ≤ ops.size) (hback : backward md ops = true) (hdep : (List.range k).all (fun i => depsAll md ops k i) = true) (hok : okKd md ops k ks = true)
  (hput : ∀ i < k, ∀ o, ops[i]? = some o → ∀ u v, (mk u).put o.dst v = mk (upd u i v))
  (hC : ∀ w, Below base.heap.size base w → C w)
  (hF : ∀ j < k, ks.getD j .plain ≠ .fresh → Steady V (ks.getD j .plain).isFill (F j))
  (hst : ∀ i < k, StepAt P md ops Q V F ks mk C base.heap.size i)
  (hend : ∀ u w, Below base.heap.size base w → (∀ j < k, ks.getD j .plain ≠ .fresh → F j (u j) w) → (∀ a < k, ks.getD a .plain = .fresh → (∀ c < k, ks.getD c .plain ≠ .fills a) → ∃ g, u a = ptr g ∧ base.heap.size ≤ g ∧ V w g) → (∀ a < k, ∀ b < k, a ≠ b → ks.getD a .plain = .fresh → ks.getD b .plain = .fresh → u a ≠ u b) → (∀ c < k, ∀ a, ks.getD c .plain = .fills a → u c = u a) → (∀ a < k, ks.getD a .plain = .fresh → ∀ g, u a = ptr g → base.heap.size ≤ g) → wpAny P md ops Q (ops.size - k) (Lk ops.size k) (mk u) w) :
  ∀ (fuel : Nat) (L : Array Bool) (u : Nat → Value) (w : World), L.size = ops.size → Closed md ops L → cntB L + fuel = ops.size → (∀ j, k ≤ j → L.getD j false = false) →
   MInv V F ks k base L u w → wpAny P md ops Q fuel L (mk u) w := by
 intro fuel
 induction fuel with
 | zero =>
  intro L u w hs hcl hc hhi hm
  have hfull : ∀ i, i < ops.size → L.getD i false = true := fun i hi => by
   have := count_full L.toList (by unfold cntB at hc; simp at hc ⊢; omega) i (by simpa [hs] using hi)
   rw [Array.getElem?_toList] at this
   simp [this]
  have hke : k = ops.size := by
   rcases Nat.lt_or_ge k ops.size with h | h
   ·have h1 := hhi k (Nat.le_refl _)
    rw [hfull k h] at h1
    cases h1
   ·omega
  have hL := Lk_of hs hk (fun j hj => hfull j (by omega)) hhi
  have h0 := hend u w hm.bel (fun j hj hn => hm.facts j hj (hfull j (by omega)) hn) (fun a ha hf hn => by obtain ⟨g, e1, e2, _, e4⟩ := hm.news a ha (hfull a (by omega)) hf; exact ⟨g, e1, e2, e4 fun c hc hcf => absurd hcf (hn c hc)⟩) (fun a ha b hb hne h1 h2 => hm.apart a ha b hb hne (hfull a (by omega)) (hfull b (by omega)) h1 h2) (fun c hc a ha => (hm.fil c hc (hfull c (by omega)) a ha).2) (fun a ha hf g e => by obtain ⟨g0, e1, e2, _⟩ := hm.news a ha (hfull a (by omega)) hf; rw [e1] at e; injection e with e; injection e with e; injection e with e; omega)
  rw [← hL, show ops.size - k = 0 by omega] at h0
  exact h0
 | succ fuel ih =>
  intro L u w hs hcl hc hhi hm
  by_cases hall : ∀ j < k, L.getD j false = true
  ·have hL := Lk_of hs hk hall hhi
   have h0 := hend u w hm.bel (fun j hj hn => hm.facts j hj (hall j hj) hn) (fun a ha hf hn => by obtain ⟨g, e1, e2, _, e4⟩ := hm.news a ha (hall a ha) hf; exact ⟨g, e1, e2, e4 fun c hc hcf => absurd hcf (hn c hc)⟩) (fun a ha b hb hne h1 h2 => hm.apart a ha b hb hne (hall a ha) (hall b hb) h1 h2) (fun c hc a ha => (hm.fil c hc (hall c hc) a ha).2) (fun a ha hf g e => by obtain ⟨g0, e1, e2, _⟩ := hm.news a ha (hall a ha) hf; rw [e1] at e; injection e with e; injection e with e; injection e with e; omega)
   rw [← hL, show ops.size - k = fuel + 1 by rw [hL, cntB_Lk] at hc; omega] at h0
   exact h0
  ·have hmin : ∃ j, j < k ∧ L.getD j false = false ∧ ∀ i < j, L.getD i false = true := by
    have : ∀ m, m ≤ k → (∀ j < m, L.getD j false = true) ∨ ∃ j, j < m ∧ L.getD j false = false ∧ ∀ i < j, L.getD i false = true := by
     intro m
     induction m with
     | zero => intro _; exact .inl fun j hj => absurd hj (by omega)
     | succ m ihm =>
      intro hmk
      rcases ihm (by omega) with h | ⟨j, h1, h2, h3⟩
      ·rcases hb : L.getD m false with _ | _
       ·exact .inr ⟨m, by omega, hb, h⟩
       ·refine .inl fun j hj => ?_
        rcases Nat.lt_or_ge j m with hjm | hjm
        ·exact h j hjm
        ·have : j = m := by omega
         rw [this]; exact hb
      ·exact .inr ⟨j, by omega, h2, h3⟩
    rcases this k (Nat.le_refl _) with h | h
    ·exact absurd h hall
    ·exact h
   obtain ⟨j0, hj0, hj0l, hj0b⟩ := hmin
   refine ⟨fun hr => ?_, fun i hi => ?_⟩
   ·exfalso
    have hmem : j0 ∈ Region.ready md ops L := by
     rw [mem_ready]
     refine ⟨?_, ops[j0]'(by omega), Array.getElem?_eq_getElem (by omega), fun e he hb => hj0b _ (backward_spec hback (Array.getElem?_eq_getElem (by omega)) he hb)⟩
     have hlt : j0 < L.size := by omega
     simp [hlt] at hj0l ⊢
     exact hj0l
    rw [hr] at hmem
    cases hmem
   ·have hir := hi
    obtain ⟨hil, o, ho, hafter⟩ := mem_ready.1 hi
    have hisz : i < ops.size := (Array.getElem?_eq_some_iff.1 ho).1
    have hilt : i < L.size := by omega
    have hnl : L.getD i false = false := by simp [hilt] at hil ⊢; exact hil
    have hik : i < k := by
     rcases Nat.lt_or_ge i k with h | h
     ·exact h
     ·exfalso
      rw [List.all_eq_true] at hdep
      have h2 := hdep j0 (List.mem_range.2 hj0)
      unfold depsAll at h2
      rw [List.all_eq_true] at h2
      have h3 := h2 i (List.mem_range.2 hisz)
      rw [show decide (i < k) = false from decide_eq_false (by omega), Bool.false_or] at h3
      have h4 := deps_of_edges hcl ops.size i h3 (fun oj ho' e he hb => by
       rw [ho] at ho'
       injection ho' with ho'
       subst ho'
       exact hafter e he hb)
      rw [h4] at hj0l
      cases hj0l
    have hedge : ∀ j, edge md o j = true → j < k ∧ L.getD j false = true := fun j hj => by
     unfold edge at hj
     rw [Array.any_eq_true'] at hj
     obtain ⟨e, he, hj⟩ := hj
     rw [Bool.and_eq_true, beq_iff_eq] at hj
     have h1 := hafter e he hj.1
     have h2 := backward_spec hback ho he hj.1
     rw [hj.2] at h1 h2
     exact ⟨by omega, h1⟩
    have hfil : ∀ a, ks.getD i .plain = .fills a → L.getD a false = true := fun a ha => (hedge a ((okKd_spec hok hik ha).2.2.1 o ho)).2
    refine wpOp_step ho fun K hK => hst i hik o ho u w (hC w hm.bel) (fun j hj hn => hm.facts j (hedge j hj).1 (hedge j hj).2 hn) (fun a ha => ?_) K (fun v w' he hf => ?_)
    ·obtain ⟨h1, h2, _, h4⟩ := okKd_spec hok hik ha
     obtain ⟨g, e1, e2, _, e4⟩ := hm.news a h1 (hfil a ha) h2
     exact ⟨g, e1, e2, e4 fun c hc hcf => by rw [h4 c hc hcf]; exact hnl⟩
    ·refine hK _ _ ?_
     rw [hput i hik o ho]
     refine ih _ _ _ (by simpa using hs) (closed_set hcl hir) (by rw [cntB_set hil]; omega) (fun j hj => ?_) (hm.step hV hF hok hik hilt hnl hfil he hf)
     rw [getD_set_ne false (by omega)]
     exact hhi j hj
def dstOf (ops : Array Oper) (i : Nat) : Option Tmp := (ops[i]?).bind (·.dst)
def mkL (ops : Array Oper) (u : Nat → Value) : List Nat → Act → Act
 | [], b => b
 | i :: l, b => mkL ops u l (b.put (dstOf ops i) (u i))
def mkFrom (ops : Array Oper) (a : Act) (k : Nat) (u : Nat → Value) : Act := mkL ops u (List.range k) a
def apartL (ops : Array Oper) : List Nat → Bool
 | [] => true
 | i :: l => l.all (fun j => match dstOf ops i with | some d => dstOf ops j != some d | none => true) && !l.contains i && apartL ops l
theorem put_put (a : Act) (d : Option Tmp) (v v' : Value) : (a.put d v).put d v' = a.put d v' := by
 cases d with
 | none => rfl
 | some d => simp [Act.put]
theorem put_self (a : Act) (d : Option Tmp) : a.put d (match d with | some d => a.tmps.getD d undef | none => undef) = a := by
 cases d with
 | none => rfl
 | some d =>
  show { a with tmps := a.tmps.setIfInBounds d (a.tmps.getD d undef) } = a
  have e : a.tmps.setIfInBounds d (a.tmps.getD d undef) = a.tmps := by
   refine Array.ext_getElem? fun i => ?_
   rw [Array.getElem?_setIfInBounds]
   split
   ·rename_i h
    subst h
    split
    ·rename_i hlt
     simp [hlt]
    ·rename_i hlt
     simp [hlt]
   ·rfl
  rw [e]
theorem mkL_put {u : Nat → Value} {d : Option Tmp} {v : Value} : ∀ (l : List Nat) (b : Act), (∀ j ∈ l, ∀ x, d = some x → dstOf ops j ≠ some x) → (mkL ops u l b).put d v = mkL ops u l (b.put d v)
 | [], _, _ => rfl
 | j :: l, b, h => by
  show (mkL ops u l (b.put (dstOf ops j) (u j))).put d v = mkL ops u l ((b.put d v).put (dstOf ops j) (u j))
  rw [mkL_put l _ (fun j' hj' => h j' (List.mem_cons_of_mem _ hj')), ← Act.put_comm b v (u j) (h j (List.mem_cons_self ..))]
theorem mkL_upd {u : Nat → Value} {i : Nat} {v : Value} : ∀ (l : List Nat) (b : Act), i ∉ l → mkL ops (upd u i v) l b = mkL ops u l b
 | [], _, _ => rfl
 | j :: l, b, h => by
  have hj : j ≠ i := fun e => h (by rw [e]; exact List.mem_cons_self ..)
  show mkL ops (upd u i v) l (b.put (dstOf ops j) (upd u i v j)) = mkL ops u l (b.put (dstOf ops j) (u j))
  rw [mkL_upd l _ (fun hm => h (List.mem_cons_of_mem _ hm))]
  unfold upd
  rw [if_neg hj]
theorem mkL_set {u : Nat → Value} {i : Nat} {v : Value} : ∀ (l : List Nat) (b : Act), apartL ops l = true → i ∈ l → (mkL ops u l b).put (dstOf ops i) v = mkL ops (upd u i v) l b
 | [], _, _, h => by cases h
 | j :: l, b, ha, hi => by
  unfold apartL at ha
  simp only [Bool.and_eq_true, Bool.not_eq_true', List.all_eq_true] at ha
  obtain ⟨⟨h1, h2⟩, h3⟩ := ha
  have h2' : j ∉ l := by simpa using h2
  show (mkL ops u l (b.put (dstOf ops j) (u j))).put (dstOf ops i) v = mkL ops (upd u i v) l (b.put (dstOf ops j) (upd u i v j))
  by_cases hij : i = j
  ·subst hij
   rw [mkL_upd l _ h2', mkL_put l _ (fun j' hj' x hx => by have := h1 j' hj'; rw [hx] at this; simpa using this), put_put]
   unfold upd
   rw [if_pos rfl]
  ·have hm : i ∈ l := (List.mem_cons.1 hi).resolve_left hij
   rw [mkL_set l _ h3 hm]
   unfold upd
   rw [if_neg (Ne.symm hij)]
def held (ops : Array Oper) (a : Act) (i : Nat) : Value := match dstOf ops i with | some d => a.tmps.getD d undef | none => undef
theorem mkL_held {a : Act} : ∀ (l : List Nat), mkL ops (held ops a) l a = a
 | [] => rfl
 | j :: l => by
  show mkL ops (held ops a) l (a.put (dstOf ops j) (held ops a j)) = a
  have : a.put (dstOf ops j) (held ops a j) = a := put_self a (dstOf ops j)
  rw [this]
  exact mkL_held l
theorem wp_region_mono {id : Nat} {a : Act} {w : World} {V : World → Nat → Prop} (hV : Vgs V) (F : Nat → Value → World → Prop) (ks : List Kd) (k m : Nat) {mk : (Nat → Value) → Act} (C : World → Prop)
  (hm : P.follows .mixedOrders = true) (hsz : (ops.size == k + m) = true) (hback : backward .any ops = true) (hdep : (List.range k).all (fun i => depsAll .any ops k i) = true) (hok : okKd .any ops k ks = true) (hap : apartL ops (List.range k) = true)
  (hmk : ∀ u, mkFrom ops a k u = mk u)
  (hC : ∀ w', Below w.heap.size w w' → C w')
  (hF : ∀ j < k, ks.getD j .plain ≠ .fresh → Steady V (ks.getD j .plain).isFill (F j))
  (hst : ∀ i < k, StepAt P .any ops Q V F ks mk C w.heap.size i)
  (hend : ∀ u w', Below w.heap.size w w' → (∀ j < k, ks.getD j .plain ≠ .fresh → F j (u j) w') → (∀ a < k, ks.getD a .plain = .fresh → (∀ c < k, ks.getD c .plain ≠ .fills a) → ∃ g, u a = ptr g ∧ w.heap.size ≤ g ∧ V w' g) → (∀ a < k, ∀ b < k, a ≠ b → ks.getD a .plain = .fresh → ks.getD b .plain = .fresh → u a ≠ u b) → (∀ c < k, ∀ a, ks.getD c .plain = .fills a → u c = u a) → (∀ a < k, ks.getD a .plain = .fresh → ∀ g, u a = ptr g → w.heap.size ≤ g) → wpAny P .any ops Q m (Lk (k + m) k) (mk u) w') :
  (Code.region id ops true).wp P Q a w := by
 have hsz : ops.size = k + m := by simpa using hsz
 refine wp_region_any hm ?_
 have e : mk (held ops a) = a := by rw [← hmk]; exact mkL_held _
 have hul : ∀ {w'}, Below w.drew.heap.size w.drew w' → Below w.heap.size w w' := fun h => ⟨h.os, h.tape, h.output, h.size, h.block⟩
 have := mono_any (P := P) (Q := Q) (md := .any) hV (base := w.drew) (mk := mk) (C := C) (F := F) (ks := ks) (k := k) (by omega) hback hdep hok
  (fun i hi o ho u v => by
   rw [← hmk, ← hmk]
   have := mkL_set (ops := ops) (u := u) (i := i) (v := v) (List.range k) a hap (List.mem_range.2 hi)
   unfold mkFrom
   rw [← this]
   simp [dstOf, ho])
  (fun w' hb => hC w' (hul hb)) hF hst
  (fun u w' hb hf hn hap hfl hlo => by
   have h := hend u w' (hul hb) hf hn hap hfl hlo
   rw [show ops.size - k = m by omega, hsz]
   exact h)
  ops.size (Array.replicate ops.size false) (held ops a) w.drew (by simp) (closed_start _) (by simp [cntB, List.count_replicate])
  (fun j _ => by simp [Array.getElem?_replicate]; split <;> rfl)
  ⟨Below.refl _ _, fun j _ hl => by simp [Array.getElem?_replicate] at hl; split at hl <;> simp at hl, fun j _ hl => by simp [Array.getElem?_replicate] at hl; split at hl <;> simp at hl, fun a _ b _ _ hl => by simp [Array.getElem?_replicate] at hl; split at hl <;> simp at hl, fun c _ hl => by simp [Array.getElem?_replicate] at hl; split at hl <;> simp at hl⟩
 rw [e] at this
 exact this
theorem wpAny_tail {j : Nat} {o : Oper} {fuel : Nat} {L : Array Bool} {a : Act} {w : World} (ho : ops[j]? = some o) (hr : Region.ready md ops L = [j])
  (h : ∀ K' : Act → World → Prop, Shut (∀ a w, wpAny P md ops Q fuel (L.setIfInBounds j true) a w → K' a w) → if Region.wanted o (yielded ops a.tmps) = true then Oper.wp P o a w K' Q else K' (a.put o.dst undef) w) :
  wpAny P md ops Q (fuel + 1) L a w :=
 ⟨fun h0 => (by rw [hr] at h0; cases h0), fun i hi => by
  rw [hr] at hi
  simp only [List.mem_singleton] at hi
  subst hi
  exact wpOp_step ho h⟩
theorem wpAny_end {L : Array Bool} {a : Act} {w : World} {fuel : Nat} (hr : Region.ready md ops L = []) (h : Q .normal a w) : wpAny P md ops Q fuel L a w := by
 cases fuel with
 | zero => exact ⟨hr, h⟩
 | succ f => exact ⟨fun _ => h, fun i hi => by rw [hr] at hi; cases hi⟩
theorem steps_nil {S : Nat → Prop} {k : Nat} : ∀ i < k, k ≤ i → S i := fun i h1 h2 => absurd h2 (by omega)
theorem steps_cons {S : Nat → Prop} {k j : Nat} (h : S j) (hs : ∀ i < k, j + 1 ≤ i → S i) : ∀ i < k, j ≤ i → S i := fun i h1 h2 => by
 rcases Nat.lt_or_ge j i with h3 | h3
 ·exact hs i h1 h3
 ·have : i = j := by omega
  rw [this]; exact h
theorem steps_all {S : Nat → Prop} {k : Nat} (h : ∀ i < k, 0 ≤ i → S i) : ∀ i < k, S i := fun i hi => h i hi (Nat.zero_le _)
def Is (c : Value) : Value → World → Prop := fun v _ => v = c
theorem is_steady (V : World → Nat → Prop) (b : Bool) (c : Value) : Steady V b (Is c) := ⟨fun h _ => h, fun h _ _ _ => h⟩
def AllSteady (V : World → Nat → Prop) : List Kd → List (Value → World → Prop) → Prop
 | _, [] => True
 | ks, S :: l => Steady V (ks.headD .plain).isFill S ∧ AllSteady V ks.tail l
def fOf (Fs : List (Value → World → Prop)) (j : Nat) : Value → World → Prop := Fs.getD j (Is undef)
theorem AllSteady.get {V : World → Nat → Prop} : ∀ {ks : List Kd} {Fs : List (Value → World → Prop)}, AllSteady V ks Fs → ∀ j, Steady V (ks.getD j .plain).isFill (fOf Fs j)
 | _, [], _, _ => is_steady V _ undef
 | [], _ :: _, h, 0 => h.1
 | _ :: _, _ :: _, h, 0 => h.1
 | [], _ :: _, h, j + 1 => AllSteady.get (ks := []) h.2 j
 | _ :: _, _ :: _, h, j + 1 => AllSteady.get h.2 j
theorem wp_region_list {id : Nat} {a : Act} {w : World} {V : World → Nat → Prop} (hV : Vgs V) (Fs : List (Value → World → Prop)) (ks : List Kd) (k m : Nat) {mk : (Nat → Value) → Act} (C : World → Prop) (hs : AllSteady V ks Fs)
  (hm : P.follows .mixedOrders = true) (hsz : (ops.size == k + m) = true) (hback : backward .any ops = true) (hdep : (List.range k).all (fun i => depsAll .any ops k i) = true) (hok : okKd .any ops k ks = true) (hap : apartL ops (List.range k) = true)
  (hmk : ∀ u, mkFrom ops a k u = mk u)
  (hC : ∀ w', Below w.heap.size w w' → C w')
  (hst : ∀ i < k, StepAt P .any ops Q V (fOf Fs) ks mk C w.heap.size i)
  (hend : ∀ u w', Below w.heap.size w w' → (∀ j < k, ks.getD j .plain ≠ .fresh → fOf Fs j (u j) w') → (∀ a < k, ks.getD a .plain = .fresh → (∀ c < k, ks.getD c .plain ≠ .fills a) → ∃ g, u a = ptr g ∧ w.heap.size ≤ g ∧ V w' g) → wpAny P .any ops Q m (Lk (k + m) k) (mk u) w') :
  (Code.region id ops true).wp P Q a w :=
 wp_region_mono hV (fOf Fs) ks k m C hm hsz hback hdep hok hap hmk hC (fun j _ _ => hs.get j) hst (fun u w' hb hf hn _ _ _ => hend u w' hb hf hn)
theorem wp_region_list2 {id : Nat} {a : Act} {w : World} {V : World → Nat → Prop} (hV : Vgs V) (Fs : List (Value → World → Prop)) (ks : List Kd) (k m : Nat) {mk : (Nat → Value) → Act} (C : World → Prop) (hs : AllSteady V ks Fs)
  (hm : P.follows .mixedOrders = true) (hsz : (ops.size == k + m) = true) (hback : backward .any ops = true) (hdep : (List.range k).all (fun i => depsAll .any ops k i) = true) (hok : okKd .any ops k ks = true) (hap : apartL ops (List.range k) = true)
  (hmk : ∀ u, mkFrom ops a k u = mk u)
  (hC : ∀ w', Below w.heap.size w w' → C w')
  (hst : ∀ i < k, StepAt P .any ops Q V (fOf Fs) ks mk C w.heap.size i)
  (hend : ∀ u w', Below w.heap.size w w' → (∀ j < k, ks.getD j .plain ≠ .fresh → fOf Fs j (u j) w') → (∀ a < k, ks.getD a .plain = .fresh → (∀ c < k, ks.getD c .plain ≠ .fills a) → ∃ g, u a = ptr g ∧ w.heap.size ≤ g ∧ V w' g) → (∀ a < k, ∀ b < k, a ≠ b → ks.getD a .plain = .fresh → ks.getD b .plain = .fresh → u a ≠ u b) → (∀ c < k, ∀ a, ks.getD c .plain = .fills a → u c = u a) → (∀ a < k, ks.getD a .plain = .fresh → ∀ g, u a = ptr g → w.heap.size ≤ g) → wpAny P .any ops Q m (Lk (k + m) k) (mk u) w') :
  (Code.region id ops true).wp P Q a w :=
 wp_region_mono hV (fOf Fs) ks k m C hm hsz hback hdep hok hap hmk hC (fun j _ _ => hs.get j) hst hend
section
variable {V : World → Nat → Prop} {F : Nat → Value → World → Prop} {ks : List Kd} {mk : (Nat → Value) → Act} {C : World → Prop} {lo : Nat}
theorem step_val {i : Nat} {o : Oper} (ho : ops[i]? = some o) (hg : o.guard = none) (hk : ks.getD i .plain = .plain)
  (h : ∀ u w, C w → (∀ j, edge md o j = true → ks.getD j .plain ≠ .fresh → F j (u j) w) → ∃ v, (execOp (mk u).eval o).run P w = .ok (.value v) w ∧ F i v w) : StepAt P md ops Q V F ks mk C lo i := by
 intro o' ho' u w hc hd _ K hK
 rw [ho] at ho'
 injection ho' with ho'
 subst ho'
 have hw : Region.wanted o (yielded ops (mk u).tmps) = true := by simp [Region.wanted, hg]
 rw [if_pos hw]
 obtain ⟨v, hr, hf⟩ := h u w hc hd
 unfold Oper.wp
 rw [hr]
 exact hK.out v w (by rw [hk]; exact Below.refl _ _) (fun _ => hf)
theorem step_is {i : Nat} {o : Oper} {c : Value} (ho : ops[i]? = some o) (hF : F i = Is c) (hg : o.guard = none) (hk : ks.getD i .plain = .plain)
  (h : ∀ u w, C w → (∀ j, edge md o j = true → ks.getD j .plain ≠ .fresh → F j (u j) w) → (execOp (mk u).eval o).run P w = .ok (.value c) w) : StepAt P md ops Q V F ks mk C lo i :=
 step_val ho hg hk fun u w hc hd => ⟨c, h u w hc hd, by rw [hF]; exact rfl⟩
theorem step_new {i : Nat} {o : Oper} (ho : ops[i]? = some o) (hg : o.guard = none) (hk : ks.getD i .plain = .fresh)
  (h : ∀ u w, C w → ∃ ob, (execOp (mk u).eval o).run P w = .ok (.value (ptr w.heap.size)) (w.alloc ob) ∧ V (w.alloc ob) w.heap.size) : StepAt P md ops Q V F ks mk C lo i := by
 intro o' ho' u w hc hd _ K hK
 rw [ho] at ho'
 injection ho' with ho'
 subst ho'
 have hw : Region.wanted o (yielded ops (mk u).tmps) = true := by simp [Region.wanted, hg]
 rw [if_pos hw]
 obtain ⟨ob, hr, hv⟩ := h u w hc
 unfold Oper.wp
 rw [hr]
 exact hK.out _ _ (by rw [hk]; exact ⟨(Below.refl _ _).alloc (Nat.le_refl _) _, rfl, hv⟩) (fun hn => absurd hk hn)
theorem step_call {i : Nat} {o : Oper} (ho : ops[i]? = some o) (hg : o.guard = none) (hk : ks.getD i .plain = .plain)
  (h : ∀ u w, C w → (∀ j, edge md o j = true → ks.getD j .plain ≠ .fresh → F j (u j) w) → ∃ f args, (execOp (mk u).eval o).run P w = .ok (.enter f args) w ∧
   Calls P f args w (fun e w' => ∃ v, e = .returned v ∧ F i v w' ∧ Below w.heap.size w w')) : StepAt P md ops Q V F ks mk C lo i := by
 intro o' ho' u w hc hd _ K hK
 rw [ho] at ho'
 injection ho' with ho'
 subst ho'
 have hw : Region.wanted o (yielded ops (mk u).tmps) = true := by simp [Region.wanted, hg]
 rw [if_pos hw]
 obtain ⟨f, args, hr, hcl⟩ := h u w hc hd
 unfold Oper.wp
 rw [hr, Oper.upon_enter]
 refine hcl.mono ?_
 rintro _ w' ⟨v, rfl, hf, hb⟩
 exact hK.out v w' (by rw [hk]; exact hb) (fun _ => hf)
theorem step_store {i a : Nat} {o : Oper} (ho : ops[i]? = some o) (hg : o.guard = none) (hd : o.dst = none) (hk : ks.getD i .plain = .fills a)
  (h : ∀ u w g, C w → (∀ j, edge md o j = true → ks.getD j .plain ≠ .fresh → F j (u j) w) → u a = ptr g → lo ≤ g → V w g →
   ∀ K : Act → World → Prop, (∀ w', F i (ptr g) w' → w.grownBy w' (some g) → K (mk u) w') → Oper.wp P o (mk u) w K Q) : StepAt P md ops Q V F ks mk C lo i := by
 intro o' ho' u w hc hdd hfl K hK
 rw [ho] at ho'
 injection ho' with ho'
 subst ho'
 have hw : Region.wanted o (yielded ops (mk u).tmps) = true := by simp [Region.wanted, hg]
 rw [if_pos hw]
 obtain ⟨g, hg, hlo, hv⟩ := hfl a hk
 refine h u w g hc hdd hg hlo hv K fun w' hf hb => ?_
 have := hK.out (ptr g) w' (by rw [hk]; exact ⟨g, hg, rfl, hb⟩) (fun _ => hf)
 rw [hd] at this
 exact this
theorem step_fill {i a : Nat} {o : Oper} (ho : ops[i]? = some o) (hg : o.guard = none) (hk : ks.getD i .plain = .fills a)
  (h : ∀ u w g, C w → (∀ j, edge md o j = true → ks.getD j .plain ≠ .fresh → F j (u j) w) → u a = ptr g → lo ≤ g → V w g → ∃ f args, (execOp (mk u).eval o).run P w = .ok (.enter f args) w ∧
   Calls P f args w (fun e w' => e = .returned (ptr g) ∧ F i (ptr g) w' ∧ w.grownBy w' (some g))) : StepAt P md ops Q V F ks mk C lo i := by
 intro o' ho' u w hc hd hfl K hK
 rw [ho] at ho'
 injection ho' with ho'
 subst ho'
 have hw : Region.wanted o (yielded ops (mk u).tmps) = true := by simp [Region.wanted, hg]
 rw [if_pos hw]
 obtain ⟨g, hg, hlo, hv⟩ := hfl a hk
 obtain ⟨f, args, hr, hcl⟩ := h u w g hc hd hg hlo hv
 unfold Oper.wp
 rw [hr, Oper.upon_enter]
 refine hcl.mono ?_
 rintro _ w' ⟨rfl, hf, hb⟩
 exact hK.out _ w' (by rw [hk]; exact ⟨g, hg, rfl, hb⟩) (fun _ => hf)
end
end
end Go.Proofs.YtebpggfccljagaaGreat
namespace Go.Proofs.YtebpggfccljagaaGreat
open Go.RowKit
open Wh
set_option linter.unusedSimpArgs false
structure Sz (q : Rat) (n : Nat) : Prop where
 num : q.num.natAbs < 2 ^ n
 den : q.den < 2 ^ n
theorem Sz.up {q : Rat} {n m : Nat} (h : Sz q n) (hm : n ≤ m) : Sz q m :=
 ⟨Nat.lt_of_lt_of_le h.num (Nat.pow_le_pow_right (by decide) hm), Nat.lt_of_lt_of_le h.den (Nat.pow_le_pow_right (by decide) hm)⟩
theorem Sz.ofInts {a b : Int} {n : Nat} (hb : b ≠ 0) (ha : a.natAbs < 2 ^ n) (hb' : b.natAbs < 2 ^ n) : Sz (Rat.divInt a b) n := by
 constructor
 ·rw [← num_gcS hb, Int.natAbs_tdiv]
  exact Nat.lt_of_le_of_lt (Nat.div_le_self _ _) ha
 ·have e := den_gcS (a := a) hb
  have e2 : (Rat.divInt a b).den = (b.tdiv (gcS a b)).natAbs := by rw [e, Int.natAbs_natCast]
  rw [e2, Int.natAbs_tdiv]
  exact Nat.lt_of_le_of_lt (Nat.div_le_self _ _) hb'
theorem add_ints (x y : Rat) : x + y = Rat.divInt (x.num * y.den + y.num * x.den) ((x.den : Int) * y.den) := by
 have hx : (x.den : Int) ≠ 0 := by have := x.den_pos; omega
 have hy : (y.den : Int) ≠ 0 := by have := y.den_pos; omega
 have := Rat.divInt_add_divInt x.num y.num hx hy
 rwa [Rat.num_divInt_den, Rat.num_divInt_den] at this
theorem sub_ints (x y : Rat) : x - y = Rat.divInt (x.num * y.den - y.num * x.den) ((x.den : Int) * y.den) := by
 have hx : (x.den : Int) ≠ 0 := by have := x.den_pos; omega
 have hy : (y.den : Int) ≠ 0 := by have := y.den_pos; omega
 have := Rat.divInt_sub_divInt x.num y.num hx hy
 rwa [Rat.num_divInt_den, Rat.num_divInt_den] at this
theorem mul_ints (x y : Rat) : x * y = Rat.divInt (x.num * y.num) ((x.den : Int) * y.den) := by
 have := Rat.divInt_mul_divInt x.num y.num (d₁ := x.den) (d₂ := y.den)
 rwa [Rat.num_divInt_den, Rat.num_divInt_den] at this
theorem quo_ints (x y : Rat) : x / y = Rat.divInt (x.num * y.den) ((x.den : Int) * y.num) := by
 rw [Rat.div_def, Rat.inv_def]
 have := Rat.divInt_mul_divInt x.num (y.den : Int) (d₁ := x.den) (d₂ := y.num)
 rwa [Rat.num_divInt_den] at this
theorem abs_mul_lt {a b : Int} {n m : Nat} (ha : a.natAbs < 2 ^ n) (hb : b.natAbs < 2 ^ m) : (a * b).natAbs < 2 ^ (n + m) := by
 rw [Int.natAbs_mul, Nat.pow_add]
 exact Nat.mul_lt_mul_of_lt_of_le ha (Nat.le_of_lt hb) (by have := Nat.pow_pos (n := m) (show 0 < 2 by decide); omega)
theorem abs_add_lt {a b : Int} {n : Nat} (ha : a.natAbs < 2 ^ n) (hb : b.natAbs < 2 ^ n) : (a + b).natAbs < 2 ^ (n + 1) ∧ (a - b).natAbs < 2 ^ (n + 1) := by
 rw [Nat.pow_succ]
 omega
theorem dens_ne (x y : Rat) : ((x.den : Int) * y.den) ≠ 0 := by
 have hx := x.den_pos
 have hy := y.den_pos
 exact Int.mul_ne_zero (by omega) (by omega)
theorem pow_lt1 {x n : Nat} (h : x < 2 ^ n) : x < 2 ^ (n + 1) := Nat.lt_of_lt_of_le h (Nat.pow_le_pow_right (by decide) (by omega))
theorem Sz.add {x y : Rat} {n : Nat} (hx : Sz x n) (hy : Sz y n) : Sz (x + y) (n + n + 1) := by
 rw [add_ints]
 exact Sz.ofInts (dens_ne x y) (abs_add_lt (abs_mul_lt hx.num (by simpa using hy.den)) (abs_mul_lt hy.num (by simpa using hx.den))).1 (pow_lt1 (abs_mul_lt (by simpa using hx.den) (by simpa using hy.den)))
theorem Sz.sub {x y : Rat} {n : Nat} (hx : Sz x n) (hy : Sz y n) : Sz (x - y) (n + n + 1) := by
 rw [sub_ints]
 exact Sz.ofInts (dens_ne x y) (abs_add_lt (abs_mul_lt hx.num (by simpa using hy.den)) (abs_mul_lt hy.num (by simpa using hx.den))).2 (pow_lt1 (abs_mul_lt (by simpa using hx.den) (by simpa using hy.den)))
theorem Sz.mul {x y : Rat} {n : Nat} (hx : Sz x n) (hy : Sz y n) : Sz (x * y) (n + n) := by
 rw [mul_ints]
 exact Sz.ofInts (dens_ne x y) (abs_mul_lt hx.num hy.num) (abs_mul_lt (by simpa using hx.den) (by simpa using hy.den))
theorem num_ne {y : Rat} (h : y ≠ 0) : y.num ≠ 0 := fun e => h (Rat.num_eq_zero.1 e)
theorem Sz.quo {x y : Rat} {n : Nat} (hx : Sz x n) (hy : Sz y n) (h0 : y ≠ 0) : Sz (x / y) (n + n) := by
 rw [quo_ints]
 exact Sz.ofInts (Int.mul_ne_zero (by have := x.den_pos; omega) (num_ne h0)) (abs_mul_lt hx.num (by simpa using hy.den)) (abs_mul_lt (by simpa using hx.den) hy.num)
theorem Sz.inv {y : Rat} {n : Nat} (hy : Sz y n) (h0 : y ≠ 0) : Sz (y⁻¹) n := by
 rw [Rat.inv_def]
 exact Sz.ofInts (num_ne h0) (by simpa using hy.den) hy.num
theorem Sz.neg {y : Rat} {n : Nat} (hy : Sz y n) : Sz (-y) n := ⟨by rw [Rat.neg_num, Int.natAbs_neg]; exact hy.num, by rw [Rat.neg_den]; exact hy.den⟩
theorem len_sz {x n : Nat} (h : x < 2 ^ n) (hn : n ≤ 100000000) : (wds x).length ≤ 100000000 := by
 refine Nat.le_trans (len_wds (k := n) (Nat.lt_of_lt_of_le h ?_)) hn
 rw [show 4294967296 = 2 ^ 32 by decide, ← Nat.pow_mul]
 exact Nat.pow_le_pow_right (by decide) (by omega)
def RatV (w : World) (g : Nat) (q : Rat) : Prop := RatB w g q.num (q.den : Int)
theorem RatV.below {w w' : World} {g : Nat} {q : Rat} (h : RatV w g q) (hb : Below w.heap.size w w') : RatV w' g q := RatB.below h hb
def PutsQ (w : World) (g : Nat) (q : Rat) (e : Ending) (w' : World) : Prop := e = .returned (ptr g) ∧ RatV w' g q ∧ w.grownBy w' (some g)
def IntZ (w : World) (g : Nat) : Prop := Blk w g 151 #[.bool false, .slice none 0 0]
theorem intZ_vgs : Vgs IntZ where
 lt := fun h => Blk.lt h
 below := fun h hb => Blk.below h hb (Blk.lt h)
 off := fun h hne hg => Blk.grown h hg (by intro e; injection e with e; exact hne e)
theorem IntZ.zero {w : World} {g : Nat} (h : IntZ w g) : IntB w g 0 :=
 ⟨false, none, 0, 0, h, ⟨by simp, by simp [wds_zero]⟩, Nat.le_refl _, by omega, by simp only [Int.natAbs_zero, wds_zero]; exact ReadsW.none_ _ _ _⟩
def IsI (lo : Nat) (z : Int) : Value → World → Prop := fun v w => ∃ g, v = ptr g ∧ lo ≤ g ∧ IntB w g z
theorem isI_steady (lo : Nat) (z : Int) : Steady IntZ true (IsI lo z) where
 below := by
  rintro v w w' ⟨g, rfl, hl, h⟩ hb
  exact ⟨g, rfl, hl, h.below hb⟩
 off := by
  rintro v w w' r ⟨g, rfl, hl, h⟩ hv hne hg
  exact ⟨g, rfl, hl, h.off (IntZ.zero hv).slot hg (fun e => hne rfl (by rw [e]))⟩
theorem Sz.lens {q : Rat} {n : Nat} (h : Sz q n) (hn : n ≤ 10000000) : (wds q.num.natAbs).length ≤ 900000000 ∧ (wds (q.den : Int).natAbs).length ≤ 900000000 :=
 ⟨Nat.le_trans (len_sz h.num (by omega)) (by omega), Nat.le_trans (len_sz (by simpa using h.den) (by omega)) (by omega)⟩
theorem len_mul2 {a b : Int} {n m : Nat} (ha : a.natAbs < 2 ^ n) (hb : b.natAbs < 2 ^ m) (hn : n + m ≤ 100000000) : (wds (a * b).natAbs).length ≤ 900000000 :=
 Nat.le_trans (len_sz (abs_mul_lt ha hb) hn) (by omega)
set_option maxRecDepth 100000 in
set_option maxHeartbeats 4000000 in
theorem ratmul_any {w : World} {g gx gy n : Nat} {x y : Rat} (hz : RatS w g) (hx : RatV w gx x) (hy : RatV w gy y) (hsx : Sz x n) (hsy : Sz y n) (hn : n ≤ 10000000) :
  Calls Tryz.prog 102 #[ptr g, ptr gx, ptr gy] w (PutsQ w g (x * y)) := by
 have hlx := hsx.lens hn
 have hly := hsy.lens hn
 go_enter Tryz.func102, Tryz.ntmps102
 go_wp2_with fail
 refine wp_region_noPanic ?_
 refine wp_region_list (mk := ?mk) intZ_vgs [Is (ptr g), Is undef, Is (ptr gx), Is (ptr gx), Is (ptr gx), Is (ptr gy), Is (ptr gy), Is (ptr gy), IsI w.heap.size (x.num * y.num), Is undef, Is (ptr gx), Is (.pointer (some ⟨gx, 2, none⟩)), Is (ptr gy), Is (.pointer (some ⟨gy, 2, none⟩)), IsI w.heap.size ((x.den : Int) * (y.den : Int))] [.plain, .fresh, .plain, .plain, .plain, .plain, .plain, .plain, .fills 1, .fresh, .plain, .plain, .plain, .plain, .fills 9] 15 2 (fun w' => RatV w' gx x ∧ RatV w' gy y) ⟨is_steady _ _ _, is_steady _ _ _, is_steady _ _ _, is_steady _ _ _, is_steady _ _ _, is_steady _ _ _, is_steady _ _ _, is_steady _ _ _, isI_steady _ _, is_steady _ _ _, is_steady _ _ _, is_steady _ _ _, is_steady _ _ _, is_steady _ _ _, isI_steady _ _, trivial⟩ (by kernel_rfl) (by kernel_rfl) (by kernel_rfl) (by kernel_rfl) (by kernel_rfl) (by kernel_rfl) ?hmk (fun w' hb => ⟨hx.below hb, hy.below hb⟩)
  (steps_all (steps_cons ?_ (steps_cons ?_ (steps_cons ?_ (steps_cons ?_ (steps_cons ?_ (steps_cons ?_ (steps_cons ?_ (steps_cons ?_ (steps_cons ?_ (steps_cons ?_ (steps_cons ?_ (steps_cons ?_ (steps_cons ?_ (steps_cons ?_ (steps_cons ?_ steps_nil)))))))))))))))) ?_
 case hmk =>
  intro u
  simp only [mkFrom, mkL, dstOf, List.range, List.range.loop, Act.put, List.setIfInBounds_toArray, List.set_cons_zero, List.set_cons_succ, List.getElem?_toArray, List.getElem?_cons_zero, List.getElem?_cons_succ, Option.bind_some]
  rfl
 ·refine step_is (o := Oper.mk (some 7) _ _ _ _ _) rfl rfl rfl rfl (fun u w hc hd => ?_)
  go_simp
 ·refine step_new (o := Oper.mk (some 8) _ _ _ _ _) rfl rfl rfl (fun u w hc => ⟨.cells #[.bool false, .slice none 0 0] 151, ?_, Blk.new w 151 _⟩)
  go_simp
 ·refine step_is (o := Oper.mk (some 9) _ _ _ _ _) rfl rfl rfl rfl (fun u w hc hd => ?_)
  go_simp
 ·refine step_is (o := Oper.mk (some 10) _ _ _ _ _) rfl rfl rfl rfl (fun u w hc hd => ?_)
  have d2 : u 2 = _ := hd 2 (by kernel_rfl) (by decide)
  go_simp
 ·refine step_is (o := Oper.mk (some 11) _ _ _ _ _) rfl rfl rfl rfl (fun u w hc hd => ?_)
  have d3 : u 3 = _ := hd 3 (by kernel_rfl) (by decide)
  go_simp
 ·refine step_is (o := Oper.mk (some 12) _ _ _ _ _) rfl rfl rfl rfl (fun u w hc hd => ?_)
  go_simp
 ·refine step_is (o := Oper.mk (some 13) _ _ _ _ _) rfl rfl rfl rfl (fun u w hc hd => ?_)
  have d5 : u 5 = _ := hd 5 (by kernel_rfl) (by decide)
  go_simp
 ·refine step_is (o := Oper.mk (some 14) _ _ _ _ _) rfl rfl rfl rfl (fun u w hc hd => ?_)
  have d6 : u 6 = _ := hd 6 (by kernel_rfl) (by decide)
  go_simp
 ·refine step_fill (a := 1) (o := Oper.mk (some 15) _ _ _ _ _) rfl rfl rfl (fun u w g1 hc hd h0 hlo hv => ?_)
  have d4 : u 4 = _ := hd 4 (by kernel_rfl) (by decide)
  have d7 : u 7 = _ := hd 7 (by kernel_rfl) (by decide)
  refine ⟨116, #[ptr g1, (ptr gx), (ptr gy)], ?_, (mulC (IntZ.zero hv).slot hc.1.num hc.2.num hlx.1 hly.1).mono ?_⟩
  ·go_simp
  ·rintro _ w2 ⟨rfl, hi, hg⟩
   exact ⟨rfl, ⟨g1, rfl, hlo, hi⟩, hg⟩
 ·refine step_new (o := Oper.mk (some 16) _ _ _ _ _) rfl rfl rfl (fun u w hc => ⟨.cells #[.bool false, .slice none 0 0] 151, ?_, Blk.new w 151 _⟩)
  go_simp
 ·refine step_is (o := Oper.mk (some 17) _ _ _ _ _) rfl rfl rfl rfl (fun u w hc hd => ?_)
  go_simp
 ·refine step_call (o := Oper.mk (some 18) _ _ _ _ _) rfl rfl rfl (fun u w hc hd => ?_)
  have d10 : u 10 = _ := hd 10 (by kernel_rfl) (by decide)
  refine ⟨99, #[ptr gx], ?_, (den_any hc.1).mono ?_⟩
  ·go_simp
  ·rintro _ _ ⟨rfl, rfl⟩
   exact ⟨_, rfl, rfl, Below.refl _ _⟩
 ·refine step_is (o := Oper.mk (some 19) _ _ _ _ _) rfl rfl rfl rfl (fun u w hc hd => ?_)
  go_simp
 ·refine step_call (o := Oper.mk (some 20) _ _ _ _ _) rfl rfl rfl (fun u w hc hd => ?_)
  have d12 : u 12 = _ := hd 12 (by kernel_rfl) (by decide)
  refine ⟨99, #[ptr gy], ?_, (den_any hc.2).mono ?_⟩
  ·go_simp
  ·rintro _ _ ⟨rfl, rfl⟩
   exact ⟨_, rfl, rfl, Below.refl _ _⟩
 ·refine step_fill (a := 9) (o := Oper.mk (some 21) _ _ _ _ _) rfl rfl rfl (fun u w g1 hc hd h0 hlo hv => ?_)
  have d11 : u 11 = _ := hd 11 (by kernel_rfl) (by decide)
  have d13 : u 13 = _ := hd 13 (by kernel_rfl) (by decide)
  refine ⟨116, #[ptr g1, (.pointer (some ⟨gx, 2, none⟩)), (.pointer (some ⟨gy, 2, none⟩))], ?_, (mulC (IntZ.zero hv).slot hc.1.den hc.2.den hlx.2 hly.2).mono ?_⟩
  ·go_simp
  ·rintro _ w2 ⟨rfl, hi, hg⟩
   exact ⟨rfl, ⟨g1, rfl, hlo, hi⟩, hg⟩
 ·intro u w1 hb1 hf hn1
  have f0 : u 0 = _ := hf 0 (by decide) (by decide)
  obtain ⟨ga, f8, _, hia⟩ : IsI _ _ (u 8) w1 := hf 8 (by decide) (by decide)
  obtain ⟨gb, f14, _, hib⟩ : IsI _ _ (u 14) w1 := hf 14 (by decide) (by decide)
  have HS := Lib.hid (setfrac_any (hz.below hb1) hia.inC hib.inC (len_mul2 hsx.num hsy.num (by omega)) (len_mul2 (n := n) (m := n) (by simpa using hsx.den) (by simpa using hsy.den) (by omega)) (dens_ne x y))
  have Hb1 := Lib.hid hb1
  refine wpAny_tail (j := 15) (o := Oper.mk (some 22) _ _ _ _ _) rfl (by kernel_rfl) (fun K hK => ?_)
  rw [f0, f8, f14]
  clear hf hn1 hia hib hb1 f0 f8 f14
  go_simp
  refine HS.out.mono ?_
  rintro _ w2 ⟨rfl, hr, hg⟩
  try simp only []
  refine hK.out _ _ ?_
  clear hK K
  refine wpAny_tail (j := 16) (o := Oper.mk (some 6) _ _ _ _ _) rfl (by kernel_rfl) (fun K hK => ?_)
  go_simp
  refine hK.out _ _ ?_
  clear hK K
  refine wpAny_end (by kernel_rfl) ?_
  refine NoPanic.normal ?_
  go_wp2_with fail
  go_ret
  refine ⟨rfl, ?_, grown_lift Hb1.out hg⟩
  rw [mul_ints]
  exact hr
set_option maxRecDepth 100000 in
set_option maxHeartbeats 4000000 in
theorem ratquo_any {w : World} {g gx gy n : Nat} {x y : Rat} (hz : RatS w g) (hx : RatV w gx x) (hy : RatV w gy y) (hsx : Sz x n) (hsy : Sz y n) (hn : n ≤ 10000000) (h0 : y ≠ 0) :
  Calls Tryz.prog 100 #[ptr g, ptr gx, ptr gy] w (PutsQ w g (x / y)) := by
 have hlx := hsx.lens hn
 have hly := hsy.lens hn
 go_enter Tryz.func100, Tryz.ntmps100
 go_wp2_with fail
 refine wp_region_noPanic ?_
 refine wp_region_list (mk := ?mk) intZ_vgs [Is (ptr g), Is undef, Is (ptr gx), Is (ptr gx), Is (ptr gx), Is (ptr gy), Is (.pointer (some ⟨gy, 2, none⟩)), IsI w.heap.size (x.num * (y.den : Int)), Is undef, Is (ptr gx), Is (.pointer (some ⟨gx, 2, none⟩)), Is (ptr gy), Is (ptr gy), Is (ptr gy), IsI w.heap.size ((x.den : Int) * y.num)] [.plain, .fresh, .plain, .plain, .plain, .plain, .plain, .fills 1, .fresh, .plain, .plain, .plain, .plain, .plain, .fills 8] 15 2 (fun w' => RatV w' gx x ∧ RatV w' gy y) ⟨is_steady _ _ _, is_steady _ _ _, is_steady _ _ _, is_steady _ _ _, is_steady _ _ _, is_steady _ _ _, is_steady _ _ _, isI_steady _ _, is_steady _ _ _, is_steady _ _ _, is_steady _ _ _, is_steady _ _ _, is_steady _ _ _, is_steady _ _ _, isI_steady _ _, trivial⟩ (by kernel_rfl) (by kernel_rfl) (by kernel_rfl) (by kernel_rfl) (by kernel_rfl) (by kernel_rfl) ?hmk (fun w' hb => ⟨hx.below hb, hy.below hb⟩)
  (steps_all (steps_cons ?_ (steps_cons ?_ (steps_cons ?_ (steps_cons ?_ (steps_cons ?_ (steps_cons ?_ (steps_cons ?_ (steps_cons ?_ (steps_cons ?_ (steps_cons ?_ (steps_cons ?_ (steps_cons ?_ (steps_cons ?_ (steps_cons ?_ (steps_cons ?_ steps_nil)))))))))))))))) ?_
 case hmk =>
  intro u
  simp only [mkFrom, mkL, dstOf, List.range, List.range.loop, Act.put, List.setIfInBounds_toArray, List.set_cons_zero, List.set_cons_succ, List.getElem?_toArray, List.getElem?_cons_zero, List.getElem?_cons_succ, Option.bind_some]
  rfl
 ·refine step_is (o := Oper.mk (some 7) _ _ _ _ _) rfl rfl rfl rfl (fun u w hc hd => ?_)
  go_simp
 ·refine step_new (o := Oper.mk (some 8) _ _ _ _ _) rfl rfl rfl (fun u w hc => ⟨.cells #[.bool false, .slice none 0 0] 151, ?_, Blk.new w 151 _⟩)
  go_simp
 ·refine step_is (o := Oper.mk (some 9) _ _ _ _ _) rfl rfl rfl rfl (fun u w hc hd => ?_)
  go_simp
 ·refine step_is (o := Oper.mk (some 10) _ _ _ _ _) rfl rfl rfl rfl (fun u w hc hd => ?_)
  have d2 : u 2 = _ := hd 2 (by kernel_rfl) (by decide)
  go_simp
 ·refine step_is (o := Oper.mk (some 11) _ _ _ _ _) rfl rfl rfl rfl (fun u w hc hd => ?_)
  have d3 : u 3 = _ := hd 3 (by kernel_rfl) (by decide)
  go_simp
 ·refine step_is (o := Oper.mk (some 12) _ _ _ _ _) rfl rfl rfl rfl (fun u w hc hd => ?_)
  go_simp
 ·refine step_call (o := Oper.mk (some 13) _ _ _ _ _) rfl rfl rfl (fun u w hc hd => ?_)
  have d5 : u 5 = _ := hd 5 (by kernel_rfl) (by decide)
  refine ⟨99, #[ptr gy], ?_, (den_any hc.2).mono ?_⟩
  ·go_simp
  ·rintro _ _ ⟨rfl, rfl⟩
   exact ⟨_, rfl, rfl, Below.refl _ _⟩
 ·refine step_fill (a := 1) (o := Oper.mk (some 14) _ _ _ _ _) rfl rfl rfl (fun u w g1 hc hd h0 hlo hv => ?_)
  have d4 : u 4 = _ := hd 4 (by kernel_rfl) (by decide)
  have d6 : u 6 = _ := hd 6 (by kernel_rfl) (by decide)
  refine ⟨116, #[ptr g1, (ptr gx), (.pointer (some ⟨gy, 2, none⟩))], ?_, (mulC (IntZ.zero hv).slot hc.1.num hc.2.den hlx.1 hly.2).mono ?_⟩
  ·go_simp
  ·rintro _ w2 ⟨rfl, hi, hg⟩
   exact ⟨rfl, ⟨g1, rfl, hlo, hi⟩, hg⟩
 ·refine step_new (o := Oper.mk (some 15) _ _ _ _ _) rfl rfl rfl (fun u w hc => ⟨.cells #[.bool false, .slice none 0 0] 151, ?_, Blk.new w 151 _⟩)
  go_simp
 ·refine step_is (o := Oper.mk (some 16) _ _ _ _ _) rfl rfl rfl rfl (fun u w hc hd => ?_)
  go_simp
 ·refine step_call (o := Oper.mk (some 17) _ _ _ _ _) rfl rfl rfl (fun u w hc hd => ?_)
  have d9 : u 9 = _ := hd 9 (by kernel_rfl) (by decide)
  refine ⟨99, #[ptr gx], ?_, (den_any hc.1).mono ?_⟩
  ·go_simp
  ·rintro _ _ ⟨rfl, rfl⟩
   exact ⟨_, rfl, rfl, Below.refl _ _⟩
 ·refine step_is (o := Oper.mk (some 18) _ _ _ _ _) rfl rfl rfl rfl (fun u w hc hd => ?_)
  go_simp
 ·refine step_is (o := Oper.mk (some 19) _ _ _ _ _) rfl rfl rfl rfl (fun u w hc hd => ?_)
  have d11 : u 11 = _ := hd 11 (by kernel_rfl) (by decide)
  go_simp
 ·refine step_is (o := Oper.mk (some 20) _ _ _ _ _) rfl rfl rfl rfl (fun u w hc hd => ?_)
  have d12 : u 12 = _ := hd 12 (by kernel_rfl) (by decide)
  go_simp
 ·refine step_fill (a := 8) (o := Oper.mk (some 21) _ _ _ _ _) rfl rfl rfl (fun u w g1 hc hd h0 hlo hv => ?_)
  have d10 : u 10 = _ := hd 10 (by kernel_rfl) (by decide)
  have d13 : u 13 = _ := hd 13 (by kernel_rfl) (by decide)
  refine ⟨116, #[ptr g1, (.pointer (some ⟨gx, 2, none⟩)), (ptr gy)], ?_, (mulC (IntZ.zero hv).slot hc.1.den hc.2.num hlx.2 hly.1).mono ?_⟩
  ·go_simp
  ·rintro _ w2 ⟨rfl, hi, hg⟩
   exact ⟨rfl, ⟨g1, rfl, hlo, hi⟩, hg⟩
 ·intro u w1 hb1 hf hn1
  have f0 : u 0 = _ := hf 0 (by decide) (by decide)
  obtain ⟨ga, f7, _, hia⟩ : IsI _ _ (u 7) w1 := hf 7 (by decide) (by decide)
  obtain ⟨gb, f14, _, hib⟩ : IsI _ _ (u 14) w1 := hf 14 (by decide) (by decide)
  have HS := Lib.hid (setfrac_any (hz.below hb1) hia.inC hib.inC (len_mul2 (m := n) hsx.num (by simpa using hsy.den) (by omega)) (len_mul2 (n := n) (by simpa using hsx.den) hsy.num (by omega)) (Int.mul_ne_zero (by have := x.den_pos; omega) (num_ne h0)))
  have Hb1 := Lib.hid hb1
  refine wpAny_tail (j := 15) (o := Oper.mk (some 22) _ _ _ _ _) rfl (by kernel_rfl) (fun K hK => ?_)
  rw [f0, f7, f14]
  clear hf hn1 hia hib hb1 f0 f7 f14
  go_simp
  refine HS.out.mono ?_
  rintro _ w2 ⟨rfl, hr, hg⟩
  try simp only []
  refine hK.out _ _ ?_
  clear hK K
  refine wpAny_tail (j := 16) (o := Oper.mk (some 6) _ _ _ _ _) rfl (by kernel_rfl) (fun K hK => ?_)
  go_simp
  refine hK.out _ _ ?_
  clear hK K
  refine wpAny_end (by kernel_rfl) ?_
  refine NoPanic.normal ?_
  go_wp2_with fail
  go_ret
  refine ⟨rfl, ?_, grown_lift Hb1.out hg⟩
  rw [quo_ints]
  exact hr
set_option maxRecDepth 100000 in
set_option maxHeartbeats 4000000 in
theorem ratadd_any {w : World} {g gx gy n : Nat} {x y : Rat} (hz : RatS w g) (hx : RatV w gx x) (hy : RatV w gy y) (hsx : Sz x n) (hsy : Sz y n) (hn : n ≤ 10000000) :
  Calls Tryz.prog 94 #[ptr g, ptr gx, ptr gy] w (PutsQ w g (x + y)) := by
 have hlx := hsx.lens hn
 have hly := hsy.lens hn
 go_enter Tryz.func94, Tryz.ntmps94
 go_wp2_with fail
 refine wp_region_noPanic ?_
 refine wp_region_list (mk := ?mk) intZ_vgs [Is undef, Is (ptr gx), Is (ptr gx), Is (ptr gx), Is (ptr gy), Is (.pointer (some ⟨gy, 2, none⟩)), IsI w.heap.size (x.num * (y.den : Int))] [.fresh, .plain, .plain, .plain, .plain, .plain, .fills 0] 7 1 (fun w' => RatV w' gx x ∧ RatV w' gy y) ⟨is_steady _ _ _, is_steady _ _ _, is_steady _ _ _, is_steady _ _ _, is_steady _ _ _, is_steady _ _ _, isI_steady _ _, trivial⟩ (by kernel_rfl) (by kernel_rfl) (by kernel_rfl) (by kernel_rfl) (by kernel_rfl) (by kernel_rfl) ?hmk (fun w' hb => ⟨hx.below hb, hy.below hb⟩)
  (steps_all (steps_cons ?_ (steps_cons ?_ (steps_cons ?_ (steps_cons ?_ (steps_cons ?_ (steps_cons ?_ (steps_cons ?_ steps_nil)))))))) ?_
 case hmk =>
  intro u
  simp only [mkFrom, mkL, dstOf, List.range, List.range.loop, Act.put, List.setIfInBounds_toArray, List.set_cons_zero, List.set_cons_succ, List.getElem?_toArray, List.getElem?_cons_zero, List.getElem?_cons_succ, Option.bind_some]
  rfl
 ·refine step_new (o := Oper.mk (some 8) _ _ _ _ _) rfl rfl rfl (fun u w hc => ⟨.cells #[.bool false, .slice none 0 0] 151, ?_, Blk.new w 151 _⟩)
  go_simp
 ·refine step_is (o := Oper.mk (some 9) _ _ _ _ _) rfl rfl rfl rfl (fun u w hc hd => ?_)
  go_simp
 ·refine step_is (o := Oper.mk (some 10) _ _ _ _ _) rfl rfl rfl rfl (fun u w hc hd => ?_)
  have d1 : u 1 = _ := hd 1 (by kernel_rfl) (by decide)
  go_simp
 ·refine step_is (o := Oper.mk (some 11) _ _ _ _ _) rfl rfl rfl rfl (fun u w hc hd => ?_)
  have d2 : u 2 = _ := hd 2 (by kernel_rfl) (by decide)
  go_simp
 ·refine step_is (o := Oper.mk (some 12) _ _ _ _ _) rfl rfl rfl rfl (fun u w hc hd => ?_)
  go_simp
 ·refine step_call (o := Oper.mk (some 13) _ _ _ _ _) rfl rfl rfl (fun u w hc hd => ?_)
  have d4 : u 4 = _ := hd 4 (by kernel_rfl) (by decide)
  refine ⟨99, #[ptr gy], ?_, (den_any hc.2).mono ?_⟩
  ·go_simp
  ·rintro _ _ ⟨rfl, rfl⟩
   exact ⟨_, rfl, rfl, Below.refl _ _⟩
 ·refine step_fill (a := 0) (o := Oper.mk (some 14) _ _ _ _ _) rfl rfl rfl (fun u w g1 hc hd h0 hlo hv => ?_)
  have d3 : u 3 = _ := hd 3 (by kernel_rfl) (by decide)
  have d5 : u 5 = _ := hd 5 (by kernel_rfl) (by decide)
  refine ⟨116, #[ptr g1, (ptr gx), (.pointer (some ⟨gy, 2, none⟩))], ?_, (mulC (IntZ.zero hv).slot hc.1.num hc.2.den hlx.1 hly.2).mono ?_⟩
  ·go_simp
  ·rintro _ w2 ⟨rfl, hi, hg⟩
   exact ⟨rfl, ⟨g1, rfl, hlo, hi⟩, hg⟩
 ·intro u w1 hb1 hf hn1
  obtain ⟨ga, f6, hga, hia⟩ : IsI _ _ (u 6) w1 := hf 6 (by decide) (by decide)
  have Hia := Lib.hid (And.intro hia (And.intro hga hb1))
  have hx1 := hx.below hb1
  have hy1 := hy.below hb1
  refine wpAny_tail (j := 7) (o := Oper.mk (some 7) _ _ _ _ _) rfl (by kernel_rfl) (fun K hK => ?_)
  rw [f6]
  clear hf hn1 hia hga hb1 f6
  go_simp
  refine hK.out _ _ ?_
  clear hK K
  refine wpAny_end (by kernel_rfl) ?_
  refine NoPanic.normal ?_
  go_wp2_with fail
  refine wp_region_noPanic ?_
  refine wp_region_list (mk := ?mk2) intZ_vgs [Is (ptr ga), Is (ptr ga), Is undef, Is (ptr gy), Is (ptr gy), Is (ptr gy), Is (ptr gx), Is (.pointer (some ⟨gx, 2, none⟩)), IsI w1.heap.size (y.num * (x.den : Int))] [.plain, .plain, .fresh, .plain, .plain, .plain, .plain, .plain, .fills 2] 9 1 (fun w' => RatV w' gx x ∧ RatV w' gy y ∧ True) ⟨is_steady _ _ _, is_steady _ _ _, is_steady _ _ _, is_steady _ _ _, is_steady _ _ _, is_steady _ _ _, is_steady _ _ _, is_steady _ _ _, isI_steady _ _, trivial⟩ (by kernel_rfl) (by kernel_rfl) (by kernel_rfl) (by kernel_rfl) (by kernel_rfl) (by kernel_rfl) ?hmk2 (fun w' hb => ⟨hx1.below hb, hy1.below hb, trivial⟩)
   (steps_all (steps_cons ?_ (steps_cons ?_ (steps_cons ?_ (steps_cons ?_ (steps_cons ?_ (steps_cons ?_ (steps_cons ?_ (steps_cons ?_ (steps_cons ?_ steps_nil)))))))))) ?_
  case hmk2 =>
   intro u
   simp only [mkFrom, mkL, dstOf, List.range, List.range.loop, Act.put, List.setIfInBounds_toArray, List.set_cons_zero, List.set_cons_succ, List.getElem?_toArray, List.getElem?_cons_zero, List.getElem?_cons_succ, Option.bind_some]
   rfl
  ·refine step_is (o := Oper.mk (some 15) _ _ _ _ _) rfl rfl rfl rfl (fun u w hc hd => ?_)
   go_simp
  ·refine step_is (o := Oper.mk (some 16) _ _ _ _ _) rfl rfl rfl rfl (fun u w hc hd => ?_)
   go_simp
  ·refine step_new (o := Oper.mk (some 17) _ _ _ _ _) rfl rfl rfl (fun u w hc => ⟨.cells #[.bool false, .slice none 0 0] 151, ?_, Blk.new w 151 _⟩)
   go_simp
  ·refine step_is (o := Oper.mk (some 18) _ _ _ _ _) rfl rfl rfl rfl (fun u w hc hd => ?_)
   go_simp
  ·refine step_is (o := Oper.mk (some 19) _ _ _ _ _) rfl rfl rfl rfl (fun u w hc hd => ?_)
   have d3 : u 3 = _ := hd 3 (by kernel_rfl) (by decide)
   go_simp
  ·refine step_is (o := Oper.mk (some 20) _ _ _ _ _) rfl rfl rfl rfl (fun u w hc hd => ?_)
   have d4 : u 4 = _ := hd 4 (by kernel_rfl) (by decide)
   go_simp
  ·refine step_is (o := Oper.mk (some 21) _ _ _ _ _) rfl rfl rfl rfl (fun u w hc hd => ?_)
   go_simp
  ·refine step_call (o := Oper.mk (some 22) _ _ _ _ _) rfl rfl rfl (fun u w hc hd => ?_)
   have d6 : u 6 = _ := hd 6 (by kernel_rfl) (by decide)
   refine ⟨99, #[ptr gx], ?_, (den_any hc.1).mono ?_⟩
   ·go_simp
   ·rintro _ _ ⟨rfl, rfl⟩
    exact ⟨_, rfl, rfl, Below.refl _ _⟩
  ·refine step_fill (a := 2) (o := Oper.mk (some 23) _ _ _ _ _) rfl rfl rfl (fun u w g1 hc hd h0 hlo hv => ?_)
   have d5 : u 5 = _ := hd 5 (by kernel_rfl) (by decide)
   have d7 : u 7 = _ := hd 7 (by kernel_rfl) (by decide)
   refine ⟨116, #[ptr g1, (ptr gy), (.pointer (some ⟨gx, 2, none⟩))], ?_, (mulC (IntZ.zero hv).slot hc.2.1.num hc.1.den hly.1 hlx.2).mono ?_⟩
   ·go_simp
   ·rintro _ w2 ⟨rfl, hi, hg⟩
    exact ⟨rfl, ⟨g1, rfl, hlo, hi⟩, hg⟩
  ·intro u2 w2 hb2 hf hn1
   have f0 : u2 0 = _ := hf 0 (by decide) (by decide)
   have f1 : u2 1 = _ := hf 1 (by decide) (by decide)
   obtain ⟨gb, f8, _, hib⟩ : IsI _ _ (u2 8) w2 := hf 8 (by decide) (by decide)
   have hia2 := Hia.out.1.below hb2
   have HA := Lib.hid (addC hia2.slot hia2.inC hib.inC (len_mul2 (m := n) hsx.num (by simpa using hsy.den) (by omega)) (len_mul2 (m := n) hsy.num (by simpa using hsx.den) (by omega)))
   have Hb2 := Lib.hid (Hia.out.2.2.trans (hb2.mono Hia.out.2.2.size))
   refine wpAny_tail (j := 9) (o := Oper.mk (some 24) _ _ _ _ _) rfl (by kernel_rfl) (fun K hK => ?_)
   rw [f0, f1, f8]
   clear hf hn1 hib hia2 hb2 f0 f1 f8
   go_simp
   refine HA.out.mono ?_
   rintro _ w3 ⟨rfl, hi3, hg3⟩
   have Hb3 := Lib.hid (Hb2.out.grown hg3 Hb2.out.size (fun k hk => by injection hk with hk; have := Hia.out.2.1; omega))
   have Hi3 := Lib.hid hi3
   clear hg3 hi3
   try simp only []
   refine hK.out _ _ ?_
   clear hK K
   refine wpAny_end (by kernel_rfl) ?_
   refine NoPanic.normal ?_
   have hb0 := new_below w3 (.cells #[.bool false, .slice none 0 0] 151)
   have hx3 := (hx.below Hb3.out).below hb0
   have hy3 := (hy.below Hb3.out).below hb0
   have HX := Lib.hid (den_any hx3)
   have HY := Lib.hid (den_any hy3)
   have HM := Lib.hid (mulC (IntB.zero w3).slot hx3.den hy3.den hlx.2 hly.2)
   clear hx3 hy3 hx1 hy1 hb0
   go_wp2_with (go_at_call 99; first | ((with_reducible refine HX.out.mono ?_); rintro _ _ ⟨rfl, rfl⟩) | ((with_reducible refine HY.out.mono ?_); rintro _ _ ⟨rfl, rfl⟩))
   refine HM.out.mono ?_
   rintro _ w4 ⟨rfl, hi4, hg4⟩
   have hb4 := below_new hg4
   have HS := Lib.hid (setfrac_any ((hz.below Hb3.out).below hb4) (Hi3.out.below hb4).inC hi4.inC
    (Nat.le_trans (len_sz (abs_add_lt (abs_mul_lt (m := n) hsx.num (by simpa using hsy.den)) (abs_mul_lt (m := n) hsy.num (by simpa using hsx.den))).1 (by omega)) (by omega))
    (len_mul2 (n := n) (m := n) (by simpa using hsx.den) (by simpa using hsy.den) (by omega)) (dens_ne x y))
   have Hb4 := Lib.hid (Hb3.out.trans (hb4.mono Hb3.out.size))
   clear hi4 hg4 hb4
   go_wp2_with fail
   refine HS.out.mono ?_
   rintro _ w5 ⟨rfl, hr, hg⟩
   go_wp2_with fail
   go_ret
   refine ⟨rfl, ?_, grown_lift Hb4.out hg⟩
   rw [add_ints]
   exact hr
set_option maxRecDepth 100000 in
set_option maxHeartbeats 4000000 in
theorem ratsub_any {w : World} {g gx gy n : Nat} {x y : Rat} (hz : RatS w g) (hx : RatV w gx x) (hy : RatV w gy y) (hsx : Sz x n) (hsy : Sz y n) (hn : n ≤ 10000000) :
  Calls Tryz.prog 101 #[ptr g, ptr gx, ptr gy] w (PutsQ w g (x - y)) := by
 have hlx := hsx.lens hn
 have hly := hsy.lens hn
 go_enter Tryz.func101, Tryz.ntmps101
 go_wp2_with fail
 refine wp_region_noPanic ?_
 refine wp_region_list (mk := ?mk) intZ_vgs [Is undef, Is (ptr gx), Is (ptr gx), Is (ptr gx), Is (ptr gy), Is (.pointer (some ⟨gy, 2, none⟩)), IsI w.heap.size (x.num * (y.den : Int))] [.fresh, .plain, .plain, .plain, .plain, .plain, .fills 0] 7 1 (fun w' => RatV w' gx x ∧ RatV w' gy y) ⟨is_steady _ _ _, is_steady _ _ _, is_steady _ _ _, is_steady _ _ _, is_steady _ _ _, is_steady _ _ _, isI_steady _ _, trivial⟩ (by kernel_rfl) (by kernel_rfl) (by kernel_rfl) (by kernel_rfl) (by kernel_rfl) (by kernel_rfl) ?hmk (fun w' hb => ⟨hx.below hb, hy.below hb⟩)
  (steps_all (steps_cons ?_ (steps_cons ?_ (steps_cons ?_ (steps_cons ?_ (steps_cons ?_ (steps_cons ?_ (steps_cons ?_ steps_nil)))))))) ?_
 case hmk =>
  intro u
  simp only [mkFrom, mkL, dstOf, List.range, List.range.loop, Act.put, List.setIfInBounds_toArray, List.set_cons_zero, List.set_cons_succ, List.getElem?_toArray, List.getElem?_cons_zero, List.getElem?_cons_succ, Option.bind_some]
  rfl
 ·refine step_new (o := Oper.mk (some 8) _ _ _ _ _) rfl rfl rfl (fun u w hc => ⟨.cells #[.bool false, .slice none 0 0] 151, ?_, Blk.new w 151 _⟩)
  go_simp
 ·refine step_is (o := Oper.mk (some 9) _ _ _ _ _) rfl rfl rfl rfl (fun u w hc hd => ?_)
  go_simp
 ·refine step_is (o := Oper.mk (some 10) _ _ _ _ _) rfl rfl rfl rfl (fun u w hc hd => ?_)
  have d1 : u 1 = _ := hd 1 (by kernel_rfl) (by decide)
  go_simp
 ·refine step_is (o := Oper.mk (some 11) _ _ _ _ _) rfl rfl rfl rfl (fun u w hc hd => ?_)
  have d2 : u 2 = _ := hd 2 (by kernel_rfl) (by decide)
  go_simp
 ·refine step_is (o := Oper.mk (some 12) _ _ _ _ _) rfl rfl rfl rfl (fun u w hc hd => ?_)
  go_simp
 ·refine step_call (o := Oper.mk (some 13) _ _ _ _ _) rfl rfl rfl (fun u w hc hd => ?_)
  have d4 : u 4 = _ := hd 4 (by kernel_rfl) (by decide)
  refine ⟨99, #[ptr gy], ?_, (den_any hc.2).mono ?_⟩
  ·go_simp
  ·rintro _ _ ⟨rfl, rfl⟩
   exact ⟨_, rfl, rfl, Below.refl _ _⟩
 ·refine step_fill (a := 0) (o := Oper.mk (some 14) _ _ _ _ _) rfl rfl rfl (fun u w g1 hc hd h0 hlo hv => ?_)
  have d3 : u 3 = _ := hd 3 (by kernel_rfl) (by decide)
  have d5 : u 5 = _ := hd 5 (by kernel_rfl) (by decide)
  refine ⟨116, #[ptr g1, (ptr gx), (.pointer (some ⟨gy, 2, none⟩))], ?_, (mulC (IntZ.zero hv).slot hc.1.num hc.2.den hlx.1 hly.2).mono ?_⟩
  ·go_simp
  ·rintro _ w2 ⟨rfl, hi, hg⟩
   exact ⟨rfl, ⟨g1, rfl, hlo, hi⟩, hg⟩
 ·intro u w1 hb1 hf hn1
  obtain ⟨ga, f6, hga, hia⟩ : IsI _ _ (u 6) w1 := hf 6 (by decide) (by decide)
  have Hia := Lib.hid (And.intro hia (And.intro hga hb1))
  have hx1 := hx.below hb1
  have hy1 := hy.below hb1
  refine wpAny_tail (j := 7) (o := Oper.mk (some 7) _ _ _ _ _) rfl (by kernel_rfl) (fun K hK => ?_)
  rw [f6]
  clear hf hn1 hia hga hb1 f6
  go_simp
  refine hK.out _ _ ?_
  clear hK K
  refine wpAny_end (by kernel_rfl) ?_
  refine NoPanic.normal ?_
  go_wp2_with fail
  refine wp_region_noPanic ?_
  refine wp_region_list (mk := ?mk2) intZ_vgs [Is (ptr ga), Is (ptr ga), Is undef, Is (ptr gy), Is (ptr gy), Is (ptr gy), Is (ptr gx), Is (.pointer (some ⟨gx, 2, none⟩)), IsI w1.heap.size (y.num * (x.den : Int))] [.plain, .plain, .fresh, .plain, .plain, .plain, .plain, .plain, .fills 2] 9 1 (fun w' => RatV w' gx x ∧ RatV w' gy y ∧ True) ⟨is_steady _ _ _, is_steady _ _ _, is_steady _ _ _, is_steady _ _ _, is_steady _ _ _, is_steady _ _ _, is_steady _ _ _, is_steady _ _ _, isI_steady _ _, trivial⟩ (by kernel_rfl) (by kernel_rfl) (by kernel_rfl) (by kernel_rfl) (by kernel_rfl) (by kernel_rfl) ?hmk2 (fun w' hb => ⟨hx1.below hb, hy1.below hb, trivial⟩)
   (steps_all (steps_cons ?_ (steps_cons ?_ (steps_cons ?_ (steps_cons ?_ (steps_cons ?_ (steps_cons ?_ (steps_cons ?_ (steps_cons ?_ (steps_cons ?_ steps_nil)))))))))) ?_
  case hmk2 =>
   intro u
   simp only [mkFrom, mkL, dstOf, List.range, List.range.loop, Act.put, List.setIfInBounds_toArray, List.set_cons_zero, List.set_cons_succ, List.getElem?_toArray, List.getElem?_cons_zero, List.getElem?_cons_succ, Option.bind_some]
   rfl
  ·refine step_is (o := Oper.mk (some 15) _ _ _ _ _) rfl rfl rfl rfl (fun u w hc hd => ?_)
   go_simp
  ·refine step_is (o := Oper.mk (some 16) _ _ _ _ _) rfl rfl rfl rfl (fun u w hc hd => ?_)
   go_simp
  ·refine step_new (o := Oper.mk (some 17) _ _ _ _ _) rfl rfl rfl (fun u w hc => ⟨.cells #[.bool false, .slice none 0 0] 151, ?_, Blk.new w 151 _⟩)
   go_simp
  ·refine step_is (o := Oper.mk (some 18) _ _ _ _ _) rfl rfl rfl rfl (fun u w hc hd => ?_)
   go_simp
  ·refine step_is (o := Oper.mk (some 19) _ _ _ _ _) rfl rfl rfl rfl (fun u w hc hd => ?_)
   have d3 : u 3 = _ := hd 3 (by kernel_rfl) (by decide)
   go_simp
  ·refine step_is (o := Oper.mk (some 20) _ _ _ _ _) rfl rfl rfl rfl (fun u w hc hd => ?_)
   have d4 : u 4 = _ := hd 4 (by kernel_rfl) (by decide)
   go_simp
  ·refine step_is (o := Oper.mk (some 21) _ _ _ _ _) rfl rfl rfl rfl (fun u w hc hd => ?_)
   go_simp
  ·refine step_call (o := Oper.mk (some 22) _ _ _ _ _) rfl rfl rfl (fun u w hc hd => ?_)
   have d6 : u 6 = _ := hd 6 (by kernel_rfl) (by decide)
   refine ⟨99, #[ptr gx], ?_, (den_any hc.1).mono ?_⟩
   ·go_simp
   ·rintro _ _ ⟨rfl, rfl⟩
    exact ⟨_, rfl, rfl, Below.refl _ _⟩
  ·refine step_fill (a := 2) (o := Oper.mk (some 23) _ _ _ _ _) rfl rfl rfl (fun u w g1 hc hd h0 hlo hv => ?_)
   have d5 : u 5 = _ := hd 5 (by kernel_rfl) (by decide)
   have d7 : u 7 = _ := hd 7 (by kernel_rfl) (by decide)
   refine ⟨116, #[ptr g1, (ptr gy), (.pointer (some ⟨gx, 2, none⟩))], ?_, (mulC (IntZ.zero hv).slot hc.2.1.num hc.1.den hly.1 hlx.2).mono ?_⟩
   ·go_simp
   ·rintro _ w2 ⟨rfl, hi, hg⟩
    exact ⟨rfl, ⟨g1, rfl, hlo, hi⟩, hg⟩
  ·intro u2 w2 hb2 hf hn1
   have f0 : u2 0 = _ := hf 0 (by decide) (by decide)
   have f1 : u2 1 = _ := hf 1 (by decide) (by decide)
   obtain ⟨gb, f8, _, hib⟩ : IsI _ _ (u2 8) w2 := hf 8 (by decide) (by decide)
   have hia2 := Hia.out.1.below hb2
   have HA := Lib.hid (subC hia2.slot hia2.inC hib.inC (len_mul2 (m := n) hsx.num (by simpa using hsy.den) (by omega)) (len_mul2 (m := n) hsy.num (by simpa using hsx.den) (by omega)))
   have Hb2 := Lib.hid (Hia.out.2.2.trans (hb2.mono Hia.out.2.2.size))
   refine wpAny_tail (j := 9) (o := Oper.mk (some 24) _ _ _ _ _) rfl (by kernel_rfl) (fun K hK => ?_)
   rw [f0, f1, f8]
   clear hf hn1 hib hia2 hb2 f0 f1 f8
   go_simp
   refine HA.out.mono ?_
   rintro _ w3 ⟨rfl, hi3, hg3⟩
   have Hb3 := Lib.hid (Hb2.out.grown hg3 Hb2.out.size (fun k hk => by injection hk with hk; have := Hia.out.2.1; omega))
   have Hi3 := Lib.hid hi3
   clear hg3 hi3
   try simp only []
   refine hK.out _ _ ?_
   clear hK K
   refine wpAny_end (by kernel_rfl) ?_
   refine NoPanic.normal ?_
   have hb0 := new_below w3 (.cells #[.bool false, .slice none 0 0] 151)
   have hx3 := (hx.below Hb3.out).below hb0
   have hy3 := (hy.below Hb3.out).below hb0
   have HX := Lib.hid (den_any hx3)
   have HY := Lib.hid (den_any hy3)
   have HM := Lib.hid (mulC (IntB.zero w3).slot hx3.den hy3.den hlx.2 hly.2)
   clear hx3 hy3 hx1 hy1 hb0
   go_wp2_with (go_at_call 99; first | ((with_reducible refine HX.out.mono ?_); rintro _ _ ⟨rfl, rfl⟩) | ((with_reducible refine HY.out.mono ?_); rintro _ _ ⟨rfl, rfl⟩))
   refine HM.out.mono ?_
   rintro _ w4 ⟨rfl, hi4, hg4⟩
   have hb4 := below_new hg4
   have HS := Lib.hid (setfrac_any ((hz.below Hb3.out).below hb4) (Hi3.out.below hb4).inC hi4.inC
    (Nat.le_trans (len_sz (abs_add_lt (abs_mul_lt (m := n) hsx.num (by simpa using hsy.den)) (abs_mul_lt (m := n) hsy.num (by simpa using hsx.den))).2 (by omega)) (by omega))
    (len_mul2 (n := n) (m := n) (by simpa using hsx.den) (by simpa using hsy.den) (by omega)) (dens_ne x y))
   have Hb4 := Lib.hid (Hb3.out.trans (hb4.mono Hb3.out.size))
   clear hi4 hg4 hb4
   go_wp2_with fail
   refine HS.out.mono ?_
   rintro _ w5 ⟨rfl, hr, hg⟩
   go_wp2_with fail
   go_ret
   refine ⟨rfl, ?_, grown_lift Hb4.out hg⟩
   rw [sub_ints]
   exact hr
set_option maxRecDepth 100000 in
set_option maxHeartbeats 4000000 in
theorem ratinv_any {w : World} {g gx n : Nat} {x : Rat} (hz : RatS w g) (hx : RatV w gx x) (hsx : Sz x n) (hn : n ≤ 10000000) (h0 : x ≠ 0) :
  Calls Tryz.prog 110 #[ptr g, ptr gx] w (PutsQ w g (x⁻¹)) := by
 have hlx := hsx.lens hn
 go_enter Tryz.func110, Tryz.ntmps110
 go_wp2_with fail
 refine wp_region_noPanic ?_
 refine wp_region_list (mk := ?mk) intZ_vgs [Is (ptr g), Is (ptr gx), Is (.pointer (some ⟨gx, 2, none⟩)), Is (ptr gx), Is (ptr gx), Is (ptr gx)] [.plain, .plain, .plain, .plain, .plain, .plain] 6 2 (fun w' => RatV w' gx x ∧ True) ⟨is_steady _ _ _, is_steady _ _ _, is_steady _ _ _, is_steady _ _ _, is_steady _ _ _, is_steady _ _ _, trivial⟩ (by kernel_rfl) (by kernel_rfl) (by kernel_rfl) (by kernel_rfl) (by kernel_rfl) (by kernel_rfl) ?hmk (fun w' hb => ⟨hx.below hb, trivial⟩)
  (steps_all (steps_cons ?_ (steps_cons ?_ (steps_cons ?_ (steps_cons ?_ (steps_cons ?_ (steps_cons ?_ steps_nil))))))) ?_
 case hmk =>
  intro u
  simp only [mkFrom, mkL, dstOf, List.range, List.range.loop, Act.put, List.setIfInBounds_toArray, List.set_cons_zero, List.set_cons_succ, List.getElem?_toArray, List.getElem?_cons_zero, List.getElem?_cons_succ, Option.bind_some]
  rfl
 ·refine step_is (o := Oper.mk (some 5) _ _ _ _ _) rfl rfl rfl rfl (fun u w hc hd => ?_)
  go_simp
 ·refine step_is (o := Oper.mk (some 6) _ _ _ _ _) rfl rfl rfl rfl (fun u w hc hd => ?_)
  go_simp
 ·refine step_call (o := Oper.mk (some 7) _ _ _ _ _) rfl rfl rfl (fun u w hc hd => ?_)
  have d1 : u 1 = _ := hd 1 (by kernel_rfl) (by decide)
  refine ⟨99, #[ptr gx], ?_, (den_any hc.1).mono ?_⟩
  ·go_simp
  ·rintro _ _ ⟨rfl, rfl⟩
   exact ⟨_, rfl, rfl, Below.refl _ _⟩
 ·refine step_is (o := Oper.mk (some 8) _ _ _ _ _) rfl rfl rfl rfl (fun u w hc hd => ?_)
  go_simp
 ·refine step_is (o := Oper.mk (some 9) _ _ _ _ _) rfl rfl rfl rfl (fun u w hc hd => ?_)
  have d3 : u 3 = _ := hd 3 (by kernel_rfl) (by decide)
  go_simp
 ·refine step_is (o := Oper.mk (some 10) _ _ _ _ _) rfl rfl rfl rfl (fun u w hc hd => ?_)
  have d4 : u 4 = _ := hd 4 (by kernel_rfl) (by decide)
  go_simp
 ·intro u w1 hb1 hf hn1
  have f0 : u 0 = _ := hf 0 (by decide) (by decide)
  have f2 : u 2 = _ := hf 2 (by decide) (by decide)
  have f5 : u 5 = _ := hf 5 (by decide) (by decide)
  have HS := Lib.hid (setfrac_any (hz.below hb1) (hx.below hb1).den (hx.below hb1).num hlx.2 hlx.1 (num_ne h0))
  have Hb1 := Lib.hid hb1
  refine wpAny_tail (j := 6) (o := Oper.mk (some 11) _ _ _ _ _) rfl (by kernel_rfl) (fun K hK => ?_)
  rw [f0, f2, f5]
  clear hf hn1 hb1 f0 f2 f5
  go_simp
  refine HS.out.mono ?_
  rintro _ w2 ⟨rfl, hr, hg⟩
  try simp only []
  refine hK.out _ _ ?_
  clear hK K
  refine wpAny_tail (j := 7) (o := Oper.mk (some 4) _ _ _ _ _) rfl (by kernel_rfl) (fun K hK => ?_)
  go_simp
  refine hK.out _ _ ?_
  clear hK K
  refine wpAny_end (by kernel_rfl) ?_
  refine NoPanic.normal ?_
  go_wp2_with fail
  go_ret
  refine ⟨rfl, ?_, grown_lift Hb1.out hg⟩
  rw [Rat.inv_def]
  exact hr
theorem sg_rat (x : Rat) : sg x.num = if x = 0 then 0 else if x < 0 then -1 else 1 := by
 unfold sg
 by_cases h0 : x = 0
 ·rw [if_pos h0, if_pos (by rw [h0]; rfl)]
 ·rw [if_neg h0, if_neg (num_ne h0)]
  by_cases h1 : x < 0
  ·rw [if_pos h1, if_pos]
   have := Rat.num_nonneg (q := x)
   by_cases h2 : x.num < 0
   ·exact h2
   ·exact absurd (this.1 (by omega)) (Rat.not_le.2 h1)
  ·rw [if_neg h1, if_neg]
   have := (Rat.num_nonneg (q := x)).2 (Rat.not_lt.1 h1)
   omega
set_option maxRecDepth 100000 in
set_option maxHeartbeats 1000000 in
theorem ratsign_any {w : World} {gx : Nat} {x : Rat} (hx : RatV w gx x) :
  Calls Tryz.prog 50 #[ptr gx] w (fun e w' => e = .returned (.int .i64 (sg x.num)) ∧ w = w') := by
 have HS := Lib.hid (signC hx.num)
 clear hx
 go_enter Tryz.func50, Tryz.ntmps50
 go_wp2_with fail
 refine HS.out.mono ?_
 rintro _ _ ⟨rfl, rfl⟩
 go_wp2_with fail
 go_ret
 exact ⟨rfl, rfl⟩
set_option maxRecDepth 100000 in
set_option maxHeartbeats 1000000 in
theorem newrat_any {w : World} {a b : Int} (ha1 : -9223372036854775808 ≤ a) (ha2 : a ≤ 9223372036854775807) (hb1 : -9223372036854775808 ≤ b) (hb2 : b ≤ 9223372036854775807) (hb0 : b ≠ 0) :
  Calls Tryz.prog 88 #[.int .i64 a, .int .i64 b] w (fun e w' => e = .returned (ptr w.heap.size) ∧ RatV w' w.heap.size (Rat.divInt a b) ∧ Below w.heap.size w w') := by
 have hb0' := new_below w (.cells #[.bool false, .slice none 0 0, .bool false, .slice none 0 0] 153)
 have HA := Lib.hid (newint_any (w := w.alloc (.cells #[.bool false, .slice none 0 0, .bool false, .slice none 0 0] 153)) ha1 ha2)
 have Hn := Lib.hid (And.intro hb1 (And.intro hb2 hb0))
 have Hl := Lib.hid (And.intro (Nat.le_trans (len_sz (x := a.natAbs) (n := 64) (by omega) (by omega)) (show 100000000 ≤ 900000000 by omega)) (Nat.le_trans (len_sz (x := b.natAbs) (n := 64) (by omega) (by omega)) (show 100000000 ≤ 900000000 by omega)))
 have H0 := Lib.hid hb0'
 clear ha1 ha2 hb1 hb2 hb0 hb0'
 go_enter Tryz.func88, Tryz.ntmps88
 go_wp2_with fail
 refine HA.out.mono ?_
 rintro _ w1 ⟨rfl, hi1, hg1⟩
 have e1 : (w.alloc (.cells #[.bool false, .slice none 0 0, .bool false, .slice none 0 0] 153)).heap.size = w.heap.size + 1 := by simp
 rw [e1] at hi1
 clear e1
 have HB := Lib.hid (newint_any (w := w1) (n := b) Hn.out.1 Hn.out.2.1)
 have Hi1 := Lib.hid hi1
 have Hg1 := Lib.hid hg1
 clear hi1 hg1
 go_wp2_with fail
 refine HB.out.mono ?_
 rintro _ w2 ⟨rfl, hi2, hg2⟩
 have h12 := Hg1.out.trans (hg2.mono Hg1.out.size)
 have HS := Lib.hid (setfrac_any ((RatS.zero w).below h12) (Hi1.out.below hg2).inC hi2.inC Hl.out.1 Hl.out.2 Hn.out.2.2)
 have H2 := Lib.hid h12
 clear hi2 hg2 h12
 go_wp2_with fail
 refine HS.out.mono ?_
 rintro _ w3 ⟨rfl, hr, hg⟩
 go_wp2_with fail
 go_ret
 exact ⟨rfl, hr, below_new (grown_lift H2.out hg)⟩
def IsRat (q : Rat) (n : Nat) : Value → World → Prop := fun v w => ∃ g, v = ptr g ∧ RatV w g q ∧ Sz q n
def Ret (w : World) (S : Value → World → Prop) (e : Ending) (w' : World) : Prop := ∃ v, e = .returned v ∧ S v w' ∧ Below w.heap.size w w'
theorem IsRat.below {q : Rat} {n : Nat} {v : Value} {w w' : World} (h : IsRat q n v w) (hb : Below w.heap.size w w') : IsRat q n v w' := by
 obtain ⟨g, rfl, h, hs⟩ := h
 exact ⟨g, rfl, h.below hb, hs⟩
theorem IsRat.up {q : Rat} {n m : Nat} {v : Value} {w : World} (h : IsRat q n v w) (hm : n ≤ m) : IsRat q m v w := by
 obtain ⟨g, rfl, h, hs⟩ := h
 exact ⟨g, rfl, h, hs.up hm⟩
set_option maxRecDepth 100000 in
set_option maxHeartbeats 1000000 in
theorem rat_id (w : World) (g : Nat) : Calls Tryz.prog 63 #[ptr g] w (fun e w' => e = .returned (ptr g) ∧ w = w') := by
 go_enter Tryz.func63, Tryz.ntmps63
 go_wp2_with fail
 go_ret
 exact ⟨rfl, rfl⟩
set_option maxRecDepth 100000 in
set_option maxHeartbeats 1000000 in
theorem xmul_any {w : World} {v1 v2 : Value} {x y : Rat} {n : Nat} (h1 : IsRat x n v1 w) (h2 : IsRat y n v2 w) (hn : n ≤ 10000000) :
  Calls Tryz.prog 89 #[v1, v2] w (Ret w (IsRat (x * y) (n + n))) := by
 obtain ⟨gx, rfl, hx, hsx⟩ := h1
 obtain ⟨gy, rfl, hy, hsy⟩ := h2
 have hb := new_below w (.cells #[.bool false, .slice none 0 0, .bool false, .slice none 0 0] 153)
 have HM := Lib.hid (ratmul_any (RatS.zero w) (hx.below hb) (hy.below hb) hsx hsy hn)
 have HS := Lib.hid (hsx.mul hsy)
 clear hx hy hsx hsy hn hb
 go_enter Tryz.func89, Tryz.ntmps89
 go_wp2_with (go_at_call 63; (with_reducible refine (rat_id _ _).mono ?_); rintro _ _ ⟨rfl, rfl⟩)
 refine HM.out.mono ?_
 rintro _ w2 ⟨rfl, hr, hg⟩
 go_wp2_with fail
 go_ret
 exact ⟨_, rfl, ⟨_, rfl, hr, HS.out⟩, below_new hg⟩
set_option maxRecDepth 100000 in
set_option maxHeartbeats 1000000 in
theorem pladd_any {w : World} {v1 v2 : Value} {x y : Rat} {n : Nat} (h1 : IsRat x n v1 w) (h2 : IsRat y n v2 w) (hn : n ≤ 10000000) :
  Calls Tryz.prog 71 #[v1, v2] w (Ret w (IsRat (x + y) (n + n + 1))) := by
 obtain ⟨gx, rfl, hx, hsx⟩ := h1
 obtain ⟨gy, rfl, hy, hsy⟩ := h2
 have hb := new_below w (.cells #[.bool false, .slice none 0 0, .bool false, .slice none 0 0] 153)
 have HM := Lib.hid (ratadd_any (RatS.zero w) (hx.below hb) (hy.below hb) hsx hsy hn)
 have HS := Lib.hid (hsx.add hsy)
 clear hx hy hsx hsy hn hb
 go_enter Tryz.func71, Tryz.ntmps71
 go_wp2_with fail
 refine HM.out.mono ?_
 rintro _ w2 ⟨rfl, hr, hg⟩
 go_wp2_with fail
 go_ret
 exact ⟨_, rfl, ⟨_, rfl, hr, HS.out⟩, below_new hg⟩
set_option maxRecDepth 100000 in
set_option maxHeartbeats 1000000 in
theorem plsub_any {w : World} {v1 v2 : Value} {x y : Rat} {n : Nat} (h1 : IsRat x n v1 w) (h2 : IsRat y n v2 w) (hn : n ≤ 10000000) :
  Calls Tryz.prog 106 #[v1, v2] w (Ret w (IsRat (x - y) (n + n + 1))) := by
 obtain ⟨gx, rfl, hx, hsx⟩ := h1
 obtain ⟨gy, rfl, hy, hsy⟩ := h2
 have hb := new_below w (.cells #[.bool false, .slice none 0 0, .bool false, .slice none 0 0] 153)
 have HM := Lib.hid (ratsub_any (RatS.zero w) (hx.below hb) (hy.below hb) hsx hsy hn)
 have HS := Lib.hid (hsx.sub hsy)
 clear hx hy hsx hsy hn hb
 go_enter Tryz.func106, Tryz.ntmps106
 go_wp2_with fail
 refine HM.out.mono ?_
 rintro _ w2 ⟨rfl, hr, hg⟩
 go_wp2_with fail
 go_ret
 exact ⟨_, rfl, ⟨_, rfl, hr, HS.out⟩, below_new hg⟩
set_option maxRecDepth 100000 in
set_option maxHeartbeats 1000000 in
theorem plmul_any {w : World} {v1 v2 : Value} {x y : Rat} {n : Nat} (h1 : IsRat x n v1 w) (h2 : IsRat y n v2 w) (hn : n ≤ 10000000) :
  Calls Tryz.prog 70 #[v1, v2] w (Ret w (IsRat (x * y) (n + n))) := by
 obtain ⟨gx, rfl, hx, hsx⟩ := h1
 obtain ⟨gy, rfl, hy, hsy⟩ := h2
 have hb := new_below w (.cells #[.bool false, .slice none 0 0, .bool false, .slice none 0 0] 153)
 have HM := Lib.hid (ratmul_any (RatS.zero w) (hx.below hb) (hy.below hb) hsx hsy hn)
 have HS := Lib.hid (hsx.mul hsy)
 clear hx hy hsx hsy hn hb
 go_enter Tryz.func70, Tryz.ntmps70
 go_wp2_with fail
 refine HM.out.mono ?_
 rintro _ w2 ⟨rfl, hr, hg⟩
 go_wp2_with fail
 go_ret
 exact ⟨_, rfl, ⟨_, rfl, hr, HS.out⟩, below_new hg⟩
set_option maxRecDepth 100000 in
set_option maxHeartbeats 1000000 in
theorem plquo_any {w : World} {v1 v2 : Value} {x y : Rat} {n : Nat} (h1 : IsRat x n v1 w) (h2 : IsRat y n v2 w) (hn : n ≤ 10000000) (h0 : y ≠ 0) :
  Calls Tryz.prog 67 #[v1, v2] w (Ret w (IsRat (x / y) (n + n))) := by
 obtain ⟨gx, rfl, hx, hsx⟩ := h1
 obtain ⟨gy, rfl, hy, hsy⟩ := h2
 have hb := new_below w (.cells #[.bool false, .slice none 0 0, .bool false, .slice none 0 0] 153)
 have HM := Lib.hid (ratquo_any (RatS.zero w) (hx.below hb) (hy.below hb) hsx hsy hn h0)
 have HS := Lib.hid (hsx.quo hsy h0)
 clear hx hy hsx hsy hn hb h0
 go_enter Tryz.func67, Tryz.ntmps67
 go_wp2_with fail
 refine HM.out.mono ?_
 rintro _ w2 ⟨rfl, hr, hg⟩
 go_wp2_with fail
 go_ret
 exact ⟨_, rfl, ⟨_, rfl, hr, HS.out⟩, below_new hg⟩
theorem divInt_one (z : Int) : Rat.divInt z 1 = (z : Rat) := by
 have := Rat.num_divInt_den (z : Rat)
 rwa [Rat.num_intCast, Rat.den_intCast] at this
theorem Sz.int {z : Int} {n : Nat} (h : z.natAbs < 2 ^ n) (hn : 1 ≤ n) : Sz (z : Rat) n := by
 constructor
 ·rw [Rat.num_intCast]; exact h
 ·rw [Rat.den_intCast]; exact Nat.lt_of_lt_of_le (by decide : 1 < 2 ^ 1) (Nat.pow_le_pow_right (by decide) hn)
set_option maxRecDepth 100000 in
set_option maxHeartbeats 1000000 in
theorem plnum_any {w : World} {z : Int} (hz : z.natAbs < 2 ^ 8) :
  Calls Tryz.prog 53 #[.int .i64 z] w (Ret w (IsRat (z : Rat) 8)) := by
 have HN := Lib.hid (newrat_any (w := w) (a := z) (b := 1) (by omega) (by omega) (by omega) (by omega) (by omega))
 have HS := Lib.hid (Sz.int hz (by omega))
 clear hz
 go_enter Tryz.func53, Tryz.ntmps53
 go_wp2_with fail
 refine HN.out.mono ?_
 rintro _ w2 ⟨rfl, hr, hg⟩
 rw [divInt_one] at hr
 go_wp2_with fail
 go_ret
 exact ⟨_, rfl, ⟨_, rfl, hr, HS.out⟩, hg⟩
def RatZ (w : World) (g : Nat) : Prop := Blk w g 153 #[.bool false, .slice none 0 0, .bool false, .slice none 0 0]
theorem ratZ_vgs : Vgs RatZ where
 lt := fun h => Blk.lt h
 below := fun h hb => Blk.below h hb (Blk.lt h)
 off := fun h hne hg => Blk.grown h hg (by intro e; injection e with e; exact hne e)
theorem RatZ.slot {w : World} {g : Nat} (h : RatZ w g) : RatS w g := ⟨_, h, rfl⟩
theorem IntC.off {w w' : World} {g o r : Nat} {z : Int} (h : IntC w g o z) (hr : RatS w r) (hne : g ≠ r) (hg : w.grownBy w' (some r)) : IntC w' g o z := by
 have hlt := h.lt'
 obtain ⟨s, A, n, c, h0, h1, h2, h3, h4, hrd⟩ := h
 obtain ⟨cs, hk, _⟩ := hr
 refine ⟨s, A, n, c, (grown_cell hg hlt hne).trans h0, (grown_cell hg hlt hne).trans h1, h2, h3, h4, (hrd.other hg (Nat.le_refl _) fun q e => ?_).more hg.size⟩
 injection e with e
 subst e
 exact ⟨_, _, _, hk, by decide⟩
theorem RatV.off {w w' : World} {g r : Nat} {q : Rat} (h : RatV w g q) (hr : RatS w r) (hne : g ≠ r) (hg : w.grownBy w' (some r)) : RatV w' g q :=
 ⟨h.num.off hr hne hg, h.den.off hr hne hg, h.pos⟩
theorem RatV.notZ {w : World} {g r : Nat} {q : Rat} (h : RatV w g q) (hr : RatZ w r) : g ≠ r := by
 rintro rfl
 obtain ⟨s, A, n, c, _, h1, h2, _⟩ := h.den
 have e := hr.cell 3
 rw [h1] at e
 have hn : n = 0 := by
  injection e with e
  injection e
 have hl := h2.out.2
 have hp := (len_pos (x := (q.den : Int))).2 (by have := q.den_pos; omega)
 omega
theorem isRat_steady (b : Bool) (q : Rat) (n : Nat) : Steady RatZ b (IsRat q n) where
 below := fun h hb => h.below hb
 off := by
  rintro v w w' r ⟨g, rfl, h, hs⟩ hv _ hg
  exact ⟨g, rfl, h.off hv.slot (h.notZ hv) hg, hs⟩
end Go.Proofs.YtebpggfccljagaaGreat
namespace Go.Proofs.YtebpggfccljagaaGreat
set_option linter.unusedSimpArgs false
structure Cx where
 re : Rat
 im : Rat
 deriving DecidableEq
namespace Cx
def add (z w : Cx) : Cx := ⟨z.re + w.re, z.im + w.im⟩
def sub (z w : Cx) : Cx := ⟨z.re - w.re, z.im - w.im⟩
def mul (z w : Cx) : Cx := ⟨z.re * w.re - z.im * w.im, z.re * w.im + z.im * w.re⟩
def conj (z : Cx) : Cx := ⟨z.re, -z.im⟩
def norm (z : Cx) : Rat := z.re * z.re + z.im * z.im
def scale (z : Cx) (x : Rat) : Cx := ⟨z.re * x, z.im * x⟩
def div (z w : Cx) : Cx := (z.mul w.conj).scale (w.norm)⁻¹
def Zero (z : Cx) : Prop := z.re = 0 ∧ z.im = 0
instance (z : Cx) : Decidable z.Zero := inferInstanceAs (Decidable (_ ∧ _))
end Cx
structure Mx where
 a : Cx
 b : Cx
 c : Cx
 d : Cx
 turns : Bool
namespace Mx
def det (m : Mx) : Cx := (m.a.mul m.d).sub (m.b.mul m.c)
def arg (m : Mx) (z : Cx) : Cx := if m.turns then z.conj else z
def up (m : Mx) (z : Cx) : Cx := (m.a.mul (m.arg z)).add m.b
def low (m : Mx) (z : Cx) : Cx := (m.c.mul (m.arg z)).add m.d
def send (m : Mx) (z : Cx) : Option Cx := if (m.low z).Zero then none else some ((m.up z).div (m.low z))
end Mx
def farU (z w : Cx) : Rat := 1 + ((z.sub w).norm / (z.im * w.im)) * 2 / 4
def farR (z w : Cx) : Rat := 1 + ((z.sub w).norm / ((1 - z.norm) * (1 - w.norm))) * 2 / 1
def chart : Mx := ⟨⟨1, 0⟩, ⟨0, -1⟩, ⟨1, 0⟩, ⟨0, 1⟩, false⟩
theorem mulself_nonneg (x : Rat) : 0 ≤ x * x := by
 rcases Rat.le_total (a := 0) (b := x) with h | h
 ·exact Rat.mul_nonneg h h
 ·have := Rat.mul_nonneg (a := -x) (b := -x) (by grind) (by grind)
  grind
theorem dpos {a b : Rat} (ha : 0 < a) (hb : 0 < b) : 0 < a / b := by
 rw [Rat.div_def]
 exact Rat.mul_pos ha (Rat.inv_pos.2 hb)
theorem eqdiv {a b c : Rat} (h : a * b = c) (hb : b ≠ 0) : a = c / b := by grind
theorem mul_ne {a b : Rat} (ha : a ≠ 0) (hb : b ≠ 0) : a * b ≠ 0 := fun h => (Rat.mul_eq_zero.1 h).elim ha hb
theorem norm_pos {z : Cx} (h : ¬ z.Zero) : 0 < z.norm := by
 have h1 := mulself_nonneg z.re
 have h2 := mulself_nonneg z.im
 unfold Cx.norm
 apply Rat.lt_of_le_of_ne (by grind)
 intro e
 apply h
 have e1 : z.re * z.re = 0 := by grind
 have e2 : z.im * z.im = 0 := by grind
 constructor
 ·rcases Rat.mul_eq_zero.1 e1 with h | h <;> exact h
 ·rcases Rat.mul_eq_zero.1 e2 with h | h <;> exact h
theorem farU_eq {z w : Cx} (hz : 0 < z.im) (hw : 0 < w.im) : farU z w = 1 + (z.sub w).norm / (z.im * w.im + z.im * w.im) := by
 have h : z.im * w.im ≠ 0 := by
  have := Rat.mul_pos hz hw
  grind
 unfold farU
 grind
theorem chart_send {z : Cx} (hz : 0 < z.im) : ∃ p, chart.send z = some p ∧ (1 - p.norm) * (z.re * z.re + (z.im + 1) * (z.im + 1)) = 4 * z.im ∧ 0 < 1 - p.norm ∧
  p.re * (z.re * z.re + (z.im + 1) * (z.im + 1)) = z.re * z.re + (z.im - 1) * (z.im + 1) ∧ p.im * (z.re * z.re + (z.im + 1) * (z.im + 1)) = - 2 * z.re := by
 have h0 : ¬ (chart.low z).Zero := by
  rintro ⟨_, h⟩
  simp [chart, Mx.low, Mx.arg, Cx.mul, Cx.add] at h
  grind
 have hn : (chart.low z).norm = z.re * z.re + (z.im + 1) * (z.im + 1) := by
  simp [chart, Mx.low, Mx.arg, Cx.mul, Cx.add, Cx.norm]
  grind
 have hp := norm_pos h0
 rw [hn] at hp
 have hne : z.re * z.re + (z.im + 1) * (z.im + 1) ≠ 0 := by grind
 have hr : (((chart.up z).div (chart.low z)).re) * (z.re * z.re + (z.im + 1) * (z.im + 1)) = z.re * z.re + (z.im - 1) * (z.im + 1) := by
  unfold Cx.div Cx.scale
  rw [hn]
  simp [chart, Mx.low, Mx.up, Mx.arg, Cx.mul, Cx.add, Cx.conj]
  grind
 have hi : (((chart.up z).div (chart.low z)).im) * (z.re * z.re + (z.im + 1) * (z.im + 1)) = - 2 * z.re := by
  unfold Cx.div Cx.scale
  rw [hn]
  simp [chart, Mx.low, Mx.up, Mx.arg, Cx.mul, Cx.add, Cx.conj]
  grind
 have hq : (1 - ((chart.up z).div (chart.low z)).norm) * (z.re * z.re + (z.im + 1) * (z.im + 1)) = 4 * z.im := by
  unfold Cx.norm
  generalize ((chart.up z).div (chart.low z)).re = p at *
  generalize ((chart.up z).div (chart.low z)).im = q at *
  generalize hD : z.re * z.re + (z.im + 1) * (z.im + 1) = D at *
  have e1 : p = (z.re * z.re + (z.im - 1) * (z.im + 1)) / D := by grind
  have e2 : q = (-2 * z.re) / D := by grind
  subst e1 e2
  grind
 refine ⟨(chart.up z).div (chart.low z), by unfold Mx.send; rw [if_neg h0], hq, ?_, hr, hi⟩
 have e : (1 - ((chart.up z).div (chart.low z)).norm) = 4 * z.im / (z.re * z.re + (z.im + 1) * (z.im + 1)) := by grind
 rw [e]
 exact dpos (by grind) hp
theorem far_chart {z w p q : Cx} (hz : 0 < z.im) (hw : 0 < w.im) (hp : chart.send z = some p) (hq : chart.send w = some q) : farR p q = farU z w := by
 obtain ⟨p', e1, a1, b1, c1, d1⟩ := chart_send hz
 obtain ⟨q', e2, a2, b2, c2, d2⟩ := chart_send hw
 rw [hp] at e1
 rw [hq] at e2
 injection e1 with e1
 injection e2 with e2
 subst e1 e2
 have hD1 : z.re * z.re + (z.im + 1) * (z.im + 1) ≠ 0 := by
  intro e
  rw [e] at a1
  grind
 have hD2 : w.re * w.re + (w.im + 1) * (w.im + 1) ≠ 0 := by
  intro e
  rw [e] at a2
  grind
 obtain ⟨x, y⟩ := z
 obtain ⟨u, v⟩ := w
 obtain ⟨pr, pi⟩ := p
 obtain ⟨qr, qi⟩ := q
 simp only [] at *
 have E1 : 1 - (Cx.mk pr pi).norm = 4 * y / (x * x + (y + 1) * (y + 1)) := by grind
 have E2 : 1 - (Cx.mk qr qi).norm = 4 * v / (u * u + (v + 1) * (v + 1)) := by grind
 have F1 : pr = (x * x + (y - 1) * (y + 1)) / (x * x + (y + 1) * (y + 1)) := by grind
 have F2 : pi = - 2 * x / (x * x + (y + 1) * (y + 1)) := by grind
 have F3 : qr = (u * u + (v - 1) * (v + 1)) / (u * u + (v + 1) * (v + 1)) := by grind
 have F4 : qi = - 2 * u / (u * u + (v + 1) * (v + 1)) := by grind
 have hN : ((Cx.mk pr pi).sub (Cx.mk qr qi)).norm * ((x * x + (y + 1) * (y + 1)) * (u * u + (v + 1) * (v + 1))) = 4 * ((x - u) * (x - u) + (y - v) * (y - v)) := by
  unfold Cx.sub Cx.norm
  simp only []
  clear a1 b1 c1 d1 a2 b2 c2 d2 E1 E2 hp hq
  generalize hA : x * x + (y + 1) * (y + 1) = A at *
  generalize hB : u * u + (v + 1) * (v + 1) = B at *
  subst F1 F2 F3 F4
  grind
 unfold farR farU
 rw [E1, E2]
 have hN' : ((Cx.mk pr pi).sub (Cx.mk qr qi)).norm = 4 * ((x - u) * (x - u) + (y - v) * (y - v)) / ((x * x + (y + 1) * (y + 1)) * (u * u + (v + 1) * (v + 1))) := eqdiv hN (mul_ne hD1 hD2)
 rw [hN']
 simp only [Cx.sub, Cx.norm]
 have hy : y ≠ 0 := by intro e; rw [e] at hz; exact absurd hz (by decide)
 have hv : v ≠ 0 := by intro e; rw [e] at hw; exact absurd hw (by decide)
 generalize (x * x + (y + 1) * (y + 1)) = A at *
 generalize (u * u + (v + 1) * (v + 1)) = B at *
 clear F1 F2 F3 F4 E1 E2 a1 a2 b1 b2 c1 c2 d1 d2 hN hN' hp hq hz hw
 grind
theorem low_ne_of {n d : Cx} (h : (n.mul d.conj).im ≠ 0) : ¬ d.Zero := by
 rintro ⟨h1, h2⟩
 apply h
 simp only [Cx.mul, Cx.conj, h1, h2]
 grind
theorem div_im {n d : Cx} (h : ¬ d.Zero) : (n.div d).im * d.norm = (n.mul d.conj).im := by
 have := norm_pos h
 have hn : d.norm ≠ 0 := by grind
 unfold Cx.div Cx.scale
 simp only []
 grind
theorem div_mul {n d : Cx} (h : ¬ d.Zero) : (n.div d).mul d = n := by
 have := norm_pos h
 have hn : d.norm ≠ 0 := by grind
 have hh : d.norm * (d.norm)⁻¹ = 1 := Rat.mul_inv_cancel _ hn
 unfold Cx.div Cx.scale
 generalize (d.norm)⁻¹ = k at *
 unfold Cx.norm at hh
 obtain ⟨x, y⟩ := n
 obtain ⟨u, v⟩ := d
 simp only [Cx.mul, Cx.conj, Cx.mk.injEq] at *
 constructor <;> grind
theorem norm_mul (z w : Cx) : (z.mul w).norm = z.norm * w.norm := by
 simp only [Cx.mul, Cx.norm]
 grind
theorem arg_norm (m : Mx) (z w : Cx) : ((m.arg z).sub (m.arg w)).norm = (z.sub w).norm := by
 unfold Mx.arg Cx.conj Cx.sub Cx.norm
 cases m.turns <;> simp
 grind
structure KeepsU (m : Mx) : Prop where
 mid : ∃ p, m.send ⟨0, 1⟩ = some p ∧ 0 < p.im
 e1 : ∀ p, m.send ⟨1, 0⟩ = some p → p.im = 0
 e2 : ∀ p, m.send ⟨-1, 0⟩ = some p → p.im = 0
 e3 : ∀ p, m.send ⟨0, 0⟩ = some p → p.im = 0
theorem edge_im {m : Mx} {t : Rat} (h : ∀ p, m.send ⟨t, 0⟩ = some p → p.im = 0) : ((m.up ⟨t, 0⟩).mul (m.low ⟨t, 0⟩).conj).im = 0 := by
 by_cases h0 : (m.low ⟨t, 0⟩).Zero
 ·obtain ⟨h1, h2⟩ := h0
  simp only [Cx.mul, Cx.conj, h1, h2]
  grind
 ·have := h _ (by unfold Mx.send; rw [if_neg h0])
  rw [← div_im h0, this]
  grind
def Mx.P (m : Mx) : Rat := (m.a.re * m.d.re + m.a.im * m.d.im) - (m.b.re * m.c.re + m.b.im * m.c.im)
theorem keeps_form {m : Mx} (h : KeepsU m) (z : Cx) : ((m.up z).mul (m.low z).conj).im = m.P * (m.arg z).im ∧ m.P * m.P = m.det.norm ∧ 0 < m.P * (m.arg ⟨0, 1⟩).im := by
 have k1 := edge_im h.e1
 have k2 := edge_im h.e2
 have k3 := edge_im h.e3
 obtain ⟨p, hs, hp⟩ := h.mid
 have kp : 0 < ((m.up ⟨0, 1⟩).mul (m.low ⟨0, 1⟩).conj).im := by
  unfold Mx.send at hs
  split at hs
  ·cases hs
  ·rename_i h0
   injection hs with hs
   rw [← div_im h0, hs]
   exact Rat.mul_pos hp (norm_pos h0)
 obtain ⟨⟨a, a'⟩, ⟨b, b'⟩, ⟨c, c'⟩, ⟨d, d'⟩, t⟩ := m
 obtain ⟨x, y⟩ := z
 clear h hs hp p
 have q3 : b' * d - b * d' = 0 := by
  cases t <;> simp [Mx.up, Mx.low, Mx.arg, Cx.mul, Cx.add, Cx.conj] at k3 <;> grind
 have q1 : a' * c - a * c' = 0 := by
  cases t <;> simp [Mx.up, Mx.low, Mx.arg, Cx.mul, Cx.add, Cx.conj] at k1 k2 k3 <;> grind
 have q2 : a' * d - a * d' + b' * c - b * c' = 0 := by
  cases t <;> simp [Mx.up, Mx.low, Mx.arg, Cx.mul, Cx.add, Cx.conj] at k1 k2 k3 <;> grind
 have hall : ∀ x y : Rat, ((Mx.up ⟨⟨a, a'⟩, ⟨b, b'⟩, ⟨c, c'⟩, ⟨d, d'⟩, t⟩ ⟨x, y⟩).mul (Mx.low ⟨⟨a, a'⟩, ⟨b, b'⟩, ⟨c, c'⟩, ⟨d, d'⟩, t⟩ ⟨x, y⟩).conj).im = Mx.P ⟨⟨a, a'⟩, ⟨b, b'⟩, ⟨c, c'⟩, ⟨d, d'⟩, t⟩ * (Mx.arg ⟨⟨a, a'⟩, ⟨b, b'⟩, ⟨c, c'⟩, ⟨d, d'⟩, t⟩ ⟨x, y⟩).im := by
  intro x y
  clear k1 k2 k3 kp
  cases t <;> simp [Mx.up, Mx.low, Mx.arg, Cx.mul, Cx.add, Cx.conj, Mx.P] <;> grind
 refine ⟨hall x y, ?_, by rw [← hall 0 1]; exact kp⟩
 clear k1 k2 k3 kp hall
 simp only [Mx.P, Mx.det, Cx.mul, Cx.sub, Cx.norm]
 grind
theorem keeps_send {m : Mx} (h : KeepsU m) {z : Cx} (hz : 0 < z.im) : ∃ p e, m.send z = some p ∧ ¬ (m.low z).Zero ∧ p = (m.up z).div (m.low z) ∧ p.im * (m.low z).norm = e * z.im ∧ 0 < e ∧ e * e = m.det.norm ∧ 0 < p.im := by
 obtain ⟨h1, h2, h3⟩ := keeps_form h z
 have hs : m.P * (m.arg z).im = (m.P * (m.arg ⟨0, 1⟩).im) * z.im := by
  unfold Mx.arg Cx.conj
  cases m.turns <;> simp <;> grind
 have hpos := Rat.mul_pos h3 hz
 have h0 : ¬ (m.low z).Zero := low_ne_of (n := m.up z) (by rw [h1, hs]; grind)
 have hn := norm_pos h0
 have hi : ((m.up z).div (m.low z)).im * (m.low z).norm = (m.P * (m.arg ⟨0, 1⟩).im) * z.im := by rw [div_im h0, h1, hs]
 refine ⟨_, m.P * (m.arg ⟨0, 1⟩).im, by unfold Mx.send; rw [if_neg h0], h0, rfl, hi, h3, ?_, ?_⟩
 ·rw [← h2]
  unfold Mx.arg Cx.conj
  cases m.turns <;> simp <;> grind
 ·rw [eqdiv hi (by grind)]
  exact dpos hpos hn
theorem far_keeps {m : Mx} (h : KeepsU m) {z w p q : Cx} (hz : 0 < z.im) (hw : 0 < w.im) (hp : m.send z = some p) (hq : m.send w = some q) : farU p q = farU z w := by
 obtain ⟨p', e, s1, a1, b1, c1, d1, g1, i1⟩ := keeps_send h hz
 obtain ⟨q', f, s2, a2, b2, c2, d2, g2, i2⟩ := keeps_send h hw
 rw [hp] at s1
 rw [hq] at s2
 injection s1 with s1
 injection s2 with s2
 subst s1 s2
 have hef : e = f := by
  have : (e - f) * (e + f) = 0 := by grind
  rcases Rat.mul_eq_zero.1 this with h | h <;> grind
 subst hef
 have hd : (p.sub q).norm * ((m.low z).norm * (m.low w).norm) = (e * e) * (z.sub w).norm := by
  have e1 : p.mul (m.low z) = m.up z := by rw [b1]; exact div_mul a1
  have e2 : q.mul (m.low w) = m.up w := by rw [b2]; exact div_mul a2
  have e3 : ((p.sub q).mul (m.low z)).mul (m.low w) = m.det.mul ((m.arg z).sub (m.arg w)) := by
   have h1 : ((p.sub q).mul (m.low z)).mul (m.low w) = ((p.mul (m.low z)).mul (m.low w)).sub ((q.mul (m.low w)).mul (m.low z)) := by
    simp only [Cx.mul, Cx.sub, Cx.mk.injEq]
    constructor <;> grind
   rw [h1, e1, e2]
   simp only [Mx.up, Mx.low, Mx.det, Cx.mul, Cx.add, Cx.sub, Cx.mk.injEq]
   constructor <;> grind
  have e4 := congrArg Cx.norm e3
  rw [norm_mul, norm_mul, norm_mul, ← g1, arg_norm] at e4
  grind
 have n1 := norm_pos a1
 have n2 := norm_pos a2
 have y0 : p.im * q.im ≠ 0 := mul_ne (by grind) (by grind)
 have s0 : z.im * w.im ≠ 0 := mul_ne (by grind) (by grind)
 have k0 : (e * e) * ((m.low z).norm * (m.low w).norm) ≠ 0 := mul_ne (mul_ne (by grind) (by grind)) (mul_ne (by grind) (by grind))
 have hx : (p.sub q).norm * (z.im * w.im) = (z.sub w).norm * (p.im * q.im) := by
  have := Rat.mul_eq_zero.1 (show ((p.sub q).norm * (z.im * w.im) - (z.sub w).norm * (p.im * q.im)) * ((e * e) * ((m.low z).norm * (m.low w).norm)) = 0 by
   generalize (p.sub q).norm = N at *
   generalize (z.sub w).norm = K at *
   generalize (m.low z).norm = A at *
   generalize (m.low w).norm = B at *
   clear h hp hq a1 a2 b1 b2 g1 g2 n1 n2 y0 s0 k0 hz hw d1 d2 i1 i2
   grind)
  rcases this with h | h
  ·grind
  ·exact absurd h k0
 unfold farU
 generalize (p.sub q).norm = N at *
 generalize (z.sub w).norm = K at *
 generalize p.im * q.im = Y at *
 generalize z.im * w.im = S at *
 clear h hp hq a1 a2 b1 b2 g1 g2 n1 n2 k0 hz hw d1 d2 i1 i2 c1 c2 hd
 grind
end Go.Proofs.YtebpggfccljagaaGreat
namespace Go.Proofs.YtebpggfccljagaaGreat
open Go.RowKit
open Wh
set_option linter.unusedSimpArgs false
def IsNum (z : Cx) (n : Nat) : Value → World → Prop := fun v w => ∃ a b, v = .agg #[a, b] ∧ IsRat z.re n a w ∧ IsRat z.im n b w
theorem IsNum.below {z : Cx} {n : Nat} {v : Value} {w w' : World} (h : IsNum z n v w) (hb : Below w.heap.size w w') : IsNum z n v w' := by
 obtain ⟨a, b, rfl, ha, hb'⟩ := h
 exact ⟨a, b, rfl, ha.below hb, hb'.below hb⟩
theorem IsNum.up {z : Cx} {n m : Nat} {v : Value} {w : World} (h : IsNum z n v w) (hm : n ≤ m) : IsNum z m v w := by
 obtain ⟨a, b, rfl, ha, hb'⟩ := h
 exact ⟨a, b, rfl, ha.up hm, hb'.up hm⟩
theorem isNum_steady (b : Bool) (z : Cx) (n : Nat) : Steady RatZ b (IsNum z n) where
 below := fun h hb => h.below hb
 off := by
  rintro v w w' r ⟨x, y, rfl, ⟨g, rfl, hx, hs⟩, ⟨g', rfl, hy, hs'⟩⟩ hv _ hg
  exact ⟨_, _, rfl, ⟨g, rfl, hx.off hv.slot (hx.notZ hv) hg, hs⟩, ⟨g', rfl, hy.off hv.slot (hy.notZ hv) hg, hs'⟩⟩
theorem Ret.mono {w : World} {S T : Value → World → Prop} {P : Program} {f : Nat} {args : Array Value} (h : Calls P f args w (Ret w S)) (hst : ∀ v w', S v w' → T v w') : Calls P f args w (Ret w T) := by
 refine Calls.mono h ?_
 rintro e w' ⟨v, rfl, hs, hb⟩
 exact ⟨v, rfl, hst _ _ hs, hb⟩
theorem upR {w : World} {q : Rat} {n m : Nat} {P : Program} {f : Nat} {args : Array Value} (h : Calls P f args w (Ret w (IsRat q n))) (hm : n ≤ m) : Calls P f args w (Ret w (IsRat q m)) :=
 Ret.mono h fun _ _ h => h.up hm
theorem upN {w : World} {q : Cx} {n m : Nat} {P : Program} {f : Nat} {args : Array Value} (h : Calls P f args w (Ret w (IsNum q n))) (hm : n ≤ m) : Calls P f args w (Ret w (IsNum q m)) :=
 Ret.mono h fun _ _ h => h.up hm
theorem ratid_any {w : World} {v : Value} {x : Rat} {n : Nat} (h : IsRat x n v w) : Calls Tryz.prog 63 #[v] w (Ret w (IsRat x n)) := by
 obtain ⟨g, rfl, hg, hs⟩ := h
 refine (rat_id w g).mono ?_
 rintro _ _ ⟨rfl, rfl⟩
 exact ⟨_, rfl, ⟨g, rfl, hg, hs⟩, Below.refl _ _⟩
def Fill (w : World) (g : Nat) (q : Rat) (n : Nat) (e : Ending) (w' : World) : Prop := e = .returned (ptr g) ∧ IsRat q n (ptr g) w' ∧ w.grownBy w' (some g)
section
variable {w : World} {g n m : Nat} {x y : Rat} {v1 v2 : Value}
theorem fadd (hv : RatZ w g) (h1 : IsRat x n v1 w) (h2 : IsRat y n v2 w) (hn : n ≤ 10000000) (hm : n + n + 1 ≤ m) : Calls Tryz.prog 94 #[ptr g, v1, v2] w (Fill w g (x + y) m) := by
 obtain ⟨gx, rfl, hx, hsx⟩ := h1
 obtain ⟨gy, rfl, hy, hsy⟩ := h2
 refine (ratadd_any hv.slot hx hy hsx hsy hn).mono ?_
 rintro _ w' ⟨rfl, hr, hg⟩
 exact ⟨rfl, ⟨g, rfl, hr, (hsx.add hsy).up hm⟩, hg⟩
theorem fsub (hv : RatZ w g) (h1 : IsRat x n v1 w) (h2 : IsRat y n v2 w) (hn : n ≤ 10000000) (hm : n + n + 1 ≤ m) : Calls Tryz.prog 101 #[ptr g, v1, v2] w (Fill w g (x - y) m) := by
 obtain ⟨gx, rfl, hx, hsx⟩ := h1
 obtain ⟨gy, rfl, hy, hsy⟩ := h2
 refine (ratsub_any hv.slot hx hy hsx hsy hn).mono ?_
 rintro _ w' ⟨rfl, hr, hg⟩
 exact ⟨rfl, ⟨g, rfl, hr, (hsx.sub hsy).up hm⟩, hg⟩
theorem finv (hv : RatZ w g) (h1 : IsRat x n v1 w) (h0 : x ≠ 0) (hn : n ≤ 10000000) : Calls Tryz.prog 110 #[ptr g, v1] w (Fill w g (x⁻¹) n) := by
 obtain ⟨gx, rfl, hx, hsx⟩ := h1
 refine (ratinv_any hv.slot hx hsx hn h0).mono ?_
 rintro _ w' ⟨rfl, hr, hg⟩
 exact ⟨rfl, ⟨g, rfl, hr, hsx.inv h0⟩, hg⟩
end
theorem Blk.cast {w : World} {g g' : Nat} {t : TypeId} {cs : Array Value} (h : Blk w g t cs) (e : g = g') : Blk w g' t cs := e ▸ h
theorem size_alloc (w : World) (o : Obj) : (w.alloc o).heap.size = w.heap.size + 1 := by simp
theorem ratS_set {w : World} {g : Nat} (h : RatS w g) (a b c d : Value) : RatS ((((w.setCell ⟨g, 0, none⟩ a).setCell ⟨g, 1, none⟩ b).setCell ⟨g, 2, none⟩ c).setCell ⟨g, 3, none⟩ d) g := by
 obtain ⟨cs, hk, hz⟩ := h
 exact ⟨_, (((hk.set_ 0 a).set_ 1 b).set_ 2 c).set_ 3 d, by simp [hz]⟩
def PutsS (w : World) (g : Nat) (q : Rat) (e : Ending) (w' : World) : Prop := e = .returned (ptr g) ∧ RatV w' g q ∧ w.grownBy w' (some g) ∧ RatS w' g
set_option maxRecDepth 100000 in
set_option maxHeartbeats 4000000 in
theorem setfrac2_any {w : World} {g ga gb oa ob : Nat} {a b : Int} (hz : RatS w g) (ha : IntC w ga oa a) (hb : IntC w gb ob b) (hal : (wds a.natAbs).length ≤ 900000000) (hbl : (wds b.natAbs).length ≤ 900000000) (hb0 : b ≠ 0) :
  Calls Tryz.prog 113 #[.pointer (some ⟨g, 0, none⟩), .pointer (some ⟨ga, oa, none⟩), .pointer (some ⟨gb, ob, none⟩)] w (fun e w' => e = .returned (.pointer (some ⟨g, 0, none⟩)) ∧ RatB w' g (Rat.divInt a b).num ((Rat.divInt a b).den : Int) ∧ w.grownBy w' (some g) ∧ RatS w' g) := by
 have hGle : Nat.gcd a.natAbs b.natAbs ≤ b.natAbs := Nat.gcd_le_right _ (by omega)
 have HG := Lib.hid (gcdC_new ha hb hal hbl)
 have HS := Lib.hid (And.intro (gcS_ne (a := a) hb0) (And.intro (abs_gcS a b) (And.intro (num_gcS (a := a) hb0) (den_gcS (a := a) hb0))))
 have HE := Lib.hid (show gcS a b = if b < 0 then -(Nat.gcd a.natAbs b.natAbs : Int) else (Nat.gcd a.natAbs b.natAbs : Int) from rfl)
 obtain ⟨S, hSe⟩ : ∃ S, S = gcS a b := ⟨_, rfl⟩
 obtain ⟨G, hGe⟩ : ∃ G, G = Nat.gcd a.natAbs b.natAbs := ⟨_, rfl⟩
 obtain ⟨qn, hqn⟩ : ∃ qn, qn = (Rat.divInt a b).num := ⟨_, rfl⟩
 obtain ⟨qd, hqd⟩ : ∃ qd : Int, qd = ((Rat.divInt a b).den : Int) := ⟨_, rfl⟩
 have hqp : 0 < qd := by rw [hqd]; have := (Rat.divInt a b).den_pos; omega
 rw [← hqn, ← hqd]
 rw [← hSe, ← hGe] at HE
 rw [← hSe, ← hqn, ← hqd, ← hGe] at HS
 rw [← hGe] at HG hGle
 have HQ := Lib.hid hqp
 have HL := Lib.hid (And.intro hal (And.intro hbl (And.intro hGle hb0)))
 have HA := Lib.hid (And.intro ha (And.intro hb hz))
 obtain ⟨sb, Ab, nb, cb, y0, y1, Hy, _, _, _⟩ := hb.opened
 have glb := hb.lt'
 clear hal hbl hb0 hSe hGe hqn hqd hqp hGle ha hb hz
 by_cases hneg : b < 0
 ·have hsb : sb = true := by rw [Hy.out.1]; exact decide_eq_true hneg
  subst hsb
  have hS : S = -(G : Int) := by rw [HE.out, if_pos hneg]
  subst hS
  have HGl : Hid ((wds (G : Int).natAbs).length ≤ 900000000) := by rw [Int.natAbs_natCast]; exact len_le HL.out.2.2.1 HL.out.2.1
  clear hneg HE
  go_enter Tryz.func113, Tryz.ntmps113
  go_wp2_with (go_at_call 125; (refine HG.out.mono ?_); rintro _ W1 ⟨rfl, hi1, hb1⟩; have y0n := (hb1.cell (p := ⟨gb, ob, none⟩) glb).trans y0; have HN := Lib.hid (negC hi1.slot hi1.inC HGl.out); have Hb1 := Lib.hid hb1; clear hi1 hb1)
  refine HN.out.mono ?_
  rintro _ W1' ⟨rfl, hi1', hg1⟩
  have HB1 := Lib.hid (Hb1.out.grown hg1 Hb1.out.size (fun k hk => by injection hk with hk; omega))
  have HI1 := Lib.hid hi1'
  clear hi1' hg1 Hb1 HN y0n y0 y1
  go_wp2_with fail
  have Q1 := Lib.hid (quoC_new (HA.out.1.below HB1.out) HI1.out.inC HL.out.1 (by rw [HS.out.2.1]; exact len_le HL.out.2.2.1 HL.out.2.1) HS.out.1)
  refine Q1.out.mono ?_
  rintro _ W2 ⟨rfl, hi2, hb2⟩
  have hb12 := HB1.out.trans (hb2.mono HB1.out.size)
  have Q2 := Lib.hid (quoC_new (HA.out.2.1.below hb12) (HI1.out.below hb2).inC HL.out.2.1 (by rw [HS.out.2.1]; exact len_le HL.out.2.2.1 HL.out.2.1) HS.out.1)
  go_wp2_with (go_at_call 126; (refine Q2.out.mono ?_); rintro _ W3 ⟨rfl, hi3, hb3⟩)
  have hb13 := hb12.trans (hb3.mono hb12.size)
  have hgl := HA.out.2.2.lt
  have hi2' := hi2.below hb3
  have hz3 := HA.out.2.2.below hb13
  have hl1 := HB1.out.size
  have hl2 := hb2.size
  have gn1 : ¬ g = w.heap.size := by omega
  have gn2 : ¬ g = W2.heap.size := by omega
  have gm1 : ¬ w.heap.size = g := by omega
  have gm2 : ¬ W2.heap.size = g := by omega
  rw [HS.out.2.2.1] at hi2'
  rw [HS.out.2.2.2] at hi3
  obtain ⟨s2, A2, n2, c2, u0, u1, Hu, hu1, hu2, hur⟩ := hi2'.opened
  obtain ⟨s3, A3, n3, c3, v0, v1, Hv, hv1, hv2, hvr⟩ := hi3.opened
  have Hz3 := Lib.hid hz3
  obtain ⟨cs, hk, hcs⟩ := hz3
  obtain ⟨z0, e0⟩ : ∃ z, W3.cell? ⟨g, 0, none⟩ = some z := ⟨cs[0]'(by omega), by rw [hk.cell]; exact Array.getElem?_eq_getElem (by omega)⟩
  obtain ⟨z1, e1⟩ : ∃ z, W3.cell? ⟨g, 1, none⟩ = some z := ⟨cs[1]'(by omega), by rw [hk.cell]; exact Array.getElem?_eq_getElem (by omega)⟩
  obtain ⟨z2, e2⟩ : ∃ z, W3.cell? ⟨g, 2, none⟩ = some z := ⟨cs[2]'(by omega), by rw [hk.cell]; exact Array.getElem?_eq_getElem (by omega)⟩
  obtain ⟨z3, e3⟩ : ∃ z, W3.cell? ⟨g, 3, none⟩ = some z := ⟨cs[3]'(by omega), by rw [hk.cell]; exact Array.getElem?_eq_getElem (by omega)⟩
  have f0 := hk.frozen 0
  have f1 := hk.frozen 1
  have f2 := hk.frozen 2
  have f3 := hk.frozen 3
  have HU := Lib.hid (And.intro hu1 (And.intro hu2 hur))
  have HV := Lib.hid (And.intro hv1 (And.intro hv2 hvr))
  have HB := Lib.hid hb13
  generalize W2.heap.size = N2 at *
  clear hk hcs hi2' hi2 hi3 hu1 hu2 hur hv1 hv2 hvr hb13 hb12 hb2 hb3 Q1 Q2 hgl hl1 hl2 HI1 HB1 HS HL HA HG
  go_region
  go_wp2_with fail
  go_ret
  obtain ⟨r1, r2⟩ := rat_made Hz3.out Hu HU.out.1 HU.out.2.1 HU.out.2.2 Hv HV.out.1 HV.out.2.1 HV.out.2.2 HQ.out
  have r3 := grown_lift HB.out r2
  exact ⟨rfl, ⟨r1.num, r1.den, r1.pos⟩, ⟨r3.os, r3.tape, r3.output, r3.size, r3.block⟩, ratS_set Hz3.out _ _ _ _⟩
 ·have hsb : sb = false := by rw [Hy.out.1]; exact decide_eq_false hneg
  subst hsb
  have hS : S = (G : Int) := by rw [HE.out, if_neg hneg]
  subst hS
  clear hneg HE
  go_enter Tryz.func113, Tryz.ntmps113
  go_wp2_with (go_at_call 125; (refine HG.out.mono ?_); rintro _ W1 ⟨rfl, hi1, hb1⟩; have y0n := (hb1.cell (p := ⟨gb, ob, none⟩) glb).trans y0; have HB1 := Lib.hid hb1; have HI1 := Lib.hid hi1; clear hi1 hb1)
  have Q1 := Lib.hid (quoC_new (HA.out.1.below HB1.out) HI1.out.inC HL.out.1 (by rw [HS.out.2.1]; exact len_le HL.out.2.2.1 HL.out.2.1) HS.out.1)
  refine Q1.out.mono ?_
  rintro _ W2 ⟨rfl, hi2, hb2⟩
  have hb12 := HB1.out.trans (hb2.mono HB1.out.size)
  have Q2 := Lib.hid (quoC_new (HA.out.2.1.below hb12) (HI1.out.below hb2).inC HL.out.2.1 (by rw [HS.out.2.1]; exact len_le HL.out.2.2.1 HL.out.2.1) HS.out.1)
  go_wp2_with (go_at_call 126; (refine Q2.out.mono ?_); rintro _ W3 ⟨rfl, hi3, hb3⟩)
  have hb13 := hb12.trans (hb3.mono hb12.size)
  have hgl := HA.out.2.2.lt
  have hi2' := hi2.below hb3
  have hz3 := HA.out.2.2.below hb13
  have hl1 := HB1.out.size
  have hl2 := hb2.size
  have gn1 : ¬ g = w.heap.size := by omega
  have gn2 : ¬ g = W2.heap.size := by omega
  have gm1 : ¬ w.heap.size = g := by omega
  have gm2 : ¬ W2.heap.size = g := by omega
  rw [HS.out.2.2.1] at hi2'
  rw [HS.out.2.2.2] at hi3
  obtain ⟨s2, A2, n2, c2, u0, u1, Hu, hu1, hu2, hur⟩ := hi2'.opened
  obtain ⟨s3, A3, n3, c3, v0, v1, Hv, hv1, hv2, hvr⟩ := hi3.opened
  have Hz3 := Lib.hid hz3
  obtain ⟨cs, hk, hcs⟩ := hz3
  obtain ⟨z0, e0⟩ : ∃ z, W3.cell? ⟨g, 0, none⟩ = some z := ⟨cs[0]'(by omega), by rw [hk.cell]; exact Array.getElem?_eq_getElem (by omega)⟩
  obtain ⟨z1, e1⟩ : ∃ z, W3.cell? ⟨g, 1, none⟩ = some z := ⟨cs[1]'(by omega), by rw [hk.cell]; exact Array.getElem?_eq_getElem (by omega)⟩
  obtain ⟨z2, e2⟩ : ∃ z, W3.cell? ⟨g, 2, none⟩ = some z := ⟨cs[2]'(by omega), by rw [hk.cell]; exact Array.getElem?_eq_getElem (by omega)⟩
  obtain ⟨z3, e3⟩ : ∃ z, W3.cell? ⟨g, 3, none⟩ = some z := ⟨cs[3]'(by omega), by rw [hk.cell]; exact Array.getElem?_eq_getElem (by omega)⟩
  have f0 := hk.frozen 0
  have f1 := hk.frozen 1
  have f2 := hk.frozen 2
  have f3 := hk.frozen 3
  have HU := Lib.hid (And.intro hu1 (And.intro hu2 hur))
  have HV := Lib.hid (And.intro hv1 (And.intro hv2 hvr))
  have HB := Lib.hid hb13
  generalize W2.heap.size = N2 at *
  clear hk hcs hi2' hi2 hi3 hu1 hu2 hur hv1 hv2 hvr hb13 hb12 hb2 hb3 Q1 Q2 hgl hl1 hl2 HI1 HB1 HS HL HA HG
  go_region
  go_wp2_with fail
  go_ret
  obtain ⟨r1, r2⟩ := rat_made Hz3.out Hu HU.out.1 HU.out.2.1 HU.out.2.2 Hv HV.out.1 HV.out.2.1 HV.out.2.2 HQ.out
  have r3 := grown_lift HB.out r2
  exact ⟨rfl, ⟨r1.num, r1.den, r1.pos⟩, ⟨r3.os, r3.tape, r3.output, r3.size, r3.block⟩, ratS_set Hz3.out _ _ _ _⟩
set_option maxRecDepth 100000 in
set_option maxHeartbeats 4000000 in
theorem ratadd2_any {w : World} {g gx gy n : Nat} {x y : Rat} (hz : RatS w g) (hx : RatV w gx x) (hy : RatV w gy y) (hsx : Sz x n) (hsy : Sz y n) (hn : n ≤ 10000000) :
  Calls Tryz.prog 94 #[ptr g, ptr gx, ptr gy] w (PutsS w g (x + y)) := by
 have hlx := hsx.lens hn
 have hly := hsy.lens hn
 go_enter Tryz.func94, Tryz.ntmps94
 go_wp2_with fail
 refine wp_region_noPanic ?_
 refine wp_region_list (mk := ?mk) intZ_vgs [Is undef, Is (ptr gx), Is (ptr gx), Is (ptr gx), Is (ptr gy), Is (.pointer (some ⟨gy, 2, none⟩)), IsI w.heap.size (x.num * (y.den : Int))] [.fresh, .plain, .plain, .plain, .plain, .plain, .fills 0] 7 1 (fun w' => RatV w' gx x ∧ RatV w' gy y) ⟨is_steady _ _ _, is_steady _ _ _, is_steady _ _ _, is_steady _ _ _, is_steady _ _ _, is_steady _ _ _, isI_steady _ _, trivial⟩ (by kernel_rfl) (by kernel_rfl) (by kernel_rfl) (by kernel_rfl) (by kernel_rfl) (by kernel_rfl) ?hmk (fun w' hb => ⟨hx.below hb, hy.below hb⟩)
  (steps_all (steps_cons ?_ (steps_cons ?_ (steps_cons ?_ (steps_cons ?_ (steps_cons ?_ (steps_cons ?_ (steps_cons ?_ steps_nil)))))))) ?_
 case hmk =>
  intro u
  simp only [mkFrom, mkL, dstOf, List.range, List.range.loop, Act.put, List.setIfInBounds_toArray, List.set_cons_zero, List.set_cons_succ, List.getElem?_toArray, List.getElem?_cons_zero, List.getElem?_cons_succ, Option.bind_some]
  rfl
 ·refine step_new (o := Oper.mk (some 8) _ _ _ _ _) rfl rfl rfl (fun u w hc => ⟨.cells #[.bool false, .slice none 0 0] 151, ?_, Blk.new w 151 _⟩)
  go_simp
 ·refine step_is (o := Oper.mk (some 9) _ _ _ _ _) rfl rfl rfl rfl (fun u w hc hd => ?_)
  go_simp
 ·refine step_is (o := Oper.mk (some 10) _ _ _ _ _) rfl rfl rfl rfl (fun u w hc hd => ?_)
  have d1 : u 1 = _ := hd 1 (by kernel_rfl) (by decide)
  go_simp
 ·refine step_is (o := Oper.mk (some 11) _ _ _ _ _) rfl rfl rfl rfl (fun u w hc hd => ?_)
  have d2 : u 2 = _ := hd 2 (by kernel_rfl) (by decide)
  go_simp
 ·refine step_is (o := Oper.mk (some 12) _ _ _ _ _) rfl rfl rfl rfl (fun u w hc hd => ?_)
  go_simp
 ·refine step_call (o := Oper.mk (some 13) _ _ _ _ _) rfl rfl rfl (fun u w hc hd => ?_)
  have d4 : u 4 = _ := hd 4 (by kernel_rfl) (by decide)
  refine ⟨99, #[ptr gy], ?_, (den_any hc.2).mono ?_⟩
  ·go_simp
  ·rintro _ _ ⟨rfl, rfl⟩
   exact ⟨_, rfl, rfl, Below.refl _ _⟩
 ·refine step_fill (a := 0) (o := Oper.mk (some 14) _ _ _ _ _) rfl rfl rfl (fun u w g1 hc hd h0 hlo hv => ?_)
  have d3 : u 3 = _ := hd 3 (by kernel_rfl) (by decide)
  have d5 : u 5 = _ := hd 5 (by kernel_rfl) (by decide)
  refine ⟨116, #[ptr g1, (ptr gx), (.pointer (some ⟨gy, 2, none⟩))], ?_, (mulC (IntZ.zero hv).slot hc.1.num hc.2.den hlx.1 hly.2).mono ?_⟩
  ·go_simp
  ·rintro _ w2 ⟨rfl, hi, hg⟩
   exact ⟨rfl, ⟨g1, rfl, hlo, hi⟩, hg⟩
 ·intro u w1 hb1 hf hn1
  obtain ⟨ga, f6, hga, hia⟩ : IsI _ _ (u 6) w1 := hf 6 (by decide) (by decide)
  have Hia := Lib.hid (And.intro hia (And.intro hga hb1))
  have hx1 := hx.below hb1
  have hy1 := hy.below hb1
  refine wpAny_tail (j := 7) (o := Oper.mk (some 7) _ _ _ _ _) rfl (by kernel_rfl) (fun K hK => ?_)
  rw [f6]
  clear hf hn1 hia hga hb1 f6
  go_simp
  refine hK.out _ _ ?_
  clear hK K
  refine wpAny_end (by kernel_rfl) ?_
  refine NoPanic.normal ?_
  go_wp2_with fail
  refine wp_region_noPanic ?_
  refine wp_region_list (mk := ?mk2) intZ_vgs [Is (ptr ga), Is (ptr ga), Is undef, Is (ptr gy), Is (ptr gy), Is (ptr gy), Is (ptr gx), Is (.pointer (some ⟨gx, 2, none⟩)), IsI w1.heap.size (y.num * (x.den : Int))] [.plain, .plain, .fresh, .plain, .plain, .plain, .plain, .plain, .fills 2] 9 1 (fun w' => RatV w' gx x ∧ RatV w' gy y ∧ True) ⟨is_steady _ _ _, is_steady _ _ _, is_steady _ _ _, is_steady _ _ _, is_steady _ _ _, is_steady _ _ _, is_steady _ _ _, is_steady _ _ _, isI_steady _ _, trivial⟩ (by kernel_rfl) (by kernel_rfl) (by kernel_rfl) (by kernel_rfl) (by kernel_rfl) (by kernel_rfl) ?hmk2 (fun w' hb => ⟨hx1.below hb, hy1.below hb, trivial⟩)
   (steps_all (steps_cons ?_ (steps_cons ?_ (steps_cons ?_ (steps_cons ?_ (steps_cons ?_ (steps_cons ?_ (steps_cons ?_ (steps_cons ?_ (steps_cons ?_ steps_nil)))))))))) ?_
  case hmk2 =>
   intro u
   simp only [mkFrom, mkL, dstOf, List.range, List.range.loop, Act.put, List.setIfInBounds_toArray, List.set_cons_zero, List.set_cons_succ, List.getElem?_toArray, List.getElem?_cons_zero, List.getElem?_cons_succ, Option.bind_some]
   rfl
  ·refine step_is (o := Oper.mk (some 15) _ _ _ _ _) rfl rfl rfl rfl (fun u w hc hd => ?_)
   go_simp
  ·refine step_is (o := Oper.mk (some 16) _ _ _ _ _) rfl rfl rfl rfl (fun u w hc hd => ?_)
   go_simp
  ·refine step_new (o := Oper.mk (some 17) _ _ _ _ _) rfl rfl rfl (fun u w hc => ⟨.cells #[.bool false, .slice none 0 0] 151, ?_, Blk.new w 151 _⟩)
   go_simp
  ·refine step_is (o := Oper.mk (some 18) _ _ _ _ _) rfl rfl rfl rfl (fun u w hc hd => ?_)
   go_simp
  ·refine step_is (o := Oper.mk (some 19) _ _ _ _ _) rfl rfl rfl rfl (fun u w hc hd => ?_)
   have d3 : u 3 = _ := hd 3 (by kernel_rfl) (by decide)
   go_simp
  ·refine step_is (o := Oper.mk (some 20) _ _ _ _ _) rfl rfl rfl rfl (fun u w hc hd => ?_)
   have d4 : u 4 = _ := hd 4 (by kernel_rfl) (by decide)
   go_simp
  ·refine step_is (o := Oper.mk (some 21) _ _ _ _ _) rfl rfl rfl rfl (fun u w hc hd => ?_)
   go_simp
  ·refine step_call (o := Oper.mk (some 22) _ _ _ _ _) rfl rfl rfl (fun u w hc hd => ?_)
   have d6 : u 6 = _ := hd 6 (by kernel_rfl) (by decide)
   refine ⟨99, #[ptr gx], ?_, (den_any hc.1).mono ?_⟩
   ·go_simp
   ·rintro _ _ ⟨rfl, rfl⟩
    exact ⟨_, rfl, rfl, Below.refl _ _⟩
  ·refine step_fill (a := 2) (o := Oper.mk (some 23) _ _ _ _ _) rfl rfl rfl (fun u w g1 hc hd h0 hlo hv => ?_)
   have d5 : u 5 = _ := hd 5 (by kernel_rfl) (by decide)
   have d7 : u 7 = _ := hd 7 (by kernel_rfl) (by decide)
   refine ⟨116, #[ptr g1, (ptr gy), (.pointer (some ⟨gx, 2, none⟩))], ?_, (mulC (IntZ.zero hv).slot hc.2.1.num hc.1.den hly.1 hlx.2).mono ?_⟩
   ·go_simp
   ·rintro _ w2 ⟨rfl, hi, hg⟩
    exact ⟨rfl, ⟨g1, rfl, hlo, hi⟩, hg⟩
  ·intro u2 w2 hb2 hf hn1
   have f0 : u2 0 = _ := hf 0 (by decide) (by decide)
   have f1 : u2 1 = _ := hf 1 (by decide) (by decide)
   obtain ⟨gb, f8, _, hib⟩ : IsI _ _ (u2 8) w2 := hf 8 (by decide) (by decide)
   have hia2 := Hia.out.1.below hb2
   have HA := Lib.hid (addC hia2.slot hia2.inC hib.inC (len_mul2 (m := n) hsx.num (by simpa using hsy.den) (by omega)) (len_mul2 (m := n) hsy.num (by simpa using hsx.den) (by omega)))
   have Hb2 := Lib.hid (Hia.out.2.2.trans (hb2.mono Hia.out.2.2.size))
   refine wpAny_tail (j := 9) (o := Oper.mk (some 24) _ _ _ _ _) rfl (by kernel_rfl) (fun K hK => ?_)
   rw [f0, f1, f8]
   clear hf hn1 hib hia2 hb2 f0 f1 f8
   go_simp
   refine HA.out.mono ?_
   rintro _ w3 ⟨rfl, hi3, hg3⟩
   have Hb3 := Lib.hid (Hb2.out.grown hg3 Hb2.out.size (fun k hk => by injection hk with hk; have := Hia.out.2.1; omega))
   have Hi3 := Lib.hid hi3
   clear hg3 hi3
   try simp only []
   refine hK.out _ _ ?_
   clear hK K
   refine wpAny_end (by kernel_rfl) ?_
   refine NoPanic.normal ?_
   have hb0 := new_below w3 (.cells #[.bool false, .slice none 0 0] 151)
   have hx3 := (hx.below Hb3.out).below hb0
   have hy3 := (hy.below Hb3.out).below hb0
   have HX := Lib.hid (den_any hx3)
   have HY := Lib.hid (den_any hy3)
   have HM := Lib.hid (mulC (IntB.zero w3).slot hx3.den hy3.den hlx.2 hly.2)
   clear hx3 hy3 hx1 hy1 hb0
   go_wp2_with (go_at_call 99; first | ((with_reducible refine HX.out.mono ?_); rintro _ _ ⟨rfl, rfl⟩) | ((with_reducible refine HY.out.mono ?_); rintro _ _ ⟨rfl, rfl⟩))
   refine HM.out.mono ?_
   rintro _ w4 ⟨rfl, hi4, hg4⟩
   have hb4 := below_new hg4
   have HS := Lib.hid (setfrac2_any ((hz.below Hb3.out).below hb4) (Hi3.out.below hb4).inC hi4.inC
    (Nat.le_trans (len_sz (abs_add_lt (abs_mul_lt (m := n) hsx.num (by simpa using hsy.den)) (abs_mul_lt (m := n) hsy.num (by simpa using hsx.den))).1 (by omega)) (by omega))
    (len_mul2 (n := n) (m := n) (by simpa using hsx.den) (by simpa using hsy.den) (by omega)) (dens_ne x y))
   have Hb4 := Lib.hid (Hb3.out.trans (hb4.mono Hb3.out.size))
   clear hi4 hg4 hb4
   go_wp2_with fail
   refine HS.out.mono ?_
   rintro _ w5 ⟨rfl, hr, hg, hsl⟩
   go_wp2_with fail
   go_ret
   refine ⟨rfl, ?_, grown_lift Hb4.out hg, hsl⟩
   rw [add_ints]
   exact hr
end Go.Proofs.YtebpggfccljagaaGreat
