import Derived.Below
import Derived.Laws.OwnMore
import Derived.Deep.AppendLies
import Derived.Deep.Draws
import Derived.Laws.Rows
import Derived.Maps.AppendAt
import Derived.RegionTactic
import Derived.OwnWalk
import Derived.Deep.QuietTactic
import Derived.Deep.OwnRows
import Derived.Laws.MakeOwn
import Derived.Laws.Entries
import Derived.Laws.BitsAllLaws
import Derived.Laws.BitsLemmas
import Derived.ChangeSame
import Derived.Tactics
import Derived.Lib.Hide
import Derived.Test.YtmjnhpagoboejaaDoorRows
import Derived.WalkKit
import Derived.ProofKit
import Derived.OpenShut
import Derived.Carry
import Derived.JoinedCond
import Derived.Test.YtmjnhpagoboejaaDoorProg
import Derived.WalkLawsBesides
import Derived.WalkSpells
import Derived.Handy
import Derived.Deep.LoopGhost
import Derived.BigQuiet
import Derived.Deep.RegionHeld3
import Derived.RangeFuncNested
import Derived.RangeFuncBound
import Derived.RangeFuncCalls
import Derived.RangeFuncLeaves
import Derived.RangeFuncBox
import Derived.Shelf.Abstract
import Derived.Shelf.RegionOpen
import Derived.OwnWalkIn
import Derived.TacticsInMore
import Derived.LoopNIn
import Derived.LoopIn
/- Words for memory, turned from the guide's lemmas that are meant to be copied: a slice that reads as a list, a block known whole, append of any source, frames. -/
namespace Go.Proofs.YtmjnhpagoboejaaDoor
open Go.RowKit Go.WideShapes Go.ChangeShapes

theorem block_of_add (a : Addr) (n : Nat) : (a.add n).block = a.block := by unfold Addr.add; split <;> rfl
theorem add_of_add (a : Addr) (i j : Nat) : (a.add i).add j = a.add (i + j) := by
  unfold Addr.add
  by_cases hi : i = 0 <;> by_cases hj : j = 0 <;> simp [hi, hj, Nat.add_assoc]

def Reads (w : World) (B size : Nat) (A : Option Addr) (n : Nat) (xs : List Value) : Prop :=
  xs.length = n * size ∧ (0 < n → ∃ ad, A = some ad ∧ ad.block < B ∧ ∀ j u, xs[j]? = some u → w.cell? (ad.add j) = some u)

section
variable {w w' : World} {B B' size n : Nat} {A : Option Addr} {xs : List Value}
theorem Reads.none_ : Reads w B size A 0 [] := ⟨by simp, fun h => absurd h (by omega)⟩
theorem Reads.at_ {k : Nat} (h : Reads w B 1 A n xs) (hk : k < n) : ∃ ad u, A = some ad ∧ ad.block < B ∧ xs[k]? = some u ∧ w.cell? (ad.add k) = some u := by
  obtain ⟨ad, e, hb, hc⟩ := h.2 (by omega)
  have hl : k < xs.length := by have := h.1; omega
  exact ⟨ad, xs[k], e, hb, List.getElem?_eq_getElem hl, hc k _ (List.getElem?_eq_getElem hl)⟩
theorem Reads.keep (h : Reads w B size A n xs) (hk : ∀ p : Addr, p.block < B → w'.cell? p = w.cell? p) : Reads w' B size A n xs :=
  ⟨h.1, fun hn => by
    obtain ⟨ad, e, hb, hc⟩ := h.2 hn
    exact ⟨ad, e, hb, fun j u hu => (hk _ (by rw [block_of_add]; exact hb)).trans (hc j u hu)⟩⟩
theorem Reads.more (h : Reads w B size A n xs) (hB : B ≤ B') : Reads w B' size A n xs :=
  ⟨h.1, fun hn => by
    obtain ⟨ad, e, hb, hc⟩ := h.2 hn
    exact ⟨ad, e, by omega, hc⟩⟩
theorem Reads.below (h : Reads w B size A n xs) (hb : Below B w w') : Reads w' B size A n xs := h.keep fun _ hp => hb.cell hp
theorem Reads.drew (h : Reads w B size A n xs) : Reads w.drew B size A n xs := h
theorem Reads.drewN (h : Reads w B size A n xs) (k : Nat) : Reads (w.drewN k) B size A n xs := h
theorem Reads.alloc (h : Reads w B size A n xs) (hB : B ≤ w.heap.size) (o : Obj) : Reads (w.alloc o) B size A n xs := h.keep fun p hp => World.cell?_alloc_lt w o p (by omega)
theorem Reads.setCell (h : Reads w B size A n xs) {p : Addr} (hB : B ≤ p.block) (u : Value) : Reads (w.setCell p u) B size A n xs :=
  h.keep fun q hq => World.cell?_setCell_other w p q u (fun e => by subst e; omega)
theorem Reads.grown (h : Reads w B size A n xs) {row : Option Nat} (hg : w.grownBy w' row) (hB : B ≤ w.heap.size) (hr : ∀ g, row = some g → B ≤ g) : Reads w' B size A n xs :=
  h.keep fun p hp => World.cell?_of_block (hg.block p.block (by omega) (fun e => by have := hr _ e.symm; omega))
theorem Reads.cut (h : Reads w B size A n xs) {k cap : Nat} (hk : k ≤ n) (hc : n ≤ cap) :
    Reads w B size (if cap = k then A else A.map (·.add (k * size))) (n - k) (xs.drop (k * size)) := by
  refine ⟨by rw [List.length_drop, h.1, Nat.sub_mul], fun hn => ?_⟩
  obtain ⟨ad, rfl, hb, hcell⟩ := h.2 (by omega)
  rw [if_neg (by omega)]
  refine ⟨ad.add (k * size), rfl, by rw [block_of_add]; exact hb, fun j u hu => ?_⟩
  rw [add_of_add]
  exact hcell _ u (by rw [← hu, List.getElem?_drop])
theorem Reads.of_own {base : Nat} {e : TypeId} {c : Nat} (h : w.ownsRow base e size (.slice A n c) n xs) : Reads w w.heap.size size A n xs := by
  refine ⟨h.1, fun hn => ?_⟩
  obtain ⟨g, cap, hv, _, hlt⟩ := h.form hn
  have hA : A = some ⟨g, 0, none⟩ := by injection hv
  subst hA
  exact ⟨_, rfl, hlt, h.cells (g := g) rfl⟩
end

def Blk (w : World) (g : Nat) (t : TypeId) (cs : Array Value) : Prop := w.heap[g]? = some (.cells cs t (0, 0))

section
variable {w w' : World} {g : Nat} {t : TypeId} {cs : Array Value}
theorem Blk.lt (h : Blk w g t cs) : g < w.heap.size := by
  rcases Nat.lt_or_ge g w.heap.size with hlt | hge
  · exact hlt
  · unfold Blk at h; rw [Array.getElem?_eq_none hge] at h; cases h
theorem Blk.cell (h : Blk w g t cs) (i : Nat) : w.cell? ⟨g, i, none⟩ = cs[i]? := cell_of_row w g i cs t (0, 0) h
theorem Blk.frozen (h : Blk w g t cs) (i : Nat) : w.frozen? ⟨g, i, none⟩ = false := by
  unfold Blk at h
  simp [World.frozen?, h]
theorem Blk.new (w : World) (t : TypeId) (cs : Array Value) : Blk (w.alloc (.cells cs t)) w.heap.size t cs := heap_alloc_new w _
theorem Blk.drew (h : Blk w g t cs) : Blk w.drew g t cs := h
theorem Blk.drewN (h : Blk w g t cs) (n : Nat) : Blk (w.drewN n) g t cs := h
theorem Blk.alloc (h : Blk w g t cs) (o : Obj) : Blk (w.alloc o) g t cs := (Below.heap_alloc w o g h.lt).trans h
theorem Blk.set_ (h : Blk w g t cs) (i : Nat) (u : Value) : Blk (w.setCell ⟨g, i, none⟩ u) g t (cs.setIfInBounds i u) := by
  unfold Blk at h ⊢
  simp [World.setCell, Array.getElem?_modify, h]
theorem Blk.far (h : Blk w g t cs) {p : Addr} (hp : g ≠ p.block) (u : Value) : Blk (w.setCell p u) g t cs := (Below.heap_setCell w p u g hp).trans h
theorem Blk.below {B : Nat} (h : Blk w g t cs) (hb : Below B w w') (hg : g < B) : Blk w' g t cs := (hb.block g hg).trans h
theorem Blk.grown {row : Option Nat} (h : Blk w g t cs) (hb : w.grownBy w' row) (hg : some g ≠ row) : Blk w' g t cs := (hb.block g h.lt hg).trans h
theorem Blk.ne_ {g' : Nat} {t' : TypeId} {cs' : Array Value} (h : Blk w g t cs) (h' : Blk w g' t' cs') (hne : t ≠ t') : g ≠ g' := by
  rintro rfl
  unfold Blk at h h'
  rw [h] at h'
  injection h' with h'
  injection h' with _ ht
  exact hne ht
theorem own_blk_ne {base : Nat} {e : TypeId} {size n : Nat} {v : Value} {xs : List Value} (h : w.ownsRow base e size v n xs) (hg : Blk w g t cs) (hne : e ≠ t) : v.ownBlock ≠ some g := by
  rcases h.2 with ⟨rfl, _⟩ | ⟨g', cap, cur, rfl, _, hh, _⟩
  · simp [Value.ownBlock]
  · intro he
    have : g' = g := by simpa [Value.ownBlock] using he
    subst this
    exact Blk.ne_ (t := e) hh hg hne rfl
end

section
variable {P : Program} (w : World)

theorem run_append_of_nil (base : Nat) (t ty e : TypeId) (i : TypeInfo) (size : Nat) (ht : P.underlying t = some (.slice e)) (hi : P.info? e = some i)
    (v : Value) (n : Nat) (xs : List Value) (hown : w.ownsRow base e size v n xs) (c : Nat) : (Builtin.append_ #[t, t] ty #[v, .slice none 0 c]).run P w = .ok v w := by
  rcases hown.2 with ⟨rfl, rfl⟩ | ⟨g, cap, cur, rfl, _, _, hnc, _⟩
  · simp [Builtin.append_, run_underlying ht, sizeOf, typeInfo, hi, Builtin.lenOf, Builtin.firstCells]
  · simp [Builtin.append_, run_underlying ht, sizeOf, typeInfo, hi, Builtin.lenOf, Builtin.firstCells, hnc, storeCells]

theorem run_append_any (base : Nat) (t ty e : TypeId) (i : TypeInfo) (z : Value) (size bytes : Nat) (ht : P.underlying t = some (.slice e)) (hi : P.info? e = some i) (hz : i.zero = some z)
    (hsize : i.size = size) (hby : i.bytes = bytes) (hzs : z.cells.size = size) (hsz : 0 < size)
    (v : Value) (n : Nat) (xs : List Value) (hown : w.ownsRow base e size v n xs)
    (B : Nat) (A : Option Addr) (m c : Nat) (news : List Value) (hr : Reads w B size A m news) (h1 : ∀ u ∈ news, u.oneCell' = true)
    (h63 : n + m ≤ maxLen) (hbytes : (n + m) * bytes ≤ 140737488355328) (hbase : base ≤ w.heap.size) :
    ∃ v' w', (Builtin.append_ #[t, t] ty #[v, .slice A m c]).run P w = .ok v' w' ∧ w'.ownsRow base e size v' (n + m) (xs ++ news) ∧ w.grownBy w' v.ownBlock ∧
      (v'.ownBlock = v.ownBlock ∨ v'.ownBlock = some w.heap.size) := by
  rcases A with _ | ad
  · have hm : m = 0 := by
      rcases Nat.eq_zero_or_pos m with h0 | h0
      · exact h0
      · obtain ⟨ad, h, _⟩ := hr.2 h0
        cases h
    subst hm
    have hn : news = [] := List.eq_nil_of_length_eq_zero (by simpa using hr.1)
    subst hn
    exact ⟨v, w, run_append_of_nil w base t ty e i size ht hi v n xs hown c, by simpa using hown, World.grownBy.refl w _, .inl rfl⟩
  · have hcells : ∀ j u, news[j]? = some u → w.cell? (ad.add j) = some u := by
      intro j u hu
      rcases Nat.eq_zero_or_pos m with h0 | h0
      · subst h0
        have hn : news = [] := List.eq_nil_of_length_eq_zero (by simpa using hr.1)
        subst hn
        simp at hu
      · obtain ⟨ad', h, _, hc⟩ := hr.2 h0
        injection h with h
        subst h
        exact hc j u hu
    obtain ⟨v', w', hrun, h2, h3, _, h5⟩ := run_append_own_at (P := P) w base t ty e i z size bytes ht hi hz hsize hby hzs hsz v n xs hown ad m c news hr.1 hcells h1 h63 hbytes hbase
    exact ⟨v', w', hrun, h2, h3, h5⟩

theorem wp_append_any {o : Oper} {a : Act} {K : Act → World → Prop} {Q : Exit → Act → World → Prop} (s x : Operand) (t : TypeId)
    (ho : o.op = .call { callee := .builtin .append, args := #[s, x], argTypes := #[t, t] })
    (base : Nat) (e : TypeId) (i : TypeInfo) (z : Value) (size bytes : Nat) (ht : P.underlying t = some (.slice e)) (hi : P.info? e = some i) (hz : i.zero = some z)
    (hsize : i.size = size) (hby : i.bytes = bytes) (hzs : z.cells.size = size) (hsz : 0 < size)
    (v : Value) (n : Nat) (xs : List Value) (hs : a.eval s = v) (hown : w.ownsRow base e size v n xs)
    (B : Nat) (A : Option Addr) (m c : Nat) (news : List Value) (hx : a.eval x = .slice A m c) (hr : Reads w B size A m news) (h1 : ∀ u ∈ news, u.oneCell' = true)
    (h63 : n + m ≤ maxLen) (hbytes : (n + m) * bytes ≤ 140737488355328) (hbase : base ≤ w.heap.size)
    (h : ∀ v' w', w'.ownsRow base e size v' (n + m) (xs ++ news) → w.grownBy w' v.ownBlock → (v'.ownBlock = v.ownBlock ∨ v'.ownBlock = some w.heap.size) → K (a.put o.dst v') w') : o.wp P a w K Q := by
  obtain ⟨v', w', hrun, h2, h3, h4⟩ := run_append_any (P := P) w base t o.type e i z size bytes ht hi hz hsize hby hzs hsz v n xs hown B A m c news hr h1 h63 hbytes hbase
  unfold Oper.wp execOp
  simp only [ho, resolve, invoke, builtin, Sem.run_bind, Sem.run_pure, Result.andThen_ok, List.map_toArray, List.map_cons, List.map_nil, hs, hx, hrun]
  exact h v' w' h2 h3 h4

theorem wpList_append_any {ops : Array Oper} {rest : List Oper} {o : Oper} {a : Act} {Q : Exit → Act → World → Prop} (hgd : o.guard = none) (s x : Operand) (t : TypeId)
    (ho : o.op = .call { callee := .builtin .append, args := #[s, x], argTypes := #[t, t] })
    (base : Nat) (e : TypeId) (i : TypeInfo) (z : Value) (size bytes : Nat) (ht : P.underlying t = some (.slice e)) (hi : P.info? e = some i) (hz : i.zero = some z)
    (hsize : i.size = size) (hby : i.bytes = bytes) (hzs : z.cells.size = size) (hsz : 0 < size)
    (v : Value) (n : Nat) (xs : List Value) (hs : a.eval s = v) (hown : w.ownsRow base e size v n xs)
    (B : Nat) (A : Option Addr) (m c : Nat) (news : List Value) (hx : a.eval x = .slice A m c) (hr : Reads w B size A m news) (h1 : ∀ u ∈ news, u.oneCell' = true)
    (h63 : n + m ≤ maxLen) (hbytes : (n + m) * bytes ≤ 140737488355328) (hbase : base ≤ w.heap.size)
    (h : ∀ v' w', w'.ownsRow base e size v' (n + m) (xs ++ news) → w.grownBy w' v.ownBlock → (v'.ownBlock = v.ownBlock ∨ v'.ownBlock = some w.heap.size) → wpList P ops Q rest (a.put o.dst v') w') : wpList P ops Q (o :: rest) a w :=
  wpList_plain hgd fun _ hK => wp_append_any w s x t ho base e i z size bytes ht hi hz hsize hby hzs hsz v n xs hs hown B A m c news hx hr h1 h63 hbytes hbase fun v' w' h2 h3 h4 => hK _ _ (h v' w' h2 h3 h4)

theorem step_append_any {ops : Array Oper} {o : Oper} {a : Act} {K : Act → World → Prop} {Q : Exit → Act → World → Prop} {E : Prop} (hgd : o.guard = none) (s x : Operand) (t : TypeId)
    (ho : o.op = .call { callee := .builtin .append, args := #[s, x], argTypes := #[t, t] })
    (base : Nat) (e : TypeId) (i : TypeInfo) (z : Value) (size bytes : Nat) (ht : P.underlying t = some (.slice e)) (hi : P.info? e = some i) (hz : i.zero = some z)
    (hsize : i.size = size) (hby : i.bytes = bytes) (hzs : z.cells.size = size) (hsz : 0 < size)
    (v : Value) (n : Nat) (xs : List Value) (hs : a.eval s = v) (hown : w.ownsRow base e size v n xs)
    (B : Nat) (A : Option Addr) (m c : Nat) (news : List Value) (hx : a.eval x = .slice A m c) (hr : Reads w B size A m news) (h1 : ∀ u ∈ news, u.oneCell' = true)
    (h63 : n + m ≤ maxLen) (hbytes : (n + m) * bytes ≤ 140737488355328) (hbase : base ≤ w.heap.size)
    (h : ∀ v' w', w'.ownsRow base e size v' (n + m) (xs ++ news) → w.grownBy w' v.ownBlock → (v'.ownBlock = v.ownBlock ∨ v'.ownBlock = some w.heap.size) → K (a.put o.dst v') w') :
    if Region.wanted o (yielded ops a.tmps) = true then Oper.wp P o a w K Q else E := by
  have hw : Region.wanted o (yielded ops a.tmps) = true := by simp [Region.wanted, hgd]
  rw [if_pos hw]
  exact wp_append_any w s x t ho base e i z size bytes ht hi hz hsize hby hzs hsz v n xs hs hown B A m c news hx hr h1 h63 hbytes hbase h
end

theorem quiet_add {P : Program} {f : FuncId} {args : Array Value} {w : World} {a n : Nat} {v : Value}
    (h : Calls P f args (w.drewN (a + n)) fun e w' => e = .returned v ∧ ∃ m, w' = (w.drewN (a + n)).drewN m) :
    Calls P f args (w.drewN (a + n)) fun e w'' => e = .returned v ∧ ∃ m, w'' = w.drewN (a + m) :=
  h.mono fun _ _ ⟨he, m, hm⟩ => ⟨he, n + m, by rw [hm, World.drewN_drewN, Nat.add_assoc]⟩
theorem quiet_add_same {P : Program} {f : FuncId} {args : Array Value} {w : World} {a n : Nat} {v : Value}
    (h : Calls P f args (w.drewN (a + n)) fun e w' => e = .returned v ∧ w' = w.drewN (a + n)) :
    Calls P f args (w.drewN (a + n)) fun e w'' => e = .returned v ∧ ∃ m, w'' = w.drewN (a + m) :=
  h.mono fun _ _ ⟨he, hm⟩ => ⟨he, n, hm⟩
theorem quiet_add_left {P : Program} {f : FuncId} {args : Array Value} {w : World} {a n : Nat} {v : Value}
    (h : Calls P f args (w.drewN (a + n)) fun e w' => e = .returned v ∧ w.drewN (a + n) = w') :
    Calls P f args (w.drewN (a + n)) fun e w'' => e = .returned v ∧ ∃ m, w'' = w.drewN (a + m) :=
  h.mono fun _ _ ⟨he, hm⟩ => ⟨he, n, hm.symm⟩
theorem quiet_left {P : Program} {f : FuncId} {args : Array Value} {w : World} {n : Nat} {v : Value}
    (h : Calls P f args (w.drewN n) fun e w' => e = .returned v ∧ w.drewN n = w') : Calls P f args (w.drewN n) fun e w'' => e = .returned v ∧ ∃ m, w'' = w.drewN m :=
  h.mono fun _ _ ⟨he, hm⟩ => ⟨he, n, hm.symm⟩

theorem results_tmp4 {fn : Func} {t u v x : Tmp} (h : fn.results = #[.tmp t, .tmp u, .tmp v, .tmp x]) (tmps : Array Value) (P : Program) (w : World) :
    (results fn tmps).run P w = .ok (.tuple #[tmps.getD t undef, tmps.getD u undef, tmps.getD v undef, tmps.getD x undef]) w := by simp [results, h]
theorem results_tmp5 {fn : Func} {t u v x y : Tmp} (h : fn.results = #[.tmp t, .tmp u, .tmp v, .tmp x, .tmp y]) (tmps : Array Value) (P : Program) (w : World) :
    (results fn tmps).run P w = .ok (.tuple #[tmps.getD t undef, tmps.getD u undef, tmps.getD v undef, tmps.getD x undef, tmps.getD y undef]) w := by simp [results, h]

theorem below_drewN {B : Nat} {a w : World} (h : Below B a w) (n : Nat) : Below B a (w.drewN n) := ⟨h.os, h.tape, h.output, h.size, h.block⟩
theorem rowIs_drewN {w : World} {b : Nat} {t : TypeId} {n : Nat} {f : Nat → Value} (h : w.rowIs b t n f) (k : Nat) : (w.drewN k).rowIs b t n f := h
theorem grown_trans {a b c : World} (h : Grown a b) (k : Grown b c) : Grown a c :=
  ⟨World.keptBut_trans h.1 k.1, fun x => (k.2.1 x).trans (h.2.1 x), Nat.le_trans h.2.2 k.2.2⟩

theorem only_drewN {a w : World} {row : Option Nat} (h : a.grownBy w row) (n : Nat) : a.grownBy (w.drewN n) row := ⟨h.os, h.tape, h.output, h.size, h.block⟩
theorem only_drew {a w : World} {row : Option Nat} (h : a.grownBy w row) : a.grownBy w.drew row := ⟨h.os, h.tape, h.output, h.size, h.block⟩
theorem only_alloc {a w : World} {row : Option Nat} (h : a.grownBy w row) (o : Obj) : a.grownBy (w.alloc o) row :=
  ⟨h.os, h.tape, h.output, Nat.le_trans h.size (by simp), fun i hi hne => (Below.heap_alloc w o i (Nat.lt_of_lt_of_le hi h.size)).trans (h.block i hi hne)⟩
theorem only_setCell {a w : World} {g : Nat} (h : a.grownBy w (some g)) {p : Addr} (hp : p.block = g ∨ a.heap.size ≤ p.block) (u : Value) : a.grownBy (w.setCell p u) (some g) :=
  ⟨h.os, h.tape, h.output, by simpa [World.setCell] using h.size, fun i hi hne => (Below.heap_setCell w p u i (by
    rintro rfl
    rcases hp with hp | hp
    · exact hne (by rw [hp])
    · omega)).trans (h.block i hi hne)⟩
theorem only_of_below {a w : World} (h : Below a.heap.size a w) (row : Option Nat) : a.grownBy w row := ⟨h.os, h.tape, h.output, h.size, fun i hi _ => h.block i hi⟩

theorem run_store_float (P : Program) (w : World) (a : Addr) (m : Mode) (k : FloatKind) (b : Nat) : (store a (.float k b) m).run P w = stored P w a (.float k b) m := run_store P w a _ m rfl
theorem run_store_complex (P : Program) (w : World) (a : Addr) (m : Mode) (k : FloatKind) (x y : Nat) : (store a (.complex k x y) m).run P w = stored P w a (.complex k x y) m := run_store P w a _ m rfl

theorem run_make_rowN {P : Program} (t e : TypeId) (i : TypeInfo) (z : Value) (ht : P.underlying t = some (.slice e)) (hi : P.info? e = some i) (hz : i.zero = some z)
    (kl kc : IntKind) (n c : Nat) (hnc : n ≤ c) (hbytes : i.bytes * c ≤ 281474976710656) (h63 : c ≤ 9223372036854775807) (w : World) :
    (Instr.makeSlice t (.int kl (n : Int)) (.int kc (c : Int))).run P w = .ok (.slice (some ⟨w.heap.size, 0, none⟩) n c) (w.alloc (.cells (madeCells z.cells (c * i.size)) e)) := by
  have hb : (i.bytes : Int) * (c : Int) ≤ 281474976710656 := by
    have h : ((i.bytes * c : Nat) : Int) ≤ 281474976710656 := by omega
    rwa [Int.natCast_mul] at h
  have hr := run_make (P := P) w t e i z ht hi hz kl kc n c (by omega) (by omega) hb (by omega)
  simp only [Int.toNat_natCast] at hr
  exact hr
theorem run_makeMap_hint {P : Program} (t k e : TypeId) (kd : IntKind) (n : Int) (ht : P.underlying t = some (.map k e)) (w : World) :
    (Instr.makeMap t (some (.int kd n))).run P w = .ok (.map (some w.heap.size)) (w.alloc (.map #[] 0)) := by
  simp [Instr.makeMap, run_underlying ht]; rfl

theorem ofInt_i64 (a : Nat) (ha : a < 9223372036854775808) : (BitVec.ofInt 64 (a : Int)).toNat = a := by
  rw [BitVec.ofInt_natCast, BitVec.toNat_ofNat]; exact Nat.mod_eq_of_lt (by omega)
theorem i64_and_nat (a b : Nat) (ha : a < 9223372036854775808) (hb : b < 9223372036854775808) : bits .and .i64 (a : Int) (b : Int) = ((a &&& b : Nat) : Int) := by
  have hx : a &&& b < 2 ^ 63 := Nat.and_lt_two_pow _ (by omega)
  show IntKind.i64.wrap ((BitVec.ofInt 64 (a : Int) &&& BitVec.ofInt 64 (b : Int)).toNat : Int) = _
  rw [BitVec.toNat_and, ofInt_i64 a ha, ofInt_i64 b hb, IntKind.wrap_i64]
  omega
theorem i64_or_nat (a b : Nat) (ha : a < 9223372036854775808) (hb : b < 9223372036854775808) : bits .or .i64 (a : Int) (b : Int) = ((a ||| b : Nat) : Int) := by
  have hx : a ||| b < 2 ^ 63 := Nat.or_lt_two_pow (by omega) (by omega)
  show IntKind.i64.wrap ((BitVec.ofInt 64 (a : Int) ||| BitVec.ofInt 64 (b : Int)).toNat : Int) = _
  rw [BitVec.toNat_or, ofInt_i64 a ha, ofInt_i64 b hb, IntKind.wrap_i64]
  omega
theorem i64_xor_nat (a b : Nat) (ha : a < 9223372036854775808) (hb : b < 9223372036854775808) : bits .xor .i64 (a : Int) (b : Int) = ((a ^^^ b : Nat) : Int) := by
  have hx : a ^^^ b < 2 ^ 63 := Nat.xor_lt_two_pow (by omega) (by omega)
  show IntKind.i64.wrap ((BitVec.ofInt 64 (a : Int) ^^^ BitVec.ofInt 64 (b : Int)).toNat : Int) = _
  rw [BitVec.toNat_xor, ofInt_i64 a ha, ofInt_i64 b hb, IntKind.wrap_i64]
  omega

section
variable {H : Type} {enc : TypeId × Value → H} {P : Program}
theorem post_of_below {f : Func} {s : ChangeSpec} {apart fresh handsOn again : Bool} {W W' : World} {args : Array Value} {v : Value} {ds gs : List (DataW H)} {before pa pv : List MemPlace}
    (hW : DataW.Whole enc P f.params.toList s.vars apart W args.toList ds gs before)
    (hres : ∀ (b : Nat) (sp : Nat → Bool) (hd : Bool), DataW.TrodAll enc P W' b sp hd f.resultTypes.toList (v.resultList f.resultTypes.size) (s.fn H (ds ++ gs)).results [])
    (hargs : ∀ sp : Nat → Bool, (∀ p ∈ before, sp p.block = true) → DataW.TrodAll enc P W' 0 sp true f.params.toList args.toList (s.fn H (ds ++ gs)).args pa)
    (hvars : ∀ sp : Nat → Bool, (∀ p ∈ before, sp p.block = true) → DataW.TrodVars enc P W' sp s.vars (s.fn H (ds ++ gs)).vars pv)
    (hps : before = pa ++ pv) (hb : Below W.heap.size W W')
    (hok : ∀ (j : Nat) (t : TypeId) (r : Value), f.resultTypes[j]? = some t → (v.resultList f.resultTypes.size)[j]? = some r → Value.okWide P W' .any 0 t r) :
    s.post enc P f apart fresh handsOn again W args v W' := by
  have hlt : ∀ p ∈ before, p.block < W.heap.size := fun p hp => hW.lt p hp
  have hold : ∀ p ∈ before, (fun b => decide (b < W.heap.size)) p.block = true := fun p hp => by simpa using hlt p hp
  refine ⟨ds, gs, before, [], pa, pv, hW, hres _ _ _, hargs _ hold, hvars _ hold, World.keptBut_mono (fun p hp => ⟨hp, ?_⟩) (hb.frame (· ∈ before)), fun _ => ?_⟩
  · rw [hps, List.mem_append] at hp
    exact Or.inr hp
  · obtain ⟨_, _, _, _, _, hz, hn⟩ := hW
    refine ⟨hok, _, _, ([] ++ pa) ++ pv, ⟨[] ++ pa, pv, trodAll_append (hargs _ (fun _ _ => rfl)) (hres _ _ _), hvars _ (fun _ _ => rfl), rfl, ?_, ?_⟩, ?_⟩
    · intro b off hp
      have hin : MemPlace.cell b off ∈ before := by rw [hps]; simpa using hp
      rw [hb.frozen (hlt _ hin)]
      exact hz b off hin
    · intro ha
      have := hn ha
      rw [hps] at this
      simpa using this
    · intro p hp _
      rw [hps]
      simpa using hp
end

end Go.Proofs.YtmjnhpagoboejaaDoor

/- The frame of a law's row: what came in reads as it did. -/
namespace Go.Proofs.YtmjnhpagoboejaaDoor
open Go.ChangeShapes Go.WideShapes Go.ChangeAt Go.RowKit

theorem own : ownKnob Tryd.prog.godebug = none := by kernel_rfl

theorem trodAll_keep {H : Type} {enc : TypeId × Value → H} {P : Program} (hl : laidOutB P = true) {W W' : World} (hb : Below W.heap.size W W') {sp : Nat → Bool} :
    ∀ (ts : List TypeId) (vs : List Value) (ds : List (DataW H)) (ps : List MemPlace), DataW.TrodAll enc P W 0 (fun _ => true) true ts vs ds ps → (∀ t ∈ ts, P.readableRec t = true ∧ t < P.types.size) →
      (∀ x ∈ ps, x.block < W.heap.size) → (∀ x ∈ ps, sp x.block = true) → DataW.TrodAll enc P W' 0 sp true ts vs ds ps
  | [], vs, ds, ps, h, _, _, _ => by
    obtain ⟨rfl, rfl, rfl⟩ := trodAll_nil h
    exact trodAll_mk0
  | t :: ts, vs, ds, ps, h, ht, hlt, hsp => by
    obtain ⟨v, vs', d, ds', p, q, rfl, rfl, rfl, h0, h1⟩ := trodAll_cons h
    refine trodAll_cons_mk ?_ (trodAll_keep hl hb ts vs' ds' q h1 (fun t' h' => ht t' (List.mem_cons_of_mem _ h')) (fun x hx => hlt x (List.mem_append_right _ hx)) (fun x hx => hsp x (List.mem_append_right _ hx)))
    obtain ⟨hr, hrow⟩ := ht t List.mem_cons_self
    exact WideElems.Trod_stays hl hr hrow h0 (fun x hx => hb.same (hlt x (List.mem_append_left _ hx))) (fun x hx => hsp x (List.mem_append_left _ hx))

theorem laidOut : laidOutB Tryd.prog = true := by kernel_rfl

set_option maxRecDepth 100000 in
/-- the post of a law that has returned true and written nothing that was there -/
theorem law_post {H : Type} {enc : TypeId × Value → H} {f : Func} {s : ChangeSpec} {W W' : World} {args : Array Value} {ds gs : List (DataW H)} {before : List MemPlace} {bt : TypeId}
    (hW : DataW.Whole enc Tryd.prog f.params.toList s.vars false W args.toList ds gs before) (hb : Below W.heap.size W W') (hv : s.vars = []) (hrt : f.resultTypes = #[bt]) (hbt : Tryd.prog.underlying bt = some .bool)
    (hpar : ∀ t ∈ f.params.toList, Tryd.prog.readableRec t = true ∧ t < Tryd.prog.types.size)
    (hres : (s.fn H (ds ++ gs)).results = [.lit (.bool true)]) (hargs : (s.fn H (ds ++ gs)).args = ds) (hvs : (s.fn H (ds ++ gs)).vars = []) :
    s.post enc Tryd.prog f false true false false W args (.bool true) W' := by
  have hlt : ∀ p ∈ before, p.block < W.heap.size := fun p hp => hW.lt p hp
  have hW' := hW
  obtain ⟨p, q, hA, hV, rfl, hfz, hnd⟩ := hW
  have hq : q = [] := by
    rw [hv] at hV
    exact (trodVars_none hV).2
  subst hq
  refine post_of_below (pa := p) (pv := []) hW' (fun _ _ _ => ?_) (fun sp hsp => ?_) (fun sp hsp => ?_) rfl hb ?_
  · rw [hres, hrt]
    exact trodAll_cons_mk (shut_bool hbt _) trodAll_mk0
  · rw [hargs]
    exact trodAll_keep laidOut hb _ _ _ _ hA hpar (fun x hx => hlt x (List.mem_append_left _ hx)) (fun x hx => hsp x (List.mem_append_left _ hx))
  · rw [hv, hvs]
    rfl
  · exact ok_one hrt rfl (okWide_bool_mk hbt _)
end Go.Proofs.YtmjnhpagoboejaaDoor

/- Words: plain. -/
namespace Go.Proofs.YtmjnhpagoboejaaDoor.Wd
/-- a letter behind a stack (the last letter first) -/
def pushr (s : List Int) (k : Int) : List Int := match s with | x :: r => if x = -k then r else k :: x :: r | [] => [k]
/-- letters behind a stack -/
def act (s w : List Int) : List Int := w.foldl pushr s
/-- no letter beside its inverse, none is nought (a stack or a word) -/
def Red : List Int → Prop
  | [] => True
  | [k] => k ≠ 0
  | k :: x :: r => k ≠ 0 ∧ x ≠ -k ∧ Red (x :: r)
/-- the word that `on` makes -/
def onl (out w : List Int) : List Int := (act out.reverse w).reverse
/-- the short form -/
def short (w : List Int) : List Int := onl [] w
def inv (w : List Int) : List Int := (w.map (fun k => -k)).reverse

theorem act_nil (s : List Int) : act s [] = s := rfl
theorem act_cons (s : List Int) (k : Int) (w : List Int) : act s (k :: w) = act (pushr s k) w := rfl
theorem act_app (s u v : List Int) : act s (u ++ v) = act (act s u) v := by unfold act; rw [List.foldl_append]
theorem red_tail {k : Int} {r : List Int} (h : Red (k :: r)) : Red r := by
  cases r with
  | nil => trivial
  | cons x r => exact h.2.2
theorem red_head {k : Int} {r : List Int} (h : Red (k :: r)) : k ≠ 0 := by
  cases r with
  | nil => exact h
  | cons x r => exact h.1
theorem red_push {s : List Int} {k : Int} (h : Red s) (hk : k ≠ 0) : Red (pushr s k) := by
  cases s with
  | nil => exact hk
  | cons x r =>
    unfold pushr
    by_cases hx : x = -k
    · simp only [hx, if_true]; exact red_tail h
    · simp only [hx, if_false]; exact ⟨hk, hx, h⟩
theorem push_back {s : List Int} {k : Int} (h : Red s) (_hk : k ≠ 0) : pushr (pushr s k) (-k) = s := by
  cases s with
  | nil => show (if k = - -k then [] else _) = _; rw [if_pos (by omega)]
  | cons x r =>
    unfold pushr
    by_cases hx : x = -k
    · simp only [hx, if_true]
      cases r with
      | nil => rfl
      | cons y r =>
        have h2 : y ≠ -x := h.2.1
        show (if y = - -k then r else -k :: y :: r) = -k :: y :: r
        rw [if_neg (by omega)]
    · simp only [hx, if_false]
      show (if k = - -k then x :: r else _) = _
      rw [if_pos (by omega)]
theorem push_back' {s : List Int} {k : Int} (h : Red s) (hk : k ≠ 0) : pushr (pushr s (-k)) k = s := by
  have := push_back (k := -k) h (by omega)
  rwa [Int.neg_neg] at this
def Nz (w : List Int) : Prop := ∀ k ∈ w, k ≠ 0
theorem red_act : ∀ {w s : List Int}, Red s → Nz w → Red (act s w)
  | [], _, h, _ => h
  | k :: w, s, h, hw => by rw [act_cons]; exact red_act (red_push h (hw k (by simp))) (fun x hx => hw x (by simp [hx]))
theorem red_nz : ∀ {s : List Int}, Red s → Nz s
  | [], _, _, hk => by cases hk
  | k :: r, h, x, hx => by
    rcases List.mem_cons.1 hx with rfl | hx
    · exact red_head h
    · exact red_nz (red_tail h) x hx
/-- a reduced stack, laid letter by letter, is itself -/
theorem act_rev : ∀ (w s : List Int), Red (w.reverse ++ s) → act s w = w.reverse ++ s
  | [], s, _ => by simp [act_nil]
  | k :: w, s, h => by
    rw [act_cons]
    have h1 : w.reverse ++ (k :: s) = (k :: w).reverse ++ s := by simp
    have hred : Red (k :: s) := by
      rw [← h1] at h
      have : ∀ (a b : List Int), Red (a ++ b) → Red b := by
        intro a
        induction a with
        | nil => exact fun b h => h
        | cons x a ih => exact fun b h => ih b (red_tail h)
      exact this _ _ h
    have hp : pushr s k = k :: s := by
      cases s with
      | nil => rfl
      | cons x r => unfold pushr; simp only [hred.2.1, if_false]
    rw [hp, act_rev w (k :: s) (by rw [h1]; exact h), h1]
/-- letters behind a stack: the short form does the same -/
theorem act_short : ∀ (w o s : List Int), Red s → Red o → Nz w → act s (act o w).reverse = act (act s o.reverse) w
  | [], o, s, _, _, _ => rfl
  | k :: w, o, s, hs, ho, hw => by
    have hk := hw k (by simp)
    rw [act_cons, act_short w (pushr o k) s hs (red_push ho hk) (fun x hx => hw x (by simp [hx])), act_cons]
    congr 1
    have hso : Red (act s o.reverse) := red_act hs (fun x hx => red_nz ho x (by simpa using hx))
    cases o with
    | nil => rfl
    | cons x r =>
      unfold pushr
      by_cases hx : x = -k
      · simp only [hx, if_true]
        rw [List.reverse_cons, act_app]
        have hr : Red (act s r.reverse) := red_act hs (fun y hy => red_nz (red_tail ho) y (by simpa using hy))
        show act s r.reverse = pushr (pushr (act s r.reverse) (-k)) k
        rw [push_back' hr hk]
      · simp only [hx, if_false]
        rw [List.reverse_cons, act_app]
        rfl
theorem onl_short {o w : List Int} (ho : Red o.reverse) (hw : Nz w) : onl o (short w) = onl o w := by
  unfold short onl
  have := act_short w [] o.reverse ho trivial hw
  rw [List.reverse_nil] at this
  rw [List.reverse_nil, this]
  rfl
theorem onl_app (o u v : List Int) : onl o (u ++ v) = onl (onl o u) v := by
  unfold onl
  rw [act_app, List.reverse_reverse]
theorem short_app (u v : List Int) : short (u ++ v) = onl (short u) v := by
  unfold short
  rw [onl_app]
theorem red_short {w : List Int} (hw : Nz w) : Red (short w).reverse := by
  unfold short onl
  rw [List.reverse_reverse]
  exact red_act (s := []) trivial hw
theorem nz_short {w : List Int} (hw : Nz w) : Nz (short w) := fun k hk => red_nz (red_short hw) k (by simpa using hk)
theorem short_short {w : List Int} (hw : Nz w) : short (short w) = short w := onl_short (o := []) trivial hw
theorem short_left {u v : List Int} (hu : Nz u) : short (short u ++ v) = short (u ++ v) := by rw [short_app, short_app, short_short hu]
theorem short_right {u v : List Int} (hu : Nz u) (hv : Nz v) : short (u ++ short v) = short (u ++ v) := by rw [short_app, short_app, onl_short (red_short hu) hv]
theorem short_red {w : List Int} (h : Red w.reverse) : short w = w := by
  unfold short onl
  rw [List.reverse_nil, act_rev w [] (by rw [List.append_nil]; exact h), List.append_nil, List.reverse_reverse]
theorem inv_app (u v : List Int) : inv (u ++ v) = inv v ++ inv u := by unfold inv; rw [List.map_append, List.reverse_append]
theorem inv_inv (u : List Int) : inv (inv u) = u := by
  unfold inv
  rw [← List.map_reverse, List.reverse_reverse, List.map_map]
  have : ((fun k : Int => -k) ∘ fun k => -k) = id := by funext x; simp
  rw [this, List.map_id]
theorem inv_len (u : List Int) : (inv u).length = u.length := by unfold inv; simp
theorem nz_inv {u : List Int} (h : Nz u) : Nz (inv u) := fun k hk => by
  unfold inv at hk
  simp only [List.mem_reverse, List.mem_map] at hk
  obtain ⟨x, hx, rfl⟩ := hk
  have := h x hx
  omega
theorem act_inv : ∀ (w s : List Int), Red s → Nz w → act (act s w) (inv w) = s
  | [], s, _, _ => rfl
  | k :: w, s, hs, hw => by
    have hk := hw k (by simp)
    have e : inv (k :: w) = inv w ++ [-k] := by unfold inv; simp
    rw [e, act_app, act_cons s, act_inv w (pushr s k) (red_push hs hk) (fun x hx => hw x (by simp [hx]))]
    show pushr (pushr s k) (-k) = s
    exact push_back hs hk
theorem short_inv {w : List Int} (hw : Nz w) : short (w ++ inv w) = [] := by
  unfold short onl
  rw [act_app, List.reverse_nil, act_inv w [] trivial hw]
  rfl
theorem onl_nil (o : List Int) : onl o [] = o := by unfold onl; rw [act_nil, List.reverse_reverse]
theorem onl_step {o l : List Int} {i : Nat} (h : i < l.length) : onl o (l.take (i + 1)) = onl (onl o (l.take i)) [l[i]] := by
  rw [List.take_succ_eq_append_getElem h, onl_app]
theorem onl_none (k : Int) : onl [] [k] = [k] := rfl
theorem onl_off {o : List Int} {x k : Int} (h : x = -k) : onl (o ++ [x]) [k] = o := by
  unfold onl
  rw [List.reverse_append]
  show (if x = -k then o.reverse else k :: x :: o.reverse).reverse = o
  rw [if_pos h, List.reverse_reverse]
theorem onl_on {o : List Int} {x k : Int} (h : x ≠ -k) : onl (o ++ [x]) [k] = o ++ [x] ++ [k] := by
  unfold onl
  rw [List.reverse_append]
  show (if x = -k then o.reverse else k :: x :: o.reverse).reverse = _
  rw [if_neg h, List.reverse_cons, List.reverse_cons, List.reverse_reverse]
theorem onl_len_le : ∀ (l o : List Int), (onl o l).length ≤ o.length + l.length := by
  intro l
  have h : ∀ (l s : List Int), (act s l).length ≤ s.length + l.length := by
    intro l
    induction l with
    | nil => intro s; simp [act_nil]
    | cons k l ih =>
      intro s
      rw [act_cons]
      have h1 := ih (pushr s k)
      have h2 : (pushr s k).length ≤ s.length + 1 := by
        unfold pushr
        cases s with
        | nil => simp
        | cons x r => dsimp only; split <;> simp; omega
      simp only [List.length_cons]
      omega
  intro o
  unfold onl
  rw [List.length_reverse]
  have := h l o.reverse
  rwa [List.length_reverse] at this
theorem last_split {l : List Int} (h : 0 < l.length) : l = l.take (l.length - 1) ++ [l[l.length - 1]] := by
  have := List.take_succ_eq_append_getElem (l := l) (i := l.length - 1) (by omega)
  rw [← this, show l.length - 1 + 1 = l.length by omega, List.take_length]
end Go.Proofs.YtmjnhpagoboejaaDoor.Wd

/- Rows of ints: read, and of one's own. -/
namespace Go.Proofs.YtmjnhpagoboejaaDoor
open Go.RowKit
set_option linter.unusedVariables false

def iv (x : Int) : Value := .int .i64 x
theorem iv_one (l : List Int) : ∀ u ∈ l.map iv, u.oneCell' = true := by
  intro u hu
  obtain ⟨b, _, rfl⟩ := List.mem_map.1 hu
  rfl
theorem infoI : (Tryd.prog.info? 3).map (fun i => (i.zero, i.size, i.bytes)) = some (some (.int .i64 0), 1, 8) := by kernel_rfl
/-- ints that are read -/
def ReadsI (w : World) (B : Nat) (A : Option Addr) (l : List Int) : Prop := Reads w B 1 A l.length (l.map iv)
section
variable {w w' : World} {B B' n c : Nat} {A : Option Addr} {l m : List Int} {v : Value}
theorem ReadsI.at_ (h : ReadsI w B A l) {k : Nat} (hk : k < l.length) : ∃ ad, A = some ad ∧ ad.block < B ∧ w.cell? (ad.add k) = some (.int .i64 l[k]) := by
  obtain ⟨ad, u, e, hb, hu, hc⟩ := Reads.at_ h hk
  refine ⟨ad, e, hb, ?_⟩
  rw [hc]
  rw [List.getElem?_map, List.getElem?_eq_getElem hk] at hu
  exact hu.symm
theorem ReadsI.more (h : ReadsI w B A l) (hB : B ≤ B') : ReadsI w B' A l := Reads.more h hB
theorem ReadsI.below (h : ReadsI w B A l) (hb : Below B w w') : ReadsI w' B A l := Reads.below h hb
theorem ReadsI.grown (h : ReadsI w B A l) {row : Option Nat} (hg : w.grownBy w' row) (hB : B ≤ w.heap.size) (hr : ∀ g, row = some g → B ≤ g) : ReadsI w' B A l := Reads.grown h hg hB hr
theorem ReadsI.alloc (h : ReadsI w B A l) (hB : B ≤ w.heap.size) (o : Obj) : ReadsI (w.alloc o) B A l := Reads.alloc h hB o
theorem ReadsI.drewN (h : ReadsI w B A l) (k : Nat) : ReadsI (w.drewN k) B A l := h
theorem ReadsI.none_ (w : World) (B : Nat) (A : Option Addr) : ReadsI w B A [] := Reads.none_
theorem ReadsI.take (h : ReadsI w B A (l ++ m)) : ReadsI w B A l := by
  refine ⟨by simp, fun hn => ?_⟩
  obtain ⟨ad, e, hb, hc⟩ := h.2 (by rw [List.length_append]; omega)
  refine ⟨ad, e, hb, fun j u hu => hc j u ?_⟩
  rw [List.map_append, List.getElem?_append_left (List.getElem?_eq_some_iff.1 hu).1]
  exact hu
/-- ints in a row of one's own -/
def OwnI (w : World) (B : Nat) (v : Value) (l : List Int) : Prop := w.ownsRow B 3 1 v l.length (l.map iv)
theorem OwnI.form (h : OwnI w B v l) : ∃ A c, v = .slice A l.length c ∧ l.length ≤ c ∧ c ≤ maxLen := by
  rcases h.2 with ⟨rfl, h0⟩ | ⟨g, cap, cur, rfl, _, _, hc, hm, _⟩
  · exact ⟨none, 0, by rw [h0], by omega, by unfold maxLen; omega⟩
  · exact ⟨_, cap, rfl, hc, hm⟩
theorem OwnI.len (h : OwnI w B (.slice A n c) l) : n = l.length ∧ n ≤ c ∧ c ≤ maxLen := by
  obtain ⟨A', c', e, h1, h2⟩ := h.form
  injection e with _ e2 e3
  omega
theorem OwnI.reads (h : OwnI w B (.slice A n c) l) : ReadsI w w.heap.size A l := by
  obtain rfl := h.len.1
  exact Reads.of_own h
theorem OwnI.alloc (h : OwnI w B v l) (o : Obj) : OwnI (w.alloc o) B v l := World.ownsRow.alloc h o
theorem OwnI.drewN (h : OwnI w B v l) (k : Nat) : OwnI (w.drewN k) B v l := h
theorem OwnI.nil (w : World) (B : Nat) : OwnI w B (.slice none 0 0) [] := World.ownsRow_nil w B _ 1
theorem OwnI.lt (h : OwnI w B v l) : ∀ g, v.ownBlock = some g → B ≤ g ∧ g < w.heap.size := fun g hg => World.ownsRow.lt h g hg
theorem OwnI.kept (h : OwnI w B v l) (hb : Below w.heap.size w w') : OwnI w' B v l := by
  refine ⟨h.1, ?_⟩
  rcases h.2 with h' | ⟨g, cap, cur, hv, hg, hh, r⟩
  · exact .inl h'
  · exact .inr ⟨g, cap, cur, hv, hg, (hb.block g (Array.getElem?_eq_some_iff.1 hh).1).trans hh, r⟩
theorem OwnI.lower (h : OwnI w B v l) (hB : B' ≤ B) : OwnI w B' v l := by
  refine ⟨h.1, ?_⟩
  rcases h.2 with h' | ⟨g, cap, cur, hv, hg, r⟩
  · exact .inl h'
  · exact .inr ⟨g, cap, cur, hv, by omega, r⟩
/-- what grows elsewhere -/
theorem OwnI.grown (h : OwnI w B v l) {row : Option Nat} (hg : w.grownBy w' row) (hr : ∀ g, v.ownBlock = some g → row ≠ some g) : OwnI w' B v l := by
  refine ⟨h.1, ?_⟩
  rcases h.2 with h' | ⟨g, cap, cur, hv, hb, hh, r⟩
  · exact .inl h'
  · refine .inr ⟨g, cap, cur, hv, hb, (hg.block g (Array.getElem?_eq_some_iff.1 hh).1 ?_).trans hh, r⟩
    intro e
    exact hr g (by rw [hv]; rfl) e.symm
/-- its first ones -/
theorem OwnI.first (h : OwnI w B (.slice A n c) (l ++ m)) : OwnI w B (.slice A l.length c) l := by
  obtain ⟨h1, h2⟩ := h
  refine ⟨by simp, ?_⟩
  rcases h2 with ⟨hv, h0⟩ | ⟨g, cap, cur, hv, hg, hh, hc, hm, hs, ht⟩
  · rw [List.length_append] at h0
    injection hv with e1 e2 e3
    have : l = [] := List.eq_nil_of_length_eq_zero (by omega)
    subst this
    exact .inl ⟨by rw [e1, e3]; rfl, rfl⟩
  · injection hv with e1 e2 e3
    subst e1 e3
    refine .inr ⟨g, c, cur, rfl, hg, hh, ?_, hm, hs, ?_⟩
    · rw [List.length_append] at hc; omega
    · rw [List.length_append, Nat.mul_one] at ht
      rw [Nat.mul_one]
      have := congrArg (List.take l.length) ht
      rw [List.take_take, Nat.min_eq_left (by omega), List.map_append, List.take_append_of_le_length (by simp), List.take_of_length_le (l := l.map iv) (by simp)] at this
      exact this
/-- make with a capacity -/
theorem OwnI.made (w : World) {n c : Nat} (hnc : n ≤ c) (hc : c ≤ maxLen) : OwnI (w.alloc (.cells ((List.replicate c (0 : Int)).map iv).toArray 3)) w.heap.size (.slice (some ⟨w.heap.size, 0, none⟩) n c) (List.replicate n 0) := by
  refine ⟨by simp, .inr ⟨_, c, _, by simp, Nat.le_refl _, heap_alloc_new w _, by simpa using hnc, hc, by simp, ?_⟩⟩
  simp
  omega
end
theorem madeI (n : Nat) : madeCells (Value.cells (.int .i64 0)) (n * 1) = ((List.replicate n (0 : Int)).map iv).toArray := by
  rw [List.map_replicate, Nat.mul_one]
  have h : (madeCells (Value.cells (.int .i64 0)) n).toList = List.replicate n (iv 0) := by
    unfold madeCells
    rw [Array.toList_map, Array.toList_range]
    refine List.eq_replicate_iff.2 ⟨by simp, fun b hb => ?_⟩
    simp only [List.mem_map] at hb
    obtain ⟨i, _, rfl⟩ := hb
    have e : i % (Value.int .i64 0).cells.size = 0 := Nat.mod_one i
    rw [e]
    rfl
  rw [← h]
theorem run_makeI (n c : Nat) (hnc : n ≤ c) (hc : c ≤ 17592186044416) (w : World) :
    (Instr.makeSlice 22 (.int .i64 (n : Int)) (.int .i64 (c : Int))).run Tryd.prog w = .ok (.slice (some ⟨w.heap.size, 0, none⟩) n c) (w.alloc (.cells ((List.replicate c (0 : Int)).map iv).toArray 3)) := by
  obtain ⟨i0, hi, hz0, hz1, hz2⟩ := info_parts infoI
  have h := run_make_rowN (P := Tryd.prog) 22 3 i0 (.int .i64 0) Tryd.underlying22 hi hz0 .i64 .i64 n c hnc (by rw [hz2]; omega) (by omega) w
  rw [hz1, madeI] at h
  exact h
/-- append(row, l...) -/
theorem wpI_append {w : World} {ops : Array Oper} {rest : List Oper} {o : Oper} {a : Act} {Q : Exit → Act → World → Prop} (hgd : o.guard = none) (s x : Operand)
    (ho : o.op = .call { callee := .builtin .append, args := #[s, x], argTypes := #[22, 22] }) (B : Nat) (v : Value) (l m : List Int) (hown : OwnI w B v l) (hs : a.eval s = v)
    {B' : Nat} {A : Option Addr} {k c : Nat} (hx : a.eval x = .slice A k c) (hk : k = m.length) (hr : ReadsI w B' A m) (hlen : l.length ≤ 1000000000) (hlm : m.length ≤ 1000000000) (hbase : B ≤ w.heap.size)
    (h : ∀ A' n' c' w', OwnI w' B (.slice A' n' c') (l ++ m) → n' = l.length + m.length → n' ≤ c' → w.grownBy w' v.ownBlock → ((Value.slice A' n' c').ownBlock = v.ownBlock ∨ (Value.slice A' n' c').ownBlock = some w.heap.size) → (∀ w0, Below B w0 w → Below B w0 w') → wpList Tryd.prog ops Q rest (a.put o.dst (.slice A' n' c')) w') :
    wpList Tryd.prog ops Q (o :: rest) a w := by
  obtain ⟨i0, hi, hz0, hz1, hz2⟩ := info_parts infoI
  subst hk
  refine wpList_append_any _ hgd s x 22 ho B 3 i0 (.int .i64 0) 1 8 Tryd.underlying22 hi hz0 hz1 hz2 rfl (by decide) v l.length (l.map iv) hs hown _ _ m.length c (m.map iv) hx hr (iv_one _) (by unfold maxLen; omega) (by omega) hbase ?_
  intro v' w' h1 h2 h3
  have h4 : OwnI w' B v' (l ++ m) := by
    unfold OwnI
    rw [List.length_append, List.map_append]
    exact h1
  obtain ⟨A', c', rfl, hc', _⟩ := h4.form
  exact h A' _ c' w' h4 (List.length_append ..) hc' h2 h3 (fun w0 hb => hb.grown h2 hbase (fun k hk => (World.ownsRow.lt hown k hk).1))
/-- one int in a block of its own -/
theorem reads_single (w : World) (x : Int) : ReadsI (w.alloc (.cells #[.int .i64 x] 3)) (w.heap.size + 1) (some ⟨w.heap.size, 0, none⟩) [x] := by
  refine ⟨rfl, fun _ => ⟨_, rfl, Nat.lt_succ_self _, fun j u hu => ?_⟩⟩
  have hb := Blk.new w 3 #[.int .i64 x]
  match j, hu with
  | 0, hu => rw [Addr.add_zero', hb.cell 0]; exact hu
  | j + 1, hu => simp at hu
end Go.Proofs.YtmjnhpagoboejaaDoor

/- words: letter, check$1, slices.IndexFunc, ContainsFunc, check. -/
namespace Go.Proofs.YtmjnhpagoboejaaDoor
open Go.RowKit
open Wd
set_option linter.unusedSimpArgs false
set_option linter.unusedVariables false

/-- a letter -/
def isLet (k : Int) : Bool := decide (k ≠ 0 ∧ -64 ≤ k ∧ k ≤ 64)
set_option maxRecDepth 100000 in
theorem letter_any {w : World} {k : Int} (h1 : -9223372036854775808 ≤ k) (h2 : k ≤ 9223372036854775807) :
    Calls Tryd.prog 89 #[.int .i64 k] w (fun e w' => e = .returned (.bool (isLet k)) ∧ w = w') := by
  have Hl := Lib.hid (show isLet k = decide (k ≠ 0 ∧ -64 ≤ k ∧ k ≤ 64) from rfl)
  generalize isLet k = b at *
  by_cases a1 : k = 0
  · subst a1
    go_enter Tryd.func89, Tryd.ntmps89
    go_wp2
    go_ret
    exact ⟨by rw [Hl.out]; rfl, rfl⟩
  · have d1 : (k == 0) = false := by simp; exact a1
    have D2 := Lib.hid (show (k != 0) = true by simp; exact a1)
    by_cases a2 : -64 ≤ k
    · by_cases a3 : k ≤ 64
      · have hb : b = true := by rw [Hl.out]; exact decide_eq_true ⟨a1, a2, a3⟩
        subst hb
        clear Hl
        go_enter Tryd.func89, Tryd.ntmps89
        go_wp2
        go_ret
        exact ⟨by show Ending.returned (Value.bool (k != 0)) = _; rw [D2.out], rfl⟩
      · have hb : b = false := by rw [Hl.out]; exact decide_eq_false (fun h => a3 h.2.2)
        subst hb
        clear Hl
        go_enter Tryd.func89, Tryd.ntmps89
        go_wp2
        go_ret
        exact ⟨rfl, rfl⟩
    · have hb : b = false := by rw [Hl.out]; exact decide_eq_false (fun h => a2 h.2.1)
      subst hb
      clear Hl
      go_enter Tryd.func89, Tryd.ntmps89
      go_wp2
      go_ret
      exact ⟨rfl, rfl⟩
set_option maxRecDepth 100000 in
theorem bad_letter {w : World} {k : Int} (h1 : -9223372036854775808 ≤ k) (h2 : k ≤ 9223372036854775807) :
    Calls Tryd.prog 88 #[.int .i64 k] w (fun e w' => e = .returned (.bool (!isLet k)) ∧ w = w') := by
  have HL := Lib.hid (letter_any (w := w) h1 h2)
  generalize isLet k = b at *
  go_enter Tryd.func88, Tryd.ntmps88
  go_wp2_with fail
  refine HL.out.mono ?_
  rintro e w' ⟨rfl, rfl⟩
  go_wp2_with fail
  go_ret
  exact ⟨rfl, rfl⟩
theorem find_step {l : List Int} {i : Nat} (h : i < l.length) (h0 : (l.take i).any (fun k => !isLet k) = false) (h1 : isLet l[i] = true) : (l.take (i + 1)).any (fun k => !isLet k) = false := by
  rw [List.take_succ_eq_append_getElem h, List.any_append, h0]
  simp [h1]
set_option maxRecDepth 100000 in
set_option maxHeartbeats 2000000 in
/-- where the first is that is no letter, or below nought -/
theorem find_bad {w : World} {B n c : Nat} {A : Option Addr} {l : List Int} (hr : ReadsI w B A l) (hn : n = l.length) (hnl : n ≤ 1000000000000) (hw : ∀ k ∈ l, -9223372036854775808 ≤ k ∧ k ≤ 9223372036854775807) :
    Calls Tryd.prog 96 #[.slice A n c, .func (.func 88) #[] #[]] w (fun e w' => (∃ z : Int, e = .returned (.int .i64 z) ∧ Hid (l.any (fun k => !isLet k) = decide (0 ≤ z))) ∧ w = w') := by
  have Hn := Lib.hid hn
  have Hw := Lib.hid hw
  clear hn hw
  go_enter Tryd.func96, Tryd.ntmps96
  go_wp2_with fail
  go_loopg [8] n (fun k iv wr => ∃ i : Nat, iv = .int .i64 (i : Int) ∧ k = n - i ∧ i ≤ n ∧ w = wr ∧ Hid ((l.take i).any (fun k => !isLet k) = false))
  case atStart => exact ⟨0, rfl, by omega, by omega, rfl, Lib.hid (by rw [List.take_zero]; rfl)⟩
  case round =>
    obtain ⟨i, rfl, hk, hi, rfl, ht⟩ := hrel
    have Hk := Lib.hid hk
    clear hk
    by_cases hin : i < n
    · have hil : i < l.length := by rw [← Hn.out]; exact hin
      obtain ⟨ad, rfl, hb1, c0⟩ := hr.at_ hil
      have hb := Hw.out l[i] (List.getElem_mem hil)
      have HB := Lib.hid (bad_letter (w := w) hb.1 hb.2)
      have Hst := Lib.hid (find_step hil ht.out)
      have Hhit := Lib.hid (fun h : isLet l[i] = false => show l.any (fun k => !isLet k) = true from List.any_eq_true.2 ⟨l[i], List.getElem_mem hil, by rw [h]; rfl⟩)
      have hii : (i : Int) < (n : Int) := by omega
      generalize l[i] = x at *
      obtain ⟨b, hbb⟩ : ∃ b, b = isLet x := ⟨_, rfl⟩
      rw [← hbb] at HB Hst Hhit
      clear hbb hb hb1 hil hr
      cases b
      · go_wp2_with fail
        refine HB.out.mono ?_
        rintro e w' ⟨rfl, rfl⟩
        go_wp2_with fail
        go_ret
        exact ⟨⟨_, rfl, Lib.hid (by rw [Hhit.out (by trivial)]; exact (decide_eq_true (Int.natCast_nonneg i)).symm)⟩, rfl⟩
      · go_wp2_with fail
        refine HB.out.mono ?_
        rintro e w' ⟨rfl, rfl⟩
        go_wp2_with fail
        go_roundg (n - (i + 1))
        case measure => have := Hk.out; omega
        case rel => exact ⟨i + 1, rfl, rfl, by omega, rfl, Lib.hid (Hst.out (by trivial))⟩
    · have hii : (n : Int) ≤ (i : Int) := by omega
      have hend : l.any (fun k => !isLet k) = false := by
        have h := ht.out
        rw [List.take_of_length_le (by have := Hn.out; omega)] at h
        exact h
      have Hend := Lib.hid hend
      clear hend hr
      go_wp2_with fail
      go_ret
      exact ⟨⟨_, rfl, Lib.hid (by rw [Hend.out]; rfl)⟩, rfl⟩
set_option maxRecDepth 100000 in
theorem has_bad {w : World} {B n c : Nat} {A : Option Addr} {l : List Int} (hr : ReadsI w B A l) (hn : n = l.length) (hnl : n ≤ 1000000000000) (hw : ∀ k ∈ l, -9223372036854775808 ≤ k ∧ k ≤ 9223372036854775807) :
    Calls Tryd.prog 87 #[.slice A n c, .func (.func 88) #[] #[]] w (fun e w' => e = .returned (.bool (l.any (fun k => !isLet k))) ∧ w = w') := by
  have HF := Lib.hid (find_bad (c := c) hr hn hnl hw)
  generalize l.any (fun k => !isLet k) = b at *
  clear hr hn hw
  go_enter Tryd.func87, Tryd.ntmps87
  go_wp2_with fail
  refine HF.out.mono ?_
  rintro e w' ⟨⟨z, rfl, hz⟩, rfl⟩
  go_wp2_with fail
  go_ret
  exact ⟨by rw [hz.out]; rfl, rfl⟩
end Go.Proofs.YtmjnhpagoboejaaDoor

/- words.check, Check. -/
namespace Go.Proofs.YtmjnhpagoboejaaDoor
open Go.RowKit
open Wd
set_option linter.unusedSimpArgs false
set_option linter.unusedVariables false

abbrev SRow := Option Addr × Nat × List Int
def sv (r : SRow) : Value := .slice r.1 r.2.2.length r.2.1
def Wf (l : List Int) : Prop := ∀ k ∈ l, -9223372036854775808 ≤ k ∧ k ≤ 9223372036854775807
/-- slices of ints that are read -/
def ReadsL (w : World) (B : Nat) (A : Option Addr) (rs : List SRow) : Prop := Reads w B 1 A rs.length (rs.map sv) ∧ ∀ r ∈ rs, ReadsI w B r.1 r.2.2
section
variable {w w' : World} {B B' n c : Nat} {A : Option Addr} {rs : List SRow}
theorem ReadsL.at_ (h : ReadsL w B A rs) {k : Nat} (hk : k < rs.length) : ∃ ad, A = some ad ∧ ad.block < B ∧ w.cell? (ad.add k) = some (.slice rs[k].1 rs[k].2.2.length rs[k].2.1) := by
  obtain ⟨ad, u, e, hb, hu, hc⟩ := Reads.at_ h.1 hk
  refine ⟨ad, e, hb, ?_⟩
  rw [hc]
  rw [List.getElem?_map, List.getElem?_eq_getElem hk] at hu
  exact hu.symm
theorem ReadsL.more (h : ReadsL w B A rs) (hB : B ≤ B') : ReadsL w B' A rs := ⟨Reads.more h.1 hB, fun r hr => (h.2 r hr).more hB⟩
theorem ReadsL.below (h : ReadsL w B A rs) (hb : Below B w w') : ReadsL w' B A rs := ⟨Reads.below h.1 hb, fun r hr => (h.2 r hr).below hb⟩
theorem ReadsL.alloc (h : ReadsL w B A rs) (hB : B ≤ w.heap.size) (o : Obj) : ReadsL (w.alloc o) B A rs := ⟨Reads.alloc h.1 hB o, fun r hr => (h.2 r hr).alloc hB o⟩
end
def isWord (l : List Int) : Bool := !(l.any (fun k => !isLet k))
def tooLong (l : List Int) : Bool := decide (4096 < l.length)
/-- what is wrong with words -/
def chk (ls : List (List Int)) : Int := if ls.all isWord then (if ls.any tooLong then 3 else 0) else 2
theorem all_step {ls : List SRow} {i : Nat} (h : i < ls.length) (h0 : (ls.take i).all (fun r => isWord r.2.2) = true) (h1 : isWord ls[i].2.2 = true) : (ls.take (i + 1)).all (fun r => isWord r.2.2) = true := by
  rw [List.take_succ_eq_append_getElem h, List.all_append, h0]
  simp [h1]
theorem any_step {ls : List SRow} {i : Nat} (h : i < ls.length) : (ls.take (i + 1)).any (fun r => tooLong r.2.2) = ((ls.take i).any (fun r => tooLong r.2.2) || tooLong ls[i].2.2) := by
  rw [List.take_succ_eq_append_getElem h, List.any_append]
  simp
theorem all_no {ls : List SRow} {i : Nat} (h : i < ls.length) (h1 : isWord ls[i].2.2 = false) : (ls.map (fun r => r.2.2)).all isWord = false := by
  rw [List.all_eq_false]
  exact ⟨_, List.mem_map.2 ⟨_, List.getElem_mem h, rfl⟩, by rw [h1]; decide⟩
set_option maxRecDepth 100000 in
set_option maxHeartbeats 2000000 in
theorem check_any {w : World} {B n c : Nat} {A : Option Addr} {rs : List SRow} (hr : ReadsL w B A rs) (hn : n = rs.length) (hnl : n ≤ 1000000000000) (hw : ∀ r ∈ rs, Wf r.2.2 ∧ r.2.2.length ≤ 1000000000000) :
    Calls Tryd.prog 57 #[.slice A n c] w (fun e w' => e = .returned (.int .i64 (chk (rs.map (fun r => r.2.2)))) ∧ w = w') := by
  have Hn := Lib.hid hn
  have Hw := Lib.hid hw
  have Hc := Lib.hid (show chk (rs.map (fun r => r.2.2)) = if (rs.map (fun r => r.2.2)).all isWord then (if (rs.map (fun r => r.2.2)).any tooLong then 3 else 0) else 2 from rfl)
  generalize chk (rs.map (fun r => r.2.2)) = z at *
  clear hn hw
  go_enter Tryd.func57, Tryd.ntmps57
  go_wp2_with fail
  go_loopg [3, 8] n (fun k ev iv wr => ∃ (i : Nat) (x : Int), ev = .int .i64 x ∧ iv = .int .i64 (i : Int) ∧ k = n - i ∧ i ≤ n ∧ w = wr ∧ Hid ((rs.take i).all (fun r => isWord r.2.2) = true) ∧ Hid (x = if (rs.take i).any (fun r => tooLong r.2.2) then 3 else 0))
  case atStart => exact ⟨0, 0, rfl, rfl, by omega, by omega, rfl, Lib.hid (by rw [List.take_zero]; rfl), Lib.hid (by rw [List.take_zero]; rfl)⟩
  case round =>
    obtain ⟨i, x, rfl, rfl, hk, hi, rfl, ht, hx⟩ := hrel
    have Hk := Lib.hid hk
    clear hk
    by_cases hin : i < n
    · have hil : i < rs.length := by rw [← Hn.out]; exact hin
      obtain ⟨ad, rfl, hb1, c0⟩ := hr.at_ hil
      have hmem := List.getElem_mem hil
      have hlen := (Hw.out rs[i] hmem).2
      have HB := Lib.hid (has_bad (c := rs[i].2.1) (hr.2 rs[i] hmem) rfl hlen (Hw.out rs[i] hmem).1)
      have Hst := Lib.hid (all_step hil ht.out)
      have Han := Lib.hid (any_step hil)
      have Hno := Lib.hid (all_no hil)
      obtain ⟨b, hbb⟩ : ∃ b, b = isWord rs[i].2.2 := ⟨_, rfl⟩
      have hb2 : rs[i].2.2.any (fun k => !isLet k) = !b := by rw [hbb]; unfold isWord; rw [Bool.not_not]
      rw [hb2] at HB
      rw [← hbb] at Hst Hno
      obtain ⟨t, htl⟩ : ∃ t, t = tooLong rs[i].2.2 := ⟨_, rfl⟩
      rw [← htl] at Han
      have Htl := Lib.hid (show t = decide (4096 < rs[i].2.2.length) from htl)
      have hii : (i : Int) < (n : Int) := by omega
      clear hbb hb2 htl hmem hb1 hr
      generalize rs[i].2.2.length = m at *
      generalize rs[i].1 = a1 at *
      generalize rs[i].2.1 = c1 at *
      clear hil
      cases b
      · go_wp2_with fail
        refine HB.out.mono ?_
        rintro e w' ⟨rfl, rfl⟩
        go_wp2_with fail
        go_ret
        exact ⟨by rw [Hc.out, Hno.out (by trivial)]; rfl, rfl⟩
      · go_wp2_with fail
        refine HB.out.mono ?_
        rintro e w' ⟨rfl, rfl⟩
        by_cases hm : 4096 < m
        · have hm1 : (4096 : Int) < (m : Int) := by omega
          have Hm := Lib.hid (show t = true by rw [Htl.out]; exact decide_eq_true hm)
          clear hm Htl
          go_wp2_with fail
          go_roundg (n - (i + 1))
          case measure => have := Hk.out; omega
          case rel => exact ⟨i + 1, 3, rfl, rfl, rfl, by omega, rfl, Lib.hid (Hst.out (by trivial)), Lib.hid (by rw [Han.out, Hm.out, Bool.or_true]; rfl)⟩
        · have hm1 : (m : Int) ≤ 4096 := by omega
          have Hm := Lib.hid (show t = false by rw [Htl.out]; exact decide_eq_false hm)
          clear hm Htl
          go_wp2_with fail
          go_roundg (n - (i + 1))
          case measure => have := Hk.out; omega
          case rel => exact ⟨i + 1, x, rfl, rfl, rfl, by omega, rfl, Lib.hid (Hst.out (by trivial)), Lib.hid (by rw [Han.out, Hm.out, Bool.or_false]; exact hx.out)⟩
    · have hii : (n : Int) ≤ (i : Int) := by omega
      have hend : z = x := by
        have h1 := ht.out
        have h2 := hx.out
        rw [List.take_of_length_le (by have := Hn.out; omega)] at h1 h2
        have h3 : (rs.map (fun r => r.2.2)).all isWord = true := by rw [List.all_map]; exact h1
        have h4 : (rs.map (fun r => r.2.2)).any tooLong = rs.any (fun r => tooLong r.2.2) := by rw [List.any_map]; rfl
        rw [Hc.out, h3, h4, h2]
        rfl
      subst hend
      clear hr
      go_wp2_with fail
      go_ret
      exact ⟨rfl, rfl⟩
end Go.Proofs.YtmjnhpagoboejaaDoor

/- words.on. -/
namespace Go.Proofs.YtmjnhpagoboejaaDoor
open Go.RowKit
open Wd
set_option linter.unusedSimpArgs false
set_option linter.unusedVariables false

/-- a row that came of another one -/
def Came (w : World) (o : Option Nat) (v : Value) : Prop := ∀ g, v.ownBlock = some g → some g = o ∨ w.heap.size ≤ g
theorem grown_on {w wr w' : World} {o : Option Nat} {v : Value} (h : w.grownBy wr o) (h' : wr.grownBy w' v.ownBlock) (hc : Came w o v) : w.grownBy w' o :=
  h.andThen h' fun j hj => (hc j hj).elim (fun e => .inr e.symm) .inl
theorem came_on {w wr : World} {o : Option Nat} {v v' : Value} (hs : w.heap.size ≤ wr.heap.size) (hc : Came w o v) (h : v'.ownBlock = v.ownBlock ∨ v'.ownBlock = some wr.heap.size ∨ v'.ownBlock = some (wr.heap.size + 1)) : Came w o v' := fun g hg => by
  rcases h with h | h | h
  · exact hc g (by rw [← h]; exact hg)
  · rw [h] at hg; injection hg with hg; right; omega
  · rw [h] at hg; injection hg with hg; right; omega
def LetL (l : List Int) : Prop := ∀ k ∈ l, k ≠ 0 ∧ -64 ≤ k ∧ k ≤ 64
theorem letl_nz {l : List Int} (h : LetL l) : Nz l := fun k hk => (h k hk).1
set_option maxRecDepth 100000 in
set_option maxHeartbeats 2000000 in
theorem on_gen {w : World} {B n c nw cw : Nat} {A Aw : Option Addr} {out l : List Int} (ho : OwnI w B (.slice A n c) out) (hr : ∀ wr, w.grownBy wr (Value.slice A n c).ownBlock → ReadsI wr wr.heap.size Aw l) (hB : B ≤ w.heap.size) (hnw : nw = l.length) (hl : LetL l) (hb1 : out.length ≤ 100000000) (hb2 : l.length ≤ 100000000) :
    Calls Tryd.prog 54 #[.slice A n c, .slice Aw nw cw] w (fun e w' => ∃ A' n' c', e = .returned (.slice A' n' c') ∧ OwnI w' B (.slice A' n' c') (onl out l) ∧ w.grownBy w' (Value.slice A n c).ownBlock ∧ Came w (Value.slice A n c).ownBlock (.slice A' n' c')) := by
  have Hn := Lib.hid hnw
  have Hl := Lib.hid hl
  have Hb := Lib.hid (And.intro hb1 hb2)
  have Hr := Lib.hid hr
  have hge := fun g hg => (ho.lt g hg).1
  have Hge := Lib.hid hge
  obtain ⟨oo, hoo⟩ : ∃ o, o = (Value.slice A n c).ownBlock := ⟨_, rfl⟩
  have H0 := Lib.hid (show OwnI w B (.slice A n c) out ∧ w.grownBy w oo ∧ Came w oo (.slice A n c) from ⟨ho, World.grownBy.refl w _, fun g hg => .inl (by rw [hoo]; exact hg.symm)⟩)
  rw [← hoo] at Hge Hr ⊢
  have hnl : nw ≤ 100000000 := by omega
  clear hnw hl hb1 hb2 hr hge ho hoo
  go_enter Tryd.func54, Tryd.ntmps54
  go_wp2_with fail
  go_loopg [0, 10] nw (fun k sv iv wr => ∃ (i : Nat) (A' : Option Addr) (n' c' : Nat) (L : List Int), sv = .slice A' n' c' ∧ iv = .int .i64 (i : Int) ∧ k = nw - i ∧ i ≤ nw ∧ Hid (L = onl out (l.take i)) ∧ Hid (OwnI wr B (.slice A' n' c') L ∧ w.grownBy wr oo ∧ Came w oo (.slice A' n' c')))
  case atStart => exact ⟨0, A, n, c, out, rfl, rfl, by omega, by omega, Lib.hid (by rw [List.take_zero, onl_nil]), H0⟩
  case round =>
    obtain ⟨i, A1, n1, c1, L, rfl, rfl, hk, hi, hL, hO⟩ := hrel
    have Hk := Lib.hid hk
    have hlen := hO.out.1.len
    obtain ⟨hn1, hn1c, hc1⟩ := hlen
    have hn1b : n1 ≤ 200000000 := by
      rw [hn1, hL.out]
      have h1 := onl_len_le (l.take i) out
      have h2 := Hb.out
      rw [List.length_take] at h1
      omega
    unfold maxLen at hc1
    have Hn1 := Lib.hid hn1
    clear hk hn1
    by_cases hin : i < nw
    · have hil : i < l.length := by rw [← Hn.out]; exact hin
      have hr1 := Hr.out wr hO.out.2.1
      obtain ⟨ad, rfl, hb1, c0⟩ := hr1.at_ hil
      have hlet := Hl.out l[i] (List.getElem_mem hil)
      have Hst := Lib.hid (onl_step (o := out) hil)
      have hii : (i : Int) < (nw : Int) := by omega
      generalize l[i] = k at *
      obtain ⟨hk0, hk1, hk2⟩ := hlet
      clear hb1 hil hr1
      rcases Nat.eq_zero_or_pos n1 with h0 | h0
      · have hLn : L = [] := List.eq_nil_of_length_eq_zero (by rw [← Hn1.out]; exact h0)
        have Hnew := Lib.hid (show onl out (l.take (i + 1)) = L ++ [k] by rw [Hst.out, ← hL.out, hLn]; rfl)
        subst h0
        clear hLn
        go_wp2_with (refine wpI_append rfl (.tmp 32) (.tmp 34) rfl B _ L [k] (hO.out.1.alloc _) rfl rfl rfl (reads_single _ k) (by have := Hn1.out; omega) (by simp) (by have := hO.out.2.1.size; simp; omega) ?_; intro A2 n2 c2 w2 ho2 hn2 hc2 hg2 hw2 hb2; have Ho2 := Lib.hid (And.intro ho2 (And.intro hg2 hw2)); clear ho2 hn2 hc2 hg2 hw2 hb2)
        have hsz := hO.out.2.1.size
        have hgr := grown_on hO.out.2.1 ((World.grownBy_alloc wr (.cells #[.int .i64 k] 3) _).trans Ho2.out.2.1) hO.out.2.2
        have hcm : Came w oo (.slice A2 n2 c2) := came_on hsz hO.out.2.2 (by rcases Ho2.out.2.2 with h | h; exact .inl h; exact .inr (.inr (by rw [h]; simp)))
        go_roundg (nw - (i + 1))
        case measure => have := Hk.out; omega
        case rel => exact ⟨i + 1, A2, n2, c2, L ++ [k], rfl, rfl, rfl, by omega, Lib.hid Hnew.out.symm, Lib.hid ⟨Ho2.out.1, hgr, hcm⟩⟩
      · have hLp : n1 - 1 < L.length := by have := Hn1.out; omega
        obtain ⟨bd, hbd, hb2, d0⟩ := (hO.out.1.reads).at_ hLp
        have hwx := L[n1 - 1]
        have hsp := last_split (l := L) (by have := Hn1.out; omega)
        have hidx : L.length - 1 = n1 - 1 := by have := Hn1.out; omega
        simp only [hidx] at hsp
        subst hbd
        obtain ⟨L0, hL0⟩ : ∃ L0, L0 = L.take (n1 - 1) := ⟨_, rfl⟩
        rw [← hL0] at hsp
        have hl0 : L0.length = n1 - 1 := by rw [hL0, List.length_take]; omega
        generalize L[n1 - 1] = x at *
        have hxe : (x = -k) ∨ (x ≠ -k) := Decidable.em _
        rcases hxe with hx | hx
        · have Hnew := Lib.hid (show onl out (l.take (i + 1)) = L0 by rw [Hst.out, ← hL.out, hsp]; exact onl_off hx)
          have Hown := Lib.hid (show OwnI wr B (.slice (some bd) (n1 - 1) c1) L0 by have h := hO.out.1; rw [hsp] at h; have h2 := h.first; rw [hl0] at h2; exact h2)
          have hxb : (x == -k) = true := by rw [hx]; simp
          have hcm : Came w oo (.slice (some bd) (n1 - 1) c1) := hO.out.2.2
          have Hcm := Lib.hid hcm
          clear hsp hL0 hl0 hLp hb2 hwx hidx hcm
          subst hx
          go_wp2_with fail
          go_roundg (nw - (i + 1))
          case measure => have := Hk.out; omega
          case rel => exact ⟨i + 1, some bd, n1 - 1, c1, L0, rfl, rfl, rfl, by omega, Lib.hid Hnew.out.symm, Lib.hid ⟨Hown.out, hO.out.2.1, Hcm.out⟩⟩
        · have Hnew := Lib.hid (show onl out (l.take (i + 1)) = L ++ [k] by rw [Hst.out, ← hL.out, hsp]; exact onl_on hx)
          have hxb : (x == -k) = false := by simp; exact hx
          clear hsp hL0 hl0 hLp hb2 hwx hidx
          go_wp2_with (refine wpI_append rfl (.tmp 32) (.tmp 34) rfl B _ L [k] (hO.out.1.alloc _) rfl rfl rfl (reads_single _ k) (by have := Hn1.out; omega) (by simp) (by have := hO.out.2.1.size; simp; omega) ?_; intro A2 n2 c2 w2 ho2 hn2 hc2 hg2 hw2 hb2; have Ho2 := Lib.hid (And.intro ho2 (And.intro hg2 hw2)); clear ho2 hn2 hc2 hg2 hw2 hb2)
          have hsz := hO.out.2.1.size
          have hgr := grown_on hO.out.2.1 ((World.grownBy_alloc wr (.cells #[.int .i64 k] 3) _).trans Ho2.out.2.1) hO.out.2.2
          have hcm : Came w oo (.slice A2 n2 c2) := came_on hsz hO.out.2.2 (by rcases Ho2.out.2.2 with h | h; exact .inl h; exact .inr (.inr (by rw [h]; simp)))
          go_roundg (nw - (i + 1))
          case measure => have := Hk.out; omega
          case rel => exact ⟨i + 1, A2, n2, c2, L ++ [k], rfl, rfl, rfl, by omega, Lib.hid Hnew.out.symm, Lib.hid ⟨Ho2.out.1, hgr, hcm⟩⟩
    · have hii : (nw : Int) ≤ (i : Int) := by omega
      have hfin : L = onl out l := by rw [hL.out, List.take_of_length_le]; have := Hn.out; omega
      have Hfin := Lib.hid hfin
      clear hfin
      go_wp2_with fail
      go_ret
      exact ⟨_, _, _, rfl, by rw [← Hfin.out]; exact hO.out.1, hO.out.2.1, hO.out.2.2⟩
theorem on_any {w : World} {B n c nw cw : Nat} {A Aw : Option Addr} {out l : List Int} (ho : OwnI w B (.slice A n c) out) (hr : ReadsI w B Aw l) (hB : B ≤ w.heap.size) (hnw : nw = l.length) (hl : LetL l) (hb1 : out.length ≤ 100000000) (hb2 : l.length ≤ 100000000) :
    Calls Tryd.prog 54 #[.slice A n c, .slice Aw nw cw] w (fun e w' => ∃ A' n' c', e = .returned (.slice A' n' c') ∧ OwnI w' B (.slice A' n' c') (onl out l) ∧ w.grownBy w' (Value.slice A n c).ownBlock ∧ Came w (Value.slice A n c).ownBlock (.slice A' n' c')) :=
  on_gen ho (fun wr hg => (hr.grown hg hB (fun g hg' => (ho.lt g hg').1)).more (Nat.le_trans hB hg.size)) hB hnw hl hb1 hb2
end Go.Proofs.YtmjnhpagoboejaaDoor

/- words.parted. -/
namespace Go.Proofs.YtmjnhpagoboejaaDoor
open Go.RowKit
open Wd
set_option linter.unusedSimpArgs false
set_option linter.unusedVariables false

/-- how many letters fall away at both ends -/
def cutN (l : List Int) : Nat → Nat → Nat
  | 0, i => i
  | f + 1, i => if 2 * i + 1 < l.length ∧ l.getD i 0 = - l.getD (l.length - 1 - i) 0 then cutN l f (i + 1) else i
def parts (l : List Int) : Nat := cutN l l.length 0
theorem cutN_le {l : List Int} : ∀ f i, 2 * i ≤ l.length → 2 * cutN l f i ≤ l.length
  | 0, i, h => by unfold cutN; exact h
  | f + 1, i, h => by
    unfold cutN
    by_cases hc : 2 * i + 1 < l.length ∧ l.getD i 0 = - l.getD (l.length - 1 - i) 0
    · rw [if_pos hc]; exact cutN_le f (i + 1) (by omega)
    · rw [if_neg hc]; exact h
theorem parts_le (l : List Int) : 2 * parts l ≤ l.length := cutN_le _ _ (by omega)
theorem cutN_go {l : List Int} {i : Nat} (hi : i < l.length) (h : 2 * i + 1 < l.length) (hx : l.getD i 0 = - l.getD (l.length - 1 - i) 0) : cutN l (l.length - i) i = cutN l (l.length - (i + 1)) (i + 1) := by
  rw [show l.length - i = (l.length - (i + 1)) + 1 by omega]
  rw [cutN, if_pos ⟨h, hx⟩]
theorem cutN_stop {l : List Int} {i : Nat} (h : ¬ (2 * i + 1 < l.length ∧ l.getD i 0 = - l.getD (l.length - 1 - i) 0)) : cutN l (l.length - i) i = i := by
  cases l.length - i with
  | zero => rfl
  | succ f => rw [cutN, if_neg h]
/-- the core and the conjugator of a reduced word -/
def core (l : List Int) : List Int := (l.drop (parts l)).take (l.length - 2 * parts l)
def conj (l : List Int) : List Int := l.drop (l.length - parts l)
theorem core_len (l : List Int) : (core l).length = l.length - 2 * parts l := by
  unfold core
  have := parts_le l
  rw [List.length_take, List.length_drop]; omega
theorem conj_len (l : List Int) : (conj l).length = parts l := by
  unfold conj
  have := parts_le l
  rw [List.length_drop]; omega
theorem reads_none {w : World} {B : Nat} {A : Option Addr} {l : List Int} (h : l.length = 0) : ReadsI w B A l := ⟨by simp, fun hn => by omega⟩
theorem reads_part {w : World} {B : Nat} {ad : Addr} {l : List Int} (h : ReadsI w B (some ad) l) (lo m : Nat) (hm : lo + m ≤ l.length) : ReadsI w B (some (ad.add lo)) ((l.drop lo).take m) := by
  have hl : ((l.drop lo).take m).length = m := by rw [List.length_take, List.length_drop]; omega
  refine ⟨by simp, fun hn => ?_⟩
  rw [hl] at hn
  obtain ⟨ad', e, hb, hc⟩ := h.2 (by omega)
  injection e with e
  subst e
  refine ⟨ad.add lo, rfl, by rw [show (ad.add lo).block = ad.block by unfold Addr.add; split <;> rfl]; exact hb, fun j u hu => ?_⟩
  rw [Addr.add_add]
  refine hc (lo + j) u ?_
  rw [List.map_take, List.map_drop] at hu
  have hj := (List.getElem?_eq_some_iff.1 hu).1
  rw [List.length_take] at hj
  rw [List.getElem?_take, if_pos (by omega), List.getElem?_drop] at hu
  exact hu
theorem reads_part' {w : World} {B : Nat} {ad : Addr} {l : List Int} (h : ReadsI w B (some ad) l) (k lo m : Nat) (hk : k = lo) (hm : lo + m ≤ l.length) : ReadsI w B (some (ad.add k)) ((l.drop lo).take m) := by
  subst hk; exact reads_part h _ _ hm
theorem reads_sub_none {w : World} {B : Nat} {l : List Int} (h : ReadsI w B none l) (lo m : Nat) : ReadsI w B none ((l.drop lo).take m) := by
  refine reads_none ?_
  rcases Nat.eq_zero_or_pos l.length with h0 | h0
  · rw [List.length_take, List.length_drop]; omega
  · obtain ⟨ad, e, _⟩ := h.2 (by omega)
    cases e
theorem reads_all {w : World} {B : Nat} {A : Option Addr} {l : List Int} (h : ReadsI w B A l) (lo m : Nat) (hl : lo = 0) (hm : m = l.length) : ReadsI w B A ((l.drop lo).take m) := by
  subst hl hm
  rw [List.drop_zero, List.take_of_length_le (Nat.le_refl _)]
  exact h
/-- what parted leaves -/
def Parted (w : World) (B n c : Nat) (l : List Int) (e : Ending) (w' : World) : Prop := ∃ Ac cc Av cv d, e = .returned (.tuple #[.slice Ac (n - 2 * parts l) cc, .slice Av (parts l) cv]) ∧ ReadsI w B Ac (core l) ∧ ReadsI w B Av (conj l) ∧ n - 2 * parts l ≤ cc ∧ parts l ≤ cv ∧ cc ≤ c ∧ cv ≤ c ∧ w.drewN d = w'
theorem part_fin {w : World} {B n c i d a1 c1 a2 c2 : Nat} {l : List Int} {Ac Av : Option Addr} (hn : n = l.length) (hnc : n ≤ c) (hi : 2 * i ≤ n) (hP : parts l = i) (h1 : ReadsI w B Ac ((l.drop i).take (n - 2 * i))) (h2 : ReadsI w B Av ((l.drop (n - i)).take i))
    (e1 : a1 = n - 2 * i) (e2 : a2 = i) (e3 : a1 ≤ c1) (e4 : a2 ≤ c2) (e5 : c1 ≤ c) (e6 : c2 ≤ c) :
    Parted w B n c l (.returned (.tuple #[.slice Ac a1 c1, .slice Av a2 c2])) (w.drewN d) := by
  refine ⟨Ac, c1, Av, c2, d, ?_, ?_, ?_, ?_, ?_, ?_, ?_, rfl⟩
  · rw [hP, e1, e2]
  · unfold core; rw [hP, ← hn]; exact h1
  · unfold conj; rw [hP, ← hn]; rw [List.take_of_length_le (by rw [List.length_drop]; omega)] at h2; exact h2
  all_goals omega
set_option maxRecDepth 100000 in
set_option maxHeartbeats 2000000 in
theorem parted_any {w : World} {B n c : Nat} {A : Option Addr} {l : List Int} (hr : ReadsI w B A l) (hn : n = l.length) (hnc : n ≤ c) (hl : LetL l) (hb : n ≤ 1000000000) (hc : c ≤ 9223372036854775807) :
    Calls Tryd.prog 58 #[.slice A n c] w (Parted w B n c l) := by
  have Hn := Lib.hid hn
  have Hl := Lib.hid hl
  have Hr := Lib.hid hr
  obtain ⟨P, hP⟩ : ∃ P, P = parts l := ⟨_, rfl⟩
  have HP := Lib.hid hP
  clear hn hl hr hP
  go_enter Tryd.func58, Tryd.ntmps58
  go_wp2_with fail
  go_loopg [4] n (fun k iv wr => ∃ (i d : Nat), iv = .int .i64 (i : Int) ∧ k = n - i ∧ 2 * i ≤ n ∧ Hid (cutN l (n - i) i = P) ∧ Hid (wr = w.drewN d))
  case atStart => exact ⟨0, 0, rfl, by omega, by omega, Lib.hid (by rw [HP.out, Nat.sub_zero, Hn.out]; rfl), Lib.hid rfl⟩
  case round =>
    obtain ⟨i, d, rfl, hk, hi, hcut, hw⟩ := hrel
    have Hk := Lib.hid hk
    clear hk
    have ew := hw.out
    subst ew
    by_cases hin : 2 * i + 1 < n
    · have hil : i < l.length := by rw [← Hn.out]; omega
      have hjl : n - 1 - i < l.length := by rw [← Hn.out]; omega
      obtain ⟨ad, rfl, hb1, c0⟩ := Hr.out.at_ hil
      obtain ⟨ad2, e2, hb2, d0⟩ := Hr.out.at_ hjl
      injection e2 with e2
      subst e2
      have hlx := Hl.out l[i] (List.getElem_mem hil)
      have hly := Hl.out l[n - 1 - i] (List.getElem_mem hjl)
      have Hx := Lib.hid (show l.getD i 0 = l[i] by rw [List.getD_eq_getElem?_getD, List.getElem?_eq_getElem hil]; rfl)
      have Hy := Lib.hid (show l.getD (n - 1 - i) 0 = l[n - 1 - i] by rw [List.getD_eq_getElem?_getD, List.getElem?_eq_getElem hjl]; rfl)
      have hii : 2 * (i : Int) + 1 < (n : Int) := by omega
      generalize l[i] = x at *
      generalize l[n - 1 - i] = y at *
      obtain ⟨hx0, hx1, hx2⟩ := hlx
      obtain ⟨hy0, hy1, hy2⟩ := hly
      have s1 : ((n : Int) - 1 - (i : Int)).toNat = n - 1 - i := by omega
      clear hb1 hb2 hil hjl
      rcases Decidable.em (x = -y) with hxy | hxy
      · have hnext := Lib.hid (show cutN l (n - (i + 1)) (i + 1) = P by rw [← hcut.out]; have h1 := Hn.out; rw [h1]; rw [h1] at Hy; exact (cutN_go (by omega) (by omega) (by rw [Hx.out, Hy.out, hxy])).symm)
        subst hxy
        go_wp2_with (go_quiet (fail))
        go_roundg (n - (i + 1))
        case measure => have := Hk.out; omega
        case rel => exact ⟨i + 1, _, rfl, rfl, by omega, hnext, Lib.hid rfl⟩
      · have hbeq : (x == -y) = false := by simp; exact hxy
        have hstop := Lib.hid (show P = i by rw [← hcut.out]; have h1 := Hn.out; rw [h1]; rw [h1] at Hy; exact cutN_stop (fun h => hxy (by have := h.2; rw [Hx.out, Hy.out] at this; exact this)))
        go_wp2_with (go_quiet (fail))
        all_goals (
          go_ret2
          exact part_fin Hn.out (by omega) hi (by rw [← HP.out, hstop.out]) (by first | exact reads_part' Hr.out _ _ _ (by omega) (by rw [← Hn.out]; omega) | exact reads_all Hr.out _ _ (by omega) (by rw [← Hn.out]; omega) | exact reads_sub_none Hr.out _ _ | exact reads_none (by rw [List.length_take]; omega)) (by first | exact reads_part' Hr.out _ _ _ (by omega) (by rw [← Hn.out]; omega) | exact reads_all Hr.out _ _ (by omega) (by rw [← Hn.out]; omega) | exact reads_sub_none Hr.out _ _ | exact reads_none (by rw [List.length_take]; omega)) (by omega) (by omega) (by omega) (by omega) (by omega) (by omega))
    · have hii : (n : Int) ≤ 2 * (i : Int) + 1 := by omega
      have hstop := Lib.hid (show P = i by rw [← hcut.out]; have h1 := Hn.out; rw [h1]; exact cutN_stop (fun h => hin (by rw [h1]; exact h.1)))
      have hni : ¬ (2 * (i : Int) + 1 < (n : Int)) := by omega
      have s2 : IntKind.i64.wrap (2 * (i : Int)) = 2 * (i : Int) := by rw [IntKind.wrap_i64]; omega
      have s3 : IntKind.i64.wrap (2 * (i : Int) + 1) = 2 * (i : Int) + 1 := by rw [IntKind.wrap_i64]; omega
      have hii2 : (i : Int) ≤ (n : Int) - (i : Int) := by omega
      rcases A with _ | ad
      all_goals go_wp2_with (go_quiet (fail))
      all_goals (
          go_ret2
          exact part_fin Hn.out (by omega) hi (by rw [← HP.out, hstop.out]) (by first | exact reads_part' Hr.out _ _ _ (by omega) (by rw [← Hn.out]; omega) | exact reads_all Hr.out _ _ (by omega) (by rw [← Hn.out]; omega) | exact reads_sub_none Hr.out _ _ | exact reads_none (by rw [List.length_take]; omega)) (by first | exact reads_part' Hr.out _ _ _ (by omega) (by rw [← Hn.out]; omega) | exact reads_all Hr.out _ _ (by omega) (by rw [← Hn.out]; omega) | exact reads_sub_none Hr.out _ _ | exact reads_none (by rw [List.length_take]; omega)) (by omega) (by omega) (by omega) (by omega) (by omega) (by omega))
end Go.Proofs.YtmjnhpagoboejaaDoor

/- slices.Equal. -/
namespace Go.Proofs.YtmjnhpagoboejaaDoor
open Go.RowKit
open Wd
set_option linter.unusedSimpArgs false
set_option linter.unusedVariables false

theorem take_grow {l m : List Int} {i : Nat} (hl : i < l.length) (hm : i < m.length) (h : l.take i = m.take i) (hx : l[i] = m[i]) : l.take (i + 1) = m.take (i + 1) := by
  rw [List.take_succ_eq_append_getElem hl, List.take_succ_eq_append_getElem hm, h, hx]
/-- what Equal leaves -/
def EqOut (w : World) (l m : List Int) (e : Ending) (w' : World) : Prop := ∃ d, e = .returned (.bool (decide (l = m))) ∧ w.drewN d = w'
theorem eq_yes {w : World} {l m : List Int} (d : Nat) (h : l = m) : EqOut w l m (.returned (.bool true)) (w.drewN d) := ⟨d, by rw [decide_eq_true h], rfl⟩
theorem eq_no {w : World} {l m : List Int} (d : Nat) (h : ¬ l = m) : EqOut w l m (.returned (.bool false)) (w.drewN d) := ⟨d, by rw [decide_eq_false h], rfl⟩
set_option maxRecDepth 100000 in
set_option maxHeartbeats 2000000 in
theorem equal_any {w : World} {B B' n n' c c' : Nat} {A A' : Option Addr} {l m : List Int} (hr : ReadsI w B A l) (hr' : ReadsI w B' A' m) (hn : n = l.length) (hn' : n' = m.length) (hb : n ≤ 1000000000) (hb' : n' ≤ 1000000000) :
    Calls Tryd.prog 78 #[.slice A n c, .slice A' n' c'] w (EqOut w l m) := by
  have Hn := Lib.hid hn
  have Hn' := Lib.hid hn'
  have Hr := Lib.hid hr
  have Hr' := Lib.hid hr'
  clear hr hr' hn hn'
  rcases Decidable.em (n = n') with he | he
  · subst he
    have hbe : ((n : Int) == (n : Int)) = true := by simp
    go_enter Tryd.func78, Tryd.ntmps78
    go_wp2_with fail
    go_loopg [13] n (fun k iv wr => ∃ (i d : Nat), iv = .int .i64 (i : Int) ∧ k = n - i ∧ i ≤ n ∧ Hid (l.take i = m.take i) ∧ Hid (wr = w.drewN d))
    case atStart => exact ⟨0, 0, rfl, by omega, by omega, Lib.hid rfl, Lib.hid rfl⟩
    case round =>
      obtain ⟨i, d, rfl, hk, hi, htk, hw⟩ := hrel
      have Hk := Lib.hid hk
      clear hk
      have ew := hw.out
      subst ew
      by_cases hin : i < n
      · have hil : i < l.length := by rw [← Hn.out]; omega
        have hjl : i < m.length := by rw [← Hn'.out]; omega
        obtain ⟨ad, rfl, hb1, c0⟩ := Hr.out.at_ hil
        obtain ⟨ad2, rfl, hb2, d0⟩ := Hr'.out.at_ hjl
        have hii : (i : Int) < (n : Int) := by omega
        rcases Decidable.em (l[i] = m[i]) with hxy | hxy
        · have hnext := Lib.hid (take_grow hil hjl htk.out hxy)
          rw [← hxy] at d0
          generalize l[i] = x at *
          clear hb1 hb2 hil hjl hxy
          go_wp2_with (go_quiet (fail))
          go_roundg (n - (i + 1))
          case measure => have := Hk.out; omega
          case rel => exact ⟨i + 1, _, rfl, rfl, by omega, hnext, Lib.hid rfl⟩
        · have hne := Lib.hid (show ¬ l = m from fun e => hxy (by subst e; rfl))
          generalize l[i] = x at *
          generalize m[i] = y at *
          have hbeq : (x == y) = false := by simp; exact hxy
          clear hb1 hb2 hil hjl
          go_wp2_with (go_quiet (fail))
          go_ret
          exact eq_no _ hne.out
      · have hii : (n : Int) ≤ (i : Int) := by omega
        have heq := Lib.hid (show l = m by
          have h := htk.out
          rw [List.take_of_length_le (by have := Hn.out; omega), List.take_of_length_le (by have := Hn'.out; omega)] at h
          exact h)
        go_wp2_with (go_quiet (fail))
        go_ret
        exact eq_yes _ heq.out
  · have hne := Lib.hid (show ¬ l = m from fun e => he (by rw [Hn.out, Hn'.out, e]))
    have hbe : ((n : Int) == (n' : Int)) = false := by simp; omega
    have hbe2 : ¬ (n : Int) = (n' : Int) := by omega
    go_enter Tryd.func78, Tryd.ntmps78
    go_wp2_with fail
    go_ret
    exact eq_no 0 hne.out
end Go.Proofs.YtmjnhpagoboejaaDoor

/- ref.Same, num. -/
namespace Go.Proofs.YtmjnhpagoboejaaDoor
open Go.RowKit
open Wd
set_option linter.unusedSimpArgs false
set_option linter.unusedVariables false

set_option maxRecDepth 100000 in
set_option maxHeartbeats 2000000 in
theorem same_any {w : World} {B B' n n' c c' : Nat} {A A' : Option Addr} {l m : List Int} (hr : ReadsI w B A l) (hr' : ReadsI w B' A' m) (hn : n = l.length) (hn' : n' = m.length) (hb : n ≤ 1000000000) (hb' : n' ≤ 1000000000) :
    Calls Tryd.prog 27 #[.slice A n c, .slice A' n' c'] w (EqOut w l m) := by
  have Hn := Lib.hid hn
  have Hn' := Lib.hid hn'
  have Hr := Lib.hid hr
  have Hr' := Lib.hid hr'
  clear hr hr' hn hn'
  rcases Decidable.em (n = n') with he | he
  · subst he
    have hbe : ((n : Int) == (n : Int)) = true := by simp
    have hbe2 : ((n : Int) != (n : Int)) = false := by simp
    go_enter Tryd.func27, Tryd.ntmps27
    go_wp2_with fail
    go_loopg [5] n (fun k iv wr => ∃ (i d : Nat), iv = .int .i64 (i : Int) ∧ k = n - i ∧ i ≤ n ∧ Hid (l.take i = m.take i) ∧ Hid (wr = w.drewN d))
    case atStart => exact ⟨0, 0, rfl, by omega, by omega, Lib.hid rfl, Lib.hid rfl⟩
    case round =>
      obtain ⟨i, d, rfl, hk, hi, htk, hw⟩ := hrel
      have Hk := Lib.hid hk
      clear hk
      have ew := hw.out
      subst ew
      by_cases hin : i < n
      · have hil : i < l.length := by rw [← Hn.out]; omega
        have hjl : i < m.length := by rw [← Hn'.out]; omega
        obtain ⟨ad, rfl, hb1, c0⟩ := Hr.out.at_ hil
        obtain ⟨ad2, rfl, hb2, d0⟩ := Hr'.out.at_ hjl
        have hii : (i : Int) < (n : Int) := by omega
        rcases Decidable.em (l[i] = m[i]) with hxy | hxy
        · have hnext := Lib.hid (take_grow hil hjl htk.out hxy)
          rw [← hxy] at d0
          generalize l[i] = x at *
          clear hb1 hb2 hil hjl hxy
          go_wp2_with (go_quiet (fail))
          go_roundg (n - (i + 1))
          case measure => have := Hk.out; omega
          case rel => exact ⟨i + 1, _, rfl, rfl, by omega, hnext, Lib.hid rfl⟩
        · have hne := Lib.hid (show ¬ l = m from fun e => hxy (by subst e; rfl))
          generalize l[i] = x at *
          generalize m[i] = y at *
          have hbeq : (x == y) = false := by simp; exact hxy
          have hbeq2 : (x != y) = true := by simp; exact hxy
          clear hb1 hb2 hil hjl
          go_wp2_with (go_quiet (fail))
          go_ret
          exact eq_no _ hne.out
      · have hii : (n : Int) ≤ (i : Int) := by omega
        have heq := Lib.hid (show l = m by
          have h := htk.out
          rw [List.take_of_length_le (by have := Hn.out; omega), List.take_of_length_le (by have := Hn'.out; omega)] at h
          exact h)
        go_wp2_with (go_quiet (fail))
        go_ret
        exact eq_yes _ heq.out
  · have hne := Lib.hid (show ¬ l = m from fun e => he (by rw [Hn.out, Hn'.out, e]))
    have hbe : ((n : Int) == (n' : Int)) = false := by simp; omega
    have hbe2 : ¬ (n : Int) = (n' : Int) := by omega
    have hbe3 : ((n : Int) != (n' : Int)) = true := by simp; omega
    go_enter Tryd.func27, Tryd.ntmps27
    go_wp2_with fail
    go_ret
    exact eq_no 0 hne.out
set_option maxRecDepth 100000 in
theorem num_any {w : World} {x : Int} : Calls Tryd.prog 20 #[.int .i64 x] w (fun e w' => e = .returned (.int .i64 x) ∧ w = w') := by
  go_enter Tryd.func20, Tryd.ntmps20
  go_wp2_with fail
  go_ret
  exact ⟨rfl, rfl⟩
theorem same_true {w : World} {B B' n n' c c' : Nat} {A A' : Option Addr} {l m : List Int} (hr : ReadsI w B A l) (hr' : ReadsI w B' A' m) (hn : n = l.length) (hn' : n' = m.length) (hb : n ≤ 1000000000) (h : l = m) :
    Calls Tryd.prog 27 #[.slice A n c, .slice A' n' c'] w (fun e w' => e = .returned (.bool true) ∧ ∃ d, w.drewN d = w') := by
  refine (same_any hr hr' hn hn' hb (by rw [hn', ← h, ← hn]; exact hb)).mono ?_
  rintro e w' ⟨d, rfl, rfl⟩
  exact ⟨by rw [decide_eq_true h], d, rfl⟩
theorem same_false {w : World} {B B' n n' c c' : Nat} {A A' : Option Addr} {l m : List Int} (hr : ReadsI w B A l) (hr' : ReadsI w B' A' m) (hn : n = l.length) (hn' : n' = m.length) (hb : n ≤ 1000000000) (hb' : n' ≤ 1000000000) (h : ¬ l = m) :
    Calls Tryd.prog 27 #[.slice A n c, .slice A' n' c'] w (fun e w' => e = .returned (.bool false) ∧ ∃ d, w.drewN d = w') := by
  refine (same_any hr hr' hn hn' hb hb').mono ?_
  rintro e w' ⟨d, rfl, rfl⟩
  exact ⟨by rw [decide_eq_false h], d, rfl⟩
end Go.Proofs.YtmjnhpagoboejaaDoor

/- A region that draws, walked by hand: what is held may grow on the way. -/
namespace Go.Proofs.YtmjnhpagoboejaaDoor
open Go Go.RowKit

theorem wpAnyH_more {P : Program} {ops : Array Oper} {Q : Exit → Act → World → Prop} {md : Region.Mode} {S S' : World → Prop} (himp : ∀ w, S' w → S w) :
    ∀ {fuel : Nat} {listed : Array Bool} {a : Act} {w : World}, wpAnyH P md ops Q S' fuel listed a w → wpAnyH P md ops Q S fuel listed a w
  | 0, _, _, _, h => h
  | _ + 1, _, _, _, h => ⟨h.1, fun i hi => wpOp_mono (fun _ _ h' => ⟨himp _ h'.1, wpAnyH_more himp h'.2⟩) (h.2 i hi)⟩

theorem undrew {w w' : World} (h : Below w.drew.heap.size w.drew w') : Below w.heap.size w w' := ⟨h.os, h.tape, h.output, h.size, h.block⟩

end Go.Proofs.YtmjnhpagoboejaaDoor

/- slices.Clone. -/
namespace Go.Proofs.YtmjnhpagoboejaaDoor
open Go.RowKit
open Wd
set_option linter.unusedSimpArgs false
set_option linter.unusedVariables false

theorem eql_nil (A : Option Addr) (n c : Nat) (w : World) : (binOp .eql 22 (.slice A n c) (.slice none 0 0)).run Tryd.prog w = .ok (.bool A.isNone) w := by
  have h : (Op.equal 22 (.slice A n c) (.slice none 0 0)).run Tryd.prog w = .ok A.isNone w := run_equal_slice_nil (P := Tryd.prog) w 22 3 A n c Tryd.underlying22
  simp [binOp, h]
set_option maxRecDepth 100000 in
theorem clone_any {w : World} {B n c : Nat} {A : Option Addr} {l : List Int} (hr : ReadsI w B A l) (hn : n = l.length) (hB : B ≤ w.heap.size) (hb : n ≤ 1000000000) :
    Calls Tryd.prog 59 #[.slice A n c] w (fun e w' => ∃ A' c', e = .returned (.slice A' n c') ∧ OwnI w' w.heap.size (.slice A' n c') l ∧ Below w.heap.size w w') := by
  have Hn := Lib.hid hn
  have Hr := Lib.hid hr
  have HB := Lib.hid hB
  rcases A with _ | ad
  · have h0 : l = [] := by
      rcases Nat.eq_zero_or_pos l.length with h0 | h0
      · exact List.eq_nil_of_length_eq_zero h0
      · obtain ⟨ad, e, _⟩ := hr.2 (by omega)
        cases e
    subst h0
    have hn0 : n = 0 := hn
    subst hn0
    have hq := fun w' => eql_nil none 0 c w'
    simp only [Option.isNone_none] at hq
    have Hb := Lib.hid (Below.refl w.heap.size w)
    clear hn hr hB hb
    go_enter Tryd.func59, Tryd.ntmps59
    go_wp2_with fail
    go_ret
    exact ⟨none, 0, rfl, OwnI.nil _ _, Hb.out⟩
  · clear hn hr hB
    have hq := fun w' => eql_nil (some ad) n c w'
    simp only [Option.isNone_some] at hq
    go_enter Tryd.func59, Tryd.ntmps59
    have Hown := Lib.hid (show OwnI (w.alloc (.cells #[] 3)) w.heap.size (.slice (some ⟨w.heap.size, 0, none⟩) 0 0) [] from OwnI.made w (n := 0) (c := 0) (by omega) (by unfold maxLen; omega))
    have Hb := Lib.hid ((Below.refl w.heap.size w).alloc (Nat.le_refl _) (.cells #[] 3))
    go_wp2_with (refine wpI_append rfl (.tmp 5) (.tmp 6) rfl w.heap.size _ [] l Hown.out rfl rfl Hn.out (Hr.out.alloc HB.out _) (by simp) (by have := Hn.out; omega) (by simp) ?_; intro A2 n2 c2 w2 ho2 hn2 hc2 hg2 hw2 hb2; have Ho2 := Lib.hid (And.intro ho2 (And.intro hn2 (hb2 _ Hb.out))); clear ho2 hn2 hc2 hg2 hw2 hb2)
    go_ret
    have hn2 := Ho2.out.2.1
    rw [List.length_nil, Nat.zero_add, ← Hn.out] at hn2
    subst hn2
    exact ⟨A2, c2, rfl, Ho2.out.1, Ho2.out.2.2⟩
end Go.Proofs.YtmjnhpagoboejaaDoor

/- words.ended, made, Short. -/
namespace Go.Proofs.YtmjnhpagoboejaaDoor
open Go.RowKit
open Wd
set_option linter.unusedSimpArgs false
set_option linter.unusedVariables false

set_option maxRecDepth 100000 in
theorem ended_ok {w : World} {A : Option Addr} {n c : Nat} (h : n ≤ 4096) (hc : n ≤ c) :
    Calls Tryd.prog 85 #[.slice A n c] w (fun e w' => e = .returned (.tuple #[.slice A n n, .int .i64 0]) ∧ w = w') := by
  have h1 : (n : Int) ≤ 4096 := by omega
  have h2 : (n : Int) ≤ (c : Int) := by omega
  go_enter Tryd.func85, Tryd.ntmps85
  go_wp2
  go_ret2
  exact ⟨rfl, rfl⟩
set_option maxRecDepth 100000 in
theorem ended_long {w : World} {A : Option Addr} {n c : Nat} (h : 4096 < n) :
    Calls Tryd.prog 85 #[.slice A n c] w (fun e w' => e = .returned (.tuple #[.slice none 0 0, .int .i64 3]) ∧ w = w') := by
  have h1 : (4096 : Int) < (n : Int) := by omega
  go_enter Tryd.func85, Tryd.ntmps85
  go_wp2
  go_ret2
  exact ⟨rfl, rfl⟩
set_option maxRecDepth 100000 in
/-- words that are none: nothing is made -/
theorem made_bad {w : World} {B n c : Nat} {A : Option Addr} {rs : List SRow} {fv : Value} (hr : ReadsL w B A rs) (hn : n = rs.length) (hnl : n ≤ 1000000000000) (hw : ∀ r ∈ rs, Wf r.2.2 ∧ r.2.2.length ≤ 1000000000000) (hz : chk (rs.map (fun r => r.2.2)) ≠ 0) :
    Calls Tryd.prog 52 #[.slice A n c, fv] w (fun e w' => e = .returned (.tuple #[.slice none 0 0, .int .i64 (chk (rs.map (fun r => r.2.2)))]) ∧ w = w') := by
  have HC := Lib.hid (check_any (c := c) hr hn hnl hw)
  generalize chk (rs.map (fun r => r.2.2)) = z at *
  have hzb : (z == 0) = false := by simp; exact hz
  clear hr hn hw hz
  go_enter Tryd.func52, Tryd.ntmps52
  go_wp2_with fail
  refine HC.out.mono ?_
  rintro e w' ⟨rfl, rfl⟩
  go_wp2_with fail
  go_ret2
  exact ⟨rfl, rfl⟩
end Go.Proofs.YtmjnhpagoboejaaDoor

/- words.made over each of the functions that are handed to it (printed by gen_end.py). -/
namespace Go.Proofs.YtmjnhpagoboejaaDoor
open Go.RowKit
open Wd
set_option linter.unusedSimpArgs false
set_option linter.unusedVariables false

set_option maxRecDepth 100000 in
/-- words: what is made, unless it is too long -/
theorem made_ok53 {w : World} {B n c : Nat} {A : Option Addr} {rs : List SRow} {lb : Array Value} {R : Option Addr → Nat → Nat → World → Prop} (hr : ReadsL w B A rs) (hn : n = rs.length) (hnl : n ≤ 1000000000000) (hw : ∀ r ∈ rs, Wf r.2.2 ∧ r.2.2.length ≤ 1000000000000) (hz : chk (rs.map (fun r => r.2.2)) = 0)
    (hm : Calls Tryd.prog 53 lb w (fun e w' => ∃ A' n' c', e = .returned (.slice A' n' c') ∧ n' ≤ c' ∧ R A' n' c' w')) :
    Calls Tryd.prog 52 #[.slice A n c, .func (.func 53) #[] lb] w (fun e w' => ∃ A' n' c', R A' n' c' w' ∧ ((n' ≤ 4096 ∧ e = .returned (.tuple #[.slice A' n' n', .int .i64 0])) ∨ (4096 < n' ∧ e = .returned (.tuple #[.slice none 0 0, .int .i64 3])))) := by
  have HC := check_any (c := c) hr hn hnl hw
  rw [hz] at HC
  have HC := Lib.hid HC
  have HM := Lib.hid hm
  clear hr hn hw hz hm
  go_enter Tryd.func52, Tryd.ntmps52
  go_wp2_with fail
  refine HC.out.mono ?_
  rintro e w' ⟨rfl, rfl⟩
  go_wp2_with fail
  refine HM.out.mono ?_
  rintro e w2 ⟨A2, n2, c2, rfl, hc2, hR⟩
  have HR := Lib.hid hR
  clear hR HM
  rcases Nat.lt_or_ge 4096 n2 with h | h
  · have HE := Lib.hid (ended_long (w := w2) (A := A2) (c := c2) h)
    go_wp2_with fail
    refine HE.out.mono ?_
    rintro e w3 ⟨rfl, rfl⟩
    go_wp2_with fail
    go_ret2
    exact ⟨A2, n2, c2, HR.out, .inr ⟨h, rfl⟩⟩
  · have HE := Lib.hid (ended_ok (w := w2) (A := A2) (c := c2) h hc2)
    go_wp2_with fail
    refine HE.out.mono ?_
    rintro e w3 ⟨rfl, rfl⟩
    go_wp2_with fail
    go_ret2
    exact ⟨A2, n2, c2, HR.out, .inl ⟨h, rfl⟩⟩
set_option maxRecDepth 100000 in
/-- words: what is made, unless it is too long -/
theorem made_ok55 {w : World} {B n c : Nat} {A : Option Addr} {rs : List SRow} {lb : Array Value} {R : Option Addr → Nat → Nat → World → Prop} (hr : ReadsL w B A rs) (hn : n = rs.length) (hnl : n ≤ 1000000000000) (hw : ∀ r ∈ rs, Wf r.2.2 ∧ r.2.2.length ≤ 1000000000000) (hz : chk (rs.map (fun r => r.2.2)) = 0)
    (hm : Calls Tryd.prog 55 lb w (fun e w' => ∃ A' n' c', e = .returned (.slice A' n' c') ∧ n' ≤ c' ∧ R A' n' c' w')) :
    Calls Tryd.prog 52 #[.slice A n c, .func (.func 55) #[] lb] w (fun e w' => ∃ A' n' c', R A' n' c' w' ∧ ((n' ≤ 4096 ∧ e = .returned (.tuple #[.slice A' n' n', .int .i64 0])) ∨ (4096 < n' ∧ e = .returned (.tuple #[.slice none 0 0, .int .i64 3])))) := by
  have HC := check_any (c := c) hr hn hnl hw
  rw [hz] at HC
  have HC := Lib.hid HC
  have HM := Lib.hid hm
  clear hr hn hw hz hm
  go_enter Tryd.func52, Tryd.ntmps52
  go_wp2_with fail
  refine HC.out.mono ?_
  rintro e w' ⟨rfl, rfl⟩
  go_wp2_with fail
  refine HM.out.mono ?_
  rintro e w2 ⟨A2, n2, c2, rfl, hc2, hR⟩
  have HR := Lib.hid hR
  clear hR HM
  rcases Nat.lt_or_ge 4096 n2 with h | h
  · have HE := Lib.hid (ended_long (w := w2) (A := A2) (c := c2) h)
    go_wp2_with fail
    refine HE.out.mono ?_
    rintro e w3 ⟨rfl, rfl⟩
    go_wp2_with fail
    go_ret2
    exact ⟨A2, n2, c2, HR.out, .inr ⟨h, rfl⟩⟩
  · have HE := Lib.hid (ended_ok (w := w2) (A := A2) (c := c2) h hc2)
    go_wp2_with fail
    refine HE.out.mono ?_
    rintro e w3 ⟨rfl, rfl⟩
    go_wp2_with fail
    go_ret2
    exact ⟨A2, n2, c2, HR.out, .inl ⟨h, rfl⟩⟩
set_option maxRecDepth 100000 in
/-- words: what is made, unless it is too long -/
theorem made_ok65 {w : World} {B n c : Nat} {A : Option Addr} {rs : List SRow} {lb : Array Value} {R : Option Addr → Nat → Nat → World → Prop} (hr : ReadsL w B A rs) (hn : n = rs.length) (hnl : n ≤ 1000000000000) (hw : ∀ r ∈ rs, Wf r.2.2 ∧ r.2.2.length ≤ 1000000000000) (hz : chk (rs.map (fun r => r.2.2)) = 0)
    (hm : Calls Tryd.prog 65 lb w (fun e w' => ∃ A' n' c', e = .returned (.slice A' n' c') ∧ n' ≤ c' ∧ R A' n' c' w')) :
    Calls Tryd.prog 52 #[.slice A n c, .func (.func 65) #[] lb] w (fun e w' => ∃ A' n' c', R A' n' c' w' ∧ ((n' ≤ 4096 ∧ e = .returned (.tuple #[.slice A' n' n', .int .i64 0])) ∨ (4096 < n' ∧ e = .returned (.tuple #[.slice none 0 0, .int .i64 3])))) := by
  have HC := check_any (c := c) hr hn hnl hw
  rw [hz] at HC
  have HC := Lib.hid HC
  have HM := Lib.hid hm
  clear hr hn hw hz hm
  go_enter Tryd.func52, Tryd.ntmps52
  go_wp2_with fail
  refine HC.out.mono ?_
  rintro e w' ⟨rfl, rfl⟩
  go_wp2_with fail
  refine HM.out.mono ?_
  rintro e w2 ⟨A2, n2, c2, rfl, hc2, hR⟩
  have HR := Lib.hid hR
  clear hR HM
  rcases Nat.lt_or_ge 4096 n2 with h | h
  · have HE := Lib.hid (ended_long (w := w2) (A := A2) (c := c2) h)
    go_wp2_with fail
    refine HE.out.mono ?_
    rintro e w3 ⟨rfl, rfl⟩
    go_wp2_with fail
    go_ret2
    exact ⟨A2, n2, c2, HR.out, .inr ⟨h, rfl⟩⟩
  · have HE := Lib.hid (ended_ok (w := w2) (A := A2) (c := c2) h hc2)
    go_wp2_with fail
    refine HE.out.mono ?_
    rintro e w3 ⟨rfl, rfl⟩
    go_wp2_with fail
    go_ret2
    exact ⟨A2, n2, c2, HR.out, .inl ⟨h, rfl⟩⟩
set_option maxRecDepth 100000 in
/-- words: what is made, unless it is too long -/
theorem made_ok68 {w : World} {B n c : Nat} {A : Option Addr} {rs : List SRow} {lb : Array Value} {R : Option Addr → Nat → Nat → World → Prop} (hr : ReadsL w B A rs) (hn : n = rs.length) (hnl : n ≤ 1000000000000) (hw : ∀ r ∈ rs, Wf r.2.2 ∧ r.2.2.length ≤ 1000000000000) (hz : chk (rs.map (fun r => r.2.2)) = 0)
    (hm : Calls Tryd.prog 68 lb w (fun e w' => ∃ A' n' c', e = .returned (.slice A' n' c') ∧ n' ≤ c' ∧ R A' n' c' w')) :
    Calls Tryd.prog 52 #[.slice A n c, .func (.func 68) #[] lb] w (fun e w' => ∃ A' n' c', R A' n' c' w' ∧ ((n' ≤ 4096 ∧ e = .returned (.tuple #[.slice A' n' n', .int .i64 0])) ∨ (4096 < n' ∧ e = .returned (.tuple #[.slice none 0 0, .int .i64 3])))) := by
  have HC := check_any (c := c) hr hn hnl hw
  rw [hz] at HC
  have HC := Lib.hid HC
  have HM := Lib.hid hm
  clear hr hn hw hz hm
  go_enter Tryd.func52, Tryd.ntmps52
  go_wp2_with fail
  refine HC.out.mono ?_
  rintro e w' ⟨rfl, rfl⟩
  go_wp2_with fail
  refine HM.out.mono ?_
  rintro e w2 ⟨A2, n2, c2, rfl, hc2, hR⟩
  have HR := Lib.hid hR
  clear hR HM
  rcases Nat.lt_or_ge 4096 n2 with h | h
  · have HE := Lib.hid (ended_long (w := w2) (A := A2) (c := c2) h)
    go_wp2_with fail
    refine HE.out.mono ?_
    rintro e w3 ⟨rfl, rfl⟩
    go_wp2_with fail
    go_ret2
    exact ⟨A2, n2, c2, HR.out, .inr ⟨h, rfl⟩⟩
  · have HE := Lib.hid (ended_ok (w := w2) (A := A2) (c := c2) h hc2)
    go_wp2_with fail
    refine HE.out.mono ?_
    rintro e w3 ⟨rfl, rfl⟩
    go_wp2_with fail
    go_ret2
    exact ⟨A2, n2, c2, HR.out, .inl ⟨h, rfl⟩⟩
set_option maxRecDepth 100000 in
/-- words: what is made, unless it is too long -/
theorem made_ok69 {w : World} {B n c : Nat} {A : Option Addr} {rs : List SRow} {lb : Array Value} {R : Option Addr → Nat → Nat → World → Prop} (hr : ReadsL w B A rs) (hn : n = rs.length) (hnl : n ≤ 1000000000000) (hw : ∀ r ∈ rs, Wf r.2.2 ∧ r.2.2.length ≤ 1000000000000) (hz : chk (rs.map (fun r => r.2.2)) = 0)
    (hm : Calls Tryd.prog 69 lb w (fun e w' => ∃ A' n' c', e = .returned (.slice A' n' c') ∧ n' ≤ c' ∧ R A' n' c' w')) :
    Calls Tryd.prog 52 #[.slice A n c, .func (.func 69) #[] lb] w (fun e w' => ∃ A' n' c', R A' n' c' w' ∧ ((n' ≤ 4096 ∧ e = .returned (.tuple #[.slice A' n' n', .int .i64 0])) ∨ (4096 < n' ∧ e = .returned (.tuple #[.slice none 0 0, .int .i64 3])))) := by
  have HC := check_any (c := c) hr hn hnl hw
  rw [hz] at HC
  have HC := Lib.hid HC
  have HM := Lib.hid hm
  clear hr hn hw hz hm
  go_enter Tryd.func52, Tryd.ntmps52
  go_wp2_with fail
  refine HC.out.mono ?_
  rintro e w' ⟨rfl, rfl⟩
  go_wp2_with fail
  refine HM.out.mono ?_
  rintro e w2 ⟨A2, n2, c2, rfl, hc2, hR⟩
  have HR := Lib.hid hR
  clear hR HM
  rcases Nat.lt_or_ge 4096 n2 with h | h
  · have HE := Lib.hid (ended_long (w := w2) (A := A2) (c := c2) h)
    go_wp2_with fail
    refine HE.out.mono ?_
    rintro e w3 ⟨rfl, rfl⟩
    go_wp2_with fail
    go_ret2
    exact ⟨A2, n2, c2, HR.out, .inr ⟨h, rfl⟩⟩
  · have HE := Lib.hid (ended_ok (w := w2) (A := A2) (c := c2) h hc2)
    go_wp2_with fail
    refine HE.out.mono ?_
    rintro e w3 ⟨rfl, rfl⟩
    go_wp2_with fail
    go_ret2
    exact ⟨A2, n2, c2, HR.out, .inl ⟨h, rfl⟩⟩
end Go.Proofs.YtmjnhpagoboejaaDoor

/- words.Short. -/
namespace Go.Proofs.YtmjnhpagoboejaaDoor
open Go.RowKit
open Wd
set_option linter.unusedSimpArgs false
set_option linter.unusedVariables false

/-- ints of the call's own, behind a slice that has no room -/
def ResI (w : World) (B : Nat) (A : Option Addr) (n : Nat) (l : List Int) : Prop := n = l.length ∧ ∃ c, OwnI w B (.slice A n c) l ∧ n ≤ c
theorem row_one (w : World) (r : SRow) {B : Nat} (h : ReadsI w B r.1 r.2.2) (hB : B ≤ w.heap.size) : ReadsL (w.alloc (.cells #[.slice r.1 r.2.2.length r.2.1] 22)) (w.heap.size + 1) (some ⟨w.heap.size, 0, none⟩) [r] := by
  refine ⟨⟨rfl, fun _ => ⟨_, rfl, Nat.lt_succ_self _, fun j u hu => ?_⟩⟩, fun r' hr' => ?_⟩
  · have hb := Blk.new w 22 #[.slice r.1 r.2.2.length r.2.1]
    match j, hu with
    | 0, hu => rw [Addr.add_zero', hb.cell 0]; exact hu
    | j + 1, hu => simp at hu
  · rw [List.mem_singleton.1 hr']
    exact (h.alloc hB _).more (by omega)
theorem chk_one {l : List Int} : chk [l] = 0 ↔ isWord l = true ∧ l.length ≤ 4096 := by
  unfold chk tooLong
  simp only [List.all_cons, List.all_nil, Bool.and_true, List.any_cons, List.any_nil, Bool.or_false, decide_eq_true_eq]
  cases isWord l
  · simp
  · by_cases h : 4096 < l.length
    · simp [h]
    · simp [h]; omega
theorem word_let {l : List Int} (h : isWord l = true) : LetL l := fun k hk => by
  unfold isWord at h
  rw [Bool.not_eq_true', List.any_eq_false] at h
  have h2 := h k hk
  rw [Bool.not_eq_true', Bool.not_eq_false] at h2
  unfold isLet at h2
  exact of_decide_eq_true h2
set_option maxRecDepth 100000 in
theorem short1_any {w : World} {B n c g : Nat} {A : Option Addr} {l : List Int} (hb : Blk w g 22 #[.slice A n c]) (hr : ReadsI w B A l) (hB : B ≤ w.heap.size) (hn : n = l.length) (hl : LetL l) (hnl : n ≤ 100000000) :
    Calls Tryd.prog 53 #[.pointer (some ⟨g, 0, none⟩)] w (fun e w' => ∃ A' n' c', e = .returned (.slice A' n' c') ∧ n' ≤ c' ∧ OwnI w' w.heap.size (.slice A' n' c') (short l) ∧ Below w.heap.size w w') := by
  have HO := Lib.hid (on_any (w := w) (B := w.heap.size) (c := 0) (cw := c) (OwnI.nil w _) (hr.more hB) (Nat.le_refl _) hn hl (by simp) (by omega))
  have c0 : w.cell? ⟨g, 0, none⟩ = some (.slice A n c) := hb.cell 0
  clear hb hr hn hl
  go_enter Tryd.func53, Tryd.ntmps53
  go_wp2_with fail
  refine HO.out.mono ?_
  rintro e w2 ⟨A2, n2, c2, rfl, ho, hg, hc⟩
  have hbel : Below w.heap.size w w2 := ⟨hg.os, hg.tape, hg.output, hg.size, fun i hi => hg.block i hi (by intro h; cases h)⟩
  have hlen := ho.len.2.1
  have Ho := Lib.hid (And.intro hlen (And.intro ho hbel))
  clear ho hg hc hbel hlen
  go_wp2_with fail
  go_ret
  exact ⟨A2, n2, c2, rfl, Ho.out.1, Ho.out.2.1, Ho.out.2.2⟩
set_option maxRecDepth 100000 in
theorem short_bad {w : World} {B n c : Nat} {A : Option Addr} {l : List Int} (hr : ReadsI w B A l) (hB : B ≤ w.heap.size) (hn : n = l.length) (hw : Wf l) (hnl : n ≤ 1000000000000) (hz : chk [l] ≠ 0) :
    Calls Tryd.prog 15 #[.slice A n c] w (fun e w' => e = .returned (.tuple #[.slice none 0 0, .int .i64 (chk [l])]) ∧ Below w.heap.size w w') := by
  subst hn
  have hM := made_bad (w := (w.alloc (.cells #[.slice A l.length c] 22)).alloc (.cells #[.slice A l.length c] 22)) (n := 1) (c := 1) (fv := .func (.func 53) #[] #[.pointer (some ⟨w.heap.size, 0, none⟩)]) (row_one (w.alloc (.cells #[.slice A l.length c] 22)) (A, c, l) (hr.alloc hB _) (by simp; omega)) rfl (by decide) (fun r hr' => by rw [List.mem_singleton.1 hr']; exact ⟨hw, hnl⟩) hz
  rw [World.size_alloc] at hM
  have HM := Lib.hid hM
  have Hb := Lib.hid (((Below.refl w.heap.size w).alloc (Nat.le_refl _) (.cells #[.slice A l.length c] 22)).alloc (by simp) (.cells #[.slice A l.length c] 22))
  simp only [List.map_cons, List.map_nil] at HM
  generalize chk [l] = z at *
  clear hM hr
  go_enter Tryd.func15, Tryd.ntmps15
  go_wp2_with fail
  refine HM.out.mono ?_
  rintro e w' ⟨rfl, rfl⟩
  go_wp2_with fail
  go_ret2
  exact ⟨rfl, Hb.out⟩
set_option maxRecDepth 100000 in
theorem short_ok {w : World} {B n c : Nat} {A : Option Addr} {l : List Int} (hr : ReadsI w B A l) (hB : B ≤ w.heap.size) (hn : n = l.length) (hz : chk [l] = 0) :
    Calls Tryd.prog 15 #[.slice A n c] w (fun e w' => ∃ A' n', e = .returned (.tuple #[.slice A' n' n', .int .i64 0]) ∧ ResI w' w.heap.size A' n' (short l) ∧ Below w.heap.size w w') := by
  obtain ⟨hw, hlen⟩ := chk_one.1 hz
  have hlet := word_let hw
  subst hn
  have hwf : Wf l := fun k hk => by have := hlet k hk; omega
  have hb0 := ((Below.refl w.heap.size w).alloc (Nat.le_refl _) (.cells #[.slice A l.length c] 22)).alloc (by simp) (.cells #[.slice A l.length c] 22)
  have h1 := short1_any (w := (w.alloc (.cells #[.slice A l.length c] 22)).alloc (.cells #[.slice A l.length c] 22)) ((Blk.new w 22 #[.slice A l.length c]).alloc _) ((hr.alloc hB _).alloc (by simp; omega) _) (by simp; omega) rfl hlet (by omega)
  have hM := made_ok53 (n := 1) (c := 1) (row_one (w.alloc (.cells #[.slice A l.length c] 22)) (A, c, l) (hr.alloc hB _) (by simp; omega)) rfl (by decide) (fun r hr' => by rw [List.mem_singleton.1 hr']; exact ⟨hwf, by show l.length ≤ _; omega⟩) hz (R := fun A' n' c' w' => OwnI w' w.heap.size (.slice A' n' c') (short l) ∧ Below w.heap.size w w')
    (h1.mono fun e w' ⟨A', n', c', he, hc, ho, hb⟩ => ⟨A', n', c', he, hc, ho.lower (by simp; omega), hb0.trans (hb.mono (by simp; omega))⟩)
  rw [World.size_alloc] at hM
  have HM := Lib.hid hM
  have hsl : (short l).length ≤ 4096 := by
    have := onl_len_le l []
    unfold short
    simp at this
    omega
  have Hsl := Lib.hid hsl
  clear hM hr h1 hb0
  go_enter Tryd.func15, Tryd.ntmps15
  go_wp2_with fail
  refine HM.out.mono ?_
  rintro e w2 ⟨A2, n2, c2, ⟨ho, hb⟩, hcase⟩
  have Ho := Lib.hid (And.intro ho hb)
  have hn2 := ho.len
  rcases hcase with ⟨h, rfl⟩ | ⟨h, rfl⟩
  · clear ho hb
    have Hn2 := Lib.hid hn2
    clear hn2
    go_wp2_with fail
    go_ret2
    exact ⟨A2, n2, rfl, ⟨Hn2.out.1, c2, Ho.out.1, Hn2.out.2.1⟩, Ho.out.2⟩
  · exfalso
    have := Hsl.out
    omega
end Go.Proofs.YtmjnhpagoboejaaDoor

/- slices.Backward over ints; words.back. -/
namespace Go.Proofs.YtmjnhpagoboejaaDoor
open Go.RowKit Go.Shelf
open Wd
set_option linter.unusedSimpArgs false
set_option linter.unusedVariables false
attribute [local go_sem] Oper.semAt_some

/-- a place and a letter -/
abbrev PL := { x : Nat × Int // -64 ≤ x.2 ∧ x.2 ≤ 64 }
def upto (f : Nat → PL) (k : Nat) : List PL := (List.range k).map f
theorem upto_succ (f : Nat → PL) (k : Nat) : upto f (k + 1) = upto f k ++ [f k] := by simp [upto, List.range_succ]
theorem upto_length (f : Nat → PL) (k : Nat) : (upto f k).length = k := by simp [upto]
theorem get_small {zs : List Int} (h : LetL zs) (k : Nat) : -64 ≤ zs[k]?.getD 1 ∧ zs[k]?.getD 1 ≤ 64 := by
  rcases Nat.lt_or_ge k zs.length with hk | hk
  · rw [List.getElem?_eq_getElem hk]
    have := h zs[k] (List.getElem_mem hk)
    exact ⟨this.2.1, this.2.2⟩
  · rw [List.getElem?_eq_none hk]
    exact ⟨by decide, by decide⟩
/-- what comes in round k: from the end on -/
def rev (zs : List Int) (h : LetL zs) (len k : Nat) : PL := ⟨(len - 1 - k, zs[len - 1 - k]?.getD 1), get_small h _⟩
def KeepB (n₀ Bs : Nat) (A B : World) : Prop := Below n₀ A B ∧ B.heap[Bs]? = A.heap[Bs]?
theorem KeepB.trans {n₀ Bs : Nat} {A B C : World} (h : KeepB n₀ Bs A B) (k : KeepB n₀ Bs B C) : KeepB n₀ Bs A C := ⟨h.1.trans k.1, k.2.trans h.2⟩
theorem keep_cell {n₀ Bs : Nat} {A B : World} (h : KeepB n₀ Bs A B) {v : Value} (hb : A.cell? ⟨Bs, 0, none⟩ = some v) : B.cell? ⟨Bs, 0, none⟩ = some v := (World.cell?_of_block (a := ⟨Bs, 0, none⟩) h.2).trans hb

set_option maxRecDepth 100000 in
set_option maxHeartbeats 2000000 in
theorem backward1_in (F : Fence) (n : Nat) (h95 : F.fn 95) (hro : F.round = none) (hn : 1 ≤ n) (l Bs n₀ b off len cap : Nat) (zs : List Int) (hz : LetL zs) (hreach : len ≤ 1000000000) (hb : b < n₀) (J Jx : List PL → World → Prop)
    (hY : ∀ pre (x : PL) W, J pre W → pre.length < len → YieldAt F (n - 1) Tryd.prog l #[.int .i64 (x.1.1 : Int), .int .i64 x.1.2] W fun e W' =>
      (e = .returned (.bool true) ∧ J (pre ++ [x]) W' ∧ KeepB n₀ Bs W W') ∨ (e = .returned (.bool false) ∧ Jx (pre ++ [x]) W'))
    (W : World) (hBs : W.cell? ⟨Bs, 0, none⟩ = some (.slice (some ⟨b, off, none⟩) len cap)) (hc : ∀ j, j < len → W.cell? ⟨b, off + j, none⟩ = some (.int .i64 (zs[j]?.getD 1))) (h0 : J [] W) :
    CallsIn F n Tryd.prog 95 #[.func (.yield l) #[] #[], .pointer (some ⟨Bs, 0, none⟩)] W fun e W' => (∃ v, e = .returned v) ∧
      ((∃ ys, ys = upto (rev zs hz len) len ∧ J ys W') ∨ (∃ pre, (∃ k, k ≤ len ∧ pre = upto (rev zs hz len) k) ∧ Jx pre W')) := by
  refine callsIn_of_wp Tryd.func95 rfl h95 ?_ hro
  simp only [Tryd.ntmps95, List.size_toArray, List.length_cons, List.length_nil, Nat.reduceAdd, Nat.reduceSub, Array.replicate_succ, Array.replicate_zero, List.push_toArray, List.append_toArray, List.nil_append, List.cons_append]
  gi_wp2
  gi_loopw [3] (fun i wr => ∃ k : Nat, k ≤ len ∧ i = .int .i64 ((len : Int) - 1 - (k : Int)) ∧ J (upto (rev zs hz len) k) wr ∧ KeepB n₀ Bs W wr)
    (fun i _ => (intOf i + 1).toNat)
  case atStart => exact ⟨0, Nat.zero_le _, by simp, h0, Below.refl _ _, rfl⟩
  case round =>
    obtain ⟨k, hk, rfl, hJs, hnx⟩ := hrel
    have hBs' := keep_cell hnx hBs
    by_cases hlt : k < len
    · have hcx : wr.cell? ⟨b, off + (len - 1 - k), none⟩ = some (.int .i64 (zs[len - 1 - k]?.getD 1)) := (hnx.1.cell (p := ⟨b, off + (len - 1 - k), none⟩) hb).trans (hc _ (by omega))
      obtain ⟨fn, tmps, assign, body, hy, hR⟩ := hY _ (rev zs hz len k) wr hJs (by rw [upto_length]; exact hlt)
      dsimp only [rev] at hy
      have hi0 : (0 : Int) ≤ (len : Int) - 1 - (k : Int) := by omega
      have hi1 : (len : Int) - 1 - (k : Int) < (len : Int) := by omega
      have hi2 : ((len : Int) - 1 - (k : Int)).toNat = len - 1 - k := by omega
      have hi3 : (((len - 1 - k : Nat)) : Int) = (len : Int) - 1 - (k : Int) := by omega
      rw [hi3] at hy
      gi_wp2
      refine hR.mono ?_
      rintro e W3 (⟨rfl, hJ3, hk3⟩ | ⟨rfl, hJx3⟩)
      · gi_wp2
        go_roundw
        case rel => exact ⟨k + 1, by omega, by congr 1; omega, by rw [upto_succ]; exact hJ3, hnx.trans hk3⟩
        case measure => simp [intOf]; omega
      · gi_wp2
        refine bodyPost_ret (results_none rfl _ _ _) rfl ?_
        exact ⟨⟨_, rfl⟩, .inr ⟨_, ⟨k + 1, by omega, (upto_succ _ _).symm⟩, hJx3⟩⟩
    · obtain rfl : k = len := by omega
      gi_wp2
      go_end0
      exact ⟨⟨_, rfl⟩, .inl ⟨_, rfl, hJs⟩⟩
set_option maxRecDepth 100000 in
set_option maxHeartbeats 1000000 in
/-- no letters: no round -/
theorem backward1_nil (F : Fence) (n : Nat) (h95 : F.fn 95) (hro : F.round = none) (l Bs : Nat) (A : Option Addr) (cap : Nat) (J : List PL → World → Prop) (W : World) (hBs : W.cell? ⟨Bs, 0, none⟩ = some (.slice A 0 cap)) (h0 : J [] W) :
    CallsIn F n Tryd.prog 95 #[.func (.yield l) #[] #[], .pointer (some ⟨Bs, 0, none⟩)] W fun e W' => (∃ v, e = .returned v) ∧ J [] W' := by
  refine callsIn_of_wp Tryd.func95 rfl h95 ?_ hro
  simp only [Tryd.ntmps95, List.size_toArray, List.length_cons, List.length_nil, Nat.reduceAdd, Nat.reduceSub, Array.replicate_succ, Array.replicate_zero, List.push_toArray, List.append_toArray, List.nil_append, List.cons_append]
  gi_wp2
  gi_loopw [3] (fun i wr => i = .int .i64 (-1) ∧ J [] wr) (fun _ _ => 0)
  case atStart => exact ⟨by simp, h0⟩
  case round =>
    obtain ⟨rfl, hJs⟩ := hrel
    gi_wp2
    go_end0
    exact ⟨⟨_, rfl⟩, hJs⟩
set_option maxHeartbeats 1000000 in
/-- slices.Backward(s): the slice is boxed -/
theorem backward_in (F : Fence) (n : Nat) (h86 : F.fn 86) (hro : F.round = none) (a : Option Addr) (len cap : Nat) (w : World) :
    CallsIn F n Tryd.prog 86 #[.slice a len cap] w fun e w' => e = .returned (.func (.func 95) #[] #[.pointer (some ⟨w.heap.size, 0, none⟩)]) ∧ w' = w.alloc (.cells #[.slice a len cap] 22) := by
  refine callsIn_of_wp Tryd.func86 rfl h86 ?_ hro
  simp only [Tryd.ntmps86, List.size_toArray, List.length_cons, List.length_nil, Nat.reduceAdd, Nat.reduceSub, Array.replicate_succ, Array.replicate_zero, List.push_toArray, List.append_toArray, List.nil_append, List.cons_append]
  gi_wp2
  go_ret
  exact ⟨rfl, rfl⟩
theorem spot_none {w : World} {ad : Addr} {v : Value} (h : w.cell? ad = some v) : ∃ b o, ad = ⟨b, o, none⟩ := by
  obtain ⟨b, o, s⟩ := ad
  have := World.cell?_spot h
  simp at this
  subst this
  exact ⟨b, o, rfl⟩
/-- what slices.Backward(s) hands back: all letters from the end on -/
theorem backward_stops (F : Fence) (n : Nat) (h95 : F.fn 95) (hro : F.round = none) (hn : 1 ≤ n) (Bs n₀ : Nat) (A : Option Addr) (cap : Nat) (zs : List Int) (hz : LetL zs) (hreach : zs.length ≤ 1000000000) (w : World) (hBs : Bs < w.heap.size) (hn₀ : n₀ ≤ w.heap.size)
    (hc : w.cell? ⟨Bs, 0, none⟩ = some (.slice A zs.length cap)) (hr : ReadsI w n₀ A zs) :
    SeqStopsK F n Tryd.prog 95 #[.pointer (some ⟨Bs, 0, none⟩)] (fun x : PL => #[Value.int .i64 (x.1.1 : Int), Value.int .i64 x.1.2]) (KeepB n₀ Bs) (fun ys => ys = upto (rev zs hz zs.length) zs.length) (fun _ => True) zs.length w := fun l J Jx W hW _ _ hY h0 => by
  have hc' := (hW.cell (p := ⟨Bs, 0, none⟩) hBs).trans hc
  have hr' := hr.below (hW.mono hn₀)
  rcases Nat.eq_zero_or_pos zs.length with h | h
  · rw [h] at hc'
    refine (backward1_nil F n h95 hro l Bs A cap J W hc' h0).mono fun e W' ⟨he, hj⟩ => ⟨he, .inl ⟨[], ?_, hj⟩⟩
    rw [h]; rfl
  · obtain ⟨ad, rfl, hb, c0⟩ := hr'.at_ h
    have c0' := c0
    rw [Addr.add_zero'] at c0'
    obtain ⟨b, off, rfl⟩ := spot_none c0'
    refine (backward1_in F n h95 hro hn l Bs n₀ b off zs.length cap zs hz hreach hb J Jx hY W hc' (fun j hj => ?_) h0).mono ?_
    · obtain ⟨ad', e, _, cj⟩ := hr'.at_ hj
      injection e with e
      subst e
      rw [Addr.add_lit] at cj
      rw [cj, List.getElem?_eq_getElem hj]
      rfl
    · rintro e W' ⟨he, ⟨ys, rfl, hj⟩ | ⟨pre, _, hj⟩⟩
      · exact ⟨he, .inl ⟨_, rfl, hj⟩⟩
      · exact ⟨he, .inr ⟨_, trivial, hj⟩⟩
theorem upto_inv (zs : List Int) (hz : LetL zs) : (upto (rev zs hz zs.length) zs.length).map (fun x => -x.1.2) = inv zs := by
  unfold upto inv
  rw [List.map_map]
  apply List.ext_getElem
  · simp
  · intro i h1 h2
    simp only [List.length_map, List.length_range] at h1
    simp only [List.getElem_map, List.getElem_range, Function.comp, rev, List.getElem_reverse, List.length_map]
    rw [List.getElem?_eq_getElem (by omega)]
    rfl

set_option maxRecDepth 100000 in
set_option maxHeartbeats 2000000 in
/-- words.back -/
theorem back_in (F : Fence) (n : Nat) (h56 : F.fn 56) (h86 : F.fn 86) (h95 : F.fn 95) (hro : F.round = none) (hn : 3 ≤ n) (A : Option Addr) (cap : Nat) (zs : List Int) (hz : LetL zs) (hlen : zs.length ≤ 100000000) (w : World) {B : Nat} (hr : ReadsI w B A zs) (hB : B ≤ w.heap.size) :
    CallsIn F n Tryd.prog 56 #[.slice A zs.length cap] w fun e W' => ∃ v, e = .returned v ∧ OwnI W' w.heap.size v (inv zs) ∧ Below w.heap.size w W' := by
  have h1 : 1 ≤ n := by omega
  obtain ⟨i0, hi, hz0, hz1, hz2⟩ := info_parts infoI
  have hmk : ∀ W : World, (Instr.makeSlice 22 (.int .i64 0) (.int .i64 (zs.length : Int))).run Tryd.prog W = .ok (.slice (some ⟨W.heap.size, 0, none⟩) 0 zs.length) (W.alloc (.cells ((List.replicate zs.length (0 : Int)).map iv).toArray 3)) := fun W => by
    exact run_makeI 0 zs.length (Nat.zero_le _) (by omega) W
  refine callsIn_of_wp_marks Tryd.func56 rfl h56 ?_ hro
  simp only [Tryd.ntmps56, List.size_toArray, List.length_cons, List.length_nil, Nat.reduceAdd, Nat.reduceSub, Array.replicate_succ, Array.replicate_zero, List.push_toArray, List.append_toArray, List.nil_append, List.cons_append]
  gi_wp2_with (gi_at_call 86; refine (backward_in F (n - 1) h86 hro _ _ _ _).mono ?_; rintro e w' ⟨rfl, rfl⟩)
  have bR := Boxed.new (w.alloc (.cells (Array.replicate zs.length (iv 0)) 3)) 22 (.slice (some ⟨w.heap.size, 0, none⟩) 0 zs.length)
  have bS := Boxed.new ((w.alloc (.cells (Array.replicate zs.length (iv 0)) 3)).alloc (.cells #[.slice (some ⟨w.heap.size, 0, none⟩) 0 zs.length] 22)) 22 (.slice A zs.length cap)
  rw [World.size_alloc] at bR
  rw [World.size_alloc, World.size_alloc] at bS
  have hB0 : Below w.heap.size w (((w.alloc (.cells (Array.replicate zs.length (iv 0)) 3)).alloc (.cells #[.slice (some ⟨w.heap.size, 0, none⟩) 0 zs.length] 22)).alloc (.cells #[.slice A zs.length cap] 22)) := (((Below.refl _ w).alloc (Nat.le_refl _) _).alloc (by simp) _).alloc (by simp; omega) _
  have hrow0 : (w.alloc (.cells (Array.replicate zs.length (iv 0)) 3)).ownsRow w.heap.size 3 1 (.slice (some ⟨w.heap.size, 0, none⟩) 0 zs.length) 0 [] := ⟨rfl, .inr ⟨_, zs.length, _, rfl, Nat.le_refl _, heap_alloc_new w _, Nat.zero_le _, by unfold maxLen; omega, by simp, by simp⟩⟩
  refine wpIn_rangeFunc_ownG hro h1 (gf := 95) (lb := #[.pointer (some ⟨w.heap.size + 1 + 1, 0, none⟩)]) rfl h95 (enters_of Tryd.func95 (by kernel_rfl) rfl)
    (backward_stops F (n - 1) h95 hro (by omega) (w.heap.size + 1 + 1) w.heap.size A cap zs hz (by omega) _ (by simp) (by simp; omega) bS.cell ((hr.below (hB0.mono hB)).more hB)) KeepB.trans (fun W l o o' hl ho hc hw => ⟨belowK_b (n₀ := w.heap.size) (by simp; omega) W l o o' hl ho hc hw, (belowK_b (n₀ := w.heap.size + 1 + 1 + 1) (by simp) W l o o' hl ho hc hw).block _ (by omega)⟩) (Below.refl _ _) (fun _ => rfl)
    (fun pre W => ((∃ v, Boxed W (w.heap.size + 1) 22 v ∧ W.ownsRow w.heap.size 3 1 v pre.length (pre.map (fun x => Value.int .i64 (-x.1.2))) ∧ True) ∧ Boxed W (w.heap.size + 1 + 1) 22 (.slice A zs.length cap)) ∧ Below w.heap.size w W)
    (fun _ _ _ => False)
    (OwnFrom.and (OwnFrom.and (Own.from (holdsRow_own w.heap.size (w.heap.size + 1) 22 3 1 (fun pre : List PL => pre.length) (fun pre => pre.map (fun x => Value.int .i64 (-x.1.2))) (fun _ _ => True)) _) (Own.from (boxed_own _ _ _) _)) (ownFrom_below (Nat.le_refl _) (by simp; omega)))
    (fun _ _ _ _ _ hs _ _ => hs)
    ⟨⟨⟨_, bR.alloc _, (hrow0.alloc _).alloc _, trivial⟩, bS⟩, hB0⟩
    (fun x => { tmps := #[.slice A zs.length cap, undef, .slice none 0 0, .pointer (some ⟨w.heap.size + 1, 0, none⟩), undef, .int .i64 x.1.2, .slice A zs.length cap, .int .i64 (zs.length : Int), .slice (some ⟨w.heap.size, 0, none⟩) 0 zs.length, .slice A zs.length cap, .func (.func 95) #[] #[.pointer (some ⟨w.heap.size + 1 + 1, 0, none⟩)], .int .i64 (x.1.1 : Int), .int .i64 x.1.2, undef, undef, undef, undef, undef, undef, undef], defers := [] }) ?assign ?body ?done ?stop
  case assign =>
    intro l x W K hK
    gi_wp2
    exact hK
  case body =>
    rintro l pre x W ⟨⟨⟨v, hv, hrow, _⟩, hbs⟩, hB⟩ hlt
    have hc := hv.cell
    obtain ⟨⟨i, k⟩, hk1, hk2⟩ := x
    dsimp only at *
    have hbd : W.ownsRow w.heap.size 3 1 v pre.length (pre.map (fun x => Value.int .i64 (-x.1.2))) := hrow
    gi_wp2_with (gi_at_builtin; refine wpListIn_append_own _ rfl _ _ 22 rfl w.heap.size 3 i0 (.int .i64 0) 1 8 Tryd.underlying22 hi hz0 hz1 hz2 rfl (by decide) _ _ _ rfl (hrow.alloc _) ⟨W.heap.size, 0, none⟩ 1 1 [.int .i64 (-k)] rfl rfl (cell_one_new _ _ _) (by simp [Value.oneCell']) (by unfold maxLen; omega) (by omega) (by have := hB.size; simp; omega) ?_; intro v' w1 hown' hgrow _; obtain ⟨g', cap', rfl⟩ := ownsRow_succ hown'; obtain ⟨hv1, hv2, hr2, hk2, hb2⟩ := hv.appended (by decide) hrow hB.size (by omega) hown' hgrow; have hc1 := hv1.cell; have hf1 := hv1.frozen)
    have hne := own_blk_ne hbd (show Blk W (w.heap.size + 1 + 1) 22 _ from hbs) (by decide)
    have hlt2 := (Array.getElem?_eq_some_iff.1 (show W.heap[w.heap.size + 1 + 1]? = _ from hbs)).1
    have hBs : (w1.setCell ⟨w.heap.size + 1, 0, none⟩ (.slice (some ⟨g', 0, none⟩) (pre.length + 1) cap')).heap[w.heap.size + 1 + 1]? = W.heap[w.heap.size + 1 + 1]? :=
      (Below.heap_setCell w1 ⟨w.heap.size + 1, 0, none⟩ _ _ (by show w.heap.size + 1 + 1 ≠ w.heap.size + 1; omega)).trans ((hgrow.block _ (by simp; omega) (fun e => hne e.symm)).trans (Below.heap_alloc W _ _ hlt2))
    exact ⟨hk2.from _, ⟨hb2, hBs⟩, ⟨⟨⟨_, hv2, by simpa using hr2, trivial⟩, hBs.trans hbs⟩, hB.trans hb2⟩⟩
  case done =>
    rintro D ys W hD rfl ⟨⟨⟨v, hv, hrow, _⟩, hbs⟩, hB⟩ hK
    have hc := hv.cell
    rw [upto_length] at hrow
    have hrow2 : OwnI W w.heap.size v (inv zs) := by
      unfold OwnI
      rw [inv_len, ← upto_inv zs hz, List.map_map]
      exact hrow
    gi_wp2
    refine ⟨by simp, .inl ⟨_, _, rfl, run_takeDeferred hK, ?_⟩⟩
    exact ⟨_, results_tmp rfl _ _ _, v, rfl, ownsRow_putObj hrow2 _ hK rfl, hB.trans (belowK_b (w := w) (Nat.le_refl _) W D _ _ (by simp at hD; omega) hK rfl rfl)⟩
  case stop =>
    rintro D c pre W _ _ h _
    exact h.elim
theorem back_any {w : World} {B n c : Nat} {A : Option Addr} {l : List Int} (hr : ReadsI w B A l) (hB : B ≤ w.heap.size) (hn : n = l.length) (hl : LetL l) (hnl : n ≤ 100000000) :
    Calls Tryd.prog 56 #[.slice A n c] w (fun e w' => ∃ A' c', e = .returned (.slice A' l.length c') ∧ OwnI w' w.heap.size (.slice A' l.length c') (inv l) ∧ Below w.heap.size w w') := by
  subst hn
  refine (callsIn_wide (n := 3)).1 ((back_in Fence.wide 3 trivial trivial trivial rfl (Nat.le_refl _) A c l hl hnl w hr hB).mono ?_)
  rintro e w' ⟨v, rfl, ho, hb⟩
  obtain ⟨A', c', rfl, _⟩ := ho.form
  rw [inv_len] at ho ⊢
  exact ⟨A', c', rfl, ho, hb⟩
end Go.Proofs.YtmjnhpagoboejaaDoor

/- words.Inverse. -/
namespace Go.Proofs.YtmjnhpagoboejaaDoor
open Go.RowKit
open Wd
set_option linter.unusedSimpArgs false
set_option linter.unusedVariables false

set_option maxRecDepth 100000 in
theorem inv1_any {w : World} {B n c g : Nat} {A : Option Addr} {l : List Int} (hb : Blk w g 22 #[.slice A n c]) (hr : ReadsI w B A l) (hB : B ≤ w.heap.size) (hn : n = l.length) (hl : LetL l) (hnl : n ≤ 100000000) :
    Calls Tryd.prog 55 #[.pointer (some ⟨g, 0, none⟩)] w (fun e w' => ∃ A' n' c', e = .returned (.slice A' n' c') ∧ n' ≤ c' ∧ OwnI w' w.heap.size (.slice A' n' c') (inv l) ∧ Below w.heap.size w w') := by
  have HO := Lib.hid (back_any (c := c) hr hB hn hl hnl)
  have c0 : w.cell? ⟨g, 0, none⟩ = some (.slice A n c) := hb.cell 0
  clear hb hr hn hl
  go_enter Tryd.func55, Tryd.ntmps55
  go_wp2_with fail
  refine HO.out.mono ?_
  rintro e w2 ⟨A2, c2, rfl, ho, hbel⟩
  have hlen := ho.len.2.1
  have Ho := Lib.hid (And.intro hlen (And.intro ho hbel))
  clear ho hbel hlen
  go_wp2_with fail
  go_ret
  exact ⟨A2, _, c2, rfl, Ho.out.1, Ho.out.2.1, Ho.out.2.2⟩
set_option maxRecDepth 100000 in
theorem inverse_bad {w : World} {B n c : Nat} {A : Option Addr} {l : List Int} (hr : ReadsI w B A l) (hB : B ≤ w.heap.size) (hn : n = l.length) (hw : Wf l) (hnl : n ≤ 1000000000000) (hz : chk [l] ≠ 0) :
    Calls Tryd.prog 16 #[.slice A n c] w (fun e w' => e = .returned (.tuple #[.slice none 0 0, .int .i64 (chk [l])]) ∧ Below w.heap.size w w') := by
  subst hn
  have hM := made_bad (w := (w.alloc (.cells #[.slice A l.length c] 22)).alloc (.cells #[.slice A l.length c] 22)) (n := 1) (c := 1) (fv := .func (.func 55) #[] #[.pointer (some ⟨w.heap.size, 0, none⟩)]) (row_one (w.alloc (.cells #[.slice A l.length c] 22)) (A, c, l) (hr.alloc hB _) (by simp; omega)) rfl (by decide) (fun r hr' => by rw [List.mem_singleton.1 hr']; exact ⟨hw, hnl⟩) hz
  rw [World.size_alloc] at hM
  have HM := Lib.hid hM
  have Hb := Lib.hid (((Below.refl w.heap.size w).alloc (Nat.le_refl _) (.cells #[.slice A l.length c] 22)).alloc (by simp) (.cells #[.slice A l.length c] 22))
  simp only [List.map_cons, List.map_nil] at HM
  generalize chk [l] = z at *
  clear hM hr
  go_enter Tryd.func16, Tryd.ntmps16
  go_wp2_with fail
  refine HM.out.mono ?_
  rintro e w' ⟨rfl, rfl⟩
  go_wp2_with fail
  go_ret2
  exact ⟨rfl, Hb.out⟩
set_option maxRecDepth 100000 in
theorem inverse_ok {w : World} {B n c : Nat} {A : Option Addr} {l : List Int} (hr : ReadsI w B A l) (hB : B ≤ w.heap.size) (hn : n = l.length) (hz : chk [l] = 0) :
    Calls Tryd.prog 16 #[.slice A n c] w (fun e w' => ∃ A' n', e = .returned (.tuple #[.slice A' n' n', .int .i64 0]) ∧ ResI w' w.heap.size A' n' (inv l) ∧ Below w.heap.size w w') := by
  obtain ⟨hw, hlen⟩ := chk_one.1 hz
  have hlet := word_let hw
  subst hn
  have hwf : Wf l := fun k hk => by have := hlet k hk; omega
  have hb0 := ((Below.refl w.heap.size w).alloc (Nat.le_refl _) (.cells #[.slice A l.length c] 22)).alloc (by simp) (.cells #[.slice A l.length c] 22)
  have h1 := inv1_any (w := (w.alloc (.cells #[.slice A l.length c] 22)).alloc (.cells #[.slice A l.length c] 22)) ((Blk.new w 22 #[.slice A l.length c]).alloc _) ((hr.alloc hB _).alloc (by simp; omega) _) (by simp; omega) rfl hlet (by omega)
  have hM := made_ok55 (n := 1) (c := 1) (row_one (w.alloc (.cells #[.slice A l.length c] 22)) (A, c, l) (hr.alloc hB _) (by simp; omega)) rfl (by decide) (fun r hr' => by rw [List.mem_singleton.1 hr']; exact ⟨hwf, by show l.length ≤ _; omega⟩) hz (R := fun A' n' c' w' => OwnI w' w.heap.size (.slice A' n' c') (inv l) ∧ Below w.heap.size w w')
    (h1.mono fun e w' ⟨A', n', c', he, hc, ho, hb⟩ => ⟨A', n', c', he, hc, ho.lower (by simp; omega), hb0.trans (hb.mono (by simp; omega))⟩)
  rw [World.size_alloc] at hM
  have HM := Lib.hid hM
  have hsl : (inv l).length ≤ 4096 := by rw [inv_len]; exact hlen
  have Hsl := Lib.hid hsl
  clear hM hr h1 hb0
  go_enter Tryd.func16, Tryd.ntmps16
  go_wp2_with fail
  refine HM.out.mono ?_
  rintro e w2 ⟨A2, n2, c2, ⟨ho, hb⟩, hcase⟩
  have Ho := Lib.hid (And.intro ho hb)
  have hn2 := ho.len
  rcases hcase with ⟨h, rfl⟩ | ⟨h, rfl⟩
  · clear ho hb
    have Hn2 := Lib.hid hn2
    clear hn2
    go_wp2_with fail
    go_ret2
    exact ⟨A2, n2, rfl, ⟨Hn2.out.1, c2, Ho.out.1, Hn2.out.2.1⟩, Ho.out.2⟩
  · exfalso
    have := Hsl.out
    omega
end Go.Proofs.YtmjnhpagoboejaaDoor
