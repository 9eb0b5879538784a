import Derived.Below
import Derived.Laws.OwnMore
import Derived.Deep.AppendLies
import Derived.Deep.Draws
import Derived.Laws.Rows
import Derived.Maps.AppendAt
import Derived.RegionTactic
import Derived.OwnWalk
import Derived.Deep.QuietTactic
import Derived.Deep.OwnRows
import Derived.Laws.MakeOwn
import Derived.Laws.Entries
import Derived.Laws.BitsAllLaws
import Derived.Laws.BitsLemmas
import Derived.ChangeSame
import Derived.Tactics
import Derived.Lib.Hide
import Derived.Test.YtebpggfccljagaaGreatProg
import Derived.WalkKit
import Derived.WalkLawsBesides
import Derived.WalkSpells
import Derived.Handy
import Derived.Deep.LoopGhost
import Derived.IntWalk
namespace Go.Proofs.YtebpggfccljagaaGreat
open Go.RowKit Go.WideShapes Go.ChangeShapes
theorem block_of_add (a : Addr) (n : Nat) : (a.add n).block = a.block := by unfold Addr.add; split <;> rfl
theorem add_of_add (a : Addr) (i j : Nat) : (a.add i).add j = a.add (i + j) := by
 unfold Addr.add
 by_cases hi : i = 0 <;> by_cases hj : j = 0 <;> simp [hi, hj, Nat.add_assoc]
def Reads (w : World) (B size : Nat) (A : Option Addr) (n : Nat) (xs : List Value) : Prop :=
 xs.length = n * size ∧ (0 < n → ∃ ad, A = some ad ∧ ad.block < B ∧ ∀ j u, xs[j]? = some u → w.cell? (ad.add j) = some u)
section
variable {w w' : World} {B B' size n : Nat} {A : Option Addr} {xs : List Value}
theorem Reads.none_ : Reads w B size A 0 [] := ⟨by simp, fun h => absurd h (by omega)⟩
theorem Reads.at_ {k : Nat} (h : Reads w B 1 A n xs) (hk : k < n) : ∃ ad u, A = some ad ∧ ad.block < B ∧ xs[k]? = some u ∧ w.cell? (ad.add k) = some u := by
 obtain ⟨ad, e, hb, hc⟩ := h.2 (by omega)
 have hl : k < xs.length := by have := h.1; omega
 exact ⟨ad, xs[k], e, hb, List.getElem?_eq_getElem hl, hc k _ (List.getElem?_eq_getElem hl)⟩
theorem Reads.keep (h : Reads w B size A n xs) (hk : ∀ p : Addr, p.block < B → w'.cell? p = w.cell? p) : Reads w' B size A n xs :=
 ⟨h.1, fun hn => by
  obtain ⟨ad, e, hb, hc⟩ := h.2 hn
  exact ⟨ad, e, hb, fun j u hu => (hk _ (by rw [block_of_add]; exact hb)).trans (hc j u hu)⟩⟩
theorem Reads.more (h : Reads w B size A n xs) (hB : B ≤ B') : Reads w B' size A n xs :=
 ⟨h.1, fun hn => by
  obtain ⟨ad, e, hb, hc⟩ := h.2 hn
  exact ⟨ad, e, by omega, hc⟩⟩
theorem Reads.below (h : Reads w B size A n xs) (hb : Below B w w') : Reads w' B size A n xs := h.keep fun _ hp => hb.cell hp
theorem Reads.of_own {base : Nat} {e : TypeId} {c : Nat} (h : w.ownsRow base e size (.slice A n c) n xs) : Reads w w.heap.size size A n xs := by
 refine ⟨h.1, fun hn => ?_⟩
 obtain ⟨g, cap, hv, _, hlt⟩ := h.form hn
 have hA : A = some ⟨g, 0, none⟩ := by injection hv
 subst hA
 exact ⟨_, rfl, hlt, h.cells (g := g) rfl⟩
end
def Blk (w : World) (g : Nat) (t : TypeId) (cs : Array Value) : Prop := w.heap[g]? = some (.cells cs t (0, 0))
section
variable {w w' : World} {g : Nat} {t : TypeId} {cs : Array Value}
theorem Blk.lt (h : Blk w g t cs) : g < w.heap.size := by
 rcases Nat.lt_or_ge g w.heap.size with hlt | hge
 ·exact hlt
 ·unfold Blk at h; rw [Array.getElem?_eq_none hge] at h; cases h
theorem Blk.cell (h : Blk w g t cs) (i : Nat) : w.cell? ⟨g, i, none⟩ = cs[i]? := cell_of_row w g i cs t (0, 0) h
theorem Blk.frozen (h : Blk w g t cs) (i : Nat) : w.frozen? ⟨g, i, none⟩ = false := by
 unfold Blk at h
 simp [World.frozen?, h]
theorem Blk.new (w : World) (t : TypeId) (cs : Array Value) : Blk (w.alloc (.cells cs t)) w.heap.size t cs := heap_alloc_new w _
theorem Blk.drew (h : Blk w g t cs) : Blk w.drew g t cs := h
theorem Blk.drewN (h : Blk w g t cs) (n : Nat) : Blk (w.drewN n) g t cs := h
theorem Blk.alloc (h : Blk w g t cs) (o : Obj) : Blk (w.alloc o) g t cs := (Below.heap_alloc w o g h.lt).trans h
theorem Blk.set_ (h : Blk w g t cs) (i : Nat) (u : Value) : Blk (w.setCell ⟨g, i, none⟩ u) g t (cs.setIfInBounds i u) := by
 unfold Blk at h ⊢
 simp [World.setCell, Array.getElem?_modify, h]
theorem Blk.far (h : Blk w g t cs) {p : Addr} (hp : g ≠ p.block) (u : Value) : Blk (w.setCell p u) g t cs := (Below.heap_setCell w p u g hp).trans h
theorem Blk.below {B : Nat} (h : Blk w g t cs) (hb : Below B w w') (hg : g < B) : Blk w' g t cs := (hb.block g hg).trans h
theorem Blk.grown {row : Option Nat} (h : Blk w g t cs) (hb : w.grownBy w' row) (hg : some g ≠ row) : Blk w' g t cs := (hb.block g h.lt hg).trans h
end
section
variable {P : Program} (w : World)
theorem run_append_of_nil (base : Nat) (t ty e : TypeId) (i : TypeInfo) (size : Nat) (ht : P.underlying t = some (.slice e)) (hi : P.info? e = some i)
  (v : Value) (n : Nat) (xs : List Value) (hown : w.ownsRow base e size v n xs) (c : Nat) : (Builtin.append_ #[t, t] ty #[v, .slice none 0 c]).run P w = .ok v w := by
 rcases hown.2 with ⟨rfl, rfl⟩ | ⟨g, cap, cur, rfl, _, _, hnc, _⟩
 ·simp [Builtin.append_, run_underlying ht, sizeOf, typeInfo, hi, Builtin.lenOf, Builtin.firstCells]
 ·simp [Builtin.append_, run_underlying ht, sizeOf, typeInfo, hi, Builtin.lenOf, Builtin.firstCells, hnc, storeCells]
theorem run_append_any (base : Nat) (t ty e : TypeId) (i : TypeInfo) (z : Value) (size bytes : Nat) (ht : P.underlying t = some (.slice e)) (hi : P.info? e = some i) (hz : i.zero = some z)
  (hsize : i.size = size) (hby : i.bytes = bytes) (hzs : z.cells.size = size) (hsz : 0 < size)
  (v : Value) (n : Nat) (xs : List Value) (hown : w.ownsRow base e size v n xs)
  (B : Nat) (A : Option Addr) (m c : Nat) (news : List Value) (hr : Reads w B size A m news) (h1 : ∀ u ∈ news, u.oneCell' = true)
  (h63 : n + m ≤ maxLen) (hbytes : (n + m) * bytes ≤ 140737488355328) (hbase : base ≤ w.heap.size) :
  ∃ v' w', (Builtin.append_ #[t, t] ty #[v, .slice A m c]).run P w = .ok v' w' ∧ w'.ownsRow base e size v' (n + m) (xs ++ news) ∧ w.grownBy w' v.ownBlock ∧
   (v'.ownBlock = v.ownBlock ∨ v'.ownBlock = some w.heap.size) := by
 rcases A with _ | ad
 ·have hm : m = 0 := by
   rcases Nat.eq_zero_or_pos m with h0 | h0
   ·exact h0
   ·obtain ⟨ad, h, _⟩ := hr.2 h0
    cases h
  subst hm
  have hn : news = [] := List.eq_nil_of_length_eq_zero (by simpa using hr.1)
  subst hn
  exact ⟨v, w, run_append_of_nil w base t ty e i size ht hi v n xs hown c, by simpa using hown, World.grownBy.refl w _, .inl rfl⟩
 ·have hcells : ∀ j u, news[j]? = some u → w.cell? (ad.add j) = some u := by
   intro j u hu
   rcases Nat.eq_zero_or_pos m with h0 | h0
   ·subst h0
    have hn : news = [] := List.eq_nil_of_length_eq_zero (by simpa using hr.1)
    subst hn
    simp at hu
   ·obtain ⟨ad', h, _, hc⟩ := hr.2 h0
    injection h with h
    subst h
    exact hc j u hu
  obtain ⟨v', w', hrun, h2, h3, _, h5⟩ := run_append_own_at (P := P) w base t ty e i z size bytes ht hi hz hsize hby hzs hsz v n xs hown ad m c news hr.1 hcells h1 h63 hbytes hbase
  exact ⟨v', w', hrun, h2, h3, h5⟩
theorem wp_append_any {o : Oper} {a : Act} {K : Act → World → Prop} {Q : Exit → Act → World → Prop} (s x : Operand) (t : TypeId)
  (ho : o.op = .call { callee := .builtin .append, args := #[s, x], argTypes := #[t, t] })
  (base : Nat) (e : TypeId) (i : TypeInfo) (z : Value) (size bytes : Nat) (ht : P.underlying t = some (.slice e)) (hi : P.info? e = some i) (hz : i.zero = some z)
  (hsize : i.size = size) (hby : i.bytes = bytes) (hzs : z.cells.size = size) (hsz : 0 < size)
  (v : Value) (n : Nat) (xs : List Value) (hs : a.eval s = v) (hown : w.ownsRow base e size v n xs)
  (B : Nat) (A : Option Addr) (m c : Nat) (news : List Value) (hx : a.eval x = .slice A m c) (hr : Reads w B size A m news) (h1 : ∀ u ∈ news, u.oneCell' = true)
  (h63 : n + m ≤ maxLen) (hbytes : (n + m) * bytes ≤ 140737488355328) (hbase : base ≤ w.heap.size)
  (h : ∀ v' w', w'.ownsRow base e size v' (n + m) (xs ++ news) → w.grownBy w' v.ownBlock → (v'.ownBlock = v.ownBlock ∨ v'.ownBlock = some w.heap.size) → K (a.put o.dst v') w') : o.wp P a w K Q := by
 obtain ⟨v', w', hrun, h2, h3, h4⟩ := run_append_any (P := P) w base t o.type e i z size bytes ht hi hz hsize hby hzs hsz v n xs hown B A m c news hr h1 h63 hbytes hbase
 unfold Oper.wp execOp
 simp only [ho, resolve, invoke, builtin, Sem.run_bind, Sem.run_pure, Result.andThen_ok, List.map_toArray, List.map_cons, List.map_nil, hs, hx, hrun]
 exact h v' w' h2 h3 h4
theorem wpList_append_any {ops : Array Oper} {rest : List Oper} {o : Oper} {a : Act} {Q : Exit → Act → World → Prop} (hgd : o.guard = none) (s x : Operand) (t : TypeId)
  (ho : o.op = .call { callee := .builtin .append, args := #[s, x], argTypes := #[t, t] })
  (base : Nat) (e : TypeId) (i : TypeInfo) (z : Value) (size bytes : Nat) (ht : P.underlying t = some (.slice e)) (hi : P.info? e = some i) (hz : i.zero = some z)
  (hsize : i.size = size) (hby : i.bytes = bytes) (hzs : z.cells.size = size) (hsz : 0 < size)
  (v : Value) (n : Nat) (xs : List Value) (hs : a.eval s = v) (hown : w.ownsRow base e size v n xs)
  (B : Nat) (A : Option Addr) (m c : Nat) (news : List Value) (hx : a.eval x = .slice A m c) (hr : Reads w B size A m news) (h1 : ∀ u ∈ news, u.oneCell' = true)
  (h63 : n + m ≤ maxLen) (hbytes : (n + m) * bytes ≤ 140737488355328) (hbase : base ≤ w.heap.size)
  (h : ∀ v' w', w'.ownsRow base e size v' (n + m) (xs ++ news) → w.grownBy w' v.ownBlock → (v'.ownBlock = v.ownBlock ∨ v'.ownBlock = some w.heap.size) → wpList P ops Q rest (a.put o.dst v') w') : wpList P ops Q (o :: rest) a w :=
 wpList_plain hgd fun _ hK => wp_append_any w s x t ho base e i z size bytes ht hi hz hsize hby hzs hsz v n xs hs hown B A m c news hx hr h1 h63 hbytes hbase fun v' w' h2 h3 h4 => hK _ _ (h v' w' h2 h3 h4)
end
theorem below_drewN {B : Nat} {a w : World} (h : Below B a w) (n : Nat) : Below B a (w.drewN n) := ⟨h.os, h.tape, h.output, h.size, h.block⟩
theorem only_setCell {a w : World} {g : Nat} (h : a.grownBy w (some g)) {p : Addr} (hp : p.block = g ∨ a.heap.size ≤ p.block) (u : Value) : a.grownBy (w.setCell p u) (some g) :=
 ⟨h.os, h.tape, h.output, by simpa [World.setCell] using h.size, fun i hi hne => (Below.heap_setCell w p u i (by
  rintro rfl
  rcases hp with hp | hp
  ·exact hne (by rw [hp])
  ·omega)).trans (h.block i hi hne)⟩
theorem run_make_rowN {P : Program} (t e : TypeId) (i : TypeInfo) (z : Value) (ht : P.underlying t = some (.slice e)) (hi : P.info? e = some i) (hz : i.zero = some z)
  (kl kc : IntKind) (n c : Nat) (hnc : n ≤ c) (hbytes : i.bytes * c ≤ 281474976710656) (h63 : c ≤ 9223372036854775807) (w : World) :
  (Instr.makeSlice t (.int kl (n : Int)) (.int kc (c : Int))).run P w = .ok (.slice (some ⟨w.heap.size, 0, none⟩) n c) (w.alloc (.cells (madeCells z.cells (c * i.size)) e)) := by
 have hb : (i.bytes : Int) * (c : Int) ≤ 281474976710656 := by
  have h : ((i.bytes * c : Nat) : Int) ≤ 281474976710656 := by omega
  rwa [Int.natCast_mul] at h
 have hr := run_make (P := P) w t e i z ht hi hz kl kc n c (by omega) (by omega) hb (by omega)
 simp only [Int.toNat_natCast] at hr
 exact hr
section
variable {H : Type} {enc : TypeId × Value → H} {P : Program}
theorem post_of_below {f : Func} {s : ChangeSpec} {apart fresh handsOn again : Bool} {W W' : World} {args : Array Value} {v : Value} {ds gs : List (DataW H)} {before pa pv : List MemPlace}
  (hW : DataW.Whole enc P f.params.toList s.vars apart W args.toList ds gs before)
  (hres : ∀ (b : Nat) (sp : Nat → Bool) (hd : Bool), DataW.TrodAll enc P W' b sp hd f.resultTypes.toList (v.resultList f.resultTypes.size) (s.fn H (ds ++ gs)).results [])
  (hargs : ∀ sp : Nat → Bool, (∀ p ∈ before, sp p.block = true) → DataW.TrodAll enc P W' 0 sp true f.params.toList args.toList (s.fn H (ds ++ gs)).args pa)
  (hvars : ∀ sp : Nat → Bool, (∀ p ∈ before, sp p.block = true) → DataW.TrodVars enc P W' sp s.vars (s.fn H (ds ++ gs)).vars pv)
  (hps : before = pa ++ pv) (hb : Below W.heap.size W W')
  (hok : ∀ (j : Nat) (t : TypeId) (r : Value), f.resultTypes[j]? = some t → (v.resultList f.resultTypes.size)[j]? = some r → Value.okWide P W' .any 0 t r) :
  s.post enc P f apart fresh handsOn again W args v W' := by
 have hlt : ∀ p ∈ before, p.block < W.heap.size := fun p hp => hW.lt p hp
 have hold : ∀ p ∈ before, (fun b => decide (b < W.heap.size)) p.block = true := fun p hp => by simpa using hlt p hp
 refine ⟨ds, gs, before, [], pa, pv, hW, hres _ _ _, hargs _ hold, hvars _ hold, World.keptBut_mono (fun p hp => ⟨hp, ?_⟩) (hb.frame (· ∈ before)), fun _ => ?_⟩
 ·rw [hps, List.mem_append] at hp
  exact Or.inr hp
 ·obtain ⟨_, _, _, _, _, hz, hn⟩ := hW
  refine ⟨hok, _, _, ([] ++ pa) ++ pv, ⟨[] ++ pa, pv, trodAll_append (hargs _ (fun _ _ => rfl)) (hres _ _ _), hvars _ (fun _ _ => rfl), rfl, ?_, ?_⟩, ?_⟩
  ·intro b off hp
   have hin : MemPlace.cell b off ∈ before := by rw [hps]; simpa using hp
   rw [hb.frozen (hlt _ hin)]
   exact hz b off hin
  ·intro ha
   have := hn ha
   rw [hps] at this
   simpa using this
  ·intro p hp _
   rw [hps]
   simpa using hp
end
end Go.Proofs.YtebpggfccljagaaGreat
namespace Go.Proofs.YtebpggfccljagaaGreat
namespace Wh
def val : List Nat → Nat
 | [] => 0
 | x :: r => x + 4294967296 * val r
def Wd (l : List Nat) : Prop := ∀ x ∈ l, x < 4294967296
def wds (n : Nat) : List Nat := if _h : n = 0 then [] else n % 4294967296 :: wds (n / 4294967296)
termination_by n
decreasing_by omega
theorem wds_zero : wds 0 = [] := by rw [wds]; simp
theorem wds_pos {n : Nat} (h : 0 < n) : wds n = n % 4294967296 :: wds (n / 4294967296) := by rw [wds, dif_neg (by omega)]
theorem val_nil : val [] = 0 := rfl
theorem val_cons (x : Nat) (r : List Nat) : val (x :: r) = x + 4294967296 * val r := rfl
theorem val_wds : ∀ (k n : Nat), n ≤ k → val (wds n) = n
 | 0, n, h => by
  have : n = 0 := by omega
  subst this
  rw [wds_zero]; rfl
 | k + 1, n, h => by
  by_cases h0 : n = 0
  ·subst h0; rw [wds_zero]; rfl
  ·rw [wds_pos (by omega), val_cons, val_wds k (n / 4294967296) (by omega)]
   omega
theorem val_w (n : Nat) : val (wds n) = n := val_wds n n (Nat.le_refl n)
theorem wd_wds : ∀ (k n : Nat), n ≤ k → Wd (wds n)
 | 0, n, h => by
  have : n = 0 := by omega
  subst this
  rw [wds_zero]; intro x hx; cases hx
 | k + 1, n, h => by
  by_cases h0 : n = 0
  ·subst h0; rw [wds_zero]; intro x hx; cases hx
  ·rw [wds_pos (by omega)]
   intro x hx
   rcases List.mem_cons.1 hx with rfl | hx
   ·exact Nat.mod_lt _ (by decide)
   ·exact wd_wds k (n / 4294967296) (by omega) x hx
theorem wd_w (n : Nat) : Wd (wds n) := wd_wds n n (Nat.le_refl n)
theorem wd_nil : Wd [] := fun x hx => by cases hx
theorem wd_cons {x : Nat} {r : List Nat} : Wd (x :: r) ↔ x < 4294967296 ∧ Wd r :=
 ⟨fun h => ⟨h x List.mem_cons_self, fun y hy => h y (List.mem_cons_of_mem _ hy)⟩, fun ⟨h1, h2⟩ y hy => by
  rcases List.mem_cons.1 hy with rfl | hy
  ·exact h1
  ·exact h2 y hy⟩
theorem wd_append {a b : List Nat} : Wd (a ++ b) ↔ Wd a ∧ Wd b :=
 ⟨fun h => ⟨fun x hx => h x (List.mem_append_left _ hx), fun x hx => h x (List.mem_append_right _ hx)⟩, fun ⟨h1, h2⟩ x hx => by
  rcases List.mem_append.1 hx with hx | hx
  ·exact h1 x hx
  ·exact h2 x hx⟩
theorem wd_take {l : List Nat} (h : Wd l) (k : Nat) : Wd (l.take k) := fun x hx => h x (List.mem_of_mem_take hx)
theorem wd_drop {l : List Nat} (h : Wd l) (k : Nat) : Wd (l.drop k) := fun x hx => h x (List.mem_of_mem_drop hx)
theorem wd_get {l : List Nat} (h : Wd l) (i : Nat) (hi : i < l.length) : l[i] < 4294967296 := h _ (List.getElem_mem hi)
theorem val_append : ∀ (a b : List Nat), val (a ++ b) = val a + 4294967296 ^ a.length * val b
 | [], b => by simp [val_nil]
 | x :: a, b => by
  rw [List.cons_append, val_cons, val_cons, val_append a b, List.length_cons, Nat.pow_succ, Nat.mul_add, Nat.add_assoc, Nat.mul_comm (4294967296 ^ a.length) 4294967296, Nat.mul_assoc]
theorem val_snoc (a : List Nat) (x : Nat) : val (a ++ [x]) = val a + 4294967296 ^ a.length * x := by
 rw [val_append, val_cons, val_nil, Nat.mul_zero, Nat.add_zero]
theorem val_lt : ∀ {l : List Nat}, Wd l → val l < 4294967296 ^ l.length
 | [], _ => by simp [val_nil]
 | x :: r, h => by
  obtain ⟨h1, h2⟩ := wd_cons.1 h
  have := val_lt h2
  rw [val_cons, List.length_cons, Nat.pow_succ]
  omega
theorem val_take_succ {l : List Nat} {i : Nat} (h : i < l.length) : val (l.take (i + 1)) = val (l.take i) + 4294967296 ^ i * l[i] := by
 rw [List.take_succ_eq_append_getElem h, val_snoc, List.length_take, Nat.min_eq_left (by omega)]
theorem val_split (l : List Nat) (i : Nat) (h : i ≤ l.length) : val l = val (l.take i) + 4294967296 ^ i * val (l.drop i) := by
 conv => lhs; rw [← List.take_append_drop i l, val_append, List.length_take, Nat.min_eq_left h]
theorem wds_val : ∀ {l : List Nat}, Wd l → (∀ x, l.getLast? = some x → x ≠ 0) → wds (val l) = l
 | [], _, _ => wds_zero
 | x :: r, h, hn => by
  obtain ⟨h1, h2⟩ := wd_cons.1 h
  have hpos : 0 < val (x :: r) := by
   rw [val_cons]
   rcases r with _ | ⟨y, r'⟩
   ·have := hn x rfl
    omega
   ·have hr : wds (val (y :: r')) = y :: r' := wds_val h2 (fun z hz => hn z (by rw [List.getLast?_cons_cons]; exact hz))
    rcases Nat.eq_zero_or_pos (val (y :: r')) with h0 | h0
    ·rw [h0, wds_zero] at hr; cases hr
    ·omega
  have e1 : val (x :: r) % 4294967296 = x := by rw [val_cons]; omega
  have e2 : val (x :: r) / 4294967296 = val r := by rw [val_cons]; omega
  rw [wds_pos hpos, e1, e2]
  congr 1
  rcases r with _ | ⟨y, r'⟩
  ·exact wds_zero
  ·exact wds_val h2 (fun z hz => hn z (by rw [List.getLast?_cons_cons]; exact hz))
theorem wds_last : ∀ (k n : Nat), n ≤ k → ∀ x, (wds n).getLast? = some x → x ≠ 0
 | 0, n, h, x, hx => by
  have : n = 0 := by omega
  subst this
  rw [wds_zero] at hx; cases hx
 | k + 1, n, h, x, hx => by
  by_cases h0 : n = 0
  ·subst h0; rw [wds_zero] at hx; cases hx
  ·rw [wds_pos (by omega)] at hx
   rcases hw : wds (n / 4294967296) with _ | ⟨y, r⟩
   ·rw [hw] at hx
    have hd : n / 4294967296 = 0 := by
     have := val_w (n / 4294967296)
     rw [hw, val_nil] at this
     omega
    have e : n % 4294967296 = x := by simpa using hx
    omega
   ·rw [hw, List.getLast?_cons_cons, ← hw] at hx
    exact wds_last k (n / 4294967296) (by omega) x hx
theorem wds_cut {l : List Nat} (h : l.getLast? = some 0) : val l = val l.dropLast := by
 obtain ⟨r, rfl⟩ := List.getLast?_eq_some_iff.1 h
 rw [val_snoc, List.dropLast_concat, Nat.mul_zero, Nat.add_zero]
theorem wds_take : ∀ (k : Nat) (l : List Nat), l.length = k → Wd l → wds (val l) = l.take (wds (val l)).length ∧ (wds (val l)).length ≤ l.length
 | 0, l, hk, _ => by
  have := List.eq_nil_of_length_eq_zero hk
  subst this
  rw [val_nil, wds_zero]; exact ⟨rfl, Nat.le_refl _⟩
 | k + 1, l, hk, hw => by
  by_cases h0 : l.getLast? = some 0
  ·have e := wds_cut h0
   have hl : l.dropLast.length = k := by rw [List.length_dropLast]; omega
   obtain ⟨h1, h2⟩ := wds_take k l.dropLast hl (fun x hx => hw x (by rw [List.dropLast_eq_take] at hx; exact List.mem_of_mem_take hx))
   rw [e]
   refine ⟨?_, by omega⟩
   conv => lhs; rw [h1]
   rw [List.dropLast_eq_take, List.take_take, Nat.min_eq_left]
   rw [List.dropLast_eq_take] at h2
   rw [List.length_take] at h2
   omega
  ·have := wds_val hw (fun x hx hx0 => h0 (by rw [hx, hx0]))
   rw [this]
   exact ⟨(List.take_length).symm, Nat.le_refl _⟩
theorem len_wds {n k : Nat} (h : n < 4294967296 ^ k) : (wds n).length ≤ k := by
 rcases Nat.lt_or_ge k (wds n).length with hlt | hge
 ·exfalso
  have hv := val_w n
  have hs := val_split (wds n) k (by omega)
  have hd : val ((wds n).drop k) ≠ 0 := by
   intro h0
   have hw := wd_w n
   have hn := wds_last n n (Nat.le_refl n)
   have e := wds_val (wd_drop hw k) (fun x hx => hn x (by
    rw [← List.take_append_drop k (wds n), List.getLast?_append, hx]; rfl))
   rw [h0, wds_zero] at e
   have := congrArg List.length e
   rw [List.length_drop] at this
   simp at this
   omega
  have : 4294967296 ^ k ≤ 4294967296 ^ k * val ((wds n).drop k) := Nat.le_mul_of_pos_right _ (by omega)
  omega
 ·exact hge
theorem lt_of_len {n k : Nat} (h : (wds n).length ≤ k) : n < 4294967296 ^ k := by
 have h1 := val_lt (wd_w n)
 rw [val_w] at h1
 exact Nat.lt_of_lt_of_le h1 (Nat.pow_le_pow_right (by decide) h)
theorem len_mono {a b : Nat} (h : a ≤ b) : (wds a).length ≤ (wds b).length :=
 len_wds (Nat.lt_of_le_of_lt h (by have := val_lt (wd_w b); rwa [val_w] at this))
theorem lt_of_len_lt {a b : Nat} (h : (wds a).length < (wds b).length) : a < b := by
 rcases Nat.lt_or_ge a b with h1 | h1
 ·exact h1
 ·have := len_mono h1
  omega
theorem lt_top {a b : List Nat} {i : Nat} (ha : Wd a) (hl : a.length = b.length) (hi : i < a.length) (hd : a.drop (i + 1) = b.drop (i + 1)) (h : a[i] < b[i]) : val a < val b := by
 have h1 := val_split a i (by omega)
 have h2 := val_split b i (by omega)
 rw [List.drop_eq_getElem_cons hi, val_cons] at h1
 rw [List.drop_eq_getElem_cons (by omega), val_cons, ← hd] at h2
 have h3 := val_lt (wd_take ha i)
 rw [List.length_take, Nat.min_eq_left (by omega)] at h3
 rw [h1, h2]
 generalize val (a.drop (i + 1)) = t at *
 generalize 4294967296 ^ i = P at *
 have : P * (a[i] + 4294967296 * t) + P ≤ P * (b[i] + 4294967296 * t) := by
  rw [← Nat.mul_succ]
  exact Nat.mul_le_mul_left P (by omega)
 omega
theorem eq_of_val {a b : Nat} (h : wds a = wds b) : a = b := by rw [← val_w a, ← val_w b, h]
def at_ (l : List Nat) (i : Nat) : Nat := l.getD i 0
theorem at_lt {l : List Nat} (h : Wd l) (i : Nat) : at_ l i < 4294967296 := by
 unfold at_
 rw [List.getD_eq_getElem?_getD]
 rcases Nat.lt_or_ge i l.length with hi | hi
 ·rw [List.getElem?_eq_getElem hi]; exact wd_get h i hi
 ·rw [List.getElem?_eq_none hi]; decide
theorem val_take_at (l : List Nat) (i : Nat) : val (l.take (i + 1)) = val (l.take i) + 4294967296 ^ i * at_ l i := by
 unfold at_
 rw [List.getD_eq_getElem?_getD]
 rcases Nat.lt_or_ge i l.length with hi | hi
 ·rw [val_take_succ hi, List.getElem?_eq_getElem hi]; rfl
 ·rw [List.take_of_length_le (by omega), List.take_of_length_le hi, List.getElem?_eq_none hi]
  simp
theorem more_step {A B O c x y P : Nat} (h : O + P * c = A + B) :
  (O + P * ((c + x + y) % 4294967296)) + P * 4294967296 * ((c + x + y) / 4294967296) = (A + P * x) + (B + P * y) := by
 have e : c + x + y = (c + x + y) % 4294967296 + 4294967296 * ((c + x + y) / 4294967296) := by omega
 have e2 : P * (c + x + y) = P * ((c + x + y) % 4294967296) + P * 4294967296 * ((c + x + y) / 4294967296) := by
  conv => lhs; rw [e, Nat.mul_add, ← Nat.mul_assoc]
 have e3 : P * (c + x + y) = P * c + P * x + P * y := by rw [Nat.mul_add, Nat.mul_add]
 omega
theorem less_step {A B O w x y d w' P : Nat} (h : O + B = A + P * w) (hd : x + 4294967296 * w' = d + (y + w)) :
  (O + P * d) + (B + P * y) = (A + P * x) + P * 4294967296 * w' := by
 have e : P * (x + 4294967296 * w') = P * (d + (y + w)) := by rw [hd]
 rw [Nat.mul_add, Nat.mul_add, Nat.mul_add, ← Nat.mul_assoc] at e
 omega
theorem val_set : ∀ (l : List Nat) (i y : Nat) (h : i < l.length), val (l.set i y) + 4294967296 ^ i * l[i] = val l + 4294967296 ^ i * y
 | x :: r, 0, y, _ => by
  rw [List.set_cons_zero, val_cons, val_cons]
  simp
  omega
 | x :: r, i + 1, y, h => by
  have h' : i < r.length := by simpa using h
  have ih := val_set r i y h'
  rw [List.set_cons_succ, val_cons, val_cons, List.getElem_cons_succ, Nat.pow_succ]
  have e1 : 4294967296 ^ i * 4294967296 * r[i] = 4294967296 * (4294967296 ^ i * r[i]) := by
   rw [Nat.mul_comm (4294967296 ^ i) 4294967296, Nat.mul_assoc]
  have e2 : 4294967296 ^ i * 4294967296 * y = 4294967296 * (4294967296 ^ i * y) := by
   rw [Nat.mul_comm (4294967296 ^ i) 4294967296, Nat.mul_assoc]
  rw [e1, e2]
  omega
theorem wd_set {l : List Nat} (h : Wd l) (i y : Nat) (hy : y < 4294967296) : Wd (l.set i y) := fun x hx => by
 rcases List.mem_or_eq_of_mem_set hx with hx | rfl
 ·exact h x hx
 ·exact hy
theorem val_zeros (k : Nat) : val (List.replicate k 0) = 0 := by
 induction k with
 | zero => rfl
 | succ k ih => rw [List.replicate_succ, val_cons, ih]
theorem wd_zeros (k : Nat) : Wd (List.replicate k 0) := fun x hx => by rw [List.eq_of_mem_replicate hx]; decide
theorem pow_split (i : Nat) : (256 : Nat) ^ i = 4294967296 ^ (i / 4) * 256 ^ (i % 4) := by
 have : (4294967296 : Nat) = 256 ^ 4 := by decide
 rw [this, ← Nat.pow_mul, ← Nat.pow_add, Nat.div_add_mod]
theorem word_small {l : List Nat} {i : Nat} (h : val l < 256 ^ i) (hi : i / 4 < l.length) : l[i / 4] < 256 ^ (i % 4) := by
 have h1 := val_split l (i / 4) (by omega)
 rw [List.drop_eq_getElem_cons hi, val_cons] at h1
 have h2 : 4294967296 ^ (i / 4) * l[i / 4] ≤ val l := by
  rw [h1, Nat.mul_add]
  omega
 rw [pow_split] at h
 exact Nat.lt_of_mul_lt_mul_left (Nat.lt_of_le_of_lt h2 h)
theorem byte_step {l : List Nat} {i b : Nat} (hi : i / 4 < l.length) : val (l.set (i / 4) (l[i / 4] + b * 256 ^ (i % 4))) = val l + 256 ^ i * b := by
 have h := val_set l (i / 4) (l[i / 4] + b * 256 ^ (i % 4)) hi
 rw [Nat.mul_add] at h
 rw [pow_split i, Nat.mul_assoc, Nat.mul_comm (256 ^ (i % 4)) b]
 omega
def bval (l : List UInt8) : Nat := l.foldl (fun a b => a * 256 + b.toNat) 0
theorem bval_nil : bval [] = 0 := rfl
theorem bval_snoc (l : List UInt8) (b : UInt8) : bval (l ++ [b]) = bval l * 256 + b.toNat := by unfold bval; rw [List.foldl_append]; rfl
theorem bval_cons : ∀ (l : List UInt8) (b : UInt8), bval (b :: l) = b.toNat * 256 ^ l.length + bval l := by
 intro l b
 unfold bval
 rw [List.foldl_cons]
 have : ∀ (l : List UInt8) (a : Nat), l.foldl (fun a b => a * 256 + b.toNat) a = a * 256 ^ l.length + l.foldl (fun a b => a * 256 + b.toNat) 0 := by
  intro l
  induction l with
  | nil => intro a; simp
  | cons x r ih =>
   intro a
   rw [List.foldl_cons, List.foldl_cons, ih (a * 256 + x.toNat), ih (0 * 256 + x.toNat), List.length_cons, Nat.pow_succ]
   simp only [Nat.zero_mul, Nat.zero_add, Nat.add_mul, Nat.mul_assoc, Nat.mul_comm 256 (256 ^ r.length), Nat.add_assoc]
 rw [this l (0 * 256 + b.toNat), Nat.zero_mul, Nat.zero_add]
theorem bval_lt : ∀ (l : List UInt8), bval l < 256 ^ l.length
 | [] => by decide
 | b :: l => by
  have h1 := bval_lt l
  have h2 := b.toNat_lt
  rw [bval_cons, List.length_cons, Nat.pow_succ]
  have h3 : b.toNat * 256 ^ l.length ≤ 255 * 256 ^ l.length := Nat.mul_le_mul_right _ (by omega)
  omega
def bys (n : Nat) : List UInt8 := if _h : n = 0 then [] else bys (n / 256) ++ [UInt8.ofNat (n % 256)]
termination_by n
decreasing_by omega
theorem bys_zero : bys 0 = [] := by rw [bys]; simp
theorem bys_pos {n : Nat} (h : 0 < n) : bys n = bys (n / 256) ++ [UInt8.ofNat (n % 256)] := by rw [bys, dif_neg (by omega)]
theorem byte_nat (n : Nat) : (UInt8.ofNat (n % 256)).toNat = n % 256 := by rw [UInt8.toNat_ofNat']; omega
theorem bval_bys : ∀ (k n : Nat), n ≤ k → bval (bys n) = n
 | 0, n, h => by
  have : n = 0 := by omega
  subst this
  rw [bys_zero]; rfl
 | k + 1, n, h => by
  by_cases h0 : n = 0
  ·subst h0; rw [bys_zero]; rfl
  ·rw [bys_pos (by omega), bval_snoc, bval_bys k (n / 256) (by omega), byte_nat]
   omega
theorem bval_b (n : Nat) : bval (bys n) = n := bval_bys n n (Nat.le_refl n)
def Formed (l : List UInt8) : Prop := ∀ x, l.head? = some x → x ≠ 0
theorem bys_bval : ∀ (k : Nat) (l : List UInt8), l.length = k → Formed l → bys (bval l) = l
 | 0, l, hk, _ => by
  have := List.eq_nil_of_length_eq_zero hk
  subst this
  rw [bval_nil, bys_zero]
 | k + 1, l, hk, hf => by
  obtain ⟨r, b, rfl⟩ : ∃ r b, l = r ++ [b] := ⟨l.dropLast, l.getLast (by intro e; rw [e] at hk; cases hk), (List.dropLast_concat_getLast _).symm⟩
  have hl : r.length = k := by rw [List.length_append, List.length_singleton] at hk; omega
  have hb := b.toNat_lt
  have e1 : (bval r * 256 + b.toNat) / 256 = bval r := by omega
  have e2 : (bval r * 256 + b.toNat) % 256 = b.toNat := by omega
  have hb2 : UInt8.ofNat b.toNat = b := by simp
  have hpos : 0 < bval (r ++ [b]) := by
   rw [bval_snoc]
   rcases r with _ | ⟨x, r'⟩
   ·have h0 := hf b rfl
    have : b.toNat ≠ 0 := fun e => h0 (UInt8.toNat_inj.1 e)
    omega
   ·have hr := bys_bval k (x :: r') hl (fun y hy => hf y hy)
    rcases Nat.eq_zero_or_pos (bval (x :: r')) with h0 | h0
    ·rw [h0, bys_zero] at hr; cases hr
    ·omega
  rw [bys_pos hpos, bval_snoc, e1, e2, hb2]
  congr 1
  refine bys_bval k r hl (fun y hy => ?_)
  rcases r with _ | ⟨x, r'⟩
  ·cases hy
  ·exact hf y hy
theorem bys_formed : ∀ (k n : Nat), n ≤ k → Formed (bys n)
 | 0, n, h => by
  have : n = 0 := by omega
  subst this
  rw [bys_zero]; intro x hx; cases hx
 | k + 1, n, h => by
  by_cases h0 : n = 0
  ·subst h0; rw [bys_zero]; intro x hx; cases hx
  ·rw [bys_pos (by omega)]
   intro x hx
   rcases hr : bys (n / 256) with _ | ⟨y, r⟩
   ·rw [hr] at hx
    have hd : n / 256 = 0 := by
     have := bval_b (n / 256)
     rw [hr, bval_nil] at this
     omega
    have e : UInt8.ofNat (n % 256) = x := by simpa using hx
    intro hx0
    rw [hx0] at e
    have := congrArg UInt8.toNat e
    rw [byte_nat] at this
    have e0 : (0 : UInt8).toNat = 0 := rfl
    omega
   ·rw [hr] at hx
    refine bys_formed k (n / 256) (by omega) x ?_
    rw [hr]
    exact hx
theorem formed_b (n : Nat) : Formed (bys n) := bys_formed n n (Nat.le_refl n)
theorem bys_len {n k : Nat} (h : n < 256 ^ k) : (bys n).length ≤ k := by
 rcases Nat.lt_or_ge k (bys n).length with hlt | hge
 ·exfalso
  rcases hb : bys n with _ | ⟨x, r⟩
  ·rw [hb] at hlt; simp at hlt
  ·have hx := formed_b n x (by rw [hb]; rfl)
   have hx0 : x.toNat ≠ 0 := fun e => hx (UInt8.toNat_inj.1 e)
   have hv := bval_b n
   rw [hb, bval_cons] at hv
   rw [hb, List.length_cons] at hlt
   have h1 : 256 ^ k ≤ 256 ^ r.length := Nat.pow_le_pow_right (by decide) (by omega)
   have h2 : 256 ^ r.length ≤ x.toNat * 256 ^ r.length := Nat.le_mul_of_pos_left _ (by omega)
   omega
 ·exact hge
theorem lt_of_bys {n k : Nat} (h : (bys n).length ≤ k) : n < 256 ^ k := by
 have h1 := bval_lt (bys n)
 rw [bval_b] at h1
 exact Nat.lt_of_lt_of_le h1 (Nat.pow_le_pow_right (by decide) h)
end Wh
end Go.Proofs.YtebpggfccljagaaGreat
namespace Go.Proofs.YtebpggfccljagaaGreat
open Go.RowKit
def wv (n : Nat) : Value := .int .u32 (n : Int)
theorem wv_one (l : List Nat) : ∀ u ∈ l.map wv, u.oneCell' = true := by
 intro u hu
 obtain ⟨b, _, rfl⟩ := List.mem_map.1 hu
 rfl
def ReadsW (w : World) (B : Nat) (A : Option Addr) (l : List Nat) : Prop := Reads w B 1 A l.length (l.map wv) ∧ (0 < l.length → ∃ ad cs fz, A = some ad ∧ w.heap[ad.block]? = some (.cells cs 115 fz))
theorem infoW : (Tryz.prog.info? 115).map (fun i => (i.zero, i.size, i.bytes)) = some (some (.int .u32 0), 1, 4) := by kernel_rfl
section
variable {w w' : World} {B B' n : Nat} {A : Option Addr} {l : List Nat}
theorem ReadsW.at_ (h : ReadsW w B A l) {k : Nat} (hk : k < l.length) : ∃ ad, A = some ad ∧ ad.block < B ∧ w.cell? (ad.add k) = some (.int .u32 ((l[k] : Nat) : Int)) := by
 obtain ⟨ad, u, e, hb, hu, hc⟩ := Reads.at_ h.1 hk
 refine ⟨ad, e, hb, ?_⟩
 rw [hc]
 rw [List.getElem?_map, List.getElem?_eq_getElem hk] at hu
 exact hu.symm
theorem ReadsW.addr (h : ReadsW w B A l) (hn : 0 < l.length) : ∃ ad cs fz, A = some ad ∧ ad.block < B ∧ w.heap[ad.block]? = some (.cells cs 115 fz) := by
 obtain ⟨ad, cs, fz, e, hh⟩ := h.2 hn
 obtain ⟨ad', e', hb, _⟩ := h.1.2 hn
 rw [e] at e'
 injection e' with e'
 subst e'
 exact ⟨ad, cs, fz, e, hb, hh⟩
theorem ReadsW.take (h : ReadsW w B A l) (k : Nat) : ReadsW w B A (l.take k) := by
 refine ⟨⟨by simp, fun hn => ?_⟩, fun hn => h.2 (by rw [List.length_take] at hn; omega)⟩
 have hl : 0 < l.length := by rw [List.length_take] at hn; omega
 obtain ⟨ad, e, hb, hc⟩ := h.1.2 hl
 refine ⟨ad, e, hb, fun j u hu => hc j u ?_⟩
 rw [List.map_take, List.getElem?_take] at hu
 split at hu
 ·exact hu
 ·cases hu
theorem ReadsW.same (h : ReadsW w B A l) (hk : ∀ i, i < B → (∃ cs fz, w.heap[i]? = some (.cells cs 115 fz)) → w'.heap[i]? = w.heap[i]?) : ReadsW w' B A l := by
 refine ⟨⟨h.1.1, fun hn => ?_⟩, fun hn => ?_⟩
 ·obtain ⟨ad, cs, fz, e, hb, hh⟩ := h.addr hn
  obtain ⟨ad', e', _, hc⟩ := h.1.2 hn
  rw [e] at e'
  injection e' with e'
  subst e'
  exact ⟨ad, e, hb, fun j u hu => (World.cell?_of_block (hk _ (by rw [block_of_add]; exact hb) (by rw [block_of_add]; exact ⟨cs, fz, hh⟩))).trans (hc j u hu)⟩
 ·obtain ⟨ad, cs, fz, e, hb, hh⟩ := h.addr hn
  exact ⟨ad, cs, fz, e, (hk _ hb ⟨cs, fz, hh⟩).trans hh⟩
theorem ReadsW.more (h : ReadsW w B A l) (hB : B ≤ B') : ReadsW w B' A l := ⟨Reads.more h.1 hB, h.2⟩
theorem ReadsW.below (h : ReadsW w B A l) (hb : Below B w w') : ReadsW w' B A l := h.same fun i hi _ => hb.block i hi
theorem ReadsW.alloc (h : ReadsW w B A l) (hB : B ≤ w.heap.size) (o : Obj) : ReadsW (w.alloc o) B A l := h.same fun i hi _ => Below.heap_alloc w o i (by omega)
theorem ReadsW.drewN (h : ReadsW w B A l) (k : Nat) : ReadsW (w.drewN k) B A l := h
theorem ReadsW.setCell (h : ReadsW w B A l) {p : Addr} (hB : B ≤ p.block) (u : Value) : ReadsW (w.setCell p u) B A l := h.same fun i hi _ => Below.heap_setCell w p u i (by omega)
theorem ReadsW.none_ (w : World) (B : Nat) (A : Option Addr) : ReadsW w B A [] := ⟨Reads.none_, fun h => absurd h (by simp)⟩
theorem ReadsW.other (h : ReadsW w B A l) {row : Option Nat} (hg : w.grownBy w' row) (hB : B ≤ w.heap.size) (hr : ∀ r, row = some r → ∃ cs t fz, w.heap[r]? = some (.cells cs t fz) ∧ t ≠ 115) : ReadsW w' B A l := h.same fun i hi ⟨cs, fz, hh⟩ => hg.block i (by omega) (by
 intro e
 obtain ⟨cs', t, fz', hh', hne⟩ := hr i e.symm
 rw [hh] at hh'
 injection hh' with hh'
 injection hh' with _ h2
 exact hne h2.symm)
end
def wcells (l : List Nat) : Array Value := (l.map wv).toArray
theorem wcells_get (l : List Nat) (i : Nat) : (wcells l)[i]? = l[i]?.map wv := by unfold wcells; rw [List.getElem?_toArray, List.getElem?_map]
theorem wcells_set (l : List Nat) (i x : Nat) : (wcells l).setIfInBounds i (.int .u32 (x : Int)) = wcells (l.set i x) := by
 unfold wcells
 rw [List.setIfInBounds_toArray, List.map_set]
 rfl
theorem madeW (n : Nat) : madeCells (Value.cells (.int .u32 0)) (n * 1) = wcells (List.replicate n 0) := by
 unfold wcells
 rw [List.map_replicate, Nat.mul_one]
 have h : (madeCells (Value.cells (.int .u32 0)) n).toList = List.replicate n (wv 0) := by
  unfold madeCells
  rw [Array.toList_map, Array.toList_range]
  refine List.eq_replicate_iff.2 ⟨by simp, fun b hb => ?_⟩
  simp only [List.mem_map] at hb
  obtain ⟨i, _, rfl⟩ := hb
  have e : i % (Value.int .u32 0).cells.size = 0 := Nat.mod_one i
  rw [e]
  rfl
 rw [← h]
theorem run_makeW (n : Nat) (hn : n ≤ 70368744177664) (w : World) :
  (Instr.makeSlice 33 (.int .i64 (n : Int)) (.int .i64 (n : Int))).run Tryz.prog w = .ok (.slice (some ⟨w.heap.size, 0, none⟩) n n) (w.alloc (.cells (wcells (List.replicate n 0)) 115)) := by
 obtain ⟨i0, hi, hz0, hz1, hz2⟩ := info_parts infoW
 have h := run_make_rowN (P := Tryz.prog) 33 115 i0 (.int .u32 0) Tryz.underlying33 hi hz0 .i64 .i64 n n (Nat.le_refl _) (by rw [hz2]; omega) (by omega) w
 rw [hz1, madeW] at h
 exact h
theorem reads_blk {w : World} {g B : Nat} {l : List Nat} (h : Blk w g 115 (wcells l)) (hB : g < B) : ReadsW w B (some ⟨g, 0, none⟩) l := by
 refine ⟨⟨by simp, fun _ => ⟨_, rfl, hB, fun j u hu => ?_⟩⟩, fun _ => ⟨_, _, _, rfl, h⟩⟩
 have := h.cell j
 rw [wcells_get] at this
 rw [List.getElem?_map] at hu
 rw [hu] at this
 rw [← this]
 unfold Addr.add
 split
 ·rename_i h0; subst h0; rfl
 ·simp
end Go.Proofs.YtebpggfccljagaaGreat
namespace Go.Proofs.YtebpggfccljagaaGreat
open Go.RowKit
open Wh
theorem cut_done {l : List Nat} {k : Nat} (hw : Wd l) (hk : k ≤ l.length) (hv : val (l.take k) = val l) (h : k = 0 ∨ ∃ h : k - 1 < l.length, l[k - 1] ≠ 0) : k = (wds (val l)).length := by
 rw [← hv, wds_val (wd_take hw k) (fun x hx => ?_), List.length_take]
 ·omega
 ·rcases h with rfl | ⟨h1, h2⟩
  ·simp at hx
  ·rw [List.getLast?_take] at hx
   split at hx
   ·cases hx
   ·rw [List.getElem?_eq_getElem h1] at hx
    have : l[k - 1] = x := by simpa using hx
    rw [← this]
    exact h2
theorem cut_on {l : List Nat} {k : Nat} (hv : val (l.take (k + 1)) = val l) (hk : k < l.length) (h : l[k] = 0) : val (l.take k) = val l := by
 rw [val_take_succ hk, h, Nat.mul_zero, Nat.add_zero] at hv
 exact hv
set_option maxRecDepth 100000 in
set_option maxHeartbeats 1000000 in
theorem cut_any {w : World} {B n c : Nat} {A : Option Addr} {l : List Nat} (h : ReadsW w B A l) (hn : n = l.length) (hc : n ≤ c) (hcl : c ≤ 9223372036854775807) (hw : Wd l) :
  Calls Tryz.prog 131 #[.slice A n c] w (fun e w' => ∃ m, e = .returned (.slice A m c) ∧ m = (wds (val l)).length ∧ w' = w) := by
 have Hw := Lib.hid hw
 have Hn := Lib.hid hn
 clear hw hn
 go_enter Tryz.func131, Tryz.ntmps131
 go_wp2
 go_loopg [0] n (fun k s wr => wr = w ∧ s = .slice A k c ∧ k ≤ n ∧ Hid (val (l.take k) = val l))
 case atStart => exact ⟨rfl, rfl, Nat.le_refl _, by show val (l.take n) = val l; rw [Hn.out, List.take_length]⟩
 case round =>
  obtain ⟨rfl, rfl, hk, hv⟩ := hrel
  by_cases h0 : 0 < gk
  ·obtain ⟨ad, rfl, hb, hcell⟩ := h.at_ (k := gk - 1) (by have := Hn.out; omega)
   go_wp2
   ·rename_i hz
    go_roundg (gk - 1)
    case measure => omega
    case rel =>
     refine ⟨rfl, rfl, by omega, cut_on (k := gk - 1) (by rw [show gk - 1 + 1 = gk by omega]; exact hv.out) (by have := Hn.out; omega) ?_⟩
     have := eq_of_beq hz
     omega
   ·rename_i hz
    go_ret
    exact ⟨_, rfl, cut_done Hw.out (by have := Hn.out; omega) hv.out (.inr ⟨by have := Hn.out; omega, fun e => by rw [e] at hz; cases hz⟩), rfl⟩
  ·have h1 : gk = 0 := by omega
   subst h1
   go_wp2
   go_ret
   exact ⟨_, rfl, cut_done Hw.out (Nat.zero_le _) hv.out (.inl rfl), rfl⟩
def cmpN (a b : Nat) : Int := if a < b then -1 else if b < a then 1 else 0
theorem cmpN_lt {a b : Nat} (h : a < b) : cmpN a b = -1 := by unfold cmpN; rw [if_pos h]
theorem cmpN_gt {a b : Nat} (h : b < a) : cmpN a b = 1 := by unfold cmpN; rw [if_neg (by omega), if_pos h]
theorem cmpN_eq {a b : Nat} (h : a = b) : cmpN a b = 0 := by unfold cmpN; rw [if_neg (by omega), if_neg (by omega)]
set_option maxRecDepth 100000 in
set_option maxHeartbeats 1000000 in
theorem under_any {w : World} {B n m c d a b : Nat} {A C : Option Addr} (h1 : ReadsW w B A (wds a)) (h2 : ReadsW w B C (wds b)) (hn : n = (wds a).length) (hm : m = (wds b).length) (hnl : n ≤ 140737488355328) (hml : m ≤ 140737488355328) :
  Calls Tryz.prog 127 #[.slice A n c, .slice C m d] w (fun e w' => ∃ q, e = .returned (.int .i64 (cmpN a b)) ∧ w' = w.drewN q) := by
 have Hn := Lib.hid hn
 have Hm := Lib.hid hm
 clear hn hm
 rcases Nat.lt_trichotomy n m with hlt | heq | hgt
 ·have e := Lib.hid (cmpN_lt (lt_of_len_lt (a := a) (b := b) (by rw [← Hn.out, ← Hm.out]; exact hlt)))
  go_enter Tryz.func127, Tryz.ntmps127
  go_wp2
  go_ret
  exact ⟨0, by rw [e.out]; rfl, rfl⟩
 ·subst heq
  go_enter Tryz.func127, Tryz.ntmps127
  go_wp2
  go_loopg [5] n (fun k i wr => ∃ q : Nat, Hid (wr = w.drewN q) ∧ i = .int .i64 ((k : Int) - 1) ∧ k ≤ n ∧ Hid ((wds a).drop k = (wds b).drop k))
  case atStart => exact ⟨0, rfl, rfl, Nat.le_refl _, by show (wds a).drop n = (wds b).drop n; rw [List.drop_of_length_le (by rw [Hn.out]; exact Nat.le_refl _), List.drop_of_length_le (by rw [Hm.out]; exact Nat.le_refl _)]⟩
  case round =>
   obtain ⟨q, hq, rfl, hk, hv⟩ := hrel
   by_cases h0 : 0 < gk
   ·obtain ⟨j, rfl⟩ : ∃ j, gk = j + 1 := ⟨gk - 1, by omega⟩
    rw [show (((j + 1 : Nat) : Int) - 1) = (j : Int) by omega]
    have ha : j < (wds a).length := by have := Hn.out; omega
    have hb : j < (wds b).length := by have := Hm.out; omega
    have h1' : ReadsW wr B A (wds a) := by rw [hq.out]; exact h1.drewN q
    have h2' : ReadsW wr B C (wds b) := by rw [hq.out]; exact h2.drewN q
    obtain ⟨ad, rfl, hb1, c1⟩ := h1'.at_ ha
    obtain ⟨bd, rfl, hb2, c2⟩ := h2'.at_ hb
    have w1 := wd_get (wd_w a) _ ha
    have w2 := wd_get (wd_w b) _ hb
    have d1 := Lib.hid (List.drop_eq_getElem_cons ha)
    have d2 := Lib.hid (List.drop_eq_getElem_cons hb)
    have hji : (j : Int) < (n : Int) := by omega
    have hjn : j < n := by omega
    have Hl : Hid ((wds a)[j] < (wds b)[j] → a < b) := fun h => by
     have := lt_top (wd_w a) (by rw [← Hn.out, ← Hm.out]) ha hv.out h
     rwa [val_w, val_w] at this
    have Hg : Hid ((wds b)[j] < (wds a)[j] → b < a) := fun h => by
     have := lt_top (wd_w b) (by rw [← Hn.out, ← Hm.out]) hb hv.out.symm h
     rwa [val_w, val_w] at this
    have He : Hid ((wds a)[j] = (wds b)[j] → (wds a).drop j = (wds b).drop j) := fun h => by
     rw [d1.out, d2.out, h, hv.out]
    clear d1 d2
    generalize hx : (wds a)[j] = x at *
    generalize hy : (wds b)[j] = y at *
    clear hx hy hv h1' h2'
    go_wp2_with (go_quiet (fail))
    ·rename_i hz
     have e := cmpN_lt (Hl.out hz)
     go_ret
     exact ⟨_, by rw [e]; rfl, by rw [hq.out]; exact World.drewN_drewN _ _ _⟩
    ·rename_i _ hz
     have e := cmpN_gt (Hg.out hz)
     go_ret
     exact ⟨_, by rw [e]; rfl, by rw [hq.out]; simp only [World.drewN_drewN]; rfl⟩
    ·rename_i hz1 hz2
     go_roundg j
     case measure => omega
     case rel => exact ⟨_, by rw [hq.out]; exact World.drewN_drewN _ _ _, rfl, by omega, He.out (by omega)⟩
   ·have hk0 : gk = 0 := by omega
    subst hk0
    have e := Lib.hid (cmpN_eq (eq_of_val (a := a) (b := b) hv.out))
    go_wp2
    go_ret
    exact ⟨q, by rw [e.out]; rfl, hq.out⟩
 ·have e := Lib.hid (cmpN_gt (lt_of_len_lt (a := b) (b := a) (by rw [← Hn.out, ← Hm.out]; exact hgt)))
  go_enter Tryz.func127, Tryz.ntmps127
  go_wp2
  go_ret
  exact ⟨0, by rw [e.out]; rfl, rfl⟩
theorem val_drop {l : List Nat} {i : Nat} (h : i < l.length) : val (l.drop i) = l[i] + 4294967296 * val (l.drop (i + 1)) := by rw [List.drop_eq_getElem_cons h, val_cons]
theorem val_drop_set {L : List Nat} {i : Nat} (h : i < L.length) (v : Nat) : val ((L.set i v).drop i) = v + 4294967296 * val (L.drop (i + 1)) := by
 rw [val_drop (by rw [List.length_set]; exact h), List.getElem_set_self, List.drop_set_of_lt (Nat.lt_succ_self i)]
theorem short_round {S d Q r x : Nat} (h : S = d * Q + r) : x + 4294967296 * S = d * ((r * 4294967296 + x) / d + 4294967296 * Q) + (r * 4294967296 + x) % d := by
 have h1 := Nat.div_add_mod (r * 4294967296 + x) d
 rw [Nat.mul_add, Nat.mul_left_comm, h]
 omega
theorem shl_or {r x : Nat} (hr : r < 4294967296) (hx : x < 4294967296) : bits .or .u64 ((r : Int) * 4294967296) (x : Int) = ((r * 4294967296 + x : Nat) : Int) := by
 rw [show ((r : Int) * 4294967296) = ((r * 4294967296 : Nat) : Int) by omega, u64_or_nat _ _ (by omega) (by omega), nat_join 32 _ _ (by omega) (by omega)]
set_option maxRecDepth 100000 in
set_option maxHeartbeats 1000000 in
theorem short_any {w : World} {B n c d : Nat} {A : Option Addr} {la : List Nat} (h1 : ReadsW w B A la) (hB : B ≤ w.heap.size) (hn : n = la.length) (hnl : n ≤ 140737488355) (ha : Wd la) (hd0 : 0 < d) (hd : d < 4294967296) :
  Calls Tryz.prog 137 #[.slice A n c, .int .u32 (d : Int)] w (fun e w' => ∃ A' m c', e = .returned (.tuple #[.slice A' m c', .int .u32 ((val la % d : Nat) : Int)]) ∧ m = (wds (val la / d)).length ∧ m ≤ c' ∧ c' ≤ n ∧ ReadsW w' w'.heap.size A' (wds (val la / d)) ∧ Below w.heap.size w w' ∧ (∀ ad, A' = some ad → w.heap.size ≤ ad.block)) := by
 have Hn := Lib.hid hn
 have hmk : ∀ w : World, (Instr.makeSlice 33 (.int .i64 (n : Int)) (.int .i64 (n : Int))).run Tryz.prog w = .ok (.slice (some ⟨w.heap.size, 0, none⟩) n n) (w.alloc (.cells (wcells (List.replicate n 0)) 115)) := run_makeW n (by omega)
 clear hn
 go_enter Tryz.func137, Tryz.ntmps137
 go_wp2
 go_loopg [7, 8] n (fun k rv iv wr => ∃ (r : Nat) (L : List Nat), rv = .int .u64 (r : Int) ∧ iv = .int .i64 ((k : Int) - 1) ∧ k ≤ n ∧ r < d ∧ Blk wr w.heap.size 115 (wcells L) ∧ Below w.heap.size w wr ∧
  Hid (L.length = n ∧ Wd L ∧ val (la.drop k) = d * val (L.drop k) + r))
 case atStart => exact ⟨0, List.replicate n 0, rfl, rfl, by omega, by omega, Blk.new _ _ _, (Below.refl _ _).alloc (Nat.le_refl _) _, by simp, wd_zeros _, by rw [List.drop_of_length_le (by rw [Hn.out]; exact Nat.le_refl _), List.drop_of_length_le (by simp)]; simp [val_nil]⟩
 case round =>
  obtain ⟨r, L, rfl, rfl, hk, hr, hblk, hbel, hL⟩ := hrel
  have h1' := h1.below (hbel.mono hB)
  by_cases h0 : 0 < gk
  ·obtain ⟨j, rfl⟩ : ∃ j, gk = j + 1 := ⟨gk - 1, by omega⟩
   rw [show (((j + 1 : Nat) : Int) - 1) = (j : Int) by omega]
   have hja : j < la.length := by have := Hn.out; omega
   have hjL : j < L.length := by have := hL.out.1; omega
   obtain ⟨ad, rfl, hb1, c1⟩ := h1'.at_ hja
   have w1 := wd_get ha _ hja
   have hji : (j : Int) < (n : Int) := by omega
   have hout : wr.cell? ⟨w.heap.size, j, none⟩ = some (.int .u32 ((L[j] : Nat) : Int)) := by rw [hblk.cell j, wcells_get, List.getElem?_eq_getElem hjL]; rfl
   have hfz := hblk.frozen j
   have E1 := Lib.hid (val_drop hja)
   clear h1' h1
   generalize hx : la[j] = x at *
   clear hx
   have hso := shl_or (r := r) (x := x) (by omega) w1
   go_wp2
   have hq : (r * 4294967296 + x) / d < 4294967296 := (Nat.div_lt_iff_lt_mul hd0).2 (by
    have : (r + 1) * 4294967296 ≤ d * 4294967296 := Nat.mul_le_mul_right _ hr
    omega)
   have q0 : ((r : Int) * 4294967296 + x) = ((r * 4294967296 + x : Nat) : Int) := by omega
   have q1 : ((r : Int) * 4294967296 + x) / d % 4294967296 = (((r * 4294967296 + x) / d : Nat) : Int) := by
    rw [q0, ← Int.natCast_ediv]
    generalize (r * 4294967296 + x) / d = q at hq ⊢
    omega
   have q2 : ((r : Int) * 4294967296 + x) % d = (((r * 4294967296 + x) % d : Nat) : Int) := by
    rw [q0, ← Int.natCast_emod]
   rw [q1, q2]
   go_roundg j
   case measure => omega
   case rel =>
    refine ⟨(r * 4294967296 + x) % d, L.set j ((r * 4294967296 + x) / d), rfl, rfl, by omega, Nat.mod_lt _ hd0, ?_, hbel.setCell (by show w.heap.size ≤ w.heap.size; omega) _, ?_⟩
    ·have := hblk.set_ j (.int .u32 (((r * 4294967296 + x) / d : Nat) : Int))
     rwa [wcells_set] at this
    ·refine ⟨by rw [List.length_set]; exact hL.out.1, wd_set hL.out.2.1 _ _ hq, ?_⟩
     rw [val_drop_set hjL, E1.out]
     exact short_round hL.out.2.2
  ·have hk0 : gk = 0 := by omega
   subst hk0
   have h3 := hL.out.2.2
   rw [List.drop_zero, List.drop_zero] at h3
   have hLl := hL.out.1
   have e1 : val L = val la / d := by rw [h3, Nat.mul_add_div hd0, Nat.div_eq_of_lt hr, Nat.add_zero]
   have e2 : r = val la % d := by rw [h3, Nat.mul_add_mod, Nat.mod_eq_of_lt hr]
   have ho := reads_blk hblk hblk.lt
   have HT := Lib.hid (cut_any ho hLl.symm (Nat.le_refl n) (by omega) hL.out.2.1)
   have H3 := Lib.hid (And.intro e1 e2)
   clear h3 e1 e2 hLl
   go_wp2_with (go_at_call 131; refine HT.out.mono ?_; rintro e w' ⟨m, rfl, hm, rfl⟩)
   go_ret2
   have hwt := wds_take L.length L rfl hL.out.2.1
   have e3 := H3.out.1
   have e4 := H3.out.2
   have hr3 : ReadsW w' w'.heap.size (some ⟨w.heap.size, 0, none⟩) (wds (val L)) := by
    rw [hwt.1]; exact (reads_blk hblk hblk.lt).take _
   refine ⟨_, _, _, by rw [← e4]; rfl, by rw [← e3], by have := hwt.2; have := hL.out.1; omega, Nat.le_refl _, by rw [← e3]; exact hr3, hbel, fun ad h => by injection h with h; rw [← h]; exact Nat.le_refl _⟩
theorem two_words {N : Nat} (h : N ≤ 18446744073709551615) : Wd [N % 4294967296, N / 4294967296] ∧ val [N % 4294967296, N / 4294967296] = N := by
 refine ⟨fun x hx => ?_, ?_⟩
 ·simp only [List.mem_cons, List.not_mem_nil, or_false] at hx
  rcases hx with rfl | rfl <;> omega
 ·simp only [val_cons, val_nil]; omega
set_option maxRecDepth 100000 in
set_option maxHeartbeats 1000000 in
theorem of_any {w : World} {N : Nat} (hN : N ≤ 18446744073709551615) :
  Calls Tryz.prog 134 #[.int .u64 (N : Int)] w (fun e w' => ∃ A' m c', e = .returned (.slice A' m c') ∧ m = (wds N).length ∧ m ≤ c' ∧ c' ≤ 2 ∧ ReadsW w' w'.heap.size A' (wds N) ∧ Below w.heap.size w w') := by
 have H2 := Lib.hid (two_words hN)
 have hblk := Blk.new w 115 (wcells [N % 4294967296, N / 4294967296])
 have hcs : (#[.int .u32 ((N : Int) % 4294967296), .int .u32 ((N : Int) / 4294967296)] : Array Value) = wcells [N % 4294967296, N / 4294967296] := by
  show #[_, _] = #[Value.int .u32 _, Value.int .u32 _]
  rw [Int.natCast_emod, Int.natCast_ediv]; rfl
 have ho := reads_blk hblk hblk.lt
 have HT := Lib.hid (cut_any ho (n := 2) (c := 2) rfl (by omega) (by omega) H2.out.1)
 have Hcs := Lib.hid hcs
 have Hblk := Lib.hid hblk
 clear ho hblk hcs
 go_enter Tryz.func134, Tryz.ntmps134
 go_wp2_with (go_at_call 131; rw [Hcs.out]; refine HT.out.mono ?_; rintro e w' ⟨m, rfl, hm, rfl⟩)
 go_ret
 have hwt := wds_take 2 [N % 4294967296, N / 4294967296] rfl H2.out.1
 have e := H2.out.2
 refine ⟨_, _, 2, rfl, by rw [e], hwt.2, Nat.le_refl _, ?_, (Below.refl _ _).alloc (Nat.le_refl _) _⟩
 have hr := (reads_blk Hblk.out Hblk.out.lt).take (wds (val [N % 4294967296, N / 4294967296])).length
 rw [← hwt.1, e] at hr
 exact hr
theorem val_take_set {L : List Nat} {i : Nat} (h : i < L.length) (v : Nat) : val ((L.set i v).take (i + 1)) = val (L.take i) + 4294967296 ^ i * v := by
 rw [val_take_succ (by rw [List.length_set]; exact h), List.getElem_set_self, List.take_set_of_le (Nat.le_refl _)]
def NewW (w : World) (N : Nat) (e : Ending) (w' : World) : Prop := ∃ A l, e = .returned (.slice A l.length l.length) ∧ Wd l ∧ val l = N ∧ ReadsW w' w'.heap.size A l ∧ Below w.heap.size w w' ∧ l.length ≤ 9223372036854775807
set_option maxRecDepth 100000 in
set_option maxHeartbeats 1000000 in
theorem more_ge {w : World} {B n m c d : Nat} {A C : Option Addr} {la lb : List Nat} (h1 : ReadsW w B A la) (h2 : ReadsW w B C lb) (hB : B ≤ w.heap.size) (hn : n = la.length) (hm : m = lb.length) (hnl : n ≤ 140737488355) (hmn : m ≤ n) (ha : Wd la) (hb : Wd lb) :
  Calls Tryz.prog 135 #[.slice A n c, .slice C m d] w (NewW w (val la + val lb)) := by
 have Hn := Lib.hid hn
 have Hm := Lib.hid hm
 have hmk : ∀ w : World, (Instr.makeSlice 33 (.int .i64 ((n : Int) + 1)) (.int .i64 ((n : Int) + 1))).run Tryz.prog w = .ok (.slice (some ⟨w.heap.size, 0, none⟩) (n + 1) (n + 1)) (w.alloc (.cells (wcells (List.replicate (n + 1) 0)) 115)) := fun w => by
  have := run_makeW (n + 1) (by omega) w
  exact this
 have hdec : decide (n < m) = false := by simp; omega
 clear hn hm
 go_enter Tryz.func135, Tryz.ntmps135
 go_wp2
 go_loopg [6, 22] n (fun k cy iv wr => ∃ (i c : Nat) (L : List Nat), cy = .int .u64 (c : Int) ∧ iv = .int .i64 (i : Int) ∧ k = n - i ∧ i ≤ n ∧ c ≤ 1 ∧ Blk wr w.heap.size 115 (wcells L) ∧ Below w.heap.size w wr ∧
  Hid (L.length = n + 1 ∧ Wd L ∧ val (L.take i) + 4294967296 ^ i * c = val (la.take i) + val (lb.take i)))
 case atStart => exact ⟨0, 0, List.replicate (n + 1) 0, rfl, rfl, by omega, by omega, by omega, Blk.new _ _ _, (Below.refl _ _).alloc (Nat.le_refl _) _, by simp, wd_zeros _, by simp [val_nil]⟩
 case round =>
  obtain ⟨i, cy, L, rfl, rfl, hk, hi, hc, hblk, hbel, hL⟩ := hrel
  have Hk := Lib.hid hk
  clear hk
  have h1' := h1.below (hbel.mono hB)
  have h2' := h2.below (hbel.mono hB)
  by_cases hin : i < n
  ·have hia : i < la.length := by rw [← Hn.out]; exact hin
   obtain ⟨ad, rfl, hb1, c1⟩ := h1'.at_ hia
   have w1 := wd_get ha _ hia
   have hii : (i : Int) < (n : Int) := by omega
   have hiL : i < L.length := by have := hL.out.1; omega
   have hout : wr.cell? ⟨w.heap.size, i, none⟩ = some (.int .u32 ((L[i] : Nat) : Int)) := by rw [hblk.cell i, wcells_get, List.getElem?_eq_getElem hiL]; rfl
   have hfz := hblk.frozen i
   by_cases him : i < m
   ·have hib : i < lb.length := by rw [← Hm.out]; exact him
    obtain ⟨bd, rfl, hb2, c2⟩ := h2'.at_ hib
    have w2 := wd_get hb _ hib
    have hmi : (i : Int) < (m : Int) := by omega
    clear h1' h2' h1 h2
    have e1 := val_take_succ hia
    have e2 := val_take_succ hib
    have E1 := Lib.hid e1
    have E2 := Lib.hid e2
    clear e1 e2
    generalize hx : la[i] = x at *
    generalize hy : lb[i] = y at *
    clear hx hy
    go_wp2
    rw [show ((cy : Int) + x + y) % 4294967296 = (((cy + x + y) % 4294967296 : Nat) : Int) by omega, show ((cy : Int) + x + y) / 4294967296 = (((cy + x + y) / 4294967296 : Nat) : Int) by omega]
    go_roundg (n - (i + 1))
    case measure => have := Hk.out; omega
    case rel =>
     refine ⟨i + 1, (cy + x + y) / 4294967296, L.set i ((cy + x + y) % 4294967296), rfl, rfl, rfl, by omega, by omega, ?_, hbel.setCell (by show w.heap.size ≤ w.heap.size; omega) _, ?_⟩
     ·have := hblk.set_ i (.int .u32 (((cy + x + y) % 4294967296 : Nat) : Int))
      rwa [wcells_set] at this
     ·refine ⟨by rw [List.length_set]; exact hL.out.1, wd_set hL.out.2.1 _ _ (Nat.mod_lt _ (by decide)), ?_⟩
      rw [val_take_set hiL, E1.out, E2.out, Nat.pow_succ]
      exact more_step hL.out.2.2
   ·have e1 := val_take_succ hia
    have e2 : val (lb.take (i + 1)) = val (lb.take i) + 4294967296 ^ i * 0 := by rw [List.take_of_length_le (by have := Hm.out; omega), List.take_of_length_le (by have := Hm.out; omega), Nat.mul_zero, Nat.add_zero]
    have E1 := Lib.hid e1
    have E2 := Lib.hid e2
    clear e1 e2
    have hmi : (m : Int) ≤ (i : Int) := by omega
    clear h1' h2' h1 h2
    generalize hx : la[i] = x at *
    clear hx
    go_wp2
    rw [show ((cy : Int) + x) % 4294967296 = (((cy + x + 0) % 4294967296 : Nat) : Int) by omega, show ((cy : Int) + x) / 4294967296 = (((cy + x + 0) / 4294967296 : Nat) : Int) by omega]
    go_roundg (n - (i + 1))
    case measure => have := Hk.out; omega
    case rel =>
     refine ⟨i + 1, (cy + x + 0) / 4294967296, L.set i ((cy + x + 0) % 4294967296), rfl, rfl, rfl, by omega, by omega, ?_, hbel.setCell (by show w.heap.size ≤ w.heap.size; omega) _, ?_⟩
     ·have := hblk.set_ i (.int .u32 (((cy + x + 0) % 4294967296 : Nat) : Int))
      rwa [wcells_set] at this
     ·refine ⟨by rw [List.length_set]; exact hL.out.1, wd_set hL.out.2.1 _ _ (Nat.mod_lt _ (by decide)), ?_⟩
      rw [val_take_set hiL, E1.out, E2.out, Nat.pow_succ]
      exact more_step hL.out.2.2
  ·have hi' : i = n := by omega
   subst hi'
   have hiL : i < L.length := by have := hL.out.1; omega
   have hout : wr.cell? ⟨w.heap.size, i, none⟩ = some (.int .u32 ((L[i] : Nat) : Int)) := by rw [hblk.cell i, wcells_get, List.getElem?_eq_getElem hiL]; rfl
   have hfz := hblk.frozen i
   clear h1' h2' h1 h2
   go_wp2
   go_ret
   have hset := hblk.set_ i (.int .u32 ((cy : Nat) : Int))
   rw [wcells_set] at hset
   have hlen : (L.set i cy).length = i + 1 := by rw [List.length_set]; exact hL.out.1
   refine ⟨some ⟨w.heap.size, 0, none⟩, L.set i cy, by rw [hlen]; rfl, wd_set hL.out.2.1 _ _ (by omega), ?_, reads_blk hset ?_, hbel.setCell (by show w.heap.size ≤ w.heap.size; omega) _, by rw [hlen]; omega⟩
   ·have h3 := val_take_set hiL cy
    rw [List.take_of_length_le (by omega), hL.out.2.2, List.take_of_length_le (by rw [Hn.out]; exact Nat.le_refl _), List.take_of_length_le (by have := Hm.out; omega)] at h3
    exact h3
   ·exact hset.lt
set_option maxRecDepth 100000 in
set_option maxHeartbeats 1000000 in
theorem more_lt {w : World} {B n m c d : Nat} {A C : Option Addr} {la lb : List Nat} (h1 : ReadsW w B A la) (h2 : ReadsW w B C lb) (hB : B ≤ w.heap.size) (hn : n = la.length) (hm : m = lb.length) (hnl : n ≤ 140737488355) (hmn : m < n) (ha : Wd la) (hb : Wd lb) :
  Calls Tryz.prog 135 #[.slice C m d, .slice A n c] w (NewW w (val la + val lb)) := by
 have Hn := Lib.hid hn
 have Hm := Lib.hid hm
 have hmk : ∀ w : World, (Instr.makeSlice 33 (.int .i64 ((n : Int) + 1)) (.int .i64 ((n : Int) + 1))).run Tryz.prog w = .ok (.slice (some ⟨w.heap.size, 0, none⟩) (n + 1) (n + 1)) (w.alloc (.cells (wcells (List.replicate (n + 1) 0)) 115)) := fun w => by
  have := run_makeW (n + 1) (by omega) w
  exact this
 have hdec : decide (m < n) = true := by simp; omega
 clear hn hm
 go_enter Tryz.func135, Tryz.ntmps135
 go_wp2
 go_loopg [6, 22] n (fun k cy iv wr => ∃ (i c : Nat) (L : List Nat), cy = .int .u64 (c : Int) ∧ iv = .int .i64 (i : Int) ∧ k = n - i ∧ i ≤ n ∧ c ≤ 1 ∧ Blk wr w.heap.size 115 (wcells L) ∧ Below w.heap.size w wr ∧
  Hid (L.length = n + 1 ∧ Wd L ∧ val (L.take i) + 4294967296 ^ i * c = val (la.take i) + val (lb.take i)))
 case atStart => exact ⟨0, 0, List.replicate (n + 1) 0, rfl, rfl, by omega, by omega, by omega, Blk.new _ _ _, (Below.refl _ _).alloc (Nat.le_refl _) _, by simp, wd_zeros _, by simp [val_nil]⟩
 case round =>
  obtain ⟨i, cy, L, rfl, rfl, hk, hi, hc, hblk, hbel, hL⟩ := hrel
  have Hk := Lib.hid hk
  clear hk
  have h1' := h1.below (hbel.mono hB)
  have h2' := h2.below (hbel.mono hB)
  by_cases hin : i < n
  ·have hia : i < la.length := by rw [← Hn.out]; exact hin
   obtain ⟨ad, rfl, hb1, c1⟩ := h1'.at_ hia
   have w1 := wd_get ha _ hia
   have hii : (i : Int) < (n : Int) := by omega
   have hiL : i < L.length := by have := hL.out.1; omega
   have hout : wr.cell? ⟨w.heap.size, i, none⟩ = some (.int .u32 ((L[i] : Nat) : Int)) := by rw [hblk.cell i, wcells_get, List.getElem?_eq_getElem hiL]; rfl
   have hfz := hblk.frozen i
   by_cases him : i < m
   ·have hib : i < lb.length := by rw [← Hm.out]; exact him
    obtain ⟨bd, rfl, hb2, c2⟩ := h2'.at_ hib
    have w2 := wd_get hb _ hib
    have hmi : (i : Int) < (m : Int) := by omega
    clear h1' h2' h1 h2
    have e1 := val_take_succ hia
    have e2 := val_take_succ hib
    have E1 := Lib.hid e1
    have E2 := Lib.hid e2
    clear e1 e2
    generalize hx : la[i] = x at *
    generalize hy : lb[i] = y at *
    clear hx hy
    go_wp2
    rw [show ((cy : Int) + x + y) % 4294967296 = (((cy + x + y) % 4294967296 : Nat) : Int) by omega, show ((cy : Int) + x + y) / 4294967296 = (((cy + x + y) / 4294967296 : Nat) : Int) by omega]
    go_roundg (n - (i + 1))
    case measure => have := Hk.out; omega
    case rel =>
     refine ⟨i + 1, (cy + x + y) / 4294967296, L.set i ((cy + x + y) % 4294967296), rfl, rfl, rfl, by omega, by omega, ?_, hbel.setCell (by show w.heap.size ≤ w.heap.size; omega) _, ?_⟩
     ·have := hblk.set_ i (.int .u32 (((cy + x + y) % 4294967296 : Nat) : Int))
      rwa [wcells_set] at this
     ·refine ⟨by rw [List.length_set]; exact hL.out.1, wd_set hL.out.2.1 _ _ (Nat.mod_lt _ (by decide)), ?_⟩
      rw [val_take_set hiL, E1.out, E2.out, Nat.pow_succ]
      exact more_step hL.out.2.2
   ·have e1 := val_take_succ hia
    have e2 : val (lb.take (i + 1)) = val (lb.take i) + 4294967296 ^ i * 0 := by rw [List.take_of_length_le (by have := Hm.out; omega), List.take_of_length_le (by have := Hm.out; omega), Nat.mul_zero, Nat.add_zero]
    have E1 := Lib.hid e1
    have E2 := Lib.hid e2
    clear e1 e2
    have hmi : (m : Int) ≤ (i : Int) := by omega
    clear h1' h2' h1 h2
    generalize hx : la[i] = x at *
    clear hx
    go_wp2
    rw [show ((cy : Int) + x) % 4294967296 = (((cy + x + 0) % 4294967296 : Nat) : Int) by omega, show ((cy : Int) + x) / 4294967296 = (((cy + x + 0) / 4294967296 : Nat) : Int) by omega]
    go_roundg (n - (i + 1))
    case measure => have := Hk.out; omega
    case rel =>
     refine ⟨i + 1, (cy + x + 0) / 4294967296, L.set i ((cy + x + 0) % 4294967296), rfl, rfl, rfl, by omega, by omega, ?_, hbel.setCell (by show w.heap.size ≤ w.heap.size; omega) _, ?_⟩
     ·have := hblk.set_ i (.int .u32 (((cy + x + 0) % 4294967296 : Nat) : Int))
      rwa [wcells_set] at this
     ·refine ⟨by rw [List.length_set]; exact hL.out.1, wd_set hL.out.2.1 _ _ (Nat.mod_lt _ (by decide)), ?_⟩
      rw [val_take_set hiL, E1.out, E2.out, Nat.pow_succ]
      exact more_step hL.out.2.2
  ·have hi' : i = n := by omega
   subst hi'
   have hiL : i < L.length := by have := hL.out.1; omega
   have hout : wr.cell? ⟨w.heap.size, i, none⟩ = some (.int .u32 ((L[i] : Nat) : Int)) := by rw [hblk.cell i, wcells_get, List.getElem?_eq_getElem hiL]; rfl
   have hfz := hblk.frozen i
   clear h1' h2' h1 h2
   go_wp2
   go_ret
   have hset := hblk.set_ i (.int .u32 ((cy : Nat) : Int))
   rw [wcells_set] at hset
   have hlen : (L.set i cy).length = i + 1 := by rw [List.length_set]; exact hL.out.1
   refine ⟨some ⟨w.heap.size, 0, none⟩, L.set i cy, by rw [hlen]; rfl, wd_set hL.out.2.1 _ _ (by omega), ?_, reads_blk hset ?_, hbel.setCell (by show w.heap.size ≤ w.heap.size; omega) _, by rw [hlen]; omega⟩
   ·have h3 := val_take_set hiL cy
    rw [List.take_of_length_le (by omega), hL.out.2.2, List.take_of_length_le (by rw [Hn.out]; exact Nat.le_refl _), List.take_of_length_le (by have := Hm.out; omega)] at h3
    exact h3
   ·exact hset.lt
theorem more_any {w : World} {B n m c d : Nat} {A C : Option Addr} {la lb : List Nat} (h1 : ReadsW w B A la) (h2 : ReadsW w B C lb) (hB : B ≤ w.heap.size) (hn : n = la.length) (hm : m = lb.length) (hnl : n ≤ 140737488355) (hml : m ≤ 140737488355) (ha : Wd la) (hb : Wd lb) :
  Calls Tryz.prog 135 #[.slice A n c, .slice C m d] w (NewW w (val la + val lb)) := by
 rcases Nat.lt_or_ge n m with h | h
 ·have := more_lt h2 h1 hB hm hn hml h hb ha (d := c) (c := d)
  rwa [Nat.add_comm] at this
 ·exact more_ge h1 h2 hB hn hm hnl h ha hb
theorem sub_word {x y : Nat} (hx : x < 4294967296) (hy : y ≤ 4294967296) : ∃ D w' : Nat, IntKind.u64.wrap ((x : Int) - (y : Nat)) = (D : Int) ∧ D ≤ 18446744073709551615 ∧ bits .and .u64 ((D : Int) / 4294967296) 1 = (w' : Int) ∧ w' ≤ 1 ∧ x + 4294967296 * w' = D % 4294967296 + y := by
 have hb : ∀ D : Nat, D ≤ 18446744073709551615 → bits .and .u64 ((D : Int) / 4294967296) 1 = ((D / 4294967296 % 2 : Nat) : Int) := fun D hD => by
  rw [show (D : Int) / 4294967296 = ((D / 4294967296 : Nat) : Int) from by omega, show (1 : Int) = ((1 : Nat) : Int) from rfl, u64_and_nat _ _ (by omega) (by omega), Nat.and_one_is_mod]
 rcases Nat.lt_or_ge x y with h | h
 ·refine ⟨x + 18446744073709551616 - y, 1, ?_, by omega, ?_, by omega, by omega⟩
  ·rw [IntKind.wrap_u64]; omega
  ·rw [hb _ (by omega)]; omega
 ·refine ⟨x - y, 0, ?_, by omega, ?_, by omega, by omega⟩
  ·rw [IntKind.wrap_u64]; omega
  ·rw [hb _ (by omega)]; omega
set_option maxRecDepth 100000 in
set_option maxHeartbeats 1000000 in
theorem less_any {w : World} {B n m c d : Nat} {A C : Option Addr} {la lb : List Nat} (h1 : ReadsW w B A la) (h2 : ReadsW w B C lb) (hB : B ≤ w.heap.size) (hn : n = la.length) (hm : m = lb.length) (hnl : n ≤ 140737488355) (hmn : m ≤ n) (hle : val lb ≤ val la) (ha : Wd la) (hb : Wd lb) :
  Calls Tryz.prog 136 #[.slice A n c, .slice C m d] w (NewW w (val la - val lb)) := by
 have Hn := Lib.hid hn
 have Hm := Lib.hid hm
 have hmk : ∀ w : World, (Instr.makeSlice 33 (.int .i64 (n : Int)) (.int .i64 (n : Int))).run Tryz.prog w = .ok (.slice (some ⟨w.heap.size, 0, none⟩) n n) (w.alloc (.cells (wcells (List.replicate n 0)) 115)) := fun w => by
  have := run_makeW n (by omega) w
  exact this
 have Hle := Lib.hid hle
 clear hn hm hle
 go_enter Tryz.func136, Tryz.ntmps136
 go_wp2
 go_loopg [6, 16] n (fun k cy iv wr => ∃ (i c : Nat) (L : List Nat), cy = .int .u64 (c : Int) ∧ iv = .int .i64 (i : Int) ∧ k = n - i ∧ i ≤ n ∧ c ≤ 1 ∧ Blk wr w.heap.size 115 (wcells L) ∧ Below w.heap.size w wr ∧
  Hid (L.length = n ∧ Wd L ∧ val (L.take i) + val (lb.take i) = val (la.take i) + 4294967296 ^ i * c))
 case atStart => exact ⟨0, 0, List.replicate n 0, rfl, rfl, by omega, by omega, by omega, Blk.new _ _ _, (Below.refl _ _).alloc (Nat.le_refl _) _, by simp, wd_zeros _, by simp [val_nil]⟩
 case round =>
  obtain ⟨i, cy, L, rfl, rfl, hk, hi, hc, hblk, hbel, hL⟩ := hrel
  have Hk := Lib.hid hk
  clear hk
  have h1' := h1.below (hbel.mono hB)
  have h2' := h2.below (hbel.mono hB)
  by_cases hin : i < n
  ·have hia : i < la.length := by rw [← Hn.out]; exact hin
   obtain ⟨ad, rfl, hb1, c1⟩ := h1'.at_ hia
   have w1 := wd_get ha _ hia
   have hii : (i : Int) < (n : Int) := by omega
   have hiL : i < L.length := by have := hL.out.1; omega
   have hout : wr.cell? ⟨w.heap.size, i, none⟩ = some (.int .u32 ((L[i] : Nat) : Int)) := by rw [hblk.cell i, wcells_get, List.getElem?_eq_getElem hiL]; rfl
   have hfz := hblk.frozen i
   by_cases him : i < m
   ·have hib : i < lb.length := by rw [← Hm.out]; exact him
    obtain ⟨bd, rfl, hb2, c2⟩ := h2'.at_ hib
    have w2 := wd_get hb _ hib
    have hmi : (i : Int) < (m : Int) := by omega
    clear h1' h2' h1 h2
    have e1 := val_take_succ hia
    have e2 := val_take_succ hib
    have E1 := Lib.hid e1
    have E2 := Lib.hid e2
    clear e1 e2
    generalize hx : la[i] = x at *
    generalize hy : lb[i] = y at *
    clear hx hy
    obtain ⟨D, w', d1, d2, d3, d4, d5⟩ := sub_word (x := x) (y := cy + y) (by omega) (by omega)
    have D5 := Lib.hid d5
    clear d5
    rw [Int.natCast_add] at d1
    go_wp2
    try rw [show (D : Int) % 4294967296 = ((D % 4294967296 : Nat) : Int) by omega]
    try rw [d3]
    go_roundg (n - (i + 1))
    case measure => have := Hk.out; omega
    case rel =>
     refine ⟨i + 1, w', L.set i (D % 4294967296), rfl, rfl, rfl, by omega, by omega, ?_, hbel.setCell (by show w.heap.size ≤ w.heap.size; omega) _, ?_⟩
     ·have := hblk.set_ i (.int .u32 ((D % 4294967296 : Nat) : Int))
      rwa [wcells_set] at this
     ·refine ⟨by rw [List.length_set]; exact hL.out.1, wd_set hL.out.2.1 _ _ (Nat.mod_lt _ (by decide)), ?_⟩
      rw [val_take_set hiL, E1.out, E2.out, Nat.pow_succ]
      exact less_step hL.out.2.2 (by have := D5.out; omega)
   ·have e1 := val_take_succ hia
    have e2 : val (lb.take (i + 1)) = val (lb.take i) + 4294967296 ^ i * 0 := by rw [List.take_of_length_le (by have := Hm.out; omega), List.take_of_length_le (by have := Hm.out; omega), Nat.mul_zero, Nat.add_zero]
    have E1 := Lib.hid e1
    have E2 := Lib.hid e2
    clear e1 e2
    have hmi : (m : Int) ≤ (i : Int) := by omega
    clear h1' h2' h1 h2
    generalize hx : la[i] = x at *
    clear hx
    obtain ⟨D, w', d1, d2, d3, d4, d5⟩ := sub_word (x := x) (y := cy) (by omega) (by omega)
    have D5 := Lib.hid d5
    clear d5
    go_wp2
    try rw [show (D : Int) % 4294967296 = ((D % 4294967296 : Nat) : Int) by omega]
    try rw [d3]
    go_roundg (n - (i + 1))
    case measure => have := Hk.out; omega
    case rel =>
     refine ⟨i + 1, w', L.set i (D % 4294967296), rfl, rfl, rfl, by omega, by omega, ?_, hbel.setCell (by show w.heap.size ≤ w.heap.size; omega) _, ?_⟩
     ·have := hblk.set_ i (.int .u32 ((D % 4294967296 : Nat) : Int))
      rwa [wcells_set] at this
     ·refine ⟨by rw [List.length_set]; exact hL.out.1, wd_set hL.out.2.1 _ _ (Nat.mod_lt _ (by decide)), ?_⟩
      rw [val_take_set hiL, E1.out, E2.out, Nat.pow_succ]
      exact less_step hL.out.2.2 (by have := D5.out; omega)
  ·have hi' : i = n := by omega
   subst hi'
   clear h1' h2' h1 h2
   go_wp2
   go_ret
   have hlen : L.length = i := hL.out.1
   have h3 := hL.out.2.2
   rw [List.take_of_length_le (by omega), List.take_of_length_le (by have := Hm.out; omega), List.take_of_length_le (by rw [Hn.out]; exact Nat.le_refl _)] at h3
   have h4 := val_lt hL.out.2.1
   rw [hlen] at h4
   have h5 := Hle.out
   have h6 : cy = 0 := by
    rcases (show cy = 0 ∨ cy = 1 by omega) with h0 | h0
    ·exact h0
    ·rw [h0] at h3; omega
   rw [h6] at h3
   refine ⟨some ⟨w.heap.size, 0, none⟩, L, by rw [hlen]; rfl, hL.out.2.1, by omega, reads_blk hblk hblk.lt, hbel, by rw [hlen]; omega⟩
end Go.Proofs.YtebpggfccljagaaGreat
namespace Go.Proofs.YtebpggfccljagaaGreat
namespace Wh
theorem product_step {v v' c x y old cc X P : Nat} (h : v + P * c = X) (hs : v' + P * old = v + P * (cc % 4294967296)) (hcc : cc = c + x * y + old) :
  v' + P * 4294967296 * (cc / 4294967296) = X + P * (x * y) := by
 have h1 := Nat.div_add_mod cc 4294967296
 have h2 : P * (cc % 4294967296) + P * 4294967296 * (cc / 4294967296) = P * c + P * (x * y) + P * old := by
  rw [Nat.mul_assoc, ← Nat.mul_add, ← Nat.mul_add, ← Nat.mul_add]
  congr 1
  omega
 omega
theorem left_step {o c x k cc P A T : Nat} (h : o + P * c = A) (hcc : cc = c + x * 2 ^ k) (hT : T = P * 2 ^ k) :
  (o + P * (cc % 4294967296)) + P * 4294967296 * (cc / 4294967296) = A + T * x := by
 have h1 := Nat.div_add_mod cc 4294967296
 have h2 : P * (cc % 4294967296) + P * 4294967296 * (cc / 4294967296) = P * c + P * (x * 2 ^ k) := by
  rw [Nat.mul_assoc, ← Nat.mul_add, ← Nat.mul_add]
  congr 1
  omega
 have h3 : T * x = P * (x * 2 ^ k) := by rw [hT, Nat.mul_assoc, Nat.mul_comm (2 ^ k) x]
 omega
theorem left_pow (n i : Nat) : (4294967296 : Nat) ^ (n / 32 + i) * 2 ^ (n % 32) = 2 ^ n * 4294967296 ^ i := by
 have h : (4294967296 : Nat) = 2 ^ 32 := by decide
 rw [h, ← Nat.pow_mul, ← Nat.pow_mul, ← Nat.pow_add, ← Nat.pow_add]
 congr 1
 omega
theorem right_word {x y k : Nat} (hk : k ≤ 32) (hx : x < 4294967296) : 2 ^ k * ((x + 4294967296 * y) / 2 ^ k % 4294967296) + x % 2 ^ k = x + 4294967296 * (y % 2 ^ k) := by
 obtain ⟨j, hj⟩ : ∃ j, k + j = 32 := ⟨32 - k, by omega⟩
 have hB : (4294967296 : Nat) = 2 ^ k * 2 ^ j := by rw [← Nat.pow_add, hj]
 have hp : 0 < 2 ^ k := Nat.two_pow_pos k
 have hpj : 0 < 2 ^ j := Nat.two_pow_pos j
 generalize hK : 2 ^ k = K at *
 generalize hJ : 2 ^ j = J at *
 have hx1 := Nat.div_add_mod x K
 have hy1 := Nat.div_add_mod y K
 have hxk : x / K < J := (Nat.div_lt_iff_lt_mul hp).2 (by rw [Nat.mul_comm J K, ← hB]; exact hx)
 have hyk : y % K < K := Nat.mod_lt _ hp
 have e1 : (x + 4294967296 * y) / K = x / K + J * y := by rw [hB, Nat.mul_assoc, Nat.add_mul_div_left _ _ hp]
 have e2 : x / K + J * y = (x / K + J * (y % K)) + 4294967296 * (y / K) := by
  have h1 : J * y = J * (K * (y / K)) + J * (y % K) := by rw [← Nat.mul_add, hy1]
  have h2 : 4294967296 * (y / K) = J * (K * (y / K)) := by rw [hB, Nat.mul_comm K J, Nat.mul_assoc]
  omega
 have h3 : x / K + J * (y % K) < 4294967296 := by
  have h4 : J * (y % K + 1) ≤ J * K := Nat.mul_le_mul_left J hyk
  rw [Nat.mul_comm J K, ← hB, Nat.mul_add, Nat.mul_one] at h4
  omega
 rw [e1, e2, Nat.add_mul_mod_self_left, Nat.mod_eq_of_lt h3, Nat.mul_add]
 have h5 : K * (J * (y % K)) = 4294967296 * (y % K) := by rw [hB, Nat.mul_assoc]
 omega
theorem right_step {o a x y k r P : Nat} (h : 2 ^ k * o + r = a + P * (x % 2 ^ k)) (hk : k ≤ 32) (hx : x < 4294967296) :
  2 ^ k * (o + P * ((x + 4294967296 * y) / 2 ^ k % 4294967296)) + r = (a + P * x) + P * 4294967296 * (y % 2 ^ k) := by
 have h1 := right_word (y := y) hk hx
 have h2 : 2 ^ k * (P * ((x + 4294967296 * y) / 2 ^ k % 4294967296)) + P * (x % 2 ^ k) = P * x + P * 4294967296 * (y % 2 ^ k) := by
  rw [Nat.mul_left_comm, ← Nat.mul_add, h1, Nat.mul_add, Nat.mul_assoc]
 rw [Nat.mul_add]
 omega
theorem right_end {o a r k : Nat} (h : 2 ^ k * o + r = a) (hr : r < 2 ^ k) : o = a / 2 ^ k := by
 rw [← h, Nat.mul_add_div (Nat.two_pow_pos k), Nat.div_eq_of_lt hr, Nat.add_zero]
def bl (m : Nat) : Nat := if m = 0 then 0 else Nat.log2 m + 1
theorem bl_zero : bl 0 = 0 := rfl
theorem bl_eq {m L : Nat} (h1 : 2 ^ L ≤ m) (h2 : m < 2 ^ (L + 1)) : bl m = L + 1 := by
 have h0 : m ≠ 0 := by have := Nat.two_pow_pos L; omega
 unfold bl
 rw [if_neg h0]
 have h3 : L ≤ Nat.log2 m := (Nat.le_log2 h0).2 h1
 have h4 : Nat.log2 m < L + 1 := (Nat.log2_lt h0).2 h2
 omega
theorem lt_bl (m : Nat) : m < 2 ^ bl m := by
 unfold bl
 by_cases h0 : m = 0
 ·rw [if_pos h0, h0]; decide
 ·rw [if_neg h0]
  exact (Nat.log2_lt h0).1 (Nat.lt_succ_self _)
theorem bl_le {m : Nat} (h : 0 < m) : 2 ^ (bl m - 1) ≤ m := by
 unfold bl
 rw [if_neg (by omega), Nat.add_sub_cancel]
 exact (Nat.le_log2 (by omega)).1 (Nat.le_refl _)
theorem bl_lt {m k : Nat} : bl m ≤ k ↔ m < 2 ^ k := by
 constructor
 ·intro h; exact Nat.lt_of_lt_of_le (lt_bl m) (Nat.pow_le_pow_right (by decide) h)
 ·intro h
  unfold bl
  by_cases h0 : m = 0
  ·rw [if_pos h0]; omega
  ·rw [if_neg h0]
   exact (Nat.log2_lt h0).2 h
end Wh
end Go.Proofs.YtebpggfccljagaaGreat
namespace Go.Proofs.YtebpggfccljagaaGreat
open Go.RowKit
open Wh
theorem mul_bound {x y : Nat} (hx : x < 4294967296) (hy : y < 4294967296) : 0 ≤ (x : Int) * (y : Int) ∧ (x : Int) * (y : Int) ≤ 18446744065119617025 := by
 have h1 : x * y ≤ 4294967295 * 4294967295 := Nat.mul_le_mul (by omega) (by omega)
 have h2 : ((x * y : Nat) : Int) = (x : Int) * (y : Int) := Int.natCast_mul x y
 omega
theorem val_take_set_in {L : List Nat} {j n : Nat} (h : j < L.length) (hj : j < n) (y : Nat) : val ((L.set j y).take n) + 4294967296 ^ j * L[j] = val (L.take n) + 4294967296 ^ j * y := by
 have hl : j < (L.take n).length := by rw [List.length_take]; omega
 have e := val_set (L.take n) j y hl
 rw [List.getElem_take] at e
 rw [List.take_set]
 exact e
theorem row_step {L lb : List Nat} {i k m c x V : Nat} (hk : k < lb.length) (h1 : k < m) (hj : i + k < L.length)
  (h : val (L.take (i + m)) + 4294967296 ^ (i + k) * c = V + 4294967296 ^ i * (x * val (lb.take k))) :
  val ((L.set (i + k) ((c + x * lb[k] + L[i + k]) % 4294967296)).take (i + m)) + 4294967296 ^ (i + (k + 1)) * ((c + x * lb[k] + L[i + k]) / 4294967296) = V + 4294967296 ^ i * (x * val (lb.take (k + 1))) := by
 have h2 := val_take_set_in (n := i + m) hj (by omega) ((c + x * lb[k] + L[i + k]) % 4294967296)
 have h3 := product_step h h2 rfl
 rw [val_take_succ hk]
 rw [show i + (k + 1) = (i + k) + 1 by omega, Nat.pow_succ, h3]
 rw [Nat.mul_add x, Nat.mul_add, Nat.pow_add, Nat.mul_assoc, Nat.add_assoc]
 congr 2
 rw [Nat.mul_left_comm x]
set_option maxRecDepth 100000 in
set_option maxHeartbeats 2000000 in
theorem product_any {w : World} {B n m c d : Nat} {A C : Option Addr} {la lb : List Nat} (h1 : ReadsW w B A la) (h2 : ReadsW w B C lb) (hB : B ≤ w.heap.size) (hn : n = la.length) (hm : m = lb.length) (hnl : n ≤ 1000000000) (hml : m ≤ 1000000000) (ha : Wd la) (hb : Wd lb) :
  Calls Tryz.prog 129 #[.slice A n c, .slice C m d] w (NewW w (val la * val lb)) := by
 have Hn := Lib.hid hn
 have Hm := Lib.hid hm
 have hmk : ∀ w : World, (Instr.makeSlice 33 (.int .i64 ((n : Int) + (m : Int))) (.int .i64 ((n : Int) + (m : Int)))).run Tryz.prog w = .ok (.slice (some ⟨w.heap.size, 0, none⟩) (n + m) (n + m)) (w.alloc (.cells (wcells (List.replicate (n + m) 0)) 115)) := fun w => by
  have := run_makeW (n + m) (by omega) w
  exact this
 clear hn hm
 go_enter Tryz.func129, Tryz.ntmps129
 go_wp2
 go_loopg [19] n (fun k iv wr => ∃ (i : Nat) (L : List Nat), iv = .int .i64 (i : Int) ∧ k = n - i ∧ i ≤ n ∧ Blk wr w.heap.size 115 (wcells L) ∧ Below w.heap.size w wr ∧
  Hid (L.length = n + m ∧ Wd L ∧ val (L.take (i + m)) = val (la.take i) * val lb))
 case atStart => exact ⟨0, List.replicate (n + m) 0, rfl, by omega, by omega, Blk.new _ _ _, (Below.refl _ _).alloc (Nat.le_refl _) _, by simp, wd_zeros _, by rw [List.take_replicate, val_zeros, List.take_zero, val_nil, Nat.zero_mul]⟩
 case round =>
  obtain ⟨i, L, rfl, hk, hi, hblk, hbel, hL⟩ := hrel
  have Hk := Lib.hid hk
  clear hk
  obtain ⟨wo, rfl⟩ : ∃ wo : World, wo = wr := ⟨_, rfl⟩
  by_cases hin : i < n
  ·have hia : i < la.length := by rw [← Hn.out]; exact hin
   have h1' := h1.below (hbel.mono hB)
   obtain ⟨ad, rfl, hb1, c1⟩ := h1'.at_ hia
   have w1 := wd_get ha _ hia
   have hii : (i : Int) < (n : Int) := by omega
   have e1 := val_take_succ hia
   have E1 := Lib.hid e1
   clear e1 h1'
   generalize hx : la[i] = x at *
   clear hx
   go_wp2
   go_loopg [8, 26] m (fun k cy kv wr => ∃ (j c : Nat) (L : List Nat), cy = .int .u64 (c : Int) ∧ kv = .int .i64 (j : Int) ∧ k = m - j ∧ j ≤ m ∧ c < 4294967296 ∧ Blk wr w.heap.size 115 (wcells L) ∧ Below w.heap.size w wr ∧
    Hid (L.length = n + m ∧ Wd L ∧ val (L.take (i + m)) + 4294967296 ^ (i + j) * c = val (la.take i) * val lb + 4294967296 ^ i * (x * val (lb.take j))))
   case atStart => exact ⟨0, 0, L, rfl, rfl, by omega, by omega, by omega, hblk, hbel, hL.out.1, hL.out.2.1, by rw [hL.out.2.2]; simp [val_nil]⟩
   case round =>
    obtain ⟨j, cy, L', rfl, rfl, hkj, hj, hc, hblk', hbel', hL'⟩ := hrel
    have Hkj := Lib.hid hkj
    clear hkj
    have h2' := h2.below (hbel'.mono hB)
    by_cases hjm : j < m
    ·have hjb : j < lb.length := by rw [← Hm.out]; exact hjm
     obtain ⟨bd, rfl, hb2, c2⟩ := h2'.at_ hjb
     have w2 := wd_get hb _ hjb
     have hjj : (j : Int) < (m : Int) := by omega
     have hiL : i + j < L'.length := by have := hL'.out.1; omega
     have w3 := wd_get hL'.out.2.1 _ hiL
     have hout : wr.cell? ⟨w.heap.size, i + j, none⟩ = some (.int .u32 ((L'[i + j] : Nat) : Int)) := by rw [hblk'.cell, wcells_get, List.getElem?_eq_getElem hiL]; rfl
     have hfz := hblk'.frozen (i + j)
     have hst := Lib.hid (row_step (V := val (la.take i) * val lb) (x := x) (c := cy) hjb hjm hiL hL'.out.2.2)
     clear h2' h1 h2
     have hmb := mul_bound w1 w2
     obtain ⟨hmb0, hmb1⟩ := hmb
     have hcast := Lib.hid (Int.natCast_mul x lb[j])
     generalize hy : lb[j] = y at *
     generalize ho : L'[i + j] = o at *
     clear hy ho
     go_wp2
     have hq0 : ((cy : Int) + ((x : Int) * (y : Int) + (o : Int))) = ((cy + x * y + o : Nat) : Int) := by rw [← hcast.out]; omega
     have hq1 : ((cy : Int) + ((x : Int) * (y : Int) + (o : Int))) % 4294967296 = (((cy + x * y + o) % 4294967296 : Nat) : Int) := by rw [hq0]; omega
     have hq2 : ((cy : Int) + ((x : Int) * (y : Int) + (o : Int))) / 4294967296 = (((cy + x * y + o) / 4294967296 : Nat) : Int) := by rw [hq0]; omega
     rw [hq1, hq2]
     have hlt : (cy + x * y + o) / 4294967296 < 4294967296 := by rw [← hcast.out] at hmb1; omega
     go_roundg (m - (j + 1))
     case measure => have := Hkj.out; omega
     case rel =>
      refine ⟨j + 1, (cy + x * y + o) / 4294967296, L'.set (i + j) ((cy + x * y + o) % 4294967296), rfl, rfl, rfl, by omega, hlt, ?_, hbel'.setCell (by show w.heap.size ≤ w.heap.size; omega) _, ?_⟩
      ·have := hblk'.set_ (i + j) (.int .u32 (((cy + x * y + o) % 4294967296 : Nat) : Int))
       rwa [wcells_set] at this
      ·exact ⟨by rw [List.length_set]; exact hL'.out.1, wd_set hL'.out.2.1 _ _ (Nat.mod_lt _ (by decide)), hst.out⟩
    ·have hj' : j = m := by omega
     subst hj'
     have hiL : i + j < L'.length := by have := hL'.out.1; omega
     have hout : wr.cell? ⟨w.heap.size, i + j, none⟩ = some (.int .u32 ((L'[i + j] : Nat) : Int)) := by rw [hblk'.cell, wcells_get, List.getElem?_eq_getElem hiL]; rfl
     have hfz := hblk'.frozen (i + j)
     clear h2' h1 h2
     go_wp2
     go_roundg (n - (i + 1))
     case measure => have := Hk.out; omega
     case rel =>
      refine ⟨i + 1, L'.set (i + j) cy, rfl, rfl, by omega, ?_, hbel'.setCell (by show w.heap.size ≤ w.heap.size; omega) _, ?_⟩
      ·have := hblk'.set_ (i + j) (.int .u32 (cy : Int))
       rwa [wcells_set] at this
      ·refine ⟨by rw [List.length_set]; exact hL'.out.1, wd_set hL'.out.2.1 _ _ hc, ?_⟩
       have h3 := val_take_set hiL cy
       rw [show i + 1 + j = i + j + 1 by omega, h3, E1.out, hL'.out.2.2, List.take_of_length_le (l := lb) (by rw [← Hm.out]; exact Nat.le_refl _)]
       rw [Nat.add_mul, Nat.mul_assoc]
  ·have hi' : i = n := by omega
   subst hi'
   clear h1 h2
   go_wp2
   go_ret
   have hL1 := hL.out.1
   refine ⟨some ⟨w.heap.size, 0, none⟩, L, by rw [hL1]; rfl, hL.out.2.1, ?_, reads_blk hblk hblk.lt, hbel, by rw [hL1]; omega⟩
   have h3 := hL.out.2.2
   rw [List.take_of_length_le (by omega), List.take_of_length_le (by rw [Hn.out]; exact Nat.le_refl _)] at h3
   exact h3
def CutW (w : World) (N : Nat) (e : Ending) (w' : World) : Prop := ∃ A m c, e = .returned (.slice A m c) ∧ Hid (m = (wds N).length) ∧ m ≤ c ∧ c ≤ 9223372036854775807 ∧ ReadsW w' w'.heap.size A (wds N) ∧ Below w.heap.size w w'
theorem reads_cut {w : World} {B : Nat} {A : Option Addr} {l : List Nat} (h : ReadsW w B A l) (hw : Wd l) : ReadsW w B A (wds (val l)) := by
 have hwt := wds_take l.length l rfl hw
 rw [hwt.1]
 exact h.take _
theorem cutw_end {w wr : World} {g n N : Nat} {L : List Nat} (hblk : Blk wr g 115 (wcells L)) (hL : L.length = n) (hn : n ≤ 9223372036854775807) (hw : Wd L) (hv : val L = N) (hbel : Below w.heap.size w wr) {m : Nat} (hm : m = (wds (val L)).length) :
  CutW w N (.returned (.slice (some ⟨g, 0, none⟩) m n)) wr := by
 refine ⟨_, m, n, rfl, by rw [← hv]; exact hm, ?_, hn, ?_, hbel⟩
 ·have := (wds_take L.length L rfl hw).2; omega
 ·rw [← hv]; exact reads_cut (reads_blk hblk hblk.lt) hw
def OwnW (w : World) (B : Nat) (v : Value) (l : List Nat) : Prop := w.ownsRow B 115 1 v l.length (l.map wv)
theorem OwnW.form {w : World} {B : Nat} {v : Value} {l : List Nat} (h : OwnW w B v l) : ∃ A c, v = .slice A l.length c ∧ l.length ≤ c ∧ c ≤ 9223372036854775807 := by
 rcases h.2 with ⟨rfl, h0⟩ | ⟨g, cap, cur, rfl, _, _, hc, hm, _⟩
 ·exact ⟨none, 0, by rw [h0], by omega, by omega⟩
 ·exact ⟨_, cap, rfl, hc, by unfold maxLen at hm; omega⟩
theorem OwnW.len {w : World} {B n c : Nat} {A : Option Addr} {l : List Nat} (h : OwnW w B (.slice A n c) l) : n = l.length ∧ n ≤ c ∧ c ≤ 9223372036854775807 := by
 obtain ⟨A', c', e, h1, h2⟩ := h.form
 injection e with _ e2 e3
 omega
theorem OwnW.reads {w : World} {B n c : Nat} {A : Option Addr} {l : List Nat} (h : OwnW w B (.slice A n c) l) : ReadsW w w.heap.size A l := by
 obtain rfl := h.len.1
 refine ⟨Reads.of_own h, fun hn => ?_⟩
 rcases h.2 with ⟨hv, h0⟩ | ⟨g, cap, cur, hv, _, hh, _⟩
 ·omega
 ·injection hv with e1
  exact ⟨_, _, _, e1, hh⟩
theorem OwnW.alloc {w : World} {B : Nat} {v : Value} {l : List Nat} (h : OwnW w B v l) (o : Obj) : OwnW (w.alloc o) B v l := World.ownsRow.alloc h o
theorem OwnW.nil (w : World) (B : Nat) : OwnW w B (.slice none 0 0) [] := World.ownsRow_nil w B _ 1
theorem OwnW.made (w : World) {n c : Nat} (hnc : n ≤ c) (hc : c ≤ 9223372036854775807) : OwnW (w.alloc (.cells (wcells (List.replicate c 0)) 115)) w.heap.size (.slice (some ⟨w.heap.size, 0, none⟩) n c) (List.replicate n 0) := by
 refine ⟨by simp, .inr ⟨_, c, _, by simp, Nat.le_refl _, heap_alloc_new w _, by simpa using hnc, by unfold maxLen; omega, by simp [wcells], ?_⟩⟩
 unfold wcells
 simp
 omega
theorem run_makeWc (n c : Nat) (hnc : n ≤ c) (hc : c ≤ 70368744177664) (w : World) :
  (Instr.makeSlice 33 (.int .i64 (n : Int)) (.int .i64 (c : Int))).run Tryz.prog w = .ok (.slice (some ⟨w.heap.size, 0, none⟩) n c) (w.alloc (.cells (wcells (List.replicate c 0)) 115)) := by
 obtain ⟨i0, hi, hz0, hz1, hz2⟩ := info_parts infoW
 have h := run_make_rowN (P := Tryz.prog) 33 115 i0 (.int .u32 0) Tryz.underlying33 hi hz0 .i64 .i64 n c hnc (by rw [hz2]; omega) (by omega) w
 rw [hz1, madeW] at h
 exact h
theorem wpW_push {w : World} {ops : Array Oper} {rest : List Oper} {o : Oper} {a : Act} {Q : Exit → Act → World → Prop} (hgd : o.guard = none) (s x : Operand)
  (ho : o.op = .call { callee := .builtin .append, args := #[s, x], argTypes := #[33, 33] }) (B : Nat) (v : Value) (l : List Nat) (hown : OwnW w B v l) (hs : a.eval s = v)
  {X : Int} {y : Nat} (hX : X = (y : Int)) (hx : a.eval x = .slice (some ⟨w.heap.size, 0, none⟩) 1 1) (hlen : l.length ≤ 35184372088830) (hbase : B ≤ w.heap.size)
  (h : ∀ A' n' c' w', OwnW w' B (.slice A' n' c') (l ++ [y]) → (∀ w0, Below B w0 w → Below B w0 w') → B ≤ w'.heap.size → wpList Tryz.prog ops Q rest (a.put o.dst (.slice A' n' c')) w') :
  wpList Tryz.prog ops Q (o :: rest) a (w.alloc (.cells #[.int .u32 X] 115)) := by
 obtain ⟨i0, hi, hz0, hz1, hz2⟩ := info_parts infoW
 subst hX
 have hr : Reads (w.alloc (.cells #[.int .u32 (y : Int)] 115)) (w.heap.size + 1) 1 (some ⟨w.heap.size, 0, none⟩) 1 ([y].map wv) := by
  have := reads_blk (w := w.alloc (.cells #[.int .u32 (y : Int)] 115)) (B := w.heap.size + 1) (l := [y]) (Blk.new w 115 (wcells [y])) (by omega)
  exact this.1
 refine wpList_append_any _ hgd s x 33 ho B 115 i0 (.int .u32 0) 1 4 Tryz.underlying33 hi hz0 hz1 hz2 rfl (by decide) v l.length (l.map wv) hs (hown.alloc _) _ _ 1 1 ([y].map wv) hx hr (wv_one _) (by unfold maxLen; omega) (by omega) (by simp; omega) ?_
 intro v' w' h1 h2 h3
 have h4 : OwnW w' B v' (l ++ [y]) := by
  unfold OwnW
  rw [List.length_append, List.map_append]
  exact h1
 obtain ⟨A', c', rfl, _⟩ := h4.form
 refine h A' _ c' w' h4 (fun w0 hb => (hb.alloc hbase _).grown h2 (by simp; omega) (fun k hk => (hown.lt k hk).1)) ?_
 have := h2.size
 simp at this
 omega
theorem left_or {cy x s : Nat} (hs : s < 32) (hc : cy < 2 ^ s) (hx : x < 4294967296) :
  bits .or .u64 (cy : Int) (IntKind.u64.wrap ((x : Int) * 2 ^ s)) = ((cy + x * 2 ^ s : Nat) : Int) ∧ (cy + x * 2 ^ s) / 4294967296 < 2 ^ s ∧ cy + x * 2 ^ s ≤ 9223372036854775807 := by
 have h1 : (2 : Nat) ^ s ≤ 2 ^ 31 := Nat.pow_le_pow_right (by decide) (by omega)
 have h2 : (x + 1) * 2 ^ s ≤ 4294967296 * 2 ^ s := Nat.mul_le_mul_right _ hx
 rw [Nat.add_mul, Nat.one_mul] at h2
 have e1 : ((x : Int) * 2 ^ s) = ((x * 2 ^ s : Nat) : Int) := by rw [Int.natCast_mul, Int.natCast_pow]; rfl
 refine ⟨?_, ?_, by omega⟩
 ·rw [e1, IntWalk.u64_in _ (by omega), u64_or_nat _ _ (by omega) (by omega), Nat.or_comm]
  have := Nat.two_pow_add_eq_or_of_lt hc x
  rw [Nat.mul_comm] at this
  rw [← this, Nat.add_comm]
 ·exact (Nat.div_lt_iff_lt_mul (by decide)).2 (by omega)
set_option maxRecDepth 100000 in
set_option maxHeartbeats 2000000 in
theorem left_any {w : World} {B n m c : Nat} {A : Option Addr} {la : List Nat} (h1 : ReadsW w B A la) (hB : B ≤ w.heap.size) (hm : m = la.length) (hml : m ≤ 1000000000) (hnl : n ≤ 1000000000) (ha : Wd la) :
  Calls Tryz.prog 138 #[.slice A m c, .int .i64 (n : Int)] w (CutW w (val la * 2 ^ n)) := by
 have Hm := Lib.hid hm
 have hmk : ∀ w : World, (Instr.makeSlice 33 (.int .i64 ((n : Int) / 32)) (.int .i64 ((n : Int) / 32 + (m : Int) + 1))).run Tryz.prog w = .ok (.slice (some ⟨w.heap.size, 0, none⟩) (n / 32) (n / 32 + m + 1)) (w.alloc (.cells (wcells (List.replicate (n / 32 + m + 1) 0)) 115)) := fun w => by
  have := run_makeWc (n / 32) (n / 32 + m + 1) (by omega) (by omega) w
  rw [← this]
  congr 3
 clear hm
 go_enter Tryz.func138, Tryz.ntmps138
 go_wp2
 go_loopg [5, 6, 20] m (fun k ov cy iv wr => ∃ (A' : Option Addr) (n' c' i c : Nat) (L : List Nat), ov = .slice A' n' c' ∧ cy = .int .u64 (c : Int) ∧ iv = .int .i64 (i : Int) ∧ k = m - i ∧ i ≤ m ∧ c < 4294967296 ∧ OwnW wr w.heap.size (.slice A' n' c') L ∧ Below w.heap.size w wr ∧
  Hid (L.length = n / 32 + i ∧ Wd L ∧ c < 2 ^ (n % 32) ∧ val L + 4294967296 ^ (n / 32 + i) * c = 2 ^ n * val (la.take i)))
 case atStart => exact ⟨_, _, _, 0, 0, List.replicate (n / 32) 0, rfl, rfl, rfl, by omega, by omega, by omega, OwnW.made w (by omega) (by omega), (Below.refl _ _).alloc (Nat.le_refl _) _, by simp, wd_zeros _, Nat.two_pow_pos _, by simp [val_nil, val_zeros]⟩
 case round =>
  obtain ⟨A', n', c', i, cy, L, rfl, rfl, rfl, hk, hi, hc, hown, hbel, hL⟩ := hrel
  have Hk := Lib.hid hk
  clear hk
  have h1' := h1.below (hbel.mono hB)
  have hsz := hbel.size
  by_cases hin : i < m
  ·have hia : i < la.length := by rw [← Hm.out]; exact hin
   obtain ⟨ad, rfl, hb1, c1⟩ := h1'.at_ hia
   have w1 := wd_get ha _ hia
   have hii : (i : Int) < (m : Int) := by omega
   have E1 := Lib.hid (val_take_succ hia)
   clear h1' h1
   generalize hx : la[i] = x at *
   clear hx
   have hlo := left_or (Nat.mod_lt n (by decide)) hL.out.2.2.1 w1
   obtain ⟨T, hT⟩ : ∃ T : Nat, T = cy + x * 2 ^ (n % 32) := ⟨_, rfl⟩
   rw [← hT] at hlo
   obtain ⟨hso, ht1, ht2⟩ := hlo
   have HT := Lib.hid (And.intro hT ht1)
   have hLl : L.length ≤ 2000000000 := by have := hL.out.1; omega
   clear ht1 hT
   go_wp2_with (at_builtin; refine wpW_push rfl (.tmp 31) (.tmp 34) rfl w.heap.size _ L hown rfl (y := T % 4294967296) (by rw [Int.natCast_emod]; rfl) rfl (by omega) (by omega) ?_; intro A2 n2 c2 w1 ho hkeep _)
   rw [show (T : Int) / 4294967296 = ((T / 4294967296 : Nat) : Int) by omega]
   go_roundg (m - (i + 1))
   case measure => have := Hk.out; omega
   case rel =>
    refine ⟨A2, n2, c2, i + 1, T / 4294967296, L ++ [T % 4294967296], rfl, rfl, rfl, rfl, by omega, by omega, ho, hkeep w hbel, ?_⟩
    have hl := hL.out
    refine ⟨by rw [List.length_append, hl.1]; rfl, wd_append.2 ⟨hl.2.1, wd_cons.2 ⟨Nat.mod_lt _ (by decide), wd_nil⟩⟩, HT.out.2, ?_⟩
    rw [val_snoc, hl.1, E1.out, Nat.mul_add, ← Nat.add_assoc, Nat.pow_succ]
    rw [← Nat.mul_assoc (2 ^ n)]
    exact left_step hl.2.2.2 HT.out.1 (left_pow n i).symm
  ·have hi' : i = m := by omega
   subst hi'
   have hl := hL.out
   have hz : val (L ++ [cy]) = val la * 2 ^ n := by
    rw [val_snoc, hl.1, hl.2.2.2, List.take_of_length_le (by rw [Hm.out]; exact Nat.le_refl _), Nat.mul_comm]
   have Hz := Lib.hid hz
   have hLl : L.length ≤ 2000000000 := by have := hl.1; omega
   have Hw := Lib.hid (wd_append.2 ⟨hl.2.1, wd_cons.2 ⟨hc, wd_nil⟩⟩)
   have hcc : (cy : Int) % 4294967296 = (cy : Int) := by omega
   clear h1' h1 hz hl
   go_wp2_with (at_builtin; refine wpW_push rfl (.tmp 39) (.tmp 42) rfl w.heap.size _ L hown rfl (y := cy) rfl rfl (by omega) (by omega) ?_; intro A2 n2 c2 w1 ho hkeep _)
   have hcut := cut_any ho.reads ho.len.1 ho.len.2.1 ho.len.2.2 Hw.out
   have Hc := Lib.hid (And.intro ho hcut)
   have Hk2 := Lib.hid (hkeep w hbel)
   clear ho hcut hkeep
   go_wp2_with (go_at_call 131; refine Hc.out.2.mono ?_; rintro e w' ⟨q, rfl, hq, rfl⟩; have Hq := Lib.hid hq; clear hq)
   go_ret
   have hwt := (wds_take _ _ rfl Hw.out).2
   have hn2 := Hc.out.1.len
   refine ⟨_, _, _, rfl, by rw [← Hz.out]; exact Hq.out, ?_, hn2.2.2, by rw [← Hz.out]; exact reads_cut Hc.out.1.reads Hw.out, Hk2.out⟩
   have := Hq.out
   omega
theorem ReadsW.drop {w : World} {B k : Nat} {ad : Addr} {l : List Nat} (h : ReadsW w B (some ad) l) (hk : k ≤ l.length) : ReadsW w B (some (ad.add k)) (l.drop k) := by
 refine ⟨⟨by simp, fun hn => ?_⟩, fun hn => ?_⟩
 ·obtain ⟨ad', e, hb, hc⟩ := h.1.2 (by rw [List.length_drop] at hn; omega)
  injection e with e
  subst e
  refine ⟨_, rfl, by rw [block_of_add]; exact hb, fun j u hu => ?_⟩
  rw [add_of_add]
  refine hc _ u ?_
  rw [← hu, List.getElem?_map, List.getElem?_map, List.getElem?_drop]
 ·obtain ⟨ad', cs, fz, e, hh⟩ := h.2 (by rw [List.length_drop] at hn; omega)
  injection e with e
  subst e
  exact ⟨_, cs, fz, rfl, by rw [block_of_add]; exact hh⟩
theorem add_pos {a : Addr} {i : Nat} (h : i ≠ 0) : a.add i = ⟨a.block, a.off + i, none⟩ := by unfold Addr.add; rw [if_neg h]
theorem at_get {l : List Nat} {i : Nat} (h : i < l.length) : at_ l i = l[i] := by unfold at_; rw [List.getD_eq_getElem?_getD, List.getElem?_eq_getElem h]; rfl
theorem at_end {l : List Nat} {i : Nat} (h : l.length ≤ i) : at_ l i = 0 := by unfold at_; rw [List.getD_eq_getElem?_getD, List.getElem?_eq_none h]; rfl
theorem div_words {l : List Nat} (hw : Wd l) {n : Nat} (h : n / 32 ≤ l.length) : val l / 2 ^ n = val (l.drop (n / 32)) / 2 ^ (n % 32) := by
 have e : (2 : Nat) ^ n = 4294967296 ^ (n / 32) * 2 ^ (n % 32) := by
  have h0 : (4294967296 : Nat) = 2 ^ 32 := by decide
  rw [h0, ← Nat.pow_mul, ← Nat.pow_add]
  congr 1
  omega
 rw [e, ← Nat.div_div_eq_div_mul, val_split l (n / 32) h]
 have hl : val (l.take (n / 32)) < 4294967296 ^ (n / 32) := by
  have := val_lt (wd_take hw (n / 32))
  rwa [List.length_take, Nat.min_eq_left h] at this
 rw [Nat.add_mul_div_left _ _ (Nat.pow_pos (by decide)), Nat.div_eq_of_lt hl, Nat.zero_add]
theorem right_or {x y : Nat} (hx : x < 4294967296) (hy : y < 4294967296) : bits .or .u64 (x : Int) ((y : Int) * 4294967296) = ((x + 4294967296 * y : Nat) : Int) ∧ x + 4294967296 * y ≤ 18446744073709551615 := by
 refine ⟨?_, by omega⟩
 rw [show ((y : Int) * 4294967296) = ((y * 4294967296 : Nat) : Int) by omega, u64_or_nat _ _ (by omega) (by omega), Nat.or_comm, nat_join 32 _ _ (by omega) (by omega)]
 omega
theorem right_q2 {x y s : Nat} : ((x : Int) + 4294967296 * (y : Int)) / 2 ^ s % 4294967296 = (((x + 4294967296 * y) / 2 ^ s % 4294967296 : Nat) : Int) := by
 rw [Int.natCast_emod, Int.natCast_ediv, Int.natCast_pow, Int.natCast_add, Int.natCast_mul]; rfl
theorem right_q1 {x s : Nat} : (x : Int) / 2 ^ s % 4294967296 = (((x + 4294967296 * 0) / 2 ^ s % 4294967296 : Nat) : Int) := by
 rw [Nat.mul_zero, Nat.add_zero, Int.natCast_emod, Int.natCast_ediv, Int.natCast_pow]; rfl
set_option maxRecDepth 100000 in
theorem right_none {w : World} {n m c : Nat} {A : Option Addr} {la : List Nat} (hm : m = la.length) (ha : Wd la) (hnl : n ≤ 1000000000) (hmn : m ≤ n / 32) :
  Calls Tryz.prog 140 #[.slice A m c, .int .i64 (n : Int)] w (CutW w (val la / 2 ^ n)) := by
 have hz : val la / 2 ^ n = 0 := by
  refine Nat.div_eq_of_lt ?_
  have h1 := val_lt ha
  have h2 : 4294967296 ^ la.length ≤ 2 ^ n := by
   have h0 : (4294967296 : Nat) = 2 ^ 32 := by decide
   rw [h0, ← Nat.pow_mul]
   exact Nat.pow_le_pow_right (by decide) (by omega)
  omega
 have Hz := Lib.hid hz
 have hmi : (m : Int) ≤ (n : Int) / 32 := by omega
 clear hz hm
 go_enter Tryz.func140, Tryz.ntmps140
 go_wp2
 go_ret
 rw [Hz.out]
 exact ⟨none, 0, 0, rfl, by rw [wds_zero]; rfl, by omega, by omega, by rw [wds_zero]; exact ReadsW.none_ _ _ _, Below.refl _ _⟩
set_option maxRecDepth 100000 in
set_option maxHeartbeats 2000000 in
theorem right_some {w : World} {B n m c : Nat} {A : Option Addr} {la : List Nat} (h1 : ReadsW w B A la) (hB : B ≤ w.heap.size) (hm : m = la.length) (hmc : m ≤ c) (hml : m ≤ 1000000000) (ha : Wd la) (hnl : n ≤ 1000000000) (hmn : n / 32 < m) :
  Calls Tryz.prog 140 #[.slice A m c, .int .i64 (n : Int)] w (CutW w (val la / 2 ^ n)) := by
 have hrd := h1.at_ (k := 0) (by omega)
 obtain ⟨ad, rfl, hb1, c1⟩ := hrd
 have h2 := h1.drop (k := n / 32) (by omega)
 have Hv := Lib.hid (div_words ha (n := n) (by omega))
 have hwd := wd_drop ha (n / 32)
 obtain ⟨ld, hld⟩ : ∃ ld, ld = la.drop (n / 32) := ⟨_, rfl⟩
 rw [← hld] at h2 Hv hwd
 obtain ⟨p, hp⟩ : ∃ p, m = n / 32 + p := ⟨m - n / 32, by omega⟩
 have hpl : p = ld.length := by rw [hld, List.length_drop]; omega
 have Hp := Lib.hid hpl
 have hmk : ∀ w : World, (Instr.makeSlice 33 (.int .i64 (p : Int)) (.int .i64 (p : Int))).run Tryz.prog w = .ok (.slice (some ⟨w.heap.size, 0, none⟩) p p) (w.alloc (.cells (wcells (List.replicate p 0)) 115)) := run_makeW p (by omega)
 have h3 : (n : Int) / 32 < (m : Int) := by omega
 clear hm hld c1 h1 hpl
 go_enter Tryz.func140, Tryz.ntmps140
 go_wp2
 go_loopg [23] p (fun k iv wr => ∃ (i : Nat) (L : List Nat), iv = .int .i64 (i : Int) ∧ k = p - i ∧ i ≤ p ∧ Blk wr w.heap.size 115 (wcells L) ∧ Below w.heap.size w wr ∧
  Hid (L.length = p ∧ Wd L ∧ 2 ^ (n % 32) * val (L.take i) + at_ ld 0 % 2 ^ (n % 32) = val (ld.take i) + 4294967296 ^ i * (at_ ld i % 2 ^ (n % 32))))
 case atStart => exact ⟨0, List.replicate p 0, rfl, by omega, by omega, Blk.new _ _ _, (Below.refl _ _).alloc (Nat.le_refl _) _, by simp, wd_zeros _, by simp [val_nil]⟩
 case round =>
  obtain ⟨i, L, rfl, hk, hi, hblk, hbel, hL⟩ := hrel
  have Hk := Lib.hid hk
  clear hk
  have h2' := h2.below (hbel.mono hB)
  by_cases hin : i < p
  ·have hia : i < ld.length := by rw [← Hp.out]; exact hin
   obtain ⟨ad', e', hb1, c1⟩ := h2'.at_ hia
   injection e' with e'
   subst e'
   have w1 := wd_get hwd _ hia
   have hii : (i : Int) < (p : Int) := by omega
   have E1 := Lib.hid (val_take_succ hia)
   have E2 := Lib.hid (at_get hia)
   have hiL : i < L.length := by have := hL.out.1; omega
   have hout : wr.cell? ⟨w.heap.size, i, none⟩ = some (.int .u32 ((L[i] : Nat) : Int)) := by rw [hblk.cell i, wcells_get, List.getElem?_eq_getElem hiL]; rfl
   have hfz := hblk.frozen i
   by_cases hin2 : i + 1 < p
   ·have hia2 : i + 1 < ld.length := by rw [← Hp.out]; exact hin2
    obtain ⟨ad', e', _, c2⟩ := h2'.at_ hia2
    injection e' with e'
    subst e'
    have w2 := wd_get hwd _ hia2
    have E3 := Lib.hid (at_get hia2)
    have hii2 : (i : Int) + 1 < (p : Int) := by omega
    clear h2' h2
    rw [add_pos (Nat.succ_ne_zero i)] at c2
    generalize hx : ld[i] = x at *
    generalize hy : ld[i + 1] = y at *
    clear hx hy
    obtain ⟨hso, ht⟩ := right_or w1 w2
    go_wp2
    rw [right_q2]
    go_roundg (p - (i + 1))
    case measure => have := Hk.out; omega
    case rel =>
     refine ⟨i + 1, L.set i ((x + 4294967296 * y) / 2 ^ (n % 32) % 4294967296), rfl, rfl, by omega, ?_, hbel.setCell (by show w.heap.size ≤ w.heap.size; omega) _, ?_⟩
     ·have := hblk.set_ i (.int .u32 (((x + 4294967296 * y) / 2 ^ (n % 32) % 4294967296 : Nat) : Int))
      rwa [wcells_set] at this
     ·refine ⟨by rw [List.length_set]; exact hL.out.1, wd_set hL.out.2.1 _ _ (Nat.mod_lt _ (by decide)), ?_⟩
      have h3 := hL.out.2.2
      rw [E2.out] at h3
      rw [val_take_set hiL, E1.out, E3.out, Nat.pow_succ]
      exact right_step h3 (by omega) w1
   ·have E3 := Lib.hid (at_end (l := ld) (i := i + 1) (by have := Hp.out; omega))
    have hii2 : (p : Int) ≤ (i : Int) + 1 := by omega
    clear h2' h2
    generalize hx : ld[i] = x at *
    clear hx
    go_wp2
    rw [right_q1]
    go_roundg (p - (i + 1))
    case measure => have := Hk.out; omega
    case rel =>
     refine ⟨i + 1, L.set i ((x + 4294967296 * 0) / 2 ^ (n % 32) % 4294967296), rfl, rfl, by omega, ?_, hbel.setCell (by show w.heap.size ≤ w.heap.size; omega) _, ?_⟩
     ·have := hblk.set_ i (.int .u32 (((x + 4294967296 * 0) / 2 ^ (n % 32) % 4294967296 : Nat) : Int))
      rwa [wcells_set] at this
     ·refine ⟨by rw [List.length_set]; exact hL.out.1, wd_set hL.out.2.1 _ _ (Nat.mod_lt _ (by decide)), ?_⟩
      have h3 := hL.out.2.2
      rw [E2.out] at h3
      rw [val_take_set hiL, E1.out, E3.out, Nat.pow_succ]
      exact right_step h3 (by omega) w1
  ·have hi' : i = p := by omega
   subst hi'
   have hL1 := hL.out.1
   have hz : val L = val la / 2 ^ n := by
    have h3 := hL.out.2.2
    rw [List.take_of_length_le (by omega), List.take_of_length_le (by rw [← Hp.out]; exact Nat.le_refl _), at_end (i := i) (by rw [← Hp.out]; exact Nat.le_refl _), Nat.zero_mod, Nat.mul_zero, Nat.add_zero] at h3
    rw [Hv.out, ← right_end h3 (Nat.mod_lt _ (Nat.two_pow_pos _))]
   have HT := Lib.hid (cut_any (reads_blk hblk hblk.lt) hL1.symm (Nat.le_refl _) (by omega) hL.out.2.1)
   have H3 := Lib.hid hz
   clear h2' h2 hL1 hz
   go_wp2_with (go_at_call 131; refine HT.out.mono ?_; rintro e w' ⟨q, rfl, hq, rfl⟩; have Hq := Lib.hid hq; clear hq)
   go_ret
   exact cutw_end hblk hL.out.1 (by omega) hL.out.2.1 H3.out hbel Hq.out
theorem right_any {w : World} {B n m c : Nat} {A : Option Addr} {la : List Nat} (h1 : ReadsW w B A la) (hB : B ≤ w.heap.size) (hm : m = la.length) (hmc : m ≤ c) (hml : m ≤ 1000000000) (hnl : n ≤ 1000000000) (ha : Wd la) :
  Calls Tryz.prog 140 #[.slice A m c, .int .i64 (n : Int)] w (CutW w (val la / 2 ^ n)) := by
 rcases Nat.lt_or_ge (n / 32) m with h | h
 ·exact right_some h1 hB hm hmc hml ha hnl h
 ·exact right_none hm ha hnl h
end Go.Proofs.YtebpggfccljagaaGreat
namespace Go.Proofs.YtebpggfccljagaaGreat
namespace Wh
theorem trial_over {T P L W M q U V : Nat} (hU : U = T * P + L) (hL : L < P) (hV : V = W * P + M) (h : T < q * W) : U < q * V := by
 have h1 : (T + 1) * P ≤ q * W * P := Nat.mul_le_mul_right P h
 have h2 : q * W * P ≤ q * V := by
  rw [hV, Nat.mul_add, Nat.mul_assoc]
  exact Nat.le_add_right _ _
 rw [Nat.add_mul, Nat.one_mul] at h1
 omega
theorem trial_near {T P L W M q U V : Nat} (hU : U = T * P + L) (hV : V = W * P + M) (hM : M < P) (hq : q * W ≤ T) (hqP : q * P ≤ V) (hV0 : 0 < V) : q * V < U + V := by
 rcases Nat.eq_zero_or_pos q with h0 | h0
 ·rw [h0, Nat.zero_mul]; omega
 ·have h1 : q * W * P ≤ T * P := Nat.mul_le_mul_right P hq
  have h2 : q * M < q * P := Nat.mul_lt_mul_of_pos_left hM h0
  have h3 : q * V = q * W * P + q * M := by rw [hV, Nat.mul_add, Nat.mul_assoc]
  omega
theorem first_ge {T P L w M k U V : Nat} (hU : U = T * P + L) (hL : L < P) (hV : V = w * P + M) (hw : 0 < w) (hk : k * V ≤ U) : k ≤ T / w := by
 have h1 : k * w * P ≤ k * V := by
  rw [hV, Nat.mul_add, Nat.mul_assoc]
  exact Nat.le_add_right _ _
 have h2 : k * w * P < (T + 1) * P := by
  rw [Nat.add_mul, Nat.one_mul]
  omega
 have h3 : k * w < T + 1 := Nat.lt_of_mul_lt_mul_right h2
 exact (Nat.le_div_iff_mul_le hw).2 (by omega)
theorem test_iff {q w2 w1 r T u : Nat} (h : q * w1 + r = T) : (T * 4294967296 + u < q * (w1 * 4294967296 + w2)) ↔ r * 4294967296 + u < q * w2 := by
 have h1 : q * (w1 * 4294967296 + w2) = q * w1 * 4294967296 + q * w2 := by rw [Nat.mul_add, Nat.mul_assoc]
 have h2 : T * 4294967296 = q * w1 * 4294967296 + r * 4294967296 := by rw [← h, Nat.add_mul]
 rw [h1, h2]
 omega
theorem stands {q w2 r u : Nat} (hq : q ≤ 4294967296) (hw : w2 < 4294967296) (hr : 4294967296 ≤ r) : q * w2 ≤ r * 4294967296 + u := by
 have h1 : q * w2 ≤ 4294967296 * w2 := Nat.mul_le_mul_right w2 hq
 omega
theorem take_step {O A W q c b u v dd b' cc P : Nat} (h : O + q * W = A + P * (c + b)) (hcc : cc = c + q * v) (hd : u + 4294967296 * b' = dd + (cc % 4294967296 + b)) :
  (O + P * dd) + q * (W + P * v) = (A + P * u) + P * 4294967296 * (cc / 4294967296 + b') := by
 have h1 : q * (W + P * v) = q * W + P * (q * v) := by rw [Nat.mul_add, Nat.mul_left_comm]
 have h2 : c + b + dd + q * v = u + 4294967296 * (cc / 4294967296 + b') := by
  have := Nat.div_add_mod cc 4294967296
  omega
 have h3 : P * (c + b) + P * dd + P * (q * v) = P * u + P * 4294967296 * (cc / 4294967296 + b') := by
  rw [← Nat.mul_add, ← Nat.mul_add, h2, Nat.mul_add, Nat.mul_assoc]
 rw [h1]
 omega
theorem take_all {O q V U E b : Nat} (h : O + q * V = U + E * b) (hO : O < E) (hb : b ≤ 1) : (b = 0 ↔ q * V ≤ U) := by
 rcases (show b = 0 ∨ b = 1 by omega) with rfl | rfl
 ·constructor
  ·intro _; omega
  ·intro _; rfl
 ·constructor
  ·intro h0; cases h0
  ·intro h0; omega
theorem back_all {O O2 q V U E c : Nat} (h : O + q * V = U + E * 1) (h2 : O2 + E * c = O + V) (hO : O < E) (hO2 : O2 < E) (hn : q * V < U + V) (hV : V < E) (hq : 0 < q) : O2 + (q - 1) * V = U := by
 obtain ⟨m, rfl⟩ : ∃ m, q = m + 1 := ⟨q - 1, by omega⟩
 rw [Nat.add_mul, Nat.one_mul] at h hn
 have e : m + 1 - 1 = m := by omega
 rw [e]
 have hc : c = 1 := by
  rcases (show c = 0 ∨ c = 1 ∨ 2 ≤ c by omega) with h0 | h0 | h0
  ·subst h0; omega
  ·exact h0
  ·have : E * 2 ≤ E * c := Nat.mul_le_mul_left E h0
   omega
 subst hc
 omega
theorem digit_step {X S V Q k U U' lo P : Nat} (hX : X = S + V * Q) (hS : S = lo + P * U) (hU : U' + k * V = U) : X = (lo + P * U') + V * (Q + P * k) := by
 have h1 : V * (Q + P * k) = V * Q + P * (k * V) := by rw [Nat.mul_add, Nat.mul_left_comm, Nat.mul_comm V k]
 have h2 : P * U = P * U' + P * (k * V) := by rw [← hU, Nat.mul_add]
 omega
theorem digit_left {lo P U' V : Nat} (hlo : lo < P) (h : U' < V) : lo + P * U' < V * P := by
 have : P * (U' + 1) ≤ P * V := Nat.mul_le_mul_left P h
 rw [Nat.mul_add, Nat.mul_one] at this
 rw [Nat.mul_comm V P]
 omega
theorem digit_word {S V lo P U : Nat} (hS : S = lo + P * U) (h : S < V * (P * 4294967296)) : U < 4294967296 * V := by
 have h1 : P * U < P * (4294967296 * V) := by
  have : V * (P * 4294967296) = P * (4294967296 * V) := by rw [Nat.mul_left_comm, Nat.mul_comm V]
  omega
 exact Nat.lt_of_mul_lt_mul_left h1
theorem divide_end {A b Q R s : Nat} (h : A * s = R + b * s * Q) (hR : R < b * s) (hs : 0 < s) : Q = A / b ∧ R / s = A % b := by
 have hb : 0 < b := by
  rcases Nat.eq_zero_or_pos b with h0 | h0
  ·rw [h0, Nat.zero_mul] at hR; omega
  ·exact h0
 have hd : s ∣ R := by
  have h1 : s ∣ b * s * Q := ⟨b * Q, by rw [Nat.mul_comm b s, Nat.mul_assoc]⟩
  have h2 : s ∣ R + b * s * Q := by rw [← h]; exact ⟨A, Nat.mul_comm A s⟩
  exact (Nat.dvd_add_left h1).1 h2
 obtain ⟨t, rfl⟩ := hd
 have e1 : A = t + b * Q := by
  have h1 : s * A = s * (t + b * Q) := by
   rw [Nat.mul_comm s A, h, Nat.mul_add, Nat.mul_comm b s, Nat.mul_assoc]
  exact Nat.eq_of_mul_eq_mul_left hs h1
 have ht : t < b := by
  rw [Nat.mul_comm b s] at hR
  exact Nat.lt_of_mul_lt_mul_left hR
 subst e1
 rw [Nat.mul_div_cancel_left t hs, Nat.add_mul_div_left t Q hb, Nat.add_mul_mod_self_left, Nat.div_eq_of_lt ht, Nat.mod_eq_of_lt ht]
 exact ⟨by omega, rfl⟩
end Wh
end Go.Proofs.YtebpggfccljagaaGreat
namespace Go.Proofs.YtebpggfccljagaaGreat
open Go.RowKit
open Wh
def MidW (w : World) (g : Nat) (P M S : List Nat) : Prop := Blk w g 115 (wcells (P ++ (M ++ S)))
theorem mid_get {P M S : List Nat} {i : Nat} (hi : i < M.length) : (P ++ (M ++ S))[P.length + i]? = some M[i] := by
 rw [List.getElem?_append_right (by omega), Nat.add_sub_cancel_left, List.getElem?_append_left hi, List.getElem?_eq_getElem hi]
theorem mid_set {P M S : List Nat} {i x : Nat} (hi : i < M.length) : (P ++ (M ++ S)).set (P.length + i) x = P ++ (M.set i x ++ S) := by
 rw [List.set_append_right (h := by omega), Nat.add_sub_cancel_left, List.set_append_left (h := hi)]
section
variable {w w' : World} {g i j : Nat} {P M S : List Nat}
theorem MidW.cell (h : MidW w g P M S) (hj : j = P.length) (hi : i < M.length) : w.cell? ⟨g, j + i, none⟩ = some (.int .u32 ((M[i] : Nat) : Int)) := by
 subst hj
 rw [Blk.cell h, wcells_get, mid_get hi]; rfl
theorem MidW.set_ (h : MidW w g P M S) (hj : j = P.length) (hi : i < M.length) (x : Nat) : MidW (w.setCell ⟨g, j + i, none⟩ (.int .u32 (x : Int))) g P (M.set i x) S := by
 subst hj
 have := Blk.set_ h (P.length + i) (.int .u32 (x : Int))
 rw [wcells_set, mid_set hi] at this
 exact this
end
theorem ReadsW.grown {w w' : World} {B g : Nat} {A : Option Addr} {l : List Nat} (h : ReadsW w B A l) (hb : w.grownBy w' (some g)) (hB : B ≤ g) (hg : g < w.heap.size) : ReadsW w' B A l :=
 h.same fun i hi _ => hb.block i (by omega) (by intro e; injection e with e; omega)
theorem and_mask {c : Nat} (hc : c ≤ 18446744073709551615) : bits .and .u64 (c : Int) 4294967295 = ((c % 4294967296 : Nat) : Int) := by
 rw [show (4294967295 : Int) = ((4294967295 : Nat) : Int) from rfl, u64_and_nat _ _ (by omega) (by omega)]
 have := Nat.and_two_pow_sub_one_eq_mod c 32
 rw [show (2 : Nat) ^ 32 - 1 = 4294967295 by decide, show (2 : Nat) ^ 32 = 4294967296 by decide] at this
 rw [this]
theorem sub_two {x m b : Nat} : IntKind.u64.wrap (IntKind.u64.wrap ((x : Int) - (m : Int)) - (b : Int)) = IntKind.u64.wrap ((x : Int) - ((m + b : Nat) : Int)) := by
 rw [IntKind.wrap_u64, IntKind.wrap_u64, IntKind.wrap_u64]
 omega
theorem take_word {u cc b : Nat} (hu : u < 4294967296) (hb : b ≤ 1) (hcc : cc ≤ 18446744073709551615) :
  ∃ D w' : Nat, IntKind.u64.wrap (IntKind.u64.wrap ((u : Int) - bits .and .u64 (cc : Int) 4294967295) - (b : Int)) = (D : Int) ∧ D ≤ 18446744073709551615 ∧ bits .and .u64 ((D : Int) / 4294967296) 1 = (w' : Int) ∧ w' ≤ 1 ∧ u + 4294967296 * w' = D % 4294967296 + (cc % 4294967296 + b) := by
 rw [and_mask hcc, sub_two]
 exact sub_word hu (by omega)
def Taken (M M1 lv : List Nat) (q i c b : Nat) : Prop := M1.length = M.length ∧ Wd M1 ∧ M1.drop i = M.drop i ∧ (lv.length < i → c = 0) ∧ val (M1.take i) + q * val (lv.take i) = val (M.take i) + 4294967296 ^ i * (c + b)
theorem taken_get {M M1 lv : List Nat} {q i c b : Nat} (h : Taken M M1 lv q i c b) (h1 : i < M1.length) (h2 : i < M.length) : M1[i] = M[i] := by
 have h3 := h.2.2.1
 rw [List.drop_eq_getElem_cons h1, List.drop_eq_getElem_cons h2] at h3
 exact (List.cons.inj h3).1
theorem taken_step {M M1 lv : List Nat} {q i c b cc d b' : Nat} (h : Taken M M1 lv q i c b) (h1 : i < M1.length) (h2 : i < M.length) (hcc : cc = c + q * at_ lv i) (hd : M1[i] + 4294967296 * b' = d + (cc % 4294967296 + b)) (hdl : d < 4294967296) (hcl : lv.length < i + 1 → cc < 4294967296) :
  Taken M (M1.set i d) lv q (i + 1) (cc / 4294967296) b' := by
 have hg := taken_get h h1 h2
 refine ⟨by rw [List.length_set]; exact h.1, wd_set h.2.1 _ _ hdl, ?_, fun hh => Nat.div_eq_of_lt (hcl hh), ?_⟩
 ·rw [List.drop_set_of_lt (Nat.lt_succ_self i)]
  have h3 := h.2.2.1
  rw [List.drop_eq_getElem_cons h1, List.drop_eq_getElem_cons h2] at h3
  exact (List.cons.inj h3).2
 ·rw [val_take_set h1, val_take_at lv i, val_take_succ h2, Nat.pow_succ, ← hg]
  exact take_step h.2.2.2.2 hcc hd
theorem quot_of {q r a b : Nat} (h : r + q * b = a) (hr : r < b) : a / b = q ∧ a % b = r := by
 rw [← h, Nat.add_mul_div_right _ _ (by omega), Nat.div_eq_of_lt hr, Nat.zero_add, Nat.add_mul_mod_self_right, Nat.mod_eq_of_lt hr]
 exact ⟨rfl, rfl⟩
def Stepped (w : World) (g n : Nat) (P M S lv : List Nat) (e : Ending) (w' : World) : Prop := ∃ M', e = .returned (.int .u64 ((val M / val lv : Nat) : Int)) ∧ Hid (M'.length = n + 1 ∧ Wd M' ∧ val M' = val M % val lv) ∧ MidW w' g P M' S ∧ w.grownBy w' (some g)
set_option maxRecDepth 100000 in
set_option maxHeartbeats 4000000 in
theorem step_any {w : World} {g n d j s cap q : Nat} {C : Option Addr} {P M S lv : List Nat} (hmid : MidW w g P M S) (hv : ReadsW w g C lv) (hj : j = P.length) (hn : n = lv.length) (hs : s = n + 1) (hM : M.length = n + 1) (hw : Wd M) (hwv : Wd lv) (hq : q ≤ 4294967295)
  (h1 : q * val lv < val M + val lv) (h2 : val M < (q + 1) * val lv) (_hjl : j ≤ 1000000000) (hnl : n ≤ 1000000000) :
  Calls Tryz.prog 139 #[.slice (some ⟨g, j, none⟩) s cap, .slice C n d, .int .u64 (q : Int)] w (Stepped w g n P M S lv) := by
 have Hh := Lib.hid (And.intro hn (And.intro hM (And.intro h1 (And.intro h2 hj))))
 have hgl := Blk.lt hmid
 subst hs
 clear hn hM h1 h2 hj
 go_enter Tryz.func139, Tryz.ntmps139
 go_wp2
 go_loopg [7, 8, 14] (n + 1) (fun k cv bv iv wr => ∃ (i c b : Nat) (M1 : List Nat), cv = .int .u64 (c : Int) ∧ bv = .int .u64 (b : Int) ∧ iv = .int .i64 (i : Int) ∧ k = n + 1 - i ∧ i ≤ n + 1 ∧ c ≤ 4294967295 ∧ b ≤ 1 ∧ MidW wr g P M1 S ∧ w.grownBy wr (some g) ∧ Hid (Taken M M1 lv q i c b))
 case atStart => exact ⟨0, 0, 0, M, rfl, rfl, rfl, by omega, by omega, by omega, by omega, hmid, World.grownBy.refl w _, rfl, hw, rfl, fun _ => rfl, by simp [val_nil]⟩
 case round =>
  obtain ⟨i, c, b, M1, rfl, rfl, rfl, hk, hi, hc, hb, hm1, hgr, hT⟩ := hrel
  have Hk := Lib.hid hk
  clear hk
  have hv' := hv.grown hgr (Nat.le_refl _) hgl
  have hsz := hgr.size
  by_cases hin : i < n + 1
  ·have hM1 := hT.out.1
   have hi1 : i < M1.length := by have := Hh.out.2.1; omega
   have hi2 : i < M.length := by have := Hh.out.2.1; omega
   have hu := hm1.cell Hh.out.2.2.2.2 hi1
   have hfz := Blk.frozen hm1 (j + i)
   have wu := wd_get hT.out.2.1 _ hi1
   have hii : (i : Int) < (n : Int) + 1 := by omega
   by_cases hin2 : i < n
   ·have hib : i < lv.length := by rw [← Hh.out.1]; exact hin2
    obtain ⟨bd, rfl, hb2, c2⟩ := hv'.at_ hib
    have w2 := wd_get hwv _ hib
    have hii2 : (i : Int) < (n : Int) := by omega
    have hst := fun (cc dd b' : Nat) => taken_step (cc := cc) (d := dd) (b' := b') hT.out hi1 hi2
    rw [at_get hib] at hst
    have Hst := Lib.hid hst
    clear hv' hv hst hM1
    have hmb := mul_bound (x := q) (by omega) w2
    obtain ⟨hmb0, hmb1⟩ := hmb
    have hcast := Lib.hid (Int.natCast_mul q lv[i])
    generalize hx : M1[i] = u at *
    generalize hy : lv[i] = v at *
    clear hx hy
    go_wp2
    have hq0 : ((c : Int) + (q : Int) * (v : Int)) = ((c + q * v : Nat) : Int) := by rw [← hcast.out]; omega
    rw [hq0]
    rw [← hcast.out] at hmb1
    obtain ⟨D, b', hD1, hD2, hD3, hD4, hD5⟩ := take_word (cc := c + q * v) wu hb (by omega)
    rw [hD1, hD3]
    rw [show (D : Int) % 4294967296 = ((D % 4294967296 : Nat) : Int) by omega, show ((c + q * v : Nat) : Int) / 4294967296 = (((c + q * v) / 4294967296 : Nat) : Int) by omega]
    go_roundg (n + 1 - (i + 1))
    case measure => have := Hk.out; omega
    case rel =>
     exact ⟨i + 1, (c + q * v) / 4294967296, b', M1.set i (D % 4294967296), rfl, rfl, rfl, rfl, by omega, by omega, hD4, hm1.set_ Hh.out.2.2.2.2 hi1 _, only_setCell hgr (.inl rfl) _, Hst.out _ _ _ rfl hD5 (Nat.mod_lt _ (by decide)) (fun hh => by have := Hh.out.1; omega)⟩
   ·have hii2 : (n : Int) ≤ (i : Int) := by omega
    have hst := fun (dd b' : Nat) => taken_step (cc := c) (d := dd) (b' := b') hT.out hi1 hi2
    rw [at_end (l := lv) (i := i) (by have := Hh.out.1; omega), Nat.mul_zero, Nat.add_zero] at hst
    have Hst := Lib.hid hst
    clear hv' hv hst hM1
    generalize hx : M1[i] = u at *
    clear hx
    go_wp2
    obtain ⟨D, b', hD1, hD2, hD3, hD4, hD5⟩ := take_word (cc := c) wu hb (by omega)
    rw [hD1, hD3]
    rw [show (D : Int) % 4294967296 = ((D % 4294967296 : Nat) : Int) by omega, show ((c : Nat) : Int) / 4294967296 = (((c) / 4294967296 : Nat) : Int) by omega]
    go_roundg (n + 1 - (i + 1))
    case measure => have := Hk.out; omega
    case rel =>
     exact ⟨i + 1, (c) / 4294967296, b', M1.set i (D % 4294967296), rfl, rfl, rfl, rfl, by omega, by omega, hD4, hm1.set_ Hh.out.2.2.2.2 hi1 _, only_setCell hgr (.inl rfl) _, Hst.out _ _ trivial hD5 (Nat.mod_lt _ (by decide)) (fun hh => by have := Hh.out.1; omega)⟩
  ·have hi' : i = n + 1 := by omega
   have hT1 := hT.out
   obtain ⟨hl1, hwm1, _, hc0, hval⟩ := hT1
   have hc00 : c = 0 := hc0 (by have := Hh.out.1; omega)
   have hval2 : val M1 + q * val lv = val M + 4294967296 ^ (n + 1) * b := by
    rw [hi', hc00, Nat.zero_add, List.take_of_length_le (by have := Hh.out.2.1; omega), List.take_of_length_le (l := lv) (by have := Hh.out.1; omega), List.take_of_length_le (l := M) (by have := Hh.out.2.1; omega)] at hval
    exact hval
   have hO : val M1 < 4294967296 ^ (n + 1) := by have := val_lt hwm1; rwa [hl1, Hh.out.2.1] at this
   have hV : val lv < 4294967296 ^ (n + 1) := by
    have h3 := val_lt hwv
    rw [← Hh.out.1] at h3
    exact Nat.lt_of_lt_of_le h3 (Nat.pow_le_pow_right (by decide) (by omega))
   have hta := take_all hval2 hO hb
   have hend0 : b = 0 → q = val M / val lv ∧ val M1 = val M % val lv := fun hb0 => by
    have h5 := hta.1 hb0
    have h6 := Hh.out.2.2.2.1
    rw [hb0, Nat.mul_zero, Nat.add_zero] at hval2
    rw [Nat.add_mul, Nat.one_mul] at h6
    have e := quot_of (q := q) (r := val M1) (a := val M) (b := val lv) (by omega) (by omega)
    exact ⟨e.1.symm, e.2.symm⟩
   have Hend := Lib.hid (And.intro hval2 (And.intro hO (And.intro hV hend0)))
   have Hl1 := Lib.hid (And.intro hl1 hwm1)
   have hii : (n : Int) + 1 ≤ (i : Int) := by omega
   clear hT hval hval2 hta hend0 hO hV hl1 hwm1 hc0
   rcases (show b = 0 ∨ b = 1 by omega) with rfl | rfl
   ·go_wp2
    go_ret
    refine ⟨M1, by rw [(Hend.out.2.2.2 trivial).1]; rfl, ⟨by rw [Hl1.out.1]; exact Hh.out.2.1, Hl1.out.2, (Hend.out.2.2.2 trivial).2⟩, hm1, hgr⟩
   ·go_wp2
    go_loopg [7, 56] (n + 1) (fun k cv iv wr => ∃ (i c : Nat) (M2 : List Nat), cv = .int .u64 (c : Int) ∧ iv = .int .i64 (i : Int) ∧ k = n + 1 - i ∧ i ≤ n + 1 ∧ c ≤ 1 ∧ MidW wr g P M2 S ∧ w.grownBy wr (some g) ∧
     Hid (M2.length = n + 1 ∧ Wd M2 ∧ M2.drop i = M1.drop i ∧ val (M2.take i) + 4294967296 ^ i * c = val (M1.take i) + val (lv.take i)))
    case atStart => exact ⟨0, 0, M1, rfl, rfl, by omega, by omega, by omega, hm1, hgr, by rw [Hl1.out.1]; exact Hh.out.2.1, Hl1.out.2, rfl, by simp [val_nil]⟩
    case round =>
     obtain ⟨i2, c2, M2, rfl, rfl, hk2, hi2, hc2, hm2, hgr2, hT2⟩ := hrel
     have Hk2 := Lib.hid hk2
     clear hk2
     have hv2 := hv.grown hgr2 (Nat.le_refl _) hgl
     by_cases hin2 : i2 < n + 1
     ·have hi1 : i2 < M2.length := by have := hT2.out.1; omega
      have hi3 : i2 < M1.length := by have := Hl1.out.1; have := Hh.out.2.1; omega
      have hu := hm2.cell Hh.out.2.2.2.2 hi1
      have hfz := Blk.frozen hm2 (j + i2)
      have wu := wd_get hT2.out.2.1 _ hi1
      have Hget := Lib.hid (show M2[i2] = M1[i2] from by
       have h3 := hT2.out.2.2.1
       rw [List.drop_eq_getElem_cons hi1, List.drop_eq_getElem_cons hi3] at h3
       exact (List.cons.inj h3).1)
      have Hdr := Lib.hid (show M2.drop (i2 + 1) = M1.drop (i2 + 1) from by
       have h3 := hT2.out.2.2.1
       rw [List.drop_eq_getElem_cons hi1, List.drop_eq_getElem_cons hi3] at h3
       exact (List.cons.inj h3).2)
      have E1 := Lib.hid (val_take_succ hi3)
      rw [← Hget.out] at E1
      have hii2 : (i2 : Int) < (n : Int) + 1 := by omega
      by_cases hin3 : i2 < n
      ·have hib : i2 < lv.length := by rw [← Hh.out.1]; exact hin3
       obtain ⟨bd, rfl, hb2, c3⟩ := hv2.at_ hib
       have w2 := wd_get hwv _ hib
       have E2 := Lib.hid (val_take_succ hib)
       have hii3 : (i2 : Int) < (n : Int) := by omega
       clear hv2 hv
       generalize hx : M2[i2] = u at *
       generalize hy : lv[i2] = v at *
       clear hx hy
       go_wp2
       rw [show ((c2 : Int) + u + v) % 4294967296 = (((c2 + u + v) % 4294967296 : Nat) : Int) by omega, show ((c2 : Int) + u + v) / 4294967296 = (((c2 + u + v) / 4294967296 : Nat) : Int) by omega]
       go_roundg (n + 1 - (i2 + 1))
       case measure => have := Hk2.out; omega
       case rel =>
        refine ⟨i2 + 1, (c2 + u + v) / 4294967296, M2.set i2 ((c2 + u + v) % 4294967296), rfl, rfl, rfl, by omega, by omega, hm2.set_ Hh.out.2.2.2.2 hi1 _, only_setCell hgr2 (.inl rfl) _, ?_⟩
        refine ⟨by rw [List.length_set]; exact hT2.out.1, wd_set hT2.out.2.1 _ _ (Nat.mod_lt _ (by decide)), ?_, ?_⟩
        ·rw [List.drop_set_of_lt (Nat.lt_succ_self i2)]; exact Hdr.out
        ·rw [val_take_set hi1, E1.out, E2.out, Nat.pow_succ]
         exact more_step hT2.out.2.2.2
      ·have E2 := Lib.hid (show val (lv.take (i2 + 1)) = val (lv.take i2) + 4294967296 ^ i2 * 0 from by rw [List.take_of_length_le (by have := Hh.out.1; omega), List.take_of_length_le (by have := Hh.out.1; omega), Nat.mul_zero, Nat.add_zero])
       have hii3 : (n : Int) ≤ (i2 : Int) := by omega
       clear hv2 hv
       generalize hx : M2[i2] = u at *
       clear hx
       go_wp2
       rw [show ((c2 : Int) + u) % 4294967296 = (((c2 + u + 0) % 4294967296 : Nat) : Int) by omega, show ((c2 : Int) + u) / 4294967296 = (((c2 + u + 0) / 4294967296 : Nat) : Int) by omega]
       go_roundg (n + 1 - (i2 + 1))
       case measure => have := Hk2.out; omega
       case rel =>
        refine ⟨i2 + 1, (c2 + u + 0) / 4294967296, M2.set i2 ((c2 + u + 0) % 4294967296), rfl, rfl, rfl, by omega, by omega, hm2.set_ Hh.out.2.2.2.2 hi1 _, only_setCell hgr2 (.inl rfl) _, ?_⟩
        refine ⟨by rw [List.length_set]; exact hT2.out.1, wd_set hT2.out.2.1 _ _ (Nat.mod_lt _ (by decide)), ?_, ?_⟩
        ·rw [List.drop_set_of_lt (Nat.lt_succ_self i2)]; exact Hdr.out
        ·rw [val_take_set hi1, E1.out, E2.out, Nat.pow_succ]
         exact more_step hT2.out.2.2.2
     ·have hi2' : i2 = n + 1 := by omega
      have hii2 : (n : Int) + 1 ≤ (i2 : Int) := by omega
      have hq0 : 0 < q := by
       rcases Nat.eq_zero_or_pos q with h0 | h0
       ·have h5 := Hend.out.1
        have h6 := Hend.out.2.1
        rw [h0, Nat.zero_mul] at h5
        omega
       ·exact h0
      have hsum : val M2 + (q - 1) * val lv = val M := by
       obtain ⟨h5, h6, h7, h8⟩ := hT2.out
       rw [hi2', List.take_of_length_le (by omega), List.take_of_length_le (l := M1) (by have := Hl1.out.1; have := Hh.out.2.1; omega), List.take_of_length_le (l := lv) (by have := Hh.out.1; omega)] at h8
       exact back_all Hend.out.1 h8 Hend.out.2.1 (by have := val_lt h6; rwa [h5] at this) Hh.out.2.2.1 Hend.out.2.2.1 hq0
      have hlt : val M2 < val lv := by
       have h5 := Hend.out.1
       have h6 := Hend.out.2.1
       obtain ⟨p, rfl⟩ : ∃ p, q = p + 1 := ⟨q - 1, by omega⟩
       rw [Nat.add_sub_cancel] at hsum
       rw [Nat.add_mul, Nat.one_mul] at h5
       omega
      have HQ := Lib.hid (quot_of hsum hlt)
      have hq1 : (1 : Int) ≤ (q : Int) := by omega
      clear hsum hlt
      go_wp2
      go_ret
      refine ⟨M2, by rw [HQ.out.1, Int.natCast_sub hq0]; rfl, ⟨hT2.out.1, hT2.out.2.1, HQ.out.2.symm⟩, hm2, hgr2⟩
end Go.Proofs.YtebpggfccljagaaGreat
