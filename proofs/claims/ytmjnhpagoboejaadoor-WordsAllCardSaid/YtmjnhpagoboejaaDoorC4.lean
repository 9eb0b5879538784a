import Derived.Test.YtmjnhpagoboejaaDoorC3
import Derived.Laws.CopyOwn
import Derived.BigQuiet
import Derived.Deep.RegionHeld3
import Derived.Below
import Derived.Test.YtmjnhpagoboejaaDoorC2
import Derived.Test.YtmjnhpagoboejaaDoorC1
/- words.walk: all words that begin with some letters, handed to yield one behind the other. -/
namespace Go.Proofs.YtmjnhpagoboejaaDoor
open Go.RowKit Go.Shelf
open Wd
set_option linter.unusedSimpArgs false
set_option linter.unusedVariables false
attribute [local go_sem] Oper.semAt_some

theorem room_any {F : Fence} (hd : F.depth = none) (k : Nat) : F.room k := fun d h => by rw [hd] at h; cases h
theorem roundIn_any {F : Fence} (hd : F.depth = none) {m m' : Nat} {P : Program} {l : Nat} {f : FuncId} {tmps : Array Value} {assign body : Code} {w : World} {R : Ending → World → Prop}
    (h : RoundIn F m P l f tmps assign body w R) : RoundIn F m' P l f tmps assign body w R := ⟨h.1, fun c cs _ => h.2 c cs (room_any hd _)⟩
theorem yieldAt_any {F : Fence} (hd : F.depth = none) {m : Nat} (m' : Nat) {P : Program} {l : Nat} {args : Array Value} {W : World} {R : Ending → World → Prop} (h : YieldAt F m P l args W R) : YieldAt F m' P l args W R := by
  obtain ⟨fn, tmps, assign, body, hy, hR⟩ := h
  exact ⟨fn, tmps, assign, body, hy, roundIn_any hd hR⟩
theorem yieldAt_mono {F : Fence} {m : Nat} {P : Program} {l : Nat} {args : Array Value} {W : World} {R R' : Ending → World → Prop} (h : YieldAt F m P l args W R) (hr : ∀ e w, R e w → R' e w) : YieldAt F m P l args W R' := by
  obtain ⟨fn, tmps, assign, body, hy, hR⟩ := h
  exact ⟨fn, tmps, assign, body, hy, hR.mono hr⟩
theorem sizeI : (Tryd.prog.info? 3).map (·.size) = some 1 := by kernel_rfl
/-- copy(d, s), both as long as the other -/
theorem wpListIn_copy_I {F : Fence} {n : Nat} {w : World} {ops : Array Oper} {rest : List Oper} {o : Oper} {a : Act} {Q : Exit → Act → World → Prop} (hgd : o.guard = none) (d s : Operand)
    (ho : o.op = .call { callee := .builtin .copy, args := #[d, s], argTypes := #[22, 22] }) (g g1 k : Nat) (l : List Int) (cur : Array Value) (hd : a.eval d = .slice (some ⟨g, 0, none⟩) k k) (hs : a.eval s = .slice (some ⟨g1, 0, none⟩) k k)
    (hk : k = l.length) (hg : Blk w g 3 cur) (hcur : cur.size = k) (hg1 : Blk w g1 3 (l.map iv).toArray)
    (h : ∀ w', Blk w' g 3 (l.map iv).toArray → w.grownBy w' (some g) → wpListIn F n Tryd.prog ops Q rest (a.put o.dst (goInt k)) w') : wpListIn F n Tryd.prog ops Q (o :: rest) a w := by
  refine wpListIn_plain hgd fun K hK => ?_
  have hrun := run_copy_row (P := Tryd.prog) w 22 22 o.type 3 g 0 k k ⟨g1, 0, none⟩ k k cur 3 (l.map iv) Tryd.underlying22 sizeI hg (by simp [hk]) (fun j v hv => by
    rw [Addr.add_lit, Nat.zero_add, hg1.cell j, List.getElem?_toArray]; exact hv) (by rw [Nat.zero_add, List.length_map, hcur, hk]; exact Nat.le_refl _) (iv_one l)
  have e : (cur.toList.take 0 ++ l.map iv ++ cur.toList.drop (0 + (l.map iv).length)) = l.map iv := by
    rw [List.take_zero, List.nil_append, List.drop_of_length_le (by rw [Array.length_toList, hcur, hk]; simp), List.append_nil]
  rw [e, List.length_map, ← hk] at hrun
  unfold Oper.wpIn
  refine ⟨?_, ?_⟩
  · simp [Oper.about, ho, resolve, Target.leads, Sem.run_pure]
  · rw [Oper.semAt_plain F _ _ (by rw [ho]; intro c hc'; cases hc')]
    simp [execOp, ho, resolve, invoke, builtin, hd, hs, hrun, Result.andThen]
    refine hK _ _ (h _ (setRow_heap w g cur _ 3 (0, 0) hg) ⟨rfl, rfl, rfl, by simp [World.setRow], fun k hk hne => setRow_other w g k _ (fun e => hne (by rw [e]))⟩)
/-- a call of yield with a row of the iterator's own -/
def RoundW (F : Fence) (Fx : Nat → Prop) (l : Nat) (J : List (List Int) → (Nat → Prop) → World → Prop) (Jx : List (List Int) → World → Prop) : Prop :=
  ∀ (m : Nat) pre x g M W1, J pre M W1 → M g → ¬ Fx g → x.length ≤ 5000 → Blk W1 g 3 (x.map iv).toArray → YieldAt F m Tryd.prog l #[.slice (some ⟨g, 0, none⟩) x.length x.length] W1 fun e W' =>
      (e = .returned (.bool true) ∧ J (pre ++ [x]) M W' ∧ KeepM M g W1 W') ∨ (e = .returned (.bool false) ∧ Jx (pre ++ [x]) W')
/-- what the iterator's step keeps of its own blocks but one -/
def Kept1 (M M' : Nat → Prop) (g : Nat) (W W' : World) : Prop := W.heap.size ≤ W'.heap.size ∧ (∀ k, M k → M' k) ∧ (∀ k, M k → k ≠ g → W'.heap[k]? = W.heap[k]?) ∧ ∀ k, M' k → k < W'.heap.size
theorem Kept1.refl {M : Nat → Prop} (g : Nat) {W : World} (h : ∀ k, M k → k < W.heap.size) : Kept1 M M g W W := ⟨Nat.le_refl _, fun _ h => h, fun _ _ _ => rfl, h⟩
theorem Kept1.trans {M M' M'' : Nat → Prop} {g : Nat} {A B C : World} (h : Kept1 M M' g A B) (k : Kept1 M' M'' g B C) : Kept1 M M'' g A C :=
  ⟨Nat.le_trans h.1 k.1, fun i hi => k.2.1 i (h.2.1 i hi), fun i hi hg => (k.2.2.1 i (h.2.1 i hi) hg).trans (h.2.2.1 i hi hg), k.2.2.2⟩
theorem Kept1.setCell {M : Nat → Prop} {W : World} (h : ∀ k, M k → k < W.heap.size) (a : Addr) (v : Value) : Kept1 M M a.block W (W.setCell a v) := by
  have hs : (W.setCell a v).heap.size = W.heap.size := by show (W.heap.modify _ _).size = _; rw [Array.size_modify]
  exact ⟨by rw [hs]; exact Nat.le_refl _, fun _ h => h, fun k _ hk => Below.heap_setCell W a v k hk, fun k hk => by rw [hs]; exact h k hk⟩
def WalkOut (J : List (List Int) → (Nat → Prop) → World → Prop) (Jx : List (List Int) → World → Prop) (S : List (List Int)) (m : Nat) (p : List Int) (g : Nat) (pre : List (List Int)) (M : Nat → Prop) (W : World) (e : Ending) (W' : World) : Prop :=
  (e = .returned (.bool true) ∧ ∃ M' c', c'.length = m ∧ J (pre ++ S) M' W' ∧ Blk W' g 3 ((p ++ c').map iv).toArray ∧ Kept1 M M' g W W') ∨ (e = .returned (.bool false) ∧ ∃ q, q <+: S ∧ Jx (pre ++ q) W')
set_option maxRecDepth 100000 in
set_option maxHeartbeats 2000000 in
theorem walk_end (F : Fence) {Fx : Nat → Prop} (hd : F.depth = none) (h74 : F.fn 74) (hro : F.round = none) (l : Nat) (x : Int) (J : List (List Int) → (Nat → Prop) → World → Prop) (Jx : List (List Int) → World → Prop) (hJ : AbM Fx J) (hY : RoundW F Fx l J Jx)
    (n k : Nat) (p : List Int) (g : Nat) (pre : List (List Int)) (M : Nat → Prop) (W : World) (hk : k = p.length) (hk4 : k ≤ 4096) (hb : Blk W g 3 (p.map iv).toArray) (hM : M g) (hFg : ¬ Fx g) (hFM : ∀ k, Fx k → M k) (hMlt : ∀ k, M k → k < W.heap.size) (h0 : J pre M W) :
    CallsIn F n Tryd.prog 74 #[.int .i64 x, .slice (some ⟨g, 0, none⟩) k k, .int .i64 (k : Int), .func (.yield l) #[] #[]] W (WalkOut J Jx [p] 0 p g pre M W) := by
  have hdd : ∀ k : Nat, (F.depth.isSome = true → 1 ≤ k) := fun k h => by rw [hd] at h; cases h
  have hmk := run_makeI k k (Nat.le_refl _) (by omega) W
  obtain ⟨W1, hW1⟩ : ∃ W1, W1 = W.alloc (.cells ((List.replicate k (0 : Int)).map iv).toArray 3) := ⟨_, rfl⟩
  have HB := Lib.hid (show Blk W1 W.heap.size 3 ((List.replicate k (0 : Int)).map iv).toArray ∧ Blk W1 g 3 (p.map iv).toArray by
    rw [hW1]; exact ⟨Blk.new W 3 _, hb.alloc _⟩)
  have HG := Lib.hid (show GrowM Fx M W (fun k => M k ∨ k = W.heap.size) W1 by rw [hW1]; exact GrowM.alloc Fx M W _)
  have HS := Lib.hid (show W1.heap.size = W.heap.size + 1 ∧ ∀ k, k < W.heap.size → W1.heap[k]? = W.heap[k]? by rw [hW1]; exact ⟨by simp, fun k hk => Below.heap_alloc W _ k hk⟩)
  rw [← hW1] at hmk
  clear hW1
  have HK := Lib.hid hk
  have HY := Lib.hid (fun W2 (hb2 : Blk W2 W.heap.size 3 (p.map iv).toArray) (hg2 : W1.grownBy W2 (some W.heap.size)) => by
    have hgr : GrowM Fx (fun k => M k ∨ k = W.heap.size) W1 (fun k => M k ∨ k = W.heap.size) W2 :=
      ⟨hg2.os, hg2.tape, hg2.output, hg2.size, fun i hi hm => hg2.block i hi (fun e => hm (.inr (by injection e))), fun i hi hx => hg2.block i hi (fun e => by injection e with e; have := hMlt i (hFM i hx); omega), fun _ h => h, fun _ h => .inl h⟩
    have hsz := HS.out.1
    have hs2 := hg2.size
    have h2 : ∀ i, i < W.heap.size → W2.heap[i]? = W.heap[i]? := fun i hi => (hg2.block i (by omega) (fun e => by injection e; omega)).trans (HS.out.2 i hi)
    refine yieldAt_mono (hY (n - 1) pre p W.heap.size _ W2 (hJ _ _ _ _ _ h0 (HG.out.trans hgr)) (.inr rfl) (fun hx => by have := hMlt _ (hFM _ hx); omega) (by omega) hb2) (R' := fun e W3 => WalkOut J Jx [p] 0 p g pre M W e W3) fun e W3 h => ?_
    rcases h with ⟨rfl, hj, hkm⟩ | ⟨rfl, hj⟩
    · refine .inl ⟨rfl, _, [], rfl, hj, ?_, by have := hkm.1; omega, fun _ h => .inl h, fun i hi _ => (hkm.2 i (.inl hi) (by have := hMlt i hi; omega)).trans (h2 i (hMlt i hi)), fun i hi => ?_⟩
      · rw [List.append_nil]
        exact (hkm.2 g (.inl hM) (by have := hb.lt; omega)).trans ((h2 g hb.lt).trans hb)
      · have := hkm.1
        rcases hi with hi | hi
        · have := hMlt i hi; omega
        · omega
    · exact .inr ⟨rfl, [p], List.prefix_refl _, hj⟩)
  clear hb hY h0 hMlt hM hFM hFg
  subst hk
  refine callsIn_of_wp Tryd.func74 rfl h74 ?_ hro
  simp only [Tryd.ntmps74, List.size_toArray, List.length_cons, List.length_nil, Nat.reduceAdd, Nat.reduceSub, Array.replicate_succ, Array.replicate_zero, List.push_toArray, List.append_toArray, List.nil_append, List.cons_append]
  gi_wp2_with (first
    | ((with_reducible refine wpListIn_copy_I rfl (.tmp 19) (.tmp 20) rfl W.heap.size g p.length p _ rfl rfl HK.out HB.out.1 ?hsz HB.out.2 ?_); (case hsz => simp); intro w2 hb2 hg2; obtain ⟨fn, tmps, assign, body, hy, hR⟩ := HY.out w2 hb2 hg2)
    | ((try refine ⟨hdd _, ?_⟩); refine hR.mono ?_; clear hR; rintro e W3 (⟨rfl, hT⟩ | ⟨rfl, hF⟩)))
  · go_ret
    exact .inl ⟨rfl, hT⟩
  · go_ret
    exact .inr ⟨rfl, hF⟩
/-- the words of the first q places -/
def partW (L m : Nat) (a : Int) (q : Nat) : List (List Int) := (List.range' 0 q).flatMap (fun q => if a = -(letr q) then [] else (ext L m (letr q)).map (letr q :: ·))
theorem partW_all (L m : Nat) (a : Int) : partW L m a (2 * L) = ext L (m + 1) a := rfl
theorem partW_succ {L m : Nat} {a : Int} (q : Nat) : partW L m a (q + 1) = partW L m a q ++ (if a = -(letr q) then [] else (ext L m (letr q)).map (letr q :: ·)) := by
  unfold partW
  rw [List.range'_concat, List.flatMap_append]
  simp
theorem partW_le {L m : Nat} {a : Int} : ∀ (d q : Nat), partW L m a q <+: partW L m a (q + d)
  | 0, q => List.prefix_refl _
  | d + 1, q => (partW_le d q).trans (by rw [show q + (d + 1) = (q + d) + 1 by omega, partW_succ]; exact List.prefix_append _ _)
theorem partW_pre {L m q : Nat} {a : Int} (hq : q < 2 * L) {r : List (List Int)} (ha : ¬ a = -(letr q)) (hr : r <+: (ext L m (letr q)).map (letr q :: ·)) : partW L m a q ++ r <+: ext L (m + 1) a := by
  rw [← partW_all]
  refine List.IsPrefix.trans ?_ (by have h := partW_le (L := L) (m := m) (a := a) (2 * L - (q + 1)) (q + 1); rwa [show q + 1 + (2 * L - (q + 1)) = 2 * L by omega] at h)
  rw [partW_succ, if_neg ha]
  obtain ⟨s, hs⟩ := hr
  exact ⟨s, by rw [← hs, List.append_assoc]⟩
def lastI (p : List Int) : Int := p.getLast?.getD 0
theorem lastI_snoc (p : List Int) (k : Int) : lastI (p ++ [k]) = k := by simp [lastI]
theorem bit_even {q : Nat} (hq : q < 1000) (h : q % 2 = 0) : bits .and .i64 (q : Int) 1 = 0 := by
  have h1 := i64_and_nat q 1 (by omega) (by omega)
  rw [show ((1 : Nat) : Int) = 1 by rfl, Nat.and_one_is_mod, h] at h1
  exact h1
theorem bit_odd {q : Nat} (hq : q < 1000) (h : ¬ q % 2 = 0) : bits .and .i64 (q : Int) 1 = 1 := by
  have h1 := i64_and_nat q 1 (by omega) (by omega)
  rw [show ((1 : Nat) : Int) = 1 by rfl, Nat.and_one_is_mod, show q % 2 = 1 by omega] at h1
  exact h1
/-- walk, with m letters to go -/
def WalkAt (F : Fence) (Fx : Nat → Prop) (l L : Nat) (J : List (List Int) → (Nat → Prop) → World → Prop) (Jx : List (List Int) → World → Prop) (m : Nat) : Prop :=
  ∀ (n N : Nat) (z : Int) (p c : List Int) (g : Nat) (pre : List (List Int)) (M : Nat → Prop) (W : World), z = (p.length : Int) → c.length = m → N = p.length + m → N ≤ 4096 → Blk W g 3 ((p ++ c).map iv).toArray → M g → ¬ Fx g → (∀ k, Fx k → M k) → (∀ k, M k → k < W.heap.size) → J pre M W →
    CallsIn F n Tryd.prog 74 #[.int .i64 (L : Int), .slice (some ⟨g, 0, none⟩) N N, .int .i64 z, .func (.yield l) #[] #[]] W (WalkOut J Jx ((ext L m (lastI p)).map (p ++ ·)) m p g pre M W)
/-- between two rounds of walk's loop -/
def WRel (J : List (List Int) → (Nat → Prop) → World → Prop) (L m : Nat) (p : List Int) (g : Nat) (pre : List (List Int)) (M : Nat → Prop) (W : World) (q : Nat) (M' : Nat → Prop) (c' : List Int) (wr : World) : Prop :=
  c'.length = m + 1 ∧ J (pre ++ (partW L m (lastI p) q).map (p ++ ·)) M' wr ∧ Blk wr g 3 ((p ++ c').map iv).toArray ∧ Kept1 M M' g W wr ∧ M' g
theorem iv_set (p c : List Int) (x : Int) (hc : 1 ≤ c.length) : (((p ++ c).map iv).toArray).setIfInBounds p.length (.int .i64 x) = ((p ++ [x] ++ c.tail).map iv).toArray := by
  cases c with
  | nil => simp at hc
  | cons y r =>
    apply Array.ext'
    simp only [List.setIfInBounds_toArray, List.map_append, List.tail_cons, List.map_cons]
    rw [show p.length = (p.map iv).length by simp, List.set_append_right _ _ (Nat.le_refl _), Nat.sub_self, List.set_cons_zero]
    simp [iv]
theorem walk_skip {J : List (List Int) → (Nat → Prop) → World → Prop} {L m g q : Nat} {p c' : List Int} {pre : List (List Int)} {M M' : Nat → Prop} {W wr : World} (h : WRel J L m p g pre M W q M' c' wr) (ha : lastI p = -(letr q)) : WRel J L m p g pre M W (q + 1) M' c' wr := by
  obtain ⟨h1, h2, h3⟩ := h
  refine ⟨h1, ?_, h3⟩
  rw [partW_succ, if_pos ha, List.append_nil]
  exact h2
def TakeOut (J : List (List Int) → (Nat → Prop) → World → Prop) (Jx : List (List Int) → World → Prop) (L m : Nat) (p : List Int) (g : Nat) (pre : List (List Int)) (M : Nat → Prop) (W : World) (q : Nat) (e : Ending) (W' : World) : Prop :=
  (e = .returned (.bool true) ∧ ∃ M'' c'', WRel J L m p g pre M W q M'' c'' W') ∨ (e = .returned (.bool false) ∧ ∃ r, r <+: (ext L (m + 1) (lastI p)).map (p ++ ·) ∧ Jx (pre ++ r) W')
theorem walk_take {F : Fence} {Fx : Nat → Prop} {l L m n N g q o : Nat} {z K : Int} {J : List (List Int) → (Nat → Prop) → World → Prop} {Jx : List (List Int) → World → Prop} {p c' : List Int} {pre : List (List Int)} {M M' : Nat → Prop} {W wr : World}
    (h : WRel J L m p g pre M W q M' c' wr) (hJ : AbM Fx J) (ih : WalkAt F Fx l L J Jx m) (hq : q < 2 * L) (hK : letr q = K) (ha : ¬ lastI p = -K) (hN : N = p.length + (m + 1)) (hN4 : N ≤ 4096) (hz : z = (p.length : Int) + 1) (ho : o = p.length) (hFg : ¬ Fx g) (hFM : ∀ k, Fx k → M k) :
    CallsIn F n Tryd.prog 74 #[.int .i64 (L : Int), .slice (some ⟨g, 0, none⟩) N N, .int .i64 z, .func (.yield l) #[] #[]] (wr.setCell ⟨g, o, none⟩ (.int .i64 K)) (TakeOut J Jx L m p g pre M W (q + 1)) := by
  subst ho
  obtain ⟨hc, hj, hb, hk, hM⟩ := h
  have hk1 := Kept1.setCell hk.2.2.2 ⟨g, p.length, none⟩ (.int .i64 K)
  have hb1 : Blk (wr.setCell ⟨g, p.length, none⟩ (.int .i64 K)) g 3 ((p ++ [K] ++ c'.tail).map iv).toArray := by
    have h1 := hb.set_ p.length (.int .i64 K)
    rw [iv_set p c' K (by omega)] at h1
    exact h1
  refine (ih n N z (p ++ [K]) c'.tail g _ M' _ (by rw [hz]; simp) (by rw [List.length_tail, hc]; rfl) (by rw [hN]; simp; omega) hN4 hb1 hM hFg (fun k hk' => hk.2.1 k (hFM k hk')) hk1.2.2.2 (hJ _ _ _ _ _ hj (GrowM.setCell wr (a := ⟨g, p.length, none⟩) _ hM hFg))).mono ?_
  rintro e W' (⟨rfl, M'', c'', hc2, hj2, hb2, hk2⟩ | ⟨rfl, r, hr, hx⟩)
  · refine .inl ⟨rfl, M'', K :: c'', by rw [List.length_cons, hc2], ?_, by rw [List.append_assoc] at hb2; exact hb2, (hk.trans hk1).trans hk2, hk2.2.1 g hM⟩
    rw [partW_succ, hK, if_neg ha, List.map_append, ← List.append_assoc]
    rw [lastI_snoc] at hj2
    rw [List.map_map]
    have e : ((fun x => p ++ x) ∘ (fun x => K :: x)) = (fun x => p ++ [K] ++ x) := by funext x; simp
    rw [e]
    exact hj2
  · refine .inr ⟨rfl, (partW L m (lastI p) q).map (p ++ ·) ++ r, ?_, by rw [← List.append_assoc]; exact hx⟩
    rw [lastI_snoc] at hr
    have e : (ext L m K).map (p ++ [K] ++ ·) = ((ext L m K).map (K :: ·)).map (p ++ ·) := by
      rw [List.map_map]; congr 1; funext x; simp
    rw [e] at hr
    obtain ⟨s, hs⟩ := hr
    have hs2 : ∃ r0 s0, r = r0.map (p ++ ·) ∧ r0 ++ s0 = (ext L m K).map (K :: ·) := by
      refine ⟨((ext L m K).map (K :: ·)).take r.length, ((ext L m K).map (K :: ·)).drop r.length, ?_, List.take_append_drop _ _⟩
      rw [List.map_take, ← hs, List.take_left']
      rfl
    obtain ⟨r0, s0, hr0, hrs⟩ := hs2
    have h5 := partW_pre (r := r0) hq (by rw [hK]; exact ha) (by rw [hK]; exact ⟨s0, hrs⟩)
    rw [hr0, ← List.map_append]
    obtain ⟨s1, hs1⟩ := h5
    exact ⟨s1.map (p ++ ·), by rw [← List.map_append, hs1]⟩
set_option maxRecDepth 100000 in
set_option maxHeartbeats 2000000 in
theorem walk_more (F : Fence) {Fx : Nat → Prop} (hd : F.depth = none) (h74 : F.fn 74) (hro : F.round = none) (l L : Nat) (hL1 : 1 ≤ L) (hL2 : L ≤ 64) (J : List (List Int) → (Nat → Prop) → World → Prop) (Jx : List (List Int) → World → Prop) (hJ : AbM Fx J) (m : Nat) (ih : WalkAt F Fx l L J Jx m)
    (n N j : Nat) (p c : List Int) (a : Int) (g : Nat) (pre : List (List Int)) (M : Nat → Prop) (W : World) (hj : j + 1 = p.length) (ha : p[j]? = some a) (hl : lastI p = a) (hc : c.length = m + 1) (hN : N = j + 1 + (m + 1)) (hN4 : N ≤ 4096) (hb : Blk W g 3 ((p ++ c).map iv).toArray) (hM : M g) (hFg : ¬ Fx g) (hFM : ∀ k, Fx k → M k) (hMlt : ∀ k, M k → k < W.heap.size) (h0 : J pre M W) :
    CallsIn F n Tryd.prog 74 #[.int .i64 (L : Int), .slice (some ⟨g, 0, none⟩) N N, .int .i64 ((j : Int) + 1), .func (.yield l) #[] #[]] W (WalkOut J Jx ((ext L (m + 1) (lastI p)).map (p ++ ·)) (m + 1) p g pre M W) := by
  have hdd : ∀ k : Nat, (F.depth.isSome = true → 1 ≤ k) := fun k h => by rw [hd] at h; cases h
  have hne : (((j : Int) + 1) == (N : Int)) = false := by simp; omega
  have HR0 := Lib.hid (show WRel J L m p g pre M W 0 M c W from ⟨hc, by
    show J (pre ++ []) M W
    rw [List.append_nil]; exact h0, hb, Kept1.refl g hMlt, hM⟩)
  have HI := Lib.hid ih
  have HJ := Lib.hid hJ
  have HF := Lib.hid (And.intro hFg hFM)
  have HN := Lib.hid (show j + 1 = p.length ∧ N = p.length + (m + 1) ∧ p[j]? = some a ∧ lastI p = a from ⟨hj, by omega, ha, hl⟩)
  have hjN : (j : Int) + 1 < (N : Int) := by omega
  have hjN2 : (j : Int) < (N : Int) := by omega
  have hjN3 : (N : Int) ≤ 4096 := by omega
  have hjN4 : j + 1 < N := by omega
  clear hb hM hFg hFM hMlt h0 hc ih hJ hj hN ha hl
  refine callsIn_of_wp Tryd.func74 rfl h74 ?_ hro
  simp only [Tryd.ntmps74, List.size_toArray, List.length_cons, List.length_nil, Nat.reduceAdd, Nat.reduceSub, Array.replicate_succ, Array.replicate_zero, List.push_toArray, List.append_toArray, List.nil_append, List.cons_append]
  gi_wp2
  gi_loopw [27] (fun qv wr => ∃ (q : Nat) (M' : Nat → Prop) (c' : List Int), qv = .int .i64 (q : Int) ∧ q ≤ 2 * L ∧ Hid (WRel J L m p g pre M W q M' c' wr)) (fun qv _ => 2 * L - (intOf qv).toNat)
  case atStart => exact ⟨0, M, c, rfl, by omega, HR0⟩
  case round =>
    obtain ⟨q, M', c', rfl, hq, hR⟩ := hrel
    by_cases hlt : q < 2 * L
    · have hlt' : (q : Int) < 2 * (L : Int) := by omega
      obtain ⟨h, hh⟩ : ∃ h, h = q / 2 := ⟨_, rfl⟩
      have hq2 : Int.tdiv (q : Int) 2 = (h : Int) := by rw [hh]; rfl
      have hh64 : (h : Int) ≤ 64 := by omega
      have hcell := hR.out.2.2.1.cell j
      rw [List.getElem?_toArray, List.getElem?_map, List.getElem?_append_left (by have := HN.out.1; omega), HN.out.2.2.1] at hcell
      have hcellv : wr.cell? ⟨g, j, none⟩ = some (.int .i64 a) := hcell
      clear hcell
      have hout : ∃ u, wr.cell? ⟨g, j + 1, none⟩ = some u := by
        rw [hR.out.2.2.1.cell (j + 1)]
        exact ⟨_, Array.getElem?_eq_getElem (by have h1 := HN.out.1; have h2 := hR.out.1; simp; omega)⟩
      obtain ⟨u, hout⟩ := hout
      have hfz := hR.out.2.2.1.frozen (j + 1)
      have hqn : ((q : Int) + 1) = ((q + 1 : Nat) : Int) := by omega
      have Hqn := Lib.hid hqn
      clear hqn
      by_cases hev : q % 2 = 0
      · have hand := bit_even (q := q) (by omega) hev
        have hK : letr q = (h : Int) + 1 := by unfold letr; rw [if_pos hev, hh]; simp
        by_cases hs : a = -((h : Int) + 1)
        · have hsb : (a == -((h : Int) + 1)) = true := by simpa using hs
          have HT := Lib.hid (walk_skip hR.out (by rw [HN.out.2.2.2, hK]; exact hs))
          clear hs hK hev hh hout hfz
          gi_wp2
          go_roundw
          case rel => exact ⟨q + 1, M', c', by congr 1, by omega, HT⟩
          case measure => simp [intOf]; omega
        · have hsb : (a == -((h : Int) + 1)) = false := by simpa using hs
          have HT := Lib.hid (fun (z : Int) (o : Nat) (hz : z = (p.length : Int) + 1) (ho : o = p.length) => walk_take (n := n - 1) hR.out HJ.out HI.out hlt hK (by rw [HN.out.2.2.2]; exact hs) HN.out.2.1 hN4 hz ho HF.out.1 HF.out.2)
          clear hs hK hev hh
          gi_wp2
          refine (HT.out _ _ (by have := HN.out.1; omega) (by have := HN.out.1; omega)).mono ?_
          rintro e W3 (⟨rfl, M2, c2, hR2⟩ | ⟨rfl, hF⟩)
          · have HR2 := Lib.hid hR2
            clear hR2
            gi_wp2
            go_roundw
            case rel => exact ⟨q + 1, M2, c2, by congr 1, by omega, HR2⟩
            case measure => simp [intOf]; omega
          · gi_wp2
            go_ret
            exact .inr ⟨rfl, hF⟩
      · have hand := bit_odd (q := q) (by omega) hev
        have hK : letr q = -((h : Int) + 1) := by unfold letr; rw [if_neg hev, hh]; simp
        have hneg : -((h : Int) + 1) * -1 = (h : Int) + 1 := by omega
        by_cases hs : a = (h : Int) + 1
        · have hsb : (a == (h : Int) + 1) = true := by simpa using hs
          have HT := Lib.hid (walk_skip hR.out (by rw [HN.out.2.2.2, hK]; omega))
          clear hs hK hev hh hout hfz
          gi_wp2
          go_roundw
          case rel => exact ⟨q + 1, M', c', by congr 1, by omega, HT⟩
          case measure => simp [intOf]; omega
        · have hsb : (a == (h : Int) + 1) = false := by simpa using hs
          have HT := Lib.hid (fun (z : Int) (o : Nat) (hz : z = (p.length : Int) + 1) (ho : o = p.length) => walk_take (n := n - 1) hR.out HJ.out HI.out hlt hK (by rw [HN.out.2.2.2]; omega) HN.out.2.1 hN4 hz ho HF.out.1 HF.out.2)
          clear hs hK hneg hev hh
          gi_wp2
          refine (HT.out _ _ (by have := HN.out.1; omega) (by have := HN.out.1; omega)).mono ?_
          rintro e W3 (⟨rfl, M2, c2, hR2⟩ | ⟨rfl, hF⟩)
          · have HR2 := Lib.hid hR2
            clear hR2
            gi_wp2
            go_roundw
            case rel => exact ⟨q + 1, M2, c2, by congr 1, by omega, HR2⟩
            case measure => simp [intOf]; omega
          · gi_wp2
            go_ret
            exact .inr ⟨rfl, hF⟩
    · obtain rfl : q = 2 * L := by omega
      gi_wp2
      go_ret
      obtain ⟨h1, h2, h3, h4, _⟩ := hR.out
      rw [partW_all] at h2
      exact .inl ⟨rfl, M', c', h1, h2, h3, h4⟩
set_option maxRecDepth 100000 in
set_option maxHeartbeats 2000000 in
theorem walk_first (F : Fence) {Fx : Nat → Prop} (hd : F.depth = none) (h74 : F.fn 74) (hro : F.round = none) (l L : Nat) (hL1 : 1 ≤ L) (hL2 : L ≤ 64) (J : List (List Int) → (Nat → Prop) → World → Prop) (Jx : List (List Int) → World → Prop) (hJ : AbM Fx J) (m : Nat) (ih : WalkAt F Fx l L J Jx m)
    (n N : Nat) (c : List Int) (g : Nat) (pre : List (List Int)) (M : Nat → Prop) (W : World) (hc : c.length = m + 1) (hN : N = m + 1) (hN4 : N ≤ 4096) (hb : Blk W g 3 (([] ++ c).map iv).toArray) (hM : M g) (hFg : ¬ Fx g) (hFM : ∀ k, Fx k → M k) (hMlt : ∀ k, M k → k < W.heap.size) (h0 : J pre M W) :
    CallsIn F n Tryd.prog 74 #[.int .i64 (L : Int), .slice (some ⟨g, 0, none⟩) N N, .int .i64 0, .func (.yield l) #[] #[]] W (WalkOut J Jx ((ext L (m + 1) (lastI [])).map ([] ++ ·)) (m + 1) [] g pre M W) := by
  have hdd : ∀ k : Nat, (F.depth.isSome = true → 1 ≤ k) := fun k h => by rw [hd] at h; cases h
  have hne : ((0 : Int) == (N : Int)) = false := by simp; omega
  have HR0 := Lib.hid (show WRel J L m [] g pre M W 0 M c W from ⟨hc, by
    show J (pre ++ []) M W
    rw [List.append_nil]; exact h0, hb, Kept1.refl g hMlt, hM⟩)
  have HI := Lib.hid ih
  have HJ := Lib.hid hJ
  have HF := Lib.hid (And.intro hFg hFM)
  have HN := Lib.hid (show N = ([] : List Int).length + (m + 1) from by rw [hN]; simp)
  have hjN : (0 : Int) < (N : Int) := by omega
  have hjN3 : (N : Int) ≤ 4096 := by omega
  have hjN4 : 0 < N := by omega
  clear hb hM hFg hFM hMlt h0 hc ih hJ hN
  refine callsIn_of_wp Tryd.func74 rfl h74 ?_ hro
  simp only [Tryd.ntmps74, List.size_toArray, List.length_cons, List.length_nil, Nat.reduceAdd, Nat.reduceSub, Array.replicate_succ, Array.replicate_zero, List.push_toArray, List.append_toArray, List.nil_append, List.cons_append]
  gi_wp2
  gi_loopw [27] (fun qv wr => ∃ (q : Nat) (M' : Nat → Prop) (c' : List Int), qv = .int .i64 (q : Int) ∧ q ≤ 2 * L ∧ Hid (WRel J L m [] g pre M W q M' c' wr)) (fun qv _ => 2 * L - (intOf qv).toNat)
  case atStart => exact ⟨0, M, c, rfl, by omega, HR0⟩
  case round =>
    obtain ⟨q, M', c', rfl, hq, hR⟩ := hrel
    by_cases hlt : q < 2 * L
    · have hlt' : (q : Int) < 2 * (L : Int) := by omega
      obtain ⟨h, hh⟩ : ∃ h, h = q / 2 := ⟨_, rfl⟩
      have hq2 : Int.tdiv (q : Int) 2 = (h : Int) := by rw [hh]; rfl
      have hh64 : (h : Int) ≤ 64 := by omega
      have hout : ∃ u, wr.cell? ⟨g, 0, none⟩ = some u := by
        rw [hR.out.2.2.1.cell 0]
        exact ⟨_, Array.getElem?_eq_getElem (by have h2 := hR.out.1; simp; omega)⟩
      obtain ⟨u, hout⟩ := hout
      have hfz := hR.out.2.2.1.frozen 0
      have hqn : ((q : Int) + 1) = ((q + 1 : Nat) : Int) := by omega
      have Hqn := Lib.hid hqn
      clear hqn
      by_cases hev : q % 2 = 0
      · have hand := bit_even (q := q) (by omega) hev
        have hK : letr q = (h : Int) + 1 := by unfold letr; rw [if_pos hev, hh]; simp
        · have HT := Lib.hid (fun (z : Int) (o : Nat) (hz : z = (([] : List Int).length : Int) + 1) (ho : o = ([] : List Int).length) => walk_take (n := n - 1) hR.out HJ.out HI.out hlt hK (by simp [lastI]; omega) HN.out hN4 hz ho HF.out.1 HF.out.2)
          clear hK hev hh
          gi_wp2
          refine (HT.out _ _ (by simp) rfl).mono ?_
          rintro e W3 (⟨rfl, M2, c2, hR2⟩ | ⟨rfl, hF⟩)
          · have HR2 := Lib.hid hR2
            clear hR2
            gi_wp2
            go_roundw
            case rel => exact ⟨q + 1, M2, c2, by congr 1, by omega, HR2⟩
            case measure => simp [intOf]; omega
          · gi_wp2
            go_ret
            exact .inr ⟨rfl, hF⟩
      · have hand := bit_odd (q := q) (by omega) hev
        have hK : letr q = -((h : Int) + 1) := by unfold letr; rw [if_neg hev, hh]; simp
        · have HT := Lib.hid (fun (z : Int) (o : Nat) (hz : z = (([] : List Int).length : Int) + 1) (ho : o = ([] : List Int).length) => walk_take (n := n - 1) hR.out HJ.out HI.out hlt hK (by simp [lastI]; omega) HN.out hN4 hz ho HF.out.1 HF.out.2)
          clear hK hev hh
          gi_wp2
          refine (HT.out _ _ (by simp) rfl).mono ?_
          rintro e W3 (⟨rfl, M2, c2, hR2⟩ | ⟨rfl, hF⟩)
          · have HR2 := Lib.hid hR2
            clear hR2
            gi_wp2
            go_roundw
            case rel => exact ⟨q + 1, M2, c2, by congr 1, by omega, HR2⟩
            case measure => simp [intOf]; omega
          · gi_wp2
            go_ret
            exact .inr ⟨rfl, hF⟩
    · obtain rfl : q = 2 * L := by omega
      gi_wp2
      go_ret
      obtain ⟨h1, h2, h3, h4, _⟩ := hR.out
      rw [partW_all] at h2
      exact .inl ⟨rfl, M', c', h1, h2, h3, h4⟩
theorem snoc_of {p : List Int} {j : Nat} (h : p.length = j + 1) : ∃ a, p[j]? = some a ∧ lastI p = a := by
  have hne : p ≠ [] := by intro e; rw [e] at h; simp at h
  refine ⟨p.getLast hne, ?_, ?_⟩
  · rw [← List.getLast?_eq_some_getLast hne, List.getLast?_eq_getElem?, h]; rfl
  · unfold lastI; rw [List.getLast?_eq_some_getLast hne]; rfl
theorem walk_any (F : Fence) {Fx : Nat → Prop} (hd : F.depth = none) (h74 : F.fn 74) (hro : F.round = none) (l L : Nat) (hL1 : 1 ≤ L) (hL2 : L ≤ 64) (J : List (List Int) → (Nat → Prop) → World → Prop) (Jx : List (List Int) → World → Prop) (hJ : AbM Fx J) (hY : RoundW F Fx l J Jx) : ∀ m, WalkAt F Fx l L J Jx m
  | 0 => fun n N z p c g pre M W hz hc hN hN4 hb hM hFg hFM hMlt h0 => by
    obtain rfl : c = [] := List.eq_nil_of_length_eq_zero hc
    rw [List.append_nil] at hb
    have hk : N = p.length := by omega
    have h := walk_end F hd h74 hro l (L : Int) J Jx hJ hY n N p g pre M W hk hN4 hb hM hFg hFM hMlt h0
    rw [hz, ← hk]
    have e : (ext L 0 (lastI p)).map (p ++ ·) = [p] := by simp [ext]
    rw [e]
    exact h
  | m + 1 => fun n N z p c g pre M W hz hc hN hN4 hb hM hFg hFM hMlt h0 => by
    have ih := walk_any F hd h74 hro l L hL1 hL2 J Jx hJ hY m
    rcases Nat.eq_zero_or_pos p.length with hp | hp
    · obtain rfl : p = [] := List.eq_nil_of_length_eq_zero hp
      rw [hz]
      exact walk_first F hd h74 hro l L hL1 hL2 J Jx hJ m ih n N c g pre M W hc (by simp at hN; omega) hN4 hb hM hFg hFM hMlt h0
    · obtain ⟨j, hj⟩ : ∃ j, p.length = j + 1 := ⟨p.length - 1, by omega⟩
      obtain ⟨a, ha, hl⟩ := snoc_of hj
      rw [hz, hj]
      exact walk_more F hd h74 hro l L hL1 hL2 J Jx hJ m ih n N j p c a g pre M W hj.symm ha hl hc (by omega) hN4 hb hM hFg hFM hMlt h0
end Go.Proofs.YtmjnhpagoboejaaDoor

/- A region that draws: what is held, up to the last call; that one may write what was loaded. -/
namespace Go.Proofs.YtmjnhpagoboejaaDoor
open Go Go.RowKit

section
variable {P : Program} {ops : Array Oper} {Q : Exit → Act → World → Prop} {md : Region.Mode} {C : World → Prop} {k : Nat}

def Closed (md : Region.Mode) (ops : Array Oper) (L : Array Bool) : Prop := ∀ j oj, ops[j]? = some oj → L.getD j false = true → ∀ e ∈ oj.after, Region.binds md e = true → L.getD e.on false = true
/-- does j wait for i, by others, too? -/
def deps (md : Region.Mode) (ops : Array Oper) : Nat → Nat → Nat → Bool
  | 0, _, _ => false
  | f + 1, j, i => match ops[j]? with
    | none => false
    | some oj => oj.after.any fun e => Region.binds md e && (e.on == i || deps md ops f e.on i)
def depsAll (md : Region.Mode) (ops : Array Oper) (k i : Nat) : Bool := (List.range ops.size).all fun j => decide (j < k) || deps md ops ops.size j i
theorem deps_of_edges {L : Array Bool} {i : Nat} (hc : Closed md ops L) : ∀ (f j : Nat), deps md ops f j i = true → (∀ oj, ops[j]? = some oj → ∀ e ∈ oj.after, Region.binds md e = true → L.getD e.on false = true) → L.getD i false = true
  | 0, _, h, _ => by cases h
  | f + 1, j, h, hl => by
    unfold deps at h
    cases ho : ops[j]? with
    | none => rw [ho] at h; cases h
    | some oj =>
      rw [ho] at h
      simp only [Array.any_eq_true'] at h
      obtain ⟨e, he, h⟩ := h
      rw [Bool.and_eq_true, Bool.or_eq_true] at h
      obtain ⟨hb, h⟩ := h
      have h1 := hl oj ho e he hb
      rcases h with h | h
      · rw [beq_iff_eq] at h; rw [← h]; exact h1
      · exact deps_of_edges hc f e.on h fun oj' ho' e' he' hb' => hc e.on oj' ho' h1 e' he' hb'
theorem closed_start (n : Nat) : Closed md ops (Array.replicate n false) := fun j oj _ h => by
  exfalso
  rw [Array.getD_eq_getD_getElem?, Array.getElem?_replicate] at h
  split at h <;> simp at h
theorem closed_set {L : Array Bool} {i : Nat} (hc : Closed md ops L) (hr : i ∈ Region.ready md ops L) : Closed md ops (L.setIfInBounds i true) := fun j oj ho hl e he hb => by
  by_cases hij : i = j
  · subst hij
    obtain ⟨_, o, ho', hall⟩ := mem_ready.1 hr
    rw [ho] at ho'
    injection ho' with ho'
    subst ho'
    exact getD_set_true (hall e he hb)
  · rw [getD_set_ne false hij] at hl
    exact getD_set_true (hc j oj ho hl e he hb)

/-- whatever order is picked, and C holds behind every operation below k -/
def wpAnyK (P : Program) (md : Region.Mode) (ops : Array Oper) (Q : Exit → Act → World → Prop) (C : World → Prop) (k : Nat) : Nat → Array Bool → Act → World → Prop
  | 0, listed, a, w => Region.ready md ops listed = [] ∧ Q .normal a w
  | fuel + 1, listed, a, w =>
    (Region.ready md ops listed = [] → Q .normal a w) ∧
    ∀ i ∈ Region.ready md ops listed, wpOp P ops Q i (fun a' w' => (i < k → C w → C w') ∧ wpAnyK P md ops Q C k fuel (listed.setIfInBounds i true) a' w') a w
theorem wpAny_of_K : ∀ (fuel : Nat) (listed : Array Bool) (a : Act) (w : World), wpAnyK P md ops Q C k fuel listed a w → wpAny P md ops Q fuel listed a w
  | 0, _, _, _, h => h
  | fuel + 1, _, _, _, h => ⟨h.1, fun i hi => wpOp_mono (fun a' w' h' => wpAny_of_K fuel _ a' w' h'.2) (h.2 i hi)⟩
theorem wpAnyK_first {i : Nat} {oi : Oper} {v : Value} (hi : ops[i]? = some oi) (hsel : ∀ (j : Nat) (o : Oper) cs b, ops[j]? = some o → o.op ≠ .select cs b)
    (hQ : ∀ c a w, Q (.panic c) (a.put oi.dst v) w → Q (.panic c) a w) (hdp : depsAll md ops k i = true) :
    ∀ (fuel : Nat) (listed : Array Bool) (a : Act) (w : World), Closed md ops listed →
      (∀ j oj, ops[j]? = some oj → j ≠ i → listed.getD j true = false → (∀ e ∈ oj.after, Region.binds md e = true → e.on ≠ i) → oi.apart ops oj = true) →
      i ∈ Region.ready md ops listed → YieldsIf P ops C oi v a → C w →
      wpAnyK P md ops Q C k fuel (listed.setIfInBounds i true) (a.put oi.dst v) w → wpAnyK P md ops Q C k (fuel + 1) listed a w := by
  intro fuel
  induction fuel with
  | zero =>
    intro listed a w _ _ hr hy hC H
    refine ⟨fun h => (by rw [h] at hr; cases hr), fun j hj => ?_⟩
    by_cases hji : j = i
    · subst hji; exact hy.wpOp hi hC ⟨fun _ _ => hC, H⟩
    · have := ready_mono hj hji
      rw [H.1] at this
      cases this
  | succ fuel ih =>
    intro listed a w hcl hfree hr hy hC H
    refine ⟨fun h => (by rw [h] at hr; cases hr), fun j hj => ?_⟩
    by_cases hji : j = i
    · subst hji; exact hy.wpOp hi hC ⟨fun _ _ => hC, H⟩
    · have h1 := H.2 j (ready_mono hj hji)
      obtain ⟨hjun, oj, hoj, hall⟩ := mem_ready.1 hj
      have hnl : listed.getD i true = false := (mem_ready.1 hr).1
      have hnot : ∀ e ∈ oj.after, Region.binds md e = true → e.on ≠ i := fun e he hb heq => by
        have h1 := hall e he hb
        rw [heq] at h1
        rcases Nat.lt_or_ge i listed.size with h' | h'
        · simp [h'] at hnl h1; rw [hnl] at h1; cases h1
        · simp [Array.getElem?_eq_none h'] at h1
      have hjk : j < k := by
        rcases Nat.lt_or_ge j k with h | h
        · exact h
        · exfalso
          unfold depsAll at hdp
          rw [List.all_eq_true] at hdp
          have h2 := hdp j (List.mem_range.2 (Array.getElem?_eq_some_iff.1 hoj).1)
          have h3 : decide (j < k) = false := by simpa using h
          rw [h3, Bool.false_or] at h2
          have h4 := deps_of_edges hcl ops.size j h2 (fun oj' ho' e he hb => by
            rw [hoj] at ho'
            injection ho' with ho'
            subst ho'
            exact hall e he hb)
          rcases Nat.lt_or_ge i listed.size with h' | h'
          · simp [h'] at hnl h4; rw [hnl] at h4; cases h4
          · simp [Array.getElem?_eq_none h'] at h4
      have h2 := wpOp_putIf hoj (hfree j oj hoj hji hjun hnot) (fun cs b => hsel i oi cs b hi) (fun cs b => hsel j oj cs b hoj) hQ hy h1
      have hfree' : ∀ q ok, ops[q]? = some ok → q ≠ i → (listed.setIfInBounds j true).getD q true = false →
          (∀ e ∈ ok.after, Region.binds md e = true → e.on ≠ i) → oi.apart ops ok = true := fun q ok hk hki hun hno => by
        refine hfree q ok hk hki ?_ hno
        by_cases hjq : j = q
        · subst hjq; exact hjun
        · rw [getD_set_ne true hjq] at hun; exact hun
      refine wpOp_mono (fun a' w' h3 => ⟨h3.2.1, ih (listed.setIfInBounds j true) a' w' (closed_set hcl hj) hfree' (ready_mono hr (Ne.symm hji)) h3.1 (h3.2.1 hjk hC) ?_⟩) h2
      rw [Array.setIfInBounds_comm _ _ hji]
      exact h3.2.2

/-- an operation that yields its value in whatever world -/
theorem wpAnyK_pure {i : Nat} {oi : Oper} {v : Value} (hi : ops[i]? = some oi) (hsel : ∀ (j : Nat) (o : Oper) cs b, ops[j]? = some o → o.op ≠ .select cs b)
    (hQ : ∀ c a w, Q (.panic c) (a.put oi.dst v) w → Q (.panic c) a w) :
    ∀ (fuel : Nat) (listed : Array Bool) (a : Act) (w : World),
      (∀ j oj, ops[j]? = some oj → j ≠ i → listed.getD j true = false → (∀ e ∈ oj.after, Region.binds md e = true → e.on ≠ i) → oi.apart ops oj = true) →
      i ∈ Region.ready md ops listed → YieldsIf P ops (fun _ => True) oi v a →
      wpAnyK P md ops Q C k fuel (listed.setIfInBounds i true) (a.put oi.dst v) w → wpAnyK P md ops Q C k (fuel + 1) listed a w := by
  intro fuel
  induction fuel with
  | zero =>
    intro listed a w _ hr hy H
    refine ⟨fun h => (by rw [h] at hr; cases hr), fun j hj => ?_⟩
    by_cases hji : j = i
    · subst hji; exact hy.wpOp hi trivial ⟨fun _ h => h, H⟩
    · have := ready_mono hj hji
      rw [H.1] at this
      cases this
  | succ fuel ih =>
    intro listed a w hfree hr hy H
    refine ⟨fun h => (by rw [h] at hr; cases hr), fun j hj => ?_⟩
    by_cases hji : j = i
    · subst hji; exact hy.wpOp hi trivial ⟨fun _ h => h, H⟩
    · have h1 := H.2 j (ready_mono hj hji)
      obtain ⟨hjun, oj, hoj, hall⟩ := mem_ready.1 hj
      have hnl : listed.getD i true = false := (mem_ready.1 hr).1
      have hnot : ∀ e ∈ oj.after, Region.binds md e = true → e.on ≠ i := fun e he hb heq => by
        have h1 := hall e he hb
        rw [heq] at h1
        rcases Nat.lt_or_ge i listed.size with h' | h'
        · simp [h'] at hnl h1; rw [hnl] at h1; cases h1
        · simp [Array.getElem?_eq_none h'] at h1
      have h2 := wpOp_putIf hoj (hfree j oj hoj hji hjun hnot) (fun cs b => hsel i oi cs b hi) (fun cs b => hsel j oj cs b hoj) hQ hy h1
      have hfree' : ∀ q ok, ops[q]? = some ok → q ≠ i → (listed.setIfInBounds j true).getD q true = false →
          (∀ e ∈ ok.after, Region.binds md e = true → e.on ≠ i) → oi.apart ops ok = true := fun q ok hk hki hun hno => by
        refine hfree q ok hk hki ?_ hno
        by_cases hjq : j = q
        · subst hjq; exact hjun
        · rw [getD_set_ne true hjq] at hun; exact hun
      refine wpOp_mono (fun a' w' h3 => ⟨h3.2.1, ih (listed.setIfInBounds j true) a' w' hfree' (ready_mono hr (Ne.symm hji)) h3.1 ?_⟩) h2
      rw [Array.setIfInBounds_comm _ _ hji]
      exact h3.2.2

def wpHK (P : Program) (md : Region.Mode) (ops : Array Oper) (Q : Exit → Act → World → Prop) (C : World → Prop) (k : Nat) (fuel : Nat) (listed : Array Bool) (a : Act) (w : World) : Prop := Closed md ops listed → wpAnyK P md ops Q C k fuel listed a w
/-- take number i first -/
theorem wpHK_take {i : Nat} {oi : Oper} {v : Value} {fuel : Nat} {listed : Array Bool} {a : Act} {w : World} (hi : ops[i]? = some oi)
    (hs : Region.noSelect ops = true) (hf : Region.free md ops listed i = true) (hr : (Region.ready md ops listed).contains i = true) (hdp : depsAll md ops k i = true)
    (hQ : ∀ c a w, Q (.panic c) (a.put oi.dst v) w → Q (.panic c) a w) (hy : YieldsIf P ops C oi v a) (hC : C w)
    (h : wpHK P md ops Q C k fuel (listed.setIfInBounds i true) (a.put oi.dst v) w) : wpHK P md ops Q C k (fuel + 1) listed a w := fun hcl =>
  wpAnyK_first hi (Region.noSelect_spec hs) hQ hdp fuel listed a w hcl (Region.free_spec hi hf) (by simpa using hr) hy hC (h (closed_set hcl (by simpa using hr)))
/-- take number i first: it yields its value in whatever world -/
theorem wpHK_pure {i : Nat} {oi : Oper} {v : Value} {fuel : Nat} {listed : Array Bool} {a : Act} {w : World} (hi : ops[i]? = some oi)
    (hs : Region.noSelect ops = true) (hf : Region.free md ops listed i = true) (hr : (Region.ready md ops listed).contains i = true)
    (hQ : ∀ c a w, Q (.panic c) (a.put oi.dst v) w → Q (.panic c) a w) (hy : YieldsIf P ops (fun _ => True) oi v a)
    (h : wpHK P md ops Q C k fuel (listed.setIfInBounds i true) (a.put oi.dst v) w) : wpHK P md ops Q C k (fuel + 1) listed a w := fun hcl =>
  wpAnyK_pure hi (Region.noSelect_spec hs) hQ fuel listed a w (Region.free_spec hi hf) (by simpa using hr) hy (h (closed_set hcl (by simpa using hr)))
/-- the one that comes next, below k: C is shown anew -/
theorem wpHK_one {j : Nat} {o : Oper} {fuel : Nat} {listed : Array Bool} {a : Act} {w : World} (ho : ops[j]? = some o) (hr : Region.ready md ops listed = [j])
    (h : ∀ K' : Act → World → Prop, Shut (∀ a w, C w → (C w → wpHK P md ops Q C k fuel (listed.setIfInBounds j true) a w) → K' a w) → if Region.wanted o (yielded ops a.tmps) = true then Oper.wp P o a w K' Q else K' (a.put o.dst undef) w) :
    wpHK P md ops Q C k (fuel + 1) listed a w := fun hcl =>
  ⟨fun h0 => (by rw [hr] at h0; cases h0), fun i hi => by
    have hm := hi
    rw [hr] at hi
    simp only [List.mem_singleton] at hi
    subst hi
    exact wpOp_step ho (fun K' hK => h K' (fun a w hC hW => hK a w ⟨fun _ _ => hC, hW hC (closed_set hcl hm)⟩))⟩
/-- two come next, below k, in either order -/
theorem wpHK_two {i j : Nat} {oi oj : Oper} {fuel : Nat} {listed : Array Bool} {a : Act} {w : World} (hi : ops[i]? = some oi) (hj : ops[j]? = some oj) (hr : Region.ready md ops listed = [i, j])
    (h1 : ∀ K' : Act → World → Prop, Shut (∀ a w, C w → (C w → wpHK P md ops Q C k fuel (listed.setIfInBounds i true) a w) → K' a w) → if Region.wanted oi (yielded ops a.tmps) = true then Oper.wp P oi a w K' Q else K' (a.put oi.dst undef) w)
    (h2 : ∀ K' : Act → World → Prop, Shut (∀ a w, C w → (C w → wpHK P md ops Q C k fuel (listed.setIfInBounds j true) a w) → K' a w) → if Region.wanted oj (yielded ops a.tmps) = true then Oper.wp P oj a w K' Q else K' (a.put oj.dst undef) w) :
    wpHK P md ops Q C k (fuel + 1) listed a w := fun hcl =>
  ⟨fun h0 => (by rw [hr] at h0; cases h0), fun i' hi' => by
    have hm := hi'
    rw [hr] at hi'
    simp only [List.mem_cons, List.not_mem_nil, or_false] at hi'
    rcases hi' with rfl | rfl
    · exact wpOp_step hi (fun K' hK => h1 K' (fun a w hC hW => hK a w ⟨fun _ _ => hC, hW hC (closed_set hcl hm)⟩))
    · exact wpOp_step hj (fun K' hK => h2 K' (fun a w hC hW => hK a w ⟨fun _ _ => hC, hW hC (closed_set hcl hm)⟩))⟩
/-- the one that comes next, from k on -/
theorem wpHK_tail {j : Nat} {o : Oper} {fuel : Nat} {listed : Array Bool} {a : Act} {w : World} (ho : ops[j]? = some o) (hr : Region.ready md ops listed = [j]) (hk : k ≤ j)
    (h : ∀ K' : Act → World → Prop, Shut (∀ a w, wpHK P md ops Q C k fuel (listed.setIfInBounds j true) a w → K' a w) → if Region.wanted o (yielded ops a.tmps) = true then Oper.wp P o a w K' Q else K' (a.put o.dst undef) w) :
    wpHK P md ops Q C k (fuel + 1) listed a w := fun hcl =>
  ⟨fun h0 => (by rw [hr] at h0; cases h0), fun i hi => by
    have hm := hi
    rw [hr] at hi
    simp only [List.mem_singleton] at hi
    subst hi
    exact wpOp_step ho (fun K' hK => h K' (fun a w hW => hK a w ⟨fun h0 => absurd h0 (by omega), hW (closed_set hcl hm)⟩))⟩
/-- an assignment that comes next, from k on -/
theorem wpHK_assign {j : Nat} {o : Oper} {x : Operand} {fuel : Nat} {listed : Array Bool} {a : Act} {w : World} (ho : ops[j]? = some o) (hr : Region.ready md ops listed = [j]) (hk : k ≤ j) (hop : o.op = .assign x) (hg : o.guard = none)
    (h : wpHK P md ops Q C k fuel (listed.setIfInBounds j true) (a.put o.dst (a.eval x)) w) :
    wpHK P md ops Q C k (fuel + 1) listed a w := wpHK_tail ho hr hk fun K' hK => by
  have hw : Region.wanted o (yielded ops a.tmps) = true := by simp [Region.wanted, hg]
  rw [if_pos hw]
  unfold Oper.wp execOp
  simp only [hop, Sem.run_pure]
  exact hK.out _ _ h
theorem wpHK_done {listed : Array Bool} {a : Act} {w : World} (hr : Region.ready md ops listed = []) (h : Q .normal a w) : ∀ fuel, wpHK P md ops Q C k fuel listed a w
  | 0 => fun _ => ⟨hr, h⟩
  | _ + 1 => fun _ => ⟨fun _ => h, by rw [hr]; simp⟩
/-- the beginning -/
theorem wp_region_HK {id : Nat} {a : Act} {w : World} (C : World → Prop) (k : Nat) (hm : P.follows .mixedOrders = true) (hC : C w.drew)
    (h : C w.drew → wpHK P .any ops Q C k ops.size (Array.replicate ops.size false) a w.drew) : (Code.region id ops true).wp P Q a w :=
  wp_region_any hm (wpAny_of_K _ _ _ _ (h hC (closed_start _)))
end
/-- what lies behind a region, once for all roads through it -/
theorem cut_goal {α : Type} {F G : α → Prop} {T : Prop} (h : (∀ x, F x → G x) → T) (hG : ∀ x, F x → G x) : T := h hG
theorem cut_goal2 {F : Nat → Nat → World → Prop} {G : Nat → Nat → World → Prop} {T : Prop} (h : (∀ x y w, F x y w → G x y w) → T) (hG : ∀ x y w, F x y w → G x y w) : T := h hG
end Go.Proofs.YtmjnhpagoboejaaDoor

/- words.All's iterator: its contract. -/
namespace Go.Proofs.YtmjnhpagoboejaaDoor
open Go.RowKit Go.Shelf
open Wd
set_option linter.unusedSimpArgs false
set_option linter.unusedVariables false
attribute [local go_sem] Oper.semAt_some

theorem GrowM.drew_ (Fx M : Nat → Prop) (W : World) : GrowM Fx M W M W.drew := ⟨rfl, rfl, rfl, Nat.le_refl _, fun _ _ _ => rfl, fun _ _ _ => rfl, fun _ h => h, fun _ h => .inl h⟩
def partA (L k : Nat) : List (List Int) := (List.range' 0 k).flatMap (fun m => ext L m 0)
theorem partA_all (L M : Nat) : partA L (M + 1) = allW L M := rfl
theorem partA_succ (L k : Nat) : partA L (k + 1) = partA L k ++ ext L k 0 := by
  unfold partA
  rw [List.range'_concat, List.flatMap_append]
  simp
theorem partA_le {L : Nat} : ∀ (d k : Nat), partA L k <+: partA L (k + d)
  | 0, k => List.prefix_refl _
  | d + 1, k => (partA_le d k).trans (by rw [show k + (d + 1) = (k + d) + 1 by omega, partA_succ]; exact List.prefix_append _ _)
/-- between two rounds of the iterator -/
def ARel (J : List (List Int) → (Nat → Prop) → World → Prop) (L M bm bl k : Nat) (M' : Nat → Prop) (wr : World) : Prop :=
  J (partA L k) M' wr ∧ Blk wr bm 3 #[.int .i64 (M : Int)] ∧ Blk wr bl 3 #[.int .i64 (L : Int)] ∧ M' bm ∧ M' bl ∧ ∀ i, M' i → i < wr.heap.size
def AOutB (J : List (List Int) → (Nat → Prop) → World → Prop) (Jx : List (List Int) → World → Prop) (L M bm bl k : Nat) (b : Bool) (W' : World) : Prop :=
  (b = true ∧ ∃ M'', ARel J L M bm bl k M'' W') ∨ (b = false ∧ ∃ r, r <+: allW L M ∧ Jx r W')
def AOut (J : List (List Int) → (Nat → Prop) → World → Prop) (Jx : List (List Int) → World → Prop) (L M bm bl k : Nat) (e : Ending) (W' : World) : Prop :=
  ∃ b, e = .returned (.bool b) ∧ AOutB J Jx L M bm bl k b W'
theorem all_round {F : Fence} (hd : F.depth = none) (h74 : F.fn 74) (hro : F.round = none) {l L M bm bl k n : Nat} (hL1 : 1 ≤ L) (hL2 : L ≤ 64) (hk : k ≤ M) (hM : M ≤ 4096) {J : List (List Int) → (Nat → Prop) → World → Prop} {Jx : List (List Int) → World → Prop} (hJ : AbM (fun k => k = bm ∨ k = bl) J) (hY : RoundW F (fun k => k = bm ∨ k = bl) l J Jx)
    {M' : Nat → Prop} {wr : World} (h : ARel J L M bm bl k M' wr) :
    CallsIn F n Tryd.prog 74 #[.int .i64 (L : Int), .slice (some ⟨wr.heap.size, 0, none⟩) k k, .int .i64 0, .func (.yield l) #[] #[]] (wr.alloc (.cells (Array.replicate k (iv 0)) 3)).drew (AOut J Jx L M bm bl (k + 1)) := by
  obtain ⟨hj, hbm, hbl, hMm, hMl, hlt⟩ := h
  have ea : Array.replicate k (iv 0) = ((List.replicate k (0 : Int)).map iv).toArray := by simp
  rw [ea]
  have hs : (wr.alloc (.cells ((List.replicate k (0 : Int)).map iv).toArray 3)).drew.heap.size = wr.heap.size + 1 := by simp [World.drew]
  refine (walk_any F hd h74 hro l L hL1 hL2 J Jx hJ hY k n k 0 [] (List.replicate k 0) wr.heap.size (partA L k) (fun i => M' i ∨ i = wr.heap.size) _ rfl (by simp) (by simp) (by omega)
    (by rw [List.nil_append]; exact (Blk.new wr 3 _).drew) (.inr rfl) (fun h => by have m1 := hlt bm hMm; have m2 := hlt bl hMl; omega) (fun k hk => .inl (hk.elim (fun e => e ▸ hMm) (fun e => e ▸ hMl))) (fun i hi => by rw [hs]; exact hi.elim (fun hi => by have := hlt i hi; omega) (fun hi => by omega))
    (hJ _ _ _ _ _ hj ((GrowM.alloc _ M' wr _).trans (GrowM.drew_ _ _ _)))).mono ?_
  have e : (ext L k (lastI [])).map ([] ++ ·) = ext L k 0 := by
    rw [show lastI [] = 0 from rfl]
    exact List.map_id' _
  rw [e]
  have keep : ∀ i, i < wr.heap.size → (wr.alloc (.cells ((List.replicate k (0 : Int)).map iv).toArray 3)).drew.heap[i]? = wr.heap[i]? := fun i hi => Below.heap_alloc wr _ i hi
  rintro e W' (⟨rfl, M'', c', hc, hj2, hb2, hk2⟩ | ⟨rfl, r, hr, hx⟩)
  · have m1 := hlt bm hMm
    have m2 := hlt bl hMl
    refine ⟨true, rfl, .inl ⟨rfl, M'', by rw [partA_succ]; exact hj2, ?_, ?_, hk2.2.1 _ (.inl hMm), hk2.2.1 _ (.inl hMl), hk2.2.2.2⟩⟩
    · exact (hk2.2.2.1 bm (.inl hMm) (by omega)).trans ((keep bm m1).trans hbm)
    · exact (hk2.2.2.1 bl (.inl hMl) (by omega)).trans ((keep bl m2).trans hbl)
  · refine ⟨false, rfl, .inr ⟨rfl, _, ?_, hx⟩⟩
    have h5 := partA_le (L := L) (M + 1 - (k + 1)) (k + 1)
    rw [show k + 1 + (M + 1 - (k + 1)) = M + 1 by omega, partA_all L M] at h5
    refine List.IsPrefix.trans ?_ h5
    rw [partA_succ]
    obtain ⟨s, hs⟩ := hr
    exact ⟨s, by rw [List.append_assoc, hs]⟩
theorem all_call {l L M bm bl k : Nat} (hL1 : 1 ≤ L) (hL2 : L ≤ 64) (hk : k ≤ M) (hM : M ≤ 4096) {J : List (List Int) → (Nat → Prop) → World → Prop} {Jx : List (List Int) → World → Prop} (hJ : AbM (fun k => k = bm ∨ k = bl) J) (hY : RoundW Fence.wide (fun k => k = bm ∨ k = bl) l J Jx)
    {M' : Nat → Prop} {wr : World} (h : ARel J L M bm bl k M' wr) :
    Calls Tryd.prog 74 #[.int .i64 (L : Int), .slice (some ⟨wr.heap.size, 0, none⟩) k k, .int .i64 0, .func (.yield l) #[] #[]] (wr.alloc (.cells (Array.replicate k (iv 0)) 3)).drew (AOut J Jx L M bm bl (k + 1)) :=
  (callsIn_wide (n := 3)).1 (all_round rfl trivial rfl hL1 hL2 hk hM hJ hY h)
set_option maxRecDepth 100000 in
set_option maxHeartbeats 2000000 in
theorem all1_any (l L M bm bl : Nat) (hL1 : 1 ≤ L) (hL2 : L ≤ 64) (hM : M ≤ 4096) (J : List (List Int) → (Nat → Prop) → World → Prop) (Jx : List (List Int) → World → Prop) (hJ : AbM (fun k => k = bm ∨ k = bl) J) (hY : RoundW Fence.wide (fun k => k = bm ∨ k = bl) l J Jx)
    (M0 : Nat → Prop) (W : World) (h0 : J [] M0 W) (hbm : Blk W bm 3 #[.int .i64 (M : Int)]) (hbl : Blk W bl 3 #[.int .i64 (L : Int)]) (hMm : M0 bm) (hMl : M0 bl) (hlt : ∀ i, M0 i → i < W.heap.size) :
    Calls Tryd.prog 73 #[.func (.yield l) #[] #[], .pointer (some ⟨bm, 0, none⟩), .pointer (some ⟨bl, 0, none⟩)] W (fun e W' => (∃ v, e = .returned v) ∧ ((∃ M', J (allW L M) M' W') ∨ ∃ pre, pre <+: allW L M ∧ Jx pre W')) := by
  have HR0 := Lib.hid (show ARel J L M bm bl 0 M0 W from ⟨h0, hbm, hbl, hMm, hMl, hlt⟩)
  have HJ := Lib.hid (And.intro hJ hY)
  have hM2 : (M : Int) ≤ 4096 := by omega
  clear h0 hbm hbl hMm hMl hlt hJ hY
  go_enter Tryd.func73, Tryd.ntmps73
  go_wp2_with fail
  go_loopg [4] (M + 1) (fun r nv wr => ∃ (k : Nat) (M' : Nat → Prop), nv = .int .i64 (k : Int) ∧ r = M + 1 - k ∧ k ≤ M + 1 ∧ Hid (ARel J L M bm bl k M' wr))
  case atStart => exact ⟨0, M0, rfl, by omega, by omega, HR0⟩
  case round =>
    obtain ⟨k, M', rfl, hr, hk, hR⟩ := hrel
    have Hr := Lib.hid hr
    clear hr
    have hcm := hR.out.2.1.cell 0
    have hcl := hR.out.2.2.1.cell 0
    rw [show (#[Value.int .i64 (M : Int)] : Array Value)[0]? = some (.int .i64 (M : Int)) from rfl] at hcm
    rw [show (#[Value.int .i64 (L : Int)] : Array Value)[0]? = some (.int .i64 (L : Int)) from rfl] at hcl
    have hcl2 : ∀ o, (wr.alloc o).drew.cell? ⟨bl, 0, none⟩ = some (.int .i64 (L : Int)) := fun o => (hR.out.2.2.1.alloc o).drew.cell 0
    by_cases hlt : k ≤ M
    · have hki : (k : Int) ≤ (M : Int) := by omega
      have hmk : ∀ W : World, (Instr.makeSlice 22 (.int .i64 (k : Int)) (.int .i64 (k : Int))).run Tryd.prog W = .ok (.slice (some ⟨W.heap.size, 0, none⟩) k k) (W.alloc (.cells ((List.replicate k (0 : Int)).map iv).toArray 3)) := fun W => run_makeI k k (Nat.le_refl _) (by omega) W
      go_wp2_with fail
      refine wp_region_noPanic ?_
      refine wp_region_HK (fun w' => w'.cell? ⟨bl, 0, none⟩ = some (.int .i64 (L : Int))) 4 (by kernel_rfl) hcl (fun hHeld => ?_)
      refine wpHK_take (i := 0) (oi := Oper.mk (some 10) _ _ _ _ _) (v := ?_) rfl (by kernel_rfl) (by kernel_rfl) (by kernel_rfl) (by kernel_rfl) (fun _ _ _ h => h) (Or.inl ⟨by rfl, ?_⟩) (by assumption) ?_
      rotate_left
      · (intro w' hSw; (try dsimp only at hSw); (obtain s1 := hSw); go_simp; try with_reducible rfl)
      try simp only [Act.put, List.setIfInBounds_toArray, List.set_cons_zero, List.set_cons_succ]
      refine wpHK_take (i := 1) (oi := Oper.mk (some 11) _ _ _ _ _) (v := ?_) rfl (by kernel_rfl) (by kernel_rfl) (by kernel_rfl) (by kernel_rfl) (fun _ _ _ h => h) (Or.inl ⟨by rfl, ?_⟩) (by assumption) ?_
      rotate_left
      · (intro w' hSw; (try dsimp only at hSw); (obtain s1 := hSw); go_simp; try with_reducible rfl)
      try simp only [Act.put, List.setIfInBounds_toArray, List.set_cons_zero, List.set_cons_succ]
      refine wpHK_take (i := 3) (oi := Oper.mk (some 13) _ _ _ _ _) (v := ?_) rfl (by kernel_rfl) (by kernel_rfl) (by kernel_rfl) (by kernel_rfl) (fun _ _ _ h => h) (Or.inl ⟨by rfl, ?_⟩) (by assumption) ?_
      rotate_left
      · (intro w' hSw; (try dsimp only at hSw); (obtain s1 := hSw); go_simp; try with_reducible rfl)
      try simp only [Act.put, List.setIfInBounds_toArray, List.set_cons_zero, List.set_cons_succ]
      refine wpHK_one (j := 2) (o := Oper.mk (some 12) _ _ _ _ _) rfl (by kernel_rfl) (fun K hK => ?_)
      go_simp
      refine hK.out _ _ (hcl2 (.cells (Array.replicate k (iv 0)) 3)) (fun _ => ?_)
      clear hK K hHeld
      have hHeld := (hcl2 (.cells (Array.replicate k (iv 0)) 3))
      try simp only [Act.put, List.setIfInBounds_toArray, List.set_cons_zero, List.set_cons_succ]
      refine wpHK_tail (j := 4) (o := Oper.mk (some 14) _ _ _ _ _) rfl (by kernel_rfl) (by decide) (fun K hK => ?_)
      go_simp
      refine (all_call hL1 hL2 hlt hM HJ.out.1 HJ.out.2 hR.out).mono ?_
      rintro e W3 ⟨b, rfl, hA⟩
      refine hK.out _ _ ?_
      clear hK K
      try simp only [Act.put, List.setIfInBounds_toArray, List.set_cons_zero, List.set_cons_succ]
      refine wpHK_pure (i := 5) (oi := Oper.mk (some 15) _ _ _ _ _) (v := ?_) rfl (by kernel_rfl) (by kernel_rfl) (by kernel_rfl) (fun _ _ _ h => h) (Or.inl ⟨by rfl, ?_⟩) ?_
      rotate_left
      · (intro w' _; go_simp; try with_reducible rfl)
      try simp only [Act.put, List.setIfInBounds_toArray, List.set_cons_zero, List.set_cons_succ]
      refine wpHK_done (by kernel_rfl) ?_ _
      refine NoPanic.normal ?_
      have HA := Lib.hid hA
      clear hA
      cases b
      · go_wp2_with fail
        refine bodyPost_ret (results_none rfl _ _ _) rfl ?_
        obtain ⟨h, _⟩ | ⟨_, r, hr, hx⟩ := HA.out
        · cases h
        · exact ⟨⟨_, rfl⟩, .inr ⟨r, hr, hx⟩⟩
      · go_wp2_with fail
        obtain ⟨_, M2, hR2⟩ | ⟨h, _⟩ := HA.out
        · go_roundg (M + 1 - (k + 1))
          case measure => have := Hr.out; omega
          case rel => exact ⟨k + 1, M2, rfl, rfl, by omega, Lib.hid hR2⟩
        · cases h
    · have hki : (M : Int) < (k : Int) := by omega
      go_wp2_with fail
      go_end0
      obtain rfl : k = M + 1 := by omega
      exact ⟨⟨_, rfl⟩, .inl ⟨M', hR.out.1⟩⟩
/-- what All hands back: its contract for whoever goes over it -/
theorem all_seq {w : World} {L M bm bl n : Nat} (hL1 : 1 ≤ L) (hL2 : L ≤ 64) (hM : M ≤ 4096) (hbm : Blk w bm 3 #[.int .i64 (M : Int)]) (hbl : Blk w bl 3 #[.int .i64 (L : Int)]) :
    SeqW Fence.wide n Tryd.prog 73 #[.pointer (some ⟨bm, 0, none⟩), .pointer (some ⟨bl, 0, none⟩)] (allW L M) (fun k => k = bm ∨ k = bl) (fun k => k = bm ∨ k = bl) w := by
  intro l J Jx W hW hJ hY h0
  have h := all1_any l L M bm bl hL1 hL2 hM J Jx hJ (fun m pre x g M' W1 h1 h2 h3 h4 h5 => yieldAt_any rfl m (hY pre x g M' W1 h1 h2 h3 h4 h5)) _ W h0 (hbm.below hW hbm.lt) (hbl.below hW hbl.lt) (.inl rfl) (.inr rfl) (fun i hi => by
    have := hW.size
    rcases hi with rfl | rfl
    · have := hbm.lt; omega
    · have := hbl.lt; omega)
  exact (callsIn_wide (n := n)).2 h
end Go.Proofs.YtmjnhpagoboejaaDoor

/- words.Count. -/
namespace Go.Proofs.YtmjnhpagoboejaaDoor
open Go.RowKit
open Wd
set_option linter.unusedSimpArgs false
set_option linter.unusedVariables false

/-- k times more by f, as far as 64 bits go -/
def countN (f : Nat) : Nat → Nat → Nat × Int
  | 0, c => (c, 0)
  | k + 1, c => if 18446744073709551615 / f < c then (0, 4) else countN f k (c * f)
def countI (n x : Int) : Nat × Int :=
  if n < 1 ∨ 64 < n ∨ x < 0 then (0, 2) else if x = 0 then (1, 0)
  else if n = 1 then (2, 0) else countN (2 * n.toNat - 1) (x.toNat - 1) (2 * n.toNat)
def CountOut (w : World) (R : Nat × Int) (e : Ending) (w' : World) : Prop := e = .returned (.tuple #[.int .u64 (R.1 : Int), .int .i64 R.2]) ∧ w = w'
set_option maxRecDepth 100000 in
set_option maxHeartbeats 4000000 in
theorem count_any {w : World} {n x : Int} (hn1 : -9223372036854775808 ≤ n) (hn2 : n ≤ 9223372036854775807) (hx1 : -9223372036854775808 ≤ x) (hx2 : x ≤ 9223372036854775807) :
    Calls Tryd.prog 38 #[.int .i64 n, .int .i64 x] w (CountOut w (countI n x)) := by
  by_cases hb : n < 1 ∨ 64 < n ∨ x < 0
  · have hR : countI n x = (0, 2) := by unfold countI; rw [if_pos hb]
    rw [hR]
    clear hR
    rcases Decidable.em (n < 1) with h1 | h1
    · go_enter Tryd.func38, Tryd.ntmps38
      go_wp2_with fail
      go_ret2
      exact ⟨rfl, rfl⟩
    · have h1' : 1 ≤ n := by omega
      rcases Decidable.em (64 < n) with h2 | h2
      · go_enter Tryd.func38, Tryd.ntmps38
        go_wp2_with fail
        go_ret2
        exact ⟨rfl, rfl⟩
      · have h3 : x < 0 := by omega
        have h2' : n ≤ 64 := by omega
        clear hb
        go_enter Tryd.func38, Tryd.ntmps38
        go_wp2_with fail
        go_ret2
        exact ⟨rfl, rfl⟩
  · have h1 : 1 ≤ n := by omega
    have h2 : n ≤ 64 := by omega
    have h3 : 0 ≤ x := by omega
    by_cases hx : x = 0
    · have hR : countI n x = (1, 0) := by unfold countI; rw [if_neg hb, if_pos hx]
      rw [hR]
      clear hR hb
      subst hx
      go_enter Tryd.func38, Tryd.ntmps38
      go_wp2_with fail
      go_ret2
      exact ⟨rfl, rfl⟩
    · obtain ⟨m, rfl⟩ : ∃ m : Nat, n = (m : Int) := ⟨n.toNat, by omega⟩
      obtain ⟨y, rfl⟩ : ∃ y : Nat, x = (y : Int) := ⟨x.toNat, by omega⟩
      have hy : 1 ≤ y := by omega
      have hm1 : 1 ≤ m := by omega
      have hm2 : m ≤ 64 := by omega
      obtain ⟨R, hR⟩ : ∃ R, R = countI m y := ⟨_, rfl⟩
      have HR := Lib.hid (show R = if m = 1 then (2, 0) else countN (2 * m - 1) (y - 1) (2 * m) by
        rw [hR]; unfold countI; rw [if_neg hb, if_neg hx]
        by_cases hm : m = 1
        · subst hm; rfl
        · rw [if_neg hm, if_neg (by omega)]; simp)
      rw [← hR]
      have hxe : ((y : Int) == 0) = false := by simp; omega
      clear hb hx hR h3 hn1 hn2 hx1
      obtain ⟨f, hf⟩ : ∃ f : Nat, f = 2 * m - 1 := ⟨_, rfl⟩
      have e1 : 2 * (m : Int) - 1 = (f : Int) := by omega
      have e0 : ((2 * m - 1 : Nat) : Int) = (f : Int) := by omega
      have e2 : IntKind.u64.wrap (2 * (m : Int)) = ((2 * m : Nat) : Int) := by rw [IntWalk.u64_in _ (by omega)]; omega
      have e3 : IntKind.u64.wrap (f : Int) = (f : Int) := IntWalk.u64_in _ (by omega)
      have hf1 : 1 ≤ f := by omega
      have hf2 : f ≤ 127 := by omega
      go_enter Tryd.func38, Tryd.ntmps38
      go_wp2_with fail
      obtain ⟨q, hq⟩ : ∃ q, q = 18446744073709551615 / f := ⟨_, rfl⟩
      have hqt : Int.tdiv 18446744073709551615 (f : Int) = (q : Int) := by rw [hq]; rfl
      have hqf : q * f ≤ 18446744073709551615 := by rw [hq]; exact Nat.div_mul_le_self _ _
      have hqle : q ≤ 18446744073709551615 := by rw [hq]; exact Nat.div_le_self _ _
      have Hq := Lib.hid (And.intro hq hf)
      clear hq hf
      go_loopg [6, 8] (y - 1) (fun k cv iv wr => ∃ c i : Nat, cv = .int .u64 (c : Int) ∧ iv = .int .i64 (i : Int) ∧ k = y - i ∧ 1 ≤ i ∧ i ≤ y ∧ c ≤ 18446744073709551615 ∧ Hid (R = if m = 1 then (c, 0) else countN f (y - i) c) ∧ Hid (w = wr))
      case atStart => exact ⟨2 * m, 1, rfl, rfl, by omega, by omega, by omega, by omega, Lib.hid (by
        rw [HR.out, Hq.out.2]
        by_cases hm : m = 1
        · subst hm; rfl
        · rw [if_neg hm, if_neg hm]), Lib.hid rfl⟩
      case round =>
        obtain ⟨c, i, rfl, rfl, hk, hi1, hi, hc, hrec, hw⟩ := hrel
        have Hk := Lib.hid hk
        clear hk
        have ew := hw.out
        subst ew
        have hfr : m = 1 → f = 1 := fun h => by have := Hq.out.2; omega
        have hfr2 : m ≠ 1 → 1 < f := fun h => by have := Hq.out.2; omega
        by_cases hiy : i < y
        · have hii : (i : Int) < (y : Int) := by omega
          by_cases hm : m = 1
          · have hf1' : ¬ (1 : Int) < (f : Int) := by have := hfr hm; omega
            have hf1'' : (f : Int) ≤ 1 := by omega
            have Hend := Lib.hid (show R = (c, 0) by rw [hrec.out, if_pos hm])
            clear hfr hfr2 hm
            go_wp2_with (go_quiet (fail))
            go_ret2
            exact ⟨by rw [Hend.out]; rfl, rfl⟩
          · have hf3 : (1 : Int) < (f : Int) := by have := hfr2 hm; omega
            have Hrec := Lib.hid (show R = countN f (y - i) c by rw [hrec.out, if_neg hm])
            clear hfr hfr2
            by_cases hqc : q < c
            · have hqi : (q : Int) < (c : Int) := by omega
              have Hend := Lib.hid (show R = (0, 4) by
                rw [Hrec.out, show y - i = (y - (i + 1)) + 1 by omega, countN, if_pos (by rw [← Hq.out.1]; exact hqc)])
              clear hm
              go_wp2_with (go_quiet (fail))
              go_ret2
              exact ⟨by rw [Hend.out]; rfl, rfl⟩
            · have hqi : (c : Int) ≤ (q : Int) := by omega
              have hcf : c * f ≤ 18446744073709551615 := Nat.le_trans (Nat.mul_le_mul_right f (by omega)) hqf
              have hcw : IntKind.u64.wrap ((c : Int) * (f : Int)) = ((c * f : Nat) : Int) := by
                rw [show (c : Int) * (f : Int) = ((c * f : Nat) : Int) by simp]
                exact IntWalk.u64_in _ (by omega)
              have Hnext := Lib.hid (show R = if m = 1 then (c * f, 0) else countN f (y - (i + 1)) (c * f) by
                rw [if_neg hm, Hrec.out, show y - i = (y - (i + 1)) + 1 by omega, countN, if_neg (by rw [← Hq.out.1]; exact hqc)])
              clear hm
              go_wp2_with (go_quiet (fail))
              go_roundg (y - (i + 1))
              case measure => have := Hk.out; omega
              case rel => exact ⟨c * f, i + 1, by rw [show (c : Int) * (f : Int) = ((c * f : Nat) : Int) by simp], by go_num, rfl, by omega, by omega, hcf, Hnext, Lib.hid rfl⟩
        · have hii : (y : Int) ≤ (i : Int) := by omega
          have Hend := Lib.hid (show R = (c, 0) by
            rw [hrec.out]
            by_cases hm : m = 1
            · rw [if_pos hm]
            · rw [if_neg hm, show y - i = 0 by omega, countN])
          clear hfr hfr2
          go_wp2_with (go_quiet (fail))
          go_ret2
          exact ⟨by rw [Hend.out]; rfl, rfl⟩
end Go.Proofs.YtmjnhpagoboejaaDoor

/- ref.Count. -/
namespace Go.Proofs.YtmjnhpagoboejaaDoor
open Go.RowKit
open Wd
set_option linter.unusedSimpArgs false
set_option linter.unusedVariables false

theorem over_iff {c f : Nat} (hf : 1 ≤ f) : 18446744073709551615 / f < c ↔ 18446744073709551615 < c * f := Nat.div_lt_iff_lt_mul hf
set_option maxRecDepth 100000 in
set_option maxHeartbeats 4000000 in
theorem rcount_any {w : World} {n x : Int} (hn1 : -9223372036854775808 ≤ n) (hn2 : n ≤ 9223372036854775807) (hx1 : -9223372036854775808 ≤ x) (hx2 : x ≤ 9223372036854775807) :
    Calls Tryd.prog 39 #[.int .i64 n, .int .i64 x] w (CountOut w (countI n x)) := by
  by_cases hb : n < 1 ∨ 64 < n ∨ x < 0
  · have hR : countI n x = (0, 2) := by unfold countI; rw [if_pos hb]
    rw [hR]
    clear hR
    rcases Decidable.em (n < 1) with h1 | h1
    · go_enter Tryd.func39, Tryd.ntmps39
      go_wp2_with fail
      go_ret2
      exact ⟨rfl, rfl⟩
    · have h1' : 1 ≤ n := by omega
      rcases Decidable.em (64 < n) with h2 | h2
      · go_enter Tryd.func39, Tryd.ntmps39
        go_wp2_with fail
        go_ret2
        exact ⟨rfl, rfl⟩
      · have h3 : x < 0 := by omega
        have h2' : n ≤ 64 := by omega
        clear hb
        go_enter Tryd.func39, Tryd.ntmps39
        go_wp2_with fail
        go_ret2
        exact ⟨rfl, rfl⟩
  · have h1 : 1 ≤ n := by omega
    have h2 : n ≤ 64 := by omega
    have h3 : 0 ≤ x := by omega
    by_cases hx : x = 0
    · have hR : countI n x = (1, 0) := by unfold countI; rw [if_neg hb, if_pos hx]
      rw [hR]
      clear hR hb
      subst hx
      go_enter Tryd.func39, Tryd.ntmps39
      go_wp2_with fail
      go_ret2
      exact ⟨rfl, rfl⟩
    · have hxe : (x == 0) = false := by simp; omega
      by_cases hm1 : n = 1
      · have hR : countI n x = (2, 0) := by unfold countI; rw [if_neg hb, if_neg hx, if_pos hm1]
        rw [hR]
        clear hR hb hx
        subst hm1
        go_enter Tryd.func39, Tryd.ntmps39
        go_wp2_with fail
        go_ret2
        exact ⟨rfl, rfl⟩
      · obtain ⟨m, rfl⟩ : ∃ m : Nat, n = (m : Int) := ⟨n.toNat, by omega⟩
        obtain ⟨y, rfl⟩ : ∃ y : Nat, x = (y : Int) := ⟨x.toNat, by omega⟩
        have hy : 1 ≤ y := by omega
        have hmn : 2 ≤ m := by omega
        have hm2 : m ≤ 64 := by omega
        have hme : ((m : Int) == 1) = false := by simp; omega
        obtain ⟨R, hR⟩ : ∃ R, R = countI m y := ⟨_, rfl⟩
        have HR := Lib.hid (show R = countN (2 * m - 1) (y - 1) (2 * m) by
          rw [hR]; unfold countI; rw [if_neg hb, if_neg hx, if_neg hm1]; simp)
        rw [← hR]
        clear hb hx hR h3 hn1 hn2 hx1 hm1
        obtain ⟨f, hf⟩ : ∃ f : Nat, f = 2 * m - 1 := ⟨_, rfl⟩
        have e1 : 2 * (m : Int) - 1 = (f : Int) := by omega
        have e2 : IntKind.u64.wrap (2 * (m : Int)) = ((2 * m : Nat) : Int) := by rw [IntWalk.u64_in _ (by omega)]; omega
        have e3 : IntKind.u64.wrap (f : Int) = (f : Int) := IntWalk.u64_in _ (by omega)
        have hf1 : 1 ≤ f := by omega
        have hf2 : f ≤ 127 := by omega
        have Hf := Lib.hid hf
        clear hf
        go_enter Tryd.func39, Tryd.ntmps39
        go_wp2_with fail
        go_loopg [6, 7] (y - 1) (fun k cv iv wr => ∃ c i : Nat, cv = .int .u64 (c : Int) ∧ iv = .int .i64 (i : Int) ∧ k = y - i ∧ 1 ≤ i ∧ i ≤ y ∧ c ≤ 18446744073709551615 ∧ Hid (R = countN f (y - i) c) ∧ Hid (w = wr))
        case atStart => exact ⟨2 * m, 1, rfl, rfl, by omega, by omega, by omega, by omega, Lib.hid (by rw [HR.out, Hf.out]), Lib.hid rfl⟩
        case round =>
          obtain ⟨c, i, rfl, rfl, hk, hi1, hi, hc, hrec, hw⟩ := hrel
          have Hk := Lib.hid hk
          clear hk
          have ew := hw.out
          subst ew
          by_cases hiy : i < y
          · have hii : (i : Int) < (y : Int) := by omega
            have HM := Lib.hid (Tryd.bits_Mul64 c f (by omega) (by omega) w)
            obtain ⟨ov, hov⟩ : ∃ ov, ov = c * f / 18446744073709551616 := ⟨_, rfl⟩
            obtain ⟨lo, hlo⟩ : ∃ lo, lo = c * f % 18446744073709551616 := ⟨_, rfl⟩
            rw [← hov, ← hlo] at HM
            have Hq := Lib.hid (And.intro hov hlo)
            have hrec2 := Lib.hid (show R = if 18446744073709551615 / f < c then (0, 4) else countN f (y - (i + 1)) (c * f) by
              rw [hrec.out, show y - i = (y - (i + 1)) + 1 by omega, countN])
            have hovi := over_iff (c := c) hf1
            clear hov hlo
            by_cases hbig : 18446744073709551615 < c * f
            · have h0v : (0 : Int) < (ov : Int) := by have := Hq.out.1; omega
              have Hend := Lib.hid (show R = (0, 4) by rw [hrec2.out, if_pos (hovi.2 hbig)])
              clear hbig hovi
              go_wp2_with fail
              refine HM.out.mono ?_
              rintro e w' ⟨rfl, rfl⟩
              go_wp2_with fail
              go_ret2
              exact ⟨by rw [Hend.out]; rfl, rfl⟩
            · have h0v : (ov : Int) ≤ 0 := by have := Hq.out.1; omega
              have hlo2 : lo ≤ 18446744073709551615 := by have := Hq.out.2; omega
              have Hnext := Lib.hid (show R = countN f (y - (i + 1)) lo by rw [hrec2.out, if_neg (fun h => hbig (hovi.1 h))]; congr 1; have := Hq.out.2; omega)
              clear hbig hovi
              go_wp2_with fail
              refine HM.out.mono ?_
              rintro e w' ⟨rfl, rfl⟩
              go_wp2_with fail
              go_roundg (y - (i + 1))
              case measure => have := Hk.out; omega
              case rel => exact ⟨lo, i + 1, rfl, by go_num, rfl, by omega, by omega, hlo2, Hnext, Lib.hid rfl⟩
          · have hii : (y : Int) ≤ (i : Int) := by omega
            have Hend := Lib.hid (show R = (c, 0) by
              rw [hrec.out, show y - i = 0 by omega, countN])
            go_wp2_with fail
            go_ret2
            exact ⟨by rw [Hend.out]; rfl, rfl⟩
end Go.Proofs.YtmjnhpagoboejaaDoor

/- words.All, in plain lists: what the reference's Next looks for; letters stay in their bounds. -/
namespace Go.Proofs.YtmjnhpagoboejaaDoor
open Wd
set_option linter.unusedSimpArgs false
set_option linter.unusedVariables false

def lastJ (p : List Int) : Int := p.getLast?.getD 0
theorem lastJ_snoc (p : List Int) (k : Int) : lastJ (p ++ [k]) = k := by simp [lastJ]
theorem lastJ_take {l : List Int} {j : Nat} (hj : j < l.length) : lastJ (l.take (j + 1)) = l[j] := by
  rw [List.take_succ_eq_append_getElem hj, lastJ_snoc]
theorem nx_step {L : Nat} {l : List Int} {j : Nat} (hj : j < l.length) (h : nx L (lastJ (l.take (j + 1))) (l.drop (j + 1)) = none) :
    nx L (lastJ (l.take j)) (l.drop j) = (upL L (lastJ (l.take j)) (plac l[j] + 1)).map (fun k' => k' :: fillT (l.length - (j + 1)) k') := by
  rw [List.drop_eq_getElem_cons hj, nx]
  rw [lastJ_take hj] at h
  rw [h, List.length_drop]
theorem nx_lift {L : Nat} {l : List Int} : ∀ (j : Nat) (u : List Int), j ≤ l.length → nx L (lastJ (l.take j)) (l.drop j) = some u → nx L 0 l = some (l.take j ++ u)
  | 0, u, _, h => by simpa [lastJ] using h
  | j + 1, u, hj, h => by
    have hjl : j < l.length := by omega
    have h2 : nx L (lastJ (l.take j)) (l.drop j) = some (l[j] :: u) := by
      rw [List.drop_eq_getElem_cons hjl, nx]
      rw [lastJ_take hjl] at h
      rw [h]
    rw [nx_lift j _ (by omega) h2, List.take_succ_eq_append_getElem hjl, List.append_assoc]
    rfl
theorem fillT_snoc : ∀ (m : Nat) (a : Int), fillT (m + 1) a = fillT m a ++ [if (fillT m a).getLast?.getD a = -1 then -1 else 1]
  | 0, a => rfl
  | m + 1, a => by
    rw [fillT, fillT_snoc m, fillT, List.cons_append]
    congr 3
    rw [List.getLast?_cons]
    simp
def GoodL (L : Nat) (l : List Int) : Prop := ∀ k ∈ l, k ≠ 0 ∧ -(L : Int) ≤ k ∧ k ≤ L
theorem up_good {L : Nat} {a : Int} : ∀ (f p : Nat) {k : Int}, p + f ≤ 2 * L → up L a f p = some k → k ≠ 0 ∧ -(L : Int) ≤ k ∧ k ≤ L
  | 0, _, _, _, h => by cases h
  | f + 1, p, k, hp, h => by
    rw [up] at h
    split at h
    · exact up_good f (p + 1) (by omega) h
    · injection h with h
      rw [← h]
      exact letr_le (by omega)
theorem upL_good {L p : Nat} {a k : Int} (h : upL L a p = some k) : k ≠ 0 ∧ -(L : Int) ≤ k ∧ k ≤ L := by
  unfold upL at h
  rcases Nat.lt_or_ge (2 * L) p with hp | hp
  · rw [show 2 * L - p = 0 by omega] at h
    cases h
  · exact up_good _ _ (by omega) h
theorem fillT_good {L : Nat} (hL : 1 ≤ L) : ∀ m a, GoodL L (fillT m a)
  | 0, a => fun k hk => by simp [fillT] at hk
  | m + 1, a => fun k hk => by
    rw [fillT] at hk
    rcases List.mem_cons.1 hk with hk | hk
    · rw [hk]; split <;> omega
    · exact fillT_good hL m _ k hk
theorem nx_good {L : Nat} (hL : 1 ≤ L) : ∀ {t : List Int} {a : Int} {u : List Int}, GoodL L t → nx L a t = some u → GoodL L u ∧ u.length = t.length
  | [], _, _, _, h => by cases h
  | k :: t, a, u, hg, h => by
    rw [nx] at h
    split at h
    · rename_i t' ht
      injection h with h
      obtain ⟨h1, h2⟩ := nx_good hL (fun x hx => hg x (List.mem_cons_of_mem _ hx)) ht
      rw [← h]
      refine ⟨fun x hx => ?_, by rw [List.length_cons, List.length_cons, h2]⟩
      rcases List.mem_cons.1 hx with hx | hx
      · rw [hx]; exact hg k List.mem_cons_self
      · exact h1 x hx
    · obtain ⟨k', hk, hu⟩ := Option.map_eq_some_iff.1 h
      rw [← hu]
      refine ⟨fun x hx => ?_, by rw [List.length_cons, List.length_cons, fillT_len]⟩
      rcases List.mem_cons.1 hx with hx | hx
      · rw [hx]; exact upL_good hk
      · exact fillT_good hL _ _ x hx
theorem nextW_good {L M : Nat} (hL : 1 ≤ L) {l u : List Int} (hg : GoodL L l) (hl : l.length ≤ M) (h : nextW L M l = some u) : GoodL L u ∧ u.length ≤ M := by
  unfold nextW at h
  split at h
  · rename_i w' hw
    injection h with h
    obtain ⟨h1, h2⟩ := nx_good hL hg hw
    rw [← h]
    exact ⟨h1, by omega⟩
  · split at h
    · cases h
    · injection h with h
      rw [← h]
      exact ⟨fillT_good hL _ _, by rw [fillT_len]; omega⟩
theorem run_good {L M : Nat} (hL : 1 ≤ L) : ∀ {xs : List (List Int)} {a b : Option (List Int)}, Run (nextW L M) a xs b → (∀ y, a = some y → GoodL L y ∧ y.length ≤ M) → ∀ y, b = some y → GoodL L y ∧ y.length ≤ M
  | [], _, _, h, hg => by cases h; exact hg
  | x :: r, _, _, h, hg => by
    obtain ⟨ha, h2⟩ := h
    obtain ⟨g1, g2⟩ := hg x ha
    exact run_good hL h2 (fun y hy => nextW_good hL g1 g2 hy)
theorem chain_good {L M : Nat} (hL : 1 ≤ L) {pre : List (List Int)} (h : ChainW L M pre) {y : List Int} (hy : stW L M pre = some y) : GoodL L y ∧ y.length ≤ M :=
  run_good hL h (fun y hy => by injection hy with hy; rw [← hy]; exact ⟨(fun k hk => by cases hk), by simp⟩) y hy
end Go.Proofs.YtmjnhpagoboejaaDoor

/- ref.Core (printed by gen_rcore.py). -/
namespace Go.Proofs.YtmjnhpagoboejaaDoor
open Go.RowKit
open Wd
set_option linter.unusedSimpArgs false
set_option linter.unusedVariables false

/-- what the reference's Core leaves: a part of the word, and new ints -/
def RCoreOut (w : World) (B : Nat) (l : List Int) (e : Ending) (w' : World) : Prop := ∃ A1 c1 A2 n2 c2, e = .returned (.tuple #[.slice A1 (core l).length c1, .slice A2 n2 c2]) ∧ ReadsI w' B A1 (core l) ∧ (core l).length ≤ c1 ∧ OwnI w' w.heap.size (.slice A2 n2 c2) (conj l) ∧ Below w.heap.size w w'
/-- the same, and where the part lies -/
def RCoreMore (w : World) (B : Nat) (A : Option Addr) (l : List Int) (e : Ending) (w' : World) : Prop := ∃ A1 c1 A2 n2 c2, e = .returned (.tuple #[.slice A1 (core l).length c1, .slice A2 n2 c2]) ∧ ReadsI w' B A1 (core l) ∧ (core l).length ≤ c1 ∧ OwnI w' w.heap.size (.slice A2 n2 c2) (conj l) ∧ Below w.heap.size w w' ∧ (∀ a1, A1 = some a1 → ∃ a, A = some a ∧ a1.block = a.block)
theorem rcore_fin {w w5 : World} {B n c i a1 c1 n5 c5 : Nat} {A A1 A5 : Option Addr} {l : List Int} (hn : n = l.length) (hi : 2 * i ≤ n) (hP : parts l = i) (hr : ReadsI w B A l) (hB : B ≤ w.heap.size) (hnc : n ≤ c) (hb : Below w.heap.size w w5) (ho : OwnI w5 w.heap.size (.slice A5 n5 c5) (inv (l.take i)))
    (h1 : a1 = n - 2 * i) (h2 : a1 ≤ c1) (h3 : (∃ ad, A = some ad ∧ A1 = some (ad.add i)) ∨ n = 0) (h4 : ∀ a1, A1 = some a1 → ∃ a, A = some a ∧ a1.block = a.block) : RCoreMore w B A l (.returned (.tuple #[.slice A1 a1 c1, .slice A5 n5 c5])) w5 := by
  have hcl : (core l).length = a1 := by rw [core_len, hP, h1, hn]
  refine ⟨A1, c1, A5, n5, c5, by rw [hcl], ?_, by omega, ?_, hb, h4⟩
  · rcases h3 with ⟨ad, rfl, rfl⟩ | h
    · unfold core
      rw [hP]
      exact (reads_part (hr.below (hb.mono hB)) i (l.length - 2 * i) (by omega))
    · exact reads_none (by rw [hcl]; omega)
  · rw [← inv_first, hP]; exact ho
set_option maxRecDepth 100000 in
set_option maxHeartbeats 4000000 in
theorem rcore_more {w : World} {B n c : Nat} {A : Option Addr} {l : List Int} (hr : ReadsI w B A l) (hB : B ≤ w.heap.size) (hn : n = l.length) (hnc : n ≤ c) (hl : LetL l) (hb : n ≤ 100000000) (hc : c ≤ 9223372036854775807) :
    Calls Tryd.prog 25 #[.slice A n c] w (RCoreMore w B A l) := by
  have Hn := Lib.hid hn
  have Hl := Lib.hid hl
  have Hr := Lib.hid (hr.more hB)
  have Hr0 := Lib.hid (And.intro hr hB)
  obtain ⟨P, hP⟩ : ∃ P, P = parts l := ⟨_, rfl⟩
  have HP := Lib.hid hP
  clear hn hl hr hP hB
  go_enter Tryd.func25, Tryd.ntmps25
  go_wp2_with fail
  go_loopg [4] n (fun k iv wr => ∃ (i d : Nat), iv = .int .i64 (i : Int) ∧ k = n - i ∧ 2 * i ≤ n ∧ Hid (cutN l (n - i) i = P) ∧ Hid (wr = w.drewN d))
  case atStart => exact ⟨0, 0, rfl, by omega, by omega, Lib.hid (by rw [HP.out, Nat.sub_zero, Hn.out]; rfl), Lib.hid rfl⟩
  case round =>
    obtain ⟨i, d, rfl, hk, hi, hcut, hw⟩ := hrel
    have Hk := Lib.hid hk
    clear hk
    have ew := hw.out
    subst ew
    rcases Decidable.em (2 * i + 1 < n ∧ l.getD i 0 = - l.getD (n - 1 - i) 0) with hgo | hstop'
    · have hin := hgo.1
      have hil : i < l.length := by rw [← Hn.out]; omega
      have hjl : n - 1 - i < l.length := by rw [← Hn.out]; omega
      obtain ⟨ad, rfl, hb1, c0⟩ := Hr.out.at_ hil
      obtain ⟨ad2, e2, hb2, d0⟩ := Hr.out.at_ hjl
      injection e2 with e2
      subst e2
      have hnext := Lib.hid (show cutN l (n - (i + 1)) (i + 1) = P by rw [← hcut.out]; have h1 := Hn.out; rw [h1]; rw [h1] at hgo; exact (cutN_go (by omega) hgo.1 hgo.2).symm)
      have hxy : l[i] = - l[n - 1 - i] := by have h := hgo.2; rw [List.getD_eq_getElem?_getD, List.getElem?_eq_getElem hil, List.getD_eq_getElem?_getD, List.getElem?_eq_getElem hjl] at h; exact h
      have hly := Hl.out l[n - 1 - i] (List.getElem_mem hjl)
      rw [hxy] at c0
      have hii : 2 * (i : Int) + 1 < (n : Int) := by omega
      generalize l[n - 1 - i] = y at *
      obtain ⟨hy0, hy1, hy2⟩ := hly
      have s1 : ((n : Int) - 1 - (i : Int)).toNat = n - 1 - i := by omega
      clear hb1 hb2 hil hjl hgo hxy
      go_wp2_with (go_quiet (fail))
      go_roundg (n - (i + 1))
      case measure => have := Hk.out; omega
      case rel => exact ⟨i + 1, _, rfl, rfl, by omega, hnext, Lib.hid rfl⟩
    · have hstop := Lib.hid (show P = i by rw [← hcut.out]; have h1 := Hn.out; rw [h1] at hstop' ⊢; exact cutN_stop hstop')
      rcases Nat.lt_or_ge (2 * i + 1) n with hin | hin
      · have hil : i < l.length := by rw [← Hn.out]; omega
        have hjl : n - 1 - i < l.length := by rw [← Hn.out]; omega
        obtain ⟨ad, rfl, hb1, c0⟩ := Hr.out.at_ hil
        obtain ⟨ad2, e2, hb2, d0⟩ := Hr.out.at_ hjl
        injection e2 with e2
        subst e2
        have hxy : ¬ l[i] = - l[n - 1 - i] := by intro h; apply hstop'; refine ⟨hin, ?_⟩; rw [List.getD_eq_getElem?_getD, List.getElem?_eq_getElem hil, List.getD_eq_getElem?_getD, List.getElem?_eq_getElem hjl]; exact h
        have hly := Hl.out l[n - 1 - i] (List.getElem_mem hjl)
        have hii : 2 * (i : Int) + 1 < (n : Int) := by omega
        generalize l[n - 1 - i] = y at *
        generalize l[i] = x at *
        obtain ⟨hy0, hy1, hy2⟩ := hly
        have s1 : ((n : Int) - 1 - (i : Int)).toNat = n - 1 - i := by omega
        have hci : ¬ c = i := by omega
        have hbeq : (x == -y) = false := by simp; exact hxy
        have hi4 : (i : Int) ≤ 1000000000 := by omega
        clear hb1 hb2 hil hjl hstop' hxy
        go_wp2_with (go_quiet (fail))
        generalize d + nq = q
        have Hsub := Lib.hid (show ReadsI (w.drewN q).drew w.heap.size (some ad) (l.take i) from (ReadsI.take (m := l.drop i) (by rw [List.take_append_drop]; exact Hr.out)))
        have Hlen := Lib.hid (show i = (l.take i).length by rw [List.length_take]; have := Hn.out; omega)
        have HL := Lib.hid (show ∀ k ∈ l.take i, -100 ≤ k ∧ k ≤ 100 from fun k hk => by have := Hl.out k (List.mem_of_mem_take hk); omega)
        have Hlen2 := Lib.hid (show i ≤ 100000000 by omega)
        have hii2 : (i : Int) ≤ (n : Int) - (i : Int) := by omega
        have s4 : ((n : Int) - (i : Int)).toNat = n - i := by omega
        have t1 : n - i ≤ c := by omega
        have t2 : i ≤ n - i := by omega
        have t3 : i ≤ c := by omega
        have t4 : (0 : Int) ≤ (n : Int) - (i : Int) := by omega
        have t5 : (n : Int) - (i : Int) ≤ (c : Int) := by omega
        have s5 : IntKind.i64.wrap ((n : Int) - (i : Int)) = (n : Int) - (i : Int) := by rw [IntKind.wrap_i64]; omega
        refine wp_region_noPanic ?_
        refine wp_region_held_drew (S := fun w' => Below w.heap.size w w') (by kernel_rfl) (bdrew (Below.refl _ _) q).drew (fun hHeld => ?_)
        have b0 : Below w.heap.size w (w.drewN q).drew := hHeld
        refine wpAnyH_take (i := 0) (oi := Oper.mk (some 29) _ _ _ _ _) (v := ?_) rfl (by kernel_rfl) (by kernel_rfl) (by kernel_rfl) (fun _ _ _ h => h) (Or.inl ⟨by rfl, ?_⟩) (by assumption) ?_
        rotate_left
        · (intro w' hSw; (try dsimp only at hSw); go_simp; try with_reducible rfl)
        try simp only [Act.put, List.setIfInBounds_toArray, List.set_cons_zero, List.set_cons_succ]
        refine wpAnyH_take (i := 1) (oi := Oper.mk (some 30) _ _ _ _ _) (v := ?_) rfl (by kernel_rfl) (by kernel_rfl) (by kernel_rfl) (fun _ _ _ h => h) (Or.inl ⟨by rfl, ?_⟩) (by assumption) ?_
        rotate_left
        · (intro w' hSw; (try dsimp only at hSw); go_simp; try with_reducible rfl)
        try simp only [Act.put, List.setIfInBounds_toArray, List.set_cons_zero, List.set_cons_succ]
        refine wpAnyH_take (i := 2) (oi := Oper.mk (some 31) _ _ _ _ _) (v := ?_) rfl (by kernel_rfl) (by kernel_rfl) (by kernel_rfl) (fun _ _ _ h => h) (Or.inl ⟨by rfl, ?_⟩) (by assumption) ?_
        rotate_left
        · (intro w' hSw; (try dsimp only at hSw); go_simp; try with_reducible rfl)
        try simp only [Act.put, List.setIfInBounds_toArray, List.set_cons_zero, List.set_cons_succ]
        refine wpAnyH_take (i := 3) (oi := Oper.mk (some 32) _ _ _ _ _) (v := ?_) rfl (by kernel_rfl) (by kernel_rfl) (by kernel_rfl) (fun _ _ _ h => h) (Or.inl ⟨by rfl, ?_⟩) (by assumption) ?_
        rotate_left
        · (intro w' hSw; (try dsimp only at hSw); go_simp; try with_reducible rfl)
        try simp only [Act.put, List.setIfInBounds_toArray, List.set_cons_zero, List.set_cons_succ]
        refine wpAnyH_take (i := 4) (oi := Oper.mk (some 33) _ _ _ _ _) (v := ?_) rfl (by kernel_rfl) (by kernel_rfl) (by kernel_rfl) (fun _ _ _ h => h) (Or.inl ⟨by rfl, ?_⟩) (by assumption) ?_
        rotate_left
        · (intro w' hSw; (try dsimp only at hSw); go_simp; try with_reducible rfl)
        try simp only [Act.put, List.setIfInBounds_toArray, List.set_cons_zero, List.set_cons_succ]
        refine wpAnyH_take (i := 5) (oi := Oper.mk (some 34) _ _ _ _ _) (v := ?_) rfl (by kernel_rfl) (by kernel_rfl) (by kernel_rfl) (fun _ _ _ h => h) (Or.inl ⟨by rfl, ?_⟩) (by assumption) ?_
        rotate_left
        · (intro w' hSw; (try dsimp only at hSw); go_simp; try with_reducible rfl)
        try simp only [Act.put, List.setIfInBounds_toArray, List.set_cons_zero, List.set_cons_succ]
        refine wpAnyH_take (i := 6) (oi := Oper.mk (some 35) _ _ _ _ _) (v := ?_) rfl (by kernel_rfl) (by kernel_rfl) (by kernel_rfl) (fun _ _ _ h => h) (Or.inl ⟨by rfl, ?_⟩) (by assumption) ?_
        rotate_left
        · (intro w' hSw; (try dsimp only at hSw); go_simp; try with_reducible rfl)
        try simp only [Act.put, List.setIfInBounds_toArray, List.set_cons_zero, List.set_cons_succ]
        refine wpAnyH_take (i := 7) (oi := Oper.mk (some 36) _ _ _ _ _) (v := ?_) rfl (by kernel_rfl) (by kernel_rfl) (by kernel_rfl) (fun _ _ _ h => h) (Or.inl ⟨by rfl, ?_⟩) (by assumption) ?_
        rotate_left
        · (intro w' hSw; (try dsimp only at hSw); go_simp; try with_reducible rfl)
        try simp only [Act.put, List.setIfInBounds_toArray, List.set_cons_zero, List.set_cons_succ]
        refine wpAnyH_take (i := 8) (oi := Oper.mk (some 37) _ _ _ _ _) (v := ?_) rfl (by kernel_rfl) (by kernel_rfl) (by kernel_rfl) (fun _ _ _ h => h) (Or.inl ⟨by rfl, ?_⟩) (by assumption) ?_
        rotate_left
        · (intro w' hSw; (try dsimp only at hSw); go_simp; try with_reducible rfl)
        try simp only [Act.put, List.setIfInBounds_toArray, List.set_cons_zero, List.set_cons_succ]
        refine wpAnyH_take (i := 9) (oi := Oper.mk (some 38) _ _ _ _ _) (v := ?_) rfl (by kernel_rfl) (by kernel_rfl) (by kernel_rfl) (fun _ _ _ h => h) (Or.inl ⟨by rfl, ?_⟩) (by assumption) ?_
        rotate_left
        · (intro w' hSw; (try dsimp only at hSw); go_simp; try with_reducible rfl)
        try simp only [Act.put, List.setIfInBounds_toArray, List.set_cons_zero, List.set_cons_succ]
        refine wpAnyH_ready (rs := [10]) (by kernel_rfl) (by simp) ?_
        refine AllReadyH.cons (o := Oper.mk (some 39) _ _ _ _ _) rfl (fun K hK => ?_) AllReadyH.nil
        go_simp
        refine (rinv_any (c := c) Hsub.out b0.size Hlen.out HL.out Hlen2.out).mono ?_
        rintro e w5 ⟨A5, n5, c5, rfl, ho5', hb5⟩
        try simp only []
        have b5 : Below w.heap.size w w5 := Below.trans b0 (hb5.mono b0.size)
        have ho5 : OwnI w5 w.heap.size (.slice A5 n5 c5) (inv (l.take i)) := ho5'.lower b0.size
        clear hb5 ho5'
        refine hK.out _ _ b5 (fun _ => ?_)
        clear hK K hHeld
        have hHeld := b5
        try simp only [Act.put, List.setIfInBounds_toArray, List.set_cons_zero, List.set_cons_succ]
        refine wpAnyH_take (i := 11) (oi := Oper.mk (some 2) _ _ _ _ _) (v := ?_) rfl (by kernel_rfl) (by kernel_rfl) (by kernel_rfl) (fun _ _ _ h => h) (Or.inl ⟨by rfl, ?_⟩) (by assumption) ?_
        rotate_left
        · (intro w' hSw; (try dsimp only at hSw); go_simp; try with_reducible rfl)
        try simp only [Act.put, List.setIfInBounds_toArray, List.set_cons_zero, List.set_cons_succ]
        refine wpAnyH_take (i := 12) (oi := Oper.mk (some 3) _ _ _ _ _) (v := ?_) rfl (by kernel_rfl) (by kernel_rfl) (by kernel_rfl) (fun _ _ _ h => h) (Or.inl ⟨by rfl, ?_⟩) (by assumption) ?_
        rotate_left
        · (intro w' hSw; (try dsimp only at hSw); go_simp; try with_reducible rfl)
        try simp only [Act.put, List.setIfInBounds_toArray, List.set_cons_zero, List.set_cons_succ]
        refine wpAnyH_done (by kernel_rfl) ?_ _
        refine NoPanic.normal ?_
        go_wp2_with fail
        go_ret2
        exact rcore_fin Hn.out hi (by rw [← HP.out]; exact hstop.out) Hr0.out.1 Hr0.out.2 hnc b5 ho5 (by omega) (by omega) (by first | exact .inl ⟨_, rfl, rfl⟩ | exact .inr Hn0.out) (by intro a1 h; first | (injection h with h; subst h; exact ⟨_, rfl, block_of_add _ _⟩) | (injection h with h; subst h; exact ⟨_, rfl, rfl⟩) | cases h)
      · have hni : ¬ (2 * (i : Int) + 1 < (n : Int)) := by omega
        have s1 : IntKind.i64.wrap (2 * (i : Int)) = 2 * (i : Int) := by rw [IntKind.wrap_i64]; omega
        have s2 : IntKind.i64.wrap (2 * (i : Int) + 1) = 2 * (i : Int) + 1 := by rw [IntKind.wrap_i64]; omega
        have hi4 : (i : Int) ≤ 1000000000 := by omega
        clear hstop'
        rcases A with _ | ad
        · have hn0 : n = 0 := by
            rcases Nat.eq_zero_or_pos n with h | h
            · exact h
            · obtain ⟨ad, e, _⟩ := Hr.out.2 (by have := Hn.out; omega)
              cases e
          have Hn0 := Lib.hid hn0
          clear hn0
          go_wp2_with (go_quiet (fail))
          generalize d + nq = q
          have Hsub := Lib.hid (show ReadsI (w.drewN q).drew w.heap.size none (l.take i) from (ReadsI.take (m := l.drop i) (by rw [List.take_append_drop]; exact Hr.out)))
          have Hlen := Lib.hid (show i = (l.take i).length by rw [List.length_take]; have := Hn.out; omega)
          have HL := Lib.hid (show ∀ k ∈ l.take i, -100 ≤ k ∧ k ≤ 100 from fun k hk => by have := Hl.out k (List.mem_of_mem_take hk); omega)
          have Hlen2 := Lib.hid (show i ≤ 100000000 by omega)
          have hii2 : (i : Int) ≤ (n : Int) - (i : Int) := by omega
          have s4 : ((n : Int) - (i : Int)).toNat = n - i := by omega
          have t1 : n - i ≤ c := by omega
          have t2 : i ≤ n - i := by omega
          have t3 : i ≤ c := by omega
          have t4 : (0 : Int) ≤ (n : Int) - (i : Int) := by omega
          have t5 : (n : Int) - (i : Int) ≤ (c : Int) := by omega
          have s5 : IntKind.i64.wrap ((n : Int) - (i : Int)) = (n : Int) - (i : Int) := by rw [IntKind.wrap_i64]; omega
          refine wp_region_noPanic ?_
          refine wp_region_held_drew (S := fun w' => Below w.heap.size w w') (by kernel_rfl) (bdrew (Below.refl _ _) q).drew (fun hHeld => ?_)
          have b0 : Below w.heap.size w (w.drewN q).drew := hHeld
          refine wpAnyH_take (i := 0) (oi := Oper.mk (some 29) _ _ _ _ _) (v := ?_) rfl (by kernel_rfl) (by kernel_rfl) (by kernel_rfl) (fun _ _ _ h => h) (Or.inl ⟨by rfl, ?_⟩) (by assumption) ?_
          rotate_left
          · (intro w' hSw; (try dsimp only at hSw); go_simp; try with_reducible rfl)
          try simp only [Act.put, List.setIfInBounds_toArray, List.set_cons_zero, List.set_cons_succ]
          refine wpAnyH_take (i := 1) (oi := Oper.mk (some 30) _ _ _ _ _) (v := ?_) rfl (by kernel_rfl) (by kernel_rfl) (by kernel_rfl) (fun _ _ _ h => h) (Or.inl ⟨by rfl, ?_⟩) (by assumption) ?_
          rotate_left
          · (intro w' hSw; (try dsimp only at hSw); go_simp; try with_reducible rfl)
          try simp only [Act.put, List.setIfInBounds_toArray, List.set_cons_zero, List.set_cons_succ]
          refine wpAnyH_take (i := 2) (oi := Oper.mk (some 31) _ _ _ _ _) (v := ?_) rfl (by kernel_rfl) (by kernel_rfl) (by kernel_rfl) (fun _ _ _ h => h) (Or.inl ⟨by rfl, ?_⟩) (by assumption) ?_
          rotate_left
          · (intro w' hSw; (try dsimp only at hSw); go_simp; try with_reducible rfl)
          try simp only [Act.put, List.setIfInBounds_toArray, List.set_cons_zero, List.set_cons_succ]
          refine wpAnyH_take (i := 3) (oi := Oper.mk (some 32) _ _ _ _ _) (v := ?_) rfl (by kernel_rfl) (by kernel_rfl) (by kernel_rfl) (fun _ _ _ h => h) (Or.inl ⟨by rfl, ?_⟩) (by assumption) ?_
          rotate_left
          · (intro w' hSw; (try dsimp only at hSw); go_simp; try with_reducible rfl)
          try simp only [Act.put, List.setIfInBounds_toArray, List.set_cons_zero, List.set_cons_succ]
          refine wpAnyH_take (i := 4) (oi := Oper.mk (some 33) _ _ _ _ _) (v := ?_) rfl (by kernel_rfl) (by kernel_rfl) (by kernel_rfl) (fun _ _ _ h => h) (Or.inl ⟨by rfl, ?_⟩) (by assumption) ?_
          rotate_left
          · (intro w' hSw; (try dsimp only at hSw); go_simp; try with_reducible rfl)
          try simp only [Act.put, List.setIfInBounds_toArray, List.set_cons_zero, List.set_cons_succ]
          refine wpAnyH_take (i := 5) (oi := Oper.mk (some 34) _ _ _ _ _) (v := ?_) rfl (by kernel_rfl) (by kernel_rfl) (by kernel_rfl) (fun _ _ _ h => h) (Or.inl ⟨by rfl, ?_⟩) (by assumption) ?_
          rotate_left
          · (intro w' hSw; (try dsimp only at hSw); go_simp; try with_reducible rfl)
          try simp only [Act.put, List.setIfInBounds_toArray, List.set_cons_zero, List.set_cons_succ]
          refine wpAnyH_take (i := 6) (oi := Oper.mk (some 35) _ _ _ _ _) (v := ?_) rfl (by kernel_rfl) (by kernel_rfl) (by kernel_rfl) (fun _ _ _ h => h) (Or.inl ⟨by rfl, ?_⟩) (by assumption) ?_
          rotate_left
          · (intro w' hSw; (try dsimp only at hSw); go_simp; try with_reducible rfl)
          try simp only [Act.put, List.setIfInBounds_toArray, List.set_cons_zero, List.set_cons_succ]
          refine wpAnyH_take (i := 7) (oi := Oper.mk (some 36) _ _ _ _ _) (v := ?_) rfl (by kernel_rfl) (by kernel_rfl) (by kernel_rfl) (fun _ _ _ h => h) (Or.inl ⟨by rfl, ?_⟩) (by assumption) ?_
          rotate_left
          · (intro w' hSw; (try dsimp only at hSw); go_simp; try with_reducible rfl)
          try simp only [Act.put, List.setIfInBounds_toArray, List.set_cons_zero, List.set_cons_succ]
          refine wpAnyH_take (i := 8) (oi := Oper.mk (some 37) _ _ _ _ _) (v := ?_) rfl (by kernel_rfl) (by kernel_rfl) (by kernel_rfl) (fun _ _ _ h => h) (Or.inl ⟨by rfl, ?_⟩) (by assumption) ?_
          rotate_left
          · (intro w' hSw; (try dsimp only at hSw); go_simp; try with_reducible rfl)
          try simp only [Act.put, List.setIfInBounds_toArray, List.set_cons_zero, List.set_cons_succ]
          refine wpAnyH_take (i := 9) (oi := Oper.mk (some 38) _ _ _ _ _) (v := ?_) rfl (by kernel_rfl) (by kernel_rfl) (by kernel_rfl) (fun _ _ _ h => h) (Or.inl ⟨by rfl, ?_⟩) (by assumption) ?_
          rotate_left
          · (intro w' hSw; (try dsimp only at hSw); go_simp; try with_reducible rfl)
          try simp only [Act.put, List.setIfInBounds_toArray, List.set_cons_zero, List.set_cons_succ]
          refine wpAnyH_ready (rs := [10]) (by kernel_rfl) (by simp) ?_
          refine AllReadyH.cons (o := Oper.mk (some 39) _ _ _ _ _) rfl (fun K hK => ?_) AllReadyH.nil
          go_simp
          refine (rinv_any (c := c) Hsub.out b0.size Hlen.out HL.out Hlen2.out).mono ?_
          rintro e w5 ⟨A5, n5, c5, rfl, ho5', hb5⟩
          try simp only []
          have b5 : Below w.heap.size w w5 := Below.trans b0 (hb5.mono b0.size)
          have ho5 : OwnI w5 w.heap.size (.slice A5 n5 c5) (inv (l.take i)) := ho5'.lower b0.size
          clear hb5 ho5'
          refine hK.out _ _ b5 (fun _ => ?_)
          clear hK K hHeld
          have hHeld := b5
          try simp only [Act.put, List.setIfInBounds_toArray, List.set_cons_zero, List.set_cons_succ]
          refine wpAnyH_take (i := 11) (oi := Oper.mk (some 2) _ _ _ _ _) (v := ?_) rfl (by kernel_rfl) (by kernel_rfl) (by kernel_rfl) (fun _ _ _ h => h) (Or.inl ⟨by rfl, ?_⟩) (by assumption) ?_
          rotate_left
          · (intro w' hSw; (try dsimp only at hSw); go_simp; try with_reducible rfl)
          try simp only [Act.put, List.setIfInBounds_toArray, List.set_cons_zero, List.set_cons_succ]
          refine wpAnyH_take (i := 12) (oi := Oper.mk (some 3) _ _ _ _ _) (v := ?_) rfl (by kernel_rfl) (by kernel_rfl) (by kernel_rfl) (fun _ _ _ h => h) (Or.inl ⟨by rfl, ?_⟩) (by assumption) ?_
          rotate_left
          · (intro w' hSw; (try dsimp only at hSw); go_simp; try with_reducible rfl)
          try simp only [Act.put, List.setIfInBounds_toArray, List.set_cons_zero, List.set_cons_succ]
          refine wpAnyH_done (by kernel_rfl) ?_ _
          refine NoPanic.normal ?_
          go_wp2_with fail
          go_ret2
          exact rcore_fin Hn.out hi (by rw [← HP.out]; exact hstop.out) Hr0.out.1 Hr0.out.2 hnc b5 ho5 (by omega) (by omega) (by first | exact .inl ⟨_, rfl, rfl⟩ | exact .inr Hn0.out) (by intro a1 h; first | (injection h with h; subst h; exact ⟨_, rfl, block_of_add _ _⟩) | (injection h with h; subst h; exact ⟨_, rfl, rfl⟩) | cases h)
        · by_cases hci : c = i
          · have hn0 : n = 0 := by omega
            have hci2 := hci.symm
            subst hci2
            have Hn0 := Lib.hid hn0
            clear hn0
            go_wp2_with (go_quiet (fail))
            generalize d + nq = q
            have Hsub := Lib.hid (show ReadsI (w.drewN q).drew w.heap.size (some ad) (l.take i) from (ReadsI.take (m := l.drop i) (by rw [List.take_append_drop]; exact Hr.out)))
            have Hlen := Lib.hid (show i = (l.take i).length by rw [List.length_take]; have := Hn.out; omega)
            have HL := Lib.hid (show ∀ k ∈ l.take i, -100 ≤ k ∧ k ≤ 100 from fun k hk => by have := Hl.out k (List.mem_of_mem_take hk); omega)
            have Hlen2 := Lib.hid (show i ≤ 100000000 by omega)
            have hii2 : (i : Int) ≤ (n : Int) - (i : Int) := by omega
            have s4 : ((n : Int) - (i : Int)).toNat = n - i := by omega
            have t1 : n - i ≤ i := by omega
            have t2 : i ≤ n - i := by omega
            have t3 : i ≤ i := by omega
            have t4 : (0 : Int) ≤ (n : Int) - (i : Int) := by omega
            have t5 : (n : Int) - (i : Int) ≤ (i : Int) := by omega
            have s5 : IntKind.i64.wrap ((n : Int) - (i : Int)) = (n : Int) - (i : Int) := by rw [IntKind.wrap_i64]; omega
            refine wp_region_noPanic ?_
            refine wp_region_held_drew (S := fun w' => Below w.heap.size w w') (by kernel_rfl) (bdrew (Below.refl _ _) q).drew (fun hHeld => ?_)
            have b0 : Below w.heap.size w (w.drewN q).drew := hHeld
            refine wpAnyH_take (i := 0) (oi := Oper.mk (some 29) _ _ _ _ _) (v := ?_) rfl (by kernel_rfl) (by kernel_rfl) (by kernel_rfl) (fun _ _ _ h => h) (Or.inl ⟨by rfl, ?_⟩) (by assumption) ?_
            rotate_left
            · (intro w' hSw; (try dsimp only at hSw); go_simp; try with_reducible rfl)
            try simp only [Act.put, List.setIfInBounds_toArray, List.set_cons_zero, List.set_cons_succ]
            refine wpAnyH_take (i := 1) (oi := Oper.mk (some 30) _ _ _ _ _) (v := ?_) rfl (by kernel_rfl) (by kernel_rfl) (by kernel_rfl) (fun _ _ _ h => h) (Or.inl ⟨by rfl, ?_⟩) (by assumption) ?_
            rotate_left
            · (intro w' hSw; (try dsimp only at hSw); go_simp; try with_reducible rfl)
            try simp only [Act.put, List.setIfInBounds_toArray, List.set_cons_zero, List.set_cons_succ]
            refine wpAnyH_take (i := 2) (oi := Oper.mk (some 31) _ _ _ _ _) (v := ?_) rfl (by kernel_rfl) (by kernel_rfl) (by kernel_rfl) (fun _ _ _ h => h) (Or.inl ⟨by rfl, ?_⟩) (by assumption) ?_
            rotate_left
            · (intro w' hSw; (try dsimp only at hSw); go_simp; try with_reducible rfl)
            try simp only [Act.put, List.setIfInBounds_toArray, List.set_cons_zero, List.set_cons_succ]
            refine wpAnyH_take (i := 3) (oi := Oper.mk (some 32) _ _ _ _ _) (v := ?_) rfl (by kernel_rfl) (by kernel_rfl) (by kernel_rfl) (fun _ _ _ h => h) (Or.inl ⟨by rfl, ?_⟩) (by assumption) ?_
            rotate_left
            · (intro w' hSw; (try dsimp only at hSw); go_simp; try with_reducible rfl)
            try simp only [Act.put, List.setIfInBounds_toArray, List.set_cons_zero, List.set_cons_succ]
            refine wpAnyH_take (i := 4) (oi := Oper.mk (some 33) _ _ _ _ _) (v := ?_) rfl (by kernel_rfl) (by kernel_rfl) (by kernel_rfl) (fun _ _ _ h => h) (Or.inl ⟨by rfl, ?_⟩) (by assumption) ?_
            rotate_left
            · (intro w' hSw; (try dsimp only at hSw); go_simp; try with_reducible rfl)
            try simp only [Act.put, List.setIfInBounds_toArray, List.set_cons_zero, List.set_cons_succ]
            refine wpAnyH_take (i := 5) (oi := Oper.mk (some 34) _ _ _ _ _) (v := ?_) rfl (by kernel_rfl) (by kernel_rfl) (by kernel_rfl) (fun _ _ _ h => h) (Or.inl ⟨by rfl, ?_⟩) (by assumption) ?_
            rotate_left
            · (intro w' hSw; (try dsimp only at hSw); go_simp; try with_reducible rfl)
            try simp only [Act.put, List.setIfInBounds_toArray, List.set_cons_zero, List.set_cons_succ]
            refine wpAnyH_take (i := 6) (oi := Oper.mk (some 35) _ _ _ _ _) (v := ?_) rfl (by kernel_rfl) (by kernel_rfl) (by kernel_rfl) (fun _ _ _ h => h) (Or.inl ⟨by rfl, ?_⟩) (by assumption) ?_
            rotate_left
            · (intro w' hSw; (try dsimp only at hSw); go_simp; try with_reducible rfl)
            try simp only [Act.put, List.setIfInBounds_toArray, List.set_cons_zero, List.set_cons_succ]
            refine wpAnyH_take (i := 7) (oi := Oper.mk (some 36) _ _ _ _ _) (v := ?_) rfl (by kernel_rfl) (by kernel_rfl) (by kernel_rfl) (fun _ _ _ h => h) (Or.inl ⟨by rfl, ?_⟩) (by assumption) ?_
            rotate_left
            · (intro w' hSw; (try dsimp only at hSw); go_simp; try with_reducible rfl)
            try simp only [Act.put, List.setIfInBounds_toArray, List.set_cons_zero, List.set_cons_succ]
            refine wpAnyH_take (i := 8) (oi := Oper.mk (some 37) _ _ _ _ _) (v := ?_) rfl (by kernel_rfl) (by kernel_rfl) (by kernel_rfl) (fun _ _ _ h => h) (Or.inl ⟨by rfl, ?_⟩) (by assumption) ?_
            rotate_left
            · (intro w' hSw; (try dsimp only at hSw); go_simp; try with_reducible rfl)
            try simp only [Act.put, List.setIfInBounds_toArray, List.set_cons_zero, List.set_cons_succ]
            refine wpAnyH_take (i := 9) (oi := Oper.mk (some 38) _ _ _ _ _) (v := ?_) rfl (by kernel_rfl) (by kernel_rfl) (by kernel_rfl) (fun _ _ _ h => h) (Or.inl ⟨by rfl, ?_⟩) (by assumption) ?_
            rotate_left
            · (intro w' hSw; (try dsimp only at hSw); go_simp; try with_reducible rfl)
            try simp only [Act.put, List.setIfInBounds_toArray, List.set_cons_zero, List.set_cons_succ]
            refine wpAnyH_ready (rs := [10]) (by kernel_rfl) (by simp) ?_
            refine AllReadyH.cons (o := Oper.mk (some 39) _ _ _ _ _) rfl (fun K hK => ?_) AllReadyH.nil
            go_simp
            refine (rinv_any (c := i) Hsub.out b0.size Hlen.out HL.out Hlen2.out).mono ?_
            rintro e w5 ⟨A5, n5, c5, rfl, ho5', hb5⟩
            try simp only []
            have b5 : Below w.heap.size w w5 := Below.trans b0 (hb5.mono b0.size)
            have ho5 : OwnI w5 w.heap.size (.slice A5 n5 c5) (inv (l.take i)) := ho5'.lower b0.size
            clear hb5 ho5'
            refine hK.out _ _ b5 (fun _ => ?_)
            clear hK K hHeld
            have hHeld := b5
            try simp only [Act.put, List.setIfInBounds_toArray, List.set_cons_zero, List.set_cons_succ]
            refine wpAnyH_take (i := 11) (oi := Oper.mk (some 2) _ _ _ _ _) (v := ?_) rfl (by kernel_rfl) (by kernel_rfl) (by kernel_rfl) (fun _ _ _ h => h) (Or.inl ⟨by rfl, ?_⟩) (by assumption) ?_
            rotate_left
            · (intro w' hSw; (try dsimp only at hSw); go_simp; try with_reducible rfl)
            try simp only [Act.put, List.setIfInBounds_toArray, List.set_cons_zero, List.set_cons_succ]
            refine wpAnyH_take (i := 12) (oi := Oper.mk (some 3) _ _ _ _ _) (v := ?_) rfl (by kernel_rfl) (by kernel_rfl) (by kernel_rfl) (fun _ _ _ h => h) (Or.inl ⟨by rfl, ?_⟩) (by assumption) ?_
            rotate_left
            · (intro w' hSw; (try dsimp only at hSw); go_simp; try with_reducible rfl)
            try simp only [Act.put, List.setIfInBounds_toArray, List.set_cons_zero, List.set_cons_succ]
            refine wpAnyH_done (by kernel_rfl) ?_ _
            refine NoPanic.normal ?_
            go_wp2_with fail
            go_ret2
            exact rcore_fin Hn.out hi (by rw [← HP.out]; exact hstop.out) Hr0.out.1 Hr0.out.2 hnc b5 ho5 (by omega) (by omega) (by first | exact .inl ⟨_, rfl, rfl⟩ | exact .inr Hn0.out) (by intro a1 h; first | (injection h with h; subst h; exact ⟨_, rfl, block_of_add _ _⟩) | (injection h with h; subst h; exact ⟨_, rfl, rfl⟩) | cases h)
          · go_wp2_with (go_quiet (fail))
            generalize d + nq = q
            have Hsub := Lib.hid (show ReadsI (w.drewN q).drew w.heap.size (some ad) (l.take i) from (ReadsI.take (m := l.drop i) (by rw [List.take_append_drop]; exact Hr.out)))
            have Hlen := Lib.hid (show i = (l.take i).length by rw [List.length_take]; have := Hn.out; omega)
            have HL := Lib.hid (show ∀ k ∈ l.take i, -100 ≤ k ∧ k ≤ 100 from fun k hk => by have := Hl.out k (List.mem_of_mem_take hk); omega)
            have Hlen2 := Lib.hid (show i ≤ 100000000 by omega)
            have hii2 : (i : Int) ≤ (n : Int) - (i : Int) := by omega
            have s4 : ((n : Int) - (i : Int)).toNat = n - i := by omega
            have t1 : n - i ≤ c := by omega
            have t2 : i ≤ n - i := by omega
            have t3 : i ≤ c := by omega
            have t4 : (0 : Int) ≤ (n : Int) - (i : Int) := by omega
            have t5 : (n : Int) - (i : Int) ≤ (c : Int) := by omega
            have s5 : IntKind.i64.wrap ((n : Int) - (i : Int)) = (n : Int) - (i : Int) := by rw [IntKind.wrap_i64]; omega
            refine wp_region_noPanic ?_
            refine wp_region_held_drew (S := fun w' => Below w.heap.size w w') (by kernel_rfl) (bdrew (Below.refl _ _) q).drew (fun hHeld => ?_)
            have b0 : Below w.heap.size w (w.drewN q).drew := hHeld
            refine wpAnyH_take (i := 0) (oi := Oper.mk (some 29) _ _ _ _ _) (v := ?_) rfl (by kernel_rfl) (by kernel_rfl) (by kernel_rfl) (fun _ _ _ h => h) (Or.inl ⟨by rfl, ?_⟩) (by assumption) ?_
            rotate_left
            · (intro w' hSw; (try dsimp only at hSw); go_simp; try with_reducible rfl)
            try simp only [Act.put, List.setIfInBounds_toArray, List.set_cons_zero, List.set_cons_succ]
            refine wpAnyH_take (i := 1) (oi := Oper.mk (some 30) _ _ _ _ _) (v := ?_) rfl (by kernel_rfl) (by kernel_rfl) (by kernel_rfl) (fun _ _ _ h => h) (Or.inl ⟨by rfl, ?_⟩) (by assumption) ?_
            rotate_left
            · (intro w' hSw; (try dsimp only at hSw); go_simp; try with_reducible rfl)
            try simp only [Act.put, List.setIfInBounds_toArray, List.set_cons_zero, List.set_cons_succ]
            refine wpAnyH_take (i := 2) (oi := Oper.mk (some 31) _ _ _ _ _) (v := ?_) rfl (by kernel_rfl) (by kernel_rfl) (by kernel_rfl) (fun _ _ _ h => h) (Or.inl ⟨by rfl, ?_⟩) (by assumption) ?_
            rotate_left
            · (intro w' hSw; (try dsimp only at hSw); go_simp; try with_reducible rfl)
            try simp only [Act.put, List.setIfInBounds_toArray, List.set_cons_zero, List.set_cons_succ]
            refine wpAnyH_take (i := 3) (oi := Oper.mk (some 32) _ _ _ _ _) (v := ?_) rfl (by kernel_rfl) (by kernel_rfl) (by kernel_rfl) (fun _ _ _ h => h) (Or.inl ⟨by rfl, ?_⟩) (by assumption) ?_
            rotate_left
            · (intro w' hSw; (try dsimp only at hSw); go_simp; try with_reducible rfl)
            try simp only [Act.put, List.setIfInBounds_toArray, List.set_cons_zero, List.set_cons_succ]
            refine wpAnyH_take (i := 4) (oi := Oper.mk (some 33) _ _ _ _ _) (v := ?_) rfl (by kernel_rfl) (by kernel_rfl) (by kernel_rfl) (fun _ _ _ h => h) (Or.inl ⟨by rfl, ?_⟩) (by assumption) ?_
            rotate_left
            · (intro w' hSw; (try dsimp only at hSw); go_simp; try with_reducible rfl)
            try simp only [Act.put, List.setIfInBounds_toArray, List.set_cons_zero, List.set_cons_succ]
            refine wpAnyH_take (i := 5) (oi := Oper.mk (some 34) _ _ _ _ _) (v := ?_) rfl (by kernel_rfl) (by kernel_rfl) (by kernel_rfl) (fun _ _ _ h => h) (Or.inl ⟨by rfl, ?_⟩) (by assumption) ?_
            rotate_left
            · (intro w' hSw; (try dsimp only at hSw); go_simp; try with_reducible rfl)
            try simp only [Act.put, List.setIfInBounds_toArray, List.set_cons_zero, List.set_cons_succ]
            refine wpAnyH_take (i := 6) (oi := Oper.mk (some 35) _ _ _ _ _) (v := ?_) rfl (by kernel_rfl) (by kernel_rfl) (by kernel_rfl) (fun _ _ _ h => h) (Or.inl ⟨by rfl, ?_⟩) (by assumption) ?_
            rotate_left
            · (intro w' hSw; (try dsimp only at hSw); go_simp; try with_reducible rfl)
            try simp only [Act.put, List.setIfInBounds_toArray, List.set_cons_zero, List.set_cons_succ]
            refine wpAnyH_take (i := 7) (oi := Oper.mk (some 36) _ _ _ _ _) (v := ?_) rfl (by kernel_rfl) (by kernel_rfl) (by kernel_rfl) (fun _ _ _ h => h) (Or.inl ⟨by rfl, ?_⟩) (by assumption) ?_
            rotate_left
            · (intro w' hSw; (try dsimp only at hSw); go_simp; try with_reducible rfl)
            try simp only [Act.put, List.setIfInBounds_toArray, List.set_cons_zero, List.set_cons_succ]
            refine wpAnyH_take (i := 8) (oi := Oper.mk (some 37) _ _ _ _ _) (v := ?_) rfl (by kernel_rfl) (by kernel_rfl) (by kernel_rfl) (fun _ _ _ h => h) (Or.inl ⟨by rfl, ?_⟩) (by assumption) ?_
            rotate_left
            · (intro w' hSw; (try dsimp only at hSw); go_simp; try with_reducible rfl)
            try simp only [Act.put, List.setIfInBounds_toArray, List.set_cons_zero, List.set_cons_succ]
            refine wpAnyH_take (i := 9) (oi := Oper.mk (some 38) _ _ _ _ _) (v := ?_) rfl (by kernel_rfl) (by kernel_rfl) (by kernel_rfl) (fun _ _ _ h => h) (Or.inl ⟨by rfl, ?_⟩) (by assumption) ?_
            rotate_left
            · (intro w' hSw; (try dsimp only at hSw); go_simp; try with_reducible rfl)
            try simp only [Act.put, List.setIfInBounds_toArray, List.set_cons_zero, List.set_cons_succ]
            refine wpAnyH_ready (rs := [10]) (by kernel_rfl) (by simp) ?_
            refine AllReadyH.cons (o := Oper.mk (some 39) _ _ _ _ _) rfl (fun K hK => ?_) AllReadyH.nil
            go_simp
            refine (rinv_any (c := c) Hsub.out b0.size Hlen.out HL.out Hlen2.out).mono ?_
            rintro e w5 ⟨A5, n5, c5, rfl, ho5', hb5⟩
            try simp only []
            have b5 : Below w.heap.size w w5 := Below.trans b0 (hb5.mono b0.size)
            have ho5 : OwnI w5 w.heap.size (.slice A5 n5 c5) (inv (l.take i)) := ho5'.lower b0.size
            clear hb5 ho5'
            refine hK.out _ _ b5 (fun _ => ?_)
            clear hK K hHeld
            have hHeld := b5
            try simp only [Act.put, List.setIfInBounds_toArray, List.set_cons_zero, List.set_cons_succ]
            refine wpAnyH_take (i := 11) (oi := Oper.mk (some 2) _ _ _ _ _) (v := ?_) rfl (by kernel_rfl) (by kernel_rfl) (by kernel_rfl) (fun _ _ _ h => h) (Or.inl ⟨by rfl, ?_⟩) (by assumption) ?_
            rotate_left
            · (intro w' hSw; (try dsimp only at hSw); go_simp; try with_reducible rfl)
            try simp only [Act.put, List.setIfInBounds_toArray, List.set_cons_zero, List.set_cons_succ]
            refine wpAnyH_take (i := 12) (oi := Oper.mk (some 3) _ _ _ _ _) (v := ?_) rfl (by kernel_rfl) (by kernel_rfl) (by kernel_rfl) (fun _ _ _ h => h) (Or.inl ⟨by rfl, ?_⟩) (by assumption) ?_
            rotate_left
            · (intro w' hSw; (try dsimp only at hSw); go_simp; try with_reducible rfl)
            try simp only [Act.put, List.setIfInBounds_toArray, List.set_cons_zero, List.set_cons_succ]
            refine wpAnyH_done (by kernel_rfl) ?_ _
            refine NoPanic.normal ?_
            go_wp2_with fail
            go_ret2
            exact rcore_fin Hn.out hi (by rw [← HP.out]; exact hstop.out) Hr0.out.1 Hr0.out.2 hnc b5 ho5 (by omega) (by omega) (by first | exact .inl ⟨_, rfl, rfl⟩ | exact .inr Hn0.out) (by intro a1 h; first | (injection h with h; subst h; exact ⟨_, rfl, block_of_add _ _⟩) | (injection h with h; subst h; exact ⟨_, rfl, rfl⟩) | cases h)
theorem rcore_any {w : World} {B n c : Nat} {A : Option Addr} {l : List Int} (hr : ReadsI w B A l) (hB : B ≤ w.heap.size) (hn : n = l.length) (hnc : n ≤ c) (hl : LetL l) (hb : n ≤ 100000000) (hc : c ≤ 9223372036854775807) :
    Calls Tryd.prog 25 #[.slice A n c] w (RCoreOut w B l) := by
  refine (rcore_more hr hB hn hnc hl hb hc).mono ?_
  rintro e w' ⟨A1, c1, A2, n2, c2, h1, h2, h3, h4, h5, _⟩
  exact ⟨A1, c1, A2, n2, c2, h1, h2, h3, h4, h5⟩
end Go.Proofs.YtmjnhpagoboejaaDoor

/- ref.times. -/
namespace Go.Proofs.YtmjnhpagoboejaaDoor
open Go.RowKit
open Wd
set_option linter.unusedSimpArgs false
set_option linter.unusedVariables false

/-- a word behind another one, so many times, till there are too many letters -/
def tl (c : List Int) : Nat → List Int → List Int
  | 0, o => o
  | f + 1, o => if o.length ≤ 8192 ∧ 0 < c.length then tl c f (o ++ c) else o
def timesL (w : List Int) (n : Int) : List Int := tl (core w) n.toNat (inv (conj w)) ++ conj w
theorem tl_go {c o : List Int} {f : Nat} (h1 : o.length ≤ 8192) (h2 : 0 < c.length) : tl c (f + 1) o = tl c f (o ++ c) := by rw [tl, if_pos ⟨h1, h2⟩]
theorem tl_stop {c o : List Int} {f : Nat} (h : ¬ (o.length ≤ 8192 ∧ 0 < c.length)) : tl c f o = o := by
  cases f with
  | zero => rfl
  | succ f => rw [tl, if_neg h]
theorem tl_len {c : List Int} : ∀ (f : Nat) (o : List Int), (tl c f o).length ≤ max o.length (8192 + c.length)
  | 0, o => by unfold tl; omega
  | f + 1, o => by
    unfold tl
    by_cases h : o.length ≤ 8192 ∧ 0 < c.length
    · rw [if_pos h]
      have := tl_len (c := c) f (o ++ c)
      rw [List.length_append] at this
      omega
    · rw [if_neg h]; omega
theorem timesL_len (w : List Int) (n : Int) : (timesL w n).length ≤ 8192 + 3 * w.length := by
  unfold timesL
  rw [List.length_append]
  have h1 := tl_len (c := core w) n.toNat (inv (conj w))
  rw [inv_len] at h1
  have h2 := core_len w
  have h3 := conj_len w
  have h4 := parts_le w
  omega
theorem letl_core {l : List Int} (h : LetL l) : LetL (core l) := fun k hk => h k (List.mem_of_mem_drop (List.mem_of_mem_take hk))
theorem letl_conj {l : List Int} (h : LetL l) : LetL (conj l) := fun k hk => h k (List.mem_of_mem_drop hk)
theorem letl_small {l : List Int} (h : LetL l) : ∀ k ∈ l, -100 ≤ k ∧ k ≤ 100 := fun k hk => by have := h k hk; omega
set_option maxRecDepth 100000 in
set_option maxHeartbeats 2000000 in
theorem rtimes_any {w : World} {B n c : Nat} {A : Option Addr} {l : List Int} {x : Int} (hr : ReadsI w B A l) (hB : B ≤ w.heap.size) (hn : n = l.length) (hnc : n ≤ c) (hl : LetL l) (hb : n ≤ 100000) (hc : c ≤ 9223372036854775807) (hx1 : 0 ≤ x) (hx2 : x ≤ 9223372036854775807) :
    Calls Tryd.prog 64 #[.slice A n c, .int .i64 x] w (OutI w (timesL l x)) := by
  have HC := Lib.hid (rcore_any hr hB hn hnc hl (by omega) hc)
  obtain ⟨N, hN⟩ : ∃ N : Nat, (N : Int) = x := ⟨x.toNat, by omega⟩
  subst hN
  have hcl := core_len l
  have hjl := conj_len l
  have hpl := parts_le l
  have HL := Lib.hid (And.intro (letl_conj hl) (And.intro (show (core l).length ≤ 100000 by omega) (show (conj l).length ≤ 100000 by omega)))
  have HT := Lib.hid (show timesL l (N : Int) = tl (core l) N (inv (conj l)) ++ conj l from rfl)
  generalize timesL l (N : Int) = T at *
  have HB := Lib.hid hB
  clear hr hB hn hnc hl hb hc hcl hjl hpl hx1
  go_enter Tryd.func64, Tryd.ntmps64
  go_wp2_with fail
  refine HC.out.mono ?_
  rintro e w2 ⟨A1, c1, A2, n2, c2, rfl, hr1, hc1, ho2, hb2⟩
  have hlen2 := ho2.len.1
  have HI := Lib.hid (rinv_any (w := w2) (c := c2) ho2.reads (Nat.le_refl _) hlen2 (letl_small HL.out.1) (by have := HL.out.2.2; omega))
  have H2 := Lib.hid (And.intro hr1 (And.intro ho2 (And.intro hb2 hlen2)))
  generalize core l = C at *
  generalize conj l = J at *
  clear hr1 ho2 hb2 hlen2
  go_wp2_with fail
  refine HI.out.mono ?_
  rintro e w3 ⟨A3, n3, c3, rfl, ho3, hb3⟩
  have hs23 : w.heap.size ≤ w2.heap.size := H2.out.2.2.1.size
  have H3 := Lib.hid (And.intro ho3 (H2.out.2.2.1.trans (hb3.mono hs23)))
  have R1 := Lib.hid (show ReadsI w3 w.heap.size A1 C from ((H2.out.1.more HB.out).below (hb3.mono hs23)))
  have R2 := Lib.hid (show ReadsI w3 w2.heap.size A2 J from (H2.out.2.1.reads.below hb3))
  have hs3 : w2.heap.size ≤ w3.heap.size := hb3.size
  clear ho3 hb3 HI HC
  go_wp2_with fail
  go_loopg [7, 8] N (fun k ov iv wr => ∃ (i : Nat) (A' : Option Addr) (n' c' : Nat) (L : List Int), ov = .slice A' n' c' ∧ iv = .int .i64 (i : Int) ∧ k = N - i ∧ i ≤ N ∧ n' ≤ 200000 ∧ Hid (tl C (N - i) L ++ J = T) ∧ Hid (OwnI wr w2.heap.size (.slice A' n' c') L ∧ Below w2.heap.size w3 wr))
  case atStart => exact ⟨0, A3, n3, c3, _, rfl, rfl, by omega, by omega, by have h := H3.out.1.len.1; rw [inv_len] at h; have := HL.out.2.2; omega, Lib.hid (by rw [HT.out]; rfl), Lib.hid ⟨H3.out.1, Below.refl _ _⟩⟩
  case round =>
    obtain ⟨i, A5, n5, c5, L, rfl, rfl, hk, hi, hn5, hL, hO⟩ := hrel
    have Hk := Lib.hid hk
    have Hn5 := Lib.hid hO.out.1.len.1
    have hsz : w2.heap.size ≤ wr.heap.size := by have := hO.out.2.size; omega
    have hCl : C.length ≤ 100000 := HL.out.2.1
    clear hk
    rcases Decidable.em (i < N) with h1 | h1
    · rcases Decidable.em (n5 ≤ 8192) with h2 | h2
      · rcases Decidable.em (0 < C.length) with h3 | h3
        · have hi1 : (i : Int) < (N : Int) := by omega
          have hi2 : (n5 : Int) ≤ 8192 := by omega
          have hi3 : (0 : Int) < (C.length : Int) := by omega
          have Hst := Lib.hid (show tl C (N - (i + 1)) (L ++ C) ++ J = T by rw [← hL.out, show N - i = (N - (i + 1)) + 1 by omega, tl_go (by rw [← Hn5.out]; exact h2) h3])
          clear h1 h2 h3
          go_wp2_with (refine wpI_append rfl (.tmp 31) (.tmp 32) rfl w2.heap.size _ L C hO.out.1 rfl rfl rfl (R1.out.below (hO.out.2.mono hs23)) (by have := Hn5.out; omega) (by omega) hsz ?_; intro A6 n6 c6 w6 ho6 hn6 hc6 hg6 hw6 hb6; have Ho6 := Lib.hid (And.intro ho6 (And.intro hn6 (hb6 _ hO.out.2))); clear ho6 hn6 hc6 hg6 hw6 hb6)
          go_roundg (N - (i + 1))
          case measure => have := Hk.out; omega
          case rel => exact ⟨i + 1, A6, n6, c6, L ++ C, rfl, rfl, rfl, by omega, by have h := Ho6.out.2.1; have := Hn5.out; omega, Hst, Lib.hid ⟨Ho6.out.1, Ho6.out.2.2⟩⟩
        · have hi1 : (i : Int) < (N : Int) := by omega
          have hi2 : (n5 : Int) ≤ 8192 := by omega
          have hi3 : (C.length : Int) ≤ 0 := by omega
          have Hend := Lib.hid (show L ++ J = T by rw [← hL.out, tl_stop (by omega)])
          clear h1 h2 h3
          go_wp2_with (refine wpI_append rfl (.tmp 34) (.tmp 35) rfl w2.heap.size _ L J hO.out.1 rfl rfl H2.out.2.2.2 (R2.out.below hO.out.2) (by have := Hn5.out; omega) (by have := HL.out.2.2; omega) hsz ?_; intro A6 n6 c6 w6 ho6 hn6 hc6 hg6 hw6 hb6; have Ho6 := Lib.hid (And.intro ho6 (hb6 _ hO.out.2)); clear ho6 hn6 hc6 hg6 hw6 hb6)
          go_ret
          exact ⟨_, _, _, rfl, by rw [← Hend.out]; exact Ho6.out.1.lower hs23, H3.out.2.trans (Ho6.out.2.mono hs23)⟩
      · have hi1 : (i : Int) < (N : Int) := by omega
        have hi2 : (8192 : Int) < (n5 : Int) := by omega
        have Hend := Lib.hid (show L ++ J = T by rw [← hL.out, tl_stop (by have := Hn5.out; omega)])
        clear h1 h2
        go_wp2_with (refine wpI_append rfl (.tmp 34) (.tmp 35) rfl w2.heap.size _ L J hO.out.1 rfl rfl H2.out.2.2.2 (R2.out.below hO.out.2) (by have := Hn5.out; omega) (by have := HL.out.2.2; omega) hsz ?_; intro A6 n6 c6 w6 ho6 hn6 hc6 hg6 hw6 hb6; have Ho6 := Lib.hid (And.intro ho6 (hb6 _ hO.out.2)); clear ho6 hn6 hc6 hg6 hw6 hb6)
        go_ret
        exact ⟨_, _, _, rfl, by rw [← Hend.out]; exact Ho6.out.1.lower hs23, H3.out.2.trans (Ho6.out.2.mono hs23)⟩
    · have hi1 : (N : Int) ≤ (i : Int) := by omega
      have Hend := Lib.hid (show L ++ J = T by rw [← hL.out, show N - i = 0 by omega]; rfl)
      clear h1
      go_wp2_with (refine wpI_append rfl (.tmp 34) (.tmp 35) rfl w2.heap.size _ L J hO.out.1 rfl rfl H2.out.2.2.2 (R2.out.below hO.out.2) (by have := Hn5.out; omega) (by have := HL.out.2.2; omega) hsz ?_; intro A6 n6 c6 w6 ho6 hn6 hc6 hg6 hw6 hb6; have Ho6 := Lib.hid (And.intro ho6 (hb6 _ hO.out.2)); clear ho6 hn6 hc6 hg6 hw6 hb6)
      go_ret
      exact ⟨_, _, _, rfl, by rw [← Hend.out]; exact Ho6.out.1.lower hs23, H3.out.2.trans (Ho6.out.2.mono hs23)⟩
end Go.Proofs.YtmjnhpagoboejaaDoor
