import Derived.Test.YtebpggfccljagaaGreatDoorC11
import Derived.BigQuiet
import Derived.Deep.RegionHeld3
import Derived.Test.YtebpggfccljagaaGreatDoorC2
import Derived.OrdersIn
import Derived.Test.YtebpggfccljagaaGreatDoorC3
namespace Go.Proofs.YtebpggfccljagaaGreatDoor
open Go.RowKit Go.Shelf
open Wh
set_option linter.unusedSimpArgs false
set_option linter.unusedVariables false
attribute [local go_sem] Oper.semAt_some
theorem allSays_ex : ∀ (n : Nat) (l : List UInt8), l.length ≤ n → ∃ ps left, AllSays left ps l := by
 intro n
 induction n with
 | zero =>
  intro l h
  have e : l = [] := List.eq_nil_of_length_eq_zero (by omega)
  subst e
  exact ⟨[], [], rfl, .inl (by simp)⟩
 | succ n ih =>
  intro l h
  rcases cut_at l 10 with ⟨h1, _⟩ | ⟨a, r, h1, rfl, _⟩
  ·exact ⟨[], l, rfl, .inl h1⟩
  ·rcases Classical.em (∃ p : StP, p.ok ∧ lineT p = a) with ⟨p, h2, h3⟩ | hno
   ·obtain ⟨ps, left, h4⟩ := ih r (by rw [List.length_append, List.length_cons] at h; omega)
    exact ⟨p :: ps, left, a, r, rfl, h1, h2, h3, h4⟩
   ·exact ⟨[], a ++ 10 :: r, rfl, .inr ⟨a, r, rfl, h1, fun q hq he => hno ⟨q, hq, he⟩⟩⟩
theorem wpListIn_append_T {F : Fence} {n : Nat} {w : World} {ops : Array Oper} {rest : List Oper} {o : Oper} {a : Act} {Q : Exit → Act → World → Prop} (hgd : o.guard = none) (s x : Operand)
  (ho : o.op = .call { callee := .builtin .append, args := #[s, x], argTypes := #[51, 51] }) (B : Nat) (v : Value) (rs ms : List StR) (hown : OwnT w B v rs) (hs : a.eval s = v)
  {B' : Nat} {A : Option Addr} {k c : Nat} (hx : a.eval x = .slice A k c) (hk : k = ms.length) (hr : Reads w B' 3 A ms.length (ms.flatMap scs)) (hlen : rs.length ≤ 1000000) (hlm : ms.length ≤ 1000000) (hbase : B ≤ w.heap.size)
  (h : ∀ A' n' c' w', OwnT w' B (.slice A' n' c') (rs ++ ms) → n' = rs.length + ms.length → n' ≤ c' → w.grownBy w' v.ownBlock → (∀ w0, Below B w0 w → Below B w0 w') → wpListIn F n Tryz.prog ops Q rest (a.put o.dst (.slice A' n' c')) w') :
  wpListIn F n Tryz.prog ops Q (o :: rest) a w := by
 obtain ⟨i0, hi, hz0, hz1, hz2⟩ := info_parts infoT
 subst hk
 obtain ⟨v', w', hrun, h1, h2, h3⟩ := run_append_any w B 51 o.type 25 i0 (.agg #[.string ⟨#[]⟩, .string ⟨#[]⟩, .slice none 0 0]) 3 56 Tryz.underlying51 hi hz0 hz1 hz2 (by kernel_rfl) (by decide) v rs.length (rs.flatMap scs) hown B' A ms.length c (ms.flatMap scs) hr (scs_one _) (by unfold maxLen; omega) (by omega) hbase
 have h4 : OwnT w' B v' (rs ++ ms) := by
  unfold OwnT
  rw [List.length_append, List.flatMap_append]
  exact h1
 obtain ⟨A', c', rfl, hc', _⟩ := h4.form
 refine wpListIn_plain hgd fun K hK => ?_
 unfold Oper.wpIn
 refine ⟨?_, ?_⟩
 ·simp [Oper.about, ho, resolve, Target.leads, Sem.run_pure]
 ·rw [Oper.semAt_plain F _ _ (by rw [ho]; intro c hc'; cases hc')]
  simp [execOp, ho, resolve, invoke, builtin, hs, hx, hrun, Result.andThen]
  rw [List.length_append] at h4 hc'
  exact hK _ _ (h A' _ c' w' h4 rfl hc' h2 (fun w0 hb => hb.grown h2 hbase (fun k hk => (World.ownsRow.lt hown k hk).1)))
def mkD (D : Nat) : Deferred := { target := .collected D, args := #[] }
theorem leaves_marks {F : Fence} {n : Nat} {P : Program} {fn : Func} {tmps : Array Value} {R : Ending → World → Prop} (C : World → Prop) : ∀ (Ds : List Nat), (∀ V D, D ∈ Ds → C V → V.heap[D]? = some (.deferred (some [])) → C (V.putObj D (.deferred none))) →
  (∀ V, C V → ∃ v, (results fn tmps).run P V = .ok v V ∧ R (.returned v) V) → ∀ W, C W → (∀ D ∈ Ds, W.heap[D]? = some (.deferred (some []))) → Ds.Nodup → LeavesInM F n P fn tmps R (Ds.map mkD) .returning W
 | [], _, hend, W, hC, _, _ => hend W hC
 | D :: Ds, hst, hend, W, hC, hD, hn => by
  have h0 := hD D List.mem_cons_self
  obtain ⟨hn1, hn2⟩ := List.nodup_cons.1 hn
  refine ⟨(by intro h; cases h), .inl ⟨D, _, rfl, run_takeDeferred h0, ?_⟩⟩
  refine leaves_marks C Ds (fun V E hE => hst V E (List.mem_cons_of_mem _ hE)) hend _ (hst W D List.mem_cons_self hC h0) (fun E hE => ?_) hn2
  exact (World.putObj_heap_other (fun e => hn1 (by rw [← e]; exact hE))).trans (hD E (List.mem_cons_of_mem _ hE))
theorem keeps_own {W W' : World} {B : Nat} {v : Value} {ss : List StR} (h : OwnT W B v ss) (hg : W.grownBy W' v.ownBlock) : KeepsOthers W W' := by
 refine KeepsOthers.of_grownBy hg (fun j o hj ho => ?_)
 rcases h.2 with ⟨rfl, _⟩ | ⟨g, cap, cur, rfl, _, hh, _⟩
 ·cases hj
 ·have e : g = j := by simpa [Value.ownBlock] using hj
  subst e
  rw [hh] at ho
  injection ho with ho
  subst ho
  rfl
def ParseOut (w : World) (ps : List StP) (left : List UInt8) (e : Ending) (w' : World) : Prop :=
 (left = [] → ∃ (A : Option Addr) (c : Nat) (ss : List StR), e = .returned (.tuple #[.slice A ss.length c, .int .i64 (ss.length : Int), .int .i64 0]) ∧ ss.map StR.p = ps ∧ LentT w' w.heap.size (.slice A ss.length c) ss) ∧
  (left ≠ [] → e = .returned (.tuple #[.slice none 0 0, .int .i64 (ps.length : Int), .int .i64 400])) ∧ Below w.heap.size w w'
def PaI (w : World) (S : List StP) (B b N : Nat) (pre : List StR) (W : World) : Prop :=
 (∃ A c, Blk W b 51 #[.slice A pre.length c] ∧ LentT W w.heap.size (.slice A pre.length c) pre) ∧ pre.map StR.p = S.take pre.length ∧ Below w.heap.size w W ∧ Gl B W ∧ N ≤ W.heap.size
theorem PaI.abides {w : World} {S : List StP} {B b N : Nat} : AbT (PaI w S B b N) := by
 rintro pre W W' ⟨⟨A, c, h1, h2⟩, h3, h4, h5, h6⟩ hb
 exact ⟨⟨A, c, h1.below hb h1.lt, h2.kept hb⟩, h3, h4.trans (hb.mono h4.size), h5.below hb, Nat.le_trans h6 hb.size⟩
theorem Gl.put {B l : Nat} {W : World} {o o' : Obj} (h : Gl B W) (hl : W.heap[l]? = some o) (hn : o.isCells = false) (hB : B ≤ l) : Gl B (W.putObj l o') := by
 obtain ⟨m, hm⟩ := h.m
 have hb : Below B W (W.putObj l o') := below_put (Below.refl _ _) h.hB hB
 refine ⟨h.tab.below hb (Nat.le_refl _), ⟨m, ?_⟩, by simpa using h.hB⟩
 exact cell_kept hm (grownBy_putObj' W l o') (fun r e => by cases e; exact ⟨o, hl, hn⟩)
theorem PaI.put {w : World} {S : List StP} {B b N l : Nat} {pre : List StR} {W : World} {o o' : Obj} (h : PaI w S B b N pre W) (hw : w.heap.size ≤ l) (hBw : B ≤ w.heap.size) (hl : W.heap[l]? = some o) (hn : o.isCells = false) : PaI w S B b N pre (W.putObj l o') := by
 obtain ⟨⟨A, c, h1, h2⟩, h3, h4, h5, h6⟩ := h
 exact ⟨⟨A, c, blk_put h1 hl hn, h2.put hl hn⟩, h3, below_put h4 h4.size hw, h5.put hl hn (by omega), by simpa using h6⟩
theorem parts_count (c : UInt8) : ∀ l : List UInt8, (parts c l).length = l.countP (· == c) + 1
 | [] => rfl
 | b :: r => by
  have ih := parts_count c r
  obtain ⟨q, qs, h⟩ := parts_ne c r
  rw [List.countP_cons]
  unfold parts
  by_cases hb : b = c
  ·rw [if_pos hb, List.length_cons, ih, hb]; simp
  ·rw [if_neg hb]
   rw [h] at ih ⊢
   simp only [glue, List.length_cons] at ih ⊢
   rw [ih]
   simp [hb]
theorem count_ends (l : List UInt8) : Lib.count l [10] = ends l := by
 have h1 := parts_len 10 _ l (Nat.le_refl _)
 rw [parts_count] at h1
 unfold ends
 omega
theorem count_n {W : World} {B : Nat} (hg : Gl B W) (s : ByteArray) (hs : s.size ≤ 6000) : ∀ q, Calls Tryz.prog 54 #[.string s, .string ⟨#[10]⟩] (W.drewN q) (fun e w' => e = .returned (.int .i64 ((ends s.data.toList : Nat) : Int)) ∧ ∃ m, w' = W.drewN m) := fun q => by
 obtain ⟨m, hm⟩ := hg.m
 refine (Tryz.strings_Count_any s ⟨#[10]⟩ m (W.drewN q) (by omega) hm (by show 1 ≤ 1; decide)).mono ?_
 rintro e w' ⟨rfl, rfl⟩
 have h : Lib.countB s ⟨#[10]⟩ = ends s.data.toList := count_ends _
 exact ⟨by rw [h], q, rfl⟩
theorem suffix_n {W : World} (s : ByteArray) (hs : s.size ≤ 6000) {b : Bool} (hb : b = true ↔ [10] <:+ s.data.toList) : ∀ q, Calls Tryz.prog 55 #[.string s, .string ⟨#[10]⟩] (W.drewN q) (fun e w' => e = .returned (.bool b) ∧ ∃ m, w' = W.drewN m) := fun q => by
 refine (Tryz.strings_HasSuffix s ⟨#[10]⟩ (W.drewN q) (by omega)).mono ?_
 rintro e w' ⟨rfl, rfl⟩
 refine ⟨?_, q, rfl⟩
 have h : Lib.hasSuffix s.data.toList [10] = b := by
  unfold Lib.hasSuffix
  cases b with
  | true => exact List.isSuffixOf_iff_suffix.2 (hb.1 rfl)
  | false =>
   cases h2 : List.isSuffixOf [10] s.data.toList with
   | false => rfl
   | true => exact absurd (hb.2 (List.isSuffixOf_iff_suffix.1 h2)) (by decide)
 exact congrArg (fun b => Ending.returned (.bool b)) h
theorem pa_step {w V w3 : World} {S : List StP} {B N D c n3 c3 : Nat} {A A3 : Option Addr} {pre : List StR} {s : StR} (hg : Gl B w) (hb : Blk V w.heap.size 51 #[.slice A pre.length c]) (hl : LentT V w.heap.size (.slice A pre.length c) pre) (hmap : pre.map StR.p = S.take pre.length) (hB : Below w.heap.size w V) (hN : N ≤ V.heap.size)
  (hS : S[pre.length]? = some s.p) (hs : LentA V w.heap.size (.slice s.A s.rs.length s.c) s.rs) (ho : OwnT w3 w.heap.size (.slice A3 n3 c3) (pre ++ [s])) (hg3 : ((V.alloc (.cells s.cells 25)).alloc (.cells (scs s).toArray 25)).grownBy w3 (Value.slice A pre.length c).ownBlock) :
  KeepsFrom D V (w3.setCell ⟨w.heap.size, 0, none⟩ (.slice A3 n3 c3)) ∧ PaI w S B w.heap.size N (pre ++ [s]) (w3.setCell ⟨w.heap.size, 0, none⟩ (.slice A3 n3 c3)) := by
 have hn3 : n3 = (pre ++ [s]).length := (ho.reads).2
 have hb2 := new_below V (.cells s.cells 25)
 have hl3 : LentT w3 w.heap.size (.slice A3 n3 c3) (pre ++ [s]) := hl.step hb2 (hs.kept hb2) ho hg3
 have hv : OwnT ((V.alloc (.cells s.cells 25)).alloc (.cells (scs s).toArray 25)) w.heap.size (.slice A pre.length c) pre := (hl.1.alloc _).alloc _
 have hbk : Blk w3 w.heap.size 51 #[.slice A pre.length c] := ((hb.alloc _).alloc _).grown hg3 (fun e => own_blk_ne hv ((hb.alloc _).alloc _) (by decide) e.symm)
 have hB3 : Below w.heap.size w w3 := ((hB.alloc hB.size _).alloc (by have := hB.size; simp; omega) _).grown hg3 (by have := hB.size; simp; omega) (fun k hk => (World.ownsRow.lt hv k hk).1)
 have hBs : Below w.heap.size w (w3.setCell ⟨w.heap.size, 0, none⟩ (.slice A3 n3 c3)) := hB3.setCell (p := ⟨w.heap.size, 0, none⟩) (Nat.le_refl _) _
 refine ⟨((((KeepsOthers.alloc _ _).trans (KeepsOthers.alloc _ _)).trans (keeps_own hv hg3)).trans (KeepsOthers.setCell _ _ _)).from _, ⟨A3, c3, ?_, ?_⟩, ?_, hBs, hg.below hBs, ?_⟩
 ·rw [← hn3]
  exact hbk.set_ 0 _
 ·rw [← hn3]
  exact hl3.setB hbk (by decide) (by decide) (by decide) _
 ·rw [List.map_append, hmap, List.length_append, List.length_singleton, List.take_add_one, hS]
  rfl
 ·have h1 := hg3.size
  have h2 : (w3.setCell ⟨w.heap.size, 0, none⟩ (.slice A3 n3 c3)).heap.size = w3.heap.size := by unfold World.setCell; simp [Array.size_modify]
  rw [h2]
  simp only [World.size_alloc] at h1
  omega
theorem parse_end {w V W : World} {D c : Nat} {A : Option Addr} {S : List StP} {left : List UInt8} {ss : List StR} {tm : Array Value} {x : Value} (hl : LentT V w.heap.size (.slice A ss.length c) ss) (hB : Below w.heap.size w V) (hD : w.heap.size ≤ D) (hV : V.heap[D]? = some (.deferred (some []))) (hb : Below V.heap.size V W)
  (hx : (results Tryz.f19 tm).run Tryz.prog = fun W => .ok x W)
  (hR : ∀ W', LentT W' w.heap.size (.slice A ss.length c) ss → Below w.heap.size w W' → ParseOut w S left (.returned x) W') :
  LeavesInM Fence.wide 3 Tryz.prog Tryz.f19 tm (ParseOut w S left) [mkD D] .returning W := by
 refine leaves_marks (fun V => LentT V w.heap.size (.slice A ss.length c) ss ∧ Below w.heap.size w V) [D] ?_ ?_ _ ⟨hl.kept hb, hB.trans (hb.mono hB.size)⟩ ?_ (by simp)
 ·rintro V D' hD' ⟨h1, h2⟩ hV'
  rw [List.mem_singleton.1 hD'] at hV' ⊢
  exact ⟨h1.put hV' rfl, below_put h2 h2.size hD⟩
 ·rintro V' ⟨h1, h2⟩
  exact ⟨x, by rw [hx], hR V' h1 h2⟩
 ·intro D' hD'
  rw [List.mem_singleton.1 hD']
  exact (hb.block D (Array.getElem?_eq_some_iff.1 hV).1).trans hV
set_option maxRecDepth 100000 in
set_option maxHeartbeats 8000000 in
theorem sparse19 {w : World} {B : Nat} {s : ByteArray} {S : List StP} {left : List UInt8} (hg : Gl B w) (hs : s.size ≤ 6000) (hA : AllSays left S s.data.toList) :
  Calls Tryz.prog 19 #[.string s] w (ParseOut w S left) := by
 have HG := Lib.hid hg
 have HA := Lib.hid hA
 have hs6 : ¬ (1048576 : Int) < (s.size : Int) := by omega
 have HS := Lib.hid hs
 clear hg hA hs
 refine (callsIn_wide (n := 3)).1 ?_
 refine callsIn_of_wp_marks Tryz.func19 rfl trivial ?_ rfl
 simp only [Tryz.ntmps19, List.size_toArray, List.length_cons, List.length_nil, Nat.reduceAdd, Nat.reduceSub, Array.replicate_succ, Array.replicate_zero, List.push_toArray, List.append_toArray, List.nil_append, List.cons_append]
 gi_wp2_with fail
 refine ⟨trivial, (callsIn_wide.2 all_any).mono ?_⟩
 rintro _ W1 ⟨rfl, hW1⟩
 have HW := Lib.hid (show Blk W1 w.heap.size 51 #[.slice none 0 0] ∧ Blk W1 (w.heap.size + 1) 9 #[.string s] ∧ Below w.heap.size w W1 ∧ W1.heap.size = w.heap.size + 2 by
  rw [hW1]
  have h2 := Blk.new (w.alloc (.cells #[.slice none 0 0] 51)) 9 #[.string s]
  rw [World.size_alloc] at h2
  exact ⟨(Blk.new w 51 _).alloc _, h2, ((Below.refl _ w).alloc (Nat.le_refl _) _).alloc (by simp) _, by simp⟩)
 clear hW1
 gi_wp2_with fail
 refine wpIn_rangeFunc_T (lb := #[.pointer (some ⟨w.heap.size + 1, 0, none⟩)]) (gf := 56) (S := S) (B := B) (w0 := W1) rfl (by omega) rfl trivial (enters_of Tryz.func56 (by kernel_rfl) rfl) (all_seq HS.out HA.out HW.out.2.1) (Below.refl _ _)
  (PaI w S B w.heap.size (w.heap.size + 2)) (fun _ _ _ => False) PaI.abides (fun ss V h => ⟨h.2.2.2.1, by rw [HW.out.2.2.2]; exact h.2.2.2.2⟩)
  (fun ss V l o o' h hl ho hn => h.put (by have := HW.out.2.2.2; omega) HG.out.hB ho hn) (fun c ss V l o o' h _ _ _ => h)
  ⟨⟨none, 0, HW.out.1, LentT.nil _ _⟩, rfl, HW.out.2.2.1, HG.out.below HW.out.2.2.1, by rw [HW.out.2.2.2]; exact Nat.le_refl _⟩
  (fun i x b => ⟨#[.string s, undef, .slice none 0 0, .int .i64 0, .int .i64 0, .pointer (some ⟨w.heap.size, 0, none⟩), undef, .pointer (some ⟨b, 0, none⟩), .string s, .int .i64 (s.size : Int), .bool false, .string s, .func (.func 56) #[] #[.pointer (some ⟨w.heap.size + 1, 0, none⟩)], .int .i64 (i : Int), .agg x.cells, undef, undef, undef, undef, undef, undef, undef, undef, undef, undef, undef, undef, undef, undef, undef, undef, undef, undef, undef, undef, undef, undef, undef, undef, undef, undef, undef, undef], []⟩) ?assign ?body ?done ?stop
 case assign =>
  intro l i x V K hK
  obtain ⟨v2, m2, A2, c2, r2⟩ := x
  unfold StR.cells at hK ⊢
  simp only at hK ⊢
  gi_wp2_with fail
  exact hK
 case body =>
  intro l pre x V hI hSx hlx
  obtain ⟨⟨A, c, hb, hl⟩, hmap, hB, hgl, hN⟩ := hI
  obtain ⟨v2, m2, A2, c2, r2⟩ := x
  unfold StR.cells
  simp only at hlx ⊢
  have HI := Lib.hid (And.intro hb (And.intro hl (And.intro hmap (And.intro hB (And.intro hgl (And.intro hN (And.intro hSx (hlx.lower (show w.heap.size ≤ W1.heap.size by rw [HW.out.2.2.2]; omega)))))))))
  have hx := Blk.new V 25 #[.string v2, .string m2, .slice A2 r2.length c2]
  have x0 := hx.cell 0
  have x1 := hx.cell 1
  have x2 := hx.cell 2
  have b0 := (hb.alloc (.cells #[.string v2, .string m2, .slice A2 r2.length c2] 25)).cell 0
  clear hb hl hmap hB hgl hN hSx hlx hx
  have HL := Lib.hid (show pre.length ≤ 6000 by
   have h1 := HA.out.len
   have h2 := (List.getElem?_eq_some_iff.1 HI.out.2.2.2.2.2.2.1).1
   have h3 : s.data.toList.length = s.size := Array.length_toList
   have := HS.out; omega)
  have hrs := reads_singleT (V.alloc (.cells #[.string v2, .string m2, .slice A2 r2.length c2] 25)) ⟨v2, m2, A2, c2, r2⟩
  rw [World.size_alloc] at hrs
  have HRs := Lib.hid hrs
  clear hrs
  gi_wp2_with (refine wpListIn_append_T rfl (.tmp 15) (.tmp 17) rfl w.heap.size _ pre [⟨v2, m2, A2, c2, r2⟩] ((HI.out.2.1.1.alloc _).alloc _) rfl rfl rfl HRs.out (by have := HL.out; omega) (by simp) (by have := HI.out.2.2.2.1.size; simp; omega) ?_; intro A3 n3 c3 w3 ho3 hn3 hc3 hg3 hb3; have H3 := Lib.hid (pa_step (D := W1.heap.size) (s := ⟨v2, m2, A2, c2, r2⟩) HG.out HI.out.1 HI.out.2.1 HI.out.2.2.1 HI.out.2.2.2.1 HI.out.2.2.2.2.2.1 HI.out.2.2.2.2.2.2.1 HI.out.2.2.2.2.2.2.2 ho3 hg3); have hbk := ((HI.out.1.alloc (.cells #[.string v2, .string m2, .slice A2 r2.length c2] 25)).alloc (.cells #[.string v2, .string m2, .slice A2 r2.length c2] 25)).grown hg3 (fun e => own_blk_ne HI.out.2.1.1 HI.out.1 (by decide) e.symm); have b30 := hbk.cell 0; have f30 := hbk.frozen 0; clear ho3 hn3 hc3 hg3 hb3 hbk)
  exact H3.out
 case done =>
  intro D ss V hD hlen hI hV
  obtain ⟨⟨A, c, hb, hl⟩, hmap, hB, hgl, hN⟩ := hI
  rw [List.take_of_length_le (by omega)] at hmap
  have hle : ss.length ≤ 3000 := by
   have h1 := HA.out.len
   have h3 : s.data.toList.length = s.size := Array.length_toList
   have := HS.out; omega
  have hle2 : ¬ (4096 : Int) < (ss.length : Int) := by omega
  have HI := Lib.hid (And.intro hb (And.intro hl (And.intro hmap (And.intro hB (And.intro hgl (And.intro hD hV))))))
  have HLn := Lib.hid hlen
  obtain ⟨b, hbs⟩ := ex_b ([10] <:+ s.data.toList)
  have H54 := Lib.hid (count_n hgl s HS.out)
  have H55 := Lib.hid (suffix_n (W := V) s HS.out hbs)
  have hleft := HA.out.left
  rw [← hlen] at hleft
  have Hkeep : Hid (∀ w', Below V.heap.size V w' → w'.cell? ⟨w.heap.size, 0, none⟩ = some (.slice A ss.length c)) := Lib.hid fun w' hw => (hb.below hw hb.lt).cell 0
  have b0 := Hkeep.out _ (Below.refl _ _)
  generalize hE : ends s.data.toList = E at *
  clear hb hl hmap hB hgl hN hD hV hE hlen hle
  gi_wp2_with fail
  refine wpIn_wide.2 ?_
  by_cases hE : E = ss.length
  ·subst hE
   have e1 : ((ss.length : Int) != (ss.length : Int)) = false := by simp
   by_cases hs0 : s = ⟨#[]⟩
   ·subst hs0
    have Hye := Lib.hid (show left = [] from hleft.2 ⟨rfl, .inl rfl⟩)
    clear hleft hbs
    go_quiet (first | (go_at_call 54; exact H54.out _) | (go_at_call 55; exact H55.out _))
    gi_wp2_with fail
    refine wpIn_wide.2 ?_
    go_wp2_with (go_quiet (fail))
    gi_wp2_with fail
    refine parse_end (D := D) (x := .tuple #[.slice A ss.length c, .int .i64 (ss.length : Int), .int .i64 0]) HI.out.2.1 HI.out.2.2.2.1 (by have := HI.out.2.2.2.2.2.1; have := HW.out.2.2.2; omega) HI.out.2.2.2.2.2.2 (below_drewN (below_drewN (Below.refl _ _) _) _) (by funext W; simp [results, Tryz.results19, go_sem]) (fun W' h1 h2 => ?_)
    exact ⟨fun _ => ⟨A, c, ss, rfl, HI.out.2.2.1, h1⟩, fun h => absurd Hye.out h, h2⟩
   ·have x1 : ¬ s.toList = [] := fun h => hs0 (tl_inj (by rw [h, ByteArray.toList_eq]))
    have x2 : (s.toList == []) = false := by simpa using x1
    have x3 : s.toList.isEmpty = false := by simpa using x1
    cases b with
    | true =>
     have Hye := Lib.hid (show left = [] from hleft.2 ⟨rfl, .inr (hbs.1 rfl)⟩)
     clear hleft hbs
     go_quiet (first | (go_at_call 54; exact H54.out _) | (go_at_call 55; exact H55.out _))
     gi_wp2_with fail
     refine wpIn_wide.2 ?_
     go_wp2_with (go_quiet (fail))
     gi_wp2_with fail
     refine parse_end (D := D) (x := .tuple #[.slice A ss.length c, .int .i64 (ss.length : Int), .int .i64 0]) HI.out.2.1 HI.out.2.2.2.1 (by have := HI.out.2.2.2.2.2.1; have := HW.out.2.2.2; omega) HI.out.2.2.2.2.2.2 (below_drewN (below_drewN (Below.refl _ _) _) _) (by funext W; simp [results, Tryz.results19, go_sem]) (fun W' h1 h2 => ?_)
     exact ⟨fun _ => ⟨A, c, ss, rfl, HI.out.2.2.1, h1⟩, fun h => absurd Hye.out h, h2⟩
    | false =>
     have Hne := Lib.hid (show left ≠ [] from fun h => by
      rcases (hleft.1 h).2 with h1 | h1
      ·exact hs0 (str_empty h1)
      ·exact absurd (hbs.2 h1) (by decide))
     clear hleft hbs
     go_quiet (first | (go_at_call 54; exact H54.out _) | (go_at_call 55; exact H55.out _))
     gi_wp2_with fail
     refine wpIn_wide.2 ?_
     go_wp2_with (go_quiet (fail))
     gi_wp2_with fail
     refine parse_end (D := D) (x := .tuple #[.slice none 0 0, .int .i64 (ss.length : Int), .int .i64 400]) HI.out.2.1 HI.out.2.2.2.1 (by have := HI.out.2.2.2.2.2.1; have := HW.out.2.2.2; omega) HI.out.2.2.2.2.2.2 (below_drewN (below_drewN (Below.refl _ _) _) _) (by funext W; simp [results, Tryz.results19, go_sem]) (fun W' h1 h2 => ?_)
     exact ⟨fun h => absurd h Hne.out, fun _ => by rw [← HLn.out], h2⟩
  ·have e1 : ((E : Int) != (ss.length : Int)) = true := by simp; omega
   have Hne := Lib.hid (show left ≠ [] from fun h => hE (by have := (hleft.1 h).1; omega))
   clear hleft hE hbs
   go_quiet (first | (go_at_call 54; exact H54.out _) | (go_at_call 55; exact H55.out _))
   gi_wp2_with fail
   refine wpIn_wide.2 ?_
   go_wp2_with (go_quiet (fail))
   gi_wp2_with fail
   refine parse_end (D := D) (x := .tuple #[.slice none 0 0, .int .i64 (ss.length : Int), .int .i64 400]) HI.out.2.1 HI.out.2.2.2.1 (by have := HI.out.2.2.2.2.2.1; have := HW.out.2.2.2; omega) HI.out.2.2.2.2.2.2 (below_drewN (below_drewN (Below.refl _ _) _) _) (by funext W; simp [results, Tryz.results19, go_sem]) (fun W' h1 h2 => ?_)
   exact ⟨fun h => absurd h Hne.out, fun _ => by rw [← HLn.out], h2⟩
 case stop =>
  intro D c pre V hD h hV
  exact h.elim
end Go.Proofs.YtebpggfccljagaaGreatDoor
namespace Go.Proofs.YtebpggfccljagaaGreatDoor
open Go.RowKit
open Wh
set_option linter.unusedSimpArgs false
set_option linter.unusedVariables false
theorem left_bytes {R : ByteArray} {left : List UInt8} (h : left = R.data.toList) : (Value.string R) = .string ⟨left.toArray⟩ := by rw [h]
theorem AllSays.stays {u R : List UInt8} (h : AllSays u [] R) : u = R := h.1
theorem lt_step {w wr W2 w3 : World} {ss : List StR} {s : StR} {A A3 : Option Addr} {n c n3 c3 : Nat} (hl : LentT wr w.heap.size (.slice A n c) ss) (hb2 : Below wr.heap.size wr W2) (hs : LentA W2 w.heap.size (.slice s.A s.rs.length s.c) s.rs)
  (ho : OwnT w3 w.heap.size (.slice A3 n3 c3) (ss ++ [s])) (hg : ((W2.alloc (.cells s.cells 25)).alloc (.cells (scs s).toArray 25)).grownBy w3 (Value.slice A n c).ownBlock) : LentT w3 w.heap.size (.slice A3 n3 c3) (ss ++ [s]) :=
 hl.step (hb2.trans ((new_below W2 (.cells s.cells 25)).mono hb2.size)) (hs.kept (new_below W2 _)) ho hg
set_option maxRecDepth 100000 in
set_option maxHeartbeats 8000000 in
theorem rall_any {w : World} {B : Nat} {s : ByteArray} {S : List StP} {left : List UInt8} (hg : Gl B w) (hs : s.size ≤ 6000) (hA : AllSays left S s.data.toList) :
  Calls Tryz.prog 22 #[.string s] w (fun e w' => ∃ (A : Option Addr) (c : Nat) (ss : List StR), e = .returned (.tuple #[.slice A ss.length c, .string ⟨left.toArray⟩]) ∧ ss.map StR.p = S ∧ LentT w' w.heap.size (.slice A ss.length c) ss ∧ Below w.heap.size w w') := by
 have HG := Lib.hid hg
 have HA := Lib.hid hA
 have HS := Lib.hid hs
 clear hg hA hs
 go_enter Tryz.func22, Tryz.ntmps22
 go_wp2_with fail
 go_loopg [0, 4, 5, 6, 7] s.size (fun k sv ov ev xv zv wr => ∃ (R : ByteArray) (i : Nat) (A : Option Addr) (n c : Nat) (ss : List StR), sv = .string R ∧ ov = .slice A n c ∧ k = R.size ∧ R.size ≤ 6000 ∧ Hid (AllSays left (S.drop i) R.data.toList ∧ i ≤ S.length ∧ ss.length = i ∧ ss.map StR.p = S.take i) ∧ Hid (LentT wr w.heap.size (.slice A n c) ss ∧ Below w.heap.size w wr))
 case atStart => exact ⟨s, 0, none, 0, 0, [], rfl, rfl, rfl, HS.out, Lib.hid ⟨HA.out, Nat.zero_le _, rfl, rfl⟩, Lib.hid ⟨LentT.nil _ _, Below.refl _ _⟩⟩
 case round =>
  obtain ⟨R, i, A, n, c, ss, rfl, rfl, hk, hR6, hP, hO⟩ := hrel
  have Hk := Lib.hid hk
  clear hk
  have hR6i : (R.size : Int) ≤ 6000 := by omega
  have Hn := Lib.hid (show n = ss.length from hO.out.1.1.reads.2)
  have HL := Lib.hid (show R.data.toList.length = R.size by simp)
  by_cases h0 : 0 < R.size
  ·have h01 : (0 : Int) < (R.size : Int) := by omega
   go_wp2_with fail
   go_loopg [5] R.size (fun kk ev wq => ∃ j : Nat, ev = .int .i64 (j : Int) ∧ kk = R.size - j ∧ j ≤ R.size ∧ Hid ((10 : UInt8) ∉ R.data.toList.take j) ∧ Hid (wq = wr))
   case atStart => exact ⟨0, rfl, by omega, by omega, Lib.hid (by simp), Lib.hid rfl⟩
   case round =>
    obtain ⟨j, rfl, hkq, hj, hno, hW⟩ := hrel
    have e := hW.out
    subst e
    have Hkq := Lib.hid hkq
    clear hkq
    have hj0 : (0 : Int) ≤ (j : Int) := by omega
    by_cases hjR : j < R.size
    ·have hji : (j : Int) < (R.size : Int) := by omega
     obtain ⟨b, hc, hl, hcl⟩ := byte_at hjR
     have hb256 : b.toNat < 256 := b.toNat_lt
     have hg : R.data.toList[j]? = some b := by rw [List.getElem?_eq_getElem hl, hcl]
     have Hg := Lib.hid hg
     by_cases hb : b = 10
     ·have e3 : ((b.toNat : Int) == 10) = true := by rw [hb]; rfl
      have e4 : ((b.toNat : Int) != 10) = false := by rw [hb]; rfl
      have e5 : ((j : Int) == (R.size : Int)) = false := by simp; omega
      have HR := Lib.hid (show R.data.toList = R.data.toList.take j ++ 10 :: R.data.toList.drop (j + 1) by
       have h1 : R.data.toList.drop j = 10 :: R.data.toList.drop (j + 1) := by
        rw [List.drop_eq_getElem_cons hl, hcl, hb]
       rw [← h1, List.take_append_drop])
      have HE1 := Lib.hid (show (R.extract 0 j).data.toList = R.data.toList.take j by rw [ext_bs R 0 j (Nat.zero_le _) hj]; simp)
      have HE2 := Lib.hid (show (R.extract (j + 1) R.size).data.toList = R.data.toList.drop (j + 1) by
       rw [ext_bs R (j + 1) R.size hjR (Nat.le_refl _)]
       show (R.data.toList.take R.size).drop (j + 1) = _
       rw [List.take_of_length_le (by rw [HL.out]; exact Nat.le_refl _)])
      have hs1 : (R.extract 0 j).size ≤ 6000 := by rw [ByteArray.size_extract]; omega
      have HRd := Lib.hid (rsread_any (HG.out.below hO.out.2) hs1)
      have hj1 : (j : Int) + 1 ≤ (R.size : Int) := by omega
      have hwj : IntKind.i64.wrap ((j : Int) + 1) = (j : Int) + 1 := by rw [IntKind.wrap_i64]; omega
      clear hg hcl hb hs1
      go_wp2_with fail
      refine HRd.out.mono ?_
      intro e W2 hR2
      obtain ⟨⟨v2, m2, A2, c2, r2⟩, z2, rfl, hs2, hl2, hb2⟩ := hR2.get
      rw [HE1.out] at hs2
      have HBx := Lib.hid (And.intro (hO.out.2.trans (hb2.mono hO.out.2.size)) hb2)
      have Hl2 := Lib.hid (hl2.lower hO.out.2.size)
      unfold StR.cells
      simp only
      clear hR2 hl2 hb2
      cases hd : S.drop i with
      | nil =>
       have hA := hP.out.1
       rw [hd] at hA
       have hA2 := hA
       rw [HR.out] at hA2
       obtain ⟨_, rfl⟩ := hs2.uniq (.inr ⟨rfl, rfl, hA2.none_ hno.out⟩)
       have Hfin := Lib.hid (And.intro hA.stays (drop_end hd hP.out.2.1))
       clear hs2 hA hA2 hd
       go_wp2_with fail
       refine bodyPost_ret (v := .tuple #[.slice A n c, .string R]) (by simp [results, Tryz.results22, go_sem]) rfl ?_
       have h3 := hP.out.2.2.2
       rw [Hfin.out.2, List.take_length] at h3
       rw [left_bytes Hfin.out.1, Hn.out]
       exact ⟨A, c, ss, rfl, h3, by rw [← Hn.out]; exact (hO.out.1.kept HBx.out.2).alloc _, HBx.out.1.alloc HBx.out.1.size _⟩
      | cons p ps =>
       have hA := hP.out.1
       rw [hd, HR.out] at hA
       obtain ⟨k1, k2, k3⟩ := hA.cons hno.out
       obtain ⟨hpp, rfl⟩ := hs2.uniq (.inl ⟨k1, k2, rfl⟩)
       have hSi : S[i]? = some p := by
        have h := congrArg (fun l => l[0]?) hd
        simp only [List.getElem?_drop, Nat.add_zero, List.getElem?_cons_zero] at h
        exact h
       have hil2 : i < S.length := by
        have := congrArg List.length hd
        rw [List.length_drop, List.length_cons] at this
        omega
       have hdr : S.drop (i + 1) = ps := by
        rw [← List.drop_drop, hd]; rfl
       have Hnx := Lib.hid (show AllSays left (S.drop (i + 1)) (R.extract (j + 1) R.size).data.toList ∧ i + 1 ≤ S.length ∧ (ss ++ [(⟨v2, m2, A2, c2, r2⟩ : StR)]).length = i + 1 ∧ (ss ++ [(⟨v2, m2, A2, c2, r2⟩ : StR)]).map StR.p = S.take (i + 1) from
        ⟨by rw [HE2.out, hdr]; exact k3, hil2, by rw [List.length_append, hP.out.2.2.1]; rfl, by rw [List.map_append, hP.out.2.2.2, List.take_add_one, hSi, ← hpp]; rfl⟩)
       have HLs := Lib.hid (show ss.length ≤ 6000 by
        have h1 := HA.out.len
        have h2 := HS.out
        have h3 : s.data.toList.length = s.size := Array.length_toList
        have := hP.out.2.2.1; omega)
       have Hsz := Lib.hid (show (R.extract (j + 1) R.size).size = R.size - (j + 1) by rw [ByteArray.size_extract]; omega)
       clear hs2 hA hd k1 k2 k3 hpp hSi hil2 hdr
       have hrs := reads_singleT (W2.alloc (.cells #[.string v2, .string m2, .slice A2 r2.length c2] 25)) ⟨v2, m2, A2, c2, r2⟩
       rw [World.size_alloc] at hrs
       have HRs := Lib.hid hrs
       clear hrs
       go_wp2_with (refine wpT_append rfl (.tmp 40) (.tmp 42) rfl w.heap.size _ ss [⟨v2, m2, A2, c2, r2⟩] (((hO.out.1.1.kept HBx.out.2).alloc _).alloc _) rfl rfl rfl HRs.out (by have := HLs.out; omega) (by simp) (by have := HBx.out.1.size; simp; omega) ?_; intro A3 n3 c3 w3 ho3 hn3 hc3 hg3 hb3; have H3 := Lib.hid (And.intro (lt_step (s := ⟨v2, m2, A2, c2, r2⟩) hO.out.1 HBx.out.2 Hl2.out ho3 hg3) (hb3 _ ((HBx.out.1.alloc HBx.out.1.size _).alloc (by have := HBx.out.1.size; simp; omega) _))); clear ho3 hn3 hc3 hg3 hb3)
       go_roundg (R.size - (j + 1))
       case measure => have := Hk.out; omega
       case rel => exact ⟨R.extract (j + 1) R.size, i + 1, A3, n3, c3, _, rfl, rfl, by rw [Hsz.out], by rw [Hsz.out]; omega, Hnx, H3⟩
     ·have e3 : ((b.toNat : Int) == 10) = false := by simp; intro h; exact hb (UInt8.toNat_inj.1 (by show b.toNat = 10; omega))
      have e4 : ((b.toNat : Int) != 10) = true := by simp; intro h; exact hb (UInt8.toNat_inj.1 (by show b.toNat = 10; omega))
      have Hno := Lib.hid (show (10 : UInt8) ∉ R.data.toList.take (j + 1) by
       rw [List.take_succ_eq_append_getElem hl, hcl]
       intro h
       rcases List.mem_append.1 h with h | h
       ·exact hno.out h
       ·exact hb (List.mem_singleton.1 h).symm)
      clear hg hcl hb
      go_wp2_with fail
      go_roundg (R.size - (j + 1))
      case measure => have := Hkq.out; omega
      case rel => exact ⟨j + 1, rfl, rfl, by omega, Hno, Lib.hid rfl⟩
    ·have hji : ¬ (j : Int) < (R.size : Int) := by omega
     have e5 : ((j : Int) == (R.size : Int)) = true := by simp; omega
     have Hstop := Lib.hid (hP.out.1.stop (by have h := hno.out; rwa [List.take_of_length_le (by rw [HL.out]; omega)] at h))
     go_wp2_with fail
     refine bodyPost_ret (v := .tuple #[.slice A n c, .string R]) (by simp [results, Tryz.results22, go_sem]) rfl ?_
     have h1 := hP.out.1
     rw [Hstop.out] at h1
     have h2 := drop_end Hstop.out hP.out.2.1
     have h3 := hP.out.2.2.2
     rw [h2, List.take_length] at h3
     rw [left_bytes h1.stays, Hn.out]
     exact ⟨A, c, ss, rfl, h3, by rw [← Hn.out]; exact hO.out.1, hO.out.2⟩
  ·have h01 : ¬ (0 : Int) < (R.size : Int) := by omega
   have Hl0 := Lib.hid (show R.data.toList = [] from List.eq_nil_of_length_eq_zero (by rw [HL.out]; omega))
   have Hstop := Lib.hid (hP.out.1.stop (by rw [Hl0.out]; simp))
   go_wp2_with fail
   refine bodyPost_ret (v := .tuple #[.slice A n c, .string ⟨#[]⟩]) (by simp [results, Tryz.results22, go_sem]) rfl ?_
   have h1 := hP.out.1
   rw [Hstop.out] at h1
   have h2 := drop_end Hstop.out hP.out.2.1
   have h3 := hP.out.2.2.2
   rw [h2, List.take_length] at h3
   have h4 := h1.stays
   rw [Hl0.out] at h4
   subst h4
   rw [Hn.out]
   exact ⟨A, c, ss, rfl, h3, by rw [← Hn.out]; exact hO.out.1, hO.out.2⟩
set_option maxRecDepth 100000 in
set_option maxHeartbeats 4000000 in
theorem rparse20 {w : World} {B : Nat} {s : ByteArray} {S : List StP} {left : List UInt8} (hg : Gl B w) (hs : s.size ≤ 6000) (hA : AllSays left S s.data.toList) :
  Calls Tryz.prog 20 #[.string s] w (ParseOut w S left) := by
 have HA := Lib.hid (rall_any hg hs hA)
 have hlen := hA.len
 have hsl : s.data.toList.length = s.size := Array.length_toList
 have HS4 := Lib.hid (show S.length ≤ 3000 by omega)
 have hs6 : ¬ (1048576 : Int) < (s.size : Int) := by omega
 clear hg hs hA hlen hsl
 go_enter Tryz.func20, Tryz.ntmps20
 go_wp2_with fail
 refine HA.out.mono ?_
 rintro _ W1 ⟨A, c, ss, rfl, hm, hl, hb⟩
 have HI := Lib.hid (And.intro hm (And.intro hl hb))
 have hss : ¬ (4096 : Int) < (ss.length : Int) := by
  have h := congrArg List.length hm
  rw [List.length_map] at h
  have := HS4.out; omega
 clear hm hl hb
 by_cases hne : left = []
 ·subst hne
  go_wp2_with fail
  refine bodyPost_ret (v := .tuple #[.slice A ss.length c, .int .i64 (ss.length : Int), .int .i64 0]) (by simp [results, Tryz.results20, go_sem]) rfl ?_
  exact ⟨fun _ => ⟨A, c, ss, rfl, HI.out.1, HI.out.2.1⟩, fun h => absurd rfl h, HI.out.2.2⟩
 ·have x1 : ¬ (⟨left.toArray⟩ : ByteArray).toList = [] := fun h => hne (by rw [ByteArray.toList_eq] at h; simpa using h)
  have x2 : ((⟨left.toArray⟩ : ByteArray).toList == []) = false := by simpa using x1
  have x3 : (⟨left.toArray⟩ : ByteArray).toList.isEmpty = false := by simpa using x1
  have x4 : left.isEmpty = false := by simpa using hne
  have Hne := Lib.hid hne
  have Hlen := Lib.hid (show ss.length = S.length by rw [← HI.out.1, List.length_map])
  clear hne
  go_wp2_with fail
  refine bodyPost_ret (v := .tuple #[.slice none 0 0, .int .i64 (ss.length : Int), .int .i64 400]) (by simp [results, Tryz.results20, go_sem]) rfl ?_
  exact ⟨fun h => absurd h Hne.out, fun _ => by rw [Hlen.out], HI.out.2.2⟩
set_option maxRecDepth 100000 in
theorem rparse_big {w : World} {s : ByteArray} (hs : (1048576 : Int) < (s.size : Int)) : Calls Tryz.prog 20 #[.string s] w (fun e w' => e = .returned (.tuple #[.slice none 0 0, .int .i64 0, .int .i64 3]) ∧ w' = w) := by
 go_enter Tryz.func20, Tryz.ntmps20
 go_wp2_with fail
 refine bodyPost_ret (v := .tuple #[.slice none 0 0, .int .i64 0, .int .i64 3]) (by simp [results, Tryz.results20, go_sem]) rfl ?_
 exact ⟨rfl, rfl⟩
set_option maxRecDepth 100000 in
theorem parse_big {w : World} {s : ByteArray} (hs : (1048576 : Int) < (s.size : Int)) : Calls Tryz.prog 19 #[.string s] w (fun e w' => e = .returned (.tuple #[.slice none 0 0, .int .i64 0, .int .i64 3]) ∧ w' = w) := by
 refine (callsIn_wide (n := 3)).1 ?_
 refine callsIn_of_wp_marks Tryz.func19 rfl trivial ?_ rfl
 simp only [Tryz.ntmps19, List.size_toArray, List.length_cons, List.length_nil, Nat.reduceAdd, Nat.reduceSub, Array.replicate_succ, Array.replicate_zero, List.push_toArray, List.append_toArray, List.nil_append, List.cons_append]
 gi_wp2_with fail
 refine leaves_marks (fun V => V = w) [] ?_ ?_ _ rfl ?_ (by simp)
 ·intro V D hD; cases hD
 ·rintro V rfl
  exact ⟨.tuple #[.slice none 0 0, .int .i64 0, .int .i64 3], by simp [results, Tryz.results19, go_sem], rfl, rfl⟩
 ·intro D hD; cases hD
set_option maxRecDepth 100000 in
set_option maxHeartbeats 8000000 in
theorem same21 {w : World} {A A' : Option Addr} {c c' : Nat} {ss tt : List StR} (h : ReadsT w w.heap.size A ss) (h' : ReadsT w w.heap.size A' tt) (he : ss.map StR.p = tt.map StR.p) (hf : ∀ s ∈ ss, s.p.fit) (hl : ss.length ≤ 6000) :
  Calls Tryz.prog 21 #[.slice A ss.length c, .slice A' tt.length c'] w (fun e w' => e = .returned (.bool true) ∧ Below w.heap.size w w') := by
 have hlen : tt.length = ss.length := by have := congrArg List.length he; simpa using this.symm
 rw [hlen]
 have H := Lib.hid (fun W (hb : Below w.heap.size w W) => h.calm (Nat.le_refl _) hb)
 have H' := Lib.hid (fun W (hb : Below w.heap.size w W) => h'.calm (Nat.le_refl _) hb)
 have He := Lib.hid he
 have Hf := Lib.hid hf
 have Hlen := Lib.hid hlen
 generalize hn : ss.length = n at *
 have Hn := Lib.hid hn
 have hl4 : (n : Int) ≤ 6000 := by omega
 have e0 : ((n : Int) == (n : Int)) = true := by simp
 clear h h' he hf hlen hn hl
 go_enter Tryz.func21, Tryz.ntmps21
 go_wp2_with fail
 go_loopg [5, 6] n (fun k iv bv wr => ∃ i : Nat, iv = .int .i64 (i : Int) ∧ k = n - i ∧ i ≤ n ∧ Hid (Below w.heap.size w wr))
 case atStart => exact ⟨0, rfl, by omega, by omega, Lib.hid (Below.refl _ _)⟩
 case round =>
  obtain ⟨i, rfl, hk, hi, hO⟩ := hrel
  have Hk := Lib.hid hk
  clear hk
  by_cases hin : i < n
  ·have hii : (i : Int) < (n : Int) := by omega
   have hi0 : (0 : Int) ≤ (i : Int) := by omega
   have his : i < ss.length := by rw [Hn.out]; exact hin
   have hit : i < tt.length := by rw [Hlen.out]; exact hin
   obtain ⟨ad, rfl, hb1, _, _⟩ := (H.out _ hO.out).cells his
   obtain ⟨ad', rfl, hb1', _, _⟩ := (H'.out _ hO.out).cells hit
   have HC := Lib.hid (fun (W : World) (hb : Below w.heap.size w W) => show (W.cell? (ad.add (i * 3)) = some (.string ss[i].v) ∧ W.cell? ⟨(ad.add (i * 3)).block, (ad.add (i * 3)).off + 1, none⟩ = some (.string ss[i].nm) ∧ W.cell? ⟨(ad.add (i * 3)).block, (ad.add (i * 3)).off + 2, none⟩ = some (.slice ss[i].A ss[i].rs.length ss[i].c)) ∧ ReadsA W W.heap.size ss[i].A ss[i].rs from by
    obtain ⟨a2, e, _, d2, ha'⟩ := (H.out W hb).cells his
    injection e with e
    subst e
    exact ⟨d2, ha'⟩)
   have HC' := Lib.hid (fun (W : World) (hb : Below w.heap.size w W) => show (W.cell? (ad'.add (i * 3)) = some (.string tt[i].v) ∧ W.cell? ⟨(ad'.add (i * 3)).block, (ad'.add (i * 3)).off + 1, none⟩ = some (.string tt[i].nm) ∧ W.cell? ⟨(ad'.add (i * 3)).block, (ad'.add (i * 3)).off + 2, none⟩ = some (.slice tt[i].A tt[i].rs.length tt[i].c)) ∧ ReadsA W W.heap.size tt[i].A tt[i].rs from by
    obtain ⟨a2, e, _, d2, ha'⟩ := (H'.out W hb).cells hit
    injection e with e
    subst e
    exact ⟨d2, ha'⟩)
   have Hp := Lib.hid (show ss[i].p = tt[i].p by
    have h1 : (ss.map StR.p)[i]? = (tt.map StR.p)[i]? := by rw [He.out]
    rw [List.getElem?_map, List.getElem?_map, List.getElem?_eq_getElem his, List.getElem?_eq_getElem hit] at h1
    simpa using h1)
   have Hfi := Lib.hid (Hf.out _ (List.getElem_mem his))
   clear hb1 hb1'
   generalize ss[i] = s at *
   generalize tt[i] = t at *
   clear his hit
   have HS := Lib.hid (sst_any (s := s) (t := t) (b := true) (HC.out _ hO.out).2 (HC'.out _ hO.out).2 (Nat.le_refl _) Hfi.out (by rw [← Hp.out]; exact Hfi.out) ⟨fun _ => Hp.out, fun _ => rfl⟩)
   have H11 := Lib.hid (fun W (hb : Below wr.heap.size wr W) => sst_any (s := s) (t := t) (b := true) (HC.out W (hO.out.trans (hb.mono hO.out.size))).2 (HC'.out W (hO.out.trans (hb.mono hO.out.size))).2 (Nat.le_refl _) Hfi.out (by rw [← Hp.out]; exact Hfi.out) ⟨fun _ => Hp.out, fun _ => rfl⟩)
   obtain ⟨v, nm, A1, c1, rs⟩ := s
   obtain ⟨v2, nm2, A2, c2, rs2⟩ := t
   simp only at HC HC'
   unfold StR.cells at H11
   simp only at H11
   clear HS
   have Hkeep : Hid (∀ w', Below wr.heap.size wr w' → (w'.cell? (ad.add (i * 3)) = some (.string v) ∧ w'.cell? ⟨(ad.add (i * 3)).block, (ad.add (i * 3)).off + 1, none⟩ = some (.string nm) ∧ w'.cell? ⟨(ad.add (i * 3)).block, (ad.add (i * 3)).off + 2, none⟩ = some (.slice A1 rs.length c1) ∧ w'.cell? (ad'.add (i * 3)) = some (.string v2) ∧ w'.cell? ⟨(ad'.add (i * 3)).block, (ad'.add (i * 3)).off + 1, none⟩ = some (.string nm2) ∧ w'.cell? ⟨(ad'.add (i * 3)).block, (ad'.add (i * 3)).off + 2, none⟩ = some (.slice A2 rs2.length c2))) := Lib.hid fun w' hb => by
    obtain ⟨d0, d1, d2⟩ := (HC.out _ (hO.out.trans (hb.mono hO.out.size))).1
    obtain ⟨f0, f1, f2⟩ := (HC'.out _ (hO.out.trans (hb.mono hO.out.size))).1
    exact ⟨d0, d1, d2, f0, f1, f2⟩
   obtain ⟨x0, x1, x2, y0, y1, y2⟩ := Hkeep.out _ (Below.refl _ _)
   go_wp2_with fail
   go_region_held3 (fun w' => w'.cell? (ad.add (i * 3)) = some (.string v) ∧ w'.cell? ⟨(ad.add (i * 3)).block, (ad.add (i * 3)).off + 1, none⟩ = some (.string nm) ∧ w'.cell? ⟨(ad.add (i * 3)).block, (ad.add (i * 3)).off + 2, none⟩ = some (.slice A1 rs.length c1) ∧ w'.cell? (ad'.add (i * 3)) = some (.string v2) ∧ w'.cell? ⟨(ad'.add (i * 3)).block, (ad'.add (i * 3)).off + 1, none⟩ = some (.string nm2) ∧ w'.cell? ⟨(ad'.add (i * 3)).block, (ad'.add (i * 3)).off + 2, none⟩ = some (.slice A2 rs2.length c2))
    (first | go_keep | exact Hkeep.out _ hc11)
    (first | (go_at_call 11; (with_reducible refine (H11.out _ (Below.refl _ _).drew).mono ?_); rintro _ V1 ⟨rfl, hb11⟩; have hc11 : Below wr.heap.size wr V1 := ((Below.refl wr.heap.size wr).drew).trans hb11))
   go_wp2_with fail
   go_roundg (n - (i + 1))
   case measure => have := Hk.out; omega
   case rel => exact ⟨i + 1, rfl, rfl, by omega, Lib.hid (hO.out.trans (hc11.mono hO.out.size))⟩
  ·have hii : ¬ (i : Int) < (n : Int) := by omega
   go_wp2_with fail
   go_ret
   exact ⟨rfl, hO.out⟩
end Go.Proofs.YtebpggfccljagaaGreatDoor
namespace Go.Proofs.YtebpggfccljagaaGreatDoor
open Go.RowKit Go.Shelf
open Wh
set_option linter.unusedSimpArgs false
set_option linter.unusedVariables false
section
variable {l n : Nat} {P : Program} {md : Region.Mode} {ops : Array Oper} {Q : Exit → Act → World → Prop}
theorem opIn_of_op {o : Oper} {a : Act} {w : World} {K : Act → World → Prop} (hd : ∀ c, o.op ≠ .defer c) (h : o.wp P a w K Q) : o.wpIn (Fence.wide.inRound l) n P a w K Q := by
 unfold Oper.wpIn
 refine ⟨fun _ _ => trivial, ?_⟩
 rw [Oper.semAt_eq _ _ _ hd]
 unfold Oper.wp at h
 generalize (execOp a.eval o).run P w = r at *
 cases r with
 | ok x w' =>
  cases x with
  | value v => exact h
  | skip => exact h
  | defer d => exact h
  | enter f args =>
   refine ⟨(fun h => nomatch h), CallsIn.inRound l (CallsIn.mono (callsIn_wide.2 h) fun e w'' he => ?_)⟩
   cases e <;> exact he
  | row row args =>
   refine ⟨(fun h => nomatch h), fun c cs _ => ?_⟩
   obtain ⟨v, w'', hr, hs⟩ := h c cs
   exact ⟨v, w'', hr, stepsIn_wide.2 hs⟩
  | _ => exact h.elim
 | halt x w' => cases x <;> exact h
theorem anyIn_of_any (hlo : ¬ LetsOut Q) (hd : ∀ (i : Nat) (o : Oper), ops[i]? = some o → ∀ c, o.op ≠ .defer c) : ∀ (fuel : Nat) (listed : Array Bool) (a : Act) (w : World), wpAny P md ops Q fuel listed a w → wpAnyIn (Fence.wide.inRound l) n P md ops Q fuel listed a w
 | 0, _, _, _, h => h
 | fuel + 1, listed, a, w, h => ⟨h.1, fun i hi => by
  have h2 := h.2 i hi
  unfold wpOp at h2
  unfold wpOpIn
  cases ho : ops[i]? with
  | none =>
   rw [ho] at h2
   exact anyIn_of_any hlo hd fuel _ _ _ h2
  | some o =>
   rw [ho] at h2
   simp only at h2 ⊢
   by_cases hw : Region.wanted o (yielded ops a.tmps) = true
   ·rw [if_pos hw] at h2 ⊢
    rcases h2 with h2 | h2
    ·exact Oper.wpIn_mono (fun a' w' h' => anyIn_of_any hlo hd fuel _ _ _ h') (opIn_of_op (hd i o ho) h2)
    ·exact absurd h2.2 hlo
   ·rw [if_neg hw] at h2 ⊢
    exact ⟨fun _ _ => trivial, anyIn_of_any hlo hd fuel _ _ _ h2⟩⟩
def notDefer (o : Oper) : Bool := match o.op with
 | .defer _ => false
 | _ => true
theorem no_defer (h : ops.all notDefer = true) : ∀ (i : Nat) (o : Oper), ops[i]? = some o → ∀ c, o.op ≠ .defer c := by
 intro i o ho c hc
 have h1 := Array.all_eq_true'.1 h o (Array.mem_of_getElem? ho)
 unfold notDefer at h1
 rw [hc] at h1
 cases h1
theorem wpIn_region_HK {id : Nat} {a : Act} {w : World} (C : World → Prop) (k : Nat) (hm : P.follows .mixedOrders = true) (hlo : ¬ LetsOut Q) (hd : ∀ (i : Nat) (o : Oper), ops[i]? = some o → ∀ c, o.op ≠ .defer c) (hC : C w.drew)
  (h : C w.drew → wpHK P .any ops Q C k ops.size (Array.replicate ops.size false) a w.drew) : (Code.region id ops true).wpIn (Fence.wide.inRound l) n P Q a w :=
 wpIn_region_any hm (anyIn_of_any hlo hd _ _ _ _ (wpAny_of_K _ _ _ _ (h hC (closed_start _))))
end
attribute [local go_sem] Oper.semAt_some
structure ParE (w VE : World) (B b3 b4 b11 bt : Nat) (s : ByteArray) (lv : Int) (A : Option Addr) (c L : Nat) (ss : List StR) (S : List StP) (left : List UInt8) : Prop where
 f3 : Blk VE b3 3 #[.int .i64 lv]
 f4 : Blk VE b4 4 #[.bool false]
 f11 : Blk VE b11 51 #[.slice A L c]
 ft : Blk VE bt 9 #[.string s]
 rd : ReadsT VE VE.heap.size A ss
 len : L = ss.length
 mp : ss.map StR.p = S
 says : AllSays left S s.data.toList
 g : Gl B VE
 b : Below w.heap.size w VE
 lt4 : w.heap.size ≤ b4
 size : s.size ≤ 6000
def TInv (VE : World) (p : Nat) (Ds : List Nat) (W : World) : Prop :=
 Below VE.heap.size VE W ∧ Blk W p 3 #[.int .i64 (Ds.length : Int)] ∧ VE.heap.size ≤ p ∧ (∀ D ∈ Ds, W.heap[D]? = some (.deferred (some [])) ∧ VE.heap.size ≤ D) ∧ Ds.Nodup
def RInv (VE : World) (p T : Nat) (t : Nat) (Ds : List Nat) (S : List StP) (z : Int) (W : World) : Prop :=
 Below VE.heap.size VE W ∧ Blk W p 3 #[.int .i64 (t : Int)] ∧ Blk W T 3 #[.int .i64 z] ∧ (VE.heap.size ≤ p ∧ p < T) ∧ (∀ D ∈ Ds, W.heap[D]? = some (.deferred (some [])) ∧ VE.heap.size ≤ D ∧ D < T) ∧ Ds.Nodup
theorem RInv.below {VE W W' : World} {p T t : Nat} {Ds : List Nat} {S : List StP} {z : Int} (h : RInv VE p T t Ds S z W) (hb : Below W.heap.size W W') : RInv VE p T t Ds S z W' :=
 ⟨h.1.trans (hb.mono h.1.size), h.2.1.below hb h.2.1.lt, h.2.2.1.below hb h.2.2.1.lt, h.2.2.2.1, fun D hD => ⟨(hb.block D (Array.getElem?_eq_some_iff.1 (h.2.2.2.2.1 D hD).1).1).trans (h.2.2.2.2.1 D hD).1, (h.2.2.2.2.1 D hD).2⟩, h.2.2.2.2.2⟩
theorem RInv.put {VE W : World} {p T t l : Nat} {Ds : List Nat} {S : List StP} {z : Int} {o o' : Obj} (h : RInv VE p T t Ds S z W) (hT : T < l) (hl : W.heap[l]? = some o) (hn : o.isCells = false) : RInv VE p T t Ds S z (W.putObj l o') :=
 ⟨below_put h.1 h.1.size (by have := h.2.2.2.1; omega), blk_put h.2.1 hl hn, blk_put h.2.2.1 hl hn, h.2.2.2.1, fun D hD => ⟨(World.putObj_heap_other (by have := (h.2.2.2.2.1 D hD).2.2; omega)).trans (h.2.2.2.2.1 D hD).1, (h.2.2.2.2.1 D hD).2⟩, h.2.2.2.2.2⟩
theorem RInv.up {VE W : World} {p T t : Nat} {Ds : List Nat} {S : List StP} {z : Int} (h : RInv VE p T t Ds S z W) (z' : Int) : RInv VE p T t Ds S z' (W.setCell ⟨T, 0, none⟩ (.int .i64 z')) :=
 ⟨h.1.setCell (p := ⟨T, 0, none⟩) (by have := h.2.2.2.1; show VE.heap.size ≤ T; omega) _, h.2.1.far (p := ⟨T, 0, none⟩) (by have := h.2.2.2.1; show p ≠ T; omega) _, h.2.2.1.set_ 0 _, h.2.2.2.1,
  fun D hD => ⟨(Below.heap_setCell W ⟨T, 0, none⟩ _ D (by have := (h.2.2.2.2.1 D hD).2.2; show D ≠ T; omega)).trans (h.2.2.2.2.1 D hD).1, (h.2.2.2.2.1 D hD).2⟩, h.2.2.2.2.2⟩
theorem RInv.start {VE W : World} {p : Nat} {Ds : List Nat} {S : List StP} (h : TInv VE p Ds W) : RInv VE p W.heap.size Ds.length Ds S 0 (W.alloc (.cells #[.int .i64 0] 3)) :=
 ⟨h.1.alloc h.1.size _, h.2.1.alloc _, Blk.new W 3 _, ⟨h.2.2.1, h.2.1.lt⟩, fun D hD => by
  have h1 := (h.2.2.2.1 D hD).1
  have h2 := (Array.getElem?_eq_some_iff.1 h1).1
  exact ⟨(Below.heap_alloc W _ D h2).trans h1, (h.2.2.2.1 D hD).2, h2⟩, h.2.2.2.2⟩
theorem RInv.next {VE W : World} {p T D : Nat} {Ds : List Nat} {S : List StP} {z : Int} (h : RInv VE p T Ds.length Ds S z W) (hD : T < D) (hW : W.heap[D]? = some (.deferred (some []))) :
  TInv VE W.heap.size (D :: Ds) (W.alloc (.cells #[.int .i64 ((Ds.length : Int) + 1)] 3)) := by
 have h0 := h.2.2.2.1
 refine ⟨h.1.alloc h.1.size _, ?_, h.1.size, fun E hE => ?_, List.nodup_cons.2 ⟨fun hm => by have := (h.2.2.2.2.1 D hm).2.2; omega, h.2.2.2.2.2⟩⟩
 ·have h1 := Blk.new W 3 #[.int .i64 ((Ds.length : Int) + 1)]
  rw [show (((D :: Ds).length : Nat) : Int) = (Ds.length : Int) + 1 by simp]
  exact h1
 ·rcases List.mem_cons.1 hE with hE | hE
  ·rw [hE]
   exact ⟨(Below.heap_alloc W _ D (Array.getElem?_eq_some_iff.1 hW).1).trans hW, by omega⟩
  ·have h1 := (h.2.2.2.2.1 E hE).1
   exact ⟨(Below.heap_alloc W _ E (Array.getElem?_eq_some_iff.1 h1).1).trans h1, (h.2.2.2.2.1 E hE).2.1⟩
def FrP (s : ByteArray) (lv : Int) (b3 b4 b11 bt p : Nat) (v : Nat → Value) : Array Value := #[.string s, .int .i64 lv, v 2, .pointer (some ⟨b3, 0, none⟩), .pointer (some ⟨b4, 0, none⟩), v 5, v 6, v 7, v 8, v 9, v 10, .pointer (some ⟨b11, 0, none⟩), v 12, .func (.func 56) #[] #[.pointer (some ⟨bt, 0, none⟩)], .pointer (some ⟨p, 0, none⟩), v 15, v 16, v 17, v 18, v 19, v 20, v 21, v 22, v 23, v 24, v 25, v 26, v 27, v 28, v 29, v 30, v 31, v 32, v 33, v 34, v 35, v 36, v 37, v 38, v 39, v 40, v 41, v 42, v 43, v 44, v 45, v 46, v 47, v 48, v 49, v 50, v 51, v 52, v 53, v 54, v 55, v 56, v 57, v 58, v 59, v 60, v 61, v 62, v 63, v 64, v 65, v 66, v 67, v 68, v 69, v 70, v 71, v 72, v 73, v 74, v 75, v 76, v 77, v 78, v 79, v 80, v 81, v 82, v 83, v 84, v 85, v 86, v 87, v 88, v 89, v 90, v 91, v 92, v 93, v 94, v 95, v 96, v 97, v 98, v 99, v 100, v 101, v 102, v 103, v 104, v 105, v 106, v 107, v 108, v 109, v 110, v 111, v 112, v 113, v 114]
def FrZ (s : ByteArray) (lv : Int) (b3 b4 b11 bt : Nat) (v : Nat → Value) : Array Value := #[.string s, .int .i64 lv, v 2, .pointer (some ⟨b3, 0, none⟩), .pointer (some ⟨b4, 0, none⟩), v 5, v 6, v 7, v 8, v 9, v 10, .pointer (some ⟨b11, 0, none⟩), v 12, .func (.func 56) #[] #[.pointer (some ⟨bt, 0, none⟩)], v 14, v 15, v 16, v 17, v 18, v 19, v 20, v 21, v 22, v 23, v 24, v 25, v 26, v 27, v 28, v 29, v 30, v 31, v 32, v 33, v 34, v 35, v 36, v 37, v 38, v 39, v 40, v 41, v 42, v 43, v 44, v 45, v 46, v 47, v 48, v 49, v 50, v 51, v 52, v 53, v 54, v 55, v 56, v 57, v 58, v 59, v 60, v 61, v 62, v 63, v 64, v 65, v 66, v 67, v 68, v 69, v 70, v 71, v 72, v 73, v 74, v 75, v 76, v 77, v 78, v 79, v 80, v 81, v 82, v 83, v 84, v 85, v 86, v 87, v 88, v 89, v 90, v 91, v 92, v 93, v 94, v 95, v 96, v 97, v 98, v 99, v 100, v 101, v 102, v 103, v 104, v 105, v 106, v 107, v 108, v 109, v 110, v 111, v 112, v 113, v 114]
def TI (VE : World) (s : ByteArray) (lv : Int) (b3 b4 b11 bt : Nat) (a : Act) (W : World) : Prop := ∃ (p : Nat) (Ds : List Nat) (v : Nat → Value), a = ⟨FrP s lv b3 b4 b11 bt p v, Ds.map mkD⟩ ∧ Ds.length ≤ 2 ∧ Hid (TInv VE p Ds W)
theorem ti_intro {VE W : World} {s : ByteArray} {lv : Int} {b3 b4 b11 bt p : Nat} {tm : Array Value} {ds : List Deferred} (Ds : List Nat) (ht : Ds.length ≤ 2) (hT : TInv VE p Ds W) (h : tm = FrP s lv b3 b4 b11 bt p (fun i => tm.getD i undef)) (hd : ds = Ds.map mkD) : TI VE s lv b3 b4 b11 bt ⟨tm, ds⟩ W := ⟨p, Ds, _, by rw [hd, ← h], ht, Lib.hid hT⟩
set_option maxRecDepth 100000 in
set_option maxHeartbeats 8000000 in
theorem parse_rest {w VE : World} {B b3 b4 b11 bt c L : Nat} {s : ByteArray} {lv : Int} {A : Option Addr} {ss : List StR} {S : List StP} {left : List UInt8} {v : Nat → Value} (hE : ParE w VE B b3 b4 b11 bt s lv A c L ss S left) :
  (codeRest 9 (bodyOf Tryz.f5)).wpIn Fence.wide 3 Tryz.prog (bodyPostM Fence.wide 3 Tryz.prog Tryz.f5 (fun e w' => e = .returned (.bool true) ∧ Below w.heap.size w w')) ⟨#[.string s, .int .i64 lv, v 2, .pointer (some ⟨b3, 0, none⟩), .pointer (some ⟨b4, 0, none⟩), v 5, v 6, v 7, v 8, v 9, v 10, .pointer (some ⟨b11, 0, none⟩), v 12, .func (.func 56) #[] #[.pointer (some ⟨bt, 0, none⟩)], v 14, v 15, v 16, v 17, v 18, v 19, v 20, v 21, v 22, v 23, v 24, v 25, v 26, v 27, v 28, v 29, v 30, v 31, v 32, v 33, v 34, v 35, v 36, v 37, v 38, v 39, v 40, v 41, v 42, v 43, v 44, v 45, v 46, v 47, v 48, v 49, v 50, v 51, v 52, v 53, v 54, v 55, v 56, v 57, v 58, v 59, v 60, v 61, v 62, v 63, v 64, v 65, v 66, v 67, v 68, v 69, v 70, v 71, v 72, v 73, v 74, v 75, v 76, v 77, v 78, v 79, v 80, v 81, v 82, v 83, v 84, v 85, v 86, v 87, v 88, v 89, v 90, v 91, v 92, v 93, v 94, v 95, v 96, v 97, v 98, v 99, v 100, v 101, v 102, v 103, v 104, v 105, v 106, v 107, v 108, v 109, v 110, v 111, v 112, v 113, v 114], []⟩ VE := by
 conv => enter [4]; dsimp only [codeRest, bodyOf, Tryz.f5, Option.getD_some]
 have HE := Lib.hid hE
 clear hE
 have H0 := Lib.hid (show TInv VE VE.heap.size [] (VE.alloc (.cells #[.int .i64 0] 3)) from ⟨new_below _ _, Blk.new VE 3 _, Nat.le_refl _, (fun D hD => (by cases hD)), List.nodup_nil⟩)
 gi_wp2_with fail
 refine wpIn_loop (TI VE s lv b3 b4 b11 bt) (fun a _ => 2 - a.defers.length) ?h0 ?round
 case h0 => exact ti_intro [] (by simp) H0.out (by simp only [FrP]; rfl) rfl
 case round =>
  clear v
  rintro a W ⟨p, Ds, v, rfl, ht, hT⟩
  unfold FrP
  have c14 := hT.out.2.1.cell 0
  rw [show (#[Value.int .i64 (Ds.length : Int)] : Array Value)[0]? = some (.int .i64 (Ds.length : Int)) from rfl] at c14
  by_cases htl : Ds.length < 2
  ·have hti : (Ds.length : Int) < 2 := by omega
   gi_wp2_with fail
   have HT0 := Lib.hid (RInv.start (S := S) hT.out)
   obtain ⟨Wr, hWr⟩ : ∃ Wr, Wr = W.alloc (.cells #[.int .i64 0] 3) := ⟨_, rfl⟩
   obtain ⟨T, hTs⟩ : ∃ T, T = W.heap.size := ⟨_, rfl⟩
   have HR0 := Lib.hid (show RInv VE p T Ds.length Ds S 0 Wr ∧ Wr.heap.size = T + 1 by rw [hWr, hTs]; exact ⟨HT0.out, by simp⟩)
   rw [← hWr, ← hTs]
   clear hWr hTs HT0 c14
   refine wpIn_rangeFunc_T (lb := #[.pointer (some ⟨bt, 0, none⟩)]) (gf := 56) (S := S) (B := B) (w0 := Wr) rfl (by omega) rfl trivial (enters_of Tryz.func56 (by kernel_rfl) rfl) (all_seq HE.out.size HE.out.says (HE.out.ft.below HR0.out.1.1 HE.out.ft.lt)) (Below.refl _ _)
    (fun pre V => RInv VE p T Ds.length Ds S (pre.length : Int) V ∧ pre.map StR.p = S.take pre.length) (fun cd pre V => cd = .exit 2 ∧ Ds.length = 0 ∧ RInv VE p T Ds.length Ds S lv V)
    (fun pre V V' h hb => ⟨h.1.below hb, h.2⟩) (fun pre V h => ⟨HE.out.g.below h.1.1, by rw [HR0.out.2]; exact h.1.2.2.1.lt⟩)
    (fun pre V l o o' h hl ho hn => ⟨h.1.put (by have := HR0.out.2; omega) ho hn, h.2⟩) (fun cd pre V l o o' h hl ho hn => ⟨h.1, h.2.1, h.2.2.put (by have := HR0.out.2; omega) ho hn⟩)
    ⟨HR0.out.1, rfl⟩ (fun i x b => ⟨#[.string s, .int .i64 lv, v 2, .pointer (some ⟨b3, 0, none⟩), .pointer (some ⟨b4, 0, none⟩), v 5, v 6, v 7, v 8, v 9, v 10, .pointer (some ⟨b11, 0, none⟩), v 12, .func (.func 56) #[] #[.pointer (some ⟨bt, 0, none⟩)], .pointer (some ⟨p, 0, none⟩), .pointer (some ⟨T, 0, none⟩), .int .i64 (i : Int), .pointer (some ⟨b, 0, none⟩), v 18, v 19, v 20, v 21, v 22, v 23, v 24, v 25, v 26, v 27, v 28, v 29, v 30, v 31, v 32, v 33, v 34, v 35, v 36, v 37, v 38, v 39, v 40, v 41, v 42, v 43, v 44, v 45, v 46, v 47, v 48, v 49, v 50, v 51, v 52, v 53, v 54, v 55, v 56, v 57, v 58, v 59, v 60, v 61, v 62, v 63, v 64, v 65, .int .i64 (Ds.length : Int), .bool true, v 68, v 69, .func (.func 56) #[] #[.pointer (some ⟨bt, 0, none⟩)], .int .i64 (i : Int), .agg x.cells, v 73, v 74, v 75, v 76, v 77, v 78, v 79, v 80, v 81, v 82, v 83, v 84, v 85, v 86, v 87, v 88, v 89, v 90, v 91, v 92, v 93, v 94, v 95, v 96, v 97, v 98, v 99, v 100, v 101, v 102, v 103, v 104, v 105, v 106, v 107, v 108, v 109, v 110, v 111, v 112, v 113, v 114], []⟩) ?assign ?body ?done ?stop
   case assign =>
    intro l i x V K hK
    obtain ⟨xv, xn, xA, xc, xr⟩ := x
    unfold StR.cells at hK ⊢
    simp only at hK ⊢
    gi_wp2_with fail
    exact hK
   case body =>
    intro l pre x V ⟨hR, hmap⟩ hSx hlx
    have hML := (List.getElem?_eq_some_iff.1 hSx).1
    have hMs : pre.length < ss.length := by have := congrArg List.length HE.out.mp; rw [List.length_map] at this; omega
    have hxok : x.p.ok := HE.out.says.ok _ (List.mem_of_getElem? hSx)
    have hxf := ok_fit hxok
    have hsp : ss[pre.length].p = x.p := by
     have h1 := hSx
     rw [← HE.out.mp, List.getElem?_map, List.getElem?_eq_getElem hMs] at h1
     simpa using h1
    obtain ⟨ad, hA, _, ⟨d0, d1, d2⟩, hya⟩ := (HE.out.rd.calm (Nat.le_refl _) hR.1).cells hMs
    have hxa := (lent_readsA hlx hxf.2).1
    obtain ⟨xv, xn, xA, xc, xr⟩ := x
    unfold StR.cells
    simp only at hxa ⊢
    have hb1 := new_below V (.cells #[.string xv, .string xn, .slice xA xr.length xc] 25)
    have hbx := Blk.new V 25 #[.string xv, .string xn, .slice xA xr.length xc]
    have HN := Lib.hid (show ∀ V', RInv VE p T Ds.length Ds S ((pre.length : Int) + 1) V' → RInv VE p T Ds.length Ds S ((pre ++ [(⟨xv, xn, xA, xc, xr⟩ : StR)]).length : Int) V' ∧ (pre ++ [(⟨xv, xn, xA, xc, xr⟩ : StR)]).map StR.p = S.take (pre ++ [(⟨xv, xn, xA, xc, xr⟩ : StR)]).length from fun V' h => by
     have e : (((pre ++ [(⟨xv, xn, xA, xc, xr⟩ : StR)]).length : Nat) : Int) = (pre.length : Int) + 1 := by simp
     refine ⟨by rw [e]; exact h, ?_⟩
     rw [List.map_append, hmap, List.length_append, List.length_singleton, List.take_add_one, hSx]
     rfl)
    generalize ss[pre.length] = y at *
    have H11 := Lib.hid (fun W (hb : Below (V.alloc (.cells #[.string xv, .string xn, .slice xA xr.length xc] 25)).heap.size (V.alloc (.cells #[.string xv, .string xn, .slice xA xr.length xc] 25)) W) => sst_any (s := ⟨xv, xn, xA, xc, xr⟩) (t := y) (b := true) ((hxa.calm (Nat.le_refl _) hb1).calm (Nat.le_refl _) hb) ((hya.calm (Nat.le_refl _) hb1).calm (Nat.le_refl _) hb) (Nat.le_refl _) hxf.1 (by rw [hsp]; exact hxf.1) ⟨fun _ => hsp.symm, fun _ => rfl⟩)
    obtain ⟨yv, yn, yA, yc, yr⟩ := y
    unfold StR.cells at H11
    simp only at H11 d0 d1 d2
    have HR := Lib.hid (And.intro hR (show pre.length < L by rw [HE.out.len]; exact hMs))
    have hL3 : L ≤ 3000 := by
     have h1 := HE.out.says.len
     have h2 := HE.out.size
     have h3 : s.data.toList.length = s.size := Array.length_toList
     have h4 := HE.out.len
     have h5 := congrArg List.length HE.out.mp
     rw [List.length_map] at h5
     omega
    have hf11 := (HE.out.f11.below hR.1 HE.out.f11.lt).alloc (.cells #[.string xv, .string xn, .slice xA xr.length xc] 25)
    rw [hA] at hf11
    have hT1 := hR.2.2.1.alloc (.cells #[.string xv, .string xn, .slice xA xr.length xc] 25)
    have dd0 := (hb1.cell (block_lt_of_cell d0)).trans d0
    have dd1 := (hb1.cell (block_lt_of_cell d1)).trans d1
    have dd2 := (hb1.cell (block_lt_of_cell d2)).trans d2
    have Hb1 := Lib.hid hb1
    generalize pre.length = M at *
    have HC := Lib.hid (And.intro (show (V.alloc (.cells #[.string xv, .string xn, .slice xA xr.length xc] 25)).drew.cell? ⟨T, 0, none⟩ = some (.int .i64 (M : Int)) from hT1.cell 0) (And.intro (show (V.alloc (.cells #[.string xv, .string xn, .slice xA xr.length xc] 25)).drew.cell? ⟨b11, 0, none⟩ = some (.slice (some ad) L c) from hf11.cell 0) (And.intro (show (V.alloc (.cells #[.string xv, .string xn, .slice xA xr.length xc] 25)).drew.cell? ⟨V.heap.size, 0, none⟩ = some (.string xv) from hbx.cell 0) (And.intro (show (V.alloc (.cells #[.string xv, .string xn, .slice xA xr.length xc] 25)).drew.cell? ⟨V.heap.size, 1, none⟩ = some (.string xn) from hbx.cell 1) (And.intro (show (V.alloc (.cells #[.string xv, .string xn, .slice xA xr.length xc] 25)).drew.cell? ⟨V.heap.size, 2, none⟩ = some (.slice xA xr.length xc) from hbx.cell 2) (And.intro dd0 (And.intro dd1 dd2)))))))
    have hMi : (M : Int) < (L : Int) := by have := HR.out.2; omega
    have hM0 : (0 : Int) ≤ (M : Int) := by omega
    have hM3 : (M : Int) ≤ 3000 := by have := HR.out.2; omega
    have e1 : ((M : Int) != (M : Int)) = false := by simp
    have e2 : decide (L ≤ M) = false := by simp; have := HR.out.2; omega
    have e3 : decide ((L : Int) ≤ (M : Int)) = false := by simp; have := HR.out.2; omega
    clear hR hmap hSx hlx hML hMs hxok hxf hsp hA d0 d1 d2 hya hxa hb1 hbx hL3 hf11 hT1 dd0 dd1 dd2
    gi_wp2_with fail
    refine wpIn_region_HK (fun w' => w'.cell? ⟨T, 0, none⟩ = some (.int .i64 (M : Int)) ∧ w'.cell? ⟨b11, 0, none⟩ = some (.slice (some ad) L c) ∧ w'.cell? ⟨V.heap.size, 0, none⟩ = some (.string xv) ∧ w'.cell? ⟨V.heap.size, 1, none⟩ = some (.string xn) ∧ w'.cell? ⟨V.heap.size, 2, none⟩ = some (.slice xA xr.length xc) ∧ w'.cell? (ad.add (M * 3)) = some (.string yv) ∧ w'.cell? ⟨(ad.add (M * 3)).block, (ad.add (M * 3)).off + 1, none⟩ = some (.string yn) ∧ w'.cell? ⟨(ad.add (M * 3)).block, (ad.add (M * 3)).off + 2, none⟩ = some (.slice yA yr.length yc)) 15 (by kernel_rfl) (by rintro ⟨a, w, h⟩; exact h) (no_defer (by kernel_rfl)) HC.out (fun hHeld => ?_)
    refine wpHK_take (i := 0) (oi := Oper.mk (some 73) _ _ _ _ _) (v := ?_) rfl (by kernel_rfl) (by kernel_rfl) (by kernel_rfl) (by kernel_rfl) (fun _ _ _ h => h) (Or.inl ⟨by rfl, ?_⟩) (by assumption) ?_
    rotate_left
    ·(intro w' hSw; (try dsimp only at hSw); (obtain ⟨s1, s2, s3, s4, s5, s6, s7, s8⟩ := hSw); go_simp; try with_reducible rfl)
    try simp only [Act.put, List.setIfInBounds_toArray, List.set_cons_zero, List.set_cons_succ]
    refine wpHK_take (i := 1) (oi := Oper.mk (some 74) _ _ _ _ _) (v := ?_) rfl (by kernel_rfl) (by kernel_rfl) (by kernel_rfl) (by kernel_rfl) (fun _ _ _ h => h) (Or.inl ⟨by rfl, ?_⟩) (by assumption) ?_
    rotate_left
    ·(intro w' hSw; (try dsimp only at hSw); (obtain ⟨s1, s2, s3, s4, s5, s6, s7, s8⟩ := hSw); go_simp; try with_reducible rfl)
    try simp only [Act.put, List.setIfInBounds_toArray, List.set_cons_zero, List.set_cons_succ]
    refine wpHK_take (i := 2) (oi := Oper.mk (some 75) _ _ _ _ _) (v := ?_) rfl (by kernel_rfl) (by kernel_rfl) (by kernel_rfl) (by kernel_rfl) (fun _ _ _ h => h) (Or.inl ⟨by rfl, ?_⟩) (by assumption) ?_
    rotate_left
    ·(intro w' hSw; (try dsimp only at hSw); (obtain ⟨s1, s2, s3, s4, s5, s6, s7, s8⟩ := hSw); go_simp; try with_reducible rfl)
    try simp only [Act.put, List.setIfInBounds_toArray, List.set_cons_zero, List.set_cons_succ]
    refine wpHK_take (i := 3) (oi := Oper.mk (some 76) _ _ _ _ _) (v := ?_) rfl (by kernel_rfl) (by kernel_rfl) (by kernel_rfl) (by kernel_rfl) (fun _ _ _ h => h) (Or.inl ⟨by rfl, ?_⟩) (by assumption) ?_
    rotate_left
    ·(intro w' hSw; (try dsimp only at hSw); (obtain ⟨s1, s2, s3, s4, s5, s6, s7, s8⟩ := hSw); go_simp; try with_reducible rfl)
    try simp only [Act.put, List.setIfInBounds_toArray, List.set_cons_zero, List.set_cons_succ]
    refine wpHK_take (i := 4) (oi := Oper.mk (some 77) _ _ _ _ _) (v := ?_) rfl (by kernel_rfl) (by kernel_rfl) (by kernel_rfl) (by kernel_rfl) (fun _ _ _ h => h) (Or.inl ⟨by rfl, ?_⟩) (by assumption) ?_
    rotate_left
    ·(intro w' hSw; (try dsimp only at hSw); (obtain ⟨s1, s2, s3, s4, s5, s6, s7, s8⟩ := hSw); go_simp; try with_reducible rfl)
    try simp only [Act.put, List.setIfInBounds_toArray, List.set_cons_zero, List.set_cons_succ]
    refine wpHK_take (i := 5) (oi := Oper.mk (some 78) _ _ _ _ _) (v := ?_) rfl (by kernel_rfl) (by kernel_rfl) (by kernel_rfl) (by kernel_rfl) (fun _ _ _ h => h) (Or.inl ⟨by rfl, ?_⟩) (by assumption) ?_
    rotate_left
    ·(intro w' hSw; (try dsimp only at hSw); (obtain ⟨s1, s2, s3, s4, s5, s6, s7, s8⟩ := hSw); go_simp; try with_reducible rfl)
    try simp only [Act.put, List.setIfInBounds_toArray, List.set_cons_zero, List.set_cons_succ]
    refine wpHK_take (i := 6) (oi := Oper.mk (some 79) _ _ _ _ _) (v := ?_) rfl (by kernel_rfl) (by kernel_rfl) (by kernel_rfl) (by kernel_rfl) (fun _ _ _ h => h) (Or.inl ⟨by rfl, ?_⟩) (by assumption) ?_
    rotate_left
    ·(intro w' hSw; (try dsimp only at hSw); (obtain ⟨s1, s2, s3, s4, s5, s6, s7, s8⟩ := hSw); go_simp; try with_reducible rfl)
    try simp only [Act.put, List.setIfInBounds_toArray, List.set_cons_zero, List.set_cons_succ]
    refine wpHK_take (i := 7) (oi := Oper.mk (some 80) _ _ _ _ _) (v := ?_) rfl (by kernel_rfl) (by kernel_rfl) (by kernel_rfl) (by kernel_rfl) (fun _ _ _ h => h) (Or.inl ⟨by rfl, ?_⟩) (by assumption) ?_
    rotate_left
    ·(intro w' hSw; (try dsimp only at hSw); (obtain ⟨s1, s2, s3, s4, s5, s6, s7, s8⟩ := hSw); go_simp; try with_reducible rfl)
    try simp only [Act.put, List.setIfInBounds_toArray, List.set_cons_zero, List.set_cons_succ]
    refine wpHK_take (i := 8) (oi := Oper.mk (some 81) _ _ _ _ _) (v := ?_) rfl (by kernel_rfl) (by kernel_rfl) (by kernel_rfl) (by kernel_rfl) (fun _ _ _ h => h) (Or.inl ⟨by rfl, ?_⟩) (by assumption) ?_
    rotate_left
    ·(intro w' hSw; (try dsimp only at hSw); (obtain ⟨s1, s2, s3, s4, s5, s6, s7, s8⟩ := hSw); go_simp; try with_reducible rfl)
    try simp only [Act.put, List.setIfInBounds_toArray, List.set_cons_zero, List.set_cons_succ]
    refine wpHK_take (i := 9) (oi := Oper.mk (some 82) _ _ _ _ _) (v := ?_) rfl (by kernel_rfl) (by kernel_rfl) (by kernel_rfl) (by kernel_rfl) (fun _ _ _ h => h) (Or.inl ⟨by rfl, ?_⟩) (by assumption) ?_
    rotate_left
    ·(intro w' hSw; (try dsimp only at hSw); (obtain ⟨s1, s2, s3, s4, s5, s6, s7, s8⟩ := hSw); go_simp; try with_reducible rfl)
    try simp only [Act.put, List.setIfInBounds_toArray, List.set_cons_zero, List.set_cons_succ]
    refine wpHK_take (i := 10) (oi := Oper.mk (some 83) _ _ _ _ _) (v := ?_) rfl (by kernel_rfl) (by kernel_rfl) (by kernel_rfl) (by kernel_rfl) (fun _ _ _ h => h) (Or.inl ⟨by rfl, ?_⟩) (by assumption) ?_
    rotate_left
    ·(intro w' hSw; (try dsimp only at hSw); (obtain ⟨s1, s2, s3, s4, s5, s6, s7, s8⟩ := hSw); go_simp; try with_reducible rfl)
    try simp only [Act.put, List.setIfInBounds_toArray, List.set_cons_zero, List.set_cons_succ]
    refine wpHK_take (i := 11) (oi := Oper.mk (some 84) _ _ _ _ _) (v := ?_) rfl (by kernel_rfl) (by kernel_rfl) (by kernel_rfl) (by kernel_rfl) (fun _ _ _ h => h) (Or.inl ⟨by rfl, ?_⟩) (by assumption) ?_
    rotate_left
    ·(intro w' hSw; (try dsimp only at hSw); (obtain ⟨s1, s2, s3, s4, s5, s6, s7, s8⟩ := hSw); go_simp; try with_reducible rfl)
    try simp only [Act.put, List.setIfInBounds_toArray, List.set_cons_zero, List.set_cons_succ]
    refine wpHK_take (i := 12) (oi := Oper.mk (some 85) _ _ _ _ _) (v := ?_) rfl (by kernel_rfl) (by kernel_rfl) (by kernel_rfl) (by kernel_rfl) (fun _ _ _ h => h) (Or.inl ⟨by rfl, ?_⟩) (by assumption) ?_
    rotate_left
    ·(intro w' hSw; (try dsimp only at hSw); (obtain ⟨s1, s2, s3, s4, s5, s6, s7, s8⟩ := hSw); go_simp; try with_reducible rfl)
    try simp only [Act.put, List.setIfInBounds_toArray, List.set_cons_zero, List.set_cons_succ]
    refine wpHK_take (i := 13) (oi := Oper.mk (some 86) _ _ _ _ _) (v := ?_) rfl (by kernel_rfl) (by kernel_rfl) (by kernel_rfl) (by kernel_rfl) (fun _ _ _ h => h) (Or.inl ⟨by rfl, ?_⟩) (by assumption) ?_
    rotate_left
    ·(intro w' hSw; (try dsimp only at hSw); (obtain ⟨s1, s2, s3, s4, s5, s6, s7, s8⟩ := hSw); go_simp; try with_reducible rfl)
    try simp only [Act.put, List.setIfInBounds_toArray, List.set_cons_zero, List.set_cons_succ]
    refine wpHK_take (i := 14) (oi := Oper.mk (some 87) _ _ _ _ _) (v := ?_) rfl (by kernel_rfl) (by kernel_rfl) (by kernel_rfl) (by kernel_rfl) (fun _ _ _ h => h) (Or.inl ⟨by rfl, ?_⟩) (by assumption) ?_
    rotate_left
    ·(intro w' hSw; (try dsimp only at hSw); (obtain ⟨s1, s2, s3, s4, s5, s6, s7, s8⟩ := hSw); go_simp; try with_reducible rfl)
    try simp only [Act.put, List.setIfInBounds_toArray, List.set_cons_zero, List.set_cons_succ]
    refine wpHK_tail (j := 15) (o := Oper.mk (some 88) _ _ _ _ _) rfl (by kernel_rfl) (by decide) (fun K hK => ?_)
    go_simp
    refine (H11.out _ (Below.refl _ _).drew).mono ?_
    rintro e W3 ⟨rfl, hb3⟩
    refine hK.out _ _ ?_
    clear hK K
    try simp only [Act.put, List.setIfInBounds_toArray, List.set_cons_zero, List.set_cons_succ]
    refine wpHK_pure (i := 16) (oi := Oper.mk (some 89) _ _ _ _ _) (v := ?_) rfl (by kernel_rfl) (by kernel_rfl) (by kernel_rfl) (fun _ _ _ h => h) (Or.inl ⟨by rfl, ?_⟩) ?_
    rotate_left
    ·(intro w' _; go_simp; try with_reducible rfl)
    try simp only [Act.put, List.setIfInBounds_toArray, List.set_cons_zero, List.set_cons_succ]
    refine wpHK_pure (i := 17) (oi := Oper.mk (some 90) _ _ _ _ _) (v := ?_) rfl (by kernel_rfl) (by kernel_rfl) (by kernel_rfl) (fun _ _ _ h => h) (Or.inl ⟨by rfl, ?_⟩) ?_
    rotate_left
    ·(intro w' _; go_simp; try with_reducible rfl)
    try simp only [Act.put, List.setIfInBounds_toArray, List.set_cons_zero, List.set_cons_succ]
    refine wpHK_done (by kernel_rfl) ?_ _
    have HR3 := Lib.hid (HR.out.1.below (Hb1.out.trans ((show Below (V.alloc (.cells #[.string xv, .string xn, .slice xA xr.length xc] 25)).heap.size (V.alloc (.cells #[.string xv, .string xn, .slice xA xr.length xc] 25)) W3 from undrew hb3).mono Hb1.out.size)))
    have HKo := Lib.hid (show KeepsOthers (V.alloc (.cells #[.string xv, .string xn, .slice xA xr.length xc] 25)) W3 from ⟨(undrew hb3).size, fun k o hk hn => ((undrew hb3).block k (Array.getElem?_eq_some_iff.1 hk).1).trans hk⟩)
    clear hb3
    have k15 := HR3.out.2.2.1.cell 0
    have f15 := HR3.out.2.2.1.frozen 0
    rw [show (#[Value.int .i64 (M : Int)] : Array Value)[0]? = some (.int .i64 (M : Int)) from rfl] at k15
    have hup := HR3.out.up ((M : Int) + 1)
    have HR4 := Lib.hid hup
    have k14 := hup.2.1.cell 0
    have k15' := hup.2.2.1.cell 0
    have k3 := (HE.out.f3.below hup.1 HE.out.f3.lt).cell 0
    rw [show (#[Value.int .i64 (Ds.length : Int)] : Array Value)[0]? = some (.int .i64 (Ds.length : Int)) from rfl] at k14
    rw [show (#[Value.int .i64 ((M : Int) + 1)] : Array Value)[0]? = some (.int .i64 ((M : Int) + 1)) from rfl] at k15'
    rw [show (#[Value.int .i64 lv] : Array Value)[0]? = some (.int .i64 lv) from rfl] at k3
    have hkf : KeepsFrom Wr.heap.size V (W3.setCell ⟨T, 0, none⟩ (.int .i64 ((M : Int) + 1))) := (((KeepsOthers.alloc V (.cells #[.string xv, .string xn, .slice xA xr.length xc] 25)).trans HKo.out).trans (KeepsOthers.setCell _ _ _)).from _
    have HKf := Lib.hid hkf
    clear hup hkf
    by_cases ht0 : Ds.length = 0
    ·have g1 : ((Ds.length : Int) == 0) = true := by simp [ht0]
     have Ht0 := Lib.hid ht0
     clear ht0
     by_cases hlv : (M : Int) + 1 = lv
     ·have g2 : ((M : Int) + 1 == lv) = true := by simpa using hlv
      have Hlv := Lib.hid hlv
      clear hlv
      gi_wp2_with fail
      exact ⟨HKf.out, rfl, Ht0.out, by rw [← Hlv.out]; exact HR4.out⟩
     ·have g2 : ((M : Int) + 1 == lv) = false := by simpa using hlv
      clear hlv
      gi_wp2_with fail
      exact ⟨HKf.out, HN.out _ HR4.out⟩
    ·have g1 : ((Ds.length : Int) == 0) = false := beq_eq_false_iff_ne.2 (by omega)
     clear ht0
     gi_wp2_with fail
     exact ⟨HKf.out, HN.out _ HR4.out⟩
   case done =>
    intro D fs V hD hlen hI hV
    have hfl : fs.length = L := by
     have h1 := congrArg List.length HE.out.mp
     rw [List.length_map] at h1
     have := HE.out.len; omega
    have hR := hI.1
    rw [hfl] at hR
    have HR5 := Lib.hid (And.intro hR (show T < D by have := HR0.out.2; omega))
    have k14 := hR.2.1.cell 0
    have k15 := hR.2.2.1.cell 0
    have k11 := (HE.out.f11.below hR.1 HE.out.f11.lt).cell 0
    rw [show (#[Value.int .i64 (Ds.length : Int)] : Array Value)[0]? = some (.int .i64 (Ds.length : Int)) from rfl] at k14
    rw [show (#[Value.int .i64 (L : Int)] : Array Value)[0]? = some (.int .i64 (L : Int)) from rfl] at k15
    rw [show (#[Value.slice A L c] : Array Value)[0]? = some (.slice A L c) from rfl] at k11
    have e1 : ((L : Int) != (L : Int)) = false := by simp
    have HV := Lib.hid hV
    clear hR hI hV hlen hfl hD
    gi_wp2_with fail
    exact ⟨ti_intro (D :: Ds) (by simp; omega) (HR5.out.1.next HR5.out.2 HV.out) (by simp only [FrP]; rfl) rfl, by simp; omega⟩
   case stop =>
    intro D cd pre V hD hI hV
    obtain ⟨rfl, ht0, hR⟩ := hI
    have HR5 := Lib.hid (And.intro hR (show T < D by have := HR0.out.2; omega))
    have k14 := hR.2.1.cell 0
    have k15 := hR.2.2.1.cell 0
    have k11 := (HE.out.f11.below hR.1 HE.out.f11.lt).cell 0
    have k3 := (HE.out.f3.below hR.1 HE.out.f3.lt).cell 0
    rw [show (#[Value.int .i64 (Ds.length : Int)] : Array Value)[0]? = some (.int .i64 (Ds.length : Int)) from rfl] at k14
    rw [show (#[Value.int .i64 lv] : Array Value)[0]? = some (.int .i64 lv) from rfl] at k15 k3
    rw [show (#[Value.slice A L c] : Array Value)[0]? = some (.slice A L c) from rfl] at k11
    have e1 : (lv != lv) = false := by simp
    have g1 : ((Ds.length : Int) == 1) = false := beq_eq_false_iff_ne.2 (by omega)
    have HV := Lib.hid hV
    clear hR hV hD ht0
    by_cases hlL : lv = (L : Int)
    ·have e2 : (lv != (L : Int)) = false := by simp [hlL]
     clear hlL
     gi_wp2_with fail
     exact ⟨ti_intro (D :: Ds) (by simp; omega) (HR5.out.1.next HR5.out.2 HV.out) (by simp only [FrP]; rfl) rfl, by simp; omega⟩
    ·have e2 : (lv != (L : Int)) = true := by simpa using hlL
     clear hlL
     gi_wp2_with fail
     exact ⟨ti_intro (D :: Ds) (by simp; omega) (HR5.out.1.next HR5.out.2 HV.out) (by simp only [FrP]; rfl) rfl, by simp; omega⟩
  ·have hti : ¬ (Ds.length : Int) < 2 := by omega
   have HKn := Lib.hid (known_any (HE.out.g.below hT.out.1))
   gi_wp2_with fail
   refine ⟨trivial, (callsIn_wide.2 HKn.out).mono ?_⟩
   rintro e W6 ⟨rfl, hb6⟩
   have HF := Lib.hid (show Blk W6 b4 4 #[.bool false] ∧ Below w.heap.size w W6 ∧ ∀ D ∈ Ds, W6.heap[D]? = some (.deferred (some [])) by
    have h3 := HE.out.f4.below hT.out.1 HE.out.f4.lt
    have h4 := HE.out.b.trans (hT.out.1.mono HE.out.b.size)
    exact ⟨h3.below hb6 h3.lt, h4.trans (hb6.mono h4.size), fun D hD => (hb6.block D (Array.getElem?_eq_some_iff.1 (hT.out.2.2.2.1 D hD).1).1).trans (hT.out.2.2.2.1 D hD).1⟩)
   clear hb6 c14
   have k4 := HF.out.1.cell 0
   have f4 := HF.out.1.frozen 0
   rw [show (#[Value.bool false] : Array Value)[0]? = some (.bool false) from rfl] at k4
   gi_wp2_with fail
   have hset := HF.out.1.set_ 0 (.bool true)
   refine leaves_marks (fun V => Blk V b4 4 #[.bool true] ∧ Below w.heap.size w V) Ds ?_ ?_ _ ⟨hset, HF.out.2.1.setCell (p := ⟨b4, 0, none⟩) HE.out.lt4 _⟩ ?_ hT.out.2.2.2.2
   ·rintro V D hD ⟨h1, h2⟩ hV
    have h4 := (hT.out.2.2.2.1 D hD).2
    have h5 := HE.out.f4.lt
    have h6 := HE.out.b.size
    exact ⟨(World.putObj_heap_other (by omega)).trans h1, below_put h2 h2.size (by omega)⟩
   ·rintro V ⟨h1, h2⟩
    have c4 : V.cell? ⟨b4, 0, none⟩ = some (.bool true) := h1.cell 0
    exact ⟨.bool true, by simp [results, Tryz.results5, go_sem, c4], rfl, h2⟩
   ·intro D hD
    have h4 := (hT.out.2.2.2.1 D hD).2
    have h5 := HE.out.f4.lt
    exact (Below.heap_setCell _ _ _ D (by show D ≠ b4; omega)).trans (HF.out.2.2 D hD)
end Go.Proofs.YtebpggfccljagaaGreatDoor
namespace Go.Proofs.YtebpggfccljagaaGreatDoor
open Go.RowKit Go.Shelf
open Wh
set_option linter.unusedSimpArgs false
set_option linter.unusedVariables false
theorem run_equalIn_func {P : Program} {t : TypeId} {a b c} (d : Nat) (w : World) (h : P.underlying t = some (.func a b c)) (f : Fn) (ts l : Array Value) : (Op.equalIn (d + 1) t (.func f ts l) .nilFunc).run P w = .ok false w := by
 simp [Op.equalIn, run_underlying h]
theorem run_equal_func {P : Program} {t : TypeId} {a b c} (w : World) (h : P.underlying t = some (.func a b c)) (f : Fn) (ts l : Array Value) : (Op.equal t (.func f ts l) .nilFunc).run P w = .ok false w := by
 exact run_equalIn_func 9999 w h f ts l
theorem eql_func (f : Fn) (ts l : Array Value) (w : World) : (binOp .eql 60 (.func f ts l) .nilFunc).run Tryz.prog w = .ok (.bool false) w := by
 simp [binOp, run_equal_func w Tryz.underlying60 f ts l]
def TwoB (w : World) (lv : Int) (W : World) : Prop := Below w.heap.size w W ∧ Blk W w.heap.size 3 #[.int .i64 lv] ∧ Blk W (w.heap.size + 1) 4 #[.bool false]
theorem two_boxes (w : World) (lv : Int) : TwoB w lv ((w.alloc (.cells #[.int .i64 lv] 3)).alloc (.cells #[.bool false] 4)) := by
 have b1 := Blk.new (w.alloc (.cells #[.int .i64 lv] 3)) 4 #[.bool false]
 simp only [World.size_alloc] at b1
 exact ⟨((Below.refl _ w).alloc (Nat.le_refl _) _).alloc (by simp) _, (Blk.new w 3 _).alloc _, b1⟩
theorem TwoB.below {w W W' : World} {lv : Int} (h : TwoB w lv W) (hb : Below W.heap.size W W') : TwoB w lv W' := ⟨h.1.trans (hb.mono h.1.size), h.2.1.below hb h.2.1.lt, h.2.2.below hb h.2.2.lt⟩
theorem TwoB.end_ {w W : World} {lv : Int} (h : TwoB w lv W) : (W.setCell ⟨w.heap.size + 1, 0, none⟩ (.bool true)).cell? ⟨w.heap.size + 1, 0, none⟩ = some (.bool true) ∧ Below w.heap.size w (W.setCell ⟨w.heap.size + 1, 0, none⟩ (.bool true)) :=
 ⟨(h.2.2.set_ 0 (.bool true)).cell 0, h.1.setCell (p := ⟨w.heap.size + 1, 0, none⟩) (by show w.heap.size ≤ w.heap.size + 1; omega) _⟩
set_option maxRecDepth 100000 in
set_option maxHeartbeats 4000000 in
theorem sparse_mid {w : World} {B : Nat} (hg : Gl B w) {s : ByteArray} {lv : Int} (h1 : 6000 < s.size) (h2 : s.size ≤ 1048576) :
  Calls Tryz.prog 5 #[.string s, .int .i64 lv] w (fun e w' => e = .returned (.bool true) ∧ Below w.heap.size w w') := by
 have HK := Lib.hid (fun W (hb : Below w.heap.size w W) => known_any (hg.below hb))
 have h1i : (6000 : Int) < (s.size : Int) := by omega
 have h2i : (s.size : Int) ≤ 1048576 := by omega
 have H0 := Lib.hid (two_boxes w lv)
 clear hg h1 h2
 go_enter Tryz.func5, Tryz.ntmps5
 go_wp2_with fail
 refine (HK.out _ H0.out.1).mono ?_
 rintro _ W1 ⟨rfl, hb1⟩
 have H1 := Lib.hid (H0.out.below hb1)
 have k4 := H1.out.2.2.cell 0
 have f4 := H1.out.2.2.frozen 0
 rw [show (#[Value.bool false] : Array Value)[0]? = some (.bool false) from rfl] at k4
 clear hb1
 go_wp2_with fail
 have c4 := H1.out.end_.1
 exact bodyPost_ret (v := .bool true) (by simp [results, Tryz.results5, go_sem, c4]) rfl ⟨rfl, H1.out.end_.2⟩
set_option maxRecDepth 100000 in
set_option maxHeartbeats 4000000 in
theorem sparse_big {w : World} {B : Nat} (hg : Gl B w) {s : ByteArray} {lv : Int} (h1 : (1048576 : Int) < (s.size : Int)) (h2 : s.size ≤ 9223372036854775807) :
  Calls Tryz.prog 5 #[.string s, .int .i64 lv] w (fun e w' => e = .returned (.bool true) ∧ Below w.heap.size w w') := by
 have HK := Lib.hid (fun W (hb : Below w.heap.size w W) => known_any (hg.below hb))
 have h1i : (6000 : Int) < (s.size : Int) := by omega
 have h2i : ¬ (s.size : Int) ≤ 1048576 := by omega
 have HP := Lib.hid (fun W : World => And.intro (parse_big (w := W) h1) (And.intro (rparse_big (w := W) h1) (same21 (w := W) (A := none) (A' := none) (c := 0) (c' := 0) (ss := []) (tt := []) ⟨⟨rfl, fun h => absurd h (by decide)⟩, fun s hs => by cases hs⟩ ⟨⟨rfl, fun h => absurd h (by decide)⟩, fun s hs => by cases hs⟩ rfl (fun s hs => by cases hs) (by decide))))
 have H0 := Lib.hid (two_boxes w lv)
 clear hg
 go_enter Tryz.func5, Tryz.ntmps5
 go_wp2_with fail
 refine (HP.out _).1.mono ?_
 rintro _ W1 ⟨rfl, rfl⟩
 go_wp2_with fail
 refine (HP.out _).2.1.mono ?_
 rintro _ W2 ⟨rfl, rfl⟩
 go_wp2_with fail
 refine (HP.out _).2.2.mono ?_
 rintro _ W3 ⟨rfl, hb3⟩
 have H3 := Lib.hid (H0.out.below hb3)
 clear hb3
 go_wp2_with fail
 refine (HK.out _ H3.out.1).mono ?_
 rintro _ W4 ⟨rfl, hb4⟩
 have H1 := Lib.hid (H3.out.below hb4)
 have k4 := H1.out.2.2.cell 0
 have f4 := H1.out.2.2.frozen 0
 rw [show (#[Value.bool false] : Array Value)[0]? = some (.bool false) from rfl] at k4
 clear hb4
 go_wp2_with fail
 have c4 := H1.out.end_.1
 exact bodyPost_ret (v := .bool true) (by simp [results, Tryz.results5, go_sem, c4]) rfl ⟨rfl, H1.out.end_.2⟩
theorem parse_rest_any {w VE : World} {B b3 b4 b11 bt c L : Nat} {s : ByteArray} {lv : Int} {A : Option Addr} {ss : List StR} {S : List StP} {left : List UInt8} {tm : Array Value} (hE : ParE w VE B b3 b4 b11 bt s lv A c L ss S left) (h : tm = FrZ s lv b3 b4 b11 bt (fun i => tm.getD i undef)) :
  (codeRest 9 (bodyOf Tryz.f5)).wp Tryz.prog (bodyPostM Fence.wide 3 Tryz.prog Tryz.f5 (fun e w' => e = .returned (.bool true) ∧ Below w.heap.size w w')) ⟨tm, []⟩ VE := by
 rw [h]
 exact wpIn_wide.1 (parse_rest (v := fun i => tm.getD i undef) hE)
set_option maxRecDepth 100000 in
set_option maxHeartbeats 8000000 in
theorem sparse_small {w : World} {B : Nat} (hg : Gl B w) {s : ByteArray} {lv : Int} (hs : s.size ≤ 6000) :
  Calls Tryz.prog 5 #[.string s, .int .i64 lv] w (fun e w' => e = .returned (.bool true) ∧ Below w.heap.size w w') := by
 obtain ⟨S, left, hA⟩ := allSays_ex _ s.data.toList (Nat.le_refl _)
 have h1i : ¬ (6000 : Int) < (s.size : Int) := by omega
 have HG := Lib.hid (fun W (hb : Below w.heap.size w W) => hg.below hb)
 have HA := Lib.hid (And.intro hA hs)
 have hnn := eql_func
 have H0 := Lib.hid (two_boxes w lv)
 clear hg hA hs
 refine (callsIn_wide (n := 3)).1 ?_
 refine callsIn_of_wp_marks Tryz.func5 rfl trivial (wpIn_wide.2 ?_) rfl
 simp only [Tryz.ntmps5, List.size_toArray, List.length_cons, List.length_nil, Nat.reduceAdd, Nat.reduceSub, Array.replicate_succ, Array.replicate_zero, List.push_toArray, List.append_toArray, List.nil_append, List.cons_append]
 go_wp2_with fail
 refine (sparse19 (HG.out _ H0.out.1) HA.out.2 HA.out.1).mono ?_
 rintro e W1 ⟨hy1, hn1, hb1⟩
 have H1 := Lib.hid (H0.out.below hb1)
 have hok := HA.out.1.ok
 have hAl := HA.out.1.len
 have hsl : s.data.toList.length = s.size := Array.length_toList
 have HS3 := Lib.hid (show S.length ≤ 3000 by have := HA.out.2; omega)
 have Hok := Lib.hid hok
 clear hok hAl hsl
 by_cases hne : left = []
 ·obtain ⟨A, c, ss, rfl, hm, hl⟩ := hy1 hne
  have Hm := Lib.hid (And.intro hm hl)
  have Hne := Lib.hid hne
  clear hy1 hn1 hb1 hm hl hne
  go_wp2_with fail
  refine (rparse20 (HG.out _ H1.out.1) HA.out.2 HA.out.1).mono ?_
  rintro e W2 ⟨hy2, hn2, hb2⟩
  have H2 := Lib.hid (H1.out.below hb2)
  obtain ⟨A2, c2, ss2, rfl, hm2, hl2⟩ := hy2 Hne.out
  have hlen : ss2.length = ss.length := by
   have h1 := congrArg List.length hm2
   have h2 := congrArg List.length Hm.out.1
   rw [List.length_map] at h1 h2
   omega
  have hfine : ∀ x ∈ ss, x.p.ok := fun x hx => Hok.out _ (by rw [← Hm.out.1]; exact List.mem_map.2 ⟨x, hx, rfl⟩)
  have hfine2 : ∀ x ∈ ss2, x.p.ok := fun x hx => Hok.out _ (by rw [← hm2]; exact List.mem_map.2 ⟨x, hx, rfl⟩)
  have HS := Lib.hid (same21 (c := c) (c' := c2) (((Hm.out.2.kept hb2).reads (fun x hx => (ok_fit (hfine x hx)).2)).1) ((hl2.reads (fun x hx => (ok_fit (hfine2 x hx)).2)).1) (Hm.out.1.trans hm2.symm) (fun x hx => (ok_fit (hfine x hx)).1) (by have h2 := congrArg List.length Hm.out.1; rw [List.length_map] at h2; have := HS3.out; omega))
  rw [hlen] at HS ⊢
  have e1 : ((ss.length : Int) != (ss.length : Int)) = false := by simp
  clear hy2 hn2 hb2 hm2 hl2 hlen hfine hfine2
  go_wp2_with fail
  refine HS.out.mono ?_
  rintro e W3 ⟨rfl, hb3⟩
  have H3 := Lib.hid (H2.out.below hb3)
  clear hb3 HS
  go_wp2_with fail
  refine (rall_any (HG.out _ H3.out.1) HA.out.2 HA.out.1).mono ?_
  rintro e W4 ⟨A4, c4, ss4, rfl, hm4, hl4, hb4⟩
  have H4 := Lib.hid (And.intro (H3.out.below hb4) (And.intro hm4 hl4))
  clear hm4 hl4 hb4
  go_wp2_with fail
  refine all_any.mono ?_
  rintro _ W5 ⟨rfl, hW5⟩
  have HE := Lib.hid (show ParE w W5 B w.heap.size (w.heap.size + 1) W4.heap.size (W4.heap.size + 1) s lv A4 c4 ss4.length ss4 S left by
   have hb5 : Below W4.heap.size W4 W5 := by
    rw [hW5]
    exact ((Below.refl _ W4).alloc (Nat.le_refl _) _).alloc (by simp) _
   have h2 := H4.out.1.below hb5
   have h3 : Blk W5 W4.heap.size 51 #[.slice A4 ss4.length c4] := by rw [hW5]; exact (Blk.new W4 51 _).alloc _
   have h4 : Blk W5 (W4.heap.size + 1) 9 #[.string s] := by
    rw [hW5]
    have h := Blk.new (W4.alloc (.cells #[.slice A4 ss4.length c4] 51)) 9 #[.string s]
    rw [World.size_alloc] at h
    exact h
   have h5 : ∀ x ∈ ss4, x.p.ok := fun x hx => Hok.out _ (by rw [← H4.out.2.1]; exact List.mem_map.2 ⟨x, hx, rfl⟩)
   exact ⟨h2.2.1, h2.2.2, h3, h4, ((H4.out.2.2.kept hb5).reads (fun x hx => (ok_fit (h5 x hx)).2)).1, rfl, H4.out.2.1, HA.out.1, HG.out _ h2.1, h2.1, by omega, HA.out.2⟩)
  clear hW5
  go_upto_region 11 with fail
  rename_i hK9 _ hK11
  have HK9 := Lib.hid hK9
  clear hK9
  go_wp2_with fail
  refine HK9.out _ _ ?_
  exact parse_rest_any HE.out (by simp only [FrZ]; rfl)
 ·obtain rfl := hn1 hne
  have Hne := Lib.hid hne
  clear hy1 hn1 hb1 hne
  go_wp2_with fail
  refine (rparse20 (HG.out _ H1.out.1) HA.out.2 HA.out.1).mono ?_
  rintro e W2 ⟨hy2, hn2, hb2⟩
  have H2 := Lib.hid (H1.out.below hb2)
  obtain rfl := hn2 Hne.out
  have HS := Lib.hid (same21 (w := W2) (A := none) (A' := none) (c := 0) (c' := 0) (ss := []) (tt := []) ⟨⟨rfl, fun h => absurd h (by decide)⟩, fun s hs => by cases hs⟩ ⟨⟨rfl, fun h => absurd h (by decide)⟩, fun s hs => by cases hs⟩ rfl (fun s hs => by cases hs) (by decide))
  have e1 : ((S.length : Int) != (S.length : Int)) = false := by simp
  clear hy2 hn2 hb2
  go_wp2_with fail
  refine HS.out.mono ?_
  rintro e W3 ⟨rfl, hb3⟩
  have H3 := Lib.hid (H2.out.below hb3)
  clear hb3 HS
  go_wp2_with fail
  refine (rall_any (HG.out _ H3.out.1) HA.out.2 HA.out.1).mono ?_
  rintro e W4 ⟨A4, c4, ss4, rfl, hm4, hl4, hb4⟩
  have H4 := Lib.hid (And.intro (H3.out.below hb4) (And.intro hm4 hl4))
  clear hm4 hl4 hb4
  go_wp2_with fail
  refine all_any.mono ?_
  rintro _ W5 ⟨rfl, hW5⟩
  have HE := Lib.hid (show ParE w W5 B w.heap.size (w.heap.size + 1) W4.heap.size (W4.heap.size + 1) s lv A4 c4 ss4.length ss4 S left by
   have hb5 : Below W4.heap.size W4 W5 := by
    rw [hW5]
    exact ((Below.refl _ W4).alloc (Nat.le_refl _) _).alloc (by simp) _
   have h2 := H4.out.1.below hb5
   have h3 : Blk W5 W4.heap.size 51 #[.slice A4 ss4.length c4] := by rw [hW5]; exact (Blk.new W4 51 _).alloc _
   have h4 : Blk W5 (W4.heap.size + 1) 9 #[.string s] := by
    rw [hW5]
    have h := Blk.new (W4.alloc (.cells #[.slice A4 ss4.length c4] 51)) 9 #[.string s]
    rw [World.size_alloc] at h
    exact h
   have h5 : ∀ x ∈ ss4, x.p.ok := fun x hx => Hok.out _ (by rw [← H4.out.2.1]; exact List.mem_map.2 ⟨x, hx, rfl⟩)
   exact ⟨h2.2.1, h2.2.2, h3, h4, ((H4.out.2.2.kept hb5).reads (fun x hx => (ok_fit (h5 x hx)).2)).1, rfl, H4.out.2.1, HA.out.1, HG.out _ h2.1, h2.1, by omega, HA.out.2⟩)
  clear hW5
  go_upto_region 11 with fail
  rename_i hK9 _ hK11
  have HK9 := Lib.hid hK9
  clear hK9
  go_wp2_with fail
  refine HK9.out _ _ ?_
  exact parse_rest_any HE.out (by simp only [FrZ]; rfl)
theorem sparse_any {w : World} {B : Nat} (hg : Gl B w) {s : ByteArray} {lv : Int} (hs : s.size ≤ 9223372036854775807) :
  Calls Tryz.prog 5 #[.string s, .int .i64 lv] w (fun e w' => e = .returned (.bool true) ∧ Below w.heap.size w w') := by
 by_cases h1 : s.size ≤ 6000
 ·exact sparse_small hg h1
 ·by_cases h2 : s.size ≤ 1048576
  ·exact sparse_mid hg (by omega) h2
  ·exact sparse_big hg (by omega) hs
end Go.Proofs.YtebpggfccljagaaGreatDoor
