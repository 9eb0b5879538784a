import Derived.Test.YtebpggfccljagaaGreatDoorC9
import Derived.Sort.OwnSortedInts
import Derived.Test.YtebpggfccljagaaGreatDoorC8
import Derived.BigQuiet
import Derived.Deep.RegionHeld3
/- script.Needs. -/
namespace Go.Proofs.YtebpggfccljagaaGreatDoor
open Go.RowKit Go.ChangeShapes Go.Maps
open Wh
set_option linter.unusedSimpArgs false
set_option linter.unusedVariables false

theorem mapAt_none (ps : List StP) : ∀ i, has (mapAt ps i) (.string []) = false
  | 0 => rfl
  | i + 1 => by
    rw [mapAt]
    split
    · rename_i p _
      split
      · exact mapAt_none ps i
      · rename_i h
        rw [has_put_other (fun e => h (by injection e with e; exact e.symm))]
        exact mapAt_none ps i
    · exact mapAt_none ps i
/-- the full map says where a name stands -/
theorem mapAt_full {ps : List StP} (hs : ∀ j, j < ps.length → Stands ps j) (x : List UInt8) :
    (has (mapAt ps ps.length) (.string x) = false ∧ (x = [] ∨ atP ps x ps.length = none)) ∨ (has (mapAt ps ps.length) (.string x) = true ∧ x ≠ [] ∧ ∃ k, atP ps x ps.length = some k ∧ ∀ c : Int, (mapAt ps ps.length).atKey (.string x) (.lit (.int .i64 0)) = .lit (.int .i64 c) → c = (k : Int)) := by
  by_cases hx : x = []
  · subst hx
    exact .inl ⟨mapAt_none ps _, .inl rfl⟩
  · obtain ⟨h1, h2⟩ := mapAt_says hx ps.length (Nat.le_refl _) hs
    cases h : atP ps x ps.length with
    | none => rw [h] at h1; exact .inl ⟨h1, .inr rfl⟩
    | some k =>
      rw [h] at h1
      refine .inr ⟨h1, hx, k, rfl, fun c hc => ?_⟩
      rw [h2 k _ h] at hc
      injection hc with hc
      injection hc with _ hc
      exact hc.symm
theorem OrdSays.code {ps : List StP} {n : Nat} {z : Int} (h : OrdSays ps n z) : z = 0 ∨ z = 2 ∨ z = 401 := by
  rcases h with ⟨_, _, _, h⟩ | ⟨_, _, _, _, h⟩ | ⟨_, _, _, h⟩
  · exact .inr (.inl h)
  · exact .inr (.inr h)
  · exact .inl h
/-- the places needed, the last one first, those from i on -/
def Downs (ps : List StP) (last i : Nat) (l : List Int) : Prop := ∃ m : List Nat, l = m.map (fun k : Nat => (k : Int)) ∧ m.Pairwise (fun a b => b < a) ∧ ∀ j, j ∈ m ↔ (i ≤ j ∧ Nd ps last j)
theorem Downs.start {ps : List StP} {last : Nat} : Downs ps last (last + 1) [] := ⟨[], rfl, List.Pairwise.nil, fun j => ⟨fun h => (by cases h), fun h => by have := h.2.le; omega⟩⟩
theorem Downs.pass {ps : List StP} {last i : Nat} {l : List Int} (h : Downs ps last (i + 1) l) (hn : ¬ Nd ps last i) : Downs ps last i l := by
  obtain ⟨m, h1, h2, h3⟩ := h
  refine ⟨m, h1, h2, fun j => ?_⟩
  rw [h3 j]
  constructor
  · rintro ⟨h4, h5⟩; exact ⟨by omega, h5⟩
  · rintro ⟨h4, h5⟩
    rcases Nat.lt_or_ge i j with h6 | h6
    · exact ⟨h6, h5⟩
    · have e : j = i := by omega
      rw [e] at h5
      exact absurd h5 hn
theorem Downs.take {ps : List StP} {last i : Nat} {l : List Int} (h : Downs ps last (i + 1) l) (hn : Nd ps last i) : Downs ps last i (l ++ [(i : Int)]) := by
  obtain ⟨m, h1, h2, h3⟩ := h
  refine ⟨m ++ [i], by rw [h1, List.map_append]; rfl, ?_, fun j => ?_⟩
  · rw [List.pairwise_append]
    refine ⟨h2, List.pairwise_singleton _ _, fun a ha b hb => ?_⟩
    rw [List.mem_singleton.1 hb]
    have := ((h3 a).1 ha).1
    omega
  · rw [List.mem_append, h3 j, List.mem_singleton]
    constructor
    · rintro (⟨h4, h5⟩ | rfl)
      · exact ⟨by omega, h5⟩
      · exact ⟨Nat.le_refl _, hn⟩
    · rintro ⟨h4, h5⟩
      rcases Nat.lt_or_ge i j with h6 | h6
      · exact .inl ⟨h6, h5⟩
      · exact .inr (by omega)
theorem Downs.done {ps : List StP} {last : Nat} {l : List Int} (h : Downs ps last 0 l) : NeedL ps last l.reverse := by
  obtain ⟨m, h1, h2, h3⟩ := h
  refine ⟨m.reverse, by rw [h1, List.map_reverse], by rw [List.pairwise_reverse]; exact h2, fun j => ?_⟩
  rw [List.mem_reverse, h3 j]
  exact ⟨fun h => h.2, fun h => ⟨Nat.zero_le _, h⟩⟩
theorem desc_len : ∀ {m : List Nat} {k : Nat}, m.Pairwise (fun a b => b < a) → (∀ a ∈ m, a < k) → m.length ≤ k
  | [], _, _, _ => Nat.zero_le _
  | a :: m, k, h, hk => by
    rw [List.pairwise_cons] at h
    have h1 := desc_len h.2 h.1
    have h2 := hk a (by simp)
    rw [List.length_cons]
    omega
theorem Downs.len {ps : List StP} {last i : Nat} {l : List Int} (h : Downs ps last i l) (hl : last ≤ 40) : l.length ≤ 41 := by
  obtain ⟨m, h1, h2, h3⟩ := h
  rw [h1, List.length_map]
  exact desc_len h2 (fun a ha => by have := ((h3 a).1 ha).2.le; omega)
/-- a row of one's own, turned round -/
theorem rev_any {w : World} {B n c : Nat} {A : Option Addr} {l : List Int} (h : OwnI w B (.slice A n c) l) (hl : l.length ≤ 1000) :
    Calls Tryz.prog 62 #[.slice A n c] w (fun e w' => e = .returned (.tuple #[]) ∧ OwnI w' B (.slice A n c) l.reverse ∧ w.grownBy w' (Value.slice A n c).ownBlock) := by
  rcases h.2 with ⟨hv, h0⟩ | ⟨g, cap, cur, hv, hg, hh, hc, hm, hs, ht⟩
  · injection hv with e1 e2 e3
    subst e1 e2 e3
    have e0 : l = [] := List.eq_nil_of_length_eq_zero h0
    subst e0
    refine (Tryz.slices_Reverse_int_empty none 0 w).mono ?_
    rintro e w' ⟨rfl, rfl⟩
    exact ⟨rfl, h, World.grownBy.refl _ _⟩
  · injection hv with e1 e2 e3
    subst e1 e2 e3
    rw [Nat.mul_one] at ht
    refine (Tryz.slices_Reverse_int g 0 c l w (holds_of_blockI hh ht) (by omega)).mono ?_
    rintro e w' ⟨rfl, k, rfl⟩
    have h1 := ownsRow_sortedI (os := #[]) (n := k) (ss := l) (ts := l.reverse) (by simp) hg hh hc hm hs
    have h2 := grownBy_sortedI (w := w) (g := g) (n := k) (os := #[]) l.reverse.toArray
    rw [Sort.grow_empty] at h1 h2
    refine ⟨rfl, ?_, h2⟩
    unfold OwnI
    rw [List.length_reverse]
    exact h1
/-- a map lies in another block than a row -/
theorem own_map_ne {w : World} {B b n : Nat} {e : TypeId} {z k : Nat} {v : Value} {xs : List Value} {D : DataW Unit} {K : TypeId} {R : Value → Option (DataW Unit × List MemPlace)} (h : w.ownsRow B e z v k xs) (hm : w.ownsMap Tryz.prog K R b n D) : some b ≠ v.ownBlock := by
  intro e'
  obtain ⟨es, clock, hb, _⟩ := hm
  rcases h.2 with ⟨rfl, _⟩ | ⟨g1, _, _, rfl, _, hh, _⟩
  · cases e'
  · have e1 : b = g1 := by simpa [Value.ownBlock] using e'
    subst e1
    rw [hb] at hh
    injection hh with hh
    cases hh
def NeedsOut (w : World) (ps : List StP) (x : List UInt8) (e : Ending) (w' : World) : Prop :=
  (∃ (A' : Option Addr) (n' c' : Nat) (l : List Int) (z : Int), e = .returned (.tuple #[.slice A' n' c', .int .i64 z]) ∧ OwnI w' w.heap.size (.slice A' n' c') l ∧ NeedsSays ps x l z) ∧ Below w.heap.size w w'
set_option maxRecDepth 100000 in
set_option maxHeartbeats 8000000 in
/-- script.Needs -/
theorem sneeds_any {w : World} {A : Option Addr} {n c : Nat} {ss : List StR} {x : ByteArray} (hr : ReadsT w w.heap.size A ss) (hn : n = ss.length) (hl : ss.length ≤ 40) (hf : ∀ s ∈ ss, s.p.fit) (hx : x.size ≤ maxLen) :
    Calls Tryz.prog 29 #[.slice A n c, .string x] w (NeedsOut w (ss.map StR.p) x.data.toList) := by
  have hmk := run_makeM
  have Hr := Lib.hid (fun W (hb : Below w.heap.size w W) => hr.calm (Nat.le_refl _) hb)
  have HO := Lib.hid (order_any (c := c) hr hn hl hf)
  have Hn := Lib.hid (And.intro hn hl)
  have Hf := Lib.hid hf
  have hn4 : (n : Int) ≤ 40 := by omega
  have hn5 : n ≤ 1000 := by omega
  have hkey : keyOf Tryz.prog 9 (.string x) = some (.string x.data.toList) := Go.WideMaps.keyOf_string_mk Tryz.underlying9 hx
  have Hlen := Lib.hid (show (ss.map StR.p).length = n by rw [List.length_map]; exact hn.symm)
  have hmk1 := hmk n hn5
  clear hr hn hl hf hx hmk
  go_enter Tryz.func29, Tryz.ntmps29
  go_wp2_with fail
  refine HO.out.mono ?_
  rintro _ W2 ⟨⟨mv, m, z, rfl, hs, hmp⟩, hb⟩
  have Hs := Lib.hid hs
  have Hb := Lib.hid hb
  rcases hs.code with rfl | rfl | rfl
  rotate_left
  · clear hs hmp hb
    go_wp2_with fail
    refine bodyPost_ret (v := .tuple #[.slice none 0 0, .int .i64 2]) (by simp [results, Tryz.results29, go_sem]) rfl ?_
    exact ⟨⟨none, 0, 0, [], 2, rfl, OwnI.nil _ _, .inl ⟨by decide, rfl, _, Hs.out⟩⟩, Hb.out⟩
  · clear hs hmp hb
    go_wp2_with fail
    refine bodyPost_ret (v := .tuple #[.slice none 0 0, .int .i64 401]) (by simp [results, Tryz.results29, go_sem]) rfl ?_
    exact ⟨⟨none, 0, 0, [], 401, rfl, OwnI.nil _ _, .inl ⟨by decide, rfl, _, Hs.out⟩⟩, Hb.out⟩
  obtain ⟨b, rfl, hbb, N, hN, hM⟩ := hmp rfl
  have HS0 := Lib.hid (show OrdSays (ss.map StR.p) (ss.map StR.p).length 0 by have h := hs.full; rw [h] at hs; exact hs)
  have HM := Lib.hid hM
  have Hbb := Lib.hid hbb
  have hfull := mapAt_full hs.all.2 x.data.toList
  clear hs hmp hb hM hN hbb
  rcases hfull with ⟨hh, hw⟩ | ⟨hh, hx0, last, hat, hc⟩
  · have Hw := Lib.hid hw
    clear hw
    go_wp2_with (at_lookup; refine wpList_lookup_own_ok_int _ rfl (.tmp 26) (.tmp 27) 104 rfl 9 3 .i64 str_keyed Tryz.underlying104 Tryz.underlying3 (by intros; first | exact Tryz.zeroValue3 _ | rfl) b N _ rfl HM.out _ (.string x.data.toList) rfl hkey ?_; intro c1x hat1 hwc1; clear hat1 hwc1; rw [hh])
    refine bodyPost_ret (v := .tuple #[.slice none 0 0, .int .i64 401]) (by simp [results, Tryz.results29, go_sem]) rfl ?_
    exact ⟨⟨none, 0, 0, [], 401, rfl, OwnI.nil _ _, .inr (.inl ⟨rfl, rfl, HS0.out, Hw.out⟩)⟩, Hb.out⟩
  have Hc := Lib.hid hc
  have Hat := Lib.hid (And.intro hx0 hat)
  have hln : last < n := by have := (atP_lt hat).2; rw [Hlen.out] at this; exact this
  have hln1 : (last : Int) < (n : Int) := by omega
  have hln0 : (0 : Int) ≤ (last : Int) := by omega
  have hln4 : (last : Int) ≤ 40 := by omega
  clear hc hat hx0
  have hbk := Blk.new W2 4 (mcells (fun _ => false) n)
  have hfz := hbk.frozen last
  have hou := hbk.cell last
  rw [mcells_get _ hln] at hou
  go_wp2_with (at_lookup; refine wpList_lookup_own_ok_int _ rfl (.tmp 26) (.tmp 27) 104 rfl 9 3 .i64 str_keyed Tryz.underlying104 Tryz.underlying3 (by intros; first | exact Tryz.zeroValue3 _ | rfl) b N _ rfl HM.out _ (.string x.data.toList) rfl hkey ?_; intro c1x hat1 hwc1; rw [hh, Hc.out _ hat1]; clear hat1 hwc1)
  have hk0 : Blk (W2.alloc (.cells ((mcells (fun _ => false) n).setIfInBounds last (.bool true)) 4)) W2.heap.size 4 (mcells (fun j => if j = last then true else false) n) := by rw [← mcells_set]; exact Blk.new _ _ _
  have hm0 := HM.out.alloc (.cells ((mcells (fun _ => false) n).setIfInBounds last (.bool true)) 4)
  have hb0 := Hb.out.alloc Hb.out.size (.cells ((mcells (fun _ => false) n).setIfInBounds last (.bool true)) 4)
  have Hg := Lib.hid (And.intro Hb.out.size HM.out.lt)
  clear hmk1 hbk hfz hou
  generalize W2.alloc (.cells ((mcells (fun _ => false) n).setIfInBounds last (.bool true)) 4) = W3 at *
  have H3 := Lib.hid (And.intro hk0 (And.intro hm0 hb0))
  clear hk0 hm0 hb0
  generalize W2.heap.size = g at *
  go_loopg [12, 13, 15, 59] (last + 1) (fun k ov jv av qv wr => ∃ (i : Nat) (A' : Option Addr) (n' c' : Nat) (f : Nat → Bool) (l : List Int), ov = .slice A' n' c' ∧ jv = .int .i64 ((i : Int) - 1) ∧ k = i ∧ i ≤ last + 1 ∧ Hid (OwnI wr w.heap.size (.slice A' n' c') l ∧ Downs (ss.map StR.p) last i l) ∧ Hid (Blk wr g 4 (mcells f n) ∧ Marked (ss.map StR.p) last i f) ∧ Hid (Below w.heap.size w wr ∧ wr.ownsMap Tryz.prog 9 (plainElem Tryz.prog 3) b N (mapAt (ss.map StR.p) (ss.map StR.p).length)))
  case atStart => exact ⟨last + 1, none, 0, 0, _, [], rfl, congrArg (Value.int .i64) (by omega), rfl, Nat.le_refl _, Lib.hid ⟨OwnI.nil _ _, Downs.start⟩, Lib.hid ⟨H3.out.1, Marked.start⟩, Lib.hid ⟨H3.out.2.2, H3.out.2.1⟩⟩
  case round =>
    obtain ⟨i, A', n', c', f, l, rfl, rfl, hk, hi, hO, hK, hB⟩ := hrel
    have Hk := Lib.hid hk
    clear hk
    cases i with
    | zero =>
      have hj : ((0 : Nat) : Int) - 1 = -1 := by omega
      rw [hj]
      have HR := Lib.hid (rev_any hO.out.1 (by have := hO.out.2.len (by omega); omega))
      go_wp2_with fail
      refine HR.out.mono ?_
      rintro _ W4 ⟨rfl, ho, hg⟩
      have Ho := Lib.hid (And.intro ho (hB.out.1.grown hg hB.out.1.size (fun k hk => (OwnI.lt hO.out.1 k hk).1)))
      clear ho hg
      go_wp2_with fail
      refine bodyPost_ret (v := .tuple #[.slice A' n' c', .int .i64 0]) (by simp [results, Tryz.results29, go_sem]) rfl ?_
      exact ⟨⟨A', n', c', l.reverse, 0, rfl, Ho.out.1, .inr (.inr ⟨rfl, HS0.out, Hat.out.1, last, Hat.out.2, hO.out.2.done⟩)⟩, Ho.out.2⟩
    | succ j =>
      have hj : ((j + 1 : Nat) : Int) - 1 = (j : Int) := by omega
      rw [hj]
      have hjn : (j : Int) < (n : Int) := by omega
      have hj0 : (0 : Int) ≤ (j : Int) := by omega
      have hj4 : (j : Int) ≤ 40 := by omega
      have hjn' : j < n := by omega
      have hou := hK.out.1.cell j
      rw [mcells_get _ hjn'] at hou
      cases hfj : f j with
      | false =>
        rw [hfj] at hou
        have Hfj := Lib.hid hfj
        clear hfj hj
        go_wp2_with fail
        go_roundg j
        case measure => have := Hk.out; omega
        case rel =>
          exact ⟨j, A', n', c', f, l, rfl, rfl, rfl, by omega, Lib.hid ⟨hO.out.1, hO.out.2.pass (fun h => by have h2 := (hK.out.2.at_ (Nat.le_refl _)).2 h; rw [Hfj.out] at h2; cases h2)⟩, Lib.hid ⟨hK.out.1, hK.out.2.pass Hfj.out⟩, hB⟩
      | true =>
        rw [hfj] at hou
        have Hnd := Lib.hid ((hK.out.2.at_ (Nat.le_refl _)).1 hfj)
        clear hfj hj
        have hjl : j < ss.length := by rw [← Hn.out.1]; exact hjn'
        obtain ⟨ad, rfl, hb1, ⟨c0, c1, c2⟩, ha⟩ := (Hr.out _ hB.out.1).cells hjl
        have HC := Lib.hid (fun (W : World) (hb : Below w.heap.size w W) => show W.cell? ⟨(ad.add (j * 3)).block, (ad.add (j * 3)).off + 2, none⟩ = some (.slice ss[j].A ss[j].rs.length ss[j].c) ∧ ReadsA W W.heap.size ss[j].A ss[j].rs from by
          obtain ⟨ad', e, _, ⟨_, _, d2⟩, ha'⟩ := (Hr.out W hb).cells hjl
          injection e with e
          subst e
          exact ⟨d2, ha'⟩)
        have Hgp := Lib.hid (show (ss.map StR.p)[j]? = some ss[j].p by rw [List.getElem?_map, List.getElem?_eq_getElem hjl]; rfl)
        have Hfi := Lib.hid (Hf.out _ (List.getElem_mem hjl))
        clear ha hb1 c0 c1 c2
        generalize ss[j] = s at *
        obtain ⟨v, nm, A1, c1', rs⟩ := s
        simp only at HC
        clear hjl
        have Hll := Lib.hid (hO.out.2.len (by omega))
        go_wp2_with (refine wpI_append rfl (.tmp 49) (.tmp 51) rfl w.heap.size _ l [(j : Int)] (hO.out.1.alloc _) rfl rfl rfl (reads_single _ (j : Int)) (by have := Hll.out; omega) (by simp) (by have := hB.out.1.size; simp; omega) ?_; intro A2 n2 c2 w2 ho2 hn2 hc2 hg2 hw2 hb2; have Ho2 := Lib.hid ho2; have Hb2 := Lib.hid (hb2 _ (hB.out.1.alloc hB.out.1.size _)); have Hk2 := Lib.hid ((hK.out.1.alloc (.cells #[.int .i64 (j : Int)] 3)).grown hg2 (fun e => own_blk_ne hO.out.1 hK.out.1 (by decide) e.symm)); have Hm2 := Lib.hid ((hB.out.2.alloc (.cells #[.int .i64 (j : Int)] 3)).kept hg2 (own_map_ne hO.out.1 hB.out.2)); have d2 := (HC.out _ Hb2.out).1; clear ho2 hn2 hc2 hg2 hw2 hb2)
        have Hrl := Lib.hid (show rs.length ≤ 1000000 by have h : (rs.map (fun r : ARow => r.2.2)).length ≤ 1000000 := Hfi.out.len; rwa [List.length_map] at h)
        go_loopg [15, 59] rs.length (fun kk av qv wq => ∃ (q : Nat) (f' : Nat → Bool), qv = .int .i64 (q : Int) ∧ kk = rs.length - q ∧ q ≤ rs.length ∧ Hid (Blk wq g 4 (mcells f' n) ∧ MarkQ (ss.map StR.p) last j q (rs.map (fun r : ARow => r.2.2)) f') ∧ Hid (w2.grownBy wq (some g)))
        case atStart => exact ⟨0, f, rfl, by omega, by omega, Lib.hid ⟨Hk2.out, MarkQ.start hK.out.2⟩, Lib.hid (World.grownBy.refl _ _)⟩
        case round =>
          obtain ⟨q, f', rfl, hkq, hq, hKq, hGq⟩ := hrel
          have Hkq := Lib.hid hkq
          clear hkq
          have Hbq := Lib.hid (Hb2.out.grown hGq.out Hb2.out.size (fun k hk => by injection hk with hk; rw [← hk]; exact Hg.out.1))
          have Hmq := Lib.hid (Hm2.out.kept hGq.out (fun e => by injection e with e; have := Hg.out.2; omega))
          by_cases hqm : q < rs.length
          · have hqi : (q : Int) < (rs.length : Int) := by omega
            have hq0 : (0 : Int) ≤ (q : Int) := by omega
            have hq6 : (q : Int) ≤ 1000000 := by have := Hrl.out; omega
            obtain ⟨ad2, rfl, hb2, ⟨d0, d1, d2', d3, d4, d5, d6, d7, d8, d9, d10, d11⟩, ha2⟩ := (HC.out _ Hbq.out).2.cells hqm
            have hqx : q < (rs.map (fun r : ARow => r.2.2)).length := by rw [List.length_map]; exact hqm
            have Hxs := Lib.hid (show (rs.map (fun r : ARow => r.2.2))[q] = rs[q].2.2 by rw [List.getElem_map])
            have Hin := Lib.hid (List.getElem_mem hqm)
            have HMp := Lib.hid (show rs[q].2.2.k ≠ 1 → MarkQ (ss.map StR.p) last j (q + 1) (rs.map (fun r : ARow => r.2.2)) f' from fun h => hKq.out.2.pass hqx (by rw [Hxs.out]; exact h))
            have HMm := Lib.hid (show ∀ d, rs[q].2.2.k = 1 → atP (ss.map StR.p) rs[q].2.2.nm.data.toList j = some d → MarkQ (ss.map StR.p) last j (q + 1) (rs.map (fun r : ARow => r.2.2)) (fun j => if j = d then true else f' j) from fun d h h1 => hKq.out.2.mark hqx (by rw [Hxs.out]; exact h) (by rw [Hxs.out]; exact h1))
            clear ha2 hb2 Hxs hqx
            generalize rs[q] = r at *
            clear hqm
            obtain ⟨Aw, cw, y⟩ := r
            simp only at d0 d1 d2' d3 d4 d5 d6 d7 d8 d9 d10 d11 HMp HMm
            by_cases hk1 : y.k = 1
            · have k1 : (y.k == 1) = true := by simp [hk1]
              have Hpm := Lib.hid (List.mem_of_getElem? Hgp.out)
              have hxok := (HS0.out.all.1 _ Hpm.out).all y (List.mem_map.2 ⟨_, Hin.out, rfl⟩)
              have hxn : y.nm.data.toList ≠ [] := by
                unfold ArgP.ok at hxok
                rw [if_pos hk1] at hxok
                obtain ⟨c, q, hl, _⟩ := named_head hxok.1
                rw [hl]; simp
              have hst := (HS0.out.all.2 j (by rw [Hlen.out]; exact hjn') _ Hgp.out).2 y (List.mem_map.2 ⟨_, Hin.out, rfl⟩) hk1
              obtain ⟨d, hd⟩ : ∃ d, atP (ss.map StR.p) y.nm.data.toList j = some d := by
                cases h : atP (ss.map StR.p) y.nm.data.toList j with
                | none => exact absurd h hst
                | some d => exact ⟨d, rfl⟩
              have hdj := (atP_lt hd).1
              have Hcd := Lib.hid (show ∀ c : Int, (mapAt (ss.map StR.p) (ss.map StR.p).length).atKey (.string y.nm.data.toList) (.lit (.int .i64 0)) = .lit (.int .i64 c) → c = (d : Int) from by
                rcases mapAt_full HS0.out.all.2 y.nm.data.toList with ⟨_, h1⟩ | ⟨_, _, k, h2, h3⟩
                · rcases h1 with h1 | h1
                  · exact absurd h1 hxn
                  · rw [atP_more hd (by rw [Hlen.out]; omega)] at h1; cases h1
                · rw [atP_more hd (by rw [Hlen.out]; omega)] at h2
                  injection h2 with h2
                  rw [h2]; exact h3)
              have HM1 := Lib.hid (HMm.out d hk1 hd)
              have hkey2 : keyOf Tryz.prog 9 (.string y.nm) = some (.string y.nm.data.toList) := Go.WideMaps.keyOf_string_mk Tryz.underlying9 (by have h : y.nm.size ≤ 1000000 := (Hfi.out.all y (List.mem_map.2 ⟨_, Hin.out, rfl⟩)).nm; unfold maxLen; omega)
              have hdn : (d : Int) < (n : Int) := by omega
              have hd00 : (0 : Int) ≤ (d : Int) := by omega
              have hd4 : (d : Int) ≤ 40 := by omega
              have hka := hKq.out.1.alloc (.cells #[.int .i64 1, .string y.nm, .bool y.n0, .string y.s0, .bool y.n1, .string y.s1, .bool y.n2, .string y.s2, .bool y.n3, .string y.s3, .slice Aw y.wd.length cw, .int .i64 y.ct] 41)
              have hou2 := hka.cell d
              rw [mcells_get _ (by omega : d < n)] at hou2
              have hfz2 := hka.frozen d
              have Hma := Lib.hid (Hmq.out.alloc (.cells #[.int .i64 1, .string y.nm, .bool y.n0, .string y.s0, .bool y.n1, .string y.s1, .bool y.n2, .string y.s2, .bool y.n3, .string y.s3, .slice Aw y.wd.length cw, .int .i64 y.ct] 41))
              have hks := hka.set_ d (.bool true)
              rw [mcells_set] at hks
              have Hks := Lib.hid hks
              have Hgs := Lib.hid (only_setCell (p := ⟨g, d, none⟩) (only_alloc hGq.out (.cells #[.int .i64 1, .string y.nm, .bool y.n0, .string y.s0, .bool y.n1, .string y.s1, .bool y.n2, .string y.s2, .bool y.n3, .string y.s3, .slice Aw y.wd.length cw, .int .i64 y.ct] 41)) (.inl rfl) (.bool true))
              clear HMp HMm hd hst hxok hxn hdj hka hks
              go_wp2_with (at_lookup; refine wpList_lookup_own_int _ rfl (.tmp 67) (.tmp 69) 104 rfl 9 3 .i64 str_keyed Tryz.underlying104 Tryz.underlying3 (by intros; first | exact Tryz.zeroValue3 _ | rfl) b N _ rfl Hma.out _ (.string y.nm.data.toList) rfl hkey2 ?_; intro c3 hat3 hwc3; rw [Hcd.out _ hat3]; clear hat3 hwc3)
              go_roundg (rs.length - (q + 1))
              case measure => have := Hkq.out; omega
              case rel => exact ⟨q + 1, _, rfl, rfl, by omega, Lib.hid ⟨Hks.out, HM1.out⟩, Hgs⟩
            · have k1 : (y.k == 1) = false := by simpa using hk1
              have HM1 := Lib.hid (HMp.out hk1)
              have Hka := Lib.hid (hKq.out.1.alloc (.cells #[.int .i64 y.k, .string y.nm, .bool y.n0, .string y.s0, .bool y.n1, .string y.s1, .bool y.n2, .string y.s2, .bool y.n3, .string y.s3, .slice Aw y.wd.length cw, .int .i64 y.ct] 41))
              have Hga := Lib.hid (only_alloc hGq.out (.cells #[.int .i64 y.k, .string y.nm, .bool y.n0, .string y.s0, .bool y.n1, .string y.s1, .bool y.n2, .string y.s2, .bool y.n3, .string y.s3, .slice Aw y.wd.length cw, .int .i64 y.ct] 41))
              clear HMp HMm hk1
              go_wp2_with fail
              go_roundg (rs.length - (q + 1))
              case measure => have := Hkq.out; omega
              case rel => exact ⟨q + 1, f', rfl, rfl, by omega, Lib.hid ⟨Hka.out, HM1.out⟩, Hga⟩
          · have hqi : ¬ (q : Int) < (rs.length : Int) := by omega
            have HMd := Lib.hid (hKq.out.2.done Hgp.out (by show (rs.map (fun r : ARow => r.2.2)).length ≤ q; rw [List.length_map]; omega) Hnd.out)
            have Hoq := Lib.hid (Ho2.out.grown hGq.out (fun k hk e => own_blk_ne Ho2.out Hk2.out (by decide) (by rw [hk]; exact e.symm)))
            go_wp2_with fail
            go_roundg j
            case measure => have := Hk.out; omega
            case rel =>
              exact ⟨j, A2, n2, c2, f', l ++ [(j : Int)], rfl, rfl, rfl, by omega, Lib.hid ⟨Hoq.out, hO.out.2.take Hnd.out⟩, Lib.hid ⟨hKq.out.1, HMd.out⟩, Lib.hid ⟨Hbq.out, Hmq.out⟩⟩
end Go.Proofs.YtebpggfccljagaaGreatDoor

/- What a name needs, taken alone: plain. -/
namespace Go.Proofs.YtebpggfccljagaaGreatDoor
open Go.RowKit
open Wh
set_option linter.unusedSimpArgs false
set_option linter.unusedVariables false

/-- statements picked -/
def picks (ps : List StP) (m : List Nat) : List StP := m.filterMap (fun i => ps[i]?)
theorem picks_get {ps : List StP} : ∀ {m : List Nat}, (∀ i ∈ m, i < ps.length) → ∀ j (h : j < m.length), (picks ps m)[j]? = ps[m[j]]?
  | [], _, j, h => absurd h (Nat.not_lt_zero _)
  | i :: m, hm, j, h => by
    have hi := hm i (by simp)
    have e : picks ps (i :: m) = ps[i] :: picks ps m := by
      unfold picks
      rw [List.filterMap_cons, List.getElem?_eq_getElem hi]
    rw [e]
    cases j with
    | zero => simp [hi]
    | succ j => simpa using picks_get (fun k hk => hm k (by simp [hk])) j (by simpa using h)
theorem picks_len {ps : List StP} : ∀ {m : List Nat}, (∀ i ∈ m, i < ps.length) → (picks ps m).length = m.length
  | [], _ => rfl
  | i :: m, hm => by
    have hi := hm i (by simp)
    have h1 := picks_len (m := m) (fun k hk => hm k (by simp [hk]))
    unfold picks at h1 ⊢
    rw [List.filterMap_cons, List.getElem?_eq_getElem hi]
    simp [h1]
theorem asc_at {m : List Nat} (h : m.Pairwise (· < ·)) {i j : Nat} (hi : i < m.length) (hj : j < m.length) (hij : i < j) : m[i] < m[j] := List.pairwise_iff_getElem.1 h i j hi hj hij
/-- what a name needs is in order -/
theorem picks_order {ps : List StP} {last : Nat} {m : List Nat} (hok : ∀ p ∈ ps, p.ok) (hst : ∀ j, j < ps.length → Stands ps j) (hl : last < ps.length) (hm : m.Pairwise (· < ·)) (hn : ∀ i, i ∈ m ↔ Nd ps last i) :
    OrdSays (picks ps m) (picks ps m).length 0 := by
  have hb : ∀ i ∈ m, i < ps.length := fun i hi => by have := ((hn i).1 hi).le; omega
  have hlen := picks_len hb
  refine .inr (.inr ⟨fun p hp => ?_, fun j hj => ?_, rfl, rfl⟩)
  · obtain ⟨j, hj, rfl⟩ := List.mem_iff_getElem.1 hp
    have h1 := picks_get hb j (by omega)
    rw [List.getElem?_eq_getElem hj] at h1
    exact hok _ (List.mem_of_getElem? h1.symm)
  · intro p hp
    have hjm : j < m.length := by omega
    rw [picks_get hb j hjm] at hp
    have hmj := hb _ (List.getElem_mem hjm)
    have hs := hst _ hmj p hp
    have hnd := (hn _).1 (List.getElem_mem hjm)
    refine ⟨fun hne => ?_, fun x hx h1 => ?_⟩
    · have h2 := hs.1 hne
      refine atP_miss fun i hi hij => ?_
      have him : i < m.length := by omega
      have h3 := picks_get hb i him
      rw [List.getElem?_eq_getElem hi, List.getElem?_eq_getElem (hb _ (List.getElem_mem him))] at h3
      injection h3 with h3
      rw [h3]
      have h4 := asc_at hm him hjm hij
      intro e
      unfold atP at h2
      rw [List.findIdx?_eq_none_iff] at h2
      have h5 := h2 ps[m[i]] (by
        rw [List.mem_take_iff_getElem]
        exact ⟨m[i], by have := hb _ (List.getElem_mem him); omega, rfl⟩)
      simp only [beq_eq_false_iff_ne] at h5
      exact h5 e
    · have h2 := hs.2 x hx h1
      intro h3
      cases hd : atP ps x.nm.data.toList m[j] with
      | none => exact h2 hd
      | some d =>
        have hu : Uses ps m[j] d := ⟨p, hp, x, hx, h1, hd⟩
        obtain ⟨i, hi, hid⟩ := List.mem_iff_getElem.1 ((hn d).2 (hnd.step hu))
        have hdj := hu.lt
        have hij : i < j := by
          rcases Nat.lt_or_ge i j with h | h
          · exact h
          · rcases Nat.lt_or_ge j i with h' | h'
            · have := asc_at hm hjm hi h'
              omega
            · have e : i = j := by omega
              subst e
              omega
        obtain ⟨hdl, hde⟩ := atP_is hd
        have h4 := picks_get hb i hi
        have hil : i < (picks ps m).length := by omega
        rw [List.getElem?_eq_getElem hil, List.getElem?_eq_getElem (hb _ (List.getElem_mem hi))] at h4
        injection h4 with h4
        unfold atP at h3
        rw [List.findIdx?_eq_none_iff] at h3
        have h5 := h3 (picks ps m)[i] (by
          rw [List.mem_take_iff_getElem]
          exact ⟨i, by omega, rfl⟩)
        simp only [beq_eq_false_iff_ne] at h5
        refine h5 ?_
        rw [h4]
        have e : ps[m[i]]'(hb _ (List.getElem_mem hi)) = ps[d] := by congr 1
        rw [e, hde]
/-- the last one of what a name needs is its own -/
theorem needs_last {ps : List StP} {last : Nat} {m : List Nat} (hm : m.Pairwise (· < ·)) (hn : ∀ i, i ∈ m ↔ Nd ps last i) : ∃ h : m.length - 1 < m.length, m[m.length - 1] = last := by
  obtain ⟨i, hi, he⟩ := List.mem_iff_getElem.1 ((hn last).2 Nd.top)
  refine ⟨by omega, ?_⟩
  rcases Nat.lt_or_ge i (m.length - 1) with h | h
  · have h1 := asc_at hm hi (show m.length - 1 < m.length by omega) h
    have h2 := ((hn _).1 (List.getElem_mem (show m.length - 1 < m.length by omega))).le
    omega
  · have e : m.length - 1 = i := by omega
    simp only [e]
    exact he
end Go.Proofs.YtebpggfccljagaaGreatDoor

/- ref30.guess (printed by gen_guess.py). -/
namespace Go.Proofs.YtebpggfccljagaaGreatDoor
open Go.RowKit
open Wh
set_option linter.unusedSimpArgs false
set_option linter.unusedVariables false

/-- the result's block -/
structure GsS (w wr : World) : Prop where
  r : Blk wr w.heap.size 41 #[.int .i64 0, .string ⟨#[]⟩, .bool false, .string ⟨#[]⟩, .bool false, .string ⟨#[]⟩, .bool false, .string ⟨#[]⟩, .bool false, .string ⟨#[]⟩, .slice none 0 0, .int .i64 0]
  b : Below w.heap.size w wr
theorem GsS.new (w : World) : GsS w (w.alloc (.cells #[.int .i64 0, .string ⟨#[]⟩, .bool false, .string ⟨#[]⟩, .bool false, .string ⟨#[]⟩, .bool false, .string ⟨#[]⟩, .bool false, .string ⟨#[]⟩, .slice none 0 0, .int .i64 0] 41)) := ⟨Blk.new w 41 _, new_below _ _⟩
theorem GsS.below {w wr w' : World} (h : GsS w wr) (hb : Below wr.heap.size wr w') : GsS w w' := ⟨h.r.below hb h.r.lt, h.b.trans (hb.mono h.b.size)⟩
theorem GsS.done {w wr : World} (h : GsS w wr) (u0 u1 u2 u3 u4 u5 u6 u7 u8 u9 u10 u11 : Value) : Below w.heap.size w ((((((((((((wr.setCell ⟨w.heap.size, 0, none⟩ u0).setCell ⟨w.heap.size, 1, none⟩ u1).setCell ⟨w.heap.size, 2, none⟩ u2).setCell ⟨w.heap.size, 3, none⟩ u3).setCell ⟨w.heap.size, 4, none⟩ u4).setCell ⟨w.heap.size, 5, none⟩ u5).setCell ⟨w.heap.size, 6, none⟩ u6).setCell ⟨w.heap.size, 7, none⟩ u7).setCell ⟨w.heap.size, 8, none⟩ u8).setCell ⟨w.heap.size, 9, none⟩ u9).setCell ⟨w.heap.size, 10, none⟩ u10).setCell ⟨w.heap.size, 11, none⟩ u11) :=
  ((((((((((((h.b.setCell (p := ⟨w.heap.size, 0, none⟩) (Nat.le_refl _) u0).setCell (p := ⟨w.heap.size, 1, none⟩) (Nat.le_refl _) u1).setCell (p := ⟨w.heap.size, 2, none⟩) (Nat.le_refl _) u2).setCell (p := ⟨w.heap.size, 3, none⟩) (Nat.le_refl _) u3).setCell (p := ⟨w.heap.size, 4, none⟩) (Nat.le_refl _) u4).setCell (p := ⟨w.heap.size, 5, none⟩) (Nat.le_refl _) u5).setCell (p := ⟨w.heap.size, 6, none⟩) (Nat.le_refl _) u6).setCell (p := ⟨w.heap.size, 7, none⟩) (Nat.le_refl _) u7).setCell (p := ⟨w.heap.size, 8, none⟩) (Nat.le_refl _) u8).setCell (p := ⟨w.heap.size, 9, none⟩) (Nat.le_refl _) u9).setCell (p := ⟨w.heap.size, 10, none⟩) (Nat.le_refl _) u10).setCell (p := ⟨w.heap.size, 11, none⟩) (Nat.le_refl _) u11)
theorem GsS.own {w wr : World} {l : List Int} {v : Value} (h : GsS w wr) (ho : OwnI wr w.heap.size v l) (u0 u1 u2 u3 u4 u5 u6 u7 u8 u9 u10 u11 : Value) : OwnI ((((((((((((wr.setCell ⟨w.heap.size, 0, none⟩ u0).setCell ⟨w.heap.size, 1, none⟩ u1).setCell ⟨w.heap.size, 2, none⟩ u2).setCell ⟨w.heap.size, 3, none⟩ u3).setCell ⟨w.heap.size, 4, none⟩ u4).setCell ⟨w.heap.size, 5, none⟩ u5).setCell ⟨w.heap.size, 6, none⟩ u6).setCell ⟨w.heap.size, 7, none⟩ u7).setCell ⟨w.heap.size, 8, none⟩ u8).setCell ⟨w.heap.size, 9, none⟩ u9).setCell ⟨w.heap.size, 10, none⟩ u10).setCell ⟨w.heap.size, 11, none⟩ u11) w.heap.size v l := by
  have hg : wr.grownBy ((((((((((((wr.setCell ⟨w.heap.size, 0, none⟩ u0).setCell ⟨w.heap.size, 1, none⟩ u1).setCell ⟨w.heap.size, 2, none⟩ u2).setCell ⟨w.heap.size, 3, none⟩ u3).setCell ⟨w.heap.size, 4, none⟩ u4).setCell ⟨w.heap.size, 5, none⟩ u5).setCell ⟨w.heap.size, 6, none⟩ u6).setCell ⟨w.heap.size, 7, none⟩ u7).setCell ⟨w.heap.size, 8, none⟩ u8).setCell ⟨w.heap.size, 9, none⟩ u9).setCell ⟨w.heap.size, 10, none⟩ u10).setCell ⟨w.heap.size, 11, none⟩ u11) (some w.heap.size) := (only_setCell (p := ⟨w.heap.size, 11, none⟩) ((only_setCell (p := ⟨w.heap.size, 10, none⟩) ((only_setCell (p := ⟨w.heap.size, 9, none⟩) ((only_setCell (p := ⟨w.heap.size, 8, none⟩) ((only_setCell (p := ⟨w.heap.size, 7, none⟩) ((only_setCell (p := ⟨w.heap.size, 6, none⟩) ((only_setCell (p := ⟨w.heap.size, 5, none⟩) ((only_setCell (p := ⟨w.heap.size, 4, none⟩) ((only_setCell (p := ⟨w.heap.size, 3, none⟩) ((only_setCell (p := ⟨w.heap.size, 2, none⟩) ((only_setCell (p := ⟨w.heap.size, 1, none⟩) ((only_setCell (p := ⟨w.heap.size, 0, none⟩) (World.grownBy.refl wr (some w.heap.size)) (.inl rfl) u0)) (.inl rfl) u1)) (.inl rfl) u2)) (.inl rfl) u3)) (.inl rfl) u4)) (.inl rfl) u5)) (.inl rfl) u6)) (.inl rfl) u7)) (.inl rfl) u8)) (.inl rfl) u9)) (.inl rfl) u10)) (.inl rfl) u11)
  exact ho.grown hg (fun g hg e => own_blk_ne ho h.r (by decide) (by rw [hg]; exact e.symm))
/-- what is held while a word is guessed -/
structure BgS (w wr : World) (g cap : Nat) (A : Option Addr) (n c : Nat) (zs : List Int) (L : List (List UInt8)) : Prop where
  a : GsS w wr
  x : Blk wr (w.heap.size + 1) 41 #[.int .i64 4, .string ⟨#[]⟩, .bool false, .string ⟨#[]⟩, .bool false, .string ⟨#[]⟩, .bool false, .string ⟨#[]⟩, .bool false, .string ⟨#[]⟩, .slice A n c, .int .i64 0]
  o : OwnI wr w.heap.size (.slice A n c) zs
  p : OwnS wr (w.heap.size + 1 + 1) (.slice (some ⟨g, 0, none⟩) L.length cap) L
theorem BgS.below {w wr w' : World} {g cap : Nat} {A : Option Addr} {n c : Nat} {zs : List Int} {L : List (List UInt8)} (h : BgS w wr g cap A n c zs L) (hb : Below wr.heap.size wr w') : BgS w w' g cap A n c zs L :=
  ⟨h.a.below hb, h.x.below hb h.x.lt, h.o.kept hb, h.p.kept hb⟩
theorem BgS.app {w wr W3 : World} {g cap : Nat} {A : Option Addr} {n c : Nat} {zs ys : List Int} {L : List (List UInt8)} (h : BgS w wr g cap A n c zs L) {A' : Option Addr} {n' c' : Nat}
    (ho : OwnI W3 w.heap.size (.slice A' n' c') ys) (hg : wr.grownBy W3 (Value.slice A n c).ownBlock) : BgS w (W3.setCell ⟨w.heap.size + 1, 10, none⟩ (.slice A' n' c')) g cap A' n' c' ys L := by
  have hx3 := h.x.grown hg (fun e => own_blk_ne h.o h.x (by decide) e.symm)
  have hr3 := h.a.r.grown hg (fun e => own_blk_ne h.o h.a.r (by decide) e.symm)
  have hb3 := h.a.b.grown hg h.a.b.size (fun k hk => (h.o.lt k hk).1)
  have hp3 := h.p.grown hg (fun g hg => own_neS h.p h.o g hg)
  refine ⟨⟨hr3.far (p := ⟨w.heap.size + 1, 10, none⟩) (by show w.heap.size ≠ w.heap.size + 1; omega) _, hb3.setCell (p := ⟨w.heap.size + 1, 10, none⟩) (by show w.heap.size ≤ w.heap.size + 1; omega) _⟩, hx3.set_ 10 _, ?_, ?_⟩
  · exact ho.grown (grown_set W3 ⟨w.heap.size + 1, 10, none⟩ _) (fun g hg e => own_blk_ne ho hx3 (by decide) (by rw [hg]; exact e.symm))
  · exact ownsRow_setCell_below hp3 (by show w.heap.size + 1 < w.heap.size + 1 + 1; omega) _
end Go.Proofs.YtebpggfccljagaaGreatDoor

/- ref30.Read: what is held; plain. -/
namespace Go.Proofs.YtebpggfccljagaaGreatDoor
open Go.RowKit
open Wh
set_option linter.unusedSimpArgs false
set_option linter.unusedVariables false

/-- the blocks of ref30.Read -/
structure RgS (w wr : World) (g5 g N cap : Nat) (v nm : ByteArray) (A : Option Addr) (n c : Nat) (rs : List ARow) (L : List (List UInt8)) : Prop where
  s : Blk wr w.heap.size 25 #[.string ⟨#[]⟩, .string ⟨#[]⟩, .slice none 0 0]
  t : Blk wr g5 25 #[.string v, .string nm, .slice A n c]
  p : OwnS wr (w.heap.size + 1) (.slice (some ⟨g, 0, none⟩) N cap) L
  o : LentA wr w.heap.size (.slice A n c) rs
  b : Below w.heap.size w wr
  lt : w.heap.size < g5
  hN : N = L.length
section
variable {w wr w' : World} {g5 g N cap n c : Nat} {A : Option Addr} {v nm : ByteArray} {rs : List ARow} {L : List (List UInt8)}
theorem RgS.below (h : RgS w wr g5 g N cap v nm A n c rs L) (hb : Below wr.heap.size wr w') : RgS w w' g5 g N cap v nm A n c rs L :=
  ⟨h.s.below hb h.s.lt, h.t.below hb h.t.lt, h.p.kept hb, h.o.kept hb, h.b.trans (hb.mono h.b.size), h.lt, h.hN⟩
theorem RgS.new {W1 : World} (hs : Blk W1 w.heap.size 25 #[.string ⟨#[]⟩, .string ⟨#[]⟩, .slice none 0 0]) (hp : OwnS W1 (w.heap.size + 1) (.slice (some ⟨g, 0, none⟩) N cap) L) (hb : Below w.heap.size w W1) (hN : N = L.length) (v nm : ByteArray) :
    RgS w (W1.alloc (.cells #[.string v, .string nm, .slice none 0 0] 25)) W1.heap.size g N cap v nm none 0 0 [] L :=
  ⟨hs.alloc _, Blk.new W1 25 _, hp.alloc _, ⟨OwnA.nil _ _, fun r hr => by simp at hr⟩, hb.alloc hb.size _, hs.lt, hN⟩
/-- an argument behind the others -/
theorem RgS.app {w2 w3 : World} {r : ARow} (h : RgS w wr g5 g N cap v nm A n c rs L) (hb2 : Below wr.heap.size wr w2) (hn : OwnI w2 w.heap.size (.slice r.1 r.2.2.wd.length r.2.1) r.2.2.wd) {A' : Option Addr} {n' c' : Nat}
    (ho3 : OwnA w3 w.heap.size (.slice A' n' c') (rs ++ [r])) (hg : (w2.alloc (.cells (acs r).toArray 41)).grownBy w3 (Value.slice A n c).ownBlock) :
    RgS w (w3.setCell ⟨g5, 2, none⟩ (.slice A' n' c')) g5 g N cap v nm A' n' c' (rs ++ [r]) L := by
  have h2 := (h.below hb2).below (new_below w2 (.cells (acs r).toArray 41))
  have ho := h2.o.1
  have hl := LentA.step h.o hb2 hn ho3 hg
  have hs3 := h2.s.grown hg (fun e => own_blk_ne ho h2.s (by decide) e.symm)
  have ht3 := h2.t.grown hg (fun e => own_blk_ne ho h2.t (by decide) e.symm)
  have hp3 : OwnS w3 (w.heap.size + 1) (.slice (some ⟨g, 0, none⟩) N cap) L := h2.p.grown hg (fun g hg => own_neSA h2.p ho g hg)
  have hb3 := h2.b.grown hg h2.b.size (fun k hk => (ho.lt k hk).1)
  exact ⟨hs3.far (p := ⟨g5, 2, none⟩) (by have := h.lt; show w.heap.size ≠ g5; omega) _, ht3.set_ 2 _,
    hp3.setB ht3 (by decide) _, hl.setB ht3 (by decide) (by decide) _, hb3.setCell (p := ⟨g5, 2, none⟩) (by have := h.lt; show w.heap.size ≤ g5; omega) _, h.lt, h.hN⟩
end
end Go.Proofs.YtebpggfccljagaaGreatDoor

/- ref30.Read (printed by gen_rrdw.py). -/
namespace Go.Proofs.YtebpggfccljagaaGreatDoor
open Go.RowKit
open Wh
set_option linter.unusedSimpArgs false
set_option linter.unusedVariables false

end Go.Proofs.YtebpggfccljagaaGreatDoor

/- law30.ScriptRead: what is held. -/
namespace Go.Proofs.YtebpggfccljagaaGreatDoor
open Go.RowKit
open Wh
set_option linter.unusedSimpArgs false
set_option linter.unusedVariables false

def zeroP : StP := ⟨⟨#[]⟩, ⟨#[]⟩, []⟩
/-- what a text says: a statement, or none -/
def Says (l : List UInt8) (p : StP) (z : Int) : Prop := (p.ok ∧ lineT p = l ∧ z = 0) ∨ (p = zeroP ∧ z = 400 ∧ NoLine l)
theorem Says.uniq {l : List UInt8} {p q : StP} {z y : Int} (h : Says l p z) (h' : Says l q y) : p = q ∧ z = y := by
  rcases h with ⟨h1, h2, rfl⟩ | ⟨rfl, rfl, h3⟩
  · rcases h' with ⟨k1, k2, rfl⟩ | ⟨rfl, rfl, k3⟩
    · exact ⟨lineT_inj h1 k1 (h2.trans k2.symm), rfl⟩
    · exact absurd h2 (k3 p h1)
  · rcases h' with ⟨k1, k2, rfl⟩ | ⟨rfl, rfl, k3⟩
    · exact absurd k2 (h3 q k1)
    · exact ⟨rfl, rfl⟩
theorem Says.small {l : List UInt8} {p : StP} {z : Int} (h : Says l p z) : z = 0 ∨ z = 400 := by
  rcases h with ⟨_, _, rfl⟩ | ⟨_, rfl, _⟩
  · exact .inl rfl
  · exact .inr rfl
theorem Says.fit {l : List UInt8} {s : StR} {z : Int} (h : Says l s.p z) : s.p.fit ∧ (∀ r ∈ s.rs, ArgFine r) ∧ s.rs.length ≤ 64 ∧ (∀ r ∈ s.rs, r.2.2.wd.length ≤ 1000000) := by
  rcases h with ⟨h1, _, _⟩ | ⟨h1, _, _⟩
  · have h2 := ok_fit h1
    have h3 := h1.len
    unfold StR.p at h3
    rw [List.length_map] at h3
    exact ⟨h2.1, h2.2, h3, fun r hr => (h2.2 r hr).fit.wd⟩
  · have h2 : s.rs = [] := by
      unfold StR.p zeroP at h1
      injection h1 with _ _ h3
      exact List.map_eq_nil_iff.1 h3
    have h3 : ∀ r ∈ s.rs, ArgFine r := fun r hr => by rw [h2] at hr; cases hr
    refine ⟨by rw [h1]; exact ⟨Nat.zero_le _, Nat.zero_le _, Nat.zero_le _, fun x hx => by cases hx⟩, h3, by rw [h2]; exact Nat.zero_le _, fun r hr => by rw [h2] at hr; cases hr⟩
theorem ReadOut.get {w w' : World} {l : List UInt8} {e : Ending} (h : ReadOut w l e w') : ∃ (s : StR) (z : Int), e = .returned (.tuple #[.agg s.cells, .int .i64 z]) ∧ Says l s.p z ∧ LentA w' w.heap.size (.slice s.A s.rs.length s.c) s.rs ∧ Below w.heap.size w w' := by
  obtain ⟨⟨s, he, h1, h2, h3⟩ | ⟨he, h1⟩, hb⟩ := h
  · exact ⟨s, 0, he, .inl ⟨h1, h2, rfl⟩, h3, hb⟩
  · exact ⟨⟨⟨#[]⟩, ⟨#[]⟩, none, 0, []⟩, 400, he, .inr ⟨rfl, rfl, h1⟩, ⟨OwnA.nil _ _, fun r hr => by cases hr⟩, hb⟩
theorem LentA.low {w : World} {B : Nat} {v : Value} {rs : List ARow} (h : LentA w B v rs) {a : Addr} (ha : a.block < B) (u : Value) : LentA (w.setCell a u) B v rs :=
  ⟨ownsRow_setCell_below h.1 ha u, fun r hr => ownsRow_setCell_below (h.2 r hr) ha u⟩
theorem LentA.lower {w : World} {B B' : Nat} {v : Value} {rs : List ARow} (h : LentA w B v rs) (hB : B' ≤ B) : LentA w B' v rs := by
  refine ⟨⟨h.1.1, ?_⟩, fun r hr => (h.2 r hr).lower hB⟩
  rcases h.1.2 with h1 | ⟨g, cap, cur, h1, h2, h3⟩
  · exact .inl h1
  · exact .inr ⟨g, cap, cur, h1, Nat.le_trans hB h2, h3⟩
/-- what is held while the first answer is written over -/
structure LrS (w wr : World) (E b3 b5 b7 gA : Nat) (s t q : StR) (i : Nat) : Prop where
  x3 : Blk wr b3 25 s.cells
  x5 : Blk wr b5 25 t.cells
  x7 : Blk wr b7 25 q.cells
  e3 : E ≤ b3
  e5 : E ≤ b5
  e7 : E ≤ b7
  tl : LentA wr E (.slice t.A t.rs.length t.c) t.rs
  ql : LentA wr E (.slice q.A q.rs.length q.c) q.rs
  b : Below w.heap.size w wr
  row : ∀ k (hk : k < s.rs.length), i ≤ k → s.A = some ⟨gA, 0, none⟩ ∧ w.heap.size ≤ gA ∧ gA < E ∧ ∃ cs, Blk wr gA 41 cs ∧ k * 12 + 12 ≤ cs.size ∧ cs[k * 12 + 10]? = some (.slice s.rs[k].1 s.rs[k].2.2.wd.length s.rs[k].2.1)
  wd : ∀ r ∈ s.rs, 0 < r.2.2.wd.length → ∃ g cs, r.1 = some ⟨g, 0, none⟩ ∧ Blk wr g 3 cs ∧ r.2.2.wd.length ≤ cs.size ∧ w.heap.size ≤ g ∧ g < E
section
variable {w wr w' : World} {E b3 b5 b7 gA i : Nat} {s t q : StR}
theorem LrS.next (h : LrS w wr E b3 b5 b7 gA s t q i) : LrS w wr E b3 b5 b7 gA s t q (i + 1) :=
  ⟨h.x3, h.x5, h.x7, h.e3, h.e5, h.e7, h.tl, h.ql, h.b, fun k hk hi => h.row k hk (by omega), h.wd⟩
theorem LrS.below (h : LrS w wr E b3 b5 b7 gA s t q i) (hE : E ≤ wr.heap.size) (hb : Below wr.heap.size wr w') : LrS w w' E b3 b5 b7 gA s t q i :=
  ⟨h.x3.below hb h.x3.lt, h.x5.below hb h.x5.lt, h.x7.below hb h.x7.lt, h.e3, h.e5, h.e7, h.tl.kept hb, h.ql.kept hb, h.b.trans (hb.mono h.b.size),
    fun k hk hi => by
      obtain ⟨h1, h2, h3, cs, h4, h5, h6⟩ := h.row k hk hi
      exact ⟨h1, h2, h3, cs, h4.below hb h4.lt, h5, h6⟩,
    fun r hr h0 => by
      obtain ⟨g, cs, h1, h2, h3, h4, h5⟩ := h.wd r hr h0
      exact ⟨g, cs, h1, h2.below hb h2.lt, h3, h4, h5⟩⟩
/-- a cell of the first answer's is written -/
theorem LrS.put (h : LrS w wr E b3 b5 b7 gA s t q i) {g k : Nat} (h1 : w.heap.size ≤ g) (h2 : g < E) (h3 : g = gA → k < i * 12) (u : Value) : LrS w (wr.setCell ⟨g, k, none⟩ u) E b3 b5 b7 gA s t q i :=
  ⟨h.x3.far (p := ⟨g, k, none⟩) (by have := h.e3; show b3 ≠ g; omega) u, h.x5.far (p := ⟨g, k, none⟩) (by have := h.e5; show b5 ≠ g; omega) u, h.x7.far (p := ⟨g, k, none⟩) (by have := h.e7; show b7 ≠ g; omega) u, h.e3, h.e5, h.e7,
    h.tl.low (a := ⟨g, k, none⟩) h2 u, h.ql.low (a := ⟨g, k, none⟩) h2 u, h.b.setCell (p := ⟨g, k, none⟩) h1 u,
    fun j hj hi => by
      obtain ⟨k1, k2, k3, cs, k4, k5, k6⟩ := h.row j hj hi
      by_cases hg : g = gA
      · subst hg
        have hk := h3 rfl
        refine ⟨k1, k2, k3, _, k4.set_ k u, by rw [Array.size_setIfInBounds]; exact k5, ?_⟩
        rw [Array.getElem?_setIfInBounds_ne (by omega)]
        exact k6
      · exact ⟨k1, k2, k3, cs, k4.far (p := ⟨g, k, none⟩) (fun e => hg e.symm) u, k5, k6⟩,
    fun r hr h0 => by
      obtain ⟨g', cs, k1, k2, k3, k4, k5⟩ := h.wd r hr h0
      by_cases hg : g' = g
      · subst hg
        exact ⟨g', _, k1, k2.set_ k u, by rw [Array.size_setIfInBounds]; exact k3, k4, k5⟩
      · exact ⟨g', cs, k1, k2.far (p := ⟨g, k, none⟩) hg u, k3, k4, k5⟩⟩
theorem LrS.start {W1 : World} (h1 : LentA W1 w.heap.size (.slice s.A s.rs.length s.c) s.rs) (hb : Below W1.heap.size W1 wr) (h3 : Blk wr b3 25 s.cells) (h5 : Blk wr b5 25 t.cells) (h7 : Blk wr b7 25 q.cells) (e3 : W1.heap.size ≤ b3) (e5 : W1.heap.size ≤ b5) (e7 : W1.heap.size ≤ b7)
    (ht : LentA wr W1.heap.size (.slice t.A t.rs.length t.c) t.rs) (hq : LentA wr W1.heap.size (.slice q.A q.rs.length q.c) q.rs) (hw : Below w.heap.size w wr) : ∃ gA, LrS w wr W1.heap.size b3 b5 b7 gA s t q 0 := by
  have hwd : ∀ r ∈ s.rs, 0 < r.2.2.wd.length → ∃ g cs, r.1 = some ⟨g, 0, none⟩ ∧ Blk wr g 3 cs ∧ r.2.2.wd.length ≤ cs.size ∧ w.heap.size ≤ g ∧ g < W1.heap.size := fun r hr h0 => by
    rcases (h1.2 r hr).2 with ⟨_, h2⟩ | ⟨g, cap, cur, hv, hbs, hh, hc, hm, hz, _⟩
    · omega
    · injection hv with hv _ _
      have hB : Blk W1 g 3 cur := hh
      exact ⟨g, cur, hv, hB.below hb hB.lt, by omega, hbs, hB.lt⟩
  rcases h1.1.2 with ⟨_, h0⟩ | ⟨g, cap, cur, hv, hbs, hh, hc, hm, hz, htk⟩
  · exact ⟨0, h3, h5, h7, e3, e5, e7, ht, hq, hw, fun k hk _ => by omega, hwd⟩
  · injection hv with hv _ _
    have hB : Blk W1 g 41 cur := hh
    refine ⟨g, h3, h5, h7, e3, e5, e7, ht, hq, hw, fun k hk _ => ⟨hv, hbs, hB.lt, cur, hB.below hb hB.lt, by omega, ?_⟩, hwd⟩
    have e1 := acs_get s.rs k hk 10 (by decide)
    rw [← htk] at e1
    rw [List.getElem?_take_of_lt (by omega)] at e1
    rw [show k * 12 + 10 = 12 * k + 10 by omega, ← Array.getElem?_toList, e1]
    rfl
end
end Go.Proofs.YtebpggfccljagaaGreatDoor

/- Statements in a row of one's own. -/
namespace Go.Proofs.YtebpggfccljagaaGreatDoor
open Go.RowKit
open Wh
set_option linter.unusedSimpArgs false
set_option linter.unusedVariables false

theorem scs_one (ss : List StR) : ∀ u ∈ ss.flatMap scs, u.oneCell' = true := by
  intro u hu
  obtain ⟨r, _, h⟩ := List.mem_flatMap.1 hu
  unfold scs at h
  simp only [List.mem_cons, List.not_mem_nil, or_false] at h
  rcases h with rfl | rfl | rfl <;> rfl
theorem infoT : (Tryz.prog.info? 25).map (fun i => (i.zero, i.size, i.bytes)) = some (some (.agg #[.string ⟨#[]⟩, .string ⟨#[]⟩, .slice none 0 0]), 3, 56) := by kernel_rfl
def OwnT (w : World) (B : Nat) (v : Value) (ss : List StR) : Prop := w.ownsRow B 25 3 v ss.length (ss.flatMap scs)
/-- statements of one's own, their arguments, too -/
def LentT (w : World) (B : Nat) (v : Value) (ss : List StR) : Prop := OwnT w B v ss ∧ ∀ s ∈ ss, LentA w B (.slice s.A s.rs.length s.c) s.rs
section
variable {w w' : World} {B B' : Nat} {v : Value} {ss : List StR}
theorem OwnT.form (h : OwnT w B v ss) : ∃ A c, v = .slice A ss.length c ∧ ss.length ≤ c ∧ c ≤ maxLen := by
  rcases h.2 with ⟨rfl, h0⟩ | ⟨g, cap, cur, rfl, _, _, hc, hm, _⟩
  · exact ⟨none, 0, by rw [h0], by omega, by unfold maxLen; omega⟩
  · exact ⟨_, cap, rfl, hc, hm⟩
theorem OwnT.alloc (h : OwnT w B v ss) (o : Obj) : OwnT (w.alloc o) B v ss := World.ownsRow.alloc h o
theorem OwnT.drewN (h : OwnT w B v ss) (k : Nat) : OwnT (w.drewN k) B v ss := h
theorem OwnT.nil (w : World) (B : Nat) : OwnT w B (.slice none 0 0) [] := World.ownsRow_nil w B _ 3
theorem OwnT.kept (h : OwnT w B v ss) (hb : Below w.heap.size w w') : OwnT w' B v ss := by
  refine ⟨h.1, ?_⟩
  rcases h.2 with h' | ⟨g, cap, cur, hv, hg, hh, r⟩
  · exact .inl h'
  · exact .inr ⟨g, cap, cur, hv, hg, (hb.block g (Array.getElem?_eq_some_iff.1 hh).1).trans hh, r⟩
/-- two rows of different types lie in different blocks -/
theorem own_ne2 {e e' : TypeId} {z z' n n' : Nat} {xs xs' : List Value} {v2 : Value} (h : w.ownsRow B e z v n xs) (h' : w.ownsRow B' e' z' v2 n' xs') (hne : e ≠ e') : ∀ g, v.ownBlock = some g → v2.ownBlock ≠ some g := by
  intro g hg hg'
  rcases h.2 with ⟨rfl, _⟩ | ⟨g1, _, _, rfl, _, hh, _⟩
  · cases hg
  · rcases h'.2 with ⟨rfl, _⟩ | ⟨g2, _, _, rfl, _, hh', _⟩
    · cases hg'
    · have e1 : g1 = g := by simpa [Value.ownBlock] using hg
      have e2 : g2 = g := by simpa [Value.ownBlock] using hg'
      subst e1 e2
      rw [hh] at hh'
      injection hh' with hh'
      injection hh' with _ ht
      exact hne ht
theorem OwnT.grown (h : OwnT w B v ss) {row : Option Nat} (hg : w.grownBy w' row) (hr : ∀ g, v.ownBlock = some g → row ≠ some g) : OwnT w' B v ss := by
  refine ⟨h.1, ?_⟩
  rcases h.2 with h1 | ⟨g, cap, cur, hv, hb, hh, h3⟩
  · exact .inl h1
  · refine .inr ⟨g, cap, cur, hv, hb, ?_, h3⟩
    have := hr g (by rw [hv]; simp [Value.ownBlock])
    exact (hg.block g (Array.getElem?_eq_some_iff.1 hh).1 (fun e => this (by rw [e]))).trans hh
theorem OwnT.reads {A : Option Addr} {n c : Nat} (h : OwnT w B (.slice A n c) ss) : Reads w w.heap.size 3 A ss.length (ss.flatMap scs) ∧ n = ss.length := by
  obtain ⟨A', c', e, _, _⟩ := h.form
  injection e with e1 e2 e3
  subst e2
  exact ⟨Reads.of_own h, rfl⟩
theorem LentT.kept (h : LentT w B v ss) (hb : Below w.heap.size w w') : LentT w' B v ss := ⟨h.1.kept hb, fun s hs => (h.2 s hs).kept hb⟩
theorem LentT.nil (w : World) (B : Nat) : LentT w B (.slice none 0 0) [] := ⟨OwnT.nil w B, fun s hs => by cases hs⟩
theorem LentT.alloc (h : LentT w B v ss) (o : Obj) : LentT (w.alloc o) B v ss := h.kept ((Below.refl _ w).alloc (Nat.le_refl _) o)
theorem LentT.setB {gx i : Nat} {t : TypeId} {cs : Array Value} (h : LentT w B v ss) (hb : Blk w gx t cs) (h0 : 25 ≠ t) (h1 : 41 ≠ t) (h2 : 3 ≠ t) (u : Value) : LentT (w.setCell ⟨gx, i, none⟩ u) B v ss :=
  ⟨h.1.grown (grown_set w ⟨gx, i, none⟩ u) (fun g hg e => own_blk_ne h.1 hb h0 (by rw [hg]; exact e.symm)), fun s hs => (h.2 s hs).setB hb h1 h2 u⟩
theorem LentT.reads {A : Option Addr} {n c : Nat} (h : LentT w B (.slice A n c) ss) (hf : ∀ s ∈ ss, ∀ r ∈ s.rs, ArgFine r) : ReadsT w w.heap.size A ss ∧ n = ss.length := by
  obtain ⟨h1, h2⟩ := h.1.reads
  exact ⟨⟨h1, fun s hs => (lent_readsA (h.2 s hs) (hf s hs)).1⟩, h2⟩
theorem LentT.lower (h : LentT w B v ss) (hB : B' ≤ B) : LentT w B' v ss := by
  refine ⟨⟨h.1.1, ?_⟩, fun s hs => (h.2 s hs).lower hB⟩
  rcases h.1.2 with h1 | ⟨g, cap, cur, h1, h2, h3⟩
  · exact .inl h1
  · exact .inr ⟨g, cap, cur, h1, Nat.le_trans hB h2, h3⟩
/-- arguments of one's own while a row of statements grows -/
theorem LentA.grownT {row : Value} {A : Value} {rs : List ARow} (h : LentA w B A rs) (ht : OwnT w B' row ss) (hg : w.grownBy w' row.ownBlock) : LentA w' B A rs :=
  ⟨h.1.grown hg (fun g hg' e => own_ne2 h.1 ht (by decide) g hg' e), fun r hr => (h.2 r hr).grown hg (fun g hg' e => own_ne2 (h.2 r hr) ht (by decide) g hg' e)⟩
end
theorem reads_singleT (w : World) (s : StR) : Reads (w.alloc (.cells (scs s).toArray 25)) (w.heap.size + 1) 3 (some ⟨w.heap.size, 0, none⟩) 1 ([s].flatMap scs) := by
  refine ⟨rfl, fun _ => ⟨_, rfl, Nat.lt_succ_self _, fun j u hu => ?_⟩⟩
  have hb := Blk.new w 25 (scs s).toArray
  rw [List.flatMap_cons, List.flatMap_nil, List.append_nil] at hu
  rw [Addr.add_lit, Nat.zero_add, hb.cell j, List.getElem?_toArray]
  exact hu
theorem wpT_append {w : World} {ops : Array Oper} {rest : List Oper} {o : Oper} {a : Act} {Q : Exit → Act → World → Prop} (hgd : o.guard = none) (s x : Operand)
    (ho : o.op = .call { callee := .builtin .append, args := #[s, x], argTypes := #[51, 51] }) (B : Nat) (v : Value) (rs ms : List StR) (hown : OwnT w B v rs) (hs : a.eval s = v)
    {B' : Nat} {A : Option Addr} {k c : Nat} (hx : a.eval x = .slice A k c) (hk : k = ms.length) (hr : Reads w B' 3 A ms.length (ms.flatMap scs)) (hlen : rs.length ≤ 1000000) (hlm : ms.length ≤ 1000000) (hbase : B ≤ w.heap.size)
    (h : ∀ A' n' c' w', OwnT w' B (.slice A' n' c') (rs ++ ms) → n' = rs.length + ms.length → n' ≤ c' → w.grownBy w' v.ownBlock → (∀ w0, Below B w0 w → Below B w0 w') → wpList Tryz.prog ops Q rest (a.put o.dst (.slice A' n' c')) w') :
    wpList Tryz.prog ops Q (o :: rest) a w := by
  obtain ⟨i0, hi, hz0, hz1, hz2⟩ := info_parts infoT
  subst hk
  refine wpList_append_any _ hgd s x 51 ho B 25 i0 (.agg #[.string ⟨#[]⟩, .string ⟨#[]⟩, .slice none 0 0]) 3 56 Tryz.underlying51 hi hz0 hz1 hz2 (by kernel_rfl) (by decide) v rs.length (rs.flatMap scs) hs hown _ _ ms.length c (ms.flatMap scs) hx hr (scs_one _) (by unfold maxLen; omega) (by omega) hbase ?_
  intro v' w' h1 h2 h3
  have h4 : OwnT w' B v' (rs ++ ms) := by
    unfold OwnT
    rw [List.length_append, List.flatMap_append]
    exact h1
  obtain ⟨A', c', rfl, hc', _⟩ := h4.form
  exact h A' _ c' w' h4 (List.length_append ..) hc' h2 (fun w0 hb => hb.grown h2 hbase (fun k hk => (World.ownsRow.lt hown k hk).1))
/-- one statement more -/
theorem LentT.step {w w2 w3 : World} {B : Nat} {v v' : Value} {ss : List StR} {s : StR} (h : LentT w B v ss) (hb2 : Below w.heap.size w w2) (hn : LentA w2 B (.slice s.A s.rs.length s.c) s.rs)
    (ho3 : OwnT w3 B v' (ss ++ [s])) (hg : (w2.alloc (.cells (scs s).toArray 25)).grownBy w3 v.ownBlock) : LentT w3 B v' (ss ++ [s]) := by
  have hv : OwnT (w2.alloc (.cells (scs s).toArray 25)) B v ss := (h.1.kept hb2).alloc _
  have hal : Below w2.heap.size w2 (w2.alloc (.cells (scs s).toArray 25)) := (Below.refl _ w2).alloc (Nat.le_refl _) _
  refine ⟨ho3, fun x hx => ?_⟩
  rcases List.mem_append.1 hx with hx | hx
  · exact (((h.2 x hx).kept hb2).kept hal).grownT hv hg
  · rw [List.mem_singleton.1 hx]
    exact (hn.kept hal).grownT hv hg
end Go.Proofs.YtebpggfccljagaaGreatDoor

/- law30.ScriptNeeds. -/
namespace Go.Proofs.YtebpggfccljagaaGreatDoor
open Go.RowKit
open Wh
set_option linter.unusedSimpArgs false
set_option linter.unusedVariables false

/-- a line, or the refusal -/
def LineIs (p : StP) (q : ByteArray) (z : Int) : Prop := (p.ok ∧ q = ⟨(lineT p).toArray⟩ ∧ z = 0) ∨ (¬ p.ok ∧ q = ⟨#[]⟩ ∧ z = 2)
theorem line_any {w : World} {B : Nat} {s : StR} (hg : Gl B w) (hr : ReadsA w w.heap.size s.A s.rs) (hf : s.p.fit) :
    ∃ (q : ByteArray) (z : Int), LineIs s.p q z ∧ ∀ W, Below w.heap.size w W → Calls Tryz.prog 14 #[.agg s.cells] W (fun e w' => e = .returned (.tuple #[.string q, .int .i64 z]) ∧ Below W.heap.size W w') := by
  rcases Classical.em s.p.ok with hok | hno
  · exact ⟨⟨(lineT s.p).toArray⟩, 0, .inl ⟨hok, rfl, rfl⟩, fun W hb => line_ok ((hg.below hb).tab.more (hg.below hb).hB) (hr.calm (Nat.le_refl _) hb) (Nat.le_refl _) hf hok⟩
  · exact ⟨⟨#[]⟩, 2, .inr ⟨hno, rfl, rfl⟩, fun W hb => line_bad (hr.calm (Nat.le_refl _) hb) (Nat.le_refl _) hf hno⟩
/-- a row in order, below a bound, is no longer than that -/
theorem asc_len' {m : List Nat} {b : Nat} (h : m.Pairwise (· < ·)) (hk : ∀ x ∈ m, x < b) : m.length ≤ b := by
  have := asc_len (a := 0) h (fun x hx => ⟨Nat.zero_le _, hk x hx⟩)
  omega
theorem LineIs.same {p p' : StP} {q q' : ByteArray} {z z' : Int} (h : LineIs p q z) (h' : LineIs p' q' z') (hz : z = 0) (hz' : z' = 0) : q = q' ↔ p = p' := by
  rcases h with ⟨h1, rfl, _⟩ | ⟨_, _, rfl⟩
  · rcases h' with ⟨k1, rfl, _⟩ | ⟨_, _, rfl⟩
    · exact ⟨fun e => lineT_inj h1 k1 (by injection e with e; injection e), fun e => by rw [e]⟩
    · cases hz'
  · cases hz
/-- statements picked, with where they lie -/
def selR (ss : List StR) (m : List Nat) : List StR := m.filterMap (fun j => ss[j]?)
theorem selR_map (ss : List StR) (m : List Nat) : (selR ss m).map StR.p = picks (ss.map StR.p) m := by
  unfold selR picks
  rw [List.map_filterMap]
  congr 1
  funext j
  rw [List.getElem?_map]
theorem selR_step {ss : List StR} {m : List Nat} {i : Nat} (hi : i < m.length) (hs : m[i] < ss.length) : selR ss (m.take (i + 1)) = selR ss (m.take i) ++ [ss[m[i]]] := by
  unfold selR
  rw [List.take_succ_eq_append_getElem hi, List.filterMap_append]
  congr 1
  rw [List.filterMap_cons, List.getElem?_eq_getElem hs]
  rfl
theorem selR_len {ss : List StR} {m : List Nat} (h : ∀ i ∈ m, i < ss.length) : (selR ss m).length = m.length := by
  have h1 := picks_len (ps := ss.map StR.p) (m := m) (fun i hi => by rw [List.length_map]; exact h i hi)
  rw [← selR_map, List.length_map] at h1
  exact h1
theorem selR_mem {ss : List StR} {m : List Nat} {s : StR} (h : s ∈ selR ss m) : s ∈ ss := by
  unfold selR at h
  obtain ⟨j, _, hj⟩ := List.mem_filterMap.1 h
  exact List.mem_of_getElem? hj
/-- what is picked out of statements that are read is read -/
theorem sel_reads {W W0 : World} {B : Nat} {A A' : Option Addr} {n c : Nat} {ss : List StR} {m : List Nat} (h : OwnT W B (.slice A n c) (selR ss m)) (hr : ReadsT W W.heap.size A' ss) : ReadsT W W.heap.size A (selR ss m) ∧ n = (selR ss m).length :=
  ⟨⟨h.reads.1, fun s hs => hr.2 s (selR_mem hs)⟩, h.reads.2⟩
set_option maxRecDepth 100000 in
set_option maxHeartbeats 8000000 in
/-- law30.ScriptNeeds -/
theorem sneedslaw_any {w : World} {B : Nat} (hg : Gl B w) {A : Option Addr} {c : Nat} {ss : List StR} {x : ByteArray} {t : StR} (hr : ReadsT w w.heap.size A ss) (hx : x.size ≤ maxLen) (ht : ReadsA w w.heap.size t.A t.rs) :
    Calls Tryz.prog 7 #[.slice A ss.length c, .string x, .agg t.cells] w (fun e w' => e = .returned (.bool true) ∧ Below w.heap.size w w') := by
  have hbx := Blk.new w 25 t.cells
  have hb0 := new_below w (.cells t.cells 25)
  have HK := Lib.hid (fun W (hb : Below w.heap.size w W) => known_any (hg.below hb))
  have HG := Lib.hid hg
  have HX := Lib.hid hx
  have Hr := Lib.hid (fun W (hb : Below w.heap.size w W) => hr.calm (Nat.le_refl _) hb)
  have Ht := Lib.hid (fun W (hb : Below w.heap.size w W) => ht.calm (Nat.le_refl _) hb)
  clear hg hr hx ht
  generalize hn : ss.length = n at *
  have Hn := Lib.hid hn.symm
  clear hn
  obtain ⟨v, nm, At, ct, rt⟩ := t
  unfold StR.cells at *
  simp only at *
  have HV := Lib.hid (fun W (hb : Below w.heap.size w W) => large_any (c := c) (Hr.out W hb) (Nat.le_refl _) Hn.out)
  have HV2 := Lib.hid (fun W (hb : Below w.heap.size w W) => vast_any (s := ⟨v, nm, At, ct, rt⟩) (Ht.out W hb) (Nat.le_refl _))
  unfold StR.cells at HV2
  simp only at HV2
  have H0 := Lib.hid (And.intro hbx hb0)
  clear hbx hb0
  go_enter Tryz.func7, Tryz.ntmps7
  go_wp2_with fail
  refine (HV.out _ H0.out.2).mono ?_
  rintro _ W1 ⟨b1, rfl, hv1, hb1⟩
  have H1 := Lib.hid (And.intro (H0.out.1.below hb1 H0.out.1.lt) (H0.out.2.trans (hb1.mono H0.out.2.size)))
  cases b1
  · have Hsm := Lib.hid (hv1 rfl)
    clear hv1 hb1
    have x0 := H1.out.1.cell 0
    have x1 := H1.out.1.cell 1
    have x2 := H1.out.1.cell 2
    go_wp2_with fail
    refine (HV2.out _ H1.out.2).mono ?_
    rintro _ W2 ⟨b2, rfl, hv2, hb2⟩
    have H2 := Lib.hid (And.intro (H1.out.1.below hb2 H1.out.1.lt) (H1.out.2.trans (hb2.mono H1.out.2.size)))
    clear x0 x1 x2
    cases b2
    · have Hst := Lib.hid (hv2 rfl)
      clear hv2 hb2
      have hn40 : n ≤ 40 := by rw [Hn.out]; exact Hsm.out.1
      have Hl := Lib.hid (show ss.length ≤ 40 from Hsm.out.1)
      have Hf := Lib.hid (fun s (hs : s ∈ ss) => (Hsm.out.2 s hs).fit)
      have Hft := Lib.hid Hst.out.fit
      obtain ⟨q, z, hli, hcl⟩ := line_any (s := ⟨v, nm, At, ct, rt⟩) (HG.out.below H2.out.2) (Ht.out _ H2.out.2) Hft.out
      have Hli := Lib.hid hli
      have HL := Lib.hid hcl
      unfold StR.cells at HL
      simp only at HL
      clear hli hcl
      have x0 := H2.out.1.cell 0
      have x1 := H2.out.1.cell 1
      have x2 := H2.out.1.cell 2
      go_wp2_with fail
      refine (HL.out _ (Below.refl _ _)).mono ?_
      rintro _ W3 ⟨rfl, hb3⟩
      have H3 := Lib.hid (And.intro (H2.out.1.below hb3 H2.out.1.lt) (H2.out.2.trans (hb3.mono H2.out.2.size)))
      clear hb3 x0 x1 x2 HL
      go_wp2_with fail
      go_loopg [9, 10, 11] n (fun k iv sv zv wr => ∃ i : Nat, iv = .int .i64 (i : Int) ∧ k = n - i ∧ i ≤ n ∧ Hid (Below W3.heap.size W3 wr))
      case atStart => exact ⟨0, rfl, by omega, by omega, Lib.hid (Below.refl _ _)⟩
      case round =>
        obtain ⟨i, rfl, hk, hi, hO⟩ := hrel
        have Hk := Lib.hid hk
        clear hk
        have HB := Lib.hid (H3.out.2.trans (hO.out.mono H3.out.2.size))
        by_cases hin : i < n
        · have hil : i < ss.length := by rw [← Hn.out]; exact hin
          obtain ⟨ad, rfl, hb1, ⟨c0, c1, c2⟩, ha⟩ := (Hr.out _ HB.out).cells hil
          have HC := Lib.hid (fun (W : World) (hb : Below w.heap.size w W) => show (W.cell? (ad.add (i * 3)) = some (.string ss[i].v) ∧ W.cell? ⟨(ad.add (i * 3)).block, (ad.add (i * 3)).off + 1, none⟩ = some (.string ss[i].nm) ∧ W.cell? ⟨(ad.add (i * 3)).block, (ad.add (i * 3)).off + 2, none⟩ = some (.slice ss[i].A ss[i].rs.length ss[i].c)) ∧ ReadsA W W.heap.size ss[i].A ss[i].rs from by
            obtain ⟨ad', e, _, d2, ha'⟩ := (Hr.out W hb).cells hil
            injection e with e
            subst e
            exact ⟨d2, ha'⟩)
          have hii : (i : Int) < (n : Int) := by omega
          have hi0 : (0 : Int) ≤ (i : Int) := by omega
          have hi4 : (i : Int) ≤ 40 := by omega
          have Hfi := Lib.hid (Hf.out _ (List.getElem_mem hil))
          clear ha hb1
          generalize ss[i] = s at *
          obtain ⟨v2, nm2, A2, c2', rs⟩ := s
          simp only at HC c0 c1 c2
          clear hil
          obtain ⟨qi, zi, hlii, hcl⟩ := line_any (s := ⟨v2, nm2, A2, c2', rs⟩) (HG.out.below HB.out) (HC.out _ HB.out).2 Hfi.out
          have Hlii := Lib.hid hlii
          have HL := Lib.hid (hcl _ (Below.refl _ _))
          unfold StR.cells at HL
          simp only at HL
          clear hlii hcl
          go_wp2_with fail
          refine HL.out.mono ?_
          rintro _ W4 ⟨rfl, hb4⟩
          have H4 := Lib.hid (And.intro (HB.out.trans (hb4.mono HB.out.size)) (hO.out.trans (hb4.mono hO.out.size)))
          clear c0 c1 c2 HL hb4
          by_cases hz : z = 0
          · by_cases hzi : zi = 0
            · have e1 : (z == 0) = true := by simpa using hz
              have e2 : (zi == 0) = true := by simpa using hzi
              obtain ⟨b, hb, _, h18⟩ := same_two (s := ⟨v, nm, At, ct, rt⟩) (t := ⟨v2, nm2, A2, c2', rs⟩) (Ht.out _ H4.out.1) (HC.out _ H4.out.1).2 Hft.out Hfi.out
              have hsame := Hli.out.same Hlii.out hz hzi
              unfold StR.cells at h18
              simp only at h18
              have H18 := Lib.hid h18
              have Hkeep : Hid (∀ w', Below W4.heap.size W4 w' → (w'.cell? ⟨w.heap.size, 0, none⟩ = some (.string v) ∧ w'.cell? ⟨w.heap.size, 1, none⟩ = some (.string nm) ∧ w'.cell? ⟨w.heap.size, 2, none⟩ = some (.slice At rt.length ct) ∧ w'.cell? (ad.add (i * 3)) = some (.string v2) ∧ w'.cell? ⟨(ad.add (i * 3)).block, (ad.add (i * 3)).off + 1, none⟩ = some (.string nm2) ∧ w'.cell? ⟨(ad.add (i * 3)).block, (ad.add (i * 3)).off + 2, none⟩ = some (.slice A2 rs.length c2'))) := Lib.hid fun w' hb => by
                have hx := H3.out.1.below (H4.out.2.trans (hb.mono H4.out.2.size)) H3.out.1.lt
                obtain ⟨d0, d1, d2⟩ := (HC.out _ (H4.out.1.trans (hb.mono H4.out.1.size))).1
                exact ⟨hx.cell 0, hx.cell 1, hx.cell 2, d0, d1, d2⟩
              obtain ⟨x0, x1, x2, c0, c1, c2⟩ := Hkeep.out _ (Below.refl _ _)
              clear h18 hz hzi
              cases b with
              | true =>
                obtain rfl : q = qi := hsame.2 (hb.1 rfl)
                have e3 : (q.toList == q.toList) = true := by simp
                clear hsame hb
                go_wp2_with fail
                go_region_held3 (fun w' => w'.cell? ⟨w.heap.size, 0, none⟩ = some (.string v) ∧ w'.cell? ⟨w.heap.size, 1, none⟩ = some (.string nm) ∧ w'.cell? ⟨w.heap.size, 2, none⟩ = some (.slice At rt.length ct) ∧ w'.cell? (ad.add (i * 3)) = some (.string v2) ∧ w'.cell? ⟨(ad.add (i * 3)).block, (ad.add (i * 3)).off + 1, none⟩ = some (.string nm2) ∧ w'.cell? ⟨(ad.add (i * 3)).block, (ad.add (i * 3)).off + 2, none⟩ = some (.slice A2 rs.length c2'))
                  (first | go_keep | exact Hkeep.out _ hc18)
                  (first | (go_at_call 18; (with_reducible refine (H18.out _ (Below.refl _ _).drew).mono ?_); rintro _ V1 ⟨rfl, hb18⟩; have hc18 : Below W4.heap.size W4 V1 := ((Below.refl W4.heap.size W4).drew).trans hb18))
                go_wp2_with fail
                go_roundg (n - (i + 1))
                case measure => have := Hk.out; omega
                case rel => exact ⟨i + 1, rfl, rfl, by omega, Lib.hid (H4.out.2.trans (hc18.mono H4.out.2.size))⟩
              | false =>
                have e3 : (qi.toList == q.toList) = false := by
                  have h : ¬ qi.toList = q.toList := fun e => by
                    have := hb.2 (hsame.1 (tl_inj e).symm)
                    cases this
                  simpa using h
                clear hsame hb
                go_wp2_with fail
                go_region_held3 (fun w' => w'.cell? ⟨w.heap.size, 0, none⟩ = some (.string v) ∧ w'.cell? ⟨w.heap.size, 1, none⟩ = some (.string nm) ∧ w'.cell? ⟨w.heap.size, 2, none⟩ = some (.slice At rt.length ct) ∧ w'.cell? (ad.add (i * 3)) = some (.string v2) ∧ w'.cell? ⟨(ad.add (i * 3)).block, (ad.add (i * 3)).off + 1, none⟩ = some (.string nm2) ∧ w'.cell? ⟨(ad.add (i * 3)).block, (ad.add (i * 3)).off + 2, none⟩ = some (.slice A2 rs.length c2'))
                  (first | go_keep | exact Hkeep.out _ hc18)
                  (first | (go_at_call 18; (with_reducible refine (H18.out _ (Below.refl _ _).drew).mono ?_); rintro _ V1 ⟨rfl, hb18⟩; have hc18 : Below W4.heap.size W4 V1 := ((Below.refl W4.heap.size W4).drew).trans hb18))
                go_wp2_with fail
                go_roundg (n - (i + 1))
                case measure => have := Hk.out; omega
                case rel => exact ⟨i + 1, rfl, rfl, by omega, Lib.hid (H4.out.2.trans (hc18.mono H4.out.2.size))⟩
            · have e1 : (z == 0) = true := by simpa using hz
              have e2 : (zi == 0) = false := by simpa using hzi
              clear hz hzi
              go_wp2_with (go_quiet (fail))
              go_roundg (n - (i + 1))
              case measure => have := Hk.out; omega
              case rel => exact ⟨i + 1, rfl, rfl, by omega, Lib.hid (below_drewN H4.out.2 _)⟩
          · have e1 : (z == 0) = false := by simpa using hz
            clear hz
            go_wp2_with (go_quiet (fail))
            go_roundg (n - (i + 1))
            case measure => have := Hk.out; omega
            case rel => exact ⟨i + 1, rfl, rfl, by omega, Lib.hid (below_drewN H4.out.2 _)⟩
        · have hii : ¬ (i : Int) < (n : Int) := by omega
          go_wp2_with fail
          refine (sneeds_any (Hr.out _ HB.out) Hn.out Hl.out Hf.out HX.out).mono ?_
          rintro _ W6 ⟨⟨A6, n6, c6, l6, z6, rfl, ho6, hs6⟩, hb6⟩
          have H6 := Lib.hid (And.intro (HB.out.trans (hb6.mono HB.out.size)) (And.intro ho6 hs6))
          have hn6 := ho6.len.1
          clear hb6 ho6
          by_cases hz6 : z6 = 0
          · subst hz6
            obtain ⟨hos, hx0, last, hat, m, rfl, hm, hmem⟩ : OrdSays (ss.map StR.p) (ss.map StR.p).length 0 ∧ x.data.toList ≠ [] ∧ ∃ last, atP (ss.map StR.p) x.data.toList (ss.map StR.p).length = some last ∧ NeedL (ss.map StR.p) last l6 := by
              rcases hs6 with ⟨h, _⟩ | ⟨h, _⟩ | ⟨_, h1, h2, h3⟩
              · exact absurd rfl h
              · cases h
              · exact ⟨h1, h2, h3⟩
            rw [List.length_map] at hn6
            have Hlast := Lib.hid (atP_is hat)
            have hlt : ∀ i ∈ m, i < ss.length := fun i hi => by have h1 := ((hmem i).1 hi).le; have h2 := (atP_lt hat).2; rw [List.length_map] at h2; omega
            have Hlt := Lib.hid hlt
            have Hm := Lib.hid (And.intro hm hmem)
            have Hord := Lib.hid (picks_order hos.all.1 hos.all.2 (atP_lt hat).2 hm hmem)
            have hml : m.length ≤ 40 := by
              have h1 := asc_len' hm (fun i hi => hlt i hi)
              have := Hl.out; omega
            clear hs6 hos hx0 hat hm hmem hlt
            subst hn6
            go_wp2_with fail
            go_loopg [14, 15] m.length (fun k sv iv wq => ∃ (i : Nat) (A' : Option Addr) (n' c' : Nat), sv = .slice A' n' c' ∧ iv = .int .i64 (i : Int) ∧ k = m.length - i ∧ i ≤ m.length ∧ Hid (OwnT wq w.heap.size (.slice A' n' c') (selR ss (m.take i)) ∧ OwnI wq wr.heap.size (.slice A6 m.length c6) (m.map (fun k : Nat => (k : Int))) ∧ Below w.heap.size w wq))
            case atStart => exact ⟨0, none, 0, 0, rfl, rfl, by omega, by omega, Lib.hid ⟨OwnT.nil _ _, H6.out.2.1, H6.out.1⟩⟩
            case round =>
              obtain ⟨i2, A', n', c', rfl, rfl, hk2, hi2, hQ⟩ := hrel
              have Hk2 := Lib.hid hk2
              clear hk2
              by_cases him : i2 < m.length
              · have hii2 : (i2 : Int) < (m.length : Int) := by omega
                have hi20 : (0 : Int) ≤ (i2 : Int) := by omega
                have hi24 : (i2 : Int) ≤ 40 := by omega
                have hml4 : (m.length : Int) ≤ 40 := by omega
                have hrd := hQ.out.2.1.reads
                obtain ⟨ad6, rfl, hb6, d6⟩ := hrd.at_ (k := i2) (by rw [List.length_map]; exact him)
                rw [List.getElem_map] at d6
                have hal : m[i2] < ss.length := Hlt.out _ (List.getElem_mem him)
                have Hstep := Lib.hid (selR_step him hal)
                have HLi := Lib.hid (show (selR ss (m.take i2)).length ≤ 40 by
                  have h := selR_len (ss := ss) (m := m.take i2) (fun i hi => Hlt.out i (List.mem_of_mem_take hi))
                  rw [h, List.length_take]; omega)
                obtain ⟨ad, rfl, hb1, ⟨c0, c1, c2⟩, ha⟩ := (Hr.out _ hQ.out.2.2).cells hal
                have han : (m[i2] : Int) < (n : Int) := by have := Hn.out; omega
                have ha0 : (0 : Int) ≤ (m[i2] : Int) := by omega
                have ha00 : ¬ (m[i2] : Int) < 0 := by omega
                have ha4 : (m[i2] : Int) ≤ 40 := by omega
                have hana : decide (n ≤ m[i2]) = false := by simp; omega
                have hana2 : decide ((m[i2] : Int) < 0) = false := by simp
                clear ha hb1 hb6
                by_cases h0 : i2 = 0
                · have Hi0 := Lib.hid h0
                  have h01 : decide ((0 : Int) < (i2 : Int)) = false := by simp; omega
                  have h02 : decide (0 < i2) = false := by simp; omega
                  clear h0 hrd
                  generalize ss[m[i2]] = s3 at *
                  obtain ⟨v3, nm3, A3, c3, rs3⟩ := s3
                  simp only at c0 c1 c2
                  clear hal
                  generalize m[i2] = a at *
                  clear him
                  go_wp2_with fail
                  go_quiet (fail)
                  go_wp2_with (first
                    | (refine wpT_append rfl (.tmp 112) (.tmp 120) rfl w.heap.size _ (selR ss (m.take i2)) [⟨v3, nm3, A3, c3, rs3⟩] ((hQ.out.1.drewN _).alloc _) rfl rfl rfl (reads_singleT _ ⟨v3, nm3, A3, c3, rs3⟩) (by have := HLi.out; omega) (by simp) (by have := hQ.out.2.2.size; simp; omega) ?_; intro A2 n2 c2 w2 ho2 hn2 hc2 hg2 hb2; have Ho2 := Lib.hid (And.intro ho2 (And.intro ((((hQ.out.2.1.drewN _).alloc _).grown hg2 (fun g hg e => own_ne2 hQ.out.2.1 hQ.out.1 (by decide) g hg e))) (hb2 _ ((below_drewN hQ.out.2.2 _).alloc (by have := hQ.out.2.2.size; exact this) _)))); clear ho2 hn2 hc2 hg2 hb2))
                  go_roundg (m.length - (i2 + 1))
                  case measure => have := Hk2.out; omega
                  case rel => exact ⟨i2 + 1, A2, n2, c2, rfl, rfl, rfl, by omega, Lib.hid ⟨by rw [Hstep.out]; exact Ho2.out.1, Ho2.out.2.1, Ho2.out.2.2⟩⟩
                · obtain ⟨j, hj⟩ : ∃ j, i2 = j + 1 := ⟨i2 - 1, by omega⟩
                  have hjm : j < m.length := by omega
                  obtain ⟨ad6', e6, hb6', d6'⟩ := hrd.at_ (k := j) (by rw [List.length_map]; exact hjm)
                  injection e6 with e6
                  subst e6
                  rw [List.getElem_map] at d6'
                  have hlt := asc_at Hm.out.1 hjm him (by omega)
                  have h01 : decide ((0 : Int) < (i2 : Int)) = true := by simp; omega
                  have h02 : decide (0 < i2) = true := by simp; omega
                  have hwj : IntKind.i64.wrap ((i2 : Int) - 1) = (j : Int) := by rw [IntKind.wrap_i64]; omega
                  have hj0 : (0 : Int) ≤ (j : Int) := by omega
                  have hj1 : (j : Int) < (m.length : Int) := by omega
                  have hba : decide (m[i2] ≤ m[j]) = false := by simp; omega
                  clear h0 hrd hj hb6' hlt
                  generalize m[j] = b at *
                  clear hjm
                  generalize ss[m[i2]] = s3 at *
                  obtain ⟨v3, nm3, A3, c3, rs3⟩ := s3
                  simp only at c0 c1 c2
                  clear hal
                  generalize m[i2] = a at *
                  clear him
                  go_wp2_with fail
                  go_quiet (fail)
                  go_wp2_with (first
                    | (refine wpT_append rfl (.tmp 112) (.tmp 120) rfl w.heap.size _ (selR ss (m.take i2)) [⟨v3, nm3, A3, c3, rs3⟩] ((hQ.out.1.drewN _).alloc _) rfl rfl rfl (reads_singleT _ ⟨v3, nm3, A3, c3, rs3⟩) (by have := HLi.out; omega) (by simp) (by have := hQ.out.2.2.size; simp; omega) ?_; intro A2 n2 c2 w2 ho2 hn2 hc2 hg2 hb2; have Ho2 := Lib.hid (And.intro ho2 (And.intro ((((hQ.out.2.1.drewN _).alloc _).grown hg2 (fun g hg e => own_ne2 hQ.out.2.1 hQ.out.1 (by decide) g hg e))) (hb2 _ ((below_drewN hQ.out.2.2 _).alloc (by have := hQ.out.2.2.size; exact this) _)))); clear ho2 hn2 hc2 hg2 hb2))
                  go_roundg (m.length - (i2 + 1))
                  case measure => have := Hk2.out; omega
                  case rel => exact ⟨i2 + 1, A2, n2, c2, rfl, rfl, rfl, by omega, Lib.hid ⟨by rw [Hstep.out]; exact Ho2.out.1, Ho2.out.2.1, Ho2.out.2.2⟩⟩
              · have hii2 : ¬ (i2 : Int) < (m.length : Int) := by omega
                have Hi2 := Lib.hid (show i2 = m.length by omega)
                have Hsel := Lib.hid (show OwnT wr w.heap.size (.slice A' n' c') (selR ss m) by
                  have h := hQ.out.1
                  rwa [List.take_of_length_le (by have := Hi2.out; omega)] at h)
                have Hsr := Lib.hid (sel_reads (W0 := wr) Hsel.out (Hr.out _ hQ.out.2.2))
                have HLs := Lib.hid (selR_len Hlt.out)
                go_wp2_with fail
                refine (sorder_any Hsr.out.1 Hsr.out.2 (by rw [HLs.out]; exact hml) (fun s hs => Hf.out s (selR_mem hs))).mono ?_
                rintro _ W7 ⟨⟨m', z', rfl, hs7⟩, hb7⟩
                rw [selR_map] at hs7
                obtain ⟨e7, rfl⟩ := hs7.uniq Hord.out
                rw [← selR_map, List.length_map, HLs.out] at e7
                subst e7
                have H7 := Lib.hid (hQ.out.2.2.trans (hb7.mono hQ.out.2.2.size))
                obtain ⟨hk0, hk1⟩ := needs_last Hm.out.1 Hm.out.2
                have hn' : n' = m.length := by rw [Hsr.out.2, HLs.out]
                obtain ⟨k, hk⟩ : ∃ k, m.length = k + 1 := ⟨m.length - 1, by omega⟩
                have hkl : k < (selR ss m).length := by rw [HLs.out]; omega
                obtain ⟨ad7, rfl, hb17, ⟨_, c1, _⟩, _⟩ := (Hsr.out.1.calm (Nat.le_refl _) hb7).cells hkl
                have Hxk := Lib.hid (show (selR ss m)[k].nm = x by
                  have h1 := picks_get (ps := ss.map StR.p) (m := m) (fun i hi => by rw [List.length_map]; exact Hlt.out i hi) k (by omega)
                  rw [← selR_map, List.getElem?_map, List.getElem?_eq_getElem hkl] at h1
                  have h2 : m[k]'(by omega) = last := by rw [← hk1]; congr 1; omega
                  obtain ⟨h3, h4⟩ := Hlast.out
                  rw [h2, List.getElem?_eq_getElem h3] at h1
                  injection h1 with h1
                  refine ByteArray.ext (Array.toList_inj.1 ?_)
                  rw [← h4, ← h1]; rfl)
                rw [Hxk.out] at c1
                have hwk : IntKind.i64.wrap ((n' : Int) - 1) = (k : Int) := by rw [IntKind.wrap_i64]; omega
                have hn0 : (0 : Int) < (n' : Int) := by omega
                have hk00 : (0 : Int) ≤ (k : Int) := by omega
                have hkn : (k : Int) < (n' : Int) := by omega
                have hn4 : (n' : Int) ≤ 40 := by omega
                have e8 : ((m.length : Int) == (n' : Int)) = true := by simp [hn']
                have e9 : (x.toList == x.toList) = true := by simp
                clear hs7 hb7 hk0 hk1 hn' hk hb17
                go_wp2_with (go_at_call 8; (refine (HK.out _ H7.out).mono ?_); rintro _ Wb ⟨rfl, hbb⟩; have Hb := Lib.hid (H7.out.trans (hbb.mono H7.out.size)); clear hbb)
                go_ret
                exact ⟨rfl, Hb.out⟩
          · have e1 : (z6 == 0) = false := by simpa using hz6
            have hl6 : l6 = [] := by
              rcases hs6 with ⟨_, h, _⟩ | ⟨_, h, _⟩ | ⟨h, _⟩
              · exact h
              · exact h
              · exact absurd h hz6
            rw [hl6] at hn6
            have hn0 : n6 = 0 := hn6
            subst hn0
            clear hs6 hz6 hl6 hn6
            go_wp2_with (go_at_call 8; (refine (HK.out _ H6.out.1).mono ?_); rintro _ Wb ⟨rfl, hbb⟩; have Hb := Lib.hid (H6.out.1.trans (hbb.mono H6.out.1.size)); clear hbb)
            go_ret
            exact ⟨rfl, Hb.out⟩
    · have H3 := Lib.hid H2.out.2
      clear hv2 hb2
      go_wp2_with (go_at_call 8; (refine (HK.out _ H3.out).mono ?_); rintro _ Wb ⟨rfl, hbb⟩; have Hb := Lib.hid (H3.out.trans (hbb.mono H3.out.size)); clear hbb)
      go_ret
      exact ⟨rfl, Hb.out⟩
  · clear hv1 hb1
    go_wp2_with (go_at_call 8; (refine (HK.out _ H1.out.2).mono ?_); rintro _ Wb ⟨rfl, hbb⟩; have Hb := Lib.hid (H1.out.2.trans (hbb.mono H1.out.2.size)); clear hbb)
    go_ret
    exact ⟨rfl, Hb.out⟩
end Go.Proofs.YtebpggfccljagaaGreatDoor

/- Rows of statements that came in. -/
namespace Go.Proofs.YtebpggfccljagaaGreatDoor.Laid
open Go.ChangeShapes Go.WideShapes Go.ChangeAt Go.RowKit Go.Deep
open Wh
set_option linter.unusedSimpArgs false
set_option linter.unusedVariables false

instance : Inhabited StR := ⟨⟨⟨#[]⟩, ⟨#[]⟩, none, 0, []⟩⟩
section
variable {H : Type} {enc : TypeId × Value → H} {w : World} {base fuel : Nat} {held : Bool}
set_option maxRecDepth 100000 in
/-- statements -/
theorem open_stmtsE {cs : List Value} {x : DataW H × List MemPlace} (h : DataW.trod enc Tryz.prog w base (fun _ => true) held fuel 51 cs = some x) :
    ∃ (A : Option Addr) (c : Nat) (ss : List StR), cs = [.slice A ss.length c] ∧ ss.length ≤ c ∧ c ≤ maxLen ∧ ReadsT w w.heap.size A ss := by
  rcases open_slice Tryz.underlying51 h with ⟨hcs, hx⟩ | ⟨a, len, cap, m, n, D, Pl, hcs, hb, hl, hm, hmm, hx, hall⟩
  · exact ⟨none, 0, [], hcs, Nat.le_refl _, by decide, ⟨⟨rfl, fun h => absurd h (by decide)⟩, fun r hr => by cases hr⟩⟩
  · simp only [if_true] at hmm
    subst hmm
    rw [c25] at hall
    have each : ∀ i, i < m → ∃ s : StR, w.cells? base (a.add (i * 3)) 3 = some (scs s) ∧ ReadsA w w.heap.size s.A s.rs := fun i hi => by
      obtain ⟨cs', h1, h2⟩ := hall i hi
      obtain ⟨s, rfl, _, _, hr⟩ := open_stmtE h2
      exact ⟨s, h1, hr⟩
    obtain ⟨r, hr⟩ := choose_lt each
    refine ⟨some a, m, (List.range len).map r, by rw [List.length_map, List.length_range]; exact hcs, by rw [List.length_map, List.length_range]; exact hl, hm, ⟨by rw [scs_len], fun hn => ⟨a, rfl, ?_, fun j u hu => ?_⟩⟩, fun x hx => ?_⟩
    · rw [List.length_map, List.length_range] at hn
      obtain ⟨_, _, hcell⟩ := World.cells?_some (hr 0 (by omega)).1
      have h0 := hcell 0 (by decide)
      have h1 : w.cell? ((a.add (0 * 3)).add 0) = some (.string (r 0).v) := h0
      have := block_lt_of_cell h1
      rwa [block_of_add, block_of_add] at this
    · have hj := (List.getElem?_eq_some_iff.1 hu).1
      rw [scs_len, List.length_map, List.length_range] at hj
      have hq : j / 3 < len := by omega
      have e : j = 3 * (j / 3) + j % 3 := (Nat.div_add_mod j 3).symm
      have hg := scs_get ((List.range len).map r) (j / 3) (by simpa using hq) (j % 3) (Nat.mod_lt _ (by decide))
      rw [← e, hu] at hg
      rw [List.getElem_map, List.getElem_range] at hg
      obtain ⟨_, _, hcell⟩ := World.cells?_some (hr (j / 3) (by omega)).1
      have h0 := hcell (j % 3) (Nat.mod_lt _ (by decide))
      rw [← hg, add_of_add] at h0
      rw [← h0]
      congr 2
      omega
    · obtain ⟨i, hi, rfl⟩ := List.mem_map.1 hx
      exact (hr i (by have := List.mem_range.1 hi; omega)).2
set_option maxRecDepth 100000 in
theorem open_stmts {v : Value} {d : DataW H} {p : List MemPlace} {b0 : Nat} (hval : Value.okWide Tryz.prog w .any b0 51 v) (h : DataW.Trod enc Tryz.prog w 0 (fun _ => true) true 51 v d p) :
    ∃ (A : Option Addr) (c : Nat) (ss : List StR), v = .slice A ss.length c ∧ ss.length ≤ c ∧ c ≤ maxLen ∧ ReadsT w w.heap.size A ss := by
  obtain ⟨a1, len0, cap0, rfl⟩ := okWide_slice Tryz.underlying51 hval
  obtain ⟨fuel, hf⟩ := h
  obtain ⟨A, c, ss, hcs, h1, h2, h3⟩ := open_stmtsE hf
  have e : Value.slice a1 len0 cap0 = .slice A ss.length c := by
    have : [Value.slice a1 len0 cap0] = [.slice A ss.length c] := hcs
    exact (List.cons.inj this).1
  exact ⟨A, c, ss, e, h1, h2, h3⟩
end
end Go.Proofs.YtebpggfccljagaaGreatDoor.Laid
