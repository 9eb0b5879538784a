import Derived.Test.YtebpggfccljagaaGreatDoorC8
import Derived.Test.YtebpggfccljagaaGreatDoorC2
import Derived.Test.YtebpggfccljagaaGreatDoorC3
import Derived.Deep.CutBlock
import Derived.Test.YtebpggfccljagaaGreatDoorC6
import Derived.Test.YtebpggfccljagaaGreatDoorRows
import Derived.Test.YtebpggfccljagaaGreatDoorC1
import Derived.WalkKit
import Derived.ProofKit
import Derived.OpenShut
import Derived.Carry
import Derived.JoinedCond
import Derived.Test.YtebpggfccljagaaGreatDoorCards
import Derived.Test.YtebpggfccljagaaGreatDoorTie
import Derived.Deep.DeepHandedRow
import Derived.Deep.Slices
import Derived.Lib.LaidTab
import Derived.ChangeSlices
import Derived.LaidSub
import Derived.MakeChecks
import Derived.ChangeMaps
import Derived.Shelf.Vars
import Derived.ChangeMaps5
import Derived.BigQuiet
import Derived.Deep.RegionHeld3
import Derived.Test.YtebpggfccljagaaGreatDoorC7
import Derived.Maps.OwnSet
import Derived.StringKeys
import Derived.Test.YtebpggfccljagaaGreatDoorC4
/- script.Read (printed by gen_rdw.py). -/
namespace Go.Proofs.YtebpggfccljagaaGreatDoor
open Go.RowKit
open Wh
set_option linter.unusedSimpArgs false
set_option linter.unusedVariables false

theorem leaves_congr {P : Program} {fn : Func} {t t' : Array Value} {R : Ending → World → Prop} (h : ∀ w, (results fn t).run P w = (results fn t').run P w) :
    ∀ (ds : List Deferred) (u : FrameMode) (w : World), Leaves P fn t R ds u w → Leaves P fn t' R ds u w
  | [], .returning, w, hL => by
    obtain ⟨v, h1, h2⟩ := hL
    exact ⟨v, by rw [← h w]; exact h1, h2⟩
  | [], .panicking _, w, hL => hL
  | [], .run, w, hL => hL
  | d :: ds, u, w, hL => by
    obtain ⟨h1, fv, cap, f, args, h2, h3, h4⟩ := hL
    refine ⟨h1, fv, cap, f, args, h2, h3, h4.mono ?_⟩
    intro e u' w' hR
    cases e with
    | returned v => exact leaves_congr h ds (settle u') w' hR
    | panicked c => exact leaves_congr h ds (raised u' c) w' hR
    | outgrown => exact hR
theorem res9_put {t : Array Value} {d : Nat} (h2 : d ≠ 2) (h3 : d ≠ 3) (v : Value) (w : World) : (results Tryz.f9 (t.setIfInBounds d v)).run Tryz.prog w = (results Tryz.f9 t).run Tryz.prog w := by
  have e2 : (t.setIfInBounds d v)[2]? = t[2]? := by rw [Array.getElem?_setIfInBounds_ne h2]
  have e3 : (t.setIfInBounds d v)[3]? = t[3]? := by rw [Array.getElem?_setIfInBounds_ne h3]
  simp only [results, Tryz.results9, List.mapM_toArray, Array.mapM_eq_mapM_toList, List.mapM_cons, List.mapM_nil, Array.getD_eq_getD_getElem?, e2, e3]
theorem hq9 {d : Nat} {v : Value} {R : Ending → World → Prop} {c : List PanicEntry} {a : Act} {w : World} (h2 : d ≠ 2) (h3 : d ≠ 3) (h : bodyPostD Tryz.prog Tryz.f9 R (.panic c) (a.put (some d) v) w) : bodyPostD Tryz.prog Tryz.f9 R (.panic c) a w :=
  leaves_congr (fun w => res9_put h2 h3 v w) _ _ _ h
/-- the statement number n -/
def codeAt : Nat → Code → Code
  | 0, .seq a _ => a
  | n + 1, .seq _ b => codeAt n b
  | _, c => c
/-- the frame -/
def rdFr (s : ByteArray) (b g4 : Nat) (v : Nat → Value) : Array Value := #[.string s, v 1, .pointer (some ⟨b, 0, none⟩), .pointer (some ⟨b + 1, 0, none⟩), .pointer (some ⟨g4, 0, none⟩), .func (.func 35) #[] #[.pointer (some ⟨g4, 0, none⟩)], v 6, v 7, v 8, v 9, v 10, v 11, v 12, v 13, v 14, v 15, v 16, v 17, v 18, v 19, v 20, v 21, v 22, v 23, v 24, v 25, v 26, v 27, v 28, v 29, v 30, v 31, v 32, v 33, v 34, v 35, v 36, v 37, v 38, v 39, v 40, v 41, v 42, v 43, v 44, v 45, v 46, v 47, v 48, v 49]
def rdDef (b : Nat) : List Deferred := [{ target := .fn (.func 33) #[.pointer (some ⟨b, 0, none⟩), .pointer (some ⟨b + 1, 0, none⟩)], args := #[] }]
theorem read_thrown {w wr : World} {g4 k c4 n c j : Nat} {A4 A : Option Addr} {v nm : ByteArray} {rs : List ARow} {L : List (List UInt8)} {l : List UInt8} (h : RdS w wr g4 A4 k c4 v nm A n c rs L j) (hno : NoLine l) {t : Array Value}
    (h2 : t.getD 2 undef = .pointer (some ⟨w.heap.size, 0, none⟩)) (h3 : t.getD 3 undef = .pointer (some ⟨w.heap.size + 1, 0, none⟩)) :
    bodyPostD Tryz.prog Tryz.f9 (ReadOut w l) (.panic [{ v := .iface 113 (.agg #[]), recovered := false }]) ⟨t, rdDef w.heap.size⟩ wr := by
  refine leaves_cons (f := 33) (args := #[.pointer (some ⟨w.heap.size, 0, none⟩), .pointer (some ⟨w.heap.size + 1, 0, none⟩)]) (by simp) (by simp [go_sem]) ?_
  refine (catch_thrown h.s h.e (by omega)).mono ?_
  rintro e u' w'' ⟨rfl, rfl, rfl⟩
  have c0 : wr.cell? ⟨w.heap.size, 0, none⟩ = some (.string v) := h.s.cell 0
  have c1 : wr.cell? ⟨w.heap.size, 1, none⟩ = some (.string nm) := h.s.cell 1
  have c2 : wr.cell? ⟨w.heap.size, 2, none⟩ = some (.slice A n c) := h.s.cell 2
  have c3 : wr.cell? ⟨w.heap.size + 1, 0, none⟩ = some (.int .i64 0) := h.e.cell 0
  have h2' : t[2]?.getD undef = .pointer (some ⟨w.heap.size, 0, none⟩) := by simpa using h2
  have h3' : t[3]?.getD undef = .pointer (some ⟨w.heap.size + 1, 0, none⟩) := by simpa using h3
  refine ⟨.tuple #[.agg #[.string ⟨#[]⟩, .string ⟨#[]⟩, .slice none 0 0], .int .i64 400], by simp [results, Tryz.results9, go_sem, h2', h3', c0, c1, c2, c3], .inr ⟨rfl, hno⟩, ?_⟩
  exact (((h.b.setCell (p := ⟨w.heap.size, 0, none⟩) (Nat.le_refl _) _).setCell (p := ⟨w.heap.size, 1, none⟩) (Nat.le_refl _) _).setCell (p := ⟨w.heap.size, 2, none⟩) (Nat.le_refl _) _).setCell (p := ⟨w.heap.size + 1, 0, none⟩) (by show w.heap.size ≤ w.heap.size + 1; omega) _
theorem read_done {w wr : World} {g4 k c4 c j : Nat} {A4 A : Option Addr} {v nm : ByteArray} {rs : List ARow} {L : List (List UInt8)} {l : List UInt8} (h : RdS w wr g4 A4 k c4 v nm A rs.length c rs L j) (hok : (⟨v, nm, rs.map (fun r => r.2.2)⟩ : StP).ok) (hl : lineT ⟨v, nm, rs.map (fun r => r.2.2)⟩ = l) {t : Array Value}
    (h2 : t.getD 2 undef = .pointer (some ⟨w.heap.size, 0, none⟩)) (h3 : t.getD 3 undef = .pointer (some ⟨w.heap.size + 1, 0, none⟩)) :
    bodyPostD Tryz.prog Tryz.f9 (ReadOut w l) .ret ⟨t, rdDef w.heap.size⟩ wr := by
  refine leaves_cons (f := 33) (args := #[.pointer (some ⟨w.heap.size, 0, none⟩), .pointer (some ⟨w.heap.size + 1, 0, none⟩)]) (by simp) (by simp [go_sem]) ?_
  refine (catch_idle (g2 := w.heap.size) (g3 := w.heap.size + 1)).mono ?_
  rintro e u' w'' ⟨rfl, rfl, rfl⟩
  have c0 : w''.cell? ⟨w.heap.size, 0, none⟩ = some (.string v) := h.s.cell 0
  have c1 : w''.cell? ⟨w.heap.size, 1, none⟩ = some (.string nm) := h.s.cell 1
  have c2 : w''.cell? ⟨w.heap.size, 2, none⟩ = some (.slice A rs.length c) := h.s.cell 2
  have c3 : w''.cell? ⟨w.heap.size + 1, 0, none⟩ = some (.int .i64 0) := h.e.cell 0
  have h2' : t[2]?.getD undef = .pointer (some ⟨w.heap.size, 0, none⟩) := by simpa using h2
  have h3' : t[3]?.getD undef = .pointer (some ⟨w.heap.size + 1, 0, none⟩) := by simpa using h3
  exact ⟨.tuple #[.agg #[.string v, .string nm, .slice A rs.length c], .int .i64 0], by simp [results, Tryz.results9, go_sem, h2', h3', c0, c1, c2, c3], .inl ⟨⟨v, nm, A, c, rs⟩, rfl, hok, hl, h.o⟩, h.b⟩
theorem stepA_append {w : World} {ops : Array Oper} {o : Oper} {a : Act} {K : Act → World → Prop} {Q : Exit → Act → World → Prop} {E : Prop} (hgd : o.guard = none) (s x : Operand)
    (ho : o.op = .call { callee := .builtin .append, args := #[s, x], argTypes := #[23, 23] }) (B : Nat) (v : Value) (rs : List ARow) (hown : OwnA w B v rs) (hs : a.eval s = v)
    (B' : Nat) (A : Option Addr) (ms : List ARow) (hr : Reads w B' 12 A ms.length (ms.flatMap acs)) (m c : Nat) (hm : m = ms.length) (hx : a.eval x = .slice A m c) (hl1 : rs.length ≤ 1000000) (hl2 : ms.length ≤ 1000000) (hbase : B ≤ w.heap.size)
    (h : ∀ A' n' c' w', OwnA w' B (.slice A' n' c') (rs ++ ms) → w.grownBy w' v.ownBlock → K (a.put o.dst (.slice A' n' c')) w') :
    if Region.wanted o (yielded ops a.tmps) = true then Oper.wp Tryz.prog o a w K Q else E := by
  have hw : Region.wanted o (yielded ops a.tmps) = true := by simp [Region.wanted, hgd]
  rw [if_pos hw]
  obtain ⟨i0, hi, hz0, hz1, hz2⟩ := info_parts infoA
  subst hm
  refine wp_append_any w s x 23 ho B 41 i0 (.agg #[.int .i64 0, .string ⟨#[]⟩, .bool false, .string ⟨#[]⟩, .bool false, .string ⟨#[]⟩, .bool false, .string ⟨#[]⟩, .bool false, .string ⟨#[]⟩, .slice none 0 0, .int .i64 0]) 12 152 Tryz.underlying23 hi hz0 hz1 hz2 (by kernel_rfl) (by decide) v rs.length (rs.flatMap acs) hs hown B' A ms.length c (ms.flatMap acs) hx hr (acs_one _) (by unfold maxLen; omega) (by omega) hbase ?_
  intro v' w' h1 h2 h3
  have h4 : OwnA w' B v' (rs ++ ms) := by
    unfold OwnA
    rw [List.length_append, List.flatMap_append]
    exact h1
  obtain ⟨A', c', rfl, _⟩ := h4.form
  exact h A' _ c' w' h4 h2
/-- of no great size, its numbers within bounds -/
structure ArgFine (r : ARow) : Prop where
  kz : -9223372036854775808 ≤ r.2.2.k ∧ r.2.2.k ≤ 9223372036854775807
  cz : -9223372036854775808 ≤ r.2.2.ct ∧ r.2.2.ct ≤ 9223372036854775807
  fit : r.2.2.fit
theorem lent_readsA {w : World} {B n c : Nat} {A : Option Addr} {rs : List ARow} (h : LentA w B (.slice A n c) rs) (hf : ∀ r ∈ rs, ArgFine r) : ReadsA w w.heap.size A rs ∧ n = rs.length := by
  obtain ⟨h1, h2⟩ := h.1.reads
  exact ⟨⟨h1, fun r hr => ⟨(hf r hr).kz, (hf r hr).cz, (h.2 r hr).reads⟩⟩, h2⟩
theorem fine_step {W : World} {B i : Nat} {ts : List (List UInt8)} {rs : List ARow} {r : ARow} {p : List UInt8} (h1 : rs.length = i) (h2 : ∀ q (h : q < ts.length) (h' : q < rs.length), ArgIs ts[q] rs[q].2.2) (h3 : ∀ r ∈ rs, ArgFine r)
    (hp : ∃ h : i < ts.length, ts[i] = p) (hi : ArgIs p r.2.2) (hm : ArgMade W B r) : (rs ++ [r]).length = i + 1 ∧ (∀ q (h : q < ts.length) (h' : q < (rs ++ [r]).length), ArgIs ts[q] (rs ++ [r])[q].2.2) ∧ ∀ x ∈ rs ++ [r], ArgFine x := by
  refine ⟨by rw [List.length_append, List.length_singleton, h1], fun q h h' => ?_, fun x hx => ?_⟩
  · rcases Nat.lt_or_ge q rs.length with hq | hq
    · rw [List.getElem_append_left hq]
      exact h2 q h hq
    · have e : q = i := by rw [List.length_append, List.length_singleton] at h'; omega
      subst e
      obtain ⟨hh, he⟩ := hp
      rw [List.getElem_append_right (by omega), he]
      simp only [h1, Nat.sub_self, List.getElem_cons_zero]
      exact hi
  · rcases List.mem_append.1 hx with h | h
    · exact h3 x h
    · rw [List.mem_singleton.1 h]
      exact ⟨hm.kz, hm.cz, hm.fit⟩
set_option maxRecDepth 100000 in
set_option maxHeartbeats 8000000 in
theorem read_core {w wr : World} {B g4 k c4 j : Nat} {A4 : Option Addr} {s : ByteArray} {v nm : List UInt8} {L ts rest : List (List UInt8)} {l : List UInt8} {u : Nat → Value} (hg : Gl B w) (hS : RdS w wr g4 A4 k c4 ⟨v.toArray⟩ ⟨nm.toArray⟩ none 0 0 [] L j)
    (hts : ts = L.drop j) (hlen : ∀ t ∈ L, t.length ≤ 6000) (hv : v.length ≤ 6000) (hn : nm.length ≤ 6000) (hp : parts 32 l = v :: rest) (hnm : nameOf rest = (nm, ts)) (hne : ∀ r, rest ≠ [61] :: r) (hk7 : k ≤ 7000)
    (K : Act → World → Prop) (hK : ∀ a w', (codeRest 7 (bodyOf Tryz.f9)).wp Tryz.prog (bodyPostD Tryz.prog Tryz.f9 (ReadOut w l)) a w' → K a w') :
    (codeAt 6 (bodyOf Tryz.f9)).wp Tryz.prog (Exit.then K (bodyPostD Tryz.prog Tryz.f9 (ReadOut w l))) ⟨rdFr s w.heap.size g4 u, rdDef w.heap.size⟩ wr := by
  conv => enter [2]; dsimp only [codeAt, bodyOf, Tryz.f9, Option.getD_some]
  dsimp only [codeRest, bodyOf, Tryz.f9, Option.getD_some] at hK
  have HG := Lib.hid hg
  have HY := Lib.hid (fun W => give_yes (w := W))
  have HN := Lib.hid (fun W => give_no (w := W))
  unfold thrown at HN
  have hkt : ts.length = k := by rw [hts, List.length_drop]; have := hS.hk; omega
  have Hts := Lib.hid (And.intro hts hkt)
  have HP := Lib.hid (And.intro hp (And.intro hnm hne))
  have Hlen := Lib.hid (And.intro hlen (And.intro hv hn))
  have HS := Lib.hid hS
  clear hts hkt hp hnm hne hlen hv hn hg hS
  have c0 := HS.out.l.cell 0
  unfold rdFr rdDef
  by_cases h64 : (k : Int) ≤ 64
  · go_wp2_with (go_at_call 37; (with_reducible refine (HY.out _).mono ?_); rintro _ _ ⟨rfl, rfl⟩)
    go_loopg [] k (fun kk wq => ∃ (i m : Nat) (A4 : Option Addr) (c4 : Nat) (A : Option Addr) (n c : Nat) (rs : List ARow), kk = m ∧ m + i = k ∧ Hid (RdS w wq g4 A4 m c4 ⟨v.toArray⟩ ⟨nm.toArray⟩ A n c rs L (j + i)) ∧ Hid (rs.length = i ∧ (∀ q (h : q < ts.length) (h' : q < rs.length), ArgIs ts[q] rs[q].2.2) ∧ ∀ r ∈ rs, ArgFine r))
    case atStart => exact ⟨0, k, A4, c4, none, 0, 0, [], rfl, by omega, HS, Lib.hid ⟨rfl, fun q _ h' => by simp at h', fun r hr => by simp at hr⟩⟩
    case round =>
      obtain ⟨i, m, A5, c5, A, n, c, rs, hkm, hmi, hO, hA⟩ := hrel
      have Hk := Lib.hid (And.intro hkm hmi)
      clear hkm hmi
      have d0 := hO.out.l.cell 0
      rcases Nat.eq_zero_or_pos m with hm0 | hm0
      · subst hm0
        have hm1 : ¬ (0 : Int) < ((0 : Nat) : Int) := by omega
        obtain ⟨hrd, hnl⟩ := lent_readsA hO.out.o hA.out.2.2
        subst hnl
        have hik : i = k := by have := Hk.out.2; omega
        have Hlen2 := Lib.hid (show ts.length = rs.length by have := Hts.out.2; have := hA.out.1; omega)
        have h64b : (rs.length : Int) ≤ 64 := by have := hA.out.1; omega
        have HL2 := Lib.hid (read_line (xs := rs.map (fun r => r.2.2)) HP.out.1 HP.out.2.1 HP.out.2.2 (by rw [List.length_map]; exact Hlen2.out) (fun q h h' => by rw [List.getElem_map]; exact hA.out.2.1 q h (by simpa using h')))
        have Hfit := Lib.hid (show (⟨⟨v.toArray⟩, ⟨nm.toArray⟩, rs.map (fun r => r.2.2)⟩ : StP).fit from
          ⟨by show v.toArray.size ≤ _; rw [List.size_toArray]; have := Hlen.out.2.1; omega, by show nm.toArray.size ≤ _; rw [List.size_toArray]; have := Hlen.out.2.2; omega, by rw [List.length_map]; omega, fun x hx => by
            obtain ⟨r, hr, rfl⟩ := List.mem_map.1 hx
            exact (hA.out.2.2 r hr).fit⟩)
        have e0 := hO.out.s.cell 0
        have e1 := hO.out.s.cell 1
        have e2 := hO.out.s.cell 2
        rcases Classical.em (⟨⟨v.toArray⟩, ⟨nm.toArray⟩, rs.map (fun r => r.2.2)⟩ : StP).ok with hok | hno
        · have HC := Lib.hid (scheck_any (s := ⟨⟨v.toArray⟩, ⟨nm.toArray⟩, A, c, rs⟩) (b := true) hrd (Nat.le_refl _) Hfit.out ⟨fun _ => hok, fun _ => rfl⟩)
          have Hok := Lib.hid (And.intro hok (HL2.out.1 hok))
          unfold StR.cells at HC
          simp only [if_true] at HC
          clear hok hrd hik
          go_wp2_with (first | (go_at_call 16; (with_reducible refine HC.out.mono ?_); rintro _ W8 ⟨rfl, hb8⟩; have HS8 := Lib.hid (hO.out.below hb8); have b0 := HS8.out.s.cell 0; have b1 := HS8.out.s.cell 1; have b2 := HS8.out.s.cell 2; have b3 := HS8.out.e.cell 0; have g0 := HS8.out.s.frozen 0; have g1 := HS8.out.s.frozen 1; have g2 := HS8.out.s.frozen 2; have g3 := HS8.out.e.frozen 0) | (go_at_call 37; (with_reducible refine (HY.out _).mono ?_); rintro _ _ ⟨rfl, rfl⟩))
          exact read_done HS8.out.same Hok.out.1 Hok.out.2 rfl rfl
        · have HC := Lib.hid (scheck_any (s := ⟨⟨v.toArray⟩, ⟨nm.toArray⟩, A, c, rs⟩) (b := false) hrd (Nat.le_refl _) Hfit.out ⟨fun h => (by cases h), fun h => absurd h hno⟩)
          have Hno := Lib.hid (HL2.out.2 hno)
          unfold StR.cells at HC
          simp only [Bool.false_eq_true, if_false] at HC
          clear hno hrd hik
          go_wp2_with (first | (go_at_call 16; (with_reducible refine HC.out.mono ?_); rintro _ W8 ⟨rfl, hb8⟩; have HS8 := Lib.hid (hO.out.below hb8)) | (go_at_call 37; (with_reducible refine (HN.out _).mono ?_); rintro _ _ ⟨rfl, rfl⟩))
          exact read_thrown HS8.out Hno.out rfl rfl
      · obtain ⟨m, rfl⟩ : ∃ q, m = q + 1 := ⟨m - 1, by omega⟩
        obtain rfl := hO.out.a4 (by omega)
        have hm1 : (0 : Int) < ((m + 1 : Nat) : Int) := by omega
        have hnc : (m : Int) + 1 ≤ (c5 : Int) := by have := hO.out.hc; omega
        have hij : j + i < L.length := by have := hO.out.hk; omega
        have Hcp := Lib.hid (hO.out.p.get hij)
        have Hts2 := Lib.hid (show ∃ h : i < ts.length, ts[i] = L[j + i] from ⟨by have := Hts.out.2; have := Hk.out.2; omega, by simp only [Hts.out.1, List.getElem_drop]⟩)
        have HpL := Lib.hid (Hlen.out.1 _ (List.getElem_mem hij))
        generalize hpe : L[j + i] = p at *
        clear hpe
        have HpS := Lib.hid (show (⟨p.toArray⟩ : ByteArray).size ≤ 6000 by show p.toArray.size ≤ 6000; rw [List.size_toArray]; exact HpL.out)
        have e2 := hO.out.s.cell 2
        have Hlr := Lib.hid (show rs.length ≤ 1000000 by have := hA.out.1; have := Hk.out.2; omega)
        go_wp2_with fail
        refine wp_region_HK (fun w' => w'.cell? ⟨w.heap.size, 2, none⟩ = some (.slice A n c)) 8 (by kernel_rfl) e2 (fun hHeld => ?_)
        refine wpHK_take (i := 0) (oi := Oper.mk (some 37) _ _ _ _ _) (v := ?_) rfl (by kernel_rfl) (by kernel_rfl) (by kernel_rfl) (by kernel_rfl) (fun _ _ _ h => hq9 (by decide) (by decide) h) (Or.inl ⟨by rfl, ?_⟩) (by assumption) ?_
        rotate_left
        · (intro w' hSw; (try dsimp only at hSw); (obtain s1 := hSw); go_simp; try with_reducible rfl)
        try simp only [Act.put, List.setIfInBounds_toArray, List.set_cons_zero, List.set_cons_succ]
        refine wpHK_take (i := 1) (oi := Oper.mk (some 38) _ _ _ _ _) (v := ?_) rfl (by kernel_rfl) (by kernel_rfl) (by kernel_rfl) (by kernel_rfl) (fun _ _ _ h => hq9 (by decide) (by decide) h) (Or.inl ⟨by rfl, ?_⟩) (by assumption) ?_
        rotate_left
        · (intro w' hSw; (try dsimp only at hSw); (obtain s1 := hSw); go_simp; try with_reducible rfl)
        try simp only [Act.put, List.setIfInBounds_toArray, List.set_cons_zero, List.set_cons_succ]
        refine wpHK_take (i := 2) (oi := Oper.mk (some 39) _ _ _ _ _) (v := ?_) rfl (by kernel_rfl) (by kernel_rfl) (by kernel_rfl) (by kernel_rfl) (fun _ _ _ h => hq9 (by decide) (by decide) h) (Or.inl ⟨by rfl, ?_⟩) (by assumption) ?_
        rotate_left
        · (intro w' hSw; (try dsimp only at hSw); (obtain s1 := hSw); go_simp; try with_reducible rfl)
        try simp only [Act.put, List.setIfInBounds_toArray, List.set_cons_zero, List.set_cons_succ]
        refine wpHK_one (j := 3) (o := Oper.mk (some 40) _ _ _ _ _) rfl (by kernel_rfl) (fun K hK => ?_)
        go_simp
        have hS1 := hO.out.below (Below.refl _ _).drew
        refine (next_any (A := none) hS1.l Hcp.out hnc (by have := hO.out.lt; show w.heap.size + 1 + 1 ≠ g4; omega)).mono ?_
        rintro _ _ ⟨rfl, A7, rfl, hA7⟩
        have hS2 := hS1.taken hA7
        refine hK.out _ _ (hS2.s.cell 2) (fun _ => ?_)
        clear hK K hHeld
        have hHeld := (hS2.s.cell 2)
        try simp only [Act.put, List.setIfInBounds_toArray, List.set_cons_zero, List.set_cons_succ]
        refine wpHK_one (j := 4) (o := Oper.mk (some 41) _ _ _ _ _) rfl (by kernel_rfl) (fun K hK => ?_)
        go_simp
        refine (arg_any (HG.out.below hS2.b) HpS.out).mono ?_
        rintro e W5 ⟨⟨r, rfl, hm5, hi5⟩ | ⟨rfl, hno5⟩, hb5⟩
        rotate_left
        · exact read_thrown (hS2.below hb5) (no_arg (t := p) HP.out.1 HP.out.2.1 (by obtain ⟨hh, he⟩ := Hts2.out; rw [← he]; exact List.getElem_mem hh) hno5) rfl rfl
        obtain ⟨A6, c6, x6⟩ := r
        simp only [argV]
        have hS3 := hS2.below hb5
        have hS4 := hS3.below (new_below W5 (.cells (acs (A6, c6, x6)).toArray 41))
        refine hK.out _ _ (hS3.s.cell 2) (fun _ => ?_)
        clear hK K hHeld
        have hHeld := (hS3.s.cell 2)
        try simp only [Act.put, List.setIfInBounds_toArray, List.set_cons_zero, List.set_cons_succ]
        refine wpHK_one (j := 5) (o := Oper.mk (some 42) _ _ _ _ _) rfl (by kernel_rfl) (fun K hK => ?_)
        go_simp
        refine hK.out _ _ (hS4.s.cell 2) (fun _ => ?_)
        clear hK K hHeld
        have hHeld := (hS4.s.cell 2)
        try simp only [Act.put, List.setIfInBounds_toArray, List.set_cons_zero, List.set_cons_succ]
        refine wpHK_one (j := 6) (o := Oper.mk (some 43) _ _ _ _ _) rfl (by kernel_rfl) (fun K hK => ?_)
        refine stepA_append (by rfl) (.tmp 38) (.tmp 42) (by rfl) w.heap.size _ rs hS4.o.1 (by rfl) _ _ [(A6, c6, x6)] (reads_singleA W5 (A6, c6, x6)) 1 1 rfl (by rfl) Hlr.out (by simp) hS4.b.size ?_
        intro A8 n8 c8 w8 ho8 hg8
        refine hK.out _ _ ((hS4.s.grown hg8 (fun e => own_blk_ne hS4.o.1 hS4.s (by decide) e.symm)).cell 2) (fun _ => ?_)
        clear hK K hHeld
        have hHeld := ((hS4.s.grown hg8 (fun e => own_blk_ne hS4.o.1 hS4.s (by decide) e.symm)).cell 2)
        try simp only [Act.put, List.setIfInBounds_toArray, List.set_cons_zero, List.set_cons_succ]
        refine wpHK_take (i := 7) (oi := Oper.mk (some 44) _ _ _ _ _) (v := ?_) rfl (by kernel_rfl) (by kernel_rfl) (by kernel_rfl) (by kernel_rfl) (fun _ _ _ h => hq9 (by decide) (by decide) h) (Or.inl ⟨by rfl, ?_⟩) (by assumption) ?_
        rotate_left
        · (intro w' hSw; (try dsimp only at hSw); (obtain s1 := hSw); go_simp; try with_reducible rfl)
        try simp only [Act.put, List.setIfInBounds_toArray, List.set_cons_zero, List.set_cons_succ]
        refine wpHK_tail (j := 8) (o := Oper.mk (none) _ _ _ _ _) rfl (by kernel_rfl) (by decide) (fun K hK => ?_)
        have g2 := (hS4.s.grown hg8 (fun e => own_blk_ne hS4.o.1 hS4.s (by decide) e.symm)).frozen 2
        go_simp
        refine hK.out _ _ ?_
        clear hK K
        try simp only [Act.put, List.setIfInBounds_toArray, List.set_cons_zero, List.set_cons_succ]
        refine wpHK_done (by kernel_rfl) ?_ _
        go_wp2_with fail
        go_roundg m
        case measure => have := Hk.out.1; omega
        case rel => exact ⟨i + 1, m, A7, c5 - 1, A8, n8, c8, rs ++ [(A6, c6, x6)], rfl, by have := Hk.out.2; omega, Lib.hid (hS2.app (r := (A6, c6, x6)) hb5 (hm5.own.lower hS2.b.size) ho8 hg8), Lib.hid (fine_step hA.out.1 hA.out.2.1 hA.out.2.2 Hts2.out hi5 hm5)⟩
  · go_wp2_with (go_at_call 37; (with_reducible refine (HN.out _).mono ?_); rintro _ _ ⟨rfl, rfl⟩)
    exact read_thrown HS.out (no_many HP.out.1 HP.out.2.1 (by have := Hts.out.2; omega)) rfl rfl
theorem read_core_t {w wr : World} {B g4 k c4 j : Nat} {A4 : Option Addr} {s : ByteArray} {v nm : List UInt8} {L ts rest : List (List UInt8)} {l : List UInt8} {t : Array Value} (hg : Gl B w) (hS : RdS w wr g4 A4 k c4 ⟨v.toArray⟩ ⟨nm.toArray⟩ none 0 0 [] L j)
    (hts : ts = L.drop j) (hlen : ∀ t ∈ L, t.length ≤ 6000) (hv : v.length ≤ 6000) (hn : nm.length ≤ 6000) (hp : parts 32 l = v :: rest) (hnm : nameOf rest = (nm, ts)) (hne : ∀ r, rest ≠ [61] :: r) (hk7 : k ≤ 7000)
    (K : Act → World → Prop) (hK : ∀ a w', (codeRest 7 (bodyOf Tryz.f9)).wp Tryz.prog (bodyPostD Tryz.prog Tryz.f9 (ReadOut w l)) a w' → K a w') (ht : t = rdFr s w.heap.size g4 (fun k => t.getD k undef)) :
    (codeAt 6 (bodyOf Tryz.f9)).wp Tryz.prog (Exit.then K (bodyPostD Tryz.prog Tryz.f9 (ReadOut w l))) ⟨t, rdDef w.heap.size⟩ wr := by
  have h := read_core (s := s) (u := fun k => t.getD k undef) hg hS hts hlen hv hn hp hnm hne hk7 K hK
  rw [← ht] at h
  exact h
theorem tail_str (n : List UInt8) : (⟨(61 :: n).toArray⟩ : ByteArray).extract 1 (⟨(61 :: n).toArray⟩ : ByteArray).size = ⟨n.toArray⟩ := by
  apply ByteArray.ext
  apply Array.toList_inj.1
  rw [(drop_bytes _ 1 (by show 1 ≤ (61 :: n).toArray.size; simp)).1]
  simp
/-- the pieces of a name -/
theorem eq_prefix (q : List UInt8) : Lib.hasPrefix q [61] = true ↔ ∃ n, q = 61 :: n := by
  unfold Lib.hasPrefix
  cases q with
  | nil => simp [List.isPrefixOf]
  | cons b r =>
    simp [List.isPrefixOf]
    exact ⟨fun h => h.symm, fun h => h.symm⟩
set_option maxRecDepth 100000 in
set_option maxHeartbeats 8000000 in
theorem sread_any {w : World} {B : Nat} {s : ByteArray} (hg : Gl B w) (hs : s.size ≤ 6000) : Calls Tryz.prog 9 #[.string s] w (ReadOut w s.data.toList) := by
  have hmf : ∀ (fn : Fn) (first cap : Array Value) (w : World), (Instr.makeFunc fn first cap).run Tryz.prog w = .ok (.func fn first cap) w := fun _ _ _ _ => rfl
  have HG := Lib.hid hg
  have HSP := Lib.hid (fun W (hb : Below w.heap.size w W) => by
    obtain ⟨m, hm⟩ := (HG.out.below hb).m
    exact splitw_any (w := W) s 32 m (by omega) hm)
  have HYs := Lib.hid (fun W => give_yes (w := W))
  have HNo := Lib.hid (fun W => give_no (w := W))
  unfold thrown at HNo
  have HPr := Lib.hid (fun (q : ByteArray) W => Tryz.strings_HasPrefix q ⟨#[61]⟩ W)
  have h2 := Blk.new w 25 #[.string ⟨#[]⟩, .string ⟨#[]⟩, .slice none 0 0]
  have h3 := Blk.new (w.alloc (.cells #[.string ⟨#[]⟩, .string ⟨#[]⟩, .slice none 0 0] 25)) 26 #[.int .i64 0]
  have hb0 := (new_below w (.cells #[.string ⟨#[]⟩, .string ⟨#[]⟩, .slice none 0 0] 25)).alloc (by simp) (.cells #[.int .i64 0] 26)
  rw [World.size_alloc] at h3
  have H0 := Lib.hid (And.intro (h2.alloc (.cells #[.int .i64 0] 26)) (And.intro h3 hb0))
  have HLL : Hid (∀ p ∈ cutB s.data.toList 32, p.length ≤ 6000) := Lib.hid fun p hp => by
    rw [cutB_parts] at hp
    have h1 := mem_join_len (c := 32) (l := parts 32 s.data.toList) p hp
    rw [join_parts] at h1
    have h2 : s.data.toList.length = s.size := by simp
    omega
  have HL7 := Lib.hid (show (cutB s.data.toList 32).length ≤ 7000 by
    rw [cutB_parts]
    have h2 := parts_small 32 s.data.toList
    have h3 : s.data.toList.length = s.size := by simp
    omega)
  obtain ⟨v, rest, hvr⟩ := parts_ne 32 s.data.toList
  have Hp := Lib.hid hvr
  rw [cutB_parts, hvr] at HSP HLL HL7
  clear hg h2 h3 hb0 hvr
  go_enter_defers Tryz.func9, Tryz.ntmps9
  go_wp2_with (go_at_call 34; (refine (HSP.out _ H0.out.2.2).mono ?_); rintro _ W1 ⟨n, rfl, ho1, hb1⟩; simp only [World.size_alloc] at ho1)
  obtain rfl : n = (v :: rest).length := by
    obtain ⟨A', c', e, _⟩ := ho1.form
    injection e
  have hl1 := Blk.new W1 77 #[.slice (some ⟨w.heap.size + 1 + 1, 0, none⟩) (v :: rest).length (v :: rest).length]
  have hz1 := (ho1.lt _ rfl).2
  have HR := Lib.hid (show RdS w (W1.alloc (.cells #[.slice (some ⟨w.heap.size + 1 + 1, 0, none⟩) (v :: rest).length (v :: rest).length] 77)) W1.heap.size (some ⟨w.heap.size + 1 + 1, 0, none⟩) (rest.length + 1) (rest.length + 1) ⟨#[]⟩ ⟨#[]⟩ none 0 0 [] (v :: rest) 0 from
    ⟨(H0.out.1.below hb1 H0.out.1.lt).alloc _, (H0.out.2.1.below hb1 H0.out.2.1.lt).alloc _, hl1, ho1.alloc _, ⟨OwnA.nil _ _, fun r hr => by simp at hr⟩, (H0.out.2.2.trans (hb1.mono H0.out.2.2.size)).alloc (by have h9 : w.heap.size + 1 + 1 < W1.heap.size := hz1; omega) _, hz1, by rw [List.length_cons], fun _ => rfl, Nat.le_refl _⟩)
  have hcv := HR.out.p.get (i := 0) (by simp)
  simp only [List.getElem_cons_zero] at hcv
  have hnc : ((rest.length : Nat) : Int) + 1 ≤ ((rest.length + 1 : Nat) : Int) := by omega
  have hne4 : (⟨w.heap.size + 1 + 1, 0, none⟩ : Addr).block ≠ W1.heap.size := by show w.heap.size + 1 + 1 ≠ W1.heap.size; have h9 : w.heap.size + 1 + 1 < W1.heap.size := hz1; omega
  have n1 : ¬ w.heap.size = W1.heap.size := by have h9 : w.heap.size + 1 + 1 < W1.heap.size := hz1; omega
  have n2 : ¬ W1.heap.size = w.heap.size := fun h => n1 h.symm
  have HN1 := Lib.hid (next_any (A := none) HR.out.l hcv hnc hne4)
  clear hnc hne4 ho1 hb1 hl1
  refine HN1.out.mono ?_
  rintro _ W2 ⟨rfl, A7, hW2, hA7⟩
  have hR2 := HR.out.taken hA7
  rw [← hW2] at hR2
  clear hW2 HR HN1 hcv H0 HSP
  generalize W1.heap.size = g4 at *
  have b0 := hR2.s.cell 0
  have b1 := hR2.s.cell 1
  have b2 := hR2.s.cell 2
  have q0 := hR2.s.frozen 0
  have q1 := hR2.s.frozen 1
  have k0 := hR2.l.cell 0
  have HR2 := Lib.hid hR2
  have HR3 := Lib.hid (hR2.verb ⟨v.toArray⟩)
  clear hR2 hz1
  have HvL := Lib.hid (HLL.out v (by simp))
  cases rest with
  | nil =>
    go_upto_region 8 with fail
    rename_i hK
    exact read_core_t (s := s) (ts := []) (nm := []) HG.out HR3.out rfl HLL.out HvL.out (by simp) Hp.out rfl (fun r h => by cases h) (by simp) _ hK rfl
  | cons q r =>
    have hr1 : (0 : Int) < ((r.length + 1 : Nat) : Int) := by omega
    have n3 : ¬ w.heap.size + 1 + 1 = w.heap.size := by omega
    have n4 : ¬ w.heap.size = w.heap.size + 1 + 1 := by omega
    have e7 := HR2.out.a4 (by rw [List.length_cons]; omega)
    subst e7
    have kp := HR2.out.p.get (i := 1) (by simp)
    simp only [List.getElem_cons_succ, List.getElem_cons_zero] at kp
    have HqL := Lib.hid (HLL.out q (by simp))
    have HPq := Lib.hid (HPr.out ⟨q.toArray⟩)
    rcases Classical.em (∃ n, q = 61 :: n) with ⟨nm, rfl⟩ | hq
    · have hpre : Lib.hasPrefix (61 :: nm) [61] = true := (eq_prefix _).2 ⟨nm, rfl⟩
      have hpre2 : Lib.hasPrefix (⟨(61 :: nm).toArray⟩ : ByteArray).data.toList [61] = true := hpre
      simp only [hpre2] at HPq
      clear hpre hpre2
      have Hx := Lib.hid (tail_str nm)
      have hsz : (1 : Int) ≤ ((⟨(61 :: nm).toArray⟩ : ByteArray).size : Int) := by
        show (1 : Int) ≤ ((61 :: nm).toArray.size : Int)
        rw [List.size_toArray, List.length_cons]
        omega
      have hnc : ((r.length : Nat) : Int) + 1 ≤ (((61 :: nm) :: r).length + 1 - 1 : Nat) := by simp
      have hcp := HR3.out.p.get (i := 1) (by simp)
      simp only [List.getElem_cons_succ, List.getElem_cons_zero] at hcp
      generalize hQe : (⟨(61 :: nm).toArray⟩ : ByteArray) = Q at *
      have HN2 := Lib.hid (next_any (A := none) (n := r.length) HR3.out.l hcp hnc (by have := HR3.out.lt; show w.heap.size + 1 + 1 ≠ g4; omega))
      have hxt : (Q.extract 1 Q.size).toList = nm := by rw [Hx.out, ByteArray.toList_eq]
      have Hnl := Lib.hid (show nm.length ≤ 6000 by have := HqL.out; rw [List.length_cons] at this; omega)
      clear hQe hcp hnc
      by_cases hnm : nm = []
      · have Hno := Lib.hid (no_eq (l := s.data.toList) (v := v) (r := r) (by rw [Hp.out, hnm]))
        have t1 : ((Q.extract 1 Q.size).toList == []) = true := by rw [hxt, hnm]; rfl
        have t2 : ((Q.extract 1 Q.size).toList != []) = false := by rw [hxt, hnm]; rfl
        have t3 : (Q.extract 1 Q.size).toList.isEmpty = true := by rw [hxt, hnm]; rfl
        have t4 : (Q.extract 1 Q.size).toList = [] := by rw [hxt, hnm]
        clear hnm hxt
        go_wp2_with (first | (go_at_call 36; (with_reducible refine (HPq.out _).mono ?_); rintro _ _ ⟨rfl, rfl⟩) | (go_at_call 35; (refine HN2.out.mono ?_); rintro _ W4 ⟨rfl, A8, hW4, hA8⟩; have hR4 := HR3.out.taken hA8; rw [← hW4] at hR4; clear hW4; have HR5 := Lib.hid (hR4.name (Q.extract 1 Q.size)); have v1 := hR4.s.cell 1; have z1 := hR4.s.frozen 1; clear hR4) | (go_at_call 37; (with_reducible refine (HNo.out _).mono ?_); rintro _ _ ⟨rfl, rfl⟩))
        exact read_thrown HR5.out Hno.out rfl rfl
      · have t4 : ¬ (Q.extract 1 Q.size).toList = [] := by rw [hxt]; exact hnm
        have t1 : ((Q.extract 1 Q.size).toList == []) = false := by simpa using t4
        have t2 : ((Q.extract 1 Q.size).toList != []) = true := by simpa using t4
        have t3 : (Q.extract 1 Q.size).toList.isEmpty = false := by simpa using t4
        have Hnm := Lib.hid hnm
        clear hnm hxt
        go_upto_region 8 with (first | (go_at_call 36; (with_reducible refine (HPq.out _).mono ?_); rintro _ _ ⟨rfl, rfl⟩) | (go_at_call 35; (refine HN2.out.mono ?_); rintro _ W4 ⟨rfl, A8, hW4, hA8⟩; have hR4 := HR3.out.taken hA8; rw [← hW4] at hR4; clear hW4; have HR5 := Lib.hid (hR4.name (Q.extract 1 Q.size)); have v1 := hR4.s.cell 1; have z1 := hR4.s.frozen 1; have kk := hR4.l.cell 0; clear hR4) | (go_at_call 37; (with_reducible refine (HYs.out _).mono ?_); rintro _ _ ⟨rfl, rfl⟩))
        rename_i hK
        have hR5 := HR5.out
        rw [Hx.out] at hR5 ⊢
        exact read_core_t (s := s) (ts := r) (nm := nm) HG.out hR5 rfl HLL.out HvL.out Hnl.out Hp.out rfl (fun x h => Hnm.out (List.cons.inj (List.cons.inj h).1).2) (by have := HL7.out; simp at this ⊢; omega) _ hK rfl
    · have hpre : Lib.hasPrefix (⟨q.toArray⟩ : ByteArray).data.toList [61] = false := by
        cases h : Lib.hasPrefix (⟨q.toArray⟩ : ByteArray).data.toList [61]
        · rfl
        · exact absurd ((eq_prefix _).1 h) hq
      simp only [hpre] at HPq
      have Hq := Lib.hid (show nameOf (q :: r) = ([], q :: r) from nameOf_ne fun n x h => hq ⟨n, (List.cons.inj h).1⟩)
      have Hq2 := Lib.hid (show ∀ x, q :: r ≠ [61] :: x from fun x h => hq ⟨[], (List.cons.inj h).1⟩)
      clear hpre hq
      go_upto_region 8 with (go_at_call 36; (with_reducible refine (HPq.out _).mono ?_); rintro _ _ ⟨rfl, rfl⟩)
      rename_i hK
      exact read_core_t (s := s) (ts := q :: r) (nm := []) HG.out HR3.out rfl HLL.out HvL.out (by simp) Hp.out Hq.out Hq2.out (by have := HL7.out; simp at this ⊢; omega) _ hK rfl
end Go.Proofs.YtebpggfccljagaaGreatDoor

/- law30.known. -/
namespace Go.Proofs.YtebpggfccljagaaGreatDoor
open Go.RowKit
open Wh
set_option linter.unusedSimpArgs false
set_option linter.unusedVariables false

theorem ok_fine {r : ARow} (h : r.2.2.ok) : ArgFine r := by
  obtain ⟨A, c, x⟩ := r
  simp only at h
  rcases ok_cases h with ⟨nm, rfl, h1⟩ | ⟨a, b, c, d, rfl, h1, h2⟩ | rfl | ⟨wd, rfl, h1, h2⟩ | ⟨ct, rfl, h1, h2⟩
  · refine ⟨⟨by show (-9223372036854775808 : Int) ≤ 1; decide, by show (1 : Int) ≤ 9223372036854775807; decide⟩, ⟨by show (-9223372036854775808 : Int) ≤ 0; decide, by show (0 : Int) ≤ 9223372036854775807; decide⟩, ⟨?_, by show (0 : Nat) ≤ _; omega⟩⟩
    show nm.size ≤ 1000000
    unfold Sc.namedB at h1
    simp only [Bool.and_eq_true, decide_eq_true_eq] at h1
    have h2 : nm.data.toList.length = nm.size := by simp
    omega
  · exact ⟨⟨by show (-9223372036854775808 : Int) ≤ 2; decide, by show (2 : Int) ≤ 9223372036854775807; decide⟩, ⟨by show (-9223372036854775808 : Int) ≤ 0; decide, by show (0 : Int) ≤ 9223372036854775807; decide⟩, ⟨by show (0 : Nat) ≤ _; omega, by show (0 : Nat) ≤ _; omega⟩⟩
  · exact ⟨⟨by show (-9223372036854775808 : Int) ≤ 3; decide, by show (3 : Int) ≤ 9223372036854775807; decide⟩, ⟨by show (-9223372036854775808 : Int) ≤ 0; decide, by show (0 : Int) ≤ 9223372036854775807; decide⟩, ⟨by show (0 : Nat) ≤ _; omega, by show (0 : Nat) ≤ _; omega⟩⟩
  · exact ⟨⟨by show (-9223372036854775808 : Int) ≤ 4; decide, by show (4 : Int) ≤ 9223372036854775807; decide⟩, ⟨by show (-9223372036854775808 : Int) ≤ 0; decide, by show (0 : Int) ≤ 9223372036854775807; decide⟩, ⟨by show (0 : Nat) ≤ _; omega, by show wd.length ≤ _; omega⟩⟩
  · exact ⟨⟨by show (-9223372036854775808 : Int) ≤ 5; decide, by show (5 : Int) ≤ 9223372036854775807; decide⟩, ⟨by show (-9223372036854775808 : Int) ≤ ct; omega, by show ct ≤ 9223372036854775807; omega⟩, ⟨by show (0 : Nat) ≤ _; omega, by show (0 : Nat) ≤ _; omega⟩⟩
theorem ok_fit {s : StR} (h : s.p.ok) : s.p.fit ∧ ∀ r ∈ s.rs, ArgFine r := by
  have hall : ∀ r ∈ s.rs, ArgFine r := fun r hr => ok_fine (h.all r.2.2 (List.mem_map.2 ⟨r, hr, rfl⟩))
  refine ⟨⟨?_, ?_, Nat.le_trans h.len (by decide), fun x hx => ?_⟩, hall⟩
  · have h1 := h.v
    unfold Sc.lettersB at h1
    simp only [Bool.and_eq_true, decide_eq_true_eq] at h1
    have h2 : s.p.v.data.toList.length = s.p.v.size := by simp
    omega
  · rcases h.nm with h1 | h1
    · rw [h1]; decide
    · unfold Sc.namedB at h1
      simp only [Bool.and_eq_true, decide_eq_true_eq] at h1
      have h2 : s.p.nm.data.toList.length = s.p.nm.size := by simp
      omega
  · obtain ⟨r, hr, rfl⟩ := List.mem_map.1 hx
    exact (hall r hr).fit
/-- a line that is one, read -/
theorem sread_yes {w : World} {B : Nat} {s : ByteArray} (hg : Gl B w) (hs : s.size ≤ 6000) {p : StP} (hp : p.ok) (hl : lineT p = s.data.toList) :
    Calls Tryz.prog 9 #[.string s] w (fun e w' => (∃ t : StR, e = .returned (.tuple #[.agg t.cells, .int .i64 0]) ∧ t.p = p ∧ LentA w' w.heap.size (.slice t.A t.rs.length t.c) t.rs) ∧ Below w.heap.size w w') := by
  refine (sread_any hg hs).mono ?_
  rintro e w' ⟨⟨t, he, hok, hlt, hL⟩ | ⟨_, hno⟩, hb⟩
  · exact ⟨⟨t, he, lineT_inj hok hp (hlt.trans hl.symm), hL⟩, hb⟩
  · exact absurd hl (hno p hp)
theorem sread_no {w : World} {B : Nat} {s : ByteArray} (hg : Gl B w) (hs : s.size ≤ 6000) (hn : NoLine s.data.toList) :
    Calls Tryz.prog 9 #[.string s] w (fun e w' => e = .returned (.tuple #[.agg #[.string ⟨#[]⟩, .string ⟨#[]⟩, .slice none 0 0], .int .i64 400]) ∧ Below w.heap.size w w') := by
  refine (sread_any hg hs).mono ?_
  rintro e w' ⟨⟨t, he, hok, hlt, hL⟩ | ⟨he, _⟩, hb⟩
  · exact absurd hlt (hn t.p hok)
  · exact ⟨he, hb⟩
theorem reads_blkA {w : World} {g : Nat} {rs : List ARow} (h : Blk w g 41 (rs.flatMap acs).toArray) : Reads w (g + 1) 12 (some ⟨g, 0, none⟩) rs.length (rs.flatMap acs) := by
  refine ⟨by rw [flat_len], fun _ => ⟨_, rfl, Nat.lt_succ_self _, fun j u hu => ?_⟩⟩
  rw [Addr.add_lit, Nat.zero_add, h.cell j, List.getElem?_toArray]
  exact hu
/-- the statement of known -/
def p0 : StP := ⟨⟨#[99, 105, 114, 99, 108, 101]⟩, ⟨#[99]⟩, [nameP ⟨#[97]⟩, infP, wordP [1, -2], countP 7]⟩
def rs0 (g : Nat) : List ARow := [(none, 0, nameP ⟨#[97]⟩), (none, 0, infP), (some ⟨g, 0, none⟩, 2, wordP [1, -2]), (none, 0, countP 7)]
theorem itoa_1 : Lib.itoa 1 = [49] := by
  unfold Lib.itoa
  rw [if_neg (by decide), Lib.decDigits, dif_pos (by decide)]
  rfl
theorem itoa_m2 : Lib.itoa (-2) = [45, 50] := by
  unfold Lib.itoa
  rw [if_pos (by decide), Lib.decDigits, dif_pos (by decide)]
  rfl
theorem itoa_7 : Lib.itoa 7 = [55] := by
  unfold Lib.itoa
  rw [if_neg (by decide), Lib.decDigits, dif_pos (by decide)]
  rfl
theorem p0_line : lineT p0 = [99, 105, 114, 99, 108, 101, 32, 61, 99, 32, 97, 32, 40, 105, 110, 102, 41, 32, 91, 49, 46, 45, 50, 93, 32, 35, 55] := by
  unfold lineT p0
  simp only [List.map_cons, List.map_nil, argT_name, argT_inf, argT_word, argT_count, wtx, itoa_1, itoa_m2, itoa_7]
  rfl
theorem p0_ok : p0.ok := by
  refine ⟨by decide, .inr (by decide), by decide, fun x hx => ?_⟩
  unfold p0 at hx
  simp only [List.mem_cons, List.not_mem_nil, or_false] at hx
  rcases hx with rfl | rfl | rfl | rfl
  · unfold ArgP.ok nameP ArgP.zero; simp; decide
  · unfold ArgP.ok infP ArgP.zero; simp
  · unfold ArgP.ok wordP ArgP.zero; simp; decide
  · unfold ArgP.ok countP ArgP.zero; simp
theorem no_draw : NoLine [100, 114, 97, 119, 32, 32, 99] :=
  no_arg (v := [100, 114, 97, 119]) (n := []) (rest := [[], [99]]) (ts := [[], [99]]) (by rfl) rfl (t := []) (by simp) not_nil
theorem rs0_reads (w : World) : ReadsA (((w.alloc (.cells #[.int .i64 1, .int .i64 (-2)] 3)).alloc (.cells #[.int .i64 1, .string ⟨#[97]⟩, .bool false, .string ⟨#[]⟩, .bool false, .string ⟨#[]⟩, .bool false, .string ⟨#[]⟩, .bool false, .string ⟨#[]⟩, .slice none 0 0, .int .i64 0, .int .i64 3, .string ⟨#[]⟩, .bool false, .string ⟨#[]⟩, .bool false, .string ⟨#[]⟩, .bool false, .string ⟨#[]⟩, .bool false, .string ⟨#[]⟩, .slice none 0 0, .int .i64 0, .int .i64 4, .string ⟨#[]⟩, .bool false, .string ⟨#[]⟩, .bool false, .string ⟨#[]⟩, .bool false, .string ⟨#[]⟩, .bool false, .string ⟨#[]⟩, .slice (some ⟨w.heap.size, 0, none⟩) 2 2, .int .i64 0, .int .i64 5, .string ⟨#[]⟩, .bool false, .string ⟨#[]⟩, .bool false, .string ⟨#[]⟩, .bool false, .string ⟨#[]⟩, .bool false, .string ⟨#[]⟩, .slice none 0 0, .int .i64 7] 41))) (w.heap.size + 1 + 1) (some ⟨w.heap.size + 1, 0, none⟩) (rs0 w.heap.size) := by
  have h1 := Blk.new (w.alloc (.cells #[.int .i64 1, .int .i64 (-2)] 3)) 41 #[.int .i64 1, .string ⟨#[97]⟩, .bool false, .string ⟨#[]⟩, .bool false, .string ⟨#[]⟩, .bool false, .string ⟨#[]⟩, .bool false, .string ⟨#[]⟩, .slice none 0 0, .int .i64 0, .int .i64 3, .string ⟨#[]⟩, .bool false, .string ⟨#[]⟩, .bool false, .string ⟨#[]⟩, .bool false, .string ⟨#[]⟩, .bool false, .string ⟨#[]⟩, .slice none 0 0, .int .i64 0, .int .i64 4, .string ⟨#[]⟩, .bool false, .string ⟨#[]⟩, .bool false, .string ⟨#[]⟩, .bool false, .string ⟨#[]⟩, .bool false, .string ⟨#[]⟩, .slice (some ⟨w.heap.size, 0, none⟩) 2 2, .int .i64 0, .int .i64 5, .string ⟨#[]⟩, .bool false, .string ⟨#[]⟩, .bool false, .string ⟨#[]⟩, .bool false, .string ⟨#[]⟩, .bool false, .string ⟨#[]⟩, .slice none 0 0, .int .i64 7]
  rw [World.size_alloc] at h1
  have h0 := (Blk.new w 3 #[.int .i64 1, .int .i64 (-2)]).alloc (.cells #[.int .i64 1, .string ⟨#[97]⟩, .bool false, .string ⟨#[]⟩, .bool false, .string ⟨#[]⟩, .bool false, .string ⟨#[]⟩, .bool false, .string ⟨#[]⟩, .slice none 0 0, .int .i64 0, .int .i64 3, .string ⟨#[]⟩, .bool false, .string ⟨#[]⟩, .bool false, .string ⟨#[]⟩, .bool false, .string ⟨#[]⟩, .bool false, .string ⟨#[]⟩, .slice none 0 0, .int .i64 0, .int .i64 4, .string ⟨#[]⟩, .bool false, .string ⟨#[]⟩, .bool false, .string ⟨#[]⟩, .bool false, .string ⟨#[]⟩, .bool false, .string ⟨#[]⟩, .slice (some ⟨w.heap.size, 0, none⟩) 2 2, .int .i64 0, .int .i64 5, .string ⟨#[]⟩, .bool false, .string ⟨#[]⟩, .bool false, .string ⟨#[]⟩, .bool false, .string ⟨#[]⟩, .bool false, .string ⟨#[]⟩, .slice none 0 0, .int .i64 7] 41)
  have h1' : Blk _ _ 41 ((rs0 w.heap.size).flatMap acs).toArray := h1
  refine ⟨reads_blkA h1', fun r hr => ?_⟩
  unfold rs0 at hr
  simp only [List.mem_cons, List.not_mem_nil, or_false] at hr
  rcases hr with rfl | rfl | rfl | rfl
  · exact ⟨by decide, by decide, ReadsI.none_ _ _ _⟩
  · exact ⟨by decide, by decide, ReadsI.none_ _ _ _⟩
  · refine ⟨⟨by show (-9223372036854775808 : Int) ≤ 4; decide, by show (4 : Int) ≤ 9223372036854775807; decide⟩, ⟨by show (-9223372036854775808 : Int) ≤ 0; decide, by show (0 : Int) ≤ 9223372036854775807; decide⟩, rfl, fun _ => ⟨⟨w.heap.size, 0, none⟩, rfl, by show w.heap.size < _; omega, fun j u hu => ?_⟩⟩
    have hu' : #[Value.int .i64 1, .int .i64 (-2)][j]? = some u := by
      have : (([1, -2] : List Int).map iv)[j]? = some u := hu
      match j, this with
      | 0, h => exact h
      | 1, h => exact h
      | j + 2, h => simp at h
    rw [Addr.add_lit, Nat.zero_add, h0.cell j]
    exact hu'
  · exact ⟨by decide, by decide, ReadsI.none_ _ _ _⟩
set_option maxRecDepth 100000 in
set_option maxHeartbeats 4000000 in
theorem known_any {w : World} {B : Nat} (hg : Gl B w) : Calls Tryz.prog 8 #[] w (fun e w' => e = .returned (.bool true) ∧ Below w.heap.size w w') := by
  have hb1 := ((new_below w (.cells #[.int .i64 1, .int .i64 (-2)] 3)).alloc (by simp) (.cells #[.int .i64 1, .string ⟨#[97]⟩, .bool false, .string ⟨#[]⟩, .bool false, .string ⟨#[]⟩, .bool false, .string ⟨#[]⟩, .bool false, .string ⟨#[]⟩, .slice none 0 0, .int .i64 0, .int .i64 3, .string ⟨#[]⟩, .bool false, .string ⟨#[]⟩, .bool false, .string ⟨#[]⟩, .bool false, .string ⟨#[]⟩, .bool false, .string ⟨#[]⟩, .slice none 0 0, .int .i64 0, .int .i64 4, .string ⟨#[]⟩, .bool false, .string ⟨#[]⟩, .bool false, .string ⟨#[]⟩, .bool false, .string ⟨#[]⟩, .bool false, .string ⟨#[]⟩, .slice (some ⟨w.heap.size, 0, none⟩) 2 2, .int .i64 0, .int .i64 5, .string ⟨#[]⟩, .bool false, .string ⟨#[]⟩, .bool false, .string ⟨#[]⟩, .bool false, .string ⟨#[]⟩, .bool false, .string ⟨#[]⟩, .slice none 0 0, .int .i64 7] 41)).alloc (by simp <;> omega) (.cells #[.string ⟨#[99, 105, 114, 99, 108, 101]⟩, .string ⟨#[99]⟩, .slice (some ⟨w.heap.size + 1, 0, none⟩) 4 4] 25)
  have hR := (rs0_reads w).alloc (by simp) (.cells #[.string ⟨#[99, 105, 114, 99, 108, 101]⟩, .string ⟨#[99]⟩, .slice (some ⟨w.heap.size + 1, 0, none⟩) 4 4] 25)
  have hx := Blk.new ((w.alloc (.cells #[.int .i64 1, .int .i64 (-2)] 3)).alloc (.cells #[.int .i64 1, .string ⟨#[97]⟩, .bool false, .string ⟨#[]⟩, .bool false, .string ⟨#[]⟩, .bool false, .string ⟨#[]⟩, .bool false, .string ⟨#[]⟩, .slice none 0 0, .int .i64 0, .int .i64 3, .string ⟨#[]⟩, .bool false, .string ⟨#[]⟩, .bool false, .string ⟨#[]⟩, .bool false, .string ⟨#[]⟩, .bool false, .string ⟨#[]⟩, .slice none 0 0, .int .i64 0, .int .i64 4, .string ⟨#[]⟩, .bool false, .string ⟨#[]⟩, .bool false, .string ⟨#[]⟩, .bool false, .string ⟨#[]⟩, .bool false, .string ⟨#[]⟩, .slice (some ⟨w.heap.size, 0, none⟩) 2 2, .int .i64 0, .int .i64 5, .string ⟨#[]⟩, .bool false, .string ⟨#[]⟩, .bool false, .string ⟨#[]⟩, .bool false, .string ⟨#[]⟩, .bool false, .string ⟨#[]⟩, .slice none 0 0, .int .i64 7] 41)) 25 #[.string ⟨#[99, 105, 114, 99, 108, 101]⟩, .string ⟨#[99]⟩, .slice (some ⟨w.heap.size + 1, 0, none⟩) 4 4]
  rw [World.size_alloc, World.size_alloc] at hx
  have hgl := hg.below hb1
  have hsz : w.heap.size + 1 + 1 ≤ (((w.alloc (.cells #[.int .i64 1, .int .i64 (-2)] 3)).alloc (.cells #[.int .i64 1, .string ⟨#[97]⟩, .bool false, .string ⟨#[]⟩, .bool false, .string ⟨#[]⟩, .bool false, .string ⟨#[]⟩, .bool false, .string ⟨#[]⟩, .slice none 0 0, .int .i64 0, .int .i64 3, .string ⟨#[]⟩, .bool false, .string ⟨#[]⟩, .bool false, .string ⟨#[]⟩, .bool false, .string ⟨#[]⟩, .bool false, .string ⟨#[]⟩, .slice none 0 0, .int .i64 0, .int .i64 4, .string ⟨#[]⟩, .bool false, .string ⟨#[]⟩, .bool false, .string ⟨#[]⟩, .bool false, .string ⟨#[]⟩, .bool false, .string ⟨#[]⟩, .slice (some ⟨w.heap.size, 0, none⟩) 2 2, .int .i64 0, .int .i64 5, .string ⟨#[]⟩, .bool false, .string ⟨#[]⟩, .bool false, .string ⟨#[]⟩, .bool false, .string ⟨#[]⟩, .bool false, .string ⟨#[]⟩, .slice none 0 0, .int .i64 7] 41)).alloc (.cells #[.string ⟨#[99, 105, 114, 99, 108, 101]⟩, .string ⟨#[99]⟩, .slice (some ⟨w.heap.size + 1, 0, none⟩) 4 4] 25)).heap.size := by simp
  have HLn := Lib.hid (line_ok (s := ⟨⟨#[99, 105, 114, 99, 108, 101]⟩, ⟨#[99]⟩, some ⟨w.heap.size + 1, 0, none⟩, 4, rs0 w.heap.size⟩) (B := w.heap.size + 1 + 1) (hgl.tab.more (show B ≤ w.heap.size + 1 + 1 by have := hg.hB; omega)) hR hsz (ok_fit (s := ⟨⟨#[99, 105, 114, 99, 108, 101]⟩, ⟨#[99]⟩, some ⟨w.heap.size + 1, 0, none⟩, 4, rs0 w.heap.size⟩) p0_ok).1 p0_ok)
  have hp : (⟨⟨#[99, 105, 114, 99, 108, 101]⟩, ⟨#[99]⟩, some ⟨w.heap.size + 1, 0, none⟩, 4, rs0 w.heap.size⟩ : StR).p = p0 := rfl
  rw [hp, p0_line] at HLn
  have HH := Lib.hid (And.intro hb1 (And.intro hR (And.intro hx hsz)))
  have HG := Lib.hid hg
  have HR1 := Lib.hid (fun W (hb : Below w.heap.size w W) => sread_yes (w := W) (s := ⟨#[99, 105, 114, 99, 108, 101, 32, 61, 99, 32, 97, 32, 40, 105, 110, 102, 41, 32, 91, 49, 46, 45, 50, 93, 32, 35, 55]⟩) (HG.out.below hb) (by decide) p0_ok p0_line)
  have HR2 := Lib.hid (fun W (hb : Below w.heap.size w W) => sread_no (w := W) (s := ⟨#[100, 114, 97, 119, 32, 32, 99]⟩) (HG.out.below hb) (by decide) no_draw)
  unfold StR.cells at HLn
  unfold bs at HLn
  clear hb1 hR hx hgl hsz hp hg
  go_enter Tryz.func8, Tryz.ntmps8
  go_wp2_with (go_at_call 14; (refine HLn.out.mono ?_); rintro _ W4 ⟨rfl, hb4⟩; have H4 := Lib.hid (And.intro (HH.out.1.trans (hb4.mono HH.out.1.size)) (And.intro (((HH.out.2.1.more HH.out.2.2.2).below hb4).more hb4.size) (HH.out.2.2.1.below hb4 HH.out.2.2.1.lt))))
  with_reducible refine (HR1.out _ H4.out.1).mono ?_
  rintro _ W5 ⟨⟨⟨tv, tn, tA, tc, trs⟩, rfl, htp, hL⟩, hb5⟩
  simp only [StR.cells]
  have H5 := Lib.hid (And.intro htp (And.intro (hL.kept (new_below W5 (.cells #[.string tv, .string tn, .slice tA trs.length tc] 25))) (And.intro (H4.out.1.trans (((hb5.mono H4.out.1.size)).alloc (by have := H4.out.1.size; have := hb5.size; omega) (.cells #[.string tv, .string tn, .slice tA trs.length tc] 25))) (And.intro (hb5.alloc hb5.size (.cells #[.string tv, .string tn, .slice tA trs.length tc] 25)) (Blk.new W5 25 #[.string tv, .string tn, .slice tA trs.length tc])))))
  clear htp hL hb5
  go_wp2_with fail
  with_reducible refine (HR2.out _ H5.out.2.2.1).mono ?_
  rintro _ W6 ⟨rfl, hb6⟩
  have H6 := Lib.hid (show Below W5.heap.size (W5.alloc (.cells #[.string tv, .string tn, .slice tA trs.length tc] 25)) (W6.alloc (.cells #[.string ⟨#[]⟩, .string ⟨#[]⟩, .slice none 0 0] 25)) from (hb6.mono (by simp)).alloc (by have := hb6.size; simp at this; omega) _)
  have H6b := Lib.hid (show Below (W5.alloc (.cells #[.string tv, .string tn, .slice tA trs.length tc] 25)).heap.size (W5.alloc (.cells #[.string tv, .string tn, .slice tA trs.length tc] 25)) (W6.alloc (.cells #[.string ⟨#[]⟩, .string ⟨#[]⟩, .slice none 0 0] 25)) from hb6.alloc hb6.size _)
  have H46 := Lib.hid (H5.out.2.2.2.1.trans (H6b.out.mono H5.out.2.2.2.1.size))
  have hx1 := H4.out.2.2.below H46.out H4.out.2.2.lt
  have hx4 := H5.out.2.2.2.2.below H6b.out H5.out.2.2.2.2.lt
  have c0 := hx1.cell 0
  have c1 := hx1.cell 1
  have c2 := hx1.cell 2
  have d0 := hx4.cell 0
  have d1 := hx4.cell 1
  have d2 := hx4.cell 2
  have hL6 := H5.out.2.1.kept H6b.out
  have hfine := (ok_fit (s := ⟨tv, tn, tA, tc, trs⟩) (by rw [H5.out.1]; exact p0_ok))
  have HS := Lib.hid (sst_any (s := ⟨⟨#[99, 105, 114, 99, 108, 101]⟩, ⟨#[99]⟩, some ⟨w.heap.size + 1, 0, none⟩, 4, rs0 w.heap.size⟩) (t := ⟨tv, tn, tA, tc, trs⟩) (b := true) ((H4.out.2.1.below H46.out).more H46.out.size) (lent_readsA hL6 hfine.2).1 (Nat.le_refl _) (ok_fit (s := ⟨⟨#[99, 105, 114, 99, 108, 101]⟩, ⟨#[99]⟩, some ⟨w.heap.size + 1, 0, none⟩, 4, rs0 w.heap.size⟩) p0_ok).1 hfine.1 ⟨fun _ => H5.out.1.symm, fun _ => rfl⟩)
  have Hbz := Lib.hid (H5.out.2.2.1.trans (H6b.out.mono H5.out.2.2.1.size))
  unfold StR.cells at HS
  clear hb6 hx1 hx4 hL6 hfine
  go_wp2_with fail
  refine HS.out.mono ?_
  rintro _ W7 ⟨rfl, hb7⟩
  have Hbe := Lib.hid (Hbz.out.trans (hb7.mono Hbz.out.size))
  clear hb7 c0 c1 c2 d0 d1 d2
  go_wp2_with fail
  go_ret
  exact ⟨rfl, Hbe.out⟩
end Go.Proofs.YtebpggfccljagaaGreatDoor

/- The frame of a law's row: what came in reads as it did. -/
namespace Go.Proofs.YtebpggfccljagaaGreatDoor
open Go.ChangeShapes Go.WideShapes Go.ChangeAt Go.RowKit

theorem own : ownKnob Tryz.prog.godebug = none := by kernel_rfl

theorem trodAll_keep {H : Type} {enc : TypeId × Value → H} {P : Program} (hl : laidOutB P = true) {W W' : World} (hb : Below W.heap.size W W') {sp : Nat → Bool} :
    ∀ (ts : List TypeId) (vs : List Value) (ds : List (DataW H)) (ps : List MemPlace), DataW.TrodAll enc P W 0 (fun _ => true) true ts vs ds ps → (∀ t ∈ ts, P.readableRec t = true ∧ t < P.types.size) →
      (∀ x ∈ ps, x.block < W.heap.size) → (∀ x ∈ ps, sp x.block = true) → DataW.TrodAll enc P W' 0 sp true ts vs ds ps
  | [], vs, ds, ps, h, _, _, _ => by
    obtain ⟨rfl, rfl, rfl⟩ := trodAll_nil h
    exact trodAll_mk0
  | t :: ts, vs, ds, ps, h, ht, hlt, hsp => by
    obtain ⟨v, vs', d, ds', p, q, rfl, rfl, rfl, h0, h1⟩ := trodAll_cons h
    refine trodAll_cons_mk ?_ (trodAll_keep hl hb ts vs' ds' q h1 (fun t' h' => ht t' (List.mem_cons_of_mem _ h')) (fun x hx => hlt x (List.mem_append_right _ hx)) (fun x hx => hsp x (List.mem_append_right _ hx)))
    obtain ⟨hr, hrow⟩ := ht t List.mem_cons_self
    exact WideElems.Trod_stays hl hr hrow h0 (fun x hx => hb.same (hlt x (List.mem_append_left _ hx))) (fun x hx => hsp x (List.mem_append_left _ hx))

theorem laidOut : laidOutB Tryz.prog = true := by kernel_rfl

set_option maxRecDepth 100000 in
/-- the post of a law that has returned true and written nothing that was there -/
theorem law_post {H : Type} {enc : TypeId × Value → H} {f : Func} {s : ChangeSpec} {W W' : World} {args : Array Value} {ds gs : List (DataW H)} {before : List MemPlace} {bt : TypeId}
    (hW : DataW.Whole enc Tryz.prog f.params.toList s.vars false W args.toList ds gs before) (hb : Below W.heap.size W W') (hv : s.vars = []) (hrt : f.resultTypes = #[bt]) (hbt : Tryz.prog.underlying bt = some .bool)
    (hpar : ∀ t ∈ f.params.toList, Tryz.prog.readableRec t = true ∧ t < Tryz.prog.types.size)
    (hres : (s.fn H (ds ++ gs)).results = [.lit (.bool true)]) (hargs : (s.fn H (ds ++ gs)).args = ds) (hvs : (s.fn H (ds ++ gs)).vars = []) :
    s.post enc Tryz.prog f false true false false W args (.bool true) W' := by
  have hlt : ∀ p ∈ before, p.block < W.heap.size := fun p hp => hW.lt p hp
  have hW' := hW
  obtain ⟨p, q, hA, hV, rfl, hfz, hnd⟩ := hW
  have hq : q = [] := by
    rw [hv] at hV
    exact (trodVars_none hV).2
  subst hq
  refine post_of_below (pa := p) (pv := []) hW' (fun _ _ _ => ?_) (fun sp hsp => ?_) (fun sp hsp => ?_) rfl hb ?_
  · rw [hres, hrt]
    exact trodAll_cons_mk (shut_bool hbt _) trodAll_mk0
  · rw [hargs]
    exact trodAll_keep laidOut hb _ _ _ _ hA hpar (fun x hx => hlt x (List.mem_append_left _ hx)) (fun x hx => hsp x (List.mem_append_left _ hx))
  · rw [hv, hvs]
    rfl
  · exact ok_one hrt rfl (okWide_bool_mk hbt _)
end Go.Proofs.YtebpggfccljagaaGreatDoor

/- Arguments of the laws opened: statements, rows of them. -/
namespace Go.Proofs.YtebpggfccljagaaGreatDoor.Laid
open Go.ChangeShapes Go.WideShapes Go.ChangeAt Go.RowKit Go.Deep
open Wh
set_option linter.unusedSimpArgs false
set_option linter.unusedVariables false

instance : Inhabited ARow := ⟨sent⟩
theorem c3 : Tryz.prog.cellsOf 3 = 1 := by kernel_rfl
theorem c4 : Tryz.prog.cellsOf 4 = 1 := by kernel_rfl
theorem c9 : Tryz.prog.cellsOf 9 = 1 := by kernel_rfl
theorem c32 : Tryz.prog.cellsOf 32 = 1 := by kernel_rfl
theorem c34 : Tryz.prog.cellsOf 34 = 2 := by kernel_rfl
theorem c36 : Tryz.prog.cellsOf 36 = 4 := by kernel_rfl
theorem c38 : Tryz.prog.cellsOf 38 = 8 := by kernel_rfl
theorem c39 : Tryz.prog.cellsOf 39 = 1 := by kernel_rfl
theorem c41 : Tryz.prog.cellsOf 41 = 12 := by kernel_rfl
theorem c23 : Tryz.prog.cellsOf 23 = 1 := by kernel_rfl
theorem c25 : Tryz.prog.cellsOf 25 = 3 := by kernel_rfl
section
variable {H : Type} {enc : TypeId × Value → H} {w : World} {base fuel : Nat} {held : Bool}
set_option maxRecDepth 100000 in
theorem open_whole {spare : Nat → Bool} {cs : List Value} {x : DataW H × List MemPlace} (h : DataW.trod enc Tryz.prog w base spare held fuel 34 cs = some x) : ∃ (b : Bool) (s : ByteArray), cs = [.bool b, .string s] := by
  obtain ⟨xs, n, _, rfl, hl, hx, hf⟩ := DataW.trod_struct Tryz.underlying34 h
  rw [c34] at hl
  match cs, hl, xs, hx with
  | [d0, d1], _, [x0, x1], _ =>
    have h0 : DataW.trod enc Tryz.prog w base spare held n 4 ((List.drop 0 [d0, d1]).take (Tryz.prog.cellsOf 4)) = some x0 := hf 0 _ rfl
    have h1 : DataW.trod enc Tryz.prog w base spare held n 9 ((List.drop 1 [d0, d1]).take (Tryz.prog.cellsOf 9)) = some x1 := hf 1 _ rfl
    rw [c4] at h0
    rw [c9] at h1
    obtain ⟨b, hb, hx0⟩ := DataW.trod_bool Tryz.underlying4 h0
    obtain ⟨s, hs, hx1, _⟩ := DataW.trod_string Tryz.underlying9 h1
    simp only [List.drop, List.take, List.cons.injEq, and_true] at hb hs
    subst hb hs
    exact ⟨b, s, rfl⟩
set_option maxRecDepth 100000 in
theorem open_frac {spare : Nat → Bool} {cs : List Value} {x : DataW H × List MemPlace} (h : DataW.trod enc Tryz.prog w base spare held fuel 36 cs = some x) : ∃ (b : Bool) (s : ByteArray) (b2 : Bool) (s2 : ByteArray), cs = [.bool b, .string s, .bool b2, .string s2] := by
  obtain ⟨xs, n, _, rfl, hl, hx, hf⟩ := DataW.trod_struct Tryz.underlying36 h
  rw [c36] at hl
  match cs, hl, xs, hx with
  | [d0, d1, d2, d3], _, [x0, x1], _ =>
    have h0 : DataW.trod enc Tryz.prog w base spare held n 34 ((List.drop 0 [d0, d1, d2, d3]).take (Tryz.prog.cellsOf 34)) = some x0 := hf 0 _ rfl
    have h1 : DataW.trod enc Tryz.prog w base spare held n 34 ((List.drop 2 [d0, d1, d2, d3]).take (Tryz.prog.cellsOf 34)) = some x1 := hf 1 _ rfl
    rw [c34] at h0 h1
    obtain ⟨b, s, hb⟩ := open_whole h0
    obtain ⟨b2, s2, hs⟩ := open_whole h1
    simp only [List.drop, List.take, List.cons.injEq, and_true] at hb hs
    obtain ⟨rfl, rfl⟩ := hb
    obtain ⟨rfl, rfl⟩ := hs
    exact ⟨b, s, b2, s2, rfl⟩
set_option maxRecDepth 100000 in
theorem open_gauss {spare : Nat → Bool} {cs : List Value} {x : DataW H × List MemPlace} (h : DataW.trod enc Tryz.prog w base spare held fuel 38 cs = some x) :
    ∃ (n1 : Bool) (s1 : ByteArray) (n2 : Bool) (s2 : ByteArray) (n3 : Bool) (s3 : ByteArray) (n4 : Bool) (s4 : ByteArray), cs = [.bool n1, .string s1, .bool n2, .string s2, .bool n3, .string s3, .bool n4, .string s4] := by
  obtain ⟨xs, n, _, rfl, hl, hx, hf⟩ := DataW.trod_struct Tryz.underlying38 h
  rw [c38] at hl
  match cs, hl, xs, hx with
  | [d0, d1, d2, d3, d4, d5, d6, d7], _, [x0, x1], _ =>
    have h0 : DataW.trod enc Tryz.prog w base spare held n 36 ((List.drop 0 [d0, d1, d2, d3, d4, d5, d6, d7]).take (Tryz.prog.cellsOf 36)) = some x0 := hf 0 _ rfl
    have h1 : DataW.trod enc Tryz.prog w base spare held n 36 ((List.drop 4 [d0, d1, d2, d3, d4, d5, d6, d7]).take (Tryz.prog.cellsOf 36)) = some x1 := hf 1 _ rfl
    rw [c36] at h0 h1
    obtain ⟨n1, s1, n2, s2, hb⟩ := open_frac h0
    obtain ⟨n3, s3, n4, s4, hs⟩ := open_frac h1
    simp only [List.drop, List.take, List.cons.injEq, and_true] at hb hs
    obtain ⟨rfl, rfl, rfl, rfl⟩ := hb
    obtain ⟨rfl, rfl, rfl, rfl⟩ := hs
    exact ⟨n1, s1, n2, s2, n3, s3, n4, s4, rfl⟩
set_option maxRecDepth 100000 in
theorem open_word {cs : List Value} {x : DataW H × List MemPlace} (h : DataW.trod enc Tryz.prog w base (fun _ => true) held fuel 39 cs = some x) :
    ∃ (A : Option Addr) (c : Nat) (l : List Int), cs = [.slice A l.length c] ∧ ReadsI w w.heap.size A l := by
  rcases open_ints Tryz.underlying39 Tryz.underlying3 c3 h with ⟨hcs, hx⟩ | ⟨a, len, cap, zs, hcs, hb, hl, hm, hz, hx, hc, hw⟩
  · exact ⟨none, 0, [], hcs, ReadsI.none_ _ _ _⟩
  · have hzl : zs.length = cap := by simpa using hz
    have hnl : (zs.take len).length = len := by rw [List.length_take]; omega
    refine ⟨some a, cap, zs.take len, by rw [hnl]; exact hcs, by simp, fun hn => ⟨a, rfl, ?_, fun j u hu => ?_⟩⟩
    · have := block_lt_of_cell (hc 0 (by rw [hnl] at hn; omega))
      rwa [block_of_add] at this
    · have hj := (List.getElem?_eq_some_iff.1 hu).1
      rw [List.length_map, hnl] at hj
      rw [hc j (by omega)]
      rw [List.getElem?_map, List.getElem?_take, if_pos hj, List.getElem?_eq_getElem (by omega)] at hu
      rw [List.getD_eq_getElem?_getD, List.getElem?_eq_getElem (by omega)]
      exact hu
theorem bounds64 {z : Int} (h : (Lit.int .i64 z).wf = true) : -9223372036854775808 ≤ z ∧ z ≤ 9223372036854775807 := by
  exact bounds_i64 h
set_option maxRecDepth 100000 in
/-- an argument -/
theorem open_argE {cs : List Value} {x : DataW H × List MemPlace} (h : DataW.trod enc Tryz.prog w base (fun _ => true) held fuel 41 cs = some x) : ∃ r : ARow, cs = acs r ∧ ArgR w w.heap.size r := by
  obtain ⟨xs, n, _, rfl, hl, hx, hf⟩ := DataW.trod_struct Tryz.underlying41 h
  rw [c41] at hl
  match cs, hl, xs, hx with
  | [d0, d1, d2, d3, d4, d5, d6, d7, d8, d9, d10, d11], _, [x0, x1, x2, x3, x4], _ =>
    have h0 : DataW.trod enc Tryz.prog w base (fun _ => true) held n 32 ((List.drop 0 [d0, d1, d2, d3, d4, d5, d6, d7, d8, d9, d10, d11]).take (Tryz.prog.cellsOf 32)) = some x0 := hf 0 _ rfl
    have h1 : DataW.trod enc Tryz.prog w base (fun _ => true) held n 9 ((List.drop 1 [d0, d1, d2, d3, d4, d5, d6, d7, d8, d9, d10, d11]).take (Tryz.prog.cellsOf 9)) = some x1 := hf 1 _ rfl
    have h2 : DataW.trod enc Tryz.prog w base (fun _ => true) held n 38 ((List.drop 2 [d0, d1, d2, d3, d4, d5, d6, d7, d8, d9, d10, d11]).take (Tryz.prog.cellsOf 38)) = some x2 := hf 2 _ rfl
    have h3 : DataW.trod enc Tryz.prog w base (fun _ => true) held n 39 ((List.drop 10 [d0, d1, d2, d3, d4, d5, d6, d7, d8, d9, d10, d11]).take (Tryz.prog.cellsOf 39)) = some x3 := hf 3 _ rfl
    have h4 : DataW.trod enc Tryz.prog w base (fun _ => true) held n 3 ((List.drop 11 [d0, d1, d2, d3, d4, d5, d6, d7, d8, d9, d10, d11]).take (Tryz.prog.cellsOf 3)) = some x4 := hf 4 _ rfl
    rw [c32] at h0
    rw [c9] at h1
    rw [c38] at h2
    rw [c39] at h3
    rw [c3] at h4
    obtain ⟨k, hk, hx0, hwk⟩ := DataW.trod_int Tryz.underlying32 h0
    obtain ⟨nm, hnm, _, _⟩ := DataW.trod_string Tryz.underlying9 h1
    obtain ⟨n1, s1, n2, s2, n3, s3, n4, s4, hz⟩ := open_gauss h2
    obtain ⟨A, c, l, hw, hr⟩ := open_word h3
    obtain ⟨ct, hct, hx4, hwc⟩ := DataW.trod_int Tryz.underlying3 h4
    simp only [List.drop, List.take, List.cons.injEq, and_true] at hk hnm hz hw hct
    subst hk hnm hw hct
    obtain ⟨rfl, rfl, rfl, rfl, rfl, rfl, rfl, rfl⟩ := hz
    exact ⟨(A, c, ⟨k, nm, n1, s1, n2, s2, n3, s3, n4, s4, l, ct⟩), rfl, ⟨bounds64 hwk, bounds64 hwc, hr⟩⟩
set_option maxRecDepth 100000 in
/-- arguments -/
theorem open_args {cs : List Value} {x : DataW H × List MemPlace} (h : DataW.trod enc Tryz.prog w base (fun _ => true) held fuel 23 cs = some x) :
    ∃ (A : Option Addr) (c : Nat) (rs : List ARow), cs = [.slice A rs.length c] ∧ rs.length ≤ c ∧ c ≤ maxLen ∧ ReadsA w w.heap.size A rs := by
  rcases open_slice Tryz.underlying23 h with ⟨hcs, hx⟩ | ⟨a, len, cap, m, n, D, Pl, hcs, hb, hl, hm, hmm, hx, hall⟩
  · exact ⟨none, 0, [], hcs, Nat.le_refl _, by decide, ⟨⟨rfl, fun h => absurd h (by decide)⟩, fun r hr => by cases hr⟩⟩
  · simp only [if_true] at hmm
    subst hmm
    rw [c41] at hall
    have each : ∀ i, i < m → ∃ r : ARow, w.cells? base (a.add (i * 12)) 12 = some (acs r) ∧ ArgR w w.heap.size r := fun i hi => by
      obtain ⟨cs', h1, h2⟩ := hall i hi
      obtain ⟨r, rfl, hr⟩ := open_argE h2
      exact ⟨r, h1, hr⟩
    obtain ⟨r, hr⟩ := choose_lt each
    refine ⟨some a, m, (List.range len).map r, by rw [List.length_map, List.length_range]; exact hcs, by rw [List.length_map, List.length_range]; exact hl, hm, ⟨by rw [flat_len], fun hn => ⟨a, rfl, ?_, fun j u hu => ?_⟩⟩, fun x hx => ?_⟩
    · rw [List.length_map, List.length_range] at hn
      obtain ⟨_, _, hcell⟩ := World.cells?_some (hr 0 (by omega)).1
      have h0 := hcell 0 (by decide)
      have h1 : w.cell? ((a.add (0 * 12)).add 0) = some (.int .i64 (r 0).2.2.k) := h0
      have := block_lt_of_cell h1
      rwa [block_of_add, block_of_add] at this
    · have hj := (List.getElem?_eq_some_iff.1 hu).1
      rw [flat_len, List.length_map, List.length_range] at hj
      have hq : j / 12 < len := by omega
      have e : j = 12 * (j / 12) + j % 12 := (Nat.div_add_mod j 12).symm
      have hg := acs_get ((List.range len).map r) (j / 12) (by simpa using hq) (j % 12) (Nat.mod_lt _ (by decide))
      rw [← e, hu] at hg
      rw [List.getElem_map, List.getElem_range] at hg
      obtain ⟨_, _, hcell⟩ := World.cells?_some (hr (j / 12) (by omega)).1
      have h0 := hcell (j % 12) (Nat.mod_lt _ (by decide))
      rw [← hg, add_of_add] at h0
      rw [← h0]
      congr 2
      omega
    · obtain ⟨i, hi, rfl⟩ := List.mem_map.1 hx
      exact (hr i (by have := List.mem_range.1 hi; omega)).2
set_option maxRecDepth 100000 in
/-- a statement's cells -/
theorem open_stmtE {cs : List Value} {x : DataW H × List MemPlace} (h : DataW.trod enc Tryz.prog w base (fun _ => true) held fuel 25 cs = some x) : ∃ s : StR, cs = s.cells.toList ∧ s.rs.length ≤ s.c ∧ s.c ≤ maxLen ∧ ReadsA w w.heap.size s.A s.rs := by
  obtain ⟨xs, n, _, rfl, hl, hx, hf⟩ := DataW.trod_struct Tryz.underlying25 h
  rw [c25] at hl
  match cs, hl, xs, hx with
  | [d0, d1, d2], _, [x0, x1, x2], _ =>
    have h0 : DataW.trod enc Tryz.prog w base (fun _ => true) held n 9 ((List.drop 0 [d0, d1, d2]).take (Tryz.prog.cellsOf 9)) = some x0 := hf 0 _ rfl
    have h1 : DataW.trod enc Tryz.prog w base (fun _ => true) held n 9 ((List.drop 1 [d0, d1, d2]).take (Tryz.prog.cellsOf 9)) = some x1 := hf 1 _ rfl
    have h2 : DataW.trod enc Tryz.prog w base (fun _ => true) held n 23 ((List.drop 2 [d0, d1, d2]).take (Tryz.prog.cellsOf 23)) = some x2 := hf 2 _ rfl
    rw [c9] at h0 h1
    rw [c23] at h2
    obtain ⟨v, hv, _, _⟩ := DataW.trod_string Tryz.underlying9 h0
    obtain ⟨nm, hnm, _, _⟩ := DataW.trod_string Tryz.underlying9 h1
    obtain ⟨A, c, rs, hw, hc1, hc2, hr⟩ := open_args h2
    simp only [List.drop, List.take, List.cons.injEq, and_true] at hv hnm hw
    subst hv hnm hw
    exact ⟨⟨v, nm, A, c, rs⟩, rfl, hc1, hc2, hr⟩
set_option maxRecDepth 100000 in
/-- a statement -/
theorem open_stmt {v : Value} {d : DataW H} {p : List MemPlace} {b0 : Nat} (hval : Value.okWide Tryz.prog w .any b0 25 v) (h : DataW.Trod enc Tryz.prog w 0 (fun _ => true) true 25 v d p) :
    ∃ s : StR, v = .agg s.cells ∧ s.rs.length ≤ s.c ∧ s.c ≤ maxLen ∧ ReadsA w w.heap.size s.A s.rs := by
  obtain ⟨cs, rfl, hsz⟩ := okWide_struct Tryz.underlying25 hval
  obtain ⟨fuel, hf⟩ := h
  obtain ⟨s, hcs, h1, h2, h3⟩ := open_stmtE hf
  have ecs : cs = s.cells := by
    have : cs.toList = s.cells.toList := hcs
    rw [← Array.toArray_toList (xs := cs), this]
  exact ⟨s, by rw [ecs], h1, h2, h3⟩
end
end Go.Proofs.YtebpggfccljagaaGreatDoor.Laid

/- What the rows of the script's laws list, opened; a world for the witness. -/
namespace Go.Proofs.YtebpggfccljagaaGreatDoor.Laid
open Go.ChangeShapes Go.WideShapes Go.ChangeAt Go.RowKit
open Wh
set_option linter.unusedSimpArgs false
set_option linter.unusedVariables false

theorem gTab : Tryz.prog.globalNamed "internal/strconv.uint64pow10" = some 1 := by kernel_rfl
theorem gTabType : (Tryz.prog.globals[1]?).map (·.type) = some 201 := by kernel_rfl
theorem cells201 : Tryz.prog.cellsOf 201 = 20 := by kernel_rfl
theorem cells161 : Tryz.prog.cellsOf 161 = 1 := by kernel_rfl
theorem pow10_is : Rows.laid_internal_strconv_uint64pow10 (H := Unit) = Lib.tabData .u64 Lib.pow10Tab := by kernel_rfl
def L5 : List (String × DataW Unit) := [("math/bits.deBruijn32tab", Rows.laid_math_bits_deBruijn32tab), ("math/bits.deBruijn64tab", Rows.laid_math_bits_deBruijn64tab), ("internal/strconv.uint64pow10", Rows.laid_internal_strconv_uint64pow10), ("unicode/utf8.acceptRanges", Rows.laid_unicode_utf8_acceptRanges), ("unicode/utf8.first", Rows.laid_unicode_utf8_first)]
theorem gl5 {W : World} (h : laidMetH Tryz.prog L5 W) (hsh : W.ShapedOpen Tryz.prog) : Gl W.heap.size W := by
  have h1 := h.filter (fun x => x.1 == "internal/strconv.uint64pow10")
  have e : L5.filter (fun x => x.1 == "internal/strconv.uint64pow10") = [("internal/strconv.uint64pow10", Lib.tabData .u64 Lib.pow10Tab)] := by
    rw [← pow10_is]
    rfl
  rw [e, Go.MakeChecks.laidMetH_plain _ _ _ (by kernel_rfl)] at h1
  have ht : Lib.TabIs Tryz.prog W "internal/strconv.uint64pow10" .u64 Lib.pow10Tab := Lib.tabIs_of_head (rest := []) gTab gTabType Tryz.underlying201 Tryz.underlying161 cells161 cells201 h1
  exact ⟨Lib.tabBelow_of_tabIs ht, cell_of_shapedOpen_int (P := Tryz.prog) (g := 0) (t := 3) (zero := #[.int .i64 0]) hsh (of_decide_eq_true (by kernel_rfl)) (by kernel_rfl) rfl (by kernel_rfl) (by kernel_rfl) Tryz.underlying3, Nat.le_refl _⟩
def numArr (l : List Nat) : Array Value := (l.map fun (n : Nat) => Value.int .u8 (Int.ofNat n)).toArray
def tabFirst : Array Value := numArr Go.Pinned.utf8FirstZ
def rangesOf (d : DataW Unit) : List Value := match d with
  | .agg l => l.flatMap fun x => match x with
    | .agg r => r.map fun y => match y with
      | .lit (.int k n) => Value.int k n
      | _ => Value.int .u8 0
    | _ => []
  | _ => []
def tabRanges : Array Value := (rangesOf Rows.laid_unicode_utf8_acceptRanges).toArray
def tab32 : Array Value := #[0, 1, 28, 2, 29, 14, 24, 3, 30, 22, 20, 15, 25, 17, 4, 8, 31, 27, 13, 23, 21, 19, 16, 7, 26, 12, 18, 6, 11, 5, 10, 9].map (Value.int .u8)
def tab64 : Array Value := #[0, 1, 56, 2, 57, 49, 28, 3, 61, 58, 42, 50, 38, 29, 17, 4, 62, 47, 59, 36, 45, 43, 51, 22, 53, 39, 33, 30, 24, 18, 12, 5, 63, 55, 48, 27, 60, 41, 37, 16, 46, 35, 44, 21, 52, 32, 23, 11, 54, 26, 40, 15, 34, 20, 31, 10, 25, 14, 19, 9, 13, 8, 7, 6].map (Value.int .u8)
def tabPow : Array Value := ((List.range 20).map fun i => Value.int .u64 ((10 ^ i : Nat) : Int)).toArray
def put (g : Nat) (cs : Array Value) (h : Array Obj) : Array Obj := h.modify g (fun o => match o with | .cells _ t frozen => .cells cs t frozen | o => o)
noncomputable def laidWorld (os : Os) : World :=
  { World.holding Tryz.prog os ⟨#[], #[], []⟩ with heap := put 1 tabPow (put 2 tabFirst (put 3 tabRanges (put 4 tab32 (put 5 tab64 (World.holding Tryz.prog os ⟨#[], #[], []⟩).heap)))) }
end Go.Proofs.YtebpggfccljagaaGreatDoor.Laid

/- law30.ScriptLine. -/
namespace Go.Proofs.YtebpggfccljagaaGreatDoor
open Go.RowKit
open Wh
set_option linter.unusedSimpArgs false
set_option linter.unusedVariables false

/-- a statement in a box of its own -/
theorem ReadsA.calm {w w' : World} {B : Nat} {A : Option Addr} {rs : List ARow} (h : ReadsA w B A rs) (hB : B ≤ w.heap.size) (hb : Below w.heap.size w w') : ReadsA w' w'.heap.size A rs := ((h.more hB).below hb).more hb.size
/-- the boxes of the law's two statements -/
structure LnS (w wr : World) (v nm v2 nm2 : ByteArray) (A A2 : Option Addr) (n c n2 c2 : Nat) : Prop where
  x : Blk wr w.heap.size 25 #[.string v, .string nm, .slice A n c]
  y : Blk wr (w.heap.size + 1) 25 #[.string v2, .string nm2, .slice A2 n2 c2]
  b : Below w.heap.size w wr
theorem LnS.below {w wr w' : World} {v nm v2 nm2 : ByteArray} {A A2 : Option Addr} {n c n2 c2 : Nat} (h : LnS w wr v nm v2 nm2 A A2 n c n2 c2) (hb : Below wr.heap.size wr w') : LnS w w' v nm v2 nm2 A A2 n c n2 c2 :=
  ⟨h.x.below hb h.x.lt, h.y.below hb h.y.lt, h.b.trans (hb.mono h.b.size)⟩
/-- whether two are the same, by both -/
theorem same_two {W0 : World} {s t : StR} (hs : ReadsA W0 W0.heap.size s.A s.rs) (ht : ReadsA W0 W0.heap.size t.A t.rs) (hf : s.p.fit) (hf2 : t.p.fit) :
    ∃ b : Bool, (b = true ↔ s.p = t.p) ∧ (∀ W, Below W0.heap.size W0 W → Calls Tryz.prog 11 #[.agg s.cells, .agg t.cells] W (fun e w' => e = .returned (.bool b) ∧ Below W.heap.size W w')) ∧
      (∀ W, Below W0.heap.size W0 W → Calls Tryz.prog 18 #[.agg s.cells, .agg t.cells] W (fun e w' => e = .returned (.bool b) ∧ Below W.heap.size W w')) := by
  obtain ⟨b, hb⟩ := ex_b (s.p = t.p)
  exact ⟨b, hb, fun W hw => sst_any (hs.calm (Nat.le_refl _) hw) (ht.calm (Nat.le_refl _) hw) (Nat.le_refl _) hf hf2 hb, fun W hw => sms_any (hs.calm (Nat.le_refl _) hw) (ht.calm (Nat.le_refl _) hw) (Nat.le_refl _) hf hf2 hb⟩
end Go.Proofs.YtebpggfccljagaaGreatDoor

/- Rows of statements that are read. -/
namespace Go.Proofs.YtebpggfccljagaaGreatDoor
open Go.RowKit
open Wh
set_option linter.unusedSimpArgs false
set_option linter.unusedVariables false

def scs (s : StR) : List Value := [.string s.v, .string s.nm, .slice s.A s.rs.length s.c]
/-- statements that are read -/
def ReadsT (w : World) (B : Nat) (A : Option Addr) (ss : List StR) : Prop := Reads w B 3 A ss.length (ss.flatMap scs) ∧ ∀ s ∈ ss, ReadsA w B s.A s.rs
theorem scs_get : ∀ (l : List StR) (k : Nat) (h : k < l.length) (j : Nat), j < 3 → (l.flatMap scs)[3 * k + j]? = (scs l[k])[j]?
  | x :: r, 0, _, j, hj => by
    rw [List.flatMap_cons, Nat.mul_zero, Nat.zero_add]
    exact List.getElem?_append_left (by show j < 3; exact hj)
  | x :: r, k + 1, h, j, hj => by
    rw [List.flatMap_cons, show 3 * (k + 1) + j = (scs x).length + (3 * k + j) by show _ = 3 + _; omega, List.getElem?_append_right (by omega), Nat.add_sub_cancel_left]
    exact scs_get r k (by simpa using h) j hj
theorem scs_len : ∀ l : List StR, (l.flatMap scs).length = l.length * 3
  | [] => rfl
  | x :: r => by rw [List.flatMap_cons, List.length_append, scs_len r, List.length_cons]; show 3 + _ = _; omega
theorem ReadsT.at_ {w : World} {B : Nat} {A : Option Addr} {ss : List StR} (h : ReadsT w B A ss) {k : Nat} (hk : k < ss.length) :
    ∃ ad, A = some ad ∧ ad.block < B ∧ (∀ j u, j < 3 → (scs ss[k])[j]? = some u → w.cell? (if j = 0 then ad.add (k * 3) else ⟨(ad.add (k * 3)).block, (ad.add (k * 3)).off + j, none⟩) = some u) ∧ ReadsA w B ss[k].A ss[k].rs := by
  obtain ⟨ad, e, hb, hc⟩ := h.1.2 (by omega)
  refine ⟨ad, e, hb, fun j u hj hu => ?_, h.2 _ (List.getElem_mem hk)⟩
  have h1 := scs_get ss k hk j hj
  rw [hu] at h1
  have h2 := hc _ _ h1
  by_cases h0 : j = 0
  · subst h0
    rw [if_pos rfl, Nat.mul_comm]; exact h2
  · rw [if_neg h0]
    rw [Nat.mul_comm, ← add_of_add, add_pos (by omega)] at h2
    exact h2
theorem ReadsT.cells {w : World} {B : Nat} {A : Option Addr} {ss : List StR} (h : ReadsT w B A ss) {k : Nat} (hk : k < ss.length) :
    ∃ ad, A = some ad ∧ ad.block < B ∧ (w.cell? (ad.add (k * 3)) = some (.string ss[k].v) ∧ w.cell? ⟨(ad.add (k * 3)).block, (ad.add (k * 3)).off + 1, none⟩ = some (.string ss[k].nm) ∧ w.cell? ⟨(ad.add (k * 3)).block, (ad.add (k * 3)).off + 2, none⟩ = some (.slice ss[k].A ss[k].rs.length ss[k].c)) ∧ ReadsA w B ss[k].A ss[k].rs := by
  obtain ⟨ad, e, hb, hc, ha⟩ := h.at_ hk
  exact ⟨ad, e, hb, ⟨hc 0 _ (by decide) rfl, hc 1 _ (by decide) rfl, hc 2 _ (by decide) rfl⟩, ha⟩
theorem ReadsT.more {w : World} {B B' : Nat} {A : Option Addr} {ss : List StR} (h : ReadsT w B A ss) (hB : B ≤ B') : ReadsT w B' A ss := ⟨h.1.more hB, fun s hs => (h.2 s hs).more hB⟩
theorem ReadsT.below {w w' : World} {B : Nat} {A : Option Addr} {ss : List StR} (h : ReadsT w B A ss) (hb : Below B w w') : ReadsT w' B A ss := ⟨h.1.below hb, fun s hs => (h.2 s hs).below hb⟩
theorem ReadsT.alloc {w : World} {B : Nat} {A : Option Addr} {ss : List StR} (h : ReadsT w B A ss) (hB : B ≤ w.heap.size) (o : Obj) : ReadsT (w.alloc o) B A ss := ⟨h.1.alloc hB o, fun s hs => (h.2 s hs).alloc hB o⟩
theorem ReadsT.calm {w w' : World} {B : Nat} {A : Option Addr} {ss : List StR} (h : ReadsT w B A ss) (hB : B ≤ w.heap.size) (hb : Below w.heap.size w w') : ReadsT w' w'.heap.size A ss := ((h.more hB).below hb).more hb.size
set_option maxRecDepth 100000 in
set_option maxHeartbeats 4000000 in
/-- law30.large -/
theorem large_any {w : World} {B : Nat} {A : Option Addr} {n c : Nat} {ss : List StR} (hr : ReadsT w B A ss) (hB : B ≤ w.heap.size) (hn : n = ss.length) :
    Calls Tryz.prog 24 #[.slice A n c] w (VastOut w (ss.length ≤ 40 ∧ ∀ s ∈ ss, s.p.small)) := by
  have Hr := Lib.hid (fun W (hb : Below w.heap.size w W) => hr.calm hB hb)
  have Hn := Lib.hid hn
  clear hr hB hn
  by_cases h0 : 40 < (n : Int)
  · go_enter Tryz.func24, Tryz.ntmps24
    go_wp2_with fail
    go_ret
    exact vast_yes (Below.refl _ _)
  have H40 := Lib.hid (show ss.length ≤ 40 by have := Hn.out; omega)
  go_enter Tryz.func24, Tryz.ntmps24
  go_wp2_with fail
  go_loopg [3] n (fun k iv wr => ∃ (i : Nat), iv = .int .i64 (i : Int) ∧ k = n - i ∧ i ≤ n ∧ Hid (∀ s ∈ ss.take i, s.p.small) ∧ Hid (Below w.heap.size w wr))
  case atStart => exact ⟨0, rfl, by omega, by omega, Lib.hid (by simp), Lib.hid (Below.refl _ _)⟩
  case round =>
    obtain ⟨i, rfl, hk, hi, htk, hO⟩ := hrel
    have Hk := Lib.hid hk
    clear hk
    by_cases hin : i < n
    · have hil : i < ss.length := by rw [← Hn.out]; omega
      obtain ⟨ad, rfl, hb1, ⟨c0, c1, c2⟩, ha⟩ := (Hr.out _ hO.out).cells hil
      have hii : (i : Int) < (n : Int) := by omega
      have hi0 : (0 : Int) ≤ (i : Int) := by omega
      have hi6 : (i : Int) ≤ 40 := by have := H40.out; omega
      have Hnext := Lib.hid (fun (h : ss[i].p.small) => show ∀ r ∈ ss.take (i + 1), r.p.small by
        intro r hr
        rw [List.take_succ_eq_append_getElem hil] at hr
        rcases List.mem_append.1 hr with h2 | h2
        · exact htk.out r h2
        · rw [List.mem_singleton.1 h2]; exact h)
      have HV := Lib.hid (vast_any ha (Nat.le_refl _))
      unfold StR.cells at HV
      clear ha hb1
      generalize ss[i] = s at *
      obtain ⟨v, nm, A1, c1', rs⟩ := s
      simp only at c0 c1 c2 HV
      clear hil
      go_wp2_with fail
      refine HV.out.mono ?_
      rintro _ W2 ⟨b2, rfl, hv2, hb2⟩
      have hO2 := Lib.hid (hO.out.trans (hb2.mono hO.out.size))
      cases b2
      · have Hs := Lib.hid (hv2 rfl)
        clear hv2 hb2 c0 c1 c2
        go_wp2_with fail
        go_roundg (n - (i + 1))
        case measure => have := Hk.out; omega
        case rel => exact ⟨i + 1, rfl, rfl, by omega, Lib.hid (Hnext.out Hs.out), hO2⟩
      · clear hv2 hb2 c0 c1 c2
        go_wp2_with fail
        go_ret
        exact vast_yes hO2.out
    · have hii : ¬ (i : Int) < (n : Int) := by omega
      have Hall := Lib.hid (show ∀ s ∈ ss, s.p.small by
        have h := htk.out
        rwa [List.take_of_length_le (by have := Hn.out; omega)] at h)
      go_wp2_with fail
      go_ret
      exact ⟨false, rfl, fun _ => ⟨H40.out, Hall.out⟩, hO.out⟩
end Go.Proofs.YtebpggfccljagaaGreatDoor

/- ref30.Text. -/
namespace Go.Proofs.YtebpggfccljagaaGreatDoor
open Go.RowKit
open Wh
set_option linter.unusedSimpArgs false
set_option linter.unusedVariables false

/-- the text of statements -/
def linesT (ps : List StP) : List UInt8 := ps.flatMap (fun p => lineT p ++ [10])
/-- what Text says: the text, or the first that may not be -/
def TxtSays (ps : List StP) (X : List UInt8) (n : Nat) (z : Int) : Prop :=
  ((∀ p ∈ ps, p.ok) ∧ X = linesT ps ∧ n = ps.length ∧ z = 0) ∨ (∃ h : n < ps.length, ¬ ps[n].ok ∧ (∀ p ∈ ps.take n, p.ok) ∧ X = [] ∧ z = 2)
theorem TxtSays.uniq {ps : List StP} {X Y : List UInt8} {n m : Nat} {z y : Int} (h : TxtSays ps X n z) (h' : TxtSays ps Y m y) : X = Y ∧ n = m ∧ z = y := by
  have hin : ∀ {a b : Nat} (ha : a < ps.length), a < b → ps[a] ∈ ps.take b := fun {a b} ha hab => by
    rw [List.mem_take_iff_getElem]
    exact ⟨a, by omega, rfl⟩
  rcases h with ⟨h1, rfl, rfl, rfl⟩ | ⟨h0, h1, h2, rfl, rfl⟩
  · rcases h' with ⟨_, rfl, rfl, rfl⟩ | ⟨k0, k1, _⟩
    · exact ⟨rfl, rfl, rfl⟩
    · exact absurd (h1 _ (List.getElem_mem k0)) k1
  · rcases h' with ⟨k1, _⟩ | ⟨k0, k1, k2, rfl, rfl⟩
    · exact absurd (k1 _ (List.getElem_mem h0)) h1
    · rcases Nat.lt_trichotomy n m with hnm | hnm | hnm
      · exact absurd (k2 _ (hin h0 hnm)) h1
      · exact ⟨rfl, hnm, rfl⟩
      · exact absurd (h2 _ (hin k0 hnm)) k1
end Go.Proofs.YtebpggfccljagaaGreatDoor

/- script.Names. -/
namespace Go.Proofs.YtebpggfccljagaaGreatDoor
open Go.RowKit
open Wh
set_option linter.unusedSimpArgs false
set_option linter.unusedVariables false

end Go.Proofs.YtebpggfccljagaaGreatDoor

/- ref30.at. -/
namespace Go.Proofs.YtebpggfccljagaaGreatDoor
open Go.RowKit
open Wh
set_option linter.unusedSimpArgs false
set_option linter.unusedVariables false

/-- where a name first stands, among the first b -/
def atP (ps : List StP) (x : List UInt8) (b : Nat) : Option Nat := (ps.take b).findIdx? (fun p => p.nm.data.toList == x)
theorem atP_hit {ps : List StP} {x : List UInt8} {b i : Nat} (hb : i < b) (hi : i < ps.length) (h : ps[i].nm.data.toList = x) (hn : ∀ j (hj : j < ps.length), j < i → ps[j].nm.data.toList ≠ x) : atP ps x b = some i := by
  unfold atP
  rw [List.findIdx?_eq_some_iff_getElem]
  refine ⟨by rw [List.length_take]; omega, ?_, fun j hj => ?_⟩
  · rw [List.getElem_take]; simpa using h
  · rw [List.getElem_take]
    simpa using hn j (by omega) hj
theorem atP_miss {ps : List StP} {x : List UInt8} {b : Nat} (hn : ∀ j (hj : j < ps.length), j < b → ps[j].nm.data.toList ≠ x) : atP ps x b = none := by
  unfold atP
  rw [List.findIdx?_eq_none_iff]
  intro p hp
  obtain ⟨j, hj, rfl⟩ := List.mem_iff_getElem.1 hp
  rw [List.length_take] at hj
  rw [List.getElem_take]
  simpa using hn j (by omega) (by omega)
end Go.Proofs.YtebpggfccljagaaGreatDoor

/- What Order says: plain. -/
namespace Go.Proofs.YtebpggfccljagaaGreatDoor
open Go.RowKit
open Wh
set_option linter.unusedSimpArgs false
set_option linter.unusedVariables false

/-- a statement stands where it may: its name is new, and the names that it uses are there -/
def Stands (ps : List StP) (i : Nat) : Prop := ∀ p, ps[i]? = some p → (p.nm.data.toList ≠ [] → atP ps p.nm.data.toList i = none) ∧ (∀ x ∈ p.xs, x.k = 1 → atP ps x.nm.data.toList i ≠ none)
/-- what Order says -/
def OrdSays (ps : List StP) (n : Nat) (z : Int) : Prop :=
  (∃ h : n < ps.length, ¬ ps[n].ok ∧ (∀ p ∈ ps.take n, p.ok) ∧ z = 2) ∨ ((∀ p ∈ ps, p.ok) ∧ n < ps.length ∧ ¬ Stands ps n ∧ (∀ j, j < n → Stands ps j) ∧ z = 401) ∨ ((∀ p ∈ ps, p.ok) ∧ (∀ j, j < ps.length → Stands ps j) ∧ n = ps.length ∧ z = 0)
theorem OrdSays.uniq {ps : List StP} {n m : Nat} {z y : Int} (h : OrdSays ps n z) (h' : OrdSays ps m y) : n = m ∧ z = y := by
  have hin : ∀ {a b : Nat} (ha : a < ps.length), a < b → ps[a] ∈ ps.take b := fun {a b} ha hab => by
    rw [List.mem_take_iff_getElem]
    exact ⟨a, by omega, rfl⟩
  rcases h with ⟨h0, h1, h2, rfl⟩ | ⟨ha, h0, h1, h2, rfl⟩ | ⟨ha, h1, rfl, rfl⟩
  · rcases h' with ⟨k0, k1, k2, rfl⟩ | ⟨ka, _⟩ | ⟨ka, _⟩
    · rcases Nat.lt_trichotomy n m with hnm | hnm | hnm
      · exact absurd (k2 _ (hin h0 hnm)) h1
      · exact ⟨hnm, rfl⟩
      · exact absurd (h2 _ (hin k0 hnm)) k1
    · exact absurd (ka _ (List.getElem_mem h0)) h1
    · exact absurd (ka _ (List.getElem_mem h0)) h1
  · rcases h' with ⟨k0, k1, _⟩ | ⟨_, k0, k1, k2, rfl⟩ | ⟨_, k1, rfl, rfl⟩
    · exact absurd (ha _ (List.getElem_mem k0)) k1
    · rcases Nat.lt_trichotomy n m with hnm | hnm | hnm
      · exact absurd (k2 n hnm) h1
      · exact ⟨hnm, rfl⟩
      · exact absurd (h2 m hnm) k1
    · exact absurd (k1 n h0) h1
  · rcases h' with ⟨k0, k1, _⟩ | ⟨_, k0, k1, k2, rfl⟩ | ⟨_, k1, rfl, rfl⟩
    · exact absurd (ha _ (List.getElem_mem k0)) k1
    · exact absurd (h1 m k0) k1
    · exact ⟨rfl, rfl⟩
end Go.Proofs.YtebpggfccljagaaGreatDoor

/- The map of the names: plain. -/
namespace Go.Proofs.YtebpggfccljagaaGreatDoor
open Go.RowKit Go.ChangeShapes Go.Maps
open Wh
set_option linter.unusedSimpArgs false
set_option linter.unusedVariables false

theorem atP_step {ps : List StP} {x : List UInt8} {i : Nat} (hi : i < ps.length) : atP ps x (i + 1) = (match atP ps x i with | some k => some k | none => if ps[i].nm.data.toList = x then some i else none) := by
  unfold atP
  rw [List.take_succ_eq_append_getElem hi, List.findIdx?_append]
  cases h : (ps.take i).findIdx? (fun p => p.nm.data.toList == x) with
  | some k => simp
  | none =>
    by_cases hx : ps[i].nm.data.toList = x
    · simp [hx, List.findIdx?_cons, List.length_take]; omega
    · simp [hx, List.findIdx?_cons]
/-- the names of the first i, with their places -/
def mapAt (ps : List StP) : Nat → DataW Unit
  | 0 => .map []
  | i + 1 => match ps[i]? with
    | some p => if p.nm.data.toList = [] then mapAt ps i else (mapAt ps i).put (.string p.nm.data.toList) (.lit (.int .i64 (i : Int)))
    | none => mapAt ps i
theorem mapAt_is (ps : List StP) : ∀ i, IsMap (mapAt ps i)
  | 0 => isMap_empty
  | i + 1 => by
    unfold mapAt
    split
    · split
      · exact mapAt_is ps i
      · exact (mapAt_is ps i).put _ _
    · exact mapAt_is ps i
/-- what the map says of a name -/
theorem mapAt_says {ps : List StP} {x : List UInt8} (hx : x ≠ []) : ∀ i, i ≤ ps.length → (∀ j, j < i → Stands ps j) → has (mapAt ps i) (.string x) = (atP ps x i).isSome ∧ (∀ k z, atP ps x i = some k → (mapAt ps i).atKey (.string x) z = .lit (.int .i64 (k : Int)))
  | 0, _, _ => ⟨by unfold mapAt atP; rfl, fun k z h => by unfold atP at h; simp at h⟩
  | i + 1, hi, hs => by
    have hi' : i < ps.length := by omega
    obtain ⟨h1, h2⟩ := mapAt_says hx i (by omega) (fun j hj => hs j (by omega))
    have hst := hs i (by omega) ps[i] (List.getElem?_eq_getElem hi')
    have hm : mapAt ps (i + 1) = if ps[i].nm.data.toList = [] then mapAt ps i else (mapAt ps i).put (.string ps[i].nm.data.toList) (.lit (.int .i64 (i : Int))) := by
      rw [mapAt, List.getElem?_eq_getElem hi']
    rw [hm, atP_step hi']
    by_cases he : ps[i].nm.data.toList = []
    · rw [if_pos he]
      have hne : ¬ ps[i].nm.data.toList = x := fun h => hx (h.symm.trans he)
      rw [if_neg hne]
      cases h : atP ps x i with
      | none => rw [h] at h1; exact ⟨h1, fun k z hk => by cases hk⟩
      | some k => rw [h] at h1; exact ⟨h1, fun k' z hk => by injection hk with hk; subst hk; exact h2 k z h⟩
    · rw [if_neg he]
      by_cases hn : ps[i].nm.data.toList = x
      · have h0 : atP ps x i = none := by rw [← hn]; exact hst.1 he
        rw [h0, hn]
        simp only [if_true]
        exact ⟨has_put_same (mapAt_is ps i) (show WideAt.IsKeyLit (.string x) from trivial) _, fun k z hk => by injection hk with hk; subst hk; exact atKey_put_same (mapAt_is ps i) (show WideAt.IsKeyLit (.string x) from trivial) _ _⟩
      · have hne : (Lit.string x) ≠ .string ps[i].nm.data.toList := fun h => hn (by injection h with h; exact h.symm)
        rw [if_neg hn, has_put_other hne]
        cases h : atP ps x i with
        | none => rw [h] at h1; exact ⟨h1, fun k z hk => by cases hk⟩
        | some k => rw [h] at h1; exact ⟨h1, fun k' z hk => by injection hk with hk; subst hk; rw [atKey_put_other hne]; exact h2 k z h⟩
end Go.Proofs.YtebpggfccljagaaGreatDoor

/- script.order. -/
namespace Go.Proofs.YtebpggfccljagaaGreatDoor
open Go.RowKit Go.ChangeShapes Go.Maps
open Wh
set_option linter.unusedSimpArgs false
set_option linter.unusedVariables false

theorem str_keyed : Keyed Tryz.prog 9 := string_keyed Tryz.underlying9
/-- the names' map of one's own -/
def MapOf (w : World) (B b : Nat) (ps : List StP) (i : Nat) : Prop := B ≤ b ∧ ∃ n, n ≤ i ∧ w.ownsMap Tryz.prog 9 (plainElem Tryz.prog 3) b n (mapAt ps i)
theorem MapOf.kept {w w' : World} {B b : Nat} {ps : List StP} {i : Nat} (h : MapOf w B b ps i) (hb : Below w.heap.size w w') : MapOf w' B b ps i := by
  obtain ⟨h0, n, h1, es, clock, h2, h3⟩ := h
  exact ⟨h0, n, h1, es, clock, (hb.block b (Array.getElem?_eq_some_iff.1 h2).1).trans h2, h3⟩
theorem ownsMap_below {w w' : World} {b n : Nat} {D : DataW Unit} (h : w.ownsMap Tryz.prog 9 (plainElem Tryz.prog 3) b n D) (hb : Below w.heap.size w w') : w'.ownsMap Tryz.prog 9 (plainElem Tryz.prog 3) b n D := by
  obtain ⟨es, clock, h2, h3⟩ := h
  exact ⟨es, clock, (hb.block b (Array.getElem?_eq_some_iff.1 h2).1).trans h2, h3⟩
theorem MapOf.made (w : World) (B : Nat) (hB : B ≤ w.heap.size) (ps : List StP) : MapOf (w.alloc (.map #[] 0)) B w.heap.size ps 0 :=
  ⟨hB, 0, Nat.le_refl _, World.ownsMap_made w _ _ _⟩
theorem MapOf.pass {w : World} {B b : Nat} {ps : List StP} {i : Nat} (h : MapOf w B b ps i) (hi : i < ps.length) (he : ps[i].nm.data.toList = []) : MapOf w B b ps (i + 1) := by
  obtain ⟨h0, n, h1, h2⟩ := h
  refine ⟨h0, n, by omega, ?_⟩
  rw [mapAt, List.getElem?_eq_getElem hi]
  simp only [he, if_true]
  exact h2
theorem wf_small {u : Nat} (h : (u : Int) ≤ 40) : (Lit.int .i64 (u : Int)).wf = true := by
  have h1 : u ≤ 40 := by omega
  have h2 : ∀ u : Fin 41, (Lit.int .i64 ((u.val : Nat) : Int)).wf = true := by decide
  exact h2 ⟨u, by omega⟩
def OrderOut (w : World) (ps : List StP) (e : Ending) (w' : World) : Prop :=
  (∃ (mv : Value) (m : Nat) (z : Int), e = .returned (.tuple #[mv, .int .i64 (m : Int), .int .i64 z]) ∧ OrdSays ps m z ∧ (z = 0 → ∃ b, mv = .map (some b) ∧ MapOf w' w.heap.size b ps ps.length)) ∧ Below w.heap.size w w'
set_option maxRecDepth 100000 in
set_option maxHeartbeats 8000000 in
/-- script.order -/
theorem order_any {w : World} {A : Option Addr} {n c : Nat} {ss : List StR} (hr : ReadsT w w.heap.size A ss) (hn : n = ss.length) (hl : ss.length ≤ 40) (hf : ∀ s ∈ ss, s.p.fit) :
    Calls Tryz.prog 60 #[.slice A n c] w (OrderOut w (ss.map StR.p)) := by
  have hmm := @run_makeMap Tryz.prog
  have Hr := Lib.hid (fun W (hb : Below w.heap.size w W) => hr.calm (Nat.le_refl _) hb)
  have Hn := Lib.hid (And.intro hn hl)
  have Hf := Lib.hid hf
  have hn4 : (n : Int) ≤ 40 := by omega
  have hn5 : ¬ (4096 : Int) < (n : Int) := by omega
  have Hlen := Lib.hid (show (ss.map StR.p).length = n by rw [List.length_map]; exact hn.symm)
  clear hr hn hl hf
  go_enter Tryz.func60, Tryz.ntmps60
  go_wp2_with fail
  go_loopg [5, 6, 7, 22] n (fun k i5 i6 i7 iv wr => ∃ (i : Nat), iv = .int .i64 (i : Int) ∧ k = n - i ∧ i ≤ n ∧ Hid (∀ p ∈ (ss.map StR.p).take i, p.ok) ∧ Hid (Below w.heap.size w wr))
  case atStart => exact ⟨0, rfl, by omega, by omega, Lib.hid (by simp), Lib.hid (Below.refl _ _)⟩
  case round =>
    obtain ⟨i, rfl, hk, hi, hI, hO⟩ := hrel
    have Hk := Lib.hid hk
    clear hk
    by_cases hin : i < n
    · have hil : i < ss.length := by rw [← Hn.out.1]; omega
      have hip : i < (ss.map StR.p).length := by rw [List.length_map]; exact hil
      obtain ⟨ad, rfl, hb1, ⟨c0, c1, c2⟩, ha⟩ := (Hr.out _ hO.out).cells hil
      have hii : (i : Int) < (n : Int) := by omega
      have hi0 : (0 : Int) ≤ (i : Int) := by omega
      have hi6 : (i : Int) ≤ 40 := by omega
      have Htk := Lib.hid (show (ss.map StR.p).take (i + 1) = (ss.map StR.p).take i ++ [ss[i].p] by rw [List.take_succ_eq_append_getElem hip, List.getElem_map])
      have Hgp := Lib.hid (show (ss.map StR.p)[i] = ss[i].p by rw [List.getElem_map])
      have Hfi := Lib.hid (Hf.out _ (List.getElem_mem hil))
      have ha2 := ha.alloc (Nat.le_refl _) (.cells ss[i].cells 25)
      have HO3 := Lib.hid (hO.out.alloc hO.out.size (.cells ss[i].cells 25))
      rcases Classical.em (ss[i].p.ok) with hok | hno
      · have HV := Lib.hid (scheck_any (ha2.more (by simp)) (Nat.le_refl _) Hfi.out (b := true) ⟨fun _ => hok, fun _ => rfl⟩)
        have Hok := Lib.hid hok
        unfold StR.cells at HV HO3
        simp only [if_true] at HV
        clear ha hb1 hok ha2
        generalize ss[i] = s at *
        obtain ⟨v, nm, A1, c1', rs⟩ := s
        simp only at c0 c1 c2 HV HO3
        clear hil hip Hgp
        go_wp2_with fail
        refine HV.out.mono ?_
        rintro _ W2 ⟨rfl, hb2⟩
        have hO2 := Lib.hid (HO3.out.trans (hb2.mono HO3.out.size))
        clear hb2 c0 c1 c2
        go_wp2_with fail
        go_roundg (n - (i + 1))
        case measure => have := Hk.out; omega
        case rel =>
          refine ⟨i + 1, rfl, rfl, by omega, Lib.hid fun p hp => ?_, hO2⟩
          rw [Htk.out] at hp
          rcases List.mem_append.1 hp with h | h
          · exact hI.out p h
          · rw [List.mem_singleton.1 h]; exact Hok.out
      · have HV := Lib.hid (scheck_any (ha2.more (by simp)) (Nat.le_refl _) Hfi.out (b := false) ⟨fun h => (by cases h), fun h => absurd h hno⟩)
        have Hout := Lib.hid (show OrdSays (ss.map StR.p) i 2 from .inl ⟨hip, by rw [Hgp.out]; exact hno, hI.out, rfl⟩)
        unfold StR.cells at HV HO3
        simp only [Bool.false_eq_true, if_false] at HV
        clear ha hb1 hno Hgp ha2
        generalize ss[i] = s at *
        obtain ⟨v, nm, A1, c1', rs⟩ := s
        simp only at c0 c1 c2 HV HO3
        clear hil hip
        go_wp2_with fail
        refine HV.out.mono ?_
        rintro _ W2 ⟨rfl, hb2⟩
        have hO2 := Lib.hid (HO3.out.trans (hb2.mono HO3.out.size))
        clear hb2 c0 c1 c2
        go_wp2_with fail
        refine bodyPost_ret (v := .tuple #[.map none, .int .i64 (i : Int), .int .i64 2]) (by simp [results, Tryz.results60, go_sem]) rfl ?_
        exact ⟨⟨.map none, i, 2, rfl, Hout.out, fun h => by cases h⟩, hO2.out⟩
    · have hii : ¬ (i : Int) < (n : Int) := by omega
      have HOk := Lib.hid (show ∀ p ∈ ss.map StR.p, p.ok by
        have h := hI.out
        rwa [List.take_of_length_le (by have := Hlen.out; omega)] at h)
      have HM0 := Lib.hid (And.intro (hO.out.alloc hO.out.size (.map #[] 0)) (MapOf.made wr w.heap.size hO.out.size (ss.map StR.p)))
      go_wp2_with fail
      generalize wr.heap.size = b at *
      go_loopg [9, 10, 11, 12, 14, 15, 16, 37, 52] n (fun k i9 i10 i11 i12 i14 i15 i16 iv i52 wq => ∃ (u : Nat), iv = .int .i64 (u : Int) ∧ k = n - u ∧ u ≤ n ∧ Hid (∀ j, j < u → Stands (ss.map StR.p) j) ∧ Hid (Below w.heap.size w wq ∧ MapOf wq w.heap.size b (ss.map StR.p) u))
      case atStart => exact ⟨0, rfl, by omega, by omega, Lib.hid (fun j h => by omega), HM0⟩
      case round =>
        clear hI hO Hk hi hin hii
        obtain ⟨u, rfl, hk, hi, hI, hO⟩ := hrel
        have Hk := Lib.hid hk
        clear hk
        by_cases hin : u < n
        · have hil : u < ss.length := by rw [← Hn.out.1]; omega
          obtain ⟨ad, rfl, hb1, ⟨c0, c1, c2⟩, ha⟩ := (Hr.out _ hO.out.1).cells hil
          have hii : (u : Int) < (n : Int) := by omega
          have hi0 : (0 : Int) ≤ (u : Int) := by omega
          have hi6 : (u : Int) ≤ 40 := by omega
          have Hgp := Lib.hid (show (ss.map StR.p)[u]? = some ss[u].p by rw [List.getElem?_map, List.getElem?_eq_getElem hil]; rfl)
          have Hfi := Lib.hid (Hf.out _ (List.getElem_mem hil))
          have Hha := Lib.hid ha
          clear ha hb1
          generalize ss[u] = s at *
          obtain ⟨v, nm, A1, c1', rs⟩ := s
          simp only at c0 c1 c2 Hha
          clear hil
          obtain ⟨hbb, N, hNu, hM⟩ := hO.out.2
          have HM3 := Lib.hid (hM.alloc (.cells #[.string v, .string nm, .slice A1 rs.length c1'] 25))
          have HB3 := Lib.hid (hO.out.1.alloc hO.out.1.size (.cells #[.string v, .string nm, .slice A1 rs.length c1'] 25))
          have hkey : keyOf Tryz.prog 9 (.string nm) = some (.string nm.data.toList) := Go.WideMaps.keyOf_string_mk Tryz.underlying9 (by have h : nm.size ≤ 1000000 := Hfi.out.nm; unfold maxLen; omega)
          clear hM
          go_wp2_with (at_lookup; refine wpList_lookup_own_ok_int _ rfl (.tmp 43) (.tmp 45) 104 rfl 9 3 .i64 str_keyed Tryz.underlying104 Tryz.underlying3 (by intros; first | exact Tryz.zeroValue3 _ | rfl) b N _ rfl HM3.out _ (.string nm.data.toList) rfl hkey ?_; intro c1x hat1 hwc1)
          generalize hT : has (mapAt (ss.map StR.p) u) (.string nm.data.toList) = tw at *
          have HT := Lib.hid hT
          have Hrl := Lib.hid (show rs.length ≤ 1000000 by have h : (rs.map (fun r : ARow => r.2.2)).length ≤ 1000000 := Hfi.out.len; rwa [List.length_map] at h)
          clear hT hat1 hwc1
          have HMs := Lib.hid (fun (x : List UInt8) (hx : x ≠ []) => mapAt_says (ps := ss.map StR.p) hx u (by have := Hlen.out; omega) hI.out)
          have hx0 := (Blk.new wr 25 #[.string v, .string nm, .slice A1 rs.length c1'])
          have hra := (Hha.out.alloc (Nat.le_refl _) (.cells #[.string v, .string nm, .slice A1 rs.length c1'] 25)).more (show wr.heap.size ≤ (wr.alloc (.cells #[.string v, .string nm, .slice A1 rs.length c1'] 25)).heap.size by simp)
          have Hx := Lib.hid (And.intro hx0 hra)
          clear Hha hx0 hra
          generalize hb25 : wr.heap.size = g25 at *
          generalize hW3 : wr.alloc (.cells #[.string v, .string nm, .slice A1 rs.length c1'] 25) = W3 at *
          clear hb25 hW3 c0 c1 c2
          go_loopg [14, 15, 16, 52] rs.length (fun kk i14 i15 i16 kv wq => ∃ (q : Nat), kv = .int .i64 (q : Int) ∧ kk = rs.length - q ∧ q ≤ rs.length ∧ Hid (∀ r ∈ rs.take q, r.2.2.k = 1 → atP (ss.map StR.p) r.2.2.nm.data.toList u ≠ none) ∧ Hid (Below W3.heap.size W3 wq))
          case atStart => exact ⟨0, rfl, by omega, by omega, Lib.hid (by simp), Lib.hid (Below.refl _ _)⟩
          case round =>
            obtain ⟨q, rfl, hk2, hq, hTk, hB⟩ := hrel
            have Hk2 := Lib.hid hk2
            clear hk2
            by_cases hqm : q < rs.length
            · have hqi : (q : Int) < (rs.length : Int) := by omega
              have hq0 : (0 : Int) ≤ (q : Int) := by omega
              have hq6 : (q : Int) ≤ 1000000 := by have := Hrl.out; omega
              obtain ⟨ad2, rfl, hb2, ⟨d0, d1, d2, d3, d4, d5, d6, d7, d8, d9, d10, d11⟩, ha2⟩ := (Hx.out.2.calm (Nat.le_refl _) hB.out).cells hqm
              have Hin := Lib.hid (List.getElem_mem hqm)
              have Htk := Lib.hid (List.take_succ_eq_append_getElem hqm)
              clear ha2 hb2
              generalize rs[q] = r at *
              clear hqm
              obtain ⟨Aw, cw, x⟩ := r
              simp only at d0 d1 d2 d3 d4 d5 d6 d7 d8 d9 d10 d11
              have HBa := Lib.hid (hB.out.alloc hB.out.size (.cells #[.int .i64 x.k, .string x.nm, .bool x.n0, .string x.s0, .bool x.n1, .string x.s1, .bool x.n2, .string x.s2, .bool x.n3, .string x.s3, .slice Aw x.wd.length cw, .int .i64 x.ct] 41))
              have HM4 := Lib.hid (ownsMap_below HM3.out HBa.out)
              have hkey2 : keyOf Tryz.prog 9 (.string x.nm) = some (.string x.nm.data.toList) := Go.WideMaps.keyOf_string_mk Tryz.underlying9 (by have h : x.nm.size ≤ 1000000 := (Hfi.out.all x (List.mem_map.2 ⟨_, Hin.out, rfl⟩)).nm; unfold maxLen; omega)
              have HBw := Lib.hid (HB3.out.trans (HBa.out.mono HB3.out.size))
              generalize hH : has (mapAt (ss.map StR.p) u) (.string x.nm.data.toList) = hv
              have HH := Lib.hid hH
              have hhas := hH
              clear hH
              by_cases hk1 : x.k = 1
              · have k1 : (x.k == 1) = true := by simp [hk1]
                rw [hk1] at HBa HM4 HBw
                have Hpm := Lib.hid (List.mem_of_getElem? Hgp.out)
                have Hxok := Lib.hid ((HOk.out _ Hpm.out).all x (List.mem_map.2 ⟨_, Hin.out, rfl⟩))
                have hxn : x.nm.data.toList ≠ [] := by
                  have h := Hxok.out
                  unfold ArgP.ok at h
                  rw [if_pos hk1] at h
                  obtain ⟨c, q, hl, _⟩ := named_head h.1
                  rw [hl]; simp
                have hms := (HMs.out _ hxn).1
                rw [HH.out] at hms
                have Hms := Lib.hid hms
                clear hms hxn
                cases hv with
                | false =>
                  have Hout := Lib.hid (show OrdSays (ss.map StR.p) u 401 from .inr (.inl ⟨HOk.out, by have := Hlen.out; omega, (fun hst => (hst _ Hgp.out).2 x (List.mem_map.2 ⟨_, Hin.out, rfl⟩) hk1 (by
                    have h := Hms.out
                    cases h2 : atP (ss.map StR.p) x.nm.data.toList u with
                    | none => rfl
                    | some z => rw [h2] at h; cases h)), hI.out, rfl⟩))
                  go_wp2_with (at_lookup; refine wpList_lookup_own_ok_int _ rfl (.tmp 57) (.tmp 59) 104 rfl 9 3 .i64 str_keyed Tryz.underlying104 Tryz.underlying3 (by intros; first | exact Tryz.zeroValue3 _ | rfl) b N _ rfl HM4.out _ (.string x.nm.data.toList) rfl hkey2 ?_; intro c2x hat2 hwc2; clear hat2 hwc2; rw [hhas])
                  refine bodyPost_ret (v := .tuple #[.map none, .int .i64 (u : Int), .int .i64 401]) (by simp [results, Tryz.results60, go_sem]) rfl ?_
                  exact ⟨⟨.map none, u, 401, rfl, Hout.out, fun h => by cases h⟩, HBw.out⟩
                | true =>
                  go_wp2_with (at_lookup; refine wpList_lookup_own_ok_int _ rfl (.tmp 57) (.tmp 59) 104 rfl 9 3 .i64 str_keyed Tryz.underlying104 Tryz.underlying3 (by intros; first | exact Tryz.zeroValue3 _ | rfl) b N _ rfl HM4.out _ (.string x.nm.data.toList) rfl hkey2 ?_; intro c2x hat2 hwc2; clear hat2 hwc2; rw [hhas])
                  go_roundg (rs.length - (q + 1))
                  case measure => have := Hk2.out; omega
                  case rel => exact ⟨q + 1, rfl, rfl, by omega, Lib.hid (fun r hr h1 => by
                    rw [Htk.out] at hr
                    rcases List.mem_append.1 hr with h | h
                    · exact hTk.out r h h1
                    · rw [List.mem_singleton.1 h]
                      show atP (ss.map StR.p) x.nm.data.toList u ≠ none
                      intro h2
                      have h3 := Hms.out
                      rw [h2] at h3
                      cases h3), HBa⟩
              · have k1 : (x.k == 1) = false := by simpa using hk1
                have Hk1 := Lib.hid hk1
                go_wp2_with (at_lookup; refine wpList_lookup_own_ok_int _ rfl (.tmp 57) (.tmp 59) 104 rfl 9 3 .i64 str_keyed Tryz.underlying104 Tryz.underlying3 (by intros; first | exact Tryz.zeroValue3 _ | rfl) b N _ rfl HM4.out _ (.string x.nm.data.toList) rfl hkey2 ?_; intro c2x hat2 hwc2; clear hat2 hwc2; rw [hhas])
                go_roundg (rs.length - (q + 1))
                case measure => have := Hk2.out; omega
                case rel => exact ⟨q + 1, rfl, rfl, by omega, Lib.hid (fun r hr h1 => by
                  rw [Htk.out] at hr
                  rcases List.mem_append.1 hr with h | h
                  · exact hTk.out r h h1
                  · rw [List.mem_singleton.1 h] at h1
                    exact absurd h1 Hk1.out), HBa⟩
            · have hqi : ¬ (q : Int) < (rs.length : Int) := by omega
              have HTs := Lib.hid (show ∀ x ∈ rs.map (fun r : ARow => r.2.2), x.k = 1 → atP (ss.map StR.p) x.nm.data.toList u ≠ none from fun x hx h1 => by
                obtain ⟨r, hr, rfl⟩ := List.mem_map.1 hx
                exact hTk.out r (by rw [List.take_of_length_le (by omega)]; exact hr) h1)
              have hxn1 := (Hx.out.1.below hB.out Hx.out.1.lt).cell 1
              rw [show (#[.string v, .string nm, .slice A1 rs.length c1'] : Array Value)[1]? = some (.string nm) from rfl] at hxn1
              have HM5 := Lib.hid (ownsMap_below HM3.out hB.out)
              have HBq := Lib.hid (HB3.out.trans (hB.out.mono HB3.out.size))
              have Hnext := Lib.hid (fun (hnm : nm.data.toList ≠ [] → atP (ss.map StR.p) nm.data.toList u = none) (j : Nat) (hj : j < u + 1) => show Stands (ss.map StR.p) j from by
                rcases Nat.lt_or_ge j u with h | h
                · exact hI.out j h
                · have e : j = u := by omega
                  rw [e]
                  intro p hp
                  rw [Hgp.out] at hp
                  injection hp with hp
                  subst hp
                  exact ⟨hnm, HTs.out⟩)
              have hbs := Lib.hid (And.intro hbb hNu)
              clear hB hTk Hx HM3 HB3 hq Hrl hqm Hk2
              by_cases hne : nm = ⟨#[]⟩
              · subst hne
                have Hmp := Lib.hid (show mapAt (ss.map StR.p) (u + 1) = mapAt (ss.map StR.p) u by rw [mapAt, Hgp.out]; rfl)
                go_wp2_with fail
                go_roundg (n - (u + 1))
                case measure => have := Hk.out; omega
                case rel => exact ⟨u + 1, rfl, rfl, by omega, Lib.hid (Hnext.out (fun h => absurd rfl h)), Lib.hid ⟨HBq.out, hbs.out.1, N, by have := hbs.out.2; omega, by rw [Hmp.out]; exact HM5.out⟩⟩
              · have x1 : ¬ nm.toList = [] := fun h => hne (tl_inj (by rw [h, ByteArray.toList_eq]))
                have x2 : (nm.toList == []) = false := by simpa using x1
                have x3 : nm.toList.isEmpty = false := by simpa using x1
                have Hx1 := Lib.hid (show nm.data.toList ≠ [] from fun h => hne (ByteArray.ext (Array.toList_inj.1 h)))
                have Hat := Lib.hid ((HMs.out _ Hx1.out).1.symm.trans HT.out)
                cases tw with
                | true =>
                  have Hout := Lib.hid (show OrdSays (ss.map StR.p) u 401 from .inr (.inl ⟨HOk.out, by have := Hlen.out; omega, (fun hst => by
                    have h1 := (hst _ Hgp.out).1 Hx1.out
                    have h2 := Hat.out
                    rw [show (StR.p ⟨v, nm, A1, c1', rs⟩).nm = nm from rfl] at h1
                    rw [h1] at h2
                    cases h2), hI.out, rfl⟩))
                  go_wp2_with fail
                  refine bodyPost_ret (v := .tuple #[.map none, .int .i64 (u : Int), .int .i64 401]) (by simp [results, Tryz.results60, go_sem]) rfl ?_
                  exact ⟨⟨.map none, u, 401, rfl, Hout.out, fun h => by cases h⟩, HBq.out⟩
                | false =>
                  have Hmp := Lib.hid (show mapAt (ss.map StR.p) (u + 1) = (mapAt (ss.map StR.p) u).put (.string nm.data.toList) (.lit (.int .i64 (u : Int))) by
                    rw [mapAt, Hgp.out]
                    exact if_neg Hx1.out)
                  have Hnn := Lib.hid (show atP (ss.map StR.p) nm.data.toList u = none by
                    have h := Hat.out
                    cases h2 : atP (ss.map StR.p) nm.data.toList u with
                    | none => rfl
                    | some z => rw [h2] at h; cases h)
                  have hNm : N < maxLen := by have := hbs.out.2; unfold maxLen; omega
                  have hwu : (Lit.int .i64 (u : Int)).wf = true := wf_small hi6
                  go_wp2_with (at_mapUpdate; refine wpList_mapUpdate_own _ rfl _ _ _ 104 rfl 9 3 str_keyed Tryz.underlying104 _ b N _ rfl HM5.out hNm _ _ (.string nm.data.toList) rfl rfl hkey _ [] (plainElem_int Tryz.underlying3 hwu) ?_; intro w1 hown1 hgrow1)
                  go_roundg (n - (u + 1))
                  case measure => have := Hk.out; omega
                  case rel => exact ⟨u + 1, rfl, rfl, by omega, Lib.hid (Hnext.out (fun _ => Hnn.out)), Lib.hid ⟨HBq.out.grown hgrow1 HBq.out.size (fun k hk => by injection hk with hk; rw [← hk]; exact hbs.out.1), hbs.out.1, N + 1, by have := hbs.out.2; omega, by rw [Hmp.out]; exact hown1⟩⟩
        · have hii : ¬ (u : Int) < (n : Int) := by omega
          have Hout := Lib.hid (show OrdSays (ss.map StR.p) n 0 from .inr (.inr ⟨HOk.out, fun j hj => hI.out j (by have := Hlen.out; omega), Hlen.out.symm, rfl⟩))
          have Hun := Lib.hid (show u = (ss.map StR.p).length by have := Hlen.out; omega)
          go_wp2_with fail
          refine bodyPost_ret (v := .tuple #[.map (some b), .int .i64 (n : Int), .int .i64 0]) (by simp [results, Tryz.results60, go_sem]) rfl ?_
          exact ⟨⟨.map (some b), n, 0, rfl, Hout.out, fun _ => ⟨b, rfl, by rw [← Hun.out]; exact hO.out.2⟩⟩, hO.out.1⟩
set_option maxRecDepth 100000 in
set_option maxHeartbeats 4000000 in
/-- script.Order -/
theorem sorder_any {w : World} {A : Option Addr} {n c : Nat} {ss : List StR} (hr : ReadsT w w.heap.size A ss) (hn : n = ss.length) (hl : ss.length ≤ 40) (hf : ∀ s ∈ ss, s.p.fit) :
    Calls Tryz.prog 27 #[.slice A n c] w (fun e w' => (∃ m z, e = .returned (.tuple #[.int .i64 ((m : Nat) : Int), .int .i64 z]) ∧ OrdSays (ss.map StR.p) m z) ∧ Below w.heap.size w w') := by
  have HO := Lib.hid (order_any (c := c) hr hn hl hf)
  clear hr hn hl hf
  go_enter Tryz.func27, Tryz.ntmps27
  go_wp2_with fail
  refine HO.out.mono ?_
  rintro _ W2 ⟨⟨mv, m, z, rfl, hs, _⟩, hb⟩
  have Hs := Lib.hid (And.intro hs hb)
  clear hs hb
  go_wp2_with fail
  refine bodyPost_ret (v := .tuple #[.int .i64 (m : Int), .int .i64 z]) (by simp [results, Tryz.results27, go_sem]) rfl ?_
  exact ⟨⟨m, z, rfl, Hs.out.1⟩, Hs.out.2⟩
end Go.Proofs.YtebpggfccljagaaGreatDoor

/- What Needs says: plain. -/
namespace Go.Proofs.YtebpggfccljagaaGreatDoor
open Go.RowKit
open Wh
set_option linter.unusedSimpArgs false
set_option linter.unusedVariables false

theorem atP_lt {ps : List StP} {x : List UInt8} {b k : Nat} (h : atP ps x b = some k) : k < b ∧ k < ps.length := by
  unfold atP at h
  rw [List.findIdx?_eq_some_iff_getElem] at h
  obtain ⟨h1, _⟩ := h
  rw [List.length_take] at h1
  omega
theorem atP_is {ps : List StP} {x : List UInt8} {b k : Nat} (h : atP ps x b = some k) : ∃ h : k < ps.length, ps[k].nm.data.toList = x := by
  have h0 := (atP_lt h).2
  refine ⟨h0, ?_⟩
  unfold atP at h
  rw [List.findIdx?_eq_some_iff_getElem] at h
  obtain ⟨h1, h2, _⟩ := h
  rw [List.getElem_take] at h2
  simpa using h2
theorem atP_first {ps : List StP} {x : List UInt8} {b k : Nat} (h : atP ps x b = some k) : ∀ j (hj : j < ps.length), j < k → ps[j].nm.data.toList ≠ x := by
  have h0 := atP_lt h
  unfold atP at h
  rw [List.findIdx?_eq_some_iff_getElem] at h
  obtain ⟨h1, h2, h3⟩ := h
  intro j hj hjk
  have h4 := h3 j hjk
  rw [List.getElem_take] at h4
  simpa using h4
/-- a place found among the first ones is found among more -/
theorem atP_more {ps : List StP} {x : List UInt8} {b c k : Nat} (h : atP ps x b = some k) (hc : b ≤ c) : atP ps x c = some k := by
  obtain ⟨h1, h2⟩ := atP_is h
  exact atP_hit (by have := (atP_lt h).1; omega) h1 h2 (atP_first h)
/-- what a statement uses -/
def Uses (ps : List StP) (i j : Nat) : Prop := ∃ p, ps[i]? = some p ∧ ∃ x ∈ p.xs, x.k = 1 ∧ atP ps x.nm.data.toList i = some j
/-- what the last one needs: it, and what is used by what is needed -/
def Nd (ps : List StP) (last j : Nat) : Prop := ∀ S : Nat → Prop, S last → (∀ i k, S i → Uses ps i k → S k) → S j
theorem Nd.top {ps : List StP} {last : Nat} : Nd ps last last := fun _ h _ => h
theorem Nd.step {ps : List StP} {last i j : Nat} (h : Nd ps last i) (hu : Uses ps i j) : Nd ps last j := fun S h0 h1 => h1 i j (h S h0 h1) hu
theorem Nd.cases_ {ps : List StP} {last j : Nat} (h : Nd ps last j) : j = last ∨ ∃ i, Nd ps last i ∧ Uses ps i j := by
  have h2 := h (fun j => Nd ps last j ∧ (j = last ∨ ∃ i, Nd ps last i ∧ Uses ps i j)) ⟨Nd.top, .inl rfl⟩ (fun i k hi hu => ⟨hi.1.step hu, .inr ⟨i, hi.1, hu⟩⟩)
  exact h2.2
theorem Uses.lt {ps : List StP} {i j : Nat} (h : Uses ps i j) : j < i := by
  obtain ⟨p, _, x, _, _, hx⟩ := h
  exact (atP_lt hx).1
theorem Nd.le {ps : List StP} {last j : Nat} (h : Nd ps last j) : j ≤ last := h (fun j => j ≤ last) (Nat.le_refl _) (fun i k hi hu => by have := hu.lt; omega)
/-- the places needed, in order -/
def NeedL (ps : List StP) (last : Nat) (l : List Int) : Prop := ∃ m : List Nat, l = m.map (fun k : Nat => (k : Int)) ∧ m.Pairwise (· < ·) ∧ ∀ i, i ∈ m ↔ Nd ps last i
/-- a row in order is told by its members -/
theorem ordered_ext : ∀ {a b : List Nat}, a.Pairwise (· < ·) → b.Pairwise (· < ·) → (∀ i, i ∈ a ↔ i ∈ b) → a = b
  | [], [], _, _, _ => rfl
  | [], y :: b, _, _, h => absurd ((h y).2 (by simp)) (by simp)
  | x :: a, [], _, _, h => absurd ((h x).1 (by simp)) (by simp)
  | x :: a, y :: b, ha, hb, h => by
    rw [List.pairwise_cons] at ha hb
    have hxy : x = y := by
      have h1 := (h x).1 (by simp)
      have h2 := (h y).2 (by simp)
      rcases List.mem_cons.1 h1 with e | h1
      · exact e
      rcases List.mem_cons.1 h2 with e | h2
      · exact e.symm
      have h3 := hb.1 x h1
      have h4 := ha.1 y h2
      omega
    subst hxy
    rw [ordered_ext ha.2 hb.2 (fun i => ?_)]
    have h5 := h i
    constructor
    · intro hi
      have := ha.1 i hi
      rcases List.mem_cons.1 (h5.1 (by simp [hi])) with e | e
      · omega
      · exact e
    · intro hi
      have := hb.1 i hi
      rcases List.mem_cons.1 (h5.2 (by simp [hi])) with e | e
      · omega
      · exact e
theorem NeedL.uniq {ps : List StP} {last : Nat} {a b : List Int} (h : NeedL ps last a) (k : NeedL ps last b) : a = b := by
  obtain ⟨m, rfl, h1, h2⟩ := h
  obtain ⟨n, rfl, k1, k2⟩ := k
  rw [ordered_ext h1 k1 (fun i => (h2 i).trans (k2 i).symm)]
theorem asc_len : ∀ {m : List Nat} {a b : Nat}, m.Pairwise (· < ·) → (∀ x ∈ m, a ≤ x ∧ x < b) → m.length ≤ b - a
  | [], _, _, _, _ => Nat.zero_le _
  | x :: m, a, b, h, hk => by
    rw [List.pairwise_cons] at h
    have h1 := asc_len (a := x + 1) (b := b) h.2 (fun y hy => ⟨h.1 y hy, (hk y (by simp [hy])).2⟩)
    have h2 := hk x (by simp)
    rw [List.length_cons]
    omega
/-- what Needs says -/
def NeedsSays (ps : List StP) (x : List UInt8) (l : List Int) (z : Int) : Prop :=
  (z ≠ 0 ∧ l = [] ∧ ∃ n, OrdSays ps n z) ∨ (z = 401 ∧ l = [] ∧ OrdSays ps ps.length 0 ∧ (x = [] ∨ atP ps x ps.length = none)) ∨ (z = 0 ∧ OrdSays ps ps.length 0 ∧ x ≠ [] ∧ ∃ last, atP ps x ps.length = some last ∧ NeedL ps last l)
theorem OrdSays.full {ps : List StP} {n : Nat} (h : OrdSays ps n 0) : n = ps.length := by
  rcases h with ⟨_, _, _, h⟩ | ⟨_, _, _, _, h⟩ | ⟨_, _, h, _⟩
  · cases h
  · cases h
  · exact h
theorem OrdSays.all {ps : List StP} {n : Nat} (h : OrdSays ps n 0) : (∀ p ∈ ps, p.ok) ∧ ∀ j, j < ps.length → Stands ps j := by
  rcases h with ⟨_, _, _, h⟩ | ⟨_, _, _, _, h⟩ | ⟨h1, h2, _, _⟩
  · cases h
  · cases h
  · exact ⟨h1, h2⟩
theorem NeedsSays.uniq {ps : List StP} {x : List UInt8} {l m : List Int} {z y : Int} (h : NeedsSays ps x l z) (k : NeedsSays ps x m y) : l = m ∧ z = y := by
  rcases h with ⟨h1, rfl, n, h2⟩ | ⟨rfl, rfl, h2, h3⟩ | ⟨rfl, h2, h3, last, h4, h5⟩
  · rcases k with ⟨k1, rfl, n', k2⟩ | ⟨rfl, rfl, k2, k3⟩ | ⟨rfl, k2, k3, last', k4, k5⟩
    · exact ⟨rfl, (h2.uniq k2).2⟩
    · exact absurd (h2.uniq k2).2 h1
    · exact absurd (h2.uniq k2).2 h1
  · rcases k with ⟨k1, rfl, n', k2⟩ | ⟨rfl, rfl, k2, k3⟩ | ⟨rfl, k2, k3, last', k4, k5⟩
    · exact absurd (k2.uniq h2).2 k1
    · exact ⟨rfl, rfl⟩
    · rcases h3 with h3 | h3
      · exact absurd h3 k3
      · rw [h3] at k4; cases k4
  · rcases k with ⟨k1, rfl, n', k2⟩ | ⟨rfl, rfl, k2, k3⟩ | ⟨rfl, k2, k3, last', k4, k5⟩
    · exact absurd (k2.uniq h2).2 k1
    · rcases k3 with k3 | k3
      · exact absurd k3 h3
      · rw [k3] at h4; cases h4
    · rw [h4] at k4
      injection k4 with k4
      subst k4
      exact ⟨h5.uniq k5, rfl⟩
/-- what is marked while the places are gone through from above, those from i on done -/
def Marked (ps : List StP) (last i : Nat) (f : Nat → Bool) : Prop := ∀ j, f j = true ↔ (j = last ∨ ∃ k, i ≤ k ∧ Nd ps last k ∧ Uses ps k j)
theorem Marked.at_ {ps : List StP} {last i j : Nat} {f : Nat → Bool} (h : Marked ps last (i + 1) f) (hj : i ≤ j) : f j = true ↔ Nd ps last j := by
  rw [h j]
  constructor
  · rintro (rfl | ⟨k, _, h1, h2⟩)
    · exact Nd.top
    · exact h1.step h2
  · intro hn
    rcases hn.cases_ with e | ⟨k, h1, h2⟩
    · exact .inl e
    · exact .inr ⟨k, by have := h2.lt; omega, h1, h2⟩
theorem Marked.start {ps : List StP} {last : Nat} : Marked ps last (last + 1) (fun j => if j = last then true else false) := fun j => by
  constructor
  · intro h; exact .inl (by simpa using h)
  · rintro (h | ⟨k, h1, h2, _⟩)
    · simpa using h
    · have := h2.le; omega
/-- a place that is not needed marks nothing -/
theorem Marked.pass {ps : List StP} {last i : Nat} {f : Nat → Bool} (h : Marked ps last (i + 1) f) (hf : f i = false) : Marked ps last i f := fun j => by
  rw [h j]
  constructor
  · rintro (h1 | ⟨k, h1, h2⟩)
    · exact .inl h1
    · exact .inr ⟨k, by omega, h2⟩
  · rintro (h1 | ⟨k, h1, h2, h3⟩)
    · exact .inl h1
    · rcases Nat.lt_or_ge i k with hk | hk
      · exact .inr ⟨k, hk, h2, h3⟩
      · have e : k = i := by omega
        subst e
        have h4 := (h.at_ (Nat.le_refl _)).2 h2
        rw [hf] at h4
        cases h4
/-- .. while the arguments of place i are gone through, those ahead of q done -/
def MarkQ (ps : List StP) (last i q : Nat) (xs : List ArgP) (f : Nat → Bool) : Prop := ∀ j, f j = true ↔ ((j = last ∨ ∃ k, i + 1 ≤ k ∧ Nd ps last k ∧ Uses ps k j) ∨ ∃ x ∈ xs.take q, x.k = 1 ∧ atP ps x.nm.data.toList i = some j)
theorem MarkQ.start {ps : List StP} {last i : Nat} {xs : List ArgP} {f : Nat → Bool} (h : Marked ps last (i + 1) f) : MarkQ ps last i 0 xs f := fun j => by
  rw [h j]; simp
theorem MarkQ.pass {ps : List StP} {last i q : Nat} {xs : List ArgP} {f : Nat → Bool} (h : MarkQ ps last i q xs f) (hq : q < xs.length) (hk : xs[q].k ≠ 1) : MarkQ ps last i (q + 1) xs f := fun j => by
  rw [h j, show xs.take (q + 1) = xs.take q ++ [xs[q]] from List.take_succ_eq_append_getElem hq]
  constructor
  · rintro (h1 | ⟨x, hx, h2⟩)
    · exact .inl h1
    · exact .inr ⟨x, List.mem_append_left _ hx, h2⟩
  · rintro (h1 | ⟨x, hx, h2, h3⟩)
    · exact .inl h1
    · rcases List.mem_append.1 hx with hx | hx
      · exact .inr ⟨x, hx, h2, h3⟩
      · rw [List.mem_singleton.1 hx] at h2
        exact absurd h2 hk
theorem MarkQ.mark {ps : List StP} {last i q d : Nat} {xs : List ArgP} {f : Nat → Bool} (h : MarkQ ps last i q xs f) (hq : q < xs.length) (hk : xs[q].k = 1) (ha : atP ps xs[q].nm.data.toList i = some d) : MarkQ ps last i (q + 1) xs (fun j => if j = d then true else f j) := fun j => by
  rw [show xs.take (q + 1) = xs.take q ++ [xs[q]] from List.take_succ_eq_append_getElem hq]
  by_cases hj : j = d
  · subst hj
    simp only [if_true, true_iff]
    exact .inr ⟨_, List.mem_append_right _ (List.mem_singleton.2 rfl), hk, ha⟩
  · simp only [hj, if_false]
    rw [h j]
    constructor
    · rintro (h1 | ⟨x, hx, h2⟩)
      · exact .inl h1
      · exact .inr ⟨x, List.mem_append_left _ hx, h2⟩
    · rintro (h1 | ⟨x, hx, h2, h3⟩)
      · exact .inl h1
      · rcases List.mem_append.1 hx with hx | hx
        · exact .inr ⟨x, hx, h2, h3⟩
        · rw [List.mem_singleton.1 hx, ha] at h3
          injection h3 with h3
          exact absurd h3.symm hj
theorem MarkQ.done {ps : List StP} {last i q : Nat} {p : StP} {f : Nat → Bool} (h : MarkQ ps last i q p.xs f) (hp : ps[i]? = some p) (hq : p.xs.length ≤ q) (hn : Nd ps last i) : Marked ps last i f := fun j => by
  rw [h j, List.take_of_length_le hq]
  constructor
  · rintro ((h1 | ⟨k, h1, h2⟩) | ⟨x, h1, h2, h3⟩)
    · exact .inl h1
    · exact .inr ⟨k, by omega, h2⟩
    · exact .inr ⟨i, Nat.le_refl _, hn, p, hp, x, h1, h2, h3⟩
  · rintro (h1 | ⟨k, h1, h2, h3⟩)
    · exact .inl (.inl h1)
    · rcases Nat.lt_or_ge i k with hk | hk
      · exact .inl (.inr ⟨k, hk, h2, h3⟩)
      · have e : k = i := by omega
        subst e
        obtain ⟨p', hp', x, hx, h4, h5⟩ := h3
        rw [hp] at hp'
        injection hp' with hp'
        subst hp'
        exact .inr ⟨x, hx, h4, h5⟩
end Go.Proofs.YtebpggfccljagaaGreatDoor

/- Rows of marks. -/
namespace Go.Proofs.YtebpggfccljagaaGreatDoor
open Go.RowKit
set_option linter.unusedSimpArgs false
set_option linter.unusedVariables false

/-- marks -/
def mcells (f : Nat → Bool) (n : Nat) : Array Value := ((List.range n).map (fun j => Value.bool (f j))).toArray
theorem mcells_get (f : Nat → Bool) {n j : Nat} (h : j < n) : (mcells f n)[j]? = some (.bool (f j)) := by
  unfold mcells
  rw [List.getElem?_toArray, List.getElem?_map, List.getElem?_range h]
  rfl
theorem mcells_set (f : Nat → Bool) (n d : Nat) : (mcells f n).setIfInBounds d (.bool true) = mcells (fun j => if j = d then true else f j) n := by
  unfold mcells
  rw [List.setIfInBounds_toArray]
  congr 1
  refine List.ext_getElem (by simp) fun j h1 h2 => ?_
  rw [List.getElem_set]
  simp only [List.getElem_map, List.getElem_range]
  by_cases h : d = j
  · rw [if_pos h, if_pos h.symm]
  · rw [if_neg h, if_neg (fun e => h e.symm)]
theorem infoM : (Tryz.prog.info? 4).map (fun i => (i.zero, i.size, i.bytes)) = some (some (.bool false), 1, 1) := by kernel_rfl
theorem madeM (n : Nat) : madeCells (Value.cells (.bool false)) (n * 1) = mcells (fun _ => false) n := by
  rw [Nat.mul_one]
  have h : (madeCells (Value.cells (.bool false)) n).toList = (List.range n).map (fun j => Value.bool false) := by
    unfold madeCells
    rw [Array.toList_map, Array.toList_range]
    refine List.map_congr_left fun i _ => ?_
    have e : i % (Value.bool false).cells.size = 0 := Nat.mod_one i
    rw [e]
    rfl
  unfold mcells
  rw [← h]
theorem run_makeM (n : Nat) (hn : n ≤ 1000) (w : World) :
    (Instr.makeSlice 109 (.int .i64 (n : Int)) (.int .i64 (n : Int))).run Tryz.prog w = .ok (.slice (some ⟨w.heap.size, 0, none⟩) n n) (w.alloc (.cells (mcells (fun _ => false) n) 4)) := by
  obtain ⟨i0, hi, hz0, hz1, hz2⟩ := info_parts infoM
  have h := run_make_rowN (P := Tryz.prog) 109 4 i0 (.bool false) Tryz.underlying109 hi hz0 .i64 .i64 n n (Nat.le_refl _) (by rw [hz2]; omega) (by omega) w
  rw [hz1, madeM] at h
  exact h
end Go.Proofs.YtebpggfccljagaaGreatDoor
