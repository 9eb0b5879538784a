import Derived.Test.YtebpggfccljagaaGreatDoorC3
import Derived.Test.YtebpggfccljagaaGreatDoorC2
import Derived.WalkMore
import Derived.Test.YtebpggfccljagaaGreatDoorProg
import Derived.Test.YtebpggfccljagaaGreatDoorC1
import Derived.WalkKit
import Derived.WalkLawsBesides
import Derived.WalkSpells
import Derived.Handy
import Derived.Deep.LoopGhost
import Derived.BigQuiet
import Derived.Deep.CutRange
import Derived.Deep.CutBlock
import Derived.BigRegion
import Derived.Deep.RegionWith
import Derived.Deep.RegionHeld3
/- *big.Int: SetString (printed by gen_setstr.py). -/
namespace Go.Proofs.YtebpggfccljagaaGreatDoor
open Go.RowKit
open Wh
set_option linter.unusedSimpArgs false
set_option linter.unusedVariables false

theorem OwnW.set_ {w : World} {B n c i : Nat} {A : Option Addr} {l : List Nat} (h : OwnW w B (.slice A n c) l) (hi : i < l.length) :
    ∃ g, A = some ⟨g, 0, none⟩ ∧ B ≤ g ∧ g < w.heap.size ∧ w.cell? ⟨g, i, none⟩ = some (.int .u32 ((l[i] : Nat) : Int)) ∧ w.frozen? ⟨g, i, none⟩ = false ∧ ∀ y : Nat, OwnW (w.setCell ⟨g, i, none⟩ (.int .u32 (y : Int))) B (.slice A n c) (l.set i y) := by
  rcases h.2 with ⟨_, h0⟩ | ⟨g, cap, cur, hv, hb, hh, hc, hm, hs, ht⟩
  · omega
  · injection hv with e1 e2 e3
    subst e1 e2 e3
    have hk : Blk w g 163 cur := hh
    rw [Nat.mul_one] at ht
    have hcur : cur.toList[i]? = some (wv l[i]) := by
      have h1 : (cur.toList.take l.length)[i]? = (l.map wv)[i]? := by rw [ht]
      rwa [List.getElem?_take, if_pos hi, List.getElem?_map, List.getElem?_eq_getElem hi] at h1
    refine ⟨g, rfl, hb, hk.lt, ?_, hk.frozen i, fun y => ⟨by rw [List.length_map, List.length_set, Nat.mul_one], .inr ⟨g, c, cur.setIfInBounds i (wv y), by rw [List.length_set], hb, ?_, ?_, hm, ?_, ?_⟩⟩⟩
    · rw [hk.cell i, ← Array.getElem?_toList, hcur]; rfl
    · exact hk.set_ i (wv y)
    · rw [List.length_set]; exact hc
    · rw [Array.size_setIfInBounds]; exact hs
    · rw [Nat.mul_one, List.length_set, Array.toList_setIfInBounds, List.take_set, ht, List.map_set]
theorem OwnW.kept' {w w' : World} {B : Nat} {v : Value} {l : List Nat} (h : OwnW w B v l) (hb : Below w.heap.size w w') : OwnW w' B v l := by
  refine ⟨h.1, ?_⟩
  rcases h.2 with h1 | ⟨g, cap, cur, hv, hg, hh, hr⟩
  · exact .inl h1
  · exact .inr ⟨g, cap, cur, hv, hg, (hb.block g (Array.getElem?_eq_some_iff.1 hh).1).trans hh, hr⟩
theorem grown_of {w wr w' : World} {g : Nat} (h : Below w.heap.size w wr) (hg : wr.grownBy w' (some g)) : w.grownBy w' (some g) := by
  refine ⟨hg.os.trans h.os, hg.tape.trans h.tape, hg.output.trans h.output, Nat.le_trans h.size hg.size, fun i hi hne => ?_⟩
  exact (hg.block i (Nat.lt_of_lt_of_le hi h.size) hne).trans (h.block i hi)
theorem grown_below {w w' : World} {g : Nat} (h : Below w.heap.size w w') : w.grownBy w' (some g) := ⟨h.os, h.tape, h.output, h.size, fun i hi _ => h.block i hi⟩
/-- what digits are made -/
def StrSet (w : World) (g : Nat) (neg : Bool) (t : List UInt8) (e : Ending) (w' : World) : Prop :=
  ∃ p b, e = .returned (.tuple #[.pointer p, .bool b]) ∧ w.grownBy w' (some g) ∧ (AllDig t → p = some ⟨g, 0, none⟩ ∧ b = true ∧ IntB w' g (sgn neg (dv t)))
theorem drop_bytes (t : ByteArray) (k : Nat) (hk : k ≤ t.size) : (t.extract k t.size).data.toList = t.data.toList.drop k ∧ (t.extract k t.size).size = t.size - k := by
  refine ⟨?_, by rw [ByteArray.size_extract]; omega⟩
  rw [ByteArray.data_extract, Array.toList_extract, List.extract_eq_take_drop]
  rw [List.take_of_length_le]
  rw [List.length_drop, show t.data.toList.length = t.size from Array.length_toList]
  exact Nat.le_refl _
theorem take_bytes (t : ByteArray) (k : Nat) (hk : k ≤ t.size) : (t.extract 0 k).data.toList = t.data.toList.take k ∧ (t.extract 0 k).size = k := by
  refine ⟨?_, by rw [ByteArray.size_extract]; omega⟩
  rw [ByteArray.data_extract, Array.toList_extract, List.extract_eq_take_drop, List.drop_zero]
  rfl
set_option maxRecDepth 100000 in
set_option maxHeartbeats 2000000 in
theorem setstr_core {w : World} {g : Nat} {s : ByteArray} {neg : Bool} {v u3 u4 u5 u6 u7 u9 u10 u11 u12 u13 u14 u15 u16 u17 u18 u19 u20 u21 u22 u23 u24 u25 u26 u27 u28 u29 u30 u31 u32 u33 u34 u35 u36 u37 u38 u39 u40 u41 u42 u43 u44 u45 u46 u47 u48 u49 u50 u51 u52 u53 u54 u55 u56 u57 u58 u59 u60 u61 u62 u63 u64 u65 u66 u67 u68 u69 u70 u71 u72 u73 u74 u75 u76 u77 u78 u79 u80 u81 u82 u83 u84 u85 u86 u87 u88 u89 u90 u91 u92 u93 u94 u95 u96 u97 u98 u99 u100 u101 u102 : Value} {Q : Ending → World → Prop} (hz : IntS w g) (hl : s.size ≤ 100000000) (hQ0 : ∀ e w', StrSet w g neg s.data.toList e w' → Q e w') :
    (codeRest 4 (bodyOf Tryz.f105)).wp Tryz.prog (bodyPost Tryz.prog Tryz.f105 Q) ⟨#[.pointer (some ⟨g, 0, none⟩), .string s, v, u3, u4, u5, u6, u7, .bool neg, u9, u10, u11, u12, u13, u14, u15, u16, u17, u18, u19, u20, u21, u22, u23, u24, u25, u26, u27, u28, u29, u30, u31, u32, u33, u34, u35, u36, u37, u38, u39, u40, u41, u42, u43, u44, u45, u46, u47, u48, u49, u50, u51, u52, u53, u54, u55, u56, u57, u58, u59, u60, u61, u62, u63, u64, u65, u66, u67, u68, u69, u70, u71, u72, u73, u74, u75, u76, u77, u78, u79, u80, u81, u82, u83, u84, u85, u86, u87, u88, u89, u90, u91, u92, u93, u94, u95, u96, u97, u98, u99, u100, u101, u102], []⟩ w := by
  conv => enter [2]; dsimp only [codeRest, bodyOf, Tryz.f105, Option.getD_some]
  obtain ⟨l, hle⟩ : ∃ l, l = s.data.toList := ⟨_, rfl⟩
  have hll : l.length = s.size := by rw [hle]; exact Array.length_toList
  rw [← hle] at hQ0
  have hQ := Lib.hid hQ0
  clear hQ0
  have kc := fun (W : World) (s : ByteArray) => Lib.run_convert_string_bytes (P := Tryz.prog) W 9 97 5 s Tryz.underlying9 Tryz.underlying97 Tryz.underlying5
  have Hl := Lib.hid (And.intro hll hz)
  have Hll := Lib.hid hl
  clear hll hz
  go_wp2_with fail
  go_loopg [1, 9] s.size (fun k sv lv wr => ∃ (T : ByteArray) (A : Option Addr) (n c j tn : Nat) (L : List Nat), sv = .string T ∧ lv = .slice A n c ∧ T.size = tn ∧ tn ≤ 100000000 ∧ Hid (k = tn) ∧ Hid (tn = l.length - j ∧ j ≤ l.length ∧ T.data.toList = l.drop j) ∧ Hid (OwnW wr w.heap.size (.slice A n c) L) ∧ Hid (Below w.heap.size w wr) ∧ n ≤ 100000000 ∧ Hid (AllDig (l.take j) ∧ Wd L ∧ val L = dv (l.take j) ∧ L.length ≤ j))
  case atStart => exact ⟨s, none, 0, 0, 0, s.size, [], rfl, rfl, rfl, hl, Lib.hid rfl, Lib.hid ⟨by rw [Hl.out.1]; rfl, Nat.zero_le _, by rw [List.drop_zero, hle]⟩, Lib.hid (OwnW.nil _ _), Lib.hid (Below.refl _ _), by omega, Lib.hid ⟨fun b hb => (by simp at hb), wd_nil, rfl, Nat.le_refl _⟩⟩
  case round =>
    obtain ⟨T, A, n, c, j, tn, L, rfl, rfl, htn, htl, Hk, HT, Ho, Hb, hnl, HL⟩ := hrel
    have Htn := Lib.hid htn
    clear hle hl
    rcases Nat.eq_zero_or_pos tn with h0 | h0
    case inl =>
      subst h0
      have hj : j = l.length := by have := HT.out; omega
      subst hj
      have hi := is_any neg (Hl.out.2.below Hb.out) Ho.out.reads (Nat.le_refl _) Ho.out.len.1 Ho.out.len.2.1 Ho.out.len.2.2 HL.out.2.1
      rw [HL.out.2.2.1, List.take_length] at hi
      have HI := Lib.hid hi
      clear hi
      go_wp2_with fail
      refine HI.out.mono ?_
      rintro e W' ⟨rfl, hi2, hg2⟩
      go_wp2_with fail
      exact hQ.out _ _ ⟨some ⟨g, 0, none⟩, true, rfl, grown_of Hb.out hg2, fun _ => ⟨rfl, rfl, hi2⟩⟩
    case inr =>
      obtain ⟨N, hN⟩ : ∃ N : Nat, N = if tn < 9 then tn else 9 := ⟨_, rfl⟩
      have hN9 : N ≤ 9 := by rw [hN]; split <;> omega
      have hNt : N ≤ tn := by rw [hN]; split <;> omega
      have hN0 : 0 < N := by rw [hN]; split <;> omega
      have qN : (if (tn : Int) < 9 then (tn : Int) else 9) = (N : Int) := by rw [hN]; split <;> split <;> omega
      obtain ⟨C, hC⟩ : ∃ C, T.extract 0 N = C := ⟨_, rfl⟩
      obtain ⟨T', hT'⟩ : ∃ T', T.extract N tn = T' := ⟨_, rfl⟩
      have hCb := take_bytes T N (by omega)
      have hTb := drop_bytes T N (by omega)
      rw [htn, hT'] at hTb
      rw [hC] at hCb
      obtain ⟨cs, hcs⟩ : ∃ cs, cs = (l.drop j).take N := ⟨_, rfl⟩
      rw [HT.out.2.2, ← hcs] at hCb
      rw [HT.out.2.2, List.drop_drop] at hTb
      have hcl : cs.length = N := by rw [hcs, List.length_take, List.length_drop]; have := HT.out; omega
      have hCs := hCb.2
      have HC := Lib.hid (And.intro hCb.1 (And.intro hTb (And.intro hcs hcl)))
      have Hh := Lib.hid (And.intro hN9 (And.intro hNt hN0))
      clear hCb hTb hcs hcl hN
      go_wp2_with fail
      have Hb1 := Lib.hid (Hb.out.trans ((bytes_below wr C).mono Hb.out.size))
      have Ho1 := Lib.hid (Ho.out.kept' (bytes_below wr C))
      have hrd := bytes_reads wr C
      rw [HC.out.1] at hrd
      have Hrd := Lib.hid hrd
      clear hrd hC Ho Hb kc hCs qN
      generalize Lib.bytesWorld wr 5 C = W1 at *
      go_loopg [11, 12, 48] N (fun k bv av iv wi => ∃ (i P D : Nat), bv = .int .u64 (P : Int) ∧ av = .int .u64 (D : Int) ∧ iv = .int .i64 (i : Int) ∧ Hid (k = N - i) ∧ i ≤ N ∧ P ≤ 1000000000 ∧ D ≤ 999999999 ∧ Hid (P = 10 ^ i ∧ D = dv (cs.take i) ∧ AllDig (cs.take i)) ∧ W1 = wi)
      case atStart => exact ⟨0, 1, 0, rfl, rfl, rfl, Lib.hid rfl, Nat.zero_le _, by omega, by omega, Lib.hid ⟨rfl, rfl, fun b hb => (by simp at hb)⟩, rfl⟩
      case round =>
        obtain ⟨i, P, D, rfl, rfl, rfl, Hki, hiN, hP, hD, HP, rfl⟩ := hrel
        by_cases hin : i < N
        · have hil : i < cs.length := by rw [HC.out.2.2.2]; exact hin
          obtain ⟨ad, e, _, c1⟩ := ReadsB.at_ Hrd.out hil
          injection e with e
          subst e
          rw [Addr.add_lit, Nat.zero_add] at c1
          have hmem : cs[i] ∈ cs := List.getElem_mem hil
          have hsub : ∀ b, b ∈ cs → b ∈ l := fun b hb => by
            rw [HC.out.2.2.1] at hb
            exact List.mem_of_mem_drop (List.mem_of_mem_take hb)
          have hadl : AllDig l → IsDig cs[i] := fun h => h _ (hsub _ hmem)
          have Hd1 := Lib.hid (And.intro (dv_take hil) (And.intro (fun h => allDig_take hil HP.out.2.2 h) hadl))
          clear hmem hadl hsub
          have Hpl := Lib.hid (fun h : IsDig cs[i] => dv_lt (i + 1) (cs.take (i + 1)) (by rw [List.length_take]; omega) (allDig_take hil HP.out.2.2 h))
          have hten := ten_le (n := i + 1) (by omega)
          have Hten := Lib.hid hten
          have hu8 := UInt8.toNat_lt cs[i]
          unfold IsDig at Hd1 Hpl
          generalize cs[i].toNat = y at *
          have hini : (i : Int) < (N : Int) := by omega
          clear hten hil
          by_cases hdg : 48 ≤ y ∧ y ≤ 57
          · have Hdg := Lib.hid hdg
            obtain ⟨g1, g2⟩ := hdg
            have g3 : (48 : Int) ≤ (y : Int) := by omega
            have g4 : (y : Int) ≤ 57 := by omega
            go_wp2_with fail
            go_roundg (N - (i + 1))
            case measure => have := Hki.out; omega
            case rel =>
              refine ⟨i + 1, P * 10, 10 * D + (y - 48), by simp, ?_, rfl, Lib.hid rfl, by omega, ?_, ?_, Lib.hid ⟨by rw [HP.out.1, Nat.pow_succ], by rw [Hd1.out.1, HP.out.2.1], Hd1.out.2.1 Hdg.out⟩, rfl⟩
              · congr 1; omega
              · rw [HP.out.1, ← Nat.pow_succ]; exact Hten.out
              · have h1 := Hpl.out Hdg.out
                rw [Hd1.out.1, ← HP.out.2.1] at h1
                have := Hten.out
                omega
          · have Hdg := Lib.hid hdg
            rcases Nat.lt_or_ge y 48 with g1 | g1
            · have g3 : (y : Int) < 48 := by omega
              clear hdg
              go_wp2_with fail
              exact hQ.out _ _ ⟨none, false, rfl, grown_below Hb1.out, fun h => absurd (Hd1.out.2.2 h) Hdg.out⟩
            · have g3 : (48 : Int) ≤ (y : Int) := by omega
              have g4 : (57 : Int) < (y : Int) := by omega
              clear hdg
              go_wp2_with fail
              exact hQ.out _ _ ⟨none, false, rfl, grown_below Hb1.out, fun h => absurd (Hd1.out.2.2 h) Hdg.out⟩
        · have hiN' : i = N := by omega
          subst hiN'
          have hiq : (i : Int) ≤ (i : Int) := by omega
          have Hdl := Lib.hid (show P = 10 ^ i ∧ D = dv cs ∧ AllDig cs by
            have h1 := HP.out
            rw [List.take_of_length_le (by rw [HC.out.2.2.2]; exact Nat.le_refl _)] at h1
            exact h1)
          have hnL := Ho1.out.len.1
          have HnL := Lib.hid hnL
          clear HP Hrd hin hiN hnL
          go_wp2_with fail
          go_loopg [12, 15, 69] n (fun k av xv iv wi => ∃ (q add : Nat) (L2 : List Nat), av = .int .u64 (add : Int) ∧ iv = .int .i64 (q : Int) ∧ Hid (k = n - q) ∧ q ≤ n ∧ add ≤ 999999999 ∧ Hid (OwnW wi w.heap.size (.slice A n c) L2) ∧ Hid (Below w.heap.size w wi) ∧ Hid (L2.length = L.length ∧ Wd L2 ∧ val (L2.take q) + 4294967296 ^ q * add = val (L.take q) * P + D ∧ ∀ t, q ≤ t → L2[t]? = L[t]?))
          case atStart => exact ⟨0, D, L, rfl, rfl, Lib.hid rfl, Nat.zero_le _, hD, Ho1, Hb1, Lib.hid ⟨rfl, HL.out.2.1, by simp [val_nil], fun t _ => rfl⟩⟩
          case round =>
            obtain ⟨q, add, L2, rfl, rfl, Hkq, hqn, hadd, Ho2, Hb2, HL2⟩ := hrel
            by_cases hqn2 : q < n
            · have hqL : q < L.length := by rw [← HnL.out]; exact hqn2
              have hq2 : q < L2.length := by rw [HL2.out.1]; exact hqL
              obtain ⟨gg, rfl, hgB, hgl, c1, f1, hset⟩ := Ho2.out.set_ hq2
              have hx : L2[q] = L[q] := by
                have := HL2.out.2.2.2 q (Nat.le_refl _)
                rw [List.getElem?_eq_getElem hq2, List.getElem?_eq_getElem hqL] at this
                injection this
              have E1 := Lib.hid (val_take_succ hqL)
              have w1 := wd_get HL.out.2.1 _ hqL
              rw [hx] at c1
              generalize L[q] = x at *
              obtain ⟨hb1', hb2'⟩ := mul_bounds (add := add) (x := x) (by_ := P) hadd w1 hP
              have e1 : ((add : Int) + (x : Int) * (P : Int)) = ((add + x * P : Nat) : Int) := by rw [Int.natCast_add, Int.natCast_mul]
              have hxp : x * P ≤ 4294967295999999999 := by omega
              have e0 : (x : Int) * (P : Int) = ((x * P : Nat) : Int) := (Int.natCast_mul x P).symm
              have e2 : IntKind.u64.wrap ((x : Int) * (P : Int)) = (x : Int) * (P : Int) := by rw [e0]; exact IntWalk.u64_in _ (by omega)
              have e3 : IntKind.u64.wrap ((add : Int) + (x : Int) * (P : Int)) = (((add + x * P : Nat)) : Int) := by rw [e1]; exact IntWalk.u64_in _ (by omega)
              obtain ⟨Z, hZ⟩ : ∃ Z, Z = add + x * P := ⟨_, rfl⟩
              have e4 : (add : Int) + (x : Int) * (P : Int) = (Z : Int) := by rw [hZ]; exact e1
              rw [← hZ] at hb1' hb2' e3
              have HZ := Lib.hid (And.intro hZ hset)
              have Hqq := Lib.hid (And.intro hqL hq2)
              have hqi : (q : Int) < (n : Int) := by omega
              clear e0 e1 hxp hZ hset hx hqL hq2 hqn2
              go_wp2_with fail
              rw [show (Z : Int) / 4294967296 = ((Z / 4294967296 : Nat) : Int) by omega, show (Z : Int) % 4294967296 = ((Z % 4294967296 : Nat) : Int) by omega]
              go_roundg (n - (q + 1))
              case measure => have := Hkq.out; omega
              case rel =>
                refine ⟨q + 1, Z / 4294967296, L2.set q (Z % 4294967296), rfl, rfl, Lib.hid rfl, by omega, hb2', Lib.hid (HZ.out.2 _), Lib.hid (Hb2.out.setCell hgB _), Lib.hid ⟨by rw [List.length_set]; exact HL2.out.1, wd_set HL2.out.2.1 _ _ (Nat.mod_lt _ (by decide)), ?_, fun t ht => ?_⟩⟩
                · rw [val_take_set Hqq.out.2, E1.out, HZ.out.1, Nat.pow_succ]
                  exact mul_step HL2.out.2.2.1
                · rw [List.getElem?_set_ne (by omega)]
                  exact HL2.out.2.2.2 t (by omega)
            · have hqn' : q = n := by omega
              subst hqn'
              have hfin : val L2 + 4294967296 ^ L2.length * add = dv (l.take (j + i)) := by
                have h1 := HL2.out.2.2.1
                rw [List.take_of_length_le (by rw [HL2.out.1, HnL.out]; exact Nat.le_refl _), List.take_of_length_le (by rw [HnL.out]; exact Nat.le_refl _), HL.out.2.2.1, Hdl.out.1, Hdl.out.2.1] at h1
                rw [HL2.out.1, ← HnL.out, h1, ← dv_app _ i cs HC.out.2.2.2, HC.out.2.2.1, ← List.take_add]
              have hdig : AllDig (l.take (j + i)) := by
                rw [List.take_add, ← HC.out.2.2.1]
                exact allDig_app.2 ⟨HL.out.1, Hdl.out.2.2⟩
              have Hfin := Lib.hid (And.intro hfin hdig)
              have HT' : Hid (tn - i = l.length - (j + i) ∧ j + i ≤ l.length ∧ T'.data.toList = l.drop (j + i) ∧ T'.size = tn - i) := by
                refine Lib.hid ⟨?_, ?_, ?_, ?_⟩
                · have := HT.out; omega
                · have := HT.out; omega
                · rw [HC.out.2.1.1]
                · exact HC.out.2.1.2
              clear hfin hdig hqn hqn2
              rcases Nat.eq_zero_or_pos add with ha | ha
              · subst ha
                go_wp2_with fail
                go_roundg (tn - i)
                case measure => have := Hk.out; omega
                case rel => exact ⟨T', A, q, c, j + i, tn - i, L2, rfl, rfl, HT'.out.2.2.2, by omega, Lib.hid rfl, Lib.hid ⟨HT'.out.1, HT'.out.2.1, HT'.out.2.2.1⟩, Ho2, Hb2, hnl, Lib.hid ⟨Hfin.out.2, HL2.out.2.1, by have := Hfin.out.1; rwa [Nat.mul_zero, Nat.add_zero] at this, by have := HL2.out.1; have := HL.out.2.2.2; omega⟩⟩
              · have hai : (0 : Int) < (add : Int) := by omega
                have Ha := Lib.hid ha
                have hL2l : L2.length ≤ 100000000 := by rw [HL2.out.1, ← HnL.out]; exact hnl
                have hgle : w.heap.size ≤ wr.heap.size := Hb2.out.size
                clear ha
                go_wp2_with (at_builtin; refine wpW_push rfl (.tmp 91) (.tmp 94) rfl w.heap.size _ L2 Ho2.out rfl (y := add) rfl rfl (by omega) hgle ?_; intro A3 n3 c3 W3 ho3 hkeep _; have Ho3 := Lib.hid ho3; have Hb3 := Lib.hid (hkeep w Hb2.out); clear ho3 hkeep)
                go_roundg (tn - i)
                case measure => have := Hk.out; omega
                case rel =>
                  refine ⟨T', A3, n3, c3, j + i, tn - i, L2 ++ [add], rfl, rfl, HT'.out.2.2.2, by omega, Lib.hid rfl, Lib.hid ⟨HT'.out.1, HT'.out.2.1, HT'.out.2.2.1⟩, Ho3, Hb3, ?_, Lib.hid ⟨Hfin.out.2, wd_append.2 ⟨HL2.out.2.1, wd_cons.2 ⟨by omega, wd_nil⟩⟩, by rw [val_snoc]; exact Hfin.out.1, ?_⟩⟩
                  · have h1 := Ho3.out.len.1
                    rw [List.length_append] at h1
                    have h2 := HL2.out.1
                    have h3 := HL.out.2.2.2
                    have h4 := HT.out
                    have h5 := Hl.out.1
                    have h6 := Hll.out
                    simp only [List.length_cons, List.length_nil] at h1
                    omega
                  · rw [List.length_append]
                    have h2 := HL2.out.1
                    have h3 := HL.out.2.2.2
                    have h4 := Hh.out.2.2
                    simp only [List.length_cons, List.length_nil]
                    omega
def signOf (l : List UInt8) : Bool := l.head? == some 45
def bodyOfText (l : List UInt8) : List UInt8 := if l.head? = some 45 ∨ l.head? = some 43 then l.tail else l
/-- what a text is made -/
def TextSet (w : World) (g : Nat) (l : List UInt8) (e : Ending) (w' : World) : Prop :=
  ∃ p b, e = .returned (.tuple #[.pointer p, .bool b]) ∧ w.grownBy w' (some g) ∧ (bodyOfText l ≠ [] → AllDig (bodyOfText l) → p = some ⟨g, 0, none⟩ ∧ b = true ∧ IntB w' g (sgn (signOf l) (dv (bodyOfText l))))
theorem head_of {s : ByteArray} (h : 0 < s.size) : s.data.toList.head? = some s[0] := by
  have hl : s.data.toList.length = s.size := Array.length_toList
  rw [List.head?_eq_getElem?, List.getElem?_eq_getElem (by omega)]
  rfl
set_option maxRecDepth 100000 in
set_option maxHeartbeats 1000000 in
theorem setstr_neg {w : World} {g : Nat} {s : ByteArray} {v : Value} (hz : IntS w g) (hl : s.size ≤ 100000000) (h0 : 0 < s.size) (hc : s[0] = 45) :
    Calls Tryz.prog 105 #[.pointer (some ⟨g, 0, none⟩), .string s, v] w (TextSet w g s.data.toList) := by
  have hb := drop_bytes s 1 (by omega)
  have hd : s[0].toNat = 45 := by rw [hc]; rfl
  have hh := head_of h0
  rw [hc] at hh
  obtain ⟨t, ht⟩ : ∃ t, s.extract 1 s.size = t := ⟨_, rfl⟩
  rw [ht] at hb
  have htl : t.size ≤ 100000000 := by omega
  have HB := Lib.hid (show signOf s.data.toList = true ∧ bodyOfText s.data.toList = t.data.toList by
    unfold signOf bodyOfText
    rw [hh, hb.1, List.drop_one]
    exact ⟨rfl, if_pos (.inl rfl)⟩)
  obtain ⟨q1, q2⟩ := str_facts h0
  clear hb hc hh
  go_enter Tryz.func105, Tryz.ntmps105
  go_upto_if 36 with fail
  go_cut [] (fun wx => w = wx)
  case first =>
    by_cases h9 : t.size = 0
    · rw [(str_none h9).1]
      go_wp2_with fail
      refine bodyPost_ret (v := .tuple #[.pointer none, .bool false]) (by simp [results, Tryz.results105, go_sem]) rfl ?_
      exact ⟨none, false, rfl, grown_below (Below.refl _ _), fun h => absurd (by rw [HB.out.2]; exact List.eq_nil_of_length_eq_zero (by rw [show t.data.toList.length = t.size from Array.length_toList]; exact h9)) h⟩
    · rw [(str_facts (Nat.pos_of_ne_zero h9)).1]
      go_wp2_with fail
      go_meet
      case rel => rfl
  case rest =>
    go_step
    subst hcut
    refine setstr_core (neg := true) (s := t) hz (by omega) ?_
    rintro e w' ⟨p, b, he, hg, hok⟩
    exact ⟨p, b, he, hg, by rw [HB.out.1, HB.out.2]; exact fun _ => hok⟩
set_option maxRecDepth 100000 in
set_option maxHeartbeats 1000000 in
theorem setstr_plus {w : World} {g : Nat} {s : ByteArray} {v : Value} (hz : IntS w g) (hl : s.size ≤ 100000000) (h0 : 0 < s.size) (hc : s[0] = 43) :
    Calls Tryz.prog 105 #[.pointer (some ⟨g, 0, none⟩), .string s, v] w (TextSet w g s.data.toList) := by
  have hb := drop_bytes s 1 (by omega)
  have hd : s[0].toNat = 43 := by rw [hc]; rfl
  have hh := head_of h0
  rw [hc] at hh
  obtain ⟨t, ht⟩ : ∃ t, s.extract 1 s.size = t := ⟨_, rfl⟩
  rw [ht] at hb
  have htl : t.size ≤ 100000000 := by omega
  have HB := Lib.hid (show signOf s.data.toList = false ∧ bodyOfText s.data.toList = t.data.toList by
    unfold signOf bodyOfText
    rw [hh, hb.1, List.drop_one]
    exact ⟨rfl, if_pos (.inr rfl)⟩)
  obtain ⟨q1, q2⟩ := str_facts h0
  clear hb hc hh
  go_enter Tryz.func105, Tryz.ntmps105
  go_upto_if 36 with fail
  go_cut [] (fun wx => w = wx)
  case first =>
    by_cases h9 : t.size = 0
    · rw [(str_none h9).1]
      go_wp2_with fail
      refine bodyPost_ret (v := .tuple #[.pointer none, .bool false]) (by simp [results, Tryz.results105, go_sem]) rfl ?_
      exact ⟨none, false, rfl, grown_below (Below.refl _ _), fun h => absurd (by rw [HB.out.2]; exact List.eq_nil_of_length_eq_zero (by rw [show t.data.toList.length = t.size from Array.length_toList]; exact h9)) h⟩
    · rw [(str_facts (Nat.pos_of_ne_zero h9)).1]
      go_wp2_with fail
      go_meet
      case rel => rfl
  case rest =>
    go_step
    subst hcut
    refine setstr_core (neg := false) (s := t) hz (by omega) ?_
    rintro e w' ⟨p, b, he, hg, hok⟩
    exact ⟨p, b, he, hg, by rw [HB.out.1, HB.out.2]; exact fun _ => hok⟩
set_option maxRecDepth 100000 in
set_option maxHeartbeats 1000000 in
theorem setstr_bare {w : World} {g : Nat} {s : ByteArray} {v : Value} (hz : IntS w g) (hl : s.size ≤ 100000000) (h0 : 0 < s.size) (hc : s[0] ≠ 45) (hc2 : s[0] ≠ 43) :
    Calls Tryz.prog 105 #[.pointer (some ⟨g, 0, none⟩), .string s, v] w (TextSet w g s.data.toList) := by
  have hh := head_of h0
  have HB := Lib.hid (show signOf s.data.toList = false ∧ bodyOfText s.data.toList = s.data.toList by
    unfold signOf bodyOfText
    rw [hh]
    refine ⟨beq_eq_false_iff_ne.2 (fun h => hc (by injection h)), if_neg (fun h => ?_)⟩
    rcases h with h | h
    · exact hc (by injection h)
    · exact hc2 (by injection h))
  obtain ⟨q1, q2⟩ := str_facts h0
  have hy1 : s[0].toNat ≠ 45 := fun h => hc (UInt8.toNat_inj.1 h)
  have hy2 : s[0].toNat ≠ 43 := fun h => hc2 (UInt8.toNat_inj.1 h)
  generalize hy : s[0].toNat = y at *
  have z1 : ((y : Int) == 45) = false := beq_eq_false_iff_ne.2 (by omega)
  have z2 : ((y : Int) == 43) = false := beq_eq_false_iff_ne.2 (by omega)
  clear hc hc2 hh
  go_enter Tryz.func105, Tryz.ntmps105
  go_upto_if 36 with fail
  go_cut [] (fun wx => w = wx)
  case first =>
    by_cases h9 : s.size = 0
    · exact absurd h9 (by omega)
    · go_wp2_with fail
      go_meet
      case rel => rfl
  case rest =>
    go_step
    subst hcut
    refine setstr_core (neg := false) (s := s) hz (by omega) ?_
    rintro e w' ⟨p, b, he, hg, hok⟩
    exact ⟨p, b, he, hg, by rw [HB.out.1, HB.out.2]; exact fun _ => hok⟩
theorem setstr_none {w : World} {g : Nat} {v : Value} :
    Calls Tryz.prog 105 #[.pointer (some ⟨g, 0, none⟩), .string ⟨#[]⟩, v] w (TextSet w g [] ) := by
  go_enter Tryz.func105, Tryz.ntmps105
  go_wp2_with fail
  refine bodyPost_ret (v := .tuple #[.pointer none, .bool false]) (by simp [results, Tryz.results105, go_sem]) rfl ?_
  exact ⟨none, false, rfl, grown_below (Below.refl _ _), fun h => absurd rfl h⟩
theorem setstr_any {w : World} {g : Nat} {s : ByteArray} {v : Value} (hz : IntS w g) (hl : s.size ≤ 100000000) :
    Calls Tryz.prog 105 #[.pointer (some ⟨g, 0, none⟩), .string s, v] w (TextSet w g s.data.toList) := by
  rcases Nat.eq_zero_or_pos s.size with h | h
  · have hl : s.data.toList.length = s.size := Array.length_toList
    obtain rfl := str_empty (List.eq_nil_of_length_eq_zero (show s.data.toList.length = 0 by omega))
    exact setstr_none
  · by_cases h1 : s[0] = 45
    · exact setstr_neg hz hl h h1
    · by_cases h2 : s[0] = 43
      · exact setstr_plus hz hl h h2
      · exact setstr_bare hz hl h h1 h2
end Go.Proofs.YtebpggfccljagaaGreatDoor

/- whole.Shift (printed by gen_shift.py). -/
namespace Go.Proofs.YtebpggfccljagaaGreatDoor
open Go.RowKit
open Wh
set_option linter.unusedSimpArgs false

theorem tells_form {W w5 : World} {z : Int} {e : Ending} (h : Tells W z e w5) : ∃ (sn : Bool) (bn : ByteArray) (cd : Int), e = .returned (.tuple #[.agg #[.bool sn, .string bn], .int .i64 cd]) ∧ Below W.heap.size W w5 ∧ ∀ w w' (ok : Prop), ok → Below w.heap.size w w' → Ans w ok z (.returned (.tuple #[.agg #[.bool sn, .string bn], .int .i64 cd])) w' := by
  obtain ⟨t1, t2, hb⟩ := h
  by_cases hf : fits z
  · exact ⟨_, _, 0, t1 hf, hb, fun w w' ok hok hb => ⟨fun _ _ => rfl, fun _ h => absurd hf h, fun h => absurd hok h, hb⟩⟩
  · exact ⟨_, _, 4, t2 hf, hb, fun w w' ok hok hb => ⟨fun _ h => absurd h hf, fun _ _ => rfl, fun h => absurd hok h, hb⟩⟩
end Go.Proofs.YtebpggfccljagaaGreatDoor

/- whole.Read (printed by gen_read.py). -/
namespace Go.Proofs.YtebpggfccljagaaGreatDoor
open Go.RowKit
open Wh
set_option linter.unusedSimpArgs false
set_option linter.unusedVariables false

/-- is it a number's text, behind its sign? -/
def GoodAt (l : List UInt8) (F : Nat) : Prop := (∀ j b, F ≤ j → l[j]? = some b → IsDig b) ∧ F < l.length ∧ (l[F]? = some 48 → l.length ≤ 1)
def rfirst (l : List UInt8) : Nat := if signOf l then 1 else 0
def Good (l : List UInt8) : Prop := GoodAt l (rfirst l)
def rval (l : List UInt8) : Int := sgn (signOf l) (dv (l.drop (rfirst l)))
theorem good_dig {l : List UInt8} {F : Nat} (h : GoodAt l F) : AllDig (l.drop F) ∧ l.drop F ≠ [] := by
  refine ⟨fun b hb => ?_, fun h0 => ?_⟩
  · obtain ⟨j, hj⟩ := List.mem_iff_getElem?.1 hb
    rw [List.getElem?_drop] at hj
    exact h.1 _ b (Nat.le_add_right F j) hj
  · have h1 := List.length_drop (i := F) (l := l)
    rw [h0] at h1
    have h2 := h.2.1
    simp only [List.length_nil] at h1
    omega
theorem good_body {l : List UInt8} (h : Good l) : bodyOfText l = l.drop (rfirst l) := by
  unfold bodyOfText rfirst
  unfold Good rfirst at h
  by_cases hs : signOf l = true
  · have h1 : l.head? = some 45 := by unfold signOf at hs; exact beq_iff_eq.1 hs
    rw [if_pos (.inl h1), if_pos hs, List.drop_one]
  · have h1 : ¬ l.head? = some 45 := fun h0 => hs (by unfold signOf; rw [h0]; rfl)
    have h2 : ¬ l.head? = some 43 := fun h0 => by
      rw [if_neg hs] at h
      have h3 := h.1 0 43 (Nat.le_refl _) (by rw [← List.head?_eq_getElem?]; exact h0)
      unfold IsDig at h3
      exact absurd h3.1 (by decide)
    rw [if_neg (fun h0 => h0.elim h1 h2), if_neg hs, List.drop_zero]
/-- what Read tells -/
def Readd (w : World) (l : List UInt8) (e : Ending) (w' : World) : Prop :=
  (40000 < l.length → e = .returned (.tuple #[none_, .int .i64 3])) ∧ (l.length ≤ 40000 → ¬ Good l → e = .returned (.tuple #[none_, .int .i64 120])) ∧
  (l.length ≤ 40000 → Good l → fits (rval l) → e = .returned (.tuple #[enc (rval l), .int .i64 0])) ∧ (l.length ≤ 40000 → Good l → ¬ fits (rval l) → e = .returned (.tuple #[none_, .int .i64 4])) ∧ Below w.heap.size w w'
theorem dv_len {l : List UInt8} (h : AllDig l) (hl : l.length ≤ 40000) : (wds (dv l)).length ≤ 40000 := by
  refine Nat.le_trans (len_wds (k := l.length) ?_) hl
  exact Nat.lt_of_lt_of_le (dv_lt _ l rfl h) (Nat.pow_le_pow_left (by decide) _)
theorem grown_w {w w' : World} {o o' : Obj} (hg : ((w.alloc o).alloc o').grownBy w' (some (w.heap.size + 1))) : Below (w.heap.size + 1) (w.alloc o) w' :=
  (((Below.refl (w.heap.size + 1) (w.alloc o)).alloc (by simp) o')).grown hg (by simp) (fun k hk => by injection hk with hk; omega)
set_option maxRecDepth 100000 in
theorem wread_long {w : World} {s : ByteArray} (h : 40000 < s.size) : Calls Tryz.prog 86 #[.string s] w (Readd w s.data.toList) := by
  have hl : s.data.toList.length = s.size := Array.length_toList
  have hi : (40000 : Int) < (s.size : Int) := by omega
  have Hl := Lib.hid (And.intro hl h)
  clear hl h
  go_enter Tryz.func86, Tryz.ntmps86
  go_wp2_with fail
  go_step3
  go_wp2_with fail
  rw [Exit.noGoto_ret]
  refine bodyPost_ret (v := .tuple #[.agg #[.bool false, .string ⟨#[]⟩], .int .i64 3]) (by simp [results, Tryz.results86, go_sem]) rfl ?_
  have hb := new_below w (.cells #[.bool false, .string ⟨#[]⟩] 34)
  exact ⟨fun _ => rfl, fun h => absurd h (by have := Hl.out; omega), fun h => absurd h (by have := Hl.out; omega), fun h => absurd h (by have := Hl.out; omega), hb⟩
set_option maxRecDepth 100000 in
set_option maxHeartbeats 2000000 in
theorem wread_neg {w : World} {s : ByteArray} (hs : s.size ≤ 40000) (h0 : 0 < s.size) (hc : s[0] = 45) : Calls Tryz.prog 86 #[.string s] w (Readd w s.data.toList) := by
  have hF : rfirst s.data.toList = 1 := by
    unfold rfirst signOf
    rw [head_of h0, hc]; rfl
  have hd0 : s[0].toNat = 45 := by rw [hc]; rfl
  obtain ⟨q1, q2⟩ := str_facts h0
  clear hc
  obtain ⟨l, hle⟩ : ∃ l, l = s.data.toList := ⟨_, rfl⟩
  have hl : l.length = s.size := by rw [hle]; exact Array.length_toList
  have hget : ∀ j (h : j < s.size) (h' : j < l.length), s[j] = l[j] := by subst hle; intro j h h'; rfl
  rw [← hle] at hF ⊢
  have HF := Lib.hid hF
  have hb := new_below w (.cells #[.bool false, .string ⟨#[]⟩] 34)
  have k2 := Blk.new w 34 #[.bool false, .string ⟨#[]⟩]
  have Hb := Lib.hid (And.intro hb k2)
  have hz : IntS ((w.alloc (.cells #[.bool false, .string ⟨#[]⟩] 34)).alloc (.cells #[.bool false, .slice none 0 0] 151)) (w.heap.size + 1) := by
    have := zslot (w.alloc (.cells #[.bool false, .string ⟨#[]⟩] 34))
    rw [World.size_alloc] at this
    exact this
  have Hz := Lib.hid hz
  have Hn := Lib.hid (And.intro (show l.length ≤ 40000 by omega) (And.intro hl (And.intro hget hle)))
  have hsi : (s.size : Int) ≤ 40000 := by omega
  clear hb k2 hz hl hget hle hF
  go_enter Tryz.func86, Tryz.ntmps86
  go_wp2_with fail
  go_step3
  go_wp2_with fail
  go_step3
  go_wp2_with fail
  go_loopg [4, 6] (s.size - 1) (fun k av cv wr => ∃ i : Nat, av = .int .i64 (i : Int) ∧ Hid (k = s.size - i) ∧ 1 ≤ i ∧ i ≤ s.size ∧ Hid ((∀ j b, 1 ≤ j → j < i → l[j]? = some b → IsDig b) ∧ (1 < i → l[1]? = some 48 → l.length ≤ 1)) ∧ w.alloc (.cells #[.bool false, .string ⟨#[]⟩] 34) = wr)
  case atStart => exact ⟨1, rfl, Lib.hid rfl, Nat.le_refl _, by omega, Lib.hid ⟨fun j b h1 h2 => by omega, fun h => by omega⟩, rfl⟩
  case round =>
    obtain ⟨i, rfl, Hk, hFi, hin, HI, rfl⟩ := hrel
    have hz := Hz.out
    by_cases hi : i < s.size
    · have hil : i < l.length := by have := Hn.out.2.1; omega
      have hyi : s[i] = l[i] := Hn.out.2.2.1 i hi hil
      have hli : l[i]? = some l[i] := List.getElem?_eq_getElem hil
      obtain ⟨y, hy⟩ : ∃ y, y = l[i] := ⟨_, rfl⟩
      rw [← hy] at hyi hli
      have hyn : s[i].toNat = y.toNat := by rw [hyi]
      have Hli := Lib.hid hli
      have hy8 := UInt8.toNat_lt y
      have hii : (i : Int) < (s.size : Int) := by omega
      clear hy hyi hli hil
      by_cases hd : IsDig y
      · have Hd := Lib.hid hd
        obtain ⟨g1, g2⟩ := hd
        have g3 : (48 : Int) ≤ (y.toNat : Int) := by omega
        have g4 : (y.toNat : Int) ≤ 57 := by omega
        by_cases hlead : y.toNat = 48 ∧ i = 1 ∧ 1 < s.size
        · obtain ⟨e1, rfl, e3⟩ := hlead
          have e4 : (1 : Int) < (s.size : Int) := by omega
          have Hno := Lib.hid (show ¬ Good l by
            unfold Good
            rw [HF.out]
            intro h
            have h1 := h.2.2 (by rw [Hli.out]; congr 1; exact UInt8.toNat_inj.1 e1)
            have := Hn.out.2.1
            omega)
          rw [e1] at hyn
          have HS := Lib.hid (setstr_any (w := (w.alloc (.cells #[.bool false, .string ⟨#[]⟩] 34)).alloc (.cells #[.bool false, .slice none 0 0] 151)) (g := w.heap.size + 1) (s := s) (v := .int .i64 10) hz (by omega))
          go_wp2_with fail
          refine HS.out.mono ?_
          rintro e w6 ⟨p, b, rfl, hg, hok⟩
          have hb6 := grown_w hg
          have m2 := Hb.out.2.below hb6 (Nat.lt_succ_self _)
          have d0 : w6.cell? ⟨w.heap.size, 0, none⟩ = some (.bool false) := m2.cell 0
          have d1 : w6.cell? ⟨w.heap.size, 1, none⟩ = some (.string ⟨#[]⟩) := m2.cell 1
          have d2 := m2.frozen 0
          have d3 := m2.frozen 1
          have hb06 := Lib.hid (Hb.out.1.trans (hb6.mono (by omega)))
          clear hb6 m2 HS
          go_wp2_with fail
          rw [Exit.noGoto_ret]
          refine bodyPost_ret (v := .tuple #[.agg #[.bool false, .string ⟨#[]⟩], .int .i64 120]) (by simp [results, Tryz.results86, go_sem, d0, d1]) rfl ?_
          exact ⟨fun h => absurd Hn.out.1 (by omega), fun _ _ => rfl, fun _ h => absurd h Hno.out, fun _ h => absurd h Hno.out, (hb06.out.setCell (Nat.le_refl w.heap.size) _).setCell (Nat.le_refl w.heap.size) _⟩
        · have hl0 : ((y.toNat : Int) == 48 && ((i : Int) == 1) && decide ((1 : Int) < (s.size : Int))) = false := by
            rw [Bool.and_eq_false_iff, Bool.and_eq_false_iff]
            by_cases e1 : y.toNat = 48
            · by_cases e2 : i = 1
              · exact .inr (decide_eq_false (by omega))
              · exact .inl (.inr (beq_eq_false_iff_ne.2 (by omega)))
            · exact .inl (.inl (beq_eq_false_iff_ne.2 (by omega)))
          have Hlead := Lib.hid hlead
          clear hlead
          have hcase : (y.toNat : Int) ≠ 48 ∨ (i : Int) ≠ 1 ∨ (s.size : Int) ≤ 1 := by
            have := Hlead.out
            omega
          have HX : Hid ((∀ j b, 1 ≤ j → j < i + 1 → l[j]? = some b → IsDig b) ∧ (1 < i + 1 → l[1]? = some 48 → l.length ≤ 1)) := by
            refine Lib.hid ⟨fun j b h1 h2 h3 => ?_, fun h1 h2 => ?_⟩
            · rcases Nat.lt_or_ge j i with h4 | h4
              · exact HI.out.1 j b h1 h4 h3
              · obtain rfl : j = i := by omega
                rw [Hli.out] at h3
                injection h3 with h3
                subst h3
                exact Hd.out
            · rcases Nat.lt_or_ge 1 i with h4 | h4
              · exact HI.out.2 h4 h2
              · obtain rfl : i = 1 := by omega
                rw [Hli.out] at h2
                injection h2 with h2
                have h5 : ¬ 1 < s.size := fun h => Hlead.out ⟨by rw [h2]; rfl, rfl, h⟩
                have := Hn.out.2.1
                omega
          rcases hcase with hc | hc | hc
          · have hc2 : ((y.toNat : Int) == 48) = false := beq_eq_false_iff_ne.2 hc
            clear hl0 hc
            go_wp2_with fail
            go_roundg (s.size - (i + 1))
            case measure => have := Hk.out; omega
            case rel => exact ⟨i + 1, rfl, Lib.hid rfl, by omega, by omega, HX, rfl⟩
          · have hc2 : ((i : Int) == 1) = false := beq_eq_false_iff_ne.2 hc
            have hc21 : (i == 1) = false := beq_eq_false_iff_ne.2 (by omega)
            have hc22 : ¬ i = 1 := by omega
            clear hl0
            by_cases hc3 : y.toNat = 48
            · rw [hc3] at hyn
              go_wp2_with fail
              go_roundg (s.size - (i + 1))
              case measure => have := Hk.out; omega
              case rel => exact ⟨i + 1, rfl, Lib.hid rfl, by omega, by omega, HX, rfl⟩
            · have hc4 : ((y.toNat : Int) == 48) = false := beq_eq_false_iff_ne.2 (by omega)
              go_wp2_with fail
              go_roundg (s.size - (i + 1))
              case measure => have := Hk.out; omega
              case rel => exact ⟨i + 1, rfl, Lib.hid rfl, by omega, by omega, HX, rfl⟩
          · exfalso
            omega
      · have Hno := Lib.hid (show ¬ Good l by
          unfold Good
          rw [HF.out]
          intro h
          exact hd (h.1 i y hFi Hli.out))
        have Hd := Lib.hid hd
        rcases Nat.lt_or_ge y.toNat 48 with g1 | g1
        · have g3 : (y.toNat : Int) < 48 := by omega
          clear hd
          have HS := Lib.hid (setstr_any (w := (w.alloc (.cells #[.bool false, .string ⟨#[]⟩] 34)).alloc (.cells #[.bool false, .slice none 0 0] 151)) (g := w.heap.size + 1) (s := s) (v := .int .i64 10) hz (by omega))
          go_wp2_with fail
          refine HS.out.mono ?_
          rintro e w6 ⟨p, b, rfl, hg, hok⟩
          have hb6 := grown_w hg
          have m2 := Hb.out.2.below hb6 (Nat.lt_succ_self _)
          have d0 : w6.cell? ⟨w.heap.size, 0, none⟩ = some (.bool false) := m2.cell 0
          have d1 : w6.cell? ⟨w.heap.size, 1, none⟩ = some (.string ⟨#[]⟩) := m2.cell 1
          have d2 := m2.frozen 0
          have d3 := m2.frozen 1
          have hb06 := Lib.hid (Hb.out.1.trans (hb6.mono (by omega)))
          clear hb6 m2 HS
          go_wp2_with fail
          rw [Exit.noGoto_ret]
          refine bodyPost_ret (v := .tuple #[.agg #[.bool false, .string ⟨#[]⟩], .int .i64 120]) (by simp [results, Tryz.results86, go_sem, d0, d1]) rfl ?_
          exact ⟨fun h => absurd Hn.out.1 (by omega), fun _ _ => rfl, fun _ h => absurd h Hno.out, fun _ h => absurd h Hno.out, (hb06.out.setCell (Nat.le_refl w.heap.size) _).setCell (Nat.le_refl w.heap.size) _⟩
        · have g3 : (48 : Int) ≤ (y.toNat : Int) := by omega
          have g4 : (57 : Int) < (y.toNat : Int) := by
            have := Hd.out
            unfold IsDig at this
            omega
          clear hd
          have HS := Lib.hid (setstr_any (w := (w.alloc (.cells #[.bool false, .string ⟨#[]⟩] 34)).alloc (.cells #[.bool false, .slice none 0 0] 151)) (g := w.heap.size + 1) (s := s) (v := .int .i64 10) hz (by omega))
          go_wp2_with fail
          refine HS.out.mono ?_
          rintro e w6 ⟨p, b, rfl, hg, hok⟩
          have hb6 := grown_w hg
          have m2 := Hb.out.2.below hb6 (Nat.lt_succ_self _)
          have d0 : w6.cell? ⟨w.heap.size, 0, none⟩ = some (.bool false) := m2.cell 0
          have d1 : w6.cell? ⟨w.heap.size, 1, none⟩ = some (.string ⟨#[]⟩) := m2.cell 1
          have d2 := m2.frozen 0
          have d3 := m2.frozen 1
          have hb06 := Lib.hid (Hb.out.1.trans (hb6.mono (by omega)))
          clear hb6 m2 HS
          go_wp2_with fail
          rw [Exit.noGoto_ret]
          refine bodyPost_ret (v := .tuple #[.agg #[.bool false, .string ⟨#[]⟩], .int .i64 120]) (by simp [results, Tryz.results86, go_sem, d0, d1]) rfl ?_
          exact ⟨fun h => absurd Hn.out.1 (by omega), fun _ _ => rfl, fun _ h => absurd h Hno.out, fun _ h => absurd h Hno.out, (hb06.out.setCell (Nat.le_refl w.heap.size) _).setCell (Nat.le_refl w.heap.size) _⟩
    · have hin2 : i = s.size := by omega
      subst hin2
      have hlt : ∀ j b, l[j]? = some b → j < s.size := fun j b h => by
        rcases Nat.lt_or_ge j l.length with h1 | h1
        · have := Hn.out.2.1; omega
        · rw [List.getElem?_eq_none h1] at h; cases h
      have Hlt := Lib.hid hlt
      clear hlt hi
      by_cases hnF : s.size = 1
      · have hnb : ((s.size : Int) == 1) = true := beq_iff_eq.2 (by omega)
        have hn0 : (s.size : Int) = 1 := by omega
        have Hno := Lib.hid (show ¬ Good l by
          unfold Good
          rw [HF.out]
          intro h
          have h1 := h.2.1
          have := Hn.out.2.1
          omega)
        clear hnF
        have HS := Lib.hid (setstr_any (w := (w.alloc (.cells #[.bool false, .string ⟨#[]⟩] 34)).alloc (.cells #[.bool false, .slice none 0 0] 151)) (g := w.heap.size + 1) (s := s) (v := .int .i64 10) hz (by omega))
        go_wp2_with fail
        refine HS.out.mono ?_
        rintro e w6 ⟨p, b, rfl, hg, hok⟩
        have hb6 := grown_w hg
        have m2 := Hb.out.2.below hb6 (Nat.lt_succ_self _)
        have d0 : w6.cell? ⟨w.heap.size, 0, none⟩ = some (.bool false) := m2.cell 0
        have d1 : w6.cell? ⟨w.heap.size, 1, none⟩ = some (.string ⟨#[]⟩) := m2.cell 1
        have d2 := m2.frozen 0
        have d3 := m2.frozen 1
        have hb06 := Lib.hid (Hb.out.1.trans (hb6.mono (by omega)))
        clear hb6 m2 HS
        go_wp2_with fail
        rw [Exit.noGoto_ret]
        refine bodyPost_ret (v := .tuple #[.agg #[.bool false, .string ⟨#[]⟩], .int .i64 120]) (by simp [results, Tryz.results86, go_sem, d0, d1]) rfl ?_
        exact ⟨fun h => absurd Hn.out.1 (by omega), fun _ _ => rfl, fun _ h => absurd h Hno.out, fun _ h => absurd h Hno.out, (hb06.out.setCell (Nat.le_refl w.heap.size) _).setCell (Nat.le_refl w.heap.size) _⟩
      · have hnb : ((s.size : Int) == 1) = false := beq_eq_false_iff_ne.2 (by omega)
        have hnb1 : (s.size == 1) = false := beq_eq_false_iff_ne.2 hnF
        have hnb2 : ¬ s.size = 1 := hnF
        have hnb3 : ¬ s = ByteArray.empty := fun h => by rw [h] at h0; exact absurd h0 (by decide)
        have HG := Lib.hid (show Good l by
          unfold Good
          rw [HF.out]
          exact ⟨fun j b h1 h2 => HI.out.1 j b h1 (Hlt.out j b h2) h2, by have := Hn.out.2.1; omega, fun h => HI.out.2 (by omega) h⟩)
        clear hnF
        have HS := Lib.hid (setstr_any (w := (w.alloc (.cells #[.bool false, .string ⟨#[]⟩] 34)).alloc (.cells #[.bool false, .slice none 0 0] 151)) (g := w.heap.size + 1) (s := s) (v := .int .i64 10) hz (by omega))
        go_wp2_with fail
        refine HS.out.mono ?_
        rintro e w6 ⟨p, b, rfl, hg, hok⟩
        have hb6 := grown_w hg
        have m2 := Hb.out.2.below hb6 (Nat.lt_succ_self _)
        have d0 : w6.cell? ⟨w.heap.size, 0, none⟩ = some (.bool false) := m2.cell 0
        have d1 : w6.cell? ⟨w.heap.size, 1, none⟩ = some (.string ⟨#[]⟩) := m2.cell 1
        have d2 := m2.frozen 0
        have d3 := m2.frozen 1
        have hb06 := Lib.hid (Hb.out.1.trans (hb6.mono (by omega)))
        clear hb6 m2 HS
        rw [← Hn.out.2.2.2, good_body HG.out] at hok
        obtain ⟨rfl, rfl, hi6⟩ := hok (good_dig HG.out).2 (good_dig HG.out).1
        have hlen : (wds (rval l).natAbs).length ≤ 40000 := by
          unfold rval
          rw [sgn_abs]
          exact dv_len (good_dig HG.out).1 (Nat.le_trans (by rw [List.length_drop]; omega) Hn.out.1)
        have HT := Lib.hid (told_any (z := rval l) hi6 (Nat.le_trans hlen (by decide)))
        have Hm6 := Lib.hid (show Blk w6 w.heap.size 34 #[.bool false, .string ⟨#[]⟩] from Hb.out.2.below (grown_w hg) (Nat.lt_succ_self _))
        clear hi6 hg hlen
        go_wp2_with fail
        refine HT.out.mono ?_
        intro e w7 hT
        obtain ⟨sn, bn, cd, rfl, hb7, hfin⟩ := tells_form hT
        have m3 := Hm6.out.below hb7 Hm6.out.lt
        have y0 : w7.cell? ⟨w.heap.size, 0, none⟩ = some (.bool false) := m3.cell 0
        have y1 : w7.cell? ⟨w.heap.size, 1, none⟩ = some (.string ⟨#[]⟩) := m3.cell 1
        have y2 := m3.frozen 0
        have y3 := m3.frozen 1
        have hb07 := Lib.hid (hb06.out.trans (hb7.mono hb06.out.size))
        clear hT m3 hb7 d0 d1 d2 d3
        go_wp2_with fail
        rw [Exit.noGoto_ret]
        refine bodyPost_ret (v := .tuple #[.agg #[.bool sn, .string bn], .int .i64 cd]) (by simp [results, Tryz.results86, go_sem, y0, y1]) rfl ?_
        have hA := hfin w _ True trivial ((hb07.out.setCell (p := ⟨w.heap.size, 0, none⟩) (Nat.le_refl w.heap.size) (.bool sn)).setCell (p := ⟨w.heap.size, 1, none⟩) (Nat.le_refl w.heap.size) (.string bn))
        exact ⟨fun h => absurd Hn.out.1 (by omega), fun _ h => absurd HG.out h, fun _ _ hf => hA.1 trivial hf, fun _ _ hf => hA.2.1 trivial hf, hA.2.2.2⟩
set_option maxRecDepth 100000 in
set_option maxHeartbeats 2000000 in
theorem wread_bare {w : World} {s : ByteArray} (hs : s.size ≤ 40000) (h0 : 0 < s.size) (hc : s[0] ≠ 45) : Calls Tryz.prog 86 #[.string s] w (Readd w s.data.toList) := by
  have hF : rfirst s.data.toList = 0 := by
    unfold rfirst signOf
    rw [head_of h0, if_neg]
    intro h
    have h1 := beq_iff_eq.1 h
    injection h1 with h1
    exact hc h1
  have hd0 : s[0].toNat ≠ 45 := fun h => hc (UInt8.toNat_inj.1 h)
  have hd1 : ((s[0].toNat : Int) == 45) = false := beq_eq_false_iff_ne.2 (by omega)
  obtain ⟨q1, q2⟩ := str_facts h0
  clear hc
  obtain ⟨l, hle⟩ : ∃ l, l = s.data.toList := ⟨_, rfl⟩
  have hl : l.length = s.size := by rw [hle]; exact Array.length_toList
  have hget : ∀ j (h : j < s.size) (h' : j < l.length), s[j] = l[j] := by subst hle; intro j h h'; rfl
  rw [← hle] at hF ⊢
  have HF := Lib.hid hF
  have hb := new_below w (.cells #[.bool false, .string ⟨#[]⟩] 34)
  have k2 := Blk.new w 34 #[.bool false, .string ⟨#[]⟩]
  have Hb := Lib.hid (And.intro hb k2)
  have hz : IntS ((w.alloc (.cells #[.bool false, .string ⟨#[]⟩] 34)).alloc (.cells #[.bool false, .slice none 0 0] 151)) (w.heap.size + 1) := by
    have := zslot (w.alloc (.cells #[.bool false, .string ⟨#[]⟩] 34))
    rw [World.size_alloc] at this
    exact this
  have Hz := Lib.hid hz
  have Hn := Lib.hid (And.intro (show l.length ≤ 40000 by omega) (And.intro hl (And.intro hget hle)))
  have hsi : (s.size : Int) ≤ 40000 := by omega
  clear hb k2 hz hl hget hle hF
  go_enter Tryz.func86, Tryz.ntmps86
  go_wp2_with fail
  go_step3
  go_wp2_with fail
  go_step3
  go_wp2_with fail
  go_loopg [4, 6] (s.size - 0) (fun k av cv wr => ∃ i : Nat, av = .int .i64 (i : Int) ∧ Hid (k = s.size - i) ∧ 0 ≤ i ∧ i ≤ s.size ∧ Hid ((∀ j b, 0 ≤ j → j < i → l[j]? = some b → IsDig b) ∧ (0 < i → l[0]? = some 48 → l.length ≤ 1)) ∧ w.alloc (.cells #[.bool false, .string ⟨#[]⟩] 34) = wr)
  case atStart => exact ⟨0, rfl, Lib.hid rfl, Nat.le_refl _, by omega, Lib.hid ⟨fun j b h1 h2 => by omega, fun h => by omega⟩, rfl⟩
  case round =>
    obtain ⟨i, rfl, Hk, hFi, hin, HI, rfl⟩ := hrel
    have hz := Hz.out
    by_cases hi : i < s.size
    · have hil : i < l.length := by have := Hn.out.2.1; omega
      have hyi : s[i] = l[i] := Hn.out.2.2.1 i hi hil
      have hli : l[i]? = some l[i] := List.getElem?_eq_getElem hil
      obtain ⟨y, hy⟩ : ∃ y, y = l[i] := ⟨_, rfl⟩
      rw [← hy] at hyi hli
      have hyn : s[i].toNat = y.toNat := by rw [hyi]
      have Hli := Lib.hid hli
      have hy8 := UInt8.toNat_lt y
      have hii : (i : Int) < (s.size : Int) := by omega
      clear hy hyi hli hil
      by_cases hd : IsDig y
      · have Hd := Lib.hid hd
        obtain ⟨g1, g2⟩ := hd
        have g3 : (48 : Int) ≤ (y.toNat : Int) := by omega
        have g4 : (y.toNat : Int) ≤ 57 := by omega
        by_cases hlead : y.toNat = 48 ∧ i = 0 ∧ 1 < s.size
        · obtain ⟨e1, rfl, e3⟩ := hlead
          have e4 : (1 : Int) < (s.size : Int) := by omega
          have Hno := Lib.hid (show ¬ Good l by
            unfold Good
            rw [HF.out]
            intro h
            have h1 := h.2.2 (by rw [Hli.out]; congr 1; exact UInt8.toNat_inj.1 e1)
            have := Hn.out.2.1
            omega)
          rw [e1] at hyn
          have HS := Lib.hid (setstr_any (w := (w.alloc (.cells #[.bool false, .string ⟨#[]⟩] 34)).alloc (.cells #[.bool false, .slice none 0 0] 151)) (g := w.heap.size + 1) (s := s) (v := .int .i64 10) hz (by omega))
          go_wp2_with fail
          refine HS.out.mono ?_
          rintro e w6 ⟨p, b, rfl, hg, hok⟩
          have hb6 := grown_w hg
          have m2 := Hb.out.2.below hb6 (Nat.lt_succ_self _)
          have d0 : w6.cell? ⟨w.heap.size, 0, none⟩ = some (.bool false) := m2.cell 0
          have d1 : w6.cell? ⟨w.heap.size, 1, none⟩ = some (.string ⟨#[]⟩) := m2.cell 1
          have d2 := m2.frozen 0
          have d3 := m2.frozen 1
          have hb06 := Lib.hid (Hb.out.1.trans (hb6.mono (by omega)))
          clear hb6 m2 HS
          go_wp2_with fail
          rw [Exit.noGoto_ret]
          refine bodyPost_ret (v := .tuple #[.agg #[.bool false, .string ⟨#[]⟩], .int .i64 120]) (by simp [results, Tryz.results86, go_sem, d0, d1]) rfl ?_
          exact ⟨fun h => absurd Hn.out.1 (by omega), fun _ _ => rfl, fun _ h => absurd h Hno.out, fun _ h => absurd h Hno.out, (hb06.out.setCell (Nat.le_refl w.heap.size) _).setCell (Nat.le_refl w.heap.size) _⟩
        · have hl0 : ((y.toNat : Int) == 48 && ((i : Int) == 0) && decide ((1 : Int) < (s.size : Int))) = false := by
            rw [Bool.and_eq_false_iff, Bool.and_eq_false_iff]
            by_cases e1 : y.toNat = 48
            · by_cases e2 : i = 0
              · exact .inr (decide_eq_false (by omega))
              · exact .inl (.inr (beq_eq_false_iff_ne.2 (by omega)))
            · exact .inl (.inl (beq_eq_false_iff_ne.2 (by omega)))
          have Hlead := Lib.hid hlead
          clear hlead
          have hcase : (y.toNat : Int) ≠ 48 ∨ (i : Int) ≠ 0 ∨ (s.size : Int) ≤ 1 := by
            have := Hlead.out
            omega
          have HX : Hid ((∀ j b, 0 ≤ j → j < i + 1 → l[j]? = some b → IsDig b) ∧ (0 < i + 1 → l[0]? = some 48 → l.length ≤ 1)) := by
            refine Lib.hid ⟨fun j b h1 h2 h3 => ?_, fun h1 h2 => ?_⟩
            · rcases Nat.lt_or_ge j i with h4 | h4
              · exact HI.out.1 j b h1 h4 h3
              · obtain rfl : j = i := by omega
                rw [Hli.out] at h3
                injection h3 with h3
                subst h3
                exact Hd.out
            · rcases Nat.lt_or_ge 0 i with h4 | h4
              · exact HI.out.2 h4 h2
              · obtain rfl : i = 0 := by omega
                rw [Hli.out] at h2
                injection h2 with h2
                have h5 : ¬ 1 < s.size := fun h => Hlead.out ⟨by rw [h2]; rfl, rfl, h⟩
                have := Hn.out.2.1
                omega
          rcases hcase with hc | hc | hc
          · have hc2 : ((y.toNat : Int) == 48) = false := beq_eq_false_iff_ne.2 hc
            clear hl0 hc
            go_wp2_with fail
            go_roundg (s.size - (i + 1))
            case measure => have := Hk.out; omega
            case rel => exact ⟨i + 1, rfl, Lib.hid rfl, by omega, by omega, HX, rfl⟩
          · have hc2 : ((i : Int) == 0) = false := beq_eq_false_iff_ne.2 hc
            have hc21 : (i == 0) = false := beq_eq_false_iff_ne.2 (by omega)
            have hc22 : ¬ i = 0 := by omega
            clear hl0
            by_cases hc3 : y.toNat = 48
            · rw [hc3] at hyn
              go_wp2_with fail
              go_roundg (s.size - (i + 1))
              case measure => have := Hk.out; omega
              case rel => exact ⟨i + 1, rfl, Lib.hid rfl, by omega, by omega, HX, rfl⟩
            · have hc4 : ((y.toNat : Int) == 48) = false := beq_eq_false_iff_ne.2 (by omega)
              go_wp2_with fail
              go_roundg (s.size - (i + 1))
              case measure => have := Hk.out; omega
              case rel => exact ⟨i + 1, rfl, Lib.hid rfl, by omega, by omega, HX, rfl⟩
          · clear hl0
            have hc7 : decide ((1 : Int) < (s.size : Int)) = false := decide_eq_false (by omega)
            have hc8 : ¬ 1 < s.size := by omega
            have hc9 : decide (1 < s.size) = false := decide_eq_false hc8
            by_cases hc3 : y.toNat = 48
            · rw [hc3] at hyn
              by_cases hc5 : i = 0
              · have hc6 : ((i : Int) == 0) = true := beq_iff_eq.2 (by omega)
                have hc61 : (i == 0) = true := beq_iff_eq.2 (by omega)
                have hyn0 : s[0].toNat = 48 := by subst hc5; exact hyn
                go_wp2_with fail
                go_roundg (s.size - (i + 1))
                case measure => have := Hk.out; omega
                case rel => exact ⟨i + 1, by subst hc5; rfl, Lib.hid rfl, by omega, by omega, HX, rfl⟩
              · have hc6 : ((i : Int) == 0) = false := beq_eq_false_iff_ne.2 (by omega)
                have hc61 : (i == 0) = false := beq_eq_false_iff_ne.2 (by omega)
                go_wp2_with fail
                go_roundg (s.size - (i + 1))
                case measure => have := Hk.out; omega
                case rel => exact ⟨i + 1, rfl, Lib.hid rfl, by omega, by omega, HX, rfl⟩
            · have hc4 : ((y.toNat : Int) == 48) = false := beq_eq_false_iff_ne.2 (by omega)
              go_wp2_with fail
              go_roundg (s.size - (i + 1))
              case measure => have := Hk.out; omega
              case rel => exact ⟨i + 1, rfl, Lib.hid rfl, by omega, by omega, HX, rfl⟩
      · have Hno := Lib.hid (show ¬ Good l by
          unfold Good
          rw [HF.out]
          intro h
          exact hd (h.1 i y hFi Hli.out))
        have Hd := Lib.hid hd
        rcases Nat.lt_or_ge y.toNat 48 with g1 | g1
        · have g3 : (y.toNat : Int) < 48 := by omega
          clear hd
          have HS := Lib.hid (setstr_any (w := (w.alloc (.cells #[.bool false, .string ⟨#[]⟩] 34)).alloc (.cells #[.bool false, .slice none 0 0] 151)) (g := w.heap.size + 1) (s := s) (v := .int .i64 10) hz (by omega))
          go_wp2_with fail
          refine HS.out.mono ?_
          rintro e w6 ⟨p, b, rfl, hg, hok⟩
          have hb6 := grown_w hg
          have m2 := Hb.out.2.below hb6 (Nat.lt_succ_self _)
          have d0 : w6.cell? ⟨w.heap.size, 0, none⟩ = some (.bool false) := m2.cell 0
          have d1 : w6.cell? ⟨w.heap.size, 1, none⟩ = some (.string ⟨#[]⟩) := m2.cell 1
          have d2 := m2.frozen 0
          have d3 := m2.frozen 1
          have hb06 := Lib.hid (Hb.out.1.trans (hb6.mono (by omega)))
          clear hb6 m2 HS
          go_wp2_with fail
          rw [Exit.noGoto_ret]
          refine bodyPost_ret (v := .tuple #[.agg #[.bool false, .string ⟨#[]⟩], .int .i64 120]) (by simp [results, Tryz.results86, go_sem, d0, d1]) rfl ?_
          exact ⟨fun h => absurd Hn.out.1 (by omega), fun _ _ => rfl, fun _ h => absurd h Hno.out, fun _ h => absurd h Hno.out, (hb06.out.setCell (Nat.le_refl w.heap.size) _).setCell (Nat.le_refl w.heap.size) _⟩
        · have g3 : (48 : Int) ≤ (y.toNat : Int) := by omega
          have g4 : (57 : Int) < (y.toNat : Int) := by
            have := Hd.out
            unfold IsDig at this
            omega
          clear hd
          have HS := Lib.hid (setstr_any (w := (w.alloc (.cells #[.bool false, .string ⟨#[]⟩] 34)).alloc (.cells #[.bool false, .slice none 0 0] 151)) (g := w.heap.size + 1) (s := s) (v := .int .i64 10) hz (by omega))
          go_wp2_with fail
          refine HS.out.mono ?_
          rintro e w6 ⟨p, b, rfl, hg, hok⟩
          have hb6 := grown_w hg
          have m2 := Hb.out.2.below hb6 (Nat.lt_succ_self _)
          have d0 : w6.cell? ⟨w.heap.size, 0, none⟩ = some (.bool false) := m2.cell 0
          have d1 : w6.cell? ⟨w.heap.size, 1, none⟩ = some (.string ⟨#[]⟩) := m2.cell 1
          have d2 := m2.frozen 0
          have d3 := m2.frozen 1
          have hb06 := Lib.hid (Hb.out.1.trans (hb6.mono (by omega)))
          clear hb6 m2 HS
          go_wp2_with fail
          rw [Exit.noGoto_ret]
          refine bodyPost_ret (v := .tuple #[.agg #[.bool false, .string ⟨#[]⟩], .int .i64 120]) (by simp [results, Tryz.results86, go_sem, d0, d1]) rfl ?_
          exact ⟨fun h => absurd Hn.out.1 (by omega), fun _ _ => rfl, fun _ h => absurd h Hno.out, fun _ h => absurd h Hno.out, (hb06.out.setCell (Nat.le_refl w.heap.size) _).setCell (Nat.le_refl w.heap.size) _⟩
    · have hin2 : i = s.size := by omega
      subst hin2
      have hlt : ∀ j b, l[j]? = some b → j < s.size := fun j b h => by
        rcases Nat.lt_or_ge j l.length with h1 | h1
        · have := Hn.out.2.1; omega
        · rw [List.getElem?_eq_none h1] at h; cases h
      have Hlt := Lib.hid hlt
      clear hlt hi
      by_cases hnF : s.size = 0
      · exact absurd hnF (by omega)
      · have hnb : ((s.size : Int) == 0) = false := beq_eq_false_iff_ne.2 (by omega)
        have hnb1 : (s.size == 0) = false := beq_eq_false_iff_ne.2 hnF
        have hnb2 : ¬ s.size = 0 := hnF
        have hnb3 : ¬ s = ByteArray.empty := fun h => by rw [h] at h0; exact absurd h0 (by decide)
        have HG := Lib.hid (show Good l by
          unfold Good
          rw [HF.out]
          exact ⟨fun j b h1 h2 => HI.out.1 j b h1 (Hlt.out j b h2) h2, by have := Hn.out.2.1; omega, fun h => HI.out.2 (by omega) h⟩)
        clear hnF
        have HS := Lib.hid (setstr_any (w := (w.alloc (.cells #[.bool false, .string ⟨#[]⟩] 34)).alloc (.cells #[.bool false, .slice none 0 0] 151)) (g := w.heap.size + 1) (s := s) (v := .int .i64 10) hz (by omega))
        go_wp2_with fail
        refine HS.out.mono ?_
        rintro e w6 ⟨p, b, rfl, hg, hok⟩
        have hb6 := grown_w hg
        have m2 := Hb.out.2.below hb6 (Nat.lt_succ_self _)
        have d0 : w6.cell? ⟨w.heap.size, 0, none⟩ = some (.bool false) := m2.cell 0
        have d1 : w6.cell? ⟨w.heap.size, 1, none⟩ = some (.string ⟨#[]⟩) := m2.cell 1
        have d2 := m2.frozen 0
        have d3 := m2.frozen 1
        have hb06 := Lib.hid (Hb.out.1.trans (hb6.mono (by omega)))
        clear hb6 m2 HS
        rw [← Hn.out.2.2.2, good_body HG.out] at hok
        obtain ⟨rfl, rfl, hi6⟩ := hok (good_dig HG.out).2 (good_dig HG.out).1
        have hlen : (wds (rval l).natAbs).length ≤ 40000 := by
          unfold rval
          rw [sgn_abs]
          exact dv_len (good_dig HG.out).1 (Nat.le_trans (by rw [List.length_drop]; omega) Hn.out.1)
        have HT := Lib.hid (told_any (z := rval l) hi6 (Nat.le_trans hlen (by decide)))
        have Hm6 := Lib.hid (show Blk w6 w.heap.size 34 #[.bool false, .string ⟨#[]⟩] from Hb.out.2.below (grown_w hg) (Nat.lt_succ_self _))
        clear hi6 hg hlen
        go_wp2_with fail
        refine HT.out.mono ?_
        intro e w7 hT
        obtain ⟨sn, bn, cd, rfl, hb7, hfin⟩ := tells_form hT
        have m3 := Hm6.out.below hb7 Hm6.out.lt
        have y0 : w7.cell? ⟨w.heap.size, 0, none⟩ = some (.bool false) := m3.cell 0
        have y1 : w7.cell? ⟨w.heap.size, 1, none⟩ = some (.string ⟨#[]⟩) := m3.cell 1
        have y2 := m3.frozen 0
        have y3 := m3.frozen 1
        have hb07 := Lib.hid (hb06.out.trans (hb7.mono hb06.out.size))
        clear hT m3 hb7 d0 d1 d2 d3
        go_wp2_with fail
        rw [Exit.noGoto_ret]
        refine bodyPost_ret (v := .tuple #[.agg #[.bool sn, .string bn], .int .i64 cd]) (by simp [results, Tryz.results86, go_sem, y0, y1]) rfl ?_
        have hA := hfin w _ True trivial ((hb07.out.setCell (p := ⟨w.heap.size, 0, none⟩) (Nat.le_refl w.heap.size) (.bool sn)).setCell (p := ⟨w.heap.size, 1, none⟩) (Nat.le_refl w.heap.size) (.string bn))
        exact ⟨fun h => absurd Hn.out.1 (by omega), fun _ h => absurd HG.out h, fun _ _ hf => hA.1 trivial hf, fun _ _ hf => hA.2.1 trivial hf, hA.2.2.2⟩
theorem wread_none {w : World} : Calls Tryz.prog 86 #[.string ⟨#[]⟩] w (Readd w []) := by
  have hb := new_below w (.cells #[.bool false, .string ⟨#[]⟩] 34)
  have k2 := Blk.new w 34 #[.bool false, .string ⟨#[]⟩]
  have Hb := Lib.hid (And.intro hb k2)
  have hz : IntS ((w.alloc (.cells #[.bool false, .string ⟨#[]⟩] 34)).alloc (.cells #[.bool false, .slice none 0 0] 151)) (w.heap.size + 1) := by
    have := zslot (w.alloc (.cells #[.bool false, .string ⟨#[]⟩] 34))
    rw [World.size_alloc] at this
    exact this
  have HS := Lib.hid (setstr_any (w := (w.alloc (.cells #[.bool false, .string ⟨#[]⟩] 34)).alloc (.cells #[.bool false, .slice none 0 0] 151)) (g := w.heap.size + 1) (s := ⟨#[]⟩) (v := .int .i64 10) hz (by decide))
  have Hno := Lib.hid (show ¬ Good [] from fun h => absurd h.2.1 (by simp))
  clear hb k2 hz
  go_enter Tryz.func86, Tryz.ntmps86
  go_wp2_with fail
  go_step3
  go_wp2_with fail
  go_step3
  go_wp2_with fail
  go_loopg [4, 6] 0 (fun k av cv wr => av = .int .i64 0 ∧ w.alloc (.cells #[.bool false, .string ⟨#[]⟩] 34) = wr)
  case atStart => exact ⟨rfl, rfl⟩
  case round =>
    obtain ⟨rfl, rfl⟩ := hrel
    go_wp2_with fail
    refine HS.out.mono ?_
    rintro e w6 ⟨p, b, rfl, hg, hok⟩
    have hb6 := grown_w hg
    have m2 := Hb.out.2.below hb6 (Nat.lt_succ_self _)
    have d0 : w6.cell? ⟨w.heap.size, 0, none⟩ = some (.bool false) := m2.cell 0
    have d1 : w6.cell? ⟨w.heap.size, 1, none⟩ = some (.string ⟨#[]⟩) := m2.cell 1
    have d2 := m2.frozen 0
    have d3 := m2.frozen 1
    have hb06 := Lib.hid (Hb.out.1.trans (hb6.mono (by omega)))
    clear hb6 m2 HS
    go_wp2_with fail
    rw [Exit.noGoto_ret]
    refine bodyPost_ret (v := .tuple #[.agg #[.bool false, .string ⟨#[]⟩], .int .i64 120]) (by simp [results, Tryz.results86, go_sem, d0, d1]) rfl ?_
    exact ⟨fun h => absurd h (by decide), fun _ _ => rfl, fun _ h => absurd h Hno.out, fun _ h => absurd h Hno.out, (hb06.out.setCell (Nat.le_refl w.heap.size) _).setCell (Nat.le_refl w.heap.size) _⟩
theorem wread_any {w : World} {s : ByteArray} : Calls Tryz.prog 86 #[.string s] w (Readd w s.data.toList) := by
  rcases Nat.lt_or_ge 40000 s.size with h | h
  · exact wread_long h
  · rcases Nat.eq_zero_or_pos s.size with h0 | h0
    · have hl : s.data.toList.length = s.size := Array.length_toList
      obtain rfl := str_empty (List.eq_nil_of_length_eq_zero (show s.data.toList.length = 0 by omega))
      exact wread_none
    · by_cases h1 : s[0] = 45
      · exact wread_neg h h0 h1
      · exact wread_bare h h0 h1
end Go.Proofs.YtebpggfccljagaaGreatDoor

/- Decimal texts there and back: plain. -/
namespace Go.Proofs.YtebpggfccljagaaGreatDoor
open Wh
set_option linter.unusedVariables false

theorem dv_dec : ∀ (k n : Nat), n ≤ k → dv (dec n) = n
  | 0, n, h => by
    have : n = 0 := by omega
    subst this
    rw [dec_zero]; rfl
  | k + 1, n, h => by
    rcases Nat.eq_zero_or_pos n with h0 | h0
    · subst h0; rw [dec_zero]; rfl
    · rw [dec_pos h0, dv_snoc, dv_dec k (n / 10) (by omega), dig_nat]
      omega
theorem allDig_dec : ∀ (k n : Nat), n ≤ k → AllDig (dec n)
  | 0, n, h => by
    have : n = 0 := by omega
    subst this
    rw [dec_zero]
    exact fun b hb => by cases hb
  | k + 1, n, h => by
    rcases Nat.eq_zero_or_pos n with h0 | h0
    · subst h0; rw [dec_zero]; exact fun b hb => by cases hb
    · rw [dec_pos h0]
      refine allDig_app.2 ⟨allDig_dec k (n / 10) (by omega), allDig_cons.2 ⟨?_, fun b hb => by cases hb⟩⟩
      unfold IsDig
      rw [dig_nat]
      omega
theorem dec_ne : ∀ {n : Nat}, 0 < n → dec n ≠ [] := fun h h0 => by
  rw [dec_pos h] at h0
  simp at h0
theorem dec_head : ∀ (k n : Nat), n ≤ k → 0 < n → ∃ b, (dec n).head? = some b ∧ b.toNat ≠ 48 ∧ IsDig b
  | 0, n, h, h0 => by omega
  | k + 1, n, h, h0 => by
    rcases Nat.eq_zero_or_pos (n / 10) with h1 | h1
    · refine ⟨dig n, ?_, ?_, ?_⟩
      · rw [dec_pos h0, h1, dec_zero]; rfl
      · rw [dig_nat]; omega
      · unfold IsDig; rw [dig_nat]; omega
    · obtain ⟨b, h2, h3, h4⟩ := dec_head k (n / 10) (by omega) h1
      refine ⟨b, ?_, h3, h4⟩
      rw [dec_pos h0, List.head?_append, h2]
      rfl
theorem txt_good (x : Int) : Good (txt x) ∧ rval (txt x) = x := by
  unfold txt
  by_cases h0 : x = 0
  · rw [if_pos h0]
    subst h0
    exact ⟨⟨fun j b h1 h2 => by
      match j, h2 with
      | 0, h2 => injection h2 with h2; subst h2; exact ⟨by decide, by decide⟩
      | _ + 1, h2 => simp at h2, by decide, fun _ => by decide⟩, rfl⟩
  · rw [if_neg h0]
    obtain ⟨n, hn⟩ : ∃ n, n = x.natAbs := ⟨_, rfl⟩
    rw [← hn]
    have hp : 0 < n := by omega
    obtain ⟨b, hb1, hb2, hb3⟩ := dec_head n n (Nat.le_refl n) hp
    have hd := allDig_dec n n (Nat.le_refl n)
    have hv := dv_dec n n (Nat.le_refl n)
    have hl : 0 < (dec n).length := List.length_pos_iff.2 (dec_ne hp)
    by_cases hx : x < 0
    · rw [if_pos hx]
      have hs : signOf ([45] ++ dec n) = true := rfl
      have hr : rfirst ([45] ++ dec n) = 1 := rfl
      refine ⟨?_, ?_⟩
      · unfold Good
        rw [hr]
        refine ⟨fun j c h1 h2 => ?_, by simp; omega, fun h => ?_⟩
        · obtain ⟨i, rfl⟩ : ∃ i, j = i + 1 := ⟨j - 1, by omega⟩
          have h3 : (dec n)[i]? = some c := h2
          exact hd c (List.mem_iff_getElem?.2 ⟨i, h3⟩)
        · have h3 : (dec n)[0]? = some 48 := h
          rw [← List.head?_eq_getElem?, hb1] at h3
          injection h3 with h3
          exact absurd (by rw [h3]; rfl) hb2
      · unfold rval
        rw [hs, hr]
        show sgn true (dv (dec n)) = x
        rw [hv]
        unfold sgn
        simp
        omega
    · rw [if_neg hx, List.nil_append]
      have hs : signOf (dec n) = false := by
        unfold signOf
        rw [hb1]
        refine beq_eq_false_iff_ne.2 (fun h => ?_)
        injection h with h
        subst h
        unfold IsDig at hb3
        exact absurd hb3.1 (by decide)
      have hr : rfirst (dec n) = 0 := by unfold rfirst; rw [hs]; rfl
      refine ⟨?_, ?_⟩
      · unfold Good
        rw [hr]
        refine ⟨fun j c h1 h2 => hd c (List.mem_iff_getElem?.2 ⟨j, h2⟩), hl, fun h => ?_⟩
        rw [← List.head?_eq_getElem?, hb1] at h
        injection h with h
        exact absurd (by rw [h]; rfl) hb2
      · unfold rval
        rw [hs, hr, List.drop_zero, hv]
        unfold sgn
        simp
        omega
end Go.Proofs.YtebpggfccljagaaGreatDoor

/- Rows of ints: read, and of one's own. -/
namespace Go.Proofs.YtebpggfccljagaaGreatDoor
open Go.RowKit
set_option linter.unusedVariables false

def iv (x : Int) : Value := .int .i64 x
theorem iv_one (l : List Int) : ∀ u ∈ l.map iv, u.oneCell' = true := by
  intro u hu
  obtain ⟨b, _, rfl⟩ := List.mem_map.1 hu
  rfl
theorem infoI : (Tryz.prog.info? 3).map (fun i => (i.zero, i.size, i.bytes)) = some (some (.int .i64 0), 1, 8) := by kernel_rfl
/-- ints that are read -/
def ReadsI (w : World) (B : Nat) (A : Option Addr) (l : List Int) : Prop := Reads w B 1 A l.length (l.map iv)
section
variable {w w' : World} {B B' n c : Nat} {A : Option Addr} {l m : List Int} {v : Value}
theorem ReadsI.at_ (h : ReadsI w B A l) {k : Nat} (hk : k < l.length) : ∃ ad, A = some ad ∧ ad.block < B ∧ w.cell? (ad.add k) = some (.int .i64 l[k]) := by
  obtain ⟨ad, u, e, hb, hu, hc⟩ := Reads.at_ h hk
  refine ⟨ad, e, hb, ?_⟩
  rw [hc]
  rw [List.getElem?_map, List.getElem?_eq_getElem hk] at hu
  exact hu.symm
theorem ReadsI.more (h : ReadsI w B A l) (hB : B ≤ B') : ReadsI w B' A l := Reads.more h hB
theorem ReadsI.below (h : ReadsI w B A l) (hb : Below B w w') : ReadsI w' B A l := Reads.below h hb
theorem ReadsI.grown (h : ReadsI w B A l) {row : Option Nat} (hg : w.grownBy w' row) (hB : B ≤ w.heap.size) (hr : ∀ g, row = some g → B ≤ g) : ReadsI w' B A l := Reads.grown h hg hB hr
theorem ReadsI.alloc (h : ReadsI w B A l) (hB : B ≤ w.heap.size) (o : Obj) : ReadsI (w.alloc o) B A l := Reads.alloc h hB o
theorem ReadsI.drewN (h : ReadsI w B A l) (k : Nat) : ReadsI (w.drewN k) B A l := h
theorem ReadsI.none_ (w : World) (B : Nat) (A : Option Addr) : ReadsI w B A [] := Reads.none_
theorem ReadsI.take (h : ReadsI w B A (l ++ m)) : ReadsI w B A l := by
  refine ⟨by simp, fun hn => ?_⟩
  obtain ⟨ad, e, hb, hc⟩ := h.2 (by rw [List.length_append]; omega)
  refine ⟨ad, e, hb, fun j u hu => hc j u ?_⟩
  rw [List.map_append, List.getElem?_append_left (List.getElem?_eq_some_iff.1 hu).1]
  exact hu
/-- ints in a row of one's own -/
def OwnI (w : World) (B : Nat) (v : Value) (l : List Int) : Prop := w.ownsRow B 3 1 v l.length (l.map iv)
theorem OwnI.form (h : OwnI w B v l) : ∃ A c, v = .slice A l.length c ∧ l.length ≤ c ∧ c ≤ maxLen := by
  rcases h.2 with ⟨rfl, h0⟩ | ⟨g, cap, cur, rfl, _, _, hc, hm, _⟩
  · exact ⟨none, 0, by rw [h0], by omega, by unfold maxLen; omega⟩
  · exact ⟨_, cap, rfl, hc, hm⟩
theorem OwnI.len (h : OwnI w B (.slice A n c) l) : n = l.length ∧ n ≤ c ∧ c ≤ maxLen := by
  obtain ⟨A', c', e, h1, h2⟩ := h.form
  injection e with _ e2 e3
  omega
theorem OwnI.reads (h : OwnI w B (.slice A n c) l) : ReadsI w w.heap.size A l := by
  obtain rfl := h.len.1
  exact Reads.of_own h
theorem OwnI.alloc (h : OwnI w B v l) (o : Obj) : OwnI (w.alloc o) B v l := World.ownsRow.alloc h o
theorem OwnI.drewN (h : OwnI w B v l) (k : Nat) : OwnI (w.drewN k) B v l := h
theorem OwnI.nil (w : World) (B : Nat) : OwnI w B (.slice none 0 0) [] := World.ownsRow_nil w B _ 1
theorem OwnI.lt (h : OwnI w B v l) : ∀ g, v.ownBlock = some g → B ≤ g ∧ g < w.heap.size := fun g hg => World.ownsRow.lt h g hg
theorem OwnI.kept (h : OwnI w B v l) (hb : Below w.heap.size w w') : OwnI w' B v l := by
  refine ⟨h.1, ?_⟩
  rcases h.2 with h' | ⟨g, cap, cur, hv, hg, hh, r⟩
  · exact .inl h'
  · exact .inr ⟨g, cap, cur, hv, hg, (hb.block g (Array.getElem?_eq_some_iff.1 hh).1).trans hh, r⟩
theorem OwnI.lower (h : OwnI w B v l) (hB : B' ≤ B) : OwnI w B' v l := by
  refine ⟨h.1, ?_⟩
  rcases h.2 with h' | ⟨g, cap, cur, hv, hg, r⟩
  · exact .inl h'
  · exact .inr ⟨g, cap, cur, hv, by omega, r⟩
/-- what grows elsewhere -/
theorem OwnI.grown (h : OwnI w B v l) {row : Option Nat} (hg : w.grownBy w' row) (hr : ∀ g, v.ownBlock = some g → row ≠ some g) : OwnI w' B v l := by
  refine ⟨h.1, ?_⟩
  rcases h.2 with h' | ⟨g, cap, cur, hv, hb, hh, r⟩
  · exact .inl h'
  · refine .inr ⟨g, cap, cur, hv, hb, (hg.block g (Array.getElem?_eq_some_iff.1 hh).1 ?_).trans hh, r⟩
    intro e
    exact hr g (by rw [hv]; rfl) e.symm
/-- its first ones -/
theorem OwnI.first (h : OwnI w B (.slice A n c) (l ++ m)) : OwnI w B (.slice A l.length c) l := by
  obtain ⟨h1, h2⟩ := h
  refine ⟨by simp, ?_⟩
  rcases h2 with ⟨hv, h0⟩ | ⟨g, cap, cur, hv, hg, hh, hc, hm, hs, ht⟩
  · rw [List.length_append] at h0
    injection hv with e1 e2 e3
    have : l = [] := List.eq_nil_of_length_eq_zero (by omega)
    subst this
    exact .inl ⟨by rw [e1, e3]; rfl, rfl⟩
  · injection hv with e1 e2 e3
    subst e1 e3
    refine .inr ⟨g, c, cur, rfl, hg, hh, ?_, hm, hs, ?_⟩
    · rw [List.length_append] at hc; omega
    · rw [List.length_append, Nat.mul_one] at ht
      rw [Nat.mul_one]
      have := congrArg (List.take l.length) ht
      rw [List.take_take, Nat.min_eq_left (by omega), List.map_append, List.take_append_of_le_length (by simp), List.take_of_length_le (l := l.map iv) (by simp)] at this
      exact this
/-- make with a capacity -/
theorem OwnI.made (w : World) {n c : Nat} (hnc : n ≤ c) (hc : c ≤ maxLen) : OwnI (w.alloc (.cells ((List.replicate c (0 : Int)).map iv).toArray 3)) w.heap.size (.slice (some ⟨w.heap.size, 0, none⟩) n c) (List.replicate n 0) := by
  refine ⟨by simp, .inr ⟨_, c, _, by simp, Nat.le_refl _, heap_alloc_new w _, by simpa using hnc, hc, by simp, ?_⟩⟩
  simp
  omega
end
/-- append(row, l...) -/
theorem wpI_append {w : World} {ops : Array Oper} {rest : List Oper} {o : Oper} {a : Act} {Q : Exit → Act → World → Prop} (hgd : o.guard = none) (s x : Operand)
    (ho : o.op = .call { callee := .builtin .append, args := #[s, x], argTypes := #[39, 39] }) (B : Nat) (v : Value) (l m : List Int) (hown : OwnI w B v l) (hs : a.eval s = v)
    {B' : Nat} {A : Option Addr} {k c : Nat} (hx : a.eval x = .slice A k c) (hk : k = m.length) (hr : ReadsI w B' A m) (hlen : l.length ≤ 1000000000) (hlm : m.length ≤ 1000000000) (hbase : B ≤ w.heap.size)
    (h : ∀ A' n' c' w', OwnI w' B (.slice A' n' c') (l ++ m) → n' = l.length + m.length → n' ≤ c' → w.grownBy w' v.ownBlock → ((Value.slice A' n' c').ownBlock = v.ownBlock ∨ (Value.slice A' n' c').ownBlock = some w.heap.size) → (∀ w0, Below B w0 w → Below B w0 w') → wpList Tryz.prog ops Q rest (a.put o.dst (.slice A' n' c')) w') :
    wpList Tryz.prog ops Q (o :: rest) a w := by
  obtain ⟨i0, hi, hz0, hz1, hz2⟩ := info_parts infoI
  subst hk
  refine wpList_append_any _ hgd s x 39 ho B 3 i0 (.int .i64 0) 1 8 Tryz.underlying39 hi hz0 hz1 hz2 rfl (by decide) v l.length (l.map iv) hs hown _ _ m.length c (m.map iv) hx hr (iv_one _) (by unfold maxLen; omega) (by omega) hbase ?_
  intro v' w' h1 h2 h3
  have h4 : OwnI w' B v' (l ++ m) := by
    unfold OwnI
    rw [List.length_append, List.map_append]
    exact h1
  obtain ⟨A', c', rfl, hc', _⟩ := h4.form
  exact h A' _ c' w' h4 (List.length_append ..) hc' h2 h3 (fun w0 hb => hb.grown h2 hbase (fun k hk => (World.ownsRow.lt hown k hk).1))
/-- one int in a block of its own -/
theorem reads_single (w : World) (x : Int) : ReadsI (w.alloc (.cells #[.int .i64 x] 3)) (w.heap.size + 1) (some ⟨w.heap.size, 0, none⟩) [x] := by
  refine ⟨rfl, fun _ => ⟨_, rfl, Nat.lt_succ_self _, fun j u hu => ?_⟩⟩
  have hb := Blk.new w 3 #[.int .i64 x]
  match j, hu with
  | 0, hu => rw [Addr.add_zero', hb.cell 0]; exact hu
  | j + 1, hu => simp at hu
end Go.Proofs.YtebpggfccljagaaGreatDoor

/- big.Rat: a number within a block; Int.Set of it; den, Num, Denom (printed by gen_rat.py). -/
namespace Go.Proofs.YtebpggfccljagaaGreatDoor
open Go.RowKit
open Wh
set_option linter.unusedSimpArgs false

/-- a number's cells, at a place of a block -/
def IntC (w : World) (g o : Nat) (z : Int) : Prop := ∃ s A n c, w.cell? ⟨g, o, none⟩ = some (.bool s) ∧ w.cell? ⟨g, o + 1, none⟩ = some (.slice A n c) ∧ Hid (s = decide (z < 0) ∧ n = (wds z.natAbs).length) ∧ n ≤ c ∧ c ≤ 9223372036854775807 ∧ ReadsW w w.heap.size A (wds z.natAbs)
theorem IntC.opened {w : World} {g o : Nat} {z : Int} (h : IntC w g o z) : ∃ s A n c, w.cell? ⟨g, o, none⟩ = some (.bool s) ∧ w.cell? ⟨g, o + 1, none⟩ = some (.slice A n c) ∧ Hid (s = decide (z < 0) ∧ n = (wds z.natAbs).length) ∧ n ≤ c ∧ c ≤ 9223372036854775807 ∧ ReadsW w w.heap.size A (wds z.natAbs) := h
theorem IntC.lt' {w : World} {g o : Nat} {z : Int} (h : IntC w g o z) : g < w.heap.size := by
  obtain ⟨s, A, n, c, h0, _⟩ := h
  exact block_lt_of_cell h0
theorem IntC.below {w w' : World} {g o : Nat} {z : Int} (h : IntC w g o z) (hb : Below w.heap.size w w') : IntC w' g o z := by
  have hlt := h.lt'
  obtain ⟨s, A, n, c, h0, h1, h2, h3, h4, hr⟩ := h
  exact ⟨s, A, n, c, (hb.cell (p := ⟨g, o, none⟩) hlt).trans h0, (hb.cell (p := ⟨g, o + 1, none⟩) hlt).trans h1, h2, h3, h4, (hr.below hb).more hb.size⟩
/-- a fraction in a block -/
structure RatB (w : World) (g : Nat) (a b : Int) : Prop where
  num : IntC w g 0 a
  den : IntC w g 2 b
  pos : 0 < b
theorem RatB.below {w w' : World} {g : Nat} {a b : Int} (h : RatB w g a b) (hb : Below w.heap.size w w') : RatB w' g a b := ⟨h.num.below hb, h.den.below hb, h.pos⟩

set_option maxRecDepth 100000 in
set_option maxHeartbeats 4000000 in
theorem setc0_any {w : World} {g gx : Nat} {x : Int} (hz : IntS w g) (hx : IntC w gx 0 x) (hxl : (wds x.natAbs).length ≤ 900000000) :
    Calls Tryz.prog 160 #[.pointer (some ⟨g, 0, none⟩), .pointer (some ⟨gx, 0, none⟩)] w (Puts w g x) := by
  obtain ⟨sx, Ax, nx, cx, x0, x1, Hx, hxc, hxcl, rx⟩ := hx.opened
  have glx := hx.lt'
  have Hr := Lib.hid (And.intro rx hxl)
  clear rx hxl
  go_enter Tryz.func160, Tryz.ntmps160
  go_wp2_with fail
  refine wp_region_noPanic ?_
  refine wp_region_HK (fun w' => (w'.cell? ⟨gx, 0, none⟩ = some (.bool sx) ∧ w'.cell? ⟨gx, 1, none⟩ = some (.slice Ax nx cx))) 10 (by kernel_rfl) ⟨x0, x1⟩ (fun hHeld => ?_)
  refine wpHK_take (i := 0) (oi := Oper.mk (some 5) _ _ _ _ _) (v := ?_) rfl (by kernel_rfl) (by kernel_rfl) (by kernel_rfl) (by kernel_rfl) (fun _ _ _ h => h) (Or.inl ⟨by rfl, ?_⟩) (by assumption) ?_
  rotate_left
  · (intro w' hSw; (try dsimp only at hSw); (obtain ⟨s1, s2⟩ := hSw); go_simp; try with_reducible rfl)
  try simp only [Act.put, List.setIfInBounds_toArray, List.set_cons_zero, List.set_cons_succ]
  refine wpHK_take (i := 1) (oi := Oper.mk (some 6) _ _ _ _ _) (v := ?_) rfl (by kernel_rfl) (by kernel_rfl) (by kernel_rfl) (by kernel_rfl) (fun _ _ _ h => h) (Or.inl ⟨by rfl, ?_⟩) (by assumption) ?_
  rotate_left
  · (intro w' hSw; (try dsimp only at hSw); (obtain ⟨s1, s2⟩ := hSw); go_simp; try with_reducible rfl)
  try simp only [Act.put, List.setIfInBounds_toArray, List.set_cons_zero, List.set_cons_succ]
  refine wpHK_take (i := 2) (oi := Oper.mk (some 7) _ _ _ _ _) (v := ?_) rfl (by kernel_rfl) (by kernel_rfl) (by kernel_rfl) (by kernel_rfl) (fun _ _ _ h => h) (Or.inl ⟨by rfl, ?_⟩) (by assumption) ?_
  rotate_left
  · (intro w' hSw; (try dsimp only at hSw); (obtain ⟨s1, s2⟩ := hSw); go_simp; try with_reducible rfl)
  try simp only [Act.put, List.setIfInBounds_toArray, List.set_cons_zero, List.set_cons_succ]
  refine wpHK_take (i := 3) (oi := Oper.mk (some 8) _ _ _ _ _) (v := ?_) rfl (by kernel_rfl) (by kernel_rfl) (by kernel_rfl) (by kernel_rfl) (fun _ _ _ h => h) (Or.inl ⟨by rfl, ?_⟩) (by assumption) ?_
  rotate_left
  · (intro w' hSw; (try dsimp only at hSw); (obtain ⟨s1, s2⟩ := hSw); go_simp; try with_reducible rfl)
  try simp only [Act.put, List.setIfInBounds_toArray, List.set_cons_zero, List.set_cons_succ]
  refine wpHK_take (i := 4) (oi := Oper.mk (some 9) _ _ _ _ _) (v := ?_) rfl (by kernel_rfl) (by kernel_rfl) (by kernel_rfl) (by kernel_rfl) (fun _ _ _ h => h) (Or.inl ⟨by rfl, ?_⟩) (by assumption) ?_
  rotate_left
  · (intro w' hSw; (try dsimp only at hSw); (obtain ⟨s1, s2⟩ := hSw); go_simp; try with_reducible rfl)
  try simp only [Act.put, List.setIfInBounds_toArray, List.set_cons_zero, List.set_cons_succ]
  refine wpHK_take (i := 5) (oi := Oper.mk (some 10) _ _ _ _ _) (v := ?_) rfl (by kernel_rfl) (by kernel_rfl) (by kernel_rfl) (by kernel_rfl) (fun _ _ _ h => h) (Or.inl ⟨by rfl, ?_⟩) (by assumption) ?_
  rotate_left
  · (intro w' hSw; (try dsimp only at hSw); (obtain ⟨s1, s2⟩ := hSw); go_simp; try with_reducible rfl)
  try simp only [Act.put, List.setIfInBounds_toArray, List.set_cons_zero, List.set_cons_succ]
  refine wpHK_take (i := 6) (oi := Oper.mk (some 11) _ _ _ _ _) (v := ?_) rfl (by kernel_rfl) (by kernel_rfl) (by kernel_rfl) (by kernel_rfl) (fun _ _ _ h => h) (Or.inl ⟨by rfl, ?_⟩) (by assumption) ?_
  rotate_left
  · (intro w' hSw; (try dsimp only at hSw); (obtain ⟨s1, s2⟩ := hSw); go_simp; try with_reducible rfl)
  try simp only [Act.put, List.setIfInBounds_toArray, List.set_cons_zero, List.set_cons_succ]
  refine wpHK_take (i := 7) (oi := Oper.mk (some 12) _ _ _ _ _) (v := ?_) rfl (by kernel_rfl) (by kernel_rfl) (by kernel_rfl) (by kernel_rfl) (fun _ _ _ h => h) (Or.inl ⟨by rfl, ?_⟩) (by assumption) ?_
  rotate_left
  · (intro w' hSw; (try dsimp only at hSw); (obtain ⟨s1, s2⟩ := hSw); go_simp; try with_reducible rfl)
  try simp only [Act.put, List.setIfInBounds_toArray, List.set_cons_zero, List.set_cons_succ]
  refine wpHK_take (i := 8) (oi := Oper.mk (some 13) _ _ _ _ _) (v := ?_) rfl (by kernel_rfl) (by kernel_rfl) (by kernel_rfl) (by kernel_rfl) (fun _ _ _ h => h) (Or.inl ⟨by rfl, ?_⟩) (by assumption) ?_
  rotate_left
  · (intro w' hSw; (try dsimp only at hSw); (obtain ⟨s1, s2⟩ := hSw); go_simp; try with_reducible rfl)
  try simp only [Act.put, List.setIfInBounds_toArray, List.set_cons_zero, List.set_cons_succ]
  refine wpHK_one (j := 9) (o := Oper.mk (some 14) _ _ _ _ _) rfl (by kernel_rfl) (fun K hK => ?_)
  refine stepW_append (by rfl) (.const (.slice none 0 0)) (.tmp 13) (by rfl) w.heap.size _ [] (OwnW.nil _ _) (by rfl) _ _ (wds x.natAbs) (Hr.out.1.drewN 1) nx cx Hx.out.2 (by rfl) (by have := Hr.out.2; simp only [List.length_nil]; omega) (Nat.le_refl _) ?_
  intro A5 n5 c5 w5 ho5 hg5
  rw [List.nil_append] at ho5
  have hb5 := below_of_grown hg5
  have hb5' : Below w.heap.size w w5 := undrew hb5
  have bcell5 : ∀ {b o : Nat}, b < w.heap.size → w5.cell? ⟨b, o, none⟩ = w.cell? ⟨b, o, none⟩ := fun {b o} h => hb5'.cell (p := ⟨b, o, none⟩) h
  have hz5 := hz.below hb5'
  have hC5 : (w5.cell? ⟨gx, 0, none⟩ = some (.bool sx) ∧ w5.cell? ⟨gx, 1, none⟩ = some (.slice Ax nx cx)) := ⟨(bcell5 glx).trans x0, (bcell5 glx).trans x1⟩
  refine hK.out _ _ hC5 (fun _ => ?_)
  clear hK K hHeld
  have hHeld := hC5
  try simp only [Act.put, List.setIfInBounds_toArray, List.set_cons_zero, List.set_cons_succ]
  refine wpHK_tail (j := 10) (o := Oper.mk (some 15) _ _ _ _ _) rfl (by kernel_rfl) (by decide) (fun K hK => ?_)
  go_simp
  refine (is_any _ hz5 ho5.reads (Nat.le_refl _) ho5.len.1 ho5.len.2.1 ho5.len.2.2 (wd_w _)).mono ?_
  rintro e w6 ⟨rfl, hi6, hg6⟩
  try simp only []
  refine hK.out _ _ ?_
  clear hK K
  try simp only [Act.put, List.setIfInBounds_toArray, List.set_cons_zero, List.set_cons_succ]
  refine wpHK_assign (j := 11) (o := Oper.mk (some 4) _ _ _ _ _) rfl (by kernel_rfl) (by decide) rfl rfl ?_
  try simp only [Act.put, List.setIfInBounds_toArray, List.set_cons_zero, List.set_cons_succ]
  refine wpHK_done (by kernel_rfl) ?_ _
  refine NoPanic.normal ?_
  go_wp2_with fail
  go_ret
  refine ⟨rfl, ?_, grown_lift hb5' hg6⟩
  rw [val_w, Hx.out.1, sgn_of] at hi6
  exact hi6

set_option maxRecDepth 100000 in
set_option maxHeartbeats 4000000 in
theorem setc2_any {w : World} {g gx : Nat} {x : Int} (hz : IntS w g) (hx : IntC w gx 2 x) (hxl : (wds x.natAbs).length ≤ 900000000) :
    Calls Tryz.prog 160 #[.pointer (some ⟨g, 0, none⟩), .pointer (some ⟨gx, 2, none⟩)] w (Puts w g x) := by
  obtain ⟨sx, Ax, nx, cx, x0, x1, Hx, hxc, hxcl, rx⟩ := hx.opened
  have glx := hx.lt'
  have Hr := Lib.hid (And.intro rx hxl)
  clear rx hxl
  go_enter Tryz.func160, Tryz.ntmps160
  go_wp2_with fail
  refine wp_region_noPanic ?_
  refine wp_region_HK (fun w' => (w'.cell? ⟨gx, 2, none⟩ = some (.bool sx) ∧ w'.cell? ⟨gx, 3, none⟩ = some (.slice Ax nx cx))) 10 (by kernel_rfl) ⟨x0, x1⟩ (fun hHeld => ?_)
  refine wpHK_take (i := 0) (oi := Oper.mk (some 5) _ _ _ _ _) (v := ?_) rfl (by kernel_rfl) (by kernel_rfl) (by kernel_rfl) (by kernel_rfl) (fun _ _ _ h => h) (Or.inl ⟨by rfl, ?_⟩) (by assumption) ?_
  rotate_left
  · (intro w' hSw; (try dsimp only at hSw); (obtain ⟨s1, s2⟩ := hSw); go_simp; try with_reducible rfl)
  try simp only [Act.put, List.setIfInBounds_toArray, List.set_cons_zero, List.set_cons_succ]
  refine wpHK_take (i := 1) (oi := Oper.mk (some 6) _ _ _ _ _) (v := ?_) rfl (by kernel_rfl) (by kernel_rfl) (by kernel_rfl) (by kernel_rfl) (fun _ _ _ h => h) (Or.inl ⟨by rfl, ?_⟩) (by assumption) ?_
  rotate_left
  · (intro w' hSw; (try dsimp only at hSw); (obtain ⟨s1, s2⟩ := hSw); go_simp; try with_reducible rfl)
  try simp only [Act.put, List.setIfInBounds_toArray, List.set_cons_zero, List.set_cons_succ]
  refine wpHK_take (i := 2) (oi := Oper.mk (some 7) _ _ _ _ _) (v := ?_) rfl (by kernel_rfl) (by kernel_rfl) (by kernel_rfl) (by kernel_rfl) (fun _ _ _ h => h) (Or.inl ⟨by rfl, ?_⟩) (by assumption) ?_
  rotate_left
  · (intro w' hSw; (try dsimp only at hSw); (obtain ⟨s1, s2⟩ := hSw); go_simp; try with_reducible rfl)
  try simp only [Act.put, List.setIfInBounds_toArray, List.set_cons_zero, List.set_cons_succ]
  refine wpHK_take (i := 3) (oi := Oper.mk (some 8) _ _ _ _ _) (v := ?_) rfl (by kernel_rfl) (by kernel_rfl) (by kernel_rfl) (by kernel_rfl) (fun _ _ _ h => h) (Or.inl ⟨by rfl, ?_⟩) (by assumption) ?_
  rotate_left
  · (intro w' hSw; (try dsimp only at hSw); (obtain ⟨s1, s2⟩ := hSw); go_simp; try with_reducible rfl)
  try simp only [Act.put, List.setIfInBounds_toArray, List.set_cons_zero, List.set_cons_succ]
  refine wpHK_take (i := 4) (oi := Oper.mk (some 9) _ _ _ _ _) (v := ?_) rfl (by kernel_rfl) (by kernel_rfl) (by kernel_rfl) (by kernel_rfl) (fun _ _ _ h => h) (Or.inl ⟨by rfl, ?_⟩) (by assumption) ?_
  rotate_left
  · (intro w' hSw; (try dsimp only at hSw); (obtain ⟨s1, s2⟩ := hSw); go_simp; try with_reducible rfl)
  try simp only [Act.put, List.setIfInBounds_toArray, List.set_cons_zero, List.set_cons_succ]
  refine wpHK_take (i := 5) (oi := Oper.mk (some 10) _ _ _ _ _) (v := ?_) rfl (by kernel_rfl) (by kernel_rfl) (by kernel_rfl) (by kernel_rfl) (fun _ _ _ h => h) (Or.inl ⟨by rfl, ?_⟩) (by assumption) ?_
  rotate_left
  · (intro w' hSw; (try dsimp only at hSw); (obtain ⟨s1, s2⟩ := hSw); go_simp; try with_reducible rfl)
  try simp only [Act.put, List.setIfInBounds_toArray, List.set_cons_zero, List.set_cons_succ]
  refine wpHK_take (i := 6) (oi := Oper.mk (some 11) _ _ _ _ _) (v := ?_) rfl (by kernel_rfl) (by kernel_rfl) (by kernel_rfl) (by kernel_rfl) (fun _ _ _ h => h) (Or.inl ⟨by rfl, ?_⟩) (by assumption) ?_
  rotate_left
  · (intro w' hSw; (try dsimp only at hSw); (obtain ⟨s1, s2⟩ := hSw); go_simp; try with_reducible rfl)
  try simp only [Act.put, List.setIfInBounds_toArray, List.set_cons_zero, List.set_cons_succ]
  refine wpHK_take (i := 7) (oi := Oper.mk (some 12) _ _ _ _ _) (v := ?_) rfl (by kernel_rfl) (by kernel_rfl) (by kernel_rfl) (by kernel_rfl) (fun _ _ _ h => h) (Or.inl ⟨by rfl, ?_⟩) (by assumption) ?_
  rotate_left
  · (intro w' hSw; (try dsimp only at hSw); (obtain ⟨s1, s2⟩ := hSw); go_simp; try with_reducible rfl)
  try simp only [Act.put, List.setIfInBounds_toArray, List.set_cons_zero, List.set_cons_succ]
  refine wpHK_take (i := 8) (oi := Oper.mk (some 13) _ _ _ _ _) (v := ?_) rfl (by kernel_rfl) (by kernel_rfl) (by kernel_rfl) (by kernel_rfl) (fun _ _ _ h => h) (Or.inl ⟨by rfl, ?_⟩) (by assumption) ?_
  rotate_left
  · (intro w' hSw; (try dsimp only at hSw); (obtain ⟨s1, s2⟩ := hSw); go_simp; try with_reducible rfl)
  try simp only [Act.put, List.setIfInBounds_toArray, List.set_cons_zero, List.set_cons_succ]
  refine wpHK_one (j := 9) (o := Oper.mk (some 14) _ _ _ _ _) rfl (by kernel_rfl) (fun K hK => ?_)
  refine stepW_append (by rfl) (.const (.slice none 0 0)) (.tmp 13) (by rfl) w.heap.size _ [] (OwnW.nil _ _) (by rfl) _ _ (wds x.natAbs) (Hr.out.1.drewN 1) nx cx Hx.out.2 (by rfl) (by have := Hr.out.2; simp only [List.length_nil]; omega) (Nat.le_refl _) ?_
  intro A5 n5 c5 w5 ho5 hg5
  rw [List.nil_append] at ho5
  have hb5 := below_of_grown hg5
  have hb5' : Below w.heap.size w w5 := undrew hb5
  have bcell5 : ∀ {b o : Nat}, b < w.heap.size → w5.cell? ⟨b, o, none⟩ = w.cell? ⟨b, o, none⟩ := fun {b o} h => hb5'.cell (p := ⟨b, o, none⟩) h
  have hz5 := hz.below hb5'
  have hC5 : (w5.cell? ⟨gx, 2, none⟩ = some (.bool sx) ∧ w5.cell? ⟨gx, 3, none⟩ = some (.slice Ax nx cx)) := ⟨(bcell5 glx).trans x0, (bcell5 glx).trans x1⟩
  refine hK.out _ _ hC5 (fun _ => ?_)
  clear hK K hHeld
  have hHeld := hC5
  try simp only [Act.put, List.setIfInBounds_toArray, List.set_cons_zero, List.set_cons_succ]
  refine wpHK_tail (j := 10) (o := Oper.mk (some 15) _ _ _ _ _) rfl (by kernel_rfl) (by decide) (fun K hK => ?_)
  go_simp
  refine (is_any _ hz5 ho5.reads (Nat.le_refl _) ho5.len.1 ho5.len.2.1 ho5.len.2.2 (wd_w _)).mono ?_
  rintro e w6 ⟨rfl, hi6, hg6⟩
  try simp only []
  refine hK.out _ _ ?_
  clear hK K
  try simp only [Act.put, List.setIfInBounds_toArray, List.set_cons_zero, List.set_cons_succ]
  refine wpHK_assign (j := 11) (o := Oper.mk (some 4) _ _ _ _ _) rfl (by kernel_rfl) (by decide) rfl rfl ?_
  try simp only [Act.put, List.setIfInBounds_toArray, List.set_cons_zero, List.set_cons_succ]
  refine wpHK_done (by kernel_rfl) ?_ _
  refine NoPanic.normal ?_
  go_wp2_with fail
  go_ret
  refine ⟨rfl, ?_, grown_lift hb5' hg6⟩
  rw [val_w, Hx.out.1, sgn_of] at hi6
  exact hi6

/-- a new number -/
def NewI (w : World) (z : Int) (e : Ending) (w' : World) : Prop := ∃ g, e = .returned (.pointer (some ⟨g, 0, none⟩)) ∧ w.heap.size ≤ g ∧ IntB w' g z ∧ Below w.heap.size w w'

set_option maxRecDepth 100000 in
theorem den_any {w : World} {g : Nat} {a b : Int} (h : RatB w g a b) :
    Calls Tryz.prog 161 #[.pointer (some ⟨g, 0, none⟩)] w fun e w' => e = .returned (.pointer (some ⟨g, 2, none⟩)) ∧ w = w' := by
  obtain ⟨s, A, n, c, c0, c1, Hn, hnc, hcl, hr⟩ := h.den
  have hn0 : ¬ (n : Int) = 0 := by
    have h1 := Hn.out.2
    have h2 := (len_pos (x := b)).2 (by have := h.pos; omega)
    omega
  have hn1 : ((n : Int) == 0) = false := by simpa using hn0
  clear h hr Hn
  go_enter Tryz.func161, Tryz.ntmps161
  go_wp2_with fail
  go_ret
  exact ⟨rfl, rfl⟩

set_option maxRecDepth 100000 in
theorem num_new {w : World} {g : Nat} {a b : Int} (h : RatB w g a b) (hl : (wds a.natAbs).length ≤ 900000000) :
    Calls Tryz.prog 137 #[.pointer (some ⟨g, 0, none⟩)] w (NewI w a) := by
  have H := Lib.hid (setc0_any (IntB.zero w).slot (h.num.below ((Below.refl _ _).alloc (Nat.le_refl _) _)) hl)
  clear h hl
  go_enter Tryz.func137, Tryz.ntmps137
  go_wp2_with (go_at_call 160; (with_reducible refine H.out.mono ?_); rintro _ W1 ⟨rfl, hi, hg⟩)
  go_ret
  exact ⟨_, rfl, Nat.le_refl _, hi, below_new hg⟩

set_option maxRecDepth 100000 in
theorem denom_new {w : World} {g : Nat} {a b : Int} (h : RatB w g a b) (hl : (wds b.natAbs).length ≤ 900000000) :
    Calls Tryz.prog 138 #[.pointer (some ⟨g, 0, none⟩)] w (NewI w b) := by
  have H := Lib.hid (setc2_any (IntB.zero w).slot (h.den.below ((Below.refl _ _).alloc (Nat.le_refl _) _)) hl)
  have HD := Lib.hid (den_any (h.below ((Below.refl _ _).alloc (Nat.le_refl _) (.cells #[.bool false, .slice none 0 0] 151))))
  clear h hl
  go_enter Tryz.func138, Tryz.ntmps138
  go_wp2_with (first | (go_at_call 161; (with_reducible refine HD.out.mono ?_); rintro _ _ ⟨rfl, rfl⟩) | (go_at_call 160; (with_reducible refine H.out.mono ?_); rintro _ W1 ⟨rfl, hi, hg⟩))
  go_ret
  exact ⟨_, rfl, Nat.le_refl _, hi, below_new hg⟩
end Go.Proofs.YtebpggfccljagaaGreatDoor

/- The reference's words: a magnitude's digits (printed by gen_rwords.py). -/
namespace Go.Proofs.YtebpggfccljagaaGreatDoor
open Go.RowKit
open Wh
set_option linter.unusedSimpArgs false

theorem words_len {l : List UInt8} (hf : Formed l) : (wds (bval l)).length = (l.length + 3) / 4 := by
  have h1 := bval_lt l
  have p4 : (4294967296 : Nat) = 256 ^ 4 := by decide
  refine Nat.le_antisymm (len_wds ?_) ?_
  · rw [p4, ← Nat.pow_mul]
    exact Nat.lt_of_lt_of_le h1 (Nat.pow_le_pow_right (by decide) (by omega))
  · cases l with
    | nil => simp
    | cons b r =>
      rcases Nat.lt_or_ge (wds (bval (b :: r))).length (((b :: r).length + 3) / 4) with h | h
      · exfalso
        have h2 := lt_of_len (n := bval (b :: r)) (k := ((b :: r).length + 3) / 4 - 1) (by omega)
        rw [p4, ← Nat.pow_mul] at h2
        have h3 : (256 : Nat) ^ (4 * (((b :: r).length + 3) / 4 - 1)) ≤ 256 ^ r.length := Nat.pow_le_pow_right (by decide) (by rw [List.length_cons] at *; omega)
        have hb := hf b rfl
        have hb' : 0 < b.toNat := by
          rcases Nat.eq_zero_or_pos b.toNat with h0 | h0
          · exact absurd (by rw [← UInt8.toNat_inj]; exact h0) hb
          · exact h0
        have h4 : 256 ^ r.length ≤ bval (b :: r) := by
          rw [bval_cons]
          exact Nat.le_trans (Nat.le_mul_of_pos_left _ hb') (Nat.le_add_right _ _)
        omega
      · exact h
end Go.Proofs.YtebpggfccljagaaGreatDoor

/- The reference's made: a number of a sign and digits. -/
namespace Go.Proofs.YtebpggfccljagaaGreatDoor
open Go.RowKit
open Wh
set_option linter.unusedSimpArgs false

end Go.Proofs.YtebpggfccljagaaGreatDoor

/- The reference's Formed, Fits, May, Sign, Neg, Abs. -/
namespace Go.Proofs.YtebpggfccljagaaGreatDoor
open Go.RowKit
open Wh
set_option linter.unusedSimpArgs false

/-- a magnitude that is formed, however long -/
def Fmd (s : ByteArray) : Prop := Formed s.data.toList ∧ s.size ≤ 100000000
theorem Fmd.len {s : ByteArray} (h : Fmd s) : (wds (bval s.data.toList)).length ≤ 25000001 := by
  rw [words_len h.1]
  have hl : s.data.toList.length = s.size := Array.length_toList
  have := h.2
  omega
end Go.Proofs.YtebpggfccljagaaGreatDoor

/- The reference's up, down (printed by gen_rup.py). -/
namespace Go.Proofs.YtebpggfccljagaaGreatDoor
open Go.RowKit
open Wh
set_option linter.unusedSimpArgs false

end Go.Proofs.YtebpggfccljagaaGreatDoor

/- The reference's fits. -/
namespace Go.Proofs.YtebpggfccljagaaGreatDoor
open Go.RowKit
open Wh
set_option linter.unusedSimpArgs false
set_option linter.unusedVariables false

end Go.Proofs.YtebpggfccljagaaGreatDoor

/- The reference's Plus, Minus, Times, Cmp (printed by gen_rops.py). -/
namespace Go.Proofs.YtebpggfccljagaaGreatDoor
open Go.RowKit
open Wh
set_option linter.unusedSimpArgs false

theorem Env.set_ {w0 W : World} {l : List (Nat × TypeId × Array Value)} (h : Env w0 W l) {g j : Nat} (v : Value) (hg : w0.heap.size ≤ g) (hne : ∀ x ∈ l, x.1 ≠ g) : Env w0 (W.setCell ⟨g, j, none⟩ v) l :=
  ⟨h.1.setCell hg _, fun x hx => (h.2 x hx).far (p := ⟨g, j, none⟩) (hne x hx) v⟩
end Go.Proofs.YtebpggfccljagaaGreatDoor

/- The reference's bits, Bits, Bit, Small, Of. -/
namespace Go.Proofs.YtebpggfccljagaaGreatDoor
open Go.RowKit
open Wh
set_option linter.unusedSimpArgs false

end Go.Proofs.YtebpggfccljagaaGreatDoor

/- The reference's divided: plain laws, the two short ways. -/
namespace Go.Proofs.YtebpggfccljagaaGreatDoor
open Go.RowKit
open Wh
set_option linter.unusedSimpArgs false
set_option linter.unusedVariables false

end Go.Proofs.YtebpggfccljagaaGreatDoor

/- The reference's divided: the long way. -/
namespace Go.Proofs.YtebpggfccljagaaGreatDoor
open Go.RowKit
open Wh
set_option linter.unusedSimpArgs false
set_option linter.unusedVariables false

end Go.Proofs.YtebpggfccljagaaGreatDoor

/- The reference's Gcd (printed by gen_rgcd.py). -/
namespace Go.Proofs.YtebpggfccljagaaGreatDoor
open Go.RowKit
open Wh
set_option linter.unusedSimpArgs false
set_option linter.unusedVariables false

end Go.Proofs.YtebpggfccljagaaGreatDoor

/- frac.number; Rat.SetFrac, SetInt, SetInt64; frac.rat. -/
namespace Go.Proofs.YtebpggfccljagaaGreatDoor
open Go.RowKit
open Wh
set_option linter.unusedSimpArgs false

set_option maxRecDepth 100000 in
set_option maxHeartbeats 4000000 in
theorem number_any {w : World} {ng : Bool} {s : ByteArray} (hm : s.data.toList.length ≤ 16384) :
    Calls Tryz.prog 148 #[.agg #[.bool ng, .string s]] w (NewI w (num (ng, s))) := by
  have kc := fun (W : World) (s : ByteArray) => Lib.run_convert_string_bytes (P := Tryz.prog) W 9 97 5 s Tryz.underlying9 Tryz.underlying97 Tryz.underlying5
  have hsl : s.data.toList.length = s.size := Array.length_toList
  have hsz : s.size ≤ 16384 := by omega
  have Hm := Lib.hid hm
  clear hm
  have hbk := Blk.new w 34 #[.bool ng, .string s]
  have e0 : (w.alloc (.cells #[.bool ng, .string s] 34)).cell? ⟨w.heap.size, 0, none⟩ = some (.bool ng) := hbk.cell 0
  have hb1 : Below w.heap.size w (w.alloc (.cells #[.bool ng, .string s] 34)) := new_below _ _
  have hsz1 : (w.alloc (.cells #[.bool ng, .string s] 34)).heap.size = w.heap.size + 1 := by simp
  obtain ⟨W1, hW1⟩ : ∃ W1, W1 = w.alloc (.cells #[.bool ng, .string s] 34) := ⟨_, rfl⟩
  rw [← hW1] at e0 hb1 hsz1
  have hrd := bytes_reads (W1.alloc (.cells #[.bool false, .slice none 0 0] 151)) s
  rw [World.size_alloc] at hrd
  have hbb := bytes_below (W1.alloc (.cells #[.bool false, .slice none 0 0] 151)) s
  have HS : Hid (Calls Tryz.prog 149 #[.pointer (some ⟨W1.heap.size, 0, none⟩), .slice (some ⟨W1.heap.size + 1, 0, none⟩) s.size (grownCap (W1.alloc (.cells #[.bool false, .slice none 0 0] 151)) s.size 0 5)] (Lib.bytesWorld (W1.alloc (.cells #[.bool false, .slice none 0 0] 151)) 5 s) (fun e w3 => e = .returned (.pointer (some ⟨W1.heap.size, 0, none⟩)) ∧ IntB w3 W1.heap.size ((bval s.data.toList : Nat) : Int) ∧ Below w.heap.size w w3 ∧ w3.cell? ⟨w.heap.size, 0, none⟩ = some (.bool ng))) := by
    refine Lib.hid ((setbytes_any (c := grownCap (W1.alloc (.cells #[.bool false, .slice none 0 0] 151)) s.size 0 5) ((IntB.zero W1).slot.below hbb) hrd (Nat.le_refl _) hsl.symm (by omega)).mono ?_)
    rintro e w3 ⟨rfl, hi3, hg3⟩
    have hb13 : Below W1.heap.size W1 w3 := ((new_below W1 _).trans (hbb.mono (by simp))).grown hg3 (by rw [Lib.bytesWorld_size]; simp; omega) (fun k hk => by injection hk with hk; omega)
    exact ⟨rfl, hi3, hb1.trans (hb13.mono hb1.size), (hb13.cell (p := ⟨w.heap.size, 0, none⟩) (by show w.heap.size < _; omega)).trans e0⟩
  have hlen := len_mag Hm.out
  subst hW1
  rw [World.size_alloc] at HS
  clear hrd hbb e0 hb1 hsz1 hbk hsl
  cases ng
  · go_enter Tryz.func148, Tryz.ntmps148
    go_wp2_with (go_at_call 149; (refine HS.out.mono ?_); rintro _ w3 ⟨rfl, hi3, hb3, d0⟩)
    go_ret
    exact ⟨_, rfl, by simp, hi3, hb3⟩
  · go_enter Tryz.func148, Tryz.ntmps148
    go_wp2_with (first | (go_at_call 149; (refine HS.out.mono ?_); rintro _ w3 ⟨rfl, hi3, hb3, d0⟩; have HN := Lib.hid (neg_any hi3.slot hi3 (by rw [Int.natAbs_natCast]; omega))) | (go_at_call 150; (refine HN.out.mono ?_); rintro _ w4 ⟨rfl, hi4, hg4⟩))
    go_ret
    exact ⟨_, rfl, by simp, hi4, up_row hb3 hg4 hb3.size (by omega)⟩
end Go.Proofs.YtebpggfccljagaaGreatDoor

/- Rat.SetFrac. -/
namespace Go.Proofs.YtebpggfccljagaaGreatDoor
open Go.RowKit
open Wh
set_option linter.unusedSimpArgs false

/-- a block that may be a fraction's -/
def RatS (w : World) (g : Nat) : Prop := ∃ cs, Blk w g 153 cs ∧ cs.size = 4
theorem RatS.lt {w : World} {g : Nat} (h : RatS w g) : g < w.heap.size := by
  obtain ⟨cs, hb, _⟩ := h
  exact hb.lt
theorem RatS.below {w w' : World} {g : Nat} (h : RatS w g) (hb : Below w.heap.size w w') : RatS w' g := by
  have hlt := h.lt
  obtain ⟨cs, hk, hs⟩ := h
  exact ⟨cs, hk.below hb hlt, hs⟩
/-- the four cells of a fraction, written -/
theorem rat_made {w : World} {g : Nat} {a b : Int} {sa sb : Bool} {A B : Option Addr} {n c m d : Nat} (hs : RatS w g) (ha : Hid (sa = decide (a < 0) ∧ n = (wds a.natAbs).length)) (hnc : n ≤ c) (hc : c ≤ 9223372036854775807) (hA : ReadsW w w.heap.size A (wds a.natAbs))
    (hb : Hid (sb = decide (b < 0) ∧ m = (wds b.natAbs).length)) (hmd : m ≤ d) (hd : d ≤ 9223372036854775807) (hB : ReadsW w w.heap.size B (wds b.natAbs)) (hp : 0 < b) :
    RatB ((((w.setCell ⟨g, 0, none⟩ (.bool sa)).setCell ⟨g, 1, none⟩ (.slice A n c)).setCell ⟨g, 2, none⟩ (.bool sb)).setCell ⟨g, 3, none⟩ (.slice B m d)) g a b ∧
      w.grownBy ((((w.setCell ⟨g, 0, none⟩ (.bool sa)).setCell ⟨g, 1, none⟩ (.slice A n c)).setCell ⟨g, 2, none⟩ (.bool sb)).setCell ⟨g, 3, none⟩ (.slice B m d)) (some g) := by
  obtain ⟨cs, hk, hz⟩ := hs
  have hg : w.grownBy ((((w.setCell ⟨g, 0, none⟩ (.bool sa)).setCell ⟨g, 1, none⟩ (.slice A n c)).setCell ⟨g, 2, none⟩ (.bool sb)).setCell ⟨g, 3, none⟩ (.slice B m d)) (some g) :=
    only_setCell (p := ⟨g, 3, none⟩) (only_setCell (p := ⟨g, 2, none⟩) (only_setCell (p := ⟨g, 1, none⟩) (only_setCell (p := ⟨g, 0, none⟩) (World.grownBy.refl w (some g)) (.inl rfl) _) (.inl rfl) _) (.inl rfl) _) (.inl rfl) _
  have hk4 := (((hk.set_ 0 (.bool sa)).set_ 1 (.slice A n c)).set_ 2 (.bool sb)).set_ 3 (.slice B m d)
  have off : ∀ {l : List Nat} {X : Option Addr}, ReadsW w w.heap.size X l → ReadsW ((((w.setCell ⟨g, 0, none⟩ (.bool sa)).setCell ⟨g, 1, none⟩ (.slice A n c)).setCell ⟨g, 2, none⟩ (.bool sb)).setCell ⟨g, 3, none⟩ (.slice B m d)) w.heap.size X l := fun h =>
    h.other hg (Nat.le_refl _) fun r e => by
      injection e with e
      subst e
      exact ⟨_, _, _, hk, by decide⟩
  generalize ((((w.setCell ⟨g, 0, none⟩ (.bool sa)).setCell ⟨g, 1, none⟩ (.slice A n c)).setCell ⟨g, 2, none⟩ (.bool sb)).setCell ⟨g, 3, none⟩ (.slice B m d)) = w4 at *
  refine ⟨⟨⟨sa, A, n, c, ?_, ?_, ha, hnc, hc, (off hA).more hg.size⟩, ⟨sb, B, m, d, ?_, ?_, hb, hmd, hd, (off hB).more hg.size⟩, hp⟩, hg⟩
  · rw [hk4.cell]; simp [hz]
  · rw [hk4.cell]; simp [hz]
  · rw [hk4.cell]; simp [hz]
  · rw [hk4.cell]; simp [hz]

theorem quo_new {W : World} {ga gb : Nat} {a b : Int} (ha : IntB W ga a) (hb : IntB W gb b) (hal : (wds a.natAbs).length ≤ 900000000) (hbl : (wds b.natAbs).length ≤ 900000000) (hb0 : b ≠ 0) :
    Calls Tryz.prog 165 #[.pointer (some ⟨W.heap.size, 0, none⟩), .pointer (some ⟨ga, 0, none⟩), .pointer (some ⟨gb, 0, none⟩)] (W.alloc (.cells #[.bool false, .slice none 0 0] 151)) (fun e w' => e = .returned (.pointer (some ⟨W.heap.size, 0, none⟩)) ∧ IntB w' W.heap.size (a.tdiv b) ∧ Below W.heap.size W w') := by
  refine (quo_any (IntB.zero W).slot (ha.below (new_below _ _)) (hb.below (new_below _ _)) hal hbl hb0).mono ?_
  rintro _ w' ⟨rfl, hi, hg⟩
  exact ⟨rfl, hi, below_new hg⟩
theorem gcd_new {W : World} {ga gb : Nat} {a b : Int} (ha : IntB W ga a) (hb : IntB W gb b) (hal : (wds a.natAbs).length ≤ 900000000) (hbl : (wds b.natAbs).length ≤ 900000000) :
    Calls Tryz.prog 164 #[.pointer (some ⟨W.heap.size, 0, none⟩), .pointer none, .pointer none, .pointer (some ⟨ga, 0, none⟩), .pointer (some ⟨gb, 0, none⟩)] (W.alloc (.cells #[.bool false, .slice none 0 0] 151)) (fun e w' => e = .returned (.pointer (some ⟨W.heap.size, 0, none⟩)) ∧ IntB w' W.heap.size (Nat.gcd a.natAbs b.natAbs : Int) ∧ Below W.heap.size W w') := by
  refine (gcd_any (IntB.zero W).slot (ha.below (new_below _ _)) (hb.below (new_below _ _)) hal hbl).mono ?_
  rintro _ w' ⟨rfl, hi, hg⟩
  exact ⟨rfl, hi, below_new hg⟩
theorem len_le {x y : Nat} (h : x ≤ y) (hl : (wds y).length ≤ 900000000) : (wds x).length ≤ 900000000 := Nat.le_trans (len_mono h) hl

theorem len_numF {n : Bool} {s : ByteArray} (h : s.data.toList.length ≤ 16384) : (wds (num (n, s)).natAbs).length ≤ 900000000 := by
  have h1 := len_mag h
  unfold num
  rw [sgn_abs]
  exact Nat.le_trans h1 (by decide)
set_option maxRecDepth 100000 in
set_option maxHeartbeats 4000000 in
theorem setfrac_pos {w : World} {g ga gb : Nat} {a b : Int} (hz : RatS w g) (hga : ga ≠ g) (hgb : gb ≠ g) (ha : IntB w ga a) (hb : IntB w gb b) (hal : (wds a.natAbs).length ≤ 900000000) (hbl : (wds b.natAbs).length ≤ 900000000) (hp : 0 < b) :
    Calls Tryz.prog 147 #[.pointer (some ⟨g, 0, none⟩), .pointer (some ⟨ga, 0, none⟩), .pointer (some ⟨gb, 0, none⟩)] w (fun e w' => e = .returned (.pointer (some ⟨g, 0, none⟩)) ∧ RatB w' g (a.tdiv (Nat.gcd a.natAbs b.natAbs : Int)) (b.tdiv (Nat.gcd a.natAbs b.natAbs : Int)) ∧ w.grownBy w' (some g)) := by
  have hG : 0 < Nat.gcd a.natAbs b.natAbs := Nat.gcd_pos_of_pos_right _ (by omega)
  have hGle : Nat.gcd a.natAbs b.natAbs ≤ b.natAbs := Nat.gcd_le_right _ (by omega)
  have hGd : Nat.gcd a.natAbs b.natAbs ∣ b.natAbs := Nat.gcd_dvd_right _ _
  have HG := Lib.hid (gcd_new ha hb hal hbl)
  obtain ⟨G, hGe⟩ : ∃ G, G = Nat.gcd a.natAbs b.natAbs := ⟨_, rfl⟩
  rw [← hGe] at HG hG hGle hGd ⊢
  have HF := Lib.hid (And.intro hG (And.intro hGle (And.intro hGd hp)))
  have HL := Lib.hid (And.intro hal hbl)
  have HA := Lib.hid (And.intro ha (And.intro hb hz))
  have HN := Lib.hid (And.intro hga hgb)
  clear hal hbl hG hGle hGd hGe hp ha hb hz hga hgb
  go_enter Tryz.func147, Tryz.ntmps147
  go_wp2_with (go_at_call 164; (refine HG.out.mono ?_); rintro _ W1 ⟨rfl, hi1, hb1⟩; obtain ⟨sb, Ab, nb, cb, y0, y1, Hy, _, _, _⟩ := (HA.out.2.1.below hb1).opened; have hsb : sb = false := (by rw [Hy.out.1]; exact decide_eq_false (by have := HF.out.2.2.2; omega)); subst hsb)
  have hb1n := hb1
  have Q1 := Lib.hid (quo_new (HA.out.1.below hb1) hi1 HL.out.1 (by rw [Int.natAbs_natCast]; exact len_le HF.out.2.1 HL.out.2) (by have := HF.out.1; omega))
  refine Q1.out.mono ?_
  rintro _ W2 ⟨rfl, hi2, hb2⟩
  have hb12 := hb1.trans (hb2.mono hb1.size)
  have Q2 := Lib.hid (quo_new (HA.out.2.1.below hb12) (hi1.below hb2) HL.out.2 (by rw [Int.natAbs_natCast]; exact len_le HF.out.2.1 HL.out.2) (by have := HF.out.1; omega))
  go_wp2_with (go_at_call 165; (refine Q2.out.mono ?_); rintro _ W3 ⟨rfl, hi3, hb3⟩)
  have hb13 := hb12.trans (hb3.mono hb12.size)
  have hgl := HA.out.2.2.lt
  have hi2' := hi2.below hb3
  have hz3 := HA.out.2.2.below hb13
  have hl1 := hb1.size
  have hl2 := hb2.size
  have gn1 : ¬ g = W1.heap.size := by omega
  have gn2 : ¬ g = W2.heap.size := by omega
  have gm1 : ¬ W1.heap.size = g := by omega
  have gm2 : ¬ W2.heap.size = g := by omega
  obtain ⟨s2, A2, n2, c2, u0, u1, Hu, hu1, hu2, hur⟩ := hi2'.opened
  obtain ⟨s3, A3, n3, c3, v0, v1, Hv, hv1, hv2, hvr⟩ := hi3.opened
  have Hz3 := Lib.hid hz3
  obtain ⟨cs, hk, hcs⟩ := hz3
  obtain ⟨z0, e0⟩ : ∃ z, W3.cell? ⟨g, 0, none⟩ = some z := ⟨cs[0]'(by omega), by rw [hk.cell]; exact Array.getElem?_eq_getElem (by omega)⟩
  obtain ⟨z1, e1⟩ : ∃ z, W3.cell? ⟨g, 1, none⟩ = some z := ⟨cs[1]'(by omega), by rw [hk.cell]; exact Array.getElem?_eq_getElem (by omega)⟩
  obtain ⟨z2, e2⟩ : ∃ z, W3.cell? ⟨g, 2, none⟩ = some z := ⟨cs[2]'(by omega), by rw [hk.cell]; exact Array.getElem?_eq_getElem (by omega)⟩
  obtain ⟨z3, e3⟩ : ∃ z, W3.cell? ⟨g, 3, none⟩ = some z := ⟨cs[3]'(by omega), by rw [hk.cell]; exact Array.getElem?_eq_getElem (by omega)⟩
  have f0 := hk.frozen 0
  have f1 := hk.frozen 1
  have f2 := hk.frozen 2
  have f3 := hk.frozen 3
  have HU := Lib.hid (And.intro hu1 (And.intro hu2 hur))
  have HV := Lib.hid (And.intro hv1 (And.intro hv2 hvr))
  have HB := Lib.hid hb13
  generalize W1.heap.size = N1 at *
  generalize W2.heap.size = N2 at *
  clear hk hcs hi2' hi2 hi3 hu1 hu2 hur hv1 hv2 hvr hb13 hb12 hb1n hb1 hb2 hb3 Q1 Q2 hgl hl1 hl2 hi1 HG
  go_region
  go_wp2_with fail
  go_ret
  have hpos : 0 < b.tdiv (G : Int) := by
    obtain ⟨q, hq⟩ := HF.out.2.2.1
    have hb0 := HF.out.2.2.2
    have hG0 := HF.out.1
    have e : b = (G : Int) * (q : Int) := by
      have : (b.natAbs : Int) = b := by omega
      rw [← this, hq]; push_cast; rfl
    have hq0 : 0 < q := by
      rcases Nat.eq_zero_or_pos q with h | h
      · rw [h] at e; omega
      · exact h
    rw [e, Int.mul_comm, Int.mul_tdiv_cancel _ (by omega)]
    omega
  obtain ⟨r1, r2⟩ := rat_made Hz3.out Hu HU.out.1 HU.out.2.1 HU.out.2.2 Hv HV.out.1 HV.out.2.1 HV.out.2.2 hpos
  have r3 := grown_lift HB.out r2
  exact ⟨rfl, ⟨r1.num, r1.den, r1.pos⟩, ⟨r3.os, r3.tape, r3.output, r3.size, r3.block⟩⟩

end Go.Proofs.YtebpggfccljagaaGreatDoor

/- frac.rat; Rat.SetInt, SetInt64. -/
namespace Go.Proofs.YtebpggfccljagaaGreatDoor
open Go.RowKit
open Wh
set_option linter.unusedSimpArgs false

theorem RatS.zero (w : World) : RatS (w.alloc (.cells #[.bool false, .slice none 0 0, .bool false, .slice none 0 0] 153)) w.heap.size := ⟨_, Blk.new w 153 _, rfl⟩
theorem grown_cell {w w' : World} {r b o : Nat} (h : w.grownBy w' (some r)) (hb : b < w.heap.size) (hne : b ≠ r) : w'.cell? ⟨b, o, none⟩ = w.cell? ⟨b, o, none⟩ :=
  World.cell?_of_block (h.block b hb (by intro e; injection e with e; exact hne e))
set_option maxRecDepth 100000 in
set_option maxHeartbeats 4000000 in
/-- a fraction of two whole numbers that may be, the second one above nought -/
theorem ratf_any {w : World} {na nb : Bool} {sa sb : ByteArray} (ha : sa.data.toList.length ≤ 16384) (hb : sb.data.toList.length ≤ 16384) (hp : 0 < num (nb, sb)) :
    Calls Tryz.prog 119 #[.agg #[.bool na, .string sa, .bool nb, .string sb]] w (fun e w' => ∃ g, e = .returned (.pointer (some ⟨g, 0, none⟩)) ∧ w.heap.size ≤ g ∧
      RatB w' g ((num (na, sa)).tdiv (Nat.gcd (num (na, sa)).natAbs (num (nb, sb)).natAbs : Int)) ((num (nb, sb)).tdiv (Nat.gcd (num (na, sa)).natAbs (num (nb, sb)).natAbs : Int)) ∧ Below w.heap.size w w') := by
  have H1 := Lib.hid (fun W => number_any (w := W) (ng := na) ha)
  have H2 := Lib.hid (fun W => number_any (w := W) (ng := nb) hb)
  have HL := Lib.hid (And.intro (len_numF (n := na) ha) (len_numF (n := nb) hb))
  have HP := Lib.hid hp
  clear ha hb hp
  generalize num (na, sa) = a at *
  generalize num (nb, sb) = b at *
  go_enter Tryz.func119, Tryz.ntmps119
  go_wp2_with fail
  go_region_held3 (fun w' => w'.cell? ⟨w.heap.size, 0, none⟩ = some (.bool na) ∧ w'.cell? ⟨w.heap.size, 1, none⟩ = some (.string sa) ∧ w'.cell? ⟨w.heap.size, 2, none⟩ = some (.bool nb) ∧ w'.cell? ⟨w.heap.size, 3, none⟩ = some (.string sb))
    (first
      | go_keep
      | (rw [hb1.cell (by first | omega | (simp; omega) | simp), hb1.cell (by first | omega | (simp; omega) | simp), hb1.cell (by first | omega | (simp; omega) | simp), hb1.cell (by first | omega | (simp; omega) | simp)]; go_keep)
      | (rw [hb2.cell (by first | omega | (simp; omega) | simp), hb2.cell (by first | omega | (simp; omega) | simp), hb2.cell (by first | omega | (simp; omega) | simp), hb2.cell (by first | omega | (simp; omega) | simp)]; go_keep)
      | (rw [hb1b.cell (by first | omega | (simp; omega) | simp), hb1b.cell (by first | omega | (simp; omega) | simp), hb1b.cell (by first | omega | (simp; omega) | simp), hb1b.cell (by first | omega | (simp; omega) | simp)]; go_keep)
      | (rw [hb2b.cell (by first | omega | (simp; omega) | simp), hb2b.cell (by first | omega | (simp; omega) | simp), hb2b.cell (by first | omega | (simp; omega) | simp), hb2b.cell (by first | omega | (simp; omega) | simp)]; go_keep)
      | (rw [hb2d.cell (by first | omega | (simp; omega) | simp), hb2d.cell (by first | omega | (simp; omega) | simp), hb2d.cell (by first | omega | (simp; omega) | simp), hb2d.cell (by first | omega | (simp; omega) | simp)]; go_keep)
      | (rw [grown_cell hg3 (by first | omega | (simp; omega)) (by omega), grown_cell hg3 (by first | omega | (simp; omega)) (by omega), grown_cell hg3 (by first | omega | (simp; omega)) (by omega), grown_cell hg3 (by first | omega | (simp; omega)) (by omega)]; go_keep)
      | (rw [grown_cell hg3b (by first | omega | (simp; omega)) (by omega), grown_cell hg3b (by first | omega | (simp; omega)) (by omega), grown_cell hg3b (by first | omega | (simp; omega)) (by omega), grown_cell hg3b (by first | omega | (simp; omega)) (by omega)]; go_keep)
      | (rw [grown_cell hg3d (by first | omega | (simp; omega)) (by omega), grown_cell hg3d (by first | omega | (simp; omega)) (by omega), grown_cell hg3d (by first | omega | (simp; omega)) (by omega), grown_cell hg3d (by first | omega | (simp; omega)) (by omega)]; go_keep))
    (first
      | (go_at_call 148; (with_reducible refine (H1.out _).mono ?_); rintro _ W1 ⟨g1, rfl, hl1, hi1, hb1⟩; have z1 : w.heap.size + 2 ≤ W1.heap.size := (by have := hb1.size; simpa using this); have hl1' : w.heap.size + 2 ≤ g1 := (by simpa using hl1); have hr1 : RatS W1 (w.heap.size + 1) := (RatS.below ⟨_, by have := Blk.new (w.alloc (.cells #[.bool na, .string sa, .bool nb, .string sb] 36)) 153 #[.bool false, .slice none 0 0, .bool false, .slice none 0 0]; rw [World.size_alloc] at this; exact this, rfl⟩ hb1))
      | (go_at_call 148; (with_reducible refine (H2.out _).mono ?_); rintro _ W2 ⟨g2, rfl, hl2, hi2, hb2⟩; have z2 := hb2.size; have hi1' := hi1.below hb2; have hr2 := hr1.below hb2)
      | (go_at_call 147; (with_reducible refine (setfrac_pos hr2 (by omega) (by omega) hi1' hi2 HL.out.1 HL.out.2 HP.out).mono ?_); rintro _ W3 ⟨rfl, hr3, hg3⟩)
      | (go_at_call 148; (with_reducible refine (H1.out _).mono ?_); rintro _ W1 ⟨g1, rfl, hl1b, hi1b, hb1b⟩; have z1b : w.heap.size + 1 ≤ W1.heap.size := (by have := hb1b.size; simpa using this); have hl1c : w.heap.size + 1 ≤ g1 := (by simpa using hl1b); have hg1lt := hi1b.lt)
      | (go_at_call 148; (with_reducible refine (H2.out _).mono ?_); rintro _ W2 ⟨g2, rfl, hl2b, hi2b, hb2b⟩; have z2b : W1.heap.size + 1 ≤ W2.heap.size := (by have := hb2b.size; simpa using this); have hr2b : RatS W2 W1.heap.size := (RatS.below ⟨_, Blk.new W1 153 #[.bool false, .slice none 0 0, .bool false, .slice none 0 0], rfl⟩ hb2b); have hi1c := (hi1b.below (new_below W1 _)).below hb2b; have hl2c : W1.heap.size + 1 ≤ g2 := (by simpa using hl2b))
      | (go_at_call 147; (with_reducible refine (setfrac_pos hr2b (by omega) (by omega) hi1c hi2b HL.out.1 HL.out.2 HP.out).mono ?_); rintro _ W3 ⟨rfl, hr3b, hg3b⟩)
      | (go_at_call 148; (with_reducible refine (H2.out _).mono ?_); rintro _ W2 ⟨g2, rfl, hl2d, hi2d, hb2d⟩; have z2d := hb2d.size; have hg2lt := hi2d.lt)
      | (go_at_call 147; (with_reducible refine (setfrac_pos (RatS.zero W2) (by omega) (by omega) ((hi1b.below hb2d).below (new_below W2 _)) (hi2d.below (new_below W2 _)) HL.out.1 HL.out.2 HP.out).mono ?_); rintro _ W3 ⟨rfl, hr3d, hg3d⟩))
  · go_wp2_with fail
    go_ret
    exact ⟨_, rfl, by omega, hr3, up_row (((((Below.refl w.heap.size w).alloc (Nat.le_refl _) _).alloc (by simp) _).drew.trans (hb1.mono (by simp; omega))).trans (hb2.mono (by omega))) hg3 (by omega) (by omega)⟩
  · go_wp2_with fail
    go_ret
    exact ⟨_, rfl, by omega, hr3b, up_row (((((Below.refl w.heap.size w).alloc (Nat.le_refl _) _).drew.trans (hb1b.mono (by simp))).alloc (by omega) _).trans (hb2b.mono (by simp; omega))) hg3b (by omega) (by omega)⟩
  · go_wp2_with fail
    go_ret
    exact ⟨_, rfl, by omega, hr3d, up_row (((((Below.refl w.heap.size w).alloc (Nat.le_refl _) _).drew.trans (hb1b.mono (by simp))).trans (hb2d.mono (by omega))).alloc (by omega) _) hg3d (by simp; omega) (by omega)⟩
end Go.Proofs.YtebpggfccljagaaGreatDoor

/- frac.back, told; Rat.SetInt, SetInt64; frac.Int. -/
namespace Go.Proofs.YtebpggfccljagaaGreatDoor
open Go.RowKit
open Wh
set_option linter.unusedSimpArgs false

set_option maxRecDepth 100000 in
set_option maxHeartbeats 4000000 in
theorem back_any {w : World} {gx : Nat} {z : Int} (hx : IntB w gx z) (hxl : (wds z.natAbs).length ≤ 100000000) :
    Calls Tryz.prog 93 #[.pointer (some ⟨gx, 0, none⟩)] w (fun e w' => e = .returned (enc z) ∧ Below w.heap.size w w') := by
  have hb0 := new_below w (.cells #[.bool false, .string ⟨#[]⟩] 34)
  have hx1 := hx.below hb0
  have Hx := Lib.hid (And.intro hx1 (And.intro hxl hb0))
  have HS := Lib.hid (sign_any hx1)
  obtain ⟨sv, hsv⟩ : ∃ sv, sv = sg z := ⟨_, rfl⟩
  rw [← hsv] at HS
  have Hsv := Lib.hid hsv
  clear hsv hx hx1 hxl hb0
  go_enter Tryz.func93, Tryz.ntmps93
  go_wp2_with fail
  refine HS.out.mono ?_
  rintro e w3 ⟨rfl, rfl⟩
  have HY := Lib.hid (bytes_any (m := z.natAbs) z rfl Hx.out.1 (by have := Hx.out.2.1; omega))
  go_wp2_with fail
  refine HY.out.mono ?_
  rintro e w4 ⟨A, n, rfl, hn, hr, hb4⟩
  have hstr := run_str (c := n) hn.out hr
  have hbk := (Blk.new w 34 #[.bool false, .string ⟨#[]⟩]).below hb4 (by simp)
  have d0 := hbk.cell 0
  have d1 := hbk.cell 1
  have f0 := hbk.frozen 0
  have f1 := hbk.frozen 1
  have Hb24 := Lib.hid (And.intro hbk hb4)
  clear hbk hb4 hr
  go_wp2_with fail
  refine bodyPost_ret (v := .agg #[.bool (decide (sv < 0)), .string ⟨(bys z.natAbs).toArray⟩]) (by simp [results, Tryz.results93, go_sem, d0, d1]) rfl ?_
  refine ⟨?_, ?_⟩
  · unfold enc
    rw [Hsv.out, sg_neg]
  · exact ((Hx.out.2.2.trans (Hb24.out.2.mono (by simp))).setCell (Nat.le_refl _) _).setCell (Nat.le_refl _) _

/-- two numbers as a value -/
def encF (a b : Int) : Value := .agg #[.bool (decide (a < 0)), .string ⟨(bys a.natAbs).toArray⟩, .bool (decide (b < 0)), .string ⟨(bys b.natAbs).toArray⟩]

set_option maxRecDepth 100000 in
set_option maxHeartbeats 4000000 in
theorem toldf_any {w : World} {g : Nat} {a b : Int} (hr : RatB w g a b) (hal : (wds a.natAbs).length ≤ 100000000) (hbl : (wds b.natAbs).length ≤ 100000000) :
    Calls Tryz.prog 103 #[.pointer (some ⟨g, 0, none⟩)] w (fun e w' => e = .returned (encF a b) ∧ Below w.heap.size w w') := by
  have hb0 := new_below w (.cells #[.bool false, .string ⟨#[]⟩, .bool false, .string ⟨#[]⟩] 36)
  have hr0 := hr.below hb0
  have HN := Lib.hid (num_new hr0 (by omega))
  have Hr := Lib.hid (And.intro hr0 (And.intro hal hbl))
  have Hb := Lib.hid hb0
  clear hr hr0 hal hbl hb0
  go_enter Tryz.func103, Tryz.ntmps103
  go_wp2_with fail
  refine HN.out.mono ?_
  rintro _ W1 ⟨g1, rfl, hl1, hi1, hb1⟩
  have HB1 := Lib.hid (back_any hi1 Hr.out.2.1)
  have Hi1 := Lib.hid hb1
  clear hl1 hi1 hb1
  go_wp2_with fail
  refine HB1.out.mono ?_
  rintro _ W2 ⟨rfl, hb2⟩
  have hb12 := Hi1.out.trans (hb2.mono Hi1.out.size)
  have HD := Lib.hid (denom_new (Hr.out.1.below hb12) (by have := Hr.out.2.2; omega))
  have H12 := Lib.hid hb12
  clear hb2 hb12
  unfold enc
  go_wp2_with fail
  refine HD.out.mono ?_
  rintro _ W3 ⟨g3, rfl, hl3, hi3, hb3⟩
  have HB3 := Lib.hid (back_any hi3 Hr.out.2.2)
  have H13 := Lib.hid (H12.out.trans (hb3.mono H12.out.size))
  clear hl3 hi3 hb3
  go_wp2_with fail
  refine HB3.out.mono ?_
  rintro _ W4 ⟨rfl, hb4⟩
  have h14 := H13.out.trans (hb4.mono H13.out.size)
  have hbk := (Blk.new w 36 #[.bool false, .string ⟨#[]⟩, .bool false, .string ⟨#[]⟩]).below h14 (by simp)
  have d0 := hbk.cell 0
  have d1 := hbk.cell 1
  have d2 := hbk.cell 2
  have d3 := hbk.cell 3
  have f0 := hbk.frozen 0
  have f1 := hbk.frozen 1
  have f2 := hbk.frozen 2
  have f3 := hbk.frozen 3
  have H14 := Lib.hid (Hb.out.trans (h14.mono Hb.out.size))
  clear hbk hb4 h14
  unfold enc
  go_wp2_with fail
  refine bodyPost_ret (v := encF a b) (by simp [results, Tryz.results103, go_sem, d0, d1, d2, d3, encF]) rfl ?_
  exact ⟨rfl, (((H14.out.setCell (Nat.le_refl _) _).setCell (Nat.le_refl _) _).setCell (Nat.le_refl _) _).setCell (Nat.le_refl _) _⟩
end Go.Proofs.YtebpggfccljagaaGreatDoor

/- == of whole numbers, of fractions. -/
namespace Go.Proofs.YtebpggfccljagaaGreatDoor
open Go.RowKit
theorem tl_inj {a b : ByteArray} (h : a.toList = b.toList) : a = b := by
  rw [toL, toL] at h
  cases a; cases b
  simp only at h
  rw [Array.toList_inj.1 h]
theorem eql_fr (x0 x1 y0 y1 : Bool) (s0 s1 t0 t1 : ByteArray) (w : World) :
    (binOp .eql 36 (.agg #[.bool x0, .string s0, .bool x1, .string s1]) (.agg #[.bool y0, .string t0, .bool y1, .string t1])).run Tryz.prog w = .ok (.bool (decide (x0 = y0 ∧ s0 = t0 ∧ x1 = y1 ∧ s1 = t1))) w := by
  by_cases h0 : x0 = y0 <;> by_cases h1 : s0 = t0 <;> by_cases h2 : x1 = y1 <;> by_cases h3 : s1 = t1 <;> (try subst h0) <;> (try subst h1) <;> (try subst h2) <;> (try subst h3) <;> go_simp <;>
    (first | done | simp_all | exact fun h => h1 (tl_inj h) | exact fun h => h3 (tl_inj h) | exact fun h _ => h1 (tl_inj h))
theorem neq_wh (x0 y0 : Bool) (s0 t0 : ByteArray) (w : World) :
    (binOp .neq 34 (.agg #[.bool x0, .string s0]) (.agg #[.bool y0, .string t0])).run Tryz.prog w = .ok (.bool (!decide (x0 = y0 ∧ s0 = t0))) w := by
  by_cases h0 : x0 = y0 <;> by_cases h1 : s0 = t0 <;> (try subst h0) <;> (try subst h1) <;> go_simp <;> (first | done | simp_all | exact fun h => h1 (tl_inj h))
end Go.Proofs.YtebpggfccljagaaGreatDoor
