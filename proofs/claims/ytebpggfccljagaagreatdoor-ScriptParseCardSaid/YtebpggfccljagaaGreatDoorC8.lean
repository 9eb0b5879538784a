import Derived.Test.YtebpggfccljagaaGreatDoorC7
import Derived.ScopeJumps
import Derived.Test.YtebpggfccljagaaGreatDoorC4
import Derived.BigQuiet
import Derived.Lib.Split
import Derived.Test.YtebpggfccljagaaGreatDoorC5
import Derived.Deep.RegionHeld3
import Derived.Below
import Derived.Test.YtebpggfccljagaaGreatDoorC3
namespace Go.Proofs.YtebpggfccljagaaGreatDoor
open Go.RowKit
open Wh
set_option linter.unusedSimpArgs false
set_option linter.unusedVariables false
set_option maxRecDepth 100000 in
set_option maxHeartbeats 2000000 in
theorem sst_0 {w : World} {v nm vx nmx : ByteArray} {A Ax : Option Addr} {n c nx cx : Nat} (e0 : ¬ v = vx) :
  Calls Tryz.prog 11 #[.agg #[.string v, .string nm, .slice A n c], .agg #[.string vx, .string nmx, .slice Ax nx cx]] w (fun e w' => e = .returned (.bool false) ∧ Below w.heap.size w w') := by
 have e0a : ¬ v.toList = vx.toList := fun h => e0 (tl_inj h)
 have e0b : (v.toList == vx.toList) = false := by simpa using e0a
 have e0c : (v.toList != vx.toList) = true := by simpa using e0a
 have hbx := Box.new w 25 #[.string v, .string nm, .slice A n c]
 have hby := Box.new (w.alloc (.cells #[.string v, .string nm, .slice A n c] 25)) 25 #[.string vx, .string nmx, .slice Ax nx cx]
 have hbw := hbx.2.trans (hby.2.mono hbx.2.size)
 clear hbx hby
 go_enter Tryz.func11, Tryz.ntmps11
 go_wp2_with fail
 go_ret
 exact ⟨rfl, hbw⟩
set_option maxRecDepth 100000 in
set_option maxHeartbeats 2000000 in
theorem sst_1 {w : World} {v nm vx nmx : ByteArray} {A Ax : Option Addr} {n c nx cx : Nat} (e1 : ¬ nm = nmx) :
  Calls Tryz.prog 11 #[.agg #[.string v, .string nm, .slice A n c], .agg #[.string v, .string nmx, .slice Ax nx cx]] w (fun e w' => e = .returned (.bool false) ∧ Below w.heap.size w w') := by
 have e0a : ¬ nm.toList = nmx.toList := fun h => e1 (tl_inj h)
 have e0b : (nm.toList == nmx.toList) = false := by simpa using e0a
 have e0c : (nm.toList != nmx.toList) = true := by simpa using e0a
 have hbx := Box.new w 25 #[.string v, .string nm, .slice A n c]
 have hby := Box.new (w.alloc (.cells #[.string v, .string nm, .slice A n c] 25)) 25 #[.string v, .string nmx, .slice Ax nx cx]
 have hbw := hbx.2.trans (hby.2.mono hbx.2.size)
 clear hbx hby
 go_enter Tryz.func11, Tryz.ntmps11
 go_wp2_with fail
 go_ret
 exact ⟨rfl, hbw⟩
set_option maxRecDepth 100000 in
set_option maxHeartbeats 2000000 in
theorem sst_2 {w : World} {v nm vx nmx : ByteArray} {A Ax : Option Addr} {n c nx cx : Nat} (e2 : ¬ n = nx) :
  Calls Tryz.prog 11 #[.agg #[.string v, .string nm, .slice A n c], .agg #[.string v, .string nm, .slice Ax nx cx]] w (fun e w' => e = .returned (.bool false) ∧ Below w.heap.size w w') := by
 have e0a : ((n : Int) == (nx : Int)) = false := by simp; omega
 have e0b : ((n : Int) != (nx : Int)) = true := by simp; omega
 have e0c : ¬ (n : Int) = (nx : Int) := by omega
 have hbx := Box.new w 25 #[.string v, .string nm, .slice A n c]
 have hby := Box.new (w.alloc (.cells #[.string v, .string nm, .slice A n c] 25)) 25 #[.string v, .string nm, .slice Ax nx cx]
 have hbw := hbx.2.trans (hby.2.mono hbx.2.size)
 clear hbx hby
 go_enter Tryz.func11, Tryz.ntmps11
 go_wp2_with fail
 go_ret
 exact ⟨rfl, hbw⟩
theorem take_stepA {l m : List ARow} {i : Nat} (hl : i < l.length) (hm : i < m.length) (h : (l.take i).map (fun r => r.2.2) = (m.take i).map (fun r => r.2.2)) (hx : l[i].2.2 = m[i].2.2) : (l.take (i + 1)).map (fun r => r.2.2) = (m.take (i + 1)).map (fun r => r.2.2) := by
 rw [List.take_succ_eq_append_getElem hl, List.take_succ_eq_append_getElem hm, List.map_append, List.map_append, h]
 simp [hx]
theorem map_getA {l m : List ARow} {i : Nat} (hl : i < l.length) (hm : i < m.length) (h : l.map (fun r => r.2.2) = m.map (fun r => r.2.2)) : l[i].2.2 = m[i].2.2 := by
 have h1 : (l.map (fun r => r.2.2))[i]? = (m.map (fun r => r.2.2))[i]? := by rw [h]
 rw [List.getElem?_map, List.getElem?_map, List.getElem?_eq_getElem hl, List.getElem?_eq_getElem hm] at h1
 simpa using h1
set_option maxRecDepth 100000 in
set_option maxHeartbeats 4000000 in
theorem sst_3 {w : World} {B : Nat} {v nm : ByteArray} {A Ax : Option Addr} {n c cx : Nat} {rs qs : List ARow} (hr : ReadsA w B A rs) (hq : ReadsA w B Ax qs) (hB : B ≤ w.heap.size) (hn : n = rs.length) (hnx : n = qs.length) (hnl : n ≤ 1000000) (hf : ∀ r ∈ rs, r.2.2.fit) (hfx : ∀ r ∈ qs, r.2.2.fit) {b : Bool} (hb : b = true ↔ rs.map (fun r => r.2.2) = qs.map (fun r => r.2.2)) :
  Calls Tryz.prog 11 #[.agg #[.string v, .string nm, .slice A n c], .agg #[.string v, .string nm, .slice Ax n cx]] w (fun e w' => e = .returned (.bool b) ∧ Below w.heap.size w w') := by
 have Hr := Lib.hid (hr.more hB)
 have Hq := Lib.hid (hq.more hB)
 have Hn := Lib.hid hn
 have Hnx := Lib.hid hnx
 have Hf := Lib.hid hf
 have Hfx := Lib.hid hfx
 have Hb := Lib.hid hb
 clear hr hq hB hn hnx hf hfx hb
 have hbx := Box.new w 25 #[.string v, .string nm, .slice A n c]
 have hby := Box.new (w.alloc (.cells #[.string v, .string nm, .slice A n c] 25)) 25 #[.string v, .string nm, .slice Ax n cx]
 have hbw := hbx.2.trans (hby.2.mono hbx.2.size)
 have hbx2 := hbx.1.below hby.2 hbx.1.lt
 have hby2 : Blk _ (w.heap.size + 1) 25 _ := (by have := hby.1; simpa using this)
 have Hst0 := Lib.hid (And.intro hbx2 (And.intro hby2 hbw))
 clear hbx hby hbx2 hby2 hbw
 have hbe : ((n : Int) == (n : Int)) = true := by simp
 have hbe2 : ((n : Int) != (n : Int)) = false := by simp
 go_enter Tryz.func11, Tryz.ntmps11
 go_wp2_with fail
 go_loopg [5] n (fun k iv wr => ∃ (i : Nat), iv = .int .i64 (i : Int) ∧ k = n - i ∧ i ≤ n ∧ Hid ((rs.take i).map (fun r => r.2.2) = (qs.take i).map (fun r => r.2.2)) ∧ Hid (Blk wr w.heap.size 25 #[.string v, .string nm, .slice A n c] ∧ Blk wr (w.heap.size + 1) 25 #[.string v, .string nm, .slice Ax n cx] ∧ Below w.heap.size w wr))
 case atStart => exact ⟨0, rfl, by omega, by omega, Lib.hid rfl, Hst0⟩
 case round =>
  obtain ⟨i, rfl, hk, hi, htk, hO⟩ := hrel
  have Hk := Lib.hid hk
  clear hk
  have b2 := hO.out.1.cell 2
  have g2 := hO.out.2.1.cell 2
  by_cases hin : i < n
  ·have hil : i < rs.length := by rw [← Hn.out]; omega
   have hjl : i < qs.length := by rw [← Hnx.out]; omega
   obtain ⟨ad, rfl, hb1, ⟨c0, c1, c2, c3, c4, c5, c6, c7, c8, c9, c10, c11⟩, ha⟩ := (Hr.out.below hO.out.2.2).cells hil
   obtain ⟨ad2, rfl, hb3, ⟨d0, d1, d2, d3, d4, d5, d6, d7, d8, d9, d10, d11⟩, hax⟩ := (Hq.out.below hO.out.2.2).cells hjl
   obtain ⟨u, hu⟩ := ex_b (rs[i].2.2 = qs[i].2.2)
   have HM := Lib.hid (fun W (hb : Below w.heap.size w W) => same_arg (w := W) ((Hr.out.2 _ (List.getElem_mem hil)).below hb) ((Hq.out.2 _ (List.getElem_mem hjl)).below hb) hb.size (Nat.le_trans (Hf.out _ (List.getElem_mem hil)).wd (by decide)) (Nat.le_trans (Hfx.out _ (List.getElem_mem hjl)).wd (by decide)) hu)
   have hii : (i : Int) < (n : Int) := by omega
   have Hnext := Lib.hid (fun h => take_stepA hil hjl htk.out (hu.1 h))
   have Hno := Lib.hid (fun (h : u = false) => show b = false from no_b Hb.out fun h2 => by rw [hu.2 (map_getA hil hjl h2)] at h; cases h)
   clear ha hax hu
   generalize rs[i] = r at *
   generalize qs[i] = q at *
   clear hil hjl
   obtain ⟨A1, c1', x⟩ := r
   obtain ⟨A2, c2', y⟩ := q
   simp only [argV] at HM
   simp only at c0 c1 c2 c3 c4 c5 c6 c7 c8 c9 c10 c11 d0 d1 d2 d3 d4 d5 d6 d7 d8 d9 d10 d11
   have L1 := hO.out.1.lt
   have L2 := hO.out.2.1.lt
   have L3 : (ad.add (i * 12)).block < wr.heap.size := by rw [block_of_add]; omega
   have L4 : (ad2.add (i * 12)).block < wr.heap.size := by rw [block_of_add]; omega
   have Hkeep : Hid (∀ w', Below wr.heap.size wr w' → (w'.cell? ⟨w.heap.size, 2, none⟩ = some (.slice (some ad) n c) ∧ w'.cell? ⟨w.heap.size + 1, 2, none⟩ = some (.slice (some ad2) n cx) ∧ w'.cell? (ad.add (i * 12)) = some (.int .i64 x.k) ∧ w'.cell? ⟨(ad.add (i * 12)).block, (ad.add (i * 12)).off + 1, none⟩ = some (.string x.nm) ∧ w'.cell? ⟨(ad.add (i * 12)).block, (ad.add (i * 12)).off + 2, none⟩ = some (.bool x.n0) ∧ w'.cell? ⟨(ad.add (i * 12)).block, (ad.add (i * 12)).off + 3, none⟩ = some (.string x.s0) ∧ w'.cell? ⟨(ad.add (i * 12)).block, (ad.add (i * 12)).off + 4, none⟩ = some (.bool x.n1) ∧ w'.cell? ⟨(ad.add (i * 12)).block, (ad.add (i * 12)).off + 5, none⟩ = some (.string x.s1) ∧ w'.cell? ⟨(ad.add (i * 12)).block, (ad.add (i * 12)).off + 6, none⟩ = some (.bool x.n2) ∧ w'.cell? ⟨(ad.add (i * 12)).block, (ad.add (i * 12)).off + 7, none⟩ = some (.string x.s2) ∧ w'.cell? ⟨(ad.add (i * 12)).block, (ad.add (i * 12)).off + 8, none⟩ = some (.bool x.n3) ∧ w'.cell? ⟨(ad.add (i * 12)).block, (ad.add (i * 12)).off + 9, none⟩ = some (.string x.s3) ∧ w'.cell? ⟨(ad.add (i * 12)).block, (ad.add (i * 12)).off + 10, none⟩ = some (.slice A1 x.wd.length c1') ∧ w'.cell? ⟨(ad.add (i * 12)).block, (ad.add (i * 12)).off + 11, none⟩ = some (.int .i64 x.ct) ∧ w'.cell? (ad2.add (i * 12)) = some (.int .i64 y.k) ∧ w'.cell? ⟨(ad2.add (i * 12)).block, (ad2.add (i * 12)).off + 1, none⟩ = some (.string y.nm) ∧ w'.cell? ⟨(ad2.add (i * 12)).block, (ad2.add (i * 12)).off + 2, none⟩ = some (.bool y.n0) ∧ w'.cell? ⟨(ad2.add (i * 12)).block, (ad2.add (i * 12)).off + 3, none⟩ = some (.string y.s0) ∧ w'.cell? ⟨(ad2.add (i * 12)).block, (ad2.add (i * 12)).off + 4, none⟩ = some (.bool y.n1) ∧ w'.cell? ⟨(ad2.add (i * 12)).block, (ad2.add (i * 12)).off + 5, none⟩ = some (.string y.s1) ∧ w'.cell? ⟨(ad2.add (i * 12)).block, (ad2.add (i * 12)).off + 6, none⟩ = some (.bool y.n2) ∧ w'.cell? ⟨(ad2.add (i * 12)).block, (ad2.add (i * 12)).off + 7, none⟩ = some (.string y.s2) ∧ w'.cell? ⟨(ad2.add (i * 12)).block, (ad2.add (i * 12)).off + 8, none⟩ = some (.bool y.n3) ∧ w'.cell? ⟨(ad2.add (i * 12)).block, (ad2.add (i * 12)).off + 9, none⟩ = some (.string y.s3) ∧ w'.cell? ⟨(ad2.add (i * 12)).block, (ad2.add (i * 12)).off + 10, none⟩ = some (.slice A2 y.wd.length c2') ∧ w'.cell? ⟨(ad2.add (i * 12)).block, (ad2.add (i * 12)).off + 11, none⟩ = some (.int .i64 y.ct))) := Lib.hid fun w' hb => ⟨(show w'.cell? ⟨w.heap.size, 2, none⟩ = wr.cell? ⟨w.heap.size, 2, none⟩ from hb.cell L1).trans b2, (show w'.cell? ⟨w.heap.size + 1, 2, none⟩ = wr.cell? ⟨w.heap.size + 1, 2, none⟩ from hb.cell L2).trans g2, (show w'.cell? (ad.add (i * 12)) = wr.cell? (ad.add (i * 12)) from hb.cell L3).trans c0, (show w'.cell? ⟨(ad.add (i * 12)).block, (ad.add (i * 12)).off + 1, none⟩ = wr.cell? ⟨(ad.add (i * 12)).block, (ad.add (i * 12)).off + 1, none⟩ from hb.cell L3).trans c1, (show w'.cell? ⟨(ad.add (i * 12)).block, (ad.add (i * 12)).off + 2, none⟩ = wr.cell? ⟨(ad.add (i * 12)).block, (ad.add (i * 12)).off + 2, none⟩ from hb.cell L3).trans c2, (show w'.cell? ⟨(ad.add (i * 12)).block, (ad.add (i * 12)).off + 3, none⟩ = wr.cell? ⟨(ad.add (i * 12)).block, (ad.add (i * 12)).off + 3, none⟩ from hb.cell L3).trans c3, (show w'.cell? ⟨(ad.add (i * 12)).block, (ad.add (i * 12)).off + 4, none⟩ = wr.cell? ⟨(ad.add (i * 12)).block, (ad.add (i * 12)).off + 4, none⟩ from hb.cell L3).trans c4, (show w'.cell? ⟨(ad.add (i * 12)).block, (ad.add (i * 12)).off + 5, none⟩ = wr.cell? ⟨(ad.add (i * 12)).block, (ad.add (i * 12)).off + 5, none⟩ from hb.cell L3).trans c5, (show w'.cell? ⟨(ad.add (i * 12)).block, (ad.add (i * 12)).off + 6, none⟩ = wr.cell? ⟨(ad.add (i * 12)).block, (ad.add (i * 12)).off + 6, none⟩ from hb.cell L3).trans c6, (show w'.cell? ⟨(ad.add (i * 12)).block, (ad.add (i * 12)).off + 7, none⟩ = wr.cell? ⟨(ad.add (i * 12)).block, (ad.add (i * 12)).off + 7, none⟩ from hb.cell L3).trans c7, (show w'.cell? ⟨(ad.add (i * 12)).block, (ad.add (i * 12)).off + 8, none⟩ = wr.cell? ⟨(ad.add (i * 12)).block, (ad.add (i * 12)).off + 8, none⟩ from hb.cell L3).trans c8, (show w'.cell? ⟨(ad.add (i * 12)).block, (ad.add (i * 12)).off + 9, none⟩ = wr.cell? ⟨(ad.add (i * 12)).block, (ad.add (i * 12)).off + 9, none⟩ from hb.cell L3).trans c9, (show w'.cell? ⟨(ad.add (i * 12)).block, (ad.add (i * 12)).off + 10, none⟩ = wr.cell? ⟨(ad.add (i * 12)).block, (ad.add (i * 12)).off + 10, none⟩ from hb.cell L3).trans c10, (show w'.cell? ⟨(ad.add (i * 12)).block, (ad.add (i * 12)).off + 11, none⟩ = wr.cell? ⟨(ad.add (i * 12)).block, (ad.add (i * 12)).off + 11, none⟩ from hb.cell L3).trans c11, (show w'.cell? (ad2.add (i * 12)) = wr.cell? (ad2.add (i * 12)) from hb.cell L4).trans d0, (show w'.cell? ⟨(ad2.add (i * 12)).block, (ad2.add (i * 12)).off + 1, none⟩ = wr.cell? ⟨(ad2.add (i * 12)).block, (ad2.add (i * 12)).off + 1, none⟩ from hb.cell L4).trans d1, (show w'.cell? ⟨(ad2.add (i * 12)).block, (ad2.add (i * 12)).off + 2, none⟩ = wr.cell? ⟨(ad2.add (i * 12)).block, (ad2.add (i * 12)).off + 2, none⟩ from hb.cell L4).trans d2, (show w'.cell? ⟨(ad2.add (i * 12)).block, (ad2.add (i * 12)).off + 3, none⟩ = wr.cell? ⟨(ad2.add (i * 12)).block, (ad2.add (i * 12)).off + 3, none⟩ from hb.cell L4).trans d3, (show w'.cell? ⟨(ad2.add (i * 12)).block, (ad2.add (i * 12)).off + 4, none⟩ = wr.cell? ⟨(ad2.add (i * 12)).block, (ad2.add (i * 12)).off + 4, none⟩ from hb.cell L4).trans d4, (show w'.cell? ⟨(ad2.add (i * 12)).block, (ad2.add (i * 12)).off + 5, none⟩ = wr.cell? ⟨(ad2.add (i * 12)).block, (ad2.add (i * 12)).off + 5, none⟩ from hb.cell L4).trans d5, (show w'.cell? ⟨(ad2.add (i * 12)).block, (ad2.add (i * 12)).off + 6, none⟩ = wr.cell? ⟨(ad2.add (i * 12)).block, (ad2.add (i * 12)).off + 6, none⟩ from hb.cell L4).trans d6, (show w'.cell? ⟨(ad2.add (i * 12)).block, (ad2.add (i * 12)).off + 7, none⟩ = wr.cell? ⟨(ad2.add (i * 12)).block, (ad2.add (i * 12)).off + 7, none⟩ from hb.cell L4).trans d7, (show w'.cell? ⟨(ad2.add (i * 12)).block, (ad2.add (i * 12)).off + 8, none⟩ = wr.cell? ⟨(ad2.add (i * 12)).block, (ad2.add (i * 12)).off + 8, none⟩ from hb.cell L4).trans d8, (show w'.cell? ⟨(ad2.add (i * 12)).block, (ad2.add (i * 12)).off + 9, none⟩ = wr.cell? ⟨(ad2.add (i * 12)).block, (ad2.add (i * 12)).off + 9, none⟩ from hb.cell L4).trans d9, (show w'.cell? ⟨(ad2.add (i * 12)).block, (ad2.add (i * 12)).off + 10, none⟩ = wr.cell? ⟨(ad2.add (i * 12)).block, (ad2.add (i * 12)).off + 10, none⟩ from hb.cell L4).trans d10, (show w'.cell? ⟨(ad2.add (i * 12)).block, (ad2.add (i * 12)).off + 11, none⟩ = wr.cell? ⟨(ad2.add (i * 12)).block, (ad2.add (i * 12)).off + 11, none⟩ from hb.cell L4).trans d11⟩
   have Hbw := Lib.hid hO.out.2.2
   clear L1 L2 L3 L4 hb1 hb3
   go_wp2_with fail
   go_region_held3 (fun w' => w'.cell? ⟨w.heap.size, 2, none⟩ = some (.slice (some ad) n c) ∧ w'.cell? ⟨w.heap.size + 1, 2, none⟩ = some (.slice (some ad2) n cx) ∧ w'.cell? (ad.add (i * 12)) = some (.int .i64 x.k) ∧ w'.cell? ⟨(ad.add (i * 12)).block, (ad.add (i * 12)).off + 1, none⟩ = some (.string x.nm) ∧ w'.cell? ⟨(ad.add (i * 12)).block, (ad.add (i * 12)).off + 2, none⟩ = some (.bool x.n0) ∧ w'.cell? ⟨(ad.add (i * 12)).block, (ad.add (i * 12)).off + 3, none⟩ = some (.string x.s0) ∧ w'.cell? ⟨(ad.add (i * 12)).block, (ad.add (i * 12)).off + 4, none⟩ = some (.bool x.n1) ∧ w'.cell? ⟨(ad.add (i * 12)).block, (ad.add (i * 12)).off + 5, none⟩ = some (.string x.s1) ∧ w'.cell? ⟨(ad.add (i * 12)).block, (ad.add (i * 12)).off + 6, none⟩ = some (.bool x.n2) ∧ w'.cell? ⟨(ad.add (i * 12)).block, (ad.add (i * 12)).off + 7, none⟩ = some (.string x.s2) ∧ w'.cell? ⟨(ad.add (i * 12)).block, (ad.add (i * 12)).off + 8, none⟩ = some (.bool x.n3) ∧ w'.cell? ⟨(ad.add (i * 12)).block, (ad.add (i * 12)).off + 9, none⟩ = some (.string x.s3) ∧ w'.cell? ⟨(ad.add (i * 12)).block, (ad.add (i * 12)).off + 10, none⟩ = some (.slice A1 x.wd.length c1') ∧ w'.cell? ⟨(ad.add (i * 12)).block, (ad.add (i * 12)).off + 11, none⟩ = some (.int .i64 x.ct) ∧ w'.cell? (ad2.add (i * 12)) = some (.int .i64 y.k) ∧ w'.cell? ⟨(ad2.add (i * 12)).block, (ad2.add (i * 12)).off + 1, none⟩ = some (.string y.nm) ∧ w'.cell? ⟨(ad2.add (i * 12)).block, (ad2.add (i * 12)).off + 2, none⟩ = some (.bool y.n0) ∧ w'.cell? ⟨(ad2.add (i * 12)).block, (ad2.add (i * 12)).off + 3, none⟩ = some (.string y.s0) ∧ w'.cell? ⟨(ad2.add (i * 12)).block, (ad2.add (i * 12)).off + 4, none⟩ = some (.bool y.n1) ∧ w'.cell? ⟨(ad2.add (i * 12)).block, (ad2.add (i * 12)).off + 5, none⟩ = some (.string y.s1) ∧ w'.cell? ⟨(ad2.add (i * 12)).block, (ad2.add (i * 12)).off + 6, none⟩ = some (.bool y.n2) ∧ w'.cell? ⟨(ad2.add (i * 12)).block, (ad2.add (i * 12)).off + 7, none⟩ = some (.string y.s2) ∧ w'.cell? ⟨(ad2.add (i * 12)).block, (ad2.add (i * 12)).off + 8, none⟩ = some (.bool y.n3) ∧ w'.cell? ⟨(ad2.add (i * 12)).block, (ad2.add (i * 12)).off + 9, none⟩ = some (.string y.s3) ∧ w'.cell? ⟨(ad2.add (i * 12)).block, (ad2.add (i * 12)).off + 10, none⟩ = some (.slice A2 y.wd.length c2') ∧ w'.cell? ⟨(ad2.add (i * 12)).block, (ad2.add (i * 12)).off + 11, none⟩ = some (.int .i64 y.ct))
    (first
     | go_keep
     | exact Hkeep.out _ (Below.drew' hb6))
    (first
     | (go_at_call 41; (with_reducible refine (HM.out _ ?_).mono ?_); (first | exact Hbw.out.drew | exact Hbw.out | skip); rintro _ W6 ⟨rfl, hb6⟩))
   have hbel := Hbw.out.trans ((Below.drew' hb6).mono Hbw.out.size)
   have Hbel := Lib.hid hbel
   have Hbx := Lib.hid (hO.out.1.below (Below.drew' hb6) hO.out.1.lt)
   have Hby := Lib.hid (hO.out.2.1.below (Below.drew' hb6) hO.out.2.1.lt)
   clear hbel
   cases u
   ·have Hbad := Lib.hid (Hno.out rfl)
    go_wp2_with fail
    go_ret
    exact ⟨by rw [Hbad.out]; rfl, Hbel.out⟩
   ·have Hn2 := Lib.hid (Hnext.out rfl)
    go_wp2_with fail
    go_roundg (n - (i + 1))
    case measure => have := Hk.out; omega
    case rel => exact ⟨i + 1, rfl, rfl, by omega, Hn2, Lib.hid ⟨Hbx.out, Hby.out, Hbel.out⟩⟩
  ·have hii : ¬ (i : Int) < (n : Int) := by omega
   have Hall := Lib.hid (Hb.out.2 (by
    have h := htk.out
    rwa [List.take_of_length_le (by have := Hn.out; omega), List.take_of_length_le (by have := Hnx.out; omega)] at h))
   go_wp2_with fail
   go_ret
   exact ⟨by rw [Hall.out]; rfl, hO.out.2.2⟩
theorem sst_any {w : World} {B : Nat} {s t : StR} (hr : ReadsA w B s.A s.rs) (hq : ReadsA w B t.A t.rs) (hB : B ≤ w.heap.size) (hf : s.p.fit) (hfx : t.p.fit) {b : Bool} (hb : b = true ↔ s.p = t.p) :
  Calls Tryz.prog 11 #[.agg s.cells, .agg t.cells] w (fun e w' => e = .returned (.bool b) ∧ Below w.heap.size w w') := by
 have hl : s.rs.length ≤ 1000000 := by
  have := hf.len
  unfold StR.p at this
  simpa using this
 have hf1 : ∀ r ∈ s.rs, r.2.2.fit := fun r h => arg_fit hf h
 have hf2 : ∀ r ∈ t.rs, r.2.2.fit := fun r h => arg_fit hfx h
 clear hf hfx
 obtain ⟨v, nm, A, c, rs⟩ := s
 obtain ⟨vx, nmx, Ax, cx, qs⟩ := t
 unfold StR.p at hb
 unfold StR.cells
 simp only [StP.mk.injEq] at hb hl hr hq hf1 hf2 ⊢
 by_cases e0 : v = vx
 ·subst e0
  by_cases e1 : nm = nmx
  ·subst e1
   by_cases e2 : rs.length = qs.length
   ·rw [← e2]
    exact sst_3 hr hq hB rfl e2 hl hf1 hf2 (hb.trans ⟨fun h => h.2.2, fun h => ⟨rfl, rfl, h⟩⟩)
   ·rw [no_b hb fun h => e2 (by have := congrArg List.length h.2.2; simpa using this)]
    exact sst_2 (vx := v) (nmx := nm) e2
  ·rw [no_b hb fun h => e1 h.2.1]
   exact sst_1 (vx := v) e1
 ·rw [no_b hb fun h => e0 h.1]
  exact sst_0 e0
theorem acs_len (r : ARow) : (acs r).length = 12 := rfl
theorem flat_len : ∀ (rs : List ARow), (rs.flatMap acs).length = rs.length * 12
 | [] => rfl
 | r :: rs => by rw [List.flatMap_cons, List.length_append, flat_len rs, acs_len, List.length_cons]; omega
theorem acs_one (rs : List ARow) : ∀ u ∈ rs.flatMap acs, u.oneCell' = true := by
 intro u hu
 obtain ⟨r, _, h⟩ := List.mem_flatMap.1 hu
 unfold acs at h
 simp only [List.mem_cons, List.not_mem_nil, or_false] at h
 rcases h with rfl | rfl | rfl | rfl | rfl | rfl | rfl | rfl | rfl | rfl | rfl | rfl <;> rfl
theorem infoA : (Tryz.prog.info? 41).map (fun i => (i.zero, i.size, i.bytes)) = some (some (.agg #[.int .i64 0, .string ⟨#[]⟩, .bool false, .string ⟨#[]⟩, .bool false, .string ⟨#[]⟩, .bool false, .string ⟨#[]⟩, .bool false, .string ⟨#[]⟩, .slice none 0 0, .int .i64 0]), 12, 152) := by kernel_rfl
def OwnA (w : World) (B : Nat) (v : Value) (rs : List ARow) : Prop := w.ownsRow B 41 12 v rs.length (rs.flatMap acs)
section
variable {w w' : World} {B B' : Nat} {v : Value} {rs : List ARow}
theorem OwnA.form (h : OwnA w B v rs) : ∃ A c, v = .slice A rs.length c ∧ rs.length ≤ c ∧ c ≤ maxLen := by
 rcases h.2 with ⟨rfl, h0⟩ | ⟨g, cap, cur, rfl, _, _, hc, hm, _⟩
 ·exact ⟨none, 0, by rw [h0], by omega, by unfold maxLen; omega⟩
 ·exact ⟨_, cap, rfl, hc, hm⟩
theorem OwnA.alloc (h : OwnA w B v rs) (o : Obj) : OwnA (w.alloc o) B v rs := World.ownsRow.alloc h o
theorem OwnA.nil (w : World) (B : Nat) : OwnA w B (.slice none 0 0) [] := World.ownsRow_nil w B _ 12
theorem OwnA.kept (h : OwnA w B v rs) (hb : Below w.heap.size w w') : OwnA w' B v rs := by
 refine ⟨h.1, ?_⟩
 rcases h.2 with h' | ⟨g, cap, cur, hv, hg, hh, r⟩
 ·exact .inl h'
 ·exact .inr ⟨g, cap, cur, hv, hg, (hb.block g (Array.getElem?_eq_some_iff.1 hh).1).trans hh, r⟩
theorem OwnA.lt (h : OwnA w B v rs) : ∀ g, v.ownBlock = some g → B ≤ g ∧ g < w.heap.size := fun g hg => World.ownsRow.lt h g hg
theorem own_neA {v2 : Value} {l : List Int} (h : OwnI w B v2 l) (h' : OwnA w B' v rs) : ∀ g, v2.ownBlock = some g → v.ownBlock ≠ some g := by
 intro g hg hg'
 rcases h.2 with ⟨rfl, _⟩ | ⟨g1, _, _, rfl, _, hh, _⟩
 ·cases hg
 ·rcases h'.2 with ⟨rfl, _⟩ | ⟨g2, _, _, rfl, _, hh', _⟩
  ·cases hg'
  ·have e1 : g1 = g := by simpa [Value.ownBlock] using hg
   have e2 : g2 = g := by simpa [Value.ownBlock] using hg'
   subst e1 e2
   rw [hh] at hh'
   injection hh' with hh'
   injection hh' with _ ht
   revert ht
   decide
theorem OwnA.reads {A : Option Addr} {n c : Nat} (h : OwnA w B (.slice A n c) rs) : Reads w w.heap.size 12 A rs.length (rs.flatMap acs) ∧ n = rs.length := by
 obtain ⟨A', c', e, _, _⟩ := h.form
 injection e with e1 e2 e3
 subst e2
 exact ⟨Reads.of_own h, rfl⟩
end
theorem reads_singleA (w : World) (r : ARow) : Reads (w.alloc (.cells (acs r).toArray 41)) (w.heap.size + 1) 12 (some ⟨w.heap.size, 0, none⟩) 1 ([r].flatMap acs) := by
 refine ⟨rfl, fun _ => ⟨_, rfl, Nat.lt_succ_self _, fun j u hu => ?_⟩⟩
 have hb := Blk.new w 41 (acs r).toArray
 rw [List.flatMap_cons, List.flatMap_nil, List.append_nil] at hu
 rw [Addr.add_lit, Nat.zero_add, hb.cell j, List.getElem?_toArray]
 exact hu
def LentA (w : World) (B : Nat) (v : Value) (rs : List ARow) : Prop := OwnA w B v rs ∧ ∀ r ∈ rs, OwnI w B (.slice r.1 r.2.2.wd.length r.2.1) r.2.2.wd
theorem LentA.step {w w2 w3 : World} {B : Nat} {v v' : Value} {rs : List ARow} {r : ARow} (h : LentA w B v rs) (hb2 : Below w.heap.size w w2) (hn : OwnI w2 B (.slice r.1 r.2.2.wd.length r.2.1) r.2.2.wd)
  (ho3 : OwnA w3 B v' (rs ++ [r])) (hg : (w2.alloc (.cells (acs r).toArray 41)).grownBy w3 v.ownBlock) : LentA w3 B v' (rs ++ [r]) := by
 have hv : OwnA (w2.alloc (.cells (acs r).toArray 41)) B v rs := (h.1.kept hb2).alloc _
 refine ⟨ho3, fun x hx => ?_⟩
 rcases List.mem_append.1 hx with hx | hx
 ·have h2 := ((h.2 x hx).kept hb2).alloc (.cells (acs r).toArray 41)
  exact h2.grown hg (fun g hg' => own_neA h2 hv g hg')
 ·rw [List.mem_singleton.1 hx]
  have h2 := hn.alloc (.cells (acs r).toArray 41)
  exact h2.grown hg (fun g hg' => own_neA h2 hv g hg')
def sent : ARow := (none, 0, ⟨0, ⟨#[]⟩, false, ⟨#[]⟩, false, ⟨#[]⟩, false, ⟨#[]⟩, false, ⟨#[]⟩, [], 4242⟩)
theorem grown_set (W : World) (p : Addr) (u : Value) : W.grownBy (W.setCell p u) (some p.block) := ⟨rfl, rfl, rfl, by simp, fun i hi hne => Below.heap_setCell W p u i (fun e => hne (by rw [e]))⟩
theorem OwnA.grown {w w' : World} {B : Nat} {v : Value} {rs : List ARow} (h : OwnA w B v rs) {row : Option Nat} (hg : w.grownBy w' row) (hr : ∀ g, v.ownBlock = some g → row ≠ some g) : OwnA w' B v rs := by
 refine ⟨h.1, ?_⟩
 rcases h.2 with h' | ⟨g, cap, cur, hv, hb, hh, r⟩
 ·exact .inl h'
 ·refine .inr ⟨g, cap, cur, hv, hb, (hg.block g (Array.getElem?_eq_some_iff.1 hh).1 ?_).trans hh, r⟩
  intro e
  exact hr g (by rw [hv]; rfl) e.symm
def thrown : Ending := .panicked [{ v := .iface 113 (.agg #[]), recovered := false }]
theorem give_yes {w : World} : Calls Tryz.prog 37 #[.bool true] w (fun e w' => e = .returned (.tuple #[]) ∧ w = w') := by
 go_enter Tryz.func37, Tryz.ntmps37
 go_wp2_with fail
 first | go_end0 | refine bodyPost_ret (results_none rfl _ _ _) rfl ?_
 exact ⟨rfl, rfl⟩
theorem give_no {w : World} : Calls Tryz.prog 37 #[.bool false] w (fun e w' => e = thrown ∧ w = w') := by
 go_enter Tryz.func37, Tryz.ntmps37
 go_wp2_with fail
 exact ⟨rfl, rfl, rfl⟩
set_option maxRecDepth 100000 in
theorem next_any {w : World} {g n c : Nat} {A : Option Addr} {s : ByteArray} {ad : Addr} (hb : Blk w g 77 #[.slice (some ad) (n + 1) c]) (h0 : w.cell? ad = some (.string s)) (hnc : (n : Int) + 1 ≤ (c : Int)) (hne : ad.block ≠ g) :
  Calls Tryz.prog 35 #[.pointer (some ⟨g, 0, none⟩)] w (fun e w' => e = .returned (.string s) ∧ ∃ A', w' = w.setCell ⟨g, 0, none⟩ (.slice A' n (c - 1)) ∧ (0 < n → A' = some ⟨ad.block, ad.off + 1, none⟩)) := by
 have c0 := hb.cell 0
 have fz := hb.frozen 0
 have hi : (0 : Int) < (n : Int) + 1 := by omega
 have hi1 : (1 : Int) ≤ (n : Int) + 1 := by omega
 go_enter Tryz.func35, Tryz.ntmps35
 go_wp2_with fail
 ·go_ret
  exact ⟨rfl, _, rfl, fun h0 => by omega⟩
 ·go_ret
  exact ⟨rfl, _, rfl, fun _ => rfl⟩
def numTo (l : List UInt8) : Nat → Int
 | 0 => 0
 | i + 1 => if (l.getD i 0).toNat = 45 ∧ i = 0 then numTo l i else 10 * numTo l i + ((l.getD i 0).toNat : Int) - 48
theorem numTo_le (l : List UInt8) : ∀ i, -(30 * 10 ^ i - 30 : Nat) ≤ numTo l i ∧ numTo l i ≤ (30 * 10 ^ i - 30 : Nat)
 | 0 => by simp [numTo]
 | i + 1 => by
  have h := numTo_le l i
  have hb : (l.getD i 0).toNat < 256 := UInt8.toNat_lt _
  have hp : 0 < 10 ^ i := Nat.pow_pos (by decide)
  unfold numTo
  rw [Nat.pow_succ]
  generalize 10 ^ i = p at *
  split <;> omega
theorem numTo_12 (l : List UInt8) {i : Nat} (h : i ≤ 12) : -(30 * 10 ^ 12 : Nat) ≤ numTo l i ∧ numTo l i ≤ (30 * 10 ^ 12 : Nat) := by
 have h1 := numTo_le l i
 have h2 : 10 ^ i ≤ 10 ^ 12 := Nat.pow_le_pow_right (by decide) h
 generalize 10 ^ i = p at *
 generalize 10 ^ 12 = q at *
 omega
def numB (l : List UInt8) : Int := if l.getD 0 0 = 45 then - numTo l (min l.length 12) else numTo l (min l.length 12)
theorem numTo_z (l : List UInt8) {i : Nat} (h : i ≤ 12) : -30000000000000 ≤ numTo l i ∧ numTo l i ≤ 30000000000000 := numTo_12 l h
theorem numTo_skip {l : List UInt8} (h : 0 < l.length) (h1 : l[0].toNat = 45) : numTo l 1 = 0 := by
 have : l.getD 0 0 = l[0] := by simp [List.getD_eq_getElem?_getD, h]
 unfold numTo
 rw [this, if_pos ⟨h1, rfl⟩]
 rfl
theorem numTo_step {l : List UInt8} {i : Nat} (h : i < l.length) (h1 : ¬ (l[i].toNat = 45 ∧ i = 0)) : numTo l (i + 1) = 10 * numTo l i + (l[i].toNat : Int) - 48 := by
 have : l.getD i 0 = l[i] := by simp [List.getD_eq_getElem?_getD, h]
 conv => lhs; unfold numTo
 rw [this, if_neg h1]
theorem numB_yes {l : List UInt8} (h : 0 < l.length) (h1 : l[0].toNat = 45) : numB l = - numTo l (min l.length 12) := by
 have : l.getD 0 0 = l[0] := by simp [List.getD_eq_getElem?_getD, h]
 unfold numB
 rw [this, if_pos (UInt8.toNat_inj.1 h1)]
theorem numB_no {l : List UInt8} (h1 : ∀ h : 0 < l.length, l[0].toNat ≠ 45) : numB l = numTo l (min l.length 12) := by
 unfold numB
 rw [if_neg]
 intro e
 rcases Nat.eq_zero_or_pos l.length with h0 | h0
 ·rw [List.eq_nil_of_length_eq_zero h0] at e; cases e
 ·have : l.getD 0 0 = l[0] := by simp [List.getD_eq_getElem?_getD, h0]
  rw [this] at e
  exact h1 h0 (by rw [e]; rfl)
set_option maxRecDepth 100000 in
set_option maxHeartbeats 2000000 in
theorem rnum_any {w : World} (s : ByteArray) (hs : s.size ≤ 9223372036854775807) :
  Calls Tryz.prog 70 #[.string s] w (fun e w' => e = .returned (.int .i64 (numB s.data.toList)) ∧ w = w') := by
 have HL := Lib.hid (show s.data.toList.length = s.size by simp)
 go_enter Tryz.func70, Tryz.ntmps70
 go_wp2_with fail
 go_loopg [3, 4] s.size (fun k zv iv wr => ∃ (i : Nat) (z : Int), zv = .int .i64 z ∧ iv = .int .i64 (i : Int) ∧ k = s.size - i ∧ i ≤ s.size ∧ i ≤ 12 ∧ w = wr ∧ Hid (z = numTo s.data.toList i) ∧ -30000000000000 ≤ z ∧ z ≤ 30000000000000)
 case atStart => exact ⟨0, 0, rfl, rfl, by omega, by omega, by omega, rfl, Lib.hid rfl, by decide, by decide⟩
 case round =>
  obtain ⟨i, z, rfl, rfl, hk, hi, hi12, rfl, hz, hz1, hz2⟩ := hrel
  have Hk := Lib.hid hk
  clear hk
  by_cases hin : i < s.size ∧ i < 12
  ·obtain ⟨h1, h2⟩ := hin
   have i1 : (i : Int) < (s.size : Int) := by omega
   have i2 : (i : Int) < 12 := by omega
   have i3 : (0 : Int) ≤ (i : Int) := by omega
   obtain ⟨c, hc, hl, hcl⟩ := byte_at h1
   have hc256 : c.toNat < 256 := c.toNat_lt
   rcases Nat.eq_zero_or_pos i with h0 | h0
   ·subst h0
    by_cases h45 : c.toNat = 45
    ·have j1 : ((c.toNat : Int) != 45) = false := by simp; omega
     have Hn := Lib.hid (show z = numTo s.data.toList 1 by rw [numTo_skip hl (by rw [hcl]; exact h45), hz.out]; rfl)
     clear hcl
     go_wp2_with fail
     go_roundg (s.size - (0 + 1))
     case measure => have := Hk.out; omega
     case rel => exact ⟨1, z, rfl, rfl, rfl, by omega, by omega, rfl, Hn, hz1, hz2⟩
    ·have j1 : ((c.toNat : Int) != 45) = true := by simp; omega
     have Hn := Lib.hid (show 10 * z + (c.toNat : Int) - 48 = numTo s.data.toList 1 by rw [numTo_step hl (by rw [hcl]; exact fun h => h45 h.1), hz.out, hcl])
     have Hb := Lib.hid (numTo_z s.data.toList (i := 1) (by omega))
     rw [← Hn.out] at Hb
     clear hcl
     go_wp2_with fail
     go_roundg (s.size - (0 + 1))
     case measure => have := Hk.out; omega
     case rel => exact ⟨1, _, rfl, rfl, rfl, by omega, by omega, rfl, Hn, Hb.out.1, Hb.out.2⟩
   ·have i4 : (0 : Int) < (i : Int) := by omega
    have Hn := Lib.hid (show 10 * z + (c.toNat : Int) - 48 = numTo s.data.toList (i + 1) by rw [numTo_step hl (by omega), hz.out, hcl])
    have Hb := Lib.hid (numTo_z s.data.toList (i := i + 1) (by omega))
    rw [← Hn.out] at Hb
    clear hcl
    by_cases h45 : c.toNat = 45
    ·have j1 : ((c.toNat : Int) != 45) = false := by simp; omega
     have e45 : (c.toNat : Int) = 45 := by omega
     rw [e45] at Hn Hb
     go_wp2_with fail
     go_roundg (s.size - (i + 1))
     case measure => have := Hk.out; omega
     case rel => exact ⟨i + 1, _, rfl, rfl, rfl, by omega, by omega, rfl, Hn, Hb.out.1, Hb.out.2⟩
    ·have j1 : ((c.toNat : Int) != 45) = true := by simp; omega
     go_wp2_with fail
     go_roundg (s.size - (i + 1))
     case measure => have := Hk.out; omega
     case rel => exact ⟨i + 1, _, rfl, rfl, rfl, by omega, by omega, rfl, Hn, Hb.out.1, Hb.out.2⟩
  ·have Hmin := Lib.hid (show min s.data.toList.length 12 = i by rw [HL.out]; omega)
   have i1 : ¬ ((i : Int) < (s.size : Int) ∧ (i : Int) < 12) := by omega
   rcases Nat.eq_zero_or_pos s.size with h0 | h0
   ·have i2 : (s.size : Int) = 0 := by omega
    have i0 : i = 0 := by omega
    subst i0
    have Hr := Lib.hid (show numB s.data.toList = z by rw [numB_no (fun h => by rw [HL.out] at h; omega), Hmin.out, hz.out])
    have i3 : ¬ (0 : Int) < (s.size : Int) := by omega
    go_wp2_with fail
    go_ret
    exact ⟨by rw [Hr.out]; rfl, rfl⟩
   ·have i3 : (0 : Int) < (s.size : Int) := by omega
    obtain ⟨c, hc, hl, hcl⟩ := byte_at h0
    have hc256 : c.toNat < 256 := c.toNat_lt
    by_cases h45 : c.toNat = 45
    ·have Hr := Lib.hid (show numB s.data.toList = -z by rw [numB_yes hl (by rw [hcl]; exact h45), Hmin.out, hz.out])
     have e45 : (c.toNat : Int) = 45 := by omega
     clear hcl
     by_cases hsi : i < s.size
     ·have i4 : (i : Int) < (s.size : Int) := by omega
      have i5 : ¬ (i : Int) < 12 := by omega
      go_wp2_with fail
      go_ret
      exact ⟨by rw [Hr.out]; rfl, rfl⟩
     ·have i4 : ¬ (i : Int) < (s.size : Int) := by omega
      go_wp2_with fail
      go_ret
      exact ⟨by rw [Hr.out]; rfl, rfl⟩
    ·have Hr := Lib.hid (show numB s.data.toList = z by rw [numB_no (fun h => by rw [hcl]; exact h45), Hmin.out, hz.out])
     have j1 : ((c.toNat : Int) == 45) = false := by simp; omega
     clear hcl
     by_cases hsi : i < s.size
     ·have i4 : (i : Int) < (s.size : Int) := by omega
      have i5 : ¬ (i : Int) < 12 := by omega
      go_wp2_with fail
      go_ret
      exact ⟨by rw [Hr.out]; rfl, rfl⟩
     ·have i4 : ¬ (i : Int) < (s.size : Int) := by omega
      go_wp2_with fail
      go_ret
      exact ⟨by rw [Hr.out]; rfl, rfl⟩
theorem numTo_pre (l m : List UInt8) : ∀ i, i ≤ l.length → numTo (l ++ m) i = numTo l i
 | 0, _ => rfl
 | i + 1, h => by
  have e : (l ++ m).getD i 0 = l.getD i 0 := by
   simp only [List.getD_eq_getElem?_getD]
   rw [List.getElem?_append_left (by omega)]
  unfold numTo
  rw [e, numTo_pre l m i (by omega)]
theorem numTo_snoc (l : List UInt8) (b : UInt8) (h : b.toNat ≠ 45) : numTo (l ++ [b]) (l.length + 1) = 10 * numTo l l.length + (b.toNat : Int) - 48 := by
 rw [numTo_step (l := l ++ [b]) (i := l.length) (by simp) (by simp; intro e; exact absurd e h), numTo_pre l [b] l.length (Nat.le_refl _)]
 simp
theorem dec_byte {u : Nat} (h : u < 10) : (UInt8.ofNat (48 + u)).toNat = 48 + u := by rw [UInt8.toNat_ofNat']; omega
theorem numTo_dec (p : List UInt8) (hp : numTo p p.length = 0) : ∀ u : Nat, numTo (p ++ Lib.decDigits u) (p.length + (Lib.decDigits u).length) = (u : Int) := by
 intro u
 induction u using Nat.strongRecOn with
 | ind u ih =>
  by_cases h : u < 10
  ·have e : Lib.decDigits u = [UInt8.ofNat (48 + u)] := by rw [Lib.decDigits, dif_pos h]
   rw [e, List.length_singleton, numTo_snoc p _ (by rw [dec_byte h]; omega), hp, dec_byte h]
   omega
  ·have e : Lib.decDigits u = Lib.decDigits (u / 10) ++ [UInt8.ofNat (48 + u % 10)] := by rw [Lib.decDigits, dif_neg h]
   have h1 := ih (u / 10) (by omega)
   have hm : u % 10 < 10 := by omega
   rw [e, ← List.append_assoc, List.length_append, List.length_singleton, ← Nat.add_assoc, ← List.length_append, numTo_snoc _ _ (by rw [dec_byte hm]; omega), List.length_append, h1, dec_byte hm]
   omega
theorem dec_ge : ∀ u : Nat, ∀ b ∈ Lib.decDigits u, 48 ≤ b.toNat := by
 intro u
 induction u using Nat.strongRecOn with
 | ind u ih =>
  intro b hb
  by_cases h : u < 10
  ·have e : Lib.decDigits u = [UInt8.ofNat (48 + u)] := by rw [Lib.decDigits, dif_pos h]
   rw [e] at hb
   rw [List.mem_singleton.1 hb, dec_byte h]
   omega
  ·have e : Lib.decDigits u = Lib.decDigits (u / 10) ++ [UInt8.ofNat (48 + u % 10)] := by rw [Lib.decDigits, dif_neg h]
   rw [e] at hb
   rcases List.mem_append.1 hb with h2 | h2
   ·exact ih (u / 10) (by omega) b h2
   ·rw [List.mem_singleton.1 h2, dec_byte (by omega)]
    omega
theorem numB_itoa {y : Int} (h : (Lib.itoa y).length ≤ 12) : numB (Lib.itoa y) = y := by
 by_cases hy : y < 0
 ·have e : Lib.itoa y = [45] ++ Lib.decDigits y.natAbs := by unfold Lib.itoa; rw [if_pos hy]; rfl
  rw [e] at h ⊢
  rw [numB_yes (by simp) rfl, Nat.min_eq_left h, List.length_append]
  rw [numTo_dec [45] (by rw [show ([45] : List UInt8).length = 1 from rfl]; exact numTo_skip (by decide) rfl)]
  omega
 ·have e : Lib.itoa y = [] ++ Lib.decDigits y.toNat := by unfold Lib.itoa; rw [if_neg hy]; rfl
  rw [e] at h ⊢
  rw [numB_no (fun h0 => by
   have := dec_ge y.toNat _ (List.getElem_mem (by simpa using h0))
   simp only [List.nil_append]
   omega), Nat.min_eq_left h, List.length_append]
  rw [numTo_dec [] rfl]
  omega
set_option maxRecDepth 100000 in
theorem inner_short {w : World} {g : Nat} {s : ByteArray} {x : Int} (hb : Blk w g 9 #[.string s]) (h2 : ¬ 2 ≤ (s.size : Int)) :
  Calls Tryz.prog 65 #[.int .u8 x, .pointer (some ⟨g, 0, none⟩)] w (fun e w' => e = thrown ∧ w = w') := by
 have c0 := hb.cell 0
 have HG := Lib.hid (give_no (w := w))
 unfold thrown at HG ⊢
 go_enter Tryz.func65, Tryz.ntmps65
 go_wp2_with (go_at_call 37; (with_reducible refine HG.out.mono ?_); rintro _ _ ⟨rfl, rfl⟩)
 exact ⟨rfl, rfl, rfl⟩
set_option maxRecDepth 100000 in
theorem inner_not {w : World} {g m : Nat} {s : ByteArray} {x : Int} (hb : Blk w g 9 #[.string s]) (hm : s.size = m + 1) (h1 : 1 ≤ m) (hs : m ≤ 1000000) {b : UInt8} (hl : m < s.size) (hx : s[m] = b) (hne : ((b.toNat : Int) == x) = false) :
  Calls Tryz.prog 65 #[.int .u8 x, .pointer (some ⟨g, 0, none⟩)] w (fun e w' => e = thrown ∧ w = w') := by
 have c0 := hb.cell 0
 have HG := Lib.hid (give_no (w := w))
 have h2 : 2 ≤ (s.size : Int) := by omega
 have h3 : (s.size : Int) - 1 = (m : Int) := by omega
 have h4 : (m : Int) < (s.size : Int) := by omega
 have h5 : (m : Int) ≤ (s.size : Int) := by omega
 have h6 : (1 : Int) ≤ (m : Int) := by omega
 have h7 : (0 : Int) ≤ (m : Int) := by omega
 unfold thrown at HG ⊢
 go_enter Tryz.func65, Tryz.ntmps65
 go_wp2_with (go_at_call 37; (with_reducible refine HG.out.mono ?_); rintro _ _ ⟨rfl, rfl⟩)
 exact ⟨rfl, rfl, rfl⟩
set_option maxRecDepth 100000 in
theorem inner_yes {w : World} {g m : Nat} {s : ByteArray} {x : Int} (hb : Blk w g 9 #[.string s]) (hm : s.size = m + 1) (h1 : 1 ≤ m) (hs : m ≤ 1000000) {b : UInt8} (hl : m < s.size) (hx : s[m] = b) (hne : ((b.toNat : Int) == x) = true) :
  Calls Tryz.prog 65 #[.int .u8 x, .pointer (some ⟨g, 0, none⟩)] w (fun e w' => e = .returned (.string (s.extract 1 m)) ∧ w = w') := by
 have c0 := hb.cell 0
 have HG := Lib.hid (give_yes (w := w))
 have h2 : 2 ≤ (s.size : Int) := by omega
 have h3 : (s.size : Int) - 1 = (m : Int) := by omega
 have h4 : (m : Int) < (s.size : Int) := by omega
 have h5 : (m : Int) ≤ (s.size : Int) := by omega
 have h6 : (1 : Int) ≤ (m : Int) := by omega
 have h7 : (0 : Int) ≤ (m : Int) := by omega
 go_enter Tryz.func65, Tryz.ntmps65
 go_wp2_with (go_at_call 37; (with_reducible refine HG.out.mono ?_); rintro _ _ ⟨rfl, rfl⟩)
 go_ret
 exact ⟨rfl, rfl⟩
end Go.Proofs.YtebpggfccljagaaGreatDoor
namespace Go.Proofs.YtebpggfccljagaaGreatDoor
open Go.RowKit
open Go
set_option linter.unusedSimpArgs false
set_option linter.unusedVariables false
def jumpsTo (J : Nat → Act → World → Prop) (Q : Exit → Act → World → Prop) : Exit → Act → World → Prop
 | .goto l, a, w => J l a w
 | e, a, w => Q e a w
theorem wp_scope_jumps2 {P : Program} {a : Act} {w : World} {Q : Exit → Act → World → Prop} {c : Code} (rest : Nat → Code) (J : Nat → Act → World → Prop) (μ : Nat → Act → World → Nat) (hf : ∀ l a w, J l a w → findLabel c l = some (rest l))
  (first : c.wp P (jumpsTo J Q) a w)
  (pass : ∀ l a w, J l a w → (rest l).wp P (jumpsTo (fun l' a' w' => J l' a' w' ∧ μ l' a' w' < μ l a w) Q) a w) : (Code.scope c).wp P Q a w := by
 intro b k cs
 have hg : ∀ l a w, J l a w → gotoIn l (.inScope c :: k) = some (.code (rest l) :: .inScope c :: k) := fun l a w h => by simp [gotoIn, hf l a w h]
 have key : ∀ n l a w, μ l a w = n → J l a w → ∃ e a' w', Q e a' w' ∧ Arrives P (lone (b.at a (.code (rest l) :: .inScope c :: k)) cs w) b k cs e a' w' := by
  intro n
  induction n using Nat.strongRecOn with
  | _ n ih =>
   intro l a w hn hJ
   obtain ⟨e, a₁, w₁, hq, harr⟩ := pass l a w hJ b (.inScope c :: k) cs
   cases e with
   | normal => exact ⟨.normal, a₁, w₁, hq, Steps.trans harr (.one step_inScope)⟩
   | exit id => exact ⟨.exit id, a₁, w₁, hq, fun k' hk => harr k' (by simp [exitTo, hk])⟩
   | goto l' =>
    obtain ⟨hJ', hlt⟩ := hq
    obtain ⟨e₂, a₂, w₂, hq₂, harr₂⟩ := ih _ (by omega) l' a₁ w₁ rfl hJ'
    exact ⟨e₂, a₂, w₂, hq₂, .of_steps (harr _ (hg l' a₁ w₁ hJ')) harr₂⟩
   | ret => exact ⟨_, a₁, w₁, hq, harr⟩
   | panic ch => exact ⟨_, a₁, w₁, hq, harr⟩
   | outgrown => exact ⟨_, a₁, w₁, hq, harr⟩
 obtain ⟨e, a₁, w₁, hq, harr⟩ := first b (.inScope c :: k) cs
 cases e with
 | normal => exact ⟨.normal, a₁, w₁, hq, Steps.trans (.one step_scope) (Steps.trans harr (.one step_inScope))⟩
 | exit id => exact ⟨.exit id, a₁, w₁, hq, fun k' hk => Steps.trans (.one step_scope) (harr k' (by simp [exitTo, hk]))⟩
 | goto l' =>
  obtain ⟨e₂, a₂, w₂, hq₂, harr₂⟩ := key _ l' a₁ w₁ rfl hq
  exact ⟨e₂, a₂, w₂, hq₂, .of_steps (Steps.trans (.one step_scope) (harr _ (hg l' a₁ w₁ hq))) harr₂⟩
 | ret => exact ⟨_, a₁, w₁, hq, .of_steps (.one step_scope) harr⟩
 | panic ch => exact ⟨_, a₁, w₁, hq, .of_steps (.one step_scope) harr⟩
 | outgrown => exact ⟨_, a₁, w₁, hq, .of_steps (.one step_scope) harr⟩
end Go.Proofs.YtebpggfccljagaaGreatDoor
namespace Go.Proofs.YtebpggfccljagaaGreatDoor
open Go.RowKit
open Wh
set_option linter.unusedSimpArgs false
set_option linter.unusedVariables false
def cutSt (l : List UInt8) (c : UInt8) : Nat → List (List UInt8) × Nat
 | 0 => ([], 0)
 | i + 1 => if i = l.length ∨ l[i]? = some c then ((cutSt l c i).1 ++ [(l.take i).drop (cutSt l c i).2], i + 1) else cutSt l c i
def cutB (l : List UInt8) (c : UInt8) : List (List UInt8) := (cutSt l c (l.length + 1)).1
theorem cutSt_le (l : List UInt8) (c : UInt8) : ∀ i, (cutSt l c i).2 ≤ i ∧ (cutSt l c i).1.length ≤ i
 | 0 => by simp [cutSt]
 | i + 1 => by
  have h := cutSt_le l c i
  unfold cutSt
  split
  ·simp; omega
  ·omega
theorem cut_hit {l : List UInt8} {c : UInt8} {i : Nat} (h : i = l.length ∨ l[i]? = some c) : cutSt l c (i + 1) = ((cutSt l c i).1 ++ [(l.take i).drop (cutSt l c i).2], i + 1) := by
 conv => lhs; unfold cutSt
 rw [if_pos h]
theorem cut_miss {l : List UInt8} {c : UInt8} {i : Nat} (h : ¬ (i = l.length ∨ l[i]? = some c)) : cutSt l c (i + 1) = cutSt l c i := by
 conv => lhs; unfold cutSt
 rw [if_neg h]
theorem ext_bs (s : ByteArray) (f i : Nat) (h : f ≤ i) (hi : i ≤ s.size) : s.extract f i = ⟨((s.data.toList.take i).drop f).toArray⟩ := by
 apply ByteArray.ext
 apply Array.ext'
 simp [List.drop_take]
set_option maxRecDepth 100000 in
set_option maxHeartbeats 4000000 in
theorem pieces_any {w : World} (s : ByteArray) (hs : s.size ≤ 100000) (x : UInt8) :
  Calls Tryz.prog 39 #[.string s, .int .u8 (x.toNat : Int)] w (fun e w' => ∃ A n c, e = .returned (.slice A n c) ∧ OwnS w' w.heap.size (.slice A n c) (cutB s.data.toList x) ∧ Below w.heap.size w w') := by
 have HL := Lib.hid (show s.data.toList.length = s.size by simp)
 go_enter Tryz.func39, Tryz.ntmps39
 go_wp2_with fail
 go_loopg [5, 6, 7] (s.size + 1) (fun k lv fv iv wr => ∃ (i f : Nat) (A' : Option Addr) (n' c' : Nat), lv = .slice A' n' c' ∧ fv = .int .i64 (f : Int) ∧ iv = .int .i64 (i : Int) ∧ k = s.size + 1 - i ∧ i ≤ s.size + 1 ∧ f ≤ i ∧ Hid (f = (cutSt s.data.toList x i).2 ∧ OwnS wr w.heap.size (.slice A' n' c') (cutSt s.data.toList x i).1 ∧ Below w.heap.size w wr))
 case atStart => exact ⟨0, 0, none, 0, 0, rfl, rfl, rfl, by omega, by omega, by omega, Lib.hid ⟨rfl, OwnS.nil _ _, Below.refl _ _⟩⟩
 case round =>
  obtain ⟨i, f, A1, n1, c1, rfl, rfl, rfl, hk, hi, hfi, hO⟩ := hrel
  have Hk := Lib.hid hk
  clear hk
  by_cases hin : i ≤ s.size
  ·have hii : (i : Int) ≤ (s.size : Int) := by omega
   have hfi2 : (f : Int) ≤ (i : Int) := by omega
   have hf0 : (0 : Int) ≤ (f : Int) := by omega
   have hi0 : (0 : Int) ≤ (i : Int) := by omega
   have Hext := Lib.hid (ext_bs s f i hfi hin)
   have hlen : (cutSt s.data.toList x i).1.length ≤ 1000000000 := by have := (cutSt_le s.data.toList x i).2; omega
   have hsz := hO.out.2.2.size
   have HA : Hid (∀ q : List UInt8, OwnS (wr.alloc (.cells #[bs q] 9)) w.heap.size (.slice A1 n1 c1) (cutSt s.data.toList x i).1 ∧ w.heap.size ≤ (wr.alloc (.cells #[bs q] 9)).heap.size ∧ Below w.heap.size w (wr.alloc (.cells #[bs q] 9))) := Lib.hid fun q => ⟨hO.out.2.1.alloc _, by simp; omega, hO.out.2.2.alloc hsz _⟩
   by_cases hend : i = s.size
   ·have Hhit := Lib.hid (cut_hit (l := s.data.toList) (c := x) (i := i) (.inl (by rw [HL.out]; exact hend)))
    rw [← hO.out.1] at Hhit
    have e1 : ((i : Int) == (s.size : Int)) = true := by simp [hend]
    subst hend
    go_wp2_with (rw [Hext.out]; refine wpS_append rfl (.tmp 25) (.tmp 30) rfl w.heap.size _ (cutSt s.data.toList x s.size).1 [(s.data.toList.take s.size).drop f] (HA.out _).1 rfl rfl rfl (reads_singleS _ _) hlen (by simp) (HA.out _).2.1 ?_; intro A2 n2 c2 w3 ho2 hn2 hc2 hg2 hb3; have Ho2 := Lib.hid (And.intro ho2 (hb3 _ (HA.out _).2.2)); clear ho2 hn2 hc2 hg2 hb3)
    go_roundg (s.size + 1 - (s.size + 1))
    case measure => have := Hk.out; omega
    case rel => exact ⟨s.size + 1, s.size + 1, A2, n2, c2, rfl, rfl, rfl, rfl, by omega, by omega, Lib.hid ⟨by rw [Hhit.out], by rw [Hhit.out]; exact Ho2.out.1, Ho2.out.2⟩⟩
   ·have h1 : i < s.size := by omega
    have e1 : ((i : Int) == (s.size : Int)) = false := by simp; omega
    have e2 : (i : Int) < (s.size : Int) := by omega
    obtain ⟨b, hc, hl, hcl⟩ := byte_at h1
    have hb256 : b.toNat < 256 := b.toNat_lt
    have hg : s.data.toList[i]? = some b := by rw [List.getElem?_eq_getElem hl, hcl]
    by_cases hbx : b = x
    ·have Hhit := Lib.hid (cut_hit (l := s.data.toList) (c := x) (i := i) (.inr (by rw [hg, hbx])))
     rw [← hO.out.1] at Hhit
     have e3 : ((b.toNat : Int) == (x.toNat : Int)) = true := by simp [hbx]
     clear hg hcl
     go_wp2_with (rw [Hext.out]; refine wpS_append rfl (.tmp 25) (.tmp 30) rfl w.heap.size _ (cutSt s.data.toList x i).1 [(s.data.toList.take i).drop f] (HA.out _).1 rfl rfl rfl (reads_singleS _ _) hlen (by simp) (HA.out _).2.1 ?_; intro A2 n2 c2 w3 ho2 hn2 hc2 hg2 hb3; have Ho2 := Lib.hid (And.intro ho2 (hb3 _ (HA.out _).2.2)); clear ho2 hn2 hc2 hg2 hb3)
     go_roundg (s.size + 1 - (i + 1))
     case measure => have := Hk.out; omega
     case rel => exact ⟨i + 1, i + 1, A2, n2, c2, rfl, rfl, rfl, rfl, by omega, by omega, Lib.hid ⟨by rw [Hhit.out], by rw [Hhit.out]; exact Ho2.out.1, Ho2.out.2⟩⟩
    ·have Hmiss := Lib.hid (cut_miss (l := s.data.toList) (c := x) (i := i) (fun h => h.elim (fun h => hend (by rw [h, HL.out])) (fun h => by rw [hg] at h; injection h with h; exact hbx h)))
     have e3 : ((b.toNat : Int) == (x.toNat : Int)) = false := by
      simp
      intro h
      exact hbx (UInt8.toNat_inj.1 (by omega))
     clear hg hcl
     go_wp2_with fail
     go_roundg (s.size + 1 - (i + 1))
     case measure => have := Hk.out; omega
     case rel => exact ⟨i + 1, f, A1, n1, c1, rfl, rfl, rfl, rfl, by omega, by omega, Lib.hid (by rw [Hmiss.out]; exact hO.out)⟩
  ·have hii : ¬ (i : Int) ≤ (s.size : Int) := by omega
   have Hfin := Lib.hid (show cutB s.data.toList x = (cutSt s.data.toList x i).1 by unfold cutB; rw [HL.out, show i = s.size + 1 by omega])
   go_wp2_with fail
   go_ret
   exact ⟨A1, n1, c1, rfl, by rw [Hfin.out]; exact hO.out.2.1, hO.out.2.2⟩
def isLet (k : Int) : Bool := decide (k ≠ 0 ∧ -64 ≤ k ∧ k ≤ 64)
set_option maxRecDepth 100000 in
theorem letter_any {w : World} {k : Int} (h1 : -9223372036854775808 ≤ k) (h2 : k ≤ 9223372036854775807) :
  Calls Tryz.prog 109 #[.int .i64 k] w (fun e w' => e = .returned (.bool (isLet k)) ∧ w = w') := by
 have Hl := Lib.hid (show isLet k = decide (k ≠ 0 ∧ -64 ≤ k ∧ k ≤ 64) from rfl)
 generalize isLet k = b at *
 by_cases a1 : k = 0
 ·subst a1
  go_enter Tryz.func109, Tryz.ntmps109
  go_wp2
  go_ret
  exact ⟨by rw [Hl.out]; rfl, rfl⟩
 ·have d1 : (k == 0) = false := by simp; exact a1
  have D2 := Lib.hid (show (k != 0) = true by simp; exact a1)
  by_cases a2 : -64 ≤ k
  ·by_cases a3 : k ≤ 64
   ·have hb : b = true := by rw [Hl.out]; exact decide_eq_true ⟨a1, a2, a3⟩
    subst hb
    clear Hl
    go_enter Tryz.func109, Tryz.ntmps109
    go_wp2
    go_ret
    exact ⟨by show Ending.returned (Value.bool (k != 0)) = _; rw [D2.out], rfl⟩
   ·have hb : b = false := by rw [Hl.out]; exact decide_eq_false (fun h => a3 h.2.2)
    subst hb
    clear Hl
    go_enter Tryz.func109, Tryz.ntmps109
    go_wp2
    go_ret
    exact ⟨rfl, rfl⟩
  ·have hb : b = false := by rw [Hl.out]; exact decide_eq_false (fun h => a2 h.2.1)
   subst hb
   clear Hl
   go_enter Tryz.func109, Tryz.ntmps109
   go_wp2
   go_ret
   exact ⟨rfl, rfl⟩
set_option maxRecDepth 100000 in
theorem bad_letter {w : World} {k : Int} (h1 : -9223372036854775808 ≤ k) (h2 : k ≤ 9223372036854775807) :
  Calls Tryz.prog 108 #[.int .i64 k] w (fun e w' => e = .returned (.bool (!isLet k)) ∧ w = w') := by
 have HL := Lib.hid (letter_any (w := w) h1 h2)
 generalize isLet k = b at *
 go_enter Tryz.func108, Tryz.ntmps108
 go_wp2_with fail
 refine HL.out.mono ?_
 rintro e w' ⟨rfl, rfl⟩
 go_wp2_with fail
 go_ret
 exact ⟨rfl, rfl⟩
theorem find_step {l : List Int} {i : Nat} (h : i < l.length) (h0 : (l.take i).any (fun k => !isLet k) = false) (h1 : isLet l[i] = true) : (l.take (i + 1)).any (fun k => !isLet k) = false := by
 rw [List.take_succ_eq_append_getElem h, List.any_append, h0]
 simp [h1]
set_option maxRecDepth 100000 in
set_option maxHeartbeats 2000000 in
theorem find_bad {w : World} {B n c : Nat} {A : Option Addr} {l : List Int} (hr : ReadsI w B A l) (hn : n = l.length) (hnl : n ≤ 1000000000000) (hw : ∀ k ∈ l, -9223372036854775808 ≤ k ∧ k ≤ 9223372036854775807) :
  Calls Tryz.prog 142 #[.slice A n c, .func (.func 108) #[] #[]] w (fun e w' => (∃ z : Int, e = .returned (.int .i64 z) ∧ Hid (l.any (fun k => !isLet k) = decide (0 ≤ z))) ∧ w = w') := by
 have Hn := Lib.hid hn
 have Hw := Lib.hid hw
 clear hn hw
 go_enter Tryz.func142, Tryz.ntmps142
 go_wp2_with fail
 go_loopg [8] n (fun k iv wr => ∃ i : Nat, iv = .int .i64 (i : Int) ∧ k = n - i ∧ i ≤ n ∧ w = wr ∧ Hid ((l.take i).any (fun k => !isLet k) = false))
 case atStart => exact ⟨0, rfl, by omega, by omega, rfl, Lib.hid (by rw [List.take_zero]; rfl)⟩
 case round =>
  obtain ⟨i, rfl, hk, hi, rfl, ht⟩ := hrel
  have Hk := Lib.hid hk
  clear hk
  by_cases hin : i < n
  ·have hil : i < l.length := by rw [← Hn.out]; exact hin
   obtain ⟨ad, rfl, hb1, c0⟩ := hr.at_ hil
   have hb := Hw.out l[i] (List.getElem_mem hil)
   have HB := Lib.hid (bad_letter (w := w) hb.1 hb.2)
   have Hst := Lib.hid (find_step hil ht.out)
   have Hhit := Lib.hid (fun h : isLet l[i] = false => show l.any (fun k => !isLet k) = true from List.any_eq_true.2 ⟨l[i], List.getElem_mem hil, by rw [h]; rfl⟩)
   have hii : (i : Int) < (n : Int) := by omega
   generalize l[i] = x at *
   obtain ⟨b, hbb⟩ : ∃ b, b = isLet x := ⟨_, rfl⟩
   rw [← hbb] at HB Hst Hhit
   clear hbb hb hb1 hil hr
   cases b
   ·go_wp2_with fail
    refine HB.out.mono ?_
    rintro e w' ⟨rfl, rfl⟩
    go_wp2_with fail
    go_ret
    exact ⟨⟨_, rfl, Lib.hid (by rw [Hhit.out (by trivial)]; exact (decide_eq_true (Int.natCast_nonneg i)).symm)⟩, rfl⟩
   ·go_wp2_with fail
    refine HB.out.mono ?_
    rintro e w' ⟨rfl, rfl⟩
    go_wp2_with fail
    go_roundg (n - (i + 1))
    case measure => have := Hk.out; omega
    case rel => exact ⟨i + 1, rfl, rfl, by omega, rfl, Lib.hid (Hst.out (by trivial))⟩
  ·have hii : (n : Int) ≤ (i : Int) := by omega
   have hend : l.any (fun k => !isLet k) = false := by
    have h := ht.out
    rw [List.take_of_length_le (by have := Hn.out; omega)] at h
    exact h
   have Hend := Lib.hid hend
   clear hend hr
   go_wp2_with fail
   go_ret
   exact ⟨⟨_, rfl, Lib.hid (by rw [Hend.out]; rfl)⟩, rfl⟩
set_option maxRecDepth 100000 in
theorem has_bad {w : World} {B n c : Nat} {A : Option Addr} {l : List Int} (hr : ReadsI w B A l) (hn : n = l.length) (hnl : n ≤ 1000000000000) (hw : ∀ k ∈ l, -9223372036854775808 ≤ k ∧ k ≤ 9223372036854775807) :
  Calls Tryz.prog 107 #[.slice A n c, .func (.func 108) #[] #[]] w (fun e w' => e = .returned (.bool (l.any (fun k => !isLet k))) ∧ w = w') := by
 have HF := Lib.hid (find_bad (c := c) hr hn hnl hw)
 generalize l.any (fun k => !isLet k) = b at *
 clear hr hn hw
 go_enter Tryz.func107, Tryz.ntmps107
 go_wp2_with fail
 refine HF.out.mono ?_
 rintro e w' ⟨⟨z, rfl, hz⟩, rfl⟩
 go_wp2_with fail
 go_ret
 exact ⟨by rw [hz.out]; rfl, rfl⟩
abbrev SRow := Option Addr × Nat × List Int
def sv (r : SRow) : Value := .slice r.1 r.2.2.length r.2.1
def Wf (l : List Int) : Prop := ∀ k ∈ l, -9223372036854775808 ≤ k ∧ k ≤ 9223372036854775807
def ReadsL (w : World) (B : Nat) (A : Option Addr) (rs : List SRow) : Prop := Reads w B 1 A rs.length (rs.map sv) ∧ ∀ r ∈ rs, ReadsI w B r.1 r.2.2
section
variable {w w' : World} {B B' n c : Nat} {A : Option Addr} {rs : List SRow}
theorem ReadsL.at_ (h : ReadsL w B A rs) {k : Nat} (hk : k < rs.length) : ∃ ad, A = some ad ∧ ad.block < B ∧ w.cell? (ad.add k) = some (.slice rs[k].1 rs[k].2.2.length rs[k].2.1) := by
 obtain ⟨ad, u, e, hb, hu, hc⟩ := Reads.at_ h.1 hk
 refine ⟨ad, e, hb, ?_⟩
 rw [hc]
 rw [List.getElem?_map, List.getElem?_eq_getElem hk] at hu
 exact hu.symm
end
def isWord (l : List Int) : Bool := !(l.any (fun k => !isLet k))
def tooLong (l : List Int) : Bool := decide (4096 < l.length)
def chk (ls : List (List Int)) : Int := if ls.all isWord then (if ls.any tooLong then 3 else 0) else 2
theorem all_step {ls : List SRow} {i : Nat} (h : i < ls.length) (h0 : (ls.take i).all (fun r => isWord r.2.2) = true) (h1 : isWord ls[i].2.2 = true) : (ls.take (i + 1)).all (fun r => isWord r.2.2) = true := by
 rw [List.take_succ_eq_append_getElem h, List.all_append, h0]
 simp [h1]
theorem any_step {ls : List SRow} {i : Nat} (h : i < ls.length) : (ls.take (i + 1)).any (fun r => tooLong r.2.2) = ((ls.take i).any (fun r => tooLong r.2.2) || tooLong ls[i].2.2) := by
 rw [List.take_succ_eq_append_getElem h, List.any_append]
 simp
theorem all_no {ls : List SRow} {i : Nat} (h : i < ls.length) (h1 : isWord ls[i].2.2 = false) : (ls.map (fun r => r.2.2)).all isWord = false := by
 rw [List.all_eq_false]
 exact ⟨_, List.mem_map.2 ⟨_, List.getElem_mem h, rfl⟩, by rw [h1]; decide⟩
set_option maxRecDepth 100000 in
set_option maxHeartbeats 2000000 in
theorem check_any {w : World} {B n c : Nat} {A : Option Addr} {rs : List SRow} (hr : ReadsL w B A rs) (hn : n = rs.length) (hnl : n ≤ 1000000000000) (hw : ∀ r ∈ rs, Wf r.2.2 ∧ r.2.2.length ≤ 1000000000000) :
  Calls Tryz.prog 87 #[.slice A n c] w (fun e w' => e = .returned (.int .i64 (chk (rs.map (fun r => r.2.2)))) ∧ w = w') := by
 have Hn := Lib.hid hn
 have Hw := Lib.hid hw
 have Hc := Lib.hid (show chk (rs.map (fun r => r.2.2)) = if (rs.map (fun r => r.2.2)).all isWord then (if (rs.map (fun r => r.2.2)).any tooLong then 3 else 0) else 2 from rfl)
 generalize chk (rs.map (fun r => r.2.2)) = z at *
 clear hn hw
 go_enter Tryz.func87, Tryz.ntmps87
 go_wp2_with fail
 go_loopg [3, 8] n (fun k ev iv wr => ∃ (i : Nat) (x : Int), ev = .int .i64 x ∧ iv = .int .i64 (i : Int) ∧ k = n - i ∧ i ≤ n ∧ w = wr ∧ Hid ((rs.take i).all (fun r => isWord r.2.2) = true) ∧ Hid (x = if (rs.take i).any (fun r => tooLong r.2.2) then 3 else 0))
 case atStart => exact ⟨0, 0, rfl, rfl, by omega, by omega, rfl, Lib.hid (by rw [List.take_zero]; rfl), Lib.hid (by rw [List.take_zero]; rfl)⟩
 case round =>
  obtain ⟨i, x, rfl, rfl, hk, hi, rfl, ht, hx⟩ := hrel
  have Hk := Lib.hid hk
  clear hk
  by_cases hin : i < n
  ·have hil : i < rs.length := by rw [← Hn.out]; exact hin
   obtain ⟨ad, rfl, hb1, c0⟩ := hr.at_ hil
   have hmem := List.getElem_mem hil
   have hlen := (Hw.out rs[i] hmem).2
   have HB := Lib.hid (has_bad (c := rs[i].2.1) (hr.2 rs[i] hmem) rfl hlen (Hw.out rs[i] hmem).1)
   have Hst := Lib.hid (all_step hil ht.out)
   have Han := Lib.hid (any_step hil)
   have Hno := Lib.hid (all_no hil)
   obtain ⟨b, hbb⟩ : ∃ b, b = isWord rs[i].2.2 := ⟨_, rfl⟩
   have hb2 : rs[i].2.2.any (fun k => !isLet k) = !b := by rw [hbb]; unfold isWord; rw [Bool.not_not]
   rw [hb2] at HB
   rw [← hbb] at Hst Hno
   obtain ⟨t, htl⟩ : ∃ t, t = tooLong rs[i].2.2 := ⟨_, rfl⟩
   rw [← htl] at Han
   have Htl := Lib.hid (show t = decide (4096 < rs[i].2.2.length) from htl)
   have hii : (i : Int) < (n : Int) := by omega
   clear hbb hb2 htl hmem hb1 hr
   generalize rs[i].2.2.length = m at *
   generalize rs[i].1 = a1 at *
   generalize rs[i].2.1 = c1 at *
   clear hil
   cases b
   ·go_wp2_with fail
    refine HB.out.mono ?_
    rintro e w' ⟨rfl, rfl⟩
    go_wp2_with fail
    go_ret
    exact ⟨by rw [Hc.out, Hno.out (by trivial)]; rfl, rfl⟩
   ·go_wp2_with fail
    refine HB.out.mono ?_
    rintro e w' ⟨rfl, rfl⟩
    by_cases hm : 4096 < m
    ·have hm1 : (4096 : Int) < (m : Int) := by omega
     have Hm := Lib.hid (show t = true by rw [Htl.out]; exact decide_eq_true hm)
     clear hm Htl
     go_wp2_with fail
     go_roundg (n - (i + 1))
     case measure => have := Hk.out; omega
     case rel => exact ⟨i + 1, 3, rfl, rfl, rfl, by omega, rfl, Lib.hid (Hst.out (by trivial)), Lib.hid (by rw [Han.out, Hm.out, Bool.or_true]; rfl)⟩
    ·have hm1 : (m : Int) ≤ 4096 := by omega
     have Hm := Lib.hid (show t = false by rw [Htl.out]; exact decide_eq_false hm)
     clear hm Htl
     go_wp2_with fail
     go_roundg (n - (i + 1))
     case measure => have := Hk.out; omega
     case rel => exact ⟨i + 1, x, rfl, rfl, rfl, by omega, rfl, Lib.hid (Hst.out (by trivial)), Lib.hid (by rw [Han.out, Hm.out, Bool.or_false]; exact hx.out)⟩
  ·have hii : (n : Int) ≤ (i : Int) := by omega
   have hend : z = x := by
    have h1 := ht.out
    have h2 := hx.out
    rw [List.take_of_length_le (by have := Hn.out; omega)] at h1 h2
    have h3 : (rs.map (fun r => r.2.2)).all isWord = true := by rw [List.all_map]; exact h1
    have h4 : (rs.map (fun r => r.2.2)).any tooLong = rs.any (fun r => tooLong r.2.2) := by rw [List.any_map]; rfl
    rw [Hc.out, h3, h4, h2]
    rfl
   subst hend
   clear hr
   go_wp2_with fail
   go_ret
   exact ⟨rfl, rfl⟩
theorem row_oneW (w : World) {B : Nat} (r : SRow) (hr : ReadsI w B r.1 r.2.2) (hB : B ≤ w.heap.size) : ReadsL (w.alloc (.cells #[.slice r.1 r.2.2.length r.2.1] 39)) (w.heap.size + 1) (some ⟨w.heap.size, 0, none⟩) [r] := by
 refine ⟨⟨rfl, fun _ => ⟨_, rfl, Nat.lt_succ_self _, fun j u hu => ?_⟩⟩, fun x hx => ?_⟩
 ·have hb := Blk.new w 39 #[.slice r.1 r.2.2.length r.2.1]
  match j, hu with
  | 0, hu => rw [Addr.add_zero', hb.cell 0]; exact hu
  | j + 1, hu => simp at hu
 ·rw [List.mem_singleton.1 hx]
  exact (hr.alloc hB _).more (by omega)
set_option maxRecDepth 100000 in
theorem wchk_any {w : World} {B n c : Nat} {A : Option Addr} {l : List Int} (hr : ReadsI w B A l) (hB : B ≤ w.heap.size) (hn : n = l.length) (hw : Wf l) (hnl : n ≤ 1000000000000) :
  Calls Tryz.prog 68 #[.slice A n c] w (fun e w' => e = .returned (.int .i64 (chk [l])) ∧ Below w.heap.size w w') := by
 subst hn
 have HC := Lib.hid (check_any (c := 1) (row_oneW w (A, c, l) hr hB) (n := 1) rfl (by decide) (fun r hr' => by rw [List.mem_singleton.1 hr']; exact ⟨hw, hnl⟩))
 simp only [List.map_cons, List.map_nil] at HC
 have Hb := Lib.hid ((Below.refl w.heap.size w).alloc (Nat.le_refl _) (.cells #[.slice A l.length c] 39))
 generalize chk [l] = z at *
 clear hr hw hnl hB
 go_enter Tryz.func68, Tryz.ntmps68
 go_wp2_with fail
 refine HC.out.mono ?_
 rintro e w' ⟨rfl, rfl⟩
 go_wp2_with fail
 go_ret
 exact ⟨rfl, Hb.out⟩
theorem enc_nought : enc 0 = .agg #[.bool false, .string ⟨#[]⟩] := by
 unfold enc
 rw [show (bys (0 : Int).natAbs).toArray = #[] by decide +kernel]
 rfl
set_option maxRecDepth 100000 in
theorem rint_zero {w : World} :
  Calls Tryz.prog 88 #[.int .i64 0] w (fun e w' => e = .returned (.agg #[.bool false, .string ⟨#[]⟩, .bool false, .string ⟨#[1]⟩]) ∧ Below w.heap.size w w') := by
 have H0 : Hid (∀ W, Calls Tryz.prog 97 #[.int .i64 0] W (fun e w' => e = .returned (.agg #[.bool false, .string ⟨#[]⟩]) ∧ Below W.heap.size W w')) :=
  Lib.hid fun W => by
   have := rOf_any (w := W) (n := 0) (by decide) (by decide)
   rw [enc_nought] at this; exact this
 have H1 : Hid (∀ W, Calls Tryz.prog 97 #[.int .i64 1] W (fun e w' => e = .returned (.agg #[.bool false, .string ⟨#[1]⟩]) ∧ Below W.heap.size W w')) :=
  Lib.hid fun W => by
   have := rOf_any (w := W) (n := 1) (by decide) (by decide)
   rw [enc_one] at this; exact this
 have hbx := Box.new w 36 #[.bool false, .string ⟨#[]⟩, .bool false, .string ⟨#[]⟩]
 go_enter Tryz.func88, Tryz.ntmps88
 go_wp2_with (first
  | (go_at_call 97; (with_reducible refine (H0.out _).mono ?_); rintro _ W1 ⟨rfl, hb1⟩; have hbx := hbx.next hb1; clear hb1)
  | (go_at_call 97; (with_reducible refine (H1.out _).mono ?_); rintro _ W2 ⟨rfl, hb1⟩; have hbx := hbx.next hb1; have c0 := hbx.1.cell 0; have c1 := hbx.1.cell 1; have c2 := hbx.1.cell 2; have c3 := hbx.1.cell 3; have f0 := hbx.1.frozen 0; have f1 := hbx.1.frozen 1; have f2 := hbx.1.frozen 2; have f3 := hbx.1.frozen 3; clear hb1))
 refine bodyPost_ret (v := .agg #[.bool false, .string ⟨#[]⟩, .bool false, .string ⟨#[1]⟩]) (by simp [results, Tryz.results88, go_sem, c0, c1, c2, c3]) rfl ?_
 exact ⟨rfl, (((hbx.2.setCell (Nat.le_refl _) _).setCell (Nat.le_refl _) _).setCell (Nat.le_refl _) _).setCell (Nat.le_refl _) _⟩
def glue (p : List UInt8) : List (List UInt8) → List (List UInt8)
 | q :: qs => (p ++ q) :: qs
 | [] => [p]
def parts (c : UInt8) : List UInt8 → List (List UInt8)
 | [] => [[]]
 | b :: r => if b = c then [] :: parts c r else glue [b] (parts c r)
theorem parts_ne (c : UInt8) : ∀ l, ∃ q qs, parts c l = q :: qs
 | [] => ⟨_, _, rfl⟩
 | b :: r => by
  unfold parts
  split
  ·exact ⟨_, _, rfl⟩
  ·obtain ⟨q, qs, h⟩ := parts_ne c r
   rw [h]; exact ⟨_, _, rfl⟩
theorem glue_nil {c : UInt8} {l : List UInt8} : glue [] (parts c l) = parts c l := by
 obtain ⟨q, qs, h⟩ := parts_ne c l
 rw [h]; rfl
theorem glue_glue {p q : List UInt8} {c : UInt8} {l : List UInt8} : glue p (glue q (parts c l)) = glue (p ++ q) (parts c l) := by
 obtain ⟨a, qs, h⟩ := parts_ne c l
 rw [h]; simp [glue]
theorem cut_inv (l : List UInt8) (c : UInt8) : ∀ i, i ≤ l.length → parts c l = (cutSt l c i).1 ++ glue ((l.take i).drop (cutSt l c i).2) (parts c (l.drop i))
 | 0, _ => by
  have : cutSt l c 0 = ([], 0) := rfl
  rw [this]
  simp [glue_nil]
 | i + 1, h => by
  have ih := cut_inv l c i (by omega)
  have hil : i < l.length := by omega
  have hf := (cutSt_le l c i).1
  have hd : l.drop i = l[i] :: l.drop (i + 1) := List.drop_eq_getElem_cons hil
  rw [ih, hd]
  by_cases hb : l[i] = c
  ·rw [cut_hit (.inr (by rw [List.getElem?_eq_getElem hil, hb]))]
   have e : (l.take (i + 1)).drop (i + 1) = [] := by simp
   simp only [e, glue_nil]
   conv => lhs; rw [parts]
   rw [if_pos hb]
   simp [glue]
  ·rw [cut_miss (fun h => h.elim (fun h => by omega) (fun h => hb (by rw [List.getElem?_eq_getElem hil] at h; injection h)))]
   conv => lhs; rw [parts]
   rw [if_neg hb, glue_glue]
   congr 2
   rw [List.take_succ_eq_append_getElem hil, List.drop_append_of_le_length (by rw [List.length_take]; omega)]
theorem cutB_parts (l : List UInt8) (c : UInt8) : cutB l c = parts c l := by
 have h := cut_inv l c l.length (Nat.le_refl _)
 rw [List.drop_length] at h
 unfold cutB
 rw [cut_hit (.inl rfl), h]
 simp [parts, glue]
theorem idx_step (b c : UInt8) (r : List UInt8) : Lib.index (b :: r) [c] = if b = c then 0 else if Lib.index r [c] = -1 then -1 else Lib.index r [c] + 1 := by
 conv => lhs; unfold Lib.index
 by_cases h : b = c
 ·rw [if_pos h, if_pos (by simp [List.isPrefixOf, h])]
 ·rw [if_neg h, if_neg (by simp [List.isPrefixOf]; exact fun e => h e.symm)]
  by_cases h2 : Lib.index r [c] = -1
  ·rw [if_pos h2, if_pos (by simp [h2])]
  ·rw [if_neg h2, if_neg (by simpa using h2)]
theorem idx_parts (c : UInt8) : ∀ l : List UInt8, (Lib.index l [c] = -1 ∧ parts c l = [l]) ∨ (∃ i : Nat, Lib.index l [c] = i ∧ i < l.length ∧ parts c l = l.take i :: parts c (l.drop (i + 1)))
 | [] => .inl ⟨rfl, rfl⟩
 | b :: r => by
  rw [idx_step]
  by_cases h : b = c
  ·refine .inr ⟨0, by rw [if_pos h]; rfl, by simp, ?_⟩
   conv => lhs; unfold parts
   rw [if_pos h]
   simp
  ·rw [if_neg h]
   have hp : parts c (b :: r) = glue [b] (parts c r) := by
    conv => lhs; unfold parts
    rw [if_neg h]
   rcases idx_parts c r with ⟨h1, h2⟩ | ⟨i, h1, h2, h3⟩
   ·exact .inl ⟨by rw [if_pos h1], by rw [hp, h2]; rfl⟩
   ·refine .inr ⟨i + 1, by rw [h1, if_neg (by omega)]; push_cast; rfl, by simpa using h2, ?_⟩
    rw [hp, h3]
    simp [glue]
theorem split_parts (c : UInt8) : ∀ (n : Nat) (l : List UInt8), l.length ≤ n → Lib.split l [c] = parts c l := by
 intro n
 induction n with
 | zero =>
  intro l h
  have e : l = [] := List.eq_nil_of_length_eq_zero (by omega)
  subst e
  have h1 : Lib.index ([] : List UInt8) [c] = -1 := rfl
  unfold Lib.split
  rw [Lib.count_miss h1]
  rfl
 | succ n ih =>
  intro l h
  rcases idx_parts c l with ⟨h1, h2⟩ | ⟨i, h1, h2, h3⟩
  ·unfold Lib.split
   rw [Lib.count_miss h1, h2]
   rfl
  ·have h4 := ih (l.drop (i + 1)) (by rw [List.length_drop]; omega)
   unfold Lib.split at h4 ⊢
   rw [Lib.count_hit (by simp) h1, Nat.add_comm 1, h3]
   unfold Lib.splitK
   rw [if_neg (by rw [h1]; simp), h1]
   show l.take (i + 0) :: Lib.splitK [c] 0 (Lib.count (l.drop (i + 1)) [c]) (l.drop (i + 1)) = _
   rw [h4, Nat.add_zero]
theorem split_cut (l : List UInt8) (c : UInt8) : Lib.split l [c] = cutB l c := by rw [cutB_parts, split_parts c _ l (Nat.le_refl _)]
theorem parts_len (c : UInt8) : ∀ (n : Nat) (l : List UInt8), l.length ≤ n → (parts c l).length = Lib.count l [c] + 1 := by
 intro n
 induction n with
 | zero =>
  intro l h
  have e : l = [] := List.eq_nil_of_length_eq_zero (by omega)
  subst e
  rw [Lib.count_miss (show Lib.index ([] : List UInt8) [c] = -1 from rfl)]
  rfl
 | succ n ih =>
  intro l h
  rcases idx_parts c l with ⟨h1, h2⟩ | ⟨i, h1, h2, h3⟩
  ·rw [Lib.count_miss h1, h2]; rfl
  ·have h4 := ih (l.drop (i + 1)) (by rw [List.length_drop]; omega)
   rw [Lib.count_hit (by simp) h1, h3, List.length_cons, h4]
   show Lib.count (l.drop (i + 1)) [c] + 1 + 1 = 1 + Lib.count (l.drop (i + 1)) [c] + 1
   omega
theorem splitw_any {w : World} (s : ByteArray) (c : UInt8) (m : Int) (hs : s.size ≤ 100000) (hm : w.cell? ⟨0, 0, none⟩ = some (.int .i64 m)) :
  Calls Tryz.prog 34 #[.string s, .string ⟨#[c]⟩] w (fun e w' => ∃ n, e = .returned (.slice (some ⟨w.heap.size, 0, none⟩) n n) ∧ OwnS w' w.heap.size (.slice (some ⟨w.heap.size, 0, none⟩) n n) (cutB s.data.toList c) ∧ Below w.heap.size w w') := by
 refine (Tryz.strings_Split s ⟨#[c]⟩ m w (by omega) hm (by show 1 ≤ 1; decide)).mono ?_
 rintro e w' ⟨rfl, rfl⟩
 have h1 := Lib.splitB_data ⟨#[c]⟩ 0 (Lib.countB s ⟨#[c]⟩) s
 have h2 : Lib.splitK [c] 0 (Lib.countB s ⟨#[c]⟩) s.data.toList = cutB s.data.toList c := by
  rw [← split_cut]
  unfold Lib.split
  rfl
 have h3 : (Lib.splitB ⟨#[c]⟩ 0 (Lib.countB s ⟨#[c]⟩) s).map (·.data.toList) = cutB s.data.toList c := h1.trans h2
 have hlen : (Lib.splitB ⟨#[c]⟩ 0 (Lib.countB s ⟨#[c]⟩) s).length = Lib.countB s ⟨#[c]⟩ + 1 := by
  have h4 := congrArg List.length h3
  rw [List.length_map, cutB_parts, parts_len c _ _ (Nat.le_refl _)] at h4
  exact h4
 have hle : Lib.countB s ⟨#[c]⟩ ≤ s.data.toList.length + 1 := Lib.count_le _ _
 have hsl : s.data.toList.length = s.size := Array.length_toList
 have hcl : (cutB s.data.toList c).length = Lib.countB s ⟨#[c]⟩ + 1 := by rw [← h3, List.length_map, hlen]
 generalize Lib.splitB ⟨#[c]⟩ 0 (Lib.countB s ⟨#[c]⟩) s = L at *
 refine ⟨_, rfl, ⟨?_, .inr ⟨w.heap.size, Lib.countB s ⟨#[c]⟩ + 1, (L.map Value.string).toArray, ?_, Nat.le_refl _, heap_alloc_new w _, ?_, ?_, ?_, ?_⟩⟩, (Below.refl _ _).alloc (Nat.le_refl _) _⟩
 ·simp
 ·rw [hcl]
 ·rw [hcl]; exact Nat.le_refl _
 ·unfold maxLen; omega
 ·simp [hlen]
 ·rw [hcl, ← h3, Nat.mul_one, List.map_map]
  have e : (fun x : ByteArray => bs x.data.toList) = Value.string := by funext x; rfl
  show List.take _ (L.map Value.string) = L.map (fun x : ByteArray => bs x.data.toList)
  rw [e, List.take_of_length_le (by rw [List.length_map, hlen]; exact Nat.le_refl _)]
theorem parts_none {c : UInt8} : ∀ {l : List UInt8}, c ∉ l → parts c l = [l]
 | [], _ => rfl
 | b :: r, h => by
  have h1 : b ≠ c := fun e => h (by rw [e]; exact List.mem_cons_self)
  have h2 := parts_none (l := r) (fun hr => h (List.mem_cons_of_mem _ hr))
  unfold parts
  rw [if_neg h1, h2]
  rfl
theorem parts_at {c : UInt8} {r : List UInt8} : ∀ {p : List UInt8}, c ∉ p → parts c (p ++ c :: r) = p :: parts c r
 | [], _ => by
  show parts c (c :: r) = _
  conv => lhs; unfold parts
  rw [if_pos rfl]
 | b :: q, h => by
  have h1 : b ≠ c := fun e => h (by rw [e]; exact List.mem_cons_self)
  have h2 := parts_at (r := r) (p := q) (fun hr => h (List.mem_cons_of_mem _ hr))
  show parts c (b :: (q ++ c :: r)) = _
  conv => lhs; unfold parts
  rw [if_neg h1, h2]
  rfl
theorem join_glue (c : UInt8) (p q : List UInt8) (qs : List (List UInt8)) : Lib.join (glue p (q :: qs)) [c] = p ++ Lib.join (q :: qs) [c] := by
 show Lib.join ((p ++ q) :: qs) [c] = _
 rw [Lib.join_cons, Lib.join_cons, List.append_assoc]
theorem join_parts (c : UInt8) : ∀ l : List UInt8, Lib.join (parts c l) [c] = l
 | [] => by rfl
 | b :: r => by
  have ih := join_parts c r
  unfold parts
  obtain ⟨q, qs, hq⟩ := parts_ne c r
  rw [hq] at ih ⊢
  by_cases h : b = c
  ·rw [if_pos h, Lib.join_cons, List.nil_append]
   rw [Lib.join_cons] at ih
   have e : Lib.joinTail [c] (q :: qs) = c :: (q ++ Lib.joinTail [c] qs) := by simp [Lib.joinTail]
   rw [e, ih, h]
  ·rw [if_neg h, join_glue, ih]
   rfl
theorem mem_join_len {c : UInt8} : ∀ {l : List (List UInt8)} (p : List UInt8), p ∈ l → p.length ≤ (Lib.join l [c]).length
 | x :: r, p, hp => by
  rw [Lib.join_cons, List.length_append]
  rcases List.mem_cons.1 hp with rfl | h
  ·omega
  ·have : ∀ {r : List (List UInt8)}, p ∈ r → p.length ≤ (Lib.joinTail [c] r).length := by
    intro r
    induction r with
    | nil => intro h; simp at h
    | cons y r ih =>
     intro h
     rw [show Lib.joinTail [c] (y :: r) = [c] ++ (y ++ Lib.joinTail [c] r) by simp [Lib.joinTail]]
     simp only [List.length_append]
     rcases List.mem_cons.1 h with rfl | h
     ·omega
     ·have := ih h; omega
   have := this h
   omega
theorem joinTail_cons (sep y : List UInt8) (r : List (List UInt8)) : Lib.joinTail sep (y :: r) = sep ++ (y ++ Lib.joinTail sep r) := by
 simp [Lib.joinTail]
theorem parts_join {c : UInt8} : ∀ {l : List (List UInt8)}, l ≠ [] → (∀ t ∈ l, c ∉ t) → parts c (Lib.join l [c]) = l
 | [], h, _ => absurd rfl h
 | [x], _, h => by
  rw [Lib.join_one]
  exact parts_none (h x (by simp))
 | x :: y :: r, _, h => by
  have ih := parts_join (c := c) (l := y :: r) (by simp) (fun t ht => h t (List.mem_cons_of_mem _ ht))
  rw [Lib.join_cons] at ih ⊢
  rw [joinTail_cons]
  show parts c (x ++ c :: (y ++ Lib.joinTail [c] r)) = _
  rw [parts_at (h x (by simp)), ih]
theorem txt_byte {x : Int} {b : UInt8} (h : b ∈ txt x) : b = 45 ∨ IsDig b := by
 unfold txt at h
 split at h
 ·rw [List.mem_singleton.1 h]; exact .inr ⟨by decide, by decide⟩
 ·rcases List.mem_append.1 h with h | h
  ·split at h
   ·rw [List.mem_singleton.1 h]; exact .inl rfl
   ·simp at h
  ·exact .inr (allDig_dec _ _ (Nat.le_refl _) b h)
theorem txt_no {x : Int} {b : UInt8} (h1 : b ≠ 45) (h2 : ¬ IsDig b) : b ∉ txt x := fun h => (txt_byte h).elim h1 h2
theorem no_dig {b : UInt8} (h : b.toNat < 48 ∨ 57 < b.toNat) : ¬ IsDig b := fun ⟨h1, h2⟩ => by omega
theorem txtF_byte {a c : Int} {b : UInt8} (h : b ∈ txtF a c) : b = 45 ∨ b = 47 ∨ IsDig b := by
 unfold txtF at h
 split at h
 ·rcases txt_byte h with h | h
  ·exact .inl h
  ·exact .inr (.inr h)
 ·rcases List.mem_append.1 h with h | h
  ·rcases txt_byte h with h | h
   ·exact .inl h
   ·exact .inr (.inr h)
  ·rcases List.mem_cons.1 h with h | h
   ·exact .inr (.inl h)
   ·rcases txt_byte h with h | h
    ·exact .inl h
    ·exact .inr (.inr h)
theorem txtF_one (a : Int) : txtF a 1 = txt a := if_pos rfl
theorem txtF_two {a b : Int} (h : b ≠ 1) : txtF a b = txt a ++ 47 :: txt b := if_neg h
theorem slash_no (x : Int) : (47 : UInt8) ∉ txt x := txt_no (by decide) (no_dig (.inl (by decide)))
theorem parts_txtF (a b : Int) : parts 47 (txtF a b) = if b = 1 then [txt a] else [txt a, txt b] := by
 unfold txtF
 split
 ·exact parts_none (slash_no a)
 ·rw [parts_at (slash_no a), parts_none (slash_no b)]
theorem rval_txt (x : Int) : rval (txt x) = x := (txt_good x).2
theorem good_txt (x : Int) : Good (txt x) := (txt_good x).1
def MayZ (a b : Int) : Prop := MayFr (decide (a < 0)) ⟨(bys a.natAbs).toArray⟩ (decide (b < 0)) ⟨(bys b.natAbs).toArray⟩
def inF (l : List UInt8) : Option (Int × Int) := match parts 47 l with
 | [p] => some (rval p, 1)
 | p :: q :: _ => some (rval p, rval q)
 | [] => none
theorem inF_txt {a b : Int} : inF (txtF a b) = some (a, b) := by
 unfold inF
 rw [parts_txtF]
 by_cases h : b = 1
 ·rw [if_pos h]
  simp only [rval_txt, h]
 ·rw [if_neg h]
  simp only [rval_txt]
theorem fit_piece {l : List UInt8} (h : Good l) (hl : l.length ≤ 6000) : fits (rval l) := by
 unfold fits rval
 rw [sgn_abs]
 have h1 := dv_lt _ _ rfl (good_dig h).1
 have h2 : (10 : Nat) ^ (l.drop (rfirst l)).length ≤ 16 ^ (l.drop (rfirst l)).length := Nat.pow_le_pow_left (by decide) _
 rw [show (16 : Nat) = 2 ^ 4 by decide, ← Nat.pow_mul] at h2
 refine Nat.le_trans (bl_lt.2 (Nat.lt_of_lt_of_le h1 h2)) ?_
 rw [List.length_drop]
 omega
def FRead (w : World) (l : List UInt8) (e : Ending) (w' : World) : Prop :=
 ((∃ a b, e = .returned (.tuple #[encF a b, .int .i64 0]) ∧ MayZ a b ∧ l = txtF a b) ∨
  (e = .returned (.tuple #[.agg #[.bool false, .string ⟨#[]⟩, .bool false, .string ⟨#[]⟩], .int .i64 130]) ∧ ∀ a b, MayZ a b → l ≠ txtF a b)) ∧ Below w.heap.size w w'
end Go.Proofs.YtebpggfccljagaaGreatDoor
namespace Go.Proofs.YtebpggfccljagaaGreatDoor
open Go Go.RowKit
theorem wpAnyH_more {P : Program} {ops : Array Oper} {Q : Exit → Act → World → Prop} {md : Region.Mode} {S S' : World → Prop} (himp : ∀ w, S' w → S w) :
  ∀ {fuel : Nat} {listed : Array Bool} {a : Act} {w : World}, wpAnyH P md ops Q S' fuel listed a w → wpAnyH P md ops Q S fuel listed a w
 | 0, _, _, _, h => h
 | _ + 1, _, _, _, h => ⟨h.1, fun i hi => wpOp_mono (fun _ _ h' => ⟨himp _ h'.1, wpAnyH_more himp h'.2⟩) (h.2 i hi)⟩
end Go.Proofs.YtebpggfccljagaaGreatDoor
namespace Go.Proofs.YtebpggfccljagaaGreatDoor
open Go.RowKit
open Wh
set_option linter.unusedSimpArgs false
set_option linter.unusedVariables false
theorem grow_trans {a b c : World} {r : Option Nat} (h : a.grownBy b r) (h2 : b.grownBy c r) : a.grownBy c r :=
 ⟨h2.os.trans h.os, h2.tape.trans h.tape, h2.output.trans h.output, Nat.le_trans h.size h2.size, fun i hi hne => (h2.block i (Nat.lt_of_lt_of_le hi h.size) hne).trans (h.block i hi hne)⟩
theorem grown_of_below {a b : World} {r : Option Nat} (h : Below a.heap.size a b) : a.grownBy b r := ⟨h.os, h.tape, h.output, h.size, fun i hi _ => h.block i hi⟩
set_option maxRecDepth 100000 in
set_option maxHeartbeats 4000000 in
theorem ratint_any {w : World} {g gx : Nat} {x : Int} (hz : RatS w g) (hx : IntB w gx x) (hgx : gx ≠ g) (hxl : (wds x.natAbs).length ≤ 900000000) :
  Calls Tryz.prog 139 #[.pointer (some ⟨g, 0, none⟩), .pointer (some ⟨gx, 0, none⟩)] w (fun e w' => e = .returned (.pointer (some ⟨g, 0, none⟩)) ∧ RatB w' g x 1 ∧ w.grownBy w' (some g)) := by
 have HA := Lib.hid (And.intro hz (And.intro hx hgx))
 have HL := Lib.hid hxl
 have hgl := hz.lt
 clear hz hx hgx hxl
 go_enter Tryz.func139, Tryz.ntmps139
 go_wp2_with fail
 refine wp_region_noPanic ?_
 refine wp_region_held_drew (S := fun w' => World.grownBy (w) w' (some g)) (by kernel_rfl) (grown_of_below (r := some g) (Below.refl w.heap.size w).drew) (fun hHeld => ?_)
 refine wpAnyH_take (i := 0) (oi := Oper.mk (some 5) _ _ _ _ _) (v := ?_) rfl (by kernel_rfl) (by kernel_rfl) (by kernel_rfl) (fun _ _ _ h => h) (Or.inl ⟨by rfl, ?_⟩) (by assumption) ?_
 rotate_left
 ·(intro w' hSw; (try dsimp only at hSw); go_simp; try with_reducible rfl)
 try simp only [Act.put, List.setIfInBounds_toArray, List.set_cons_zero, List.set_cons_succ]
 refine wpAnyH_take (i := 1) (oi := Oper.mk (some 6) _ _ _ _ _) (v := ?_) rfl (by kernel_rfl) (by kernel_rfl) (by kernel_rfl) (fun _ _ _ h => h) (Or.inl ⟨by rfl, ?_⟩) (by assumption) ?_
 rotate_left
 ·(intro w' hSw; (try dsimp only at hSw); go_simp; try with_reducible rfl)
 try simp only [Act.put, List.setIfInBounds_toArray, List.set_cons_zero, List.set_cons_succ]
 refine wpAnyH_take (i := 3) (oi := Oper.mk (some 8) _ _ _ _ _) (v := ?_) rfl (by kernel_rfl) (by kernel_rfl) (by kernel_rfl) (fun _ _ _ h => h) (Or.inl ⟨by rfl, ?_⟩) (by assumption) ?_
 rotate_left
 ·(intro w' hSw; (try dsimp only at hSw); go_simp; try with_reducible rfl)
 try simp only [Act.put, List.setIfInBounds_toArray, List.set_cons_zero, List.set_cons_succ]
 refine wpAnyH_ready (rs := [2]) (by kernel_rfl) (by simp) ?_
 refine AllReadyH.cons (o := Oper.mk (some 7) _ _ _ _ _) rfl (fun K hK => ?_) AllReadyH.nil
 go_simp
 refine hK.out _ _ (grown_of_below (r := some g) ((Below.refl w.heap.size w).alloc (Nat.le_refl _) _).drew) (fun _ => ?_)
 clear hK K hHeld
 have hHeld := (grown_of_below (r := some g) ((Below.refl w.heap.size w).alloc (Nat.le_refl _) (.cells #[.bool false, .slice none 0 0] 151)).drew)
 try simp only [Act.put, List.setIfInBounds_toArray, List.set_cons_zero, List.set_cons_succ]
 refine wpAnyH_ready (rs := [4]) (by kernel_rfl) (by simp) ?_
 refine AllReadyH.cons (o := Oper.mk (some 9) _ _ _ _ _) rfl (fun K hK => ?_) AllReadyH.nil
 go_simp
 have hz7 : IntS (w.alloc (.cells #[.bool false, .slice none 0 0] 151)) w.heap.size := (IntB.zero w).slot
 refine (set_any (w := (w.alloc (.cells #[.bool false, .slice none 0 0] 151)).drew) hz7 (HA.out.2.1.below (new_below _ _).drew) HL.out).mono ?_
 rintro _ W1 ⟨rfl, hi1, hg1⟩
 have hg1z : World.grownBy (w.alloc (.cells #[.bool false, .slice none 0 0] 151)) W1 (some w.heap.size) := ⟨hg1.os, hg1.tape, hg1.output, hg1.size, hg1.block⟩
 have hb1 : Below w.heap.size w W1 := below_new hg1z
 obtain ⟨s1, A1, n1, c1, p0, p1, Hp, hp1, hp2, hpr⟩ := hi1.opened
 have hl1 := hi1.lt
 have hne1 : w.heap.size ≠ g := by omega
 refine hK.out _ _ (grown_of_below (r := some g) hb1) (fun _ => ?_)
 clear hK K hHeld
 refine wpAnyH_more (S' := fun w' => World.grownBy (W1) w' (some g)) (fun w' h => grow_trans ((grown_of_below (r := some g) hb1)) h) ?_
 have hHeld := (World.grownBy.refl W1 (some g))
 try simp only [Act.put, List.setIfInBounds_toArray, List.set_cons_zero, List.set_cons_succ]
 refine wpAnyH_take (i := 5) (oi := Oper.mk (some 10) _ _ _ _ _) (v := ?_) rfl (by kernel_rfl) (by kernel_rfl) (by kernel_rfl) (fun _ _ _ h => h) (Or.inl ⟨by rfl, ?_⟩) (by assumption) ?_
 rotate_left
 ·(intro w' hSw; (try dsimp only at hSw); go_simp; try with_reducible rfl)
 try simp only [Act.put, List.setIfInBounds_toArray, List.set_cons_zero, List.set_cons_succ]
 refine wpAnyH_take (i := 6) (oi := Oper.mk (some 11) _ _ _ _ _) (v := ?_) rfl (by kernel_rfl) (by kernel_rfl) (by kernel_rfl) (fun _ _ _ h => h) (Or.inl ⟨by rfl, ?_⟩) (by assumption) ?_
 rotate_left
 ·(intro w' hSw; (try dsimp only at hSw); have t0 := (grown_cell hSw hl1 hne1 (o := 0)).trans p0; have t1 := (grown_cell hSw hl1 hne1 (o := 1)).trans p1; go_simp; try with_reducible rfl)
 try simp only [Act.put, List.setIfInBounds_toArray, List.set_cons_zero, List.set_cons_succ]
 refine wpAnyH_ready (rs := [7]) (by kernel_rfl) (by simp) ?_
 refine AllReadyH.cons (o := Oper.mk (some 12) _ _ _ _ _) rfl (fun K hK => ?_) AllReadyH.nil
 go_simp
 refine (newint_any (w := W1) (n := 1) (by decide) (by decide)).mono ?_
 rintro _ W2 ⟨rfl, hi2, hb2⟩
 obtain ⟨s2, A2, n2, c2, q0, q1, Hq, hq1, hq2, hqr⟩ := hi2.opened
 have hne2 : W1.heap.size ≠ g := by have := hb1.size; omega
 have hl2 := hi2.lt
 have hz2 := (HA.out.1.below (hb1)).below hb2
 have Hz2 := Lib.hid hz2
 obtain ⟨cs, hk, hcs⟩ := hz2
 obtain ⟨z0, e0⟩ : ∃ z, W2.cell? ⟨g, 0, none⟩ = some z := ⟨cs[0]'(by omega), by rw [hk.cell]; exact Array.getElem?_eq_getElem (by omega)⟩
 obtain ⟨z1, e1⟩ : ∃ z, W2.cell? ⟨g, 1, none⟩ = some z := ⟨cs[1]'(by omega), by rw [hk.cell]; exact Array.getElem?_eq_getElem (by omega)⟩
 obtain ⟨z2, e2⟩ : ∃ z, W2.cell? ⟨g, 2, none⟩ = some z := ⟨cs[2]'(by omega), by rw [hk.cell]; exact Array.getElem?_eq_getElem (by omega)⟩
 obtain ⟨z3, e3⟩ : ∃ z, W2.cell? ⟨g, 3, none⟩ = some z := ⟨cs[3]'(by omega), by rw [hk.cell]; exact Array.getElem?_eq_getElem (by omega)⟩
 have f0 := hk.frozen 0
 have f1 := hk.frozen 1
 have f2 := hk.frozen 2
 have f3 := hk.frozen 3
 refine hK.out _ _ (grown_of_below (r := some g) hb2) (fun _ => ?_)
 clear hK K hHeld
 refine wpAnyH_more (S' := fun w' => World.grownBy (W2) w' (some g)) (fun w' h => grow_trans ((grown_of_below (r := some g) hb2)) h) ?_
 have hHeld := (World.grownBy.refl W2 (some g))
 try simp only [Act.put, List.setIfInBounds_toArray, List.set_cons_zero, List.set_cons_succ]
 refine wpAnyH_take (i := 8) (oi := Oper.mk (some 13) _ _ _ _ _) (v := ?_) rfl (by kernel_rfl) (by kernel_rfl) (by kernel_rfl) (fun _ _ _ h => h) (Or.inl ⟨by rfl, ?_⟩) (by assumption) ?_
 rotate_left
 ·(intro w' hSw; (try dsimp only at hSw); go_simp; try with_reducible rfl)
 try simp only [Act.put, List.setIfInBounds_toArray, List.set_cons_zero, List.set_cons_succ]
 refine wpAnyH_take (i := 9) (oi := Oper.mk (some 14) _ _ _ _ _) (v := ?_) rfl (by kernel_rfl) (by kernel_rfl) (by kernel_rfl) (fun _ _ _ h => h) (Or.inl ⟨by rfl, ?_⟩) (by assumption) ?_
 rotate_left
 ·(intro w' hSw; (try dsimp only at hSw); have t0 := (grown_cell hSw hl2 hne2 (o := 0)).trans q0; have t1 := (grown_cell hSw hl2 hne2 (o := 1)).trans q1; go_simp; try with_reducible rfl)
 try simp only [Act.put, List.setIfInBounds_toArray, List.set_cons_zero, List.set_cons_succ]
 refine wpAnyH_take (i := 10) (oi := Oper.mk (some 15) _ _ _ _ _) (v := ?_) rfl (by kernel_rfl) (by kernel_rfl) (by kernel_rfl) (fun _ _ _ h => h) (Or.inl ⟨by rfl, ?_⟩) (by assumption) ?_
 rotate_left
 ·(intro w' hSw; (try dsimp only at hSw); go_simp; try with_reducible rfl)
 try simp only [Act.put, List.setIfInBounds_toArray, List.set_cons_zero, List.set_cons_succ]
 refine wpAnyH_take (i := 11) (oi := Oper.mk (some 16) _ _ _ _ _) (v := ?_) rfl (by kernel_rfl) (by kernel_rfl) (by kernel_rfl) (fun _ _ _ h => h) (Or.inl ⟨by rfl, ?_⟩) (by assumption) ?_
 rotate_left
 ·(intro w' hSw; (try dsimp only at hSw); go_simp; try with_reducible rfl)
 try simp only [Act.put, List.setIfInBounds_toArray, List.set_cons_zero, List.set_cons_succ]
 refine wpAnyH_ready (rs := [12]) (by kernel_rfl) (by simp) ?_
 refine AllReadyH.cons (o := Oper.mk (none) _ _ _ _ _) rfl (fun K hK => ?_) AllReadyH.nil
 go_simp
 refine hK.out _ _ (only_setCell (p := ⟨g, 1, none⟩) (only_setCell (p := ⟨g, 0, none⟩) (World.grownBy.refl W2 (some g)) (.inl rfl) _) (.inl rfl) _) (fun _ => ?_)
 clear hK K hHeld
 refine wpAnyH_more (S' := fun w' => World.grownBy (((W2.setCell ⟨g, 0, none⟩ (.bool s1)).setCell ⟨g, 1, none⟩ (.slice A1 n1 c1))) w' (some g)) (fun w' h => grow_trans ((only_setCell (p := ⟨g, 1, none⟩) (only_setCell (p := ⟨g, 0, none⟩) (World.grownBy.refl W2 (some g)) (.inl rfl) _) (.inl rfl) _)) h) ?_
 have hHeld := (World.grownBy.refl ((W2.setCell ⟨g, 0, none⟩ (.bool s1)).setCell ⟨g, 1, none⟩ (.slice A1 n1 c1)) (some g))
 try simp only [Act.put, List.setIfInBounds_toArray, List.set_cons_zero, List.set_cons_succ]
 refine wpAnyH_take (i := 13) (oi := Oper.mk (some 17) _ _ _ _ _) (v := ?_) rfl (by kernel_rfl) (by kernel_rfl) (by kernel_rfl) (fun _ _ _ h => h) (Or.inl ⟨by rfl, ?_⟩) (by assumption) ?_
 rotate_left
 ·(intro w' hSw; (try dsimp only at hSw); go_simp; try with_reducible rfl)
 try simp only [Act.put, List.setIfInBounds_toArray, List.set_cons_zero, List.set_cons_succ]
 refine wpAnyH_take (i := 14) (oi := Oper.mk (some 18) _ _ _ _ _) (v := ?_) rfl (by kernel_rfl) (by kernel_rfl) (by kernel_rfl) (fun _ _ _ h => h) (Or.inl ⟨by rfl, ?_⟩) (by assumption) ?_
 rotate_left
 ·(intro w' hSw; (try dsimp only at hSw); go_simp; try with_reducible rfl)
 try simp only [Act.put, List.setIfInBounds_toArray, List.set_cons_zero, List.set_cons_succ]
 refine wpAnyH_ready (rs := [15]) (by kernel_rfl) (by simp) ?_
 refine AllReadyH.cons (o := Oper.mk (none) _ _ _ _ _) rfl (fun K hK => ?_) AllReadyH.nil
 go_simp
 refine hK.out _ _ (only_setCell (p := ⟨g, 3, none⟩) (only_setCell (p := ⟨g, 2, none⟩) (World.grownBy.refl ((W2.setCell ⟨g, 0, none⟩ (.bool s1)).setCell ⟨g, 1, none⟩ (.slice A1 n1 c1)) (some g)) (.inl rfl) _) (.inl rfl) _) (fun _ => ?_)
 clear hK K hHeld
 have hHeld := (only_setCell (p := ⟨g, 3, none⟩) (only_setCell (p := ⟨g, 2, none⟩) (World.grownBy.refl ((W2.setCell ⟨g, 0, none⟩ (.bool s1)).setCell ⟨g, 1, none⟩ (.slice A1 n1 c1)) (some g)) (.inl rfl) (.bool s2)) (.inl rfl) (.slice A2 n2 c2))
 try simp only [Act.put, List.setIfInBounds_toArray, List.set_cons_zero, List.set_cons_succ]
 refine wpAnyH_done (by kernel_rfl) ?_ _
 refine NoPanic.normal ?_
 go_wp2_with fail
 go_ret
 obtain ⟨r1, r2⟩ := rat_made Hz2.out Hp hp1 hp2 ((hpr.below hb2).more hb2.size) Hq hq1 hq2 hqr (by decide)
 exact ⟨rfl, r1, grow_trans (grown_of_below (r := some g) (hb1.trans (hb2.mono hb1.size))) r2⟩
set_option maxRecDepth 100000 in
theorem ratint64_any {w : World} {g : Nat} {x : Int} (hz : RatS w g) (h1 : -9223372036854775808 ≤ x) (h2 : x ≤ 9223372036854775807) (hx : (wds x.natAbs).length ≤ 900000000) :
  Calls Tryz.prog 104 #[.pointer (some ⟨g, 0, none⟩), .int .i64 x] w (fun e w' => e = .returned (.pointer (some ⟨g, 0, none⟩)) ∧ RatB w' g x 1 ∧ w.grownBy w' (some g)) := by
 have HN := Lib.hid (newint_any (w := w) h1 h2)
 have HX := Lib.hid hx
 have hgl := hz.lt
 have HZ := Lib.hid hz
 clear hz
 go_enter Tryz.func104, Tryz.ntmps104
 go_wp2_with (first
  | (go_at_call 94; (with_reducible refine HN.out.mono ?_); rintro _ W1 ⟨rfl, hi, hb⟩; have hgx : w.heap.size ≠ g := (by omega))
  | (go_at_call 139; (with_reducible refine (ratint_any (HZ.out.below hb) hi hgx HX.out).mono ?_); rintro _ W2 ⟨rfl, hr, hg⟩))
 go_ret
 exact ⟨rfl, hr, grow_trans (grown_of_below hb) hg⟩
theorem encF_01 : encF 0 1 = .agg #[.bool false, .string ⟨#[]⟩, .bool false, .string ⟨#[1]⟩] := by
 unfold encF
 rw [show (bys (0 : Int).natAbs).toArray = #[] by decide +kernel, show (bys (1 : Int).natAbs).toArray = #[1] by decide +kernel]
 rfl
set_option maxRecDepth 100000 in
set_option maxHeartbeats 2000000 in
theorem fint_zero {w : World} :
  Calls Tryz.prog 85 #[.int .i64 0] w (fun e w' => e = .returned (.agg #[.bool false, .string ⟨#[]⟩, .bool false, .string ⟨#[1]⟩]) ∧ Below w.heap.size w w') := by
 have h0 := ratint64_any (x := 0) (RatS.zero (w.alloc (.cells #[.bool false, .string ⟨#[]⟩, .bool false, .string ⟨#[]⟩] 36))) (by decide) (by decide) (by simp [wds_zero])
 have hN := new_below (w.alloc (.cells #[.bool false, .string ⟨#[]⟩, .bool false, .string ⟨#[]⟩] 36)) (.cells #[.bool false, .slice none 0 0, .bool false, .slice none 0 0] 153)
 rw [World.size_alloc] at h0
 have H0 := Lib.hid h0
 have HN := Lib.hid hN
 clear h0 hN
 have HT : Hid (∀ W g, RatB W g 0 1 → Calls Tryz.prog 103 #[.pointer (some ⟨g, 0, none⟩)] W (fun e w' => e = .returned (.agg #[.bool false, .string ⟨#[]⟩, .bool false, .string ⟨#[1]⟩]) ∧ Below W.heap.size W w')) :=
  Lib.hid fun W g h => by
   have := toldf_any h (by simp [wds_zero]) len_oneG
   rw [encF_01] at this
   exact this
 have hbx := Box.new w 36 #[.bool false, .string ⟨#[]⟩, .bool false, .string ⟨#[]⟩]
 go_enter Tryz.func85, Tryz.ntmps85
 go_wp2_with (first
  | (go_at_call 104; (refine H0.out.mono ?_); rintro _ W1 ⟨rfl, hr, hg⟩; have hbx := hbx.next (HN.out.grown hg (by simp) (fun k hk => by injection hk with hk; simp at hk ⊢; omega)))
  | (go_at_call 103; (refine (HT.out _ _ hr).mono ?_); rintro _ W2 ⟨rfl, hb2⟩; have hbx := hbx.next hb2; have c0 := hbx.1.cell 0; have c1 := hbx.1.cell 1; have c2 := hbx.1.cell 2; have c3 := hbx.1.cell 3; have f0 := hbx.1.frozen 0; have f1 := hbx.1.frozen 1; have f2 := hbx.1.frozen 2; have f3 := hbx.1.frozen 3))
 refine bodyPost_ret (v := .agg #[.bool false, .string ⟨#[]⟩, .bool false, .string ⟨#[1]⟩]) (by simp [results, Tryz.results85, go_sem, c0, c1, c2, c3]) rfl ?_
 exact ⟨rfl, (((hbx.2.setCell (Nat.le_refl _) _).setCell (Nat.le_refl _) _).setCell (Nat.le_refl _) _).setCell (Nat.le_refl _) _⟩
theorem piece_good {l : List UInt8} {a b : Int} (h : l = txtF a b) : ∀ p ∈ parts 47 l, Good p := by
 intro p hp
 rw [h, parts_txtF] at hp
 split at hp
 ·rw [List.mem_singleton.1 hp]; exact good_txt a
 ·simp only [List.mem_cons, List.not_mem_nil, or_false] at hp
  rcases hp with rfl | rfl <;> exact good_txt _
theorem fr_bad {l p : List UInt8} (hp : p ∈ parts 47 l) (hg : ¬ Good p) : ∀ a b, MayZ a b → l ≠ txtF a b := fun a b _ h => hg (piece_good h p hp)
theorem fr_off {l : List UInt8} {a b : Int} (h : inF l = some (a, b)) (hn : ¬ (MayZ a b ∧ l = txtF a b)) : ∀ a' b', MayZ a' b' → l ≠ txtF a' b' := fun a' b' hm he => by
 rw [he, inF_txt] at h
 injection h with h
 injection h with h1 h2
 subst h1 h2
 exact hn ⟨hm, he⟩
theorem OwnS.get {w : World} {B n c : Nat} {g : Nat} {l : List (List UInt8)} (h : OwnS w B (.slice (some ⟨g, 0, none⟩) n c) l) {i : Nat} (hi : i < l.length) : w.cell? ⟨g, i, none⟩ = some (.string ⟨l[i].toArray⟩) := by
 have h' : w.ownsRow B 9 1 (.slice (some ⟨g, 0, none⟩) n c) l.length (l.map bs) := h
 have hc := h'.cells (g := g) rfl i (bs l[i]) (by rw [List.getElem?_map, List.getElem?_eq_getElem hi]; rfl)
 have e : (⟨g, 0, none⟩ : Addr).add i = ⟨g, i, none⟩ := by rw [Addr.add_lit, Nat.zero_add]
 rw [e] at hc
 exact hc
def TextOut (a b : Int) (W : World) (e : Ending) (w' : World) : Prop :=
 ((MayZ a b ∧ e = .returned (.tuple #[.string ⟨(txtF a b).toArray⟩, .int .i64 0])) ∨ (¬ MayZ a b ∧ e = .returned (.tuple #[.string ⟨#[]⟩, .int .i64 2]))) ∧ Below W.heap.size W w'
theorem text_out (a b : Int) (W : World) : Calls Tryz.prog 71 #[encF a b] W (TextOut a b W) := by
 by_cases h : MayZ a b
 ·refine (textf_yes (w := W) h).mono ?_
  rintro e w' ⟨he, hb⟩
  refine ⟨.inl ⟨h, ?_⟩, hb⟩
  rw [he, num_back, num_back]
 ·refine (textf_no (w := W) h).mono ?_
  rintro e w' ⟨he, hb⟩
  exact ⟨.inr ⟨h, he⟩, hb⟩
theorem read_out {p : List UInt8} (hp : p.length ≤ 6000) (W : World) : Calls Tryz.prog 86 #[.string ⟨p.toArray⟩] W (fun e w' => ((Good p ∧ e = .returned (.tuple #[enc (rval p), .int .i64 0])) ∨ (¬ Good p ∧ e = .returned (.tuple #[none_, .int .i64 120]))) ∧ Below W.heap.size W w') := by
 refine (wread_any (w := W) (s := ⟨p.toArray⟩)).mono ?_
 rintro e w' ⟨h1, h2, h3, h4, h5⟩
 simp only at h2 h3
 refine ⟨?_, h5⟩
 by_cases hg : Good p
 ·exact .inl ⟨hg, h3 (by omega) hg (fit_piece hg hp)⟩
 ·exact .inr ⟨hg, h2 (by omega) hg⟩
theorem text_yes4 {A B : Int} {x0 x1 : Bool} {t0 t1 : ByteArray} (hV : encF A B = .agg #[.bool x0, .string t0, .bool x1, .string t1]) (hm : MayZ A B) (W : World) :
  Calls Tryz.prog 71 #[.agg #[.bool x0, .string t0, .bool x1, .string t1]] W (fun e w' => e = .returned (.tuple #[.string ⟨(txtF A B).toArray⟩, .int .i64 0]) ∧ Below W.heap.size W w') := by
 rw [← hV]
 refine (text_out A B W).mono ?_
 rintro e w' ⟨h, hb⟩
 exact ⟨h.elim (fun h => h.2) (fun h => absurd hm h.1), hb⟩
theorem text_no4 {A B : Int} {x0 x1 : Bool} {t0 t1 : ByteArray} (hV : encF A B = .agg #[.bool x0, .string t0, .bool x1, .string t1]) (hm : ¬ MayZ A B) (W : World) :
  Calls Tryz.prog 71 #[.agg #[.bool x0, .string t0, .bool x1, .string t1]] W (fun e w' => e = .returned (.tuple #[.string ⟨#[]⟩, .int .i64 2]) ∧ Below W.heap.size W w') := by
 rw [← hV]
 refine (text_out A B W).mono ?_
 rintro e w' ⟨h, hb⟩
 exact ⟨h.elim (fun h => absurd h.1 hm) (fun h => h.2), hb⟩
theorem read_yes {p : List UInt8} (hp : p.length ≤ 6000) (hg : Good p) (W : World) : Calls Tryz.prog 86 #[.string ⟨p.toArray⟩] W (fun e w' => e = .returned (.tuple #[.agg #[.bool (decide (rval p < 0)), .string ⟨(bys (rval p).natAbs).toArray⟩], .int .i64 0]) ∧ Below W.heap.size W w') := by
 refine (read_out hp W).mono ?_
 rintro e w' ⟨h, hb⟩
 exact ⟨h.elim (fun h => h.2) (fun h => absurd hg h.1), hb⟩
theorem read_no {p : List UInt8} (hp : p.length ≤ 6000) (hg : ¬ Good p) (W : World) : Calls Tryz.prog 86 #[.string ⟨p.toArray⟩] W (fun e w' => e = .returned (.tuple #[.agg #[.bool false, .string ⟨#[]⟩], .int .i64 120]) ∧ Below W.heap.size W w') := by
 refine (read_out hp W).mono ?_
 rintro e w' ⟨h, hb⟩
 exact ⟨h.elim (fun h => absurd h.1 hg) (fun h => h.2), hb⟩
theorem encF_1 (A : Int) : encF A 1 = .agg #[.bool (decide (A < 0)), .string ⟨(bys A.natAbs).toArray⟩, .bool false, .string ⟨#[1]⟩] := by
 unfold encF
 rw [show (bys (1 : Int).natAbs).toArray = #[1] by decide +kernel]
 rfl
structure FrS (w wr : World) (g4 gS n c : Nat) (xs : Array Value) (L : List (List UInt8)) : Prop where
 r : Blk wr w.heap.size 36 #[.bool false, .string ⟨#[]⟩, .bool false, .string ⟨#[]⟩]
 x : Blk wr g4 36 xs
 ow : OwnS wr gS (.slice (some ⟨gS, 0, none⟩) n c) L
 b : Below w.heap.size w wr
 l4 : w.heap.size < g4
 l5 : g4 < gS
theorem FrS.below {w wr w' : World} {g4 gS n c : Nat} {xs : Array Value} {L : List (List UInt8)} (h : FrS w wr g4 gS n c xs L) (hb : Below wr.heap.size wr w') : FrS w w' g4 gS n c xs L :=
 ⟨h.r.below hb h.r.lt, h.x.below hb h.x.lt, h.ow.kept hb, h.b.trans (hb.mono h.b.size), h.l4, h.l5⟩
theorem FrS.alloc {w wr : World} {g4 gS n c : Nat} {xs : Array Value} {L : List (List UInt8)} (h : FrS w wr g4 gS n c xs L) (o : Obj) : FrS w (wr.alloc o) g4 gS n c xs L := h.below (new_below _ _)
theorem FrS.put {w wr : World} {g4 gS n c : Nat} {xs : Array Value} {L : List (List UInt8)} (h : FrS w wr g4 gS n c xs L) (o : Nat) (v : Value) : FrS w (wr.setCell ⟨g4, o, none⟩ v) g4 gS n c (xs.setIfInBounds o v) L :=
 ⟨h.r.far (p := ⟨g4, o, none⟩) (by have := h.l4; show w.heap.size ≠ g4; omega) v, h.x.set_ o v, ownsRow_setCell_below h.ow (by show g4 < gS; exact h.l5) v, h.b.setCell (by have := h.l4; show w.heap.size ≤ g4; omega) v, h.l4, h.l5⟩
theorem FrS.done {w wr : World} {g4 gS n c : Nat} {xs : Array Value} {L : List (List UInt8)} (h : FrS w wr g4 gS n c xs L) (u0 u1 u2 u3 : Value) : Below w.heap.size w ((((wr.setCell ⟨w.heap.size, 0, none⟩ u0).setCell ⟨w.heap.size, 1, none⟩ u1).setCell ⟨w.heap.size, 2, none⟩ u2).setCell ⟨w.heap.size, 3, none⟩ u3) :=
 (((h.b.setCell (Nat.le_refl _) _).setCell (Nat.le_refl _) _).setCell (Nat.le_refl _) _).setCell (Nat.le_refl _) _
set_option maxRecDepth 100000 in
set_option maxHeartbeats 4000000 in
theorem fread_any {w : World} {s : ByteArray} {m : Int} (hs : s.size ≤ 6000) (hm : w.cell? ⟨0, 0, none⟩ = some (.int .i64 m)) :
  Calls Tryz.prog 66 #[.string s] w (FRead w s.data.toList) := by
 have HI := Lib.hid (fun W => fint_zero (w := W))
 have HSP := Lib.hid (fun W (hb : Below w.heap.size w W) => splitw_any (w := W) s 47 m (by omega) ((hb.cell (p := ⟨0, 0, none⟩) (block_lt_of_cell hm)).trans hm))
 have HLen : Hid (∀ p ∈ cutB s.data.toList 47, p.length ≤ 6000) := Lib.hid fun p hp => by
  rw [cutB_parts] at hp
  have h1 := mem_join_len (c := 47) (l := parts 47 s.data.toList) p hp
  rw [join_parts] at h1
  have h2 : s.data.toList.length = s.size := Array.length_toList
  omega
 have HT := Lib.hid text_out
 have HBad := Lib.hid (fun (p : List UInt8) (hp : p ∈ cutB s.data.toList 47) => fr_bad (l := s.data.toList) (p := p) (by rw [← cutB_parts]; exact hp))
 have HOff := Lib.hid (fun (a b : Int) => fr_off (l := s.data.toList) (a := a) (b := b))
 have HIn : Hid (inF s.data.toList = match cutB s.data.toList 47 with | [p] => some (rval p, 1) | p :: q :: _ => some (rval p, rval q) | [] => none) := Lib.hid (by rw [cutB_parts]; rfl)
 have HNe : Hid (cutB s.data.toList 47 ≠ []) := Lib.hid (by rw [cutB_parts]; obtain ⟨q, qs, h⟩ := parts_ne 47 s.data.toList; rw [h]; simp)
 clear hm
 generalize cutB s.data.toList 47 = L at *
 have hbx := Box.new w 36 #[.bool false, .string ⟨#[]⟩, .bool false, .string ⟨#[]⟩]
 go_enter Tryz.func66, Tryz.ntmps66
 go_wp2_with fail
 go_step3
 go_wp2_with (go_at_call 85; (with_reducible refine (HI.out _).mono ?_); rintro _ W1 ⟨rfl, hb1⟩; have hbx1 := hbx.next hb1; have hz1 := hb1.size)
 go_step3
 have hbx2 := hbx1.next (new_below W1 (.cells #[.bool false, .string ⟨#[]⟩, .bool false, .string ⟨#[1]⟩] 36))
 have hx2 := Blk.new W1 36 #[.bool false, .string ⟨#[]⟩, .bool false, .string ⟨#[1]⟩]
 have hw1 := hbx1.1.lt
 go_wp2_with (go_at_call 34; (refine (HSP.out _ hbx2.2).mono ?_); rintro _ W2 ⟨n, rfl, ho2, hb2⟩; have hz2 := hb2.size; rw [World.size_alloc] at ho2 hz2)
 generalize hg4 : W1.heap.size = g4 at *
 have hS2 : FrS w W2 g4 (g4 + 1) n n #[.bool false, .string ⟨#[]⟩, .bool false, .string ⟨#[1]⟩] L :=
  ⟨hbx2.1.below hb2 hbx2.1.lt, hx2.below hb2 hx2.lt, ho2, hbx2.2.trans (hb2.mono hbx2.2.size), hw1, by omega⟩
 have hnL : n = L.length := by
  obtain ⟨A', c', e, _⟩ := ho2.form
  injection e
 have Hst := Lib.hid hS2
 clear hS2 hbx hbx1 hbx2 hx2 ho2 hb1 hb2 hz1 hz2 hw1 HSP HI
 go_loopg [15] 2 (fun k iv wr => ∃ i : Nat, iv = .int .i64 (i : Int) ∧ k = 2 - i ∧ i ≤ 1 ∧ i ≤ n ∧ Hid ((i = 0 ∧ FrS w wr g4 (g4 + 1) n n #[.bool false, .string ⟨#[]⟩, .bool false, .string ⟨#[1]⟩] L) ∨ (i = 1 ∧ ∃ p, L[0]? = some p ∧ Good p ∧ FrS w wr g4 (g4 + 1) n n #[.bool (decide (rval p < 0)), .string ⟨(bys (rval p).natAbs).toArray⟩, .bool false, .string ⟨#[1]⟩] L)))
 case atStart => exact ⟨0, rfl, rfl, by omega, by omega, Lib.hid (.inl ⟨rfl, Hst.out⟩)⟩
 case round =>
  obtain ⟨i, rfl, hk, hi1, hin, hO⟩ := hrel
  subst hk
  have hO' := hO.out
  rcases hO' with ⟨rfl, hS⟩ | ⟨rfl, p, hp, hgp, hS⟩
  ·-- the first piece
   obtain ⟨p, rest, rfl⟩ : ∃ p rest, L = p :: rest := by
    cases L with
    | nil => exact absurd rfl HNe.out
    | cons p rest => exact ⟨p, rest, rfl⟩
   have hn0 : (0 : Int) < (n : Int) := by rw [hnL, List.length_cons]; omega
   have hc := hS.ow.get (i := 0) (by simp)
   simp only [List.getElem_cons_zero] at hc
   have HS0 := Lib.hid hS
   have HnL := Lib.hid hnL
   have HP := Lib.hid (HLen.out p (by simp))
   have Hb := Lib.hid (HBad.out p (by simp))
   clear hS hnL hO hin
   by_cases hg : Good p
   ·have HR := Lib.hid (read_yes HP.out hg)
    have Hg := Lib.hid hg
    clear hg
    go_wp2_with (go_at_call 86; (with_reducible refine (HR.out _).mono ?_); rintro _ W3 ⟨rfl, hb3⟩; have HS3 := Lib.hid ((HS0.out.below hb3).alloc (.cells #[.bool (decide (rval p < 0)), .string ⟨(bys (rval p).natAbs).toArray⟩] 34)); have rb0 := HS3.out.r.cell 0; have rb1 := HS3.out.r.cell 1; have rb2 := HS3.out.r.cell 2; have rb3 := HS3.out.r.cell 3; have rf0 := HS3.out.r.frozen 0; have rf1 := HS3.out.r.frozen 1; have rf2 := HS3.out.r.frozen 2; have rf3 := HS3.out.r.frozen 3; have c0 := HS3.out.x.cell 0; have c1 := HS3.out.x.cell 1; have c2 := HS3.out.x.cell 2; have c3 := HS3.out.x.cell 3; have f0 := HS3.out.x.frozen 0; have f1 := HS3.out.x.frozen 1; have f2 := HS3.out.x.frozen 2; have f3 := HS3.out.x.frozen 3)
    go_roundg 1
    case measure => omega
    case rel => exact ⟨1, rfl, rfl, by omega, by have := HnL.out; rw [List.length_cons] at this; omega, Lib.hid (.inr ⟨rfl, p, rfl, Hg.out, (HS3.out.put 0 _).put 1 _⟩)⟩
   ·have HR := Lib.hid (read_no HP.out hg)
    have Hno := Lib.hid (Hb.out hg)
    clear hg
    go_wp2_with (go_at_call 86; (with_reducible refine (HR.out _).mono ?_); rintro _ W3 ⟨rfl, hb3⟩; have HS3 := Lib.hid ((HS0.out.below hb3).alloc (.cells #[.bool false, .string ⟨#[]⟩] 34)); have rb0 := HS3.out.r.cell 0; have rb1 := HS3.out.r.cell 1; have rb2 := HS3.out.r.cell 2; have rb3 := HS3.out.r.cell 3; have rf0 := HS3.out.r.frozen 0; have rf1 := HS3.out.r.frozen 1; have rf2 := HS3.out.r.frozen 2; have rf3 := HS3.out.r.frozen 3; have c0 := HS3.out.x.cell 0; have c1 := HS3.out.x.cell 1; have c2 := HS3.out.x.cell 2; have c3 := HS3.out.x.cell 3; have f0 := HS3.out.x.frozen 0; have f1 := HS3.out.x.frozen 1; have f2 := HS3.out.x.frozen 2; have f3 := HS3.out.x.frozen 3)
    rw [Exit.noGoto_ret]
    refine bodyPost_ret (v := .tuple #[.agg #[.bool false, .string ⟨#[]⟩, .bool false, .string ⟨#[]⟩], .int .i64 130]) (by simp [results, Tryz.results66, go_sem, rb0, rb1, rb2, rb3]) rfl ?_
    exact ⟨.inr ⟨rfl, Hno.out⟩, HS3.out.done _ _ _ _⟩
  ·-- the second one
   obtain ⟨p', rest, rfl⟩ : ∃ p rest, L = p :: rest := by
    cases L with
    | nil => exact absurd rfl HNe.out
    | cons p rest => exact ⟨p, rest, rfl⟩
   obtain rfl : p' = p := by simpa using hp
   clear hp
   cases rest with
   | nil =>
    have hn0 : ¬ (1 : Int) < (n : Int) := by rw [hnL]; simp
    have HIn2 := Lib.hid (show inF s.data.toList = some (rval p', 1) by rw [HIn.out])
    have HV := Lib.hid (encF_1 (rval p'))
    clear hO hin
    have hV : encF (rval p') (1) = .agg #[.bool (decide ((rval p') < 0)), .string ⟨(bys (rval p').natAbs).toArray⟩, .bool (false), .string ⟨#[1]⟩] := HV.out
    have HS := Lib.hid hS
    have c0 := hS.x.cell 0
    have c1 := hS.x.cell 1
    have c2 := hS.x.cell 2
    have c3 := hS.x.cell 3
    have rb0 := hS.r.cell 0
    have rf0 := hS.r.frozen 0
    have rb1 := hS.r.cell 1
    have rf1 := hS.r.frozen 1
    have rb2 := hS.r.cell 2
    have rf2 := hS.r.frozen 2
    have rb3 := hS.r.cell 3
    have rf3 := hS.r.frozen 3
    by_cases hM : MayZ (rval p') (1)
    ·have HX := Lib.hid (text_yes4 hV hM)
     obtain ⟨tq, hq⟩ : ∃ tq : ByteArray, tq = ⟨(txtF (rval p') (1)).toArray⟩ := ⟨_, rfl⟩
     rw [← hq] at HX
     by_cases he : tq = s
     ·have Hq := Lib.hid (And.intro hM (show s.data.toList = txtF (rval p') (1) by rw [← he, hq]))
      have HV2 := Lib.hid hV
      subst he
      have e5 : (tq.toList == tq.toList) = true := by simp
      have e6 : (tq.toList != tq.toList) = false := by simp
      clear hq hV hM
      go_wp2_with (go_at_call 71; (with_reducible refine (HX.out _).mono ?_); rintro _ W9 ⟨rfl, hb9⟩; have HS9 := Lib.hid (HS.out.below hb9); have d0 := HS9.out.x.cell 0; have d1 := HS9.out.x.cell 1; have d2 := HS9.out.x.cell 2; have d3 := HS9.out.x.cell 3; have rb0 := HS9.out.r.cell 0; have rb1 := HS9.out.r.cell 1; have rb2 := HS9.out.r.cell 2; have rb3 := HS9.out.r.cell 3; have rf0 := HS9.out.r.frozen 0; have rf1 := HS9.out.r.frozen 1; have rf2 := HS9.out.r.frozen 2; have rf3 := HS9.out.r.frozen 3)
      rw [Exit.noGoto_ret]
      refine bodyPost_ret (v := .tuple #[.agg #[.bool (decide ((rval p') < 0)), .string ⟨(bys (rval p').natAbs).toArray⟩, .bool (false), .string ⟨#[1]⟩], .int .i64 0]) (by simp [results, Tryz.results66, go_sem, rb0, rb1, rb2, rb3]) rfl ?_
      exact ⟨.inl ⟨_, _, by rw [HV2.out], Hq.out.1, Hq.out.2⟩, HS9.out.done _ _ _ _⟩
     ·have Hno := Lib.hid (HOff.out _ _ HIn2.out fun h => he (by rw [hq, ← h.2]))
      have e4 : ¬ tq.toList = s.toList := fun h => he (tl_inj h)
      have e5 : (tq.toList == s.toList) = false := by simpa using e4
      have e6 : (tq.toList != s.toList) = true := by simpa using e4
      clear hq hV hM
      go_wp2_with (go_at_call 71; (with_reducible refine (HX.out _).mono ?_); rintro _ W9 ⟨rfl, hb9⟩; have HS9 := Lib.hid (HS.out.below hb9); have rb0 := HS9.out.r.cell 0; have rb1 := HS9.out.r.cell 1; have rb2 := HS9.out.r.cell 2; have rb3 := HS9.out.r.cell 3; have rf0 := HS9.out.r.frozen 0; have rf1 := HS9.out.r.frozen 1; have rf2 := HS9.out.r.frozen 2; have rf3 := HS9.out.r.frozen 3)
      rw [Exit.noGoto_ret]
      refine bodyPost_ret (v := .tuple #[.agg #[.bool false, .string ⟨#[]⟩, .bool false, .string ⟨#[]⟩], .int .i64 130]) (by simp [results, Tryz.results66, go_sem, rb0, rb1, rb2, rb3]) rfl ?_
      exact ⟨.inr ⟨rfl, Hno.out⟩, HS9.out.done _ _ _ _⟩
    ·have HX := Lib.hid (text_no4 hV hM)
     have Hno := Lib.hid (HOff.out _ _ HIn2.out fun h => hM h.1)
     clear hV hM
     go_wp2_with (go_at_call 71; (with_reducible refine (HX.out _).mono ?_); rintro _ W9 ⟨rfl, hb9⟩; have HS9 := Lib.hid (HS.out.below hb9); have rb0 := HS9.out.r.cell 0; have rb1 := HS9.out.r.cell 1; have rb2 := HS9.out.r.cell 2; have rb3 := HS9.out.r.cell 3; have rf0 := HS9.out.r.frozen 0; have rf1 := HS9.out.r.frozen 1; have rf2 := HS9.out.r.frozen 2; have rf3 := HS9.out.r.frozen 3)
     rw [Exit.noGoto_ret]
     refine bodyPost_ret (v := .tuple #[.agg #[.bool false, .string ⟨#[]⟩, .bool false, .string ⟨#[]⟩], .int .i64 130]) (by simp [results, Tryz.results66, go_sem, rb0, rb1, rb2, rb3]) rfl ?_
     exact ⟨.inr ⟨rfl, Hno.out⟩, HS9.out.done _ _ _ _⟩
   | cons q rest =>
    have hn0 : (1 : Int) < (n : Int) := by rw [hnL]; simp; omega
    have hc := hS.ow.get (i := 1) (by simp)
    simp only [List.getElem_cons_succ, List.getElem_cons_zero] at hc
    have HS0 := Lib.hid hS
    have HIn2 := Lib.hid (show inF s.data.toList = some (rval p', rval q) by rw [HIn.out])
    have HP := Lib.hid (HLen.out q (by simp))
    have Hb := Lib.hid (HBad.out q (by simp))
    have HV := Lib.hid (show encF (rval p') (rval q) = .agg #[.bool (decide (rval p' < 0)), .string ⟨(bys (rval p').natAbs).toArray⟩, .bool (decide (rval q < 0)), .string ⟨(bys (rval q).natAbs).toArray⟩] from rfl)
    clear hS hnL hO hin
    by_cases hg : Good q
    ·have HR := Lib.hid (read_yes HP.out hg)
     clear hg
     have hV : encF (rval p') (rval q) = .agg #[.bool (decide ((rval p') < 0)), .string ⟨(bys (rval p').natAbs).toArray⟩, .bool (decide (rval q < 0)), .string ⟨(bys (rval q).natAbs).toArray⟩] := HV.out
     by_cases hM : MayZ (rval p') (rval q)
     ·have HX := Lib.hid (text_yes4 hV hM)
      obtain ⟨tq, hq⟩ : ∃ tq : ByteArray, tq = ⟨(txtF (rval p') (rval q)).toArray⟩ := ⟨_, rfl⟩
      rw [← hq] at HX
      by_cases he : tq = s
      ·have Hq := Lib.hid (And.intro hM (show s.data.toList = txtF (rval p') (rval q) by rw [← he, hq]))
       have HV2 := Lib.hid hV
       subst he
       have e5 : (tq.toList == tq.toList) = true := by simp
       have e6 : (tq.toList != tq.toList) = false := by simp
       clear hq hV hM
       go_wp2_with (first | (go_at_call 86; (with_reducible refine (HR.out _).mono ?_); rintro _ W3 ⟨rfl, hb3⟩; have HS3 := Lib.hid ((HS0.out.below hb3).alloc (.cells #[.bool (decide (rval q < 0)), .string ⟨(bys (rval q).natAbs).toArray⟩] 34)); have rb0 := HS3.out.r.cell 0; have rb1 := HS3.out.r.cell 1; have rb2 := HS3.out.r.cell 2; have rb3 := HS3.out.r.cell 3; have rf0 := HS3.out.r.frozen 0; have rf1 := HS3.out.r.frozen 1; have rf2 := HS3.out.r.frozen 2; have rf3 := HS3.out.r.frozen 3; have c0 := HS3.out.x.cell 0; have c1 := HS3.out.x.cell 1; have c2 := HS3.out.x.cell 2; have c3 := HS3.out.x.cell 3; have f0 := HS3.out.x.frozen 0; have f1 := HS3.out.x.frozen 1; have f2 := HS3.out.x.frozen 2; have f3 := HS3.out.x.frozen 3) | (go_at_call 71; (with_reducible refine (HX.out _).mono ?_); rintro _ W9 ⟨rfl, hb9⟩; have HS := Lib.hid ((HS3.out.put 2 (.bool (decide (rval q < 0)))).put 3 (.string ⟨(bys (rval q).natAbs).toArray⟩)); have HS9 := Lib.hid (HS.out.below hb9); have d0 := HS9.out.x.cell 0; have d1 := HS9.out.x.cell 1; have d2 := HS9.out.x.cell 2; have d3 := HS9.out.x.cell 3; have rb0 := HS9.out.r.cell 0; have rb1 := HS9.out.r.cell 1; have rb2 := HS9.out.r.cell 2; have rb3 := HS9.out.r.cell 3; have rf0 := HS9.out.r.frozen 0; have rf1 := HS9.out.r.frozen 1; have rf2 := HS9.out.r.frozen 2; have rf3 := HS9.out.r.frozen 3))
       rw [Exit.noGoto_ret]
       refine bodyPost_ret (v := .tuple #[.agg #[.bool (decide ((rval p') < 0)), .string ⟨(bys (rval p').natAbs).toArray⟩, .bool (decide (rval q < 0)), .string ⟨(bys (rval q).natAbs).toArray⟩], .int .i64 0]) (by simp [results, Tryz.results66, go_sem, rb0, rb1, rb2, rb3]) rfl ?_
       exact ⟨.inl ⟨_, _, by rw [HV2.out], Hq.out.1, Hq.out.2⟩, HS9.out.done _ _ _ _⟩
      ·have Hno := Lib.hid (HOff.out _ _ HIn2.out fun h => he (by rw [hq, ← h.2]))
       have e4 : ¬ tq.toList = s.toList := fun h => he (tl_inj h)
       have e5 : (tq.toList == s.toList) = false := by simpa using e4
       have e6 : (tq.toList != s.toList) = true := by simpa using e4
       clear hq hV hM
       go_wp2_with (first | (go_at_call 86; (with_reducible refine (HR.out _).mono ?_); rintro _ W3 ⟨rfl, hb3⟩; have HS3 := Lib.hid ((HS0.out.below hb3).alloc (.cells #[.bool (decide (rval q < 0)), .string ⟨(bys (rval q).natAbs).toArray⟩] 34)); have rb0 := HS3.out.r.cell 0; have rb1 := HS3.out.r.cell 1; have rb2 := HS3.out.r.cell 2; have rb3 := HS3.out.r.cell 3; have rf0 := HS3.out.r.frozen 0; have rf1 := HS3.out.r.frozen 1; have rf2 := HS3.out.r.frozen 2; have rf3 := HS3.out.r.frozen 3; have c0 := HS3.out.x.cell 0; have c1 := HS3.out.x.cell 1; have c2 := HS3.out.x.cell 2; have c3 := HS3.out.x.cell 3; have f0 := HS3.out.x.frozen 0; have f1 := HS3.out.x.frozen 1; have f2 := HS3.out.x.frozen 2; have f3 := HS3.out.x.frozen 3) | (go_at_call 71; (with_reducible refine (HX.out _).mono ?_); rintro _ W9 ⟨rfl, hb9⟩; have HS := Lib.hid ((HS3.out.put 2 (.bool (decide (rval q < 0)))).put 3 (.string ⟨(bys (rval q).natAbs).toArray⟩)); have HS9 := Lib.hid (HS.out.below hb9); have rb0 := HS9.out.r.cell 0; have rb1 := HS9.out.r.cell 1; have rb2 := HS9.out.r.cell 2; have rb3 := HS9.out.r.cell 3; have rf0 := HS9.out.r.frozen 0; have rf1 := HS9.out.r.frozen 1; have rf2 := HS9.out.r.frozen 2; have rf3 := HS9.out.r.frozen 3))
       rw [Exit.noGoto_ret]
       refine bodyPost_ret (v := .tuple #[.agg #[.bool false, .string ⟨#[]⟩, .bool false, .string ⟨#[]⟩], .int .i64 130]) (by simp [results, Tryz.results66, go_sem, rb0, rb1, rb2, rb3]) rfl ?_
       exact ⟨.inr ⟨rfl, Hno.out⟩, HS9.out.done _ _ _ _⟩
     ·have HX := Lib.hid (text_no4 hV hM)
      have Hno := Lib.hid (HOff.out _ _ HIn2.out fun h => hM h.1)
      clear hV hM
      go_wp2_with (first | (go_at_call 86; (with_reducible refine (HR.out _).mono ?_); rintro _ W3 ⟨rfl, hb3⟩; have HS3 := Lib.hid ((HS0.out.below hb3).alloc (.cells #[.bool (decide (rval q < 0)), .string ⟨(bys (rval q).natAbs).toArray⟩] 34)); have rb0 := HS3.out.r.cell 0; have rb1 := HS3.out.r.cell 1; have rb2 := HS3.out.r.cell 2; have rb3 := HS3.out.r.cell 3; have rf0 := HS3.out.r.frozen 0; have rf1 := HS3.out.r.frozen 1; have rf2 := HS3.out.r.frozen 2; have rf3 := HS3.out.r.frozen 3; have c0 := HS3.out.x.cell 0; have c1 := HS3.out.x.cell 1; have c2 := HS3.out.x.cell 2; have c3 := HS3.out.x.cell 3; have f0 := HS3.out.x.frozen 0; have f1 := HS3.out.x.frozen 1; have f2 := HS3.out.x.frozen 2; have f3 := HS3.out.x.frozen 3) | (go_at_call 71; (with_reducible refine (HX.out _).mono ?_); rintro _ W9 ⟨rfl, hb9⟩; have HS := Lib.hid ((HS3.out.put 2 (.bool (decide (rval q < 0)))).put 3 (.string ⟨(bys (rval q).natAbs).toArray⟩)); have HS9 := Lib.hid (HS.out.below hb9); have rb0 := HS9.out.r.cell 0; have rb1 := HS9.out.r.cell 1; have rb2 := HS9.out.r.cell 2; have rb3 := HS9.out.r.cell 3; have rf0 := HS9.out.r.frozen 0; have rf1 := HS9.out.r.frozen 1; have rf2 := HS9.out.r.frozen 2; have rf3 := HS9.out.r.frozen 3))
      rw [Exit.noGoto_ret]
      refine bodyPost_ret (v := .tuple #[.agg #[.bool false, .string ⟨#[]⟩, .bool false, .string ⟨#[]⟩], .int .i64 130]) (by simp [results, Tryz.results66, go_sem, rb0, rb1, rb2, rb3]) rfl ?_
      exact ⟨.inr ⟨rfl, Hno.out⟩, HS9.out.done _ _ _ _⟩
    ·have HR := Lib.hid (read_no HP.out hg)
     have Hno := Lib.hid (Hb.out hg)
     clear hg
     go_wp2_with (go_at_call 86; (with_reducible refine (HR.out _).mono ?_); rintro _ W3 ⟨rfl, hb3⟩; have HS3 := Lib.hid ((HS0.out.below hb3).alloc (.cells #[.bool false, .string ⟨#[]⟩] 34)); have rb0 := HS3.out.r.cell 0; have rb1 := HS3.out.r.cell 1; have rb2 := HS3.out.r.cell 2; have rb3 := HS3.out.r.cell 3; have rf0 := HS3.out.r.frozen 0; have rf1 := HS3.out.r.frozen 1; have rf2 := HS3.out.r.frozen 2; have rf3 := HS3.out.r.frozen 3; have c0 := HS3.out.x.cell 0; have c1 := HS3.out.x.cell 1; have c2 := HS3.out.x.cell 2; have c3 := HS3.out.x.cell 3; have f0 := HS3.out.x.frozen 0; have f1 := HS3.out.x.frozen 1; have f2 := HS3.out.x.frozen 2; have f3 := HS3.out.x.frozen 3)
     rw [Exit.noGoto_ret]
     refine bodyPost_ret (v := .tuple #[.agg #[.bool false, .string ⟨#[]⟩, .bool false, .string ⟨#[]⟩], .int .i64 130]) (by simp [results, Tryz.results66, go_sem, rb0, rb1, rb2, rb3]) rfl ?_
     exact ⟨.inr ⟨rfl, Hno.out⟩, HS3.out.done _ _ _ _⟩
end Go.Proofs.YtebpggfccljagaaGreatDoor
namespace Go.Proofs.YtebpggfccljagaaGreatDoor
open Go.RowKit
open Wh
set_option linter.unusedSimpArgs false
theorem ReadsW.call {w w' : World} {A : Option Addr} {l : List Nat} (h : ReadsW w w.heap.size A l) (hb : Below w.heap.size w w') : ReadsW w' w'.heap.size A l := (h.below hb).more hb.size
end Go.Proofs.YtebpggfccljagaaGreatDoor
