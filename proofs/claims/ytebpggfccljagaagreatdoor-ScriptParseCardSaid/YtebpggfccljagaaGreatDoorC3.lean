import Derived.Test.YtebpggfccljagaaGreatDoorC2
import Derived.Test.YtebpggfccljagaaGreatDoorC1
import Derived.Lib.ConvBytes
import Derived.BigQuiet
import Derived.Deep.DeepCutAuto
import Derived.Deep.RegionHeld3
namespace Go.Proofs.YtebpggfccljagaaGreatDoor
open Go.RowKit
open Wh
set_option linter.unusedSimpArgs false
theorem ReadsB.at_ {w : World} {B : Nat} {A : Option Addr} {l : List UInt8} (h : ReadsB w B A l) {k : Nat} (hk : k < l.length) : ∃ ad, A = some ad ∧ ad.block < B ∧ w.cell? (ad.add k) = some (.int .u8 ((l[k].toNat : Nat) : Int)) := by
 obtain ⟨ad, u, e, hb, hu, hc⟩ := Reads.at_ h hk
 refine ⟨ad, e, hb, ?_⟩
 rw [hc]
 rw [List.getElem?_map, List.getElem?_eq_getElem hk] at hu
 exact hu.symm
theorem pow256 (s : Nat) : (256 : Nat) ^ s = 2 ^ (s * 8) := by rw [show (256 : Nat) = 2 ^ 8 by decide, ← Nat.pow_mul, Nat.mul_comm]
theorem or_byte {x b s : Nat} (hs : s < 4) (hx : x < 256 ^ s) (hb : b < 256) : bits .or .u32 (x : Int) (IntKind.u32.wrap ((b : Int) * 2 ^ (s * 8))) = ((x + b * 256 ^ s : Nat) : Int) ∧ x + b * 256 ^ s < 4294967296 := by
 have h1 : (256 : Nat) ^ s ≤ 256 ^ 3 := Nat.pow_le_pow_right (by decide) (by omega)
 have h2 : (b + 1) * 256 ^ s ≤ 256 * 256 ^ s := Nat.mul_le_mul_right _ hb
 rw [Nat.add_mul, Nat.one_mul] at h2
 have h3 : b * 256 ^ s + 256 ^ s ≤ 4294967296 := by omega
 have e1 : ((b : Int) * 2 ^ (s * 8)) = ((b * 256 ^ s : Nat) : Int) := by rw [pow256, Int.natCast_mul, Int.natCast_pow]; rfl
 refine ⟨?_, by omega⟩
 rw [e1, show IntKind.u32.wrap ((b * 256 ^ s : Nat) : Int) = ((b * 256 ^ s : Nat) : Int) by rw [IntKind.wrap_u32]; omega, u32_or_nat _ _ (by omega) (by omega), Nat.or_comm]
 rw [pow256] at hx ⊢
 have := Nat.two_pow_add_eq_or_of_lt hx b
 rw [Nat.mul_comm] at this
 rw [← this, Nat.add_comm]
theorem bval_drop {l : List UInt8} {k : Nat} (h : k < l.length) : bval (l.drop k) = l[k].toNat * 256 ^ (l.length - (k + 1)) + bval (l.drop (k + 1)) := by
 rw [List.drop_eq_getElem_cons h, bval_cons, List.length_drop]
set_option maxRecDepth 100000 in
set_option maxHeartbeats 4000000 in
theorem setbytes_any {w : World} {g B n c : Nat} {A : Option Addr} {l : List UInt8} (hz : IntS w g) (hr : ReadsB w B A l) (hB : B ≤ w.heap.size) (hn : n = l.length) (hnl : n ≤ 1000000000) :
  Calls Tryz.prog 149 #[.pointer (some ⟨g, 0, none⟩), .slice A n c] w (Puts w g ((bval l : Nat) : Int)) := by
 have Hn := Lib.hid hn
 have hmk : ∀ w : World, (Instr.makeSlice 149 (.int .i64 (((n : Int) + 3) / 4)) (.int .i64 (((n : Int) + 3) / 4))).run Tryz.prog w = .ok (.slice (some ⟨w.heap.size, 0, none⟩) ((n + 3) / 4) ((n + 3) / 4)) (w.alloc (.cells (wcells (List.replicate ((n + 3) / 4) 0)) 163)) := fun w => by
  have := run_makeW ((n + 3) / 4) (by omega) w
  rw [← this, show (((n + 3) / 4 : Nat) : Int) = ((n : Int) + 3) / 4 by omega]
 have hgl := hz.lt
 clear hn
 go_enter Tryz.func149, Tryz.ntmps149
 go_wp2
 go_loopg [15] n (fun k iv wr => ∃ (i : Nat) (L : List Nat), iv = .int .i64 (i : Int) ∧ k = n - i ∧ i ≤ n ∧ Blk wr w.heap.size 163 (wcells L) ∧ Below w.heap.size w wr ∧
  Hid (L.length = (n + 3) / 4 ∧ Wd L ∧ val L = bval (l.drop (n - i))))
 case atStart => exact ⟨0, List.replicate ((n + 3) / 4) 0, rfl, by omega, by omega, Blk.new _ _ _, (Below.refl _ _).alloc (Nat.le_refl _) _, by simp, wd_zeros _, by rw [val_zeros, List.drop_of_length_le (by rw [← Hn.out]; omega)]; rfl⟩
 case round =>
  obtain ⟨i, L, rfl, hk, hi, hblk, hbel, hL⟩ := hrel
  have Hk := Lib.hid hk
  clear hk
  by_cases hin : i < n
  ·obtain ⟨j, hj⟩ : ∃ j, n = i + 1 + j := ⟨n - (i + 1), by omega⟩
   have hjl : j < l.length := by rw [← Hn.out]; omega
   have hr' := hr.below (hbel.mono hB)
   obtain ⟨ad, rfl, hb1, c1⟩ := ReadsB.at_ hr' hjl
   have hiL : i / 4 < L.length := by have := hL.out.1; omega
   have hout : wr.cell? ⟨w.heap.size, i / 4, none⟩ = some (.int .u32 ((L[i / 4] : Nat) : Int)) := by rw [hblk.cell, wcells_get, List.getElem?_eq_getElem hiL]; rfl
   have hfz := hblk.frozen (i / 4)
   have hvl : val L < 256 ^ i := by
    rw [hL.out.2.2]
    have := bval_lt (l.drop (n - i))
    rw [List.length_drop, ← Hn.out, show n - (n - i) = i by omega] at this
    exact this
   have hws := word_small hvl hiL
   have hbt := UInt8.toNat_lt l[j]
   have hor := or_byte (Nat.mod_lt i (by decide)) hws hbt
   have hbs := byte_step (b := l[j].toNat) hiL
   have hbd : bval (l.drop j) = l[j].toNat * 256 ^ i + bval (l.drop (j + 1)) := by
    rw [bval_drop hjl, ← Hn.out, show n - (j + 1) = i by omega]
   obtain ⟨T, hT⟩ : ∃ T, T = L[i / 4] + l[j].toNat * 256 ^ (i % 4) := ⟨_, rfl⟩
   rw [← hT] at hor hbs
   have Hbs := Lib.hid (And.intro hbs hbd)
   have wx := wd_get hL.out.2.1 _ hiL
   obtain ⟨hor1, hor2⟩ := hor
   have hT2 : T ≤ 4294967295 := by omega
   generalize hx : L[i / 4] = x at *
   generalize hy : l[j].toNat = y at *
   have Hj := Lib.hid hj
   clear hx hy hws hvl hbs hbd hT hor2 hr' hr hj
   have hii : (i : Int) < (n : Int) := by omega
   obtain ⟨S, hS⟩ : ∃ S, S = i % 4 * 8 := ⟨_, rfl⟩
   rw [← hS] at hor1
   have q1 : IntKind.i64.wrap ((i : Int) / 4) = (i : Int) / 4 := IntWalk.i64_in _ (by omega)
   have q2 : (0 : Int) ≤ (i : Int) / 4 := by omega
   have q3 : (i : Int) / 4 < ((n : Int) + 3) / 4 := by omega
   have q4 : ((i : Int) / 4).toNat = i / 4 := by omega
   have q5 : IntKind.i64.wrap ((i : Int).tmod 4 * 8) = (S : Int) := by
    rw [show (i : Int).tmod 4 = ((i % 4 : Nat) : Int) from rfl, IntWalk.i64_in _ (by omega)]
    omega
   have hS31 : S ≤ 24 := by omega
   clear hS
   have q6 : IntKind.u32.wrap (y : Int) = (y : Int) := by rw [IntKind.wrap_u32]; omega
   have q7 : (j : Int) < (n : Int) := by have := Hj.out; omega
   go_wp2_with fail
   rw [show (n : Int) - 1 - (i : Int) = (j : Int) by have := Hj.out; omega]
   refine wp_region_noPanic ?_
   refine wp_region_HK (fun w' => w'.cell? ⟨w.heap.size, i / 4, none⟩ = some (.int .u32 (x : Int)) ∧ w'.cell? (ad.add j) = some (.int .u8 (y : Int))) 16 (by kernel_rfl) ⟨hout, c1⟩ (fun hHeld => ?_)
   refine wpHK_take (i := 0) (oi := Oper.mk (some 23) _ _ _ _ _) (v := ?_) rfl (by kernel_rfl) (by kernel_rfl) (by kernel_rfl) (by kernel_rfl) (fun _ _ _ h => h) (Or.inl ⟨by rfl, ?_⟩) (by assumption) ?_
   rotate_left
   ·(intro w' hSw; (try dsimp only at hSw); (obtain ⟨s1, s2⟩ := hSw); go_simp; try with_reducible rfl)
   try simp only [Act.put, List.setIfInBounds_toArray, List.set_cons_zero, List.set_cons_succ]
   refine wpHK_take (i := 1) (oi := Oper.mk (some 24) _ _ _ _ _) (v := ?_) rfl (by kernel_rfl) (by kernel_rfl) (by kernel_rfl) (by kernel_rfl) (fun _ _ _ h => h) (Or.inl ⟨by rfl, ?_⟩) (by assumption) ?_
   rotate_left
   ·(intro w' hSw; (try dsimp only at hSw); (obtain ⟨s1, s2⟩ := hSw); go_simp; try with_reducible rfl)
   try simp only [Act.put, List.setIfInBounds_toArray, List.set_cons_zero, List.set_cons_succ]
   refine wpHK_take (i := 2) (oi := Oper.mk (some 25) _ _ _ _ _) (v := ?_) rfl (by kernel_rfl) (by kernel_rfl) (by kernel_rfl) (by kernel_rfl) (fun _ _ _ h => h) (Or.inl ⟨by rfl, ?_⟩) (by assumption) ?_
   rotate_left
   ·(intro w' hSw; (try dsimp only at hSw); (obtain ⟨s1, s2⟩ := hSw); go_simp; try with_reducible rfl)
   try simp only [Act.put, List.setIfInBounds_toArray, List.set_cons_zero, List.set_cons_succ]
   refine wpHK_take (i := 3) (oi := Oper.mk (some 26) _ _ _ _ _) (v := ?_) rfl (by kernel_rfl) (by kernel_rfl) (by kernel_rfl) (by kernel_rfl) (fun _ _ _ h => h) (Or.inl ⟨by rfl, ?_⟩) (by assumption) ?_
   rotate_left
   ·(intro w' hSw; (try dsimp only at hSw); (obtain ⟨s1, s2⟩ := hSw); go_simp; try with_reducible rfl)
   try simp only [Act.put, List.setIfInBounds_toArray, List.set_cons_zero, List.set_cons_succ]
   refine wpHK_take (i := 4) (oi := Oper.mk (some 27) _ _ _ _ _) (v := ?_) rfl (by kernel_rfl) (by kernel_rfl) (by kernel_rfl) (by kernel_rfl) (fun _ _ _ h => h) (Or.inl ⟨by rfl, ?_⟩) (by assumption) ?_
   rotate_left
   ·(intro w' hSw; (try dsimp only at hSw); (obtain ⟨s1, s2⟩ := hSw); go_simp; try with_reducible rfl)
   try simp only [Act.put, List.setIfInBounds_toArray, List.set_cons_zero, List.set_cons_succ]
   refine wpHK_take (i := 5) (oi := Oper.mk (some 28) _ _ _ _ _) (v := ?_) rfl (by kernel_rfl) (by kernel_rfl) (by kernel_rfl) (by kernel_rfl) (fun _ _ _ h => h) (Or.inl ⟨by rfl, ?_⟩) (by assumption) ?_
   rotate_left
   ·(intro w' hSw; (try dsimp only at hSw); (obtain ⟨s1, s2⟩ := hSw); go_simp; try with_reducible rfl)
   try simp only [Act.put, List.setIfInBounds_toArray, List.set_cons_zero, List.set_cons_succ]
   refine wpHK_take (i := 6) (oi := Oper.mk (some 29) _ _ _ _ _) (v := ?_) rfl (by kernel_rfl) (by kernel_rfl) (by kernel_rfl) (by kernel_rfl) (fun _ _ _ h => h) (Or.inl ⟨by rfl, ?_⟩) (by assumption) ?_
   rotate_left
   ·(intro w' hSw; (try dsimp only at hSw); (obtain ⟨s1, s2⟩ := hSw); go_simp; try with_reducible rfl)
   try simp only [Act.put, List.setIfInBounds_toArray, List.set_cons_zero, List.set_cons_succ]
   refine wpHK_take (i := 7) (oi := Oper.mk (some 30) _ _ _ _ _) (v := ?_) rfl (by kernel_rfl) (by kernel_rfl) (by kernel_rfl) (by kernel_rfl) (fun _ _ _ h => h) (Or.inl ⟨by rfl, ?_⟩) (by assumption) ?_
   rotate_left
   ·(intro w' hSw; (try dsimp only at hSw); (obtain ⟨s1, s2⟩ := hSw); go_simp; try with_reducible rfl)
   try simp only [Act.put, List.setIfInBounds_toArray, List.set_cons_zero, List.set_cons_succ]
   refine wpHK_take (i := 8) (oi := Oper.mk (some 31) _ _ _ _ _) (v := ?_) rfl (by kernel_rfl) (by kernel_rfl) (by kernel_rfl) (by kernel_rfl) (fun _ _ _ h => h) (Or.inl ⟨by rfl, ?_⟩) (by assumption) ?_
   rotate_left
   ·(intro w' hSw; (try dsimp only at hSw); (obtain ⟨s1, s2⟩ := hSw); go_simp; try with_reducible rfl)
   try simp only [Act.put, List.setIfInBounds_toArray, List.set_cons_zero, List.set_cons_succ]
   refine wpHK_take (i := 9) (oi := Oper.mk (some 32) _ _ _ _ _) (v := ?_) rfl (by kernel_rfl) (by kernel_rfl) (by kernel_rfl) (by kernel_rfl) (fun _ _ _ h => h) (Or.inl ⟨by rfl, ?_⟩) (by assumption) ?_
   rotate_left
   ·(intro w' hSw; (try dsimp only at hSw); (obtain ⟨s1, s2⟩ := hSw); go_simp; try with_reducible rfl)
   try simp only [Act.put, List.setIfInBounds_toArray, List.set_cons_zero, List.set_cons_succ]
   refine wpHK_take (i := 10) (oi := Oper.mk (some 33) _ _ _ _ _) (v := ?_) rfl (by kernel_rfl) (by kernel_rfl) (by kernel_rfl) (by kernel_rfl) (fun _ _ _ h => h) (Or.inl ⟨by rfl, ?_⟩) (by assumption) ?_
   rotate_left
   ·(intro w' hSw; (try dsimp only at hSw); (obtain ⟨s1, s2⟩ := hSw); go_simp; try with_reducible rfl)
   try simp only [Act.put, List.setIfInBounds_toArray, List.set_cons_zero, List.set_cons_succ]
   refine wpHK_take (i := 11) (oi := Oper.mk (some 34) _ _ _ _ _) (v := ?_) rfl (by kernel_rfl) (by kernel_rfl) (by kernel_rfl) (by kernel_rfl) (fun _ _ _ h => h) (Or.inl ⟨by rfl, ?_⟩) (by assumption) ?_
   rotate_left
   ·(intro w' hSw; (try dsimp only at hSw); (obtain ⟨s1, s2⟩ := hSw); go_simp; try with_reducible rfl)
   try simp only [Act.put, List.setIfInBounds_toArray, List.set_cons_zero, List.set_cons_succ]
   refine wpHK_take (i := 12) (oi := Oper.mk (some 35) _ _ _ _ _) (v := ?_) rfl (by kernel_rfl) (by kernel_rfl) (by kernel_rfl) (by kernel_rfl) (fun _ _ _ h => h) (Or.inl ⟨by rfl, ?_⟩) (by assumption) ?_
   rotate_left
   ·(intro w' hSw; (try dsimp only at hSw); (obtain ⟨s1, s2⟩ := hSw); go_simp; try with_reducible rfl)
   try simp only [Act.put, List.setIfInBounds_toArray, List.set_cons_zero, List.set_cons_succ]
   refine wpHK_take (i := 13) (oi := Oper.mk (some 36) _ _ _ _ _) (v := ?_) rfl (by kernel_rfl) (by kernel_rfl) (by kernel_rfl) (by kernel_rfl) (fun _ _ _ h => h) (Or.inl ⟨by rfl, ?_⟩) (by assumption) ?_
   rotate_left
   ·(intro w' hSw; (try dsimp only at hSw); (obtain ⟨s1, s2⟩ := hSw); go_simp; try with_reducible rfl)
   try simp only [Act.put, List.setIfInBounds_toArray, List.set_cons_zero, List.set_cons_succ]
   refine wpHK_take (i := 14) (oi := Oper.mk (some 37) _ _ _ _ _) (v := ?_) rfl (by kernel_rfl) (by kernel_rfl) (by kernel_rfl) (by kernel_rfl) (fun _ _ _ h => h) (Or.inl ⟨by rfl, ?_⟩) (by assumption) ?_
   rotate_left
   ·(intro w' hSw; (try dsimp only at hSw); (obtain ⟨s1, s2⟩ := hSw); go_simp; try with_reducible rfl)
   try simp only [Act.put, List.setIfInBounds_toArray, List.set_cons_zero, List.set_cons_succ]
   refine wpHK_take (i := 15) (oi := Oper.mk (some 38) _ _ _ _ _) (v := ?_) rfl (by kernel_rfl) (by kernel_rfl) (by kernel_rfl) (by kernel_rfl) (fun _ _ _ h => h) (Or.inl ⟨by rfl, ?_⟩) (by assumption) ?_
   rotate_left
   ·(intro w' hSw; (try dsimp only at hSw); (obtain ⟨s1, s2⟩ := hSw); go_simp; try with_reducible rfl)
   try simp only [Act.put, List.setIfInBounds_toArray, List.set_cons_zero, List.set_cons_succ]
   refine wpHK_tail (j := 16) (o := Oper.mk (none) _ _ _ _ _) rfl (by kernel_rfl) (by decide) (fun K hK => ?_)
   go_simp
   refine hK.out _ _ ?_
   clear hK K
   try simp only [Act.put, List.setIfInBounds_toArray, List.set_cons_zero, List.set_cons_succ]
   refine wpHK_done (by kernel_rfl) ?_ _
   refine NoPanic.normal ?_
   clear q1 q2 q3 q4 q5 q6 q7
   go_wp2_with fail
   go_roundg (n - (i + 1))
   case measure => have := Hk.out; omega
   case rel =>
    refine ⟨i + 1, L.set (i / 4) T, rfl, rfl, by omega, ?_, ?_, ?_⟩
    ·have := hblk.set_ (i / 4) (.int .u32 (T : Int))
     rw [wcells_set] at this
     exact this
    ·exact (hbel.setCell (by show w.heap.size ≤ w.heap.size; omega) _).drew
    ·refine ⟨by rw [List.length_set]; exact hL.out.1, wd_set hL.out.2.1 _ _ (by omega), ?_⟩
     have h5 := Hbs.out.1
     rw [hL.out.2.2, show n - i = j + 1 by have := Hj.out; omega] at h5
     rw [show n - (i + 1) = j by have := Hj.out; omega, Hbs.out.2, h5, Nat.mul_comm, Nat.add_comm]
  ·have hi' : i = n := by omega
   have hii : (n : Int) ≤ (i : Int) := by omega
   have hLl := hL.out.1
   have hv := hL.out.2.2
   rw [show n - i = 0 by omega, List.drop_zero] at hv
   have HI := Lib.hid (is_any false (hz.below hbel) (reads_blk hblk hblk.lt) (Nat.le_refl _) hLl.symm (Nat.le_refl _) (by omega) hL.out.2.1)
   have Hv := Lib.hid hv
   clear hi' hLl hv hr
   go_wp2_with fail
   refine HI.out.mono ?_
   rintro e w6 ⟨rfl, hi6, hg6⟩
   rw [Hv.out] at hi6
   go_wp2_with fail
   go_ret
   exact ⟨rfl, hi6, grown_lift hbel hg6⟩
theorem byte_word {m i : Nat} : m / 256 ^ i % 256 = at_ (wds m) (i / 4) / 256 ^ (i % 4) % 256 := by
 rcases Nat.lt_or_ge (i / 4) (wds m).length with h | h
 ·have e := div_words (wd_w m) (n := 8 * i) (by omega)
  rw [val_w, show 8 * i / 32 = i / 4 by omega, show 8 * i % 32 = 8 * (i % 4) by omega] at e
  rw [show (256 : Nat) = 2 ^ 8 by decide, ← Nat.pow_mul, ← Nat.pow_mul, e, val_drop h, ← at_get h]
  generalize val ((wds m).drop (i / 4 + 1)) = r
  generalize at_ (wds m) (i / 4) = u
  have hs : i % 4 < 4 := Nat.mod_lt _ (by decide)
  obtain ⟨z, hz⟩ : ∃ z, 8 * (i % 4) + (z + 8) = 32 := ⟨24 - 8 * (i % 4), by omega⟩
  have hp : 2 ^ (8 * (i % 4)) * (2 ^ z * 2 ^ 8) = 4294967296 := by rw [← Nat.pow_add 2 z, ← Nat.pow_add, hz]
  rw [← hp, Nat.mul_assoc, Nat.add_mul_div_left _ _ (Nat.two_pow_pos _)]
  rw [show 2 ^ z * 2 ^ 8 * r = 2 ^ 8 * (2 ^ z * r) by ac_rfl, Nat.add_mul_mod_self_left]
 ·rw [at_end h, Nat.zero_div]
  have h1 : m < 256 ^ i := by
   have h2 := lt_of_len (n := m) (k := i / 4) h
   rw [show (4294967296 : Nat) = 256 ^ 4 by decide, ← Nat.pow_mul] at h2
   exact Nat.lt_of_lt_of_le h2 (Nat.pow_le_pow_right (by decide) (by omega))
  rw [Nat.div_eq_of_lt h1]
def bcells (l : List UInt8) : Array Value := (l.map bv).toArray
theorem bcells_get (l : List UInt8) (i : Nat) : (bcells l)[i]? = l[i]?.map bv := by unfold bcells; rw [List.getElem?_toArray, List.getElem?_map]
theorem bcells_set (l : List UInt8) (i : Nat) (x : UInt8) : (bcells l).setIfInBounds i (.int .u8 (x.toNat : Int)) = bcells (l.set i x) := by
 unfold bcells
 rw [List.setIfInBounds_toArray, List.map_set]
 rfl
theorem madeB (n : Nat) : madeCells (Value.cells (.int .u8 0)) (n * 1) = bcells (List.replicate n 0) := by
 unfold bcells
 rw [List.map_replicate, Nat.mul_one]
 have h : (madeCells (Value.cells (.int .u8 0)) n).toList = List.replicate n (bv 0) := by
  unfold madeCells
  rw [Array.toList_map, Array.toList_range]
  refine List.eq_replicate_iff.2 ⟨by simp, fun b hb => ?_⟩
  simp only [List.mem_map] at hb
  obtain ⟨i, _, rfl⟩ := hb
  have e : i % (Value.int .u8 0).cells.size = 0 := Nat.mod_one i
  rw [e]
  rfl
 rw [← h]
theorem run_makeB (n : Nat) (hn : n ≤ 70368744177664) (w : World) :
  (Instr.makeSlice 97 (.int .i64 (n : Int)) (.int .i64 (n : Int))).run Tryz.prog w = .ok (.slice (some ⟨w.heap.size, 0, none⟩) n n) (w.alloc (.cells (bcells (List.replicate n 0)) 5)) := by
 obtain ⟨i0, hi, hz0, hz1, hz2⟩ := info_parts infoB
 have h := run_make_rowN (P := Tryz.prog) 97 5 i0 (.int .u8 0) Tryz.underlying97 hi hz0 .i64 .i64 n n (Nat.le_refl _) (by rw [hz2]; omega) (by omega) w
 rw [hz1, madeB] at h
 exact h
theorem readsb_blk {w : World} {g B : Nat} {l : List UInt8} (h : Blk w g 5 (bcells l)) (hB : g < B) : ReadsB w B (some ⟨g, 0, none⟩) l := by
 refine ⟨by simp, fun _ => ⟨_, rfl, hB, fun j u hu => ?_⟩⟩
 have := h.cell j
 rw [bcells_get] at this
 rw [List.getElem?_map] at hu
 rw [hu] at this
 rw [← this]
 unfold Addr.add
 split
 ·rename_i h0; subst h0; rfl
 ·simp
theorem bytes_len (m : Nat) : m < 256 ^ ((bl m + 7) / 8) ∧ (0 < m → 256 ^ ((bl m + 7) / 8 - 1) ≤ m ∧ 0 < (bl m + 7) / 8) := by
 constructor
 ·have h := lt_bl m
  rw [show (256 : Nat) = 2 ^ 8 by decide, ← Nat.pow_mul]
  exact Nat.lt_of_lt_of_le h (Nat.pow_le_pow_right (by decide) (by omega))
 ·intro hm
  have h := bl_le hm
  have h0 : 0 < bl m := by
   rcases Nat.eq_zero_or_pos (bl m) with h0 | h0
   ·have := lt_bl m; rw [h0] at this; omega
   ·exact h0
  refine ⟨?_, by omega⟩
  rw [show (256 : Nat) = 2 ^ 8 by decide, ← Nat.pow_mul]
  exact Nat.le_trans (Nat.pow_le_pow_right (by decide) (by omega)) h
theorem bys_of {L : List UInt8} {m : Nat} (hl : L.length = (bl m + 7) / 8) (hv : bval L = m) : bys m = L := by
 have hf : Formed L := by
  intro x hx h0
  cases L with
  | nil => cases hx
  | cons y r =>
   have hy : y = x := by simpa using hx
   subst hy
   rw [bval_cons, h0] at hv
   have h1 := bval_lt r
   have hm : 0 < m := by
    rcases Nat.eq_zero_or_pos m with h | h
    ·subst h; rw [bl_zero] at hl; simp at hl
    ·exact h
   have h2 := ((bytes_len m).2 hm).1
   rw [← hl, List.length_cons, Nat.add_sub_cancel] at h2
   simp at hv
   omega
 rw [← hv]
 exact bys_bval _ L rfl hf
def BytesW (w : World) (l : List UInt8) (e : Ending) (w' : World) : Prop := ∃ A n, e = .returned (.slice A n n) ∧ Hid (n = l.length) ∧ ReadsB w' w'.heap.size A l ∧ Below w.heap.size w w'
set_option maxRecDepth 100000 in
set_option maxHeartbeats 4000000 in
theorem bytes_any {w : World} {gx m : Nat} (z : Int) (hm : z.natAbs = m) (hx : IntB w gx z) (hxl : (wds m).length ≤ 100000000) :
  Calls Tryz.prog 123 #[.pointer (some ⟨gx, 0, none⟩)] w (BytesW w (bys m)) := by
 have HB := Lib.hid (bitlen_any hx (by rw [hm]; omega))
 rw [hm] at HB
 unfold Bitted at HB
 obtain ⟨b, hb⟩ : ∃ b, b = bl m := ⟨_, rfl⟩
 rw [← hb] at HB
 have hbl : b ≤ 3200000000 := by rw [hb]; have := bl_len m; omega
 obtain ⟨n, hn⟩ : ∃ n, n = (b + 7) / 8 := ⟨_, rfl⟩
 have hnl : n ≤ 400000001 := by omega
 have hmk : ∀ w : World, (Instr.makeSlice 97 (.int .i64 (((b : Int) + 7) / 8)) (.int .i64 (((b : Int) + 7) / 8))).run Tryz.prog w = .ok (.slice (some ⟨w.heap.size, 0, none⟩) n n) (w.alloc (.cells (bcells (List.replicate n 0)) 5)) := fun w => by
  have := run_makeB n (by omega) w
  rw [← this, show ((n : Nat) : Int) = ((b : Int) + 7) / 8 by omega]
 have Hn := Lib.hid (And.intro hn hb)
 have Hx := Lib.hid (And.intro hx hm)
 have hgl := hx.lt
 clear hx hm hb hn
 go_enter Tryz.func123, Tryz.ntmps123
 go_wp2_with fail
 refine HB.out.mono ?_
 rintro e w1 ⟨q, rfl, rfl⟩
 go_wp2_with fail
 rw [show ((b : Int) + 7) / 8 = (n : Int) by have := Hn.out.1; omega]
 clear hmk
 go_loopg [14] n (fun k iv wr => ∃ (i : Nat) (L : List UInt8), iv = .int .i64 (i : Int) ∧ k = n - i ∧ i ≤ n ∧ Blk wr w.heap.size 5 (bcells L) ∧ Below w.heap.size w wr ∧
  Hid (L.length = n ∧ bval (L.drop (n - i)) = m % 256 ^ i))
 case atStart => exact ⟨0, List.replicate n 0, rfl, by omega, by omega, Blk.new _ _ _, (below_drewN (Below.refl _ _) q).alloc (Nat.le_refl _) _, by simp, by rw [List.drop_of_length_le (by simp), Nat.pow_zero, Nat.mod_one]; rfl⟩
 case round =>
  obtain ⟨i, L, rfl, hk, hi, hblk, hbel, hL⟩ := hrel
  have Hk := Lib.hid hk
  clear hk
  by_cases hin : i < n
  ·have hxr := Hx.out.1.below hbel
   obtain ⟨sx, Ax, nx, cx, _, x1, Hxx, _, _, rx⟩ := hxr.opened
   rw [Hx.out.2] at rx
   have hnx := Hxx.out.2
   rw [Hx.out.2] at hnx
   have hi4 : i / 4 < (wds m).length := by
    rcases Nat.lt_or_ge (i / 4) (wds m).length with h | h
    ·exact h
    ·exfalso
     have h2 := bl_len m
     have h3 := Hn.out.1
     have h4 := Hn.out.2
     omega
   obtain ⟨ad, rfl, hb1, c1⟩ := rx.at_ hi4
   rw [← at_get] at c1
   have hbw := byte_word (m := m) (i := i)
   have hu := at_lt (wd_w m) (i / 4)
   have hni : (i : Int) / 4 < (nx : Int) := by omega
   have hjL : n - 1 - i < L.length := by have := hL.out.1; omega
   have hout : wr.cell? ⟨w.heap.size, n - 1 - i, none⟩ = some (.int .u8 ((L[n - 1 - i].toNat : Nat) : Int)) := by rw [hblk.cell, bcells_get, List.getElem?_eq_getElem hjL]; rfl
   have hfz := hblk.frozen (n - 1 - i)
   obtain ⟨S, hS⟩ : ∃ S, S = i % 4 * 8 := ⟨_, rfl⟩
   have hS31 : S ≤ 24 := by omega
   generalize at_ (wds m) (i / 4) = u at *
   generalize L[n - 1 - i].toNat = y0 at *
   have hii : (i : Int) < (n : Int) := by omega
   have Hbw := Lib.hid (And.intro hbw (And.intro hS hnx))
   clear hbw hnx hi4 rx hxr hjL
   clear hS
   go_wp2_with fail
   obtain ⟨X, hX⟩ : ∃ X : UInt8, X = UInt8.ofNat (m / 256 ^ i % 256) := ⟨_, rfl⟩
   have hXn : X.toNat = m / 256 ^ i % 256 := by rw [hX, byte_nat]
   have hval : (u : Int) / 2 ^ (i % 4 * 8) % 256 = (X.toNat : Int) := by
    rw [hXn, Hbw.out.1, pow256, Int.natCast_emod, Int.natCast_ediv, Int.natCast_pow]; rfl
   rw [hval]
   go_roundg (n - (i + 1))
   case measure => have := Hk.out; omega
   case rel =>
    refine ⟨i + 1, L.set (n - 1 - i) X, rfl, rfl, by omega, ?_, hbel.setCell (by show w.heap.size ≤ w.heap.size; omega) _, by rw [List.length_set]; exact hL.out.1, ?_⟩
    ·have := hblk.set_ (n - 1 - i) (.int .u8 (X.toNat : Int))
     rwa [bcells_set] at this
    ·have hjl : n - (i + 1) < (L.set (n - 1 - i) X).length := by rw [List.length_set, hL.out.1]; omega
     rw [bval_drop hjl, List.length_set, hL.out.1]
     have e1 : (L.set (n - 1 - i) X)[n - (i + 1)] = X := by
      simp only [show n - (i + 1) = n - 1 - i by omega, List.getElem_set_self]
     rw [e1, show n - (i + 1) + 1 = n - i by omega, List.drop_set_of_lt (by omega), hL.out.2, Nat.mod_pow_succ, hXn, show n - (n - i) = i by omega]
     rw [Nat.mul_comm, Nat.add_comm]
  ·have hi' : i = n := by omega
   have hii : (n : Int) ≤ (i : Int) := by omega
   have hv := hL.out.2
   rw [show n - i = 0 by omega, List.drop_zero, hi', Nat.mod_eq_of_lt (by rw [Hn.out.1, Hn.out.2]; exact (bytes_len m).1)] at hv
   have hb := bys_of (L := L) (m := m) (by rw [hL.out.1, Hn.out.1, Hn.out.2]) hv
   have Hb := Lib.hid hb
   clear hv hb hi'
   go_wp2_with fail
   go_ret
   exact ⟨_, n, rfl, by rw [Hb.out]; exact hL.out.1.symm, by rw [Hb.out]; exact readsb_blk hblk hblk.lt, hbel⟩
end Go.Proofs.YtebpggfccljagaaGreatDoor
namespace Go.Proofs.YtebpggfccljagaaGreatDoor
namespace Wh
def dig (n : Nat) : UInt8 := UInt8.ofNat (48 + n % 10)
theorem dig_nat (n : Nat) : (dig n).toNat = 48 + n % 10 := by unfold dig; rw [UInt8.toNat_ofNat']; omega
def dl (m : Nat) : Nat → List UInt8
 | 0 => []
 | L + 1 => dig m :: dl (m / 10) L
theorem dl_len : ∀ (L m : Nat), (dl m L).length = L
 | 0, _ => rfl
 | L + 1, m => by rw [dl, List.length_cons, dl_len L]
theorem dl_snoc : ∀ (L m : Nat), dl m (L + 1) = dl m L ++ [dig (m / 10 ^ L)]
 | 0, m => by rw [Nat.pow_zero, Nat.div_one]; rfl
 | L + 1, m => by
  rw [dl, dl_snoc L (m / 10), dl, Nat.div_div_eq_div_mul, Nat.pow_succ, Nat.mul_comm 10]
  rfl
def dec (n : Nat) : List UInt8 := if _h : n = 0 then [] else dec (n / 10) ++ [dig n]
theorem dec_zero : dec 0 = [] := by rw [dec]; simp
theorem dec_pos {n : Nat} (h : 0 < n) : dec n = dec (n / 10) ++ [dig n] := by rw [dec, dif_neg (by omega)]
theorem dl_dec : ∀ (L m : Nat), m / 10 ^ L = 0 → (L = 0 ∨ 0 < m / 10 ^ (L - 1)) → (dl m L).reverse = dec m
 | 0, m, h, _ => by
  rw [Nat.pow_zero, Nat.div_one] at h
  subst h
  rw [dec_zero]; rfl
 | L + 1, m, h, h2 => by
  have h3 : 0 < m / 10 ^ L := by
   rcases h2 with h2 | h2
   ·cases h2
   ·exact h2
  have hm : 0 < m := by
   rcases Nat.eq_zero_or_pos m with h0 | h0
   ·subst h0; simp at h3
   ·exact h0
  rw [dl, List.reverse_cons, dec_pos hm, dl_dec L (m / 10)]
  ·rw [Nat.div_div_eq_div_mul, Nat.mul_comm, ← Nat.pow_succ]; exact h
  ·rcases Nat.eq_zero_or_pos L with h0 | h0
   ·exact .inl h0
   ·refine .inr ?_
    rw [Nat.div_div_eq_div_mul, Nat.mul_comm, ← Nat.pow_succ, Nat.succ_eq_add_one, Nat.sub_add_cancel h0]
    exact h3
theorem dec_len : ∀ (k n : Nat), n < 10 ^ k → (dec n).length ≤ k
 | 0, n, h => by
  rw [Nat.pow_zero] at h
  have : n = 0 := by omega
  subst this
  rw [dec_zero]; exact Nat.le_refl _
 | k + 1, n, h => by
  rcases Nat.eq_zero_or_pos n with h0 | h0
  ·subst h0; rw [dec_zero]; simp
  ·rw [dec_pos h0, List.length_append]
   have := dec_len k (n / 10) ((Nat.div_lt_iff_lt_mul (by decide)).2 (by rw [← Nat.pow_succ]; exact h))
   simp only [List.length_cons, List.length_nil]
   omega
def Turned (D E : List UInt8) (i : Nat) : Prop := E.length = D.length ∧ ∀ t, t < D.length → E[t]? = if t < i ∨ D.length ≤ t + i then D[D.length - 1 - t]? else D[t]?
theorem turned_start (D : List UInt8) : Turned D D 0 := ⟨rfl, fun t ht => by rw [if_neg (by omega)]⟩
theorem turned_step {D E : List UInt8} {i k : Nat} (h : Turned D E i) (hk : i + k + 1 = D.length) (hik : i < k) (x y : UInt8) (hx : E[i]? = some x) (hy : E[k]? = some y) : Turned D ((E.set i y).set k x) (i + 1) := by
 obtain ⟨h1, h2⟩ := h
 refine ⟨by rw [List.length_set, List.length_set, h1], fun t ht => ?_⟩
 have ei := h2 i (by omega)
 have ek := h2 k (by omega)
 rw [if_neg (by omega)] at ei ek
 by_cases htk : t = k
 ·subst htk
  rw [List.getElem?_set_self (by rw [List.length_set]; omega), if_pos (by omega), show D.length - 1 - t = i by omega, ← ei, hx]
 ·rw [List.getElem?_set_ne (Ne.symm htk)]
  by_cases hti : t = i
  ·subst hti
   rw [List.getElem?_set_self (by omega), if_pos (by omega), show D.length - 1 - t = k by omega, ← ek, hy]
  ·rw [List.getElem?_set_ne (Ne.symm hti), h2 t ht]
   by_cases hc : t < i ∨ D.length ≤ t + i
   ·rw [if_pos hc, if_pos (by omega)]
   ·rw [if_neg hc, if_neg (by omega)]
theorem turned_end {D E : List UInt8} {i : Nat} (h : Turned D E i) (hi : D.length ≤ 2 * i + 1) : E = D.reverse := by
 obtain ⟨h1, h2⟩ := h
 apply List.ext_getElem?
 intro t
 rcases Nat.lt_or_ge t D.length with ht | ht
 ·rw [h2 t ht, List.getElem?_reverse ht]
  by_cases hc : t < i ∨ D.length ≤ t + i
  ·rw [if_pos hc]
  ·rw [if_neg hc]
   congr 1
   omega
 ·rw [List.getElem?_eq_none (by omega), List.getElem?_eq_none (by rw [List.length_reverse]; omega)]
end Wh
end Go.Proofs.YtebpggfccljagaaGreatDoor
namespace Go.Proofs.YtebpggfccljagaaGreatDoor
open Go.RowKit
open Wh
set_option linter.unusedSimpArgs false
def Away (w : World) (v : Value) (A : Option Addr) (l : List Nat) : Prop := ReadsW w w.heap.size A l ∧ (0 < l.length → ∀ ad, A = some ad → v.ownBlock ≠ some ad.block)
theorem wpB_push {w : World} {ops : Array Oper} {rest : List Oper} {o : Oper} {a : Act} {Q : Exit → Act → World → Prop} (hgd : o.guard = none) (s x : Operand)
  (ho : o.op = .call { callee := .builtin .append, args := #[s, x], argTypes := #[97, 97] }) (B : Nat) (v : Value) (l : List UInt8) (hown : OwnB w B v l) (hs : a.eval s = v)
  {X : Int} {y : UInt8} (hX : X = (y.toNat : Int)) (hx : a.eval x = .slice (some ⟨w.heap.size, 0, none⟩) 1 1) (hlen : l.length ≤ 140737488355327) (hbase : B ≤ w.heap.size)
  (h : ∀ A' n' c' w', OwnB w' B (.slice A' n' c') (l ++ [y]) → (∀ w0, Below B w0 w → Below B w0 w') → (∀ A2 l2, Away w v A2 l2 → Away w' (.slice A' n' c') A2 l2) → wpList Tryz.prog ops Q rest (a.put o.dst (.slice A' n' c')) w') :
  wpList Tryz.prog ops Q (o :: rest) a (w.alloc (.cells #[.int .u8 X] 5)) := by
 obtain ⟨i0, hi, hz0, hz1, hz2⟩ := info_parts infoB
 subst hX
 have hr : ReadsB (w.alloc (.cells #[.int .u8 (y.toNat : Int)] 5)) (w.heap.size + 1) (some ⟨w.heap.size, 0, none⟩) [y] :=
  readsb_blk (w := w.alloc (.cells #[.int .u8 (y.toNat : Int)] 5)) (l := [y]) (Blk.new w 5 (bcells [y])) (by omega)
 refine wpList_append_any _ hgd s x 97 ho B 5 i0 (.int .u8 0) 1 1 Tryz.underlying97 hi hz0 hz1 hz2 rfl (by decide) v l.length (l.map bv) hs (hown.alloc _) _ _ 1 1 ([y].map bv) hx hr (bv_one _) (by unfold maxLen; omega) (by omega) (by simp; omega) ?_
 intro v' w' h1 h2 h3
 have h4 : OwnB w' B v' (l ++ [y]) := by
  unfold OwnB
  rw [List.length_append, List.map_append]
  exact h1
 have hlt : ∀ k, v.ownBlock = some k → B ≤ k ∧ k < w.heap.size := fun k hk => World.ownsRow.lt hown k hk
 obtain ⟨A', c', rfl, _⟩ := h4.form
 have hsz := h2.size
 simp only [World.size_alloc] at hsz
 refine h A' _ c' w' h4 (fun w0 hb => (hb.alloc hbase _).grown h2 (by simp; omega) (fun k hk => (hlt k hk).1)) (fun A2 l2 haw => ?_)
 obtain ⟨hr2, hne⟩ := haw
 have key : 0 < l2.length → ∃ ad, A2 = some ad ∧ ad.block < w.heap.size ∧ v.ownBlock ≠ some ad.block := fun hl => by
  obtain ⟨ad, _, _, e, hb, _⟩ := hr2.addr hl
  exact ⟨ad, e, hb, hne hl ad e⟩
 refine ⟨(hr2.same (w' := w') fun i hi hw => ?_).more (by omega), fun hl ad e => ?_⟩
 ·refine (h2.block i (by simp; omega) fun hh => ?_).trans (Below.heap_alloc w _ i hi)
  obtain ⟨cs, fz, hh2⟩ := hw
  rcases hown.2 with ⟨rfl, _⟩ | ⟨g, cap, cur, rfl, _, hh3, _⟩
  ·cases hh
  ·injection hh with hh
   simp only at hh
   subst hh
   rw [hh2] at hh3
   injection hh3 with hh3
   injection hh3 with _ h6
   exact absurd h6 (by decide)
 ·obtain ⟨ad', e', hb, hne'⟩ := key hl
  rw [e] at e'
  injection e' with e'
  subst e'
  rcases h3 with h3 | h3
  ·rw [h3]; exact hne'
  ·rw [h3]
   intro hh
   injection hh with hh
   simp at hh
   omega
theorem push_len {w : World} {B n c : Nat} {A : Option Addr} {l : List UInt8} {y : UInt8} (h : OwnB w B (.slice A n c) (l ++ [y])) (hl : l.length ≤ 1000000001) : n ≤ 1000000002 ∧ 0 < n := by
 have := h.len
 rw [List.length_append] at this
 simp only [List.length_cons, List.length_nil] at this
 omega
theorem dl_bound {m L : Nat} (h : 0 < m / 10 ^ L) : L ≤ 10 * (wds m).length := by
 rcases Nat.lt_or_ge (10 * (wds m).length) L with h1 | h1
 ·exfalso
  have h2 := lt_of_len (Nat.le_refl (wds m).length)
  have h3 : (4294967296 : Nat) ^ (wds m).length ≤ (10 ^ 10) ^ (wds m).length := Nat.pow_le_pow_left (by decide) _
  rw [← Nat.pow_mul] at h3
  have h4 : (10 : Nat) ^ (10 * (wds m).length) ≤ 10 ^ L := Nat.pow_le_pow_right (by decide) (by omega)
  rw [Nat.div_eq_of_lt (by omega)] at h
  omega
 ·exact h1
def BMid (w : World) (g : Nat) (E : List UInt8) (S : List Value) : Prop := Blk w g 5 ((E.map bv ++ S).toArray)
theorem own_blk {w : World} {B n c : Nat} {A : Option Addr} {l : List UInt8} (h : OwnB w B (.slice A n c) l) (hl : 0 < l.length) : ∃ g S, A = some ⟨g, 0, none⟩ ∧ n = l.length ∧ B ≤ g ∧ BMid w g l S ∧ n ≤ c := by
 rcases h.2 with ⟨_, h0⟩ | ⟨g, cap, cur, hv, hb, hh, hc, hm, hs, ht⟩
 ·omega
 ·injection hv with e1 e2 e3
  subst e1 e2 e3
  refine ⟨g, cur.toList.drop l.length, rfl, rfl, hb, ?_, hc⟩
  unfold BMid
  rw [Nat.mul_one] at ht
  rw [← ht, List.take_append_drop]
  exact hh
section
variable {w : World} {g t : Nat} {E : List UInt8} {S : List Value}
theorem BMid.cell (h : BMid w g E S) (ht : t < E.length) : w.cell? ⟨g, t, none⟩ = some (.int .u8 ((E[t].toNat : Nat) : Int)) := by
 rw [Blk.cell h, List.getElem?_toArray, List.getElem?_append_left (by rw [List.length_map]; exact ht), List.getElem?_map, List.getElem?_eq_getElem ht]
 rfl
theorem BMid.set_ (h : BMid w g E S) (ht : t < E.length) (y : UInt8) : BMid (w.setCell ⟨g, t, none⟩ (.int .u8 (y.toNat : Int))) g (E.set t y) S := by
 have := Blk.set_ h t (.int .u8 (y.toNat : Int))
 unfold BMid
 rw [List.map_set, ← List.set_append_left (h := by rw [List.length_map]; exact ht), ← List.setIfInBounds_toArray]
 exact this
theorem BMid.reads (h : BMid w g E S) : ReadsB w w.heap.size (some ⟨g, 0, none⟩) E := by
 refine ⟨by simp, fun _ => ⟨_, rfl, Blk.lt h, fun j u hu => ?_⟩⟩
 have hj : j < E.length := by
  rcases Nat.lt_or_ge j E.length with h1 | h1
  ·exact h1
  ·rw [List.getElem?_map, List.getElem?_eq_none h1] at hu; cases hu
 have e : (⟨g, 0, none⟩ : Addr).add j = ⟨g, j, none⟩ := by rw [Addr.add_lit, Nat.zero_add]
 rw [e, h.cell hj, ← hu, List.getElem?_map, List.getElem?_eq_getElem hj]
 rfl
end
def txt (x : Int) : List UInt8 := if x = 0 then [48] else (if x < 0 then [45] else []) ++ dec x.natAbs
def Texted (w : World) (t : List UInt8) (e : Ending) (w' : World) : Prop := e = .returned (.string ⟨t.toArray⟩) ∧ Below w.heap.size w w'
theorem digit_down {v r m L j : Nat} (h : v * 10 ^ (j + 1) + r = m / 10 ^ L) : v * 10 ^ j + r / 10 = m / 10 ^ (L + 1) ∧ m / 10 ^ L % 10 = r % 10 := by
 rw [Nat.pow_succ 10 L, ← Nat.div_div_eq_div_mul, ← h, Nat.pow_succ]
 rw [show v * (10 ^ j * 10) = 10 * (v * 10 ^ j) by ac_rfl]
 generalize v * 10 ^ j = q
 omega
set_option maxRecDepth 100000 in
set_option maxHeartbeats 8000000 in
theorem string_any {w : World} {gx : Nat} {x : Int} (hx : IntB w gx x) (hxl : (wds x.natAbs).length ≤ 100000000) :
  Calls Tryz.prog 121 #[.pointer (some ⟨gx, 0, none⟩)] w (Texted w (txt x)) := by
 obtain ⟨sx, Ax, nx, cx, x0, x1, Hx, hxc, hxcl, rx⟩ := hx.opened
 by_cases h0 : x = 0
 ·have hn : nx = 0 := by have := Hx.out.2; rw [h0] at this; simpa [wds_zero] using this
  have Ht := Lib.hid (show txt x = [48] by unfold txt; rw [if_pos h0])
  subst hn
  clear h0 rx hx hxl Hx
  go_enter Tryz.func121, Tryz.ntmps121
  go_wp2
  go_ret
  rw [Ht.out]
  exact ⟨rfl, Below.refl _ _⟩
 ·have hn : 0 < nx := by have := Hx.out.2; rw [this]; exact len_pos.2 h0
  have hni : ((nx : Int) == 0) = false := by simp; omega
  obtain ⟨m, hm⟩ : ∃ m, m = x.natAbs := ⟨_, rfl⟩
  have hmp : 0 < m := by omega
  have Ht := Lib.hid (show txt x = (if sx = true then [45] else []) ++ dec m by
   unfold txt
   rw [if_neg h0, hm, Hx.out.1]
   by_cases h1 : x < 0
   ·simp [h1]
   ·simp [h1])
  have hnx := Hx.out.2
  rw [← hm] at rx hnx hxl
  have Hr := Lib.hid (And.intro rx (And.intro hnx (And.intro hxl (And.intro hx hmp))))
  have hgl := hx.lt
  clear h0 rx hx hxl hm hnx hmp
  go_enter Tryz.func121, Tryz.ntmps121
  go_wp2_with fail
  go_loopg [3, 4] m (fun k bq lq wr => ∃ (A' A : Option Addr) (n' c' n c L : Nat), bq = .slice A' n' c' ∧ lq = .slice A n c ∧ OwnB wr w.heap.size (.slice A' n' c') (dl m L) ∧ SlW wr wr.heap.size A n c k ∧ Below w.heap.size w wr ∧ Hid (k = m / 10 ^ L ∧ (L = 0 ∨ 0 < m / 10 ^ (L - 1))))
  case atStart => exact ⟨none, Ax, 0, 0, nx, cx, 0, rfl, rfl, OwnB.nil _ _, ⟨Hr.out.2.1, hxc, hxcl, Hr.out.1⟩, Below.refl _ _, by rw [Nat.pow_zero, Nat.div_one], .inl rfl⟩
  case round =>
   obtain ⟨A', A, n', c', n, c, L, rfl, rfl, hown, ⟨hnl, hnc, hcl, rl⟩, hbel, hL⟩ := hrel
   by_cases hk0 : 0 < gk
   ·have hnp : 0 < n := by
     have := hnl.out
     rw [wds_pos hk0] at this
     simp at this
     omega
    have hnpi : (0 : Int) < (n : Int) := by omega
    have hkl : (wds gk).length ≤ 100000000 := Nat.le_trans (len_mono (by rw [hL.out.1]; exact Nat.div_le_self _ _)) Hr.out.2.2.1
    have hS := short_any (d := 1000000000) (c := c) rl (Nat.le_refl _) hnl.out (by have := hnl.out; omega) (wd_w gk) (by decide) (by decide)
    rw [val_w] at hS
    obtain ⟨r0, hr0⟩ : ∃ r, r = gk % 1000000000 := ⟨_, rfl⟩
    obtain ⟨v, hv⟩ : ∃ v, v = gk / 1000000000 := ⟨_, rfl⟩
    rw [← hr0, ← hv] at hS
    have hr0l : r0 ≤ 999999999 := by omega
    have HS := Lib.hid hS
    have Hv := Lib.hid (And.intro hk0 (And.intro hr0 hv))
    clear hS hr0 hv hkl hk0 rl
    go_wp2_with fail
    refine HS.out.mono ?_
    rintro e w5 ⟨A5, m5, c5, rfl, hm5, hc5, hcn5, hr5, hb5, hnew5⟩
    have haw5 : Away w5 (.slice A' n' c') A5 (wds v) := ⟨hr5, fun _ ad e hh => by have h6 := hnew5 ad e; have h7 := (World.ownsRow.lt hown _ hh).2; omega⟩
    have Hm5 := Lib.hid hm5
    have hown5 := hown.kept (hb5)
    have hbel5 := hbel.trans (hb5.mono hbel.size)
    clear hm5
    obtain ⟨w6, rfl⟩ : ∃ w6, w6 = w5 := ⟨_, rfl⟩
    go_wp2_with fail
    have hst : v * 10 ^ 9 + r0 = m / 10 ^ L := by rw [← hL.out.1, Hv.out.2.1, Hv.out.2.2]; omega
    have Hst := Lib.hid hst
    clear hst
    go_loopg [3, 5, 6] 9 (fun k bq rq kq wi => ∃ (A' : Option Addr) (n' c' L r j : Nat), bq = .slice A' n' c' ∧ rq = .int .u32 (r : Int) ∧ kq = .int .i64 (j : Int) ∧ j + k = 9 ∧ r ≤ 999999999 ∧ OwnB wi w.heap.size (.slice A' n' c') (dl m L) ∧ Away wi (.slice A' n' c') A5 (wds v) ∧ Below w.heap.size w wi ∧
     Hid (v * 10 ^ k + r = m / 10 ^ L ∧ r < 10 ^ k ∧ (L = 0 ∨ 0 < m / 10 ^ (L - 1))))
    case atStart => exact ⟨A', n', c', L, r0, 0, rfl, rfl, rfl, rfl, hr0l, hown5, haw5, hbel5, Hst.out, by omega, hL.out.2⟩
    case round =>
     obtain ⟨A2, n2, c2, L2, r, j, rfl, rfl, rfl, hjk, hrl, hown2, hr2, hbel2, hL2⟩ := hrel
     have Hjk := Lib.hid hjk
     clear hown hown5 hr5 haw5 hnew5
     have hexit : r = 0 → (gk = 0 ∨ v = 0) → v = m / 10 ^ L2 := fun h1 h2 => by
      have h3 := hL2.out.1
      rw [h1, Nat.add_zero] at h3
      rcases h2 with h2 | h2
      ·rw [h2, Nat.pow_zero, Nat.mul_one] at h3; exact h3
      ·rw [h2, Nat.zero_mul] at h3; omega
     have Hexit := Lib.hid hexit
     clear hexit
     by_cases hj9 : j < 9
     ·have hji : (j : Int) < 9 := by omega
      obtain ⟨k1, rfl⟩ : ∃ k1, gk = k1 + 1 := ⟨gk - 1, by omega⟩
      clear hjk
      by_cases hgo : r = 0 ∧ v = 0
      ·obtain ⟨h1, h2⟩ := hgo
       have hm0 : m5 = 0 := by have := Hm5.out; rw [h2, wds_zero] at this; exact this
       subst hm0
       subst h1
       have Hve := Lib.hid (And.intro h2 (Hexit.out rfl (.inr h2)))
       clear h2
       go_wp2_with fail
       go_roundg v
       case measure => have h5 := Hv.out; omega
       case rel => exact ⟨A2, A5, n2, c2, _, c5, L2, rfl, rfl, hown2, ⟨Hm5.out, hc5, by have := hcn5; omega, hr2.1⟩, hbel2, Hve.out.2, hL2.out.2.2⟩
      ·have hR : 0 < v * 10 ^ (k1 + 1) + r := by
        rcases Nat.eq_zero_or_pos r with h | h
        ·have hv : 0 < v := by omega
         have : 0 < v * 10 ^ (k1 + 1) := Nat.mul_pos hv (Nat.pow_pos (by decide))
         omega
        ·omega
       rw [hL2.out.1] at hR
       have hLb := dl_bound hR
       have hdd := digit_down hL2.out.1
       have hsn := dl_snoc L2 m
       have hdig : (dig (m / 10 ^ L2)).toNat = 48 + r % 10 := by rw [dig_nat, hdd.2]
       have hLl : (dl m L2).length ≤ 1000000000 := by rw [dl_len]; have := Hr.out.2.2.1; omega
       have hr10 : r / 10 < 10 ^ k1 := by
        have h5 := hL2.out.2.1
        rw [Nat.pow_succ] at h5
        exact (Nat.div_lt_iff_lt_mul (by decide)).2 h5
       have Hd := Lib.hid (And.intro hR (And.intro hdd (And.intro hsn (And.intro hr10 hdig))))
       have hgle : w.heap.size ≤ wr.heap.size := hbel2.size
       have hpsh : (48 : Int) + (r : Int) % 10 = ((dig (m / 10 ^ L2)).toNat : Int) := by rw [Hd.out.2.2.2.2]; omega
       have Hpsh := Lib.hid hpsh
       clear hR hdd hsn hr10 hpsh hLb hdig
       by_cases hr0 : 0 < r
       ·have hri : (0 : Int) < (r : Int) := by omega
        clear hgo
        go_wp2_with (at_builtin; refine wpB_push rfl (.tmp 40) (.tmp 45) rfl w.heap.size _ (dl m L2) hown2 rfl (y := dig (m / 10 ^ L2)) Hpsh.out rfl (by omega) hgle ?_; intro A3 n3 c3 w3 ho3 hkeep haw3; have Hk3 := Lib.hid (And.intro ho3 (And.intro (hkeep w hbel2) (haw3 _ _ hr2))); clear ho3 hkeep haw3)
        go_roundg k1
        case measure => omega
        case rel =>
         refine ⟨A3, n3, c3, L2 + 1, r / 10, j + 1, rfl, by rw [Int.natCast_ediv]; rfl, rfl, by have := Hjk.out; omega, by omega, by rw [dl_snoc]; exact Hk3.out.1, Hk3.out.2.2, Hk3.out.2.1, Hd.out.2.1.1, Hd.out.2.2.2.1, .inr ?_⟩
         rw [Nat.add_sub_cancel]
         exact Hd.out.1
       ·have hr00 : r = 0 := by omega
        have hv0 : 0 < v := by omega
        have hm50 : 0 < m5 := by
         have := Hm5.out
         rw [wds_pos hv0] at this
         simp at this
         omega
        have hm5i : (0 : Int) < (m5 : Int) := by omega
        have Hp0 := Lib.hid (show (48 : Int) = ((dig (m / 10 ^ L2)).toNat : Int) by rw [Hd.out.2.2.2.2, hr00]; rfl)
        subst hr00
        clear hgo hr0
        go_wp2_with (at_builtin; refine wpB_push rfl (.tmp 40) (.tmp 45) rfl w.heap.size _ (dl m L2) hown2 rfl (y := dig (m / 10 ^ L2)) Hp0.out rfl (by omega) hgle ?_; intro A3 n3 c3 w3 ho3 hkeep haw3; have Hk3 := Lib.hid (And.intro ho3 (And.intro (hkeep w hbel2) (haw3 _ _ hr2))); clear ho3 hkeep haw3)
        go_roundg k1
        case measure => omega
        case rel =>
         refine ⟨A3, n3, c3, L2 + 1, 0, j + 1, rfl, rfl, rfl, by have := Hjk.out; omega, by omega, by rw [dl_snoc]; exact Hk3.out.1, Hk3.out.2.2, Hk3.out.2.1, Hd.out.2.1.1, Hd.out.2.2.2.1, .inr ?_⟩
         rw [Nat.add_sub_cancel]
         exact Hd.out.1
     ·have hj : j = 9 := by omega
      have hk0 : gk = 0 := by omega
      subst hk0
      have hr0 : r = 0 := by have := hL2.out.2.1; rw [Nat.pow_zero] at this; omega
      have Hve := Lib.hid (Hexit.out hr0 (.inl rfl))
      subst hj
      subst hr0
      go_wp2_with fail
      go_roundg v
      case measure => have h5 := Hv.out; omega
      case rel => exact ⟨A2, A5, n2, c2, _, c5, L2, rfl, rfl, hown2, ⟨Hm5.out, hc5, by have := hcn5; omega, hr2.1⟩, hbel2, Hve.out, hL2.out.2.2⟩
   ·have hgk : gk = 0 := by omega
    subst hgk
    have hn0 : n = 0 := by have := hnl.out; rw [wds_zero] at this; exact this
    subst hn0
    have hLp : 0 < L := by
     rcases Nat.eq_zero_or_pos L with h | h
     ·subst h
      have h5 := hL.out.1
      rw [Nat.pow_zero, Nat.div_one] at h5
      have := Hr.out.2.2.2.2
      omega
     ·exact h
    have hdec := dl_dec L m hL.out.1.symm hL.out.2
    have u0 := (hbel.cell (p := ⟨gx, 0, none⟩) hgl).trans x0
    have hLl : (dl m L).length ≤ 1000000001 := by
     rw [dl_len]
     rcases hL.out.2 with h | h
     ·omega
     ·have h5 := dl_bound h
      have := Hr.out.2.2.1
      omega
    have hDp : 0 < (dl m L).length := by rw [dl_len]; exact hLp
    have Hdec := Lib.hid (And.intro hdec (And.intro hDp hLl))
    have hgle : w.heap.size ≤ wr.heap.size := hbel.size
    clear hdec hLp hk0 hDp hLl x0 x1
    cases sx
    ·obtain ⟨D, hD⟩ : ∃ D, D = dl m L := ⟨_, rfl⟩
     rw [← hD] at hown Hdec
     have hres := Lib.hid (show txt x = D.reverse by rw [Ht.out, Hdec.out.1]; rfl)
     obtain ⟨g, S, rfl, hN, hgB, hmid, hNc⟩ := own_blk hown Hdec.out.2.1
     have hNl : n' ≤ 1000000002 := by have := Hdec.out.2.2; omega
     have hNp : 0 < n' := by have := Hdec.out.2.1; omega
     have HN := Lib.hid hN
     have hw5 : ∃ w5, w5 = wr := ⟨_, rfl⟩
     obtain ⟨w5, hw5⟩ := hw5
     subst hw5
     clear hD hown hN
     go_wp2_with fail
     go_loopg [7, 8] n' (fun k iq kq wi => ∃ (i : Nat) (E : List UInt8), iq = .int .i64 (i : Int) ∧ kq = .int .i64 ((n' : Int) - 1 - (i : Int)) ∧ k + i = n' ∧ 2 * i ≤ n' ∧ BMid wi g E S ∧ Below w.heap.size w wi ∧ Hid (Turned D E i))
     case atStart => exact ⟨0, D, rfl, by congr 1; omega, by omega, by omega, hmid, hbel, turned_start D⟩
     case round =>
      obtain ⟨i, E, rfl, rfl, hki, hi2, hmi, hbi, hT⟩ := hrel
      have Hki := Lib.hid hki
      have hEl := hT.out.1
      have hEn : E.length = n' := by rw [hEl, HN.out]
      have HEn := Lib.hid hEn
      clear hki hEl hEn
      by_cases hgo : 2 * i + 1 < n'
      ·obtain ⟨j, hj⟩ : ∃ j, n' = i + 1 + j := ⟨n' - 1 - i, by omega⟩
       have hij : i < j := by omega
       have hiE : i < E.length := by rw [HEn.out]; omega
       have hjE : j < E.length := by rw [HEn.out]; omega
       have c1 := hmi.cell hiE
       have c2 := hmi.cell hjE
       have f1 := Blk.frozen hmi i
       have f2 := Blk.frozen hmi j
       have ex := List.getElem?_eq_getElem hiE
       have ey := List.getElem?_eq_getElem hjE
       generalize E[i] = p at *
       generalize E[j] = q at *
       have hp := UInt8.toNat_lt p
       have hq := UInt8.toNat_lt q
       have Hx := Lib.hid (And.intro ex (And.intro ey hj))
       rw [show (n' : Int) - 1 - (i : Int) = (j : Int) by omega]
       have hii : (i : Int) < (j : Int) := by omega
       have hin : (i : Int) < (n' : Int) := by omega
       have hjn : (j : Int) < (n' : Int) := by omega
       clear ex ey hj hi2 hgo
       go_wp2_with fail
       refine wp_region_noPanic ?_
       refine wp_region_HK (fun w' => w'.cell? ⟨g, i, none⟩ = some (.int .u8 (p.toNat : Int)) ∧ w'.cell? ⟨g, j, none⟩ = some (.int .u8 (q.toNat : Int))) 13 (by kernel_rfl) ⟨c1, c2⟩ (fun hHeld => ?_)
       refine wpHK_pure (i := 0) (oi := Oper.mk (some 66) _ _ _ _ _) (v := ?_) rfl (by kernel_rfl) (by kernel_rfl) (by kernel_rfl) (fun _ _ _ h => h) (Or.inl ⟨by rfl, ?_⟩) ?_
       rotate_left
       ·(intro w' _; go_simp; try with_reducible rfl)
       try simp only [Act.put, List.setIfInBounds_toArray, List.set_cons_zero, List.set_cons_succ]
       refine wpHK_pure (i := 1) (oi := Oper.mk (some 67) _ _ _ _ _) (v := ?_) rfl (by kernel_rfl) (by kernel_rfl) (by kernel_rfl) (fun _ _ _ h => h) (Or.inl ⟨by rfl, ?_⟩) ?_
       rotate_left
       ·(intro w' _; go_simp; try with_reducible rfl)
       try simp only [Act.put, List.setIfInBounds_toArray, List.set_cons_zero, List.set_cons_succ]
       refine wpHK_pure (i := 2) (oi := Oper.mk (some 68) _ _ _ _ _) (v := ?_) rfl (by kernel_rfl) (by kernel_rfl) (by kernel_rfl) (fun _ _ _ h => h) (Or.inl ⟨by rfl, ?_⟩) ?_
       rotate_left
       ·(intro w' _; go_simp; try with_reducible rfl)
       try simp only [Act.put, List.setIfInBounds_toArray, List.set_cons_zero, List.set_cons_succ]
       refine wpHK_pure (i := 3) (oi := Oper.mk (some 69) _ _ _ _ _) (v := ?_) rfl (by kernel_rfl) (by kernel_rfl) (by kernel_rfl) (fun _ _ _ h => h) (Or.inl ⟨by rfl, ?_⟩) ?_
       rotate_left
       ·(intro w' _; go_simp; try with_reducible rfl)
       try simp only [Act.put, List.setIfInBounds_toArray, List.set_cons_zero, List.set_cons_succ]
       refine wpHK_pure (i := 4) (oi := Oper.mk (some 70) _ _ _ _ _) (v := ?_) rfl (by kernel_rfl) (by kernel_rfl) (by kernel_rfl) (fun _ _ _ h => h) (Or.inl ⟨by rfl, ?_⟩) ?_
       rotate_left
       ·(intro w' _; go_simp; try with_reducible rfl)
       try simp only [Act.put, List.setIfInBounds_toArray, List.set_cons_zero, List.set_cons_succ]
       refine wpHK_pure (i := 5) (oi := Oper.mk (some 71) _ _ _ _ _) (v := ?_) rfl (by kernel_rfl) (by kernel_rfl) (by kernel_rfl) (fun _ _ _ h => h) (Or.inl ⟨by rfl, ?_⟩) ?_
       rotate_left
       ·(intro w' _; go_simp; try with_reducible rfl)
       try simp only [Act.put, List.setIfInBounds_toArray, List.set_cons_zero, List.set_cons_succ]
       refine wpHK_pure (i := 6) (oi := Oper.mk (some 72) _ _ _ _ _) (v := ?_) rfl (by kernel_rfl) (by kernel_rfl) (by kernel_rfl) (fun _ _ _ h => h) (Or.inl ⟨by rfl, ?_⟩) ?_
       rotate_left
       ·(intro w' _; go_simp; try with_reducible rfl)
       try simp only [Act.put, List.setIfInBounds_toArray, List.set_cons_zero, List.set_cons_succ]
       refine wpHK_pure (i := 8) (oi := Oper.mk (some 74) _ _ _ _ _) (v := ?_) rfl (by kernel_rfl) (by kernel_rfl) (by kernel_rfl) (fun _ _ _ h => h) (Or.inl ⟨by rfl, ?_⟩) ?_
       rotate_left
       ·(intro w' _; go_simp; try with_reducible rfl)
       try simp only [Act.put, List.setIfInBounds_toArray, List.set_cons_zero, List.set_cons_succ]
       refine wpHK_pure (i := 9) (oi := Oper.mk (some 75) _ _ _ _ _) (v := ?_) rfl (by kernel_rfl) (by kernel_rfl) (by kernel_rfl) (fun _ _ _ h => h) (Or.inl ⟨by rfl, ?_⟩) ?_
       rotate_left
       ·(intro w' _; go_simp; try with_reducible rfl)
       try simp only [Act.put, List.setIfInBounds_toArray, List.set_cons_zero, List.set_cons_succ]
       refine wpHK_pure (i := 10) (oi := Oper.mk (some 76) _ _ _ _ _) (v := ?_) rfl (by kernel_rfl) (by kernel_rfl) (by kernel_rfl) (fun _ _ _ h => h) (Or.inl ⟨by rfl, ?_⟩) ?_
       rotate_left
       ·(intro w' _; go_simp; try with_reducible rfl)
       try simp only [Act.put, List.setIfInBounds_toArray, List.set_cons_zero, List.set_cons_succ]
       refine wpHK_take (i := 7) (oi := Oper.mk (some 73) _ _ _ _ _) (v := ?_) rfl (by kernel_rfl) (by kernel_rfl) (by kernel_rfl) (by kernel_rfl) (fun _ _ _ h => h) (Or.inl ⟨by rfl, ?_⟩) (by assumption) ?_
       rotate_left
       ·(intro w' hSw; (try dsimp only at hSw); (obtain ⟨s1, s2⟩ := hSw); go_simp; try with_reducible rfl)
       try simp only [Act.put, List.setIfInBounds_toArray, List.set_cons_zero, List.set_cons_succ]
       refine wpHK_take (i := 11) (oi := Oper.mk (some 77) _ _ _ _ _) (v := ?_) rfl (by kernel_rfl) (by kernel_rfl) (by kernel_rfl) (by kernel_rfl) (fun _ _ _ h => h) (Or.inl ⟨by rfl, ?_⟩) (by assumption) ?_
       rotate_left
       ·(intro w' hSw; (try dsimp only at hSw); (obtain ⟨s1, s2⟩ := hSw); go_simp; try with_reducible rfl)
       try simp only [Act.put, List.setIfInBounds_toArray, List.set_cons_zero, List.set_cons_succ]
       refine wpHK_pure (i := 12) (oi := Oper.mk (some 78) _ _ _ _ _) (v := ?_) rfl (by kernel_rfl) (by kernel_rfl) (by kernel_rfl) (fun _ _ _ h => h) (Or.inl ⟨by rfl, ?_⟩) ?_
       rotate_left
       ·(intro w' _; go_simp; try with_reducible rfl)
       try simp only [Act.put, List.setIfInBounds_toArray, List.set_cons_zero, List.set_cons_succ]
       refine wpHK_tail (j := 13) (o := Oper.mk (none) _ _ _ _ _) rfl (by kernel_rfl) (by decide) (fun K hK => ?_)
       go_simp
       refine hK.out _ _ ?_
       clear hK K
       try simp only [Act.put, List.setIfInBounds_toArray, List.set_cons_zero, List.set_cons_succ]
       refine wpHK_pure (i := 14) (oi := Oper.mk (some 79) _ _ _ _ _) (v := ?_) rfl (by kernel_rfl) (by kernel_rfl) (by kernel_rfl) (fun _ _ _ h => h) (Or.inl ⟨by rfl, ?_⟩) ?_
       rotate_left
       ·(intro w' _; go_simp; try with_reducible rfl)
       try simp only [Act.put, List.setIfInBounds_toArray, List.set_cons_zero, List.set_cons_succ]
       refine wpHK_tail (j := 15) (o := Oper.mk (none) _ _ _ _ _) rfl (by kernel_rfl) (by decide) (fun K hK => ?_)
       go_simp
       refine hK.out _ _ ?_
       clear hK K
       try simp only [Act.put, List.setIfInBounds_toArray, List.set_cons_zero, List.set_cons_succ]
       refine wpHK_done (by kernel_rfl) ?_ _
       refine NoPanic.normal ?_
       go_wp2_with fail
       go_roundg (n' - (i + 1))
       case measure => have := Hki.out; omega
       case rel =>
        have h5 := Hx.out.2.2
        exact ⟨i + 1, (E.set i q).set j p, rfl, by congr 1; omega, by omega, by omega, (hmi.set_ hiE q).set_ (by rw [List.length_set]; exact hjE) p, ((hbi.setCell (by show w.heap.size ≤ g; omega) _).setCell (by show w.heap.size ≤ g; omega) _).drew, turned_step hT.out (by rw [← HN.out]; omega) hij p q Hx.out.1 Hx.out.2.1⟩
      ·have hrev := turned_end hT.out (by rw [← HN.out]; omega)
       have hstr := run_str (c := c') HEn.out.symm hmi.reads
       have Hrev := Lib.hid hrev
       have hii : (n' : Int) - 1 - (i : Int) ≤ (i : Int) := by omega
       clear hrev hgo
       go_wp2_with fail
       go_ret
       exact ⟨by rw [hres.out, ← Hrev.out]; rfl, hbi⟩
    ·have hD45 := Lib.hid (show txt x = (dl m L ++ [45]).reverse by rw [Ht.out, List.reverse_append, Hdec.out.1]; rfl)
     have hw45 : (45 : Int) = (((45 : UInt8).toNat : Nat) : Int) := rfl
     have Hw45 := Lib.hid hw45
     have Hle := Lib.hid (show (dl m L).length ≤ 140737488355327 by have := Hdec.out.2.2; omega)
     clear hw45
     go_wp2_with (at_builtin; refine wpB_push rfl (.tmp 53) (.tmp 54) rfl w.heap.size _ (dl m L) hown rfl (y := 45) Hw45.out rfl Hle.out hgle ?_; intro A3 n3 c3 w3 ho3 hkeep _; have hNl := (push_len ho3 Hdec.out.2.2).1; have hNp := (push_len ho3 Hdec.out.2.2).2; have Hk3 := Lib.hid (And.intro ho3 (hkeep w hbel)); clear ho3 hkeep)
     obtain ⟨D, hD⟩ : ∃ D, D = dl m L ++ [45] := ⟨_, rfl⟩
     have hown3 := Hk3.out.1
     rw [← hD] at hown3 hD45
     have hres := Lib.hid (show txt x = D.reverse from hD45.out)
     have hDl : D.length = (dl m L).length + 1 := by rw [hD, List.length_append]; rfl
     obtain ⟨g, S, rfl, hN, hgB, hmid, hNc⟩ := own_blk hown3 (by rw [hDl]; omega)
     have HN := Lib.hid hN
     have hbel3 := Hk3.out.2
     clear hD hown3 hN hDl
     go_loopg [7, 8] n3 (fun k iq kq wi => ∃ (i : Nat) (E : List UInt8), iq = .int .i64 (i : Int) ∧ kq = .int .i64 ((n3 : Int) - 1 - (i : Int)) ∧ k + i = n3 ∧ 2 * i ≤ n3 ∧ BMid wi g E S ∧ Below w.heap.size w wi ∧ Hid (Turned D E i))
     case atStart => exact ⟨0, D, rfl, by congr 1; omega, by omega, by omega, hmid, hbel3, turned_start D⟩
     case round =>
      obtain ⟨i, E, rfl, rfl, hki, hi2, hmi, hbi, hT⟩ := hrel
      have Hki := Lib.hid hki
      have hEl := hT.out.1
      have hEn : E.length = n3 := by rw [hEl, HN.out]
      have HEn := Lib.hid hEn
      clear hki hEl hEn
      by_cases hgo : 2 * i + 1 < n3
      ·obtain ⟨j, hj⟩ : ∃ j, n3 = i + 1 + j := ⟨n3 - 1 - i, by omega⟩
       have hij : i < j := by omega
       have hiE : i < E.length := by rw [HEn.out]; omega
       have hjE : j < E.length := by rw [HEn.out]; omega
       have c1 := hmi.cell hiE
       have c2 := hmi.cell hjE
       have f1 := Blk.frozen hmi i
       have f2 := Blk.frozen hmi j
       have ex := List.getElem?_eq_getElem hiE
       have ey := List.getElem?_eq_getElem hjE
       generalize E[i] = p at *
       generalize E[j] = q at *
       have hp := UInt8.toNat_lt p
       have hq := UInt8.toNat_lt q
       have Hx := Lib.hid (And.intro ex (And.intro ey hj))
       rw [show (n3 : Int) - 1 - (i : Int) = (j : Int) by omega]
       have hii : (i : Int) < (j : Int) := by omega
       have hin : (i : Int) < (n3 : Int) := by omega
       have hjn : (j : Int) < (n3 : Int) := by omega
       clear ex ey hj hi2 hgo
       go_wp2_with fail
       refine wp_region_noPanic ?_
       refine wp_region_HK (fun w' => w'.cell? ⟨g, i, none⟩ = some (.int .u8 (p.toNat : Int)) ∧ w'.cell? ⟨g, j, none⟩ = some (.int .u8 (q.toNat : Int))) 13 (by kernel_rfl) ⟨c1, c2⟩ (fun hHeld => ?_)
       refine wpHK_pure (i := 0) (oi := Oper.mk (some 66) _ _ _ _ _) (v := ?_) rfl (by kernel_rfl) (by kernel_rfl) (by kernel_rfl) (fun _ _ _ h => h) (Or.inl ⟨by rfl, ?_⟩) ?_
       rotate_left
       ·(intro w' _; go_simp; try with_reducible rfl)
       try simp only [Act.put, List.setIfInBounds_toArray, List.set_cons_zero, List.set_cons_succ]
       refine wpHK_pure (i := 1) (oi := Oper.mk (some 67) _ _ _ _ _) (v := ?_) rfl (by kernel_rfl) (by kernel_rfl) (by kernel_rfl) (fun _ _ _ h => h) (Or.inl ⟨by rfl, ?_⟩) ?_
       rotate_left
       ·(intro w' _; go_simp; try with_reducible rfl)
       try simp only [Act.put, List.setIfInBounds_toArray, List.set_cons_zero, List.set_cons_succ]
       refine wpHK_pure (i := 2) (oi := Oper.mk (some 68) _ _ _ _ _) (v := ?_) rfl (by kernel_rfl) (by kernel_rfl) (by kernel_rfl) (fun _ _ _ h => h) (Or.inl ⟨by rfl, ?_⟩) ?_
       rotate_left
       ·(intro w' _; go_simp; try with_reducible rfl)
       try simp only [Act.put, List.setIfInBounds_toArray, List.set_cons_zero, List.set_cons_succ]
       refine wpHK_pure (i := 3) (oi := Oper.mk (some 69) _ _ _ _ _) (v := ?_) rfl (by kernel_rfl) (by kernel_rfl) (by kernel_rfl) (fun _ _ _ h => h) (Or.inl ⟨by rfl, ?_⟩) ?_
       rotate_left
       ·(intro w' _; go_simp; try with_reducible rfl)
       try simp only [Act.put, List.setIfInBounds_toArray, List.set_cons_zero, List.set_cons_succ]
       refine wpHK_pure (i := 4) (oi := Oper.mk (some 70) _ _ _ _ _) (v := ?_) rfl (by kernel_rfl) (by kernel_rfl) (by kernel_rfl) (fun _ _ _ h => h) (Or.inl ⟨by rfl, ?_⟩) ?_
       rotate_left
       ·(intro w' _; go_simp; try with_reducible rfl)
       try simp only [Act.put, List.setIfInBounds_toArray, List.set_cons_zero, List.set_cons_succ]
       refine wpHK_pure (i := 5) (oi := Oper.mk (some 71) _ _ _ _ _) (v := ?_) rfl (by kernel_rfl) (by kernel_rfl) (by kernel_rfl) (fun _ _ _ h => h) (Or.inl ⟨by rfl, ?_⟩) ?_
       rotate_left
       ·(intro w' _; go_simp; try with_reducible rfl)
       try simp only [Act.put, List.setIfInBounds_toArray, List.set_cons_zero, List.set_cons_succ]
       refine wpHK_pure (i := 6) (oi := Oper.mk (some 72) _ _ _ _ _) (v := ?_) rfl (by kernel_rfl) (by kernel_rfl) (by kernel_rfl) (fun _ _ _ h => h) (Or.inl ⟨by rfl, ?_⟩) ?_
       rotate_left
       ·(intro w' _; go_simp; try with_reducible rfl)
       try simp only [Act.put, List.setIfInBounds_toArray, List.set_cons_zero, List.set_cons_succ]
       refine wpHK_pure (i := 8) (oi := Oper.mk (some 74) _ _ _ _ _) (v := ?_) rfl (by kernel_rfl) (by kernel_rfl) (by kernel_rfl) (fun _ _ _ h => h) (Or.inl ⟨by rfl, ?_⟩) ?_
       rotate_left
       ·(intro w' _; go_simp; try with_reducible rfl)
       try simp only [Act.put, List.setIfInBounds_toArray, List.set_cons_zero, List.set_cons_succ]
       refine wpHK_pure (i := 9) (oi := Oper.mk (some 75) _ _ _ _ _) (v := ?_) rfl (by kernel_rfl) (by kernel_rfl) (by kernel_rfl) (fun _ _ _ h => h) (Or.inl ⟨by rfl, ?_⟩) ?_
       rotate_left
       ·(intro w' _; go_simp; try with_reducible rfl)
       try simp only [Act.put, List.setIfInBounds_toArray, List.set_cons_zero, List.set_cons_succ]
       refine wpHK_pure (i := 10) (oi := Oper.mk (some 76) _ _ _ _ _) (v := ?_) rfl (by kernel_rfl) (by kernel_rfl) (by kernel_rfl) (fun _ _ _ h => h) (Or.inl ⟨by rfl, ?_⟩) ?_
       rotate_left
       ·(intro w' _; go_simp; try with_reducible rfl)
       try simp only [Act.put, List.setIfInBounds_toArray, List.set_cons_zero, List.set_cons_succ]
       refine wpHK_take (i := 7) (oi := Oper.mk (some 73) _ _ _ _ _) (v := ?_) rfl (by kernel_rfl) (by kernel_rfl) (by kernel_rfl) (by kernel_rfl) (fun _ _ _ h => h) (Or.inl ⟨by rfl, ?_⟩) (by assumption) ?_
       rotate_left
       ·(intro w' hSw; (try dsimp only at hSw); (obtain ⟨s1, s2⟩ := hSw); go_simp; try with_reducible rfl)
       try simp only [Act.put, List.setIfInBounds_toArray, List.set_cons_zero, List.set_cons_succ]
       refine wpHK_take (i := 11) (oi := Oper.mk (some 77) _ _ _ _ _) (v := ?_) rfl (by kernel_rfl) (by kernel_rfl) (by kernel_rfl) (by kernel_rfl) (fun _ _ _ h => h) (Or.inl ⟨by rfl, ?_⟩) (by assumption) ?_
       rotate_left
       ·(intro w' hSw; (try dsimp only at hSw); (obtain ⟨s1, s2⟩ := hSw); go_simp; try with_reducible rfl)
       try simp only [Act.put, List.setIfInBounds_toArray, List.set_cons_zero, List.set_cons_succ]
       refine wpHK_pure (i := 12) (oi := Oper.mk (some 78) _ _ _ _ _) (v := ?_) rfl (by kernel_rfl) (by kernel_rfl) (by kernel_rfl) (fun _ _ _ h => h) (Or.inl ⟨by rfl, ?_⟩) ?_
       rotate_left
       ·(intro w' _; go_simp; try with_reducible rfl)
       try simp only [Act.put, List.setIfInBounds_toArray, List.set_cons_zero, List.set_cons_succ]
       refine wpHK_tail (j := 13) (o := Oper.mk (none) _ _ _ _ _) rfl (by kernel_rfl) (by decide) (fun K hK => ?_)
       go_simp
       refine hK.out _ _ ?_
       clear hK K
       try simp only [Act.put, List.setIfInBounds_toArray, List.set_cons_zero, List.set_cons_succ]
       refine wpHK_pure (i := 14) (oi := Oper.mk (some 79) _ _ _ _ _) (v := ?_) rfl (by kernel_rfl) (by kernel_rfl) (by kernel_rfl) (fun _ _ _ h => h) (Or.inl ⟨by rfl, ?_⟩) ?_
       rotate_left
       ·(intro w' _; go_simp; try with_reducible rfl)
       try simp only [Act.put, List.setIfInBounds_toArray, List.set_cons_zero, List.set_cons_succ]
       refine wpHK_tail (j := 15) (o := Oper.mk (none) _ _ _ _ _) rfl (by kernel_rfl) (by decide) (fun K hK => ?_)
       go_simp
       refine hK.out _ _ ?_
       clear hK K
       try simp only [Act.put, List.setIfInBounds_toArray, List.set_cons_zero, List.set_cons_succ]
       refine wpHK_done (by kernel_rfl) ?_ _
       refine NoPanic.normal ?_
       go_wp2_with fail
       go_roundg (n3 - (i + 1))
       case measure => have := Hki.out; omega
       case rel =>
        have h5 := Hx.out.2.2
        exact ⟨i + 1, (E.set i q).set j p, rfl, by congr 1; omega, by omega, by omega, (hmi.set_ hiE q).set_ (by rw [List.length_set]; exact hjE) p, ((hbi.setCell (by show w.heap.size ≤ g; omega) _).setCell (by show w.heap.size ≤ g; omega) _).drew, turned_step hT.out (by rw [← HN.out]; omega) hij p q Hx.out.1 Hx.out.2.1⟩
      ·have hrev := turned_end hT.out (by rw [← HN.out]; omega)
       have hstr := run_str (c := c3) HEn.out.symm hmi.reads
       have Hrev := Lib.hid hrev
       have hii : (n3 : Int) - 1 - (i : Int) ≤ (i : Int) := by omega
       clear hrev hgo
       go_wp2_with fail
       go_ret
       exact ⟨by rw [hres.out, ← Hrev.out]; rfl, hbi⟩
def MayL (neg : Bool) (l : List UInt8) : Prop := l.length ≤ 16384 ∧ (l = [] → neg = false) ∧ Formed l
theorem toL (s : ByteArray) : s.toList = s.data.toList := ByteArray.toList_eq s
def Told (w : World) (v : Value) (e : Ending) (w' : World) : Prop := e = .returned v ∧ Below w.heap.size w w'
theorem str_facts {s : ByteArray} (h : 0 < s.size) : s.toList.isEmpty = false ∧ ¬ s.toList = [] := by
 have hl : s.data.toList.length = s.size := Array.length_toList
 rw [toL]
 constructor
 ·rw [List.isEmpty_eq_false_iff]; intro h0; rw [h0] at hl; simp at hl; omega
 ·intro h0; rw [h0] at hl; simp at hl; omega
theorem str_empty {s : ByteArray} (h : s.data.toList = []) : s = ⟨#[]⟩ := by
 have h1 : s.data = #[] := by simpa using h
 cases s; simp_all
theorem str_head {s : ByteArray} (h : 0 < s.size) : s.data.toList.head? = some s[0] := by
 have hl : s.data.toList.length = s.size := Array.length_toList
 rw [List.head?_eq_getElem?, List.getElem?_eq_getElem (by omega)]
 rfl
set_option maxRecDepth 100000 in
set_option maxHeartbeats 1000000 in
theorem check_ok {w : World} {neg : Bool} {s : ByteArray} (h : MayL neg s.data.toList) :
  Calls Tryz.prog 116 #[.agg #[.bool neg, .string s]] w (Told w (.int .i64 0)) := by
 obtain ⟨h1, h2, h3⟩ := h
 have hl : s.data.toList.length = s.size := Array.length_toList
 rcases Nat.eq_zero_or_pos s.size with h0 | h0
 ·have he : s.data.toList = [] := List.eq_nil_of_length_eq_zero (by omega)
  obtain rfl := str_empty he
  obtain rfl := h2 he
  clear h1 h2 h3 hl h0 he
  go_enter Tryz.func116, Tryz.ntmps116
  go_wp2
  go_ret
  exact ⟨rfl, (Below.refl _ _).alloc (Nat.le_refl _) _⟩
 ·obtain ⟨e1, e2⟩ := str_facts h0
  have hi0 : (0 : Int) < (s.size : Int) := by omega
  have hi1 : (s.size : Int) ≤ 16384 := by omega
  have hne : ¬ s[0].toNat = 0 := fun hh => h3 s[0] (str_head h0) (by rw [← UInt8.toNat_inj]; exact hh)
  have hb0 : ((s[0].toNat : Int) == 0) = false := by simp; omega
  have hd : decide ((16384 : Int) < (s.size : Int)) = false := by simp; omega
  clear h1 h2 h3 hl
  go_enter Tryz.func116, Tryz.ntmps116
  go_wp2
  go_ret
  exact ⟨rfl, (Below.refl _ _).alloc (Nat.le_refl _) _⟩
set_option maxRecDepth 100000 in
set_option maxHeartbeats 1000000 in
theorem check_no {w : World} {neg : Bool} {s : ByteArray} (h : ¬ MayL neg s.data.toList) :
  Calls Tryz.prog 116 #[.agg #[.bool neg, .string s]] w (Told w (.int .i64 2)) := by
 have hl : s.data.toList.length = s.size := Array.length_toList
 rcases Nat.eq_zero_or_pos s.size with h0 | h0
 ·have he : s.data.toList = [] := List.eq_nil_of_length_eq_zero (by omega)
  have hn : neg = true := by
   cases neg with
   | true => rfl
   | false => exact absurd ⟨by omega, fun _ => rfl, by rw [he]; intro x hx; cases hx⟩ h
  obtain rfl := str_empty he
  subst hn
  clear h hl h0 he
  go_enter Tryz.func116, Tryz.ntmps116
  go_wp2
  go_ret
  exact ⟨rfl, (Below.refl _ _).alloc (Nat.le_refl _) _⟩
 ·obtain ⟨e1, e2⟩ := str_facts h0
  have hi0 : (0 : Int) < (s.size : Int) := by omega
  by_cases hz : s[0].toNat = 0
  ·have hb0 : ((s[0].toNat : Int) == 0) = true := by simp; omega
   clear h hl
   go_enter Tryz.func116, Tryz.ntmps116
   go_wp2
   go_ret
   exact ⟨rfl, (Below.refl _ _).alloc (Nat.le_refl _) _⟩
  ·have hb0 : ((s[0].toNat : Int) == 0) = false := by simp; omega
   have hbig : 16384 < s.size := by
    rcases Nat.lt_or_ge 16384 s.size with h5 | h5
    ·exact h5
    ·refine absurd ⟨by omega, fun h6 => ?_, fun x hx => ?_⟩ h
     ·rw [h6] at hl; simp at hl; omega
     ·rw [str_head h0] at hx
      injection hx with hx
      rw [← hx]
      intro h7
      rw [h7] at hz
      exact hz rfl
   have hd : decide ((16384 : Int) < (s.size : Int)) = true := by simp; omega
   have hi1 : (16384 : Int) < (s.size : Int) := by omega
   clear h hl
   go_enter Tryz.func116, Tryz.ntmps116
   go_wp2
   go_ret
   exact ⟨rfl, (Below.refl _ _).alloc (Nat.le_refl _) _⟩
def pv (g : Nat) : Value := .pointer (some ⟨g, 0, none⟩)
theorem pv_one (l : List Nat) : ∀ u ∈ l.map pv, u.oneCell' = true := by
 intro u hu
 obtain ⟨b, _, rfl⟩ := List.mem_map.1 hu
 rfl
theorem infoP : (Tryz.prog.info? 139).map (fun i => (i.zero, i.size, i.bytes)) = some (some (.pointer none), 1, 8) := by kernel_rfl
def OwnP (w : World) (B : Nat) (v : Value) (l : List Nat) : Prop := w.ownsRow B 139 1 v l.length (l.map pv)
theorem OwnP.form {w : World} {B : Nat} {v : Value} {l : List Nat} (h : OwnP w B v l) : ∃ A c, v = .slice A l.length c ∧ l.length ≤ c := by
 rcases h.2 with ⟨rfl, h0⟩ | ⟨g, cap, cur, rfl, _, _, hc, hm, _⟩
 ·exact ⟨none, 0, by rw [h0], by omega⟩
 ·exact ⟨_, cap, rfl, hc⟩
theorem OwnP.len {w : World} {B n c : Nat} {A : Option Addr} {l : List Nat} (h : OwnP w B (.slice A n c) l) : n = l.length := by
 obtain ⟨A', c', e, h1⟩ := h.form
 injection e
theorem OwnP.nil (w : World) (B : Nat) : OwnP w B (.slice none 0 0) [] := World.ownsRow_nil w B _ 1
def ReadsP (w : World) (B : Nat) (A : Option Addr) (l : List Nat) : Prop := Reads w B 1 A l.length (l.map pv)
theorem ReadsP.at_ {w : World} {B : Nat} {A : Option Addr} {l : List Nat} (h : ReadsP w B A l) {k : Nat} (hk : k < l.length) : ∃ ad, A = some ad ∧ ad.block < B ∧ w.cell? (ad.add k) = some (.pointer (some ⟨l[k], 0, none⟩)) := by
 obtain ⟨ad, u, e, hb, hu, hc⟩ := Reads.at_ h hk
 refine ⟨ad, e, hb, ?_⟩
 rw [hc]
 rw [List.getElem?_map, List.getElem?_eq_getElem hk] at hu
 exact hu.symm
theorem OwnP.reads {w : World} {B n c : Nat} {A : Option Addr} {l : List Nat} (h : OwnP w B (.slice A n c) l) : ReadsP w w.heap.size A l := by
 obtain rfl := h.len
 exact Reads.of_own h
theorem wpP_push {w : World} {ops : Array Oper} {rest : List Oper} {o : Oper} {a : Act} {Q : Exit → Act → World → Prop} (hgd : o.guard = none) (s x : Operand)
  (ho : o.op = .call { callee := .builtin .append, args := #[s, x], argTypes := #[170, 170] }) (B : Nat) (v : Value) (l : List Nat) (hown : OwnP w B v l) (hs : a.eval s = v)
  {g : Nat} (hx : a.eval x = .slice (some ⟨w.heap.size, 0, none⟩) 1 1) (hlen : l.length ≤ 1000000000) (hbase : B ≤ w.heap.size)
  (h : ∀ A' n' c' w', OwnP w' B (.slice A' n' c') (l ++ [g]) → (∀ w0, Below B w0 w → Below B w0 w') → w.grownBy w' v.ownBlock → wpList Tryz.prog ops Q rest (a.put o.dst (.slice A' n' c')) w') :
  wpList Tryz.prog ops Q (o :: rest) a (w.alloc (.cells #[.pointer (some ⟨g, 0, none⟩)] 139)) := by
 obtain ⟨i0, hi, hz0, hz1, hz2⟩ := info_parts infoP
 have hr : Reads (w.alloc (.cells #[.pointer (some ⟨g, 0, none⟩)] 139)) (w.heap.size + 1) 1 (some ⟨w.heap.size, 0, none⟩) 1 ([g].map pv) := by
  refine ⟨by simp, fun _ => ⟨_, rfl, Nat.lt_succ_self _, fun j u hu => ?_⟩⟩
  have hb := Blk.new w 139 #[.pointer (some ⟨g, 0, none⟩)]
  match j, hu with
  | 0, hu => rw [Addr.add_zero', hb.cell 0]; exact hu
  | j + 1, hu => simp at hu
 refine wpList_append_any _ hgd s x 170 ho B 139 i0 (.pointer none) 1 8 Tryz.underlying170 hi hz0 hz1 hz2 rfl (by decide) v l.length (l.map pv) hs (hown.alloc _) _ _ 1 1 ([g].map pv) hx hr (pv_one _) (by unfold maxLen; omega) (by omega) (by simp; omega) ?_
 intro v' w' h1 h2 h3
 have h4 : OwnP w' B v' (l ++ [g]) := by
  unfold OwnP
  rw [List.length_append, List.map_append]
  exact h1
 obtain ⟨A', c', rfl, _⟩ := h4.form
 have h5 : w.grownBy w' v.ownBlock := ⟨h2.os, h2.tape, h2.output, Nat.le_trans (by simp) h2.size, fun i hi hne => (h2.block i (by simp; omega) hne).trans (Below.heap_alloc w _ i hi)⟩
 exact h A' _ c' w' h4 (fun w0 hb => (hb.alloc hbase _).grown h2 (by simp; omega) (fun k hk => (World.ownsRow.lt hown k hk).1)) h5
def num (a : Bool × ByteArray) : Int := sgn a.1 (bval a.2.data.toList)
def wcs (a : Bool × ByteArray) : List Value := [.bool a.1, .string a.2]
def ReadsWh (w : World) (B : Nat) (A : Option Addr) (l : List (Bool × ByteArray)) : Prop := Reads w B 2 A l.length (l.flatMap wcs)
theorem flat_get : ∀ (l : List (Bool × ByteArray)) (k : Nat) (h : k < l.length), (l.flatMap wcs)[2 * k]? = some (.bool l[k].1) ∧ (l.flatMap wcs)[2 * k + 1]? = some (.string l[k].2)
 | x :: r, 0, _ => ⟨rfl, rfl⟩
 | x :: r, k + 1, h => by
  have := flat_get r k (by simpa using h)
  rw [show 2 * (k + 1) = 2 * k + 1 + 1 by omega]
  exact this
theorem ReadsWh.at_ {w : World} {B : Nat} {A : Option Addr} {l : List (Bool × ByteArray)} (h : ReadsWh w B A l) {k : Nat} (hk : k < l.length) : ∃ ad, A = some ad ∧ ad.block < B ∧ w.cell? (ad.add (k * 2)) = some (.bool l[k].1) ∧ w.cell? ⟨(ad.add (k * 2)).block, (ad.add (k * 2)).off + 1, none⟩ = some (.string l[k].2) := by
 obtain ⟨ad, e, hb, hc⟩ := h.2 (by omega)
 obtain ⟨h1, h2⟩ := flat_get l k hk
 refine ⟨ad, e, hb, ?_, ?_⟩
 ·rw [Nat.mul_comm]; exact hc _ _ h1
 ·have := hc _ _ h2
  rw [Nat.mul_comm, ← add_of_add, add_pos (by decide)] at this
  exact this
def Ints (w : World) : List Nat → List Int → Prop
 | [], [] => True
 | g :: gs, z :: zs => IntB w g z ∧ g ∉ gs ∧ Ints w gs zs
 | _, _ => False
theorem Ints.keep {w w' : World} : ∀ {gs : List Nat} {zs : List Int}, (∀ g ∈ gs, ∀ z, IntB w g z → IntB w' g z) → Ints w gs zs → Ints w' gs zs
 | [], [], _, _ => trivial
 | g :: gs, z :: zs, h, ⟨h1, h2, h3⟩ => ⟨h g (by simp) z h1, h2, Ints.keep (fun g' hg' => h g' (by simp [hg'])) h3⟩
 | [], _ :: _, _, h => h.elim
 | _ :: _, [], _, h => h.elim
theorem Ints.snoc {w : World} {g : Nat} {z : Int} : ∀ {gs : List Nat} {zs : List Int}, Ints w gs zs → IntB w g z → g ∉ gs → Ints w (gs ++ [g]) (zs ++ [z])
 | [], [], _, h, _ => ⟨h, by simp, trivial⟩
 | g' :: gs, z' :: zs, ⟨h1, h2, h3⟩, h, hn => ⟨h1, by
   show ¬ g' ∈ gs ++ [g]
   rw [List.mem_append]
   rintro (h5 | h5)
   ·exact h2 h5
   ·simp only [List.mem_singleton] at h5
    exact hn (by simp [h5]), Ints.snoc h3 h (fun h5 => hn (by simp [h5]))⟩
 | [], _ :: _, h, _, _ => h.elim
 | _ :: _, [], h, _, _ => h.elim
theorem IntB.other {w w' : World} {g : Nat} {z : Int} {row : Option Nat} (h : IntB w g z) (hg : w.grownBy w' row) (hr : ∀ r, row = some r → ∃ cs t fz, w.heap[r]? = some (.cells cs t fz) ∧ t ≠ 163 ∧ t ≠ 151) : IntB w' g z := by
 obtain ⟨s, A, n, c, hb, h1, h2, h3, hrd⟩ := h
 refine ⟨s, A, n, c, hb.grown hg ?_, h1, h2, h3, (hrd.other hg (Nat.le_refl _) fun r e => ?_).more hg.size⟩
 ·intro e
  obtain ⟨cs, t, fz, hh, _, hne⟩ := hr g e.symm
  unfold Blk at hb
  rw [hb] at hh
  injection hh with hh
  injection hh with _ h5
  exact hne h5.symm
 ·obtain ⟨cs, t, fz, hh, hne, _⟩ := hr r e
  exact ⟨cs, t, fz, hh, hne⟩
theorem OwnP.row {w : World} {B : Nat} {v : Value} {l : List Nat} (h : OwnP w B v l) : ∀ r, v.ownBlock = some r → ∃ cs t fz, w.heap[r]? = some (.cells cs t fz) ∧ t ≠ 163 ∧ t ≠ 151 := by
 intro r hr
 rcases h.2 with ⟨rfl, _⟩ | ⟨g, cap, cur, rfl, _, hh, _⟩
 ·cases hr
 ·injection hr with hr
  simp only at hr
  subst hr
  exact ⟨_, _, _, hh, by decide, by decide⟩
theorem OwnP.kept {w w' : World} {B : Nat} {v : Value} {l : List Nat} (h : OwnP w B v l) (hb : Below w.heap.size w w') : OwnP w' B v l := by
 refine ⟨h.1, ?_⟩
 rcases h.2 with h' | ⟨g, cap, cur, hv, hg, hh, r⟩
 ·exact .inl h'
 ·exact .inr ⟨g, cap, cur, hv, hg, (hb.block g (Array.getElem?_eq_some_iff.1 hh).1).trans hh, r⟩
theorem len_mag {l : List UInt8} (h : l.length ≤ 16384) : (wds (bval l)).length ≤ 5000 := by
 have h1 := bval_lt l
 refine Nat.le_trans (len_wds (k := (l.length + 3) / 4) ?_) (by omega)
 rw [show (4294967296 : Nat) = 256 ^ 4 by decide, ← Nat.pow_mul]
 exact Nat.lt_of_lt_of_le h1 (Nat.pow_le_pow_right (by decide) (by omega))
theorem Ints.lt {w : World} : ∀ {gs : List Nat} {zs : List Int}, Ints w gs zs → ∀ g ∈ gs, g < w.heap.size
 | [], [], _, g, hg => by cases hg
 | g' :: gs, z :: zs, ⟨h1, _, h3⟩, g, hg => by
  rcases List.mem_cons.1 hg with rfl | hg
  ·exact h1.lt
  ·exact Ints.lt h3 g hg
 | [], _ :: _, h, _, _ => h.elim
 | _ :: _, [], h, _, _ => h.elim
theorem bytes_below (w : World) (s : ByteArray) : Below w.heap.size w (Lib.bytesWorld w 5 s) := ⟨rfl, rfl, rfl, by rw [Lib.bytesWorld_size]; omega, fun i hi => Lib.bytesWorld_at_old w 5 s i hi⟩
theorem bytes_reads (w : World) (s : ByteArray) : ReadsB (Lib.bytesWorld w 5 s) (Lib.bytesWorld w 5 s).heap.size (some ⟨w.heap.size, 0, none⟩) s.data.toList := by
 have hl : s.data.toList.length = s.size := Array.length_toList
 refine ⟨by simp, fun _ => ⟨_, rfl, by rw [Lib.bytesWorld_size]; exact Nat.lt_succ_self _, fun j u hu => ?_⟩⟩
 have hj : j < s.size := by
  rcases Nat.lt_or_ge j s.size with h | h
  ·exact h
  ·rw [List.getElem?_map, List.getElem?_eq_none (by omega)] at hu; cases hu
 rw [Addr.add_lit, Nat.zero_add, Lib.bytesWorld_cell w 5 s j hj, ← hu, List.getElem?_map, List.getD_eq_getElem?_getD, List.getElem?_eq_getElem (by omega)]
 rfl
def OfOk (w : World) (zs : List Int) (e : Ending) (w' : World) : Prop := ∃ A n c gs, e = .returned (.tuple #[.slice A n c, .bool true]) ∧ Hid (n = gs.length ∧ gs.length = zs.length) ∧ ReadsP w' w'.heap.size A gs ∧ Ints w' gs zs ∧ Below w.heap.size w w' ∧ (∀ g ∈ gs, w.heap.size ≤ g)
def OfNo (w : World) (e : Ending) (w' : World) : Prop := ∃ A n c, e = .returned (.tuple #[.slice A n c, .bool false]) ∧ Below w.heap.size w w'
theorem num_take {l : List (Bool × ByteArray)} {i : Nat} (h : i < l.length) : (l.take (i + 1)).map num = (l.take i).map num ++ [num l[i]] := by
 rw [List.take_succ_eq_append_getElem h, List.map_append]; rfl
def AllMay (l : List (Bool × ByteArray)) : Prop := ∀ a ∈ l, MayL a.1 a.2.data.toList
def Ofs (w : World) (l : List (Bool × ByteArray)) (e : Ending) (w' : World) : Prop := (AllMay l → OfOk w (l.map num) e w') ∧ (¬ AllMay l → OfNo w e w')
set_option maxRecDepth 100000 in
set_option maxHeartbeats 8000000 in
theorem ofs_any {w : World} {B n c : Nat} {A : Option Addr} {l : List (Bool × ByteArray)} (hr : ReadsWh w B A l) (hB : B ≤ w.heap.size) (hn : n = l.length) (hnl : n ≤ 100000) :
  Calls Tryz.prog 120 #[.slice A n c] w (Ofs w l) := by
 have Hn := Lib.hid hn
 have kc := fun (W : World) (s : ByteArray) => Lib.run_convert_string_bytes (P := Tryz.prog) W 9 97 5 s Tryz.underlying9 Tryz.underlying97 Tryz.underlying5
 clear hn
 go_enter Tryz.func120, Tryz.ntmps120
 go_wp2_with fail
 go_loopg [4, 10] n (fun k ov iv wr => ∃ (i : Nat) (A' : Option Addr) (n' c' : Nat) (gs : List Nat), ov = .slice A' n' c' ∧ iv = .int .i64 (i : Int) ∧ k = n - i ∧ i ≤ n ∧ OwnP wr w.heap.size (.slice A' n' c') gs ∧ Below w.heap.size w wr ∧ Ints wr gs ((l.take i).map num) ∧
  Hid (gs.length = i ∧ (∀ g ∈ gs, w.heap.size ≤ g) ∧ AllMay (l.take i)))
 case atStart => exact ⟨0, none, 0, 0, [], rfl, rfl, rfl, by omega, OwnP.nil _ _, Below.refl _ _, trivial, rfl, fun g hg => (by cases hg), fun a ha => (by simp at ha)⟩
 case round =>
  obtain ⟨i, A', n', c', gs, rfl, rfl, hk, hi, hown, hbel, hints, hgs⟩ := hrel
  have Hk := Lib.hid hk
  clear hk
  by_cases hin : i < n
  ·have hil : i < l.length := by rw [← Hn.out]; exact hin
   obtain ⟨ad, rfl, hb1, c0, c1⟩ := hr.at_ hil
   have c0' := (hbel.cell (p := ad.add (i * 2)) (by rw [block_of_add]; omega)).trans c0
   have c1' := (hbel.cell (p := ⟨(ad.add (i * 2)).block, (ad.add (i * 2)).off + 1, none⟩) (by show (ad.add (i * 2)).block < _; rw [block_of_add]; omega)).trans c1
   have hii : (i : Int) < (n : Int) := by omega
   have Hnt := Lib.hid (num_take hil)
   have hmem : l[i] ∈ l := List.getElem_mem hil
   have htk : l.take (i + 1) = l.take i ++ [l[i]] := List.take_succ_eq_append_getElem hil
   obtain ⟨a, ha⟩ : ∃ a, a = l[i] := ⟨_, rfl⟩
   rw [← ha] at c0 c1 c0' c1' Hnt hmem htk
   obtain ⟨ng, s⟩ := a
   have Hm := Lib.hid (And.intro hmem htk)
   clear c0 c1 hr ha hmem htk
   by_cases hmay : MayL ng s.data.toList
   ·have hsz : s.size ≤ 16384 := by have := hmay.1; rw [show s.data.toList.length = s.size from Array.length_toList] at this; exact this
    have HC := Lib.hid (check_ok (w := wr.alloc (.cells #[.bool ng, .string s] 34)) hmay)
    have Hmay := Lib.hid hmay
    clear hmay
    go_wp2_with fail
    refine HC.out.mono ?_
    rintro e w2 ⟨rfl, hb2⟩
    have hbk := (Blk.new wr 34 #[.bool ng, .string s]).below hb2 (by simp)
    have d0 : w2.cell? ⟨wr.heap.size, 0, none⟩ = some (.bool ng) := hbk.cell 0
    have d1 : w2.cell? ⟨wr.heap.size, 1, none⟩ = some (.string s) := hbk.cell 1
    have hb2' : Below wr.heap.size wr w2 := ((Below.refl _ _).alloc (Nat.le_refl _) _).trans (hb2.mono (by simp))
    have hgr : wr.heap.size < w2.heap.size := hbk.lt
    clear hbk hb2
    go_wp2_with fail
    have hrd := bytes_reads (w2.alloc (.cells #[.bool false, .slice none 0 0] 151)) s
    rw [World.size_alloc] at hrd
    have hbb := bytes_below (w2.alloc (.cells #[.bool false, .slice none 0 0] 151)) s
    have hsl : s.data.toList.length = s.size := Array.length_toList
    have HS := Lib.hid (setbytes_any (c := grownCap (w2.alloc (.cells #[.bool false, .slice none 0 0] 151)) s.size 0 5) ((IntB.zero w2).slot.below hbb) hrd (Nat.le_refl _) hsl.symm (by omega))
    have hlen := len_mag Hmay.out.1
    have hlt := hints.lt
    clear hrd
    go_wp2_with fail
    refine HS.out.mono ?_
    rintro e w3 ⟨rfl, hi3, hg3⟩
    have hb23 : Below w2.heap.size w2 w3 := ((new_below w2 _).trans (hbb.mono (by simp))).grown hg3 (by rw [Lib.bytesWorld_size]; simp; omega) (fun k hk => by injection hk with hk; omega)
    have d0' := (hb23.cell (p := ⟨wr.heap.size, 0, none⟩) hgr).trans d0
    have hbr3 := hb2'.trans (hb23.mono hb2'.size)
    clear hbb HS hg3 hsl d0 d1
    cases ng
    ·have d0 := trivial
     have d1 := trivial
     have hnum : (bval s.data.toList : Int) = num (false, s) := rfl
     rw [hnum] at hi3
     have Hi3 := Lib.hid hi3
     have hbw3 := hbel.trans (hbr3.mono hbel.size)
     have hown3 := hown.kept hbr3
     have hints3 := hints.keep (w' := w3) (fun g hg z hz => hz.below hbr3)
     have Hk3 := Lib.hid (And.intro hown3 (And.intro hints3 hbw3))
     have hle3 : w.heap.size ≤ w3.heap.size := hbw3.size
     have hgl : gs.length ≤ 1000000000 := by have := hgs.out.1; omega
     have hown4 := hown3
     clear hown hints hbw3 hown3 hints3 hi3 d0 d1
     go_wp2_with (at_builtin; refine wpP_push rfl (.tmp 32) (.tmp 34) rfl w.heap.size _ gs hown4 rfl (g := w2.heap.size) rfl hgl hle3 ?_; intro A7 n7 c7 w7 ho7 hkeep hg7; have H7 := Lib.hid (And.intro ho7 (And.intro (hkeep w Hk3.out.2.2) hg7)); clear ho7 hkeep hg7)
     go_roundg (n - (i + 1))
     case measure => have := Hk.out; omega
     case rel =>
      refine ⟨i + 1, A7, n7, c7, gs ++ [w2.heap.size], rfl, rfl, rfl, by omega, H7.out.1, H7.out.2.1, ?_, ?_⟩
      ·rw [Hnt.out]
       refine (Hk3.out.2.1.snoc Hi3.out ?_).keep fun g _ z hz => hz.other H7.out.2.2 Hk3.out.1.row
       intro hin2
       have := hlt _ hin2
       omega
      ·refine ⟨by rw [List.length_append, hgs.out.1]; rfl, fun g hg => ?_, ?_⟩
       ·rcases List.mem_append.1 hg with h | h
        ·exact hgs.out.2.1 g h
        ·simp only [List.mem_singleton] at h
         have := hbel.size
         omega
       ·intro a hin2
        rw [Hm.out.2] at hin2
        rcases List.mem_append.1 hin2 with h | h
        ·exact hgs.out.2.2 a h
        ·simp only [List.mem_singleton] at h
         rw [h]
         exact Hmay.out
    ·have HN := Lib.hid (neg_any hi3.slot hi3 (by rw [Int.natAbs_natCast]; omega))
     have hsl3 := hi3.slot
     go_wp2_with fail
     refine HN.out.mono ?_
     rintro e w4 ⟨rfl, hi4, hg4⟩
     have hbr4 := up_row hbr3 hg4 hbr3.size (by omega)
     have d0 := trivial
     have d1 := trivial
     have hnum : -(bval s.data.toList : Int) = num (true, s) := rfl
     rw [hnum] at hi4
     clear hbr3 hi3 hsl3 HN hg4
     have Hi4 := Lib.hid hi4
     have hbw4 := hbel.trans (hbr4.mono hbel.size)
     have hown4 := hown.kept hbr4
     have hints4 := hints.keep (w' := w4) (fun g hg z hz => hz.below hbr4)
     have Hk4 := Lib.hid (And.intro hown4 (And.intro hints4 hbw4))
     have hle4 : w.heap.size ≤ w4.heap.size := hbw4.size
     have hgl : gs.length ≤ 1000000000 := by have := hgs.out.1; omega
     have hown4 := hown4
     clear hown hints hbw4 hown4 hints4 hi4 d0 d1
     go_wp2_with (at_builtin; refine wpP_push rfl (.tmp 32) (.tmp 34) rfl w.heap.size _ gs hown4 rfl (g := w2.heap.size) rfl hgl hle4 ?_; intro A7 n7 c7 w7 ho7 hkeep hg7; have H7 := Lib.hid (And.intro ho7 (And.intro (hkeep w Hk4.out.2.2) hg7)); clear ho7 hkeep hg7)
     go_roundg (n - (i + 1))
     case measure => have := Hk.out; omega
     case rel =>
      refine ⟨i + 1, A7, n7, c7, gs ++ [w2.heap.size], rfl, rfl, rfl, by omega, H7.out.1, H7.out.2.1, ?_, ?_⟩
      ·rw [Hnt.out]
       refine (Hk4.out.2.1.snoc Hi4.out ?_).keep fun g _ z hz => hz.other H7.out.2.2 Hk4.out.1.row
       intro hin2
       have := hlt _ hin2
       omega
      ·refine ⟨by rw [List.length_append, hgs.out.1]; rfl, fun g hg => ?_, ?_⟩
       ·rcases List.mem_append.1 hg with h | h
        ·exact hgs.out.2.1 g h
        ·simp only [List.mem_singleton] at h
         have := hbel.size
         omega
       ·intro a hin2
        rw [Hm.out.2] at hin2
        rcases List.mem_append.1 hin2 with h | h
        ·exact hgs.out.2.2 a h
        ·simp only [List.mem_singleton] at h
         rw [h]
         exact Hmay.out
   ·have HC := Lib.hid (check_no (w := wr.alloc (.cells #[.bool ng, .string s] 34)) hmay)
    have hno : ¬ AllMay l := fun h => hmay (h _ Hm.out.1)
    have Hno := Lib.hid hno
    clear hmay hno
    go_wp2_with fail
    refine HC.out.mono ?_
    rintro e w2 ⟨rfl, hb2⟩
    have hb2' : Below wr.heap.size wr w2 := ((Below.refl _ _).alloc (Nat.le_refl _) _).trans (hb2.mono (by simp))
    go_wp2_with fail
    go_ret2
    exact ⟨fun h => absurd h Hno.out, fun _ => ⟨_, _, _, rfl, hbel.trans (hb2'.mono hbel.size)⟩⟩
  ·have hi' : i = n := by omega
   have hii : (n : Int) ≤ (i : Int) := by omega
   have htl : l.take i = l := List.take_of_length_le (by rw [← Hn.out]; omega)
   rw [htl] at hints hgs
   have Hh := Lib.hid (And.intro hown (And.intro hints (And.intro hbel hi')))
   clear htl hi' hown hints hr
   go_wp2_with fail
   go_ret2
   refine ⟨fun _ => ⟨_, _, _, gs, rfl, ⟨Hh.out.1.len, by rw [hgs.out.1, List.length_map, ← Hn.out]; exact Hh.out.2.2.2⟩, Hh.out.1.reads, Hh.out.2.1, Hh.out.2.2.1, hgs.out.2.1⟩, fun h => absurd hgs.out.2.2 h⟩
def enc (z : Int) : Value := .agg #[.bool (decide (z < 0)), .string ⟨(bys z.natAbs).toArray⟩]
def none_ : Value := .agg #[.bool false, .string ⟨#[]⟩]
def fits (z : Int) : Prop := bl z.natAbs ≤ 131072
def Tells (w : World) (z : Int) (e : Ending) (w' : World) : Prop := (fits z → e = .returned (.tuple #[enc z, .int .i64 0])) ∧ (¬ fits z → e = .returned (.tuple #[none_, .int .i64 4])) ∧ Below w.heap.size w w'
theorem sg_neg (z : Int) : decide (sg z < 0) = decide (z < 0) := by
 unfold sg
 by_cases h0 : z = 0
 ·subst h0; rfl
 ·by_cases h1 : z < 0
  ·simp [h0, h1]
  ·simp [h0, h1]
set_option maxRecDepth 100000 in
set_option maxHeartbeats 4000000 in
theorem told_any {w : World} {gx : Nat} {z : Int} (hx : IntB w gx z) (hxl : (wds z.natAbs).length ≤ 100000000) :
  Calls Tryz.prog 106 #[.pointer (some ⟨gx, 0, none⟩)] w (Tells w z) := by
 have hb0 := new_below w (.cells #[.bool false, .string ⟨#[]⟩] 34)
 have hx1 := hx.below hb0
 have HB := Lib.hid (bitlen_any hx1 (by omega))
 unfold Bitted at HB
 obtain ⟨b, hb⟩ : ∃ b, b = bl z.natAbs := ⟨_, rfl⟩
 rw [← hb] at HB
 have Hb := Lib.hid hb
 have Hx := Lib.hid (And.intro hx1 (And.intro hxl hb0))
 by_cases hf : b ≤ 131072
 ·have hfi : (b : Int) ≤ 131072 := by omega
  have Hf := Lib.hid (show fits z by unfold fits; rw [← hb]; exact hf)
  clear hb hx hx1 hxl hf hb0
  go_enter Tryz.func106, Tryz.ntmps106
  go_wp2_with fail
  refine HB.out.mono ?_
  rintro e w2 ⟨q, rfl, rfl⟩
  have HS := Lib.hid (sign_any (Hx.out.1.drewN q))
  obtain ⟨sv, hsv⟩ : ∃ sv, sv = sg z := ⟨_, rfl⟩
  rw [← hsv] at HS
  have Hsv := Lib.hid hsv
  clear hsv
  go_wp2_with fail
  refine HS.out.mono ?_
  rintro e w3 ⟨rfl, rfl⟩
  have HY := Lib.hid (bytes_any (m := z.natAbs) z rfl (Hx.out.1.drewN q) (by have := Hx.out.2.1; omega))
  go_wp2_with fail
  refine HY.out.mono ?_
  rintro e w4 ⟨A, n, rfl, hn, hr, hb4⟩
  have hstr := run_str (c := n) hn.out hr
  have hb24 : Below (w.alloc (.cells #[.bool false, .string ⟨#[]⟩] 34)).heap.size (w.alloc (.cells #[.bool false, .string ⟨#[]⟩] 34)) w4 := undrewN hb4
  have hbk := (Blk.new w 34 #[.bool false, .string ⟨#[]⟩]).below hb24 (by simp)
  have d0 := hbk.cell 0
  have d1 := hbk.cell 1
  have f0 := hbk.frozen 0
  have f1 := hbk.frozen 1
  have Hb24 := Lib.hid (And.intro hbk hb24)
  clear hbk hb24 hb4 hr
  go_wp2_with fail
  refine bodyPost_ret (v := .tuple #[.agg #[.bool (decide (sv < 0)), .string ⟨(bys z.natAbs).toArray⟩], .int .i64 0]) (by simp [results, Tryz.results106, go_sem, d0, d1]) rfl ?_
  refine ⟨fun _ => ?_, fun h => absurd Hf.out h, ?_⟩
  ·unfold enc
   rw [Hsv.out, sg_neg]
  ·exact ((Hx.out.2.2.trans (Hb24.out.2.mono (by simp))).setCell (Nat.le_refl _) _).setCell (Nat.le_refl _) _
 ·have hfi : (131072 : Int) < (b : Int) := by omega
  have Hf := Lib.hid (show ¬ fits z by unfold fits; rw [← hb]; exact hf)
  have hbk := Blk.new w 34 #[.bool false, .string ⟨#[]⟩]
  clear hb hx hx1 hxl hf
  go_enter Tryz.func106, Tryz.ntmps106
  go_wp2_with fail
  refine HB.out.mono ?_
  rintro e w2 ⟨q, rfl, rfl⟩
  have d0 := (hbk.drewN q).cell 0
  have d1 := (hbk.drewN q).cell 1
  go_wp2_with fail
  refine bodyPost_ret (v := .tuple #[.agg #[.bool false, .string ⟨#[]⟩], .int .i64 4]) (by simp [results, Tryz.results106, go_sem, d0, d1]) rfl ?_
  refine ⟨fun h => absurd h Hf.out, fun _ => rfl, ?_⟩
  exact ((below_drewN hb0 q).setCell (Nat.le_refl _) _).setCell (Nat.le_refl _) _
def Ans (w : World) (ok : Prop) (z : Int) (e : Ending) (w' : World) : Prop := (ok → fits z → e = .returned (.tuple #[enc z, .int .i64 0])) ∧ (ok → ¬ fits z → e = .returned (.tuple #[none_, .int .i64 4])) ∧ (¬ ok → e = .returned (.tuple #[none_, .int .i64 2])) ∧ Below w.heap.size w w'
theorem len_num {a : Bool × ByteArray} (h : MayL a.1 a.2.data.toList) : (wds (num a).natAbs).length ≤ 5000 := by
 unfold num
 rw [sgn_abs]
 exact len_mag h.1
theorem blk_one {w : World} (a : Bool × ByteArray) : ReadsWh (w.alloc (.cells #[.bool a.1, .string a.2] 34)) (w.heap.size + 1) (some ⟨w.heap.size, 0, none⟩) [a] := by
 refine ⟨rfl, fun _ => ⟨_, rfl, Nat.lt_succ_self _, fun j u hu => ?_⟩⟩
 rw [Addr.add_lit, Nat.zero_add, (Blk.new w 34 #[.bool a.1, .string a.2]).cell j]
 rw [← hu]
 match j with
 | 0 => rfl
 | 1 => rfl
 | _ + 2 => rfl
def One (w : World) (na : Bool) (sa : ByteArray) (e : Ending) (w' : World) : Prop :=
 (MayL na sa.data.toList → ∃ ad c g, e = .returned (.tuple #[.slice (some ad) 1 c, .bool true]) ∧ ad.block < w'.heap.size ∧ w'.cell? ad = some (.pointer (some ⟨g, 0, none⟩)) ∧ IntB w' g (num (na, sa)) ∧ w.heap.size ≤ g) ∧
 (¬ MayL na sa.data.toList → ∃ A n c, e = .returned (.tuple #[.slice A n c, .bool false])) ∧ Below w.heap.size w w'
theorem of_one {w : World} {na : Bool} {sa : ByteArray} :
  Calls Tryz.prog 120 #[.slice (some ⟨w.heap.size, 0, none⟩) 1 1] (w.alloc (.cells #[.bool na, .string sa] 34)) (One w na sa) := by
 refine (ofs_any (c := 1) (n := 1) (blk_one (w := w) (na, sa)) (by simp) rfl (by omega)).mono ?_
 rintro e w5 ⟨h1, h2⟩
 have hb0 := new_below w (.cells #[.bool na, .string sa] 34)
 have hall : AllMay [(na, sa)] ↔ MayL na sa.data.toList := by unfold AllMay; simp
 by_cases hm : MayL na sa.data.toList
 ·obtain ⟨A5, n5, c5, gs, rfl, hn5, hr5, hi5, hb5, hge⟩ := h1 (hall.2 hm)
  match gs, hi5, hn5, hr5, hge with
  | [g], ⟨hi, _⟩, hn5, hr5, hge =>
   obtain ⟨ad, rfl, hadb, p0⟩ := hr5.at_ (k := 0) (by simp)
   rw [Addr.add_zero'] at p0
   obtain rfl : n5 = 1 := hn5.out.1
   have h5 := hge g (List.mem_singleton.2 rfl)
   rw [World.size_alloc] at h5
   exact ⟨fun _ => ⟨ad, c5, g, rfl, hadb, p0, hi, by omega⟩, fun h => absurd hm h, hb0.trans (hb5.mono (by simp))⟩
  | [], h, _, _, _ => exact h.elim
  | _ :: _ :: _, ⟨_, _, h⟩, _, _, _ => exact h.elim
 ·obtain ⟨A5, n5, c5, rfl, hb5⟩ := h2 (fun h => hm (hall.1 h))
  exact ⟨fun h => absurd h hm, fun _ => ⟨_, _, _, rfl⟩, hb0.trans (hb5.mono (by simp))⟩
theorem bval_pos : ∀ {l : List UInt8}, Formed l → l ≠ [] → 0 < bval l
 | [], _, h => absurd rfl h
 | b :: r, h, _ => by
  rw [bval_cons]
  have h1 : b ≠ 0 := h b rfl
  have h2 : 0 < b.toNat := by
   rcases Nat.eq_zero_or_pos b.toNat with h0 | h0
   ·exact absurd (UInt8.toNat_inj.1 h0) h1
   ·exact h0
  exact Nat.lt_of_lt_of_le (Nat.mul_pos h2 (Nat.pow_pos (by decide))) (Nat.le_add_right _ _)
theorem sg_num {n : Bool} {s : ByteArray} (h : 0 < bval s.data.toList) : sg (num (n, s)) = if n then -1 else 1 := by
 unfold num
 cases n
 ·show sg ((bval s.data.toList : Nat) : Int) = 1
  unfold sg; rw [if_neg (by omega), if_neg (by omega)]
 ·show sg (-((bval s.data.toList : Nat) : Int)) = -1
  unfold sg; rw [if_neg (by omega), if_pos (by omega)]
def Said (w : World) (ok : Prop) (v no : Value) (e : Ending) (w' : World) : Prop := (ok → e = .returned v) ∧ (¬ ok → e = .returned no) ∧ Below w.heap.size w w'
set_option maxRecDepth 100000 in
set_option maxHeartbeats 2000000 in
theorem text_any {w : World} {na : Bool} {sa : ByteArray} :
  Calls Tryz.prog 92 #[.agg #[.bool na, .string sa]] w (Said w (MayL na sa.data.toList) (.tuple #[.string ⟨(txt (num (na, sa))).toArray⟩, .int .i64 0]) (.tuple #[.string ⟨#[]⟩, .int .i64 2])) := by
 have hb1 := new_below w (.cells #[.bool na, .string sa] 34)
 have hO := of_one (w := w.alloc (.cells #[.bool na, .string sa] 34)) (na := na) (sa := sa)
 rw [World.size_alloc] at hO
 have HO := Lib.hid hO
 have Hb := Lib.hid hb1
 clear hO hb1
 go_enter Tryz.func92, Tryz.ntmps92
 go_wp2_with fail
 refine HO.out.mono ?_
 rintro e w5 ⟨h1, h2, hb5⟩
 have hb05 := Hb.out.trans (hb5.mono (by simp))
 have H5 := Lib.hid hb05
 clear hb5 hb05
 by_cases hm : MayL na sa.data.toList
 ·obtain ⟨ad, c, g, rfl, hadb, p0, hi, hg⟩ := h1 hm
  have Hlen := Lib.hid (len_num (a := (na, sa)) hm)
  have HB := Lib.hid (string_any hi (by have := Hlen.out; omega))
  have Hm := Lib.hid hm
  clear h1 h2 hm hi
  go_wp2_with fail
  refine HB.out.mono ?_
  rintro e w6 ⟨rfl, hb6⟩
  go_wp2
  refine bodyPost_ret (v := .tuple #[.string ⟨(txt (num (na, sa))).toArray⟩, .int .i64 0]) (by simp [results, Tryz.results92, go_sem]) rfl ?_
  exact ⟨fun _ => rfl, fun h => absurd Hm.out h, H5.out.trans (hb6.mono H5.out.size)⟩
 ·obtain ⟨A5, n5, c5, rfl⟩ := h2 hm
  have Hm := Lib.hid hm
  clear h1 h2 hm
  go_wp2
  refine bodyPost_ret (v := .tuple #[.string ⟨#[]⟩, .int .i64 2]) (by simp [results, Tryz.results92, go_sem]) rfl ?_
  exact ⟨fun h => absurd h Hm.out, fun _ => rfl, H5.out⟩
set_option maxRecDepth 100000 in
set_option maxHeartbeats 2000000 in
theorem wsign_any {w : World} {na : Bool} {sa : ByteArray} :
  Calls Tryz.prog 118 #[.agg #[.bool na, .string sa]] w (Said w (MayL na sa.data.toList) (.int .i64 (sg (num (na, sa)))) (.int .i64 0)) := by
 have hb1 := new_below w (.cells #[.bool na, .string sa] 34)
 by_cases hm : MayL na sa.data.toList
 ·have HC := Lib.hid (check_ok (w := w.alloc (.cells #[.bool na, .string sa] 34)) hm)
  have hl : sa.data.toList.length = sa.size := Array.length_toList
  have Hm := Lib.hid hm
  rcases Nat.eq_zero_or_pos sa.size with h0 | h0
  ·have he : sa.data.toList = [] := List.eq_nil_of_length_eq_zero (by omega)
   obtain rfl := str_empty he
   obtain rfl := hm.2.1 he
   have Hb := Lib.hid hb1
   clear hl h0 he hb1 hm
   go_enter Tryz.func118, Tryz.ntmps118
   go_wp2_with fail
   refine HC.out.mono ?_
   rintro e w6 ⟨rfl, hb6⟩
   have hc0 : w6.cell? ⟨w.heap.size, 0, none⟩ = some (.bool false) := ((Blk.new w 34 #[.bool false, .string ⟨#[]⟩]).below hb6 (by simp)).cell 0
   have hc1 : w6.cell? ⟨w.heap.size, 1, none⟩ = some (.string ⟨#[]⟩) := ((Blk.new w 34 #[.bool false, .string ⟨#[]⟩]).below hb6 (by simp)).cell 1
   have Hb6 := Lib.hid hb6
   clear hb6
   go_wp2
   go_ret
   exact ⟨fun _ => rfl, fun h => absurd Hm.out h, Hb.out.trans (Hb6.out.mono (by simp))⟩
  ·obtain ⟨e1, e2⟩ := str_facts h0
   have hpos : 0 < bval sa.data.toList := bval_pos hm.2.2 (by intro h; rw [h] at hl; simp at hl; omega)
   have Hb := Lib.hid hb1
   have Hpos := Lib.hid hpos
   clear hl h0 hb1 hm hpos
   cases na with
   | true =>
    go_enter Tryz.func118, Tryz.ntmps118
    go_wp2_with fail
    refine HC.out.mono ?_
    rintro e w6 ⟨rfl, hb6⟩
    have hc0 : w6.cell? ⟨w.heap.size, 0, none⟩ = some (.bool true) := ((Blk.new w 34 #[.bool true, .string sa]).below hb6 (by simp)).cell 0
    have hc1 : w6.cell? ⟨w.heap.size, 1, none⟩ = some (.string sa) := ((Blk.new w 34 #[.bool true, .string sa]).below hb6 (by simp)).cell 1
    have Hb6 := Lib.hid hb6
    clear hb6
    go_wp2
    go_ret
    exact ⟨fun _ => by rw [sg_num Hpos.out]; rfl, fun h => absurd Hm.out h, Hb.out.trans (Hb6.out.mono (by simp))⟩
   | false =>
    go_enter Tryz.func118, Tryz.ntmps118
    go_wp2_with fail
    refine HC.out.mono ?_
    rintro e w6 ⟨rfl, hb6⟩
    have hc0 : w6.cell? ⟨w.heap.size, 0, none⟩ = some (.bool false) := ((Blk.new w 34 #[.bool false, .string sa]).below hb6 (by simp)).cell 0
    have hc1 : w6.cell? ⟨w.heap.size, 1, none⟩ = some (.string sa) := ((Blk.new w 34 #[.bool false, .string sa]).below hb6 (by simp)).cell 1
    have Hb6 := Lib.hid hb6
    clear hb6
    go_wp2
    go_ret
    exact ⟨fun _ => by rw [sg_num Hpos.out]; rfl, fun h => absurd Hm.out h, Hb.out.trans (Hb6.out.mono (by simp))⟩
 ·have HC := Lib.hid (check_no (w := w.alloc (.cells #[.bool na, .string sa] 34)) hm)
  have Hm := Lib.hid hm
  have Hb := Lib.hid hb1
  clear hm hb1
  go_enter Tryz.func118, Tryz.ntmps118
  go_wp2_with fail
  refine HC.out.mono ?_
  rintro e w6 ⟨rfl, hb6⟩
  have Hb6 := Lib.hid hb6
  clear hb6
  go_wp2
  go_ret
  exact ⟨fun h => absurd h Hm.out, fun _ => rfl, Hb.out.trans (Hb6.out.mono (by simp))⟩
theorem zslot (V : World) : IntS (V.alloc (.cells #[.bool false, .slice none 0 0] 151)) V.heap.size := (IntB.zero V).slot
def Env (w0 W : World) (l : List (Nat × TypeId × Array Value)) : Prop := Below w0.heap.size w0 W ∧ ∀ x ∈ l, Blk W x.1 x.2.1 x.2.2
section
variable {w0 W W' : World} {l : List (Nat × TypeId × Array Value)} {g : Nat} {t : TypeId} {cs : Array Value}
theorem Env.nil (w : World) : Env w w [] := ⟨Below.refl _ _, fun _ h => by cases h⟩
theorem Env.call (h : Env w0 W l) (hb : Below W.heap.size W W') : Env w0 W' l := ⟨h.1.trans (hb.mono h.1.size), fun x hx => (h.2 x hx).below hb (h.2 x hx).lt⟩
theorem Env.drew (h : Env w0 W l) : Env w0 W.drew l := ⟨h.1.drew, h.2⟩
theorem Env.new (h : Env w0 W l) (t : TypeId) (cs : Array Value) : Env w0 (W.alloc (.cells cs t)) ((W.heap.size, t, cs) :: l) :=
 ⟨h.1.alloc h.1.size _, fun x hx => by
  rcases List.mem_cons.1 hx with rfl | hx
  ·exact Blk.new W t _
  ·exact (h.2 x hx).alloc _⟩
theorem Env.other (h : Env w0 W l) (o : Obj) : Env w0 (W.alloc o) l := ⟨h.1.alloc h.1.size _, fun x hx => (h.2 x hx).alloc _⟩
theorem Env.at_ (h : Env w0 W l) (i : Nat) (hx : l[i]? = some (g, t, cs)) : Blk W g t cs := h.2 _ (List.mem_of_getElem? hx)
end
def codeRest : Nat → Code → Code
 | n + 1, .seq _ b => codeRest n b
 | _, c => c
def bodyOf (f : Func) : Code := f.body.getD .skip
theorem may_num {n : Bool} {s : ByteArray} (h : MayL n s.data.toList) : enc (num (n, s)) = .agg #[.bool n, .string s] := by
 unfold enc num
 rw [sgn_neg, sgn_abs, show bys (bval s.data.toList) = s.data.toList from bys_bval _ _ rfl h.2.2]
 have h1 : (n && decide (0 < bval s.data.toList)) = n := by
  cases n
  ·rfl
  ·have hne : s.data.toList ≠ [] := fun h0 => absurd (h.2.1 h0) (by decide)
   rw [Bool.true_and, decide_eq_true (bval_pos h.2.2 hne)]
 rw [h1]
theorem enc_one : enc 1 = .agg #[.bool false, .string ⟨#[1]⟩] := by
 unfold enc
 rw [show (1 : Int).natAbs = 1 from rfl, bys_pos (by decide), show 1 / 256 = 0 from rfl, bys_zero]
 rfl
theorem may_none {n : Bool} {s : ByteArray} (hm : MayL n s.data.toList) (h : s.size = 0) : n = false ∧ s = ⟨#[]⟩ := by
 have hl : s.data.toList.length = s.size := Array.length_toList
 have h1 := List.eq_nil_of_length_eq_zero (show s.data.toList.length = 0 by omega)
 exact ⟨hm.2.1 h1, str_empty h1⟩
section
variable {w : World} {na nb : Bool} {sa sb : ByteArray} {z : Int} {s : Bool} {b : ByteArray}
end
theorem str_none {s : ByteArray} (h : s.size = 0) : s.toList.isEmpty = true ∧ s.toList = [] := by
 have hl : s.data.toList.length = s.size := Array.length_toList
 rw [toL]
 have : s.data.toList = [] := List.eq_nil_of_length_eq_zero (by omega)
 rw [this]
 exact ⟨rfl, rfl⟩
end Go.Proofs.YtebpggfccljagaaGreatDoor
namespace Go.Proofs.YtebpggfccljagaaGreatDoor
namespace Wh
def dv (l : List UInt8) : Nat := l.foldl (fun a b => 10 * a + (b.toNat - 48)) 0
def IsDig (b : UInt8) : Prop := 48 ≤ b.toNat ∧ b.toNat ≤ 57
def AllDig (l : List UInt8) : Prop := ∀ b ∈ l, IsDig b
theorem dv_nil : dv [] = 0 := rfl
theorem dv_snoc (l : List UInt8) (b : UInt8) : dv (l ++ [b]) = 10 * dv l + (b.toNat - 48) := by
 unfold dv; rw [List.foldl_append]; rfl
theorem dv_app (l : List UInt8) : ∀ (k : Nat) (m : List UInt8), m.length = k → dv (l ++ m) = dv l * 10 ^ k + dv m
 | 0, m, h => by
  obtain rfl := List.eq_nil_of_length_eq_zero h
  rw [List.append_nil, Nat.pow_zero, Nat.mul_one, dv_nil, Nat.add_zero]
 | k + 1, m, h => by
  have hne : m ≠ [] := by intro h0; rw [h0] at h; simp at h
  obtain ⟨m', b, rfl⟩ : ∃ m' b, m = m' ++ [b] := ⟨m.dropLast, m.getLast hne, (List.dropLast_concat_getLast hne).symm⟩
  rw [List.length_append] at h
  simp only [List.length_cons, List.length_nil] at h
  rw [← List.append_assoc, dv_snoc, dv_app l k m' (by omega), dv_snoc, Nat.pow_succ]
  rw [show dv l * (10 ^ k * 10) = 10 * (dv l * 10 ^ k) by ac_rfl]
  omega
theorem allDig_app {l m : List UInt8} : AllDig (l ++ m) ↔ AllDig l ∧ AllDig m :=
 ⟨fun h => ⟨fun b hb => h b (List.mem_append_left _ hb), fun b hb => h b (List.mem_append_right _ hb)⟩, fun h b hb => (List.mem_append.1 hb).elim (h.1 b) (h.2 b)⟩
theorem dv_lt : ∀ (k : Nat) (l : List UInt8), l.length = k → AllDig l → dv l < 10 ^ k
 | 0, l, h, _ => by
  obtain rfl := List.eq_nil_of_length_eq_zero h
  exact Nat.one_pos
 | k + 1, m, h, hd => by
  have hne : m ≠ [] := by intro h0; rw [h0] at h; simp at h
  obtain ⟨m', b, rfl⟩ : ∃ m' b, m = m' ++ [b] := ⟨m.dropLast, m.getLast hne, (List.dropLast_concat_getLast hne).symm⟩
  rw [List.length_append] at h
  simp only [List.length_cons, List.length_nil] at h
  have h1 := dv_lt k m' (by omega) (allDig_app.1 hd).1
  have h2 := hd b (by simp)
  unfold IsDig at h2
  rw [dv_snoc, Nat.pow_succ]
  omega
theorem allDig_cons {b : UInt8} {l : List UInt8} : AllDig (b :: l) ↔ IsDig b ∧ AllDig l :=
 ⟨fun h => ⟨h b List.mem_cons_self, fun x hx => h x (List.mem_cons_of_mem _ hx)⟩, fun h x hx => by
  rcases List.mem_cons.1 hx with rfl | hx
  ·exact h.1
  ·exact h.2 x hx⟩
theorem dv_take {l : List UInt8} {i : Nat} (h : i < l.length) : dv (l.take (i + 1)) = 10 * dv (l.take i) + (l[i].toNat - 48) := by
 rw [List.take_succ_eq_append_getElem h, dv_snoc]
theorem allDig_take {l : List UInt8} {i : Nat} (h : i < l.length) (h1 : AllDig (l.take i)) (h2 : IsDig l[i]) : AllDig (l.take (i + 1)) := by
 rw [List.take_succ_eq_append_getElem h]
 exact allDig_app.2 ⟨h1, allDig_cons.2 ⟨h2, fun b hb => by cases hb⟩⟩
theorem mul_step {o a add x by_ add0 P : Nat} (h : o + P * add = a * by_ + add0) : o + P * ((add + x * by_) % 4294967296) + P * 4294967296 * ((add + x * by_) / 4294967296) = (a + P * x) * by_ + add0 := by
 have h1 := Nat.mod_add_div (add + x * by_) 4294967296
 have h2 : P * ((add + x * by_) % 4294967296) + P * 4294967296 * ((add + x * by_) / 4294967296) = P * add + P * x * by_ := by
  rw [Nat.mul_assoc P, ← Nat.mul_add, h1, Nat.mul_add, Nat.mul_assoc]
 rw [Nat.add_mul]
 omega
theorem mul_bounds {add x by_ : Nat} (h1 : add ≤ 999999999) (h2 : x < 4294967296) (h3 : by_ ≤ 1000000000) : add + x * by_ ≤ 4294967295999999999 ∧ (add + x * by_) / 4294967296 ≤ 999999999 := by
 have h4 : x * by_ ≤ 4294967295 * 1000000000 := Nat.mul_le_mul (by omega) h3
 omega
theorem ten_le {n : Nat} (h : n ≤ 9) : 10 ^ n ≤ 1000000000 := Nat.le_trans (Nat.pow_le_pow_right (by decide) h) (by decide)
end Wh
end Go.Proofs.YtebpggfccljagaaGreatDoor
namespace Go.Proofs.YtebpggfccljagaaGreatDoor
open Go.RowKit
open Wh
set_option linter.unusedSimpArgs false
set_option linter.unusedVariables false
theorem OwnW.set_ {w : World} {B n c i : Nat} {A : Option Addr} {l : List Nat} (h : OwnW w B (.slice A n c) l) (hi : i < l.length) :
  ∃ g, A = some ⟨g, 0, none⟩ ∧ B ≤ g ∧ g < w.heap.size ∧ w.cell? ⟨g, i, none⟩ = some (.int .u32 ((l[i] : Nat) : Int)) ∧ w.frozen? ⟨g, i, none⟩ = false ∧ ∀ y : Nat, OwnW (w.setCell ⟨g, i, none⟩ (.int .u32 (y : Int))) B (.slice A n c) (l.set i y) := by
 rcases h.2 with ⟨_, h0⟩ | ⟨g, cap, cur, hv, hb, hh, hc, hm, hs, ht⟩
 ·omega
 ·injection hv with e1 e2 e3
  subst e1 e2 e3
  have hk : Blk w g 163 cur := hh
  rw [Nat.mul_one] at ht
  have hcur : cur.toList[i]? = some (wv l[i]) := by
   have h1 : (cur.toList.take l.length)[i]? = (l.map wv)[i]? := by rw [ht]
   rwa [List.getElem?_take, if_pos hi, List.getElem?_map, List.getElem?_eq_getElem hi] at h1
  refine ⟨g, rfl, hb, hk.lt, ?_, hk.frozen i, fun y => ⟨by rw [List.length_map, List.length_set, Nat.mul_one], .inr ⟨g, c, cur.setIfInBounds i (wv y), by rw [List.length_set], hb, ?_, ?_, hm, ?_, ?_⟩⟩⟩
  ·rw [hk.cell i, ← Array.getElem?_toList, hcur]; rfl
  ·exact hk.set_ i (wv y)
  ·rw [List.length_set]; exact hc
  ·rw [Array.size_setIfInBounds]; exact hs
  ·rw [Nat.mul_one, List.length_set, Array.toList_setIfInBounds, List.take_set, ht, List.map_set]
theorem OwnW.kept' {w w' : World} {B : Nat} {v : Value} {l : List Nat} (h : OwnW w B v l) (hb : Below w.heap.size w w') : OwnW w' B v l := by
 refine ⟨h.1, ?_⟩
 rcases h.2 with h1 | ⟨g, cap, cur, hv, hg, hh, hr⟩
 ·exact .inl h1
 ·exact .inr ⟨g, cap, cur, hv, hg, (hb.block g (Array.getElem?_eq_some_iff.1 hh).1).trans hh, hr⟩
theorem grown_of {w wr w' : World} {g : Nat} (h : Below w.heap.size w wr) (hg : wr.grownBy w' (some g)) : w.grownBy w' (some g) := by
 refine ⟨hg.os.trans h.os, hg.tape.trans h.tape, hg.output.trans h.output, Nat.le_trans h.size hg.size, fun i hi hne => ?_⟩
 exact (hg.block i (Nat.lt_of_lt_of_le hi h.size) hne).trans (h.block i hi)
theorem grown_below {w w' : World} {g : Nat} (h : Below w.heap.size w w') : w.grownBy w' (some g) := ⟨h.os, h.tape, h.output, h.size, fun i hi _ => h.block i hi⟩
def StrSet (w : World) (g : Nat) (neg : Bool) (t : List UInt8) (e : Ending) (w' : World) : Prop :=
 ∃ p b, e = .returned (.tuple #[.pointer p, .bool b]) ∧ w.grownBy w' (some g) ∧ (AllDig t → p = some ⟨g, 0, none⟩ ∧ b = true ∧ IntB w' g (sgn neg (dv t)))
theorem drop_bytes (t : ByteArray) (k : Nat) (hk : k ≤ t.size) : (t.extract k t.size).data.toList = t.data.toList.drop k ∧ (t.extract k t.size).size = t.size - k := by
 refine ⟨?_, by rw [ByteArray.size_extract]; omega⟩
 rw [ByteArray.data_extract, Array.toList_extract, List.extract_eq_take_drop]
 rw [List.take_of_length_le]
 rw [List.length_drop, show t.data.toList.length = t.size from Array.length_toList]
 exact Nat.le_refl _
theorem take_bytes (t : ByteArray) (k : Nat) (hk : k ≤ t.size) : (t.extract 0 k).data.toList = t.data.toList.take k ∧ (t.extract 0 k).size = k := by
 refine ⟨?_, by rw [ByteArray.size_extract]; omega⟩
 rw [ByteArray.data_extract, Array.toList_extract, List.extract_eq_take_drop, List.drop_zero]
 rfl
set_option maxRecDepth 100000 in
set_option maxHeartbeats 2000000 in
theorem setstr_core {w : World} {g : Nat} {s : ByteArray} {neg : Bool} {v u3 u4 u5 u6 u7 u9 u10 u11 u12 u13 u14 u15 u16 u17 u18 u19 u20 u21 u22 u23 u24 u25 u26 u27 u28 u29 u30 u31 u32 u33 u34 u35 u36 u37 u38 u39 u40 u41 u42 u43 u44 u45 u46 u47 u48 u49 u50 u51 u52 u53 u54 u55 u56 u57 u58 u59 u60 u61 u62 u63 u64 u65 u66 u67 u68 u69 u70 u71 u72 u73 u74 u75 u76 u77 u78 u79 u80 u81 u82 u83 u84 u85 u86 u87 u88 u89 u90 u91 u92 u93 u94 u95 u96 u97 u98 u99 u100 u101 u102 : Value} {Q : Ending → World → Prop} (hz : IntS w g) (hl : s.size ≤ 100000000) (hQ0 : ∀ e w', StrSet w g neg s.data.toList e w' → Q e w') :
  (codeRest 4 (bodyOf Tryz.f105)).wp Tryz.prog (bodyPost Tryz.prog Tryz.f105 Q) ⟨#[.pointer (some ⟨g, 0, none⟩), .string s, v, u3, u4, u5, u6, u7, .bool neg, u9, u10, u11, u12, u13, u14, u15, u16, u17, u18, u19, u20, u21, u22, u23, u24, u25, u26, u27, u28, u29, u30, u31, u32, u33, u34, u35, u36, u37, u38, u39, u40, u41, u42, u43, u44, u45, u46, u47, u48, u49, u50, u51, u52, u53, u54, u55, u56, u57, u58, u59, u60, u61, u62, u63, u64, u65, u66, u67, u68, u69, u70, u71, u72, u73, u74, u75, u76, u77, u78, u79, u80, u81, u82, u83, u84, u85, u86, u87, u88, u89, u90, u91, u92, u93, u94, u95, u96, u97, u98, u99, u100, u101, u102], []⟩ w := by
 conv => enter [2]; dsimp only [codeRest, bodyOf, Tryz.f105, Option.getD_some]
 obtain ⟨l, hle⟩ : ∃ l, l = s.data.toList := ⟨_, rfl⟩
 have hll : l.length = s.size := by rw [hle]; exact Array.length_toList
 rw [← hle] at hQ0
 have hQ := Lib.hid hQ0
 clear hQ0
 have kc := fun (W : World) (s : ByteArray) => Lib.run_convert_string_bytes (P := Tryz.prog) W 9 97 5 s Tryz.underlying9 Tryz.underlying97 Tryz.underlying5
 have Hl := Lib.hid (And.intro hll hz)
 have Hll := Lib.hid hl
 clear hll hz
 go_wp2_with fail
 go_loopg [1, 9] s.size (fun k sv lv wr => ∃ (T : ByteArray) (A : Option Addr) (n c j tn : Nat) (L : List Nat), sv = .string T ∧ lv = .slice A n c ∧ T.size = tn ∧ tn ≤ 100000000 ∧ Hid (k = tn) ∧ Hid (tn = l.length - j ∧ j ≤ l.length ∧ T.data.toList = l.drop j) ∧ Hid (OwnW wr w.heap.size (.slice A n c) L) ∧ Hid (Below w.heap.size w wr) ∧ n ≤ 100000000 ∧ Hid (AllDig (l.take j) ∧ Wd L ∧ val L = dv (l.take j) ∧ L.length ≤ j))
 case atStart => exact ⟨s, none, 0, 0, 0, s.size, [], rfl, rfl, rfl, hl, Lib.hid rfl, Lib.hid ⟨by rw [Hl.out.1]; rfl, Nat.zero_le _, by rw [List.drop_zero, hle]⟩, Lib.hid (OwnW.nil _ _), Lib.hid (Below.refl _ _), by omega, Lib.hid ⟨fun b hb => (by simp at hb), wd_nil, rfl, Nat.le_refl _⟩⟩
 case round =>
  obtain ⟨T, A, n, c, j, tn, L, rfl, rfl, htn, htl, Hk, HT, Ho, Hb, hnl, HL⟩ := hrel
  have Htn := Lib.hid htn
  clear hle hl
  rcases Nat.eq_zero_or_pos tn with h0 | h0
  case inl =>
   subst h0
   have hj : j = l.length := by have := HT.out; omega
   subst hj
   have hi := is_any neg (Hl.out.2.below Hb.out) Ho.out.reads (Nat.le_refl _) Ho.out.len.1 Ho.out.len.2.1 Ho.out.len.2.2 HL.out.2.1
   rw [HL.out.2.2.1, List.take_length] at hi
   have HI := Lib.hid hi
   clear hi
   go_wp2_with fail
   refine HI.out.mono ?_
   rintro e W' ⟨rfl, hi2, hg2⟩
   go_wp2_with fail
   exact hQ.out _ _ ⟨some ⟨g, 0, none⟩, true, rfl, grown_of Hb.out hg2, fun _ => ⟨rfl, rfl, hi2⟩⟩
  case inr =>
   obtain ⟨N, hN⟩ : ∃ N : Nat, N = if tn < 9 then tn else 9 := ⟨_, rfl⟩
   have hN9 : N ≤ 9 := by rw [hN]; split <;> omega
   have hNt : N ≤ tn := by rw [hN]; split <;> omega
   have hN0 : 0 < N := by rw [hN]; split <;> omega
   have qN : (if (tn : Int) < 9 then (tn : Int) else 9) = (N : Int) := by rw [hN]; split <;> split <;> omega
   obtain ⟨C, hC⟩ : ∃ C, T.extract 0 N = C := ⟨_, rfl⟩
   obtain ⟨T', hT'⟩ : ∃ T', T.extract N tn = T' := ⟨_, rfl⟩
   have hCb := take_bytes T N (by omega)
   have hTb := drop_bytes T N (by omega)
   rw [htn, hT'] at hTb
   rw [hC] at hCb
   obtain ⟨cs, hcs⟩ : ∃ cs, cs = (l.drop j).take N := ⟨_, rfl⟩
   rw [HT.out.2.2, ← hcs] at hCb
   rw [HT.out.2.2, List.drop_drop] at hTb
   have hcl : cs.length = N := by rw [hcs, List.length_take, List.length_drop]; have := HT.out; omega
   have hCs := hCb.2
   have HC := Lib.hid (And.intro hCb.1 (And.intro hTb (And.intro hcs hcl)))
   have Hh := Lib.hid (And.intro hN9 (And.intro hNt hN0))
   clear hCb hTb hcs hcl hN
   go_wp2_with fail
   have Hb1 := Lib.hid (Hb.out.trans ((bytes_below wr C).mono Hb.out.size))
   have Ho1 := Lib.hid (Ho.out.kept' (bytes_below wr C))
   have hrd := bytes_reads wr C
   rw [HC.out.1] at hrd
   have Hrd := Lib.hid hrd
   clear hrd hC Ho Hb kc hCs qN
   generalize Lib.bytesWorld wr 5 C = W1 at *
   go_loopg [11, 12, 48] N (fun k bv av iv wi => ∃ (i P D : Nat), bv = .int .u64 (P : Int) ∧ av = .int .u64 (D : Int) ∧ iv = .int .i64 (i : Int) ∧ Hid (k = N - i) ∧ i ≤ N ∧ P ≤ 1000000000 ∧ D ≤ 999999999 ∧ Hid (P = 10 ^ i ∧ D = dv (cs.take i) ∧ AllDig (cs.take i)) ∧ W1 = wi)
   case atStart => exact ⟨0, 1, 0, rfl, rfl, rfl, Lib.hid rfl, Nat.zero_le _, by omega, by omega, Lib.hid ⟨rfl, rfl, fun b hb => (by simp at hb)⟩, rfl⟩
   case round =>
    obtain ⟨i, P, D, rfl, rfl, rfl, Hki, hiN, hP, hD, HP, rfl⟩ := hrel
    by_cases hin : i < N
    ·have hil : i < cs.length := by rw [HC.out.2.2.2]; exact hin
     obtain ⟨ad, e, _, c1⟩ := ReadsB.at_ Hrd.out hil
     injection e with e
     subst e
     rw [Addr.add_lit, Nat.zero_add] at c1
     have hmem : cs[i] ∈ cs := List.getElem_mem hil
     have hsub : ∀ b, b ∈ cs → b ∈ l := fun b hb => by
      rw [HC.out.2.2.1] at hb
      exact List.mem_of_mem_drop (List.mem_of_mem_take hb)
     have hadl : AllDig l → IsDig cs[i] := fun h => h _ (hsub _ hmem)
     have Hd1 := Lib.hid (And.intro (dv_take hil) (And.intro (fun h => allDig_take hil HP.out.2.2 h) hadl))
     clear hmem hadl hsub
     have Hpl := Lib.hid (fun h : IsDig cs[i] => dv_lt (i + 1) (cs.take (i + 1)) (by rw [List.length_take]; omega) (allDig_take hil HP.out.2.2 h))
     have hten := ten_le (n := i + 1) (by omega)
     have Hten := Lib.hid hten
     have hu8 := UInt8.toNat_lt cs[i]
     unfold IsDig at Hd1 Hpl
     generalize cs[i].toNat = y at *
     have hini : (i : Int) < (N : Int) := by omega
     clear hten hil
     by_cases hdg : 48 ≤ y ∧ y ≤ 57
     ·have Hdg := Lib.hid hdg
      obtain ⟨g1, g2⟩ := hdg
      have g3 : (48 : Int) ≤ (y : Int) := by omega
      have g4 : (y : Int) ≤ 57 := by omega
      go_wp2_with fail
      go_roundg (N - (i + 1))
      case measure => have := Hki.out; omega
      case rel =>
       refine ⟨i + 1, P * 10, 10 * D + (y - 48), by simp, ?_, rfl, Lib.hid rfl, by omega, ?_, ?_, Lib.hid ⟨by rw [HP.out.1, Nat.pow_succ], by rw [Hd1.out.1, HP.out.2.1], Hd1.out.2.1 Hdg.out⟩, rfl⟩
       ·congr 1; omega
       ·rw [HP.out.1, ← Nat.pow_succ]; exact Hten.out
       ·have h1 := Hpl.out Hdg.out
        rw [Hd1.out.1, ← HP.out.2.1] at h1
        have := Hten.out
        omega
     ·have Hdg := Lib.hid hdg
      rcases Nat.lt_or_ge y 48 with g1 | g1
      ·have g3 : (y : Int) < 48 := by omega
       clear hdg
       go_wp2_with fail
       exact hQ.out _ _ ⟨none, false, rfl, grown_below Hb1.out, fun h => absurd (Hd1.out.2.2 h) Hdg.out⟩
      ·have g3 : (48 : Int) ≤ (y : Int) := by omega
       have g4 : (57 : Int) < (y : Int) := by omega
       clear hdg
       go_wp2_with fail
       exact hQ.out _ _ ⟨none, false, rfl, grown_below Hb1.out, fun h => absurd (Hd1.out.2.2 h) Hdg.out⟩
    ·have hiN' : i = N := by omega
     subst hiN'
     have hiq : (i : Int) ≤ (i : Int) := by omega
     have Hdl := Lib.hid (show P = 10 ^ i ∧ D = dv cs ∧ AllDig cs by
      have h1 := HP.out
      rw [List.take_of_length_le (by rw [HC.out.2.2.2]; exact Nat.le_refl _)] at h1
      exact h1)
     have hnL := Ho1.out.len.1
     have HnL := Lib.hid hnL
     clear HP Hrd hin hiN hnL
     go_wp2_with fail
     go_loopg [12, 15, 69] n (fun k av xv iv wi => ∃ (q add : Nat) (L2 : List Nat), av = .int .u64 (add : Int) ∧ iv = .int .i64 (q : Int) ∧ Hid (k = n - q) ∧ q ≤ n ∧ add ≤ 999999999 ∧ Hid (OwnW wi w.heap.size (.slice A n c) L2) ∧ Hid (Below w.heap.size w wi) ∧ Hid (L2.length = L.length ∧ Wd L2 ∧ val (L2.take q) + 4294967296 ^ q * add = val (L.take q) * P + D ∧ ∀ t, q ≤ t → L2[t]? = L[t]?))
     case atStart => exact ⟨0, D, L, rfl, rfl, Lib.hid rfl, Nat.zero_le _, hD, Ho1, Hb1, Lib.hid ⟨rfl, HL.out.2.1, by simp [val_nil], fun t _ => rfl⟩⟩
     case round =>
      obtain ⟨q, add, L2, rfl, rfl, Hkq, hqn, hadd, Ho2, Hb2, HL2⟩ := hrel
      by_cases hqn2 : q < n
      ·have hqL : q < L.length := by rw [← HnL.out]; exact hqn2
       have hq2 : q < L2.length := by rw [HL2.out.1]; exact hqL
       obtain ⟨gg, rfl, hgB, hgl, c1, f1, hset⟩ := Ho2.out.set_ hq2
       have hx : L2[q] = L[q] := by
        have := HL2.out.2.2.2 q (Nat.le_refl _)
        rw [List.getElem?_eq_getElem hq2, List.getElem?_eq_getElem hqL] at this
        injection this
       have E1 := Lib.hid (val_take_succ hqL)
       have w1 := wd_get HL.out.2.1 _ hqL
       rw [hx] at c1
       generalize L[q] = x at *
       obtain ⟨hb1', hb2'⟩ := mul_bounds (add := add) (x := x) (by_ := P) hadd w1 hP
       have e1 : ((add : Int) + (x : Int) * (P : Int)) = ((add + x * P : Nat) : Int) := by rw [Int.natCast_add, Int.natCast_mul]
       have hxp : x * P ≤ 4294967295999999999 := by omega
       have e0 : (x : Int) * (P : Int) = ((x * P : Nat) : Int) := (Int.natCast_mul x P).symm
       have e2 : IntKind.u64.wrap ((x : Int) * (P : Int)) = (x : Int) * (P : Int) := by rw [e0]; exact IntWalk.u64_in _ (by omega)
       have e3 : IntKind.u64.wrap ((add : Int) + (x : Int) * (P : Int)) = (((add + x * P : Nat)) : Int) := by rw [e1]; exact IntWalk.u64_in _ (by omega)
       obtain ⟨Z, hZ⟩ : ∃ Z, Z = add + x * P := ⟨_, rfl⟩
       have e4 : (add : Int) + (x : Int) * (P : Int) = (Z : Int) := by rw [hZ]; exact e1
       rw [← hZ] at hb1' hb2' e3
       have HZ := Lib.hid (And.intro hZ hset)
       have Hqq := Lib.hid (And.intro hqL hq2)
       have hqi : (q : Int) < (n : Int) := by omega
       clear e0 e1 hxp hZ hset hx hqL hq2 hqn2
       go_wp2_with fail
       rw [show (Z : Int) / 4294967296 = ((Z / 4294967296 : Nat) : Int) by omega, show (Z : Int) % 4294967296 = ((Z % 4294967296 : Nat) : Int) by omega]
       go_roundg (n - (q + 1))
       case measure => have := Hkq.out; omega
       case rel =>
        refine ⟨q + 1, Z / 4294967296, L2.set q (Z % 4294967296), rfl, rfl, Lib.hid rfl, by omega, hb2', Lib.hid (HZ.out.2 _), Lib.hid (Hb2.out.setCell hgB _), Lib.hid ⟨by rw [List.length_set]; exact HL2.out.1, wd_set HL2.out.2.1 _ _ (Nat.mod_lt _ (by decide)), ?_, fun t ht => ?_⟩⟩
        ·rw [val_take_set Hqq.out.2, E1.out, HZ.out.1, Nat.pow_succ]
         exact mul_step HL2.out.2.2.1
        ·rw [List.getElem?_set_ne (by omega)]
         exact HL2.out.2.2.2 t (by omega)
      ·have hqn' : q = n := by omega
       subst hqn'
       have hfin : val L2 + 4294967296 ^ L2.length * add = dv (l.take (j + i)) := by
        have h1 := HL2.out.2.2.1
        rw [List.take_of_length_le (by rw [HL2.out.1, HnL.out]; exact Nat.le_refl _), List.take_of_length_le (by rw [HnL.out]; exact Nat.le_refl _), HL.out.2.2.1, Hdl.out.1, Hdl.out.2.1] at h1
        rw [HL2.out.1, ← HnL.out, h1, ← dv_app _ i cs HC.out.2.2.2, HC.out.2.2.1, ← List.take_add]
       have hdig : AllDig (l.take (j + i)) := by
        rw [List.take_add, ← HC.out.2.2.1]
        exact allDig_app.2 ⟨HL.out.1, Hdl.out.2.2⟩
       have Hfin := Lib.hid (And.intro hfin hdig)
       have HT' : Hid (tn - i = l.length - (j + i) ∧ j + i ≤ l.length ∧ T'.data.toList = l.drop (j + i) ∧ T'.size = tn - i) := by
        refine Lib.hid ⟨?_, ?_, ?_, ?_⟩
        ·have := HT.out; omega
        ·have := HT.out; omega
        ·rw [HC.out.2.1.1]
        ·exact HC.out.2.1.2
       clear hfin hdig hqn hqn2
       rcases Nat.eq_zero_or_pos add with ha | ha
       ·subst ha
        go_wp2_with fail
        go_roundg (tn - i)
        case measure => have := Hk.out; omega
        case rel => exact ⟨T', A, q, c, j + i, tn - i, L2, rfl, rfl, HT'.out.2.2.2, by omega, Lib.hid rfl, Lib.hid ⟨HT'.out.1, HT'.out.2.1, HT'.out.2.2.1⟩, Ho2, Hb2, hnl, Lib.hid ⟨Hfin.out.2, HL2.out.2.1, by have := Hfin.out.1; rwa [Nat.mul_zero, Nat.add_zero] at this, by have := HL2.out.1; have := HL.out.2.2.2; omega⟩⟩
       ·have hai : (0 : Int) < (add : Int) := by omega
        have Ha := Lib.hid ha
        have hL2l : L2.length ≤ 100000000 := by rw [HL2.out.1, ← HnL.out]; exact hnl
        have hgle : w.heap.size ≤ wr.heap.size := Hb2.out.size
        clear ha
        go_wp2_with (at_builtin; refine wpW_push rfl (.tmp 91) (.tmp 94) rfl w.heap.size _ L2 Ho2.out rfl (y := add) rfl rfl (by omega) hgle ?_; intro A3 n3 c3 W3 ho3 hkeep _; have Ho3 := Lib.hid ho3; have Hb3 := Lib.hid (hkeep w Hb2.out); clear ho3 hkeep)
        go_roundg (tn - i)
        case measure => have := Hk.out; omega
        case rel =>
         refine ⟨T', A3, n3, c3, j + i, tn - i, L2 ++ [add], rfl, rfl, HT'.out.2.2.2, by omega, Lib.hid rfl, Lib.hid ⟨HT'.out.1, HT'.out.2.1, HT'.out.2.2.1⟩, Ho3, Hb3, ?_, Lib.hid ⟨Hfin.out.2, wd_append.2 ⟨HL2.out.2.1, wd_cons.2 ⟨by omega, wd_nil⟩⟩, by rw [val_snoc]; exact Hfin.out.1, ?_⟩⟩
         ·have h1 := Ho3.out.len.1
          rw [List.length_append] at h1
          have h2 := HL2.out.1
          have h3 := HL.out.2.2.2
          have h4 := HT.out
          have h5 := Hl.out.1
          have h6 := Hll.out
          simp only [List.length_cons, List.length_nil] at h1
          omega
         ·rw [List.length_append]
          have h2 := HL2.out.1
          have h3 := HL.out.2.2.2
          have h4 := Hh.out.2.2
          simp only [List.length_cons, List.length_nil]
          omega
def signOf (l : List UInt8) : Bool := l.head? == some 45
def bodyOfText (l : List UInt8) : List UInt8 := if l.head? = some 45 ∨ l.head? = some 43 then l.tail else l
def TextSet (w : World) (g : Nat) (l : List UInt8) (e : Ending) (w' : World) : Prop :=
 ∃ p b, e = .returned (.tuple #[.pointer p, .bool b]) ∧ w.grownBy w' (some g) ∧ (bodyOfText l ≠ [] → AllDig (bodyOfText l) → p = some ⟨g, 0, none⟩ ∧ b = true ∧ IntB w' g (sgn (signOf l) (dv (bodyOfText l))))
theorem head_of {s : ByteArray} (h : 0 < s.size) : s.data.toList.head? = some s[0] := by
 have hl : s.data.toList.length = s.size := Array.length_toList
 rw [List.head?_eq_getElem?, List.getElem?_eq_getElem (by omega)]
 rfl
set_option maxRecDepth 100000 in
set_option maxHeartbeats 1000000 in
theorem setstr_neg {w : World} {g : Nat} {s : ByteArray} {v : Value} (hz : IntS w g) (hl : s.size ≤ 100000000) (h0 : 0 < s.size) (hc : s[0] = 45) :
  Calls Tryz.prog 105 #[.pointer (some ⟨g, 0, none⟩), .string s, v] w (TextSet w g s.data.toList) := by
 have hb := drop_bytes s 1 (by omega)
 have hd : s[0].toNat = 45 := by rw [hc]; rfl
 have hh := head_of h0
 rw [hc] at hh
 obtain ⟨t, ht⟩ : ∃ t, s.extract 1 s.size = t := ⟨_, rfl⟩
 rw [ht] at hb
 have htl : t.size ≤ 100000000 := by omega
 have HB := Lib.hid (show signOf s.data.toList = true ∧ bodyOfText s.data.toList = t.data.toList by
  unfold signOf bodyOfText
  rw [hh, hb.1, List.drop_one]
  exact ⟨rfl, if_pos (.inl rfl)⟩)
 obtain ⟨q1, q2⟩ := str_facts h0
 clear hb hc hh
 go_enter Tryz.func105, Tryz.ntmps105
 go_upto_if 36 with fail
 go_cut [] (fun wx => w = wx)
 case first =>
  by_cases h9 : t.size = 0
  ·rw [(str_none h9).1]
   go_wp2_with fail
   refine bodyPost_ret (v := .tuple #[.pointer none, .bool false]) (by simp [results, Tryz.results105, go_sem]) rfl ?_
   exact ⟨none, false, rfl, grown_below (Below.refl _ _), fun h => absurd (by rw [HB.out.2]; exact List.eq_nil_of_length_eq_zero (by rw [show t.data.toList.length = t.size from Array.length_toList]; exact h9)) h⟩
  ·rw [(str_facts (Nat.pos_of_ne_zero h9)).1]
   go_wp2_with fail
   go_meet
   case rel => rfl
 case rest =>
  go_step
  subst hcut
  refine setstr_core (neg := true) (s := t) hz (by omega) ?_
  rintro e w' ⟨p, b, he, hg, hok⟩
  exact ⟨p, b, he, hg, by rw [HB.out.1, HB.out.2]; exact fun _ => hok⟩
set_option maxRecDepth 100000 in
set_option maxHeartbeats 1000000 in
theorem setstr_plus {w : World} {g : Nat} {s : ByteArray} {v : Value} (hz : IntS w g) (hl : s.size ≤ 100000000) (h0 : 0 < s.size) (hc : s[0] = 43) :
  Calls Tryz.prog 105 #[.pointer (some ⟨g, 0, none⟩), .string s, v] w (TextSet w g s.data.toList) := by
 have hb := drop_bytes s 1 (by omega)
 have hd : s[0].toNat = 43 := by rw [hc]; rfl
 have hh := head_of h0
 rw [hc] at hh
 obtain ⟨t, ht⟩ : ∃ t, s.extract 1 s.size = t := ⟨_, rfl⟩
 rw [ht] at hb
 have htl : t.size ≤ 100000000 := by omega
 have HB := Lib.hid (show signOf s.data.toList = false ∧ bodyOfText s.data.toList = t.data.toList by
  unfold signOf bodyOfText
  rw [hh, hb.1, List.drop_one]
  exact ⟨rfl, if_pos (.inr rfl)⟩)
 obtain ⟨q1, q2⟩ := str_facts h0
 clear hb hc hh
 go_enter Tryz.func105, Tryz.ntmps105
 go_upto_if 36 with fail
 go_cut [] (fun wx => w = wx)
 case first =>
  by_cases h9 : t.size = 0
  ·rw [(str_none h9).1]
   go_wp2_with fail
   refine bodyPost_ret (v := .tuple #[.pointer none, .bool false]) (by simp [results, Tryz.results105, go_sem]) rfl ?_
   exact ⟨none, false, rfl, grown_below (Below.refl _ _), fun h => absurd (by rw [HB.out.2]; exact List.eq_nil_of_length_eq_zero (by rw [show t.data.toList.length = t.size from Array.length_toList]; exact h9)) h⟩
  ·rw [(str_facts (Nat.pos_of_ne_zero h9)).1]
   go_wp2_with fail
   go_meet
   case rel => rfl
 case rest =>
  go_step
  subst hcut
  refine setstr_core (neg := false) (s := t) hz (by omega) ?_
  rintro e w' ⟨p, b, he, hg, hok⟩
  exact ⟨p, b, he, hg, by rw [HB.out.1, HB.out.2]; exact fun _ => hok⟩
set_option maxRecDepth 100000 in
set_option maxHeartbeats 1000000 in
theorem setstr_bare {w : World} {g : Nat} {s : ByteArray} {v : Value} (hz : IntS w g) (hl : s.size ≤ 100000000) (h0 : 0 < s.size) (hc : s[0] ≠ 45) (hc2 : s[0] ≠ 43) :
  Calls Tryz.prog 105 #[.pointer (some ⟨g, 0, none⟩), .string s, v] w (TextSet w g s.data.toList) := by
 have hh := head_of h0
 have HB := Lib.hid (show signOf s.data.toList = false ∧ bodyOfText s.data.toList = s.data.toList by
  unfold signOf bodyOfText
  rw [hh]
  refine ⟨beq_eq_false_iff_ne.2 (fun h => hc (by injection h)), if_neg (fun h => ?_)⟩
  rcases h with h | h
  ·exact hc (by injection h)
  ·exact hc2 (by injection h))
 obtain ⟨q1, q2⟩ := str_facts h0
 have hy1 : s[0].toNat ≠ 45 := fun h => hc (UInt8.toNat_inj.1 h)
 have hy2 : s[0].toNat ≠ 43 := fun h => hc2 (UInt8.toNat_inj.1 h)
 generalize hy : s[0].toNat = y at *
 have z1 : ((y : Int) == 45) = false := beq_eq_false_iff_ne.2 (by omega)
 have z2 : ((y : Int) == 43) = false := beq_eq_false_iff_ne.2 (by omega)
 clear hc hc2 hh
 go_enter Tryz.func105, Tryz.ntmps105
 go_upto_if 36 with fail
 go_cut [] (fun wx => w = wx)
 case first =>
  by_cases h9 : s.size = 0
  ·exact absurd h9 (by omega)
  ·go_wp2_with fail
   go_meet
   case rel => rfl
 case rest =>
  go_step
  subst hcut
  refine setstr_core (neg := false) (s := s) hz (by omega) ?_
  rintro e w' ⟨p, b, he, hg, hok⟩
  exact ⟨p, b, he, hg, by rw [HB.out.1, HB.out.2]; exact fun _ => hok⟩
theorem setstr_none {w : World} {g : Nat} {v : Value} :
  Calls Tryz.prog 105 #[.pointer (some ⟨g, 0, none⟩), .string ⟨#[]⟩, v] w (TextSet w g [] ) := by
 go_enter Tryz.func105, Tryz.ntmps105
 go_wp2_with fail
 refine bodyPost_ret (v := .tuple #[.pointer none, .bool false]) (by simp [results, Tryz.results105, go_sem]) rfl ?_
 exact ⟨none, false, rfl, grown_below (Below.refl _ _), fun h => absurd rfl h⟩
theorem setstr_any {w : World} {g : Nat} {s : ByteArray} {v : Value} (hz : IntS w g) (hl : s.size ≤ 100000000) :
  Calls Tryz.prog 105 #[.pointer (some ⟨g, 0, none⟩), .string s, v] w (TextSet w g s.data.toList) := by
 rcases Nat.eq_zero_or_pos s.size with h | h
 ·have hl : s.data.toList.length = s.size := Array.length_toList
  obtain rfl := str_empty (List.eq_nil_of_length_eq_zero (show s.data.toList.length = 0 by omega))
  exact setstr_none
 ·by_cases h1 : s[0] = 45
  ·exact setstr_neg hz hl h h1
  ·by_cases h2 : s[0] = 43
   ·exact setstr_plus hz hl h h2
   ·exact setstr_bare hz hl h h1 h2
end Go.Proofs.YtebpggfccljagaaGreatDoor
namespace Go.Proofs.YtebpggfccljagaaGreatDoor
open Go.RowKit
open Wh
set_option linter.unusedSimpArgs false
theorem tells_form {W w5 : World} {z : Int} {e : Ending} (h : Tells W z e w5) : ∃ (sn : Bool) (bn : ByteArray) (cd : Int), e = .returned (.tuple #[.agg #[.bool sn, .string bn], .int .i64 cd]) ∧ Below W.heap.size W w5 ∧ ∀ w w' (ok : Prop), ok → Below w.heap.size w w' → Ans w ok z (.returned (.tuple #[.agg #[.bool sn, .string bn], .int .i64 cd])) w' := by
 obtain ⟨t1, t2, hb⟩ := h
 by_cases hf : fits z
 ·exact ⟨_, _, 0, t1 hf, hb, fun w w' ok hok hb => ⟨fun _ _ => rfl, fun _ h => absurd hf h, fun h => absurd hok h, hb⟩⟩
 ·exact ⟨_, _, 4, t2 hf, hb, fun w w' ok hok hb => ⟨fun _ h => absurd h hf, fun _ _ => rfl, fun h => absurd hok h, hb⟩⟩
end Go.Proofs.YtebpggfccljagaaGreatDoor
