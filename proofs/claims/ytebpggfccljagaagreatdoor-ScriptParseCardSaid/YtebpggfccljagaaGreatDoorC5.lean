import Derived.Test.YtebpggfccljagaaGreatDoorC4
import Derived.Deep.CutRange
import Derived.Deep.CutBlock
import Derived.BigRegion
import Derived.Deep.RegionWith
import Derived.Deep.RegionHeld3
import Derived.Test.YtebpggfccljagaaGreatDoorC3
import Derived.Test.YtebpggfccljagaaGreatDoorC1
namespace Go.Proofs.YtebpggfccljagaaGreatDoor
open Go.RowKit
open Wh
set_option linter.unusedSimpArgs false
set_option linter.unusedVariables false
set_option maxRecDepth 100000 in
set_option maxHeartbeats 20000000 in
theorem rdivided_long {w : World} {B n m c d a b p : Nat} {A C : Option Addr} (h1 : ReadsW w B A (wds a)) (h2 : ReadsW w B C (wds b)) (hB : B ≤ w.heap.size) (hn : n = (wds a).length) (hm : m = (wds b).length) (hnl : n ≤ 30000000) (hml : m ≤ 30000000) (hab : b ≤ a) (hm1 : m = p + 2) :
  Calls Tryz.prog 163 #[.slice A n c, .slice C m d] w (Div2 w (a / b) (a % b)) := by
 have hu : ∃ x : Int, cmpN a b = x ∧ 0 ≤ x := by
  rcases Nat.lt_or_ge b a with h | h
  ·exact ⟨1, cmpN_gt h, by omega⟩
  ·exact ⟨0, cmpN_eq (by omega), by omega⟩
 obtain ⟨x, hx, hx0⟩ := hu
 have HU := Lib.hid (runder_any h1 h2 (c := c) (d := d) hn hm (by omega) (by omega))
 rw [hx] at HU
 subst hm1
 obtain ⟨y, hy1, hy, hge, hlt⟩ := norm_bl hm.symm
 have hHB := fun q => rbits_any (w := w.drewN q) (c := d) (h2.drewN q) hm (by omega)
 obtain ⟨kb, hkb⟩ : ∃ kb, kb = bl b := ⟨_, rfl⟩
 simp only [← hkb] at hHB
 have hkb1 : 32 * ((p : Int) + 2) - (kb : Int) = (y : Int) := by omega
 have hkb2 : kb ≤ 1000000000 := by omega
 have HKB := Lib.hid hkb1
 have hnorm := norm_tail hge hlt
 have hl1 := fun q => rup_any (h2.drewN q) hB hm (c := d) (n := y) (by omega) (by omega) (wd_w b)
 simp only [val_w] at hl1
 obtain ⟨V, hV⟩ : ∃ V, V = b * 2 ^ y := ⟨_, rfl⟩
 rw [← hV] at hnorm hge hlt
 simp only [← hV] at hl1
 have HV := Lib.hid (And.intro hV (And.intro hnorm.1 (And.intro hge (And.intro hlt hnorm.2))))
 have HL1 := Lib.hid hl1
 have HBT := Lib.hid hHB
 have Hm := Lib.hid hm
 have Hn := Lib.hid hn
 clear hn hm hx hV hnorm hl1 hHB hkb1 hge hlt hkb hy1
 go_enter Tryz.func163, Tryz.ntmps163
 go_wp2_with (go_at_call 168; refine HU.out.mono ?_; rintro e w' ⟨q, rfl, rfl⟩)
 refine (HBT.out _).mono ?_
 rintro e w' ⟨rfl, rfl⟩
 go_wp2_with fail
 rw [HKB.out]
 refine (HL1.out _).mono ?_
 rintro e w1 ⟨Cv, n1, d1, rfl, hn1, hd1, hd2, hrv, hbv⟩
 obtain rfl : n1 = p + 2 := by have := hn1.out; rw [HV.out.2.1] at this; exact this
 have hmk : ∀ w : World, (Instr.makeSlice 149 (.int .i64 ((n : Int) + 2)) (.int .i64 ((n : Int) + 2))).run Tryz.prog w = .ok (.slice (some ⟨w.heap.size, 0, none⟩) (n + 2) (n + 2)) (w.alloc (.cells (wcells (List.replicate (n + 2) 0)) 163)) := fun w => by
  have := run_makeW (n + 2) (by omega) w
  exact this
 have hbv1 := undrewN hbv
 have hla := h1.below (hbv1.mono hB)
 have hsz1 := hbv1.size
 have hl2 := rup_any (hla.alloc (by omega) (.cells (wcells (List.replicate (n + 2) 0)) 163)) (by simp; omega) Hn.out (c := c) (n := y) (by omega) (by omega) (wd_w a)
 rw [val_w] at hl2
 have HL2 := Lib.hid hl2
 have Hbv := Lib.hid (And.intro hbv1 hla)
 clear hl2 hla hbv hbv1
 go_wp2_with fail
 refine HL2.out.mono ?_
 rintro e w3 ⟨A3, n3, c3, rfl, hn3, hc3a, hc3b, hra, hba⟩
 have hbk := (Blk.new w1 163 (wcells (List.replicate (n + 2) 0))).below hba (by simp)
 have hbk' : w3.heap[w1.heap.size]? = some (.cells ((List.replicate (n + 2) 0).map wv).toArray 163 (0, 0)) := hbk
 have hbw := (((Below.refl w1.heap.size w1).alloc (Nat.le_refl _) (.cells (wcells (List.replicate (n + 2) 0)) 163))).trans (hba.mono (by simp))
 have hlen2 := left_len (a := a) (y := y) (n := n) (by rw [Hn.out]; exact Nat.le_refl _) hy
 have hsz3 := hba.size
 obtain ⟨la2, hla2⟩ : ∃ la2, la2 = wds (a * 2 ^ y) := ⟨_, rfl⟩
 rw [← hla2] at hn3 hra hlen2
 have hwa2 : Wd la2 ∧ val la2 = a * 2 ^ y := by rw [hla2]; exact ⟨wd_w _, val_w _⟩
 have Hwa2 := Lib.hid hwa2
 have hn3' := hn3.out
 subst hn3'
 have Hbw := Lib.hid (And.intro hbw hbk')
 have Hra := Lib.hid hra
 clear hla2 hwa2 hbw hbk hbk' hra hba hn3
 have hcp1 : (la2.map wv).length = Nat.min la2.length (n + 2) := by rw [List.length_map]; exact (Nat.min_eq_left (Nat.le_succ_of_le hlen2)).symm
 have hcp2 : 0 < (la2.map wv).length → ∃ ad, A3 = some ad ∧ ∀ (j : Nat) (v : Value), (la2.map wv)[j]? = some v → w3.cell? (ad.add j) = some v := fun h0 => by
  obtain ⟨ad, e, _, hc⟩ := Hra.out.1.2 (by rwa [List.length_map] at h0)
  exact ⟨ad, e, hc⟩
 have hcp3 : 0 + (la2.map wv).length ≤ ((List.replicate (n + 2) 0).map wv).length := by simp; omega
 have Hcp := Lib.hid (And.intro hcp1 (And.intro hcp2 hcp3))
 clear hcp1 hcp2 hcp3
 have hmn : p + 2 ≤ n := by rw [Hn.out, Hm.out]; exact len_mono hab
 have hmk2 : ∀ w : World, (Instr.makeSlice 149 (.int .i64 ((n : Int) + 2 - ((p : Int) + 2))) (.int .i64 ((n : Int) + 2 - ((p : Int) + 2)))).run Tryz.prog w = .ok (.slice (some ⟨w.heap.size, 0, none⟩) (n - p) (n - p)) (w.alloc (.cells (wcells (List.replicate (n - p) 0)) 163)) := fun w => by
  have := run_makeW (n - p) (by omega) w
  rw [← this, show ((n - p : Nat) : Int) = (n : Int) + 2 - ((p : Int) + 2) by omega]
 go_wp2_with (refine wpList_copy_splice rfl (.tmp 55) (.tmp 58) 149 149 rfl 163 Tryz.underlying149 sizeW (some ⟨w1.heap.size, 0, none⟩) A3 (n + 2) (n + 2) la2.length c3 rfl rfl w1.heap.size 0 ((List.replicate (n + 2) 0).map wv) 163 Hbw.out.2 (la2.map wv) Hcp.out.1 (fun h0 => ⟨rfl, Hcp.out.2.1 h0⟩) Hcp.out.2.2 (wv_one _) w1.heap.size w1 Hbw.out.1 (Nat.le_refl _) ?_; intro w4 hu4 hb4; have Hb4 := Lib.hid hb4; have Hu4 := Lib.hid hu4; clear hb4 hu4)
 have hL0 : Blk w4 w1.heap.size 163 (wcells (la2 ++ List.replicate (n + 2 - la2.length) 0)) := by
  have := Hu4.out.out
  rw [splice_words] at this
  exact this
 have hwa := Hwa2.out
 have hlong := long_start (a := a) (b := b) (n := n + 1) (m := p + 1) (by_ := y) (L := la2 ++ List.replicate (n + 2 - la2.length) 0) (by rw [List.length_append, List.length_replicate]; omega) (wd_append.2 ⟨hwa.1, wd_zeros _⟩) (by rw [val_append, val_zeros, Nat.mul_zero, Nat.add_zero]; exact hwa.2)
  (Nat.lt_of_lt_of_le (lt_of_len (by rw [Hn.out]; exact Nat.le_refl _)) (Nat.pow_le_pow_right (by decide) (Nat.le_succ n))) hy (by omega) (by rw [← HV.out.1]; exact HV.out.2.2.1)
 rw [← HV.out.1, show n + 1 - (p + 1) = n - p by omega] at hlong
 have Hlong := Lib.hid hlong
 have Hblk := Lib.hid hL0
 have hbel4 := Hbv.out.1.trans (Hb4.out.mono hsz1)
 have Hbel4 := Lib.hid hbel4
 have hrv4 := (hrv.below Hb4.out)
 have hlt4 := hL0.lt
 have hV0 : 0 < V := by have := HV.out.2.2.1; have h0 : 0 < 4294967296 ^ (p + 1) := Nat.pow_pos (by decide); omega
 clear hlong hL0 hwa hbel4
 have hi1 : (0 : Int) ≤ (n : Int) + 2 - ((p : Int) + 2) := by omega
 go_loopg [13] (n - p) (fun k jv wr => ∃ L Q, jv = .int .i64 ((k : Int) - 1) ∧ k ≤ n - p ∧ Blk wr w1.heap.size 163 (wcells L) ∧ Blk wr w4.heap.size 163 (wcells Q) ∧ Below w.heap.size w wr ∧ ReadsW wr w1.heap.size Cv (wds V) ∧ Hid (Long (a * 2 ^ y) V (n + 1) (p + 2) k L Q))
 case atStart => exact ⟨_, _, by congr 1; omega, Nat.le_refl _, Hblk.out.alloc _, Blk.new _ _ _, Hbel4.out.alloc (by have := Hbel4.out.size; omega) _, hrv4.alloc (by omega) _, Hlong.out⟩
 case round =>
  obtain ⟨L, Q, rfl, hkl, hbu, hbq, hbel, hrvr, hLong⟩ := hrel
  by_cases h0 : 0 < gk
  ·obtain ⟨j, rfl⟩ : ∃ j, gk = j + 1 := ⟨gk - 1, by omega⟩
   rw [show (((j + 1 : Nat) : Int) - 1) = (j : Int) by omega]
   have hjm : j + (p + 2) ≤ n + 1 := by omega
   have hLl := hLong.out.1
   have hLw := hLong.out.2.1
   obtain ⟨M, hM⟩ : ∃ M, M = (L.drop j).take (p + 3) := ⟨_, rfl⟩
   have hMl : M.length = p + 3 := by rw [hM, List.length_take, List.length_drop]; omega
   have hMw : Wd M := by rw [hM]; exact wd_take (wd_drop hLw j) _
   have hmid : MidW wr w1.heap.size (L.take j) M (L.drop (j + (p + 3))) := by
    unfold MidW
    rw [hM, ← List.drop_drop, List.take_append_drop, List.take_append_drop]
    exact hbu
   have hPl : j = (L.take j).length := by rw [List.length_take]; omega
   have hVm := HV.out.2.2.2.1
   have hmidv := long_mid hLong.out hVm hjm
   rw [show p + 2 + 1 = p + 3 from rfl, ← hM] at hmidv
   have hv1 := HV.out.2.2.2.2
   have hlvl := HV.out.2.1
   rw [at_get (by omega)] at hv1
   obtain ⟨T, hT⟩ : ∃ T, T = M[p + 2] * 4294967296 + M[p + 1] := ⟨_, rfl⟩
   have hfg := first_guess (p := p) hMw (wd_w V) hMl hlvl (by omega) hT (by rw [val_w]; exact hmidv.1)
   rw [val_w] at hfg
   obtain ⟨vd, rfl, hvb, cv1⟩ := hrvr.at_ (k := p + 1) (by omega)
   rw [add_pos (Nat.succ_ne_zero p)] at cv1
   have cu2 := hmid.cell hPl (i := p + 2) (by omega)
   have cu1 := hmid.cell hPl (i := p + 1) (by omega)
   have bu2 := wd_get hMw (p + 2) (by omega)
   have bu1 := wd_get hMw (p + 1) (by omega)
   have bv1 := wd_get (wd_w V) (p + 1) (by omega)
   generalize M[p + 2] = u2 at *
   generalize M[p + 1] = u1 at *
   generalize (wds V)[p + 1] = v1 at *
   have Hmid := Lib.hid (And.intro hM (And.intro hMl (And.intro hMw (And.intro hmid (And.intro hPl (And.intro hmidv hfg))))))
   have Hlv := Lib.hid (And.intro hlvl (And.intro hVm hrvr))
   clear hM hMl hMw hmid hPl hmidv hfg hLl hLw hVm hlvl hrvr
   have hTb : T ≤ 18446744073709551615 := by omega
   have HTT := Lib.hid hT
   clear hT
   go_wp2_with fail
   have r1 : IntKind.i64.wrap ((j : Int) + ((p : Int) + 2)) = (j : Int) + ((p : Int) + 2) := IntWalk.i64_in _ (by omega)
   have r2 : ((j : Int) + ((p : Int) + 2)).toNat = j + (p + 2) := by omega
   have r3 : IntKind.i64.wrap ((j : Int) + ((p : Int) + 2) - 1) = (j : Int) + ((p : Int) + 2) - 1 := IntWalk.i64_in _ (by omega)
   have r4 : ((j : Int) + ((p : Int) + 2) - 1).toNat = j + (p + 1) := by omega
   have r5 : IntKind.u64.wrap (u2 : Int) = (u2 : Int) := IntWalk.u64_in _ (by omega)
   have r6 : IntKind.u64.wrap (u1 : Int) = (u1 : Int) := IntWalk.u64_in _ (by omega)
   have r7 : IntKind.u64.wrap ((u2 : Int) * 4294967296) = (u2 : Int) * 4294967296 := IntWalk.u64_in _ (by omega)
   have r13 : IntKind.u64.wrap ((u2 : Int) * 4294967296 + (u1 : Int)) = (u2 : Int) * 4294967296 + (u1 : Int) := IntWalk.u64_in _ (by omega)
   have r8 : (0 : Int) ≤ (j : Int) + ((p : Int) + 2) := by omega
   have r9 : (j : Int) + ((p : Int) + 2) < (n : Int) + 2 := by omega
   have r10 : (0 : Int) ≤ (j : Int) + ((p : Int) + 2) - 1 := by omega
   have r11 : (j : Int) + ((p : Int) + 2) - 1 < (n : Int) + 2 := by omega
   have r12 : (1 : Int) ≤ (j : Int) + ((p : Int) + 2) := by omega
   go_quiet (fail)
   clear r1 r2 r3 r4 r5 r6 r7 r8 r9 r10 r11 r12 r13
   rw [show (u2 : Int) * 4294967296 + (u1 : Int) = (T : Int) by rw [HTT.out]; omega]
   have hv1n : 1 ≤ v1 := by omega
   go_upto_region 16 with fail
   go_cut [15] from 72 to 152 (fun gv wx => ∃ G0 : Nat, gv = .int .u64 (G0 : Int) ∧ G0 ≤ 4294967295 ∧ val M < (G0 + 1) * V ∧ wx = wr.drewN nq)
   case first =>
    have hfg := Lib.hid Hmid.out.2.2.2.2.2.2
    go_wp2_with fail
    ·go_meet
     case rel => exact ⟨4294967295, rfl, Nat.le_refl _, Hmid.out.2.2.2.2.2.1.1, rfl⟩
    ·go_meet
     case rel =>
      obtain ⟨G, hGd⟩ : ∃ G, G = T / v1 := ⟨_, rfl⟩
      have h8 : (T : Int) / (v1 : Int) = (G : Int) := by rw [hGd]; rfl
      have hTq : G ≤ 8589934591 := by rw [hGd]; exact Nat.le_trans (Nat.div_le_div_left (c := 2147483648) (by omega) (by decide)) (by omega)
      rw [h8, IntWalk.u64_in _ (by omega)] at h ⊢
      have h9 : G ≤ 4294967295 := by omega
      exact ⟨G, rfl, h9, by have h7 := hfg.out; rwa [← hGd, Nat.min_eq_left h9] at h7, rfl⟩
   case rest =>
   obtain ⟨G0, rfl, hG0, hG1, rfl⟩ := hcut
   have hbu0 : Blk (wr.drewN nq) w1.heap.size 163 (wcells L) := hbu
   have hbq0 : Blk (wr.drewN nq) w4.heap.size 163 (wcells Q) := hbq
   have hbel0 : Below w.heap.size w (wr.drewN nq) := below_drewN hbel nq
   have hrv0 : ReadsW (wr.drewN nq) w1.heap.size (some vd) (wds V) := Hlv.out.2.2
   clear hbu hbq hbel cv1 cu1 cu2
   generalize wr.drewN nq = W0 at hbu0 hbq0 hbel0 hrv0 ⊢
   have Hw0 := Lib.hid (And.intro hbu0 (And.intro hbq0 (And.intro hbel0 hrv0)))
   have hltu := hbu0.lt
   have HG1 := Lib.hid hG1
   clear hbu0 hbq0 hbel0 hrv0 hG1
   go_wp2_with fail
   go_loopg [15] G0 (fun k gv wi => ∃ gz : Nat, gv = .int .u64 (gz : Int) ∧ k = gz ∧ gz ≤ 4294967295 ∧ Hid (val M < (gz + 1) * V) ∧ Below W0.heap.size W0 wi)
   case atStart => exact ⟨G0, rfl, rfl, hG0, HG1, Below.refl _ _⟩
   case round =>
    obtain ⟨gz, rfl, hk, hgz, hgM, hbi⟩ := hrel
    have Hk := Lib.hid hk
    clear hk
    have hf := rfits_any (w := wr) (x := gz) (j := j) (d := d1) (Hw0.out.1.below hbi hltu) ((Hw0.out.2.2.2.below (hbi.mono (Nat.le_of_lt hltu))).more (by have := hbi.size; omega)) (show n + 2 = L.length by have := hLong.out.1; omega) HV.out.2.1.symm (by omega) hLong.out.2.1 hgz (by omega)
    rw [show p + 2 + 1 = p + 3 from rfl, ← Hmid.out.1] at hf
    by_cases hle : gz * V ≤ val M
    ·rw [decide_eq_true hle] at hf
     have HF := Lib.hid hf
     have Hle := Lib.hid hle
     clear hf hle
     go_wp2_with fail
     refine HF.out.mono ?_
     rintro e w7 ⟨rfl, hb7⟩
     have hb8 := hbi.trans (hb7.mono hbi.size)
     have hbu8 := Hw0.out.1.below hb8 hltu
     have hbq8 := Hw0.out.2.1.below hb8 Hw0.out.2.1.lt
     have hbel8 := Hw0.out.2.2.1.trans (hb8.mono Hw0.out.2.2.1.size)
     have hrv8 := Hw0.out.2.2.2.below (hb8.mono (Nat.le_of_lt hltu))
     have hQl : j < Q.length := by have := hLong.out.2.2.1; omega
     have hqc : w7.cell? ⟨w4.heap.size, j, none⟩ = some (.int .u32 ((Q[j] : Nat) : Int)) := by rw [hbq8.cell, wcells_get, List.getElem?_eq_getElem hQl]; rfl
     have hqf := hbq8.frozen j
     have hji : (j : Int) < ((n - p : Nat) : Int) := by omega
     have hbq9 : Blk (w7.setCell ⟨w4.heap.size, j, none⟩ (.int .u32 (gz : Int))) w4.heap.size 163 (wcells (Q.set j gz)) := by
      have := hbq8.set_ j (.int .u32 (gz : Int))
      rwa [wcells_set] at this
     have hne : w1.heap.size ≠ w4.heap.size := by omega
     have hbu9 : Blk (w7.setCell ⟨w4.heap.size, j, none⟩ (.int .u32 (gz : Int))) w1.heap.size 163 (wcells L) := Blk.far hbu8 (p := ⟨w4.heap.size, j, none⟩) hne _
     have hbel9 := hbel8.setCell (p := ⟨w4.heap.size, j, none⟩) (show w.heap.size ≤ w4.heap.size by omega) (.int .u32 (gz : Int))
     have hrv9 := ReadsW.setCell hrv8 (p := ⟨w4.heap.size, j, none⟩) (show w1.heap.size ≤ w4.heap.size by omega) (.int .u32 (gz : Int))
     have hmid9 : MidW (w7.setCell ⟨w4.heap.size, j, none⟩ (.int .u32 (gz : Int))) w1.heap.size (L.take j) M (L.drop (j + (p + 3))) := by
      unfold MidW
      rw [Hmid.out.1, ← List.drop_drop, List.take_append_drop, List.take_append_drop]
      exact hbu9
     have H9 := Lib.hid (And.intro hmid9 (And.intro hbq9 (And.intro hbel9 hrv9)))
     clear hb8 hbu8 hbq8 hbel8 hrv8 hbu9 hbq9 hbel9 hrv9 hmid9 hb7 hbi HG1 hG0
     go_upto_region 21 with fail
     clear hqc hqf
     generalize (w7.setCell ⟨w4.heap.size, j, none⟩ (.int .u32 (gz : Int))) = W9 at H9 ⊢
     go_wp2_with fail
     go_loopg [16, 17, 18] (p + 3) (fun k bv cv iv wz => ∃ (i c b : Nat) (M1 : List Nat), bv = .int .u64 (b : Int) ∧ cv = .int .u64 (c : Int) ∧ iv = .int .i64 (i : Int) ∧ k = p + 3 - i ∧ i ≤ p + 3 ∧ c ≤ 4294967295 ∧ b ≤ 1 ∧ MidW wz w1.heap.size (L.take j) M1 (L.drop (j + (p + 3))) ∧ Blk wz w4.heap.size 163 (wcells (Q.set j gz)) ∧ Below w.heap.size w wz ∧ ReadsW wz w1.heap.size (some vd) (wds V) ∧ Hid (Taken M M1 (wds V) gz i c b))
     case atStart => exact ⟨0, 0, 0, M, rfl, rfl, rfl, rfl, by omega, by omega, by omega, H9.out.1, H9.out.2.1, H9.out.2.2.1, H9.out.2.2.2, rfl, Hmid.out.2.2.1, rfl, fun _ => rfl, by simp [val_nil]⟩
     case round =>
      obtain ⟨i, c1, b1, M1, rfl, rfl, rfl, hk3, hi, hc1, hb1, hm1, hq1, hl1, hr1, hT⟩ := hrel
      have Hk3 := Lib.hid hk3
      clear hk3
      by_cases hin : i < p + 3
      ·have hM1 := hT.out.1
       have hi1 : i < M1.length := by have := Hmid.out.2.1; omega
       have hi2 : i < M.length := by have := Hmid.out.2.1; omega
       have hu := hm1.cell Hmid.out.2.2.2.2.1 hi1
       rw [Nat.add_comm j i] at hu
       have hfz := Blk.frozen hm1 (i + j)
       have wu := wd_get hT.out.2.1 _ hi1
       have hA := rat_any hr1 (n := p + 2) (c := d1) (i := i) HV.out.2.1.symm (wd_w V)
       have hlen := HV.out.2.1
       have hst := fun (cc dd b' : Nat) => taken_step (cc := cc) (d := dd) (b' := b') hT.out hi1 hi2
       have w2 := at_lt (wd_w V) i
       have hz0 : (wds V).length < i + 1 → at_ (wds V) i = 0 := fun h => at_end (by omega)
       have hcz := hT.out.2.2.2.1
       generalize at_ (wds V) i = v at hA hst w2 hz0
       obtain ⟨hmb0, hmb1⟩ := mul_bound (x := gz) (by omega) w2
       have hcast := Lib.hid (Int.natCast_mul gz v)
       have Hm1 := Lib.hid (fun x : Nat => hm1.set_ Hmid.out.2.2.2.2.1 hi1 x)
       generalize M1[i] = u at *
       have HA := Lib.hid hA
       have Hst := Lib.hid hst
       have Hz := Lib.hid (And.intro hz0 (And.intro hq1 (And.intro hl1 (And.intro hr1 hlen))))
       have hii : (i : Int) ≤ (p : Int) + 2 := by omega
       clear hA hst hz0 hcz hM1 hq1 hl1 hr1 hlen
       go_wp2_with fail
       refine HA.out.mono ?_
       rintro e w10 ⟨rfl, rfl⟩
       go_upto_region 25 with fail
       have hq0 : ((c1 : Int) + (gz : Int) * (v : Int)) = ((c1 + gz * v : Nat) : Int) := by rw [← hcast.out]; omega
       rw [hq0]
       have hccb : c1 + gz * v ≤ 18446744073709551615 := by rw [← hcast.out] at hmb1; omega
       have Hcc : Hid (∃ cc, cc = c1 + gz * v) := Lib.hid ⟨_, rfl⟩
       obtain ⟨cc, hcc⟩ := Hcc.out
       rw [← hcc] at hccb ⊢
       have HCC := Lib.hid hcc
       clear hcc hmb0 hmb1 hq0 Hcc
       obtain ⟨X, b2, hX, hXb, hb2, hb2b, hX1, hXe⟩ := off_word (cc := cc) wu hb1 hccb
       have hX' : (4294967296 : Int) + (u : Int) - (cc : Int) % 4294967296 - (b1 : Int) = (X : Int) := by omega
       have hb2' : (1 : Int) - (X : Int) / 4294967296 = (b2 : Int) := by omega
       have HX := Lib.hid (And.intro hX' (And.intro hb2' hXe))
       have hij1 : (i : Int) + (j : Int) < (n : Int) + 2 := by omega
       have hm9 := Nat.mod_lt cc (y := 4294967296) (by decide)
       clear hX hb2 hX' hb2' hXe
       go_upto_region 27 with fail
       rw [HX.out.1]
       go_wp2_with fail
       rw [HX.out.2.1, show (X : Int) % 4294967296 = ((X % 4294967296 : Nat) : Int) by omega, show (cc : Int) / 4294967296 = ((cc / 4294967296 : Nat) : Int) by omega]
       go_roundg (p + 3 - (i + 1))
       case measure => have := Hk3.out; omega
       case rel =>
        refine ⟨i + 1, cc / 4294967296, b2, M1.set i (X % 4294967296), rfl, rfl, rfl, rfl, by omega, by omega, hb2b, ?_, Blk.far Hz.out.2.1 (p := ⟨w1.heap.size, i + j, none⟩) (Ne.symm hne) _, Hz.out.2.2.1.setCell (p := ⟨w1.heap.size, i + j, none⟩) (show w.heap.size ≤ w1.heap.size from hsz1) _, ReadsW.setCell Hz.out.2.2.2.1 (p := ⟨w1.heap.size, i + j, none⟩) (Nat.le_refl _) _, Hst.out _ _ _ HCC.out HX.out.2.2 (Nat.mod_lt _ (by decide)) (fun hh => ?_)⟩
        ·have := Hm1.out (X % 4294967296)
         rwa [Nat.add_comm j i] at this
        ·have h7 := Hz.out.1 hh
         have h8 := HCC.out
         rw [h7, Nat.mul_zero] at h8
         omega
      ·have hi' : i = p + 2 + 1 := by omega
       have hT1 := hT.out
       rw [hi'] at hT1
       obtain ⟨e1, e2, e3, e4⟩ := taken_end hT1 HV.out.2.1.symm Hmid.out.2.1 hb1 (by rw [val_w]; exact Hle.out) (by rw [val_w]; exact hgM.out)
       rw [val_w] at e3 e4
       have hLs := long_step hLong.out HV.out.2.2.2.1 hV0 hjm e1 e2 (by rw [show p + 2 + 1 = p + 3 from rfl, ← Hmid.out.1]; exact e3)
       rw [show p + 2 + 1 = p + 3 from rfl, ← Hmid.out.1, ← e4] at hLs
       have HLs := Lib.hid hLs
       have Hend := Lib.hid (And.intro hm1 (And.intro hq1 (And.intro hl1 hr1)))
       have hii : (p : Int) + 2 < (i : Int) := by omega
       clear hT1 e1 e2 e3 e4 hLs hT hm1 hq1 hl1 hr1
       go_wp2_with fail
       go_roundg j
       case measure => omega
       case rel => exact ⟨_, Q.set j gz, rfl, by omega, Hend.out.1, Hend.out.2.1, Hend.out.2.2.1, Hend.out.2.2.2, HLs.out.1⟩
    ·rw [decide_eq_false hle] at hf
     obtain ⟨hgp, hgd⟩ := guess_less hgM.out hle
     have HF := Lib.hid hf
     have Hgd := Lib.hid hgd
     clear hf hle hgd
     go_wp2_with fail
     refine HF.out.mono ?_
     rintro e w7 ⟨rfl, hb7⟩
     have Hb7 := Lib.hid (hbi.trans (hb7.mono hbi.size))
     clear hb7 hbi
     go_wp2_with fail
     go_roundg (gz - 1)
     case measure => have := Hk.out; omega
     case rel => exact ⟨gz - 1, by congr 1; omega, rfl, by omega, Hgd, Hb7.out⟩
  ·have hk0 : gk = 0 := by omega
   subst hk0
   have hlo := hLong.out
   obtain ⟨q1, q2, q3, q4, q5, q6, q7⟩ := hlo
   rw [Nat.pow_zero, Nat.mul_one, HV.out.1] at q7
   rw [HV.out.1] at q6
   have hend := divide_end q6 q7 (Nat.two_pow_pos y)
   have hcQ := rcut_any (reads_blk hbq hbq.lt) (n := n - p) (c := n - p) (by omega) (Nat.le_refl _) (by omega) q4
   have hcU := rcut_any (reads_blk hbu hbu.lt) (n := n + 2) (c := n + 2) (by omega) (Nat.le_refl _) (by omega) q2
   have hmQ := (wds_take _ _ rfl q4).2
   have hmU := (wds_take _ _ rfl q2).2
   have hrU := reads_cut (reads_blk hbu hbu.lt) q2
   have hrQ := reads_cut (reads_blk hbq hbq.lt) q4
   have hD := rdown_any hrU (Nat.le_refl _) rfl (n := y) (c := n + 2) (by omega) (by omega) (wd_w _)
   rw [val_w, hend.2] at hD
   rw [hend.1] at hcQ hrQ hmQ
   obtain ⟨mU, hmU'⟩ : ∃ mU, mU = (wds (val L)).length := ⟨_, rfl⟩
   rw [← hmU'] at hD hcU hmU
   have HCQ := Lib.hid hcQ
   have HCU := Lib.hid hcU
   have HD := Lib.hid hD
   have Hr := Lib.hid (And.intro hrQ (And.intro hbel (And.intro hmQ (And.intro q3 hbq))))
   clear hcQ hcU hD hrQ hrU hmQ hmU hend q1 q2 q3 q4 q5 q6 q7 hbu hbq hbel hrvr hmU'
   go_wp2_with fail
   refine HCQ.out.mono ?_
   rintro e w7 ⟨mQ, rfl, hmQ', rfl⟩
   have HmQ := Lib.hid hmQ'
   clear hmQ'
   go_wp2_with fail
   refine HCU.out.mono ?_
   rintro e w8 ⟨mU2, rfl, rfl, rfl⟩
   go_wp2_with fail
   refine HD.out.mono ?_
   rintro e w9 ⟨A2, m2, c2, rfl, hm2, hc2, hc2b, hr2, hbR⟩
   have Hfin := Lib.hid (And.intro hm2 (And.intro hr2 hbR))
   clear hm2 hr2 hbR
   go_wp2_with fail
   go_ret2
   refine ⟨_, _, _, _, _, _, rfl, ⟨HmQ.out, Hfin.out.1.out⟩, ?_, hc2, by omega, hc2b, ?_, Hfin.out.2.1, Hr.out.2.1.trans (Hfin.out.2.2.mono Hr.out.2.1.size)⟩
   ·rw [HmQ.out]; have := Hr.out.2.2.1; have := Hr.out.2.2.2.1; omega
   ·exact (Hr.out.1.below Hfin.out.2.2).more Hfin.out.2.2.size
theorem rdivided_any {w : World} {B n m c d a b : Nat} {A C : Option Addr} (h1 : ReadsW w B A (wds a)) (h2 : ReadsW w B C (wds b)) (hB : B ≤ w.heap.size) (hn : n = (wds a).length) (hm : m = (wds b).length) (hnl : n ≤ 30000000) (hml : m ≤ 30000000) (hnc : n ≤ c) (hcl : c ≤ 9223372036854775807) (hb : 0 < b) :
  Calls Tryz.prog 163 #[.slice A n c, .slice C m d] w (Div2 w (a / b) (a % b)) := by
 rcases Nat.lt_or_ge a b with h | h
 ·exact rdivided_lt h1 h2 hB hn hm hnc hcl (by omega) (by omega) h
 ·rcases (show m = 0 ∨ m = 1 ∨ 2 ≤ m by omega) with h0 | h0 | h0
  ·exfalso
   rw [wds_pos hb] at hm
   simp at hm
   omega
  ·exact rdivided_one h1 h2 hB hn hm (by omega) (by omega) h h0
  ·exact rdivided_long h1 h2 hB hn hm hnl hml h (show m = (m - 2) + 2 by omega)
theorem gcd_turn (x y : Nat) : Nat.gcd y (x % y) = Nat.gcd x y := by rw [Nat.gcd_comm y (x % y), ← Nat.gcd_rec, Nat.gcd_comm]
theorem len_posn {y : Nat} (h : 0 < y) : 0 < (wds y).length := by rw [wds_pos h]; simp
set_option maxRecDepth 100000 in
set_option maxHeartbeats 4000000 in
theorem rgcd_any {w : World} {na nb : Bool} {sa sb : ByteArray} (ha : Fmd sa) (hb : Fmd sb) :
  Calls Tryz.prog 146 #[.agg #[.bool na, .string sa], .agg #[.bool nb, .string sb]] w (Calm w (enc ((Nat.gcd (bval sa.data.toList) (bval sb.data.toList) : Nat) : Int))) := by
 have HA := Lib.hid (fun W : World => words_any (w := W) (by have := ha.2; omega) ha.1)
 have HB := Lib.hid (fun W : World => words_any (w := W) (by have := hb.2; omega) hb.1)
 have Hla := Lib.hid (And.intro ha.len hb.len)
 have Hab := Lib.hid (And.intro ha hb)
 obtain ⟨a, hae⟩ : ∃ a, a = bval sa.data.toList := ⟨_, rfl⟩
 obtain ⟨b, hbe⟩ : ∃ b, b = bval sb.data.toList := ⟨_, rfl⟩
 rw [← hae] at HA
 rw [← hbe] at HB
 rw [← hae, ← hbe] at Hla
 have Hnum := Lib.hid (show num (na, sa) = sgn na a ∧ num (nb, sb) = sgn nb b from ⟨by rw [hae]; rfl, by rw [hbe]; rfl⟩)
 (try rw [← hae, ← hbe])
 clear hae hbe ha hb
 have E0 := Lib.hid (Env.nil w)
 go_enter Tryz.func146, Tryz.ntmps146
 obtain ⟨zs, zb, ez⟩ : ∃ s b', enc ((Nat.gcd a b : Nat) : Int) = .agg #[.bool s, .string b'] := ⟨_, _, rfl⟩
 go_upto_region 1 with fail
 have E1 : Hid (Env w (((w.alloc (.cells #[.bool na, .string sa] 34)).alloc (.cells #[.bool nb, .string sb] 34)).alloc (.cells #[.bool false, .string ⟨#[]⟩] 34)) [(w.heap.size + 1 + 1, 34, #[.bool false, .string ⟨#[]⟩]), (w.heap.size + 1, 34, #[.bool nb, .string sb]), (w.heap.size, 34, #[.bool na, .string sa])]) := Lib.hid (by have h := (Env.new (Env.new (Env.new E0.out 34 #[.bool na, .string sa]) 34 #[.bool nb, .string sb]) 34 #[.bool false, .string ⟨#[]⟩]); (try simp only [World.size_alloc] at h); exact h)
 generalize (((w.alloc (.cells #[.bool na, .string sa] 34)).alloc (.cells #[.bool nb, .string sb] 34)).alloc (.cells #[.bool false, .string ⟨#[]⟩] 34)) = W1 at E1 ⊢
 have Cf1 := Lib.hid (fun (W : World) (h : Env w W [(w.heap.size + 1 + 1, 34, #[.bool false, .string ⟨#[]⟩]), (w.heap.size + 1, 34, #[.bool nb, .string sb]), (w.heap.size, 34, #[.bool na, .string sa])]) => (show W.cell? ⟨w.heap.size, 0, none⟩ = some (.bool na) ∧ W.cell? ⟨w.heap.size, 1, none⟩ = some (.string sa) ∧ W.cell? ⟨w.heap.size + 1, 0, none⟩ = some (.bool nb) ∧ W.cell? ⟨w.heap.size + 1, 1, none⟩ = some (.string sb) from ⟨(Env.at_ h 2 rfl).cell 0, (Env.at_ h 2 rfl).cell 1, (Env.at_ h 1 rfl).cell 0, (Env.at_ h 1 rfl).cell 1⟩))
 refine wp_region_noPanic ?_
 refine wp_region_HK (fun w' => w'.cell? ⟨w.heap.size, 0, none⟩ = some (.bool na) ∧ w'.cell? ⟨w.heap.size, 1, none⟩ = some (.string sa) ∧ w'.cell? ⟨w.heap.size + 1, 0, none⟩ = some (.bool nb) ∧ w'.cell? ⟨w.heap.size + 1, 1, none⟩ = some (.string sb)) 6 (by kernel_rfl) (Cf1.out _ E1.out.drew) (fun hHeld => ?_)
 refine wpHK_pure (i := 0) (oi := Oper.mk (some 9) _ _ _ _ _) (v := ?_) rfl (by kernel_rfl) (by kernel_rfl) (by kernel_rfl) (fun _ _ _ h => h) (Or.inl ⟨by rfl, ?_⟩) ?_
 rotate_left
 ·(intro w' _; go_simp; try with_reducible rfl)
 try simp only [Act.put, List.setIfInBounds_toArray, List.set_cons_zero, List.set_cons_succ]
 refine wpHK_pure (i := 3) (oi := Oper.mk (some 12) _ _ _ _ _) (v := ?_) rfl (by kernel_rfl) (by kernel_rfl) (by kernel_rfl) (fun _ _ _ h => h) (Or.inl ⟨by rfl, ?_⟩) ?_
 rotate_left
 ·(intro w' _; go_simp; try with_reducible rfl)
 try simp only [Act.put, List.setIfInBounds_toArray, List.set_cons_zero, List.set_cons_succ]
 refine wpHK_take (i := 1) (oi := Oper.mk (some 10) _ _ _ _ _) (v := ?_) rfl (by kernel_rfl) (by kernel_rfl) (by kernel_rfl) (by kernel_rfl) (fun _ _ _ h => h) (Or.inl ⟨by rfl, ?_⟩) (by assumption) ?_
 rotate_left
 ·(intro w' hSw; (try dsimp only at hSw); (obtain ⟨s0, s1, s2, s3⟩ := hSw); go_simp; try with_reducible rfl)
 try simp only [Act.put, List.setIfInBounds_toArray, List.set_cons_zero, List.set_cons_succ]
 refine wpHK_take (i := 4) (oi := Oper.mk (some 13) _ _ _ _ _) (v := ?_) rfl (by kernel_rfl) (by kernel_rfl) (by kernel_rfl) (by kernel_rfl) (fun _ _ _ h => h) (Or.inl ⟨by rfl, ?_⟩) (by assumption) ?_
 rotate_left
 ·(intro w' hSw; (try dsimp only at hSw); (obtain ⟨s0, s1, s2, s3⟩ := hSw); go_simp; try with_reducible rfl)
 try simp only [Act.put, List.setIfInBounds_toArray, List.set_cons_zero, List.set_cons_succ]
 refine wpHK_one (j := 2) (o := Oper.mk (some 11) _ _ _ _ _) rfl (by kernel_rfl) (fun K hK => ?_)
 go_simp
 refine (HA.out _).mono ?_
 rintro e V1 ⟨A1, m1, c1, rfl, hm, hmc, hcl, hr, hb⟩
 have F1 := Lib.hid (Env.call E1.out.drew hb)
 have R1 := Lib.hid (And.intro hm.out (And.intro hmc (And.intro hcl hr)))
 have hbl := Lib.hid hb
 clear hm hmc hcl hr hb
 refine hK.out _ _ (Cf1.out _ F1.out) (fun _ => ?_)
 clear hK K hHeld
 have hHeld := (Cf1.out _ F1.out)
 try simp only [Act.put, List.setIfInBounds_toArray, List.set_cons_zero, List.set_cons_succ]
 refine wpHK_one (j := 5) (o := Oper.mk (some 14) _ _ _ _ _) rfl (by kernel_rfl) (fun K hK => ?_)
 go_simp
 refine (HB.out _).mono ?_
 rintro e V2 ⟨A2, m2, c2, rfl, hm, hmc, hcl, hr, hb⟩
 have F2 := Lib.hid (Env.call F1.out hb)
 have R2 := Lib.hid (And.intro hm.out (And.intro hmc (And.intro hcl hr)))
 have hbl := Lib.hid hb
 clear hm hmc hcl hr hb
 have R1' := Lib.hid (And.intro R1.out.1 (And.intro R1.out.2.1 (And.intro R1.out.2.2.1 ((R1.out.2.2.2.below hbl.out).more hbl.out.size))))
 clear R1 hbl
 have R1 := R1'
 clear R1'
 refine hK.out _ _ (Cf1.out _ F2.out) (fun _ => ?_)
 clear hK K hHeld
 have hHeld := (Cf1.out _ F2.out)
 try simp only [Act.put, List.setIfInBounds_toArray, List.set_cons_zero, List.set_cons_succ]
 refine wpHK_pure (i := 6) (oi := Oper.mk (some 5) _ _ _ _ _) (v := ?_) rfl (by kernel_rfl) (by kernel_rfl) (by kernel_rfl) (fun _ _ _ h => h) (Or.inl ⟨by rfl, ?_⟩) ?_
 rotate_left
 ·(intro w' _; go_simp; try with_reducible rfl)
 try simp only [Act.put, List.setIfInBounds_toArray, List.set_cons_zero, List.set_cons_succ]
 refine wpHK_pure (i := 7) (oi := Oper.mk (some 6) _ _ _ _ _) (v := ?_) rfl (by kernel_rfl) (by kernel_rfl) (by kernel_rfl) (fun _ _ _ h => h) (Or.inl ⟨by rfl, ?_⟩) ?_
 rotate_left
 ·(intro w' _; go_simp; try with_reducible rfl)
 try simp only [Act.put, List.setIfInBounds_toArray, List.set_cons_zero, List.set_cons_succ]
 refine wpHK_done (by kernel_rfl) ?_ _
 refine NoPanic.normal ?_
 go_wp2_with fail
 go_loopg [5, 6] b (fun k xv yv wr => ∃ (A : Option Addr) (n c : Nat) (A' : Option Addr) (n' c' x y : Nat), Hid (k = y) ∧ xv = .slice A n c ∧ yv = .slice A' n' c' ∧ Hid (n = (wds x).length ∧ n ≤ c ∧ c ≤ 9223372036854775807 ∧ ReadsW wr wr.heap.size A (wds x)) ∧ Hid (n' = (wds y).length ∧ n' ≤ c' ∧ c' ≤ 9223372036854775807 ∧ ReadsW wr wr.heap.size A' (wds y)) ∧ n ≤ 25000001 ∧ n' ≤ 25000001 ∧ Hid (Nat.gcd x y = Nat.gcd a b) ∧ Hid (Env w wr [(w.heap.size + 1 + 1, 34, #[.bool false, .string ⟨#[]⟩]), (w.heap.size + 1, 34, #[.bool nb, .string sb]), (w.heap.size, 34, #[.bool na, .string sa])]))
 case atStart => exact ⟨_, _, _, _, _, _, a, b, Lib.hid rfl, rfl, rfl, R1, R2, by rw [R1.out.1]; exact Hla.out.1, by rw [R2.out.1]; exact Hla.out.2, Lib.hid rfl, F2⟩
 case round =>
  obtain ⟨A, n, c, A', n', c', x, y, Hk, rfl, rfl, Hx, Hy, hn, hn', HG, HE⟩ := hrel
  rcases Nat.eq_zero_or_pos y with h0 | h0
  case inr =>
   have hp := len_posn h0
   have hp' : 0 < n' := by rw [Hy.out.1]; exact hp
   have HD := Lib.hid (rdivided_any (d := c') Hx.out.2.2.2 Hy.out.2.2.2 (Nat.le_refl _) Hx.out.1 Hy.out.1 (by omega) (by omega) Hx.out.2.1 Hx.out.2.2.1 h0)
   have Hmod := Lib.hid (Nat.mod_lt x h0)
   have HL := Lib.hid (len_mono (Nat.le_of_lt (Nat.mod_lt x h0)))
   clear h0 hp
   go_wp2_with fail
   refine HD.out.mono ?_
   rintro e w2 ⟨A1, n1, c1, A2, n2, c2, rfl, hn12, hc1, hc2, hc1', hc2', hr1, hr2, hb⟩
   have Hy2 := Lib.hid (And.intro Hy.out.1 (And.intro Hy.out.2.1 (And.intro Hy.out.2.2.1 ((Hy.out.2.2.2.below hb).more hb.size))))
   have Hr2 := Lib.hid (And.intro hn12.out.2 (And.intro hc2 (And.intro hc2' hr2)))
   have HE2 := Lib.hid (Env.call HE.out hb)
   clear hn12 hc1 hc2 hc1' hc2' hr1 hr2 hb
   go_wp2_with fail
   go_roundg (x % y)
   case measure => rw [Hk.out]; exact Hmod.out
   case rel => exact ⟨_, _, _, _, _, _, y, x % y, Lib.hid rfl, rfl, rfl, Hy2, Hr2, hn', by have h1 := Hr2.out.1; have h2 := Hy.out.1; have h3 := HL.out; omega, Lib.hid ((gcd_turn x y).trans HG.out), HE2⟩
  case inl =>
   subst h0
   have hz : n' = 0 := by rw [Hy.out.1, wds_zero]; rfl
   subst hz
   have hg := HG.out
   rw [Nat.gcd_zero_right] at hg
   subst hg
   have HM := made_any (w := wr) (neg := false) Hx.out.2.2.2 (Nat.le_refl _) Hx.out.1 Hx.out.2.1 Hx.out.2.2.1 (by omega) (wd_w _)
   rw [val_w, show sgn false (Nat.gcd a b) = ((Nat.gcd a b : Nat) : Int) from rfl, ez] at HM
   have HM' := Lib.hid HM
   clear HM
   go_wp2_with fail
   refine HM'.out.mono ?_
   rintro e w3 ⟨rfl, hb⟩
   have HE3 := Lib.hid (Env.call HE.out hb)
   clear hb
   have n4 := Env.at_ HE3.out 0 rfl
   have y0 := n4.cell 0
   have y1 := n4.cell 1
   have y2 := n4.frozen 0
   have y3 := n4.frozen 1
   simp at y0 y1
   have hge := HE3.out.1.size
   clear n4
   go_wp2_with fail
   have n5 := ((Env.at_ HE3.out 0 rfl).set_ 0 (.bool zs)).set_ 1 (.string zb)
   have d0 := n5.cell 0
   have d1 := n5.cell 1
   simp at d0 d1
   refine bodyPost_ret (v := .agg #[.bool zs, .string zb]) (by simp [results, Tryz.results146, go_sem, d0, d1]) rfl ?_
   exact ⟨by rw [ez], ((HE3.out.1).setCell (by show w.heap.size ≤ w.heap.size + 1 + 1; omega) _).setCell (by show w.heap.size ≤ w.heap.size + 1 + 1; omega) _⟩
end Go.Proofs.YtebpggfccljagaaGreatDoor
namespace Go.Proofs.YtebpggfccljagaaGreatDoor
open Go.RowKit
open Wh
set_option linter.unusedSimpArgs false
set_option maxRecDepth 100000 in
set_option maxHeartbeats 4000000 in
theorem number_any {w : World} {ng : Bool} {s : ByteArray} (hm : s.data.toList.length ≤ 16384) :
  Calls Tryz.prog 148 #[.agg #[.bool ng, .string s]] w (NewI w (num (ng, s))) := by
 have kc := fun (W : World) (s : ByteArray) => Lib.run_convert_string_bytes (P := Tryz.prog) W 9 97 5 s Tryz.underlying9 Tryz.underlying97 Tryz.underlying5
 have hsl : s.data.toList.length = s.size := Array.length_toList
 have hsz : s.size ≤ 16384 := by omega
 have Hm := Lib.hid hm
 clear hm
 have hbk := Blk.new w 34 #[.bool ng, .string s]
 have e0 : (w.alloc (.cells #[.bool ng, .string s] 34)).cell? ⟨w.heap.size, 0, none⟩ = some (.bool ng) := hbk.cell 0
 have hb1 : Below w.heap.size w (w.alloc (.cells #[.bool ng, .string s] 34)) := new_below _ _
 have hsz1 : (w.alloc (.cells #[.bool ng, .string s] 34)).heap.size = w.heap.size + 1 := by simp
 obtain ⟨W1, hW1⟩ : ∃ W1, W1 = w.alloc (.cells #[.bool ng, .string s] 34) := ⟨_, rfl⟩
 rw [← hW1] at e0 hb1 hsz1
 have hrd := bytes_reads (W1.alloc (.cells #[.bool false, .slice none 0 0] 151)) s
 rw [World.size_alloc] at hrd
 have hbb := bytes_below (W1.alloc (.cells #[.bool false, .slice none 0 0] 151)) s
 have HS : Hid (Calls Tryz.prog 149 #[.pointer (some ⟨W1.heap.size, 0, none⟩), .slice (some ⟨W1.heap.size + 1, 0, none⟩) s.size (grownCap (W1.alloc (.cells #[.bool false, .slice none 0 0] 151)) s.size 0 5)] (Lib.bytesWorld (W1.alloc (.cells #[.bool false, .slice none 0 0] 151)) 5 s) (fun e w3 => e = .returned (.pointer (some ⟨W1.heap.size, 0, none⟩)) ∧ IntB w3 W1.heap.size ((bval s.data.toList : Nat) : Int) ∧ Below w.heap.size w w3 ∧ w3.cell? ⟨w.heap.size, 0, none⟩ = some (.bool ng))) := by
  refine Lib.hid ((setbytes_any (c := grownCap (W1.alloc (.cells #[.bool false, .slice none 0 0] 151)) s.size 0 5) ((IntB.zero W1).slot.below hbb) hrd (Nat.le_refl _) hsl.symm (by omega)).mono ?_)
  rintro e w3 ⟨rfl, hi3, hg3⟩
  have hb13 : Below W1.heap.size W1 w3 := ((new_below W1 _).trans (hbb.mono (by simp))).grown hg3 (by rw [Lib.bytesWorld_size]; simp; omega) (fun k hk => by injection hk with hk; omega)
  exact ⟨rfl, hi3, hb1.trans (hb13.mono hb1.size), (hb13.cell (p := ⟨w.heap.size, 0, none⟩) (by show w.heap.size < _; omega)).trans e0⟩
 have hlen := len_mag Hm.out
 subst hW1
 rw [World.size_alloc] at HS
 clear hrd hbb e0 hb1 hsz1 hbk hsl
 cases ng
 ·go_enter Tryz.func148, Tryz.ntmps148
  go_wp2_with (go_at_call 149; (refine HS.out.mono ?_); rintro _ w3 ⟨rfl, hi3, hb3, d0⟩)
  go_ret
  exact ⟨_, rfl, by simp, hi3, hb3⟩
 ·go_enter Tryz.func148, Tryz.ntmps148
  go_wp2_with (first | (go_at_call 149; (refine HS.out.mono ?_); rintro _ w3 ⟨rfl, hi3, hb3, d0⟩; have HN := Lib.hid (neg_any hi3.slot hi3 (by rw [Int.natAbs_natCast]; omega))) | (go_at_call 150; (refine HN.out.mono ?_); rintro _ w4 ⟨rfl, hi4, hg4⟩))
  go_ret
  exact ⟨_, rfl, by simp, hi4, up_row hb3 hg4 hb3.size (by omega)⟩
def RatS (w : World) (g : Nat) : Prop := ∃ cs, Blk w g 153 cs ∧ cs.size = 4
theorem RatS.lt {w : World} {g : Nat} (h : RatS w g) : g < w.heap.size := by
 obtain ⟨cs, hb, _⟩ := h
 exact hb.lt
theorem RatS.below {w w' : World} {g : Nat} (h : RatS w g) (hb : Below w.heap.size w w') : RatS w' g := by
 have hlt := h.lt
 obtain ⟨cs, hk, hs⟩ := h
 exact ⟨cs, hk.below hb hlt, hs⟩
theorem rat_made {w : World} {g : Nat} {a b : Int} {sa sb : Bool} {A B : Option Addr} {n c m d : Nat} (hs : RatS w g) (ha : Hid (sa = decide (a < 0) ∧ n = (wds a.natAbs).length)) (hnc : n ≤ c) (hc : c ≤ 9223372036854775807) (hA : ReadsW w w.heap.size A (wds a.natAbs))
  (hb : Hid (sb = decide (b < 0) ∧ m = (wds b.natAbs).length)) (hmd : m ≤ d) (hd : d ≤ 9223372036854775807) (hB : ReadsW w w.heap.size B (wds b.natAbs)) (hp : 0 < b) :
  RatB ((((w.setCell ⟨g, 0, none⟩ (.bool sa)).setCell ⟨g, 1, none⟩ (.slice A n c)).setCell ⟨g, 2, none⟩ (.bool sb)).setCell ⟨g, 3, none⟩ (.slice B m d)) g a b ∧
   w.grownBy ((((w.setCell ⟨g, 0, none⟩ (.bool sa)).setCell ⟨g, 1, none⟩ (.slice A n c)).setCell ⟨g, 2, none⟩ (.bool sb)).setCell ⟨g, 3, none⟩ (.slice B m d)) (some g) := by
 obtain ⟨cs, hk, hz⟩ := hs
 have hg : w.grownBy ((((w.setCell ⟨g, 0, none⟩ (.bool sa)).setCell ⟨g, 1, none⟩ (.slice A n c)).setCell ⟨g, 2, none⟩ (.bool sb)).setCell ⟨g, 3, none⟩ (.slice B m d)) (some g) :=
  only_setCell (p := ⟨g, 3, none⟩) (only_setCell (p := ⟨g, 2, none⟩) (only_setCell (p := ⟨g, 1, none⟩) (only_setCell (p := ⟨g, 0, none⟩) (World.grownBy.refl w (some g)) (.inl rfl) _) (.inl rfl) _) (.inl rfl) _) (.inl rfl) _
 have hk4 := (((hk.set_ 0 (.bool sa)).set_ 1 (.slice A n c)).set_ 2 (.bool sb)).set_ 3 (.slice B m d)
 have off : ∀ {l : List Nat} {X : Option Addr}, ReadsW w w.heap.size X l → ReadsW ((((w.setCell ⟨g, 0, none⟩ (.bool sa)).setCell ⟨g, 1, none⟩ (.slice A n c)).setCell ⟨g, 2, none⟩ (.bool sb)).setCell ⟨g, 3, none⟩ (.slice B m d)) w.heap.size X l := fun h =>
  h.other hg (Nat.le_refl _) fun r e => by
   injection e with e
   subst e
   exact ⟨_, _, _, hk, by decide⟩
 generalize ((((w.setCell ⟨g, 0, none⟩ (.bool sa)).setCell ⟨g, 1, none⟩ (.slice A n c)).setCell ⟨g, 2, none⟩ (.bool sb)).setCell ⟨g, 3, none⟩ (.slice B m d)) = w4 at *
 refine ⟨⟨⟨sa, A, n, c, ?_, ?_, ha, hnc, hc, (off hA).more hg.size⟩, ⟨sb, B, m, d, ?_, ?_, hb, hmd, hd, (off hB).more hg.size⟩, hp⟩, hg⟩
 ·rw [hk4.cell]; simp [hz]
 ·rw [hk4.cell]; simp [hz]
 ·rw [hk4.cell]; simp [hz]
 ·rw [hk4.cell]; simp [hz]
theorem quo_new {W : World} {ga gb : Nat} {a b : Int} (ha : IntB W ga a) (hb : IntB W gb b) (hal : (wds a.natAbs).length ≤ 900000000) (hbl : (wds b.natAbs).length ≤ 900000000) (hb0 : b ≠ 0) :
  Calls Tryz.prog 165 #[.pointer (some ⟨W.heap.size, 0, none⟩), .pointer (some ⟨ga, 0, none⟩), .pointer (some ⟨gb, 0, none⟩)] (W.alloc (.cells #[.bool false, .slice none 0 0] 151)) (fun e w' => e = .returned (.pointer (some ⟨W.heap.size, 0, none⟩)) ∧ IntB w' W.heap.size (a.tdiv b) ∧ Below W.heap.size W w') := by
 refine (quo_any (IntB.zero W).slot (ha.below (new_below _ _)) (hb.below (new_below _ _)) hal hbl hb0).mono ?_
 rintro _ w' ⟨rfl, hi, hg⟩
 exact ⟨rfl, hi, below_new hg⟩
theorem gcd_new {W : World} {ga gb : Nat} {a b : Int} (ha : IntB W ga a) (hb : IntB W gb b) (hal : (wds a.natAbs).length ≤ 900000000) (hbl : (wds b.natAbs).length ≤ 900000000) :
  Calls Tryz.prog 164 #[.pointer (some ⟨W.heap.size, 0, none⟩), .pointer none, .pointer none, .pointer (some ⟨ga, 0, none⟩), .pointer (some ⟨gb, 0, none⟩)] (W.alloc (.cells #[.bool false, .slice none 0 0] 151)) (fun e w' => e = .returned (.pointer (some ⟨W.heap.size, 0, none⟩)) ∧ IntB w' W.heap.size (Nat.gcd a.natAbs b.natAbs : Int) ∧ Below W.heap.size W w') := by
 refine (gcd_any (IntB.zero W).slot (ha.below (new_below _ _)) (hb.below (new_below _ _)) hal hbl).mono ?_
 rintro _ w' ⟨rfl, hi, hg⟩
 exact ⟨rfl, hi, below_new hg⟩
theorem len_le {x y : Nat} (h : x ≤ y) (hl : (wds y).length ≤ 900000000) : (wds x).length ≤ 900000000 := Nat.le_trans (len_mono h) hl
theorem len_numF {n : Bool} {s : ByteArray} (h : s.data.toList.length ≤ 16384) : (wds (num (n, s)).natAbs).length ≤ 900000000 := by
 have h1 := len_mag h
 unfold num
 rw [sgn_abs]
 exact Nat.le_trans h1 (by decide)
set_option maxRecDepth 100000 in
set_option maxHeartbeats 4000000 in
theorem setfrac_pos {w : World} {g ga gb : Nat} {a b : Int} (hz : RatS w g) (hga : ga ≠ g) (hgb : gb ≠ g) (ha : IntB w ga a) (hb : IntB w gb b) (hal : (wds a.natAbs).length ≤ 900000000) (hbl : (wds b.natAbs).length ≤ 900000000) (hp : 0 < b) :
  Calls Tryz.prog 147 #[.pointer (some ⟨g, 0, none⟩), .pointer (some ⟨ga, 0, none⟩), .pointer (some ⟨gb, 0, none⟩)] w (fun e w' => e = .returned (.pointer (some ⟨g, 0, none⟩)) ∧ RatB w' g (a.tdiv (Nat.gcd a.natAbs b.natAbs : Int)) (b.tdiv (Nat.gcd a.natAbs b.natAbs : Int)) ∧ w.grownBy w' (some g)) := by
 have hG : 0 < Nat.gcd a.natAbs b.natAbs := Nat.gcd_pos_of_pos_right _ (by omega)
 have hGle : Nat.gcd a.natAbs b.natAbs ≤ b.natAbs := Nat.gcd_le_right _ (by omega)
 have hGd : Nat.gcd a.natAbs b.natAbs ∣ b.natAbs := Nat.gcd_dvd_right _ _
 have HG := Lib.hid (gcd_new ha hb hal hbl)
 obtain ⟨G, hGe⟩ : ∃ G, G = Nat.gcd a.natAbs b.natAbs := ⟨_, rfl⟩
 rw [← hGe] at HG hG hGle hGd ⊢
 have HF := Lib.hid (And.intro hG (And.intro hGle (And.intro hGd hp)))
 have HL := Lib.hid (And.intro hal hbl)
 have HA := Lib.hid (And.intro ha (And.intro hb hz))
 have HN := Lib.hid (And.intro hga hgb)
 clear hal hbl hG hGle hGd hGe hp ha hb hz hga hgb
 go_enter Tryz.func147, Tryz.ntmps147
 go_wp2_with (go_at_call 164; (refine HG.out.mono ?_); rintro _ W1 ⟨rfl, hi1, hb1⟩; obtain ⟨sb, Ab, nb, cb, y0, y1, Hy, _, _, _⟩ := (HA.out.2.1.below hb1).opened; have hsb : sb = false := (by rw [Hy.out.1]; exact decide_eq_false (by have := HF.out.2.2.2; omega)); subst hsb)
 have hb1n := hb1
 have Q1 := Lib.hid (quo_new (HA.out.1.below hb1) hi1 HL.out.1 (by rw [Int.natAbs_natCast]; exact len_le HF.out.2.1 HL.out.2) (by have := HF.out.1; omega))
 refine Q1.out.mono ?_
 rintro _ W2 ⟨rfl, hi2, hb2⟩
 have hb12 := hb1.trans (hb2.mono hb1.size)
 have Q2 := Lib.hid (quo_new (HA.out.2.1.below hb12) (hi1.below hb2) HL.out.2 (by rw [Int.natAbs_natCast]; exact len_le HF.out.2.1 HL.out.2) (by have := HF.out.1; omega))
 go_wp2_with (go_at_call 165; (refine Q2.out.mono ?_); rintro _ W3 ⟨rfl, hi3, hb3⟩)
 have hb13 := hb12.trans (hb3.mono hb12.size)
 have hgl := HA.out.2.2.lt
 have hi2' := hi2.below hb3
 have hz3 := HA.out.2.2.below hb13
 have hl1 := hb1.size
 have hl2 := hb2.size
 have gn1 : ¬ g = W1.heap.size := by omega
 have gn2 : ¬ g = W2.heap.size := by omega
 have gm1 : ¬ W1.heap.size = g := by omega
 have gm2 : ¬ W2.heap.size = g := by omega
 obtain ⟨s2, A2, n2, c2, u0, u1, Hu, hu1, hu2, hur⟩ := hi2'.opened
 obtain ⟨s3, A3, n3, c3, v0, v1, Hv, hv1, hv2, hvr⟩ := hi3.opened
 have Hz3 := Lib.hid hz3
 obtain ⟨cs, hk, hcs⟩ := hz3
 obtain ⟨z0, e0⟩ : ∃ z, W3.cell? ⟨g, 0, none⟩ = some z := ⟨cs[0]'(by omega), by rw [hk.cell]; exact Array.getElem?_eq_getElem (by omega)⟩
 obtain ⟨z1, e1⟩ : ∃ z, W3.cell? ⟨g, 1, none⟩ = some z := ⟨cs[1]'(by omega), by rw [hk.cell]; exact Array.getElem?_eq_getElem (by omega)⟩
 obtain ⟨z2, e2⟩ : ∃ z, W3.cell? ⟨g, 2, none⟩ = some z := ⟨cs[2]'(by omega), by rw [hk.cell]; exact Array.getElem?_eq_getElem (by omega)⟩
 obtain ⟨z3, e3⟩ : ∃ z, W3.cell? ⟨g, 3, none⟩ = some z := ⟨cs[3]'(by omega), by rw [hk.cell]; exact Array.getElem?_eq_getElem (by omega)⟩
 have f0 := hk.frozen 0
 have f1 := hk.frozen 1
 have f2 := hk.frozen 2
 have f3 := hk.frozen 3
 have HU := Lib.hid (And.intro hu1 (And.intro hu2 hur))
 have HV := Lib.hid (And.intro hv1 (And.intro hv2 hvr))
 have HB := Lib.hid hb13
 generalize W1.heap.size = N1 at *
 generalize W2.heap.size = N2 at *
 clear hk hcs hi2' hi2 hi3 hu1 hu2 hur hv1 hv2 hvr hb13 hb12 hb1n hb1 hb2 hb3 Q1 Q2 hgl hl1 hl2 hi1 HG
 go_region
 go_wp2_with fail
 go_ret
 have hpos : 0 < b.tdiv (G : Int) := by
  obtain ⟨q, hq⟩ := HF.out.2.2.1
  have hb0 := HF.out.2.2.2
  have hG0 := HF.out.1
  have e : b = (G : Int) * (q : Int) := by
   have : (b.natAbs : Int) = b := by omega
   rw [← this, hq]; push_cast; rfl
  have hq0 : 0 < q := by
   rcases Nat.eq_zero_or_pos q with h | h
   ·rw [h] at e; omega
   ·exact h
  rw [e, Int.mul_comm, Int.mul_tdiv_cancel _ (by omega)]
  omega
 obtain ⟨r1, r2⟩ := rat_made Hz3.out Hu HU.out.1 HU.out.2.1 HU.out.2.2 Hv HV.out.1 HV.out.2.1 HV.out.2.2 hpos
 have r3 := grown_lift HB.out r2
 exact ⟨rfl, ⟨r1.num, r1.den, r1.pos⟩, ⟨r3.os, r3.tape, r3.output, r3.size, r3.block⟩⟩
theorem RatS.zero (w : World) : RatS (w.alloc (.cells #[.bool false, .slice none 0 0, .bool false, .slice none 0 0] 153)) w.heap.size := ⟨_, Blk.new w 153 _, rfl⟩
theorem grown_cell {w w' : World} {r b o : Nat} (h : w.grownBy w' (some r)) (hb : b < w.heap.size) (hne : b ≠ r) : w'.cell? ⟨b, o, none⟩ = w.cell? ⟨b, o, none⟩ :=
 World.cell?_of_block (h.block b hb (by intro e; injection e with e; exact hne e))
set_option maxRecDepth 100000 in
set_option maxHeartbeats 4000000 in
theorem ratf_any {w : World} {na nb : Bool} {sa sb : ByteArray} (ha : sa.data.toList.length ≤ 16384) (hb : sb.data.toList.length ≤ 16384) (hp : 0 < num (nb, sb)) :
  Calls Tryz.prog 119 #[.agg #[.bool na, .string sa, .bool nb, .string sb]] w (fun e w' => ∃ g, e = .returned (.pointer (some ⟨g, 0, none⟩)) ∧ w.heap.size ≤ g ∧
   RatB w' g ((num (na, sa)).tdiv (Nat.gcd (num (na, sa)).natAbs (num (nb, sb)).natAbs : Int)) ((num (nb, sb)).tdiv (Nat.gcd (num (na, sa)).natAbs (num (nb, sb)).natAbs : Int)) ∧ Below w.heap.size w w') := by
 have H1 := Lib.hid (fun W => number_any (w := W) (ng := na) ha)
 have H2 := Lib.hid (fun W => number_any (w := W) (ng := nb) hb)
 have HL := Lib.hid (And.intro (len_numF (n := na) ha) (len_numF (n := nb) hb))
 have HP := Lib.hid hp
 clear ha hb hp
 generalize num (na, sa) = a at *
 generalize num (nb, sb) = b at *
 go_enter Tryz.func119, Tryz.ntmps119
 go_wp2_with fail
 go_region_held3 (fun w' => w'.cell? ⟨w.heap.size, 0, none⟩ = some (.bool na) ∧ w'.cell? ⟨w.heap.size, 1, none⟩ = some (.string sa) ∧ w'.cell? ⟨w.heap.size, 2, none⟩ = some (.bool nb) ∧ w'.cell? ⟨w.heap.size, 3, none⟩ = some (.string sb))
  (first
   | go_keep
   | (rw [hb1.cell (by first | omega | (simp; omega) | simp), hb1.cell (by first | omega | (simp; omega) | simp), hb1.cell (by first | omega | (simp; omega) | simp), hb1.cell (by first | omega | (simp; omega) | simp)]; go_keep)
   | (rw [hb2.cell (by first | omega | (simp; omega) | simp), hb2.cell (by first | omega | (simp; omega) | simp), hb2.cell (by first | omega | (simp; omega) | simp), hb2.cell (by first | omega | (simp; omega) | simp)]; go_keep)
   | (rw [hb1b.cell (by first | omega | (simp; omega) | simp), hb1b.cell (by first | omega | (simp; omega) | simp), hb1b.cell (by first | omega | (simp; omega) | simp), hb1b.cell (by first | omega | (simp; omega) | simp)]; go_keep)
   | (rw [hb2b.cell (by first | omega | (simp; omega) | simp), hb2b.cell (by first | omega | (simp; omega) | simp), hb2b.cell (by first | omega | (simp; omega) | simp), hb2b.cell (by first | omega | (simp; omega) | simp)]; go_keep)
   | (rw [hb2d.cell (by first | omega | (simp; omega) | simp), hb2d.cell (by first | omega | (simp; omega) | simp), hb2d.cell (by first | omega | (simp; omega) | simp), hb2d.cell (by first | omega | (simp; omega) | simp)]; go_keep)
   | (rw [grown_cell hg3 (by first | omega | (simp; omega)) (by omega), grown_cell hg3 (by first | omega | (simp; omega)) (by omega), grown_cell hg3 (by first | omega | (simp; omega)) (by omega), grown_cell hg3 (by first | omega | (simp; omega)) (by omega)]; go_keep)
   | (rw [grown_cell hg3b (by first | omega | (simp; omega)) (by omega), grown_cell hg3b (by first | omega | (simp; omega)) (by omega), grown_cell hg3b (by first | omega | (simp; omega)) (by omega), grown_cell hg3b (by first | omega | (simp; omega)) (by omega)]; go_keep)
   | (rw [grown_cell hg3d (by first | omega | (simp; omega)) (by omega), grown_cell hg3d (by first | omega | (simp; omega)) (by omega), grown_cell hg3d (by first | omega | (simp; omega)) (by omega), grown_cell hg3d (by first | omega | (simp; omega)) (by omega)]; go_keep))
  (first
   | (go_at_call 148; (with_reducible refine (H1.out _).mono ?_); rintro _ W1 ⟨g1, rfl, hl1, hi1, hb1⟩; have z1 : w.heap.size + 2 ≤ W1.heap.size := (by have := hb1.size; simpa using this); have hl1' : w.heap.size + 2 ≤ g1 := (by simpa using hl1); have hr1 : RatS W1 (w.heap.size + 1) := (RatS.below ⟨_, by have := Blk.new (w.alloc (.cells #[.bool na, .string sa, .bool nb, .string sb] 36)) 153 #[.bool false, .slice none 0 0, .bool false, .slice none 0 0]; rw [World.size_alloc] at this; exact this, rfl⟩ hb1))
   | (go_at_call 148; (with_reducible refine (H2.out _).mono ?_); rintro _ W2 ⟨g2, rfl, hl2, hi2, hb2⟩; have z2 := hb2.size; have hi1' := hi1.below hb2; have hr2 := hr1.below hb2)
   | (go_at_call 147; (with_reducible refine (setfrac_pos hr2 (by omega) (by omega) hi1' hi2 HL.out.1 HL.out.2 HP.out).mono ?_); rintro _ W3 ⟨rfl, hr3, hg3⟩)
   | (go_at_call 148; (with_reducible refine (H1.out _).mono ?_); rintro _ W1 ⟨g1, rfl, hl1b, hi1b, hb1b⟩; have z1b : w.heap.size + 1 ≤ W1.heap.size := (by have := hb1b.size; simpa using this); have hl1c : w.heap.size + 1 ≤ g1 := (by simpa using hl1b); have hg1lt := hi1b.lt)
   | (go_at_call 148; (with_reducible refine (H2.out _).mono ?_); rintro _ W2 ⟨g2, rfl, hl2b, hi2b, hb2b⟩; have z2b : W1.heap.size + 1 ≤ W2.heap.size := (by have := hb2b.size; simpa using this); have hr2b : RatS W2 W1.heap.size := (RatS.below ⟨_, Blk.new W1 153 #[.bool false, .slice none 0 0, .bool false, .slice none 0 0], rfl⟩ hb2b); have hi1c := (hi1b.below (new_below W1 _)).below hb2b; have hl2c : W1.heap.size + 1 ≤ g2 := (by simpa using hl2b))
   | (go_at_call 147; (with_reducible refine (setfrac_pos hr2b (by omega) (by omega) hi1c hi2b HL.out.1 HL.out.2 HP.out).mono ?_); rintro _ W3 ⟨rfl, hr3b, hg3b⟩)
   | (go_at_call 148; (with_reducible refine (H2.out _).mono ?_); rintro _ W2 ⟨g2, rfl, hl2d, hi2d, hb2d⟩; have z2d := hb2d.size; have hg2lt := hi2d.lt)
   | (go_at_call 147; (with_reducible refine (setfrac_pos (RatS.zero W2) (by omega) (by omega) ((hi1b.below hb2d).below (new_below W2 _)) (hi2d.below (new_below W2 _)) HL.out.1 HL.out.2 HP.out).mono ?_); rintro _ W3 ⟨rfl, hr3d, hg3d⟩))
 ·go_wp2_with fail
  go_ret
  exact ⟨_, rfl, by omega, hr3, up_row (((((Below.refl w.heap.size w).alloc (Nat.le_refl _) _).alloc (by simp) _).drew.trans (hb1.mono (by simp; omega))).trans (hb2.mono (by omega))) hg3 (by omega) (by omega)⟩
 ·go_wp2_with fail
  go_ret
  exact ⟨_, rfl, by omega, hr3b, up_row (((((Below.refl w.heap.size w).alloc (Nat.le_refl _) _).drew.trans (hb1b.mono (by simp))).alloc (by omega) _).trans (hb2b.mono (by simp; omega))) hg3b (by omega) (by omega)⟩
 ·go_wp2_with fail
  go_ret
  exact ⟨_, rfl, by omega, hr3d, up_row (((((Below.refl w.heap.size w).alloc (Nat.le_refl _) _).drew.trans (hb1b.mono (by simp))).trans (hb2d.mono (by omega))).alloc (by omega) _) hg3d (by simp; omega) (by omega)⟩
set_option maxRecDepth 100000 in
set_option maxHeartbeats 4000000 in
theorem back_any {w : World} {gx : Nat} {z : Int} (hx : IntB w gx z) (hxl : (wds z.natAbs).length ≤ 100000000) :
  Calls Tryz.prog 93 #[.pointer (some ⟨gx, 0, none⟩)] w (fun e w' => e = .returned (enc z) ∧ Below w.heap.size w w') := by
 have hb0 := new_below w (.cells #[.bool false, .string ⟨#[]⟩] 34)
 have hx1 := hx.below hb0
 have Hx := Lib.hid (And.intro hx1 (And.intro hxl hb0))
 have HS := Lib.hid (sign_any hx1)
 obtain ⟨sv, hsv⟩ : ∃ sv, sv = sg z := ⟨_, rfl⟩
 rw [← hsv] at HS
 have Hsv := Lib.hid hsv
 clear hsv hx hx1 hxl hb0
 go_enter Tryz.func93, Tryz.ntmps93
 go_wp2_with fail
 refine HS.out.mono ?_
 rintro e w3 ⟨rfl, rfl⟩
 have HY := Lib.hid (bytes_any (m := z.natAbs) z rfl Hx.out.1 (by have := Hx.out.2.1; omega))
 go_wp2_with fail
 refine HY.out.mono ?_
 rintro e w4 ⟨A, n, rfl, hn, hr, hb4⟩
 have hstr := run_str (c := n) hn.out hr
 have hbk := (Blk.new w 34 #[.bool false, .string ⟨#[]⟩]).below hb4 (by simp)
 have d0 := hbk.cell 0
 have d1 := hbk.cell 1
 have f0 := hbk.frozen 0
 have f1 := hbk.frozen 1
 have Hb24 := Lib.hid (And.intro hbk hb4)
 clear hbk hb4 hr
 go_wp2_with fail
 refine bodyPost_ret (v := .agg #[.bool (decide (sv < 0)), .string ⟨(bys z.natAbs).toArray⟩]) (by simp [results, Tryz.results93, go_sem, d0, d1]) rfl ?_
 refine ⟨?_, ?_⟩
 ·unfold enc
  rw [Hsv.out, sg_neg]
 ·exact ((Hx.out.2.2.trans (Hb24.out.2.mono (by simp))).setCell (Nat.le_refl _) _).setCell (Nat.le_refl _) _
def encF (a b : Int) : Value := .agg #[.bool (decide (a < 0)), .string ⟨(bys a.natAbs).toArray⟩, .bool (decide (b < 0)), .string ⟨(bys b.natAbs).toArray⟩]
set_option maxRecDepth 100000 in
set_option maxHeartbeats 4000000 in
theorem toldf_any {w : World} {g : Nat} {a b : Int} (hr : RatB w g a b) (hal : (wds a.natAbs).length ≤ 100000000) (hbl : (wds b.natAbs).length ≤ 100000000) :
  Calls Tryz.prog 103 #[.pointer (some ⟨g, 0, none⟩)] w (fun e w' => e = .returned (encF a b) ∧ Below w.heap.size w w') := by
 have hb0 := new_below w (.cells #[.bool false, .string ⟨#[]⟩, .bool false, .string ⟨#[]⟩] 36)
 have hr0 := hr.below hb0
 have HN := Lib.hid (num_new hr0 (by omega))
 have Hr := Lib.hid (And.intro hr0 (And.intro hal hbl))
 have Hb := Lib.hid hb0
 clear hr hr0 hal hbl hb0
 go_enter Tryz.func103, Tryz.ntmps103
 go_wp2_with fail
 refine HN.out.mono ?_
 rintro _ W1 ⟨g1, rfl, hl1, hi1, hb1⟩
 have HB1 := Lib.hid (back_any hi1 Hr.out.2.1)
 have Hi1 := Lib.hid hb1
 clear hl1 hi1 hb1
 go_wp2_with fail
 refine HB1.out.mono ?_
 rintro _ W2 ⟨rfl, hb2⟩
 have hb12 := Hi1.out.trans (hb2.mono Hi1.out.size)
 have HD := Lib.hid (denom_new (Hr.out.1.below hb12) (by have := Hr.out.2.2; omega))
 have H12 := Lib.hid hb12
 clear hb2 hb12
 unfold enc
 go_wp2_with fail
 refine HD.out.mono ?_
 rintro _ W3 ⟨g3, rfl, hl3, hi3, hb3⟩
 have HB3 := Lib.hid (back_any hi3 Hr.out.2.2)
 have H13 := Lib.hid (H12.out.trans (hb3.mono H12.out.size))
 clear hl3 hi3 hb3
 go_wp2_with fail
 refine HB3.out.mono ?_
 rintro _ W4 ⟨rfl, hb4⟩
 have h14 := H13.out.trans (hb4.mono H13.out.size)
 have hbk := (Blk.new w 36 #[.bool false, .string ⟨#[]⟩, .bool false, .string ⟨#[]⟩]).below h14 (by simp)
 have d0 := hbk.cell 0
 have d1 := hbk.cell 1
 have d2 := hbk.cell 2
 have d3 := hbk.cell 3
 have f0 := hbk.frozen 0
 have f1 := hbk.frozen 1
 have f2 := hbk.frozen 2
 have f3 := hbk.frozen 3
 have H14 := Lib.hid (Hb.out.trans (h14.mono Hb.out.size))
 clear hbk hb4 h14
 unfold enc
 go_wp2_with fail
 refine bodyPost_ret (v := encF a b) (by simp [results, Tryz.results103, go_sem, d0, d1, d2, d3, encF]) rfl ?_
 exact ⟨rfl, (((H14.out.setCell (Nat.le_refl _) _).setCell (Nat.le_refl _) _).setCell (Nat.le_refl _) _).setCell (Nat.le_refl _) _⟩
end Go.Proofs.YtebpggfccljagaaGreatDoor
namespace Go.Proofs.YtebpggfccljagaaGreatDoor
open Go.RowKit
theorem tl_inj {a b : ByteArray} (h : a.toList = b.toList) : a = b := by
 rw [toL, toL] at h
 cases a; cases b
 simp only at h
 rw [Array.toList_inj.1 h]
theorem eql_fr (x0 x1 y0 y1 : Bool) (s0 s1 t0 t1 : ByteArray) (w : World) :
  (binOp .eql 36 (.agg #[.bool x0, .string s0, .bool x1, .string s1]) (.agg #[.bool y0, .string t0, .bool y1, .string t1])).run Tryz.prog w = .ok (.bool (decide (x0 = y0 ∧ s0 = t0 ∧ x1 = y1 ∧ s1 = t1))) w := by
 by_cases h0 : x0 = y0 <;> by_cases h1 : s0 = t0 <;> by_cases h2 : x1 = y1 <;> by_cases h3 : s1 = t1 <;> (try subst h0) <;> (try subst h1) <;> (try subst h2) <;> (try subst h3) <;> go_simp <;>
  (first | done | simp_all | exact fun h => h1 (tl_inj h) | exact fun h => h3 (tl_inj h) | exact fun h _ => h1 (tl_inj h))
theorem eql_wh (x0 y0 : Bool) (s0 t0 : ByteArray) (w : World) :
  (binOp .eql 34 (.agg #[.bool x0, .string s0]) (.agg #[.bool y0, .string t0])).run Tryz.prog w = .ok (.bool (decide (x0 = y0 ∧ s0 = t0))) w := by
 by_cases h0 : x0 = y0 <;> by_cases h1 : s0 = t0 <;> (try subst h0) <;> (try subst h1) <;> go_simp <;> (first | done | simp_all | exact fun h => h1 (tl_inj h))
theorem neq_wh (x0 y0 : Bool) (s0 t0 : ByteArray) (w : World) :
  (binOp .neq 34 (.agg #[.bool x0, .string s0]) (.agg #[.bool y0, .string t0])).run Tryz.prog w = .ok (.bool (!decide (x0 = y0 ∧ s0 = t0))) w := by
 by_cases h0 : x0 = y0 <;> by_cases h1 : s0 = t0 <;> (try subst h0) <;> (try subst h1) <;> go_simp <;> (first | done | simp_all | exact fun h => h1 (tl_inj h))
end Go.Proofs.YtebpggfccljagaaGreatDoor
namespace Go.Proofs.YtebpggfccljagaaGreatDoor
open Go.RowKit
open Wh
set_option linter.unusedSimpArgs false
set_option maxRecDepth 100000 in
theorem shortf_any (n : Bool) (s : ByteArray) (w : World) :
  Calls Tryz.prog 117 #[.agg #[.bool n, .string s]] w (fun e w' => e = .returned (.bool (decide ((s.size : Int) ≤ 1024))) ∧ Below w.heap.size w w') := by
 have hb := new_below w (.cells #[.bool n, .string s] 34)
 go_enter Tryz.func117, Tryz.ntmps117
 go_wp2_with fail
 go_ret
 exact ⟨rfl, hb⟩
theorem len_numG {n : Bool} {s : ByteArray} (h : s.data.toList.length ≤ 16384) : (wds (num (n, s)).natAbs).length ≤ 100000000 := by
 have h1 := len_mag h
 unfold num
 rw [sgn_abs]
 exact Nat.le_trans h1 (by decide)
theorem num_back (z : Int) : num (decide (z < 0), ⟨(bys z.natAbs).toArray⟩) = z := by
 unfold num
 show sgn (decide (z < 0)) (bval (bys z.natAbs).toArray.toList) = z
 rw [List.toList_toArray, bval_b, sgn_of]
theorem enc_parts {n : Bool} {s : ByteArray} (h : MayL n s.data.toList) : decide (num (n, s) < 0) = n ∧ (⟨(bys (num (n, s)).natAbs).toArray⟩ : ByteArray) = s := by
 have := may_num h
 unfold enc at this
 simpa using this
theorem low_iff {na nb x0 x1 : Bool} {sa sb t0 t1 : ByteArray} (ha : MayL na sa.data.toList) (hb : MayL nb sb.data.toList) (hp : 0 < num (nb, sb))
  (hV : encF ((num (na, sa)).tdiv (Nat.gcd (num (na, sa)).natAbs (num (nb, sb)).natAbs : Int)) ((num (nb, sb)).tdiv (Nat.gcd (num (na, sa)).natAbs (num (nb, sb)).natAbs : Int)) = .agg #[.bool x0, .string t0, .bool x1, .string t1]) :
  (x0 = na ∧ t0 = sa ∧ x1 = nb ∧ t1 = sb) ↔ Nat.gcd (num (na, sa)).natAbs (num (nb, sb)).natAbs = 1 := by
 have pa := enc_parts ha
 have pb := enc_parts hb
 obtain ⟨a, hae⟩ : ∃ a, a = num (na, sa) := ⟨_, rfl⟩
 obtain ⟨b, hbe⟩ : ∃ b, b = num (nb, sb) := ⟨_, rfl⟩
 rw [← hae, ← hbe] at hV ⊢
 rw [← hae] at pa
 rw [← hbe] at pb hp
 obtain ⟨G, hG⟩ : ∃ G, G = Nat.gcd a.natAbs b.natAbs := ⟨_, rfl⟩
 rw [← hG] at hV ⊢
 have hq := num_back (b.tdiv (G : Int))
 have hG0 : 0 < G := by rw [hG]; exact Nat.gcd_pos_of_pos_right _ (by omega)
 obtain ⟨k, hk⟩ : G ∣ b.natAbs := by rw [hG]; exact Nat.gcd_dvd_right _ _
 unfold encF at hV
 simp only [Value.agg.injEq, Array.mk.injEq, List.cons.injEq, Value.bool.injEq, Value.string.injEq, and_true] at hV
 obtain ⟨v0, v1, v2, v3⟩ := hV
 constructor
 ·rintro ⟨rfl, rfl, rfl, rfl⟩
  rw [v2, v3, ← hbe] at hq
  have e : b = (G : Int) * (k : Int) := by
   have : (b.natAbs : Int) = b := by omega
   rw [← this, hk]; push_cast; rfl
  have hkb : (k : Int) = b := by
   have h1 : b.tdiv (G : Int) = (k : Int) := by rw [e, Int.mul_comm (G : Int)]; exact Int.mul_tdiv_cancel _ (by omega)
   rw [← h1]; exact hq.symm
  rw [hkb] at e
  have h1 : b * ((G : Int) - 1) = 0 := by
   rw [Int.mul_sub, Int.mul_one, Int.mul_comm, ← e]; omega
  rcases Int.mul_eq_zero.1 h1 with h | h
  ·omega
  ·omega
 ·intro h
  rw [h] at v0 v1 v2 v3
  simp only [Int.natCast_one, Int.tdiv_one] at v0 v1 v2 v3
  exact ⟨by rw [← v0]; exact pa.1, by rw [← v1]; exact pa.2, by rw [← v2]; exact pb.1, by rw [← v3]; exact pb.2⟩
def Box (w0 w : World) (t : TypeId) (cs : Array Value) : Prop := Blk w w0.heap.size t cs ∧ Below w0.heap.size w0 w
theorem Box.new (w0 : World) (t : TypeId) (cs : Array Value) : Box w0 (w0.alloc (.cells cs t)) t cs := ⟨Blk.new w0 t cs, new_below _ _⟩
theorem Box.next {w0 w w' : World} {t : TypeId} {cs : Array Value} (h : Box w0 w t cs) (hb : Below w.heap.size w w') : Box w0 w' t cs := ⟨h.1.below hb h.1.lt, h.2.trans (hb.mono h.2.size)⟩
structure MayFr (na : Bool) (sa : ByteArray) (nb : Bool) (sb : ByteArray) : Prop where
 a : MayL na sa.data.toList
 b : MayL nb sb.data.toList
 al : sa.size ≤ 1024
 bl : sb.size ≤ 1024
 pos : 0 < num (nb, sb)
 low : Nat.gcd (num (na, sa)).natAbs (num (nb, sb)).natAbs = 1
set_option maxRecDepth 100000 in
set_option maxHeartbeats 4000000 in
theorem mayf_last {w : World} {na nb : Bool} {sa sb : ByteArray} (ha : MayL na sa.data.toList) (hb : MayL nb sb.data.toList) (hal : sa.size ≤ 1024) (hbl : sb.size ≤ 1024) (hp : 0 < num (nb, sb)) {r : Bool}
  (hr : r = decide (Nat.gcd (num (na, sa)).natAbs (num (nb, sb)).natAbs = 1)) :
  Calls Tryz.prog 91 #[.agg #[.bool na, .string sa, .bool nb, .string sb]] w (fun e w' => e = .returned (.bool r) ∧ Below w.heap.size w w') := by
 have H1 := Lib.hid (fun W => check_ok (w := W) ha)
 have H2 := Lib.hid (fun W => check_ok (w := W) hb)
 have S1 := Lib.hid (shortf_any na sa)
 have S2 := Lib.hid (shortf_any nb sb)
 have HG : Hid (∀ W, Calls Tryz.prog 118 #[.agg #[.bool nb, .string sb]] W (fun e w' => e = .returned (.int .i64 1) ∧ Below W.heap.size W w')) := by
  refine Lib.hid (fun W => (wsign_any (w := W) (na := nb) (sa := sb)).mono ?_)
  rintro e w' ⟨h1, _, h3⟩
  refine ⟨?_, h3⟩
  rw [h1 hb]; unfold sg; rw [if_neg (by omega), if_neg (by omega)]
 have HR := Lib.hid (fun W => ratf_any (w := W) (na := na) (nb := nb) ha.1 hb.1 hp)
 obtain ⟨x0, t0, x1, t1, hV⟩ : ∃ x0 t0 x1 t1, encF ((num (na, sa)).tdiv (Nat.gcd (num (na, sa)).natAbs (num (nb, sb)).natAbs : Int)) ((num (nb, sb)).tdiv (Nat.gcd (num (na, sa)).natAbs (num (nb, sb)).natAbs : Int)) = .agg #[.bool x0, .string t0, .bool x1, .string t1] := ⟨_, _, _, _, rfl⟩
 have HT : Hid (∀ (W : World) (g : Nat), RatB W g ((num (na, sa)).tdiv (Nat.gcd (num (na, sa)).natAbs (num (nb, sb)).natAbs : Int)) ((num (nb, sb)).tdiv (Nat.gcd (num (na, sa)).natAbs (num (nb, sb)).natAbs : Int)) → Calls Tryz.prog 103 #[.pointer (some ⟨g, 0, none⟩)] W (fun e w' => e = .returned (.agg #[.bool x0, .string t0, .bool x1, .string t1]) ∧ Below W.heap.size W w')) := by
  refine Lib.hid (fun W g h => ?_)
  rw [← hV]
  exact toldf_any h (Nat.le_trans (len_mono (by rw [Int.natAbs_tdiv]; exact Nat.div_le_self _ _)) (len_numG ha.1)) (Nat.le_trans (len_mono (by rw [Int.natAbs_tdiv]; exact Nat.div_le_self _ _)) (len_numG hb.1))
 have heq : ∀ W, (binOp .eql 36 (.agg #[.bool x0, .string t0, .bool x1, .string t1]) (.agg #[.bool na, .string sa, .bool nb, .string sb])).run Tryz.prog W = .ok (.bool r) W := fun W => by
  rw [eql_fr, hr]
  congr 2
  exact decide_eq_decide.2 (low_iff ha hb hp hV)
 clear hV hr
 have i1 : (sa.size : Int) ≤ 1024 := by omega
 have i2 : (sb.size : Int) ≤ 1024 := by omega
 clear hal hbl
 go_enter Tryz.func91, Tryz.ntmps91
 have hbx := Box.new w 36 #[.bool na, .string sa, .bool nb, .string sb]
 go_wp2_with (first
  | (go_at_call 116; (with_reducible refine (H1.out _).mono ?_); rintro _ W1 ⟨rfl, hb1⟩; have hbx := hbx.next hb1; have c0 := hbx.1.cell 0; have c1 := hbx.1.cell 1; have c2 := hbx.1.cell 2; have c3 := hbx.1.cell 3; clear hb1)
  | (go_at_call 116; (with_reducible refine (H2.out _).mono ?_); rintro _ W2 ⟨rfl, hb1⟩; have hbx := hbx.next hb1; have c0 := hbx.1.cell 0; have c1 := hbx.1.cell 1; have c2 := hbx.1.cell 2; have c3 := hbx.1.cell 3; clear hb1)
  | (go_at_call 117; (with_reducible refine (S1.out _).mono ?_); rintro _ W3 ⟨rfl, hb1⟩; have hbx := hbx.next hb1; have c0 := hbx.1.cell 0; have c1 := hbx.1.cell 1; have c2 := hbx.1.cell 2; have c3 := hbx.1.cell 3; clear hb1)
  | (go_at_call 117; (with_reducible refine (S2.out _).mono ?_); rintro _ W4 ⟨rfl, hb1⟩; have hbx := hbx.next hb1; have c0 := hbx.1.cell 0; have c1 := hbx.1.cell 1; have c2 := hbx.1.cell 2; have c3 := hbx.1.cell 3; clear hb1)
  | (go_at_call 118; (with_reducible refine (HG.out _).mono ?_); rintro _ W5 ⟨rfl, hb1⟩; have hbx := hbx.next hb1; have c0 := hbx.1.cell 0; have c1 := hbx.1.cell 1; have c2 := hbx.1.cell 2; have c3 := hbx.1.cell 3; clear hb1))
 have hbs := hbx
 have hsz0 := hbx.1.lt
 go_region_held3 (fun w' => w'.cell? ⟨w.heap.size, 0, none⟩ = some (.bool na) ∧ w'.cell? ⟨w.heap.size, 1, none⟩ = some (.string sa) ∧ w'.cell? ⟨w.heap.size, 2, none⟩ = some (.bool nb) ∧ w'.cell? ⟨w.heap.size, 3, none⟩ = some (.string sb))
  (first
   | go_keep
   | (rw [hb6.cell (by show w.heap.size < _; simpa using hsz0), hb6.cell (by show w.heap.size < _; simpa using hsz0), hb6.cell (by show w.heap.size < _; simpa using hsz0), hb6.cell (by show w.heap.size < _; simpa using hsz0)]; go_keep)
   | (rw [hb7.cell (by show w.heap.size < _; omega), hb7.cell (by show w.heap.size < _; omega), hb7.cell (by show w.heap.size < _; omega), hb7.cell (by show w.heap.size < _; omega)]; go_keep))
  (first
   | (go_at_call 119; (with_reducible refine (HR.out _).mono ?_); rintro _ W6 ⟨g6, rfl, hl6, hr6, hb6⟩; have z6 : w.heap.size < W6.heap.size := (by have := hb6.size; simp at this; omega))
   | (go_at_call 103; (with_reducible refine (HT.out _ _ hr6).mono ?_); rintro _ W7 ⟨rfl, hb7⟩; have z7 := hb7.size))
 go_wp2_with fail
 go_ret
 exact ⟨rfl, (hbs.2.drew.trans (hb6.mono (by simp; exact hbs.2.size))).trans (hb7.mono (by omega))⟩
set_option maxRecDepth 100000 in
set_option maxHeartbeats 2000000 in
theorem mayf_no1 {w : World} {na nb : Bool} {sa sb : ByteArray} (ha : ¬ MayL na sa.data.toList) :
  Calls Tryz.prog 91 #[.agg #[.bool na, .string sa, .bool nb, .string sb]] w (fun e w' => e = .returned (.bool false) ∧ Below w.heap.size w w') := by
 have H1 := Lib.hid (fun W => check_no (w := W) ha)
 clear ha
 go_enter Tryz.func91, Tryz.ntmps91
 have hbx := Box.new w 36 #[.bool na, .string sa, .bool nb, .string sb]
 go_wp2_with (first
  | (go_at_call 116; (with_reducible refine (H1.out _).mono ?_); rintro _ _ ⟨rfl, hb1⟩; have hbx := hbx.next hb1; have c0 := hbx.1.cell 0; have c1 := hbx.1.cell 1; have c2 := hbx.1.cell 2; have c3 := hbx.1.cell 3; clear hb1))
 go_ret
 exact ⟨rfl, hbx.2⟩
set_option maxRecDepth 100000 in
set_option maxHeartbeats 2000000 in
theorem mayf_no2 {w : World} {na nb : Bool} {sa sb : ByteArray} (ha : MayL na sa.data.toList) (hb : ¬ MayL nb sb.data.toList) :
  Calls Tryz.prog 91 #[.agg #[.bool na, .string sa, .bool nb, .string sb]] w (fun e w' => e = .returned (.bool false) ∧ Below w.heap.size w w') := by
 have H1 := Lib.hid (fun W => check_ok (w := W) ha)
 have H2 := Lib.hid (fun W => check_no (w := W) hb)
 clear ha hb
 go_enter Tryz.func91, Tryz.ntmps91
 have hbx := Box.new w 36 #[.bool na, .string sa, .bool nb, .string sb]
 go_wp2_with (first
  | (go_at_call 116; (with_reducible refine (H1.out _).mono ?_); rintro _ _ ⟨rfl, hb1⟩; have hbx := hbx.next hb1; have c0 := hbx.1.cell 0; have c1 := hbx.1.cell 1; have c2 := hbx.1.cell 2; have c3 := hbx.1.cell 3; clear hb1)
  | (go_at_call 116; (with_reducible refine (H2.out _).mono ?_); rintro _ _ ⟨rfl, hb1⟩; have hbx := hbx.next hb1; have c0 := hbx.1.cell 0; have c1 := hbx.1.cell 1; have c2 := hbx.1.cell 2; have c3 := hbx.1.cell 3; clear hb1))
 go_ret
 exact ⟨rfl, hbx.2⟩
set_option maxRecDepth 100000 in
set_option maxHeartbeats 2000000 in
theorem mayf_no3 {w : World} {na nb : Bool} {sa sb : ByteArray} (ha : MayL na sa.data.toList) (hb : MayL nb sb.data.toList) (hal : ¬ (sa.size : Int) ≤ 1024) :
  Calls Tryz.prog 91 #[.agg #[.bool na, .string sa, .bool nb, .string sb]] w (fun e w' => e = .returned (.bool false) ∧ Below w.heap.size w w') := by
 have H1 := Lib.hid (fun W => check_ok (w := W) ha)
 have H2 := Lib.hid (fun W => check_ok (w := W) hb)
 have S1 := Lib.hid (shortf_any na sa)
 clear ha hb
 go_enter Tryz.func91, Tryz.ntmps91
 have hbx := Box.new w 36 #[.bool na, .string sa, .bool nb, .string sb]
 go_wp2_with (first
  | (go_at_call 116; (with_reducible refine (H1.out _).mono ?_); rintro _ _ ⟨rfl, hb1⟩; have hbx := hbx.next hb1; have c0 := hbx.1.cell 0; have c1 := hbx.1.cell 1; have c2 := hbx.1.cell 2; have c3 := hbx.1.cell 3; clear hb1)
  | (go_at_call 116; (with_reducible refine (H2.out _).mono ?_); rintro _ _ ⟨rfl, hb1⟩; have hbx := hbx.next hb1; have c0 := hbx.1.cell 0; have c1 := hbx.1.cell 1; have c2 := hbx.1.cell 2; have c3 := hbx.1.cell 3; clear hb1)
  | (go_at_call 117; (with_reducible refine (S1.out _).mono ?_); rintro _ _ ⟨rfl, hb1⟩; have hbx := hbx.next hb1; have c0 := hbx.1.cell 0; have c1 := hbx.1.cell 1; have c2 := hbx.1.cell 2; have c3 := hbx.1.cell 3; clear hb1))
 go_ret
 exact ⟨rfl, hbx.2⟩
set_option maxRecDepth 100000 in
set_option maxHeartbeats 2000000 in
theorem mayf_no4 {w : World} {na nb : Bool} {sa sb : ByteArray} (ha : MayL na sa.data.toList) (hb : MayL nb sb.data.toList) (hal : (sa.size : Int) ≤ 1024) (hbl : ¬ (sb.size : Int) ≤ 1024) :
  Calls Tryz.prog 91 #[.agg #[.bool na, .string sa, .bool nb, .string sb]] w (fun e w' => e = .returned (.bool false) ∧ Below w.heap.size w w') := by
 have H1 := Lib.hid (fun W => check_ok (w := W) ha)
 have H2 := Lib.hid (fun W => check_ok (w := W) hb)
 have S1 := Lib.hid (shortf_any na sa)
 have S2 := Lib.hid (shortf_any nb sb)
 clear ha hb
 go_enter Tryz.func91, Tryz.ntmps91
 have hbx := Box.new w 36 #[.bool na, .string sa, .bool nb, .string sb]
 go_wp2_with (first
  | (go_at_call 116; (with_reducible refine (H1.out _).mono ?_); rintro _ _ ⟨rfl, hb1⟩; have hbx := hbx.next hb1; have c0 := hbx.1.cell 0; have c1 := hbx.1.cell 1; have c2 := hbx.1.cell 2; have c3 := hbx.1.cell 3; clear hb1)
  | (go_at_call 116; (with_reducible refine (H2.out _).mono ?_); rintro _ _ ⟨rfl, hb1⟩; have hbx := hbx.next hb1; have c0 := hbx.1.cell 0; have c1 := hbx.1.cell 1; have c2 := hbx.1.cell 2; have c3 := hbx.1.cell 3; clear hb1)
  | (go_at_call 117; (with_reducible refine (S1.out _).mono ?_); rintro _ _ ⟨rfl, hb1⟩; have hbx := hbx.next hb1; have c0 := hbx.1.cell 0; have c1 := hbx.1.cell 1; have c2 := hbx.1.cell 2; have c3 := hbx.1.cell 3; clear hb1)
  | (go_at_call 117; (with_reducible refine (S2.out _).mono ?_); rintro _ _ ⟨rfl, hb1⟩; have hbx := hbx.next hb1; have c0 := hbx.1.cell 0; have c1 := hbx.1.cell 1; have c2 := hbx.1.cell 2; have c3 := hbx.1.cell 3; clear hb1))
 go_ret
 exact ⟨rfl, hbx.2⟩
set_option maxRecDepth 100000 in
set_option maxHeartbeats 2000000 in
theorem mayf_no5 {w : World} {na nb : Bool} {sa sb : ByteArray} (ha : MayL na sa.data.toList) (hb : MayL nb sb.data.toList) (hal : (sa.size : Int) ≤ 1024) (hbl : (sb.size : Int) ≤ 1024) {z : Int} (hz : z = sg (num (nb, sb))) (hz0 : z ≤ 0) :
  Calls Tryz.prog 91 #[.agg #[.bool na, .string sa, .bool nb, .string sb]] w (fun e w' => e = .returned (.bool false) ∧ Below w.heap.size w w') := by
 have H1 := Lib.hid (fun W => check_ok (w := W) ha)
 have H2 := Lib.hid (fun W => check_ok (w := W) hb)
 have S1 := Lib.hid (shortf_any na sa)
 have S2 := Lib.hid (shortf_any nb sb)
 have HG : Hid (∀ W, Calls Tryz.prog 118 #[.agg #[.bool nb, .string sb]] W (fun e w' => e = .returned (.int .i64 z) ∧ Below W.heap.size W w')) := by
  refine Lib.hid (fun W => (wsign_any (w := W) (na := nb) (sa := sb)).mono ?_)
  rintro e w' ⟨h1, _, h3⟩
  exact ⟨by rw [h1 hb, hz], h3⟩
 clear ha hb hz
 go_enter Tryz.func91, Tryz.ntmps91
 have hbx := Box.new w 36 #[.bool na, .string sa, .bool nb, .string sb]
 go_wp2_with (first
  | (go_at_call 116; (with_reducible refine (H1.out _).mono ?_); rintro _ _ ⟨rfl, hb1⟩; have hbx := hbx.next hb1; have c0 := hbx.1.cell 0; have c1 := hbx.1.cell 1; have c2 := hbx.1.cell 2; have c3 := hbx.1.cell 3; clear hb1)
  | (go_at_call 116; (with_reducible refine (H2.out _).mono ?_); rintro _ _ ⟨rfl, hb1⟩; have hbx := hbx.next hb1; have c0 := hbx.1.cell 0; have c1 := hbx.1.cell 1; have c2 := hbx.1.cell 2; have c3 := hbx.1.cell 3; clear hb1)
  | (go_at_call 117; (with_reducible refine (S1.out _).mono ?_); rintro _ _ ⟨rfl, hb1⟩; have hbx := hbx.next hb1; have c0 := hbx.1.cell 0; have c1 := hbx.1.cell 1; have c2 := hbx.1.cell 2; have c3 := hbx.1.cell 3; clear hb1)
  | (go_at_call 117; (with_reducible refine (S2.out _).mono ?_); rintro _ _ ⟨rfl, hb1⟩; have hbx := hbx.next hb1; have c0 := hbx.1.cell 0; have c1 := hbx.1.cell 1; have c2 := hbx.1.cell 2; have c3 := hbx.1.cell 3; clear hb1)
  | (go_at_call 118; (with_reducible refine (HG.out _).mono ?_); rintro _ _ ⟨rfl, hb1⟩; have hbx := hbx.next hb1; have c0 := hbx.1.cell 0; have c1 := hbx.1.cell 1; have c2 := hbx.1.cell 2; have c3 := hbx.1.cell 3; clear hb1))
 go_ret
 exact ⟨rfl, hbx.2⟩
theorem mayf_any {w : World} {na nb : Bool} {sa sb : ByteArray} {r : Bool} (hr : r = true ↔ MayFr na sa nb sb) :
  Calls Tryz.prog 91 #[.agg #[.bool na, .string sa, .bool nb, .string sb]] w (fun e w' => e = .returned (.bool r) ∧ Below w.heap.size w w') := by
 have no : ¬ MayFr na sa nb sb → r = false := fun h => by
  cases r
  ·rfl
  ·exact absurd (hr.1 rfl) h
 by_cases ha : MayL na sa.data.toList
 ·by_cases hb : MayL nb sb.data.toList
  ·by_cases hal : sa.size ≤ 1024
   ·by_cases hbl : sb.size ≤ 1024
    ·by_cases hp : 0 < num (nb, sb)
     ·refine mayf_last ha hb hal hbl hp ?_
      by_cases hg : Nat.gcd (num (na, sa)).natAbs (num (nb, sb)).natAbs = 1
      ·rw [decide_eq_true hg]; exact hr.2 ⟨ha, hb, hal, hbl, hp, hg⟩
      ·rw [decide_eq_false hg]; exact no fun h => hg h.low
     ·rw [no fun h => hp h.pos]
      refine mayf_no5 ha hb (by omega) (by omega) rfl ?_
      unfold sg
      split
      ·omega
      ·rw [if_pos (by omega)]; omega
    ·rw [no fun h => hbl h.bl]; exact mayf_no4 ha hb (by omega) (by omega)
   ·rw [no fun h => hal h.al]; exact mayf_no3 ha hb (by omega)
  ·rw [no fun h => hb h.b]; exact mayf_no2 ha hb
 ·rw [no fun h => ha h.a]; exact mayf_no1 ha
section
variable {w : World} {na nb : Bool} {sa sb : ByteArray} {z : Int} {s : Bool} {b : ByteArray}
end
section
variable {w : World} {na : Bool} {sa : ByteArray}
end
end Go.Proofs.YtebpggfccljagaaGreatDoor
namespace Go.Proofs.YtebpggfccljagaaGreatDoor
open Go.RowKit
open Wh
set_option linter.unusedSimpArgs false
set_option linter.unusedVariables false
set_option maxRecDepth 100000 in
set_option maxHeartbeats 8000000 in
theorem rtext_any {w : World} {na : Bool} {sa : ByteArray} (hm : MayL na sa.data.toList) :
  Calls Tryz.prog 98 #[.agg #[.bool na, .string sa]] w (Texted w (txt (num (na, sa)))) := by
 have hsl : sa.data.toList.length = sa.size := Array.length_toList
 rcases Nat.eq_zero_or_pos sa.size with h0 | h0
 ·obtain ⟨rfl, rfl⟩ := may_none hm h0
  have Ht := Lib.hid (show txt (num (false, ⟨#[]⟩)) = [48] from rfl)
  have hb := new_below w (.cells #[.bool false, .string ⟨#[]⟩] 34)
  clear h0 hsl hm
  go_enter Tryz.func98, Tryz.ntmps98
  go_wp2
  go_ret
  rw [Ht.out]
  exact ⟨rfl, hb⟩
 ·obtain ⟨q1, q2⟩ := str_facts h0
  have hf := Fmd.of_may hm
  have HA := Lib.hid (fun W : World => words_any (w := W) (by have := hf.2; omega) hf.1)
  obtain ⟨m, hme⟩ : ∃ m, m = bval sa.data.toList := ⟨_, rfl⟩
  have hmp : 0 < m := by rw [hme]; exact bval_pos hm.2.2 (by intro h; rw [h] at hsl; simp at hsl; omega)
  have hml : (wds m).length ≤ 100000000 := by rw [hme]; exact Nat.le_trans hf.len (by omega)
  have Ht := Lib.hid (show txt (num (na, sa)) = (if na = true then [45] else []) ++ dec m by
   have e1 : (num (na, sa)).natAbs = m := by rw [hme]; exact sgn_abs _ _
   have e2 : decide (num (na, sa) < 0) = na := by
    show decide (sgn na (bval sa.data.toList) < 0) = na
    rw [sgn_neg, ← hme, decide_eq_true hmp, Bool.and_true]
   unfold txt
   rw [if_neg (by omega), e1]
   cases na
   ·rw [if_neg (of_decide_eq_false e2)]; rfl
   ·rw [if_pos (of_decide_eq_true e2)]; rfl)
  rw [← hme] at HA
  generalize num (na, sa) = x at *
  have E0 := Lib.hid (Env.new (Env.nil w) 34 #[.bool na, .string sa])
  have Hmp := Lib.hid (And.intro hmp hml)
  clear hme hmp hml hf hm hsl h0
  go_enter Tryz.func98, Tryz.ntmps98
  go_wp2_with fail
  refine (HA.out _).mono ?_
  rintro e V1 ⟨Ax, nx, cx, rfl, hn1, hxc, hxcl, rx, hb1⟩
  have E1 := Lib.hid (Env.call E0.out hb1)
  have x0 : V1.cell? ⟨w.heap.size, 0, none⟩ = some (.bool na) := (Env.at_ E1.out 0 rfl).cell 0
  have hgl : w.heap.size < V1.heap.size := (Env.at_ E1.out 0 rfl).lt
  have hnx := hn1.out
  have Hr := Lib.hid (And.intro rx (And.intro hnx (And.intro Hmp.out.2 (And.intro True.intro Hmp.out.1))))
  clear hn1 rx hnx hb1 E0 HA
  have Hfin : Hid (∀ w', Below V1.heap.size V1 w' → Below w.heap.size w w') := Lib.hid (fun w' hb => E1.out.1.trans (hb.mono E1.out.1.size))
  go_wp2_with fail
  go_loopg [3, 4] m (fun k bq lq wr => ∃ (A' A : Option Addr) (n' c' n c L : Nat), bq = .slice A' n' c' ∧ lq = .slice A n c ∧ OwnB wr V1.heap.size (.slice A' n' c') (dl m L) ∧ SlW wr wr.heap.size A n c k ∧ Below V1.heap.size V1 wr ∧ Hid (k = m / 10 ^ L ∧ (L = 0 ∨ 0 < m / 10 ^ (L - 1))))
  case atStart => exact ⟨none, Ax, 0, 0, nx, cx, 0, rfl, rfl, OwnB.nil _ _, ⟨Hr.out.2.1, hxc, hxcl, Hr.out.1⟩, Below.refl _ _, by rw [Nat.pow_zero, Nat.div_one], .inl rfl⟩
  case round =>
   obtain ⟨A', A, n', c', n, c, L, rfl, rfl, hown, ⟨hnl, hnc, hcl, rl⟩, hbel, hL⟩ := hrel
   by_cases hk0 : 0 < gk
   ·have hnp : 0 < n := by
     have := hnl.out
     rw [wds_pos hk0] at this
     simp at this
     omega
    have hnpi : (0 : Int) < (n : Int) := by omega
    have hkl : (wds gk).length ≤ 100000000 := Nat.le_trans (len_mono (by rw [hL.out.1]; exact Nat.div_le_self _ _)) Hr.out.2.2.1
    have hS := rsmall_any (d := 1000000000) (c := c) rl (Nat.le_refl _) hnl.out (by have := hnl.out; omega) (wd_w gk) (by decide) (by decide)
    rw [val_w] at hS
    obtain ⟨r0, hr0⟩ : ∃ r, r = gk % 1000000000 := ⟨_, rfl⟩
    obtain ⟨v, hv⟩ : ∃ v, v = gk / 1000000000 := ⟨_, rfl⟩
    rw [← hr0, ← hv] at hS
    have hr0l : r0 ≤ 999999999 := by omega
    have HS := Lib.hid hS
    have Hv := Lib.hid (And.intro hk0 (And.intro hr0 hv))
    clear hS hr0 hv hkl hk0 rl
    go_wp2_with fail
    refine HS.out.mono ?_
    rintro e w5 ⟨A5, m5, c5, rfl, hm5, hc5, hcn5, hr5, hb5, hnew5⟩
    have haw5 : Away w5 (.slice A' n' c') A5 (wds v) := ⟨hr5, fun _ ad e hh => by have h6 := hnew5 ad e; have h7 := (World.ownsRow.lt hown _ hh).2; omega⟩
    have Hm5 := Lib.hid hm5
    have hown5 := hown.kept (hb5)
    have hbel5 := hbel.trans (hb5.mono hbel.size)
    clear hm5
    obtain ⟨w6, rfl⟩ : ∃ w6, w6 = w5 := ⟨_, rfl⟩
    go_wp2_with fail
    have hst : v * 10 ^ 9 + r0 = m / 10 ^ L := by rw [← hL.out.1, Hv.out.2.1, Hv.out.2.2]; omega
    have Hst := Lib.hid hst
    clear hst
    go_loopg [3, 6, 7] 9 (fun k bq rq kq wi => ∃ (A' : Option Addr) (n' c' L r j : Nat), bq = .slice A' n' c' ∧ rq = .int .u64 (r : Int) ∧ kq = .int .i64 (j : Int) ∧ j + k = 9 ∧ r ≤ 999999999 ∧ OwnB wi V1.heap.size (.slice A' n' c') (dl m L) ∧ Away wi (.slice A' n' c') A5 (wds v) ∧ Below V1.heap.size V1 wi ∧
     Hid (v * 10 ^ k + r = m / 10 ^ L ∧ r < 10 ^ k ∧ (L = 0 ∨ 0 < m / 10 ^ (L - 1))))
    case atStart => exact ⟨A', n', c', L, r0, 0, rfl, rfl, rfl, rfl, hr0l, hown5, haw5, hbel5, Hst.out, by omega, hL.out.2⟩
    case round =>
     obtain ⟨A2, n2, c2, L2, r, j, rfl, rfl, rfl, hjk, hrl, hown2, hr2, hbel2, hL2⟩ := hrel
     have Hjk := Lib.hid hjk
     clear hown hown5 hr5 haw5 hnew5
     have hexit : r = 0 → (gk = 0 ∨ v = 0) → v = m / 10 ^ L2 := fun h1 h2 => by
      have h3 := hL2.out.1
      rw [h1, Nat.add_zero] at h3
      rcases h2 with h2 | h2
      ·rw [h2, Nat.pow_zero, Nat.mul_one] at h3; exact h3
      ·rw [h2, Nat.zero_mul] at h3; omega
     have Hexit := Lib.hid hexit
     clear hexit
     by_cases hj9 : j < 9
     ·have hji : (j : Int) < 9 := by omega
      obtain ⟨k1, rfl⟩ : ∃ k1, gk = k1 + 1 := ⟨gk - 1, by omega⟩
      clear hjk
      by_cases hgo : r = 0 ∧ v = 0
      ·obtain ⟨h1, h2⟩ := hgo
       have hm0 : m5 = 0 := by have := Hm5.out; rw [h2, wds_zero] at this; exact this
       subst hm0
       subst h1
       have Hve := Lib.hid (And.intro h2 (Hexit.out rfl (.inr h2)))
       clear h2
       go_wp2_with fail
       go_roundg v
       case measure => have h5 := Hv.out; omega
       case rel => exact ⟨A2, A5, n2, c2, _, c5, L2, rfl, rfl, hown2, ⟨Hm5.out, hc5, by have := hcn5; omega, hr2.1⟩, hbel2, Hve.out.2, hL2.out.2.2⟩
      ·have hR : 0 < v * 10 ^ (k1 + 1) + r := by
        rcases Nat.eq_zero_or_pos r with h | h
        ·have hv : 0 < v := by omega
         have : 0 < v * 10 ^ (k1 + 1) := Nat.mul_pos hv (Nat.pow_pos (by decide))
         omega
        ·omega
       rw [hL2.out.1] at hR
       have hLb := dl_bound hR
       have hdd := digit_down hL2.out.1
       have hsn := dl_snoc L2 m
       have hdig : (dig (m / 10 ^ L2)).toNat = 48 + r % 10 := by rw [dig_nat, hdd.2]
       have hLl : (dl m L2).length ≤ 1000000000 := by rw [dl_len]; have := Hr.out.2.2.1; omega
       have hr10 : r / 10 < 10 ^ k1 := by
        have h5 := hL2.out.2.1
        rw [Nat.pow_succ] at h5
        exact (Nat.div_lt_iff_lt_mul (by decide)).2 h5
       have Hd := Lib.hid (And.intro hR (And.intro hdd (And.intro hsn (And.intro hr10 hdig))))
       have hgle : V1.heap.size ≤ wr.heap.size := hbel2.size
       have hpsh : (48 : Int) + (r : Int) % 10 = ((dig (m / 10 ^ L2)).toNat : Int) := by rw [Hd.out.2.2.2.2]; omega
       have Hpsh := Lib.hid hpsh
       clear hR hdd hsn hr10 hpsh hLb hdig
       by_cases hv0 : 0 < v
       ·have hm50 : 0 < m5 := by
         have := Hm5.out
         rw [wds_pos hv0] at this
         simp at this
         omega
        have hm5i : (0 : Int) < (m5 : Int) := by omega
        clear hgo hv0
        go_wp2_with (at_builtin; refine wpB_push rfl (.tmp 39) (.tmp 44) rfl V1.heap.size _ (dl m L2) hown2 rfl (y := dig (m / 10 ^ L2)) Hpsh.out rfl (by omega) hgle ?_; intro A3 n3 c3 w3 ho3 hkeep haw3; have Hk3 := Lib.hid (And.intro ho3 (And.intro (hkeep V1 hbel2) (haw3 _ _ hr2))); clear ho3 hkeep haw3)
        go_roundg k1
        case measure => omega
        case rel =>
         refine ⟨A3, n3, c3, L2 + 1, r / 10, j + 1, rfl, by rw [Int.natCast_ediv]; rfl, rfl, by have := Hjk.out; omega, by omega, by rw [dl_snoc]; exact Hk3.out.1, Hk3.out.2.2, Hk3.out.2.1, Hd.out.2.1.1, Hd.out.2.2.2.1, .inr ?_⟩
         rw [Nat.add_sub_cancel]
         exact Hd.out.1
       ·have hr0 : 0 < r := by omega
        have hm0 : m5 = 0 := by have := Hm5.out; rw [show v = 0 by omega, wds_zero] at this; exact this
        have hri : (0 : Int) < (r : Int) := by omega
        subst hm0
        clear hgo
        go_wp2_with (at_builtin; refine wpB_push rfl (.tmp 39) (.tmp 44) rfl V1.heap.size _ (dl m L2) hown2 rfl (y := dig (m / 10 ^ L2)) Hpsh.out rfl (by omega) hgle ?_; intro A3 n3 c3 w3 ho3 hkeep haw3; have Hk3 := Lib.hid (And.intro ho3 (And.intro (hkeep V1 hbel2) (haw3 _ _ hr2))); clear ho3 hkeep haw3)
        go_roundg k1
        case measure => omega
        case rel =>
         refine ⟨A3, n3, c3, L2 + 1, r / 10, j + 1, rfl, by rw [Int.natCast_ediv]; rfl, rfl, by have := Hjk.out; omega, by omega, by rw [dl_snoc]; exact Hk3.out.1, Hk3.out.2.2, Hk3.out.2.1, Hd.out.2.1.1, Hd.out.2.2.2.1, .inr ?_⟩
         rw [Nat.add_sub_cancel]
         exact Hd.out.1
     ·have hj : j = 9 := by omega
      have hk0 : gk = 0 := by omega
      subst hk0
      have hr0 : r = 0 := by have := hL2.out.2.1; rw [Nat.pow_zero] at this; omega
      have Hve := Lib.hid (Hexit.out hr0 (.inl rfl))
      subst hj
      subst hr0
      go_wp2_with fail
      go_roundg v
      case measure => have h5 := Hv.out; omega
      case rel => exact ⟨A2, A5, n2, c2, _, c5, L2, rfl, rfl, hown2, ⟨Hm5.out, hc5, by have := hcn5; omega, hr2.1⟩, hbel2, Hve.out, hL2.out.2.2⟩
   ·have hgk : gk = 0 := by omega
    subst hgk
    have hn0 : n = 0 := by have := hnl.out; rw [wds_zero] at this; exact this
    subst hn0
    have hLp : 0 < L := by
     rcases Nat.eq_zero_or_pos L with h | h
     ·subst h
      have h5 := hL.out.1
      rw [Nat.pow_zero, Nat.div_one] at h5
      have := Hr.out.2.2.2.2
      omega
     ·exact h
    have hdec := dl_dec L m hL.out.1.symm hL.out.2
    have u0 := (hbel.cell (p := ⟨w.heap.size, 0, none⟩) hgl).trans x0
    have hLl : (dl m L).length ≤ 1000000001 := by
     rw [dl_len]
     rcases hL.out.2 with h | h
     ·omega
     ·have h5 := dl_bound h
      have := Hr.out.2.2.1
      omega
    have hDp : 0 < (dl m L).length := by rw [dl_len]; exact hLp
    have Hdec := Lib.hid (And.intro hdec (And.intro hDp hLl))
    have hgle : V1.heap.size ≤ wr.heap.size := hbel.size
    clear hdec hLp hk0 hDp hLl x0
    cases na
    ·obtain ⟨D, hD⟩ : ∃ D, D = dl m L := ⟨_, rfl⟩
     rw [← hD] at hown Hdec
     have hres := Lib.hid (show txt x = D.reverse by rw [Ht.out, Hdec.out.1]; rfl)
     obtain ⟨g, S, rfl, hN, hgB, hmid, hNc⟩ := own_blk hown Hdec.out.2.1
     have hNl : n' ≤ 1000000002 := by have := Hdec.out.2.2; omega
     have hNp : 0 < n' := by have := Hdec.out.2.1; omega
     have HN := Lib.hid hN
     have hw5 : ∃ w5, w5 = wr := ⟨_, rfl⟩
     obtain ⟨w5, hw5⟩ := hw5
     subst hw5
     clear hD hown hN
     go_wp2_with fail
     go_loopg [8, 9, 10] n' (fun k iq kq xq wi => ∃ (i : Nat) (E : List UInt8), iq = .int .i64 (i : Int) ∧ kq = .int .i64 ((n' : Int) - 1 - (i : Int)) ∧ k + i = n' ∧ 2 * i ≤ n' ∧ BMid wi g E S ∧ Below V1.heap.size V1 wi ∧ Hid (Turned D E i))
     case atStart => exact ⟨0, D, rfl, by congr 1; omega, by omega, by omega, hmid, hbel, turned_start D⟩
     case round =>
      obtain ⟨i, E, rfl, rfl, hki, hi2, hmi, hbi, hT⟩ := hrel
      have Hki := Lib.hid hki
      have hEl := hT.out.1
      have hEn : E.length = n' := by rw [hEl, HN.out]
      have HEn := Lib.hid hEn
      clear hki hEl hEn
      by_cases hgo : 2 * i + 1 < n'
      ·obtain ⟨j, hj⟩ : ∃ j, n' = i + 1 + j := ⟨n' - 1 - i, by omega⟩
       have hij : i < j := by omega
       have hiE : i < E.length := by rw [HEn.out]; omega
       have hjE : j < E.length := by rw [HEn.out]; omega
       have c1 := hmi.cell hiE
       have c2 := hmi.cell hjE
       have f1 := Blk.frozen hmi i
       have f2 := Blk.frozen hmi j
       have ex := List.getElem?_eq_getElem hiE
       have ey := List.getElem?_eq_getElem hjE
       generalize E[i] = p at *
       generalize E[j] = q at *
       have hp := UInt8.toNat_lt p
       have hq := UInt8.toNat_lt q
       have Hx := Lib.hid (And.intro ex (And.intro ey hj))
       rw [show (n' : Int) - 1 - (i : Int) = (j : Int) by omega]
       have hii : (i : Int) < (j : Int) := by omega
       have hin : (i : Int) < (n' : Int) := by omega
       have hjn : (j : Int) < (n' : Int) := by omega
       clear ex ey hj hi2 hgo
       go_wp2_with fail
       go_roundg (n' - (i + 1))
       case measure => have := Hki.out; omega
       case rel =>
        have h5 := Hx.out.2.2
        exact ⟨i + 1, (E.set i q).set j p, rfl, by congr 1; omega, by omega, by omega, (hmi.set_ hiE q).set_ (by rw [List.length_set]; exact hjE) p, ((hbi.setCell (by show V1.heap.size ≤ g; omega) _).setCell (by show V1.heap.size ≤ g; omega) _), turned_step hT.out (by rw [← HN.out]; omega) hij p q Hx.out.1 Hx.out.2.1⟩
      ·have hrev := turned_end hT.out (by rw [← HN.out]; omega)
       have hstr := run_str (c := c') HEn.out.symm hmi.reads
       have Hrev := Lib.hid hrev
       have hii : (n' : Int) - 1 - (i : Int) ≤ (i : Int) := by omega
       clear hrev hgo
       go_wp2_with fail
       go_ret
       exact ⟨by rw [hres.out, ← Hrev.out]; rfl, Hfin.out _ hbi⟩
    ·have hD45 := Lib.hid (show txt x = (dl m L ++ [45]).reverse by rw [Ht.out, List.reverse_append, Hdec.out.1]; rfl)
     have hw45 : (45 : Int) = (((45 : UInt8).toNat : Nat) : Int) := rfl
     have Hw45 := Lib.hid hw45
     have Hle := Lib.hid (show (dl m L).length ≤ 140737488355327 by have := Hdec.out.2.2; omega)
     clear hw45
     go_wp2_with (at_builtin; refine wpB_push rfl (.tmp 50) (.tmp 51) rfl V1.heap.size _ (dl m L) hown rfl (y := 45) Hw45.out rfl Hle.out hgle ?_; intro A3 n3 c3 w3 ho3 hkeep _; have hNl := (push_len ho3 Hdec.out.2.2).1; have hNp := (push_len ho3 Hdec.out.2.2).2; have Hk3 := Lib.hid (And.intro ho3 (hkeep V1 hbel)); clear ho3 hkeep)
     obtain ⟨D, hD⟩ : ∃ D, D = dl m L ++ [45] := ⟨_, rfl⟩
     have hown3 := Hk3.out.1
     rw [← hD] at hown3 hD45
     have hres := Lib.hid (show txt x = D.reverse from hD45.out)
     have hDl : D.length = (dl m L).length + 1 := by rw [hD, List.length_append]; rfl
     obtain ⟨g, S, rfl, hN, hgB, hmid, hNc⟩ := own_blk hown3 (by rw [hDl]; omega)
     have HN := Lib.hid hN
     have hbel3 := Hk3.out.2
     clear hD hown3 hN hDl
     go_loopg [8, 9, 10] n3 (fun k iq kq xq wi => ∃ (i : Nat) (E : List UInt8), iq = .int .i64 (i : Int) ∧ kq = .int .i64 ((n3 : Int) - 1 - (i : Int)) ∧ k + i = n3 ∧ 2 * i ≤ n3 ∧ BMid wi g E S ∧ Below V1.heap.size V1 wi ∧ Hid (Turned D E i))
     case atStart => exact ⟨0, D, rfl, by congr 1; omega, by omega, by omega, hmid, hbel3, turned_start D⟩
     case round =>
      obtain ⟨i, E, rfl, rfl, hki, hi2, hmi, hbi, hT⟩ := hrel
      have Hki := Lib.hid hki
      have hEl := hT.out.1
      have hEn : E.length = n3 := by rw [hEl, HN.out]
      have HEn := Lib.hid hEn
      clear hki hEl hEn
      by_cases hgo : 2 * i + 1 < n3
      ·obtain ⟨j, hj⟩ : ∃ j, n3 = i + 1 + j := ⟨n3 - 1 - i, by omega⟩
       have hij : i < j := by omega
       have hiE : i < E.length := by rw [HEn.out]; omega
       have hjE : j < E.length := by rw [HEn.out]; omega
       have c1 := hmi.cell hiE
       have c2 := hmi.cell hjE
       have f1 := Blk.frozen hmi i
       have f2 := Blk.frozen hmi j
       have ex := List.getElem?_eq_getElem hiE
       have ey := List.getElem?_eq_getElem hjE
       generalize E[i] = p at *
       generalize E[j] = q at *
       have hp := UInt8.toNat_lt p
       have hq := UInt8.toNat_lt q
       have Hx := Lib.hid (And.intro ex (And.intro ey hj))
       rw [show (n3 : Int) - 1 - (i : Int) = (j : Int) by omega]
       have hii : (i : Int) < (j : Int) := by omega
       have hin : (i : Int) < (n3 : Int) := by omega
       have hjn : (j : Int) < (n3 : Int) := by omega
       clear ex ey hj hi2 hgo
       go_wp2_with fail
       go_roundg (n3 - (i + 1))
       case measure => have := Hki.out; omega
       case rel =>
        have h5 := Hx.out.2.2
        exact ⟨i + 1, (E.set i q).set j p, rfl, by congr 1; omega, by omega, by omega, (hmi.set_ hiE q).set_ (by rw [List.length_set]; exact hjE) p, ((hbi.setCell (by show V1.heap.size ≤ g; omega) _).setCell (by show V1.heap.size ≤ g; omega) _), turned_step hT.out (by rw [← HN.out]; omega) hij p q Hx.out.1 Hx.out.2.1⟩
      ·have hrev := turned_end hT.out (by rw [← HN.out]; omega)
       have hstr := run_str (c := c3) HEn.out.symm hmi.reads
       have Hrev := Lib.hid hrev
       have hii : (n3 : Int) - 1 - (i : Int) ≤ (i : Int) := by omega
       clear hrev hgo
       go_wp2_with fail
       go_ret
       exact ⟨by rw [hres.out, ← Hrev.out]; rfl, Hfin.out _ hbi⟩
end Go.Proofs.YtebpggfccljagaaGreatDoor
namespace Go.Proofs.YtebpggfccljagaaGreatDoor
open Go.RowKit
open Wh
set_option linter.unusedSimpArgs false
theorem txt_len {n : Bool} {s : ByteArray} : (txt (num (n, s))).length ≤ 3 * s.size + 2 := by
 have hsl : s.data.toList.length = s.size := Array.length_toList
 have h1 : (num (n, s)).natAbs < 10 ^ (3 * s.size) := by
  unfold num
  rw [sgn_abs]
  have h2 := bval_lt s.data.toList
  rw [hsl] at h2
  have h3 : 256 ^ s.size ≤ 1000 ^ s.size := Nat.pow_le_pow_left (by decide) _
  have h4 : (10 : Nat) ^ (3 * s.size) = 1000 ^ s.size := by rw [Nat.pow_mul]
  rw [h4]; exact Nat.lt_of_lt_of_le h2 h3
 have h5 := dec_len _ _ h1
 unfold txt
 split
 ·simp
 ·rw [List.length_append]
  split <;> simp <;> omega
theorem Below.drew' {B : Nat} {w w' : World} (h : Below B w.drew w') : Below B w w' := ⟨h.os, h.tape, h.output, h.size, h.block⟩
def txtF (a b : Int) : List UInt8 := if b = 1 then txt a else txt a ++ 47 :: txt b
theorem num_one_iff {n : Bool} {s : ByteArray} (h : MayL n s.data.toList) : num (n, s) = 1 ↔ (n = false ∧ s = ⟨#[1]⟩) := by
 constructor
 ·intro h1
  have := enc_parts h
  rw [h1] at this
  refine ⟨this.1.symm, ?_⟩
  rw [← this.2]
  have e := enc_one
  unfold enc at e
  simpa using e
 ·rintro ⟨rfl, rfl⟩
  have e := num_back 1
  have e2 := enc_one
  unfold enc at e2
  simp only [Value.agg.injEq, Array.mk.injEq, List.cons.injEq, Value.bool.injEq, Value.string.injEq, and_true] at e2
  rw [e2.1, e2.2] at e
  exact e
set_option maxRecDepth 100000 in
set_option maxHeartbeats 2000000 in
theorem textf_no {w : World} {na nb : Bool} {sa sb : ByteArray} (h : ¬ MayFr na sa nb sb) :
  Calls Tryz.prog 71 #[.agg #[.bool na, .string sa, .bool nb, .string sb]] w (fun e w' => e = .returned (.tuple #[.string ⟨#[]⟩, .int .i64 2]) ∧ Below w.heap.size w w') := by
 have HM := Lib.hid (fun W => mayf_any (w := W) (r := false) (na := na) (sa := sa) (nb := nb) (sb := sb) ⟨fun h => (by cases h), fun h' => absurd h' h⟩)
 clear h
 have hbx := Box.new w 36 #[.bool na, .string sa, .bool nb, .string sb]
 go_enter Tryz.func71, Tryz.ntmps71
 go_wp2_with (go_at_call 91; (with_reducible refine (HM.out _).mono ?_); rintro _ _ ⟨rfl, hb1⟩; have hbx := hbx.next hb1)
 go_ret2
 exact ⟨rfl, hbx.2⟩
theorem len_oneG : (wds (1 : Int).natAbs).length ≤ 100000000 := by
 show (wds 1).length ≤ 100000000
 rw [wds_pos (by decide), show 1 / 4294967296 = 0 by decide, wds_zero]
 simp
set_option maxRecDepth 100000 in
set_option maxHeartbeats 4000000 in
theorem textf_yes {w : World} {na nb : Bool} {sa sb : ByteArray} (h : MayFr na sa nb sb) :
  Calls Tryz.prog 71 #[.agg #[.bool na, .string sa, .bool nb, .string sb]] w (fun e w' => e = .returned (.tuple #[.string ⟨(txtF (num (na, sa)) (num (nb, sb))).toArray⟩, .int .i64 0]) ∧ Below w.heap.size w w') := by
 have HM := Lib.hid (fun W => mayf_any (w := W) (r := true) (na := na) (sa := sa) (nb := nb) (sb := sb) ⟨fun _ => h, fun _ => rfl⟩)
 have HTa : Hid (∀ W, Calls Tryz.prog 92 #[.agg #[.bool na, .string sa]] W (fun e w' => e = .returned (.tuple #[.string ⟨(txt (num (na, sa))).toArray⟩, .int .i64 0]) ∧ Below W.heap.size W w')) :=
  Lib.hid fun W => (text_any (w := W)).mono fun e w' ⟨h1, _, h3⟩ => ⟨h1 h.a, h3⟩
 have HTb : Hid (∀ W, Calls Tryz.prog 92 #[.agg #[.bool nb, .string sb]] W (fun e w' => e = .returned (.tuple #[.string ⟨(txt (num (nb, sb))).toArray⟩, .int .i64 0]) ∧ Below W.heap.size W w')) :=
  Lib.hid fun W => (text_any (w := W)).mono fun e w' ⟨h1, _, h3⟩ => ⟨h1 h.b, h3⟩
 have HO := Lib.hid (fun W => newint_any (w := W) (n := 1) (by decide) (by decide))
 have HK : Hid (∀ (W : World) (g : Nat), IntB W g 1 → Calls Tryz.prog 93 #[.pointer (some ⟨g, 0, none⟩)] W (fun e w' => e = .returned (.agg #[.bool false, .string ⟨#[1]⟩]) ∧ Below W.heap.size W w')) :=
  Lib.hid fun W g hi => (back_any hi len_oneG).mono fun e w' ⟨h1, h2⟩ => ⟨by rw [h1, enc_one], h2⟩
 have la : (⟨(txt (num (na, sa))).toArray⟩ : ByteArray).size ≤ 4000 := by
  have := txt_len (n := na) (s := sa)
  have := h.al
  show (txt (num (na, sa))).toArray.size ≤ 4000
  rw [List.size_toArray]; omega
 have lb : (⟨(txt (num (nb, sb))).toArray⟩ : ByteArray).size ≤ 4000 := by
  have := txt_len (n := nb) (s := sb)
  have := h.bl
  show (txt (num (nb, sb))).toArray.size ≤ 4000
  rw [List.size_toArray]; omega
 obtain ⟨ta, hta⟩ : ∃ ta : ByteArray, ta = ⟨(txt (num (na, sa))).toArray⟩ := ⟨_, rfl⟩
 obtain ⟨tb, htb⟩ : ∃ tb : ByteArray, tb = ⟨(txt (num (nb, sb))).toArray⟩ := ⟨_, rfl⟩
 rw [← hta] at HTa la
 rw [← htb] at HTb lb
 have Hone := Lib.hid (num_one_iff h.b)
 have Ht := Lib.hid (And.intro hta htb)
 have hne := neq_wh nb false sb ⟨#[1]⟩
 clear h hta htb
 obtain ⟨d, hd⟩ : ∃ d : Bool, d = !decide (nb = false ∧ sb = ⟨#[1]⟩) := ⟨_, rfl⟩
 rw [← hd] at hne
 have Hd := Lib.hid hd
 clear hd
 cases d
 ·-- the denominator is 1
  go_enter Tryz.func71, Tryz.ntmps71
  have hbx := Box.new w 36 #[.bool na, .string sa, .bool nb, .string sb]
  go_wp2_with (first
   | (go_at_call 91; (with_reducible refine (HM.out _).mono ?_); rintro _ W1 ⟨rfl, hb1⟩; have hbx := hbx.next hb1; have c0 := hbx.1.cell 0; have c1 := hbx.1.cell 1; have c2 := hbx.1.cell 2; have c3 := hbx.1.cell 3; clear hb1)
   | (go_at_call 92; (with_reducible refine (HTa.out _).mono ?_); rintro _ W2 ⟨rfl, hb1⟩; have hbx := hbx.next hb1; have c0 := hbx.1.cell 0; have c1 := hbx.1.cell 1; have c2 := hbx.1.cell 2; have c3 := hbx.1.cell 3; clear hb1))
  have hbs := hbx
  have hsz0 := hbx.1.lt
  go_region_held3 (fun w' => w'.cell? ⟨w.heap.size, 2, none⟩ = some (.bool nb) ∧ w'.cell? ⟨w.heap.size, 3, none⟩ = some (.string sb))
   (first
    | go_keep
    | (rw [hb6.cell (by show w.heap.size < _; simpa using hsz0), hb6.cell (by show w.heap.size < _; simpa using hsz0)]; go_keep)
    | (rw [hb7.cell (by show w.heap.size < _; omega), hb7.cell (by show w.heap.size < _; omega)]; go_keep))
   (first
    | (go_at_call 94; (with_reducible refine (HO.out _).mono ?_); rintro _ W6 ⟨rfl, hi6, hb6⟩; have z6 : w.heap.size < W6.heap.size := (by have := hb6.size; simp at this; omega))
    | (go_at_call 93; (refine (HK.out _ _ hi6).mono ?_); rintro _ W7 ⟨rfl, hb7⟩; have z7 := hb7.size))
  have hbx7 := (hbs.next (Below.drew' hb6)).next hb7
  go_wp2_with fail
  go_ret2
  refine ⟨?_, hbx7.2⟩
  have h1 : num (nb, sb) = 1 := Hone.out.2 (by have := Hd.out; simpa using this.symm)
  rw [h1, Ht.out.1]
  rfl
 ·-- the denominator is told, too
  go_enter Tryz.func71, Tryz.ntmps71
  have hbx := Box.new w 36 #[.bool na, .string sa, .bool nb, .string sb]
  go_wp2_with (first
   | (go_at_call 91; (with_reducible refine (HM.out _).mono ?_); rintro _ W1 ⟨rfl, hb1⟩; have hbx := hbx.next hb1; have c0 := hbx.1.cell 0; have c1 := hbx.1.cell 1; have c2 := hbx.1.cell 2; have c3 := hbx.1.cell 3; clear hb1)
   | (go_at_call 92; (with_reducible refine (HTa.out _).mono ?_); rintro _ W2 ⟨rfl, hb1⟩; have hbx := hbx.next hb1; have c0 := hbx.1.cell 0; have c1 := hbx.1.cell 1; have c2 := hbx.1.cell 2; have c3 := hbx.1.cell 3; clear hb1))
  have hbs := hbx
  have hsz0 := hbx.1.lt
  go_region_held3 (fun w' => w'.cell? ⟨w.heap.size, 2, none⟩ = some (.bool nb) ∧ w'.cell? ⟨w.heap.size, 3, none⟩ = some (.string sb))
   (first
    | go_keep
    | (rw [hb6.cell (by show w.heap.size < _; simpa using hsz0), hb6.cell (by show w.heap.size < _; simpa using hsz0)]; go_keep)
    | (rw [hb7.cell (by show w.heap.size < _; omega), hb7.cell (by show w.heap.size < _; omega)]; go_keep))
   (first
    | (go_at_call 94; (with_reducible refine (HO.out _).mono ?_); rintro _ W6 ⟨rfl, hi6, hb6⟩; have z6 : w.heap.size < W6.heap.size := (by have := hb6.size; simp at this; omega))
    | (go_at_call 93; (refine (HK.out _ _ hi6).mono ?_); rintro _ W7 ⟨rfl, hb7⟩; have z7 := hb7.size))
  have hbx7 := (hbs.next (Below.drew' hb6)).next hb7
  have c2 := hbx7.1.cell 2
  have c3 := hbx7.1.cell 3
  go_wp2_with (go_at_call 92; (with_reducible refine (HTb.out _).mono ?_); rintro _ W8 ⟨rfl, hb8⟩; have hbx8 := hbx7.next hb8)
  go_ret2
  refine ⟨?_, hbx8.2⟩
  have h1 : ¬ num (nb, sb) = 1 := fun h => by
   have h2 := Hone.out.1 h
   have h3 := Hd.out
   simp [h2.1, h2.2] at h3
  unfold txtF
  rw [if_neg h1, Ht.out.1, Ht.out.2]
  apply congrArg (fun x => Ending.returned (.tuple #[.string x, .int .i64 0]))
  apply ByteArray.ext
  simp
end Go.Proofs.YtebpggfccljagaaGreatDoor
namespace Go.Proofs.YtebpggfccljagaaGreatDoor
open Go.RowKit
open Wh
set_option linter.unusedSimpArgs false
set_option linter.unusedVariables false
set_option maxRecDepth 100000 in
theorem fits_any (na nb : Bool) (sa sb : ByteArray) (w : World) :
  Calls Tryz.prog 114 #[.agg #[.bool na, .string sa, .bool nb, .string sb]] w (fun e w' => e = .returned (.bool (decide ((sa.size : Int) ≤ 1024) && decide ((sb.size : Int) ≤ 1024))) ∧ Below w.heap.size w w') := by
 have hb := new_below w (.cells #[.bool na, .string sa, .bool nb, .string sb] 36)
 by_cases h1 : (sa.size : Int) ≤ 1024
 ·by_cases h2 : (sb.size : Int) ≤ 1024
  ·rw [decide_eq_true h1, decide_eq_true h2]
   go_enter Tryz.func114, Tryz.ntmps114
   go_wp2_with fail
   go_ret
   exact ⟨rfl, hb⟩
  ·rw [decide_eq_true h1, decide_eq_false h2]
   go_enter Tryz.func114, Tryz.ntmps114
   go_wp2_with fail
   go_ret
   exact ⟨rfl, hb⟩
 ·rw [decide_eq_false h1]
  go_enter Tryz.func114, Tryz.ntmps114
  go_wp2_with fail
  go_ret
  exact ⟨rfl, hb⟩
theorem len1024 {s : ByteArray} (h : (s.size : Int) ≤ 1024) {n : Bool} : MayL n s.data.toList ↔ mayF n s = true := by
 rw [← mayB_iff]
 unfold mayB
 rw [decide_eq_true (by omega : s.size ≤ 16384), Bool.and_true]
set_option maxRecDepth 100000 in
theorem rfmd_no1 {w : World} {na nb : Bool} {sa sb : ByteArray} (ha : mayF na sa = false) :
  Calls Tryz.prog 115 #[.agg #[.bool na, .string sa, .bool nb, .string sb]] w (Calm w (.bool false)) := by
 have H1 : Hid (∀ W, Calls Tryz.prog 144 #[.agg #[.bool na, .string sa]] W (fun e w' => e = .returned (.bool false) ∧ Below W.heap.size W w')) :=
  Lib.hid fun W => by have := formed_any (w := W) (n := na) (s := sa); rw [ha] at this; exact this
 have hbx := Box.new w 36 #[.bool na, .string sa, .bool nb, .string sb]
 go_enter Tryz.func115, Tryz.ntmps115
 go_wp2_with (go_at_call 144; (with_reducible refine (H1.out _).mono ?_); rintro _ _ ⟨rfl, hb1⟩; have hbx := hbx.next hb1)
 go_ret
 exact ⟨rfl, hbx.2⟩
set_option maxRecDepth 100000 in
theorem rfmd_no2 {w : World} {na nb : Bool} {sa sb : ByteArray} (ha : mayF na sa = true) (hb : mayF nb sb = false) :
  Calls Tryz.prog 115 #[.agg #[.bool na, .string sa, .bool nb, .string sb]] w (Calm w (.bool false)) := by
 have H1 : Hid (∀ W, Calls Tryz.prog 144 #[.agg #[.bool na, .string sa]] W (fun e w' => e = .returned (.bool true) ∧ Below W.heap.size W w')) :=
  Lib.hid fun W => by have := formed_any (w := W) (n := na) (s := sa); rw [ha] at this; exact this
 have H2 : Hid (∀ W, Calls Tryz.prog 144 #[.agg #[.bool nb, .string sb]] W (fun e w' => e = .returned (.bool false) ∧ Below W.heap.size W w')) :=
  Lib.hid fun W => by have := formed_any (w := W) (n := nb) (s := sb); rw [hb] at this; exact this
 have hbx := Box.new w 36 #[.bool na, .string sa, .bool nb, .string sb]
 go_enter Tryz.func115, Tryz.ntmps115
 go_wp2_with (first
  | (go_at_call 144; (with_reducible refine (H1.out _).mono ?_); rintro _ W1 ⟨rfl, hb1⟩; have hbx := hbx.next hb1; have c2 := hbx.1.cell 2; have c3 := hbx.1.cell 3; clear hb1)
  | (go_at_call 144; (with_reducible refine (H2.out _).mono ?_); rintro _ W2 ⟨rfl, hb1⟩; have hbx := hbx.next hb1; clear hb1))
 go_ret
 exact ⟨rfl, hbx.2⟩
set_option maxRecDepth 100000 in
theorem rfmd_no3 {w : World} {na nb : Bool} {sa sb : ByteArray} (ha : mayF na sa = true) (hb : mayF nb sb = true) (hf : Fmd sb) {z : Int} (hz : z = sg (num (nb, sb))) (hz0 : z ≤ 0) :
  Calls Tryz.prog 115 #[.agg #[.bool na, .string sa, .bool nb, .string sb]] w (Calm w (.bool false)) := by
 have H1 : Hid (∀ W, Calls Tryz.prog 144 #[.agg #[.bool na, .string sa]] W (fun e w' => e = .returned (.bool true) ∧ Below W.heap.size W w')) :=
  Lib.hid fun W => by have := formed_any (w := W) (n := na) (s := sa); rw [ha] at this; exact this
 have H2 : Hid (∀ W, Calls Tryz.prog 144 #[.agg #[.bool nb, .string sb]] W (fun e w' => e = .returned (.bool true) ∧ Below W.heap.size W w')) :=
  Lib.hid fun W => by have := formed_any (w := W) (n := nb) (s := sb); rw [hb] at this; exact this
 have H3 : Hid (∀ W, Calls Tryz.prog 145 #[.agg #[.bool nb, .string sb]] W (fun e w' => e = .returned (.int .i64 z) ∧ Below W.heap.size W w')) :=
  Lib.hid fun W => by rw [hz]; exact rsign_any hf
 clear hz ha hb hf
 have hbx := Box.new w 36 #[.bool na, .string sa, .bool nb, .string sb]
 go_enter Tryz.func115, Tryz.ntmps115
 go_wp2_with (first
  | (go_at_call 144; (with_reducible refine (H1.out _).mono ?_); rintro _ W1 ⟨rfl, hb1⟩; have hbx := hbx.next hb1; have c2 := hbx.1.cell 2; have c3 := hbx.1.cell 3; clear hb1)
  | (go_at_call 144; (with_reducible refine (H2.out _).mono ?_); rintro _ W2 ⟨rfl, hb1⟩; have hbx := hbx.next hb1; have c2 := hbx.1.cell 2; have c3 := hbx.1.cell 3; clear hb1)
  | (go_at_call 145; (with_reducible refine (H3.out _).mono ?_); rintro _ W3 ⟨rfl, hb1⟩; have hbx := hbx.next hb1; clear hb1))
 go_ret
 exact ⟨rfl, hbx.2⟩
theorem enc_g {g : Nat} : (enc (g : Int) : Value) = .agg #[.bool false, .string ⟨(bys g).toArray⟩] := by
 unfold enc
 rw [decide_eq_false (by omega), Int.natAbs_natCast]
theorem one_g {g : Nat} : (false = false ∧ (⟨(bys g).toArray⟩ : ByteArray) = ⟨#[1]⟩) ↔ g = 1 := by
 constructor
 ·rintro ⟨-, h⟩
  have h1 := num_back (g : Int)
  rw [Int.natAbs_natCast, h] at h1
  have h2 := num_back 1
  have e2 := enc_one
  unfold enc at e2
  simp only [Value.agg.injEq, Array.mk.injEq, List.cons.injEq, Value.bool.injEq, Value.string.injEq, and_true] at e2
  rw [e2.1, e2.2] at h2
  rw [decide_eq_false (by omega)] at h1
  have h3 := h1.symm.trans h2
  omega
 ·rintro rfl
  have e2 := enc_one
  unfold enc at e2
  simp only [Value.agg.injEq, Array.mk.injEq, List.cons.injEq, Value.bool.injEq, Value.string.injEq, and_true] at e2
  exact ⟨rfl, e2.2⟩
set_option maxRecDepth 100000 in
set_option maxHeartbeats 2000000 in
theorem rfmd_last {w : World} {na nb : Bool} {sa sb : ByteArray} (ha : mayF na sa = true) (hb : mayF nb sb = true) (hfa : Fmd sa) (hf : Fmd sb) (hp : 0 < num (nb, sb)) {r : Bool} (hr : r = decide (Nat.gcd (num (na, sa)).natAbs (num (nb, sb)).natAbs = 1)) :
  Calls Tryz.prog 115 #[.agg #[.bool na, .string sa, .bool nb, .string sb]] w (Calm w (.bool r)) := by
 have H1 : Hid (∀ W, Calls Tryz.prog 144 #[.agg #[.bool na, .string sa]] W (fun e w' => e = .returned (.bool true) ∧ Below W.heap.size W w')) :=
  Lib.hid fun W => by have := formed_any (w := W) (n := na) (s := sa); rw [ha] at this; exact this
 have H2 : Hid (∀ W, Calls Tryz.prog 144 #[.agg #[.bool nb, .string sb]] W (fun e w' => e = .returned (.bool true) ∧ Below W.heap.size W w')) :=
  Lib.hid fun W => by have := formed_any (w := W) (n := nb) (s := sb); rw [hb] at this; exact this
 have H3 : Hid (∀ W, Calls Tryz.prog 145 #[.agg #[.bool nb, .string sb]] W (fun e w' => e = .returned (.int .i64 1) ∧ Below W.heap.size W w')) :=
  Lib.hid fun W => by
   have := rsign_any (w := W) (n := nb) hf
   unfold sg at this
   rw [if_neg (by omega), if_neg (by omega)] at this
   exact this
 obtain ⟨t, ht⟩ : ∃ t : ByteArray, t = ⟨(bys (Nat.gcd (bval sa.data.toList) (bval sb.data.toList))).toArray⟩ := ⟨_, rfl⟩
 have H4 : Hid (∀ W, Calls Tryz.prog 146 #[.agg #[.bool na, .string sa], .agg #[.bool nb, .string sb]] W (fun e w' => e = .returned (.agg #[.bool false, .string t]) ∧ Below W.heap.size W w')) :=
  Lib.hid fun W => by
   have := rgcd_any (w := W) (na := na) (nb := nb) hfa hf
   rw [enc_g, ← ht] at this; exact this
 have H5 : Hid (∀ W, Calls Tryz.prog 97 #[.int .i64 1] W (fun e w' => e = .returned (.agg #[.bool false, .string ⟨#[1]⟩]) ∧ Below W.heap.size W w')) :=
  Lib.hid fun W => by
   have := rOf_any (w := W) (n := 1) (by decide) (by decide)
   rw [enc_one] at this; exact this
 have heq : ∀ W, (binOp .eql 34 (.agg #[.bool false, .string t]) (.agg #[.bool false, .string ⟨#[1]⟩])).run Tryz.prog W = .ok (.bool r) W := fun W => by
  rw [eql_wh, hr]
  congr 2
  refine decide_eq_decide.2 ?_
  rw [ht, one_g]
  unfold num
  rw [sgn_abs, sgn_abs]
 clear hr ht ha hb hfa hf hp
 have hbx := Box.new w 36 #[.bool na, .string sa, .bool nb, .string sb]
 go_enter Tryz.func115, Tryz.ntmps115
 go_wp2_with (first
  | (go_at_call 144; (with_reducible refine (H1.out _).mono ?_); rintro _ W1 ⟨rfl, hb1⟩; have hbx := hbx.next hb1; have c0 := hbx.1.cell 0; have c1 := hbx.1.cell 1; have c2 := hbx.1.cell 2; have c3 := hbx.1.cell 3; clear hb1)
  | (go_at_call 144; (with_reducible refine (H2.out _).mono ?_); rintro _ W2 ⟨rfl, hb1⟩; have hbx := hbx.next hb1; have c0 := hbx.1.cell 0; have c1 := hbx.1.cell 1; have c2 := hbx.1.cell 2; have c3 := hbx.1.cell 3; clear hb1)
  | (go_at_call 145; (with_reducible refine (H3.out _).mono ?_); rintro _ W3 ⟨rfl, hb1⟩; have hbx := hbx.next hb1; have c0 := hbx.1.cell 0; have c1 := hbx.1.cell 1; have c2 := hbx.1.cell 2; have c3 := hbx.1.cell 3; clear hb1)
  | (go_at_call 146; (with_reducible refine (H4.out _).mono ?_); rintro _ W4 ⟨rfl, hb1⟩; have hbx := hbx.next hb1; clear hb1)
  | (go_at_call 97; (with_reducible refine (H5.out _).mono ?_); rintro _ W5 ⟨rfl, hb1⟩; have hbx := hbx.next hb1; clear hb1))
 go_ret
 exact ⟨rfl, hbx.2⟩
theorem rfmd_any {w : World} {na nb : Bool} {sa sb : ByteArray} (i1 : (sa.size : Int) ≤ 1024) (i2 : (sb.size : Int) ≤ 1024) {r : Bool} (hr : r = true ↔ MayFr na sa nb sb) :
  Calls Tryz.prog 115 #[.agg #[.bool na, .string sa, .bool nb, .string sb]] w (Calm w (.bool r)) := by
 have no : ¬ MayFr na sa nb sb → r = false := fun h => by
  cases r
  ·rfl
  ·exact absurd (hr.1 rfl) h
 cases ha : mayF na sa
 ·rw [no fun h => by have := (len1024 i1).1 h.a; rw [ha] at this; cases this]; exact rfmd_no1 ha
 ·cases hb : mayF nb sb
  ·rw [no fun h => by have := (len1024 i2).1 h.b; rw [hb] at this; cases this]; exact rfmd_no2 ha hb
  ·have ma := (len1024 i1).2 ha
   have mb := (len1024 i2).2 hb
   by_cases hp : 0 < num (nb, sb)
   ·refine rfmd_last ha hb (.of_may ma) (.of_may mb) hp ?_
    by_cases hg : Nat.gcd (num (na, sa)).natAbs (num (nb, sb)).natAbs = 1
    ·rw [decide_eq_true hg]; exact hr.2 ⟨ma, mb, by omega, by omega, hp, hg⟩
    ·rw [decide_eq_false hg]; exact no fun h => hg h.low
   ·rw [no fun h => hp h.pos]
    refine rfmd_no3 ha hb (.of_may mb) rfl ?_
    unfold sg
    split
    ·omega
    ·rw [if_pos (by omega)]; omega
set_option maxRecDepth 100000 in
theorem rmayf_any {w : World} {na nb : Bool} {sa sb : ByteArray} {r : Bool} (hr : r = true ↔ MayFr na sa nb sb) :
  Calls Tryz.prog 90 #[.agg #[.bool na, .string sa, .bool nb, .string sb]] w (fun e w' => e = .returned (.bool r) ∧ Below w.heap.size w w') := by
 by_cases hf : (sa.size : Int) ≤ 1024 ∧ (sb.size : Int) ≤ 1024
 ·have H1 : Hid (∀ W, Calls Tryz.prog 114 #[.agg #[.bool na, .string sa, .bool nb, .string sb]] W (fun e w' => e = .returned (.bool true) ∧ Below W.heap.size W w')) :=
   Lib.hid fun W => by have := fits_any na nb sa sb W; rw [decide_eq_true hf.1, decide_eq_true hf.2] at this; exact this
  have H2 : Hid (∀ W, Calls Tryz.prog 115 #[.agg #[.bool na, .string sa, .bool nb, .string sb]] W (fun e w' => e = .returned (.bool r) ∧ Below W.heap.size W w')) :=
   Lib.hid fun W => rfmd_any hf.1 hf.2 hr
  clear hf hr
  have hbx := Box.new w 36 #[.bool na, .string sa, .bool nb, .string sb]
  go_enter Tryz.func90, Tryz.ntmps90
  go_wp2_with (first
   | (go_at_call 114; (with_reducible refine (H1.out _).mono ?_); rintro _ W1 ⟨rfl, hb1⟩; have hbx := hbx.next hb1; have c0 := hbx.1.cell 0; have c1 := hbx.1.cell 1; have c2 := hbx.1.cell 2; have c3 := hbx.1.cell 3; clear hb1)
   | (go_at_call 115; (with_reducible refine (H2.out _).mono ?_); rintro _ W2 ⟨rfl, hb1⟩; have hbx := hbx.next hb1; clear hb1))
  go_ret
  exact ⟨rfl, hbx.2⟩
 ·have : r = false := by
   cases r
   ·rfl
   ·exact absurd (hr.1 rfl) fun h => hf ⟨by have := h.al; omega, by have := h.bl; omega⟩
  subst this
  have H1 : Hid (∀ W, Calls Tryz.prog 114 #[.agg #[.bool na, .string sa, .bool nb, .string sb]] W (fun e w' => e = .returned (.bool false) ∧ Below W.heap.size W w')) :=
   Lib.hid fun W => by
    have := fits_any na nb sa sb W
    have e : (decide ((sa.size : Int) ≤ 1024) && decide ((sb.size : Int) ≤ 1024)) = false := by simpa using hf
    rw [e] at this; exact this
  clear hf hr
  have hbx := Box.new w 36 #[.bool na, .string sa, .bool nb, .string sb]
  go_enter Tryz.func90, Tryz.ntmps90
  go_wp2_with (go_at_call 114; (with_reducible refine (H1.out _).mono ?_); rintro _ W1 ⟨rfl, hb1⟩; have hbx := hbx.next hb1; clear hb1)
  go_ret
  exact ⟨rfl, hbx.2⟩
set_option maxRecDepth 100000 in
set_option maxHeartbeats 4000000 in
theorem rtextf_yes {w : World} {na nb : Bool} {sa sb : ByteArray} (h : MayFr na sa nb sb) :
  Calls Tryz.prog 74 #[.agg #[.bool na, .string sa, .bool nb, .string sb]] w (fun e w' => e = .returned (.string ⟨(txtF (num (na, sa)) (num (nb, sb))).toArray⟩) ∧ Below w.heap.size w w') := by
 have HTa : Hid (∀ W, Calls Tryz.prog 98 #[.agg #[.bool na, .string sa]] W (fun e w' => e = .returned (.string ⟨(txt (num (na, sa))).toArray⟩) ∧ Below W.heap.size W w')) :=
  Lib.hid fun W => rtext_any h.a
 have HTb : Hid (∀ W, Calls Tryz.prog 98 #[.agg #[.bool nb, .string sb]] W (fun e w' => e = .returned (.string ⟨(txt (num (nb, sb))).toArray⟩) ∧ Below W.heap.size W w')) :=
  Lib.hid fun W => rtext_any h.b
 have H5 : Hid (∀ W, Calls Tryz.prog 97 #[.int .i64 1] W (fun e w' => e = .returned (.agg #[.bool false, .string ⟨#[1]⟩]) ∧ Below W.heap.size W w')) :=
  Lib.hid fun W => by
   have := rOf_any (w := W) (n := 1) (by decide) (by decide)
   rw [enc_one] at this; exact this
 have la : (⟨(txt (num (na, sa))).toArray⟩ : ByteArray).size ≤ 4000 := by
  have := txt_len (n := na) (s := sa)
  have := h.al
  show (txt (num (na, sa))).toArray.size ≤ 4000
  rw [List.size_toArray]; omega
 have lb : (⟨(txt (num (nb, sb))).toArray⟩ : ByteArray).size ≤ 4000 := by
  have := txt_len (n := nb) (s := sb)
  have := h.bl
  show (txt (num (nb, sb))).toArray.size ≤ 4000
  rw [List.size_toArray]; omega
 obtain ⟨ta, hta⟩ : ∃ ta : ByteArray, ta = ⟨(txt (num (na, sa))).toArray⟩ := ⟨_, rfl⟩
 obtain ⟨tb, htb⟩ : ∃ tb : ByteArray, tb = ⟨(txt (num (nb, sb))).toArray⟩ := ⟨_, rfl⟩
 rw [← hta] at HTa la
 rw [← htb] at HTb lb
 have Hone := Lib.hid (num_one_iff h.b)
 have Ht := Lib.hid (And.intro hta htb)
 have heq := eql_wh nb false sb ⟨#[1]⟩
 have hs1 : ¬ 9223372036854775807 < ta.size + 1 := by omega
 have hs2 : ¬ 9223372036854775807 < ta.size + 1 + tb.size := by omega
 clear h hta htb
 obtain ⟨d, hd⟩ : ∃ d : Bool, d = decide (nb = false ∧ sb = ⟨#[1]⟩) := ⟨_, rfl⟩
 rw [← hd] at heq
 have Hd := Lib.hid hd
 clear hd
 cases d
 ·have hbx := Box.new w 36 #[.bool na, .string sa, .bool nb, .string sb]
  go_enter Tryz.func74, Tryz.ntmps74
  go_wp2_with fail
  have hbs := hbx
  have hsz0 := hbx.1.lt
  go_region_held3 (fun w' => w'.cell? ⟨w.heap.size, 2, none⟩ = some (.bool nb) ∧ w'.cell? ⟨w.heap.size, 3, none⟩ = some (.string sb))
   (first
    | go_keep
    | (rw [hb6.cell (by show w.heap.size < _; simp), hb6.cell (by show w.heap.size < _; simp)]; go_keep))
   (first
    | (go_at_call 97; (with_reducible refine (H5.out _).mono ?_); rintro _ W6 ⟨rfl, hb6⟩; have z6 : w.heap.size < W6.heap.size := (by have := hb6.size; simp at this; omega)))
  have hbx6 := hbs.next (Below.drew' hb6)
  have c0 := hbx6.1.cell 0
  have c1 := hbx6.1.cell 1
  have c2 := hbx6.1.cell 2
  have c3 := hbx6.1.cell 3
  clear hbx
  go_wp2_with fail
  have hsz6 := hbx6.1.lt
  go_region_held3 (fun w' => w'.cell? ⟨w.heap.size, 0, none⟩ = some (.bool na) ∧ w'.cell? ⟨w.heap.size, 1, none⟩ = some (.string sa) ∧ w'.cell? ⟨w.heap.size, 2, none⟩ = some (.bool nb) ∧ w'.cell? ⟨w.heap.size, 3, none⟩ = some (.string sb))
   (first
    | go_keep
    | (rw [hb7.cell (by show w.heap.size < _; simpa using hsz6), hb7.cell (by show w.heap.size < _; simpa using hsz6), hb7.cell (by show w.heap.size < _; simpa using hsz6), hb7.cell (by show w.heap.size < _; simpa using hsz6)]; go_keep)
    | (rw [hb8.cell (by show w.heap.size < _; omega), hb8.cell (by show w.heap.size < _; omega), hb8.cell (by show w.heap.size < _; omega), hb8.cell (by show w.heap.size < _; omega)]; go_keep))
   (first
    | (go_at_call 98; (with_reducible refine (HTa.out _).mono ?_); rintro _ W7 ⟨rfl, hb7⟩; have z7 : w.heap.size < W7.heap.size := (by have := hb7.size; simp at this; omega))
    | (go_at_call 98; (with_reducible refine (HTb.out _).mono ?_); rintro _ W8 ⟨rfl, hb8⟩; have z8 := hb8.size))
  all_goals
   have hbx8 := (hbx6.next (Below.drew' hb7)).next hb8
   go_wp2_with fail
   go_ret
   refine ⟨?_, hbx8.2⟩
   have h1 : ¬ num (nb, sb) = 1 := fun h => by
    have h2 := Hone.out.1 h
    have h3 := Hd.out
    simp [h2.1, h2.2] at h3
   unfold txtF
   rw [if_neg h1, Ht.out.1, Ht.out.2]
   apply congrArg (fun x => Ending.returned (.string x))
   apply ByteArray.ext
   simp
 ·have hbx := Box.new w 36 #[.bool na, .string sa, .bool nb, .string sb]
  go_enter Tryz.func74, Tryz.ntmps74
  go_wp2_with fail
  have hbs := hbx
  have hsz0 := hbx.1.lt
  go_region_held3 (fun w' => w'.cell? ⟨w.heap.size, 2, none⟩ = some (.bool nb) ∧ w'.cell? ⟨w.heap.size, 3, none⟩ = some (.string sb))
   (first
    | go_keep
    | (rw [hb6.cell (by show w.heap.size < _; simp), hb6.cell (by show w.heap.size < _; simp)]; go_keep))
   (first
    | (go_at_call 97; (with_reducible refine (H5.out _).mono ?_); rintro _ W6 ⟨rfl, hb6⟩; have z6 : w.heap.size < W6.heap.size := (by have := hb6.size; simp at this; omega)))
  have hbx6 := hbs.next (Below.drew' hb6)
  have c0 := hbx6.1.cell 0
  have c1 := hbx6.1.cell 1
  clear hbx
  go_wp2_with (go_at_call 98; (with_reducible refine (HTa.out _).mono ?_); rintro _ W2 ⟨rfl, hb1⟩; have hbx := hbx6.next hb1; clear hb1)
  go_ret
  refine ⟨?_, hbx.2⟩
  have h1 : num (nb, sb) = 1 := Hone.out.2 (by have := Hd.out; simpa using this.symm)
  rw [h1, Ht.out.1]
  rfl
structure MayGs (n0 : Bool) (s0 : ByteArray) (n1 : Bool) (s1 : ByteArray) (n2 : Bool) (s2 : ByteArray) (n3 : Bool) (s3 : ByteArray) : Prop where
 re : MayFr n0 s0 n1 s1
 im : MayFr n2 s2 n3 s3
set_option maxRecDepth 100000 in
set_option maxHeartbeats 2000000 in
theorem mayg_any {w : World} {n0 n1 n2 n3 : Bool} {s0 s1 s2 s3 : ByteArray} {r : Bool} (hr : r = true ↔ MayGs n0 s0 n1 s1 n2 s2 n3 s3) :
  Calls Tryz.prog 76 #[.agg #[.bool n0, .string s0, .bool n1, .string s1, .bool n2, .string s2, .bool n3, .string s3]] w (fun e w' => e = .returned (.bool r) ∧ Below w.heap.size w w') := by
 by_cases hf : MayFr n0 s0 n1 s1
 ·have H1 := Lib.hid (fun W => mayf_any (w := W) (r := true) ⟨fun _ => hf, fun _ => rfl⟩)
  have H2 := Lib.hid (fun W => mayf_any (w := W) (r := r) (na := n2) (sa := s2) (nb := n3) (sb := s3) ⟨fun h => (hr.1 h).im, fun h => hr.2 ⟨hf, h⟩⟩)
  clear hf hr
  have hbx := Box.new w 38 #[.bool n0, .string s0, .bool n1, .string s1, .bool n2, .string s2, .bool n3, .string s3]
  go_enter Tryz.func76, Tryz.ntmps76
  go_wp2_with (first
   | (go_at_call 91; (with_reducible refine (H1.out _).mono ?_); rintro _ W1 ⟨rfl, hb1⟩; have hbx := hbx.next hb1; have c4 := hbx.1.cell 4; have c5 := hbx.1.cell 5; have c6 := hbx.1.cell 6; have c7 := hbx.1.cell 7; clear hb1)
   | (go_at_call 91; (with_reducible refine (H2.out _).mono ?_); rintro _ W2 ⟨rfl, hb1⟩; have hbx := hbx.next hb1; clear hb1))
  go_ret
  exact ⟨rfl, hbx.2⟩
 ·have H1 := Lib.hid (fun W => mayf_any (w := W) (r := false) ⟨fun h => (by cases h), fun h => absurd h hf⟩)
  have : r = false := by
   cases r
   ·rfl
   ·exact absurd (hr.1 rfl).re hf
  subst this
  clear hf hr
  have hbx := Box.new w 38 #[.bool n0, .string s0, .bool n1, .string s1, .bool n2, .string s2, .bool n3, .string s3]
  go_enter Tryz.func76, Tryz.ntmps76
  go_wp2_with (go_at_call 91; (with_reducible refine (H1.out _).mono ?_); rintro _ W1 ⟨rfl, hb1⟩; have hbx := hbx.next hb1; clear hb1)
  go_ret
  exact ⟨rfl, hbx.2⟩
set_option maxRecDepth 100000 in
set_option maxHeartbeats 2000000 in
theorem rmayg_any {w : World} {n0 n1 n2 n3 : Bool} {s0 s1 s2 s3 : ByteArray} {r : Bool} (hr : r = true ↔ MayGs n0 s0 n1 s1 n2 s2 n3 s3) :
  Calls Tryz.prog 77 #[.agg #[.bool n0, .string s0, .bool n1, .string s1, .bool n2, .string s2, .bool n3, .string s3]] w (fun e w' => e = .returned (.bool r) ∧ Below w.heap.size w w') := by
 by_cases hf : MayFr n0 s0 n1 s1
 ·have H1 := Lib.hid (fun W => rmayf_any (w := W) (r := true) ⟨fun _ => hf, fun _ => rfl⟩)
  have H2 := Lib.hid (fun W => rmayf_any (w := W) (r := r) (na := n2) (sa := s2) (nb := n3) (sb := s3) ⟨fun h => (hr.1 h).im, fun h => hr.2 ⟨hf, h⟩⟩)
  clear hf hr
  have hbx := Box.new w 38 #[.bool n0, .string s0, .bool n1, .string s1, .bool n2, .string s2, .bool n3, .string s3]
  go_enter Tryz.func77, Tryz.ntmps77
  go_wp2_with (first
   | (go_at_call 90; (with_reducible refine (H1.out _).mono ?_); rintro _ W1 ⟨rfl, hb1⟩; have hbx := hbx.next hb1; have c4 := hbx.1.cell 4; have c5 := hbx.1.cell 5; have c6 := hbx.1.cell 6; have c7 := hbx.1.cell 7; clear hb1)
   | (go_at_call 90; (with_reducible refine (H2.out _).mono ?_); rintro _ W2 ⟨rfl, hb1⟩; have hbx := hbx.next hb1; clear hb1))
  go_ret
  exact ⟨rfl, hbx.2⟩
 ·have H1 := Lib.hid (fun W => rmayf_any (w := W) (r := false) ⟨fun h => (by cases h), fun h => absurd h hf⟩)
  have : r = false := by
   cases r
   ·rfl
   ·exact absurd (hr.1 rfl).re hf
  subst this
  clear hf hr
  have hbx := Box.new w 38 #[.bool n0, .string s0, .bool n1, .string s1, .bool n2, .string s2, .bool n3, .string s3]
  go_enter Tryz.func77, Tryz.ntmps77
  go_wp2_with (go_at_call 90; (with_reducible refine (H1.out _).mono ?_); rintro _ W1 ⟨rfl, hb1⟩; have hbx := hbx.next hb1; clear hb1)
  go_ret
  exact ⟨rfl, hbx.2⟩
theorem take_grow {l m : List Int} {i : Nat} (hl : i < l.length) (hm : i < m.length) (h : l.take i = m.take i) (hx : l[i] = m[i]) : l.take (i + 1) = m.take (i + 1) := by
 rw [List.take_succ_eq_append_getElem hl, List.take_succ_eq_append_getElem hm, h, hx]
def EqOut (w : World) (l m : List Int) (e : Ending) (w' : World) : Prop := ∃ d, e = .returned (.bool (decide (l = m))) ∧ w.drewN d = w'
theorem eq_yes {w : World} {l m : List Int} (d : Nat) (h : l = m) : EqOut w l m (.returned (.bool true)) (w.drewN d) := ⟨d, by rw [decide_eq_true h], rfl⟩
theorem eq_no {w : World} {l m : List Int} (d : Nat) (h : ¬ l = m) : EqOut w l m (.returned (.bool false)) (w.drewN d) := ⟨d, by rw [decide_eq_false h], rfl⟩
set_option maxRecDepth 100000 in
set_option maxHeartbeats 2000000 in
theorem equal_any {w : World} {B B' n n' c c' : Nat} {A A' : Option Addr} {l m : List Int} (hr : ReadsI w B A l) (hr' : ReadsI w B' A' m) (hn : n = l.length) (hn' : n' = m.length) (hb : n ≤ 1000000000) (hb' : n' ≤ 1000000000) :
  Calls Tryz.prog 52 #[.slice A n c, .slice A' n' c'] w (EqOut w l m) := by
 have Hn := Lib.hid hn
 have Hn' := Lib.hid hn'
 have Hr := Lib.hid hr
 have Hr' := Lib.hid hr'
 clear hr hr' hn hn'
 rcases Decidable.em (n = n') with he | he
 ·subst he
  have hbe : ((n : Int) == (n : Int)) = true := by simp
  go_enter Tryz.func52, Tryz.ntmps52
  go_wp2_with fail
  go_loopg [13] n (fun k iv wr => ∃ (i d : Nat), iv = .int .i64 (i : Int) ∧ k = n - i ∧ i ≤ n ∧ Hid (l.take i = m.take i) ∧ Hid (wr = w.drewN d))
  case atStart => exact ⟨0, 0, rfl, by omega, by omega, Lib.hid rfl, Lib.hid rfl⟩
  case round =>
   obtain ⟨i, d, rfl, hk, hi, htk, hw⟩ := hrel
   have Hk := Lib.hid hk
   clear hk
   have ew := hw.out
   subst ew
   by_cases hin : i < n
   ·have hil : i < l.length := by rw [← Hn.out]; omega
    have hjl : i < m.length := by rw [← Hn'.out]; omega
    obtain ⟨ad, rfl, hb1, c0⟩ := Hr.out.at_ hil
    obtain ⟨ad2, rfl, hb2, d0⟩ := Hr'.out.at_ hjl
    have hii : (i : Int) < (n : Int) := by omega
    rcases Decidable.em (l[i] = m[i]) with hxy | hxy
    ·have hnext := Lib.hid (take_grow hil hjl htk.out hxy)
     rw [← hxy] at d0
     generalize l[i] = x at *
     clear hb1 hb2 hil hjl hxy
     go_wp2_with (go_quiet (fail))
     go_roundg (n - (i + 1))
     case measure => have := Hk.out; omega
     case rel => exact ⟨i + 1, _, rfl, rfl, by omega, hnext, Lib.hid rfl⟩
    ·have hne := Lib.hid (show ¬ l = m from fun e => hxy (by subst e; rfl))
     generalize l[i] = x at *
     generalize m[i] = y at *
     have hbeq : (x == y) = false := by simp; exact hxy
     clear hb1 hb2 hil hjl
     go_wp2_with (go_quiet (fail))
     go_ret
     exact eq_no _ hne.out
   ·have hii : (n : Int) ≤ (i : Int) := by omega
    have heq := Lib.hid (show l = m by
     have h := htk.out
     rw [List.take_of_length_le (by have := Hn.out; omega), List.take_of_length_le (by have := Hn'.out; omega)] at h
     exact h)
    go_wp2_with (go_quiet (fail))
    go_ret
    exact eq_yes _ heq.out
 ·have hne := Lib.hid (show ¬ l = m from fun e => he (by rw [Hn.out, Hn'.out, e]))
  have hbe : ((n : Int) == (n' : Int)) = false := by simp; omega
  have hbe2 : ¬ (n : Int) = (n' : Int) := by omega
  go_enter Tryz.func52, Tryz.ntmps52
  go_wp2_with fail
  go_ret
  exact eq_no 0 hne.out
set_option maxRecDepth 100000 in
set_option maxHeartbeats 2000000 in
theorem same_any {w : World} {B B' n n' c c' : Nat} {A A' : Option Addr} {l m : List Int} (hr : ReadsI w B A l) (hr' : ReadsI w B' A' m) (hn : n = l.length) (hn' : n' = m.length) (hb : n ≤ 1000000000) (hb' : n' ≤ 1000000000) :
  Calls Tryz.prog 31 #[.slice A n c, .slice A' n' c'] w (EqOut w l m) := by
 have Hn := Lib.hid hn
 have Hn' := Lib.hid hn'
 have Hr := Lib.hid hr
 have Hr' := Lib.hid hr'
 clear hr hr' hn hn'
 rcases Decidable.em (n = n') with he | he
 ·subst he
  have hbe : ((n : Int) == (n : Int)) = true := by simp
  have hbe2 : ((n : Int) != (n : Int)) = false := by simp
  go_enter Tryz.func31, Tryz.ntmps31
  go_wp2_with fail
  go_loopg [5] n (fun k iv wr => ∃ (i d : Nat), iv = .int .i64 (i : Int) ∧ k = n - i ∧ i ≤ n ∧ Hid (l.take i = m.take i) ∧ Hid (wr = w.drewN d))
  case atStart => exact ⟨0, 0, rfl, by omega, by omega, Lib.hid rfl, Lib.hid rfl⟩
  case round =>
   obtain ⟨i, d, rfl, hk, hi, htk, hw⟩ := hrel
   have Hk := Lib.hid hk
   clear hk
   have ew := hw.out
   subst ew
   by_cases hin : i < n
   ·have hil : i < l.length := by rw [← Hn.out]; omega
    have hjl : i < m.length := by rw [← Hn'.out]; omega
    obtain ⟨ad, rfl, hb1, c0⟩ := Hr.out.at_ hil
    obtain ⟨ad2, rfl, hb2, d0⟩ := Hr'.out.at_ hjl
    have hii : (i : Int) < (n : Int) := by omega
    rcases Decidable.em (l[i] = m[i]) with hxy | hxy
    ·have hnext := Lib.hid (take_grow hil hjl htk.out hxy)
     rw [← hxy] at d0
     generalize l[i] = x at *
     clear hb1 hb2 hil hjl hxy
     go_wp2_with (go_quiet (fail))
     go_roundg (n - (i + 1))
     case measure => have := Hk.out; omega
     case rel => exact ⟨i + 1, _, rfl, rfl, by omega, hnext, Lib.hid rfl⟩
    ·have hne := Lib.hid (show ¬ l = m from fun e => hxy (by subst e; rfl))
     generalize l[i] = x at *
     generalize m[i] = y at *
     have hbeq : (x == y) = false := by simp; exact hxy
     have hbeq2 : (x != y) = true := by simp; exact hxy
     clear hb1 hb2 hil hjl
     go_wp2_with (go_quiet (fail))
     go_ret
     exact eq_no _ hne.out
   ·have hii : (n : Int) ≤ (i : Int) := by omega
    have heq := Lib.hid (show l = m by
     have h := htk.out
     rw [List.take_of_length_le (by have := Hn.out; omega), List.take_of_length_le (by have := Hn'.out; omega)] at h
     exact h)
    go_wp2_with (go_quiet (fail))
    go_ret
    exact eq_yes _ heq.out
 ·have hne := Lib.hid (show ¬ l = m from fun e => he (by rw [Hn.out, Hn'.out, e]))
  have hbe : ((n : Int) == (n' : Int)) = false := by simp; omega
  have hbe2 : ¬ (n : Int) = (n' : Int) := by omega
  have hbe3 : ((n : Int) != (n' : Int)) = true := by simp; omega
  go_enter Tryz.func31, Tryz.ntmps31
  go_wp2_with fail
  go_ret
  exact eq_no 0 hne.out
end Go.Proofs.YtebpggfccljagaaGreatDoor
