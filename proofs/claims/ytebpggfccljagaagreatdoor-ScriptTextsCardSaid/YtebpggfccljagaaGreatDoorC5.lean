import Derived.Test.YtebpggfccljagaaGreatDoorC1
import Derived.Test.YtebpggfccljagaaGreatDoorC2
import Derived.Test.YtebpggfccljagaaGreatDoorC4
import Derived.Deep.CutRange
import Derived.Deep.CutBlock
import Derived.BigRegion
import Derived.Deep.RegionWith
import Derived.Deep.RegionHeld3
import Derived.Test.YtebpggfccljagaaGreatDoorC3
/- The reference's up, down (printed by gen_rup.py). -/
namespace Go.Proofs.YtebpggfccljagaaGreatDoor
open Go.RowKit
open Wh
set_option linter.unusedSimpArgs false

theorem up_add {cy x s : Nat} (hs : s < 32) (hc : cy < 2 ^ s) (hx : x < 4294967296) :
    IntKind.u64.wrap ((cy : Int) + IntKind.u64.wrap ((x : Int) * 2 ^ s)) = ((cy + x * 2 ^ s : Nat) : Int) ∧ (cy + x * 2 ^ s) / 4294967296 < 2 ^ s ∧ cy + x * 2 ^ s ≤ 9223372036854775807 := by
  have h1 : (2 : Nat) ^ s ≤ 2 ^ 31 := Nat.pow_le_pow_right (by decide) (by omega)
  have h2 : (x + 1) * 2 ^ s ≤ 4294967296 * 2 ^ s := Nat.mul_le_mul_right _ hx
  rw [Nat.add_mul, Nat.one_mul] at h2
  have e1 : ((x : Int) * 2 ^ s) = ((x * 2 ^ s : Nat) : Int) := by rw [Int.natCast_mul, Int.natCast_pow]; rfl
  refine ⟨?_, ?_, by omega⟩
  · rw [e1]
    generalize x * 2 ^ s = q at *
    rw [IntWalk.u64_in (q : Int) (by omega), IntWalk.u64_in _ (by omega)]
    omega
  · exact (Nat.div_lt_iff_lt_mul (by decide)).2 (by omega)

set_option maxRecDepth 100000 in
set_option maxHeartbeats 2000000 in
theorem rup_some {w : World} {B n m c : Nat} {A : Option Addr} {la : List Nat} (h1 : ReadsW w B A la) (hB : B ≤ w.heap.size) (hm : m = la.length) (hml : m ≤ 1000000000) (hnl : n ≤ 1000000000) (ha : Wd la) (hpos : 0 < m) :
    Calls Tryz.prog 170 #[.slice A m c, .int .i64 (n : Int)] w (CutW w (val la * 2 ^ n)) := by
  have Hm := Lib.hid hm
  have hmk : ∀ w : World, (Instr.makeSlice 149 (.int .i64 ((n : Int) / 32)) (.int .i64 ((n : Int) / 32 + (m : Int) + 1))).run Tryz.prog w = .ok (.slice (some ⟨w.heap.size, 0, none⟩) (n / 32) (n / 32 + m + 1)) (w.alloc (.cells (wcells (List.replicate (n / 32 + m + 1) 0)) 163)) := fun w => by
    have := run_makeWc (n / 32) (n / 32 + m + 1) (by omega) (by omega) w
    rw [← this]
    congr 3
  have hm0 : ((m : Int) == 0) = false := by simp; omega
  have hmne : ¬ m = 0 := by omega
  clear hm
  go_enter Tryz.func170, Tryz.ntmps170
  go_wp2
  go_loopg [5, 6, 7] m (fun k ov cy iv wr => ∃ (A' : Option Addr) (n' c' i c : Nat) (L : List Nat), ov = .slice A' n' c' ∧ cy = .int .u64 (c : Int) ∧ iv = .int .i64 (i : Int) ∧ k = m - i ∧ i ≤ m ∧ c < 4294967296 ∧ OwnW wr w.heap.size (.slice A' n' c') L ∧ Below w.heap.size w wr ∧
    Hid (L.length = n / 32 + i ∧ Wd L ∧ c < 2 ^ (n % 32) ∧ val L + 4294967296 ^ (n / 32 + i) * c = 2 ^ n * val (la.take i)))
  case atStart => exact ⟨_, _, _, 0, 0, List.replicate (n / 32) 0, rfl, rfl, rfl, by omega, by omega, by omega, OwnW.made w (by omega) (by omega), (Below.refl _ _).alloc (Nat.le_refl _) _, by simp, wd_zeros _, Nat.two_pow_pos _, by simp [val_nil, val_zeros]⟩
  case round =>
    obtain ⟨A', n', c', i, cy, L, rfl, rfl, rfl, hk, hi, hc, hown, hbel, hL⟩ := hrel
    have Hk := Lib.hid hk
    clear hk
    have h1' := h1.below (hbel.mono hB)
    have hsz := hbel.size
    by_cases hin : i < m
    · have hia : i < la.length := by rw [← Hm.out]; exact hin
      obtain ⟨ad, rfl, hb1, c1⟩ := h1'.at_ hia
      have w1 := wd_get ha _ hia
      have hii : (i : Int) < (m : Int) := by omega
      have E1 := Lib.hid (val_take_succ hia)
      clear h1' h1
      generalize hx : la[i] = x at *
      clear hx
      have hlo := up_add (Nat.mod_lt n (by decide)) hL.out.2.2.1 w1
      obtain ⟨T, hT⟩ : ∃ T : Nat, T = cy + x * 2 ^ (n % 32) := ⟨_, rfl⟩
      rw [← hT] at hlo
      obtain ⟨hso, ht1, ht2⟩ := hlo
      have HT := Lib.hid (And.intro hT ht1)
      have hLl : L.length ≤ 2000000000 := by have := hL.out.1; omega
      clear ht1 hT
      go_wp2_with (at_builtin; refine wpW_push rfl (.tmp 36) (.tmp 40) rfl w.heap.size _ L hown rfl (y := T % 4294967296) (by rw [Int.natCast_emod]; rfl) rfl (by omega) (by omega) ?_; intro A2 n2 c2 w1 ho hkeep _)
      rw [show (T : Int) / 4294967296 = ((T / 4294967296 : Nat) : Int) by omega]
      go_roundg (m - (i + 1))
      case measure => have := Hk.out; omega
      case rel =>
        refine ⟨A2, n2, c2, i + 1, T / 4294967296, L ++ [T % 4294967296], rfl, rfl, rfl, rfl, by omega, by omega, ho, hkeep w hbel, ?_⟩
        have hl := hL.out
        refine ⟨by rw [List.length_append, hl.1]; rfl, wd_append.2 ⟨hl.2.1, wd_cons.2 ⟨Nat.mod_lt _ (by decide), wd_nil⟩⟩, HT.out.2, ?_⟩
        rw [val_snoc, hl.1, E1.out, Nat.mul_add, ← Nat.add_assoc, Nat.pow_succ]
        rw [← Nat.mul_assoc (2 ^ n)]
        exact left_step hl.2.2.2 HT.out.1 (left_pow n i).symm
    · have hi' : i = m := by omega
      subst hi'
      have hl := hL.out
      have hz : val (L ++ [cy]) = val la * 2 ^ n := by
        rw [val_snoc, hl.1, hl.2.2.2, List.take_of_length_le (by rw [Hm.out]; exact Nat.le_refl _), Nat.mul_comm]
      have Hz := Lib.hid hz
      have hLl : L.length ≤ 2000000000 := by have := hl.1; omega
      have Hw := Lib.hid (wd_append.2 ⟨hl.2.1, wd_cons.2 ⟨hc, wd_nil⟩⟩)
      have hcc : (cy : Int) % 4294967296 = (cy : Int) := by omega
      clear h1' h1 hz hl
      go_wp2_with (at_builtin; refine wpW_push rfl (.tmp 44) (.tmp 47) rfl w.heap.size _ L hown rfl (y := cy) rfl rfl (by omega) (by omega) ?_; intro A2 n2 c2 w1 ho hkeep _)
      have hcut := rcut_any ho.reads ho.len.1 ho.len.2.1 ho.len.2.2 Hw.out
      have Hc := Lib.hid (And.intro ho hcut)
      have Hk2 := Lib.hid (hkeep w hbel)
      clear ho hcut hkeep
      go_wp2_with (go_at_call 112; refine Hc.out.2.mono ?_; rintro e w' ⟨q, rfl, hq, rfl⟩; have Hq := Lib.hid hq; clear hq)
      go_ret
      have hwt := (wds_take _ _ rfl Hw.out).2
      have hn2 := Hc.out.1.len
      refine ⟨_, _, _, rfl, by rw [← Hz.out]; exact Hq.out, ?_, hn2.2.2, by rw [← Hz.out]; exact reads_cut Hc.out.1.reads Hw.out, Hk2.out⟩
      have := Hq.out
      omega
set_option maxRecDepth 100000 in
theorem rup_none {w : World} {n c : Nat} {A : Option Addr} :
    Calls Tryz.prog 170 #[.slice A 0 c, .int .i64 (n : Int)] w (CutW w 0) := by
  go_enter Tryz.func170, Tryz.ntmps170
  go_wp2
  go_ret
  exact ⟨none, 0, 0, rfl, by rw [wds_zero]; rfl, by omega, by omega, by rw [wds_zero]; exact ReadsW.none_ _ _ _, Below.refl _ _⟩
theorem rup_any {w : World} {B n m c : Nat} {A : Option Addr} {la : List Nat} (h1 : ReadsW w B A la) (hB : B ≤ w.heap.size) (hm : m = la.length) (hml : m ≤ 1000000000) (hnl : n ≤ 1000000000) (ha : Wd la) :
    Calls Tryz.prog 170 #[.slice A m c, .int .i64 (n : Int)] w (CutW w (val la * 2 ^ n)) := by
  rcases Nat.eq_zero_or_pos m with h | h
  · have h2 : la = [] := List.eq_nil_of_length_eq_zero (by omega)
    subst h2
    rw [h, val_nil, Nat.zero_mul]
    exact rup_none
  · exact rup_some h1 hB hm hml hnl ha h
theorem at_drop (la : List Nat) (k i : Nat) : at_ (la.drop k) i = at_ la (k + i) := by
  unfold at_
  rw [List.getD_eq_getElem?_getD, List.getD_eq_getElem?_getD, List.getElem?_drop]
theorem down_val {la : List Nat} (ha : Wd la) (n : Nat) : val la / 2 ^ n = val (la.drop (n / 32)) / 2 ^ (n % 32) := by
  rcases Nat.lt_or_ge (n / 32) la.length with h | h
  · exact div_words ha (by omega)
  · rw [List.drop_of_length_le h, val_nil, Nat.zero_div]
    refine Nat.div_eq_of_lt ?_
    have h1 := val_lt ha
    have h2 : 4294967296 ^ la.length ≤ 2 ^ n := by
      rw [show (4294967296 : Nat) = 2 ^ 32 by decide, ← Nat.pow_mul]
      exact Nat.pow_le_pow_right (by decide) (by omega)
    omega
theorem down_q {x y s : Nat} : (((y : Int) * 4294967296 + (x : Int)) / 2 ^ s) % 4294967296 = (((x + 4294967296 * y) / 2 ^ s % 4294967296 : Nat) : Int) := by
  rw [Int.natCast_emod, Int.natCast_ediv, Int.natCast_pow]
  congr 2
  omega
set_option maxRecDepth 100000 in
set_option maxHeartbeats 2000000 in
theorem rdown_any {w : World} {B n m c : Nat} {A : Option Addr} {la : List Nat} (h1 : ReadsW w B A la) (hB : B ≤ w.heap.size) (hm : m = la.length) (hml : m ≤ 1000000000) (hnl : n ≤ 1000000000) (ha : Wd la) :
    Calls Tryz.prog 172 #[.slice A m c, .int .i64 (n : Int)] w (CutW w (val la / 2 ^ n)) := by
  have Hm := Lib.hid (And.intro hm ha)
  have Hv := Lib.hid (down_val ha n)
  have H1 := Lib.hid h1
  obtain ⟨ld, hld⟩ : ∃ ld, ld = la.drop (n / 32) := ⟨_, rfl⟩
  rw [← hld] at Hv
  obtain ⟨p, hp⟩ : ∃ p, p = m - n / 32 := ⟨_, rfl⟩
  have hpl : p = ld.length := by rw [hld, List.length_drop]; omega
  have Hp := Lib.hid (And.intro hp (And.intro hpl hld))
  have hpb : p ≤ 1000000000 := by omega
  clear hm ha h1 hld hp hpl
  go_enter Tryz.func172, Tryz.ntmps172
  go_wp2_with fail
  go_loopg [5, 6] p (fun k ov iv wr => ∃ (A' : Option Addr) (n' c' t i : Nat) (L : List Nat), ov = .slice A' n' c' ∧ iv = .int .i64 (i : Int) ∧ Hid (i = n / 32 + t) ∧ k = p - t ∧ t ≤ p ∧ OwnW wr w.heap.size (.slice A' n' c') L ∧ Below w.heap.size w wr ∧
    Hid (L.length = t ∧ Wd L ∧ 2 ^ (n % 32) * val L + at_ ld 0 % 2 ^ (n % 32) = val (ld.take t) + 4294967296 ^ t * (at_ ld t % 2 ^ (n % 32))))
  case atStart => exact ⟨_, _, _, 0, n / 32, [], rfl, rfl, Lib.hid rfl, by omega, by omega, OwnW.nil w _, Below.refl _ _, rfl, wd_nil, by simp [val_nil]⟩
  case round =>
    obtain ⟨A', n', c', t, i, L, rfl, rfl, Hi, hk, ht, hown, hbel, hL⟩ := hrel
    have Hk := Lib.hid hk
    clear hk
    have hsz := hbel.size
    by_cases hin : i < m
    · have hil : i < la.length := by rw [← Hm.out.1]; exact hin
      have hid : t < ld.length := by rw [← Hp.out.2.1]; have := Hp.out.1; have := Hi.out; omega
      have hrd := (H1.out.below (hbel.mono hB))
      have HR' : Calls Tryz.prog 143 #[.slice A m c, .int .i64 ((i : Int) + 1)] wr.drew (fun e w' => e = .returned (.int .u64 ((at_ la (i + 1) : Nat) : Int)) ∧ w' = wr.drew) := by
        have := rat_any (w := wr.drew) (c := c) (i := i + 1) hrd Hm.out.1 Hm.out.2
        exact this
      obtain ⟨ad, rfl, hb1, c1⟩ := hrd.at_ hil
      have E1 := Lib.hid (And.intro (val_take_succ hid) (And.intro (at_get hid) (at_drop la (n / 32) (t + 1))))
      have hx0 : ld[t] = la[i] := by have := Hp.out.2.2; subst this; rw [List.getElem_drop]; simp only [Hi.out]
      rw [hx0, ← Hp.out.2.2] at E1
      have w1 := wd_get Hm.out.2 _ hil
      have w2 := at_lt Hm.out.2 (i + 1)
      rw [show n / 32 + (t + 1) = i + 1 by have := Hi.out; omega] at E1
      generalize at_ la (i + 1) = y at *
      generalize la[i] = x at *
      have HR := Lib.hid HR'
      have hii : (i : Int) < (m : Int) := by omega
      have hLl : L.length ≤ 2000000000 := by have := hL.out.1; omega
      clear HR' hrd hx0 hil hid
      obtain ⟨S, hS⟩ : ∃ S, S = n % 32 := ⟨_, rfl⟩
      have q4 : (n : Int).tmod 32 = (S : Int) := by rw [hS]; rfl
      have q5 : S ≤ 31 := by omega
      have HS := Lib.hid hS
      clear hS
      have q1 : IntKind.i64.wrap ((i : Int) + 1) = (i : Int) + 1 := IntWalk.i64_in _ (by omega)
      have q2 : IntKind.u64.wrap ((y : Int) * 4294967296) = (y : Int) * 4294967296 := IntWalk.u64_in _ (by omega)
      have q3 : IntKind.u64.wrap ((y : Int) * 4294967296 + (x : Int)) = (y : Int) * 4294967296 + (x : Int) := IntWalk.u64_in _ (by omega)
      go_wp2_with fail
      refine wp_region_noPanic ?_
      refine wp_region_HK (fun w' => w'.cell? (ad.add i) = some (.int .u32 (x : Int))) 14 (by kernel_rfl) c1 (fun hHeld => ?_)
      refine wpHK_pure (i := 0) (oi := Oper.mk (some 16) _ _ _ _ _) (v := ?_) rfl (by kernel_rfl) (by kernel_rfl) (by kernel_rfl) (fun _ _ _ h => h) (Or.inl ⟨by rfl, ?_⟩) ?_
      rotate_left
      · (intro w' _; go_simp; try with_reducible rfl)
      try simp only [Act.put, List.setIfInBounds_toArray, List.set_cons_zero, List.set_cons_succ]
      refine wpHK_pure (i := 1) (oi := Oper.mk (some 17) _ _ _ _ _) (v := ?_) rfl (by kernel_rfl) (by kernel_rfl) (by kernel_rfl) (fun _ _ _ h => h) (Or.inl ⟨by rfl, ?_⟩) ?_
      rotate_left
      · (intro w' _; go_simp; try with_reducible rfl)
      try simp only [Act.put, List.setIfInBounds_toArray, List.set_cons_zero, List.set_cons_succ]
      refine wpHK_pure (i := 2) (oi := Oper.mk (some 18) _ _ _ _ _) (v := ?_) rfl (by kernel_rfl) (by kernel_rfl) (by kernel_rfl) (fun _ _ _ h => h) (Or.inl ⟨by rfl, ?_⟩) ?_
      rotate_left
      · (intro w' _; go_simp; try with_reducible rfl)
      try simp only [Act.put, List.setIfInBounds_toArray, List.set_cons_zero, List.set_cons_succ]
      refine wpHK_pure (i := 5) (oi := Oper.mk (some 21) _ _ _ _ _) (v := ?_) rfl (by kernel_rfl) (by kernel_rfl) (by kernel_rfl) (fun _ _ _ h => h) (Or.inl ⟨by rfl, ?_⟩) ?_
      rotate_left
      · (intro w' _; go_simp; try with_reducible rfl)
      try simp only [Act.put, List.setIfInBounds_toArray, List.set_cons_zero, List.set_cons_succ]
      refine wpHK_pure (i := 6) (oi := Oper.mk (some 22) _ _ _ _ _) (v := ?_) rfl (by kernel_rfl) (by kernel_rfl) (by kernel_rfl) (fun _ _ _ h => h) (Or.inl ⟨by rfl, ?_⟩) ?_
      rotate_left
      · (intro w' _; go_simp; try with_reducible rfl)
      try simp only [Act.put, List.setIfInBounds_toArray, List.set_cons_zero, List.set_cons_succ]
      refine wpHK_pure (i := 7) (oi := Oper.mk (some 23) _ _ _ _ _) (v := ?_) rfl (by kernel_rfl) (by kernel_rfl) (by kernel_rfl) (fun _ _ _ h => h) (Or.inl ⟨by rfl, ?_⟩) ?_
      rotate_left
      · (intro w' _; go_simp; try with_reducible rfl)
      try simp only [Act.put, List.setIfInBounds_toArray, List.set_cons_zero, List.set_cons_succ]
      refine wpHK_pure (i := 11) (oi := Oper.mk (some 27) _ _ _ _ _) (v := ?_) rfl (by kernel_rfl) (by kernel_rfl) (by kernel_rfl) (fun _ _ _ h => h) (Or.inl ⟨by rfl, ?_⟩) ?_
      rotate_left
      · (intro w' _; go_simp; try with_reducible rfl)
      try simp only [Act.put, List.setIfInBounds_toArray, List.set_cons_zero, List.set_cons_succ]
      refine wpHK_pure (i := 12) (oi := Oper.mk (some 28) _ _ _ _ _) (v := ?_) rfl (by kernel_rfl) (by kernel_rfl) (by kernel_rfl) (fun _ _ _ h => h) (Or.inl ⟨by rfl, ?_⟩) ?_
      rotate_left
      · (intro w' _; go_simp; try with_reducible rfl)
      try simp only [Act.put, List.setIfInBounds_toArray, List.set_cons_zero, List.set_cons_succ]
      refine wpHK_take (i := 8) (oi := Oper.mk (some 24) _ _ _ _ _) (v := ?_) rfl (by kernel_rfl) (by kernel_rfl) (by kernel_rfl) (by kernel_rfl) (fun _ _ _ h => h) (Or.inl ⟨by rfl, ?_⟩) (by assumption) ?_
      rotate_left
      · (intro w' hSw; (try dsimp only at hSw); (obtain s1 := hSw); go_simp; try with_reducible rfl)
      try simp only [Act.put, List.setIfInBounds_toArray, List.set_cons_zero, List.set_cons_succ]
      refine wpHK_pure (i := 9) (oi := Oper.mk (some 25) _ _ _ _ _) (v := ?_) rfl (by kernel_rfl) (by kernel_rfl) (by kernel_rfl) (fun _ _ _ h => h) (Or.inl ⟨by rfl, ?_⟩) ?_
      rotate_left
      · (intro w' _; go_simp; try with_reducible rfl)
      try simp only [Act.put, List.setIfInBounds_toArray, List.set_cons_zero, List.set_cons_succ]
      refine wpHK_one (j := 3) (o := Oper.mk (some 19) _ _ _ _ _) rfl (by kernel_rfl) (fun K hK => ?_)
      go_simp
      refine (HR.out).mono ?_
      rintro e w9 ⟨rfl, rfl⟩
      refine hK.out _ _ c1 (fun _ => ?_)
      clear hK K hHeld
      have hHeld := c1
      try simp only [Act.put, List.setIfInBounds_toArray, List.set_cons_zero, List.set_cons_succ]
      refine wpHK_pure (i := 4) (oi := Oper.mk (some 20) _ _ _ _ _) (v := ?_) rfl (by kernel_rfl) (by kernel_rfl) (by kernel_rfl) (fun _ _ _ h => h) (Or.inl ⟨by rfl, ?_⟩) ?_
      rotate_left
      · (intro w' _; go_simp; try with_reducible rfl)
      try simp only [Act.put, List.setIfInBounds_toArray, List.set_cons_zero, List.set_cons_succ]
      refine wpHK_pure (i := 10) (oi := Oper.mk (some 26) _ _ _ _ _) (v := ?_) rfl (by kernel_rfl) (by kernel_rfl) (by kernel_rfl) (fun _ _ _ h => h) (Or.inl ⟨by rfl, ?_⟩) ?_
      rotate_left
      · (intro w' _; go_simp; try with_reducible rfl)
      try simp only [Act.put, List.setIfInBounds_toArray, List.set_cons_zero, List.set_cons_succ]
      refine wpHK_pure (i := 13) (oi := Oper.mk (some 29) _ _ _ _ _) (v := ?_) rfl (by kernel_rfl) (by kernel_rfl) (by kernel_rfl) (fun _ _ _ h => h) (Or.inl ⟨by rfl, ?_⟩) ?_
      rotate_left
      · (intro w' _; go_simp; try with_reducible rfl)
      try simp only [Act.put, List.setIfInBounds_toArray, List.set_cons_zero, List.set_cons_succ]
      refine wpHK_pure (i := 14) (oi := Oper.mk (some 7) _ _ _ _ _) (v := ?_) rfl (by kernel_rfl) (by kernel_rfl) (by kernel_rfl) (fun _ _ _ h => h) (Or.inl ⟨by rfl, ?_⟩) ?_
      rotate_left
      · (intro w' _; go_simp; try with_reducible rfl)
      try simp only [Act.put, List.setIfInBounds_toArray, List.set_cons_zero, List.set_cons_succ]
      refine wpHK_done (by kernel_rfl) ?_ _
      refine NoPanic.normal ?_
      have q6 : (((y : Int) * 4294967296 + (x : Int)) / 2 ^ S) % 4294967296 = (((x + 4294967296 * y) / 2 ^ S % 4294967296 : Nat) : Int) := down_q
      clear q2 q3 q4 q5 c1
      go_wp2_with (at_builtin; refine wpW_push (w := wr.drew) rfl (.tmp 30) (.tmp 34) rfl w.heap.size _ L (hown.drewN 1) rfl (y := (x + 4294967296 * y) / 2 ^ S % 4294967296) (by rw [← q6, Int.tmod_eq_emod_of_nonneg (Int.ediv_nonneg (by omega) (Int.le_of_lt (Int.pow_pos (by decide)))), Int.emod_emod]) rfl (by omega) hbel.size ?_; intro A2 n2 c2 W1 ho hkeep _)
      go_roundg (p - (t + 1))
      case measure => have := Hk.out; have := Hp.out.1; have := Hi.out; omega
      case rel =>
        refine ⟨A2, n2, c2, t + 1, i + 1, L ++ [(x + 4294967296 * y) / 2 ^ S % 4294967296], rfl, rfl, Lib.hid (by have := Hi.out; omega), rfl, by have := Hp.out.1; have := Hi.out; omega, ho, hkeep w hbel.drew, ?_⟩
        have hl := hL.out
        refine ⟨by rw [List.length_append, hl.1]; rfl, wd_append.2 ⟨hl.2.1, wd_cons.2 ⟨Nat.mod_lt _ (by decide), wd_nil⟩⟩, ?_⟩
        have h3 := hl.2.2
        rw [E1.out.2.1] at h3
        rw [val_snoc, hl.1, E1.out.1, ← E1.out.2.2, Nat.pow_succ, HS.out]
        exact right_step h3 (by omega) w1
    · have hi' : t = p := by have := Hp.out.1; have := Hi.out; omega
      subst hi'
      have hL1 := hL.out.1
      have hz : val L = val la / 2 ^ n := by
        have h3 := hL.out.2.2
        rw [List.take_of_length_le (by rw [← Hp.out.2.1]; exact Nat.le_refl _), at_end (i := t) (by rw [← Hp.out.2.1]; exact Nat.le_refl _), Nat.zero_mod, Nat.mul_zero, Nat.add_zero] at h3
        rw [Hv.out, ← right_end h3 (Nat.mod_lt _ (Nat.two_pow_pos _))]
      have HT := Lib.hid (rcut_any hown.reads hown.len.1 hown.len.2.1 hown.len.2.2 hL.out.2.1)
      have H3 := Lib.hid hz
      have Ho := Lib.hid hown
      have Hw := Lib.hid hL.out.2.1
      have him : (m : Int) ≤ (i : Int) := by omega
      clear hL1 hz H1 hown
      go_wp2_with (go_at_call 112; refine HT.out.mono ?_; rintro e w' ⟨q, rfl, hq, rfl⟩; have Hq := Lib.hid hq; clear hq)
      go_ret
      have hwt := (wds_take _ _ rfl Hw.out).2
      have hn2 := Ho.out.len
      refine ⟨_, _, _, rfl, by rw [← H3.out]; exact Hq.out, ?_, hn2.2.2, by rw [← H3.out]; exact reads_cut Ho.out.reads Hw.out, hbel⟩
      have := Hq.out
      omega
end Go.Proofs.YtebpggfccljagaaGreatDoor

/- The reference's fits. -/
namespace Go.Proofs.YtebpggfccljagaaGreatDoor
open Go.RowKit
open Wh
set_option linter.unusedSimpArgs false
set_option linter.unusedVariables false

theorem reads_from {w : World} {g B j : Nat} {l : List Nat} (h : Blk w g 163 (wcells l)) (hB : g < B) : ReadsW w B (some ⟨g, j, none⟩) (l.drop j) := by
  refine ⟨⟨by simp, fun _ => ⟨_, rfl, hB, fun i u hu => ?_⟩⟩, fun _ => ⟨_, _, _, rfl, h⟩⟩
  have := h.cell (j + i)
  rw [wcells_get] at this
  rw [List.getElem?_map, List.getElem?_drop] at hu
  rw [hu] at this
  rw [← this]
  unfold Addr.add
  split
  · rename_i h0; subst h0; rfl
  · rfl
theorem cmpN_nonpos {a b : Nat} : decide (cmpN a b ≤ 0) = decide (a ≤ b) := by
  unfold cmpN
  by_cases h1 : a < b
  · rw [if_pos h1, decide_eq_true (show a ≤ b by omega)]; rfl
  · by_cases h2 : b < a
    · rw [if_neg h1, if_pos h2, decide_eq_false (show ¬ a ≤ b by omega)]; rfl
    · rw [if_neg h1, if_neg h2, decide_eq_true (show a ≤ b by omega)]; rfl
theorem mul_len {x V m : Nat} (hx : x < 4294967296) (hm : (wds V).length ≤ m) : (wds (x * V)).length ≤ m + 1 := by
  refine len_wds ?_
  rw [Nat.pow_succ, Nat.mul_comm]
  exact Nat.mul_lt_mul_of_lt_of_le (lt_of_len hm) (Nat.le_of_lt hx) (by decide)
theorem val_single (x : Nat) : val [x] = x := by rw [val_cons, val_nil, Nat.mul_zero, Nat.add_zero]
set_option maxRecDepth 100000 in
set_option maxHeartbeats 4000000 in
theorem rfits_any {w : World} {g N m d j x V : Nat} {C : Option Addr} {L : List Nat} (hblk : Blk w g 163 (wcells L)) (hv : ReadsW w w.heap.size C (wds V)) (hN : N = L.length) (hm : m = (wds V).length) (hj : j + m + 1 ≤ N) (hw : Wd L) (hx : x ≤ 4294967295) (hNl : N ≤ 1000000000) :
    Calls Tryz.prog 171 #[.slice (some ⟨g, 0, none⟩) N N, .slice C m d, .int .i64 (j : Int), .int .u64 (x : Int)] w (Calm w (.bool (decide (x * V ≤ val ((L.drop j).take (m + 1)))))) := by
  have hw1 : Wd [x] := wd_cons.2 ⟨by omega, wd_nil⟩
  have hP := rproduct_any (reads_blk (Blk.new w 163 (wcells [x])) (Nat.lt_succ_self _)) (hv.alloc (Nat.le_refl _) (.cells (wcells [x]) 163) |>.more (Nat.le_succ _)) (by simp) (n := 1) (m := m) (c := 1) (d := d) rfl hm (by omega) (by omega) hw1 (wd_w V)
  rw [val_w, val_single] at hP
  have HP := Lib.hid hP
  have Hh := Lib.hid (And.intro hblk (And.intro hN (And.intro hm hw)))
  clear hP hw1 hblk hN hm hw hv
  go_enter Tryz.func171, Tryz.ntmps171
  go_wp2_with fail
  refine HP.out.mono ?_
  rintro e w2 ⟨A2, n2, c2, rfl, hn2, hc2a, hc2b, hr2, hb2⟩
  have hblk2 := (Hh.out.1.alloc (.cells (wcells [x]) 163)).below hb2 (by have := Hh.out.1.lt; simp; omega)
  have hb0 := (new_below w (.cells (wcells [x]) 163)).trans (hb2.mono (by simp))
  obtain ⟨M, hM⟩ : ∃ M, M = (L.drop j).take (m + 1) := ⟨_, rfl⟩
  have hrM : ReadsW w2 w2.heap.size (some ⟨g, j, none⟩) M := by rw [hM]; exact (reads_from hblk2 hblk2.lt).take _
  have hwM : Wd M := by rw [hM]; exact wd_take (wd_drop Hh.out.2.2.2 _) _
  have hlM : j + m + 1 - j = M.length := by rw [hM, List.length_take, List.length_drop]; have := Hh.out.2.1; omega
  have hC := rcut_any hrM (c := N - j) hlM (by omega) (by omega) hwM
  have hrc := reads_cut hrM hwM
  have HM := Lib.hid hM
  have hU := fun (n3 : Nat) (h3 : n3 = (wds (val M)).length) (hl3 : n3 ≤ 1000000000) => runder_any (c := c2) (d := N - j) hr2 hrc hn2.out h3 (by have := hn2.out; have := mul_len (x := x) (V := V) (m := m) (by omega) (by rw [Hh.out.2.2.1]; exact Nat.le_refl _); omega) (by omega)
  have hlw := (wds_take _ _ rfl hwM).2
  have Hm := Lib.hid (And.intro hlw hlM)
  have HU := Lib.hid hU
  have HC := Lib.hid hC
  have Hb0 := Lib.hid hb0
  clear hU hC hrc hrM hwM hlM hM hblk2 hb0 hb2 hr2 hn2 hlw
  go_wp2_with fail
  refine HC.out.mono ?_
  rintro e w3 ⟨m3, rfl, hm3, rfl⟩
  have HU2 := Lib.hid (HU.out m3 hm3 (by have := Hm.out; omega))
  clear hm3
  go_wp2_with fail
  refine HU2.out.mono ?_
  rintro e w4 ⟨q, rfl, rfl⟩
  go_wp2_with fail
  go_ret
  exact ⟨by rw [← HM.out]; exact congrArg (fun b => Ending.returned (.bool b)) cmpN_nonpos, below_drewN Hb0.out _⟩
end Go.Proofs.YtebpggfccljagaaGreatDoor

/- The reference's Plus, Minus, Times, Cmp (printed by gen_rops.py). -/
namespace Go.Proofs.YtebpggfccljagaaGreatDoor
open Go.RowKit
open Wh
set_option linter.unusedSimpArgs false

theorem Env.set_ {w0 W : World} {l : List (Nat × TypeId × Array Value)} (h : Env w0 W l) {g j : Nat} (v : Value) (hg : w0.heap.size ≤ g) (hne : ∀ x ∈ l, x.1 ≠ g) : Env w0 (W.setCell ⟨g, j, none⟩ v) l :=
  ⟨h.1.setCell hg _, fun x hx => (h.2 x hx).far (p := ⟨g, j, none⟩) (hne x hx) v⟩
end Go.Proofs.YtebpggfccljagaaGreatDoor

/- The reference's bits, Bits, Bit, Small, Of. -/
namespace Go.Proofs.YtebpggfccljagaaGreatDoor
open Go.RowKit
open Wh
set_option linter.unusedSimpArgs false

theorem bl_half {x : Nat} (h : 0 < x) : bl x = bl (x / 2) + 1 := by
  have h1 := bl_le h
  have h2 := lt_bl x
  have h0 : 0 < bl x := by
    rcases Nat.eq_zero_or_pos (bl x) with h0 | h0
    · rw [h0] at h2; omega
    · exact h0
  obtain ⟨L, hL⟩ : ∃ L, bl x = L + 1 := ⟨bl x - 1, by omega⟩
  rw [hL, Nat.add_sub_cancel] at h1
  rw [hL, Nat.pow_succ] at h2
  rw [hL]
  rcases Nat.eq_zero_or_pos L with h3 | h3
  · subst h3
    have : x / 2 = 0 := by omega
    rw [this, bl_zero]
  · obtain ⟨M, rfl⟩ : ∃ M, L = M + 1 := ⟨L - 1, by omega⟩
    rw [Nat.pow_succ] at h1 h2
    rw [bl_eq (m := x / 2) (L := M) (by omega) (by rw [Nat.pow_succ]; omega)]
theorem bl_head {m p t : Nat} (hl : (wds m).length = p + 1) (ht : at_ (wds m) p = t) : bl m = 32 * p + bl t := by
  have htp : 0 < t := by rw [← ht]; exact last_pos hl
  have e := top_one (l := wds m) (p := p) hl
  rw [at_get (by omega)] at ht
  rw [val_w, ht] at e
  have hlo := low_lt (wd_w m) (p := p) (by omega)
  have hB : (4294967296 : Nat) ^ p = 2 ^ (32 * p) := by rw [show (4294967296 : Nat) = 2 ^ 32 by decide, ← Nat.pow_mul]
  rw [hB] at e hlo
  have h1 := bl_le htp
  have h2 := lt_bl t
  have h0 : 0 < bl t := by
    rcases Nat.eq_zero_or_pos (bl t) with h0 | h0
    · rw [h0] at h2; omega
    · exact h0
  obtain ⟨L, hL⟩ : ∃ L, bl t = L + 1 := ⟨bl t - 1, by omega⟩
  rw [hL, Nat.add_sub_cancel] at h1
  rw [hL] at h2
  rw [hL, bl_eq (m := m) (L := 32 * p + L) ?_ ?_]
  · omega
  · rw [Nat.pow_add]
    have h3 : 2 ^ (32 * p) * 2 ^ L ≤ 2 ^ (32 * p) * t := Nat.mul_le_mul_left _ h1
    rw [Nat.mul_comm _ t] at h3
    omega
  · rw [show 32 * p + L + 1 = 32 * p + (L + 1) by omega, Nat.pow_add]
    have h3 : 2 ^ (32 * p) * (t + 1) ≤ 2 ^ (32 * p) * 2 ^ (L + 1) := Nat.mul_le_mul_left _ h2
    rw [Nat.mul_comm _ (t + 1), Nat.add_mul, Nat.one_mul] at h3
    omega

set_option maxRecDepth 100000 in
set_option maxHeartbeats 2000000 in
theorem rbits_any {w : World} {B n c m : Nat} {A : Option Addr} (h : ReadsW w B A (wds m)) (hn : n = (wds m).length) (hnl : n ≤ 100000000) :
    Calls Tryz.prog 169 #[.slice A n c] w (fun e w' => e = .returned (.int .i64 ((bl m : Nat) : Int)) ∧ w = w') := by
  rcases Nat.eq_zero_or_pos n with h0 | h0
  · have hm : m = 0 := by
      have h1 : wds m = [] := List.eq_nil_of_length_eq_zero (by omega)
      rw [← val_w m, h1]; rfl
    rw [hm, bl_zero]
    clear h hn hnl hm
    subst h0
    go_enter Tryz.func169, Tryz.ntmps169
    go_wp2
    go_ret
    exact ⟨rfl, rfl⟩
  · obtain ⟨p, rfl⟩ : ∃ p, n = p + 1 := ⟨n - 1, by omega⟩
    obtain ⟨ad, rfl, hb1, c0⟩ := h.at_ (k := p) (by omega)
    rw [← at_get] at c0
    have hbm := bl_head hn.symm rfl
    have ht := at_lt (wd_w m) p
    generalize at_ (wds m) p = t at c0 hbm ht
    have hbt : bl t ≤ 32 := bl_lt.2 ht
    have ht2 : t ≤ 4294967295 := by omega
    rw [hbm]
    clear h hn hbm ht h0
    go_enter Tryz.func169, Tryz.ntmps169
    go_wp2_with fail
    go_loopg [3, 4] t (fun k nv xv wr => ∃ (j x : Nat), nv = .int .i64 (32 * (p : Int) + (j : Int)) ∧ xv = .int .u32 (x : Int) ∧ k = x ∧ x ≤ 4294967295 ∧ j ≤ 32 ∧ w = wr ∧ Hid (j + bl x = bl t))
    case atStart => exact ⟨0, t, by simp, rfl, rfl, ht2, by omega, rfl, Lib.hid (Nat.zero_add _)⟩
    case round =>
      obtain ⟨j, x, rfl, rfl, hk, hx, hj, rfl, hjx⟩ := hrel
      have Hk := Lib.hid hk
      clear hk
      rcases Nat.eq_zero_or_pos x with hx0 | hx0
      · subst hx0
        clear hx
        go_wp2_with fail
        go_ret
        refine ⟨?_, rfl⟩
        have h1 := hjx.out
        rw [bl_zero] at h1
        exact congrArg (fun v => Ending.returned (.int .i64 v)) (show 32 * (p : Int) + (j : Int) = ((32 * p + bl t : Nat) : Int) by omega)
      · have hxi : (0 : Int) < (x : Int) := by omega
        have hd : decide ((0 : Int) < (x : Int)) = true := decide_eq_true hxi
        have hh := bl_half hx0
        have Hh := Lib.hid hh
        have hj2 : j + 1 ≤ 32 := by have := hjx.out; omega
        clear hh
        go_wp2_with fail
        go_roundg (x / 2)
        case measure => have := Hk.out; omega
        case rel =>
          exact ⟨j + 1, x / 2, by first | rfl | (congr 1; omega), rfl, rfl, by omega, hj2, rfl, by show _ = _; have := hjx.out; have := Hh.out; omega⟩
set_option maxRecDepth 100000 in
set_option maxHeartbeats 2000000 in
theorem rOf_any {w : World} {n : Int} (h1 : -9223372036854775808 ≤ n) (h2 : n ≤ 9223372036854775807) :
    Calls Tryz.prog 97 #[.int .i64 n] w (Calm w (enc n)) := by
  obtain ⟨m, hm⟩ : ∃ m, m = n.natAbs := ⟨_, rfl⟩
  have hmle : m ≤ 9223372036854775808 := by omega
  obtain ⟨s, b, he⟩ : ∃ s b, enc n = .agg #[.bool s, .string b] := ⟨_, _, rfl⟩
  rw [he]
  obtain ⟨y, hy⟩ : ∃ y, y = m / 4294967296 := ⟨_, rfl⟩
  obtain ⟨x, hx⟩ : ∃ x, x = m % 4294967296 := ⟨_, rfl⟩
  have hv : val [x, y] = m := by rw [val_cons, val_cons, val_nil]; omega
  have hwd : Wd [x, y] := by rw [wd_cons, wd_cons]; exact ⟨by omega, by omega, wd_nil⟩
  have HM := Lib.hid (fun W : World => made_any (w := W.alloc (.cells (wcells [x, y]) 163)) (neg := decide (n < 0)) (reads_blk (Blk.new W 163 (wcells [x, y])) (B := W.heap.size + 1) (by omega)) (by simp) rfl (Nat.le_refl _) (by simp) (by simp) hwd)
  rw [hv, hm, sgn_of, he] at HM
  have Hxy := Lib.hid (And.intro hx hy)
  have hx2 : x ≤ 4294967295 := by omega
  have hy2 : y ≤ 2147483648 := by omega
  have E0 := Lib.hid (Env.new (Env.nil w) 34 #[.bool false, .string ⟨#[]⟩])
  clear hv hwd hx hy he
  by_cases hn : n < 0
  · have hd : decide (n < 0) = true := decide_eq_true hn
    have e1 : IntKind.u64.wrap n = n + 18446744073709551616 := by rw [IntKind.wrap_u64]; omega
    have e2 : IntKind.u64.wrap (-(n + 18446744073709551616)) = (m : Int) := by rw [IntKind.wrap_u64]; omega
    rw [hd] at HM
    clear hm
    go_enter Tryz.func97, Tryz.ntmps97
    go_upto_region 4 with fail
    generalize (w.alloc (.cells #[.bool false, .string ⟨#[]⟩] 34)) = W1 at E0 ⊢
    go_wp2_with fail
    rw [show (m : Int) % 4294967296 = (x : Int) by have := Hxy.out.1; omega, show (m : Int) / 4294967296 = (y : Int) by have := Hxy.out.2; omega]
    refine (HM.out W1).mono ?_
    rintro e w2 ⟨rfl, h2⟩
    have E2 := Lib.hid ((Env.other E0.out (.cells (wcells [x, y]) 163)).call h2)
    clear h2
    have n4 := Env.at_ E2.out 0 rfl
    have y0 := n4.cell 0
    have y1 := n4.cell 1
    have y2 := n4.frozen 0
    have y3 := n4.frozen 1
    simp at y0 y1
    have n5 := (n4.set_ 0 (.bool s)).set_ 1 (.string b)
    have d0 := n5.cell 0
    have d1 := n5.cell 1
    simp at d0 d1
    have D := Lib.hid (And.intro d0 d1)
    clear n4 n5 d0 d1
    go_wp2_with fail
    refine bodyPost_ret (v := .agg #[.bool s, .string b]) (by simp [results, Tryz.results97, go_sem, D.out.1, D.out.2]) rfl ?_
    exact ⟨rfl, ((E2.out.1).setCell (Nat.le_refl _) _).setCell (Nat.le_refl _) _⟩
  · have hd : decide (n < 0) = false := decide_eq_false hn
    have e1 : IntKind.u64.wrap n = (m : Int) := by rw [IntKind.wrap_u64]; omega
    rw [hd] at HM
    clear hm
    go_enter Tryz.func97, Tryz.ntmps97
    go_upto_region 4 with fail
    generalize (w.alloc (.cells #[.bool false, .string ⟨#[]⟩] 34)) = W1 at E0 ⊢
    go_wp2_with fail
    rw [show (m : Int) % 4294967296 = (x : Int) by have := Hxy.out.1; omega, show (m : Int) / 4294967296 = (y : Int) by have := Hxy.out.2; omega]
    refine (HM.out W1).mono ?_
    rintro e w2 ⟨rfl, h2⟩
    have E2 := Lib.hid ((Env.other E0.out (.cells (wcells [x, y]) 163)).call h2)
    clear h2
    have n4 := Env.at_ E2.out 0 rfl
    have y0 := n4.cell 0
    have y1 := n4.cell 1
    have y2 := n4.frozen 0
    have y3 := n4.frozen 1
    simp at y0 y1
    have n5 := (n4.set_ 0 (.bool s)).set_ 1 (.string b)
    have d0 := n5.cell 0
    have d1 := n5.cell 1
    simp at d0 d1
    have D := Lib.hid (And.intro d0 d1)
    clear n4 n5 d0 d1
    go_wp2_with fail
    refine bodyPost_ret (v := .agg #[.bool s, .string b]) (by simp [results, Tryz.results97, go_sem, D.out.1, D.out.2]) rfl ?_
    exact ⟨rfl, ((E2.out.1).setCell (Nat.le_refl _) _).setCell (Nat.le_refl _) _⟩
end Go.Proofs.YtebpggfccljagaaGreatDoor

/- The reference's divided: plain laws, the two short ways. -/
namespace Go.Proofs.YtebpggfccljagaaGreatDoor
open Go.RowKit
open Wh
set_option linter.unusedSimpArgs false
set_option linter.unusedVariables false

theorem word_pow (k : Nat) : (4294967296 : Nat) ^ k = 2 ^ (32 * k) := by rw [show (4294967296 : Nat) = 2 ^ 32 by decide, ← Nat.pow_mul]
theorem norm_tail {V p : Nat} (hge : 2147483648 * 4294967296 ^ (p + 1) ≤ V) (hlt : V < 4294967296 ^ (p + 2)) : (wds V).length = p + 2 ∧ 2147483648 ≤ at_ (wds V) (p + 1) := by
  have hlen : (wds V).length = p + 2 := by
    have h3 := len_wds hlt
    rcases Nat.lt_or_ge (wds V).length (p + 2) with h4 | h4
    · exfalso
      have h5 := lt_of_len (n := V) (k := p + 1) (by omega)
      have h6 : 1 * 4294967296 ^ (p + 1) ≤ 2147483648 * 4294967296 ^ (p + 1) := Nat.mul_le_mul_right _ (by decide)
      omega
    · omega
  refine ⟨hlen, ?_⟩
  rw [at_get (by omega)]
  have e2 := top_one (l := wds V) (p := p + 1) hlen
  rw [val_w] at e2
  have hlo2 := low_lt (wd_w V) (p := p + 1) (by omega)
  generalize (wds V)[p + 1]'(by omega) = x at *
  have h3 : 4294967296 ^ (p + 1) * 2147483648 < 4294967296 ^ (p + 1) * (x + 1) := by
    rw [Nat.mul_add, Nat.mul_one, Nat.mul_comm, Nat.mul_comm _ x]; omega
  have := Nat.lt_of_mul_lt_mul_left h3
  omega
theorem norm_bl {b p : Nat} (hl : (wds b).length = p + 2) : ∃ y, bl b + y = 32 * (p + 2) ∧ y ≤ 31 ∧ 2147483648 * 4294967296 ^ (p + 1) ≤ b * 2 ^ y ∧ b * 2 ^ y < 4294967296 ^ (p + 2) := by
  have h1 := lt_of_len (n := b) (k := p + 2) (by omega)
  have h2 : 4294967296 ^ (p + 1) ≤ b := by
    rcases Nat.lt_or_ge b (4294967296 ^ (p + 1)) with h | h
    · have := len_wds h; omega
    · exact h
  rw [word_pow] at h1 h2
  have h3 := bl_lt.2 h1
  have h4 : ¬ bl b ≤ 32 * (p + 1) := fun h => by have := bl_lt.1 h; omega
  have h5 := bl_lt.1 (Nat.le_refl (bl b))
  have h6 : 2 ^ (bl b - 1) ≤ b := by
    rcases Nat.lt_or_ge b (2 ^ (bl b - 1)) with h | h
    · have := bl_lt.2 h; omega
    · exact h
  refine ⟨32 * (p + 2) - bl b, by omega, by omega, ?_, ?_⟩
  · have h7 := Nat.mul_le_mul_right (2 ^ (32 * (p + 2) - bl b)) h6
    rw [← Nat.pow_add, show bl b - 1 + (32 * (p + 2) - bl b) = 31 + 32 * (p + 1) by omega, Nat.pow_add, show (2 : Nat) ^ 31 = 2147483648 by decide] at h7
    rw [word_pow]
    exact h7
  · have h7 := Nat.mul_lt_mul_of_pos_right h5 (Nat.two_pow_pos (32 * (p + 2) - bl b))
    rw [← Nat.pow_add, show bl b + (32 * (p + 2) - bl b) = 32 * (p + 2) by omega] at h7
    rw [word_pow]
    exact h7
/-- the first guess: no less than the digit -/
theorem first_guess {M lv : List Nat} {p T : Nat} (hw : Wd M) (hwv : Wd lv) (hM : M.length = p + 3) (hl : lv.length = p + 2) (h0 : 0 < lv[p + 1]) (hT : T = M[p + 2] * 4294967296 + M[p + 1]) (hU : val M < 4294967296 * val lv) :
    val M < (min (T / lv[p + 1]) 4294967295 + 1) * val lv := by
  have h := guess_start (tops_of hw hwv hM hl h0 hU)
  have h1 := h.2
  rw [← hT] at h1
  rcases Nat.le_total (T / lv[p + 1]) 4294967295 with h2 | h2
  · rw [Nat.min_eq_left h2]; exact h1
  · rw [Nat.min_eq_right h2]; exact hU
theorem guess_less {U V g : Nat} (_h : U < (g + 1) * V) (hn : ¬ g * V ≤ U) : 0 < g ∧ U < (g - 1 + 1) * V := by
  have hg : 0 < g := by
    rcases Nat.eq_zero_or_pos g with h0 | h0
    · exfalso; apply hn; rw [h0, Nat.zero_mul]; exact Nat.zero_le _
    · exact h0
  exact ⟨hg, by rw [show g - 1 + 1 = g by omega]; omega⟩
/-- a word taken off -/
theorem off_word {u cc b : Nat} (hu : u < 4294967296) (hb : b ≤ 1) (_hcc : cc ≤ 18446744073709551615) :
    ∃ X b' : Nat, X = 4294967296 + u - cc % 4294967296 - b ∧ X ≤ 8589934591 ∧ b' = 1 - X / 4294967296 ∧ b' ≤ 1 ∧ X / 4294967296 ≤ 1 ∧ u + 4294967296 * b' = X % 4294967296 + (cc % 4294967296 + b) := by
  refine ⟨_, _, rfl, by omega, rfl, by omega, by omega, by omega⟩
/-- when all are taken off -/
theorem taken_end {M M1 lv : List Nat} {q c b n : Nat} (h : Taken M M1 lv q (n + 1) c b) (hn : n = lv.length) (hM : M.length = n + 1) (hb : b ≤ 1) (h1 : q * val lv ≤ val M) (h2 : val M < (q + 1) * val lv) : M1.length = n + 1 ∧ Wd M1 ∧ val M1 = val M % val lv ∧ q = val M / val lv := by
  obtain ⟨hl1, hwm1, _, hc0, hval⟩ := h
  have hc00 : c = 0 := hc0 (by omega)
  rw [hc00, Nat.zero_add, List.take_of_length_le (by omega), List.take_of_length_le (l := lv) (by omega), List.take_of_length_le (l := M) (by omega)] at hval
  have hO : val M1 < 4294967296 ^ (n + 1) := by have := val_lt hwm1; rwa [hl1, hM] at this
  have hb0 := (take_all hval hO hb).2 h1
  rw [hb0, Nat.mul_zero, Nat.add_zero] at hval
  rw [Nat.add_mul, Nat.one_mul] at h2
  have e := quot_of (q := q) (r := val M1) (a := val M) (b := val lv) (by omega) (by omega)
  exact ⟨by omega, hwm1, e.2.symm, e.1.symm⟩

set_option maxRecDepth 100000 in
set_option maxHeartbeats 2000000 in
theorem rdivided_lt {w : World} {B n m c d a b : Nat} {A C : Option Addr} (h1 : ReadsW w B A (wds a)) (h2 : ReadsW w B C (wds b)) (hB : B ≤ w.heap.size) (hn : n = (wds a).length) (hm : m = (wds b).length) (hnc : n ≤ c) (hcl : c ≤ 9223372036854775807) (hnl : n ≤ 1000000000) (hml : m ≤ 1000000000) (hab : a < b) :
    Calls Tryz.prog 163 #[.slice A n c, .slice C m d] w (Div2 w (a / b) (a % b)) := by
  have HU := Lib.hid (runder_any h1 h2 (c := c) (d := d) hn hm (by omega) (by omega))
  obtain ⟨x, hx, hx0⟩ : ∃ x : Int, cmpN a b = x ∧ x < 0 := ⟨-1, cmpN_lt hab, by omega⟩
  rw [hx] at HU
  have Hn := Lib.hid hn
  have Hab := Lib.hid (And.intro (Nat.div_eq_of_lt hab) (Nat.mod_eq_of_lt hab))
  clear hn hab hx hm
  go_enter Tryz.func163, Tryz.ntmps163
  go_wp2_with (go_at_call 168; refine HU.out.mono ?_; rintro e w' ⟨q, rfl, rfl⟩)
  go_ret2
  rw [Hab.out.1, Hab.out.2]
  exact ⟨_, _, _, _, _, _, rfl, ⟨by rw [wds_zero]; rfl, Hn.out⟩, Nat.le_refl _, hnc, by omega, hcl, by rw [wds_zero]; exact ReadsW.none_ _ _ _, (h1.more hB).drewN q, below_drewN (Below.refl _ _) _⟩
set_option maxRecDepth 100000 in
set_option maxHeartbeats 2000000 in
theorem rdivided_one {w : World} {B n m c d a b : Nat} {A C : Option Addr} (h1 : ReadsW w B A (wds a)) (h2 : ReadsW w B C (wds b)) (hB : B ≤ w.heap.size) (hn : n = (wds a).length) (hm : m = (wds b).length) (hnl : n ≤ 1000000000) (hml : m ≤ 1000000000) (hab : b ≤ a) (hm1 : m = 1) :
    Calls Tryz.prog 163 #[.slice A n c, .slice C m d] w (Div2 w (a / b) (a % b)) := by
  have hu : ∃ x : Int, cmpN a b = x ∧ 0 ≤ x := by
    rcases Nat.lt_or_ge b a with h | h
    · exact ⟨1, cmpN_gt h, by omega⟩
    · exact ⟨0, cmpN_eq (by omega), by omega⟩
  obtain ⟨x, hx, hx0⟩ := hu
  have HU := Lib.hid (runder_any h1 h2 (c := c) (d := d) hn hm (by omega) (by omega))
  rw [hx] at HU
  have hb : wds b = [b] := by
    have hl : (wds b).length = 1 := by omega
    have hlt : b < 4294967296 := by have := lt_of_len (n := b) (k := 1) (by omega); omega
    have hp : 0 < b := by
      rcases Nat.eq_zero_or_pos b with h0 | h0
      · rw [h0, wds_zero] at hl; cases hl
      · exact h0
    rw [wds_pos hp, Nat.mod_eq_of_lt hlt, Nat.div_eq_of_lt hlt, wds_zero]
  have hwd := wd_w b
  rw [hb] at h2 hwd
  have hbl : b < 4294967296 := hwd b (by simp)
  have hp : 0 < b := by
    rcases Nat.eq_zero_or_pos b with h0 | h0
    · rw [h0, wds_zero] at hb; cases hb
    · exact h0
  obtain ⟨bd, rfl, hb1, c1⟩ := h2.at_ (k := 0) (by simp)
  have c1' : w.cell? bd = some (.int .u32 (b : Int)) := by
    have : bd.add 0 = bd := by unfold Addr.add; rw [if_pos rfl]
    rw [this] at c1
    exact c1
  have hs := fun q => rsmall_any (h1.drewN q) (c := c) (d := b) hB hn (by omega) (wd_w a) hp hbl
  simp only [val_w] at hs
  obtain ⟨r, hr⟩ : ∃ r, r = a % b := ⟨_, rfl⟩
  rw [← hr] at hs
  have hrb : r < b := by rw [hr]; exact Nat.mod_lt _ hp
  have hrb2 : r ≤ 4294967295 := by omega
  have HS := Lib.hid hs
  have Hr := Lib.hid hr
  clear hs hr
  have Hn := Lib.hid hn
  subst hm1
  clear hn h1 h2 c1 hx hb hm
  go_enter Tryz.func163, Tryz.ntmps163
  go_wp2_with (first | (go_at_call 168; refine HU.out.mono ?_; rintro e w' ⟨q, rfl, rfl⟩) | (go_at_call 127; refine (HS.out _).mono ?_; rintro e w1 ⟨A1, n1, c1, rfl, hn1, hc1, hc2, hr1, hbl1, _⟩; have Hn1 := Lib.hid (And.intro hn1 (And.intro hr1 hbl1)); clear hn1 hr1 hbl1))
  have hbk := Blk.new w1 163 (wcells [r])
  have hwr : Wd [r] := wd_cons.2 ⟨by omega, wd_nil⟩
  have hcut := rcut_any (reads_blk hbk hbk.lt) (n := 1) (c := 1) rfl (by omega) (by omega) hwr
  have Hc := Lib.hid hcut
  have Hb := Lib.hid (And.intro hbk hwr)
  clear hcut hbk hwr
  go_wp2_with (go_at_call 112; refine Hc.out.mono ?_; rintro e w' ⟨q2, rfl, hq, rfl⟩; have Hq := Lib.hid hq; clear hq)
  go_ret2
  have hv1 : val [r] = r := by rw [val_cons, val_nil, Nat.mul_zero, Nat.add_zero]
  have hlen : (wds r).length ≤ 1 := by have := (wds_take 1 [r] rfl Hb.out.2).2; rw [hv1] at this; exact this
  have hq2 := Hq.out
  rw [hv1] at hq2
  refine ⟨_, _, _, _, _, _, rfl, ⟨Hn1.out.1, by rw [← Hr.out]; exact hq2⟩, hc1, by omega, by omega, by omega, (Hn1.out.2.1.alloc (Nat.le_refl _) _).more (by simp), ?_, ?_⟩
  · rw [← Hr.out]
    have := reads_cut (reads_blk Hb.out.1 Hb.out.1.lt) Hb.out.2
    rw [hv1] at this
    exact this
  · exact (undrewN Hn1.out.2.2).alloc (by have := (undrewN Hn1.out.2.2).size; exact this) _
end Go.Proofs.YtebpggfccljagaaGreatDoor

/- The reference's divided: the long way. -/
namespace Go.Proofs.YtebpggfccljagaaGreatDoor
open Go.RowKit
open Wh
set_option linter.unusedSimpArgs false
set_option linter.unusedVariables false

set_option maxRecDepth 100000 in
set_option maxHeartbeats 20000000 in
theorem rdivided_long {w : World} {B n m c d a b p : Nat} {A C : Option Addr} (h1 : ReadsW w B A (wds a)) (h2 : ReadsW w B C (wds b)) (hB : B ≤ w.heap.size) (hn : n = (wds a).length) (hm : m = (wds b).length) (hnl : n ≤ 30000000) (hml : m ≤ 30000000) (hab : b ≤ a) (hm1 : m = p + 2) :
    Calls Tryz.prog 163 #[.slice A n c, .slice C m d] w (Div2 w (a / b) (a % b)) := by
  have hu : ∃ x : Int, cmpN a b = x ∧ 0 ≤ x := by
    rcases Nat.lt_or_ge b a with h | h
    · exact ⟨1, cmpN_gt h, by omega⟩
    · exact ⟨0, cmpN_eq (by omega), by omega⟩
  obtain ⟨x, hx, hx0⟩ := hu
  have HU := Lib.hid (runder_any h1 h2 (c := c) (d := d) hn hm (by omega) (by omega))
  rw [hx] at HU
  subst hm1
  obtain ⟨y, hy1, hy, hge, hlt⟩ := norm_bl hm.symm
  have hHB := fun q => rbits_any (w := w.drewN q) (c := d) (h2.drewN q) hm (by omega)
  obtain ⟨kb, hkb⟩ : ∃ kb, kb = bl b := ⟨_, rfl⟩
  simp only [← hkb] at hHB
  have hkb1 : 32 * ((p : Int) + 2) - (kb : Int) = (y : Int) := by omega
  have hkb2 : kb ≤ 1000000000 := by omega
  have HKB := Lib.hid hkb1
  have hnorm := norm_tail hge hlt
  have hl1 := fun q => rup_any (h2.drewN q) hB hm (c := d) (n := y) (by omega) (by omega) (wd_w b)
  simp only [val_w] at hl1
  obtain ⟨V, hV⟩ : ∃ V, V = b * 2 ^ y := ⟨_, rfl⟩
  rw [← hV] at hnorm hge hlt
  simp only [← hV] at hl1
  have HV := Lib.hid (And.intro hV (And.intro hnorm.1 (And.intro hge (And.intro hlt hnorm.2))))
  have HL1 := Lib.hid hl1
  have HBT := Lib.hid hHB
  have Hm := Lib.hid hm
  have Hn := Lib.hid hn
  clear hn hm hx hV hnorm hl1 hHB hkb1 hge hlt hkb hy1
  go_enter Tryz.func163, Tryz.ntmps163
  go_wp2_with (go_at_call 168; refine HU.out.mono ?_; rintro e w' ⟨q, rfl, rfl⟩)
  refine (HBT.out _).mono ?_
  rintro e w' ⟨rfl, rfl⟩
  go_wp2_with fail
  rw [HKB.out]
  refine (HL1.out _).mono ?_
  rintro e w1 ⟨Cv, n1, d1, rfl, hn1, hd1, hd2, hrv, hbv⟩
  obtain rfl : n1 = p + 2 := by have := hn1.out; rw [HV.out.2.1] at this; exact this
  have hmk : ∀ w : World, (Instr.makeSlice 149 (.int .i64 ((n : Int) + 2)) (.int .i64 ((n : Int) + 2))).run Tryz.prog w = .ok (.slice (some ⟨w.heap.size, 0, none⟩) (n + 2) (n + 2)) (w.alloc (.cells (wcells (List.replicate (n + 2) 0)) 163)) := fun w => by
    have := run_makeW (n + 2) (by omega) w
    exact this
  have hbv1 := undrewN hbv
  have hla := h1.below (hbv1.mono hB)
  have hsz1 := hbv1.size
  have hl2 := rup_any (hla.alloc (by omega) (.cells (wcells (List.replicate (n + 2) 0)) 163)) (by simp; omega) Hn.out (c := c) (n := y) (by omega) (by omega) (wd_w a)
  rw [val_w] at hl2
  have HL2 := Lib.hid hl2
  have Hbv := Lib.hid (And.intro hbv1 hla)
  clear hl2 hla hbv hbv1
  go_wp2_with fail
  refine HL2.out.mono ?_
  rintro e w3 ⟨A3, n3, c3, rfl, hn3, hc3a, hc3b, hra, hba⟩
  have hbk := (Blk.new w1 163 (wcells (List.replicate (n + 2) 0))).below hba (by simp)
  have hbk' : w3.heap[w1.heap.size]? = some (.cells ((List.replicate (n + 2) 0).map wv).toArray 163 (0, 0)) := hbk
  have hbw := (((Below.refl w1.heap.size w1).alloc (Nat.le_refl _) (.cells (wcells (List.replicate (n + 2) 0)) 163))).trans (hba.mono (by simp))
  have hlen2 := left_len (a := a) (y := y) (n := n) (by rw [Hn.out]; exact Nat.le_refl _) hy
  have hsz3 := hba.size
  obtain ⟨la2, hla2⟩ : ∃ la2, la2 = wds (a * 2 ^ y) := ⟨_, rfl⟩
  rw [← hla2] at hn3 hra hlen2
  have hwa2 : Wd la2 ∧ val la2 = a * 2 ^ y := by rw [hla2]; exact ⟨wd_w _, val_w _⟩
  have Hwa2 := Lib.hid hwa2
  have hn3' := hn3.out
  subst hn3'
  have Hbw := Lib.hid (And.intro hbw hbk')
  have Hra := Lib.hid hra
  clear hla2 hwa2 hbw hbk hbk' hra hba hn3
  have hcp1 : (la2.map wv).length = Nat.min la2.length (n + 2) := by rw [List.length_map]; exact (Nat.min_eq_left (Nat.le_succ_of_le hlen2)).symm
  have hcp2 : 0 < (la2.map wv).length → ∃ ad, A3 = some ad ∧ ∀ (j : Nat) (v : Value), (la2.map wv)[j]? = some v → w3.cell? (ad.add j) = some v := fun h0 => by
    obtain ⟨ad, e, _, hc⟩ := Hra.out.1.2 (by rwa [List.length_map] at h0)
    exact ⟨ad, e, hc⟩
  have hcp3 : 0 + (la2.map wv).length ≤ ((List.replicate (n + 2) 0).map wv).length := by simp; omega
  have Hcp := Lib.hid (And.intro hcp1 (And.intro hcp2 hcp3))
  clear hcp1 hcp2 hcp3
  have hmn : p + 2 ≤ n := by rw [Hn.out, Hm.out]; exact len_mono hab
  have hmk2 : ∀ w : World, (Instr.makeSlice 149 (.int .i64 ((n : Int) + 2 - ((p : Int) + 2))) (.int .i64 ((n : Int) + 2 - ((p : Int) + 2)))).run Tryz.prog w = .ok (.slice (some ⟨w.heap.size, 0, none⟩) (n - p) (n - p)) (w.alloc (.cells (wcells (List.replicate (n - p) 0)) 163)) := fun w => by
    have := run_makeW (n - p) (by omega) w
    rw [← this, show ((n - p : Nat) : Int) = (n : Int) + 2 - ((p : Int) + 2) by omega]
  go_wp2_with (refine wpList_copy_splice rfl (.tmp 55) (.tmp 58) 149 149 rfl 163 Tryz.underlying149 sizeW (some ⟨w1.heap.size, 0, none⟩) A3 (n + 2) (n + 2) la2.length c3 rfl rfl w1.heap.size 0 ((List.replicate (n + 2) 0).map wv) 163 Hbw.out.2 (la2.map wv) Hcp.out.1 (fun h0 => ⟨rfl, Hcp.out.2.1 h0⟩) Hcp.out.2.2 (wv_one _) w1.heap.size w1 Hbw.out.1 (Nat.le_refl _) ?_; intro w4 hu4 hb4; have Hb4 := Lib.hid hb4; have Hu4 := Lib.hid hu4; clear hb4 hu4)
  have hL0 : Blk w4 w1.heap.size 163 (wcells (la2 ++ List.replicate (n + 2 - la2.length) 0)) := by
    have := Hu4.out.out
    rw [splice_words] at this
    exact this
  have hwa := Hwa2.out
  have hlong := long_start (a := a) (b := b) (n := n + 1) (m := p + 1) (by_ := y) (L := la2 ++ List.replicate (n + 2 - la2.length) 0) (by rw [List.length_append, List.length_replicate]; omega) (wd_append.2 ⟨hwa.1, wd_zeros _⟩) (by rw [val_append, val_zeros, Nat.mul_zero, Nat.add_zero]; exact hwa.2)
    (Nat.lt_of_lt_of_le (lt_of_len (by rw [Hn.out]; exact Nat.le_refl _)) (Nat.pow_le_pow_right (by decide) (Nat.le_succ n))) hy (by omega) (by rw [← HV.out.1]; exact HV.out.2.2.1)
  rw [← HV.out.1, show n + 1 - (p + 1) = n - p by omega] at hlong
  have Hlong := Lib.hid hlong
  have Hblk := Lib.hid hL0
  have hbel4 := Hbv.out.1.trans (Hb4.out.mono hsz1)
  have Hbel4 := Lib.hid hbel4
  have hrv4 := (hrv.below Hb4.out)
  have hlt4 := hL0.lt
  have hV0 : 0 < V := by have := HV.out.2.2.1; have h0 : 0 < 4294967296 ^ (p + 1) := Nat.pow_pos (by decide); omega
  clear hlong hL0 hwa hbel4
  have hi1 : (0 : Int) ≤ (n : Int) + 2 - ((p : Int) + 2) := by omega
  go_loopg [13] (n - p) (fun k jv wr => ∃ L Q, jv = .int .i64 ((k : Int) - 1) ∧ k ≤ n - p ∧ Blk wr w1.heap.size 163 (wcells L) ∧ Blk wr w4.heap.size 163 (wcells Q) ∧ Below w.heap.size w wr ∧ ReadsW wr w1.heap.size Cv (wds V) ∧ Hid (Long (a * 2 ^ y) V (n + 1) (p + 2) k L Q))
  case atStart => exact ⟨_, _, by congr 1; omega, Nat.le_refl _, Hblk.out.alloc _, Blk.new _ _ _, Hbel4.out.alloc (by have := Hbel4.out.size; omega) _, hrv4.alloc (by omega) _, Hlong.out⟩
  case round =>
    obtain ⟨L, Q, rfl, hkl, hbu, hbq, hbel, hrvr, hLong⟩ := hrel
    by_cases h0 : 0 < gk
    · obtain ⟨j, rfl⟩ : ∃ j, gk = j + 1 := ⟨gk - 1, by omega⟩
      rw [show (((j + 1 : Nat) : Int) - 1) = (j : Int) by omega]
      have hjm : j + (p + 2) ≤ n + 1 := by omega
      have hLl := hLong.out.1
      have hLw := hLong.out.2.1
      obtain ⟨M, hM⟩ : ∃ M, M = (L.drop j).take (p + 3) := ⟨_, rfl⟩
      have hMl : M.length = p + 3 := by rw [hM, List.length_take, List.length_drop]; omega
      have hMw : Wd M := by rw [hM]; exact wd_take (wd_drop hLw j) _
      have hmid : MidW wr w1.heap.size (L.take j) M (L.drop (j + (p + 3))) := by
        unfold MidW
        rw [hM, ← List.drop_drop, List.take_append_drop, List.take_append_drop]
        exact hbu
      have hPl : j = (L.take j).length := by rw [List.length_take]; omega
      have hVm := HV.out.2.2.2.1
      have hmidv := long_mid hLong.out hVm hjm
      rw [show p + 2 + 1 = p + 3 from rfl, ← hM] at hmidv
      have hv1 := HV.out.2.2.2.2
      have hlvl := HV.out.2.1
      rw [at_get (by omega)] at hv1
      obtain ⟨T, hT⟩ : ∃ T, T = M[p + 2] * 4294967296 + M[p + 1] := ⟨_, rfl⟩
      have hfg := first_guess (p := p) hMw (wd_w V) hMl hlvl (by omega) hT (by rw [val_w]; exact hmidv.1)
      rw [val_w] at hfg
      obtain ⟨vd, rfl, hvb, cv1⟩ := hrvr.at_ (k := p + 1) (by omega)
      rw [add_pos (Nat.succ_ne_zero p)] at cv1
      have cu2 := hmid.cell hPl (i := p + 2) (by omega)
      have cu1 := hmid.cell hPl (i := p + 1) (by omega)
      have bu2 := wd_get hMw (p + 2) (by omega)
      have bu1 := wd_get hMw (p + 1) (by omega)
      have bv1 := wd_get (wd_w V) (p + 1) (by omega)
      generalize M[p + 2] = u2 at *
      generalize M[p + 1] = u1 at *
      generalize (wds V)[p + 1] = v1 at *
      have Hmid := Lib.hid (And.intro hM (And.intro hMl (And.intro hMw (And.intro hmid (And.intro hPl (And.intro hmidv hfg))))))
      have Hlv := Lib.hid (And.intro hlvl (And.intro hVm hrvr))
      clear hM hMl hMw hmid hPl hmidv hfg hLl hLw hVm hlvl hrvr
      have hTb : T ≤ 18446744073709551615 := by omega
      have HTT := Lib.hid hT
      clear hT
      go_wp2_with fail
      have r1 : IntKind.i64.wrap ((j : Int) + ((p : Int) + 2)) = (j : Int) + ((p : Int) + 2) := IntWalk.i64_in _ (by omega)
      have r2 : ((j : Int) + ((p : Int) + 2)).toNat = j + (p + 2) := by omega
      have r3 : IntKind.i64.wrap ((j : Int) + ((p : Int) + 2) - 1) = (j : Int) + ((p : Int) + 2) - 1 := IntWalk.i64_in _ (by omega)
      have r4 : ((j : Int) + ((p : Int) + 2) - 1).toNat = j + (p + 1) := by omega
      have r5 : IntKind.u64.wrap (u2 : Int) = (u2 : Int) := IntWalk.u64_in _ (by omega)
      have r6 : IntKind.u64.wrap (u1 : Int) = (u1 : Int) := IntWalk.u64_in _ (by omega)
      have r7 : IntKind.u64.wrap ((u2 : Int) * 4294967296) = (u2 : Int) * 4294967296 := IntWalk.u64_in _ (by omega)
      have r13 : IntKind.u64.wrap ((u2 : Int) * 4294967296 + (u1 : Int)) = (u2 : Int) * 4294967296 + (u1 : Int) := IntWalk.u64_in _ (by omega)
      have r8 : (0 : Int) ≤ (j : Int) + ((p : Int) + 2) := by omega
      have r9 : (j : Int) + ((p : Int) + 2) < (n : Int) + 2 := by omega
      have r10 : (0 : Int) ≤ (j : Int) + ((p : Int) + 2) - 1 := by omega
      have r11 : (j : Int) + ((p : Int) + 2) - 1 < (n : Int) + 2 := by omega
      have r12 : (1 : Int) ≤ (j : Int) + ((p : Int) + 2) := by omega
      go_quiet (fail)
      clear r1 r2 r3 r4 r5 r6 r7 r8 r9 r10 r11 r12 r13
      rw [show (u2 : Int) * 4294967296 + (u1 : Int) = (T : Int) by rw [HTT.out]; omega]
      have hv1n : 1 ≤ v1 := by omega
      go_upto_region 16 with fail
      go_cut [15] from 72 to 152 (fun gv wx => ∃ G0 : Nat, gv = .int .u64 (G0 : Int) ∧ G0 ≤ 4294967295 ∧ val M < (G0 + 1) * V ∧ wx = wr.drewN nq)
      case first =>
        have hfg := Lib.hid Hmid.out.2.2.2.2.2.2
        go_wp2_with fail
        · go_meet
          case rel => exact ⟨4294967295, rfl, Nat.le_refl _, Hmid.out.2.2.2.2.2.1.1, rfl⟩
        · go_meet
          case rel =>
            obtain ⟨G, hGd⟩ : ∃ G, G = T / v1 := ⟨_, rfl⟩
            have h8 : (T : Int) / (v1 : Int) = (G : Int) := by rw [hGd]; rfl
            have hTq : G ≤ 8589934591 := by rw [hGd]; exact Nat.le_trans (Nat.div_le_div_left (c := 2147483648) (by omega) (by decide)) (by omega)
            rw [h8, IntWalk.u64_in _ (by omega)] at h ⊢
            have h9 : G ≤ 4294967295 := by omega
            exact ⟨G, rfl, h9, by have h7 := hfg.out; rwa [← hGd, Nat.min_eq_left h9] at h7, rfl⟩
      case rest =>
      obtain ⟨G0, rfl, hG0, hG1, rfl⟩ := hcut
      have hbu0 : Blk (wr.drewN nq) w1.heap.size 163 (wcells L) := hbu
      have hbq0 : Blk (wr.drewN nq) w4.heap.size 163 (wcells Q) := hbq
      have hbel0 : Below w.heap.size w (wr.drewN nq) := below_drewN hbel nq
      have hrv0 : ReadsW (wr.drewN nq) w1.heap.size (some vd) (wds V) := Hlv.out.2.2
      clear hbu hbq hbel cv1 cu1 cu2
      generalize wr.drewN nq = W0 at hbu0 hbq0 hbel0 hrv0 ⊢
      have Hw0 := Lib.hid (And.intro hbu0 (And.intro hbq0 (And.intro hbel0 hrv0)))
      have hltu := hbu0.lt
      have HG1 := Lib.hid hG1
      clear hbu0 hbq0 hbel0 hrv0 hG1
      go_wp2_with fail
      go_loopg [15] G0 (fun k gv wi => ∃ gz : Nat, gv = .int .u64 (gz : Int) ∧ k = gz ∧ gz ≤ 4294967295 ∧ Hid (val M < (gz + 1) * V) ∧ Below W0.heap.size W0 wi)
      case atStart => exact ⟨G0, rfl, rfl, hG0, HG1, Below.refl _ _⟩
      case round =>
        obtain ⟨gz, rfl, hk, hgz, hgM, hbi⟩ := hrel
        have Hk := Lib.hid hk
        clear hk
        have hf := rfits_any (w := wr) (x := gz) (j := j) (d := d1) (Hw0.out.1.below hbi hltu) ((Hw0.out.2.2.2.below (hbi.mono (Nat.le_of_lt hltu))).more (by have := hbi.size; omega)) (show n + 2 = L.length by have := hLong.out.1; omega) HV.out.2.1.symm (by omega) hLong.out.2.1 hgz (by omega)
        rw [show p + 2 + 1 = p + 3 from rfl, ← Hmid.out.1] at hf
        by_cases hle : gz * V ≤ val M
        · rw [decide_eq_true hle] at hf
          have HF := Lib.hid hf
          have Hle := Lib.hid hle
          clear hf hle
          go_wp2_with fail
          refine HF.out.mono ?_
          rintro e w7 ⟨rfl, hb7⟩
          have hb8 := hbi.trans (hb7.mono hbi.size)
          have hbu8 := Hw0.out.1.below hb8 hltu
          have hbq8 := Hw0.out.2.1.below hb8 Hw0.out.2.1.lt
          have hbel8 := Hw0.out.2.2.1.trans (hb8.mono Hw0.out.2.2.1.size)
          have hrv8 := Hw0.out.2.2.2.below (hb8.mono (Nat.le_of_lt hltu))
          have hQl : j < Q.length := by have := hLong.out.2.2.1; omega
          have hqc : w7.cell? ⟨w4.heap.size, j, none⟩ = some (.int .u32 ((Q[j] : Nat) : Int)) := by rw [hbq8.cell, wcells_get, List.getElem?_eq_getElem hQl]; rfl
          have hqf := hbq8.frozen j
          have hji : (j : Int) < ((n - p : Nat) : Int) := by omega
          have hbq9 : Blk (w7.setCell ⟨w4.heap.size, j, none⟩ (.int .u32 (gz : Int))) w4.heap.size 163 (wcells (Q.set j gz)) := by
            have := hbq8.set_ j (.int .u32 (gz : Int))
            rwa [wcells_set] at this
          have hne : w1.heap.size ≠ w4.heap.size := by omega
          have hbu9 : Blk (w7.setCell ⟨w4.heap.size, j, none⟩ (.int .u32 (gz : Int))) w1.heap.size 163 (wcells L) := Blk.far hbu8 (p := ⟨w4.heap.size, j, none⟩) hne _
          have hbel9 := hbel8.setCell (p := ⟨w4.heap.size, j, none⟩) (show w.heap.size ≤ w4.heap.size by omega) (.int .u32 (gz : Int))
          have hrv9 := ReadsW.setCell hrv8 (p := ⟨w4.heap.size, j, none⟩) (show w1.heap.size ≤ w4.heap.size by omega) (.int .u32 (gz : Int))
          have hmid9 : MidW (w7.setCell ⟨w4.heap.size, j, none⟩ (.int .u32 (gz : Int))) w1.heap.size (L.take j) M (L.drop (j + (p + 3))) := by
            unfold MidW
            rw [Hmid.out.1, ← List.drop_drop, List.take_append_drop, List.take_append_drop]
            exact hbu9
          have H9 := Lib.hid (And.intro hmid9 (And.intro hbq9 (And.intro hbel9 hrv9)))
          clear hb8 hbu8 hbq8 hbel8 hrv8 hbu9 hbq9 hbel9 hrv9 hmid9 hb7 hbi HG1 hG0
          go_upto_region 21 with fail
          clear hqc hqf
          generalize (w7.setCell ⟨w4.heap.size, j, none⟩ (.int .u32 (gz : Int))) = W9 at H9 ⊢
          go_wp2_with fail
          go_loopg [16, 17, 18] (p + 3) (fun k bv cv iv wz => ∃ (i c b : Nat) (M1 : List Nat), bv = .int .u64 (b : Int) ∧ cv = .int .u64 (c : Int) ∧ iv = .int .i64 (i : Int) ∧ k = p + 3 - i ∧ i ≤ p + 3 ∧ c ≤ 4294967295 ∧ b ≤ 1 ∧ MidW wz w1.heap.size (L.take j) M1 (L.drop (j + (p + 3))) ∧ Blk wz w4.heap.size 163 (wcells (Q.set j gz)) ∧ Below w.heap.size w wz ∧ ReadsW wz w1.heap.size (some vd) (wds V) ∧ Hid (Taken M M1 (wds V) gz i c b))
          case atStart => exact ⟨0, 0, 0, M, rfl, rfl, rfl, rfl, by omega, by omega, by omega, H9.out.1, H9.out.2.1, H9.out.2.2.1, H9.out.2.2.2, rfl, Hmid.out.2.2.1, rfl, fun _ => rfl, by simp [val_nil]⟩
          case round =>
            obtain ⟨i, c1, b1, M1, rfl, rfl, rfl, hk3, hi, hc1, hb1, hm1, hq1, hl1, hr1, hT⟩ := hrel
            have Hk3 := Lib.hid hk3
            clear hk3
            by_cases hin : i < p + 3
            · have hM1 := hT.out.1
              have hi1 : i < M1.length := by have := Hmid.out.2.1; omega
              have hi2 : i < M.length := by have := Hmid.out.2.1; omega
              have hu := hm1.cell Hmid.out.2.2.2.2.1 hi1
              rw [Nat.add_comm j i] at hu
              have hfz := Blk.frozen hm1 (i + j)
              have wu := wd_get hT.out.2.1 _ hi1
              have hA := rat_any hr1 (n := p + 2) (c := d1) (i := i) HV.out.2.1.symm (wd_w V)
              have hlen := HV.out.2.1
              have hst := fun (cc dd b' : Nat) => taken_step (cc := cc) (d := dd) (b' := b') hT.out hi1 hi2
              have w2 := at_lt (wd_w V) i
              have hz0 : (wds V).length < i + 1 → at_ (wds V) i = 0 := fun h => at_end (by omega)
              have hcz := hT.out.2.2.2.1
              generalize at_ (wds V) i = v at hA hst w2 hz0
              obtain ⟨hmb0, hmb1⟩ := mul_bound (x := gz) (by omega) w2
              have hcast := Lib.hid (Int.natCast_mul gz v)
              have Hm1 := Lib.hid (fun x : Nat => hm1.set_ Hmid.out.2.2.2.2.1 hi1 x)
              generalize M1[i] = u at *
              have HA := Lib.hid hA
              have Hst := Lib.hid hst
              have Hz := Lib.hid (And.intro hz0 (And.intro hq1 (And.intro hl1 (And.intro hr1 hlen))))
              have hii : (i : Int) ≤ (p : Int) + 2 := by omega
              clear hA hst hz0 hcz hM1 hq1 hl1 hr1 hlen
              go_wp2_with fail
              refine HA.out.mono ?_
              rintro e w10 ⟨rfl, rfl⟩
              go_upto_region 25 with fail
              have hq0 : ((c1 : Int) + (gz : Int) * (v : Int)) = ((c1 + gz * v : Nat) : Int) := by rw [← hcast.out]; omega
              rw [hq0]
              have hccb : c1 + gz * v ≤ 18446744073709551615 := by rw [← hcast.out] at hmb1; omega
              have Hcc : Hid (∃ cc, cc = c1 + gz * v) := Lib.hid ⟨_, rfl⟩
              obtain ⟨cc, hcc⟩ := Hcc.out
              rw [← hcc] at hccb ⊢
              have HCC := Lib.hid hcc
              clear hcc hmb0 hmb1 hq0 Hcc
              obtain ⟨X, b2, hX, hXb, hb2, hb2b, hX1, hXe⟩ := off_word (cc := cc) wu hb1 hccb
              have hX' : (4294967296 : Int) + (u : Int) - (cc : Int) % 4294967296 - (b1 : Int) = (X : Int) := by omega
              have hb2' : (1 : Int) - (X : Int) / 4294967296 = (b2 : Int) := by omega
              have HX := Lib.hid (And.intro hX' (And.intro hb2' hXe))
              have hij1 : (i : Int) + (j : Int) < (n : Int) + 2 := by omega
              have hm9 := Nat.mod_lt cc (y := 4294967296) (by decide)
              clear hX hb2 hX' hb2' hXe
              go_upto_region 27 with fail
              rw [HX.out.1]
              go_wp2_with fail
              rw [HX.out.2.1, show (X : Int) % 4294967296 = ((X % 4294967296 : Nat) : Int) by omega, show (cc : Int) / 4294967296 = ((cc / 4294967296 : Nat) : Int) by omega]
              go_roundg (p + 3 - (i + 1))
              case measure => have := Hk3.out; omega
              case rel =>
                refine ⟨i + 1, cc / 4294967296, b2, M1.set i (X % 4294967296), rfl, rfl, rfl, rfl, by omega, by omega, hb2b, ?_, Blk.far Hz.out.2.1 (p := ⟨w1.heap.size, i + j, none⟩) (Ne.symm hne) _, Hz.out.2.2.1.setCell (p := ⟨w1.heap.size, i + j, none⟩) (show w.heap.size ≤ w1.heap.size from hsz1) _, ReadsW.setCell Hz.out.2.2.2.1 (p := ⟨w1.heap.size, i + j, none⟩) (Nat.le_refl _) _, Hst.out _ _ _ HCC.out HX.out.2.2 (Nat.mod_lt _ (by decide)) (fun hh => ?_)⟩
                · have := Hm1.out (X % 4294967296)
                  rwa [Nat.add_comm j i] at this
                · have h7 := Hz.out.1 hh
                  have h8 := HCC.out
                  rw [h7, Nat.mul_zero] at h8
                  omega
            · have hi' : i = p + 2 + 1 := by omega
              have hT1 := hT.out
              rw [hi'] at hT1
              obtain ⟨e1, e2, e3, e4⟩ := taken_end hT1 HV.out.2.1.symm Hmid.out.2.1 hb1 (by rw [val_w]; exact Hle.out) (by rw [val_w]; exact hgM.out)
              rw [val_w] at e3 e4
              have hLs := long_step hLong.out HV.out.2.2.2.1 hV0 hjm e1 e2 (by rw [show p + 2 + 1 = p + 3 from rfl, ← Hmid.out.1]; exact e3)
              rw [show p + 2 + 1 = p + 3 from rfl, ← Hmid.out.1, ← e4] at hLs
              have HLs := Lib.hid hLs
              have Hend := Lib.hid (And.intro hm1 (And.intro hq1 (And.intro hl1 hr1)))
              have hii : (p : Int) + 2 < (i : Int) := by omega
              clear hT1 e1 e2 e3 e4 hLs hT hm1 hq1 hl1 hr1
              go_wp2_with fail
              go_roundg j
              case measure => omega
              case rel => exact ⟨_, Q.set j gz, rfl, by omega, Hend.out.1, Hend.out.2.1, Hend.out.2.2.1, Hend.out.2.2.2, HLs.out.1⟩
        · rw [decide_eq_false hle] at hf
          obtain ⟨hgp, hgd⟩ := guess_less hgM.out hle
          have HF := Lib.hid hf
          have Hgd := Lib.hid hgd
          clear hf hle hgd
          go_wp2_with fail
          refine HF.out.mono ?_
          rintro e w7 ⟨rfl, hb7⟩
          have Hb7 := Lib.hid (hbi.trans (hb7.mono hbi.size))
          clear hb7 hbi
          go_wp2_with fail
          go_roundg (gz - 1)
          case measure => have := Hk.out; omega
          case rel => exact ⟨gz - 1, by congr 1; omega, rfl, by omega, Hgd, Hb7.out⟩
    · have hk0 : gk = 0 := by omega
      subst hk0
      have hlo := hLong.out
      obtain ⟨q1, q2, q3, q4, q5, q6, q7⟩ := hlo
      rw [Nat.pow_zero, Nat.mul_one, HV.out.1] at q7
      rw [HV.out.1] at q6
      have hend := divide_end q6 q7 (Nat.two_pow_pos y)
      have hcQ := rcut_any (reads_blk hbq hbq.lt) (n := n - p) (c := n - p) (by omega) (Nat.le_refl _) (by omega) q4
      have hcU := rcut_any (reads_blk hbu hbu.lt) (n := n + 2) (c := n + 2) (by omega) (Nat.le_refl _) (by omega) q2
      have hmQ := (wds_take _ _ rfl q4).2
      have hmU := (wds_take _ _ rfl q2).2
      have hrU := reads_cut (reads_blk hbu hbu.lt) q2
      have hrQ := reads_cut (reads_blk hbq hbq.lt) q4
      have hD := rdown_any hrU (Nat.le_refl _) rfl (n := y) (c := n + 2) (by omega) (by omega) (wd_w _)
      rw [val_w, hend.2] at hD
      rw [hend.1] at hcQ hrQ hmQ
      obtain ⟨mU, hmU'⟩ : ∃ mU, mU = (wds (val L)).length := ⟨_, rfl⟩
      rw [← hmU'] at hD hcU hmU
      have HCQ := Lib.hid hcQ
      have HCU := Lib.hid hcU
      have HD := Lib.hid hD
      have Hr := Lib.hid (And.intro hrQ (And.intro hbel (And.intro hmQ (And.intro q3 hbq))))
      clear hcQ hcU hD hrQ hrU hmQ hmU hend q1 q2 q3 q4 q5 q6 q7 hbu hbq hbel hrvr hmU'
      go_wp2_with fail
      refine HCQ.out.mono ?_
      rintro e w7 ⟨mQ, rfl, hmQ', rfl⟩
      have HmQ := Lib.hid hmQ'
      clear hmQ'
      go_wp2_with fail
      refine HCU.out.mono ?_
      rintro e w8 ⟨mU2, rfl, rfl, rfl⟩
      go_wp2_with fail
      refine HD.out.mono ?_
      rintro e w9 ⟨A2, m2, c2, rfl, hm2, hc2, hc2b, hr2, hbR⟩
      have Hfin := Lib.hid (And.intro hm2 (And.intro hr2 hbR))
      clear hm2 hr2 hbR
      go_wp2_with fail
      go_ret2
      refine ⟨_, _, _, _, _, _, rfl, ⟨HmQ.out, Hfin.out.1.out⟩, ?_, hc2, by omega, hc2b, ?_, Hfin.out.2.1, Hr.out.2.1.trans (Hfin.out.2.2.mono Hr.out.2.1.size)⟩
      · rw [HmQ.out]; have := Hr.out.2.2.1; have := Hr.out.2.2.2.1; omega
      · exact (Hr.out.1.below Hfin.out.2.2).more Hfin.out.2.2.size
theorem rdivided_any {w : World} {B n m c d a b : Nat} {A C : Option Addr} (h1 : ReadsW w B A (wds a)) (h2 : ReadsW w B C (wds b)) (hB : B ≤ w.heap.size) (hn : n = (wds a).length) (hm : m = (wds b).length) (hnl : n ≤ 30000000) (hml : m ≤ 30000000) (hnc : n ≤ c) (hcl : c ≤ 9223372036854775807) (hb : 0 < b) :
    Calls Tryz.prog 163 #[.slice A n c, .slice C m d] w (Div2 w (a / b) (a % b)) := by
  rcases Nat.lt_or_ge a b with h | h
  · exact rdivided_lt h1 h2 hB hn hm hnc hcl (by omega) (by omega) h
  · rcases (show m = 0 ∨ m = 1 ∨ 2 ≤ m by omega) with h0 | h0 | h0
    · exfalso
      rw [wds_pos hb] at hm
      simp at hm
      omega
    · exact rdivided_one h1 h2 hB hn hm (by omega) (by omega) h h0
    · exact rdivided_long h1 h2 hB hn hm hnl hml h (show m = (m - 2) + 2 by omega)
end Go.Proofs.YtebpggfccljagaaGreatDoor

/- The reference's Gcd (printed by gen_rgcd.py). -/
namespace Go.Proofs.YtebpggfccljagaaGreatDoor
open Go.RowKit
open Wh
set_option linter.unusedSimpArgs false
set_option linter.unusedVariables false

theorem gcd_turn (x y : Nat) : Nat.gcd y (x % y) = Nat.gcd x y := by rw [Nat.gcd_comm y (x % y), ← Nat.gcd_rec, Nat.gcd_comm]
theorem len_posn {y : Nat} (h : 0 < y) : 0 < (wds y).length := by rw [wds_pos h]; simp
set_option maxRecDepth 100000 in
set_option maxHeartbeats 4000000 in
theorem rgcd_any {w : World} {na nb : Bool} {sa sb : ByteArray} (ha : Fmd sa) (hb : Fmd sb) :
    Calls Tryz.prog 146 #[.agg #[.bool na, .string sa], .agg #[.bool nb, .string sb]] w (Calm w (enc ((Nat.gcd (bval sa.data.toList) (bval sb.data.toList) : Nat) : Int))) := by
  have HA := Lib.hid (fun W : World => words_any (w := W) (by have := ha.2; omega) ha.1)
  have HB := Lib.hid (fun W : World => words_any (w := W) (by have := hb.2; omega) hb.1)
  have Hla := Lib.hid (And.intro ha.len hb.len)
  have Hab := Lib.hid (And.intro ha hb)
  obtain ⟨a, hae⟩ : ∃ a, a = bval sa.data.toList := ⟨_, rfl⟩
  obtain ⟨b, hbe⟩ : ∃ b, b = bval sb.data.toList := ⟨_, rfl⟩
  rw [← hae] at HA
  rw [← hbe] at HB
  rw [← hae, ← hbe] at Hla
  have Hnum := Lib.hid (show num (na, sa) = sgn na a ∧ num (nb, sb) = sgn nb b from ⟨by rw [hae]; rfl, by rw [hbe]; rfl⟩)
  (try rw [← hae, ← hbe])
  clear hae hbe ha hb
  have E0 := Lib.hid (Env.nil w)
  go_enter Tryz.func146, Tryz.ntmps146
  obtain ⟨zs, zb, ez⟩ : ∃ s b', enc ((Nat.gcd a b : Nat) : Int) = .agg #[.bool s, .string b'] := ⟨_, _, rfl⟩
  go_upto_region 1 with fail
  have E1 : Hid (Env w (((w.alloc (.cells #[.bool na, .string sa] 34)).alloc (.cells #[.bool nb, .string sb] 34)).alloc (.cells #[.bool false, .string ⟨#[]⟩] 34)) [(w.heap.size + 1 + 1, 34, #[.bool false, .string ⟨#[]⟩]), (w.heap.size + 1, 34, #[.bool nb, .string sb]), (w.heap.size, 34, #[.bool na, .string sa])]) := Lib.hid (by have h := (Env.new (Env.new (Env.new E0.out 34 #[.bool na, .string sa]) 34 #[.bool nb, .string sb]) 34 #[.bool false, .string ⟨#[]⟩]); (try simp only [World.size_alloc] at h); exact h)
  generalize (((w.alloc (.cells #[.bool na, .string sa] 34)).alloc (.cells #[.bool nb, .string sb] 34)).alloc (.cells #[.bool false, .string ⟨#[]⟩] 34)) = W1 at E1 ⊢
  have Cf1 := Lib.hid (fun (W : World) (h : Env w W [(w.heap.size + 1 + 1, 34, #[.bool false, .string ⟨#[]⟩]), (w.heap.size + 1, 34, #[.bool nb, .string sb]), (w.heap.size, 34, #[.bool na, .string sa])]) => (show W.cell? ⟨w.heap.size, 0, none⟩ = some (.bool na) ∧ W.cell? ⟨w.heap.size, 1, none⟩ = some (.string sa) ∧ W.cell? ⟨w.heap.size + 1, 0, none⟩ = some (.bool nb) ∧ W.cell? ⟨w.heap.size + 1, 1, none⟩ = some (.string sb) from ⟨(Env.at_ h 2 rfl).cell 0, (Env.at_ h 2 rfl).cell 1, (Env.at_ h 1 rfl).cell 0, (Env.at_ h 1 rfl).cell 1⟩))
  refine wp_region_noPanic ?_
  refine wp_region_HK (fun w' => w'.cell? ⟨w.heap.size, 0, none⟩ = some (.bool na) ∧ w'.cell? ⟨w.heap.size, 1, none⟩ = some (.string sa) ∧ w'.cell? ⟨w.heap.size + 1, 0, none⟩ = some (.bool nb) ∧ w'.cell? ⟨w.heap.size + 1, 1, none⟩ = some (.string sb)) 6 (by kernel_rfl) (Cf1.out _ E1.out.drew) (fun hHeld => ?_)
  refine wpHK_pure (i := 0) (oi := Oper.mk (some 9) _ _ _ _ _) (v := ?_) rfl (by kernel_rfl) (by kernel_rfl) (by kernel_rfl) (fun _ _ _ h => h) (Or.inl ⟨by rfl, ?_⟩) ?_
  rotate_left
  · (intro w' _; go_simp; try with_reducible rfl)
  try simp only [Act.put, List.setIfInBounds_toArray, List.set_cons_zero, List.set_cons_succ]
  refine wpHK_pure (i := 3) (oi := Oper.mk (some 12) _ _ _ _ _) (v := ?_) rfl (by kernel_rfl) (by kernel_rfl) (by kernel_rfl) (fun _ _ _ h => h) (Or.inl ⟨by rfl, ?_⟩) ?_
  rotate_left
  · (intro w' _; go_simp; try with_reducible rfl)
  try simp only [Act.put, List.setIfInBounds_toArray, List.set_cons_zero, List.set_cons_succ]
  refine wpHK_take (i := 1) (oi := Oper.mk (some 10) _ _ _ _ _) (v := ?_) rfl (by kernel_rfl) (by kernel_rfl) (by kernel_rfl) (by kernel_rfl) (fun _ _ _ h => h) (Or.inl ⟨by rfl, ?_⟩) (by assumption) ?_
  rotate_left
  · (intro w' hSw; (try dsimp only at hSw); (obtain ⟨s0, s1, s2, s3⟩ := hSw); go_simp; try with_reducible rfl)
  try simp only [Act.put, List.setIfInBounds_toArray, List.set_cons_zero, List.set_cons_succ]
  refine wpHK_take (i := 4) (oi := Oper.mk (some 13) _ _ _ _ _) (v := ?_) rfl (by kernel_rfl) (by kernel_rfl) (by kernel_rfl) (by kernel_rfl) (fun _ _ _ h => h) (Or.inl ⟨by rfl, ?_⟩) (by assumption) ?_
  rotate_left
  · (intro w' hSw; (try dsimp only at hSw); (obtain ⟨s0, s1, s2, s3⟩ := hSw); go_simp; try with_reducible rfl)
  try simp only [Act.put, List.setIfInBounds_toArray, List.set_cons_zero, List.set_cons_succ]
  refine wpHK_one (j := 2) (o := Oper.mk (some 11) _ _ _ _ _) rfl (by kernel_rfl) (fun K hK => ?_)
  go_simp
  refine (HA.out _).mono ?_
  rintro e V1 ⟨A1, m1, c1, rfl, hm, hmc, hcl, hr, hb⟩
  have F1 := Lib.hid (Env.call E1.out.drew hb)
  have R1 := Lib.hid (And.intro hm.out (And.intro hmc (And.intro hcl hr)))
  have hbl := Lib.hid hb
  clear hm hmc hcl hr hb
  refine hK.out _ _ (Cf1.out _ F1.out) (fun _ => ?_)
  clear hK K hHeld
  have hHeld := (Cf1.out _ F1.out)
  try simp only [Act.put, List.setIfInBounds_toArray, List.set_cons_zero, List.set_cons_succ]
  refine wpHK_one (j := 5) (o := Oper.mk (some 14) _ _ _ _ _) rfl (by kernel_rfl) (fun K hK => ?_)
  go_simp
  refine (HB.out _).mono ?_
  rintro e V2 ⟨A2, m2, c2, rfl, hm, hmc, hcl, hr, hb⟩
  have F2 := Lib.hid (Env.call F1.out hb)
  have R2 := Lib.hid (And.intro hm.out (And.intro hmc (And.intro hcl hr)))
  have hbl := Lib.hid hb
  clear hm hmc hcl hr hb
  have R1' := Lib.hid (And.intro R1.out.1 (And.intro R1.out.2.1 (And.intro R1.out.2.2.1 ((R1.out.2.2.2.below hbl.out).more hbl.out.size))))
  clear R1 hbl
  have R1 := R1'
  clear R1'
  refine hK.out _ _ (Cf1.out _ F2.out) (fun _ => ?_)
  clear hK K hHeld
  have hHeld := (Cf1.out _ F2.out)
  try simp only [Act.put, List.setIfInBounds_toArray, List.set_cons_zero, List.set_cons_succ]
  refine wpHK_pure (i := 6) (oi := Oper.mk (some 5) _ _ _ _ _) (v := ?_) rfl (by kernel_rfl) (by kernel_rfl) (by kernel_rfl) (fun _ _ _ h => h) (Or.inl ⟨by rfl, ?_⟩) ?_
  rotate_left
  · (intro w' _; go_simp; try with_reducible rfl)
  try simp only [Act.put, List.setIfInBounds_toArray, List.set_cons_zero, List.set_cons_succ]
  refine wpHK_pure (i := 7) (oi := Oper.mk (some 6) _ _ _ _ _) (v := ?_) rfl (by kernel_rfl) (by kernel_rfl) (by kernel_rfl) (fun _ _ _ h => h) (Or.inl ⟨by rfl, ?_⟩) ?_
  rotate_left
  · (intro w' _; go_simp; try with_reducible rfl)
  try simp only [Act.put, List.setIfInBounds_toArray, List.set_cons_zero, List.set_cons_succ]
  refine wpHK_done (by kernel_rfl) ?_ _
  refine NoPanic.normal ?_
  go_wp2_with fail
  go_loopg [5, 6] b (fun k xv yv wr => ∃ (A : Option Addr) (n c : Nat) (A' : Option Addr) (n' c' x y : Nat), Hid (k = y) ∧ xv = .slice A n c ∧ yv = .slice A' n' c' ∧ Hid (n = (wds x).length ∧ n ≤ c ∧ c ≤ 9223372036854775807 ∧ ReadsW wr wr.heap.size A (wds x)) ∧ Hid (n' = (wds y).length ∧ n' ≤ c' ∧ c' ≤ 9223372036854775807 ∧ ReadsW wr wr.heap.size A' (wds y)) ∧ n ≤ 25000001 ∧ n' ≤ 25000001 ∧ Hid (Nat.gcd x y = Nat.gcd a b) ∧ Hid (Env w wr [(w.heap.size + 1 + 1, 34, #[.bool false, .string ⟨#[]⟩]), (w.heap.size + 1, 34, #[.bool nb, .string sb]), (w.heap.size, 34, #[.bool na, .string sa])]))
  case atStart => exact ⟨_, _, _, _, _, _, a, b, Lib.hid rfl, rfl, rfl, R1, R2, by rw [R1.out.1]; exact Hla.out.1, by rw [R2.out.1]; exact Hla.out.2, Lib.hid rfl, F2⟩
  case round =>
    obtain ⟨A, n, c, A', n', c', x, y, Hk, rfl, rfl, Hx, Hy, hn, hn', HG, HE⟩ := hrel
    rcases Nat.eq_zero_or_pos y with h0 | h0
    case inr =>
      have hp := len_posn h0
      have hp' : 0 < n' := by rw [Hy.out.1]; exact hp
      have HD := Lib.hid (rdivided_any (d := c') Hx.out.2.2.2 Hy.out.2.2.2 (Nat.le_refl _) Hx.out.1 Hy.out.1 (by omega) (by omega) Hx.out.2.1 Hx.out.2.2.1 h0)
      have Hmod := Lib.hid (Nat.mod_lt x h0)
      have HL := Lib.hid (len_mono (Nat.le_of_lt (Nat.mod_lt x h0)))
      clear h0 hp
      go_wp2_with fail
      refine HD.out.mono ?_
      rintro e w2 ⟨A1, n1, c1, A2, n2, c2, rfl, hn12, hc1, hc2, hc1', hc2', hr1, hr2, hb⟩
      have Hy2 := Lib.hid (And.intro Hy.out.1 (And.intro Hy.out.2.1 (And.intro Hy.out.2.2.1 ((Hy.out.2.2.2.below hb).more hb.size))))
      have Hr2 := Lib.hid (And.intro hn12.out.2 (And.intro hc2 (And.intro hc2' hr2)))
      have HE2 := Lib.hid (Env.call HE.out hb)
      clear hn12 hc1 hc2 hc1' hc2' hr1 hr2 hb
      go_wp2_with fail
      go_roundg (x % y)
      case measure => rw [Hk.out]; exact Hmod.out
      case rel => exact ⟨_, _, _, _, _, _, y, x % y, Lib.hid rfl, rfl, rfl, Hy2, Hr2, hn', by have h1 := Hr2.out.1; have h2 := Hy.out.1; have h3 := HL.out; omega, Lib.hid ((gcd_turn x y).trans HG.out), HE2⟩
    case inl =>
      subst h0
      have hz : n' = 0 := by rw [Hy.out.1, wds_zero]; rfl
      subst hz
      have hg := HG.out
      rw [Nat.gcd_zero_right] at hg
      subst hg
      have HM := made_any (w := wr) (neg := false) Hx.out.2.2.2 (Nat.le_refl _) Hx.out.1 Hx.out.2.1 Hx.out.2.2.1 (by omega) (wd_w _)
      rw [val_w, show sgn false (Nat.gcd a b) = ((Nat.gcd a b : Nat) : Int) from rfl, ez] at HM
      have HM' := Lib.hid HM
      clear HM
      go_wp2_with fail
      refine HM'.out.mono ?_
      rintro e w3 ⟨rfl, hb⟩
      have HE3 := Lib.hid (Env.call HE.out hb)
      clear hb
      have n4 := Env.at_ HE3.out 0 rfl
      have y0 := n4.cell 0
      have y1 := n4.cell 1
      have y2 := n4.frozen 0
      have y3 := n4.frozen 1
      simp at y0 y1
      have hge := HE3.out.1.size
      clear n4
      go_wp2_with fail
      have n5 := ((Env.at_ HE3.out 0 rfl).set_ 0 (.bool zs)).set_ 1 (.string zb)
      have d0 := n5.cell 0
      have d1 := n5.cell 1
      simp at d0 d1
      refine bodyPost_ret (v := .agg #[.bool zs, .string zb]) (by simp [results, Tryz.results146, go_sem, d0, d1]) rfl ?_
      exact ⟨by rw [ez], ((HE3.out.1).setCell (by show w.heap.size ≤ w.heap.size + 1 + 1; omega) _).setCell (by show w.heap.size ≤ w.heap.size + 1 + 1; omega) _⟩
end Go.Proofs.YtebpggfccljagaaGreatDoor

/- frac.number; Rat.SetFrac, SetInt, SetInt64; frac.rat. -/
namespace Go.Proofs.YtebpggfccljagaaGreatDoor
open Go.RowKit
open Wh
set_option linter.unusedSimpArgs false

set_option maxRecDepth 100000 in
set_option maxHeartbeats 4000000 in
theorem number_any {w : World} {ng : Bool} {s : ByteArray} (hm : s.data.toList.length ≤ 16384) :
    Calls Tryz.prog 148 #[.agg #[.bool ng, .string s]] w (NewI w (num (ng, s))) := by
  have kc := fun (W : World) (s : ByteArray) => Lib.run_convert_string_bytes (P := Tryz.prog) W 9 97 5 s Tryz.underlying9 Tryz.underlying97 Tryz.underlying5
  have hsl : s.data.toList.length = s.size := Array.length_toList
  have hsz : s.size ≤ 16384 := by omega
  have Hm := Lib.hid hm
  clear hm
  have hbk := Blk.new w 34 #[.bool ng, .string s]
  have e0 : (w.alloc (.cells #[.bool ng, .string s] 34)).cell? ⟨w.heap.size, 0, none⟩ = some (.bool ng) := hbk.cell 0
  have hb1 : Below w.heap.size w (w.alloc (.cells #[.bool ng, .string s] 34)) := new_below _ _
  have hsz1 : (w.alloc (.cells #[.bool ng, .string s] 34)).heap.size = w.heap.size + 1 := by simp
  obtain ⟨W1, hW1⟩ : ∃ W1, W1 = w.alloc (.cells #[.bool ng, .string s] 34) := ⟨_, rfl⟩
  rw [← hW1] at e0 hb1 hsz1
  have hrd := bytes_reads (W1.alloc (.cells #[.bool false, .slice none 0 0] 151)) s
  rw [World.size_alloc] at hrd
  have hbb := bytes_below (W1.alloc (.cells #[.bool false, .slice none 0 0] 151)) s
  have HS : Hid (Calls Tryz.prog 149 #[.pointer (some ⟨W1.heap.size, 0, none⟩), .slice (some ⟨W1.heap.size + 1, 0, none⟩) s.size (grownCap (W1.alloc (.cells #[.bool false, .slice none 0 0] 151)) s.size 0 5)] (Lib.bytesWorld (W1.alloc (.cells #[.bool false, .slice none 0 0] 151)) 5 s) (fun e w3 => e = .returned (.pointer (some ⟨W1.heap.size, 0, none⟩)) ∧ IntB w3 W1.heap.size ((bval s.data.toList : Nat) : Int) ∧ Below w.heap.size w w3 ∧ w3.cell? ⟨w.heap.size, 0, none⟩ = some (.bool ng))) := by
    refine Lib.hid ((setbytes_any (c := grownCap (W1.alloc (.cells #[.bool false, .slice none 0 0] 151)) s.size 0 5) ((IntB.zero W1).slot.below hbb) hrd (Nat.le_refl _) hsl.symm (by omega)).mono ?_)
    rintro e w3 ⟨rfl, hi3, hg3⟩
    have hb13 : Below W1.heap.size W1 w3 := ((new_below W1 _).trans (hbb.mono (by simp))).grown hg3 (by rw [Lib.bytesWorld_size]; simp; omega) (fun k hk => by injection hk with hk; omega)
    exact ⟨rfl, hi3, hb1.trans (hb13.mono hb1.size), (hb13.cell (p := ⟨w.heap.size, 0, none⟩) (by show w.heap.size < _; omega)).trans e0⟩
  have hlen := len_mag Hm.out
  subst hW1
  rw [World.size_alloc] at HS
  clear hrd hbb e0 hb1 hsz1 hbk hsl
  cases ng
  · go_enter Tryz.func148, Tryz.ntmps148
    go_wp2_with (go_at_call 149; (refine HS.out.mono ?_); rintro _ w3 ⟨rfl, hi3, hb3, d0⟩)
    go_ret
    exact ⟨_, rfl, by simp, hi3, hb3⟩
  · go_enter Tryz.func148, Tryz.ntmps148
    go_wp2_with (first | (go_at_call 149; (refine HS.out.mono ?_); rintro _ w3 ⟨rfl, hi3, hb3, d0⟩; have HN := Lib.hid (neg_any hi3.slot hi3 (by rw [Int.natAbs_natCast]; omega))) | (go_at_call 150; (refine HN.out.mono ?_); rintro _ w4 ⟨rfl, hi4, hg4⟩))
    go_ret
    exact ⟨_, rfl, by simp, hi4, up_row hb3 hg4 hb3.size (by omega)⟩
end Go.Proofs.YtebpggfccljagaaGreatDoor

/- Rat.SetFrac. -/
namespace Go.Proofs.YtebpggfccljagaaGreatDoor
open Go.RowKit
open Wh
set_option linter.unusedSimpArgs false

/-- a block that may be a fraction's -/
def RatS (w : World) (g : Nat) : Prop := ∃ cs, Blk w g 153 cs ∧ cs.size = 4
theorem RatS.lt {w : World} {g : Nat} (h : RatS w g) : g < w.heap.size := by
  obtain ⟨cs, hb, _⟩ := h
  exact hb.lt
theorem RatS.below {w w' : World} {g : Nat} (h : RatS w g) (hb : Below w.heap.size w w') : RatS w' g := by
  have hlt := h.lt
  obtain ⟨cs, hk, hs⟩ := h
  exact ⟨cs, hk.below hb hlt, hs⟩
/-- the four cells of a fraction, written -/
theorem rat_made {w : World} {g : Nat} {a b : Int} {sa sb : Bool} {A B : Option Addr} {n c m d : Nat} (hs : RatS w g) (ha : Hid (sa = decide (a < 0) ∧ n = (wds a.natAbs).length)) (hnc : n ≤ c) (hc : c ≤ 9223372036854775807) (hA : ReadsW w w.heap.size A (wds a.natAbs))
    (hb : Hid (sb = decide (b < 0) ∧ m = (wds b.natAbs).length)) (hmd : m ≤ d) (hd : d ≤ 9223372036854775807) (hB : ReadsW w w.heap.size B (wds b.natAbs)) (hp : 0 < b) :
    RatB ((((w.setCell ⟨g, 0, none⟩ (.bool sa)).setCell ⟨g, 1, none⟩ (.slice A n c)).setCell ⟨g, 2, none⟩ (.bool sb)).setCell ⟨g, 3, none⟩ (.slice B m d)) g a b ∧
      w.grownBy ((((w.setCell ⟨g, 0, none⟩ (.bool sa)).setCell ⟨g, 1, none⟩ (.slice A n c)).setCell ⟨g, 2, none⟩ (.bool sb)).setCell ⟨g, 3, none⟩ (.slice B m d)) (some g) := by
  obtain ⟨cs, hk, hz⟩ := hs
  have hg : w.grownBy ((((w.setCell ⟨g, 0, none⟩ (.bool sa)).setCell ⟨g, 1, none⟩ (.slice A n c)).setCell ⟨g, 2, none⟩ (.bool sb)).setCell ⟨g, 3, none⟩ (.slice B m d)) (some g) :=
    only_setCell (p := ⟨g, 3, none⟩) (only_setCell (p := ⟨g, 2, none⟩) (only_setCell (p := ⟨g, 1, none⟩) (only_setCell (p := ⟨g, 0, none⟩) (World.grownBy.refl w (some g)) (.inl rfl) _) (.inl rfl) _) (.inl rfl) _) (.inl rfl) _
  have hk4 := (((hk.set_ 0 (.bool sa)).set_ 1 (.slice A n c)).set_ 2 (.bool sb)).set_ 3 (.slice B m d)
  have off : ∀ {l : List Nat} {X : Option Addr}, ReadsW w w.heap.size X l → ReadsW ((((w.setCell ⟨g, 0, none⟩ (.bool sa)).setCell ⟨g, 1, none⟩ (.slice A n c)).setCell ⟨g, 2, none⟩ (.bool sb)).setCell ⟨g, 3, none⟩ (.slice B m d)) w.heap.size X l := fun h =>
    h.other hg (Nat.le_refl _) fun r e => by
      injection e with e
      subst e
      exact ⟨_, _, _, hk, by decide⟩
  generalize ((((w.setCell ⟨g, 0, none⟩ (.bool sa)).setCell ⟨g, 1, none⟩ (.slice A n c)).setCell ⟨g, 2, none⟩ (.bool sb)).setCell ⟨g, 3, none⟩ (.slice B m d)) = w4 at *
  refine ⟨⟨⟨sa, A, n, c, ?_, ?_, ha, hnc, hc, (off hA).more hg.size⟩, ⟨sb, B, m, d, ?_, ?_, hb, hmd, hd, (off hB).more hg.size⟩, hp⟩, hg⟩
  · rw [hk4.cell]; simp [hz]
  · rw [hk4.cell]; simp [hz]
  · rw [hk4.cell]; simp [hz]
  · rw [hk4.cell]; simp [hz]

theorem quo_new {W : World} {ga gb : Nat} {a b : Int} (ha : IntB W ga a) (hb : IntB W gb b) (hal : (wds a.natAbs).length ≤ 900000000) (hbl : (wds b.natAbs).length ≤ 900000000) (hb0 : b ≠ 0) :
    Calls Tryz.prog 165 #[.pointer (some ⟨W.heap.size, 0, none⟩), .pointer (some ⟨ga, 0, none⟩), .pointer (some ⟨gb, 0, none⟩)] (W.alloc (.cells #[.bool false, .slice none 0 0] 151)) (fun e w' => e = .returned (.pointer (some ⟨W.heap.size, 0, none⟩)) ∧ IntB w' W.heap.size (a.tdiv b) ∧ Below W.heap.size W w') := by
  refine (quo_any (IntB.zero W).slot (ha.below (new_below _ _)) (hb.below (new_below _ _)) hal hbl hb0).mono ?_
  rintro _ w' ⟨rfl, hi, hg⟩
  exact ⟨rfl, hi, below_new hg⟩
theorem gcd_new {W : World} {ga gb : Nat} {a b : Int} (ha : IntB W ga a) (hb : IntB W gb b) (hal : (wds a.natAbs).length ≤ 900000000) (hbl : (wds b.natAbs).length ≤ 900000000) :
    Calls Tryz.prog 164 #[.pointer (some ⟨W.heap.size, 0, none⟩), .pointer none, .pointer none, .pointer (some ⟨ga, 0, none⟩), .pointer (some ⟨gb, 0, none⟩)] (W.alloc (.cells #[.bool false, .slice none 0 0] 151)) (fun e w' => e = .returned (.pointer (some ⟨W.heap.size, 0, none⟩)) ∧ IntB w' W.heap.size (Nat.gcd a.natAbs b.natAbs : Int) ∧ Below W.heap.size W w') := by
  refine (gcd_any (IntB.zero W).slot (ha.below (new_below _ _)) (hb.below (new_below _ _)) hal hbl).mono ?_
  rintro _ w' ⟨rfl, hi, hg⟩
  exact ⟨rfl, hi, below_new hg⟩
theorem len_le {x y : Nat} (h : x ≤ y) (hl : (wds y).length ≤ 900000000) : (wds x).length ≤ 900000000 := Nat.le_trans (len_mono h) hl

theorem len_numF {n : Bool} {s : ByteArray} (h : s.data.toList.length ≤ 16384) : (wds (num (n, s)).natAbs).length ≤ 900000000 := by
  have h1 := len_mag h
  unfold num
  rw [sgn_abs]
  exact Nat.le_trans h1 (by decide)
set_option maxRecDepth 100000 in
set_option maxHeartbeats 4000000 in
theorem setfrac_pos {w : World} {g ga gb : Nat} {a b : Int} (hz : RatS w g) (hga : ga ≠ g) (hgb : gb ≠ g) (ha : IntB w ga a) (hb : IntB w gb b) (hal : (wds a.natAbs).length ≤ 900000000) (hbl : (wds b.natAbs).length ≤ 900000000) (hp : 0 < b) :
    Calls Tryz.prog 147 #[.pointer (some ⟨g, 0, none⟩), .pointer (some ⟨ga, 0, none⟩), .pointer (some ⟨gb, 0, none⟩)] w (fun e w' => e = .returned (.pointer (some ⟨g, 0, none⟩)) ∧ RatB w' g (a.tdiv (Nat.gcd a.natAbs b.natAbs : Int)) (b.tdiv (Nat.gcd a.natAbs b.natAbs : Int)) ∧ w.grownBy w' (some g)) := by
  have hG : 0 < Nat.gcd a.natAbs b.natAbs := Nat.gcd_pos_of_pos_right _ (by omega)
  have hGle : Nat.gcd a.natAbs b.natAbs ≤ b.natAbs := Nat.gcd_le_right _ (by omega)
  have hGd : Nat.gcd a.natAbs b.natAbs ∣ b.natAbs := Nat.gcd_dvd_right _ _
  have HG := Lib.hid (gcd_new ha hb hal hbl)
  obtain ⟨G, hGe⟩ : ∃ G, G = Nat.gcd a.natAbs b.natAbs := ⟨_, rfl⟩
  rw [← hGe] at HG hG hGle hGd ⊢
  have HF := Lib.hid (And.intro hG (And.intro hGle (And.intro hGd hp)))
  have HL := Lib.hid (And.intro hal hbl)
  have HA := Lib.hid (And.intro ha (And.intro hb hz))
  have HN := Lib.hid (And.intro hga hgb)
  clear hal hbl hG hGle hGd hGe hp ha hb hz hga hgb
  go_enter Tryz.func147, Tryz.ntmps147
  go_wp2_with (go_at_call 164; (refine HG.out.mono ?_); rintro _ W1 ⟨rfl, hi1, hb1⟩; obtain ⟨sb, Ab, nb, cb, y0, y1, Hy, _, _, _⟩ := (HA.out.2.1.below hb1).opened; have hsb : sb = false := (by rw [Hy.out.1]; exact decide_eq_false (by have := HF.out.2.2.2; omega)); subst hsb)
  have hb1n := hb1
  have Q1 := Lib.hid (quo_new (HA.out.1.below hb1) hi1 HL.out.1 (by rw [Int.natAbs_natCast]; exact len_le HF.out.2.1 HL.out.2) (by have := HF.out.1; omega))
  refine Q1.out.mono ?_
  rintro _ W2 ⟨rfl, hi2, hb2⟩
  have hb12 := hb1.trans (hb2.mono hb1.size)
  have Q2 := Lib.hid (quo_new (HA.out.2.1.below hb12) (hi1.below hb2) HL.out.2 (by rw [Int.natAbs_natCast]; exact len_le HF.out.2.1 HL.out.2) (by have := HF.out.1; omega))
  go_wp2_with (go_at_call 165; (refine Q2.out.mono ?_); rintro _ W3 ⟨rfl, hi3, hb3⟩)
  have hb13 := hb12.trans (hb3.mono hb12.size)
  have hgl := HA.out.2.2.lt
  have hi2' := hi2.below hb3
  have hz3 := HA.out.2.2.below hb13
  have hl1 := hb1.size
  have hl2 := hb2.size
  have gn1 : ¬ g = W1.heap.size := by omega
  have gn2 : ¬ g = W2.heap.size := by omega
  have gm1 : ¬ W1.heap.size = g := by omega
  have gm2 : ¬ W2.heap.size = g := by omega
  obtain ⟨s2, A2, n2, c2, u0, u1, Hu, hu1, hu2, hur⟩ := hi2'.opened
  obtain ⟨s3, A3, n3, c3, v0, v1, Hv, hv1, hv2, hvr⟩ := hi3.opened
  have Hz3 := Lib.hid hz3
  obtain ⟨cs, hk, hcs⟩ := hz3
  obtain ⟨z0, e0⟩ : ∃ z, W3.cell? ⟨g, 0, none⟩ = some z := ⟨cs[0]'(by omega), by rw [hk.cell]; exact Array.getElem?_eq_getElem (by omega)⟩
  obtain ⟨z1, e1⟩ : ∃ z, W3.cell? ⟨g, 1, none⟩ = some z := ⟨cs[1]'(by omega), by rw [hk.cell]; exact Array.getElem?_eq_getElem (by omega)⟩
  obtain ⟨z2, e2⟩ : ∃ z, W3.cell? ⟨g, 2, none⟩ = some z := ⟨cs[2]'(by omega), by rw [hk.cell]; exact Array.getElem?_eq_getElem (by omega)⟩
  obtain ⟨z3, e3⟩ : ∃ z, W3.cell? ⟨g, 3, none⟩ = some z := ⟨cs[3]'(by omega), by rw [hk.cell]; exact Array.getElem?_eq_getElem (by omega)⟩
  have f0 := hk.frozen 0
  have f1 := hk.frozen 1
  have f2 := hk.frozen 2
  have f3 := hk.frozen 3
  have HU := Lib.hid (And.intro hu1 (And.intro hu2 hur))
  have HV := Lib.hid (And.intro hv1 (And.intro hv2 hvr))
  have HB := Lib.hid hb13
  generalize W1.heap.size = N1 at *
  generalize W2.heap.size = N2 at *
  clear hk hcs hi2' hi2 hi3 hu1 hu2 hur hv1 hv2 hvr hb13 hb12 hb1n hb1 hb2 hb3 Q1 Q2 hgl hl1 hl2 hi1 HG
  go_region
  go_wp2_with fail
  go_ret
  have hpos : 0 < b.tdiv (G : Int) := by
    obtain ⟨q, hq⟩ := HF.out.2.2.1
    have hb0 := HF.out.2.2.2
    have hG0 := HF.out.1
    have e : b = (G : Int) * (q : Int) := by
      have : (b.natAbs : Int) = b := by omega
      rw [← this, hq]; push_cast; rfl
    have hq0 : 0 < q := by
      rcases Nat.eq_zero_or_pos q with h | h
      · rw [h] at e; omega
      · exact h
    rw [e, Int.mul_comm, Int.mul_tdiv_cancel _ (by omega)]
    omega
  obtain ⟨r1, r2⟩ := rat_made Hz3.out Hu HU.out.1 HU.out.2.1 HU.out.2.2 Hv HV.out.1 HV.out.2.1 HV.out.2.2 hpos
  have r3 := grown_lift HB.out r2
  exact ⟨rfl, ⟨r1.num, r1.den, r1.pos⟩, ⟨r3.os, r3.tape, r3.output, r3.size, r3.block⟩⟩

end Go.Proofs.YtebpggfccljagaaGreatDoor

/- frac.rat; Rat.SetInt, SetInt64. -/
namespace Go.Proofs.YtebpggfccljagaaGreatDoor
open Go.RowKit
open Wh
set_option linter.unusedSimpArgs false

theorem RatS.zero (w : World) : RatS (w.alloc (.cells #[.bool false, .slice none 0 0, .bool false, .slice none 0 0] 153)) w.heap.size := ⟨_, Blk.new w 153 _, rfl⟩
theorem grown_cell {w w' : World} {r b o : Nat} (h : w.grownBy w' (some r)) (hb : b < w.heap.size) (hne : b ≠ r) : w'.cell? ⟨b, o, none⟩ = w.cell? ⟨b, o, none⟩ :=
  World.cell?_of_block (h.block b hb (by intro e; injection e with e; exact hne e))
set_option maxRecDepth 100000 in
set_option maxHeartbeats 4000000 in
/-- a fraction of two whole numbers that may be, the second one above nought -/
theorem ratf_any {w : World} {na nb : Bool} {sa sb : ByteArray} (ha : sa.data.toList.length ≤ 16384) (hb : sb.data.toList.length ≤ 16384) (hp : 0 < num (nb, sb)) :
    Calls Tryz.prog 119 #[.agg #[.bool na, .string sa, .bool nb, .string sb]] w (fun e w' => ∃ g, e = .returned (.pointer (some ⟨g, 0, none⟩)) ∧ w.heap.size ≤ g ∧
      RatB w' g ((num (na, sa)).tdiv (Nat.gcd (num (na, sa)).natAbs (num (nb, sb)).natAbs : Int)) ((num (nb, sb)).tdiv (Nat.gcd (num (na, sa)).natAbs (num (nb, sb)).natAbs : Int)) ∧ Below w.heap.size w w') := by
  have H1 := Lib.hid (fun W => number_any (w := W) (ng := na) ha)
  have H2 := Lib.hid (fun W => number_any (w := W) (ng := nb) hb)
  have HL := Lib.hid (And.intro (len_numF (n := na) ha) (len_numF (n := nb) hb))
  have HP := Lib.hid hp
  clear ha hb hp
  generalize num (na, sa) = a at *
  generalize num (nb, sb) = b at *
  go_enter Tryz.func119, Tryz.ntmps119
  go_wp2_with fail
  go_region_held3 (fun w' => w'.cell? ⟨w.heap.size, 0, none⟩ = some (.bool na) ∧ w'.cell? ⟨w.heap.size, 1, none⟩ = some (.string sa) ∧ w'.cell? ⟨w.heap.size, 2, none⟩ = some (.bool nb) ∧ w'.cell? ⟨w.heap.size, 3, none⟩ = some (.string sb))
    (first
      | go_keep
      | (rw [hb1.cell (by first | omega | (simp; omega) | simp), hb1.cell (by first | omega | (simp; omega) | simp), hb1.cell (by first | omega | (simp; omega) | simp), hb1.cell (by first | omega | (simp; omega) | simp)]; go_keep)
      | (rw [hb2.cell (by first | omega | (simp; omega) | simp), hb2.cell (by first | omega | (simp; omega) | simp), hb2.cell (by first | omega | (simp; omega) | simp), hb2.cell (by first | omega | (simp; omega) | simp)]; go_keep)
      | (rw [hb1b.cell (by first | omega | (simp; omega) | simp), hb1b.cell (by first | omega | (simp; omega) | simp), hb1b.cell (by first | omega | (simp; omega) | simp), hb1b.cell (by first | omega | (simp; omega) | simp)]; go_keep)
      | (rw [hb2b.cell (by first | omega | (simp; omega) | simp), hb2b.cell (by first | omega | (simp; omega) | simp), hb2b.cell (by first | omega | (simp; omega) | simp), hb2b.cell (by first | omega | (simp; omega) | simp)]; go_keep)
      | (rw [hb2d.cell (by first | omega | (simp; omega) | simp), hb2d.cell (by first | omega | (simp; omega) | simp), hb2d.cell (by first | omega | (simp; omega) | simp), hb2d.cell (by first | omega | (simp; omega) | simp)]; go_keep)
      | (rw [grown_cell hg3 (by first | omega | (simp; omega)) (by omega), grown_cell hg3 (by first | omega | (simp; omega)) (by omega), grown_cell hg3 (by first | omega | (simp; omega)) (by omega), grown_cell hg3 (by first | omega | (simp; omega)) (by omega)]; go_keep)
      | (rw [grown_cell hg3b (by first | omega | (simp; omega)) (by omega), grown_cell hg3b (by first | omega | (simp; omega)) (by omega), grown_cell hg3b (by first | omega | (simp; omega)) (by omega), grown_cell hg3b (by first | omega | (simp; omega)) (by omega)]; go_keep)
      | (rw [grown_cell hg3d (by first | omega | (simp; omega)) (by omega), grown_cell hg3d (by first | omega | (simp; omega)) (by omega), grown_cell hg3d (by first | omega | (simp; omega)) (by omega), grown_cell hg3d (by first | omega | (simp; omega)) (by omega)]; go_keep))
    (first
      | (go_at_call 148; (with_reducible refine (H1.out _).mono ?_); rintro _ W1 ⟨g1, rfl, hl1, hi1, hb1⟩; have z1 : w.heap.size + 2 ≤ W1.heap.size := (by have := hb1.size; simpa using this); have hl1' : w.heap.size + 2 ≤ g1 := (by simpa using hl1); have hr1 : RatS W1 (w.heap.size + 1) := (RatS.below ⟨_, by have := Blk.new (w.alloc (.cells #[.bool na, .string sa, .bool nb, .string sb] 36)) 153 #[.bool false, .slice none 0 0, .bool false, .slice none 0 0]; rw [World.size_alloc] at this; exact this, rfl⟩ hb1))
      | (go_at_call 148; (with_reducible refine (H2.out _).mono ?_); rintro _ W2 ⟨g2, rfl, hl2, hi2, hb2⟩; have z2 := hb2.size; have hi1' := hi1.below hb2; have hr2 := hr1.below hb2)
      | (go_at_call 147; (with_reducible refine (setfrac_pos hr2 (by omega) (by omega) hi1' hi2 HL.out.1 HL.out.2 HP.out).mono ?_); rintro _ W3 ⟨rfl, hr3, hg3⟩)
      | (go_at_call 148; (with_reducible refine (H1.out _).mono ?_); rintro _ W1 ⟨g1, rfl, hl1b, hi1b, hb1b⟩; have z1b : w.heap.size + 1 ≤ W1.heap.size := (by have := hb1b.size; simpa using this); have hl1c : w.heap.size + 1 ≤ g1 := (by simpa using hl1b); have hg1lt := hi1b.lt)
      | (go_at_call 148; (with_reducible refine (H2.out _).mono ?_); rintro _ W2 ⟨g2, rfl, hl2b, hi2b, hb2b⟩; have z2b : W1.heap.size + 1 ≤ W2.heap.size := (by have := hb2b.size; simpa using this); have hr2b : RatS W2 W1.heap.size := (RatS.below ⟨_, Blk.new W1 153 #[.bool false, .slice none 0 0, .bool false, .slice none 0 0], rfl⟩ hb2b); have hi1c := (hi1b.below (new_below W1 _)).below hb2b; have hl2c : W1.heap.size + 1 ≤ g2 := (by simpa using hl2b))
      | (go_at_call 147; (with_reducible refine (setfrac_pos hr2b (by omega) (by omega) hi1c hi2b HL.out.1 HL.out.2 HP.out).mono ?_); rintro _ W3 ⟨rfl, hr3b, hg3b⟩)
      | (go_at_call 148; (with_reducible refine (H2.out _).mono ?_); rintro _ W2 ⟨g2, rfl, hl2d, hi2d, hb2d⟩; have z2d := hb2d.size; have hg2lt := hi2d.lt)
      | (go_at_call 147; (with_reducible refine (setfrac_pos (RatS.zero W2) (by omega) (by omega) ((hi1b.below hb2d).below (new_below W2 _)) (hi2d.below (new_below W2 _)) HL.out.1 HL.out.2 HP.out).mono ?_); rintro _ W3 ⟨rfl, hr3d, hg3d⟩))
  · go_wp2_with fail
    go_ret
    exact ⟨_, rfl, by omega, hr3, up_row (((((Below.refl w.heap.size w).alloc (Nat.le_refl _) _).alloc (by simp) _).drew.trans (hb1.mono (by simp; omega))).trans (hb2.mono (by omega))) hg3 (by omega) (by omega)⟩
  · go_wp2_with fail
    go_ret
    exact ⟨_, rfl, by omega, hr3b, up_row (((((Below.refl w.heap.size w).alloc (Nat.le_refl _) _).drew.trans (hb1b.mono (by simp))).alloc (by omega) _).trans (hb2b.mono (by simp; omega))) hg3b (by omega) (by omega)⟩
  · go_wp2_with fail
    go_ret
    exact ⟨_, rfl, by omega, hr3d, up_row (((((Below.refl w.heap.size w).alloc (Nat.le_refl _) _).drew.trans (hb1b.mono (by simp))).trans (hb2d.mono (by omega))).alloc (by omega) _) hg3d (by simp; omega) (by omega)⟩
end Go.Proofs.YtebpggfccljagaaGreatDoor

/- frac.back, told; Rat.SetInt, SetInt64; frac.Int. -/
namespace Go.Proofs.YtebpggfccljagaaGreatDoor
open Go.RowKit
open Wh
set_option linter.unusedSimpArgs false

set_option maxRecDepth 100000 in
set_option maxHeartbeats 4000000 in
theorem back_any {w : World} {gx : Nat} {z : Int} (hx : IntB w gx z) (hxl : (wds z.natAbs).length ≤ 100000000) :
    Calls Tryz.prog 93 #[.pointer (some ⟨gx, 0, none⟩)] w (fun e w' => e = .returned (enc z) ∧ Below w.heap.size w w') := by
  have hb0 := new_below w (.cells #[.bool false, .string ⟨#[]⟩] 34)
  have hx1 := hx.below hb0
  have Hx := Lib.hid (And.intro hx1 (And.intro hxl hb0))
  have HS := Lib.hid (sign_any hx1)
  obtain ⟨sv, hsv⟩ : ∃ sv, sv = sg z := ⟨_, rfl⟩
  rw [← hsv] at HS
  have Hsv := Lib.hid hsv
  clear hsv hx hx1 hxl hb0
  go_enter Tryz.func93, Tryz.ntmps93
  go_wp2_with fail
  refine HS.out.mono ?_
  rintro e w3 ⟨rfl, rfl⟩
  have HY := Lib.hid (bytes_any (m := z.natAbs) z rfl Hx.out.1 (by have := Hx.out.2.1; omega))
  go_wp2_with fail
  refine HY.out.mono ?_
  rintro e w4 ⟨A, n, rfl, hn, hr, hb4⟩
  have hstr := run_str (c := n) hn.out hr
  have hbk := (Blk.new w 34 #[.bool false, .string ⟨#[]⟩]).below hb4 (by simp)
  have d0 := hbk.cell 0
  have d1 := hbk.cell 1
  have f0 := hbk.frozen 0
  have f1 := hbk.frozen 1
  have Hb24 := Lib.hid (And.intro hbk hb4)
  clear hbk hb4 hr
  go_wp2_with fail
  refine bodyPost_ret (v := .agg #[.bool (decide (sv < 0)), .string ⟨(bys z.natAbs).toArray⟩]) (by simp [results, Tryz.results93, go_sem, d0, d1]) rfl ?_
  refine ⟨?_, ?_⟩
  · unfold enc
    rw [Hsv.out, sg_neg]
  · exact ((Hx.out.2.2.trans (Hb24.out.2.mono (by simp))).setCell (Nat.le_refl _) _).setCell (Nat.le_refl _) _

/-- two numbers as a value -/
def encF (a b : Int) : Value := .agg #[.bool (decide (a < 0)), .string ⟨(bys a.natAbs).toArray⟩, .bool (decide (b < 0)), .string ⟨(bys b.natAbs).toArray⟩]

set_option maxRecDepth 100000 in
set_option maxHeartbeats 4000000 in
theorem toldf_any {w : World} {g : Nat} {a b : Int} (hr : RatB w g a b) (hal : (wds a.natAbs).length ≤ 100000000) (hbl : (wds b.natAbs).length ≤ 100000000) :
    Calls Tryz.prog 103 #[.pointer (some ⟨g, 0, none⟩)] w (fun e w' => e = .returned (encF a b) ∧ Below w.heap.size w w') := by
  have hb0 := new_below w (.cells #[.bool false, .string ⟨#[]⟩, .bool false, .string ⟨#[]⟩] 36)
  have hr0 := hr.below hb0
  have HN := Lib.hid (num_new hr0 (by omega))
  have Hr := Lib.hid (And.intro hr0 (And.intro hal hbl))
  have Hb := Lib.hid hb0
  clear hr hr0 hal hbl hb0
  go_enter Tryz.func103, Tryz.ntmps103
  go_wp2_with fail
  refine HN.out.mono ?_
  rintro _ W1 ⟨g1, rfl, hl1, hi1, hb1⟩
  have HB1 := Lib.hid (back_any hi1 Hr.out.2.1)
  have Hi1 := Lib.hid hb1
  clear hl1 hi1 hb1
  go_wp2_with fail
  refine HB1.out.mono ?_
  rintro _ W2 ⟨rfl, hb2⟩
  have hb12 := Hi1.out.trans (hb2.mono Hi1.out.size)
  have HD := Lib.hid (denom_new (Hr.out.1.below hb12) (by have := Hr.out.2.2; omega))
  have H12 := Lib.hid hb12
  clear hb2 hb12
  unfold enc
  go_wp2_with fail
  refine HD.out.mono ?_
  rintro _ W3 ⟨g3, rfl, hl3, hi3, hb3⟩
  have HB3 := Lib.hid (back_any hi3 Hr.out.2.2)
  have H13 := Lib.hid (H12.out.trans (hb3.mono H12.out.size))
  clear hl3 hi3 hb3
  go_wp2_with fail
  refine HB3.out.mono ?_
  rintro _ W4 ⟨rfl, hb4⟩
  have h14 := H13.out.trans (hb4.mono H13.out.size)
  have hbk := (Blk.new w 36 #[.bool false, .string ⟨#[]⟩, .bool false, .string ⟨#[]⟩]).below h14 (by simp)
  have d0 := hbk.cell 0
  have d1 := hbk.cell 1
  have d2 := hbk.cell 2
  have d3 := hbk.cell 3
  have f0 := hbk.frozen 0
  have f1 := hbk.frozen 1
  have f2 := hbk.frozen 2
  have f3 := hbk.frozen 3
  have H14 := Lib.hid (Hb.out.trans (h14.mono Hb.out.size))
  clear hbk hb4 h14
  unfold enc
  go_wp2_with fail
  refine bodyPost_ret (v := encF a b) (by simp [results, Tryz.results103, go_sem, d0, d1, d2, d3, encF]) rfl ?_
  exact ⟨rfl, (((H14.out.setCell (Nat.le_refl _) _).setCell (Nat.le_refl _) _).setCell (Nat.le_refl _) _).setCell (Nat.le_refl _) _⟩
end Go.Proofs.YtebpggfccljagaaGreatDoor

/- == of whole numbers, of fractions. -/
namespace Go.Proofs.YtebpggfccljagaaGreatDoor
open Go.RowKit
theorem tl_inj {a b : ByteArray} (h : a.toList = b.toList) : a = b := by
  rw [toL, toL] at h
  cases a; cases b
  simp only at h
  rw [Array.toList_inj.1 h]
theorem eql_fr (x0 x1 y0 y1 : Bool) (s0 s1 t0 t1 : ByteArray) (w : World) :
    (binOp .eql 36 (.agg #[.bool x0, .string s0, .bool x1, .string s1]) (.agg #[.bool y0, .string t0, .bool y1, .string t1])).run Tryz.prog w = .ok (.bool (decide (x0 = y0 ∧ s0 = t0 ∧ x1 = y1 ∧ s1 = t1))) w := by
  by_cases h0 : x0 = y0 <;> by_cases h1 : s0 = t0 <;> by_cases h2 : x1 = y1 <;> by_cases h3 : s1 = t1 <;> (try subst h0) <;> (try subst h1) <;> (try subst h2) <;> (try subst h3) <;> go_simp <;>
    (first | done | simp_all | exact fun h => h1 (tl_inj h) | exact fun h => h3 (tl_inj h) | exact fun h _ => h1 (tl_inj h))
theorem eql_wh (x0 y0 : Bool) (s0 t0 : ByteArray) (w : World) :
    (binOp .eql 34 (.agg #[.bool x0, .string s0]) (.agg #[.bool y0, .string t0])).run Tryz.prog w = .ok (.bool (decide (x0 = y0 ∧ s0 = t0))) w := by
  by_cases h0 : x0 = y0 <;> by_cases h1 : s0 = t0 <;> (try subst h0) <;> (try subst h1) <;> go_simp <;> (first | done | simp_all | exact fun h => h1 (tl_inj h))
theorem neq_wh (x0 y0 : Bool) (s0 t0 : ByteArray) (w : World) :
    (binOp .neq 34 (.agg #[.bool x0, .string s0]) (.agg #[.bool y0, .string t0])).run Tryz.prog w = .ok (.bool (!decide (x0 = y0 ∧ s0 = t0))) w := by
  by_cases h0 : x0 = y0 <;> by_cases h1 : s0 = t0 <;> (try subst h0) <;> (try subst h1) <;> go_simp <;> (first | done | simp_all | exact fun h => h1 (tl_inj h))
end Go.Proofs.YtebpggfccljagaaGreatDoor

/- frac.short, May. -/
namespace Go.Proofs.YtebpggfccljagaaGreatDoor
open Go.RowKit
open Wh
set_option linter.unusedSimpArgs false

set_option maxRecDepth 100000 in
theorem shortf_any (n : Bool) (s : ByteArray) (w : World) :
    Calls Tryz.prog 117 #[.agg #[.bool n, .string s]] w (fun e w' => e = .returned (.bool (decide ((s.size : Int) ≤ 1024))) ∧ Below w.heap.size w w') := by
  have hb := new_below w (.cells #[.bool n, .string s] 34)
  go_enter Tryz.func117, Tryz.ntmps117
  go_wp2_with fail
  go_ret
  exact ⟨rfl, hb⟩

theorem len_numG {n : Bool} {s : ByteArray} (h : s.data.toList.length ≤ 16384) : (wds (num (n, s)).natAbs).length ≤ 100000000 := by
  have h1 := len_mag h
  unfold num
  rw [sgn_abs]
  exact Nat.le_trans h1 (by decide)
theorem num_back (z : Int) : num (decide (z < 0), ⟨(bys z.natAbs).toArray⟩) = z := by
  unfold num
  show sgn (decide (z < 0)) (bval (bys z.natAbs).toArray.toList) = z
  rw [List.toList_toArray, bval_b, sgn_of]
theorem enc_parts {n : Bool} {s : ByteArray} (h : MayL n s.data.toList) : decide (num (n, s) < 0) = n ∧ (⟨(bys (num (n, s)).natAbs).toArray⟩ : ByteArray) = s := by
  have := may_num h
  unfold enc at this
  simpa using this
/-- lowest terms, by what is told -/
theorem low_iff {na nb x0 x1 : Bool} {sa sb t0 t1 : ByteArray} (ha : MayL na sa.data.toList) (hb : MayL nb sb.data.toList) (hp : 0 < num (nb, sb))
    (hV : encF ((num (na, sa)).tdiv (Nat.gcd (num (na, sa)).natAbs (num (nb, sb)).natAbs : Int)) ((num (nb, sb)).tdiv (Nat.gcd (num (na, sa)).natAbs (num (nb, sb)).natAbs : Int)) = .agg #[.bool x0, .string t0, .bool x1, .string t1]) :
    (x0 = na ∧ t0 = sa ∧ x1 = nb ∧ t1 = sb) ↔ Nat.gcd (num (na, sa)).natAbs (num (nb, sb)).natAbs = 1 := by
  have pa := enc_parts ha
  have pb := enc_parts hb
  obtain ⟨a, hae⟩ : ∃ a, a = num (na, sa) := ⟨_, rfl⟩
  obtain ⟨b, hbe⟩ : ∃ b, b = num (nb, sb) := ⟨_, rfl⟩
  rw [← hae, ← hbe] at hV ⊢
  rw [← hae] at pa
  rw [← hbe] at pb hp
  obtain ⟨G, hG⟩ : ∃ G, G = Nat.gcd a.natAbs b.natAbs := ⟨_, rfl⟩
  rw [← hG] at hV ⊢
  have hq := num_back (b.tdiv (G : Int))
  have hG0 : 0 < G := by rw [hG]; exact Nat.gcd_pos_of_pos_right _ (by omega)
  obtain ⟨k, hk⟩ : G ∣ b.natAbs := by rw [hG]; exact Nat.gcd_dvd_right _ _
  unfold encF at hV
  simp only [Value.agg.injEq, Array.mk.injEq, List.cons.injEq, Value.bool.injEq, Value.string.injEq, and_true] at hV
  obtain ⟨v0, v1, v2, v3⟩ := hV
  constructor
  · rintro ⟨rfl, rfl, rfl, rfl⟩
    rw [v2, v3, ← hbe] at hq
    have e : b = (G : Int) * (k : Int) := by
      have : (b.natAbs : Int) = b := by omega
      rw [← this, hk]; push_cast; rfl
    have hkb : (k : Int) = b := by
      have h1 : b.tdiv (G : Int) = (k : Int) := by rw [e, Int.mul_comm (G : Int)]; exact Int.mul_tdiv_cancel _ (by omega)
      rw [← h1]; exact hq.symm
    rw [hkb] at e
    have h1 : b * ((G : Int) - 1) = 0 := by
      rw [Int.mul_sub, Int.mul_one, Int.mul_comm, ← e]; omega
    rcases Int.mul_eq_zero.1 h1 with h | h
    · omega
    · omega
  · intro h
    rw [h] at v0 v1 v2 v3
    simp only [Int.natCast_one, Int.tdiv_one] at v0 v1 v2 v3
    exact ⟨by rw [← v0]; exact pa.1, by rw [← v1]; exact pa.2, by rw [← v2]; exact pb.1, by rw [← v3]; exact pb.2⟩
/-- a block that a call lays for itself stays -/
def Box (w0 w : World) (t : TypeId) (cs : Array Value) : Prop := Blk w w0.heap.size t cs ∧ Below w0.heap.size w0 w
theorem Box.new (w0 : World) (t : TypeId) (cs : Array Value) : Box w0 (w0.alloc (.cells cs t)) t cs := ⟨Blk.new w0 t cs, new_below _ _⟩
theorem Box.next {w0 w w' : World} {t : TypeId} {cs : Array Value} (h : Box w0 w t cs) (hb : Below w.heap.size w w') : Box w0 w' t cs := ⟨h.1.below hb h.1.lt, h.2.trans (hb.mono h.2.size)⟩
/-- may a fraction be? -/
structure MayFr (na : Bool) (sa : ByteArray) (nb : Bool) (sb : ByteArray) : Prop where
  a : MayL na sa.data.toList
  b : MayL nb sb.data.toList
  al : sa.size ≤ 1024
  bl : sb.size ≤ 1024
  pos : 0 < num (nb, sb)
  low : Nat.gcd (num (na, sa)).natAbs (num (nb, sb)).natAbs = 1

set_option maxRecDepth 100000 in
set_option maxHeartbeats 4000000 in
theorem mayf_last {w : World} {na nb : Bool} {sa sb : ByteArray} (ha : MayL na sa.data.toList) (hb : MayL nb sb.data.toList) (hal : sa.size ≤ 1024) (hbl : sb.size ≤ 1024) (hp : 0 < num (nb, sb)) {r : Bool}
    (hr : r = decide (Nat.gcd (num (na, sa)).natAbs (num (nb, sb)).natAbs = 1)) :
    Calls Tryz.prog 91 #[.agg #[.bool na, .string sa, .bool nb, .string sb]] w (fun e w' => e = .returned (.bool r) ∧ Below w.heap.size w w') := by
  have H1 := Lib.hid (fun W => check_ok (w := W) ha)
  have H2 := Lib.hid (fun W => check_ok (w := W) hb)
  have S1 := Lib.hid (shortf_any na sa)
  have S2 := Lib.hid (shortf_any nb sb)
  have HG : Hid (∀ W, Calls Tryz.prog 118 #[.agg #[.bool nb, .string sb]] W (fun e w' => e = .returned (.int .i64 1) ∧ Below W.heap.size W w')) := by
    refine Lib.hid (fun W => (wsign_any (w := W) (na := nb) (sa := sb)).mono ?_)
    rintro e w' ⟨h1, _, h3⟩
    refine ⟨?_, h3⟩
    rw [h1 hb]; unfold sg; rw [if_neg (by omega), if_neg (by omega)]
  have HR := Lib.hid (fun W => ratf_any (w := W) (na := na) (nb := nb) ha.1 hb.1 hp)
  obtain ⟨x0, t0, x1, t1, hV⟩ : ∃ x0 t0 x1 t1, encF ((num (na, sa)).tdiv (Nat.gcd (num (na, sa)).natAbs (num (nb, sb)).natAbs : Int)) ((num (nb, sb)).tdiv (Nat.gcd (num (na, sa)).natAbs (num (nb, sb)).natAbs : Int)) = .agg #[.bool x0, .string t0, .bool x1, .string t1] := ⟨_, _, _, _, rfl⟩
  have HT : Hid (∀ (W : World) (g : Nat), RatB W g ((num (na, sa)).tdiv (Nat.gcd (num (na, sa)).natAbs (num (nb, sb)).natAbs : Int)) ((num (nb, sb)).tdiv (Nat.gcd (num (na, sa)).natAbs (num (nb, sb)).natAbs : Int)) → Calls Tryz.prog 103 #[.pointer (some ⟨g, 0, none⟩)] W (fun e w' => e = .returned (.agg #[.bool x0, .string t0, .bool x1, .string t1]) ∧ Below W.heap.size W w')) := by
    refine Lib.hid (fun W g h => ?_)
    rw [← hV]
    exact toldf_any h (Nat.le_trans (len_mono (by rw [Int.natAbs_tdiv]; exact Nat.div_le_self _ _)) (len_numG ha.1)) (Nat.le_trans (len_mono (by rw [Int.natAbs_tdiv]; exact Nat.div_le_self _ _)) (len_numG hb.1))
  have heq : ∀ W, (binOp .eql 36 (.agg #[.bool x0, .string t0, .bool x1, .string t1]) (.agg #[.bool na, .string sa, .bool nb, .string sb])).run Tryz.prog W = .ok (.bool r) W := fun W => by
    rw [eql_fr, hr]
    congr 2
    exact decide_eq_decide.2 (low_iff ha hb hp hV)
  clear hV hr
  have i1 : (sa.size : Int) ≤ 1024 := by omega
  have i2 : (sb.size : Int) ≤ 1024 := by omega
  clear hal hbl
  go_enter Tryz.func91, Tryz.ntmps91
  have hbx := Box.new w 36 #[.bool na, .string sa, .bool nb, .string sb]
  go_wp2_with (first
    | (go_at_call 116; (with_reducible refine (H1.out _).mono ?_); rintro _ W1 ⟨rfl, hb1⟩; have hbx := hbx.next hb1; have c0 := hbx.1.cell 0; have c1 := hbx.1.cell 1; have c2 := hbx.1.cell 2; have c3 := hbx.1.cell 3; clear hb1)
    | (go_at_call 116; (with_reducible refine (H2.out _).mono ?_); rintro _ W2 ⟨rfl, hb1⟩; have hbx := hbx.next hb1; have c0 := hbx.1.cell 0; have c1 := hbx.1.cell 1; have c2 := hbx.1.cell 2; have c3 := hbx.1.cell 3; clear hb1)
    | (go_at_call 117; (with_reducible refine (S1.out _).mono ?_); rintro _ W3 ⟨rfl, hb1⟩; have hbx := hbx.next hb1; have c0 := hbx.1.cell 0; have c1 := hbx.1.cell 1; have c2 := hbx.1.cell 2; have c3 := hbx.1.cell 3; clear hb1)
    | (go_at_call 117; (with_reducible refine (S2.out _).mono ?_); rintro _ W4 ⟨rfl, hb1⟩; have hbx := hbx.next hb1; have c0 := hbx.1.cell 0; have c1 := hbx.1.cell 1; have c2 := hbx.1.cell 2; have c3 := hbx.1.cell 3; clear hb1)
    | (go_at_call 118; (with_reducible refine (HG.out _).mono ?_); rintro _ W5 ⟨rfl, hb1⟩; have hbx := hbx.next hb1; have c0 := hbx.1.cell 0; have c1 := hbx.1.cell 1; have c2 := hbx.1.cell 2; have c3 := hbx.1.cell 3; clear hb1))
  have hbs := hbx
  have hsz0 := hbx.1.lt
  go_region_held3 (fun w' => w'.cell? ⟨w.heap.size, 0, none⟩ = some (.bool na) ∧ w'.cell? ⟨w.heap.size, 1, none⟩ = some (.string sa) ∧ w'.cell? ⟨w.heap.size, 2, none⟩ = some (.bool nb) ∧ w'.cell? ⟨w.heap.size, 3, none⟩ = some (.string sb))
    (first
      | go_keep
      | (rw [hb6.cell (by show w.heap.size < _; simpa using hsz0), hb6.cell (by show w.heap.size < _; simpa using hsz0), hb6.cell (by show w.heap.size < _; simpa using hsz0), hb6.cell (by show w.heap.size < _; simpa using hsz0)]; go_keep)
      | (rw [hb7.cell (by show w.heap.size < _; omega), hb7.cell (by show w.heap.size < _; omega), hb7.cell (by show w.heap.size < _; omega), hb7.cell (by show w.heap.size < _; omega)]; go_keep))
    (first
      | (go_at_call 119; (with_reducible refine (HR.out _).mono ?_); rintro _ W6 ⟨g6, rfl, hl6, hr6, hb6⟩; have z6 : w.heap.size < W6.heap.size := (by have := hb6.size; simp at this; omega))
      | (go_at_call 103; (with_reducible refine (HT.out _ _ hr6).mono ?_); rintro _ W7 ⟨rfl, hb7⟩; have z7 := hb7.size))
  go_wp2_with fail
  go_ret
  exact ⟨rfl, (hbs.2.drew.trans (hb6.mono (by simp; exact hbs.2.size))).trans (hb7.mono (by omega))⟩

set_option maxRecDepth 100000 in
set_option maxHeartbeats 2000000 in
theorem mayf_no1 {w : World} {na nb : Bool} {sa sb : ByteArray} (ha : ¬ MayL na sa.data.toList) :
    Calls Tryz.prog 91 #[.agg #[.bool na, .string sa, .bool nb, .string sb]] w (fun e w' => e = .returned (.bool false) ∧ Below w.heap.size w w') := by
  have H1 := Lib.hid (fun W => check_no (w := W) ha)
  clear ha
  go_enter Tryz.func91, Tryz.ntmps91
  have hbx := Box.new w 36 #[.bool na, .string sa, .bool nb, .string sb]
  go_wp2_with (first
    | (go_at_call 116; (with_reducible refine (H1.out _).mono ?_); rintro _ _ ⟨rfl, hb1⟩; have hbx := hbx.next hb1; have c0 := hbx.1.cell 0; have c1 := hbx.1.cell 1; have c2 := hbx.1.cell 2; have c3 := hbx.1.cell 3; clear hb1))
  go_ret
  exact ⟨rfl, hbx.2⟩

set_option maxRecDepth 100000 in
set_option maxHeartbeats 2000000 in
theorem mayf_no2 {w : World} {na nb : Bool} {sa sb : ByteArray} (ha : MayL na sa.data.toList) (hb : ¬ MayL nb sb.data.toList) :
    Calls Tryz.prog 91 #[.agg #[.bool na, .string sa, .bool nb, .string sb]] w (fun e w' => e = .returned (.bool false) ∧ Below w.heap.size w w') := by
  have H1 := Lib.hid (fun W => check_ok (w := W) ha)
  have H2 := Lib.hid (fun W => check_no (w := W) hb)
  clear ha hb
  go_enter Tryz.func91, Tryz.ntmps91
  have hbx := Box.new w 36 #[.bool na, .string sa, .bool nb, .string sb]
  go_wp2_with (first
    | (go_at_call 116; (with_reducible refine (H1.out _).mono ?_); rintro _ _ ⟨rfl, hb1⟩; have hbx := hbx.next hb1; have c0 := hbx.1.cell 0; have c1 := hbx.1.cell 1; have c2 := hbx.1.cell 2; have c3 := hbx.1.cell 3; clear hb1)
    | (go_at_call 116; (with_reducible refine (H2.out _).mono ?_); rintro _ _ ⟨rfl, hb1⟩; have hbx := hbx.next hb1; have c0 := hbx.1.cell 0; have c1 := hbx.1.cell 1; have c2 := hbx.1.cell 2; have c3 := hbx.1.cell 3; clear hb1))
  go_ret
  exact ⟨rfl, hbx.2⟩

set_option maxRecDepth 100000 in
set_option maxHeartbeats 2000000 in
theorem mayf_no3 {w : World} {na nb : Bool} {sa sb : ByteArray} (ha : MayL na sa.data.toList) (hb : MayL nb sb.data.toList) (hal : ¬ (sa.size : Int) ≤ 1024) :
    Calls Tryz.prog 91 #[.agg #[.bool na, .string sa, .bool nb, .string sb]] w (fun e w' => e = .returned (.bool false) ∧ Below w.heap.size w w') := by
  have H1 := Lib.hid (fun W => check_ok (w := W) ha)
  have H2 := Lib.hid (fun W => check_ok (w := W) hb)
  have S1 := Lib.hid (shortf_any na sa)
  clear ha hb
  go_enter Tryz.func91, Tryz.ntmps91
  have hbx := Box.new w 36 #[.bool na, .string sa, .bool nb, .string sb]
  go_wp2_with (first
    | (go_at_call 116; (with_reducible refine (H1.out _).mono ?_); rintro _ _ ⟨rfl, hb1⟩; have hbx := hbx.next hb1; have c0 := hbx.1.cell 0; have c1 := hbx.1.cell 1; have c2 := hbx.1.cell 2; have c3 := hbx.1.cell 3; clear hb1)
    | (go_at_call 116; (with_reducible refine (H2.out _).mono ?_); rintro _ _ ⟨rfl, hb1⟩; have hbx := hbx.next hb1; have c0 := hbx.1.cell 0; have c1 := hbx.1.cell 1; have c2 := hbx.1.cell 2; have c3 := hbx.1.cell 3; clear hb1)
    | (go_at_call 117; (with_reducible refine (S1.out _).mono ?_); rintro _ _ ⟨rfl, hb1⟩; have hbx := hbx.next hb1; have c0 := hbx.1.cell 0; have c1 := hbx.1.cell 1; have c2 := hbx.1.cell 2; have c3 := hbx.1.cell 3; clear hb1))
  go_ret
  exact ⟨rfl, hbx.2⟩

set_option maxRecDepth 100000 in
set_option maxHeartbeats 2000000 in
theorem mayf_no4 {w : World} {na nb : Bool} {sa sb : ByteArray} (ha : MayL na sa.data.toList) (hb : MayL nb sb.data.toList) (hal : (sa.size : Int) ≤ 1024) (hbl : ¬ (sb.size : Int) ≤ 1024) :
    Calls Tryz.prog 91 #[.agg #[.bool na, .string sa, .bool nb, .string sb]] w (fun e w' => e = .returned (.bool false) ∧ Below w.heap.size w w') := by
  have H1 := Lib.hid (fun W => check_ok (w := W) ha)
  have H2 := Lib.hid (fun W => check_ok (w := W) hb)
  have S1 := Lib.hid (shortf_any na sa)
  have S2 := Lib.hid (shortf_any nb sb)
  clear ha hb
  go_enter Tryz.func91, Tryz.ntmps91
  have hbx := Box.new w 36 #[.bool na, .string sa, .bool nb, .string sb]
  go_wp2_with (first
    | (go_at_call 116; (with_reducible refine (H1.out _).mono ?_); rintro _ _ ⟨rfl, hb1⟩; have hbx := hbx.next hb1; have c0 := hbx.1.cell 0; have c1 := hbx.1.cell 1; have c2 := hbx.1.cell 2; have c3 := hbx.1.cell 3; clear hb1)
    | (go_at_call 116; (with_reducible refine (H2.out _).mono ?_); rintro _ _ ⟨rfl, hb1⟩; have hbx := hbx.next hb1; have c0 := hbx.1.cell 0; have c1 := hbx.1.cell 1; have c2 := hbx.1.cell 2; have c3 := hbx.1.cell 3; clear hb1)
    | (go_at_call 117; (with_reducible refine (S1.out _).mono ?_); rintro _ _ ⟨rfl, hb1⟩; have hbx := hbx.next hb1; have c0 := hbx.1.cell 0; have c1 := hbx.1.cell 1; have c2 := hbx.1.cell 2; have c3 := hbx.1.cell 3; clear hb1)
    | (go_at_call 117; (with_reducible refine (S2.out _).mono ?_); rintro _ _ ⟨rfl, hb1⟩; have hbx := hbx.next hb1; have c0 := hbx.1.cell 0; have c1 := hbx.1.cell 1; have c2 := hbx.1.cell 2; have c3 := hbx.1.cell 3; clear hb1))
  go_ret
  exact ⟨rfl, hbx.2⟩

set_option maxRecDepth 100000 in
set_option maxHeartbeats 2000000 in
theorem mayf_no5 {w : World} {na nb : Bool} {sa sb : ByteArray} (ha : MayL na sa.data.toList) (hb : MayL nb sb.data.toList) (hal : (sa.size : Int) ≤ 1024) (hbl : (sb.size : Int) ≤ 1024) {z : Int} (hz : z = sg (num (nb, sb))) (hz0 : z ≤ 0) :
    Calls Tryz.prog 91 #[.agg #[.bool na, .string sa, .bool nb, .string sb]] w (fun e w' => e = .returned (.bool false) ∧ Below w.heap.size w w') := by
  have H1 := Lib.hid (fun W => check_ok (w := W) ha)
  have H2 := Lib.hid (fun W => check_ok (w := W) hb)
  have S1 := Lib.hid (shortf_any na sa)
  have S2 := Lib.hid (shortf_any nb sb)
  have HG : Hid (∀ W, Calls Tryz.prog 118 #[.agg #[.bool nb, .string sb]] W (fun e w' => e = .returned (.int .i64 z) ∧ Below W.heap.size W w')) := by
    refine Lib.hid (fun W => (wsign_any (w := W) (na := nb) (sa := sb)).mono ?_)
    rintro e w' ⟨h1, _, h3⟩
    exact ⟨by rw [h1 hb, hz], h3⟩
  clear ha hb hz
  go_enter Tryz.func91, Tryz.ntmps91
  have hbx := Box.new w 36 #[.bool na, .string sa, .bool nb, .string sb]
  go_wp2_with (first
    | (go_at_call 116; (with_reducible refine (H1.out _).mono ?_); rintro _ _ ⟨rfl, hb1⟩; have hbx := hbx.next hb1; have c0 := hbx.1.cell 0; have c1 := hbx.1.cell 1; have c2 := hbx.1.cell 2; have c3 := hbx.1.cell 3; clear hb1)
    | (go_at_call 116; (with_reducible refine (H2.out _).mono ?_); rintro _ _ ⟨rfl, hb1⟩; have hbx := hbx.next hb1; have c0 := hbx.1.cell 0; have c1 := hbx.1.cell 1; have c2 := hbx.1.cell 2; have c3 := hbx.1.cell 3; clear hb1)
    | (go_at_call 117; (with_reducible refine (S1.out _).mono ?_); rintro _ _ ⟨rfl, hb1⟩; have hbx := hbx.next hb1; have c0 := hbx.1.cell 0; have c1 := hbx.1.cell 1; have c2 := hbx.1.cell 2; have c3 := hbx.1.cell 3; clear hb1)
    | (go_at_call 117; (with_reducible refine (S2.out _).mono ?_); rintro _ _ ⟨rfl, hb1⟩; have hbx := hbx.next hb1; have c0 := hbx.1.cell 0; have c1 := hbx.1.cell 1; have c2 := hbx.1.cell 2; have c3 := hbx.1.cell 3; clear hb1)
    | (go_at_call 118; (with_reducible refine (HG.out _).mono ?_); rintro _ _ ⟨rfl, hb1⟩; have hbx := hbx.next hb1; have c0 := hbx.1.cell 0; have c1 := hbx.1.cell 1; have c2 := hbx.1.cell 2; have c3 := hbx.1.cell 3; clear hb1))
  go_ret
  exact ⟨rfl, hbx.2⟩

/-- frac.May -/
theorem mayf_any {w : World} {na nb : Bool} {sa sb : ByteArray} {r : Bool} (hr : r = true ↔ MayFr na sa nb sb) :
    Calls Tryz.prog 91 #[.agg #[.bool na, .string sa, .bool nb, .string sb]] w (fun e w' => e = .returned (.bool r) ∧ Below w.heap.size w w') := by
  have no : ¬ MayFr na sa nb sb → r = false := fun h => by
    cases r
    · rfl
    · exact absurd (hr.1 rfl) h
  by_cases ha : MayL na sa.data.toList
  · by_cases hb : MayL nb sb.data.toList
    · by_cases hal : sa.size ≤ 1024
      · by_cases hbl : sb.size ≤ 1024
        · by_cases hp : 0 < num (nb, sb)
          · refine mayf_last ha hb hal hbl hp ?_
            by_cases hg : Nat.gcd (num (na, sa)).natAbs (num (nb, sb)).natAbs = 1
            · rw [decide_eq_true hg]; exact hr.2 ⟨ha, hb, hal, hbl, hp, hg⟩
            · rw [decide_eq_false hg]; exact no fun h => hg h.low
          · rw [no fun h => hp h.pos]
            refine mayf_no5 ha hb (by omega) (by omega) rfl ?_
            unfold sg
            split
            · omega
            · rw [if_pos (by omega)]; omega
        · rw [no fun h => hbl h.bl]; exact mayf_no4 ha hb (by omega) (by omega)
      · rw [no fun h => hal h.al]; exact mayf_no3 ha hb (by omega)
    · rw [no fun h => hb h.b]; exact mayf_no2 ha hb
  · rw [no fun h => ha h.a]; exact mayf_no1 ha
end Go.Proofs.YtebpggfccljagaaGreatDoor

/- The law's long, bad, is, arg. -/
namespace Go.Proofs.YtebpggfccljagaaGreatDoor
open Go.RowKit
open Wh
set_option linter.unusedSimpArgs false

end Go.Proofs.YtebpggfccljagaaGreatDoor

/- The laws' common contracts: what is refused, what is long or bad, the reference's answers. -/
namespace Go.Proofs.YtebpggfccljagaaGreatDoor
open Go.RowKit
open Wh
set_option linter.unusedSimpArgs false

section
variable {w : World} {na nb : Bool} {sa sb : ByteArray} {z : Int} {s : Bool} {b : ByteArray}
end
end Go.Proofs.YtebpggfccljagaaGreatDoor

/- Common contracts of WholeTells. -/
namespace Go.Proofs.YtebpggfccljagaaGreatDoor
open Go.RowKit
open Wh
set_option linter.unusedSimpArgs false

section
variable {w : World} {na : Bool} {sa : ByteArray}
end
end Go.Proofs.YtebpggfccljagaaGreatDoor
