import Derived.Test.YtpnginnjbdedbaaC2
import Derived.Test.YtpnginnjbdedbaaC1
import Derived.Test.YtpnginnjbdedbaaC7
import Derived.Test.YtpnginnjbdedbaaC8
import Derived.Deep.CutRange
import Derived.Deep.CutBlock
/- The reference's up, down (printed by gen_rup.py). -/
namespace Go.Proofs.Ytpnginnjbdedbaa
open Go.RowKit
open Wh
set_option linter.unusedSimpArgs false

theorem up_add {cy x s : Nat} (hs : s < 32) (hc : cy < 2 ^ s) (hx : x < 4294967296) :
    IntKind.u64.wrap ((cy : Int) + IntKind.u64.wrap ((x : Int) * 2 ^ s)) = ((cy + x * 2 ^ s : Nat) : Int) ∧ (cy + x * 2 ^ s) / 4294967296 < 2 ^ s ∧ cy + x * 2 ^ s ≤ 9223372036854775807 := by
  have h1 : (2 : Nat) ^ s ≤ 2 ^ 31 := Nat.pow_le_pow_right (by decide) (by omega)
  have h2 : (x + 1) * 2 ^ s ≤ 4294967296 * 2 ^ s := Nat.mul_le_mul_right _ hx
  rw [Nat.add_mul, Nat.one_mul] at h2
  have e1 : ((x : Int) * 2 ^ s) = ((x * 2 ^ s : Nat) : Int) := by rw [Int.natCast_mul, Int.natCast_pow]; rfl
  refine ⟨?_, ?_, by omega⟩
  · rw [e1]
    generalize x * 2 ^ s = q at *
    rw [IntWalk.u64_in (q : Int) (by omega), IntWalk.u64_in _ (by omega)]
    omega
  · exact (Nat.div_lt_iff_lt_mul (by decide)).2 (by omega)

set_option maxRecDepth 100000 in
set_option maxHeartbeats 2000000 in
theorem rup_some {w : World} {B n m c : Nat} {A : Option Addr} {la : List Nat} (h1 : ReadsW w B A la) (hB : B ≤ w.heap.size) (hm : m = la.length) (hml : m ≤ 1000000000) (hnl : n ≤ 1000000000) (ha : Wd la) (hpos : 0 < m) :
    Calls Try.prog 77 #[.slice A m c, .int .i64 (n : Int)] w (CutW w (val la * 2 ^ n)) := by
  have Hm := Lib.hid hm
  have hmk : ∀ w : World, (Instr.makeSlice 80 (.int .i64 ((n : Int) / 32)) (.int .i64 ((n : Int) / 32 + (m : Int) + 1))).run Try.prog w = .ok (.slice (some ⟨w.heap.size, 0, none⟩) (n / 32) (n / 32 + m + 1)) (w.alloc (.cells (wcells (List.replicate (n / 32 + m + 1) 0)) 98)) := fun w => by
    have := run_makeWc (n / 32) (n / 32 + m + 1) (by omega) (by omega) w
    rw [← this]
    congr 3
  have hm0 : ((m : Int) == 0) = false := by simp; omega
  have hmne : ¬ m = 0 := by omega
  clear hm
  go_enter Try.func77, Try.ntmps77
  go_wp2
  go_loopg [5, 6, 7] m (fun k ov cy iv wr => ∃ (A' : Option Addr) (n' c' i c : Nat) (L : List Nat), ov = .slice A' n' c' ∧ cy = .int .u64 (c : Int) ∧ iv = .int .i64 (i : Int) ∧ k = m - i ∧ i ≤ m ∧ c < 4294967296 ∧ OwnW wr w.heap.size (.slice A' n' c') L ∧ Below w.heap.size w wr ∧
    Hid (L.length = n / 32 + i ∧ Wd L ∧ c < 2 ^ (n % 32) ∧ val L + 4294967296 ^ (n / 32 + i) * c = 2 ^ n * val (la.take i)))
  case atStart => exact ⟨_, _, _, 0, 0, List.replicate (n / 32) 0, rfl, rfl, rfl, by omega, by omega, by omega, OwnW.made w (by omega) (by omega), (Below.refl _ _).alloc (Nat.le_refl _) _, by simp, wd_zeros _, Nat.two_pow_pos _, by simp [val_nil, val_zeros]⟩
  case round =>
    obtain ⟨A', n', c', i, cy, L, rfl, rfl, rfl, hk, hi, hc, hown, hbel, hL⟩ := hrel
    have Hk := Lib.hid hk
    clear hk
    have h1' := h1.below (hbel.mono hB)
    have hsz := hbel.size
    by_cases hin : i < m
    · have hia : i < la.length := by rw [← Hm.out]; exact hin
      obtain ⟨ad, rfl, hb1, c1⟩ := h1'.at_ hia
      have w1 := wd_get ha _ hia
      have hii : (i : Int) < (m : Int) := by omega
      have E1 := Lib.hid (val_take_succ hia)
      clear h1' h1
      generalize hx : la[i] = x at *
      clear hx
      have hlo := up_add (Nat.mod_lt n (by decide)) hL.out.2.2.1 w1
      obtain ⟨T, hT⟩ : ∃ T : Nat, T = cy + x * 2 ^ (n % 32) := ⟨_, rfl⟩
      rw [← hT] at hlo
      obtain ⟨hso, ht1, ht2⟩ := hlo
      have HT := Lib.hid (And.intro hT ht1)
      have hLl : L.length ≤ 2000000000 := by have := hL.out.1; omega
      clear ht1 hT
      go_wp2_with (at_builtin; refine wpW_push rfl (.tmp 36) (.tmp 40) rfl w.heap.size _ L hown rfl (y := T % 4294967296) (by rw [Int.natCast_emod]; rfl) rfl (by omega) (by omega) ?_; intro A2 n2 c2 w1 ho hkeep _)
      rw [show (T : Int) / 4294967296 = ((T / 4294967296 : Nat) : Int) by omega]
      go_roundg (m - (i + 1))
      case measure => have := Hk.out; omega
      case rel =>
        refine ⟨A2, n2, c2, i + 1, T / 4294967296, L ++ [T % 4294967296], rfl, rfl, rfl, rfl, by omega, by omega, ho, hkeep w hbel, ?_⟩
        have hl := hL.out
        refine ⟨by rw [List.length_append, hl.1]; rfl, wd_append.2 ⟨hl.2.1, wd_cons.2 ⟨Nat.mod_lt _ (by decide), wd_nil⟩⟩, HT.out.2, ?_⟩
        rw [val_snoc, hl.1, E1.out, Nat.mul_add, ← Nat.add_assoc, Nat.pow_succ]
        rw [← Nat.mul_assoc (2 ^ n)]
        exact left_step hl.2.2.2 HT.out.1 (left_pow n i).symm
    · have hi' : i = m := by omega
      subst hi'
      have hl := hL.out
      have hz : val (L ++ [cy]) = val la * 2 ^ n := by
        rw [val_snoc, hl.1, hl.2.2.2, List.take_of_length_le (by rw [Hm.out]; exact Nat.le_refl _), Nat.mul_comm]
      have Hz := Lib.hid hz
      have hLl : L.length ≤ 2000000000 := by have := hl.1; omega
      have Hw := Lib.hid (wd_append.2 ⟨hl.2.1, wd_cons.2 ⟨hc, wd_nil⟩⟩)
      have hcc : (cy : Int) % 4294967296 = (cy : Int) := by omega
      clear h1' h1 hz hl
      go_wp2_with (at_builtin; refine wpW_push rfl (.tmp 44) (.tmp 47) rfl w.heap.size _ L hown rfl (y := cy) rfl rfl (by omega) (by omega) ?_; intro A2 n2 c2 w1 ho hkeep _)
      have hcut := rcut_any ho.reads ho.len.1 ho.len.2.1 ho.len.2.2 Hw.out
      have Hc := Lib.hid (And.intro ho hcut)
      have Hk2 := Lib.hid (hkeep w hbel)
      clear ho hcut hkeep
      go_wp2_with (go_at_call 86; refine Hc.out.2.mono ?_; rintro e w' ⟨q, rfl, hq, rfl⟩; have Hq := Lib.hid hq; clear hq)
      go_ret
      have hwt := (wds_take _ _ rfl Hw.out).2
      have hn2 := Hc.out.1.len
      refine ⟨_, _, _, rfl, by rw [← Hz.out]; exact Hq.out, ?_, hn2.2.2, by rw [← Hz.out]; exact reads_cut Hc.out.1.reads Hw.out, Hk2.out⟩
      have := Hq.out
      omega
set_option maxRecDepth 100000 in
theorem rup_none {w : World} {n c : Nat} {A : Option Addr} :
    Calls Try.prog 77 #[.slice A 0 c, .int .i64 (n : Int)] w (CutW w 0) := by
  go_enter Try.func77, Try.ntmps77
  go_wp2
  go_ret
  exact ⟨none, 0, 0, rfl, by rw [wds_zero]; rfl, by omega, by omega, by rw [wds_zero]; exact ReadsW.none_ _ _ _, Below.refl _ _⟩
theorem rup_any {w : World} {B n m c : Nat} {A : Option Addr} {la : List Nat} (h1 : ReadsW w B A la) (hB : B ≤ w.heap.size) (hm : m = la.length) (hml : m ≤ 1000000000) (hnl : n ≤ 1000000000) (ha : Wd la) :
    Calls Try.prog 77 #[.slice A m c, .int .i64 (n : Int)] w (CutW w (val la * 2 ^ n)) := by
  rcases Nat.eq_zero_or_pos m with h | h
  · have h2 : la = [] := List.eq_nil_of_length_eq_zero (by omega)
    subst h2
    rw [h, val_nil, Nat.zero_mul]
    exact rup_none
  · exact rup_some h1 hB hm hml hnl ha h
theorem at_drop (la : List Nat) (k i : Nat) : at_ (la.drop k) i = at_ la (k + i) := by
  unfold at_
  rw [List.getD_eq_getElem?_getD, List.getD_eq_getElem?_getD, List.getElem?_drop]
theorem down_val {la : List Nat} (ha : Wd la) (n : Nat) : val la / 2 ^ n = val (la.drop (n / 32)) / 2 ^ (n % 32) := by
  rcases Nat.lt_or_ge (n / 32) la.length with h | h
  · exact div_words ha (by omega)
  · rw [List.drop_of_length_le h, val_nil, Nat.zero_div]
    refine Nat.div_eq_of_lt ?_
    have h1 := val_lt ha
    have h2 : 4294967296 ^ la.length ≤ 2 ^ n := by
      rw [show (4294967296 : Nat) = 2 ^ 32 by decide, ← Nat.pow_mul]
      exact Nat.pow_le_pow_right (by decide) (by omega)
    omega
theorem down_q {x y s : Nat} : (((y : Int) * 4294967296 + (x : Int)) / 2 ^ s) % 4294967296 = (((x + 4294967296 * y) / 2 ^ s % 4294967296 : Nat) : Int) := by
  rw [Int.natCast_emod, Int.natCast_ediv, Int.natCast_pow]
  congr 2
  omega
set_option maxRecDepth 100000 in
set_option maxHeartbeats 2000000 in
theorem rdown_any {w : World} {B n m c : Nat} {A : Option Addr} {la : List Nat} (h1 : ReadsW w B A la) (hB : B ≤ w.heap.size) (hm : m = la.length) (hml : m ≤ 1000000000) (hnl : n ≤ 1000000000) (ha : Wd la) :
    Calls Try.prog 78 #[.slice A m c, .int .i64 (n : Int)] w (CutW w (val la / 2 ^ n)) := by
  have Hm := Lib.hid (And.intro hm ha)
  have Hv := Lib.hid (down_val ha n)
  have H1 := Lib.hid h1
  obtain ⟨ld, hld⟩ : ∃ ld, ld = la.drop (n / 32) := ⟨_, rfl⟩
  rw [← hld] at Hv
  obtain ⟨p, hp⟩ : ∃ p, p = m - n / 32 := ⟨_, rfl⟩
  have hpl : p = ld.length := by rw [hld, List.length_drop]; omega
  have Hp := Lib.hid (And.intro hp (And.intro hpl hld))
  have hpb : p ≤ 1000000000 := by omega
  clear hm ha h1 hld hp hpl
  go_enter Try.func78, Try.ntmps78
  go_wp2_with fail
  go_loopg [5, 6] p (fun k ov iv wr => ∃ (A' : Option Addr) (n' c' t i : Nat) (L : List Nat), ov = .slice A' n' c' ∧ iv = .int .i64 (i : Int) ∧ Hid (i = n / 32 + t) ∧ k = p - t ∧ t ≤ p ∧ OwnW wr w.heap.size (.slice A' n' c') L ∧ Below w.heap.size w wr ∧
    Hid (L.length = t ∧ Wd L ∧ 2 ^ (n % 32) * val L + at_ ld 0 % 2 ^ (n % 32) = val (ld.take t) + 4294967296 ^ t * (at_ ld t % 2 ^ (n % 32))))
  case atStart => exact ⟨_, _, _, 0, n / 32, [], rfl, rfl, Lib.hid rfl, by omega, by omega, OwnW.nil w _, Below.refl _ _, rfl, wd_nil, by simp [val_nil]⟩
  case round =>
    obtain ⟨A', n', c', t, i, L, rfl, rfl, Hi, hk, ht, hown, hbel, hL⟩ := hrel
    have Hk := Lib.hid hk
    clear hk
    have hsz := hbel.size
    by_cases hin : i < m
    · have hil : i < la.length := by rw [← Hm.out.1]; exact hin
      have hid : t < ld.length := by rw [← Hp.out.2.1]; have := Hp.out.1; have := Hi.out; omega
      have hrd := (H1.out.below (hbel.mono hB))
      have HR' : Calls Try.prog 93 #[.slice A m c, .int .i64 ((i : Int) + 1)] wr.drew (fun e w' => e = .returned (.int .u64 ((at_ la (i + 1) : Nat) : Int)) ∧ w' = wr.drew) := by
        have := rat_any (w := wr.drew) (c := c) (i := i + 1) hrd Hm.out.1 Hm.out.2
        exact this
      obtain ⟨ad, rfl, hb1, c1⟩ := hrd.at_ hil
      have E1 := Lib.hid (And.intro (val_take_succ hid) (And.intro (at_get hid) (at_drop la (n / 32) (t + 1))))
      have hx0 : ld[t] = la[i] := by have := Hp.out.2.2; subst this; rw [List.getElem_drop]; simp only [Hi.out]
      rw [hx0, ← Hp.out.2.2] at E1
      have w1 := wd_get Hm.out.2 _ hil
      have w2 := at_lt Hm.out.2 (i + 1)
      rw [show n / 32 + (t + 1) = i + 1 by have := Hi.out; omega] at E1
      generalize at_ la (i + 1) = y at *
      generalize la[i] = x at *
      have HR := Lib.hid HR'
      have hii : (i : Int) < (m : Int) := by omega
      have hLl : L.length ≤ 2000000000 := by have := hL.out.1; omega
      clear HR' hrd hx0 hil hid
      obtain ⟨S, hS⟩ : ∃ S, S = n % 32 := ⟨_, rfl⟩
      have q4 : (n : Int).tmod 32 = (S : Int) := by rw [hS]; rfl
      have q5 : S ≤ 31 := by omega
      have HS := Lib.hid hS
      clear hS
      have q1 : IntKind.i64.wrap ((i : Int) + 1) = (i : Int) + 1 := IntWalk.i64_in _ (by omega)
      have q2 : IntKind.u64.wrap ((y : Int) * 4294967296) = (y : Int) * 4294967296 := IntWalk.u64_in _ (by omega)
      have q3 : IntKind.u64.wrap ((y : Int) * 4294967296 + (x : Int)) = (y : Int) * 4294967296 + (x : Int) := IntWalk.u64_in _ (by omega)
      go_wp2_with fail
      refine wp_region_noPanic ?_
      refine wp_region_HK (fun w' => w'.cell? (ad.add i) = some (.int .u32 (x : Int))) 14 (by kernel_rfl) c1 (fun hHeld => ?_)
      refine wpHK_pure (i := 0) (oi := Oper.mk (some 16) _ _ _ _ _) (v := ?_) rfl (by kernel_rfl) (by kernel_rfl) (by kernel_rfl) (fun _ _ _ h => h) (Or.inl ⟨by rfl, ?_⟩) ?_
      rotate_left
      · (intro w' _; go_simp; try with_reducible rfl)
      try simp only [Act.put, List.setIfInBounds_toArray, List.set_cons_zero, List.set_cons_succ]
      refine wpHK_pure (i := 1) (oi := Oper.mk (some 17) _ _ _ _ _) (v := ?_) rfl (by kernel_rfl) (by kernel_rfl) (by kernel_rfl) (fun _ _ _ h => h) (Or.inl ⟨by rfl, ?_⟩) ?_
      rotate_left
      · (intro w' _; go_simp; try with_reducible rfl)
      try simp only [Act.put, List.setIfInBounds_toArray, List.set_cons_zero, List.set_cons_succ]
      refine wpHK_pure (i := 2) (oi := Oper.mk (some 18) _ _ _ _ _) (v := ?_) rfl (by kernel_rfl) (by kernel_rfl) (by kernel_rfl) (fun _ _ _ h => h) (Or.inl ⟨by rfl, ?_⟩) ?_
      rotate_left
      · (intro w' _; go_simp; try with_reducible rfl)
      try simp only [Act.put, List.setIfInBounds_toArray, List.set_cons_zero, List.set_cons_succ]
      refine wpHK_pure (i := 5) (oi := Oper.mk (some 21) _ _ _ _ _) (v := ?_) rfl (by kernel_rfl) (by kernel_rfl) (by kernel_rfl) (fun _ _ _ h => h) (Or.inl ⟨by rfl, ?_⟩) ?_
      rotate_left
      · (intro w' _; go_simp; try with_reducible rfl)
      try simp only [Act.put, List.setIfInBounds_toArray, List.set_cons_zero, List.set_cons_succ]
      refine wpHK_pure (i := 6) (oi := Oper.mk (some 22) _ _ _ _ _) (v := ?_) rfl (by kernel_rfl) (by kernel_rfl) (by kernel_rfl) (fun _ _ _ h => h) (Or.inl ⟨by rfl, ?_⟩) ?_
      rotate_left
      · (intro w' _; go_simp; try with_reducible rfl)
      try simp only [Act.put, List.setIfInBounds_toArray, List.set_cons_zero, List.set_cons_succ]
      refine wpHK_pure (i := 7) (oi := Oper.mk (some 23) _ _ _ _ _) (v := ?_) rfl (by kernel_rfl) (by kernel_rfl) (by kernel_rfl) (fun _ _ _ h => h) (Or.inl ⟨by rfl, ?_⟩) ?_
      rotate_left
      · (intro w' _; go_simp; try with_reducible rfl)
      try simp only [Act.put, List.setIfInBounds_toArray, List.set_cons_zero, List.set_cons_succ]
      refine wpHK_pure (i := 11) (oi := Oper.mk (some 27) _ _ _ _ _) (v := ?_) rfl (by kernel_rfl) (by kernel_rfl) (by kernel_rfl) (fun _ _ _ h => h) (Or.inl ⟨by rfl, ?_⟩) ?_
      rotate_left
      · (intro w' _; go_simp; try with_reducible rfl)
      try simp only [Act.put, List.setIfInBounds_toArray, List.set_cons_zero, List.set_cons_succ]
      refine wpHK_pure (i := 12) (oi := Oper.mk (some 28) _ _ _ _ _) (v := ?_) rfl (by kernel_rfl) (by kernel_rfl) (by kernel_rfl) (fun _ _ _ h => h) (Or.inl ⟨by rfl, ?_⟩) ?_
      rotate_left
      · (intro w' _; go_simp; try with_reducible rfl)
      try simp only [Act.put, List.setIfInBounds_toArray, List.set_cons_zero, List.set_cons_succ]
      refine wpHK_take (i := 8) (oi := Oper.mk (some 24) _ _ _ _ _) (v := ?_) rfl (by kernel_rfl) (by kernel_rfl) (by kernel_rfl) (by kernel_rfl) (fun _ _ _ h => h) (Or.inl ⟨by rfl, ?_⟩) (by assumption) ?_
      rotate_left
      · (intro w' hSw; (try dsimp only at hSw); (obtain s1 := hSw); go_simp; try with_reducible rfl)
      try simp only [Act.put, List.setIfInBounds_toArray, List.set_cons_zero, List.set_cons_succ]
      refine wpHK_pure (i := 9) (oi := Oper.mk (some 25) _ _ _ _ _) (v := ?_) rfl (by kernel_rfl) (by kernel_rfl) (by kernel_rfl) (fun _ _ _ h => h) (Or.inl ⟨by rfl, ?_⟩) ?_
      rotate_left
      · (intro w' _; go_simp; try with_reducible rfl)
      try simp only [Act.put, List.setIfInBounds_toArray, List.set_cons_zero, List.set_cons_succ]
      refine wpHK_one (j := 3) (o := Oper.mk (some 19) _ _ _ _ _) rfl (by kernel_rfl) (fun K hK => ?_)
      go_simp
      refine (HR.out).mono ?_
      rintro e w9 ⟨rfl, rfl⟩
      refine hK.out _ _ c1 (fun _ => ?_)
      clear hK K hHeld
      have hHeld := c1
      try simp only [Act.put, List.setIfInBounds_toArray, List.set_cons_zero, List.set_cons_succ]
      refine wpHK_pure (i := 4) (oi := Oper.mk (some 20) _ _ _ _ _) (v := ?_) rfl (by kernel_rfl) (by kernel_rfl) (by kernel_rfl) (fun _ _ _ h => h) (Or.inl ⟨by rfl, ?_⟩) ?_
      rotate_left
      · (intro w' _; go_simp; try with_reducible rfl)
      try simp only [Act.put, List.setIfInBounds_toArray, List.set_cons_zero, List.set_cons_succ]
      refine wpHK_pure (i := 10) (oi := Oper.mk (some 26) _ _ _ _ _) (v := ?_) rfl (by kernel_rfl) (by kernel_rfl) (by kernel_rfl) (fun _ _ _ h => h) (Or.inl ⟨by rfl, ?_⟩) ?_
      rotate_left
      · (intro w' _; go_simp; try with_reducible rfl)
      try simp only [Act.put, List.setIfInBounds_toArray, List.set_cons_zero, List.set_cons_succ]
      refine wpHK_pure (i := 13) (oi := Oper.mk (some 29) _ _ _ _ _) (v := ?_) rfl (by kernel_rfl) (by kernel_rfl) (by kernel_rfl) (fun _ _ _ h => h) (Or.inl ⟨by rfl, ?_⟩) ?_
      rotate_left
      · (intro w' _; go_simp; try with_reducible rfl)
      try simp only [Act.put, List.setIfInBounds_toArray, List.set_cons_zero, List.set_cons_succ]
      refine wpHK_pure (i := 14) (oi := Oper.mk (some 7) _ _ _ _ _) (v := ?_) rfl (by kernel_rfl) (by kernel_rfl) (by kernel_rfl) (fun _ _ _ h => h) (Or.inl ⟨by rfl, ?_⟩) ?_
      rotate_left
      · (intro w' _; go_simp; try with_reducible rfl)
      try simp only [Act.put, List.setIfInBounds_toArray, List.set_cons_zero, List.set_cons_succ]
      refine wpHK_done (by kernel_rfl) ?_ _
      refine NoPanic.normal ?_
      have q6 : (((y : Int) * 4294967296 + (x : Int)) / 2 ^ S) % 4294967296 = (((x + 4294967296 * y) / 2 ^ S % 4294967296 : Nat) : Int) := down_q
      clear q2 q3 q4 q5 c1
      go_wp2_with (at_builtin; refine wpW_push (w := wr.drew) rfl (.tmp 30) (.tmp 34) rfl w.heap.size _ L (hown.drewN 1) rfl (y := (x + 4294967296 * y) / 2 ^ S % 4294967296) (by rw [← q6, Int.tmod_eq_emod_of_nonneg (Int.ediv_nonneg (by omega) (Int.le_of_lt (Int.pow_pos (by decide)))), Int.emod_emod]) rfl (by omega) hbel.size ?_; intro A2 n2 c2 W1 ho hkeep _)
      go_roundg (p - (t + 1))
      case measure => have := Hk.out; have := Hp.out.1; have := Hi.out; omega
      case rel =>
        refine ⟨A2, n2, c2, t + 1, i + 1, L ++ [(x + 4294967296 * y) / 2 ^ S % 4294967296], rfl, rfl, Lib.hid (by have := Hi.out; omega), rfl, by have := Hp.out.1; have := Hi.out; omega, ho, hkeep w hbel.drew, ?_⟩
        have hl := hL.out
        refine ⟨by rw [List.length_append, hl.1]; rfl, wd_append.2 ⟨hl.2.1, wd_cons.2 ⟨Nat.mod_lt _ (by decide), wd_nil⟩⟩, ?_⟩
        have h3 := hl.2.2
        rw [E1.out.2.1] at h3
        rw [val_snoc, hl.1, E1.out.1, ← E1.out.2.2, Nat.pow_succ, HS.out]
        exact right_step h3 (by omega) w1
    · have hi' : t = p := by have := Hp.out.1; have := Hi.out; omega
      subst hi'
      have hL1 := hL.out.1
      have hz : val L = val la / 2 ^ n := by
        have h3 := hL.out.2.2
        rw [List.take_of_length_le (by rw [← Hp.out.2.1]; exact Nat.le_refl _), at_end (i := t) (by rw [← Hp.out.2.1]; exact Nat.le_refl _), Nat.zero_mod, Nat.mul_zero, Nat.add_zero] at h3
        rw [Hv.out, ← right_end h3 (Nat.mod_lt _ (Nat.two_pow_pos _))]
      have HT := Lib.hid (rcut_any hown.reads hown.len.1 hown.len.2.1 hown.len.2.2 hL.out.2.1)
      have H3 := Lib.hid hz
      have Ho := Lib.hid hown
      have Hw := Lib.hid hL.out.2.1
      have him : (m : Int) ≤ (i : Int) := by omega
      clear hL1 hz H1 hown
      go_wp2_with (go_at_call 86; refine HT.out.mono ?_; rintro e w' ⟨q, rfl, hq, rfl⟩; have Hq := Lib.hid hq; clear hq)
      go_ret
      have hwt := (wds_take _ _ rfl Hw.out).2
      have hn2 := Ho.out.len
      refine ⟨_, _, _, rfl, by rw [← H3.out]; exact Hq.out, ?_, hn2.2.2, by rw [← H3.out]; exact reads_cut Ho.out.reads Hw.out, hbel⟩
      have := Hq.out
      omega
end Go.Proofs.Ytpnginnjbdedbaa

/- The reference's fits. -/
namespace Go.Proofs.Ytpnginnjbdedbaa
open Go.RowKit
open Wh
set_option linter.unusedSimpArgs false
set_option linter.unusedVariables false

theorem reads_from {w : World} {g B j : Nat} {l : List Nat} (h : Blk w g 98 (wcells l)) (hB : g < B) : ReadsW w B (some ⟨g, j, none⟩) (l.drop j) := by
  refine ⟨⟨by simp, fun _ => ⟨_, rfl, hB, fun i u hu => ?_⟩⟩, fun _ => ⟨_, _, _, rfl, h⟩⟩
  have := h.cell (j + i)
  rw [wcells_get] at this
  rw [List.getElem?_map, List.getElem?_drop] at hu
  rw [hu] at this
  rw [← this]
  unfold Addr.add
  split
  · rename_i h0; subst h0; rfl
  · rfl
theorem cmpN_nonpos {a b : Nat} : decide (cmpN a b ≤ 0) = decide (a ≤ b) := by
  unfold cmpN
  by_cases h1 : a < b
  · rw [if_pos h1, decide_eq_true (show a ≤ b by omega)]; rfl
  · by_cases h2 : b < a
    · rw [if_neg h1, if_pos h2, decide_eq_false (show ¬ a ≤ b by omega)]; rfl
    · rw [if_neg h1, if_neg h2, decide_eq_true (show a ≤ b by omega)]; rfl
theorem mul_len {x V m : Nat} (hx : x < 4294967296) (hm : (wds V).length ≤ m) : (wds (x * V)).length ≤ m + 1 := by
  refine len_wds ?_
  rw [Nat.pow_succ, Nat.mul_comm]
  exact Nat.mul_lt_mul_of_lt_of_le (lt_of_len hm) (Nat.le_of_lt hx) (by decide)
theorem val_single (x : Nat) : val [x] = x := by rw [val_cons, val_nil, Nat.mul_zero, Nat.add_zero]
set_option maxRecDepth 100000 in
set_option maxHeartbeats 4000000 in
theorem rfits_any {w : World} {g N m d j x V : Nat} {C : Option Addr} {L : List Nat} (hblk : Blk w g 98 (wcells L)) (hv : ReadsW w w.heap.size C (wds V)) (hN : N = L.length) (hm : m = (wds V).length) (hj : j + m + 1 ≤ N) (hw : Wd L) (hx : x ≤ 4294967295) (hNl : N ≤ 1000000000) :
    Calls Try.prog 106 #[.slice (some ⟨g, 0, none⟩) N N, .slice C m d, .int .i64 (j : Int), .int .u64 (x : Int)] w (Calm w (.bool (decide (x * V ≤ val ((L.drop j).take (m + 1)))))) := by
  have hw1 : Wd [x] := wd_cons.2 ⟨by omega, wd_nil⟩
  have hP := rproduct_any (reads_blk (Blk.new w 98 (wcells [x])) (Nat.lt_succ_self _)) (hv.alloc (Nat.le_refl _) (.cells (wcells [x]) 98) |>.more (Nat.le_succ _)) (by simp) (n := 1) (m := m) (c := 1) (d := d) rfl hm (by omega) (by omega) hw1 (wd_w V)
  rw [val_w, val_single] at hP
  have HP := Lib.hid hP
  have Hh := Lib.hid (And.intro hblk (And.intro hN (And.intro hm hw)))
  clear hP hw1 hblk hN hm hw hv
  go_enter Try.func106, Try.ntmps106
  go_wp2_with fail
  refine HP.out.mono ?_
  rintro e w2 ⟨A2, n2, c2, rfl, hn2, hc2a, hc2b, hr2, hb2⟩
  have hblk2 := (Hh.out.1.alloc (.cells (wcells [x]) 98)).below hb2 (by have := Hh.out.1.lt; simp; omega)
  have hb0 := (new_below w (.cells (wcells [x]) 98)).trans (hb2.mono (by simp))
  obtain ⟨M, hM⟩ : ∃ M, M = (L.drop j).take (m + 1) := ⟨_, rfl⟩
  have hrM : ReadsW w2 w2.heap.size (some ⟨g, j, none⟩) M := by rw [hM]; exact (reads_from hblk2 hblk2.lt).take _
  have hwM : Wd M := by rw [hM]; exact wd_take (wd_drop Hh.out.2.2.2 _) _
  have hlM : j + m + 1 - j = M.length := by rw [hM, List.length_take, List.length_drop]; have := Hh.out.2.1; omega
  have hC := rcut_any hrM (c := N - j) hlM (by omega) (by omega) hwM
  have hrc := reads_cut hrM hwM
  have HM := Lib.hid hM
  have hU := fun (n3 : Nat) (h3 : n3 = (wds (val M)).length) (hl3 : n3 ≤ 1000000000) => runder_any (c := c2) (d := N - j) hr2 hrc hn2.out h3 (by have := hn2.out; have := mul_len (x := x) (V := V) (m := m) (by omega) (by rw [Hh.out.2.2.1]; exact Nat.le_refl _); omega) (by omega)
  have hlw := (wds_take _ _ rfl hwM).2
  have Hm := Lib.hid (And.intro hlw hlM)
  have HU := Lib.hid hU
  have HC := Lib.hid hC
  have Hb0 := Lib.hid hb0
  clear hU hC hrc hrM hwM hlM hM hblk2 hb0 hb2 hr2 hn2 hlw
  go_wp2_with fail
  refine HC.out.mono ?_
  rintro e w3 ⟨m3, rfl, hm3, rfl⟩
  have HU2 := Lib.hid (HU.out m3 hm3 (by have := Hm.out; omega))
  clear hm3
  go_wp2_with fail
  refine HU2.out.mono ?_
  rintro e w4 ⟨q, rfl, rfl⟩
  go_wp2_with fail
  go_ret
  exact ⟨by rw [← HM.out]; exact congrArg (fun b => Ending.returned (.bool b)) cmpN_nonpos, below_drewN Hb0.out _⟩
end Go.Proofs.Ytpnginnjbdedbaa

/- The reference's divided: plain laws, the two short ways. -/
namespace Go.Proofs.Ytpnginnjbdedbaa
open Go.RowKit
open Wh
set_option linter.unusedSimpArgs false
set_option linter.unusedVariables false

theorem word_pow (k : Nat) : (4294967296 : Nat) ^ k = 2 ^ (32 * k) := by rw [show (4294967296 : Nat) = 2 ^ 32 by decide, ← Nat.pow_mul]
theorem norm_tail {V p : Nat} (hge : 2147483648 * 4294967296 ^ (p + 1) ≤ V) (hlt : V < 4294967296 ^ (p + 2)) : (wds V).length = p + 2 ∧ 2147483648 ≤ at_ (wds V) (p + 1) := by
  have hlen : (wds V).length = p + 2 := by
    have h3 := len_wds hlt
    rcases Nat.lt_or_ge (wds V).length (p + 2) with h4 | h4
    · exfalso
      have h5 := lt_of_len (n := V) (k := p + 1) (by omega)
      have h6 : 1 * 4294967296 ^ (p + 1) ≤ 2147483648 * 4294967296 ^ (p + 1) := Nat.mul_le_mul_right _ (by decide)
      omega
    · omega
  refine ⟨hlen, ?_⟩
  rw [at_get (by omega)]
  have e2 := top_one (l := wds V) (p := p + 1) hlen
  rw [val_w] at e2
  have hlo2 := low_lt (wd_w V) (p := p + 1) (by omega)
  generalize (wds V)[p + 1]'(by omega) = x at *
  have h3 : 4294967296 ^ (p + 1) * 2147483648 < 4294967296 ^ (p + 1) * (x + 1) := by
    rw [Nat.mul_add, Nat.mul_one, Nat.mul_comm, Nat.mul_comm _ x]; omega
  have := Nat.lt_of_mul_lt_mul_left h3
  omega
theorem norm_bl {b p : Nat} (hl : (wds b).length = p + 2) : ∃ y, bl b + y = 32 * (p + 2) ∧ y ≤ 31 ∧ 2147483648 * 4294967296 ^ (p + 1) ≤ b * 2 ^ y ∧ b * 2 ^ y < 4294967296 ^ (p + 2) := by
  have h1 := lt_of_len (n := b) (k := p + 2) (by omega)
  have h2 : 4294967296 ^ (p + 1) ≤ b := by
    rcases Nat.lt_or_ge b (4294967296 ^ (p + 1)) with h | h
    · have := len_wds h; omega
    · exact h
  rw [word_pow] at h1 h2
  have h3 := bl_lt.2 h1
  have h4 : ¬ bl b ≤ 32 * (p + 1) := fun h => by have := bl_lt.1 h; omega
  have h5 := bl_lt.1 (Nat.le_refl (bl b))
  have h6 : 2 ^ (bl b - 1) ≤ b := by
    rcases Nat.lt_or_ge b (2 ^ (bl b - 1)) with h | h
    · have := bl_lt.2 h; omega
    · exact h
  refine ⟨32 * (p + 2) - bl b, by omega, by omega, ?_, ?_⟩
  · have h7 := Nat.mul_le_mul_right (2 ^ (32 * (p + 2) - bl b)) h6
    rw [← Nat.pow_add, show bl b - 1 + (32 * (p + 2) - bl b) = 31 + 32 * (p + 1) by omega, Nat.pow_add, show (2 : Nat) ^ 31 = 2147483648 by decide] at h7
    rw [word_pow]
    exact h7
  · have h7 := Nat.mul_lt_mul_of_pos_right h5 (Nat.two_pow_pos (32 * (p + 2) - bl b))
    rw [← Nat.pow_add, show bl b + (32 * (p + 2) - bl b) = 32 * (p + 2) by omega] at h7
    rw [word_pow]
    exact h7
/-- the first guess: no less than the digit -/
theorem first_guess {M lv : List Nat} {p T : Nat} (hw : Wd M) (hwv : Wd lv) (hM : M.length = p + 3) (hl : lv.length = p + 2) (h0 : 0 < lv[p + 1]) (hT : T = M[p + 2] * 4294967296 + M[p + 1]) (hU : val M < 4294967296 * val lv) :
    val M < (min (T / lv[p + 1]) 4294967295 + 1) * val lv := by
  have h := guess_start (tops_of hw hwv hM hl h0 hU)
  have h1 := h.2
  rw [← hT] at h1
  rcases Nat.le_total (T / lv[p + 1]) 4294967295 with h2 | h2
  · rw [Nat.min_eq_left h2]; exact h1
  · rw [Nat.min_eq_right h2]; exact hU
theorem guess_less {U V g : Nat} (_h : U < (g + 1) * V) (hn : ¬ g * V ≤ U) : 0 < g ∧ U < (g - 1 + 1) * V := by
  have hg : 0 < g := by
    rcases Nat.eq_zero_or_pos g with h0 | h0
    · exfalso; apply hn; rw [h0, Nat.zero_mul]; exact Nat.zero_le _
    · exact h0
  exact ⟨hg, by rw [show g - 1 + 1 = g by omega]; omega⟩
/-- a word taken off -/
theorem off_word {u cc b : Nat} (hu : u < 4294967296) (hb : b ≤ 1) (_hcc : cc ≤ 18446744073709551615) :
    ∃ X b' : Nat, X = 4294967296 + u - cc % 4294967296 - b ∧ X ≤ 8589934591 ∧ b' = 1 - X / 4294967296 ∧ b' ≤ 1 ∧ X / 4294967296 ≤ 1 ∧ u + 4294967296 * b' = X % 4294967296 + (cc % 4294967296 + b) := by
  refine ⟨_, _, rfl, by omega, rfl, by omega, by omega, by omega⟩
/-- when all are taken off -/
theorem taken_end {M M1 lv : List Nat} {q c b n : Nat} (h : Taken M M1 lv q (n + 1) c b) (hn : n = lv.length) (hM : M.length = n + 1) (hb : b ≤ 1) (h1 : q * val lv ≤ val M) (h2 : val M < (q + 1) * val lv) : M1.length = n + 1 ∧ Wd M1 ∧ val M1 = val M % val lv ∧ q = val M / val lv := by
  obtain ⟨hl1, hwm1, _, hc0, hval⟩ := h
  have hc00 : c = 0 := hc0 (by omega)
  rw [hc00, Nat.zero_add, List.take_of_length_le (by omega), List.take_of_length_le (l := lv) (by omega), List.take_of_length_le (l := M) (by omega)] at hval
  have hO : val M1 < 4294967296 ^ (n + 1) := by have := val_lt hwm1; rwa [hl1, hM] at this
  have hb0 := (take_all hval hO hb).2 h1
  rw [hb0, Nat.mul_zero, Nat.add_zero] at hval
  rw [Nat.add_mul, Nat.one_mul] at h2
  have e := quot_of (q := q) (r := val M1) (a := val M) (b := val lv) (by omega) (by omega)
  exact ⟨by omega, hwm1, e.2.symm, e.1.symm⟩

set_option maxRecDepth 100000 in
set_option maxHeartbeats 2000000 in
theorem rdivided_lt {w : World} {B n m c d a b : Nat} {A C : Option Addr} (h1 : ReadsW w B A (wds a)) (h2 : ReadsW w B C (wds b)) (hB : B ≤ w.heap.size) (hn : n = (wds a).length) (hm : m = (wds b).length) (hnc : n ≤ c) (hcl : c ≤ 9223372036854775807) (hnl : n ≤ 1000000000) (hml : m ≤ 1000000000) (hab : a < b) :
    Calls Try.prog 72 #[.slice A n c, .slice C m d] w (Div2 w (a / b) (a % b)) := by
  have HU := Lib.hid (runder_any h1 h2 (c := c) (d := d) hn hm (by omega) (by omega))
  obtain ⟨x, hx, hx0⟩ : ∃ x : Int, cmpN a b = x ∧ x < 0 := ⟨-1, cmpN_lt hab, by omega⟩
  rw [hx] at HU
  have Hn := Lib.hid hn
  have Hab := Lib.hid (And.intro (Nat.div_eq_of_lt hab) (Nat.mod_eq_of_lt hab))
  clear hn hab hx hm
  go_enter Try.func72, Try.ntmps72
  go_wp2_with (go_at_call 70; refine HU.out.mono ?_; rintro e w' ⟨q, rfl, rfl⟩)
  go_ret2
  rw [Hab.out.1, Hab.out.2]
  exact ⟨_, _, _, _, _, _, rfl, ⟨by rw [wds_zero]; rfl, Hn.out⟩, Nat.le_refl _, hnc, by omega, hcl, by rw [wds_zero]; exact ReadsW.none_ _ _ _, (h1.more hB).drewN q, below_drewN (Below.refl _ _) _⟩
set_option maxRecDepth 100000 in
set_option maxHeartbeats 2000000 in
theorem rdivided_one {w : World} {B n m c d a b : Nat} {A C : Option Addr} (h1 : ReadsW w B A (wds a)) (h2 : ReadsW w B C (wds b)) (hB : B ≤ w.heap.size) (hn : n = (wds a).length) (hm : m = (wds b).length) (hnl : n ≤ 1000000000) (hml : m ≤ 1000000000) (hab : b ≤ a) (hm1 : m = 1) :
    Calls Try.prog 72 #[.slice A n c, .slice C m d] w (Div2 w (a / b) (a % b)) := by
  have hu : ∃ x : Int, cmpN a b = x ∧ 0 ≤ x := by
    rcases Nat.lt_or_ge b a with h | h
    · exact ⟨1, cmpN_gt h, by omega⟩
    · exact ⟨0, cmpN_eq (by omega), by omega⟩
  obtain ⟨x, hx, hx0⟩ := hu
  have HU := Lib.hid (runder_any h1 h2 (c := c) (d := d) hn hm (by omega) (by omega))
  rw [hx] at HU
  have hb : wds b = [b] := by
    have hl : (wds b).length = 1 := by omega
    have hlt : b < 4294967296 := by have := lt_of_len (n := b) (k := 1) (by omega); omega
    have hp : 0 < b := by
      rcases Nat.eq_zero_or_pos b with h0 | h0
      · rw [h0, wds_zero] at hl; cases hl
      · exact h0
    rw [wds_pos hp, Nat.mod_eq_of_lt hlt, Nat.div_eq_of_lt hlt, wds_zero]
  have hwd := wd_w b
  rw [hb] at h2 hwd
  have hbl : b < 4294967296 := hwd b (by simp)
  have hp : 0 < b := by
    rcases Nat.eq_zero_or_pos b with h0 | h0
    · rw [h0, wds_zero] at hb; cases hb
    · exact h0
  obtain ⟨bd, rfl, hb1, c1⟩ := h2.at_ (k := 0) (by simp)
  have c1' : w.cell? bd = some (.int .u32 (b : Int)) := by
    have : bd.add 0 = bd := by unfold Addr.add; rw [if_pos rfl]
    rw [this] at c1
    exact c1
  have hs := fun q => rsmall_any (h1.drewN q) (c := c) (d := b) hB hn (by omega) (wd_w a) hp hbl
  simp only [val_w] at hs
  obtain ⟨r, hr⟩ : ∃ r, r = a % b := ⟨_, rfl⟩
  rw [← hr] at hs
  have hrb : r < b := by rw [hr]; exact Nat.mod_lt _ hp
  have hrb2 : r ≤ 4294967295 := by omega
  have HS := Lib.hid hs
  have Hr := Lib.hid hr
  clear hs hr
  have Hn := Lib.hid hn
  subst hm1
  clear hn h1 h2 c1 hx hb hm
  go_enter Try.func72, Try.ntmps72
  go_wp2_with (first | (go_at_call 70; refine HU.out.mono ?_; rintro e w' ⟨q, rfl, rfl⟩) | (go_at_call 87; refine (HS.out _).mono ?_; rintro e w1 ⟨A1, n1, c1, rfl, hn1, hc1, hc2, hr1, hbl1, _⟩; have Hn1 := Lib.hid (And.intro hn1 (And.intro hr1 hbl1)); clear hn1 hr1 hbl1))
  have hbk := Blk.new w1 98 (wcells [r])
  have hwr : Wd [r] := wd_cons.2 ⟨by omega, wd_nil⟩
  have hcut := rcut_any (reads_blk hbk hbk.lt) (n := 1) (c := 1) rfl (by omega) (by omega) hwr
  have Hc := Lib.hid hcut
  have Hb := Lib.hid (And.intro hbk hwr)
  clear hcut hbk hwr
  go_wp2_with (go_at_call 86; refine Hc.out.mono ?_; rintro e w' ⟨q2, rfl, hq, rfl⟩; have Hq := Lib.hid hq; clear hq)
  go_ret2
  have hv1 : val [r] = r := by rw [val_cons, val_nil, Nat.mul_zero, Nat.add_zero]
  have hlen : (wds r).length ≤ 1 := by have := (wds_take 1 [r] rfl Hb.out.2).2; rw [hv1] at this; exact this
  have hq2 := Hq.out
  rw [hv1] at hq2
  refine ⟨_, _, _, _, _, _, rfl, ⟨Hn1.out.1, by rw [← Hr.out]; exact hq2⟩, hc1, by omega, by omega, by omega, (Hn1.out.2.1.alloc (Nat.le_refl _) _).more (by simp), ?_, ?_⟩
  · rw [← Hr.out]
    have := reads_cut (reads_blk Hb.out.1 Hb.out.1.lt) Hb.out.2
    rw [hv1] at this
    exact this
  · exact (undrewN Hn1.out.2.2).alloc (by have := (undrewN Hn1.out.2.2).size; exact this) _
end Go.Proofs.Ytpnginnjbdedbaa

/- The reference's divided: the long way. -/
namespace Go.Proofs.Ytpnginnjbdedbaa
open Go.RowKit
open Wh
set_option linter.unusedSimpArgs false
set_option linter.unusedVariables false

set_option maxRecDepth 100000 in
set_option maxHeartbeats 20000000 in
theorem rdivided_long {w : World} {B n m c d a b p : Nat} {A C : Option Addr} (h1 : ReadsW w B A (wds a)) (h2 : ReadsW w B C (wds b)) (hB : B ≤ w.heap.size) (hn : n = (wds a).length) (hm : m = (wds b).length) (hnl : n ≤ 30000000) (hml : m ≤ 30000000) (hab : b ≤ a) (hm1 : m = p + 2) :
    Calls Try.prog 72 #[.slice A n c, .slice C m d] w (Div2 w (a / b) (a % b)) := by
  have hu : ∃ x : Int, cmpN a b = x ∧ 0 ≤ x := by
    rcases Nat.lt_or_ge b a with h | h
    · exact ⟨1, cmpN_gt h, by omega⟩
    · exact ⟨0, cmpN_eq (by omega), by omega⟩
  obtain ⟨x, hx, hx0⟩ := hu
  have HU := Lib.hid (runder_any h1 h2 (c := c) (d := d) hn hm (by omega) (by omega))
  rw [hx] at HU
  subst hm1
  obtain ⟨y, hy1, hy, hge, hlt⟩ := norm_bl hm.symm
  have hHB := fun q => rbits_any (w := w.drewN q) (c := d) (h2.drewN q) hm (by omega)
  obtain ⟨kb, hkb⟩ : ∃ kb, kb = bl b := ⟨_, rfl⟩
  simp only [← hkb] at hHB
  have hkb1 : 32 * ((p : Int) + 2) - (kb : Int) = (y : Int) := by omega
  have hkb2 : kb ≤ 1000000000 := by omega
  have HKB := Lib.hid hkb1
  have hnorm := norm_tail hge hlt
  have hl1 := fun q => rup_any (h2.drewN q) hB hm (c := d) (n := y) (by omega) (by omega) (wd_w b)
  simp only [val_w] at hl1
  obtain ⟨V, hV⟩ : ∃ V, V = b * 2 ^ y := ⟨_, rfl⟩
  rw [← hV] at hnorm hge hlt
  simp only [← hV] at hl1
  have HV := Lib.hid (And.intro hV (And.intro hnorm.1 (And.intro hge (And.intro hlt hnorm.2))))
  have HL1 := Lib.hid hl1
  have HBT := Lib.hid hHB
  have Hm := Lib.hid hm
  have Hn := Lib.hid hn
  clear hn hm hx hV hnorm hl1 hHB hkb1 hge hlt hkb hy1
  go_enter Try.func72, Try.ntmps72
  go_wp2_with (go_at_call 70; refine HU.out.mono ?_; rintro e w' ⟨q, rfl, rfl⟩)
  refine (HBT.out _).mono ?_
  rintro e w' ⟨rfl, rfl⟩
  go_wp2_with fail
  rw [HKB.out]
  refine (HL1.out _).mono ?_
  rintro e w1 ⟨Cv, n1, d1, rfl, hn1, hd1, hd2, hrv, hbv⟩
  obtain rfl : n1 = p + 2 := by have := hn1.out; rw [HV.out.2.1] at this; exact this
  have hmk : ∀ w : World, (Instr.makeSlice 80 (.int .i64 ((n : Int) + 2)) (.int .i64 ((n : Int) + 2))).run Try.prog w = .ok (.slice (some ⟨w.heap.size, 0, none⟩) (n + 2) (n + 2)) (w.alloc (.cells (wcells (List.replicate (n + 2) 0)) 98)) := fun w => by
    have := run_makeW (n + 2) (by omega) w
    exact this
  have hbv1 := undrewN hbv
  have hla := h1.below (hbv1.mono hB)
  have hsz1 := hbv1.size
  have hl2 := rup_any (hla.alloc (by omega) (.cells (wcells (List.replicate (n + 2) 0)) 98)) (by simp; omega) Hn.out (c := c) (n := y) (by omega) (by omega) (wd_w a)
  rw [val_w] at hl2
  have HL2 := Lib.hid hl2
  have Hbv := Lib.hid (And.intro hbv1 hla)
  clear hl2 hla hbv hbv1
  go_wp2_with fail
  refine HL2.out.mono ?_
  rintro e w3 ⟨A3, n3, c3, rfl, hn3, hc3a, hc3b, hra, hba⟩
  have hbk := (Blk.new w1 98 (wcells (List.replicate (n + 2) 0))).below hba (by simp)
  have hbk' : w3.heap[w1.heap.size]? = some (.cells ((List.replicate (n + 2) 0).map wv).toArray 98 (0, 0)) := hbk
  have hbw := (((Below.refl w1.heap.size w1).alloc (Nat.le_refl _) (.cells (wcells (List.replicate (n + 2) 0)) 98))).trans (hba.mono (by simp))
  have hlen2 := left_len (a := a) (y := y) (n := n) (by rw [Hn.out]; exact Nat.le_refl _) hy
  have hsz3 := hba.size
  obtain ⟨la2, hla2⟩ : ∃ la2, la2 = wds (a * 2 ^ y) := ⟨_, rfl⟩
  rw [← hla2] at hn3 hra hlen2
  have hwa2 : Wd la2 ∧ val la2 = a * 2 ^ y := by rw [hla2]; exact ⟨wd_w _, val_w _⟩
  have Hwa2 := Lib.hid hwa2
  have hn3' := hn3.out
  subst hn3'
  have Hbw := Lib.hid (And.intro hbw hbk')
  have Hra := Lib.hid hra
  clear hla2 hwa2 hbw hbk hbk' hra hba hn3
  have hcp1 : (la2.map wv).length = Nat.min la2.length (n + 2) := by rw [List.length_map]; exact (Nat.min_eq_left (Nat.le_succ_of_le hlen2)).symm
  have hcp2 : 0 < (la2.map wv).length → ∃ ad, A3 = some ad ∧ ∀ (j : Nat) (v : Value), (la2.map wv)[j]? = some v → w3.cell? (ad.add j) = some v := fun h0 => by
    obtain ⟨ad, e, _, hc⟩ := Hra.out.1.2 (by rwa [List.length_map] at h0)
    exact ⟨ad, e, hc⟩
  have hcp3 : 0 + (la2.map wv).length ≤ ((List.replicate (n + 2) 0).map wv).length := by simp; omega
  have Hcp := Lib.hid (And.intro hcp1 (And.intro hcp2 hcp3))
  clear hcp1 hcp2 hcp3
  have hmn : p + 2 ≤ n := by rw [Hn.out, Hm.out]; exact len_mono hab
  have hmk2 : ∀ w : World, (Instr.makeSlice 80 (.int .i64 ((n : Int) + 2 - ((p : Int) + 2))) (.int .i64 ((n : Int) + 2 - ((p : Int) + 2)))).run Try.prog w = .ok (.slice (some ⟨w.heap.size, 0, none⟩) (n - p) (n - p)) (w.alloc (.cells (wcells (List.replicate (n - p) 0)) 98)) := fun w => by
    have := run_makeW (n - p) (by omega) w
    rw [← this, show ((n - p : Nat) : Int) = (n : Int) + 2 - ((p : Int) + 2) by omega]
  go_wp2_with (refine wpList_copy_splice rfl (.tmp 55) (.tmp 58) 80 80 rfl 98 Try.underlying80 sizeW (some ⟨w1.heap.size, 0, none⟩) A3 (n + 2) (n + 2) la2.length c3 rfl rfl w1.heap.size 0 ((List.replicate (n + 2) 0).map wv) 98 Hbw.out.2 (la2.map wv) Hcp.out.1 (fun h0 => ⟨rfl, Hcp.out.2.1 h0⟩) Hcp.out.2.2 (wv_one _) w1.heap.size w1 Hbw.out.1 (Nat.le_refl _) ?_; intro w4 hu4 hb4; have Hb4 := Lib.hid hb4; have Hu4 := Lib.hid hu4; clear hb4 hu4)
  have hL0 : Blk w4 w1.heap.size 98 (wcells (la2 ++ List.replicate (n + 2 - la2.length) 0)) := by
    have := Hu4.out.out
    rw [splice_words] at this
    exact this
  have hwa := Hwa2.out
  have hlong := long_start (a := a) (b := b) (n := n + 1) (m := p + 1) (by_ := y) (L := la2 ++ List.replicate (n + 2 - la2.length) 0) (by rw [List.length_append, List.length_replicate]; omega) (wd_append.2 ⟨hwa.1, wd_zeros _⟩) (by rw [val_append, val_zeros, Nat.mul_zero, Nat.add_zero]; exact hwa.2)
    (Nat.lt_of_lt_of_le (lt_of_len (by rw [Hn.out]; exact Nat.le_refl _)) (Nat.pow_le_pow_right (by decide) (Nat.le_succ n))) hy (by omega) (by rw [← HV.out.1]; exact HV.out.2.2.1)
  rw [← HV.out.1, show n + 1 - (p + 1) = n - p by omega] at hlong
  have Hlong := Lib.hid hlong
  have Hblk := Lib.hid hL0
  have hbel4 := Hbv.out.1.trans (Hb4.out.mono hsz1)
  have Hbel4 := Lib.hid hbel4
  have hrv4 := (hrv.below Hb4.out)
  have hlt4 := hL0.lt
  have hV0 : 0 < V := by have := HV.out.2.2.1; have h0 : 0 < 4294967296 ^ (p + 1) := Nat.pow_pos (by decide); omega
  clear hlong hL0 hwa hbel4
  have hi1 : (0 : Int) ≤ (n : Int) + 2 - ((p : Int) + 2) := by omega
  go_loopg [13] (n - p) (fun k jv wr => ∃ L Q, jv = .int .i64 ((k : Int) - 1) ∧ k ≤ n - p ∧ Blk wr w1.heap.size 98 (wcells L) ∧ Blk wr w4.heap.size 98 (wcells Q) ∧ Below w.heap.size w wr ∧ ReadsW wr w1.heap.size Cv (wds V) ∧ Hid (Long (a * 2 ^ y) V (n + 1) (p + 2) k L Q))
  case atStart => exact ⟨_, _, by congr 1; omega, Nat.le_refl _, Hblk.out.alloc _, Blk.new _ _ _, Hbel4.out.alloc (by have := Hbel4.out.size; omega) _, hrv4.alloc (by omega) _, Hlong.out⟩
  case round =>
    obtain ⟨L, Q, rfl, hkl, hbu, hbq, hbel, hrvr, hLong⟩ := hrel
    by_cases h0 : 0 < gk
    · obtain ⟨j, rfl⟩ : ∃ j, gk = j + 1 := ⟨gk - 1, by omega⟩
      rw [show (((j + 1 : Nat) : Int) - 1) = (j : Int) by omega]
      have hjm : j + (p + 2) ≤ n + 1 := by omega
      have hLl := hLong.out.1
      have hLw := hLong.out.2.1
      obtain ⟨M, hM⟩ : ∃ M, M = (L.drop j).take (p + 3) := ⟨_, rfl⟩
      have hMl : M.length = p + 3 := by rw [hM, List.length_take, List.length_drop]; omega
      have hMw : Wd M := by rw [hM]; exact wd_take (wd_drop hLw j) _
      have hmid : MidW wr w1.heap.size (L.take j) M (L.drop (j + (p + 3))) := by
        unfold MidW
        rw [hM, ← List.drop_drop, List.take_append_drop, List.take_append_drop]
        exact hbu
      have hPl : j = (L.take j).length := by rw [List.length_take]; omega
      have hVm := HV.out.2.2.2.1
      have hmidv := long_mid hLong.out hVm hjm
      rw [show p + 2 + 1 = p + 3 from rfl, ← hM] at hmidv
      have hv1 := HV.out.2.2.2.2
      have hlvl := HV.out.2.1
      rw [at_get (by omega)] at hv1
      obtain ⟨T, hT⟩ : ∃ T, T = M[p + 2] * 4294967296 + M[p + 1] := ⟨_, rfl⟩
      have hfg := first_guess (p := p) hMw (wd_w V) hMl hlvl (by omega) hT (by rw [val_w]; exact hmidv.1)
      rw [val_w] at hfg
      obtain ⟨vd, rfl, hvb, cv1⟩ := hrvr.at_ (k := p + 1) (by omega)
      rw [add_pos (Nat.succ_ne_zero p)] at cv1
      have cu2 := hmid.cell hPl (i := p + 2) (by omega)
      have cu1 := hmid.cell hPl (i := p + 1) (by omega)
      have bu2 := wd_get hMw (p + 2) (by omega)
      have bu1 := wd_get hMw (p + 1) (by omega)
      have bv1 := wd_get (wd_w V) (p + 1) (by omega)
      generalize M[p + 2] = u2 at *
      generalize M[p + 1] = u1 at *
      generalize (wds V)[p + 1] = v1 at *
      have Hmid := Lib.hid (And.intro hM (And.intro hMl (And.intro hMw (And.intro hmid (And.intro hPl (And.intro hmidv hfg))))))
      have Hlv := Lib.hid (And.intro hlvl (And.intro hVm hrvr))
      clear hM hMl hMw hmid hPl hmidv hfg hLl hLw hVm hlvl hrvr
      have hTb : T ≤ 18446744073709551615 := by omega
      have HTT := Lib.hid hT
      clear hT
      go_wp2_with fail
      have r1 : IntKind.i64.wrap ((j : Int) + ((p : Int) + 2)) = (j : Int) + ((p : Int) + 2) := IntWalk.i64_in _ (by omega)
      have r2 : ((j : Int) + ((p : Int) + 2)).toNat = j + (p + 2) := by omega
      have r3 : IntKind.i64.wrap ((j : Int) + ((p : Int) + 2) - 1) = (j : Int) + ((p : Int) + 2) - 1 := IntWalk.i64_in _ (by omega)
      have r4 : ((j : Int) + ((p : Int) + 2) - 1).toNat = j + (p + 1) := by omega
      have r5 : IntKind.u64.wrap (u2 : Int) = (u2 : Int) := IntWalk.u64_in _ (by omega)
      have r6 : IntKind.u64.wrap (u1 : Int) = (u1 : Int) := IntWalk.u64_in _ (by omega)
      have r7 : IntKind.u64.wrap ((u2 : Int) * 4294967296) = (u2 : Int) * 4294967296 := IntWalk.u64_in _ (by omega)
      have r13 : IntKind.u64.wrap ((u2 : Int) * 4294967296 + (u1 : Int)) = (u2 : Int) * 4294967296 + (u1 : Int) := IntWalk.u64_in _ (by omega)
      have r8 : (0 : Int) ≤ (j : Int) + ((p : Int) + 2) := by omega
      have r9 : (j : Int) + ((p : Int) + 2) < (n : Int) + 2 := by omega
      have r10 : (0 : Int) ≤ (j : Int) + ((p : Int) + 2) - 1 := by omega
      have r11 : (j : Int) + ((p : Int) + 2) - 1 < (n : Int) + 2 := by omega
      have r12 : (1 : Int) ≤ (j : Int) + ((p : Int) + 2) := by omega
      go_quiet (fail)
      clear r1 r2 r3 r4 r5 r6 r7 r8 r9 r10 r11 r12 r13
      rw [show (u2 : Int) * 4294967296 + (u1 : Int) = (T : Int) by rw [HTT.out]; omega]
      have hv1n : 1 ≤ v1 := by omega
      go_upto_region 16 with fail
      go_cut [15] from 72 to 152 (fun gv wx => ∃ G0 : Nat, gv = .int .u64 (G0 : Int) ∧ G0 ≤ 4294967295 ∧ val M < (G0 + 1) * V ∧ wx = wr.drewN nq)
      case first =>
        have hfg := Lib.hid Hmid.out.2.2.2.2.2.2
        go_wp2_with fail
        · go_meet
          case rel => exact ⟨4294967295, rfl, Nat.le_refl _, Hmid.out.2.2.2.2.2.1.1, rfl⟩
        · go_meet
          case rel =>
            obtain ⟨G, hGd⟩ : ∃ G, G = T / v1 := ⟨_, rfl⟩
            have h8 : (T : Int) / (v1 : Int) = (G : Int) := by rw [hGd]; rfl
            have hTq : G ≤ 8589934591 := by rw [hGd]; exact Nat.le_trans (Nat.div_le_div_left (c := 2147483648) (by omega) (by decide)) (by omega)
            rw [h8, IntWalk.u64_in _ (by omega)] at h ⊢
            have h9 : G ≤ 4294967295 := by omega
            exact ⟨G, rfl, h9, by have h7 := hfg.out; rwa [← hGd, Nat.min_eq_left h9] at h7, rfl⟩
      case rest =>
      obtain ⟨G0, rfl, hG0, hG1, rfl⟩ := hcut
      have hbu0 : Blk (wr.drewN nq) w1.heap.size 98 (wcells L) := hbu
      have hbq0 : Blk (wr.drewN nq) w4.heap.size 98 (wcells Q) := hbq
      have hbel0 : Below w.heap.size w (wr.drewN nq) := below_drewN hbel nq
      have hrv0 : ReadsW (wr.drewN nq) w1.heap.size (some vd) (wds V) := Hlv.out.2.2
      clear hbu hbq hbel cv1 cu1 cu2
      generalize wr.drewN nq = W0 at hbu0 hbq0 hbel0 hrv0 ⊢
      have Hw0 := Lib.hid (And.intro hbu0 (And.intro hbq0 (And.intro hbel0 hrv0)))
      have hltu := hbu0.lt
      have HG1 := Lib.hid hG1
      clear hbu0 hbq0 hbel0 hrv0 hG1
      go_wp2_with fail
      go_loopg [15] G0 (fun k gv wi => ∃ gz : Nat, gv = .int .u64 (gz : Int) ∧ k = gz ∧ gz ≤ 4294967295 ∧ Hid (val M < (gz + 1) * V) ∧ Below W0.heap.size W0 wi)
      case atStart => exact ⟨G0, rfl, rfl, hG0, HG1, Below.refl _ _⟩
      case round =>
        obtain ⟨gz, rfl, hk, hgz, hgM, hbi⟩ := hrel
        have Hk := Lib.hid hk
        clear hk
        have hf := rfits_any (w := wr) (x := gz) (j := j) (d := d1) (Hw0.out.1.below hbi hltu) ((Hw0.out.2.2.2.below (hbi.mono (Nat.le_of_lt hltu))).more (by have := hbi.size; omega)) (show n + 2 = L.length by have := hLong.out.1; omega) HV.out.2.1.symm (by omega) hLong.out.2.1 hgz (by omega)
        rw [show p + 2 + 1 = p + 3 from rfl, ← Hmid.out.1] at hf
        by_cases hle : gz * V ≤ val M
        · rw [decide_eq_true hle] at hf
          have HF := Lib.hid hf
          have Hle := Lib.hid hle
          clear hf hle
          go_wp2_with fail
          refine HF.out.mono ?_
          rintro e w7 ⟨rfl, hb7⟩
          have hb8 := hbi.trans (hb7.mono hbi.size)
          have hbu8 := Hw0.out.1.below hb8 hltu
          have hbq8 := Hw0.out.2.1.below hb8 Hw0.out.2.1.lt
          have hbel8 := Hw0.out.2.2.1.trans (hb8.mono Hw0.out.2.2.1.size)
          have hrv8 := Hw0.out.2.2.2.below (hb8.mono (Nat.le_of_lt hltu))
          have hQl : j < Q.length := by have := hLong.out.2.2.1; omega
          have hqc : w7.cell? ⟨w4.heap.size, j, none⟩ = some (.int .u32 ((Q[j] : Nat) : Int)) := by rw [hbq8.cell, wcells_get, List.getElem?_eq_getElem hQl]; rfl
          have hqf := hbq8.frozen j
          have hji : (j : Int) < ((n - p : Nat) : Int) := by omega
          have hbq9 : Blk (w7.setCell ⟨w4.heap.size, j, none⟩ (.int .u32 (gz : Int))) w4.heap.size 98 (wcells (Q.set j gz)) := by
            have := hbq8.set_ j (.int .u32 (gz : Int))
            rwa [wcells_set] at this
          have hne : w1.heap.size ≠ w4.heap.size := by omega
          have hbu9 : Blk (w7.setCell ⟨w4.heap.size, j, none⟩ (.int .u32 (gz : Int))) w1.heap.size 98 (wcells L) := Blk.far hbu8 (p := ⟨w4.heap.size, j, none⟩) hne _
          have hbel9 := hbel8.setCell (p := ⟨w4.heap.size, j, none⟩) (show w.heap.size ≤ w4.heap.size by omega) (.int .u32 (gz : Int))
          have hrv9 := ReadsW.setCell hrv8 (p := ⟨w4.heap.size, j, none⟩) (show w1.heap.size ≤ w4.heap.size by omega) (.int .u32 (gz : Int))
          have hmid9 : MidW (w7.setCell ⟨w4.heap.size, j, none⟩ (.int .u32 (gz : Int))) w1.heap.size (L.take j) M (L.drop (j + (p + 3))) := by
            unfold MidW
            rw [Hmid.out.1, ← List.drop_drop, List.take_append_drop, List.take_append_drop]
            exact hbu9
          have H9 := Lib.hid (And.intro hmid9 (And.intro hbq9 (And.intro hbel9 hrv9)))
          clear hb8 hbu8 hbq8 hbel8 hrv8 hbu9 hbq9 hbel9 hrv9 hmid9 hb7 hbi HG1 hG0
          go_upto_region 21 with fail
          clear hqc hqf
          generalize (w7.setCell ⟨w4.heap.size, j, none⟩ (.int .u32 (gz : Int))) = W9 at H9 ⊢
          go_wp2_with fail
          go_loopg [16, 17, 18] (p + 3) (fun k bv cv iv wz => ∃ (i c b : Nat) (M1 : List Nat), bv = .int .u64 (b : Int) ∧ cv = .int .u64 (c : Int) ∧ iv = .int .i64 (i : Int) ∧ k = p + 3 - i ∧ i ≤ p + 3 ∧ c ≤ 4294967295 ∧ b ≤ 1 ∧ MidW wz w1.heap.size (L.take j) M1 (L.drop (j + (p + 3))) ∧ Blk wz w4.heap.size 98 (wcells (Q.set j gz)) ∧ Below w.heap.size w wz ∧ ReadsW wz w1.heap.size (some vd) (wds V) ∧ Hid (Taken M M1 (wds V) gz i c b))
          case atStart => exact ⟨0, 0, 0, M, rfl, rfl, rfl, rfl, by omega, by omega, by omega, H9.out.1, H9.out.2.1, H9.out.2.2.1, H9.out.2.2.2, rfl, Hmid.out.2.2.1, rfl, fun _ => rfl, by simp [val_nil]⟩
          case round =>
            obtain ⟨i, c1, b1, M1, rfl, rfl, rfl, hk3, hi, hc1, hb1, hm1, hq1, hl1, hr1, hT⟩ := hrel
            have Hk3 := Lib.hid hk3
            clear hk3
            by_cases hin : i < p + 3
            · have hM1 := hT.out.1
              have hi1 : i < M1.length := by have := Hmid.out.2.1; omega
              have hi2 : i < M.length := by have := Hmid.out.2.1; omega
              have hu := hm1.cell Hmid.out.2.2.2.2.1 hi1
              rw [Nat.add_comm j i] at hu
              have hfz := Blk.frozen hm1 (i + j)
              have wu := wd_get hT.out.2.1 _ hi1
              have hA := rat_any hr1 (n := p + 2) (c := d1) (i := i) HV.out.2.1.symm (wd_w V)
              have hlen := HV.out.2.1
              have hst := fun (cc dd b' : Nat) => taken_step (cc := cc) (d := dd) (b' := b') hT.out hi1 hi2
              have w2 := at_lt (wd_w V) i
              have hz0 : (wds V).length < i + 1 → at_ (wds V) i = 0 := fun h => at_end (by omega)
              have hcz := hT.out.2.2.2.1
              generalize at_ (wds V) i = v at hA hst w2 hz0
              obtain ⟨hmb0, hmb1⟩ := mul_bound (x := gz) (by omega) w2
              have hcast := Lib.hid (Int.natCast_mul gz v)
              have Hm1 := Lib.hid (fun x : Nat => hm1.set_ Hmid.out.2.2.2.2.1 hi1 x)
              generalize M1[i] = u at *
              have HA := Lib.hid hA
              have Hst := Lib.hid hst
              have Hz := Lib.hid (And.intro hz0 (And.intro hq1 (And.intro hl1 (And.intro hr1 hlen))))
              have hii : (i : Int) ≤ (p : Int) + 2 := by omega
              clear hA hst hz0 hcz hM1 hq1 hl1 hr1 hlen
              go_wp2_with fail
              refine HA.out.mono ?_
              rintro e w10 ⟨rfl, rfl⟩
              go_upto_region 25 with fail
              have hq0 : ((c1 : Int) + (gz : Int) * (v : Int)) = ((c1 + gz * v : Nat) : Int) := by rw [← hcast.out]; omega
              rw [hq0]
              have hccb : c1 + gz * v ≤ 18446744073709551615 := by rw [← hcast.out] at hmb1; omega
              have Hcc : Hid (∃ cc, cc = c1 + gz * v) := Lib.hid ⟨_, rfl⟩
              obtain ⟨cc, hcc⟩ := Hcc.out
              rw [← hcc] at hccb ⊢
              have HCC := Lib.hid hcc
              clear hcc hmb0 hmb1 hq0 Hcc
              obtain ⟨X, b2, hX, hXb, hb2, hb2b, hX1, hXe⟩ := off_word (cc := cc) wu hb1 hccb
              have hX' : (4294967296 : Int) + (u : Int) - (cc : Int) % 4294967296 - (b1 : Int) = (X : Int) := by omega
              have hb2' : (1 : Int) - (X : Int) / 4294967296 = (b2 : Int) := by omega
              have HX := Lib.hid (And.intro hX' (And.intro hb2' hXe))
              have hij1 : (i : Int) + (j : Int) < (n : Int) + 2 := by omega
              have hm9 := Nat.mod_lt cc (y := 4294967296) (by decide)
              clear hX hb2 hX' hb2' hXe
              go_upto_region 27 with fail
              rw [HX.out.1]
              go_wp2_with fail
              rw [HX.out.2.1, show (X : Int) % 4294967296 = ((X % 4294967296 : Nat) : Int) by omega, show (cc : Int) / 4294967296 = ((cc / 4294967296 : Nat) : Int) by omega]
              go_roundg (p + 3 - (i + 1))
              case measure => have := Hk3.out; omega
              case rel =>
                refine ⟨i + 1, cc / 4294967296, b2, M1.set i (X % 4294967296), rfl, rfl, rfl, rfl, by omega, by omega, hb2b, ?_, Blk.far Hz.out.2.1 (p := ⟨w1.heap.size, i + j, none⟩) (Ne.symm hne) _, Hz.out.2.2.1.setCell (p := ⟨w1.heap.size, i + j, none⟩) (show w.heap.size ≤ w1.heap.size from hsz1) _, ReadsW.setCell Hz.out.2.2.2.1 (p := ⟨w1.heap.size, i + j, none⟩) (Nat.le_refl _) _, Hst.out _ _ _ HCC.out HX.out.2.2 (Nat.mod_lt _ (by decide)) (fun hh => ?_)⟩
                · have := Hm1.out (X % 4294967296)
                  rwa [Nat.add_comm j i] at this
                · have h7 := Hz.out.1 hh
                  have h8 := HCC.out
                  rw [h7, Nat.mul_zero] at h8
                  omega
            · have hi' : i = p + 2 + 1 := by omega
              have hT1 := hT.out
              rw [hi'] at hT1
              obtain ⟨e1, e2, e3, e4⟩ := taken_end hT1 HV.out.2.1.symm Hmid.out.2.1 hb1 (by rw [val_w]; exact Hle.out) (by rw [val_w]; exact hgM.out)
              rw [val_w] at e3 e4
              have hLs := long_step hLong.out HV.out.2.2.2.1 hV0 hjm e1 e2 (by rw [show p + 2 + 1 = p + 3 from rfl, ← Hmid.out.1]; exact e3)
              rw [show p + 2 + 1 = p + 3 from rfl, ← Hmid.out.1, ← e4] at hLs
              have HLs := Lib.hid hLs
              have Hend := Lib.hid (And.intro hm1 (And.intro hq1 (And.intro hl1 hr1)))
              have hii : (p : Int) + 2 < (i : Int) := by omega
              clear hT1 e1 e2 e3 e4 hLs hT hm1 hq1 hl1 hr1
              go_wp2_with fail
              go_roundg j
              case measure => omega
              case rel => exact ⟨_, Q.set j gz, rfl, by omega, Hend.out.1, Hend.out.2.1, Hend.out.2.2.1, Hend.out.2.2.2, HLs.out.1⟩
        · rw [decide_eq_false hle] at hf
          obtain ⟨hgp, hgd⟩ := guess_less hgM.out hle
          have HF := Lib.hid hf
          have Hgd := Lib.hid hgd
          clear hf hle hgd
          go_wp2_with fail
          refine HF.out.mono ?_
          rintro e w7 ⟨rfl, hb7⟩
          have Hb7 := Lib.hid (hbi.trans (hb7.mono hbi.size))
          clear hb7 hbi
          go_wp2_with fail
          go_roundg (gz - 1)
          case measure => have := Hk.out; omega
          case rel => exact ⟨gz - 1, by congr 1; omega, rfl, by omega, Hgd, Hb7.out⟩
    · have hk0 : gk = 0 := by omega
      subst hk0
      have hlo := hLong.out
      obtain ⟨q1, q2, q3, q4, q5, q6, q7⟩ := hlo
      rw [Nat.pow_zero, Nat.mul_one, HV.out.1] at q7
      rw [HV.out.1] at q6
      have hend := divide_end q6 q7 (Nat.two_pow_pos y)
      have hcQ := rcut_any (reads_blk hbq hbq.lt) (n := n - p) (c := n - p) (by omega) (Nat.le_refl _) (by omega) q4
      have hcU := rcut_any (reads_blk hbu hbu.lt) (n := n + 2) (c := n + 2) (by omega) (Nat.le_refl _) (by omega) q2
      have hmQ := (wds_take _ _ rfl q4).2
      have hmU := (wds_take _ _ rfl q2).2
      have hrU := reads_cut (reads_blk hbu hbu.lt) q2
      have hrQ := reads_cut (reads_blk hbq hbq.lt) q4
      have hD := rdown_any hrU (Nat.le_refl _) rfl (n := y) (c := n + 2) (by omega) (by omega) (wd_w _)
      rw [val_w, hend.2] at hD
      rw [hend.1] at hcQ hrQ hmQ
      obtain ⟨mU, hmU'⟩ : ∃ mU, mU = (wds (val L)).length := ⟨_, rfl⟩
      rw [← hmU'] at hD hcU hmU
      have HCQ := Lib.hid hcQ
      have HCU := Lib.hid hcU
      have HD := Lib.hid hD
      have Hr := Lib.hid (And.intro hrQ (And.intro hbel (And.intro hmQ (And.intro q3 hbq))))
      clear hcQ hcU hD hrQ hrU hmQ hmU hend q1 q2 q3 q4 q5 q6 q7 hbu hbq hbel hrvr hmU'
      go_wp2_with fail
      refine HCQ.out.mono ?_
      rintro e w7 ⟨mQ, rfl, hmQ', rfl⟩
      have HmQ := Lib.hid hmQ'
      clear hmQ'
      go_wp2_with fail
      refine HCU.out.mono ?_
      rintro e w8 ⟨mU2, rfl, rfl, rfl⟩
      go_wp2_with fail
      refine HD.out.mono ?_
      rintro e w9 ⟨A2, m2, c2, rfl, hm2, hc2, hc2b, hr2, hbR⟩
      have Hfin := Lib.hid (And.intro hm2 (And.intro hr2 hbR))
      clear hm2 hr2 hbR
      go_wp2_with fail
      go_ret2
      refine ⟨_, _, _, _, _, _, rfl, ⟨HmQ.out, Hfin.out.1.out⟩, ?_, hc2, by omega, hc2b, ?_, Hfin.out.2.1, Hr.out.2.1.trans (Hfin.out.2.2.mono Hr.out.2.1.size)⟩
      · rw [HmQ.out]; have := Hr.out.2.2.1; have := Hr.out.2.2.2.1; omega
      · exact (Hr.out.1.below Hfin.out.2.2).more Hfin.out.2.2.size
theorem rdivided_any {w : World} {B n m c d a b : Nat} {A C : Option Addr} (h1 : ReadsW w B A (wds a)) (h2 : ReadsW w B C (wds b)) (hB : B ≤ w.heap.size) (hn : n = (wds a).length) (hm : m = (wds b).length) (hnl : n ≤ 30000000) (hml : m ≤ 30000000) (hnc : n ≤ c) (hcl : c ≤ 9223372036854775807) (hb : 0 < b) :
    Calls Try.prog 72 #[.slice A n c, .slice C m d] w (Div2 w (a / b) (a % b)) := by
  rcases Nat.lt_or_ge a b with h | h
  · exact rdivided_lt h1 h2 hB hn hm hnc hcl (by omega) (by omega) h
  · rcases (show m = 0 ∨ m = 1 ∨ 2 ≤ m by omega) with h0 | h0 | h0
    · exfalso
      rw [wds_pos hb] at hm
      simp at hm
      omega
    · exact rdivided_one h1 h2 hB hn hm (by omega) (by omega) h h0
    · exact rdivided_long h1 h2 hB hn hm hnl hml h (show m = (m - 2) + 2 by omega)
end Go.Proofs.Ytpnginnjbdedbaa

/- The reference's Gcd (printed by gen_rgcd.py). -/
namespace Go.Proofs.Ytpnginnjbdedbaa
open Go.RowKit
open Wh
set_option linter.unusedSimpArgs false
set_option linter.unusedVariables false

theorem gcd_turn (x y : Nat) : Nat.gcd y (x % y) = Nat.gcd x y := by rw [Nat.gcd_comm y (x % y), ← Nat.gcd_rec, Nat.gcd_comm]
theorem len_nought {y : Nat} (h : (wds y).length = 0) : y = 0 := by
  rcases Nat.eq_zero_or_pos y with h0 | h0
  · exact h0
  · rw [wds_pos h0] at h; simp at h
theorem len_posn {y : Nat} (h : 0 < y) : 0 < (wds y).length := by rw [wds_pos h]; simp
set_option maxRecDepth 100000 in
set_option maxHeartbeats 4000000 in
theorem rgcd_any {w : World} {na nb : Bool} {sa sb : ByteArray} (ha : Fmd sa) (hb : Fmd sb) :
    Calls Try.prog 18 #[.agg #[.bool na, .string sa], .agg #[.bool nb, .string sb]] w (Calm w (enc ((Nat.gcd (bval sa.data.toList) (bval sb.data.toList) : Nat) : Int))) := by
  have HA := Lib.hid (fun W : World => words_any (w := W) (by have := ha.2; omega) ha.1)
  have HB := Lib.hid (fun W : World => words_any (w := W) (by have := hb.2; omega) hb.1)
  have Hla := Lib.hid (And.intro ha.len hb.len)
  have Hab := Lib.hid (And.intro ha hb)
  obtain ⟨a, hae⟩ : ∃ a, a = bval sa.data.toList := ⟨_, rfl⟩
  obtain ⟨b, hbe⟩ : ∃ b, b = bval sb.data.toList := ⟨_, rfl⟩
  rw [← hae] at HA
  rw [← hbe] at HB
  rw [← hae, ← hbe] at Hla
  have Hnum := Lib.hid (show num (na, sa) = sgn na a ∧ num (nb, sb) = sgn nb b from ⟨by rw [hae]; rfl, by rw [hbe]; rfl⟩)
  (try rw [← hae, ← hbe])
  clear hae hbe ha hb
  have E0 := Lib.hid (Env.nil w)
  go_enter Try.func18, Try.ntmps18
  obtain ⟨zs, zb, ez⟩ : ∃ s b', enc ((Nat.gcd a b : Nat) : Int) = .agg #[.bool s, .string b'] := ⟨_, _, rfl⟩
  go_upto_region 1 with fail
  have E1 : Hid (Env w (((w.alloc (.cells #[.bool na, .string sa] 26)).alloc (.cells #[.bool nb, .string sb] 26)).alloc (.cells #[.bool false, .string ⟨#[]⟩] 26)) [(w.heap.size + 1 + 1, 26, #[.bool false, .string ⟨#[]⟩]), (w.heap.size + 1, 26, #[.bool nb, .string sb]), (w.heap.size, 26, #[.bool na, .string sa])]) := Lib.hid (by have h := (Env.new (Env.new (Env.new E0.out 26 #[.bool na, .string sa]) 26 #[.bool nb, .string sb]) 26 #[.bool false, .string ⟨#[]⟩]); (try simp only [World.size_alloc] at h); exact h)
  generalize (((w.alloc (.cells #[.bool na, .string sa] 26)).alloc (.cells #[.bool nb, .string sb] 26)).alloc (.cells #[.bool false, .string ⟨#[]⟩] 26)) = W1 at E1 ⊢
  have Cf1 := Lib.hid (fun (W : World) (h : Env w W [(w.heap.size + 1 + 1, 26, #[.bool false, .string ⟨#[]⟩]), (w.heap.size + 1, 26, #[.bool nb, .string sb]), (w.heap.size, 26, #[.bool na, .string sa])]) => (show W.cell? ⟨w.heap.size, 0, none⟩ = some (.bool na) ∧ W.cell? ⟨w.heap.size, 1, none⟩ = some (.string sa) ∧ W.cell? ⟨w.heap.size + 1, 0, none⟩ = some (.bool nb) ∧ W.cell? ⟨w.heap.size + 1, 1, none⟩ = some (.string sb) from ⟨(Env.at_ h 2 rfl).cell 0, (Env.at_ h 2 rfl).cell 1, (Env.at_ h 1 rfl).cell 0, (Env.at_ h 1 rfl).cell 1⟩))
  refine wp_region_noPanic ?_
  refine wp_region_HK (fun w' => w'.cell? ⟨w.heap.size, 0, none⟩ = some (.bool na) ∧ w'.cell? ⟨w.heap.size, 1, none⟩ = some (.string sa) ∧ w'.cell? ⟨w.heap.size + 1, 0, none⟩ = some (.bool nb) ∧ w'.cell? ⟨w.heap.size + 1, 1, none⟩ = some (.string sb)) 6 (by kernel_rfl) (Cf1.out _ E1.out.drew) (fun hHeld => ?_)
  refine wpHK_pure (i := 0) (oi := Oper.mk (some 9) _ _ _ _ _) (v := ?_) rfl (by kernel_rfl) (by kernel_rfl) (by kernel_rfl) (fun _ _ _ h => h) (Or.inl ⟨by rfl, ?_⟩) ?_
  rotate_left
  · (intro w' _; go_simp; try with_reducible rfl)
  try simp only [Act.put, List.setIfInBounds_toArray, List.set_cons_zero, List.set_cons_succ]
  refine wpHK_pure (i := 3) (oi := Oper.mk (some 12) _ _ _ _ _) (v := ?_) rfl (by kernel_rfl) (by kernel_rfl) (by kernel_rfl) (fun _ _ _ h => h) (Or.inl ⟨by rfl, ?_⟩) ?_
  rotate_left
  · (intro w' _; go_simp; try with_reducible rfl)
  try simp only [Act.put, List.setIfInBounds_toArray, List.set_cons_zero, List.set_cons_succ]
  refine wpHK_take (i := 1) (oi := Oper.mk (some 10) _ _ _ _ _) (v := ?_) rfl (by kernel_rfl) (by kernel_rfl) (by kernel_rfl) (by kernel_rfl) (fun _ _ _ h => h) (Or.inl ⟨by rfl, ?_⟩) (by assumption) ?_
  rotate_left
  · (intro w' hSw; (try dsimp only at hSw); (obtain ⟨s0, s1, s2, s3⟩ := hSw); go_simp; try with_reducible rfl)
  try simp only [Act.put, List.setIfInBounds_toArray, List.set_cons_zero, List.set_cons_succ]
  refine wpHK_take (i := 4) (oi := Oper.mk (some 13) _ _ _ _ _) (v := ?_) rfl (by kernel_rfl) (by kernel_rfl) (by kernel_rfl) (by kernel_rfl) (fun _ _ _ h => h) (Or.inl ⟨by rfl, ?_⟩) (by assumption) ?_
  rotate_left
  · (intro w' hSw; (try dsimp only at hSw); (obtain ⟨s0, s1, s2, s3⟩ := hSw); go_simp; try with_reducible rfl)
  try simp only [Act.put, List.setIfInBounds_toArray, List.set_cons_zero, List.set_cons_succ]
  refine wpHK_one (j := 2) (o := Oper.mk (some 11) _ _ _ _ _) rfl (by kernel_rfl) (fun K hK => ?_)
  go_simp
  refine (HA.out _).mono ?_
  rintro e V1 ⟨A1, m1, c1, rfl, hm, hmc, hcl, hr, hb⟩
  have F1 := Lib.hid (Env.call E1.out.drew hb)
  have R1 := Lib.hid (And.intro hm.out (And.intro hmc (And.intro hcl hr)))
  have hbl := Lib.hid hb
  clear hm hmc hcl hr hb
  refine hK.out _ _ (Cf1.out _ F1.out) (fun _ => ?_)
  clear hK K hHeld
  have hHeld := (Cf1.out _ F1.out)
  try simp only [Act.put, List.setIfInBounds_toArray, List.set_cons_zero, List.set_cons_succ]
  refine wpHK_one (j := 5) (o := Oper.mk (some 14) _ _ _ _ _) rfl (by kernel_rfl) (fun K hK => ?_)
  go_simp
  refine (HB.out _).mono ?_
  rintro e V2 ⟨A2, m2, c2, rfl, hm, hmc, hcl, hr, hb⟩
  have F2 := Lib.hid (Env.call F1.out hb)
  have R2 := Lib.hid (And.intro hm.out (And.intro hmc (And.intro hcl hr)))
  have hbl := Lib.hid hb
  clear hm hmc hcl hr hb
  have R1' := Lib.hid (And.intro R1.out.1 (And.intro R1.out.2.1 (And.intro R1.out.2.2.1 ((R1.out.2.2.2.below hbl.out).more hbl.out.size))))
  clear R1 hbl
  have R1 := R1'
  clear R1'
  refine hK.out _ _ (Cf1.out _ F2.out) (fun _ => ?_)
  clear hK K hHeld
  have hHeld := (Cf1.out _ F2.out)
  try simp only [Act.put, List.setIfInBounds_toArray, List.set_cons_zero, List.set_cons_succ]
  refine wpHK_pure (i := 6) (oi := Oper.mk (some 5) _ _ _ _ _) (v := ?_) rfl (by kernel_rfl) (by kernel_rfl) (by kernel_rfl) (fun _ _ _ h => h) (Or.inl ⟨by rfl, ?_⟩) ?_
  rotate_left
  · (intro w' _; go_simp; try with_reducible rfl)
  try simp only [Act.put, List.setIfInBounds_toArray, List.set_cons_zero, List.set_cons_succ]
  refine wpHK_pure (i := 7) (oi := Oper.mk (some 6) _ _ _ _ _) (v := ?_) rfl (by kernel_rfl) (by kernel_rfl) (by kernel_rfl) (fun _ _ _ h => h) (Or.inl ⟨by rfl, ?_⟩) ?_
  rotate_left
  · (intro w' _; go_simp; try with_reducible rfl)
  try simp only [Act.put, List.setIfInBounds_toArray, List.set_cons_zero, List.set_cons_succ]
  refine wpHK_done (by kernel_rfl) ?_ _
  refine NoPanic.normal ?_
  go_wp2_with fail
  go_loopg [5, 6] b (fun k xv yv wr => ∃ (A : Option Addr) (n c : Nat) (A' : Option Addr) (n' c' x y : Nat), Hid (k = y) ∧ xv = .slice A n c ∧ yv = .slice A' n' c' ∧ Hid (n = (wds x).length ∧ n ≤ c ∧ c ≤ 9223372036854775807 ∧ ReadsW wr wr.heap.size A (wds x)) ∧ Hid (n' = (wds y).length ∧ n' ≤ c' ∧ c' ≤ 9223372036854775807 ∧ ReadsW wr wr.heap.size A' (wds y)) ∧ n ≤ 25000001 ∧ n' ≤ 25000001 ∧ Hid (Nat.gcd x y = Nat.gcd a b) ∧ Hid (Env w wr [(w.heap.size + 1 + 1, 26, #[.bool false, .string ⟨#[]⟩]), (w.heap.size + 1, 26, #[.bool nb, .string sb]), (w.heap.size, 26, #[.bool na, .string sa])]))
  case atStart => exact ⟨_, _, _, _, _, _, a, b, Lib.hid rfl, rfl, rfl, R1, R2, by rw [R1.out.1]; exact Hla.out.1, by rw [R2.out.1]; exact Hla.out.2, Lib.hid rfl, F2⟩
  case round =>
    obtain ⟨A, n, c, A', n', c', x, y, Hk, rfl, rfl, Hx, Hy, hn, hn', HG, HE⟩ := hrel
    rcases Nat.eq_zero_or_pos y with h0 | h0
    case inr =>
      have hp := len_posn h0
      have hp' : 0 < n' := by rw [Hy.out.1]; exact hp
      have HD := Lib.hid (rdivided_any (d := c') Hx.out.2.2.2 Hy.out.2.2.2 (Nat.le_refl _) Hx.out.1 Hy.out.1 (by omega) (by omega) Hx.out.2.1 Hx.out.2.2.1 h0)
      have Hmod := Lib.hid (Nat.mod_lt x h0)
      have HL := Lib.hid (len_mono (Nat.le_of_lt (Nat.mod_lt x h0)))
      clear h0 hp
      go_wp2_with fail
      refine HD.out.mono ?_
      rintro e w2 ⟨A1, n1, c1, A2, n2, c2, rfl, hn12, hc1, hc2, hc1', hc2', hr1, hr2, hb⟩
      have Hy2 := Lib.hid (And.intro Hy.out.1 (And.intro Hy.out.2.1 (And.intro Hy.out.2.2.1 ((Hy.out.2.2.2.below hb).more hb.size))))
      have Hr2 := Lib.hid (And.intro hn12.out.2 (And.intro hc2 (And.intro hc2' hr2)))
      have HE2 := Lib.hid (Env.call HE.out hb)
      clear hn12 hc1 hc2 hc1' hc2' hr1 hr2 hb
      go_wp2_with fail
      go_roundg (x % y)
      case measure => rw [Hk.out]; exact Hmod.out
      case rel => exact ⟨_, _, _, _, _, _, y, x % y, Lib.hid rfl, rfl, rfl, Hy2, Hr2, hn', by have h1 := Hr2.out.1; have h2 := Hy.out.1; have h3 := HL.out; omega, Lib.hid ((gcd_turn x y).trans HG.out), HE2⟩
    case inl =>
      subst h0
      have hz : n' = 0 := by rw [Hy.out.1, wds_zero]; rfl
      subst hz
      have hg := HG.out
      rw [Nat.gcd_zero_right] at hg
      subst hg
      have HM := made_any (w := wr) (neg := false) Hx.out.2.2.2 (Nat.le_refl _) Hx.out.1 Hx.out.2.1 Hx.out.2.2.1 (by omega) (wd_w _)
      rw [val_w, show sgn false (Nat.gcd a b) = ((Nat.gcd a b : Nat) : Int) from rfl, ez] at HM
      have HM' := Lib.hid HM
      clear HM
      go_wp2_with fail
      refine HM'.out.mono ?_
      rintro e w3 ⟨rfl, hb⟩
      have HE3 := Lib.hid (Env.call HE.out hb)
      clear hb
      have n4 := Env.at_ HE3.out 0 rfl
      have y0 := n4.cell 0
      have y1 := n4.cell 1
      have y2 := n4.frozen 0
      have y3 := n4.frozen 1
      simp at y0 y1
      have hge := HE3.out.1.size
      clear n4
      go_wp2_with fail
      have n5 := ((Env.at_ HE3.out 0 rfl).set_ 0 (.bool zs)).set_ 1 (.string zb)
      have d0 := n5.cell 0
      have d1 := n5.cell 1
      simp at d0 d1
      refine bodyPost_ret (v := .agg #[.bool zs, .string zb]) (by simp [results, Try.results18, go_sem, d0, d1]) rfl ?_
      exact ⟨by rw [ez], ((HE3.out.1).setCell (by show w.heap.size ≤ w.heap.size + 1 + 1; omega) _).setCell (by show w.heap.size ≤ w.heap.size + 1 + 1; omega) _⟩
end Go.Proofs.Ytpnginnjbdedbaa

/- The reference's DivMod (printed by gen_rdivmod.py). -/
namespace Go.Proofs.Ytpnginnjbdedbaa
open Go.RowKit
open Wh
set_option linter.unusedSimpArgs false
set_option linter.unusedVariables false

theorem enc_fm {z : Int} (h : (bys z.natAbs).length ≤ 100000000) : ∃ s b, enc z = .agg #[.bool s, .string b] ∧ num (s, b) = z ∧ Fmd b := by
  refine ⟨_, _, rfl, ?_, ?_, ?_⟩
  · show sgn _ (bval (bys z.natAbs)) = z
    rw [bval_b, sgn_of]
  · exact formed_b _
  · show (bys z.natAbs).toArray.size ≤ 100000000
    rw [List.size_toArray]; exact h
theorem bys_mon {a b : Nat} (h : a ≤ b) : (bys a).length ≤ (bys b).length := by
  have h1 := bval_lt (bys b)
  rw [bval_b] at h1
  exact bys_len (Nat.lt_of_le_of_lt h h1)
theorem one_mg {n : Bool} : num (n, ⟨#[1]⟩) = if n then -1 else 1 := by cases n <;> rfl
theorem may_on {n : Bool} : MayL n (⟨#[1]⟩ : ByteArray).data.toList := ⟨by decide, fun h => by simp at h, fun x h => by simp at h; subst h; decide⟩
theorem enc_on : enc 1 = .agg #[.bool false, .string ⟨#[1]⟩] := by
  have h : bys 1 = [1] := by rw [bys_pos (by decide), show 1 / 256 = 0 from rfl, bys_zero]; rfl
  show Value.agg #[.bool (decide ((1 : Int) < 0)), .string ⟨(bys 1).toArray⟩] = _
  rw [h]
  rfl
theorem dm_pos {a b : Nat} (hb : 0 < b) : sgn false a / sgn false b = sgn false (a / b) ∧ sgn false a % sgn false b = ((a % b : Nat) : Int) := ⟨rfl, rfl⟩
theorem dm_posn {a b : Nat} (hb : 0 < b) : sgn false a / sgn true b = sgn true (a / b) ∧ sgn false a % sgn true b = ((a % b : Nat) : Int) := by
  show (a : Int) / -(b : Int) = -((a / b : Nat) : Int) ∧ (a : Int) % -(b : Int) = ((a % b : Nat) : Int)
  rw [Int.ediv_neg, Int.emod_neg]
  exact ⟨rfl, rfl⟩
theorem dm_split {a b : Nat} : (a : Int) = (b : Int) * ((a / b : Nat) : Int) + ((a % b : Nat) : Int) := by
  have h := Nat.div_add_mod a b
  have h2 : ((b * (a / b) + a % b : Nat) : Int) = (a : Int) := by rw [h]
  rw [Int.natCast_add, Int.natCast_mul] at h2
  exact h2.symm
theorem dm_neg {a b : Nat} (hb : 0 < b) (h0 : a % b = 0) : sgn true a / sgn false b = sgn true (a / b) ∧ sgn true a % sgn false b = 0 := by
  have hs := dm_split (a := a) (b := b)
  rw [h0] at hs
  refine (Int.ediv_emod_unique (by show (0 : Int) < (b : Int); omega)).2 ⟨?_, by decide, by show (0 : Int) < (b : Int); omega⟩
  show 0 + (b : Int) * -((a / b : Nat) : Int) = -(a : Int)
  rw [Int.mul_neg]
  omega
theorem dm_negn {a b : Nat} (hb : 0 < b) (h0 : a % b = 0) : sgn true a / sgn true b = sgn false (a / b) ∧ sgn true a % sgn true b = 0 := by
  have h := dm_neg hb h0
  show sgn true a / -(sgn false b) = sgn false (a / b) ∧ sgn true a % -(sgn false b) = 0
  rw [Int.ediv_neg, Int.emod_neg, h.1, h.2]
  refine ⟨?_, rfl⟩
  show - -((a / b : Nat) : Int) = ((a / b : Nat) : Int)
  omega
theorem dm_low {a b : Nat} (hb : 0 < b) (h0 : 0 < a % b) : sgn true a / sgn false b = sgn true (a / b) - 1 ∧ sgn true a % sgn false b = (b : Int) - ((a % b : Nat) : Int) := by
  have hs := dm_split (a := a) (b := b)
  have hl := Nat.mod_lt a hb
  refine (Int.ediv_emod_unique (by show (0 : Int) < (b : Int); omega)).2 ⟨?_, by omega, by show (b : Int) - ((a % b : Nat) : Int) < (b : Int); omega⟩
  show (b : Int) - ((a % b : Nat) : Int) + (b : Int) * (-((a / b : Nat) : Int) - 1) = -(a : Int)
  rw [Int.mul_sub, Int.mul_neg, Int.mul_one]
  omega
theorem dm_lown {a b : Nat} (hb : 0 < b) (h0 : 0 < a % b) : sgn true a / sgn true b = sgn false (a / b) + 1 ∧ sgn true a % sgn true b = (b : Int) - ((a % b : Nat) : Int) := by
  have h := dm_low hb h0
  show sgn true a / -(sgn false b) = sgn false (a / b) + 1 ∧ sgn true a % -(sgn false b) = (b : Int) - ((a % b : Nat) : Int)
  rw [Int.ediv_neg, Int.emod_neg, h.1, h.2]
  refine ⟨?_, rfl⟩
  show -(-((a / b : Nat) : Int) - 1) = ((a / b : Nat) : Int) + 1
  omega
theorem Env.putAt {w0 W : World} {l : List (Nat × TypeId × Array Value)} {g : Nat} {t : TypeId} {x y : Value} (h : Env w0 W l) (i : Nat) (hx : l[i]? = some (g, t, #[x, y])) (hg : w0.heap.size ≤ g) (hd : ∀ j q, j ≠ i → l[j]? = some q → q.1 ≠ g) (u v : Value) :
    Env w0 ((W.setCell ⟨g, 0, none⟩ u).setCell ⟨g, 1, none⟩ v) (l.set i (g, t, #[u, v])) := by
  refine ⟨(h.1.setCell (p := ⟨g, 0, none⟩) hg _).setCell (p := ⟨g, 1, none⟩) hg _, fun q hq => ?_⟩
  obtain ⟨j, hj⟩ := List.getElem?_of_mem hq
  rw [List.getElem?_set] at hj
  by_cases hij : i = j
  · rw [if_pos hij] at hj
    split at hj
    · injection hj with hj
      subst hj
      exact put_pair u v (h.at_ i hx)
    · cases hj
  · rw [if_neg hij] at hj
    exact far_pair u v (h.2 q (List.mem_of_getElem? hj)) (hd j q (fun e => hij e.symm) hj)
theorem sgn_fmd {n : Bool} {a k : Nat} (h : a ≤ k) (hk : (bys k).length ≤ 100000000) : ∃ s b, enc (sgn n a) = .agg #[.bool s, .string b] ∧ num (s, b) = sgn n a ∧ Fmd b :=
  enc_fm (by rw [sgn_abs]; exact Nat.le_trans (bys_mon h) hk)
set_option maxRecDepth 100000 in
set_option maxHeartbeats 4000000 in
theorem rdivmod_any {w : World} {na nb : Bool} {sa sb : ByteArray} (ha : Fmd sa) (hb : Fmd sb) (hb0 : 0 < bval sb.data.toList) :
    Calls Try.prog 25 #[.agg #[.bool na, .string sa], .agg #[.bool nb, .string sb]] w (Calm w (.tuple #[enc (num (na, sa) / num (nb, sb)), enc (num (na, sa) % num (nb, sb))])) := by
  have Hsa := Lib.hid (show (bys (bval sa.data.toList)).length ≤ 100000000 by rw [bys_bval _ _ rfl ha.1]; have hl : sa.data.toList.length = sa.size := Array.length_toList; have := ha.2; omega)
  have Hsb := Lib.hid (show (bys (bval sb.data.toList)).length ≤ 100000000 by rw [bys_bval _ _ rfl hb.1]; have hl : sb.data.toList.length = sb.size := Array.length_toList; have := hb.2; omega)
  have HO := Lib.hid (fun W : World => calm_eq (rOf_any (w := W) (n := 1) (by decide) (by decide)) enc_on)
  have HAbs := Lib.hid (fun W : World => rabs_any (w := W) (n := nb) hb)
  have Hnb := Lib.hid (show (num (nb, sb)).natAbs = bval sb.data.toList from sgn_abs _ _)
  have HA := Lib.hid (fun W : World => words_any (w := W) (by have := ha.2; omega) ha.1)
  have HB := Lib.hid (fun W : World => words_any (w := W) (by have := hb.2; omega) hb.1)
  have Hla := Lib.hid (And.intro ha.len hb.len)
  have Hab := Lib.hid (And.intro ha hb)
  obtain ⟨a, hae⟩ : ∃ a, a = bval sa.data.toList := ⟨_, rfl⟩
  obtain ⟨b, hbe⟩ : ∃ b, b = bval sb.data.toList := ⟨_, rfl⟩
  rw [← hae] at HA
  rw [← hbe] at HB
  rw [← hae, ← hbe] at Hla
  rw [← hae] at Hsa
  rw [← hbe] at Hsb Hnb hb0
  have Hb0 := Lib.hid hb0
  clear hb0
  obtain ⟨s1, b1, e1, n1, f1⟩ := sgn_fmd (n := (na != nb)) (Nat.div_le_self a b) Hsa.out
  obtain ⟨s2, b2, e2, n2, f2⟩ := sgn_fmd (n := false) (Nat.mod_le a b) Hsa.out
  have H1 := Lib.hid (And.intro e1 (And.intro n1 f1))
  have H2 := Lib.hid (And.intro e2 (And.intro n2 f2))
  clear e1 n1 f1 e2 n2 f2
  have Hnum := Lib.hid (show num (na, sa) = sgn na a ∧ num (nb, sb) = sgn nb b from ⟨by rw [hae]; rfl, by rw [hbe]; rfl⟩)
  (try rw [← hae, ← hbe])
  clear hae hbe ha hb
  have E0 := Lib.hid (Env.nil w)
  go_enter Try.func25, Try.ntmps25
  go_upto_region 1 with fail
  have E1 : Hid (Env w ((((w.alloc (.cells #[.bool na, .string sa] 26)).alloc (.cells #[.bool nb, .string sb] 26)).alloc (.cells #[.bool false, .string ⟨#[]⟩] 26)).alloc (.cells #[.bool false, .string ⟨#[]⟩] 26)) [(w.heap.size + 1 + 1 + 1, 26, #[.bool false, .string ⟨#[]⟩]), (w.heap.size + 1 + 1, 26, #[.bool false, .string ⟨#[]⟩]), (w.heap.size + 1, 26, #[.bool nb, .string sb]), (w.heap.size, 26, #[.bool na, .string sa])]) := Lib.hid (by have h := (Env.new (Env.new (Env.new (Env.new E0.out 26 #[.bool na, .string sa]) 26 #[.bool nb, .string sb]) 26 #[.bool false, .string ⟨#[]⟩]) 26 #[.bool false, .string ⟨#[]⟩]); (try simp only [World.size_alloc] at h); exact h)
  generalize ((((w.alloc (.cells #[.bool na, .string sa] 26)).alloc (.cells #[.bool nb, .string sb] 26)).alloc (.cells #[.bool false, .string ⟨#[]⟩] 26)).alloc (.cells #[.bool false, .string ⟨#[]⟩] 26)) = W1 at E1 ⊢
  have Cf1 := Lib.hid (fun (W : World) (h : Env w W [(w.heap.size + 1 + 1 + 1, 26, #[.bool false, .string ⟨#[]⟩]), (w.heap.size + 1 + 1, 26, #[.bool false, .string ⟨#[]⟩]), (w.heap.size + 1, 26, #[.bool nb, .string sb]), (w.heap.size, 26, #[.bool na, .string sa])]) => (show W.cell? ⟨w.heap.size, 0, none⟩ = some (.bool na) ∧ W.cell? ⟨w.heap.size, 1, none⟩ = some (.string sa) ∧ W.cell? ⟨w.heap.size + 1, 0, none⟩ = some (.bool nb) ∧ W.cell? ⟨w.heap.size + 1, 1, none⟩ = some (.string sb) from ⟨(Env.at_ h 3 rfl).cell 0, (Env.at_ h 3 rfl).cell 1, (Env.at_ h 2 rfl).cell 0, (Env.at_ h 2 rfl).cell 1⟩))
  refine wp_region_noPanic ?_
  refine wp_region_HK (fun w' => w'.cell? ⟨w.heap.size, 0, none⟩ = some (.bool na) ∧ w'.cell? ⟨w.heap.size, 1, none⟩ = some (.string sa) ∧ w'.cell? ⟨w.heap.size + 1, 0, none⟩ = some (.bool nb) ∧ w'.cell? ⟨w.heap.size + 1, 1, none⟩ = some (.string sb)) 10 (by kernel_rfl) (Cf1.out _ E1.out.drew) (fun hHeld => ?_)
  refine wpHK_pure (i := 0) (oi := Oper.mk (some 11) _ _ _ _ _) (v := ?_) rfl (by kernel_rfl) (by kernel_rfl) (by kernel_rfl) (fun _ _ _ h => h) (Or.inl ⟨by rfl, ?_⟩) ?_
  rotate_left
  · (intro w' _; go_simp; try with_reducible rfl)
  try simp only [Act.put, List.setIfInBounds_toArray, List.set_cons_zero, List.set_cons_succ]
  refine wpHK_pure (i := 3) (oi := Oper.mk (some 14) _ _ _ _ _) (v := ?_) rfl (by kernel_rfl) (by kernel_rfl) (by kernel_rfl) (fun _ _ _ h => h) (Or.inl ⟨by rfl, ?_⟩) ?_
  rotate_left
  · (intro w' _; go_simp; try with_reducible rfl)
  try simp only [Act.put, List.setIfInBounds_toArray, List.set_cons_zero, List.set_cons_succ]
  refine wpHK_take (i := 1) (oi := Oper.mk (some 12) _ _ _ _ _) (v := ?_) rfl (by kernel_rfl) (by kernel_rfl) (by kernel_rfl) (by kernel_rfl) (fun _ _ _ h => h) (Or.inl ⟨by rfl, ?_⟩) (by assumption) ?_
  rotate_left
  · (intro w' hSw; (try dsimp only at hSw); (obtain ⟨s0, s1, s2, s3⟩ := hSw); go_simp; try with_reducible rfl)
  try simp only [Act.put, List.setIfInBounds_toArray, List.set_cons_zero, List.set_cons_succ]
  refine wpHK_take (i := 4) (oi := Oper.mk (some 15) _ _ _ _ _) (v := ?_) rfl (by kernel_rfl) (by kernel_rfl) (by kernel_rfl) (by kernel_rfl) (fun _ _ _ h => h) (Or.inl ⟨by rfl, ?_⟩) (by assumption) ?_
  rotate_left
  · (intro w' hSw; (try dsimp only at hSw); (obtain ⟨s0, s1, s2, s3⟩ := hSw); go_simp; try with_reducible rfl)
  try simp only [Act.put, List.setIfInBounds_toArray, List.set_cons_zero, List.set_cons_succ]
  refine wpHK_one (j := 2) (o := Oper.mk (some 13) _ _ _ _ _) rfl (by kernel_rfl) (fun K hK => ?_)
  go_simp
  refine (HA.out _).mono ?_
  rintro e V1 ⟨A1, m1, c1, rfl, hm, hmc, hcl, hr, hb⟩
  have F1 := Lib.hid (Env.call E1.out.drew hb)
  have R1 := Lib.hid (And.intro hm.out (And.intro hmc (And.intro hcl hr)))
  have hbl := Lib.hid hb
  clear hm hmc hcl hr hb
  refine hK.out _ _ (Cf1.out _ F1.out) (fun _ => ?_)
  clear hK K hHeld
  have hHeld := (Cf1.out _ F1.out)
  try simp only [Act.put, List.setIfInBounds_toArray, List.set_cons_zero, List.set_cons_succ]
  refine wpHK_one (j := 5) (o := Oper.mk (some 16) _ _ _ _ _) rfl (by kernel_rfl) (fun K hK => ?_)
  go_simp
  refine (HB.out _).mono ?_
  rintro e V2 ⟨A2, m2, c2, rfl, hm, hmc, hcl, hr, hb⟩
  have F2 := Lib.hid (Env.call F1.out hb)
  have R2 := Lib.hid (And.intro hm.out (And.intro hmc (And.intro hcl hr)))
  have hbl := Lib.hid hb
  clear hm hmc hcl hr hb
  have R1' := Lib.hid (And.intro R1.out.1 (And.intro R1.out.2.1 (And.intro R1.out.2.2.1 ((R1.out.2.2.2.below hbl.out).more hbl.out.size))))
  clear R1 hbl
  have R1 := R1'
  clear R1'
  refine hK.out _ _ (Cf1.out _ F2.out) (fun _ => ?_)
  clear hK K hHeld
  have hHeld := (Cf1.out _ F2.out)
  try simp only [Act.put, List.setIfInBounds_toArray, List.set_cons_zero, List.set_cons_succ]
  refine wpHK_one (j := 6) (o := Oper.mk (some 17) _ _ _ _ _) rfl (by kernel_rfl) (fun K hK => ?_)
  go_simp
  refine (rdivided_any (w := V2) (d := c2) R1.out.2.2.2 R2.out.2.2.2 (Nat.le_refl _) R1.out.1 R2.out.1 (by have := R1.out.1; have := Hla.out.1; omega) (by have := R2.out.1; have := Hla.out.2; omega) R1.out.2.1 R1.out.2.2.1 Hb0.out).mono ?_
  rintro e V3 ⟨A3, m3, c3, A4, m4, c4, rfl, hn, hc3, hc4, hc3', hc4', hr3, hr4, hb⟩
  have F3 := Lib.hid (Env.call F2.out hb)
  have R3 := Lib.hid (And.intro hn.out.1 (And.intro hc3 (And.intro hc3' hr3)))
  have R4 := Lib.hid (And.intro hn.out.2 (And.intro hc4 (And.intro hc4' hr4)))
  clear hn hc3 hc4 hc3' hc4' hr3 hr4 hb
  refine hK.out _ _ (Cf1.out _ F3.out) (fun _ => ?_)
  clear hK K hHeld
  have hHeld := (Cf1.out _ F3.out)
  try simp only [Act.put, List.setIfInBounds_toArray, List.set_cons_zero, List.set_cons_succ]
  refine wpHK_pure (i := 7) (oi := Oper.mk (some 10) _ _ _ _ _) (v := ?_) rfl (by kernel_rfl) (by kernel_rfl) (by kernel_rfl) (fun _ _ _ h => h) (Or.inl ⟨by rfl, ?_⟩) ?_
  rotate_left
  · (intro w' _; go_simp; try with_reducible rfl)
  try simp only [Act.put, List.setIfInBounds_toArray, List.set_cons_zero, List.set_cons_succ]
  refine wpHK_pure (i := 8) (oi := Oper.mk (some 18) _ _ _ _ _) (v := ?_) rfl (by kernel_rfl) (by kernel_rfl) (by kernel_rfl) (fun _ _ _ h => h) (Or.inl ⟨by rfl, ?_⟩) ?_
  rotate_left
  · (intro w' _; go_simp; try with_reducible rfl)
  try simp only [Act.put, List.setIfInBounds_toArray, List.set_cons_zero, List.set_cons_succ]
  refine wpHK_pure (i := 9) (oi := Oper.mk (some 19) _ _ _ _ _) (v := ?_) rfl (by kernel_rfl) (by kernel_rfl) (by kernel_rfl) (fun _ _ _ h => h) (Or.inl ⟨by rfl, ?_⟩) ?_
  rotate_left
  · (intro w' _; go_simp; try with_reducible rfl)
  try simp only [Act.put, List.setIfInBounds_toArray, List.set_cons_zero, List.set_cons_succ]
  refine wpHK_pure (i := 10) (oi := Oper.mk (some 6) _ _ _ _ _) (v := ?_) rfl (by kernel_rfl) (by kernel_rfl) (by kernel_rfl) (fun _ _ _ h => h) (Or.inl ⟨by rfl, ?_⟩) ?_
  rotate_left
  · (intro w' _; go_simp; try with_reducible rfl)
  try simp only [Act.put, List.setIfInBounds_toArray, List.set_cons_zero, List.set_cons_succ]
  refine wpHK_pure (i := 11) (oi := Oper.mk (some 7) _ _ _ _ _) (v := ?_) rfl (by kernel_rfl) (by kernel_rfl) (by kernel_rfl) (fun _ _ _ h => h) (Or.inl ⟨by rfl, ?_⟩) ?_
  rotate_left
  · (intro w' _; go_simp; try with_reducible rfl)
  try simp only [Act.put, List.setIfInBounds_toArray, List.set_cons_zero, List.set_cons_succ]
  refine wpHK_done (by kernel_rfl) ?_ _
  refine NoPanic.normal ?_
  have HM1 := Lib.hid (made_any (w := V3) (neg := (na != nb)) R3.out.2.2.2 (Nat.le_refl _) R3.out.1 R3.out.2.1 R3.out.2.2.1 (by have h1 := R3.out.1; have h2 := len_mono (Nat.div_le_self a b); have h3 := Hla.out.1; omega) (wd_w _))
  rw [val_w, H1.out.1] at HM1
  go_upto_region 2 with fail
  have q0 := (Env.at_ F3.out 3 rfl).cell 0
  have q1 := (Env.at_ F3.out 2 rfl).cell 0
  simp at q0 q1
  go_wp2_with fail
  refine HM1.out.mono ?_
  rintro e V4 ⟨rfl, hb⟩
  have F4 := Lib.hid (Env.call F3.out hb)
  have HM2 := Lib.hid (made_any (w := V4) (neg := false) ((R4.out.2.2.2.below hb).more hb.size) (Nat.le_refl _) R4.out.1 R4.out.2.1 R4.out.2.2.1 (by have h1 := R4.out.1; have h2 := len_mono (Nat.mod_le a b); have h3 := Hla.out.1; omega) (wd_w _))
  rw [val_w, H2.out.1] at HM2
  clear hb HM1 q0 q1
  go_wp2_with fail
  refine HM2.out.mono ?_
  rintro e V5 ⟨rfl, hb⟩
  have F5 := Lib.hid (Env.call F4.out hb)
  clear hb HM2
  have Hlt := Lib.hid (show w.heap.size + 1 + 1 + 1 < V5.heap.size from (Env.at_ F5.out 0 rfl).lt)
  have h6 := Env.new (Env.new F5.out 26 #[.bool s1, .string b1]) 26 #[.bool s2, .string b2]
  rw [World.size_alloc] at h6
  have F6 := Lib.hid h6
  clear h6
  go_upto_region 3 with fail
  generalize ((V5.alloc (.cells #[.bool s1, .string b1] 26)).alloc (.cells #[.bool s2, .string b2] 26)) = V6 at F6 ⊢
  obtain ⟨gq, hgq⟩ : ∃ g, g = V5.heap.size := ⟨_, rfl⟩
  rw [← hgq] at F6 Hlt ⊢
  clear hgq
  cases na
  · have q0 := (Env.at_ F6.out 5 rfl).cell 0
    simp at q0
    go_upto_region 4 with fail
    clear q0
    have Cf4 := Lib.hid (fun (W : World) (h : Env w W [(gq + 1, 26, #[.bool s2, .string b2]), (gq, 26, #[.bool s1, .string b1]), (w.heap.size + 1 + 1 + 1, 26, #[.bool false, .string ⟨#[]⟩]), (w.heap.size + 1 + 1, 26, #[.bool false, .string ⟨#[]⟩]), (w.heap.size + 1, 26, #[.bool nb, .string sb]), (w.heap.size, 26, #[.bool false, .string sa])]) => (show W.cell? ⟨gq + 1, 0, none⟩ = some (.bool s2) ∧ W.cell? ⟨gq + 1, 1, none⟩ = some (.string b2) ∧ W.cell? ⟨gq, 0, none⟩ = some (.bool s1) ∧ W.cell? ⟨gq, 1, none⟩ = some (.string b1) from ⟨(Env.at_ h 0 rfl).cell 0, (Env.at_ h 0 rfl).cell 1, (Env.at_ h 1 rfl).cell 0, (Env.at_ h 1 rfl).cell 1⟩))
    refine wp_region_noPanic ?_
    refine wp_region_HK (fun w' => w'.cell? ⟨gq + 1, 0, none⟩ = some (.bool s2) ∧ w'.cell? ⟨gq + 1, 1, none⟩ = some (.string b2) ∧ w'.cell? ⟨gq, 0, none⟩ = some (.bool s1) ∧ w'.cell? ⟨gq, 1, none⟩ = some (.string b1)) 3 (by kernel_rfl) (Cf4.out _ F6.out.drew) (fun hHeld => ?_)
    refine wpHK_take (i := 0) (oi := Oper.mk (some 37) _ _ _ _ _) (v := ?_) rfl (by kernel_rfl) (by kernel_rfl) (by kernel_rfl) (by kernel_rfl) (fun _ _ _ h => h) (Or.inl ⟨by rfl, ?_⟩) (by assumption) ?_
    rotate_left
    · (intro w' hSw; (try dsimp only at hSw); (obtain ⟨s0, s1, s2, s3⟩ := hSw); go_simp; try with_reducible rfl)
    try simp only [Act.put, List.setIfInBounds_toArray, List.set_cons_zero, List.set_cons_succ]
    refine wpHK_take (i := 1) (oi := Oper.mk (some 38) _ _ _ _ _) (v := ?_) rfl (by kernel_rfl) (by kernel_rfl) (by kernel_rfl) (by kernel_rfl) (fun _ _ _ h => h) (Or.inl ⟨by rfl, ?_⟩) (by assumption) ?_
    rotate_left
    · (intro w' hSw; (try dsimp only at hSw); (obtain ⟨s0, s1, s2, s3⟩ := hSw); go_simp; try with_reducible rfl)
    try simp only [Act.put, List.setIfInBounds_toArray, List.set_cons_zero, List.set_cons_succ]
    refine wpHK_one (j := 2) (o := Oper.mk (none) _ _ _ _ _) rfl (by kernel_rfl) (fun K hK => ?_)
    have n4 := Env.at_ F6.out 3 rfl
    have y0 := n4.cell 0
    have y1 := n4.cell 1
    have y2 := n4.frozen 0
    have y3 := n4.frozen 1
    simp at y0 y1
    have P8 := far_pair (.bool s1) (.string b1) (Env.at_ F6.out 1 rfl) (show gq ≠ w.heap.size + 1 + 1 by have := Hlt.out; omega)
    have P9 := far_pair (.bool s1) (.string b1) (Env.at_ F6.out 0 rfl) (show gq + 1 ≠ w.heap.size + 1 + 1 by have := Hlt.out; omega)
    go_simp
    refine hK.out _ _ (And.intro (P9.cell 0) (And.intro (P9.cell 1) (And.intro (P8.cell 0) (P8.cell 1)))) (fun _ => ?_)
    clear hK K hHeld
    have hHeld := (And.intro (P9.cell 0) (And.intro (P9.cell 1) (And.intro (P8.cell 0) (P8.cell 1))))
    try simp only [Act.put, List.setIfInBounds_toArray, List.set_cons_zero, List.set_cons_succ]
    refine wpHK_tail (j := 3) (o := Oper.mk (none) _ _ _ _ _) rfl (by kernel_rfl) (by decide) (fun K hK => ?_)
    have n5 := far_pair (.bool s1) (.string b1) (Env.at_ F6.out 2 rfl) (show w.heap.size + 1 + 1 + 1 ≠ w.heap.size + 1 + 1 by omega)
    have z0 := n5.cell 0
    have z1 := n5.cell 1
    have z2 := n5.frozen 0
    have z3 := n5.frozen 1
    simp at z0 z1
    go_simp
    refine hK.out _ _ ?_
    clear hK K
    try simp only [Act.put, List.setIfInBounds_toArray, List.set_cons_zero, List.set_cons_succ]
    refine wpHK_done (by kernel_rfl) ?_ _
    refine NoPanic.normal ?_
    go_wp2_with fail
    have n6 := put_pair (.bool s2) (.string b2) (far_pair (.bool s1) (.string b1) (Env.at_ F6.out 2 rfl) (show w.heap.size + 1 + 1 + 1 ≠ w.heap.size + 1 + 1 by omega))
    have n7 := far_pair (.bool s2) (.string b2) (put_pair (.bool s1) (.string b1) (Env.at_ F6.out 3 rfl)) (show w.heap.size + 1 + 1 ≠ w.heap.size + 1 + 1 + 1 by omega)
    have d0 := n7.cell 0
    have d1 := n7.cell 1
    have d2 := n6.cell 0
    have d3 := n6.cell 1
    simp at d0 d1 d2 d3
    refine bodyPost_ret (v := .tuple #[.agg #[.bool s1, .string b1], .agg #[.bool s2, .string b2]]) (by simp [results, Try.results25, go_sem, d0, d1, d2, d3]) rfl ?_
    refine ⟨?_, ((((F6.out.1.setCell (p := ⟨w.heap.size + 1 + 1, 0, none⟩) (by show w.heap.size ≤ w.heap.size + 1 + 1; omega) _).setCell (p := ⟨w.heap.size + 1 + 1, 1, none⟩) (by show w.heap.size ≤ w.heap.size + 1 + 1; omega) _).setCell (p := ⟨w.heap.size + 1 + 1 + 1, 0, none⟩) (by show w.heap.size ≤ w.heap.size + 1 + 1 + 1; omega) _).setCell (p := ⟨w.heap.size + 1 + 1 + 1, 1, none⟩) (by show w.heap.size ≤ w.heap.size + 1 + 1 + 1; omega) _).drew⟩
    cases nb
    · have hd := dm_pos (a := a) (b := b) Hb0.out
      rw [Hnum.out.1, Hnum.out.2, hd.1, hd.2, ← H1.out.1, ← H2.out.1]
      rfl
    · have hd := dm_posn (a := a) (b := b) Hb0.out
      rw [Hnum.out.1, Hnum.out.2, hd.1, hd.2, ← H1.out.1, ← H2.out.1]
      rfl
  · have q0 := (Env.at_ F6.out 5 rfl).cell 0
    simp at q0
    rcases Nat.eq_zero_or_pos (a % b) with h0 | h0
    · have hm4 : m4 = 0 := by rw [R4.out.1, h0, wds_zero]; rfl
      subst hm4
      go_upto_region 4 with fail
      clear q0
      have Cf4 := Lib.hid (fun (W : World) (h : Env w W [(gq + 1, 26, #[.bool s2, .string b2]), (gq, 26, #[.bool s1, .string b1]), (w.heap.size + 1 + 1 + 1, 26, #[.bool false, .string ⟨#[]⟩]), (w.heap.size + 1 + 1, 26, #[.bool false, .string ⟨#[]⟩]), (w.heap.size + 1, 26, #[.bool nb, .string sb]), (w.heap.size, 26, #[.bool true, .string sa])]) => (show W.cell? ⟨gq + 1, 0, none⟩ = some (.bool s2) ∧ W.cell? ⟨gq + 1, 1, none⟩ = some (.string b2) ∧ W.cell? ⟨gq, 0, none⟩ = some (.bool s1) ∧ W.cell? ⟨gq, 1, none⟩ = some (.string b1) from ⟨(Env.at_ h 0 rfl).cell 0, (Env.at_ h 0 rfl).cell 1, (Env.at_ h 1 rfl).cell 0, (Env.at_ h 1 rfl).cell 1⟩))
      refine wp_region_noPanic ?_
      refine wp_region_HK (fun w' => w'.cell? ⟨gq + 1, 0, none⟩ = some (.bool s2) ∧ w'.cell? ⟨gq + 1, 1, none⟩ = some (.string b2) ∧ w'.cell? ⟨gq, 0, none⟩ = some (.bool s1) ∧ w'.cell? ⟨gq, 1, none⟩ = some (.string b1)) 3 (by kernel_rfl) (Cf4.out _ F6.out.drew) (fun hHeld => ?_)
      refine wpHK_take (i := 0) (oi := Oper.mk (some 37) _ _ _ _ _) (v := ?_) rfl (by kernel_rfl) (by kernel_rfl) (by kernel_rfl) (by kernel_rfl) (fun _ _ _ h => h) (Or.inl ⟨by rfl, ?_⟩) (by assumption) ?_
      rotate_left
      · (intro w' hSw; (try dsimp only at hSw); (obtain ⟨s0, s1, s2, s3⟩ := hSw); go_simp; try with_reducible rfl)
      try simp only [Act.put, List.setIfInBounds_toArray, List.set_cons_zero, List.set_cons_succ]
      refine wpHK_take (i := 1) (oi := Oper.mk (some 38) _ _ _ _ _) (v := ?_) rfl (by kernel_rfl) (by kernel_rfl) (by kernel_rfl) (by kernel_rfl) (fun _ _ _ h => h) (Or.inl ⟨by rfl, ?_⟩) (by assumption) ?_
      rotate_left
      · (intro w' hSw; (try dsimp only at hSw); (obtain ⟨s0, s1, s2, s3⟩ := hSw); go_simp; try with_reducible rfl)
      try simp only [Act.put, List.setIfInBounds_toArray, List.set_cons_zero, List.set_cons_succ]
      refine wpHK_one (j := 2) (o := Oper.mk (none) _ _ _ _ _) rfl (by kernel_rfl) (fun K hK => ?_)
      have n4 := Env.at_ F6.out 3 rfl
      have y0 := n4.cell 0
      have y1 := n4.cell 1
      have y2 := n4.frozen 0
      have y3 := n4.frozen 1
      simp at y0 y1
      have P8 := far_pair (.bool s1) (.string b1) (Env.at_ F6.out 1 rfl) (show gq ≠ w.heap.size + 1 + 1 by have := Hlt.out; omega)
      have P9 := far_pair (.bool s1) (.string b1) (Env.at_ F6.out 0 rfl) (show gq + 1 ≠ w.heap.size + 1 + 1 by have := Hlt.out; omega)
      go_simp
      refine hK.out _ _ (And.intro (P9.cell 0) (And.intro (P9.cell 1) (And.intro (P8.cell 0) (P8.cell 1)))) (fun _ => ?_)
      clear hK K hHeld
      have hHeld := (And.intro (P9.cell 0) (And.intro (P9.cell 1) (And.intro (P8.cell 0) (P8.cell 1))))
      try simp only [Act.put, List.setIfInBounds_toArray, List.set_cons_zero, List.set_cons_succ]
      refine wpHK_tail (j := 3) (o := Oper.mk (none) _ _ _ _ _) rfl (by kernel_rfl) (by decide) (fun K hK => ?_)
      have n5 := far_pair (.bool s1) (.string b1) (Env.at_ F6.out 2 rfl) (show w.heap.size + 1 + 1 + 1 ≠ w.heap.size + 1 + 1 by omega)
      have z0 := n5.cell 0
      have z1 := n5.cell 1
      have z2 := n5.frozen 0
      have z3 := n5.frozen 1
      simp at z0 z1
      go_simp
      refine hK.out _ _ ?_
      clear hK K
      try simp only [Act.put, List.setIfInBounds_toArray, List.set_cons_zero, List.set_cons_succ]
      refine wpHK_done (by kernel_rfl) ?_ _
      refine NoPanic.normal ?_
      go_wp2_with fail
      have n6 := put_pair (.bool s2) (.string b2) (far_pair (.bool s1) (.string b1) (Env.at_ F6.out 2 rfl) (show w.heap.size + 1 + 1 + 1 ≠ w.heap.size + 1 + 1 by omega))
      have n7 := far_pair (.bool s2) (.string b2) (put_pair (.bool s1) (.string b1) (Env.at_ F6.out 3 rfl)) (show w.heap.size + 1 + 1 ≠ w.heap.size + 1 + 1 + 1 by omega)
      have d0 := n7.cell 0
      have d1 := n7.cell 1
      have d2 := n6.cell 0
      have d3 := n6.cell 1
      simp at d0 d1 d2 d3
      refine bodyPost_ret (v := .tuple #[.agg #[.bool s1, .string b1], .agg #[.bool s2, .string b2]]) (by simp [results, Try.results25, go_sem, d0, d1, d2, d3]) rfl ?_
      refine ⟨?_, ((((F6.out.1.setCell (p := ⟨w.heap.size + 1 + 1, 0, none⟩) (by show w.heap.size ≤ w.heap.size + 1 + 1; omega) _).setCell (p := ⟨w.heap.size + 1 + 1, 1, none⟩) (by show w.heap.size ≤ w.heap.size + 1 + 1; omega) _).setCell (p := ⟨w.heap.size + 1 + 1 + 1, 0, none⟩) (by show w.heap.size ≤ w.heap.size + 1 + 1 + 1; omega) _).setCell (p := ⟨w.heap.size + 1 + 1 + 1, 1, none⟩) (by show w.heap.size ≤ w.heap.size + 1 + 1 + 1; omega) _).drew⟩
      cases nb
      · have hd := dm_neg (a := a) (b := b) Hb0.out h0
        rw [Hnum.out.1, Hnum.out.2, hd.1, hd.2, ← H1.out.1, ← H2.out.1, h0]
        rfl
      · have hd := dm_negn (a := a) (b := b) Hb0.out h0
        rw [Hnum.out.1, Hnum.out.2, hd.1, hd.2, ← H1.out.1, ← H2.out.1, h0]
        rfl
    · have hm4 : 0 < m4 := by rw [R4.out.1]; exact len_posn h0
      have hm5 : ((m4 : Int) == 0) = false := by simp; omega
      have r0 := (Env.at_ F6.out 4 rfl).cell 0
      simp at r0
      cases nb
      case true =>
        have f3 : (bys (num (s1, b1) + num (false, ⟨#[1]⟩)).natAbs).length ≤ 100000000 := by
          rw [H1.out.2.1]
          have hq0 : ∀ q : Nat, (sgn (true != true) q + num (false, ⟨#[1]⟩)).natAbs ≤ q + 1 := fun q => by rw [one_mg]; unfold sgn; simp; omega
          have hq := hq0 (a / b)
          refine Nat.le_trans (bys_mon (Nat.le_trans hq ?_)) Hsa.out
          have hb2 : 2 ≤ b := by
            rcases Nat.lt_or_ge b 2 with h | h
            · exfalso; have hb1 : b = 1 := by have := Hb0.out; omega
              rw [hb1, Nat.mod_one] at h0; omega
            · exact h
          have h5 : a / b ≤ a / 2 := Nat.div_le_div_left hb2 (by decide)
          have h6 : a % b ≤ a := Nat.mod_le _ _
          omega
        obtain ⟨s3, b3, e3, n3, g3⟩ := enc_fm f3
        clear f3
        have H17 := Lib.hid (fun W : World => calm_eq (rplus_any (w := W) (na := s1) (nb := false) H1.out.2.2 (Fmd.of_may (may_on (n := false)))) e3)
        go_upto_region 6 with fail
        have Cf6 := Lib.hid (fun (W : World) (h : Env w W [(gq + 1, 26, #[.bool s2, .string b2]), (gq, 26, #[.bool s1, .string b1]), (w.heap.size + 1 + 1 + 1, 26, #[.bool false, .string ⟨#[]⟩]), (w.heap.size + 1 + 1, 26, #[.bool false, .string ⟨#[]⟩]), (w.heap.size + 1, 26, #[.bool true, .string sb]), (w.heap.size, 26, #[.bool true, .string sa])]) => (show W.cell? ⟨gq, 0, none⟩ = some (.bool s1) ∧ W.cell? ⟨gq, 1, none⟩ = some (.string b1) from ⟨(Env.at_ h 1 rfl).cell 0, (Env.at_ h 1 rfl).cell 1⟩))
        refine wp_region_noPanic ?_
        refine wp_region_HK (fun w' => w'.cell? ⟨gq, 0, none⟩ = some (.bool s1) ∧ w'.cell? ⟨gq, 1, none⟩ = some (.string b1)) 3 (by kernel_rfl) (Cf6.out _ F6.out.drew) (fun hHeld => ?_)
        refine wpHK_take (i := 0) (oi := Oper.mk (some 41) _ _ _ _ _) (v := ?_) rfl (by kernel_rfl) (by kernel_rfl) (by kernel_rfl) (by kernel_rfl) (fun _ _ _ h => h) (Or.inl ⟨by rfl, ?_⟩) (by assumption) ?_
        rotate_left
        · (intro w' hSw; (try dsimp only at hSw); (obtain ⟨s0, s1⟩ := hSw); go_simp; try with_reducible rfl)
        try simp only [Act.put, List.setIfInBounds_toArray, List.set_cons_zero, List.set_cons_succ]
        refine wpHK_one (j := 1) (o := Oper.mk (some 42) _ _ _ _ _) rfl (by kernel_rfl) (fun K hK => ?_)
        go_simp
        refine (HO.out _).mono ?_
        rintro e V7 ⟨rfl, hb⟩
        have F7 := Lib.hid (Env.call F6.out.drew hb)
        clear hb
        refine hK.out _ _ (Cf6.out _ F7.out) (fun _ => ?_)
        clear hK K hHeld
        have hHeld := (Cf6.out _ F7.out)
        try simp only [Act.put, List.setIfInBounds_toArray, List.set_cons_zero, List.set_cons_succ]
        refine wpHK_one (j := 2) (o := Oper.mk (some 43) _ _ _ _ _) rfl (by kernel_rfl) (fun K hK => ?_)
        go_simp
        refine (H17.out _).mono ?_
        rintro e V8 ⟨rfl, hb⟩
        have F8 := Lib.hid (Env.call F7.out hb)
        clear hb
        refine hK.out _ _ (Cf6.out _ F8.out) (fun _ => ?_)
        clear hK K hHeld
        have hHeld := (Cf6.out _ F8.out)
        try simp only [Act.put, List.setIfInBounds_toArray, List.set_cons_zero, List.set_cons_succ]
        refine wpHK_tail (j := 3) (o := Oper.mk (none) _ _ _ _ _) rfl (by kernel_rfl) (by decide) (fun K hK => ?_)
        have n4 := Env.at_ F8.out 1 rfl
        have y0 := n4.cell 0
        have y1 := n4.cell 1
        have y2 := n4.frozen 0
        have y3 := n4.frozen 1
        simp at y0 y1
        go_simp
        refine hK.out _ _ ?_
        clear hK K
        try simp only [Act.put, List.setIfInBounds_toArray, List.set_cons_zero, List.set_cons_succ]
        refine wpHK_done (by kernel_rfl) ?_ _
        refine NoPanic.normal ?_
        have h9 := Env.putAt F8.out 1 rfl (show w.heap.size ≤ gq by have := Hlt.out; omega) (fun j q hj hq => by
          have hl := Hlt.out
          match j, hj, hq with
          | 0, _, hq => injection hq with hq; subst hq; show gq + 1 ≠ gq; omega
          | 2, _, hq => injection hq with hq; subst hq; show w.heap.size + 1 + 1 + 1 ≠ gq; omega
          | 3, _, hq => injection hq with hq; subst hq; show w.heap.size + 1 + 1 ≠ gq; omega
          | 4, _, hq => injection hq with hq; subst hq; show w.heap.size + 1 ≠ gq; omega
          | 5, _, hq => injection hq with hq; subst hq; show w.heap.size ≠ gq; omega
          | j + 6, _, hq => simp at hq) (.bool s3) (.string b3)
        simp only [List.set_cons_zero, List.set_cons_succ] at h9
        have F9 := Lib.hid h9
        have F9 := Lib.hid h9
        clear h9
        have HAbs' := Lib.hid (fun W : World => calm_eq (HAbs.out W) (show enc ((num (true, sb)).natAbs : Int) = enc (sgn false b) by rw [Hnb.out]; rfl))
        obtain ⟨s4, b4, e4, n4, g4⟩ := sgn_fmd (n := false) (Nat.le_refl b) Hsb.out
        have HAbs2 := Lib.hid (fun W : World => calm_eq (HAbs'.out W) e4)
        have f5 : (bys (num (s4, b4) - num (s2, b2)).natAbs).length ≤ 100000000 := by
          rw [n4, H2.out.2.1]
          refine Nat.le_trans (bys_mon (show _ ≤ b from ?_)) Hsb.out
          have := Nat.mod_lt a Hb0.out
          unfold sgn
          simp
          omega
        obtain ⟨s5, b5, e5, n5, g5⟩ := enc_fm f5
        have H31 := Lib.hid (fun W : World => calm_eq (rminus_any (w := W) (na := s4) (nb := s2) g4 H2.out.2.2) e5)
        have He5 := Lib.hid (And.intro e5 n4)
        clear f5 e4 n5 g5 e5 n4 g4 HAbs'
        go_upto_region 8 with fail
        have Cf8 := Lib.hid (fun (W : World) (h : Env w W [(gq + 1, 26, #[.bool s2, .string b2]), (gq, 26, #[.bool s3, .string b3]), (w.heap.size + 1 + 1 + 1, 26, #[.bool false, .string ⟨#[]⟩]), (w.heap.size + 1 + 1, 26, #[.bool false, .string ⟨#[]⟩]), (w.heap.size + 1, 26, #[.bool true, .string sb]), (w.heap.size, 26, #[.bool true, .string sa])]) => (show W.cell? ⟨gq + 1, 0, none⟩ = some (.bool s2) ∧ W.cell? ⟨gq + 1, 1, none⟩ = some (.string b2) ∧ W.cell? ⟨gq, 0, none⟩ = some (.bool s3) ∧ W.cell? ⟨gq, 1, none⟩ = some (.string b3) ∧ W.cell? ⟨w.heap.size + 1, 0, none⟩ = some (.bool true) ∧ W.cell? ⟨w.heap.size + 1, 1, none⟩ = some (.string sb) from ⟨(Env.at_ h 0 rfl).cell 0, (Env.at_ h 0 rfl).cell 1, (Env.at_ h 1 rfl).cell 0, (Env.at_ h 1 rfl).cell 1, (Env.at_ h 4 rfl).cell 0, (Env.at_ h 4 rfl).cell 1⟩))
        refine wp_region_noPanic ?_
        refine wp_region_HK (fun w' => w'.cell? ⟨gq + 1, 0, none⟩ = some (.bool s2) ∧ w'.cell? ⟨gq + 1, 1, none⟩ = some (.string b2) ∧ w'.cell? ⟨gq, 0, none⟩ = some (.bool s3) ∧ w'.cell? ⟨gq, 1, none⟩ = some (.string b3) ∧ w'.cell? ⟨w.heap.size + 1, 0, none⟩ = some (.bool true) ∧ w'.cell? ⟨w.heap.size + 1, 1, none⟩ = some (.string sb)) 5 (by kernel_rfl) (Cf8.out _ F9.out.drew) (fun hHeld => ?_)
        refine wpHK_take (i := 0) (oi := Oper.mk (some 47) _ _ _ _ _) (v := ?_) rfl (by kernel_rfl) (by kernel_rfl) (by kernel_rfl) (by kernel_rfl) (fun _ _ _ h => h) (Or.inl ⟨by rfl, ?_⟩) (by assumption) ?_
        rotate_left
        · (intro w' hSw; (try dsimp only at hSw); (obtain ⟨s0, s1, s2, s3, s4, s5⟩ := hSw); go_simp; try with_reducible rfl)
        try simp only [Act.put, List.setIfInBounds_toArray, List.set_cons_zero, List.set_cons_succ]
        refine wpHK_take (i := 1) (oi := Oper.mk (some 48) _ _ _ _ _) (v := ?_) rfl (by kernel_rfl) (by kernel_rfl) (by kernel_rfl) (by kernel_rfl) (fun _ _ _ h => h) (Or.inl ⟨by rfl, ?_⟩) (by assumption) ?_
        rotate_left
        · (intro w' hSw; (try dsimp only at hSw); (obtain ⟨s0, s1, s2, s3, s4, s5⟩ := hSw); go_simp; try with_reducible rfl)
        try simp only [Act.put, List.setIfInBounds_toArray, List.set_cons_zero, List.set_cons_succ]
        refine wpHK_take (i := 3) (oi := Oper.mk (some 50) _ _ _ _ _) (v := ?_) rfl (by kernel_rfl) (by kernel_rfl) (by kernel_rfl) (by kernel_rfl) (fun _ _ _ h => h) (Or.inl ⟨by rfl, ?_⟩) (by assumption) ?_
        rotate_left
        · (intro w' hSw; (try dsimp only at hSw); (obtain ⟨s0, s1, s2, s3, s4, s5⟩ := hSw); go_simp; try with_reducible rfl)
        try simp only [Act.put, List.setIfInBounds_toArray, List.set_cons_zero, List.set_cons_succ]
        refine wpHK_one (j := 2) (o := Oper.mk (some 49) _ _ _ _ _) rfl (by kernel_rfl) (fun K hK => ?_)
        go_simp
        refine (HAbs2.out _).mono ?_
        rintro e V10 ⟨rfl, hb⟩
        have F10 := Lib.hid (Env.call F9.out.drew hb)
        clear hb
        refine hK.out _ _ (Cf8.out _ F10.out) (fun _ => ?_)
        clear hK K hHeld
        have hHeld := (Cf8.out _ F10.out)
        try simp only [Act.put, List.setIfInBounds_toArray, List.set_cons_zero, List.set_cons_succ]
        refine wpHK_one (j := 4) (o := Oper.mk (some 51) _ _ _ _ _) rfl (by kernel_rfl) (fun K hK => ?_)
        go_simp
        refine (H31.out _).mono ?_
        rintro e V11 ⟨rfl, hb⟩
        have F11 := Lib.hid (Env.call F10.out hb)
        clear hb
        refine hK.out _ _ (Cf8.out _ F11.out) (fun _ => ?_)
        clear hK K hHeld
        have hHeld := (Cf8.out _ F11.out)
        try simp only [Act.put, List.setIfInBounds_toArray, List.set_cons_zero, List.set_cons_succ]
        refine wpHK_tail (j := 5) (o := Oper.mk (none) _ _ _ _ _) rfl (by kernel_rfl) (by decide) (fun K hK => ?_)
        have n4 := Env.at_ F11.out 3 rfl
        have y0 := n4.cell 0
        have y1 := n4.cell 1
        have y2 := n4.frozen 0
        have y3 := n4.frozen 1
        simp at y0 y1
        go_simp
        refine hK.out _ _ ?_
        clear hK K
        try simp only [Act.put, List.setIfInBounds_toArray, List.set_cons_zero, List.set_cons_succ]
        refine wpHK_tail (j := 6) (o := Oper.mk (none) _ _ _ _ _) rfl (by kernel_rfl) (by decide) (fun K hK => ?_)
        have n5 := far_pair (.bool s3) (.string b3) (Env.at_ F11.out 2 rfl) (show w.heap.size + 1 + 1 + 1 ≠ w.heap.size + 1 + 1 by omega)
        have z0 := n5.cell 0
        have z1 := n5.cell 1
        have z2 := n5.frozen 0
        have z3 := n5.frozen 1
        simp at z0 z1
        go_simp
        refine hK.out _ _ ?_
        clear hK K
        try simp only [Act.put, List.setIfInBounds_toArray, List.set_cons_zero, List.set_cons_succ]
        refine wpHK_done (by kernel_rfl) ?_ _
        refine NoPanic.normal ?_
        go_wp2_with fail
        have n6 := put_pair (.bool s5) (.string b5) (far_pair (.bool s3) (.string b3) (Env.at_ F11.out 2 rfl) (show w.heap.size + 1 + 1 + 1 ≠ w.heap.size + 1 + 1 by omega))
        have n7 := far_pair (.bool s5) (.string b5) (put_pair (.bool s3) (.string b3) (Env.at_ F11.out 3 rfl)) (show w.heap.size + 1 + 1 ≠ w.heap.size + 1 + 1 + 1 by omega)
        have d0 := n7.cell 0
        have d1 := n7.cell 1
        have d2 := n6.cell 0
        have d3 := n6.cell 1
        simp at d0 d1 d2 d3
        refine bodyPost_ret (v := .tuple #[.agg #[.bool s3, .string b3], .agg #[.bool s5, .string b5]]) (by simp [results, Try.results25, go_sem, d0, d1, d2, d3]) rfl ?_
        refine ⟨?_, ((((F11.out.1.setCell (p := ⟨w.heap.size + 1 + 1, 0, none⟩) (by show w.heap.size ≤ w.heap.size + 1 + 1; omega) _).setCell (p := ⟨w.heap.size + 1 + 1, 1, none⟩) (by show w.heap.size ≤ w.heap.size + 1 + 1; omega) _).setCell (p := ⟨w.heap.size + 1 + 1 + 1, 0, none⟩) (by show w.heap.size ≤ w.heap.size + 1 + 1 + 1; omega) _).setCell (p := ⟨w.heap.size + 1 + 1 + 1, 1, none⟩) (by show w.heap.size ≤ w.heap.size + 1 + 1 + 1; omega) _)⟩
        have hd := dm_lown (a := a) (b := b) Hb0.out h0
        have hn4 := He5.out.2
        have he5 := He5.out.1
        rw [hn4, H2.out.2.1] at he5
        rw [H1.out.2.1, one_mg] at e3
        rw [Hnum.out.1, Hnum.out.2, hd.1, hd.2]
        have e6 : enc (sgn false (a / b) + 1) = .agg #[.bool s3, .string b3] := e3
        have e7 : enc ((b : Int) - ((a % b : Nat) : Int)) = .agg #[.bool s5, .string b5] := he5
        rw [e6, e7]
      case false =>
        have f3 : (bys (num (s1, b1) - num (false, ⟨#[1]⟩)).natAbs).length ≤ 100000000 := by
          rw [H1.out.2.1]
          have hq0 : ∀ q : Nat, (sgn (true != false) q - num (false, ⟨#[1]⟩)).natAbs ≤ q + 1 := fun q => by rw [one_mg]; unfold sgn; simp; omega
          have hq := hq0 (a / b)
          refine Nat.le_trans (bys_mon (Nat.le_trans hq ?_)) Hsa.out
          have hb2 : 2 ≤ b := by
            rcases Nat.lt_or_ge b 2 with h | h
            · exfalso; have hb1 : b = 1 := by have := Hb0.out; omega
              rw [hb1, Nat.mod_one] at h0; omega
            · exact h
          have h5 : a / b ≤ a / 2 := Nat.div_le_div_left hb2 (by decide)
          have h6 : a % b ≤ a := Nat.mod_le _ _
          omega
        obtain ⟨s3, b3, e3, n3, g3⟩ := enc_fm f3
        clear f3
        have H17 := Lib.hid (fun W : World => calm_eq (rminus_any (w := W) (na := s1) (nb := false) H1.out.2.2 (Fmd.of_may (may_on (n := false)))) e3)
        go_upto_region 7 with fail
        have Cf7 := Lib.hid (fun (W : World) (h : Env w W [(gq + 1, 26, #[.bool s2, .string b2]), (gq, 26, #[.bool s1, .string b1]), (w.heap.size + 1 + 1 + 1, 26, #[.bool false, .string ⟨#[]⟩]), (w.heap.size + 1 + 1, 26, #[.bool false, .string ⟨#[]⟩]), (w.heap.size + 1, 26, #[.bool false, .string sb]), (w.heap.size, 26, #[.bool true, .string sa])]) => (show W.cell? ⟨gq, 0, none⟩ = some (.bool s1) ∧ W.cell? ⟨gq, 1, none⟩ = some (.string b1) from ⟨(Env.at_ h 1 rfl).cell 0, (Env.at_ h 1 rfl).cell 1⟩))
        refine wp_region_noPanic ?_
        refine wp_region_HK (fun w' => w'.cell? ⟨gq, 0, none⟩ = some (.bool s1) ∧ w'.cell? ⟨gq, 1, none⟩ = some (.string b1)) 3 (by kernel_rfl) (Cf7.out _ F6.out.drew) (fun hHeld => ?_)
        refine wpHK_take (i := 0) (oi := Oper.mk (some 44) _ _ _ _ _) (v := ?_) rfl (by kernel_rfl) (by kernel_rfl) (by kernel_rfl) (by kernel_rfl) (fun _ _ _ h => h) (Or.inl ⟨by rfl, ?_⟩) (by assumption) ?_
        rotate_left
        · (intro w' hSw; (try dsimp only at hSw); (obtain ⟨s0, s1⟩ := hSw); go_simp; try with_reducible rfl)
        try simp only [Act.put, List.setIfInBounds_toArray, List.set_cons_zero, List.set_cons_succ]
        refine wpHK_one (j := 1) (o := Oper.mk (some 45) _ _ _ _ _) rfl (by kernel_rfl) (fun K hK => ?_)
        go_simp
        refine (HO.out _).mono ?_
        rintro e V7 ⟨rfl, hb⟩
        have F7 := Lib.hid (Env.call F6.out.drew hb)
        clear hb
        refine hK.out _ _ (Cf7.out _ F7.out) (fun _ => ?_)
        clear hK K hHeld
        have hHeld := (Cf7.out _ F7.out)
        try simp only [Act.put, List.setIfInBounds_toArray, List.set_cons_zero, List.set_cons_succ]
        refine wpHK_one (j := 2) (o := Oper.mk (some 46) _ _ _ _ _) rfl (by kernel_rfl) (fun K hK => ?_)
        go_simp
        refine (H17.out _).mono ?_
        rintro e V8 ⟨rfl, hb⟩
        have F8 := Lib.hid (Env.call F7.out hb)
        clear hb
        refine hK.out _ _ (Cf7.out _ F8.out) (fun _ => ?_)
        clear hK K hHeld
        have hHeld := (Cf7.out _ F8.out)
        try simp only [Act.put, List.setIfInBounds_toArray, List.set_cons_zero, List.set_cons_succ]
        refine wpHK_tail (j := 3) (o := Oper.mk (none) _ _ _ _ _) rfl (by kernel_rfl) (by decide) (fun K hK => ?_)
        have n4 := Env.at_ F8.out 1 rfl
        have y0 := n4.cell 0
        have y1 := n4.cell 1
        have y2 := n4.frozen 0
        have y3 := n4.frozen 1
        simp at y0 y1
        go_simp
        refine hK.out _ _ ?_
        clear hK K
        try simp only [Act.put, List.setIfInBounds_toArray, List.set_cons_zero, List.set_cons_succ]
        refine wpHK_done (by kernel_rfl) ?_ _
        refine NoPanic.normal ?_
        have h9 := Env.putAt F8.out 1 rfl (show w.heap.size ≤ gq by have := Hlt.out; omega) (fun j q hj hq => by
          have hl := Hlt.out
          match j, hj, hq with
          | 0, _, hq => injection hq with hq; subst hq; show gq + 1 ≠ gq; omega
          | 2, _, hq => injection hq with hq; subst hq; show w.heap.size + 1 + 1 + 1 ≠ gq; omega
          | 3, _, hq => injection hq with hq; subst hq; show w.heap.size + 1 + 1 ≠ gq; omega
          | 4, _, hq => injection hq with hq; subst hq; show w.heap.size + 1 ≠ gq; omega
          | 5, _, hq => injection hq with hq; subst hq; show w.heap.size ≠ gq; omega
          | j + 6, _, hq => simp at hq) (.bool s3) (.string b3)
        simp only [List.set_cons_zero, List.set_cons_succ] at h9
        have F9 := Lib.hid h9
        have F9 := Lib.hid h9
        clear h9
        have HAbs' := Lib.hid (fun W : World => calm_eq (HAbs.out W) (show enc ((num (false, sb)).natAbs : Int) = enc (sgn false b) by rw [Hnb.out]; rfl))
        obtain ⟨s4, b4, e4, n4, g4⟩ := sgn_fmd (n := false) (Nat.le_refl b) Hsb.out
        have HAbs2 := Lib.hid (fun W : World => calm_eq (HAbs'.out W) e4)
        have f5 : (bys (num (s4, b4) - num (s2, b2)).natAbs).length ≤ 100000000 := by
          rw [n4, H2.out.2.1]
          refine Nat.le_trans (bys_mon (show _ ≤ b from ?_)) Hsb.out
          have := Nat.mod_lt a Hb0.out
          unfold sgn
          simp
          omega
        obtain ⟨s5, b5, e5, n5, g5⟩ := enc_fm f5
        have H31 := Lib.hid (fun W : World => calm_eq (rminus_any (w := W) (na := s4) (nb := s2) g4 H2.out.2.2) e5)
        have He5 := Lib.hid (And.intro e5 n4)
        clear f5 e4 n5 g5 e5 n4 g4 HAbs'
        go_upto_region 8 with fail
        have Cf8 := Lib.hid (fun (W : World) (h : Env w W [(gq + 1, 26, #[.bool s2, .string b2]), (gq, 26, #[.bool s3, .string b3]), (w.heap.size + 1 + 1 + 1, 26, #[.bool false, .string ⟨#[]⟩]), (w.heap.size + 1 + 1, 26, #[.bool false, .string ⟨#[]⟩]), (w.heap.size + 1, 26, #[.bool false, .string sb]), (w.heap.size, 26, #[.bool true, .string sa])]) => (show W.cell? ⟨gq + 1, 0, none⟩ = some (.bool s2) ∧ W.cell? ⟨gq + 1, 1, none⟩ = some (.string b2) ∧ W.cell? ⟨gq, 0, none⟩ = some (.bool s3) ∧ W.cell? ⟨gq, 1, none⟩ = some (.string b3) ∧ W.cell? ⟨w.heap.size + 1, 0, none⟩ = some (.bool false) ∧ W.cell? ⟨w.heap.size + 1, 1, none⟩ = some (.string sb) from ⟨(Env.at_ h 0 rfl).cell 0, (Env.at_ h 0 rfl).cell 1, (Env.at_ h 1 rfl).cell 0, (Env.at_ h 1 rfl).cell 1, (Env.at_ h 4 rfl).cell 0, (Env.at_ h 4 rfl).cell 1⟩))
        refine wp_region_noPanic ?_
        refine wp_region_HK (fun w' => w'.cell? ⟨gq + 1, 0, none⟩ = some (.bool s2) ∧ w'.cell? ⟨gq + 1, 1, none⟩ = some (.string b2) ∧ w'.cell? ⟨gq, 0, none⟩ = some (.bool s3) ∧ w'.cell? ⟨gq, 1, none⟩ = some (.string b3) ∧ w'.cell? ⟨w.heap.size + 1, 0, none⟩ = some (.bool false) ∧ w'.cell? ⟨w.heap.size + 1, 1, none⟩ = some (.string sb)) 5 (by kernel_rfl) (Cf8.out _ F9.out.drew) (fun hHeld => ?_)
        refine wpHK_take (i := 0) (oi := Oper.mk (some 47) _ _ _ _ _) (v := ?_) rfl (by kernel_rfl) (by kernel_rfl) (by kernel_rfl) (by kernel_rfl) (fun _ _ _ h => h) (Or.inl ⟨by rfl, ?_⟩) (by assumption) ?_
        rotate_left
        · (intro w' hSw; (try dsimp only at hSw); (obtain ⟨s0, s1, s2, s3, s4, s5⟩ := hSw); go_simp; try with_reducible rfl)
        try simp only [Act.put, List.setIfInBounds_toArray, List.set_cons_zero, List.set_cons_succ]
        refine wpHK_take (i := 1) (oi := Oper.mk (some 48) _ _ _ _ _) (v := ?_) rfl (by kernel_rfl) (by kernel_rfl) (by kernel_rfl) (by kernel_rfl) (fun _ _ _ h => h) (Or.inl ⟨by rfl, ?_⟩) (by assumption) ?_
        rotate_left
        · (intro w' hSw; (try dsimp only at hSw); (obtain ⟨s0, s1, s2, s3, s4, s5⟩ := hSw); go_simp; try with_reducible rfl)
        try simp only [Act.put, List.setIfInBounds_toArray, List.set_cons_zero, List.set_cons_succ]
        refine wpHK_take (i := 3) (oi := Oper.mk (some 50) _ _ _ _ _) (v := ?_) rfl (by kernel_rfl) (by kernel_rfl) (by kernel_rfl) (by kernel_rfl) (fun _ _ _ h => h) (Or.inl ⟨by rfl, ?_⟩) (by assumption) ?_
        rotate_left
        · (intro w' hSw; (try dsimp only at hSw); (obtain ⟨s0, s1, s2, s3, s4, s5⟩ := hSw); go_simp; try with_reducible rfl)
        try simp only [Act.put, List.setIfInBounds_toArray, List.set_cons_zero, List.set_cons_succ]
        refine wpHK_one (j := 2) (o := Oper.mk (some 49) _ _ _ _ _) rfl (by kernel_rfl) (fun K hK => ?_)
        go_simp
        refine (HAbs2.out _).mono ?_
        rintro e V10 ⟨rfl, hb⟩
        have F10 := Lib.hid (Env.call F9.out.drew hb)
        clear hb
        refine hK.out _ _ (Cf8.out _ F10.out) (fun _ => ?_)
        clear hK K hHeld
        have hHeld := (Cf8.out _ F10.out)
        try simp only [Act.put, List.setIfInBounds_toArray, List.set_cons_zero, List.set_cons_succ]
        refine wpHK_one (j := 4) (o := Oper.mk (some 51) _ _ _ _ _) rfl (by kernel_rfl) (fun K hK => ?_)
        go_simp
        refine (H31.out _).mono ?_
        rintro e V11 ⟨rfl, hb⟩
        have F11 := Lib.hid (Env.call F10.out hb)
        clear hb
        refine hK.out _ _ (Cf8.out _ F11.out) (fun _ => ?_)
        clear hK K hHeld
        have hHeld := (Cf8.out _ F11.out)
        try simp only [Act.put, List.setIfInBounds_toArray, List.set_cons_zero, List.set_cons_succ]
        refine wpHK_tail (j := 5) (o := Oper.mk (none) _ _ _ _ _) rfl (by kernel_rfl) (by decide) (fun K hK => ?_)
        have n4 := Env.at_ F11.out 3 rfl
        have y0 := n4.cell 0
        have y1 := n4.cell 1
        have y2 := n4.frozen 0
        have y3 := n4.frozen 1
        simp at y0 y1
        go_simp
        refine hK.out _ _ ?_
        clear hK K
        try simp only [Act.put, List.setIfInBounds_toArray, List.set_cons_zero, List.set_cons_succ]
        refine wpHK_tail (j := 6) (o := Oper.mk (none) _ _ _ _ _) rfl (by kernel_rfl) (by decide) (fun K hK => ?_)
        have n5 := far_pair (.bool s3) (.string b3) (Env.at_ F11.out 2 rfl) (show w.heap.size + 1 + 1 + 1 ≠ w.heap.size + 1 + 1 by omega)
        have z0 := n5.cell 0
        have z1 := n5.cell 1
        have z2 := n5.frozen 0
        have z3 := n5.frozen 1
        simp at z0 z1
        go_simp
        refine hK.out _ _ ?_
        clear hK K
        try simp only [Act.put, List.setIfInBounds_toArray, List.set_cons_zero, List.set_cons_succ]
        refine wpHK_done (by kernel_rfl) ?_ _
        refine NoPanic.normal ?_
        go_wp2_with fail
        have n6 := put_pair (.bool s5) (.string b5) (far_pair (.bool s3) (.string b3) (Env.at_ F11.out 2 rfl) (show w.heap.size + 1 + 1 + 1 ≠ w.heap.size + 1 + 1 by omega))
        have n7 := far_pair (.bool s5) (.string b5) (put_pair (.bool s3) (.string b3) (Env.at_ F11.out 3 rfl)) (show w.heap.size + 1 + 1 ≠ w.heap.size + 1 + 1 + 1 by omega)
        have d0 := n7.cell 0
        have d1 := n7.cell 1
        have d2 := n6.cell 0
        have d3 := n6.cell 1
        simp at d0 d1 d2 d3
        refine bodyPost_ret (v := .tuple #[.agg #[.bool s3, .string b3], .agg #[.bool s5, .string b5]]) (by simp [results, Try.results25, go_sem, d0, d1, d2, d3]) rfl ?_
        refine ⟨?_, ((((F11.out.1.setCell (p := ⟨w.heap.size + 1 + 1, 0, none⟩) (by show w.heap.size ≤ w.heap.size + 1 + 1; omega) _).setCell (p := ⟨w.heap.size + 1 + 1, 1, none⟩) (by show w.heap.size ≤ w.heap.size + 1 + 1; omega) _).setCell (p := ⟨w.heap.size + 1 + 1 + 1, 0, none⟩) (by show w.heap.size ≤ w.heap.size + 1 + 1 + 1; omega) _).setCell (p := ⟨w.heap.size + 1 + 1 + 1, 1, none⟩) (by show w.heap.size ≤ w.heap.size + 1 + 1 + 1; omega) _)⟩
        have hd := dm_low (a := a) (b := b) Hb0.out h0
        have hn4 := He5.out.2
        have he5 := He5.out.1
        rw [hn4, H2.out.2.1] at he5
        rw [H1.out.2.1, one_mg] at e3
        rw [Hnum.out.1, Hnum.out.2, hd.1, hd.2]
        have e6 : enc (sgn true (a / b) - 1) = .agg #[.bool s3, .string b3] := e3
        have e7 : enc ((b : Int) - ((a % b : Nat) : Int)) = .agg #[.bool s5, .string b5] := he5
        rw [e6, e7]
end Go.Proofs.Ytpnginnjbdedbaa
