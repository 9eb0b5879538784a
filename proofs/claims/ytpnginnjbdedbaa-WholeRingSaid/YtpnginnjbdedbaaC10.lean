import Derived.Test.YtpnginnjbdedbaaC9
import Derived.Test.YtpnginnjbdedbaaC2
import Derived.Test.YtpnginnjbdedbaaC1
import Derived.Test.YtpnginnjbdedbaaC8
import Derived.Test.YtpnginnjbdedbaaC7
import Derived.Test.YtpnginnjbdedbaaC4
/- Decimal texts there and back: plain. -/
namespace Go.Proofs.Ytpnginnjbdedbaa
open Wh
set_option linter.unusedVariables false

theorem dv_dec : ∀ (k n : Nat), n ≤ k → dv (dec n) = n
  | 0, n, h => by
    have : n = 0 := by omega
    subst this
    rw [dec_zero]; rfl
  | k + 1, n, h => by
    rcases Nat.eq_zero_or_pos n with h0 | h0
    · subst h0; rw [dec_zero]; rfl
    · rw [dec_pos h0, dv_snoc, dv_dec k (n / 10) (by omega), dig_nat]
      omega
theorem allDig_dec : ∀ (k n : Nat), n ≤ k → AllDig (dec n)
  | 0, n, h => by
    have : n = 0 := by omega
    subst this
    rw [dec_zero]
    exact fun b hb => by cases hb
  | k + 1, n, h => by
    rcases Nat.eq_zero_or_pos n with h0 | h0
    · subst h0; rw [dec_zero]; exact fun b hb => by cases hb
    · rw [dec_pos h0]
      refine allDig_app.2 ⟨allDig_dec k (n / 10) (by omega), allDig_cons.2 ⟨?_, fun b hb => by cases hb⟩⟩
      unfold IsDig
      rw [dig_nat]
      omega
theorem dec_ne : ∀ {n : Nat}, 0 < n → dec n ≠ [] := fun h h0 => by
  rw [dec_pos h] at h0
  simp at h0
theorem dec_head : ∀ (k n : Nat), n ≤ k → 0 < n → ∃ b, (dec n).head? = some b ∧ b.toNat ≠ 48 ∧ IsDig b
  | 0, n, h, h0 => by omega
  | k + 1, n, h, h0 => by
    rcases Nat.eq_zero_or_pos (n / 10) with h1 | h1
    · refine ⟨dig n, ?_, ?_, ?_⟩
      · rw [dec_pos h0, h1, dec_zero]; rfl
      · rw [dig_nat]; omega
      · unfold IsDig; rw [dig_nat]; omega
    · obtain ⟨b, h2, h3, h4⟩ := dec_head k (n / 10) (by omega) h1
      refine ⟨b, ?_, h3, h4⟩
      rw [dec_pos h0, List.head?_append, h2]
      rfl
theorem txt_good (x : Int) : Good (txt x) ∧ rval (txt x) = x := by
  unfold txt
  by_cases h0 : x = 0
  · rw [if_pos h0]
    subst h0
    exact ⟨⟨fun j b h1 h2 => by
      match j, h2 with
      | 0, h2 => injection h2 with h2; subst h2; exact ⟨by decide, by decide⟩
      | _ + 1, h2 => simp at h2, by decide, fun _ => by decide⟩, rfl⟩
  · rw [if_neg h0]
    obtain ⟨n, hn⟩ : ∃ n, n = x.natAbs := ⟨_, rfl⟩
    rw [← hn]
    have hp : 0 < n := by omega
    obtain ⟨b, hb1, hb2, hb3⟩ := dec_head n n (Nat.le_refl n) hp
    have hd := allDig_dec n n (Nat.le_refl n)
    have hv := dv_dec n n (Nat.le_refl n)
    have hl : 0 < (dec n).length := List.length_pos_iff.2 (dec_ne hp)
    by_cases hx : x < 0
    · rw [if_pos hx]
      have hs : signOf ([45] ++ dec n) = true := rfl
      have hr : rfirst ([45] ++ dec n) = 1 := rfl
      refine ⟨?_, ?_⟩
      · unfold Good
        rw [hr]
        refine ⟨fun j c h1 h2 => ?_, by simp; omega, fun h => ?_⟩
        · obtain ⟨i, rfl⟩ : ∃ i, j = i + 1 := ⟨j - 1, by omega⟩
          have h3 : (dec n)[i]? = some c := h2
          exact hd c (List.mem_iff_getElem?.2 ⟨i, h3⟩)
        · have h3 : (dec n)[0]? = some 48 := h
          rw [← List.head?_eq_getElem?, hb1] at h3
          injection h3 with h3
          exact absurd (by rw [h3]; rfl) hb2
      · unfold rval
        rw [hs, hr]
        show sgn true (dv (dec n)) = x
        rw [hv]
        unfold sgn
        simp
        omega
    · rw [if_neg hx, List.nil_append]
      have hs : signOf (dec n) = false := by
        unfold signOf
        rw [hb1]
        refine beq_eq_false_iff_ne.2 (fun h => ?_)
        injection h with h
        subst h
        unfold IsDig at hb3
        exact absurd hb3.1 (by decide)
      have hr : rfirst (dec n) = 0 := by unfold rfirst; rw [hs]; rfl
      refine ⟨?_, ?_⟩
      · unfold Good
        rw [hr]
        refine ⟨fun j c h1 h2 => hd c (List.mem_iff_getElem?.2 ⟨j, h2⟩), hl, fun h => ?_⟩
        rw [← List.head?_eq_getElem?, hb1] at h
        injection h with h
        exact absurd (by rw [h]; rfl) hb2
      · unfold rval
        rw [hs, hr, List.drop_zero, hv]
        unfold sgn
        simp
        omega
theorem txt_len {x : Int} {k : Nat} (h : x.natAbs < 10 ^ k) : (txt x).length ≤ k + 1 := by
  unfold txt
  by_cases h0 : x = 0
  · rw [if_pos h0]; simp
  · rw [if_neg h0, List.length_append]
    have h1 := dec_len k x.natAbs h
    by_cases hx : x < 0
    · rw [if_pos hx]; simp only [List.length_cons, List.length_nil]; omega
    · rw [if_neg hx]; simp only [List.length_nil]; omega
end Go.Proofs.Ytpnginnjbdedbaa

/- The reference's up, down (printed by gen_rup.py). -/
namespace Go.Proofs.Ytpnginnjbdedbaa
open Go.RowKit
open Wh
set_option linter.unusedSimpArgs false

theorem up_add {cy x s : Nat} (hs : s < 32) (hc : cy < 2 ^ s) (hx : x < 4294967296) :
    IntKind.u64.wrap ((cy : Int) + IntKind.u64.wrap ((x : Int) * 2 ^ s)) = ((cy + x * 2 ^ s : Nat) : Int) ∧ (cy + x * 2 ^ s) / 4294967296 < 2 ^ s ∧ cy + x * 2 ^ s ≤ 9223372036854775807 := by
  have h1 : (2 : Nat) ^ s ≤ 2 ^ 31 := Nat.pow_le_pow_right (by decide) (by omega)
  have h2 : (x + 1) * 2 ^ s ≤ 4294967296 * 2 ^ s := Nat.mul_le_mul_right _ hx
  rw [Nat.add_mul, Nat.one_mul] at h2
  have e1 : ((x : Int) * 2 ^ s) = ((x * 2 ^ s : Nat) : Int) := by rw [Int.natCast_mul, Int.natCast_pow]; rfl
  refine ⟨?_, ?_, by omega⟩
  · rw [e1]
    generalize x * 2 ^ s = q at *
    rw [IntWalk.u64_in (q : Int) (by omega), IntWalk.u64_in _ (by omega)]
    omega
  · exact (Nat.div_lt_iff_lt_mul (by decide)).2 (by omega)

set_option maxRecDepth 100000 in
set_option maxHeartbeats 2000000 in
theorem rup_some {w : World} {B n m c : Nat} {A : Option Addr} {la : List Nat} (h1 : ReadsW w B A la) (hB : B ≤ w.heap.size) (hm : m = la.length) (hml : m ≤ 1000000000) (hnl : n ≤ 1000000000) (ha : Wd la) (hpos : 0 < m) :
    Calls Try.prog 77 #[.slice A m c, .int .i64 (n : Int)] w (CutW w (val la * 2 ^ n)) := by
  have Hm := Lib.hid hm
  have hmk : ∀ w : World, (Instr.makeSlice 80 (.int .i64 ((n : Int) / 32)) (.int .i64 ((n : Int) / 32 + (m : Int) + 1))).run Try.prog w = .ok (.slice (some ⟨w.heap.size, 0, none⟩) (n / 32) (n / 32 + m + 1)) (w.alloc (.cells (wcells (List.replicate (n / 32 + m + 1) 0)) 98)) := fun w => by
    have := run_makeWc (n / 32) (n / 32 + m + 1) (by omega) (by omega) w
    rw [← this]
    congr 3
  have hm0 : ((m : Int) == 0) = false := by simp; omega
  have hmne : ¬ m = 0 := by omega
  clear hm
  go_enter Try.func77, Try.ntmps77
  go_wp2
  go_loopg [5, 6, 7] m (fun k ov cy iv wr => ∃ (A' : Option Addr) (n' c' i c : Nat) (L : List Nat), ov = .slice A' n' c' ∧ cy = .int .u64 (c : Int) ∧ iv = .int .i64 (i : Int) ∧ k = m - i ∧ i ≤ m ∧ c < 4294967296 ∧ OwnW wr w.heap.size (.slice A' n' c') L ∧ Below w.heap.size w wr ∧
    Hid (L.length = n / 32 + i ∧ Wd L ∧ c < 2 ^ (n % 32) ∧ val L + 4294967296 ^ (n / 32 + i) * c = 2 ^ n * val (la.take i)))
  case atStart => exact ⟨_, _, _, 0, 0, List.replicate (n / 32) 0, rfl, rfl, rfl, by omega, by omega, by omega, OwnW.made w (by omega) (by omega), (Below.refl _ _).alloc (Nat.le_refl _) _, by simp, wd_zeros _, Nat.two_pow_pos _, by simp [val_nil, val_zeros]⟩
  case round =>
    obtain ⟨A', n', c', i, cy, L, rfl, rfl, rfl, hk, hi, hc, hown, hbel, hL⟩ := hrel
    have Hk := Lib.hid hk
    clear hk
    have h1' := h1.below (hbel.mono hB)
    have hsz := hbel.size
    by_cases hin : i < m
    · have hia : i < la.length := by rw [← Hm.out]; exact hin
      obtain ⟨ad, rfl, hb1, c1⟩ := h1'.at_ hia
      have w1 := wd_get ha _ hia
      have hii : (i : Int) < (m : Int) := by omega
      have E1 := Lib.hid (val_take_succ hia)
      clear h1' h1
      generalize hx : la[i] = x at *
      clear hx
      have hlo := up_add (Nat.mod_lt n (by decide)) hL.out.2.2.1 w1
      obtain ⟨T, hT⟩ : ∃ T : Nat, T = cy + x * 2 ^ (n % 32) := ⟨_, rfl⟩
      rw [← hT] at hlo
      obtain ⟨hso, ht1, ht2⟩ := hlo
      have HT := Lib.hid (And.intro hT ht1)
      have hLl : L.length ≤ 2000000000 := by have := hL.out.1; omega
      clear ht1 hT
      go_wp2_with (at_builtin; refine wpW_push rfl (.tmp 36) (.tmp 40) rfl w.heap.size _ L hown rfl (y := T % 4294967296) (by rw [Int.natCast_emod]; rfl) rfl (by omega) (by omega) ?_; intro A2 n2 c2 w1 ho hkeep _)
      rw [show (T : Int) / 4294967296 = ((T / 4294967296 : Nat) : Int) by omega]
      go_roundg (m - (i + 1))
      case measure => have := Hk.out; omega
      case rel =>
        refine ⟨A2, n2, c2, i + 1, T / 4294967296, L ++ [T % 4294967296], rfl, rfl, rfl, rfl, by omega, by omega, ho, hkeep w hbel, ?_⟩
        have hl := hL.out
        refine ⟨by rw [List.length_append, hl.1]; rfl, wd_append.2 ⟨hl.2.1, wd_cons.2 ⟨Nat.mod_lt _ (by decide), wd_nil⟩⟩, HT.out.2, ?_⟩
        rw [val_snoc, hl.1, E1.out, Nat.mul_add, ← Nat.add_assoc, Nat.pow_succ]
        rw [← Nat.mul_assoc (2 ^ n)]
        exact left_step hl.2.2.2 HT.out.1 (left_pow n i).symm
    · have hi' : i = m := by omega
      subst hi'
      have hl := hL.out
      have hz : val (L ++ [cy]) = val la * 2 ^ n := by
        rw [val_snoc, hl.1, hl.2.2.2, List.take_of_length_le (by rw [Hm.out]; exact Nat.le_refl _), Nat.mul_comm]
      have Hz := Lib.hid hz
      have hLl : L.length ≤ 2000000000 := by have := hl.1; omega
      have Hw := Lib.hid (wd_append.2 ⟨hl.2.1, wd_cons.2 ⟨hc, wd_nil⟩⟩)
      have hcc : (cy : Int) % 4294967296 = (cy : Int) := by omega
      clear h1' h1 hz hl
      go_wp2_with (at_builtin; refine wpW_push rfl (.tmp 44) (.tmp 47) rfl w.heap.size _ L hown rfl (y := cy) rfl rfl (by omega) (by omega) ?_; intro A2 n2 c2 w1 ho hkeep _)
      have hcut := rcut_any ho.reads ho.len.1 ho.len.2.1 ho.len.2.2 Hw.out
      have Hc := Lib.hid (And.intro ho hcut)
      have Hk2 := Lib.hid (hkeep w hbel)
      clear ho hcut hkeep
      go_wp2_with (go_at_call 86; refine Hc.out.2.mono ?_; rintro e w' ⟨q, rfl, hq, rfl⟩; have Hq := Lib.hid hq; clear hq)
      go_ret
      have hwt := (wds_take _ _ rfl Hw.out).2
      have hn2 := Hc.out.1.len
      refine ⟨_, _, _, rfl, by rw [← Hz.out]; exact Hq.out, ?_, hn2.2.2, by rw [← Hz.out]; exact reads_cut Hc.out.1.reads Hw.out, Hk2.out⟩
      have := Hq.out
      omega
set_option maxRecDepth 100000 in
theorem rup_none {w : World} {n c : Nat} {A : Option Addr} :
    Calls Try.prog 77 #[.slice A 0 c, .int .i64 (n : Int)] w (CutW w 0) := by
  go_enter Try.func77, Try.ntmps77
  go_wp2
  go_ret
  exact ⟨none, 0, 0, rfl, by rw [wds_zero]; rfl, by omega, by omega, by rw [wds_zero]; exact ReadsW.none_ _ _ _, Below.refl _ _⟩
theorem rup_any {w : World} {B n m c : Nat} {A : Option Addr} {la : List Nat} (h1 : ReadsW w B A la) (hB : B ≤ w.heap.size) (hm : m = la.length) (hml : m ≤ 1000000000) (hnl : n ≤ 1000000000) (ha : Wd la) :
    Calls Try.prog 77 #[.slice A m c, .int .i64 (n : Int)] w (CutW w (val la * 2 ^ n)) := by
  rcases Nat.eq_zero_or_pos m with h | h
  · have h2 : la = [] := List.eq_nil_of_length_eq_zero (by omega)
    subst h2
    rw [h, val_nil, Nat.zero_mul]
    exact rup_none
  · exact rup_some h1 hB hm hml hnl ha h
theorem at_drop (la : List Nat) (k i : Nat) : at_ (la.drop k) i = at_ la (k + i) := by
  unfold at_
  rw [List.getD_eq_getElem?_getD, List.getD_eq_getElem?_getD, List.getElem?_drop]
theorem down_val {la : List Nat} (ha : Wd la) (n : Nat) : val la / 2 ^ n = val (la.drop (n / 32)) / 2 ^ (n % 32) := by
  rcases Nat.lt_or_ge (n / 32) la.length with h | h
  · exact div_words ha (by omega)
  · rw [List.drop_of_length_le h, val_nil, Nat.zero_div]
    refine Nat.div_eq_of_lt ?_
    have h1 := val_lt ha
    have h2 : 4294967296 ^ la.length ≤ 2 ^ n := by
      rw [show (4294967296 : Nat) = 2 ^ 32 by decide, ← Nat.pow_mul]
      exact Nat.pow_le_pow_right (by decide) (by omega)
    omega
theorem down_q {x y s : Nat} : (((y : Int) * 4294967296 + (x : Int)) / 2 ^ s) % 4294967296 = (((x + 4294967296 * y) / 2 ^ s % 4294967296 : Nat) : Int) := by
  rw [Int.natCast_emod, Int.natCast_ediv, Int.natCast_pow]
  congr 2
  omega
set_option maxRecDepth 100000 in
set_option maxHeartbeats 2000000 in
theorem rdown_any {w : World} {B n m c : Nat} {A : Option Addr} {la : List Nat} (h1 : ReadsW w B A la) (hB : B ≤ w.heap.size) (hm : m = la.length) (hml : m ≤ 1000000000) (hnl : n ≤ 1000000000) (ha : Wd la) :
    Calls Try.prog 78 #[.slice A m c, .int .i64 (n : Int)] w (CutW w (val la / 2 ^ n)) := by
  have Hm := Lib.hid (And.intro hm ha)
  have Hv := Lib.hid (down_val ha n)
  have H1 := Lib.hid h1
  obtain ⟨ld, hld⟩ : ∃ ld, ld = la.drop (n / 32) := ⟨_, rfl⟩
  rw [← hld] at Hv
  obtain ⟨p, hp⟩ : ∃ p, p = m - n / 32 := ⟨_, rfl⟩
  have hpl : p = ld.length := by rw [hld, List.length_drop]; omega
  have Hp := Lib.hid (And.intro hp (And.intro hpl hld))
  have hpb : p ≤ 1000000000 := by omega
  clear hm ha h1 hld hp hpl
  go_enter Try.func78, Try.ntmps78
  go_wp2_with fail
  go_loopg [5, 6] p (fun k ov iv wr => ∃ (A' : Option Addr) (n' c' t i : Nat) (L : List Nat), ov = .slice A' n' c' ∧ iv = .int .i64 (i : Int) ∧ Hid (i = n / 32 + t) ∧ k = p - t ∧ t ≤ p ∧ OwnW wr w.heap.size (.slice A' n' c') L ∧ Below w.heap.size w wr ∧
    Hid (L.length = t ∧ Wd L ∧ 2 ^ (n % 32) * val L + at_ ld 0 % 2 ^ (n % 32) = val (ld.take t) + 4294967296 ^ t * (at_ ld t % 2 ^ (n % 32))))
  case atStart => exact ⟨_, _, _, 0, n / 32, [], rfl, rfl, Lib.hid rfl, by omega, by omega, OwnW.nil w _, Below.refl _ _, rfl, wd_nil, by simp [val_nil]⟩
  case round =>
    obtain ⟨A', n', c', t, i, L, rfl, rfl, Hi, hk, ht, hown, hbel, hL⟩ := hrel
    have Hk := Lib.hid hk
    clear hk
    have hsz := hbel.size
    by_cases hin : i < m
    · have hil : i < la.length := by rw [← Hm.out.1]; exact hin
      have hid : t < ld.length := by rw [← Hp.out.2.1]; have := Hp.out.1; have := Hi.out; omega
      have hrd := (H1.out.below (hbel.mono hB))
      have HR' : Calls Try.prog 93 #[.slice A m c, .int .i64 ((i : Int) + 1)] wr.drew (fun e w' => e = .returned (.int .u64 ((at_ la (i + 1) : Nat) : Int)) ∧ w' = wr.drew) := by
        have := rat_any (w := wr.drew) (c := c) (i := i + 1) hrd Hm.out.1 Hm.out.2
        exact this
      obtain ⟨ad, rfl, hb1, c1⟩ := hrd.at_ hil
      have E1 := Lib.hid (And.intro (val_take_succ hid) (And.intro (at_get hid) (at_drop la (n / 32) (t + 1))))
      have hx0 : ld[t] = la[i] := by have := Hp.out.2.2; subst this; rw [List.getElem_drop]; simp only [Hi.out]
      rw [hx0, ← Hp.out.2.2] at E1
      have w1 := wd_get Hm.out.2 _ hil
      have w2 := at_lt Hm.out.2 (i + 1)
      rw [show n / 32 + (t + 1) = i + 1 by have := Hi.out; omega] at E1
      generalize at_ la (i + 1) = y at *
      generalize la[i] = x at *
      have HR := Lib.hid HR'
      have hii : (i : Int) < (m : Int) := by omega
      have hLl : L.length ≤ 2000000000 := by have := hL.out.1; omega
      clear HR' hrd hx0 hil hid
      obtain ⟨S, hS⟩ : ∃ S, S = n % 32 := ⟨_, rfl⟩
      have q4 : (n : Int).tmod 32 = (S : Int) := by rw [hS]; rfl
      have q5 : S ≤ 31 := by omega
      have HS := Lib.hid hS
      clear hS
      have q1 : IntKind.i64.wrap ((i : Int) + 1) = (i : Int) + 1 := IntWalk.i64_in _ (by omega)
      have q2 : IntKind.u64.wrap ((y : Int) * 4294967296) = (y : Int) * 4294967296 := IntWalk.u64_in _ (by omega)
      have q3 : IntKind.u64.wrap ((y : Int) * 4294967296 + (x : Int)) = (y : Int) * 4294967296 + (x : Int) := IntWalk.u64_in _ (by omega)
      go_wp2_with fail
      refine wp_region_noPanic ?_
      refine wp_region_HK (fun w' => w'.cell? (ad.add i) = some (.int .u32 (x : Int))) 14 (by kernel_rfl) c1 (fun hHeld => ?_)
      refine wpHK_pure (i := 0) (oi := Oper.mk (some 16) _ _ _ _ _) (v := ?_) rfl (by kernel_rfl) (by kernel_rfl) (by kernel_rfl) (fun _ _ _ h => h) (Or.inl ⟨by rfl, ?_⟩) ?_
      rotate_left
      · (intro w' _; go_simp; try with_reducible rfl)
      try simp only [Act.put, List.setIfInBounds_toArray, List.set_cons_zero, List.set_cons_succ]
      refine wpHK_pure (i := 1) (oi := Oper.mk (some 17) _ _ _ _ _) (v := ?_) rfl (by kernel_rfl) (by kernel_rfl) (by kernel_rfl) (fun _ _ _ h => h) (Or.inl ⟨by rfl, ?_⟩) ?_
      rotate_left
      · (intro w' _; go_simp; try with_reducible rfl)
      try simp only [Act.put, List.setIfInBounds_toArray, List.set_cons_zero, List.set_cons_succ]
      refine wpHK_pure (i := 2) (oi := Oper.mk (some 18) _ _ _ _ _) (v := ?_) rfl (by kernel_rfl) (by kernel_rfl) (by kernel_rfl) (fun _ _ _ h => h) (Or.inl ⟨by rfl, ?_⟩) ?_
      rotate_left
      · (intro w' _; go_simp; try with_reducible rfl)
      try simp only [Act.put, List.setIfInBounds_toArray, List.set_cons_zero, List.set_cons_succ]
      refine wpHK_pure (i := 5) (oi := Oper.mk (some 21) _ _ _ _ _) (v := ?_) rfl (by kernel_rfl) (by kernel_rfl) (by kernel_rfl) (fun _ _ _ h => h) (Or.inl ⟨by rfl, ?_⟩) ?_
      rotate_left
      · (intro w' _; go_simp; try with_reducible rfl)
      try simp only [Act.put, List.setIfInBounds_toArray, List.set_cons_zero, List.set_cons_succ]
      refine wpHK_pure (i := 6) (oi := Oper.mk (some 22) _ _ _ _ _) (v := ?_) rfl (by kernel_rfl) (by kernel_rfl) (by kernel_rfl) (fun _ _ _ h => h) (Or.inl ⟨by rfl, ?_⟩) ?_
      rotate_left
      · (intro w' _; go_simp; try with_reducible rfl)
      try simp only [Act.put, List.setIfInBounds_toArray, List.set_cons_zero, List.set_cons_succ]
      refine wpHK_pure (i := 7) (oi := Oper.mk (some 23) _ _ _ _ _) (v := ?_) rfl (by kernel_rfl) (by kernel_rfl) (by kernel_rfl) (fun _ _ _ h => h) (Or.inl ⟨by rfl, ?_⟩) ?_
      rotate_left
      · (intro w' _; go_simp; try with_reducible rfl)
      try simp only [Act.put, List.setIfInBounds_toArray, List.set_cons_zero, List.set_cons_succ]
      refine wpHK_pure (i := 11) (oi := Oper.mk (some 27) _ _ _ _ _) (v := ?_) rfl (by kernel_rfl) (by kernel_rfl) (by kernel_rfl) (fun _ _ _ h => h) (Or.inl ⟨by rfl, ?_⟩) ?_
      rotate_left
      · (intro w' _; go_simp; try with_reducible rfl)
      try simp only [Act.put, List.setIfInBounds_toArray, List.set_cons_zero, List.set_cons_succ]
      refine wpHK_pure (i := 12) (oi := Oper.mk (some 28) _ _ _ _ _) (v := ?_) rfl (by kernel_rfl) (by kernel_rfl) (by kernel_rfl) (fun _ _ _ h => h) (Or.inl ⟨by rfl, ?_⟩) ?_
      rotate_left
      · (intro w' _; go_simp; try with_reducible rfl)
      try simp only [Act.put, List.setIfInBounds_toArray, List.set_cons_zero, List.set_cons_succ]
      refine wpHK_take (i := 8) (oi := Oper.mk (some 24) _ _ _ _ _) (v := ?_) rfl (by kernel_rfl) (by kernel_rfl) (by kernel_rfl) (by kernel_rfl) (fun _ _ _ h => h) (Or.inl ⟨by rfl, ?_⟩) (by assumption) ?_
      rotate_left
      · (intro w' hSw; (try dsimp only at hSw); (obtain s1 := hSw); go_simp; try with_reducible rfl)
      try simp only [Act.put, List.setIfInBounds_toArray, List.set_cons_zero, List.set_cons_succ]
      refine wpHK_pure (i := 9) (oi := Oper.mk (some 25) _ _ _ _ _) (v := ?_) rfl (by kernel_rfl) (by kernel_rfl) (by kernel_rfl) (fun _ _ _ h => h) (Or.inl ⟨by rfl, ?_⟩) ?_
      rotate_left
      · (intro w' _; go_simp; try with_reducible rfl)
      try simp only [Act.put, List.setIfInBounds_toArray, List.set_cons_zero, List.set_cons_succ]
      refine wpHK_one (j := 3) (o := Oper.mk (some 19) _ _ _ _ _) rfl (by kernel_rfl) (fun K hK => ?_)
      go_simp
      refine (HR.out).mono ?_
      rintro e w9 ⟨rfl, rfl⟩
      refine hK.out _ _ c1 (fun _ => ?_)
      clear hK K hHeld
      have hHeld := c1
      try simp only [Act.put, List.setIfInBounds_toArray, List.set_cons_zero, List.set_cons_succ]
      refine wpHK_pure (i := 4) (oi := Oper.mk (some 20) _ _ _ _ _) (v := ?_) rfl (by kernel_rfl) (by kernel_rfl) (by kernel_rfl) (fun _ _ _ h => h) (Or.inl ⟨by rfl, ?_⟩) ?_
      rotate_left
      · (intro w' _; go_simp; try with_reducible rfl)
      try simp only [Act.put, List.setIfInBounds_toArray, List.set_cons_zero, List.set_cons_succ]
      refine wpHK_pure (i := 10) (oi := Oper.mk (some 26) _ _ _ _ _) (v := ?_) rfl (by kernel_rfl) (by kernel_rfl) (by kernel_rfl) (fun _ _ _ h => h) (Or.inl ⟨by rfl, ?_⟩) ?_
      rotate_left
      · (intro w' _; go_simp; try with_reducible rfl)
      try simp only [Act.put, List.setIfInBounds_toArray, List.set_cons_zero, List.set_cons_succ]
      refine wpHK_pure (i := 13) (oi := Oper.mk (some 29) _ _ _ _ _) (v := ?_) rfl (by kernel_rfl) (by kernel_rfl) (by kernel_rfl) (fun _ _ _ h => h) (Or.inl ⟨by rfl, ?_⟩) ?_
      rotate_left
      · (intro w' _; go_simp; try with_reducible rfl)
      try simp only [Act.put, List.setIfInBounds_toArray, List.set_cons_zero, List.set_cons_succ]
      refine wpHK_pure (i := 14) (oi := Oper.mk (some 7) _ _ _ _ _) (v := ?_) rfl (by kernel_rfl) (by kernel_rfl) (by kernel_rfl) (fun _ _ _ h => h) (Or.inl ⟨by rfl, ?_⟩) ?_
      rotate_left
      · (intro w' _; go_simp; try with_reducible rfl)
      try simp only [Act.put, List.setIfInBounds_toArray, List.set_cons_zero, List.set_cons_succ]
      refine wpHK_done (by kernel_rfl) ?_ _
      refine NoPanic.normal ?_
      have q6 : (((y : Int) * 4294967296 + (x : Int)) / 2 ^ S) % 4294967296 = (((x + 4294967296 * y) / 2 ^ S % 4294967296 : Nat) : Int) := down_q
      clear q2 q3 q4 q5 c1
      go_wp2_with (at_builtin; refine wpW_push (w := wr.drew) rfl (.tmp 30) (.tmp 34) rfl w.heap.size _ L (hown.drewN 1) rfl (y := (x + 4294967296 * y) / 2 ^ S % 4294967296) (by rw [← q6, Int.tmod_eq_emod_of_nonneg (Int.ediv_nonneg (by omega) (Int.le_of_lt (Int.pow_pos (by decide)))), Int.emod_emod]) rfl (by omega) hbel.size ?_; intro A2 n2 c2 W1 ho hkeep _)
      go_roundg (p - (t + 1))
      case measure => have := Hk.out; have := Hp.out.1; have := Hi.out; omega
      case rel =>
        refine ⟨A2, n2, c2, t + 1, i + 1, L ++ [(x + 4294967296 * y) / 2 ^ S % 4294967296], rfl, rfl, Lib.hid (by have := Hi.out; omega), rfl, by have := Hp.out.1; have := Hi.out; omega, ho, hkeep w hbel.drew, ?_⟩
        have hl := hL.out
        refine ⟨by rw [List.length_append, hl.1]; rfl, wd_append.2 ⟨hl.2.1, wd_cons.2 ⟨Nat.mod_lt _ (by decide), wd_nil⟩⟩, ?_⟩
        have h3 := hl.2.2
        rw [E1.out.2.1] at h3
        rw [val_snoc, hl.1, E1.out.1, ← E1.out.2.2, Nat.pow_succ, HS.out]
        exact right_step h3 (by omega) w1
    · have hi' : t = p := by have := Hp.out.1; have := Hi.out; omega
      subst hi'
      have hL1 := hL.out.1
      have hz : val L = val la / 2 ^ n := by
        have h3 := hL.out.2.2
        rw [List.take_of_length_le (by rw [← Hp.out.2.1]; exact Nat.le_refl _), at_end (i := t) (by rw [← Hp.out.2.1]; exact Nat.le_refl _), Nat.zero_mod, Nat.mul_zero, Nat.add_zero] at h3
        rw [Hv.out, ← right_end h3 (Nat.mod_lt _ (Nat.two_pow_pos _))]
      have HT := Lib.hid (rcut_any hown.reads hown.len.1 hown.len.2.1 hown.len.2.2 hL.out.2.1)
      have H3 := Lib.hid hz
      have Ho := Lib.hid hown
      have Hw := Lib.hid hL.out.2.1
      have him : (m : Int) ≤ (i : Int) := by omega
      clear hL1 hz H1 hown
      go_wp2_with (go_at_call 86; refine HT.out.mono ?_; rintro e w' ⟨q, rfl, hq, rfl⟩; have Hq := Lib.hid hq; clear hq)
      go_ret
      have hwt := (wds_take _ _ rfl Hw.out).2
      have hn2 := Ho.out.len
      refine ⟨_, _, _, rfl, by rw [← H3.out]; exact Hq.out, ?_, hn2.2.2, by rw [← H3.out]; exact reads_cut Ho.out.reads Hw.out, hbel⟩
      have := Hq.out
      omega
end Go.Proofs.Ytpnginnjbdedbaa

/- The reference's Root (printed by gen_rroot.py). -/
namespace Go.Proofs.Ytpnginnjbdedbaa
open Go.RowKit
open Wh
set_option linter.unusedSimpArgs false

/-- root and rest, as the document has them -/
def RRooted (w : World) (m : Nat) (e : Ending) (w' : World) : Prop :=
  ∃ r : Nat, r * r ≤ m ∧ m < (r + 1) * (r + 1) ∧ e = .returned (.tuple #[enc (r : Int), enc ((m : Int) - (r : Int) * (r : Int))]) ∧ Below w.heap.size w w'
theorem root_start {m : Nat} : m < (0 + 2 ^ (bl m / 2 + 1)) * (0 + 2 ^ (bl m / 2 + 1)) := by
  rw [Nat.zero_add, ← Nat.pow_add]
  exact Nat.lt_of_lt_of_le (bl_lt.1 (Nat.le_refl (bl m))) (Nat.pow_le_pow_right (by decide) (by omega))
theorem cmpN_le {a b : Nat} : decide (cmpN a b ≤ 0) = decide (a ≤ b) := by
  unfold cmpN
  by_cases h1 : a < b
  · rw [if_pos h1, decide_eq_true (by omega), decide_eq_true (by omega)]
  · rw [if_neg h1]
    by_cases h2 : a = b
    · simp [h2]
    · have : b < a := by omega
      simp [h2]
      omega
theorem sgn_false (m : Nat) : sgn false m = (m : Int) := rfl
theorem blk_unit (w : World) : ReadsW (w.alloc (.cells #[.int .u32 1] 98)) (w.heap.size + 1) (some ⟨w.heap.size, 0, none⟩) [1] := by
  have := reads_blk (w := w.alloc (.cells #[.int .u32 1] 98)) (B := w.heap.size + 1) (l := [1]) (Blk.new w 98 (wcells [1])) (by omega)
  exact this
theorem ReadsW.call {w w' : World} {A : Option Addr} {l : List Nat} (h : ReadsW w w.heap.size A l) (hb : Below w.heap.size w w') : ReadsW w' w'.heap.size A l := (h.below hb).more hb.size
theorem len_pow2 {j k : Nat} (h : j < 32 * k) : (wds (2 ^ j)).length ≤ k := len_bl (bl_lt.2 ((Nat.pow_lt_pow_iff_right (by decide)).2 h))
set_option maxRecDepth 100000 in
set_option maxHeartbeats 2000000 in
theorem rroot_any {w : World} {na : Bool} {sa : ByteArray} (hm : MayL na sa.data.toList) :
    Calls Try.prog 56 #[.agg #[.bool na, .string sa]] w (RRooted w (bval sa.data.toList)) := by
  have hf := Fmd.of_may hm
  have HA := Lib.hid (fun W : World => words_any (w := W) (by have := hf.2; omega) hf.1)
  obtain ⟨m, hme⟩ : ∃ m, m = bval sa.data.toList := ⟨_, rfl⟩
  have hbl : bl m ≤ 131072 := by rw [hme]; exact fits_len (by have := hm.1; omega)
  have hml : (wds m).length ≤ 4096 := len_bl (by omega)
  rw [← hme] at HA ⊢
  have E0 := Lib.hid (Env.new (Env.new (Env.new (Env.nil w) 26 #[.bool na, .string sa]) 26 #[.bool false, .string ⟨#[]⟩]) 26 #[.bool false, .string ⟨#[]⟩])
  have Hml := Lib.hid hml
  clear hf hme hm hml
  go_enter Try.func56, Try.ntmps56
  go_wp2_with fail
  refine (HA.out _).mono ?_
  rintro e V1 ⟨A1, n1, c1, rfl, hn1, hc1, hc1', hr1, hb1⟩
  have E1' := Env.call E0.out hb1
  (try simp only [World.size_alloc] at E1')
  have E1 := Lib.hid E1'
  have R1 := Lib.hid (And.intro hn1.out (And.intro hc1 (And.intro hc1' hr1)))
  clear E1' hb1 hn1 hc1 hc1' hr1 E0 HA
  have HB := Lib.hid (rbits_any (c := c1) R1.out.2.2.2 R1.out.1 (by have := R1.out.1; have := Hml.out; omega))
  go_wp2_with fail
  refine HB.out.mono ?_
  rintro e V1' ⟨rfl, rfl⟩
  obtain ⟨K, hK⟩ : ∃ K, K = bl m := ⟨_, rfl⟩
  have hkb : K ≤ 131072 := by omega
  have Hs := Lib.hid (root_start (m := m))
  rw [← hK] at Hs ⊢
  have q0 : IntKind.i64.wrap ((K : Int) / 2) = ((K / 2 + 1 : Nat) : Int) - 1 := by rw [IntWalk.i64_in _ (by omega)]; omega
  clear hK hbl HB
  go_wp2_with fail
  go_loopg [5, 6, 7] (K / 2 + 1) (fun k sv iv xv wr => ∃ (A : Option Addr) (n c R k0 : Nat), Hid (k = k0) ∧ sv = .slice A n c ∧ iv = .int .i64 ((k0 : Int) - 1) ∧ k0 ≤ 65537 ∧ Hid (n = (wds R).length) ∧ n ≤ c ∧ c ≤ 9223372036854775807 ∧ Hid (ReadsW wr wr.heap.size A (wds R)) ∧ Hid (Below V1.heap.size V1 wr) ∧ Hid (R * R ≤ m ∧ m < (R + 2 ^ k0) * (R + 2 ^ k0)))
  case atStart => exact ⟨none, 0, 0, 0, _, Lib.hid rfl, rfl, by rw [show (K : Int) / 2 = ((K / 2 + 1 : Nat) : Int) - 1 by omega], by omega, Lib.hid (by rw [wds_zero]; rfl), by omega, by omega, Lib.hid (by rw [wds_zero]; exact ReadsW.none_ _ _ _), Lib.hid (Below.refl _ _), Lib.hid ⟨Nat.zero_le _, Hs.out⟩⟩
  case round =>
    obtain ⟨A, n, c, R, k, Hk, rfl, rfl, hk, Hn, hnc, hcl, Hr, Hb, HR⟩ := hrel
    have Hc := Lib.hid (And.intro hnc hcl)
    have hRl : (wds R).length ≤ 4096 := Nat.le_trans (len_mono (root_le HR.out.1)) Hml.out
    have HRl := Lib.hid hRl
    clear hRl
    rcases Nat.eq_zero_or_pos k with h0 | h0
    case inr =>
      obtain ⟨j, rfl⟩ : ∃ j, k = j + 1 := ⟨k - 1, by omega⟩
      clear h0
      rw [show ((j + 1 : Nat) : Int) - 1 = (j : Int) by omega]
      have HU0 := rup_any (c := 1) (n := j) (blk_unit wr) (by simp) rfl (by simp) (by omega) (wd_cons.2 ⟨by decide, wd_nil⟩)
      rw [show val [1] * 2 ^ j = 2 ^ j by rw [show val [1] = 1 from rfl, Nat.one_mul]] at HU0
      have HU := Lib.hid HU0
      have Hj := Lib.hid (len_pow2 (j := j) (k := 2049) (by omega))
      clear HU0
      go_wp2_with fail
      refine HU.out.mono ?_
      rintro e W2 ⟨A2, n2, c2, rfl, hn2, hc2, hc2', hr2, hb2⟩
      have hbA := (Below.refl wr.heap.size wr).alloc (Nat.le_refl _) (.cells #[.int .u32 1] 98)
      have hb02 := hbA.trans (hb2.mono (by simp))
      have HM0 := rmore_any (c := c) (d := c2) (Hr.out.call hb02) hr2 (Nat.le_refl _) Hn.out hn2.out (by have := Hn.out; have := HRl.out; omega) (by have := hn2.out; have := Hj.out; omega) (wd_w _) (wd_w _)
      rw [val_w, val_w] at HM0
      have HM := Lib.hid HM0
      have Hb02 := Lib.hid hb02
      clear HM0 hbA hb02 hb2 hr2 hn2 hc2 hc2' HU
      go_wp2_with fail
      refine HM.out.mono ?_
      rintro e W3 ⟨A3, n3, c3, rfl, hn3, hc3, hc3', hr3, hb3⟩
      have Hb03 := Lib.hid (Hb02.out.trans (hb3.mono Hb02.out.size))
      have R3 := Lib.hid (And.intro hn3.out (And.intro hc3 (And.intro hc3' hr3)))
      obtain ⟨X, hX⟩ : ∃ X, X = R + 2 ^ j := ⟨_, rfl⟩
      rw [← hX] at R3
      have hXl : (wds X).length ≤ 4097 := by rw [hX]; exact len_sumN HRl.out (Nat.le_trans Hj.out (by omega))
      have HX := Lib.hid (And.intro hX hXl)
      clear hb3 hn3 hc3 hc3' hr3 HM Hb02 hX hXl
      have HP0 := rproduct_any (c := c3) (d := c3) R3.out.2.2.2 R3.out.2.2.2 (Nat.le_refl _) R3.out.1 R3.out.1 (by have := R3.out.1; have := HX.out.2; omega) (by have := R3.out.1; have := HX.out.2; omega) (wd_w _) (wd_w _)
      rw [val_w] at HP0
      have HP := Lib.hid HP0
      clear HP0
      go_wp2_with fail
      refine HP.out.mono ?_
      rintro e W4 ⟨A4, n4, c4, rfl, hn4, hc4, hc4', hr4, hb4⟩
      have Hb04 := Lib.hid (Hb03.out.trans (hb4.mono Hb03.out.size))
      have R3' := Lib.hid (R3.out.2.2.2.call hb4)
      have Hb1 := Lib.hid (Hb.out.trans (Hb04.out.mono Hb.out.size))
      have hXX : (wds (X * X)).length ≤ 8194 := len_mul HX.out.2 HX.out.2
      have HC := Lib.hid (runder_any (a := X * X) (b := m) (c := c4) (d := c1) hr4 (R1.out.2.2.2.call Hb1.out) hn4.out R1.out.1 (by have := hn4.out; omega) (by have := R1.out.1; have := Hml.out; omega))
      clear hn4 hc4 hc4' hr4 hb4 HP Hb03 hXX
      go_wp2_with fail
      refine HC.out.mono ?_
      rintro e W5 ⟨q, rfl, rfl⟩
      have hd := cmpN_le (a := X * X) (b := m)
      by_cases hle : X * X ≤ m
      · rw [decide_eq_true hle] at hd
        have Hle := Lib.hid hle
        clear hle HC
        go_wp2_with fail
        go_roundg j
        case measure => have := Hk.out; omega
        case rel => exact ⟨_, _, _, X, j, Lib.hid rfl, rfl, by rw [show (j : Int) - 1 = (j : Int) - 1 from rfl], by omega, Lib.hid R3.out.1, R3.out.2.1, R3.out.2.2.1, Lib.hid (R3'.out.drewN q), Lib.hid (below_drewN Hb1.out q), Lib.hid ⟨Hle.out, by rw [HX.out.1]; have h := HR.out.2; rwa [Nat.pow_succ, Nat.mul_two, ← Nat.add_assoc] at h⟩⟩
      · rw [decide_eq_false hle] at hd
        have Hle := Lib.hid hle
        clear hle HC
        go_wp2_with fail
        go_roundg j
        case measure => have := Hk.out; omega
        case rel => exact ⟨_, _, _, R, j, Lib.hid rfl, rfl, rfl, by omega, Hn, Hc.out.1, Hc.out.2, Lib.hid ((Hr.out.call Hb04.out).drewN q), Lib.hid (below_drewN Hb1.out q), Lib.hid ⟨HR.out.1, by have := HX.out.1; have := Hle.out; rw [← HX.out.1]; omega⟩⟩
    case inl =>
      subst h0
      rw [show ((0 : Nat) : Int) - 1 = -1 by omega]
      have HM0 := made_any (neg := false) Hr.out (Nat.le_refl _) Hn.out Hc.out.1 Hc.out.2 (by have := Hn.out; have := HRl.out; omega) (wd_w _)
      rw [val_w, sgn_false] at HM0
      obtain ⟨zs, zb, ez⟩ : ∃ s b, enc (R : Int) = .agg #[.bool s, .string b] := ⟨_, _, rfl⟩
      obtain ⟨ys, yb, ey⟩ : ∃ s b, enc ((m : Int) - (R : Int) * (R : Int)) = .agg #[.bool s, .string b] := ⟨_, _, rfl⟩
      rw [ez] at HM0
      have HM := Lib.hid HM0
      have Hz := Lib.hid (And.intro ez ey)
      have F0 := Lib.hid (E1.out.call Hb.out)
      have RA := Lib.hid (R1.out.2.2.2.call Hb.out)
      clear HM0 ez ey Hb E1 Hs
      go_wp2_with fail
      refine HM.out.mono ?_
      rintro e W2 ⟨rfl, hb2⟩
      have F2 := Lib.hid (F0.out.call hb2)
      have RA2 := Lib.hid (RA.out.call hb2)
      have Hr2 := Lib.hid (Hr.out.call hb2)
      clear hb2 HM F0 RA Hr
      have HP0 := rproduct_any (c := c) (d := c) Hr2.out Hr2.out (Nat.le_refl _) Hn.out Hn.out (by have := Hn.out; have := HRl.out; omega) (by have := Hn.out; have := HRl.out; omega) (wd_w _) (wd_w _)
      rw [val_w] at HP0
      have HP := Lib.hid HP0
      clear HP0
      go_wp2_with fail
      refine HP.out.mono ?_
      rintro e W3 ⟨A3, n3, c3, rfl, hn3, hc3, hc3', hr3, hb3⟩
      have F3 := Lib.hid (F2.out.call hb3)
      have HL0 := rless_any (c := c1) (d := c3) (RA2.out.call hb3) hr3 (Nat.le_refl _) R1.out.1 hn3.out (by have := R1.out.1; have := Hml.out; omega) (by rw [R1.out.1, hn3.out]; exact len_mono HR.out.1) (by rw [val_w, val_w]; exact HR.out.1) (wd_w _) (wd_w _)
      rw [val_w, val_w] at HL0
      have HL := Lib.hid HL0
      clear HL0 hb3 hn3 hc3 hc3' hr3 HP F2 RA2 Hr2
      go_wp2_with fail
      refine HL.out.mono ?_
      rintro e W4 ⟨A4, n4, c4, rfl, hn4, hc4, hc4', hr4, hb4⟩
      have F4 := Lib.hid (F3.out.call hb4)
      have HM0 := made_any (neg := false) hr4 (Nat.le_refl _) hn4.out hc4 hc4' (by have := hn4.out; have := Hml.out; have := len_mono (Nat.sub_le m (R * R)); omega) (wd_w _)
      rw [val_w, sgn_false, show ((m - R * R : Nat) : Int) = (m : Int) - (R : Int) * (R : Int) by rw [Int.ofNat_sub HR.out.1, Int.natCast_mul], Hz.out.2] at HM0
      have HM := Lib.hid HM0
      clear HM0 hb4 hn4 hc4 hc4' hr4 HL F3
      go_wp2_with fail
      refine HM.out.mono ?_
      rintro e W5 ⟨rfl, hb5⟩
      have F5 := Lib.hid (F4.out.call hb5)
      clear hb5 HM F4
      have n2 := Env.at_ F5.out 1 rfl
      have n3 := Env.at_ F5.out 0 rfl
      have y0 := n2.cell 0
      have y1 := n2.cell 1
      have y2 := n2.frozen 0
      have y3 := n2.frozen 1
      have z0 := n3.cell 0
      have z1 := n3.cell 1
      have z2 := n3.frozen 0
      have z3 := n3.frozen 1
      simp at y0 y1 z0 z1
      go_wp2_with fail
      refine bodyPost_ret (v := .tuple #[.agg #[.bool zs, .string zb], .agg #[.bool ys, .string yb]]) (by simp [results, Try.results56, go_sem, y0, y1, z0, z1]) rfl ?_
      exact ⟨R, HR.out.1, by have h := HR.out.2; rwa [Nat.pow_zero] at h, by rw [Hz.out.1, Hz.out.2], ((((F5.out.1).setCell (by show w.heap.size ≤ w.heap.size + 1; omega) _).setCell (by show w.heap.size ≤ w.heap.size + 1; omega) _).setCell (by show w.heap.size ≤ w.heap.size + 1 + 1; omega) _).setCell (by show w.heap.size ≤ w.heap.size + 1 + 1; omega) _⟩
end Go.Proofs.Ytpnginnjbdedbaa

/- The reference's Read (printed by gen_rread.py). -/
namespace Go.Proofs.Ytpnginnjbdedbaa
open Go.RowKit
open Wh
set_option linter.unusedSimpArgs false
set_option linter.unusedVariables false

/-- what digits read are -/
def DigRead (w : World) (neg : Bool) (ds : List UInt8) (e : Ending) (w' : World) : Prop :=
  (AllDig ds → e = .returned (.tuple #[enc (sgn neg (dv ds)), .int .i64 0])) ∧ (¬ AllDig ds → e = .returned (.tuple #[.agg #[.bool false, .string ⟨#[]⟩], .int .i64 120])) ∧ Below w.heap.size w w'
def RReadd (w : World) (l : List UInt8) (e : Ending) (w' : World) : Prop :=
  (Good l → e = .returned (.tuple #[enc (rval l), .int .i64 0])) ∧ (¬ Good l → e = .returned (.tuple #[.agg #[.bool false, .string ⟨#[]⟩], .int .i64 120])) ∧ Below w.heap.size w w'
theorem blk_word (w : World) (P : Nat) : ReadsW (w.alloc (.cells #[.int .u32 (P : Int)] 98)) (w.heap.size + 1) (some ⟨w.heap.size, 0, none⟩) [P] := by
  have := reads_blk (w := w.alloc (.cells #[.int .u32 (P : Int)] 98)) (B := w.heap.size + 1) (l := [P]) (Blk.new w 98 (wcells [P])) (by omega)
  exact this
theorem val_one_ (P : Nat) : val [P] = P := by rw [show [P] = ([] : List Nat) ++ [P] from rfl, val_snoc, val_nil]; simp
theorem digs_len {l : List UInt8} {k : Nat} (h : AllDig l) (hl : l.length ≤ k) : (wds (dv l)).length ≤ k := by
  refine Nat.le_trans (len_wds (k := l.length) ?_) hl
  exact Nat.lt_of_lt_of_le (dv_lt _ l rfl h) (Nat.pow_le_pow_left (by decide) _)
set_option maxRecDepth 100000 in
set_option maxHeartbeats 2000000 in
theorem rread_core {w W : World} {s t : ByteArray} {neg : Bool} {u1 u3 u6 u7 u8 u9 u10 u11 u12 u13 u14 u15 u16 u17 u18 u19 u20 u21 u22 u23 u24 u25 u26 u27 u28 u29 u30 u31 u32 u33 u34 u35 u36 u37 u38 u39 u40 u41 u42 u43 u44 u45 u46 u47 u48 u49 u50 u51 u52 u53 u54 u55 u56 u57 u58 u59 u60 u61 u62 u63 u64 u65 u66 u67 u68 u69 u70 u71 u72 u73 u74 u75 u76 u77 u78 u79 u80 u81 u82 u83 u84 u85 u86 u87 u88 : Value} {Q : Ending → World → Prop} (hl : t.size ≤ 40000) (E0 : Hid (Env w W [(w.heap.size, 26, #[.bool false, .string ⟨#[]⟩])])) (hQ0 : ∀ e w', DigRead w neg t.data.toList e w' → Q e w') :
    (codeRest 5 (bodyOf Try.f35)).wp Try.prog (bodyPost Try.prog Try.f35 Q) ⟨#[.string s, u1, .pointer (some ⟨w.heap.size, 0, none⟩), u3, .string t, .bool neg, u6, u7, u8, u9, u10, u11, u12, u13, u14, u15, u16, u17, u18, u19, u20, u21, u22, u23, u24, u25, u26, u27, u28, u29, u30, u31, u32, u33, u34, u35, u36, u37, u38, u39, u40, u41, u42, u43, u44, u45, u46, u47, u48, u49, u50, u51, u52, u53, u54, u55, u56, u57, u58, u59, u60, u61, u62, u63, u64, u65, u66, u67, u68, u69, u70, u71, u72, u73, u74, u75, u76, u77, u78, u79, u80, u81, u82, u83, u84, u85, u86, u87, u88], []⟩ W := by
  conv => enter [2]; dsimp only [codeRest, bodyOf, Try.f35, Option.getD_some]
  obtain ⟨ds, hle⟩ : ∃ l, l = t.data.toList := ⟨_, rfl⟩
  have hll : ds.length = t.size := by rw [hle]; exact Array.length_toList
  have hget : ∀ j (h : j < t.size) (h' : j < ds.length), t[j] = ds[j] := by subst hle; intro j h h'; rfl
  rw [← hle] at hQ0
  have hQ := Lib.hid hQ0
  obtain ⟨n, hn⟩ : ∃ n, n = t.size := ⟨_, rfl⟩
  have Hn := Lib.hid (And.intro hn (And.intro hll hget))
  have htn : t.size = n := hn.symm
  have hnl : n ≤ 40000 := by omega
  clear hQ0 hll hle hget hn hl
  go_wp2_with fail
  go_loopg [6, 7] n (fun k lv iv wr => ∃ (A : Option Addr) (m c i V : Nat), lv = .slice A m c ∧ iv = .int .i64 (i : Int) ∧ Hid (k = n - i) ∧ i ≤ n ∧ Hid (m = (wds V).length) ∧ Hid (m ≤ c ∧ c ≤ 9223372036854775807) ∧ Hid (ReadsW wr wr.heap.size A (wds V)) ∧ Hid (Below W.heap.size W wr) ∧ Hid (AllDig (ds.take i) ∧ V = dv (ds.take i)))
  case atStart => exact ⟨none, 0, 0, 0, 0, rfl, rfl, Lib.hid rfl, Nat.zero_le _, Lib.hid (by rw [wds_zero]; rfl), Lib.hid ⟨by omega, by omega⟩, Lib.hid (by rw [wds_zero]; exact ReadsW.none_ _ _ _), Lib.hid (Below.refl _ _), Lib.hid ⟨fun b hb => (by simp at hb), rfl⟩⟩
  case round =>
    obtain ⟨A, m, c, i0, V, rfl, rfl, Hk, hi0, Hm, Hc, Hr, Hb, HV⟩ := hrel
    have HVl := Lib.hid (show (wds V).length ≤ 40000 by rw [HV.out.2]; exact digs_len HV.out.1 (by rw [List.length_take]; omega))
    by_cases hin : i0 < n
    · have hii : (i0 : Int) < (n : Int) := by omega
      go_wp2_with fail
      go_loopg [7, 8, 9, 10] 9 (fun k iv pv dv_ kv wi => ∃ (q P D : Nat), iv = .int .i64 ((i0 + q : Nat) : Int) ∧ pv = .int .u64 (P : Int) ∧ dv_ = .int .u64 (D : Int) ∧ kv = .int .i64 (q : Int) ∧ Hid (k = 9 - q) ∧ q ≤ 9 ∧ i0 + q ≤ n ∧ P ≤ 1000000000 ∧ D ≤ 999999999 ∧ Hid (P = 10 ^ q ∧ D = dv ((ds.drop i0).take q) ∧ AllDig (ds.take (i0 + q)) ∧ AllDig ((ds.drop i0).take q)) ∧ wr = wi)
      case atStart => exact ⟨0, 1, 0, rfl, rfl, rfl, rfl, Lib.hid rfl, by omega, by omega, by omega, by omega, Lib.hid ⟨rfl, rfl, HV.out.1, fun b hb => (by simp at hb)⟩, rfl⟩
      case round =>
        obtain ⟨q, P, D, rfl, rfl, rfl, rfl, Hkq, hq, hqn, hP, hD, HP, rfl⟩ := hrel
        obtain ⟨x, hx⟩ : ∃ x, x = i0 + q := ⟨_, rfl⟩
        rw [← hx] at hqn ⊢
        have Hx := Lib.hid hx
        clear hx
        by_cases hgo : q < 9 ∧ x < n
        · obtain ⟨g1, g2⟩ := hgo
          have hxl : x < ds.length := by have := Hn.out; omega
          have hyi : t[x]'(by omega) = ds[x] := Hn.out.2.2 x (by omega) hxl
          have htake := List.take_succ_eq_append_getElem hxl
          have hdl : q < (ds.drop i0).length := by rw [List.length_drop]; have := Hx.out; omega
          have hdq : (ds.drop i0)[q] = ds[x] := by rw [List.getElem_drop]; simp only [Hx.out]
          have hdt := dv_take hdl
          have hat : ∀ h : AllDig ((ds.drop i0).take q), IsDig ds[x] → AllDig ((ds.drop i0).take (q + 1)) := fun h h2 => allDig_take hdl h (by rw [hdq]; exact h2)
          rw [hdq] at hdt
          have hall : AllDig ds → IsDig ds[x] := fun h => h _ (List.getElem_mem hxl)
          obtain ⟨y, hy⟩ : ∃ y, y = ds[x] := ⟨_, rfl⟩
          rw [← hy] at hyi htake hdt hat hall
          have hyn : (t[x]'(by omega)).toNat = y.toNat := by rw [hyi]
          have Hy := Lib.hid (And.intro htake (And.intro hdt (And.intro hat hall)))
          have hy8 := UInt8.toNat_lt y
          have g3 : (q : Int) < 9 := by omega
          have g4 : (x : Int) < (n : Int) := by omega
          have Hten := Lib.hid (ten_le (n := q + 1) (by omega))
          clear hy hyi htake hdt hat hall hdq hdl hxl
          by_cases hd : IsDig y
          · have Hd := Lib.hid hd
            obtain ⟨e1, e2⟩ := hd
            have e3 : (48 : Int) ≤ (y.toNat : Int) := by omega
            have e4 : (y.toNat : Int) ≤ 57 := by omega
            go_wp2_with fail
            go_roundg (9 - (q + 1))
            case measure => have := Hkq.out; omega
            case rel =>
              have ha := Hy.out.2.2.1 HP.out.2.2.2 Hd.out
              have hdn : 10 * D + (y.toNat - 48) = dv ((ds.drop i0).take (q + 1)) := by rw [Hy.out.2.1, HP.out.2.1]
              have hlt := dv_lt (q + 1) ((ds.drop i0).take (q + 1)) (by rw [List.length_take, List.length_drop]; have := Hx.out; have := Hn.out; omega) ha
              have hten := Hten.out
              refine ⟨q + 1, P * 10, 10 * D + (y.toNat - 48), ?_, ?_, ?_, rfl, Lib.hid rfl, by omega, by have := Hx.out; omega, ?_, ?_, Lib.hid ⟨by rw [HP.out.1, Nat.pow_succ], hdn, ?_, ha⟩, rfl⟩
              · have := Hx.out; congr 1; omega
              · congr 1; omega
              · congr 1; omega
              · rw [HP.out.1, ← Nat.pow_succ]; exact hten
              · rw [← hdn] at hlt; omega
              · rw [show i0 + (q + 1) = x + 1 by have := Hx.out; omega, Hy.out.1]
                have h5 := HP.out.2.2.1
                rw [← Hx.out] at h5
                exact allDig_app.2 ⟨h5, allDig_cons.2 ⟨Hd.out, fun b hb => by cases hb⟩⟩
          · have Hno := Lib.hid (fun h : AllDig ds => hd (Hy.out.2.2.2 h))
            have Hd := Lib.hid hd
            have F0 := Lib.hid (E0.out.call Hb.out)
            have n2 := Env.at_ F0.out 0 rfl
            have y0 := n2.cell 0
            have y1 := n2.cell 1
            have y2 := n2.frozen 0
            have y3 := n2.frozen 1
            simp at y0 y1
            clear n2
            rcases Nat.lt_or_ge y.toNat 48 with h1 | h1
            · have e3 : (y.toNat : Int) < 48 := by omega
              clear hd
              go_wp2_with fail
              refine bodyPost_ret (v := .tuple #[.agg #[.bool false, .string ⟨#[]⟩], .int .i64 120]) (by simp [results, Try.results35, go_sem, y0, y1]) rfl ?_
              exact hQ.out _ _ ⟨fun h => absurd h Hno.out, fun _ => rfl, (F0.out.1.setCell (Nat.le_refl w.heap.size) _).setCell (Nat.le_refl w.heap.size) _⟩
            · have e3 : (48 : Int) ≤ (y.toNat : Int) := by omega
              have e4 : (57 : Int) < (y.toNat : Int) := by
                have := Hd.out
                unfold IsDig at this
                omega
              clear hd
              go_wp2_with fail
              refine bodyPost_ret (v := .tuple #[.agg #[.bool false, .string ⟨#[]⟩], .int .i64 120]) (by simp [results, Try.results35, go_sem, y0, y1]) rfl ?_
              exact hQ.out _ _ ⟨fun h => absurd h Hno.out, fun _ => rfl, (F0.out.1.setCell (Nat.le_refl w.heap.size) _).setCell (Nat.le_refl w.heap.size) _⟩
        · have hq1 : 1 ≤ q := by have := Hx.out; omega
          have hstop : (9 : Int) ≤ (q : Int) ∨ ((q : Int) < 9 ∧ (n : Int) ≤ (x : Int)) := by omega
          have hPw : IntKind.u32.wrap (P : Int) = (P : Int) := by rw [IntKind.wrap_u32]; omega
          have hDw : IntKind.u32.wrap (D : Int) = (D : Int) := by rw [IntKind.wrap_u32]; omega
          have HPr := Lib.hid (fun W2 : World => blk_word W2 P)
          have HDr := Lib.hid (fun W2 : World => blk_word W2 D)
          have hbp := (Below.refl wr.heap.size wr).alloc (Nat.le_refl _) (.cells #[.int .u32 (P : Int)] 98)
          have HM0 := rproduct_any (m := 1) (c := c) (d := 1) ((Hr.out.call hbp).more (by simp)) ((blk_word wr P).more (B' := (wr.alloc (.cells #[.int .u32 (P : Int)] 98)).heap.size) (by simp)) (Nat.le_refl _) Hm.out rfl (by have := Hm.out; have := HVl.out; omega) (by omega) (wd_w _) (wd_cons.2 ⟨by omega, wd_nil⟩)
          rw [val_w, val_one_] at HM0
          have HM := Lib.hid HM0
          have Hbp := Lib.hid hbp
          have Hq1 := Lib.hid hq1
          clear HM0 hbp hgo hq1
          rcases hstop with h9 | h9
          · go_wp2_with fail
            refine HM.out.mono ?_
            rintro e W2 ⟨A2, m2, c2, rfl, hm2, hc2, hc2', hr2, hb2⟩
            have Hb2 := Lib.hid (Hbp.out.trans (hb2.mono Hbp.out.size))
            have R2 := Lib.hid (And.intro hm2.out hr2)
            have HX0 := rcut_any (c := 1) (HDr.out W2) (by simp : 1 = [D].length) (Nat.le_refl _) (by omega) (wd_cons.2 ⟨by omega, wd_nil⟩)
            have HX := Lib.hid HX0
            clear HX0 hm2 hc2 hc2' hr2 hb2 HM
            go_wp2_with fail
            refine HX.out.mono ?_
            rintro e W3 ⟨m3, rfl, hm3, rfl⟩
            have hbd := (Below.refl W2.heap.size W2).alloc (Nat.le_refl _) (.cells #[.int .u32 (D : Int)] 98)
            have hrd := reads_cut (HDr.out W2) (wd_cons.2 ⟨by omega, wd_nil⟩)
            rw [val_one_] at hm3 hrd
            have hDl : (wds D).length ≤ 1 := len_wds (by omega)
            have hVP : (wds (V * P)).length ≤ 40001 := len_mul HVl.out (len_wds (k := 1) (by omega))
            have HO0 := rmore_any (c := c2) (d := 1) ((R2.out.2.call hbd).more (Nat.le_refl _)) (hrd.more (B' := (W2.alloc (.cells #[.int .u32 (D : Int)] 98)).heap.size) (by simp)) (Nat.le_refl _) R2.out.1 hm3 (by have := R2.out.1; omega) (by omega) (wd_w _) (wd_w _)
            rw [val_w, val_w] at HO0
            have HO := Lib.hid HO0
            have Hbd := Lib.hid (Hb2.out.trans (hbd.mono Hb2.out.size))
            clear HO0 hbd hrd hm3 hDl hVP HX
            go_wp2_with fail
            refine HO.out.mono ?_
            rintro e W4 ⟨A4, m4, c4, rfl, hm4, hc4, hc4', hr4, hb4⟩
            have Hb4 := Lib.hid (Hb.out.trans ((Hbd.out.trans (hb4.mono Hbd.out.size)).mono Hb.out.size))
            have HV4 := Lib.hid (show V * P + D = dv (ds.take x) by
              rw [HV.out.2, HP.out.1, HP.out.2.1, ← dv_app _ q _ (by rw [List.length_take, List.length_drop]; have := Hx.out; have := Hn.out; omega), ← List.take_add, Hx.out])
            have Hr4 := Lib.hid (And.intro hm4.out (And.intro hc4 (And.intro hc4' hr4)))
            clear hm4 hc4 hc4' hr4 hb4 HO Hbd
            go_wp2_with fail
            go_roundg (n - x)
            case measure => have := Hk.out; have := Hx.out; have := Hq1.out; omega
            case rel => exact ⟨A4, m4, c4, x, V * P + D, rfl, rfl, Lib.hid rfl, by omega, Lib.hid Hr4.out.1, Lib.hid ⟨Hr4.out.2.1, Hr4.out.2.2.1⟩, Lib.hid Hr4.out.2.2.2, Hb4, Lib.hid ⟨by have h := HP.out.2.2.1; rwa [← Hx.out] at h, HV4.out⟩⟩
          · obtain ⟨h91, h92⟩ := h9
            go_wp2_with fail
            refine HM.out.mono ?_
            rintro e W2 ⟨A2, m2, c2, rfl, hm2, hc2, hc2', hr2, hb2⟩
            have Hb2 := Lib.hid (Hbp.out.trans (hb2.mono Hbp.out.size))
            have R2 := Lib.hid (And.intro hm2.out hr2)
            have HX0 := rcut_any (c := 1) (HDr.out W2) (by simp : 1 = [D].length) (Nat.le_refl _) (by omega) (wd_cons.2 ⟨by omega, wd_nil⟩)
            have HX := Lib.hid HX0
            clear HX0 hm2 hc2 hc2' hr2 hb2 HM
            go_wp2_with fail
            refine HX.out.mono ?_
            rintro e W3 ⟨m3, rfl, hm3, rfl⟩
            have hbd := (Below.refl W2.heap.size W2).alloc (Nat.le_refl _) (.cells #[.int .u32 (D : Int)] 98)
            have hrd := reads_cut (HDr.out W2) (wd_cons.2 ⟨by omega, wd_nil⟩)
            rw [val_one_] at hm3 hrd
            have hDl : (wds D).length ≤ 1 := len_wds (by omega)
            have hVP : (wds (V * P)).length ≤ 40001 := len_mul HVl.out (len_wds (k := 1) (by omega))
            have HO0 := rmore_any (c := c2) (d := 1) ((R2.out.2.call hbd).more (Nat.le_refl _)) (hrd.more (B' := (W2.alloc (.cells #[.int .u32 (D : Int)] 98)).heap.size) (by simp)) (Nat.le_refl _) R2.out.1 hm3 (by have := R2.out.1; omega) (by omega) (wd_w _) (wd_w _)
            rw [val_w, val_w] at HO0
            have HO := Lib.hid HO0
            have Hbd := Lib.hid (Hb2.out.trans (hbd.mono Hb2.out.size))
            clear HO0 hbd hrd hm3 hDl hVP HX
            go_wp2_with fail
            refine HO.out.mono ?_
            rintro e W4 ⟨A4, m4, c4, rfl, hm4, hc4, hc4', hr4, hb4⟩
            have Hb4 := Lib.hid (Hb.out.trans ((Hbd.out.trans (hb4.mono Hbd.out.size)).mono Hb.out.size))
            have HV4 := Lib.hid (show V * P + D = dv (ds.take x) by
              rw [HV.out.2, HP.out.1, HP.out.2.1, ← dv_app _ q _ (by rw [List.length_take, List.length_drop]; have := Hx.out; have := Hn.out; omega), ← List.take_add, Hx.out])
            have Hr4 := Lib.hid (And.intro hm4.out (And.intro hc4 (And.intro hc4' hr4)))
            clear hm4 hc4 hc4' hr4 hb4 HO Hbd
            go_wp2_with fail
            go_roundg (n - x)
            case measure => have := Hk.out; have := Hx.out; have := Hq1.out; omega
            case rel => exact ⟨A4, m4, c4, x, V * P + D, rfl, rfl, Lib.hid rfl, by omega, Lib.hid Hr4.out.1, Lib.hid ⟨Hr4.out.2.1, Hr4.out.2.2.1⟩, Lib.hid Hr4.out.2.2.2, Hb4, Lib.hid ⟨by have h := HP.out.2.2.1; rwa [← Hx.out] at h, HV4.out⟩⟩
    · have hi : i0 = n := by omega
      subst hi
      have hiq : (i0 : Int) ≤ (i0 : Int) := Int.le_refl _
      have hall : AllDig ds := by
        have h := HV.out.1
        rwa [List.take_of_length_le (by have := Hn.out; omega)] at h
      have hval : V = dv ds := by
        have h := HV.out.2
        rwa [List.take_of_length_le (by have := Hn.out; omega)] at h
      have HM0 := made_any (neg := neg) Hr.out (Nat.le_refl _) Hm.out Hc.out.1 Hc.out.2 (by have := Hm.out; have := HVl.out; omega) (wd_w _)
      rw [val_w, hval] at HM0
      obtain ⟨zs, zb, ez⟩ : ∃ s b, enc (sgn neg (dv ds)) = .agg #[.bool s, .string b] := ⟨_, _, rfl⟩
      rw [ez] at HM0
      have HM := Lib.hid HM0
      have Hz := Lib.hid (And.intro ez hall)
      have F0 := Lib.hid (E0.out.call Hb.out)
      clear HM0 ez hall hval hin
      go_wp2_with fail
      refine HM.out.mono ?_
      rintro e W2 ⟨rfl, hb2⟩
      have F2 := Lib.hid (F0.out.call hb2)
      have n2 := Env.at_ F2.out 0 rfl
      have y0 := n2.cell 0
      have y1 := n2.cell 1
      have y2 := n2.frozen 0
      have y3 := n2.frozen 1
      simp at y0 y1
      clear n2 hb2 F0
      go_wp2_with fail
      refine bodyPost_ret (v := .tuple #[.agg #[.bool zs, .string zb], .int .i64 0]) (by simp [results, Try.results35, go_sem, y0, y1]) rfl ?_
      exact hQ.out _ _ ⟨fun _ => by rw [Hz.out.1], fun h => absurd Hz.out.2 h, (F2.out.1.setCell (Nat.le_refl w.heap.size) _).setCell (Nat.le_refl w.heap.size) _⟩
theorem good_iff {l : List UInt8} {F : Nat} (hF : rfirst l = F) (hlt : F < l.length) (hlead : l[F]? = some 48 → l.length ≤ 1) : Good l ↔ AllDig (l.drop F) := by
  unfold Good
  rw [hF]
  refine ⟨fun h => (good_dig h).1, fun h => ⟨fun j b h1 h2 => ?_, hlt, hlead⟩⟩
  refine h b (List.mem_iff_getElem?.2 ⟨j - F, ?_⟩)
  rw [List.getElem?_drop, show F + (j - F) = j by omega, h2]
set_option maxRecDepth 100000 in
set_option maxHeartbeats 1000000 in
theorem rread_neg_none {w : World} {s : ByteArray} (hs : s.size ≤ 40000) (h0 : 0 < s.size) (hc : s[0] = 45) (h1 : s.size = 1) : Calls Try.prog 35 #[.string s] w (RReadd w s.data.toList) := by
  have hb := drop_bytes s 1 (by omega)
  have hd : s[0].toNat = 45 := by rw [hc]; rfl
  have hh := head_of h0
  rw [hc] at hh
  have hl : s.data.toList.length = s.size := Array.length_toList
  have hr : rfirst s.data.toList = 1 := by unfold rfirst signOf; rw [hh]; rfl
  have hsg : signOf s.data.toList = true := by unfold signOf; rw [hh]; rfl
  have hi0 : (0 : Int) < (s.size : Int) := by omega
  obtain ⟨t, ht⟩ : ∃ t, s.extract 1 s.size = t := ⟨_, rfl⟩
  rw [ht] at hb
  obtain ⟨q1, q2⟩ := str_facts h0
  have hz : t.size = 0 := by omega
  obtain ⟨z1, z2⟩ := str_none hz
  have HB := Lib.hid (show ¬ Good s.data.toList by
    unfold Good
    rw [hr]
    intro h
    have := h.2.1
    omega)
  clear hb hc hh hr hsg hl
  have E0 := Lib.hid (Env.new (Env.nil w) 26 #[.bool false, .string ⟨#[]⟩])
  go_enter Try.func35, Try.ntmps35
  go_wp2_with fail
  refine bodyPost_ret (v := .tuple #[.agg #[.bool false, .string ⟨#[]⟩], .int .i64 120]) (by simp [results, Try.results35, go_sem]) rfl ?_
  exact ⟨fun h => absurd h HB.out, fun _ => rfl, E0.out.1⟩
set_option maxRecDepth 100000 in
set_option maxHeartbeats 1000000 in
theorem rread_neg_zero {w : World} {s : ByteArray} (hs : s.size ≤ 40000) (h0 : 0 < s.size) (hc : s[0] = 45) (h1 : 1 < s.size) (h2 : s[1] = 48) : Calls Try.prog 35 #[.string s] w (RReadd w s.data.toList) := by
  have hb := drop_bytes s 1 (by omega)
  have hd : s[0].toNat = 45 := by rw [hc]; rfl
  have hh := head_of h0
  rw [hc] at hh
  have hl : s.data.toList.length = s.size := Array.length_toList
  have hr : rfirst s.data.toList = 1 := by unfold rfirst signOf; rw [hh]; rfl
  have hsg : signOf s.data.toList = true := by unfold signOf; rw [hh]; rfl
  have hi0 : (0 : Int) < (s.size : Int) := by omega
  obtain ⟨t, ht⟩ : ∃ t, s.extract 1 s.size = t := ⟨_, rfl⟩
  rw [ht] at hb
  obtain ⟨q1, q2⟩ := str_facts h0
  have htp : 0 < t.size := by omega
  obtain ⟨z1, z2⟩ := str_facts htp
  have ht0 : t[0].toNat = 48 := by
    have e1 := head_of htp
    rw [hb.1, List.head?_drop, List.getElem?_eq_getElem (by omega)] at e1
    injection e1 with e1
    rw [← e1]
    have e2 : s.data.toList[1] = s[1] := rfl
    rw [e2, h2]; rfl
  have HB := Lib.hid (show ¬ Good s.data.toList by
    unfold Good
    rw [hr]
    intro h
    have e3 := h.2.2 (by rw [List.getElem?_eq_getElem (by omega)]; exact congrArg some h2)
    omega)
  clear hb hc hh hr hsg hl
  have E0 := Lib.hid (Env.new (Env.nil w) 26 #[.bool false, .string ⟨#[]⟩])
  go_enter Try.func35, Try.ntmps35
  go_wp2_with fail
  refine bodyPost_ret (v := .tuple #[.agg #[.bool false, .string ⟨#[]⟩], .int .i64 120]) (by simp [results, Try.results35, go_sem]) rfl ?_
  exact ⟨fun h => absurd h HB.out, fun _ => rfl, E0.out.1⟩
set_option maxRecDepth 100000 in
set_option maxHeartbeats 1000000 in
theorem rread_neg_go {w : World} {s : ByteArray} (hs : s.size ≤ 40000) (h0 : 0 < s.size) (hc : s[0] = 45) (h1 : 1 < s.size) (h2 : s[1] ≠ 48) : Calls Try.prog 35 #[.string s] w (RReadd w s.data.toList) := by
  have hb := drop_bytes s 1 (by omega)
  have hd : s[0].toNat = 45 := by rw [hc]; rfl
  have hh := head_of h0
  rw [hc] at hh
  have hl : s.data.toList.length = s.size := Array.length_toList
  have hr : rfirst s.data.toList = 1 := by unfold rfirst signOf; rw [hh]; rfl
  have hsg : signOf s.data.toList = true := by unfold signOf; rw [hh]; rfl
  have hi0 : (0 : Int) < (s.size : Int) := by omega
  obtain ⟨t, ht⟩ : ∃ t, s.extract 1 s.size = t := ⟨_, rfl⟩
  rw [ht] at hb
  obtain ⟨q1, q2⟩ := str_facts h0
  have htp : 0 < t.size := by omega
  obtain ⟨z1, z2⟩ := str_facts htp
  have htl : t.size ≤ 40000 := by omega
  have ht0 : t[0].toNat ≠ 48 := by
    have e1 := head_of htp
    rw [hb.1, List.head?_drop, List.getElem?_eq_getElem (by omega)] at e1
    injection e1 with e1
    rw [← e1]
    exact fun h => h2 (UInt8.toNat_inj.1 h)
  have ht1 : ((t[0].toNat : Int) == 48) = false := beq_eq_false_iff_ne.2 (by omega)
  have HB := Lib.hid (And.intro (show Good s.data.toList ↔ AllDig t.data.toList by
    rw [hb.1]
    exact good_iff hr (by omega) (fun h => by
      rw [List.getElem?_eq_getElem (by omega)] at h
      injection h with h
      exact absurd h h2)) (And.intro True.intro (And.intro (show rval s.data.toList = sgn true (dv t.data.toList) by unfold rval; rw [hsg, hr, hb.1]) True.intro)))
  clear hb hc hh hr hsg hl
  have E0 := Lib.hid (Env.new (Env.nil w) 26 #[.bool false, .string ⟨#[]⟩])
  go_enter Try.func35, Try.ntmps35
  go_upto_if 37 with fail
  go_cut [] (fun wx => Env w wx [(w.heap.size, 26, #[.bool false, .string ⟨#[]⟩])])
  case first =>
    go_wp2_with fail
    go_meet
    case rel => exact E0.out
  case rest =>
    go_step
    refine rread_core (neg := true) (s := s) (t := t) (by omega) (Lib.hid hcut) ?_
    rintro e w' ⟨h1, h2, hb⟩
    exact ⟨fun h => by rw [HB.out.2.2.1]; exact h1 (HB.out.1.1 h), fun h => h2 (fun h3 => h (HB.out.1.2 h3)), hb⟩
set_option maxRecDepth 100000 in
set_option maxHeartbeats 1000000 in
theorem rread_bare_zero {w : World} {s : ByteArray} (hs : s.size ≤ 40000) (h0 : 0 < s.size) (hc : s[0] ≠ 45) (h1 : 1 < s.size) (h2 : s[0] = 48) : Calls Try.prog 35 #[.string s] w (RReadd w s.data.toList) := by
  have hh := head_of h0
  have hl : s.data.toList.length = s.size := Array.length_toList
  have hsg : signOf s.data.toList = false := by
    unfold signOf
    rw [hh]
    exact beq_eq_false_iff_ne.2 (fun h => hc (by injection h))
  have hr : rfirst s.data.toList = 0 := by unfold rfirst; rw [hsg]; rfl
  have hi0 : (0 : Int) < (s.size : Int) := by omega
  obtain ⟨q1, q2⟩ := str_facts h0
  have hd0 : s[0].toNat ≠ 45 := fun h => hc (UInt8.toNat_inj.1 h)
  have hd : s[0].toNat = 48 := by rw [h2]; rfl
  have hi1 : (1 : Int) < (s.size : Int) := by omega
  have HB := Lib.hid (show ¬ Good s.data.toList by
    unfold Good
    rw [hr]
    intro h
    have e3 := h.2.2 (by rw [← List.head?_eq_getElem?, hh, h2])
    omega)
  clear hc hh hr hsg hl hd0
  have E0 := Lib.hid (Env.new (Env.nil w) 26 #[.bool false, .string ⟨#[]⟩])
  go_enter Try.func35, Try.ntmps35
  go_wp2_with fail
  refine bodyPost_ret (v := .tuple #[.agg #[.bool false, .string ⟨#[]⟩], .int .i64 120]) (by simp [results, Try.results35, go_sem]) rfl ?_
  exact ⟨fun h => absurd h HB.out, fun _ => rfl, E0.out.1⟩
set_option maxRecDepth 100000 in
set_option maxHeartbeats 1000000 in
theorem rread_bare_go {w : World} {s : ByteArray} (hs : s.size ≤ 40000) (h0 : 0 < s.size) (hc : s[0] ≠ 45) (h2 : s[0] ≠ 48) : Calls Try.prog 35 #[.string s] w (RReadd w s.data.toList) := by
  have hh := head_of h0
  have hl : s.data.toList.length = s.size := Array.length_toList
  have hsg : signOf s.data.toList = false := by
    unfold signOf
    rw [hh]
    exact beq_eq_false_iff_ne.2 (fun h => hc (by injection h))
  have hr : rfirst s.data.toList = 0 := by unfold rfirst; rw [hsg]; rfl
  have hi0 : (0 : Int) < (s.size : Int) := by omega
  obtain ⟨q1, q2⟩ := str_facts h0
  have hd0 : s[0].toNat ≠ 45 := fun h => hc (UInt8.toNat_inj.1 h)
  have HB := Lib.hid (And.intro (show Good s.data.toList ↔ AllDig s.data.toList by
    have := good_iff (l := s.data.toList) hr (by omega) (fun h => by
      rw [← List.head?_eq_getElem?, hh] at h
      injection h with h
      first | omega | exact absurd h h2)
    rwa [List.drop_zero] at this) (And.intro True.intro (And.intro (show rval s.data.toList = sgn false (dv s.data.toList) by unfold rval; rw [hsg, hr, List.drop_zero]) True.intro)))
  have hd1 : ((s[0].toNat : Int) == 45) = false := beq_eq_false_iff_ne.2 (by omega)
  have hd2 : s[0].toNat ≠ 48 := fun h => h2 (UInt8.toNat_inj.1 h)
  have hd3 : ((s[0].toNat : Int) == 48) = false := beq_eq_false_iff_ne.2 (by omega)
  clear hc hh hr hsg hl
  have E0 := Lib.hid (Env.new (Env.nil w) 26 #[.bool false, .string ⟨#[]⟩])
  go_enter Try.func35, Try.ntmps35
  go_upto_if 37 with fail
  go_cut [] (fun wx => Env w wx [(w.heap.size, 26, #[.bool false, .string ⟨#[]⟩])])
  case first =>
    go_wp2_with fail
    go_meet
    case rel => exact E0.out
  case rest =>
    go_step
    refine rread_core (neg := false) (s := s) (t := s) (by omega) (Lib.hid hcut) ?_
    rintro e w' ⟨h1, h2, hb⟩
    exact ⟨fun h => by rw [HB.out.2.2.1]; exact h1 (HB.out.1.1 h), fun h => h2 (fun h3 => h (HB.out.1.2 h3)), hb⟩
set_option maxRecDepth 100000 in
set_option maxHeartbeats 1000000 in
theorem rread_bare_one {w : World} {s : ByteArray} (hs : s.size ≤ 40000) (h0 : 0 < s.size) (hc : s[0] ≠ 45) (h1 : s.size = 1) (h2 : s[0] = 48) : Calls Try.prog 35 #[.string s] w (RReadd w s.data.toList) := by
  have hh := head_of h0
  have hl : s.data.toList.length = s.size := Array.length_toList
  have hsg : signOf s.data.toList = false := by
    unfold signOf
    rw [hh]
    exact beq_eq_false_iff_ne.2 (fun h => hc (by injection h))
  have hr : rfirst s.data.toList = 0 := by unfold rfirst; rw [hsg]; rfl
  have hi0 : (0 : Int) < (s.size : Int) := by omega
  obtain ⟨q1, q2⟩ := str_facts h0
  have hd0 : s[0].toNat ≠ 45 := fun h => hc (UInt8.toNat_inj.1 h)
  have HB := Lib.hid (And.intro (show Good s.data.toList ↔ AllDig s.data.toList by
    have := good_iff (l := s.data.toList) hr (by omega) (fun h => by
      rw [← List.head?_eq_getElem?, hh] at h
      injection h with h
      first | omega | exact absurd h h2)
    rwa [List.drop_zero] at this) (And.intro True.intro (And.intro (show rval s.data.toList = sgn false (dv s.data.toList) by unfold rval; rw [hsg, hr, List.drop_zero]) True.intro)))
  have hd : s[0].toNat = 48 := by rw [h2]; rfl
  have hi1 : (s.size : Int) ≤ 1 := by omega
  clear hc hh hr hsg hl hd0
  have E0 := Lib.hid (Env.new (Env.nil w) 26 #[.bool false, .string ⟨#[]⟩])
  go_enter Try.func35, Try.ntmps35
  go_upto_if 37 with fail
  go_cut [] (fun wx => Env w wx [(w.heap.size, 26, #[.bool false, .string ⟨#[]⟩])])
  case first =>
    go_wp2_with fail
    go_meet
    case rel => exact E0.out
  case rest =>
    go_step
    refine rread_core (neg := false) (s := s) (t := s) (by omega) (Lib.hid hcut) ?_
    rintro e w' ⟨h1, h2, hb⟩
    exact ⟨fun h => by rw [HB.out.2.2.1]; exact h1 (HB.out.1.1 h), fun h => h2 (fun h3 => h (HB.out.1.2 h3)), hb⟩
theorem rread_none {w : World} : Calls Try.prog 35 #[.string ⟨#[]⟩] w (RReadd w []) := by
  have E0 := Lib.hid (Env.new (Env.nil w) 26 #[.bool false, .string ⟨#[]⟩])
  have Hno := Lib.hid (show ¬ Good [] from fun h => absurd h.2.1 (by simp))
  go_enter Try.func35, Try.ntmps35
  go_wp2_with fail
  refine bodyPost_ret (v := .tuple #[.agg #[.bool false, .string ⟨#[]⟩], .int .i64 120]) (by simp [results, Try.results35, go_sem]) rfl ?_
  exact ⟨fun h => absurd h Hno.out, fun _ => rfl, E0.out.1⟩
theorem rread_any {w : World} {s : ByteArray} (hs : s.size ≤ 40000) : Calls Try.prog 35 #[.string s] w (RReadd w s.data.toList) := by
  rcases Nat.eq_zero_or_pos s.size with h0 | h0
  · have hl : s.data.toList.length = s.size := Array.length_toList
    obtain rfl := str_empty (List.eq_nil_of_length_eq_zero (show s.data.toList.length = 0 by omega))
    exact rread_none
  · by_cases hc : s[0] = 45
    · by_cases h1 : s.size = 1
      · exact rread_neg_none hs h0 hc h1
      · by_cases h2 : s[1]'(by omega) = 48
        · exact rread_neg_zero hs h0 hc (by omega) h2
        · exact rread_neg_go hs h0 hc (by omega) h2
    · by_cases h2 : s[0] = 48
      · by_cases h1 : s.size = 1
        · exact rread_bare_one hs h0 hc h1 h2
        · exact rread_bare_zero hs h0 hc (by omega) h2
      · exact rread_bare_go hs h0 hc h2
end Go.Proofs.Ytpnginnjbdedbaa

/- The reference's Text (printed by gen_rtext.py). -/
namespace Go.Proofs.Ytpnginnjbdedbaa
open Go.RowKit
open Wh
set_option linter.unusedSimpArgs false
set_option linter.unusedVariables false

set_option maxRecDepth 100000 in
set_option maxHeartbeats 8000000 in
theorem rtext_any {w : World} {na : Bool} {sa : ByteArray} (hm : MayL na sa.data.toList) :
    Calls Try.prog 36 #[.agg #[.bool na, .string sa]] w (Texted w (txt (num (na, sa)))) := by
  have hsl : sa.data.toList.length = sa.size := Array.length_toList
  rcases Nat.eq_zero_or_pos sa.size with h0 | h0
  · obtain ⟨rfl, rfl⟩ := may_none hm h0
    have Ht := Lib.hid (show txt (num (false, ⟨#[]⟩)) = [48] from rfl)
    have hb := new_below w (.cells #[.bool false, .string ⟨#[]⟩] 26)
    clear h0 hsl hm
    go_enter Try.func36, Try.ntmps36
    go_wp2
    go_ret
    rw [Ht.out]
    exact ⟨rfl, hb⟩
  · obtain ⟨q1, q2⟩ := str_facts h0
    have hf := Fmd.of_may hm
    have HA := Lib.hid (fun W : World => words_any (w := W) (by have := hf.2; omega) hf.1)
    obtain ⟨m, hme⟩ : ∃ m, m = bval sa.data.toList := ⟨_, rfl⟩
    have hmp : 0 < m := by rw [hme]; exact bval_pos hm.2.2 (by intro h; rw [h] at hsl; simp at hsl; omega)
    have hml : (wds m).length ≤ 100000000 := by rw [hme]; exact Nat.le_trans hf.len (by omega)
    have Ht := Lib.hid (show txt (num (na, sa)) = (if na = true then [45] else []) ++ dec m by
      have e1 : (num (na, sa)).natAbs = m := by rw [hme]; exact sgn_abs _ _
      have e2 : decide (num (na, sa) < 0) = na := by
        show decide (sgn na (bval sa.data.toList) < 0) = na
        rw [sgn_neg, ← hme, decide_eq_true hmp, Bool.and_true]
      unfold txt
      rw [if_neg (by omega), e1]
      cases na
      · rw [if_neg (of_decide_eq_false e2)]; rfl
      · rw [if_pos (of_decide_eq_true e2)]; rfl)
    rw [← hme] at HA
    generalize num (na, sa) = x at *
    have E0 := Lib.hid (Env.new (Env.nil w) 26 #[.bool na, .string sa])
    have Hmp := Lib.hid (And.intro hmp hml)
    clear hme hmp hml hf hm hsl h0
    go_enter Try.func36, Try.ntmps36
    go_wp2_with fail
    refine (HA.out _).mono ?_
    rintro e V1 ⟨Ax, nx, cx, rfl, hn1, hxc, hxcl, rx, hb1⟩
    have E1 := Lib.hid (Env.call E0.out hb1)
    have x0 : V1.cell? ⟨w.heap.size, 0, none⟩ = some (.bool na) := (Env.at_ E1.out 0 rfl).cell 0
    have hgl : w.heap.size < V1.heap.size := (Env.at_ E1.out 0 rfl).lt
    have hnx := hn1.out
    have Hr := Lib.hid (And.intro rx (And.intro hnx (And.intro Hmp.out.2 (And.intro True.intro Hmp.out.1))))
    clear hn1 rx hnx hb1 E0 HA
    have Hfin : Hid (∀ w', Below V1.heap.size V1 w' → Below w.heap.size w w') := Lib.hid (fun w' hb => E1.out.1.trans (hb.mono E1.out.1.size))

    go_wp2_with fail
    go_loopg [3, 4] m (fun k bq lq wr => ∃ (A' A : Option Addr) (n' c' n c L : Nat), bq = .slice A' n' c' ∧ lq = .slice A n c ∧ OwnB wr V1.heap.size (.slice A' n' c') (dl m L) ∧ SlW wr wr.heap.size A n c k ∧ Below V1.heap.size V1 wr ∧ Hid (k = m / 10 ^ L ∧ (L = 0 ∨ 0 < m / 10 ^ (L - 1))))
    case atStart => exact ⟨none, Ax, 0, 0, nx, cx, 0, rfl, rfl, OwnB.nil _ _, ⟨Hr.out.2.1, hxc, hxcl, Hr.out.1⟩, Below.refl _ _, by rw [Nat.pow_zero, Nat.div_one], .inl rfl⟩
    case round =>
      obtain ⟨A', A, n', c', n, c, L, rfl, rfl, hown, ⟨hnl, hnc, hcl, rl⟩, hbel, hL⟩ := hrel
      by_cases hk0 : 0 < gk
      · have hnp : 0 < n := by
          have := hnl.out
          rw [wds_pos hk0] at this
          simp at this
          omega
        have hnpi : (0 : Int) < (n : Int) := by omega
        have hkl : (wds gk).length ≤ 100000000 := Nat.le_trans (len_mono (by rw [hL.out.1]; exact Nat.div_le_self _ _)) Hr.out.2.2.1
        have hS := rsmall_any (d := 1000000000) (c := c) rl (Nat.le_refl _) hnl.out (by have := hnl.out; omega) (wd_w gk) (by decide) (by decide)
        rw [val_w] at hS
        obtain ⟨r0, hr0⟩ : ∃ r, r = gk % 1000000000 := ⟨_, rfl⟩
        obtain ⟨v, hv⟩ : ∃ v, v = gk / 1000000000 := ⟨_, rfl⟩
        rw [← hr0, ← hv] at hS
        have hr0l : r0 ≤ 999999999 := by omega
        have HS := Lib.hid hS
        have Hv := Lib.hid (And.intro hk0 (And.intro hr0 hv))
        clear hS hr0 hv hkl hk0 rl
        go_wp2_with fail
        refine HS.out.mono ?_
        rintro e w5 ⟨A5, m5, c5, rfl, hm5, hc5, hcn5, hr5, hb5, hnew5⟩
        have haw5 : Away w5 (.slice A' n' c') A5 (wds v) := ⟨hr5, fun _ ad e hh => by have h6 := hnew5 ad e; have h7 := (World.ownsRow.lt hown _ hh).2; omega⟩
        have Hm5 := Lib.hid hm5
        have hown5 := hown.kept (hb5)
        have hbel5 := hbel.trans (hb5.mono hbel.size)
        clear hm5
        obtain ⟨w6, rfl⟩ : ∃ w6, w6 = w5 := ⟨_, rfl⟩
        go_wp2_with fail
        have hst : v * 10 ^ 9 + r0 = m / 10 ^ L := by rw [← hL.out.1, Hv.out.2.1, Hv.out.2.2]; omega
        have Hst := Lib.hid hst
        clear hst
        go_loopg [3, 6, 7] 9 (fun k bq rq kq wi => ∃ (A' : Option Addr) (n' c' L r j : Nat), bq = .slice A' n' c' ∧ rq = .int .u64 (r : Int) ∧ kq = .int .i64 (j : Int) ∧ j + k = 9 ∧ r ≤ 999999999 ∧ OwnB wi V1.heap.size (.slice A' n' c') (dl m L) ∧ Away wi (.slice A' n' c') A5 (wds v) ∧ Below V1.heap.size V1 wi ∧
          Hid (v * 10 ^ k + r = m / 10 ^ L ∧ r < 10 ^ k ∧ (L = 0 ∨ 0 < m / 10 ^ (L - 1))))
        case atStart => exact ⟨A', n', c', L, r0, 0, rfl, rfl, rfl, rfl, hr0l, hown5, haw5, hbel5, Hst.out, by omega, hL.out.2⟩
        case round =>
          obtain ⟨A2, n2, c2, L2, r, j, rfl, rfl, rfl, hjk, hrl, hown2, hr2, hbel2, hL2⟩ := hrel
          have Hjk := Lib.hid hjk
          clear hown hown5 hr5 haw5 hnew5
          have hexit : r = 0 → (gk = 0 ∨ v = 0) → v = m / 10 ^ L2 := fun h1 h2 => by
            have h3 := hL2.out.1
            rw [h1, Nat.add_zero] at h3
            rcases h2 with h2 | h2
            · rw [h2, Nat.pow_zero, Nat.mul_one] at h3; exact h3
            · rw [h2, Nat.zero_mul] at h3; omega
          have Hexit := Lib.hid hexit
          clear hexit
          by_cases hj9 : j < 9
          · have hji : (j : Int) < 9 := by omega
            obtain ⟨k1, rfl⟩ : ∃ k1, gk = k1 + 1 := ⟨gk - 1, by omega⟩
            clear hjk
            by_cases hgo : r = 0 ∧ v = 0
            · obtain ⟨h1, h2⟩ := hgo
              have hm0 : m5 = 0 := by have := Hm5.out; rw [h2, wds_zero] at this; exact this
              subst hm0
              subst h1
              have Hve := Lib.hid (And.intro h2 (Hexit.out rfl (.inr h2)))
              clear h2
              go_wp2_with fail
              go_roundg v
              case measure => have h5 := Hv.out; omega
              case rel => exact ⟨A2, A5, n2, c2, _, c5, L2, rfl, rfl, hown2, ⟨Hm5.out, hc5, by have := hcn5; omega, hr2.1⟩, hbel2, Hve.out.2, hL2.out.2.2⟩
            · have hR : 0 < v * 10 ^ (k1 + 1) + r := by
                rcases Nat.eq_zero_or_pos r with h | h
                · have hv : 0 < v := by omega
                  have : 0 < v * 10 ^ (k1 + 1) := Nat.mul_pos hv (Nat.pow_pos (by decide))
                  omega
                · omega
              rw [hL2.out.1] at hR
              have hLb := dl_bound hR
              have hdd := digit_down hL2.out.1
              have hsn := dl_snoc L2 m
              have hdig : (dig (m / 10 ^ L2)).toNat = 48 + r % 10 := by rw [dig_nat, hdd.2]
              have hLl : (dl m L2).length ≤ 1000000000 := by rw [dl_len]; have := Hr.out.2.2.1; omega
              have hr10 : r / 10 < 10 ^ k1 := by
                have h5 := hL2.out.2.1
                rw [Nat.pow_succ] at h5
                exact (Nat.div_lt_iff_lt_mul (by decide)).2 h5
              have Hd := Lib.hid (And.intro hR (And.intro hdd (And.intro hsn (And.intro hr10 hdig))))
              have hgle : V1.heap.size ≤ wr.heap.size := hbel2.size
              have hpsh : (48 : Int) + (r : Int) % 10 = ((dig (m / 10 ^ L2)).toNat : Int) := by rw [Hd.out.2.2.2.2]; omega
              have Hpsh := Lib.hid hpsh
              clear hR hdd hsn hr10 hpsh hLb hdig
              by_cases hv0 : 0 < v
              · have hm50 : 0 < m5 := by
                  have := Hm5.out
                  rw [wds_pos hv0] at this
                  simp at this
                  omega
                have hm5i : (0 : Int) < (m5 : Int) := by omega
                clear hgo hv0
                go_wp2_with (at_builtin; refine wpB_push rfl (.tmp 39) (.tmp 44) rfl V1.heap.size _ (dl m L2) hown2 rfl (y := dig (m / 10 ^ L2)) Hpsh.out rfl (by omega) hgle ?_; intro A3 n3 c3 w3 ho3 hkeep haw3; have Hk3 := Lib.hid (And.intro ho3 (And.intro (hkeep V1 hbel2) (haw3 _ _ hr2))); clear ho3 hkeep haw3)
                go_roundg k1
                case measure => omega
                case rel =>
                  refine ⟨A3, n3, c3, L2 + 1, r / 10, j + 1, rfl, by rw [Int.natCast_ediv]; rfl, rfl, by have := Hjk.out; omega, by omega, by rw [dl_snoc]; exact Hk3.out.1, Hk3.out.2.2, Hk3.out.2.1, Hd.out.2.1.1, Hd.out.2.2.2.1, .inr ?_⟩
                  rw [Nat.add_sub_cancel]
                  exact Hd.out.1
              · have hr0 : 0 < r := by omega
                have hm0 : m5 = 0 := by have := Hm5.out; rw [show v = 0 by omega, wds_zero] at this; exact this
                have hri : (0 : Int) < (r : Int) := by omega
                subst hm0
                clear hgo
                go_wp2_with (at_builtin; refine wpB_push rfl (.tmp 39) (.tmp 44) rfl V1.heap.size _ (dl m L2) hown2 rfl (y := dig (m / 10 ^ L2)) Hpsh.out rfl (by omega) hgle ?_; intro A3 n3 c3 w3 ho3 hkeep haw3; have Hk3 := Lib.hid (And.intro ho3 (And.intro (hkeep V1 hbel2) (haw3 _ _ hr2))); clear ho3 hkeep haw3)
                go_roundg k1
                case measure => omega
                case rel =>
                  refine ⟨A3, n3, c3, L2 + 1, r / 10, j + 1, rfl, by rw [Int.natCast_ediv]; rfl, rfl, by have := Hjk.out; omega, by omega, by rw [dl_snoc]; exact Hk3.out.1, Hk3.out.2.2, Hk3.out.2.1, Hd.out.2.1.1, Hd.out.2.2.2.1, .inr ?_⟩
                  rw [Nat.add_sub_cancel]
                  exact Hd.out.1
          · have hj : j = 9 := by omega
            have hk0 : gk = 0 := by omega
            subst hk0
            have hr0 : r = 0 := by have := hL2.out.2.1; rw [Nat.pow_zero] at this; omega
            have Hve := Lib.hid (Hexit.out hr0 (.inl rfl))
            subst hj
            subst hr0
            go_wp2_with fail
            go_roundg v
            case measure => have h5 := Hv.out; omega
            case rel => exact ⟨A2, A5, n2, c2, _, c5, L2, rfl, rfl, hown2, ⟨Hm5.out, hc5, by have := hcn5; omega, hr2.1⟩, hbel2, Hve.out, hL2.out.2.2⟩
      · have hgk : gk = 0 := by omega
        subst hgk
        have hn0 : n = 0 := by have := hnl.out; rw [wds_zero] at this; exact this
        subst hn0
        have hLp : 0 < L := by
          rcases Nat.eq_zero_or_pos L with h | h
          · subst h
            have h5 := hL.out.1
            rw [Nat.pow_zero, Nat.div_one] at h5
            have := Hr.out.2.2.2.2
            omega
          · exact h
        have hdec := dl_dec L m hL.out.1.symm hL.out.2
        have u0 := (hbel.cell (p := ⟨w.heap.size, 0, none⟩) hgl).trans x0
        have hLl : (dl m L).length ≤ 1000000001 := by
          rw [dl_len]
          rcases hL.out.2 with h | h
          · omega
          · have h5 := dl_bound h
            have := Hr.out.2.2.1
            omega
        have hDp : 0 < (dl m L).length := by rw [dl_len]; exact hLp
        have Hdec := Lib.hid (And.intro hdec (And.intro hDp hLl))
        have hgle : V1.heap.size ≤ wr.heap.size := hbel.size
        clear hdec hLp hk0 hDp hLl x0
        cases na
        · obtain ⟨D, hD⟩ : ∃ D, D = dl m L := ⟨_, rfl⟩
          rw [← hD] at hown Hdec
          have hres := Lib.hid (show txt x = D.reverse by rw [Ht.out, Hdec.out.1]; rfl)
          obtain ⟨g, S, rfl, hN, hgB, hmid, hNc⟩ := own_blk hown Hdec.out.2.1
          have hNl : n' ≤ 1000000002 := by have := Hdec.out.2.2; omega
          have hNp : 0 < n' := by have := Hdec.out.2.1; omega
          have HN := Lib.hid hN
          have hw5 : ∃ w5, w5 = wr := ⟨_, rfl⟩
          obtain ⟨w5, hw5⟩ := hw5
          subst hw5
          clear hD hown hN
          go_wp2_with fail
          go_loopg [8, 9, 10] n' (fun k iq kq xq wi => ∃ (i : Nat) (E : List UInt8), iq = .int .i64 (i : Int) ∧ kq = .int .i64 ((n' : Int) - 1 - (i : Int)) ∧ k + i = n' ∧ 2 * i ≤ n' ∧ BMid wi g E S ∧ Below V1.heap.size V1 wi ∧ Hid (Turned D E i))
          case atStart => exact ⟨0, D, rfl, by congr 1; omega, by omega, by omega, hmid, hbel, turned_start D⟩
          case round =>
            obtain ⟨i, E, rfl, rfl, hki, hi2, hmi, hbi, hT⟩ := hrel
            have Hki := Lib.hid hki
            have hEl := hT.out.1
            have hEn : E.length = n' := by rw [hEl, HN.out]
            have HEn := Lib.hid hEn
            clear hki hEl hEn
            by_cases hgo : 2 * i + 1 < n'
            · obtain ⟨j, hj⟩ : ∃ j, n' = i + 1 + j := ⟨n' - 1 - i, by omega⟩
              have hij : i < j := by omega
              have hiE : i < E.length := by rw [HEn.out]; omega
              have hjE : j < E.length := by rw [HEn.out]; omega
              have c1 := hmi.cell hiE
              have c2 := hmi.cell hjE
              have f1 := Blk.frozen hmi i
              have f2 := Blk.frozen hmi j
              have ex := List.getElem?_eq_getElem hiE
              have ey := List.getElem?_eq_getElem hjE
              generalize E[i] = p at *
              generalize E[j] = q at *
              have hp := UInt8.toNat_lt p
              have hq := UInt8.toNat_lt q
              have Hx := Lib.hid (And.intro ex (And.intro ey hj))
              rw [show (n' : Int) - 1 - (i : Int) = (j : Int) by omega]
              have hii : (i : Int) < (j : Int) := by omega
              have hin : (i : Int) < (n' : Int) := by omega
              have hjn : (j : Int) < (n' : Int) := by omega
              clear ex ey hj hi2 hgo
              go_wp2_with fail
              go_roundg (n' - (i + 1))
              case measure => have := Hki.out; omega
              case rel =>
                have h5 := Hx.out.2.2
                exact ⟨i + 1, (E.set i q).set j p, rfl, by congr 1; omega, by omega, by omega, (hmi.set_ hiE q).set_ (by rw [List.length_set]; exact hjE) p, ((hbi.setCell (by show V1.heap.size ≤ g; omega) _).setCell (by show V1.heap.size ≤ g; omega) _), turned_step hT.out (by rw [← HN.out]; omega) hij p q Hx.out.1 Hx.out.2.1⟩
            · have hrev := turned_end hT.out (by rw [← HN.out]; omega)
              have hstr := run_str (c := c') HEn.out.symm hmi.reads
              have Hrev := Lib.hid hrev
              have hii : (n' : Int) - 1 - (i : Int) ≤ (i : Int) := by omega
              clear hrev hgo
              go_wp2_with fail
              go_ret
              exact ⟨by rw [hres.out, ← Hrev.out]; rfl, Hfin.out _ hbi⟩
        · have hD45 := Lib.hid (show txt x = (dl m L ++ [45]).reverse by rw [Ht.out, List.reverse_append, Hdec.out.1]; rfl)
          have hw45 : (45 : Int) = (((45 : UInt8).toNat : Nat) : Int) := rfl
          have Hw45 := Lib.hid hw45
          have Hle := Lib.hid (show (dl m L).length ≤ 140737488355327 by have := Hdec.out.2.2; omega)
          clear hw45
          go_wp2_with (at_builtin; refine wpB_push rfl (.tmp 50) (.tmp 51) rfl V1.heap.size _ (dl m L) hown rfl (y := 45) Hw45.out rfl Hle.out hgle ?_; intro A3 n3 c3 w3 ho3 hkeep _; have hNl := (push_len ho3 Hdec.out.2.2).1; have hNp := (push_len ho3 Hdec.out.2.2).2; have Hk3 := Lib.hid (And.intro ho3 (hkeep V1 hbel)); clear ho3 hkeep)
          obtain ⟨D, hD⟩ : ∃ D, D = dl m L ++ [45] := ⟨_, rfl⟩
          have hown3 := Hk3.out.1
          rw [← hD] at hown3 hD45
          have hres := Lib.hid (show txt x = D.reverse from hD45.out)
          have hDl : D.length = (dl m L).length + 1 := by rw [hD, List.length_append]; rfl
          obtain ⟨g, S, rfl, hN, hgB, hmid, hNc⟩ := own_blk hown3 (by rw [hDl]; omega)
          have HN := Lib.hid hN
          have hbel3 := Hk3.out.2
          clear hD hown3 hN hDl
          go_loopg [8, 9, 10] n3 (fun k iq kq xq wi => ∃ (i : Nat) (E : List UInt8), iq = .int .i64 (i : Int) ∧ kq = .int .i64 ((n3 : Int) - 1 - (i : Int)) ∧ k + i = n3 ∧ 2 * i ≤ n3 ∧ BMid wi g E S ∧ Below V1.heap.size V1 wi ∧ Hid (Turned D E i))
          case atStart => exact ⟨0, D, rfl, by congr 1; omega, by omega, by omega, hmid, hbel3, turned_start D⟩
          case round =>
            obtain ⟨i, E, rfl, rfl, hki, hi2, hmi, hbi, hT⟩ := hrel
            have Hki := Lib.hid hki
            have hEl := hT.out.1
            have hEn : E.length = n3 := by rw [hEl, HN.out]
            have HEn := Lib.hid hEn
            clear hki hEl hEn
            by_cases hgo : 2 * i + 1 < n3
            · obtain ⟨j, hj⟩ : ∃ j, n3 = i + 1 + j := ⟨n3 - 1 - i, by omega⟩
              have hij : i < j := by omega
              have hiE : i < E.length := by rw [HEn.out]; omega
              have hjE : j < E.length := by rw [HEn.out]; omega
              have c1 := hmi.cell hiE
              have c2 := hmi.cell hjE
              have f1 := Blk.frozen hmi i
              have f2 := Blk.frozen hmi j
              have ex := List.getElem?_eq_getElem hiE
              have ey := List.getElem?_eq_getElem hjE
              generalize E[i] = p at *
              generalize E[j] = q at *
              have hp := UInt8.toNat_lt p
              have hq := UInt8.toNat_lt q
              have Hx := Lib.hid (And.intro ex (And.intro ey hj))
              rw [show (n3 : Int) - 1 - (i : Int) = (j : Int) by omega]
              have hii : (i : Int) < (j : Int) := by omega
              have hin : (i : Int) < (n3 : Int) := by omega
              have hjn : (j : Int) < (n3 : Int) := by omega
              clear ex ey hj hi2 hgo
              go_wp2_with fail
              go_roundg (n3 - (i + 1))
              case measure => have := Hki.out; omega
              case rel =>
                have h5 := Hx.out.2.2
                exact ⟨i + 1, (E.set i q).set j p, rfl, by congr 1; omega, by omega, by omega, (hmi.set_ hiE q).set_ (by rw [List.length_set]; exact hjE) p, ((hbi.setCell (by show V1.heap.size ≤ g; omega) _).setCell (by show V1.heap.size ≤ g; omega) _), turned_step hT.out (by rw [← HN.out]; omega) hij p q Hx.out.1 Hx.out.2.1⟩
            · have hrev := turned_end hT.out (by rw [← HN.out]; omega)
              have hstr := run_str (c := c3) HEn.out.symm hmi.reads
              have Hrev := Lib.hid hrev
              have hii : (n3 : Int) - 1 - (i : Int) ≤ (i : Int) := by omega
              clear hrev hgo
              go_wp2_with fail
              go_ret
              exact ⟨by rw [hres.out, ← Hrev.out]; rfl, Hfin.out _ hbi⟩
end Go.Proofs.Ytpnginnjbdedbaa

/- law.WholeTexts (printed by gen_texts.py). -/
namespace Go.Proofs.Ytpnginnjbdedbaa
open Go.RowKit
open Wh
set_option linter.unusedSimpArgs false
set_option linter.unusedVariables false

theorem text_told {w : World} {na : Bool} {sa : ByteArray} (hm : MayL na sa.data.toList) : Calls Try.prog 33 #[.agg #[.bool na, .string sa]] w (Calm w (.tuple #[.string ⟨(txt (num (na, sa))).toArray⟩, .int .i64 0])) := text_any.mono fun e w' h => ⟨h.1 hm, h.2.2⟩
theorem text_bad {w : World} {na : Bool} {sa : ByteArray} (hm : ¬ MayL na sa.data.toList) : Calls Try.prog 33 #[.agg #[.bool na, .string sa]] w (Calm w (.tuple #[.string ⟨#[]⟩, .int .i64 2])) := text_any.mono fun e w' h => ⟨h.2.1 hm, h.2.2⟩
theorem rtext_told {w : World} {na : Bool} {sa : ByteArray} (hm : MayL na sa.data.toList) : Calls Try.prog 36 #[.agg #[.bool na, .string sa]] w (Calm w (.string ⟨(txt (num (na, sa))).toArray⟩)) := rtext_any hm
theorem read_long {w : World} {s : ByteArray} (h : 40000 < s.size) : Calls Try.prog 34 #[.string s] w (Calm w (.tuple #[.agg #[.bool false, .string ⟨#[]⟩], .int .i64 3])) := wread_any.mono fun e w' h' => ⟨h'.1 (by rw [show s.data.toList.length = s.size from Array.length_toList]; exact h), h'.2.2.2.2⟩
theorem read_none {w : World} {s : ByteArray} (h : s.size ≤ 40000) (hg : ¬ Good s.data.toList) : Calls Try.prog 34 #[.string s] w (Calm w (.tuple #[.agg #[.bool false, .string ⟨#[]⟩], .int .i64 120])) := wread_any.mono fun e w' h' => ⟨h'.2.1 (by rw [show s.data.toList.length = s.size from Array.length_toList]; exact h) hg, h'.2.2.2.2⟩
theorem rval_fits {l : List UInt8} (h : Good l) (hl : l.length ≤ 1200) : fits (rval l) := by
  unfold fits rval
  rw [sgn_abs]
  have h1 := dv_lt _ _ rfl (good_dig h).1
  have h2 : (10 : Nat) ^ (l.drop (rfirst l)).length ≤ 16 ^ (l.drop (rfirst l)).length := Nat.pow_le_pow_left (by decide) _
  rw [show (16 : Nat) = 2 ^ 4 by decide, ← Nat.pow_mul] at h2
  refine Nat.le_trans (bl_lt.2 (Nat.lt_of_lt_of_le h1 h2)) ?_
  rw [List.length_drop]
  omega
theorem read_good {w : World} {s : ByteArray} {zs : Bool} {zb : ByteArray} (h : s.size ≤ 1200) (hg : Good s.data.toList) (he : enc (rval s.data.toList) = .agg #[.bool zs, .string zb]) : Calls Try.prog 34 #[.string s] w (Calm w (.tuple #[.agg #[.bool zs, .string zb], .int .i64 0])) := wread_any.mono fun e w' h' => by
  have hl : s.data.toList.length = s.size := Array.length_toList
  exact ⟨by rw [h'.2.2.1 (by omega) hg (rval_fits hg (by omega)), he], h'.2.2.2.2⟩
theorem rread_good {w : World} {s : ByteArray} {zs : Bool} {zb : ByteArray} (h : s.size ≤ 1200) (hg : Good s.data.toList) (he : enc (rval s.data.toList) = .agg #[.bool zs, .string zb]) : Calls Try.prog 35 #[.string s] w (Calm w (.tuple #[.agg #[.bool zs, .string zb], .int .i64 0])) := (rread_any (by omega)).mono fun e w' h' => ⟨by rw [h'.1 hg, he], h'.2.2⟩
theorem rread_no {w : World} {s : ByteArray} (h : s.size ≤ 1200) (hg : ¬ Good s.data.toList) : Calls Try.prog 35 #[.string s] w (Calm w (.tuple #[.agg #[.bool false, .string ⟨#[]⟩], .int .i64 120])) := (rread_any (by omega)).mono fun e w' h' => ⟨h'.2.1 hg, h'.2.2⟩
set_option maxRecDepth 100000 in
set_option maxHeartbeats 8000000 in
theorem texts_long {w : World} {na : Bool} {sa s : ByteArray} (hl : isLong (na, sa) = true) :
    Calls Try.prog 6 #[.agg #[.bool na, .string sa], .string s] w (fun e w' => e = .returned (.bool true) ∧ Below w.heap.size w w') := by
  have HL := Lib.hid (fun W : World => long_one (w := W) (na := na) (sa := sa))
  rw [hl] at HL
  clear hl
  have HW := Lib.hid (fun W : World => works_any (w := W))
  have HN := Lib.hid (fun (W : World) (n : Int) => num_any (w := W) (n := n))
  have E0 := Lib.hid (Env.nil w)
  go_enter Try.func6, Try.ntmps6
  go_upto_region 0 with fail
  go_upto_region 1 with fail
  have E1 : Hid (Env w (w.alloc (.cells #[.bool na, .string sa] 26)) [(w.heap.size, 26, #[.bool na, .string sa])]) := Lib.hid (by have h := (Env.new E0.out 26 #[.bool na, .string sa]); (try simp only [World.size_alloc] at h); exact h)
  generalize (w.alloc (.cells #[.bool na, .string sa] 26)) = W1 at E1 ⊢
  have q0_0 : W1.cell? ⟨w.heap.size, 0, none⟩ = some (.bool na) := (Env.at_ E1.out 0 rfl).cell 0
  have q0_1 : W1.cell? ⟨w.heap.size, 1, none⟩ = some (.string sa) := (Env.at_ E1.out 0 rfl).cell 1
  go_wp2_with fail
  refine (HL.out _).mono ?_
  rintro e w2 ⟨rfl, h2⟩
  have E3 := Lib.hid ((Env.other E1.out (.cells #[.bool na, .string sa] 26)).call h2)
  clear q0_0 q0_1 h2
  go_upto_region 2 with fail
  go_wp2_with fail
  refine (HW.out _).mono ?_
  rintro e w4 ⟨rfl, h4⟩
  have E5 := Lib.hid (E3.out.call h4)
  clear h4
  go_wp2_with fail
  go_ret
  exact ⟨rfl, E5.out.1⟩
set_option maxRecDepth 100000 in
set_option maxHeartbeats 8000000 in
theorem texts_mid {w : World} {na : Bool} {sa s : ByteArray} (hl : isLong (na, sa) = false) (h1 : 1200 < s.size) (h2 : s.size ≤ 40000) :
    Calls Try.prog 6 #[.agg #[.bool na, .string sa], .string s] w (fun e w' => e = .returned (.bool true) ∧ Below w.heap.size w w') := by
  have HL := Lib.hid (fun W : World => long_one (w := W) (na := na) (sa := sa))
  rw [hl] at HL
  clear hl
  have i1 : (1200 : Int) < (s.size : Int) := by omega
  have i2 : (s.size : Int) ≤ 40000 := by omega
  have HW := Lib.hid (fun W : World => works_any (w := W))
  have HN := Lib.hid (fun (W : World) (n : Int) => num_any (w := W) (n := n))
  have E0 := Lib.hid (Env.nil w)
  go_enter Try.func6, Try.ntmps6
  go_upto_region 0 with fail
  go_upto_region 1 with fail
  have E1 : Hid (Env w (w.alloc (.cells #[.bool na, .string sa] 26)) [(w.heap.size, 26, #[.bool na, .string sa])]) := Lib.hid (by have h := (Env.new E0.out 26 #[.bool na, .string sa]); (try simp only [World.size_alloc] at h); exact h)
  generalize (w.alloc (.cells #[.bool na, .string sa] 26)) = W1 at E1 ⊢
  have q0_0 : W1.cell? ⟨w.heap.size, 0, none⟩ = some (.bool na) := (Env.at_ E1.out 0 rfl).cell 0
  have q0_1 : W1.cell? ⟨w.heap.size, 1, none⟩ = some (.string sa) := (Env.at_ E1.out 0 rfl).cell 1
  go_wp2_with fail
  refine (HL.out _).mono ?_
  rintro e w2 ⟨rfl, h2⟩
  have E3 := Lib.hid ((Env.other E1.out (.cells #[.bool na, .string sa] 26)).call h2)
  clear q0_0 q0_1 h2
  go_upto_region 2 with fail
  go_wp2_with fail
  refine (HW.out _).mono ?_
  rintro e w4 ⟨rfl, h4⟩
  have E5 := Lib.hid (E3.out.call h4)
  clear h4
  go_wp2_with fail
  go_ret
  exact ⟨rfl, E5.out.1⟩
set_option maxRecDepth 100000 in
set_option maxHeartbeats 8000000 in
theorem texts_far_bad {w : World} {na : Bool} {sa s : ByteArray} (hl : isLong (na, sa) = false) (hb : isBad (na, sa) = true) (hm : ¬ MayL na sa.data.toList) (h1 : 40000 < s.size) :
    Calls Try.prog 6 #[.agg #[.bool na, .string sa], .string s] w (fun e w' => e = .returned (.bool true) ∧ Below w.heap.size w w') := by
  have HL := Lib.hid (fun W : World => long_one (w := W) (na := na) (sa := sa))
  rw [hl] at HL
  clear hl
  have HB := Lib.hid (fun W : World => bad_one (w := W) (na := na) (sa := sa))
  rw [hb] at HB
  clear hb
  have i1 : (1200 : Int) < (s.size : Int) := by omega
  have i2 : (40000 : Int) < (s.size : Int) := by omega
  have H34 := Lib.hid (fun W : World => read_long (w := W) h1)
  have H33 := Lib.hid (fun W : World => text_bad (w := W) hm)
  clear hm h1
  have HW := Lib.hid (fun W : World => works_any (w := W))
  have HN := Lib.hid (fun (W : World) (n : Int) => num_any (w := W) (n := n))
  have E0 := Lib.hid (Env.nil w)
  go_enter Try.func6, Try.ntmps6
  go_upto_region 0 with fail
  go_upto_region 1 with fail
  have E1 : Hid (Env w (w.alloc (.cells #[.bool na, .string sa] 26)) [(w.heap.size, 26, #[.bool na, .string sa])]) := Lib.hid (by have h := (Env.new E0.out 26 #[.bool na, .string sa]); (try simp only [World.size_alloc] at h); exact h)
  generalize (w.alloc (.cells #[.bool na, .string sa] 26)) = W1 at E1 ⊢
  have q0_0 : W1.cell? ⟨w.heap.size, 0, none⟩ = some (.bool na) := (Env.at_ E1.out 0 rfl).cell 0
  have q0_1 : W1.cell? ⟨w.heap.size, 1, none⟩ = some (.string sa) := (Env.at_ E1.out 0 rfl).cell 1
  go_wp2_with fail
  refine (HL.out _).mono ?_
  rintro e w2 ⟨rfl, h2⟩
  have E3 := Lib.hid ((Env.other E1.out (.cells #[.bool na, .string sa] 26)).call h2)
  clear q0_0 q0_1 h2
  go_upto_region 3 with fail
  have q0_0 : w2.cell? ⟨w.heap.size, 0, none⟩ = some (.bool na) := (Env.at_ E3.out 0 rfl).cell 0
  have q0_1 : w2.cell? ⟨w.heap.size, 1, none⟩ = some (.string sa) := (Env.at_ E3.out 0 rfl).cell 1
  go_wp2_with fail
  refine (H33.out _).mono ?_
  rintro e w4 ⟨rfl, h4⟩
  have E5 := Lib.hid (E3.out.call h4)
  clear q0_0 q0_1 h4
  go_upto_region 4 with fail
  go_wp2_with fail
  refine (H34.out _).mono ?_
  rintro e w6 ⟨rfl, h6⟩
  have E7 := Lib.hid (E5.out.call h6)
  clear h6
  go_upto_region 6 with fail
  have E8 : Hid (Env w (w6.alloc (.cells #[.bool false, .string ⟨#[]⟩] 26)) [(w6.heap.size, 26, #[.bool false, .string ⟨#[]⟩]), (w.heap.size, 26, #[.bool na, .string sa])]) := Lib.hid (by have h := (Env.new E7.out 26 #[.bool false, .string ⟨#[]⟩]); (try simp only [World.size_alloc] at h); exact h)
  generalize (w6.alloc (.cells #[.bool false, .string ⟨#[]⟩] 26)) = W8 at E8 ⊢
  have q0_0 : W8.cell? ⟨w6.heap.size, 0, none⟩ = some (.bool false) := (Env.at_ E8.out 0 rfl).cell 0
  have q0_1 : W8.cell? ⟨w6.heap.size, 1, none⟩ = some (.string ⟨#[]⟩) := (Env.at_ E8.out 0 rfl).cell 1
  go_wp2_with fail
  refine (HN.out _ 3).mono ?_
  rintro e w9 ⟨rfl, h9⟩
  subst h9
  have E10 := Lib.hid (E8.out)
  clear q0_0 q0_1
  go_upto_region 11 with fail
  have q0_0 : W8.cell? ⟨w.heap.size, 0, none⟩ = some (.bool na) := (Env.at_ E10.out 1 rfl).cell 0
  have q0_1 : W8.cell? ⟨w.heap.size, 1, none⟩ = some (.string sa) := (Env.at_ E10.out 1 rfl).cell 1
  go_wp2_with fail
  refine (HB.out _).mono ?_
  rintro e w11 ⟨rfl, h11⟩
  have E12 := Lib.hid ((Env.other E10.out (.cells #[.bool na, .string sa] 26)).call h11)
  clear q0_0 q0_1 h11
  go_upto_region 12 with fail
  go_wp2_with fail
  refine (HN.out _ 2).mono ?_
  rintro e w13 ⟨rfl, h13⟩
  subst h13
  have E14 := Lib.hid (E12.out)
  go_wp2_with fail
  refine (HW.out _).mono ?_
  rintro e w15 ⟨rfl, h15⟩
  have E16 := Lib.hid (E14.out.call h15)
  clear h15
  go_wp2_with fail
  go_ret
  exact ⟨rfl, E16.out.1⟩
set_option maxRecDepth 100000 in
set_option maxHeartbeats 8000000 in
theorem texts_far_may {w : World} {na : Bool} {sa s : ByteArray} (hl : isLong (na, sa) = false) (hb : isBad (na, sa) = false) (hm : MayL na sa.data.toList) (h1 : 40000 < s.size) :
    Calls Try.prog 6 #[.agg #[.bool na, .string sa], .string s] w (fun e w' => e = .returned (.bool true) ∧ Below w.heap.size w w') := by
  have HL := Lib.hid (fun W : World => long_one (w := W) (na := na) (sa := sa))
  rw [hl] at HL
  clear hl
  have HB := Lib.hid (fun W : World => bad_one (w := W) (na := na) (sa := sa))
  rw [hb] at HB
  clear hb
  have i1 : (1200 : Int) < (s.size : Int) := by omega
  have i2 : (40000 : Int) < (s.size : Int) := by omega
  have H34 := Lib.hid (fun W : World => read_long (w := W) h1)
  have h33 := fun W : World => text_told (w := W) hm
  have h36 := fun W : World => rtext_told (w := W) hm
  obtain ⟨tx, htx⟩ : ∃ tx : ByteArray, tx = ⟨(txt (num (na, sa))).toArray⟩ := ⟨_, rfl⟩
  rw [← htx] at h33 h36
  have H33 := Lib.hid h33
  have H36 := Lib.hid h36
  clear h33 h36 htx
  clear hm h1
  have HW := Lib.hid (fun W : World => works_any (w := W))
  have HN := Lib.hid (fun (W : World) (n : Int) => num_any (w := W) (n := n))
  have E0 := Lib.hid (Env.nil w)
  go_enter Try.func6, Try.ntmps6
  go_upto_region 0 with fail
  go_upto_region 1 with fail
  have E1 : Hid (Env w (w.alloc (.cells #[.bool na, .string sa] 26)) [(w.heap.size, 26, #[.bool na, .string sa])]) := Lib.hid (by have h := (Env.new E0.out 26 #[.bool na, .string sa]); (try simp only [World.size_alloc] at h); exact h)
  generalize (w.alloc (.cells #[.bool na, .string sa] 26)) = W1 at E1 ⊢
  have q0_0 : W1.cell? ⟨w.heap.size, 0, none⟩ = some (.bool na) := (Env.at_ E1.out 0 rfl).cell 0
  have q0_1 : W1.cell? ⟨w.heap.size, 1, none⟩ = some (.string sa) := (Env.at_ E1.out 0 rfl).cell 1
  go_wp2_with fail
  refine (HL.out _).mono ?_
  rintro e w2 ⟨rfl, h2⟩
  have E3 := Lib.hid ((Env.other E1.out (.cells #[.bool na, .string sa] 26)).call h2)
  clear q0_0 q0_1 h2
  go_upto_region 3 with fail
  have q0_0 : w2.cell? ⟨w.heap.size, 0, none⟩ = some (.bool na) := (Env.at_ E3.out 0 rfl).cell 0
  have q0_1 : w2.cell? ⟨w.heap.size, 1, none⟩ = some (.string sa) := (Env.at_ E3.out 0 rfl).cell 1
  go_wp2_with fail
  refine (H33.out _).mono ?_
  rintro e w4 ⟨rfl, h4⟩
  have E5 := Lib.hid (E3.out.call h4)
  clear q0_0 q0_1 h4
  go_upto_region 4 with fail
  go_wp2_with fail
  refine (H34.out _).mono ?_
  rintro e w6 ⟨rfl, h6⟩
  have E7 := Lib.hid (E5.out.call h6)
  clear h6
  go_upto_region 6 with fail
  have E8 : Hid (Env w (w6.alloc (.cells #[.bool false, .string ⟨#[]⟩] 26)) [(w6.heap.size, 26, #[.bool false, .string ⟨#[]⟩]), (w.heap.size, 26, #[.bool na, .string sa])]) := Lib.hid (by have h := (Env.new E7.out 26 #[.bool false, .string ⟨#[]⟩]); (try simp only [World.size_alloc] at h); exact h)
  generalize (w6.alloc (.cells #[.bool false, .string ⟨#[]⟩] 26)) = W8 at E8 ⊢
  have q0_0 : W8.cell? ⟨w6.heap.size, 0, none⟩ = some (.bool false) := (Env.at_ E8.out 0 rfl).cell 0
  have q0_1 : W8.cell? ⟨w6.heap.size, 1, none⟩ = some (.string ⟨#[]⟩) := (Env.at_ E8.out 0 rfl).cell 1
  go_wp2_with fail
  refine (HN.out _ 3).mono ?_
  rintro e w9 ⟨rfl, h9⟩
  subst h9
  have E10 := Lib.hid (E8.out)
  clear q0_0 q0_1
  go_upto_region 11 with fail
  have q0_0 : W8.cell? ⟨w.heap.size, 0, none⟩ = some (.bool na) := (Env.at_ E10.out 1 rfl).cell 0
  have q0_1 : W8.cell? ⟨w.heap.size, 1, none⟩ = some (.string sa) := (Env.at_ E10.out 1 rfl).cell 1
  go_wp2_with fail
  refine (HB.out _).mono ?_
  rintro e w11 ⟨rfl, h11⟩
  have E12 := Lib.hid ((Env.other E10.out (.cells #[.bool na, .string sa] 26)).call h11)
  clear q0_0 q0_1 h11
  go_upto_region 13 with fail
  have q1_0 : w11.cell? ⟨w.heap.size, 0, none⟩ = some (.bool na) := (Env.at_ E12.out 1 rfl).cell 0
  have q1_1 : w11.cell? ⟨w.heap.size, 1, none⟩ = some (.string sa) := (Env.at_ E12.out 1 rfl).cell 1
  go_wp2_with fail
  refine (H36.out _).mono ?_
  rintro e w13 ⟨rfl, h13⟩
  have E14 := Lib.hid (E12.out.call h13)
  clear q1_0 q1_1 h13
  go_wp2_with fail
  refine (HN.out _ 0).mono ?_
  rintro e w15 ⟨rfl, h15⟩
  subst h15
  have E16 := Lib.hid (E14.out)
  go_wp2_with fail
  refine (HW.out _).mono ?_
  rintro e w17 ⟨rfl, h17⟩
  have E18 := Lib.hid (E16.out.call h17)
  clear h17
  go_wp2_with fail
  go_ret
  exact ⟨rfl, E18.out.1⟩
set_option maxRecDepth 100000 in
set_option maxHeartbeats 8000000 in
theorem texts_good_bad {w : World} {na : Bool} {sa s : ByteArray} (hl : isLong (na, sa) = false) (hb : isBad (na, sa) = true) (hm : ¬ MayL na sa.data.toList) (h1 : s.size ≤ 1200) (hg : Good s.data.toList) :
    Calls Try.prog 6 #[.agg #[.bool na, .string sa], .string s] w (fun e w' => e = .returned (.bool true) ∧ Below w.heap.size w w') := by
  have HL := Lib.hid (fun W : World => long_one (w := W) (na := na) (sa := sa))
  rw [hl] at HL
  clear hl
  have HB := Lib.hid (fun W : World => bad_one (w := W) (na := na) (sa := sa))
  rw [hb] at HB
  clear hb
  have i1 : (s.size : Int) ≤ 1200 := by omega
  have i2 : (s.size : Int) ≤ 40000 := by omega
  obtain ⟨zs, zb, ez⟩ : ∃ zs zb, enc (rval s.data.toList) = .agg #[.bool zs, .string zb] := ⟨_, _, rfl⟩
  have H34 := Lib.hid (fun W : World => read_good (w := W) h1 hg ez)
  have H35 := Lib.hid (fun W : World => rread_good (w := W) h1 hg ez)
  clear ez
  have H33 := Lib.hid (fun W : World => text_bad (w := W) hm)
  clear hm h1 hg
  have HW := Lib.hid (fun W : World => works_any (w := W))
  have HN := Lib.hid (fun (W : World) (n : Int) => num_any (w := W) (n := n))
  have E0 := Lib.hid (Env.nil w)
  go_enter Try.func6, Try.ntmps6
  go_upto_region 0 with fail
  go_upto_region 1 with fail
  have E1 : Hid (Env w (w.alloc (.cells #[.bool na, .string sa] 26)) [(w.heap.size, 26, #[.bool na, .string sa])]) := Lib.hid (by have h := (Env.new E0.out 26 #[.bool na, .string sa]); (try simp only [World.size_alloc] at h); exact h)
  generalize (w.alloc (.cells #[.bool na, .string sa] 26)) = W1 at E1 ⊢
  have q0_0 : W1.cell? ⟨w.heap.size, 0, none⟩ = some (.bool na) := (Env.at_ E1.out 0 rfl).cell 0
  have q0_1 : W1.cell? ⟨w.heap.size, 1, none⟩ = some (.string sa) := (Env.at_ E1.out 0 rfl).cell 1
  go_wp2_with fail
  refine (HL.out _).mono ?_
  rintro e w2 ⟨rfl, h2⟩
  have E3 := Lib.hid ((Env.other E1.out (.cells #[.bool na, .string sa] 26)).call h2)
  clear q0_0 q0_1 h2
  go_upto_region 3 with fail
  have q0_0 : w2.cell? ⟨w.heap.size, 0, none⟩ = some (.bool na) := (Env.at_ E3.out 0 rfl).cell 0
  have q0_1 : w2.cell? ⟨w.heap.size, 1, none⟩ = some (.string sa) := (Env.at_ E3.out 0 rfl).cell 1
  go_wp2_with fail
  refine (H33.out _).mono ?_
  rintro e w4 ⟨rfl, h4⟩
  have E5 := Lib.hid (E3.out.call h4)
  clear q0_0 q0_1 h4
  go_upto_region 4 with fail
  go_wp2_with fail
  refine (H34.out _).mono ?_
  rintro e w6 ⟨rfl, h6⟩
  have E7 := Lib.hid (E5.out.call h6)
  clear h6
  go_upto_region 8 with fail
  have E8 : Hid (Env w (w6.alloc (.cells #[.bool zs, .string zb] 26)) [(w6.heap.size, 26, #[.bool zs, .string zb]), (w.heap.size, 26, #[.bool na, .string sa])]) := Lib.hid (by have h := (Env.new E7.out 26 #[.bool zs, .string zb]); (try simp only [World.size_alloc] at h); exact h)
  generalize (w6.alloc (.cells #[.bool zs, .string zb] 26)) = W8 at E8 ⊢
  go_wp2_with fail
  refine (H35.out _).mono ?_
  rintro e w9 ⟨rfl, h9⟩
  have E10 := Lib.hid (E8.out.call h9)
  clear h9
  go_upto_region 9 with fail
  have E11 : Hid (Env w (w9.alloc (.cells #[.bool zs, .string zb] 26)) [(w9.heap.size, 26, #[.bool zs, .string zb]), (w6.heap.size, 26, #[.bool zs, .string zb]), (w.heap.size, 26, #[.bool na, .string sa])]) := Lib.hid (by have h := (Env.new E10.out 26 #[.bool zs, .string zb]); (try simp only [World.size_alloc] at h); exact h)
  generalize (w9.alloc (.cells #[.bool zs, .string zb] 26)) = W11 at E11 ⊢
  have q0_0 : W11.cell? ⟨w6.heap.size, 0, none⟩ = some (.bool zs) := (Env.at_ E11.out 1 rfl).cell 0
  have q0_1 : W11.cell? ⟨w6.heap.size, 1, none⟩ = some (.string zb) := (Env.at_ E11.out 1 rfl).cell 1
  have q1_0 : W11.cell? ⟨w9.heap.size, 0, none⟩ = some (.bool zs) := (Env.at_ E11.out 0 rfl).cell 0
  have q1_1 : W11.cell? ⟨w9.heap.size, 1, none⟩ = some (.string zb) := (Env.at_ E11.out 0 rfl).cell 1
  go_wp2_with fail
  refine (HN.out _ 0).mono ?_
  rintro e w12 ⟨rfl, h12⟩
  subst h12
  have E13 := Lib.hid (E11.out)
  clear q0_0 q0_1 q1_0 q1_1
  go_upto_region 11 with fail
  have q0_0 : W11.cell? ⟨w.heap.size, 0, none⟩ = some (.bool na) := (Env.at_ E13.out 2 rfl).cell 0
  have q0_1 : W11.cell? ⟨w.heap.size, 1, none⟩ = some (.string sa) := (Env.at_ E13.out 2 rfl).cell 1
  go_wp2_with fail
  refine (HB.out _).mono ?_
  rintro e w14 ⟨rfl, h14⟩
  have E15 := Lib.hid ((Env.other E13.out (.cells #[.bool na, .string sa] 26)).call h14)
  clear q0_0 q0_1 h14
  go_upto_region 12 with fail
  go_wp2_with fail
  refine (HN.out _ 2).mono ?_
  rintro e w16 ⟨rfl, h16⟩
  subst h16
  have E17 := Lib.hid (E15.out)
  go_wp2_with fail
  refine (HW.out _).mono ?_
  rintro e w18 ⟨rfl, h18⟩
  have E19 := Lib.hid (E17.out.call h18)
  clear h18
  go_wp2_with fail
  go_ret
  exact ⟨rfl, E19.out.1⟩
set_option maxRecDepth 100000 in
set_option maxHeartbeats 8000000 in
theorem texts_good_may {w : World} {na : Bool} {sa s : ByteArray} (hl : isLong (na, sa) = false) (hb : isBad (na, sa) = false) (hm : MayL na sa.data.toList) (h1 : s.size ≤ 1200) (hg : Good s.data.toList) :
    Calls Try.prog 6 #[.agg #[.bool na, .string sa], .string s] w (fun e w' => e = .returned (.bool true) ∧ Below w.heap.size w w') := by
  have HL := Lib.hid (fun W : World => long_one (w := W) (na := na) (sa := sa))
  rw [hl] at HL
  clear hl
  have HB := Lib.hid (fun W : World => bad_one (w := W) (na := na) (sa := sa))
  rw [hb] at HB
  clear hb
  have i1 : (s.size : Int) ≤ 1200 := by omega
  have i2 : (s.size : Int) ≤ 40000 := by omega
  obtain ⟨zs, zb, ez⟩ : ∃ zs zb, enc (rval s.data.toList) = .agg #[.bool zs, .string zb] := ⟨_, _, rfl⟩
  have H34 := Lib.hid (fun W : World => read_good (w := W) h1 hg ez)
  have H35 := Lib.hid (fun W : World => rread_good (w := W) h1 hg ez)
  clear ez
  have h33 := fun W : World => text_told (w := W) hm
  have h36 := fun W : World => rtext_told (w := W) hm
  obtain ⟨tx, htx⟩ : ∃ tx : ByteArray, tx = ⟨(txt (num (na, sa))).toArray⟩ := ⟨_, rfl⟩
  rw [← htx] at h33 h36
  have H33 := Lib.hid h33
  have H36 := Lib.hid h36
  clear h33 h36 htx
  clear hm h1 hg
  have HW := Lib.hid (fun W : World => works_any (w := W))
  have HN := Lib.hid (fun (W : World) (n : Int) => num_any (w := W) (n := n))
  have E0 := Lib.hid (Env.nil w)
  go_enter Try.func6, Try.ntmps6
  go_upto_region 0 with fail
  go_upto_region 1 with fail
  have E1 : Hid (Env w (w.alloc (.cells #[.bool na, .string sa] 26)) [(w.heap.size, 26, #[.bool na, .string sa])]) := Lib.hid (by have h := (Env.new E0.out 26 #[.bool na, .string sa]); (try simp only [World.size_alloc] at h); exact h)
  generalize (w.alloc (.cells #[.bool na, .string sa] 26)) = W1 at E1 ⊢
  have q0_0 : W1.cell? ⟨w.heap.size, 0, none⟩ = some (.bool na) := (Env.at_ E1.out 0 rfl).cell 0
  have q0_1 : W1.cell? ⟨w.heap.size, 1, none⟩ = some (.string sa) := (Env.at_ E1.out 0 rfl).cell 1
  go_wp2_with fail
  refine (HL.out _).mono ?_
  rintro e w2 ⟨rfl, h2⟩
  have E3 := Lib.hid ((Env.other E1.out (.cells #[.bool na, .string sa] 26)).call h2)
  clear q0_0 q0_1 h2
  go_upto_region 3 with fail
  have q0_0 : w2.cell? ⟨w.heap.size, 0, none⟩ = some (.bool na) := (Env.at_ E3.out 0 rfl).cell 0
  have q0_1 : w2.cell? ⟨w.heap.size, 1, none⟩ = some (.string sa) := (Env.at_ E3.out 0 rfl).cell 1
  go_wp2_with fail
  refine (H33.out _).mono ?_
  rintro e w4 ⟨rfl, h4⟩
  have E5 := Lib.hid (E3.out.call h4)
  clear q0_0 q0_1 h4
  go_upto_region 4 with fail
  go_wp2_with fail
  refine (H34.out _).mono ?_
  rintro e w6 ⟨rfl, h6⟩
  have E7 := Lib.hid (E5.out.call h6)
  clear h6
  go_upto_region 8 with fail
  have E8 : Hid (Env w (w6.alloc (.cells #[.bool zs, .string zb] 26)) [(w6.heap.size, 26, #[.bool zs, .string zb]), (w.heap.size, 26, #[.bool na, .string sa])]) := Lib.hid (by have h := (Env.new E7.out 26 #[.bool zs, .string zb]); (try simp only [World.size_alloc] at h); exact h)
  generalize (w6.alloc (.cells #[.bool zs, .string zb] 26)) = W8 at E8 ⊢
  go_wp2_with fail
  refine (H35.out _).mono ?_
  rintro e w9 ⟨rfl, h9⟩
  have E10 := Lib.hid (E8.out.call h9)
  clear h9
  go_upto_region 9 with fail
  have E11 : Hid (Env w (w9.alloc (.cells #[.bool zs, .string zb] 26)) [(w9.heap.size, 26, #[.bool zs, .string zb]), (w6.heap.size, 26, #[.bool zs, .string zb]), (w.heap.size, 26, #[.bool na, .string sa])]) := Lib.hid (by have h := (Env.new E10.out 26 #[.bool zs, .string zb]); (try simp only [World.size_alloc] at h); exact h)
  generalize (w9.alloc (.cells #[.bool zs, .string zb] 26)) = W11 at E11 ⊢
  have q0_0 : W11.cell? ⟨w6.heap.size, 0, none⟩ = some (.bool zs) := (Env.at_ E11.out 1 rfl).cell 0
  have q0_1 : W11.cell? ⟨w6.heap.size, 1, none⟩ = some (.string zb) := (Env.at_ E11.out 1 rfl).cell 1
  have q1_0 : W11.cell? ⟨w9.heap.size, 0, none⟩ = some (.bool zs) := (Env.at_ E11.out 0 rfl).cell 0
  have q1_1 : W11.cell? ⟨w9.heap.size, 1, none⟩ = some (.string zb) := (Env.at_ E11.out 0 rfl).cell 1
  go_wp2_with fail
  refine (HN.out _ 0).mono ?_
  rintro e w12 ⟨rfl, h12⟩
  subst h12
  have E13 := Lib.hid (E11.out)
  clear q0_0 q0_1 q1_0 q1_1
  go_upto_region 11 with fail
  have q0_0 : W11.cell? ⟨w.heap.size, 0, none⟩ = some (.bool na) := (Env.at_ E13.out 2 rfl).cell 0
  have q0_1 : W11.cell? ⟨w.heap.size, 1, none⟩ = some (.string sa) := (Env.at_ E13.out 2 rfl).cell 1
  go_wp2_with fail
  refine (HB.out _).mono ?_
  rintro e w14 ⟨rfl, h14⟩
  have E15 := Lib.hid ((Env.other E13.out (.cells #[.bool na, .string sa] 26)).call h14)
  clear q0_0 q0_1 h14
  go_upto_region 13 with fail
  have q1_0 : w14.cell? ⟨w.heap.size, 0, none⟩ = some (.bool na) := (Env.at_ E15.out 2 rfl).cell 0
  have q1_1 : w14.cell? ⟨w.heap.size, 1, none⟩ = some (.string sa) := (Env.at_ E15.out 2 rfl).cell 1
  go_wp2_with fail
  refine (H36.out _).mono ?_
  rintro e w16 ⟨rfl, h16⟩
  have E17 := Lib.hid (E15.out.call h16)
  clear q1_0 q1_1 h16
  go_wp2_with fail
  refine (HN.out _ 0).mono ?_
  rintro e w18 ⟨rfl, h18⟩
  subst h18
  have E19 := Lib.hid (E17.out)
  go_wp2_with fail
  refine (HW.out _).mono ?_
  rintro e w20 ⟨rfl, h20⟩
  have E21 := Lib.hid (E19.out.call h20)
  clear h20
  go_wp2_with fail
  go_ret
  exact ⟨rfl, E21.out.1⟩
set_option maxRecDepth 100000 in
set_option maxHeartbeats 8000000 in
theorem texts_none_bad {w : World} {na : Bool} {sa s : ByteArray} (hl : isLong (na, sa) = false) (hb : isBad (na, sa) = true) (hm : ¬ MayL na sa.data.toList) (h1 : s.size ≤ 1200) (hg : ¬ Good s.data.toList) :
    Calls Try.prog 6 #[.agg #[.bool na, .string sa], .string s] w (fun e w' => e = .returned (.bool true) ∧ Below w.heap.size w w') := by
  have HL := Lib.hid (fun W : World => long_one (w := W) (na := na) (sa := sa))
  rw [hl] at HL
  clear hl
  have HB := Lib.hid (fun W : World => bad_one (w := W) (na := na) (sa := sa))
  rw [hb] at HB
  clear hb
  have i1 : (s.size : Int) ≤ 1200 := by omega
  have i2 : (s.size : Int) ≤ 40000 := by omega
  have H34 := Lib.hid (fun W : World => read_none (w := W) (by omega) hg)
  have H35 := Lib.hid (fun W : World => rread_no (w := W) h1 hg)
  have H33 := Lib.hid (fun W : World => text_bad (w := W) hm)
  clear hm h1 hg
  have HW := Lib.hid (fun W : World => works_any (w := W))
  have HN := Lib.hid (fun (W : World) (n : Int) => num_any (w := W) (n := n))
  have E0 := Lib.hid (Env.nil w)
  go_enter Try.func6, Try.ntmps6
  go_upto_region 0 with fail
  go_upto_region 1 with fail
  have E1 : Hid (Env w (w.alloc (.cells #[.bool na, .string sa] 26)) [(w.heap.size, 26, #[.bool na, .string sa])]) := Lib.hid (by have h := (Env.new E0.out 26 #[.bool na, .string sa]); (try simp only [World.size_alloc] at h); exact h)
  generalize (w.alloc (.cells #[.bool na, .string sa] 26)) = W1 at E1 ⊢
  have q0_0 : W1.cell? ⟨w.heap.size, 0, none⟩ = some (.bool na) := (Env.at_ E1.out 0 rfl).cell 0
  have q0_1 : W1.cell? ⟨w.heap.size, 1, none⟩ = some (.string sa) := (Env.at_ E1.out 0 rfl).cell 1
  go_wp2_with fail
  refine (HL.out _).mono ?_
  rintro e w2 ⟨rfl, h2⟩
  have E3 := Lib.hid ((Env.other E1.out (.cells #[.bool na, .string sa] 26)).call h2)
  clear q0_0 q0_1 h2
  go_upto_region 3 with fail
  have q0_0 : w2.cell? ⟨w.heap.size, 0, none⟩ = some (.bool na) := (Env.at_ E3.out 0 rfl).cell 0
  have q0_1 : w2.cell? ⟨w.heap.size, 1, none⟩ = some (.string sa) := (Env.at_ E3.out 0 rfl).cell 1
  go_wp2_with fail
  refine (H33.out _).mono ?_
  rintro e w4 ⟨rfl, h4⟩
  have E5 := Lib.hid (E3.out.call h4)
  clear q0_0 q0_1 h4
  go_upto_region 4 with fail
  go_wp2_with fail
  refine (H34.out _).mono ?_
  rintro e w6 ⟨rfl, h6⟩
  have E7 := Lib.hid (E5.out.call h6)
  clear h6
  go_upto_region 8 with fail
  have E8 : Hid (Env w (w6.alloc (.cells #[.bool false, .string ⟨#[]⟩] 26)) [(w6.heap.size, 26, #[.bool false, .string ⟨#[]⟩]), (w.heap.size, 26, #[.bool na, .string sa])]) := Lib.hid (by have h := (Env.new E7.out 26 #[.bool false, .string ⟨#[]⟩]); (try simp only [World.size_alloc] at h); exact h)
  generalize (w6.alloc (.cells #[.bool false, .string ⟨#[]⟩] 26)) = W8 at E8 ⊢
  go_wp2_with fail
  refine (H35.out _).mono ?_
  rintro e w9 ⟨rfl, h9⟩
  have E10 := Lib.hid (E8.out.call h9)
  clear h9
  go_upto_region 9 with fail
  have E11 : Hid (Env w (w9.alloc (.cells #[.bool false, .string ⟨#[]⟩] 26)) [(w9.heap.size, 26, #[.bool false, .string ⟨#[]⟩]), (w6.heap.size, 26, #[.bool false, .string ⟨#[]⟩]), (w.heap.size, 26, #[.bool na, .string sa])]) := Lib.hid (by have h := (Env.new E10.out 26 #[.bool false, .string ⟨#[]⟩]); (try simp only [World.size_alloc] at h); exact h)
  generalize (w9.alloc (.cells #[.bool false, .string ⟨#[]⟩] 26)) = W11 at E11 ⊢
  have q0_0 : W11.cell? ⟨w6.heap.size, 0, none⟩ = some (.bool false) := (Env.at_ E11.out 1 rfl).cell 0
  have q0_1 : W11.cell? ⟨w6.heap.size, 1, none⟩ = some (.string ⟨#[]⟩) := (Env.at_ E11.out 1 rfl).cell 1
  have q1_0 : W11.cell? ⟨w9.heap.size, 0, none⟩ = some (.bool false) := (Env.at_ E11.out 0 rfl).cell 0
  have q1_1 : W11.cell? ⟨w9.heap.size, 1, none⟩ = some (.string ⟨#[]⟩) := (Env.at_ E11.out 0 rfl).cell 1
  go_wp2_with fail
  refine (HN.out _ 120).mono ?_
  rintro e w12 ⟨rfl, h12⟩
  subst h12
  have E13 := Lib.hid (E11.out)
  clear q0_0 q0_1 q1_0 q1_1
  go_upto_region 11 with fail
  have q0_0 : W11.cell? ⟨w.heap.size, 0, none⟩ = some (.bool na) := (Env.at_ E13.out 2 rfl).cell 0
  have q0_1 : W11.cell? ⟨w.heap.size, 1, none⟩ = some (.string sa) := (Env.at_ E13.out 2 rfl).cell 1
  go_wp2_with fail
  refine (HB.out _).mono ?_
  rintro e w14 ⟨rfl, h14⟩
  have E15 := Lib.hid ((Env.other E13.out (.cells #[.bool na, .string sa] 26)).call h14)
  clear q0_0 q0_1 h14
  go_upto_region 12 with fail
  go_wp2_with fail
  refine (HN.out _ 2).mono ?_
  rintro e w16 ⟨rfl, h16⟩
  subst h16
  have E17 := Lib.hid (E15.out)
  go_wp2_with fail
  refine (HW.out _).mono ?_
  rintro e w18 ⟨rfl, h18⟩
  have E19 := Lib.hid (E17.out.call h18)
  clear h18
  go_wp2_with fail
  go_ret
  exact ⟨rfl, E19.out.1⟩
set_option maxRecDepth 100000 in
set_option maxHeartbeats 8000000 in
theorem texts_none_may {w : World} {na : Bool} {sa s : ByteArray} (hl : isLong (na, sa) = false) (hb : isBad (na, sa) = false) (hm : MayL na sa.data.toList) (h1 : s.size ≤ 1200) (hg : ¬ Good s.data.toList) :
    Calls Try.prog 6 #[.agg #[.bool na, .string sa], .string s] w (fun e w' => e = .returned (.bool true) ∧ Below w.heap.size w w') := by
  have HL := Lib.hid (fun W : World => long_one (w := W) (na := na) (sa := sa))
  rw [hl] at HL
  clear hl
  have HB := Lib.hid (fun W : World => bad_one (w := W) (na := na) (sa := sa))
  rw [hb] at HB
  clear hb
  have i1 : (s.size : Int) ≤ 1200 := by omega
  have i2 : (s.size : Int) ≤ 40000 := by omega
  have H34 := Lib.hid (fun W : World => read_none (w := W) (by omega) hg)
  have H35 := Lib.hid (fun W : World => rread_no (w := W) h1 hg)
  have h33 := fun W : World => text_told (w := W) hm
  have h36 := fun W : World => rtext_told (w := W) hm
  obtain ⟨tx, htx⟩ : ∃ tx : ByteArray, tx = ⟨(txt (num (na, sa))).toArray⟩ := ⟨_, rfl⟩
  rw [← htx] at h33 h36
  have H33 := Lib.hid h33
  have H36 := Lib.hid h36
  clear h33 h36 htx
  clear hm h1 hg
  have HW := Lib.hid (fun W : World => works_any (w := W))
  have HN := Lib.hid (fun (W : World) (n : Int) => num_any (w := W) (n := n))
  have E0 := Lib.hid (Env.nil w)
  go_enter Try.func6, Try.ntmps6
  go_upto_region 0 with fail
  go_upto_region 1 with fail
  have E1 : Hid (Env w (w.alloc (.cells #[.bool na, .string sa] 26)) [(w.heap.size, 26, #[.bool na, .string sa])]) := Lib.hid (by have h := (Env.new E0.out 26 #[.bool na, .string sa]); (try simp only [World.size_alloc] at h); exact h)
  generalize (w.alloc (.cells #[.bool na, .string sa] 26)) = W1 at E1 ⊢
  have q0_0 : W1.cell? ⟨w.heap.size, 0, none⟩ = some (.bool na) := (Env.at_ E1.out 0 rfl).cell 0
  have q0_1 : W1.cell? ⟨w.heap.size, 1, none⟩ = some (.string sa) := (Env.at_ E1.out 0 rfl).cell 1
  go_wp2_with fail
  refine (HL.out _).mono ?_
  rintro e w2 ⟨rfl, h2⟩
  have E3 := Lib.hid ((Env.other E1.out (.cells #[.bool na, .string sa] 26)).call h2)
  clear q0_0 q0_1 h2
  go_upto_region 3 with fail
  have q0_0 : w2.cell? ⟨w.heap.size, 0, none⟩ = some (.bool na) := (Env.at_ E3.out 0 rfl).cell 0
  have q0_1 : w2.cell? ⟨w.heap.size, 1, none⟩ = some (.string sa) := (Env.at_ E3.out 0 rfl).cell 1
  go_wp2_with fail
  refine (H33.out _).mono ?_
  rintro e w4 ⟨rfl, h4⟩
  have E5 := Lib.hid (E3.out.call h4)
  clear q0_0 q0_1 h4
  go_upto_region 4 with fail
  go_wp2_with fail
  refine (H34.out _).mono ?_
  rintro e w6 ⟨rfl, h6⟩
  have E7 := Lib.hid (E5.out.call h6)
  clear h6
  go_upto_region 8 with fail
  have E8 : Hid (Env w (w6.alloc (.cells #[.bool false, .string ⟨#[]⟩] 26)) [(w6.heap.size, 26, #[.bool false, .string ⟨#[]⟩]), (w.heap.size, 26, #[.bool na, .string sa])]) := Lib.hid (by have h := (Env.new E7.out 26 #[.bool false, .string ⟨#[]⟩]); (try simp only [World.size_alloc] at h); exact h)
  generalize (w6.alloc (.cells #[.bool false, .string ⟨#[]⟩] 26)) = W8 at E8 ⊢
  go_wp2_with fail
  refine (H35.out _).mono ?_
  rintro e w9 ⟨rfl, h9⟩
  have E10 := Lib.hid (E8.out.call h9)
  clear h9
  go_upto_region 9 with fail
  have E11 : Hid (Env w (w9.alloc (.cells #[.bool false, .string ⟨#[]⟩] 26)) [(w9.heap.size, 26, #[.bool false, .string ⟨#[]⟩]), (w6.heap.size, 26, #[.bool false, .string ⟨#[]⟩]), (w.heap.size, 26, #[.bool na, .string sa])]) := Lib.hid (by have h := (Env.new E10.out 26 #[.bool false, .string ⟨#[]⟩]); (try simp only [World.size_alloc] at h); exact h)
  generalize (w9.alloc (.cells #[.bool false, .string ⟨#[]⟩] 26)) = W11 at E11 ⊢
  have q0_0 : W11.cell? ⟨w6.heap.size, 0, none⟩ = some (.bool false) := (Env.at_ E11.out 1 rfl).cell 0
  have q0_1 : W11.cell? ⟨w6.heap.size, 1, none⟩ = some (.string ⟨#[]⟩) := (Env.at_ E11.out 1 rfl).cell 1
  have q1_0 : W11.cell? ⟨w9.heap.size, 0, none⟩ = some (.bool false) := (Env.at_ E11.out 0 rfl).cell 0
  have q1_1 : W11.cell? ⟨w9.heap.size, 1, none⟩ = some (.string ⟨#[]⟩) := (Env.at_ E11.out 0 rfl).cell 1
  go_wp2_with fail
  refine (HN.out _ 120).mono ?_
  rintro e w12 ⟨rfl, h12⟩
  subst h12
  have E13 := Lib.hid (E11.out)
  clear q0_0 q0_1 q1_0 q1_1
  go_upto_region 11 with fail
  have q0_0 : W11.cell? ⟨w.heap.size, 0, none⟩ = some (.bool na) := (Env.at_ E13.out 2 rfl).cell 0
  have q0_1 : W11.cell? ⟨w.heap.size, 1, none⟩ = some (.string sa) := (Env.at_ E13.out 2 rfl).cell 1
  go_wp2_with fail
  refine (HB.out _).mono ?_
  rintro e w14 ⟨rfl, h14⟩
  have E15 := Lib.hid ((Env.other E13.out (.cells #[.bool na, .string sa] 26)).call h14)
  clear q0_0 q0_1 h14
  go_upto_region 13 with fail
  have q1_0 : w14.cell? ⟨w.heap.size, 0, none⟩ = some (.bool na) := (Env.at_ E15.out 2 rfl).cell 0
  have q1_1 : w14.cell? ⟨w.heap.size, 1, none⟩ = some (.string sa) := (Env.at_ E15.out 2 rfl).cell 1
  go_wp2_with fail
  refine (H36.out _).mono ?_
  rintro e w16 ⟨rfl, h16⟩
  have E17 := Lib.hid (E15.out.call h16)
  clear q1_0 q1_1 h16
  go_wp2_with fail
  refine (HN.out _ 0).mono ?_
  rintro e w18 ⟨rfl, h18⟩
  subst h18
  have E19 := Lib.hid (E17.out)
  go_wp2_with fail
  refine (HW.out _).mono ?_
  rintro e w20 ⟨rfl, h20⟩
  have E21 := Lib.hid (E19.out.call h20)
  clear h20
  go_wp2_with fail
  go_ret
  exact ⟨rfl, E21.out.1⟩
theorem texts_any {w : World} {na : Bool} {sa s : ByteArray} :
    Calls Try.prog 6 #[.agg #[.bool na, .string sa], .string s] w (fun e w' => e = .returned (.bool true) ∧ Below w.heap.size w w') := by
  by_cases hl : isLong (na, sa) = true
  · exact texts_long hl
  have hl := Bool.not_eq_true _ ▸ hl
  by_cases h1 : s.size ≤ 1200
  · by_cases hb : isBad (na, sa) = true
    · by_cases hg : Good s.data.toList
      · exact texts_good_bad hl hb (isBad_yes.1 hb) h1 hg
      · exact texts_none_bad hl hb (isBad_yes.1 hb) h1 hg
    · have hb := Bool.not_eq_true _ ▸ hb
      by_cases hg : Good s.data.toList
      · exact texts_good_may hl hb (isBad_no.1 hb) h1 hg
      · exact texts_none_may hl hb (isBad_no.1 hb) h1 hg
  · by_cases h2 : s.size ≤ 40000
    · exact texts_mid hl (by omega) h2
    · by_cases hb : isBad (na, sa) = true
      · exact texts_far_bad hl hb (isBad_yes.1 hb) (by omega)
      · have hb := Bool.not_eq_true _ ▸ hb
        exact texts_far_may hl hb (isBad_no.1 hb) (by omega)
end Go.Proofs.Ytpnginnjbdedbaa
