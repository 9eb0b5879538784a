import Derived.Test.YtebpggfccljagaaGreatC1
import Derived.Laws.CopyOwn
import Derived.BigQuiet
import Derived.Deep.RegionHeld3
import Derived.Below
import Derived.Test.YtebpggfccljagaaGreatProg
import Derived.WalkKit
import Derived.WalkLawsBesides
import Derived.WalkSpells
import Derived.Handy
import Derived.Deep.LoopGhost
import Derived.Lib.AppendStr
import Derived.Laws.BytesArg
import Derived.Lib.ConvBytes
namespace Go.Proofs.YtebpggfccljagaaGreat
namespace Wh
theorem top_two {l : List Nat} {p : Nat} (h : l.length = p + 2) : val l = (l[p + 1] * 4294967296 + l[p]) * 4294967296 ^ p + val (l.take p) := by
 have e0 : val l = val (l.take (p + 1 + 1)) := by rw [List.take_of_length_le (by omega)]
 rw [e0, val_take_succ (by omega), val_take_succ (by omega), Nat.pow_succ, Nat.add_mul]
 have e1 : l[p + 1] * 4294967296 * 4294967296 ^ p = 4294967296 ^ p * 4294967296 * l[p + 1] := by
  rw [Nat.mul_assoc, Nat.mul_comm, Nat.mul_comm 4294967296]
 have e2 : l[p] * 4294967296 ^ p = 4294967296 ^ p * l[p] := Nat.mul_comm _ _
 omega
theorem top_one {l : List Nat} {p : Nat} (h : l.length = p + 1) : val l = l[p] * 4294967296 ^ p + val (l.take p) := by
 have e0 : val l = val (l.take (p + 1)) := by rw [List.take_of_length_le (by omega)]
 rw [e0, val_take_succ (by omega), Nat.mul_comm]
 omega
theorem low_lt {l : List Nat} (hw : Wd l) {p : Nat} (h : p ≤ l.length) : val (l.take p) < 4294967296 ^ p := by
 have := val_lt (wd_take hw p)
 rwa [List.length_take, Nat.min_eq_left h] at this
theorem three_words (v P B x y z : Nat) : v + P * z + P * B * y + P * B * B * x = ((x * B + y) * B + z) * P + v := by
 simp only [Nat.add_mul]
 have f1 : x * B * B * P = P * B * B * x := by ac_rfl
 have f2 : y * B * P = P * B * y := by ac_rfl
 have f3 : z * P = P * z := Nat.mul_comm _ _
 omega
def Guess (U V T w1 q r : Nat) : Prop := q * w1 + r = T ∧ U < (q + 1) * V
section
variable {U V T u2 w1 w2 p q r : Nat} {lv M : List Nat}
def Tops (M lv : List Nat) (p T u2 w1 w2 : Nat) : Prop :=
 val lv = (w1 * 4294967296 + w2) * 4294967296 ^ p + val (lv.take p) ∧ val (lv.take p) < 4294967296 ^ p ∧ w2 < 4294967296 ∧ 0 < w1 ∧
 val M = (T * 4294967296 + u2) * 4294967296 ^ p + val (M.take p) ∧ val (M.take p) < 4294967296 ^ p ∧ u2 < 4294967296 ∧ val M < 4294967296 * val lv
theorem tops_of (hw : Wd M) (hwv : Wd lv) (hM : M.length = p + 3) (hl : lv.length = p + 2) (h0 : 0 < lv[p + 1]) (hU : val M < 4294967296 * val lv) : Tops M lv p (M[p + 2] * 4294967296 + M[p + 1]) M[p] lv[p + 1] lv[p] := by
 refine ⟨top_two hl, low_lt hwv (by omega), wd_get hwv _ _, h0, ?_, low_lt hw (by omega), wd_get hw _ _, hU⟩
 have e0 : val M = val (M.take (p + 1 + 1 + 1)) := by rw [List.take_of_length_le (by omega)]
 have e1 := val_take_succ (l := M) (i := p + 1 + 1) (by omega)
 have e2 := val_take_succ (l := M) (i := p + 1) (by omega)
 have e3 := val_take_succ (l := M) (i := p) (by omega)
 have e4 : M[p + 2] = M[p + 1 + 1] := rfl
 rw [e4, e0, e1, e2, e3, Nat.pow_succ, Nat.pow_succ]
 exact three_words _ _ _ _ _ _
theorem Tops.one (h : Tops M lv p T u2 w1 w2) : val lv = w1 * 4294967296 ^ (p + 1) + (w2 * 4294967296 ^ p + val (lv.take p)) ∧ w2 * 4294967296 ^ p + val (lv.take p) < 4294967296 ^ (p + 1) ∧
  val M = T * 4294967296 ^ (p + 1) + (u2 * 4294967296 ^ p + val (M.take p)) ∧ u2 * 4294967296 ^ p + val (M.take p) < 4294967296 ^ (p + 1) := by
 obtain ⟨h1, h2, h3, _, h4, h5, h6, _⟩ := h
 have aux : ∀ x y P : Nat, (x * 4294967296 + y) * P = x * (P * 4294967296) + y * P := fun x y P => by
  rw [Nat.add_mul, Nat.mul_assoc, Nat.mul_comm 4294967296 P]
 have aux2 : ∀ x y P : Nat, x < 4294967296 → y < P → x * P + y < P * 4294967296 := fun x y P hx hy => by
  have : (x + 1) * P ≤ 4294967296 * P := Nat.mul_le_mul_right P hx
  rw [Nat.add_mul, Nat.one_mul] at this
  omega
 rw [Nat.pow_succ]
 refine ⟨?_, aux2 _ _ _ h3 h2, ?_, aux2 _ _ _ h6 h5⟩
 ·conv => lhs; rw [h1, aux, Nat.add_assoc]
 ·conv => lhs; rw [h4, aux, Nat.add_assoc]
theorem guess_start (h : Tops M lv p T u2 w1 w2) : Guess (val M) (val lv) T w1 (T / w1) (T % w1) := by
 obtain ⟨e1, e2, e3, e4⟩ := h.one
 refine ⟨by rw [Nat.mul_comm]; exact Nat.div_add_mod T w1, ?_⟩
 have hV : 0 < val lv := by
  have : 0 < w1 * 4294967296 ^ (p + 1) := Nat.mul_pos h.2.2.2.1 (Nat.pow_pos (by decide))
  omega
 have := first_ge e3 e4 e1 h.2.2.2.1 (Nat.div_mul_le_self (val M) (val lv))
 have h2 := Nat.div_add_mod (val M) (val lv)
 have h3 := Nat.mod_lt (val M) hV
 have h4 : (val M / val lv + 1) * val lv ≤ (T / w1 + 1) * val lv := Nat.mul_le_mul_right _ (by omega)
 rw [Nat.add_mul, Nat.one_mul, Nat.mul_comm] at h4
 omega
theorem tops_lt (h : Tops M lv p T u2 w1 w2) : T < 4294967296 * w1 + 4294967296 := by
 obtain ⟨e1, e2, e3, e4⟩ := h.one
 have hU := h.2.2.2.2.2.2.2
 generalize 4294967296 ^ (p + 1) = P at *
 have h1 : P * T < P * (4294967296 * w1 + 4294967296) := by
  have h2 : P * (4294967296 * w1 + 4294967296) = 4294967296 * (w1 * P) + 4294967296 * P := by
   rw [Nat.mul_add, Nat.mul_left_comm, Nat.mul_comm P w1, Nat.mul_comm P]
  have h3 : P * T = T * P := Nat.mul_comm _ _
  omega
 exact Nat.lt_of_mul_lt_mul_left h1
theorem guess_down (h : Tops M lv p T u2 w1 w2) (hg : Guess (val M) (val lv) T w1 q r) (ht : 4294967296 ≤ q ∨ r * 4294967296 + u2 < q * w2) : 0 < q ∧ Guess (val M) (val lv) T w1 (q - 1) (r + w1) := by
 have hlt : val M < q * val lv := by
  rcases ht with ht | ht
  ·have h1 : 4294967296 * val lv ≤ q * val lv := Nat.mul_le_mul_right _ ht
   have := h.2.2.2.2.2.2.2
   omega
  ·exact trial_over h.2.2.2.2.1 h.2.2.2.2.2.1 h.1 ((test_iff hg.1).2 ht)
 have hq : 0 < q := by
  rcases Nat.eq_zero_or_pos q with h0 | h0
  ·rw [h0, Nat.zero_mul] at hlt; omega
  ·exact h0
 obtain ⟨k, rfl⟩ : ∃ k, q = k + 1 := ⟨q - 1, by omega⟩
 refine ⟨hq, ?_, by rw [Nat.add_sub_cancel]; exact hlt⟩
 have := hg.1
 rw [Nat.add_mul, Nat.one_mul] at this
 rw [Nat.add_sub_cancel]
 omega
theorem guess_end (h : Tops M lv p T u2 w1 w2) (hg : Guess (val M) (val lv) T w1 q r) (hq : q < 4294967296) (ht : q * w2 ≤ r * 4294967296 + u2) : q * val lv < val M + val lv := by
 obtain ⟨e1, _⟩ := h.one
 have hP : 0 < 4294967296 ^ p := Nat.pow_pos (by decide)
 have h1 : 4294967296 ^ (p + 1) ≤ val lv := by
  have : 1 * 4294967296 ^ (p + 1) ≤ w1 * 4294967296 ^ (p + 1) := Nat.mul_le_mul_right _ h.2.2.2.1
  omega
 refine trial_near h.2.2.2.2.1 h.1 h.2.1 ?_ ?_ ?_
 ·have := (test_iff (w2 := w2) (u := u2) hg.1)
  exact Nat.le_of_not_lt fun hh => by have := this.1 hh; omega
 ·have h2 : q * 4294967296 ^ p ≤ 4294967296 * 4294967296 ^ p := Nat.mul_le_mul_right _ (by omega)
  rw [Nat.pow_succ, Nat.mul_comm _ 4294967296] at h1
  omega
 ·have : 0 < 4294967296 ^ (p + 1) := Nat.pow_pos (by decide)
  omega
theorem guess_break (h : Tops M lv p T u2 w1 w2) (hg : Guess (val M) (val lv) T w1 q r) (hr : 4294967296 ≤ r) : q < 4294967296 ∧ q * val lv < val M + val lv := by
 have hT := tops_lt h
 have hq : q < 4294967296 := by
  have h1 := hg.1
  have h2 : q * w1 < 4294967296 * w1 := by omega
  exact Nat.lt_of_mul_lt_mul_right h2
 exact ⟨hq, guess_end h hg hq (stands (by omega) h.2.2.1 hr)⟩
end
def Long (A V n m k : Nat) (L Q : List Nat) : Prop := L.length = n + 1 ∧ Wd L ∧ Q.length = n + 1 - m ∧ Wd Q ∧ (∀ i, i < k → at_ Q i = 0) ∧ A = val L + V * val Q ∧ val L < V * 4294967296 ^ k
theorem drop_zero {L : List Nat} {i : Nat} (hi : i ≤ L.length) (h : val L < 4294967296 ^ i) : val (L.drop i) = 0 := by
 have h1 := val_split L i hi
 rcases Nat.eq_zero_or_pos (val (L.drop i)) with h0 | h0
 ·exact h0
 ·have h2 : 4294967296 ^ i * 1 ≤ 4294967296 ^ i * val (L.drop i) := Nat.mul_le_mul_left _ h0
  omega
theorem long_mid {A V n m j : Nat} {L Q : List Nat} (h : Long A V n m (j + 1) L Q) (hV : V < 4294967296 ^ m) (hj : j + m ≤ n) :
  val ((L.drop j).take (m + 1)) < 4294967296 * V ∧ val L = val (L.take j) + 4294967296 ^ j * val ((L.drop j).take (m + 1)) ∧ val (L.drop (j + (m + 1))) = 0 := by
 obtain ⟨h1, h2, h3, h4, h5, h6, h7⟩ := h
 have hz : val (L.drop (j + (m + 1))) = 0 := by
  refine drop_zero (by omega) (Nat.lt_of_lt_of_le h7 ?_)
  rw [show j + (m + 1) = m + (j + 1) by omega, Nat.pow_add 4294967296 m]
  exact Nat.mul_le_mul_right _ (Nat.le_of_lt hV)
 have e : val L = val (L.take j) + 4294967296 ^ j * val ((L.drop j).take (m + 1)) := by
  rw [val_split L j (by omega)]
  congr 2
  rw [val_split (L.drop j) (m + 1) (by rw [List.length_drop]; omega), List.drop_drop, hz, Nat.mul_zero, Nat.add_zero]
 refine ⟨?_, e, hz⟩
 rw [Nat.pow_succ] at h7
 exact digit_word e h7
theorem val_set_at {l : List Nat} {i : Nat} (hi : i < l.length) (h0 : at_ l i = 0) (x : Nat) : val (l.set i x) = val l + 4294967296 ^ i * x := by
 have := val_set l i x hi
 rw [at_get hi] at h0
 rw [h0, Nat.mul_zero, Nat.add_zero] at this
 exact this
theorem at_set {l : List Nat} {i j x : Nat} (h : i ≠ j) : at_ (l.set j x) i = at_ l i := by
 unfold at_
 rw [List.getD_eq_getElem?_getD, List.getD_eq_getElem?_getD, List.getElem?_set_ne (Ne.symm h)]
theorem long_step {A V n m j : Nat} {L Q M' : List Nat} (h : Long A V n m (j + 1) L Q) (hV : V < 4294967296 ^ m) (hV0 : 0 < V) (hj : j + m ≤ n) (hM : M'.length = m + 1) (hw : Wd M') (hv : val M' = val ((L.drop j).take (m + 1)) % V) :
  Long A V n m j (L.take j ++ (M' ++ L.drop (j + (m + 1)))) (Q.set j (val ((L.drop j).take (m + 1)) / V)) ∧ val ((L.drop j).take (m + 1)) / V < 4294967296 := by
 obtain ⟨hU, hS, hz⟩ := long_mid h hV hj
 obtain ⟨h1, h2, h3, h4, h5, h6, h7⟩ := h
 have hd : val ((L.drop j).take (m + 1)) / V < 4294967296 := (Nat.div_lt_iff_lt_mul hV0).2 hU
 have hlo : val (L.take j) < 4294967296 ^ j := low_lt h2 (by omega)
 have hmod := Nat.mod_lt (val ((L.drop j).take (m + 1))) hV0
 have hval : val (L.take j ++ (M' ++ L.drop (j + (m + 1)))) = val (L.take j) + 4294967296 ^ j * (val ((L.drop j).take (m + 1)) % V) := by
  rw [val_append, val_append, hz, Nat.mul_zero, Nat.add_zero, hv, List.length_take, Nat.min_eq_left (by omega)]
 refine ⟨⟨?_, ?_, by rw [List.length_set]; exact h3, wd_set h4 _ _ hd, fun i hi => by rw [at_set (by omega)]; exact h5 i (by omega), ?_, ?_⟩, hd⟩
 ·simp only [List.length_append, List.length_take, List.length_drop]; omega
 ·exact wd_append.2 ⟨wd_take h2 _, wd_append.2 ⟨hw, wd_drop h2 _⟩⟩
 ·rw [hval, val_set_at (by omega) (h5 j (by omega))]
  exact digit_step h6 hS (by rw [Nat.mul_comm]; exact Nat.mod_add_div _ _)
 ·rw [hval]
  exact digit_left hlo hmod
theorem long_end {a b s n m : Nat} {L Q : List Nat} (h : Long (a * s) (b * s) n m 0 L Q) (hV : b * s < 4294967296 ^ m) (hm : m ≤ n) (hs : 0 < s) : val Q = a / b ∧ val (L.take m) / s = a % b := by
 obtain ⟨h1, h2, h3, h4, h5, h6, h7⟩ := h
 rw [Nat.pow_zero, Nat.mul_one] at h7
 have hz := drop_zero (L := L) (i := m) (by omega) (by omega)
 have e := val_split L m (by omega)
 rw [hz, Nat.mul_zero, Nat.add_zero] at e
 rw [← e]
 exact divide_end h6 h7 hs
theorem long_start {a b n m by_ : Nat} {L : List Nat} (hL : L.length = n + 1) (hw : Wd L) (hv : val L = a * 2 ^ by_) (ha : a < 4294967296 ^ n) (hb : by_ ≤ 31) (hm : m + 1 ≤ n) (hV : 2147483648 * 4294967296 ^ m ≤ b * 2 ^ by_) :
  Long (a * 2 ^ by_) (b * 2 ^ by_) n (m + 1) (n - m) L (List.replicate (n - m) 0) := by
 refine ⟨hL, hw, by rw [List.length_replicate]; omega, wd_zeros _, fun i _ => ?_, by rw [hv, val_zeros, Nat.mul_zero, Nat.add_zero], ?_⟩
 ·unfold at_
  rw [List.getD_eq_getElem?_getD, List.getElem?_replicate]
  split <;> rfl
 ·rw [hv]
  have h1 : (2 : Nat) ^ by_ ≤ 2 ^ 31 := Nat.pow_le_pow_right (by decide) hb
  have h2 : a * 2 ^ by_ ≤ a * 2 ^ 31 := Nat.mul_le_mul_left _ h1
  have h3 : 2147483648 * 4294967296 ^ m * 4294967296 ^ (n - m) ≤ b * 2 ^ by_ * 4294967296 ^ (n - m) := Nat.mul_le_mul_right _ hV
  rw [Nat.mul_assoc, ← Nat.pow_add, show m + (n - m) = n by omega] at h3
  have h4 : (2 : Nat) ^ 31 = 2147483648 := by decide
  rw [h4] at h2
  omega
end Wh
end Go.Proofs.YtebpggfccljagaaGreat
namespace Go.Proofs.YtebpggfccljagaaGreat
open Go.RowKit
open Wh
def Div2 (w : World) (Q R : Nat) (e : Ending) (w' : World) : Prop := ∃ A1 n1 c1 A2 n2 c2, e = .returned (.tuple #[.slice A1 n1 c1, .slice A2 n2 c2]) ∧ Hid (n1 = (wds Q).length ∧ n2 = (wds R).length) ∧ n1 ≤ c1 ∧ n2 ≤ c2 ∧ c1 ≤ 9223372036854775807 ∧ c2 ≤ 9223372036854775807 ∧
 ReadsW w' w'.heap.size A1 (wds Q) ∧ ReadsW w' w'.heap.size A2 (wds R) ∧ Below w.heap.size w w'
set_option maxRecDepth 100000 in
set_option maxHeartbeats 2000000 in
theorem divide_lt {w : World} {B n m c d a b : Nat} {A C : Option Addr} (h1 : ReadsW w B A (wds a)) (h2 : ReadsW w B C (wds b)) (hB : B ≤ w.heap.size) (hn : n = (wds a).length) (hm : m = (wds b).length) (hnc : n ≤ c) (hcl : c ≤ 9223372036854775807) (hnl : n ≤ 1000000000) (hml : m ≤ 1000000000) (hab : a < b) :
  Calls Tryz.prog 132 #[.slice A n c, .slice C m d] w (Div2 w (a / b) (a % b)) := by
 have HU := Lib.hid (under_any h1 h2 (c := c) (d := d) hn hm (by omega) (by omega))
 obtain ⟨x, hx, hx0⟩ : ∃ x : Int, cmpN a b = x ∧ x < 0 := ⟨-1, cmpN_lt hab, by omega⟩
 rw [hx] at HU
 have Hn := Lib.hid hn
 have Hab := Lib.hid (And.intro (Nat.div_eq_of_lt hab) (Nat.mod_eq_of_lt hab))
 clear hn hab hx hm
 go_enter Tryz.func132, Tryz.ntmps132
 go_wp2_with (go_at_call 127; refine HU.out.mono ?_; rintro e w' ⟨q, rfl, rfl⟩)
 go_ret2
 rw [Hab.out.1, Hab.out.2]
 exact ⟨_, _, _, _, _, _, rfl, ⟨by rw [wds_zero]; rfl, Hn.out⟩, Nat.le_refl _, hnc, by omega, hcl, by rw [wds_zero]; exact ReadsW.none_ _ _ _, (h1.more hB).drewN q, below_drewN (Below.refl _ _) _⟩
theorem undrewN {w w' : World} {q : Nat} (h : Below (w.drewN q).heap.size (w.drewN q) w') : Below w.heap.size w w' := ⟨h.os, h.tape, h.output, h.size, h.block⟩
set_option maxRecDepth 100000 in
set_option maxHeartbeats 2000000 in
theorem divide_one {w : World} {B n m c d a b : Nat} {A C : Option Addr} (h1 : ReadsW w B A (wds a)) (h2 : ReadsW w B C (wds b)) (hB : B ≤ w.heap.size) (hn : n = (wds a).length) (hm : m = (wds b).length) (hnl : n ≤ 1000000000) (hml : m ≤ 1000000000) (hab : b ≤ a) (hm1 : m = 1) :
  Calls Tryz.prog 132 #[.slice A n c, .slice C m d] w (Div2 w (a / b) (a % b)) := by
 have hu : ∃ x : Int, cmpN a b = x ∧ 0 ≤ x := by
  rcases Nat.lt_or_ge b a with h | h
  ·exact ⟨1, cmpN_gt h, by omega⟩
  ·exact ⟨0, cmpN_eq (by omega), by omega⟩
 obtain ⟨x, hx, hx0⟩ := hu
 have HU := Lib.hid (under_any h1 h2 (c := c) (d := d) hn hm (by omega) (by omega))
 rw [hx] at HU
 have hb : wds b = [b] := by
  have hl : (wds b).length = 1 := by omega
  have hlt : b < 4294967296 := by have := lt_of_len (n := b) (k := 1) (by omega); omega
  have hp : 0 < b := by
   rcases Nat.eq_zero_or_pos b with h0 | h0
   ·rw [h0, wds_zero] at hl; cases hl
   ·exact h0
  rw [wds_pos hp, Nat.mod_eq_of_lt hlt, Nat.div_eq_of_lt hlt, wds_zero]
 have hwd := wd_w b
 rw [hb] at h2 hwd
 have hbl : b < 4294967296 := hwd b (by simp)
 have hp : 0 < b := by
  rcases Nat.eq_zero_or_pos b with h0 | h0
  ·rw [h0, wds_zero] at hb; cases hb
  ·exact h0
 obtain ⟨bd, rfl, hb1, c1⟩ := h2.at_ (k := 0) (by simp)
 have c1' : w.cell? bd = some (.int .u32 (b : Int)) := by
  have : bd.add 0 = bd := by unfold Addr.add; rw [if_pos rfl]
  rw [this] at c1
  exact c1
 have hs := fun q => short_any (h1.drewN q) (c := c) (d := b) hB hn (by omega) (wd_w a) hp hbl
 simp only [val_w] at hs
 obtain ⟨r, hr⟩ : ∃ r, r = a % b := ⟨_, rfl⟩
 rw [← hr] at hs
 have hrb : r < b := by rw [hr]; exact Nat.mod_lt _ hp
 have hrb2 : r ≤ 4294967295 := by omega
 have HS := Lib.hid hs
 have Hr := Lib.hid hr
 clear hs hr
 have Hn := Lib.hid hn
 subst hm1
 clear hn h1 h2 c1 hx hb hm
 go_enter Tryz.func132, Tryz.ntmps132
 go_wp2_with (first | (go_at_call 127; refine HU.out.mono ?_; rintro e w' ⟨q, rfl, rfl⟩) | (go_at_call 137; refine (HS.out _).mono ?_; rintro e w1 ⟨A1, n1, c1, rfl, hn1, hc1, hc2, hr1, hbl1, _⟩; have Hn1 := Lib.hid (And.intro hn1 (And.intro hr1 hbl1)); clear hn1 hr1 hbl1))
 have hbk := Blk.new w1 115 (wcells [r])
 have hwr : Wd [r] := wd_cons.2 ⟨by omega, wd_nil⟩
 have hcut := cut_any (reads_blk hbk hbk.lt) (n := 1) (c := 1) rfl (by omega) (by omega) hwr
 have Hc := Lib.hid hcut
 have Hb := Lib.hid (And.intro hbk hwr)
 clear hcut hbk hwr
 go_wp2_with (go_at_call 131; refine Hc.out.mono ?_; rintro e w' ⟨q2, rfl, hq, rfl⟩; have Hq := Lib.hid hq; clear hq)
 go_ret2
 have hv1 : val [r] = r := by rw [val_cons, val_nil, Nat.mul_zero, Nat.add_zero]
 have hlen : (wds r).length ≤ 1 := by have := (wds_take 1 [r] rfl Hb.out.2).2; rw [hv1] at this; exact this
 have hq2 := Hq.out
 rw [hv1] at hq2
 refine ⟨_, _, _, _, _, _, rfl, ⟨Hn1.out.1, by rw [← Hr.out]; exact hq2⟩, hc1, by omega, by omega, by omega, (Hn1.out.2.1.alloc (Nat.le_refl _) _).more (by simp), ?_, ?_⟩
 ·rw [← Hr.out]
  have := reads_cut (reads_blk Hb.out.1 Hb.out.1.lt) Hb.out.2
  rw [hv1] at this
  exact this
 ·exact (undrewN Hn1.out.2.2).alloc (by have := (undrewN Hn1.out.2.2).size; exact this) _
theorem pow2_word {y : Nat} (h : y ≤ 31) : 2 ^ y ≤ 2147483648 := Nat.le_trans (Nat.pow_le_pow_right (by decide) h) (by decide)
theorem norm_of {b p y t : Nat} (hl : (wds b).length = p + 2) (hb : at_ (wds b) (p + 1) = t) (h1 : 2147483648 ≤ t * 2 ^ y) (h2 : t * 2 ^ y < 4294967296) :
  (wds (b * 2 ^ y)).length = p + 2 ∧ 2147483648 * 4294967296 ^ (p + 1) ≤ b * 2 ^ y ∧ b * 2 ^ y < 4294967296 ^ (p + 2) ∧ 2147483648 ≤ at_ (wds (b * 2 ^ y)) (p + 1) := by
 have e := top_one (l := wds b) (p := p + 1) hl
 rw [at_get (by omega)] at hb
 rw [val_w, hb] at e
 have hlo := low_lt (wd_w b) (p := p + 1) (by omega)
 have hge : 2147483648 * 4294967296 ^ (p + 1) ≤ b * 2 ^ y := by
  have h3 : 2147483648 * 4294967296 ^ (p + 1) ≤ t * 2 ^ y * 4294967296 ^ (p + 1) := Nat.mul_le_mul_right _ h1
  have h4 : t * 2 ^ y * 4294967296 ^ (p + 1) = t * 4294967296 ^ (p + 1) * 2 ^ y := by ac_rfl
  have h5 : t * 4294967296 ^ (p + 1) * 2 ^ y ≤ b * 2 ^ y := Nat.mul_le_mul_right _ (by omega)
  omega
 have hlt : b * 2 ^ y < 4294967296 ^ (p + 2) := by
  have hy : 0 < 2 ^ y := Nat.two_pow_pos y
  have h3 : b < (t + 1) * 4294967296 ^ (p + 1) := by rw [Nat.add_mul, Nat.one_mul]; omega
  have h4 : b * 2 ^ y < (t + 1) * 4294967296 ^ (p + 1) * 2 ^ y := Nat.mul_lt_mul_of_pos_right h3 hy
  have h5 : (t + 1) * 4294967296 ^ (p + 1) * 2 ^ y = (t + 1) * 2 ^ y * 4294967296 ^ (p + 1) := by ac_rfl
  have h6 : (t + 1) * 2 ^ y ≤ 4294967296 := by
   have hyy : y ≤ 32 := by
    rcases Nat.lt_or_ge 32 y with h | h
    ·exfalso
     have h7 : (2 : Nat) ^ 33 ≤ 2 ^ y := Nat.pow_le_pow_right (by decide) h
     rcases Nat.eq_zero_or_pos t with h8 | h8
     ·rw [h8, Nat.zero_mul] at h1; omega
     ·have h9 : 1 * 2 ^ y ≤ t * 2 ^ y := Nat.mul_le_mul_right _ h8
      omega
    ·exact h
   obtain ⟨z, hz⟩ : ∃ z, y + z = 32 := ⟨32 - y, by omega⟩
   have h7 : 2 ^ y * 2 ^ z = 4294967296 := by rw [← Nat.pow_add, hz]
   rw [← h7, Nat.mul_comm] at h2
   have h8 : t < 2 ^ z := Nat.lt_of_mul_lt_mul_left h2
   have h9 : 2 ^ y * (t + 1) ≤ 2 ^ y * 2 ^ z := Nat.mul_le_mul_left _ h8
   rw [h7, Nat.mul_comm] at h9
   exact h9
  have h7 : (t + 1) * 2 ^ y * 4294967296 ^ (p + 1) ≤ 4294967296 * 4294967296 ^ (p + 1) := Nat.mul_le_mul_right _ h6
  rw [show p + 2 = (p + 1) + 1 from rfl, Nat.pow_succ, Nat.mul_comm _ 4294967296]
  omega
 have hlen : (wds (b * 2 ^ y)).length = p + 2 := by
  have h3 := len_wds hlt
  rcases Nat.lt_or_ge (wds (b * 2 ^ y)).length (p + 2) with h4 | h4
  ·exfalso
   have h5 := lt_of_len (n := b * 2 ^ y) (k := p + 1) (by omega)
   have h6 : 1 * 4294967296 ^ (p + 1) ≤ 2147483648 * 4294967296 ^ (p + 1) := Nat.mul_le_mul_right _ (by decide)
   omega
  ·omega
 refine ⟨hlen, hge, hlt, ?_⟩
 rw [at_get (by omega)]
 have e2 := top_one (l := wds (b * 2 ^ y)) (p := p + 1) hlen
 rw [val_w] at e2
 have hlo2 := low_lt (wd_w (b * 2 ^ y)) (p := p + 1) (by omega)
 generalize (wds (b * 2 ^ y))[p + 1]'(by omega) = x at *
 have h3 : 4294967296 ^ (p + 1) * 2147483648 < 4294967296 ^ (p + 1) * (x + 1) := by
  rw [Nat.mul_add, Nat.mul_one, Nat.mul_comm, Nat.mul_comm _ x]; omega
 have := Nat.lt_of_mul_lt_mul_left h3
 omega
theorem top_pos {b p : Nat} (hl : (wds b).length = p + 2) : 0 < at_ (wds b) (p + 1) := by
 rw [at_get (by omega)]
 have h0 : (wds b).getLast? = some ((wds b)[p + 1]'(by omega)) := by
  rw [List.getLast?_eq_getElem?, ← List.getElem?_eq_getElem]
  congr 1
  omega
 have := wds_last b b (Nat.le_refl _) _ h0
 omega
theorem left_len {a y n : Nat} (ha : (wds a).length ≤ n) (hy : y ≤ 31) : (wds (a * 2 ^ y)).length ≤ n + 1 := by
 refine len_wds ?_
 have h1 := lt_of_len ha
 have h2 := pow2_word hy
 have h3 : a * 2 ^ y ≤ a * 2147483648 := Nat.mul_le_mul_left _ h2
 rw [Nat.pow_succ]
 omega
theorem sizeW : (Tryz.prog.info? 115).map (·.size) = some 1 := by kernel_rfl
theorem splice_words (l : List Nat) (k : Nat) : splice ((List.replicate k 0).map wv) 0 (l.map wv) = (l ++ List.replicate (k - l.length) 0).map wv := by
 unfold splice
 rw [List.take_zero, List.nil_append, Nat.zero_add, List.length_map, List.map_append, List.map_replicate, List.drop_replicate, List.map_replicate]
set_option maxRecDepth 100000 in
set_option maxHeartbeats 20000000 in
theorem divide_long {w : World} {B n m c d a b p : Nat} {A C : Option Addr} (h1 : ReadsW w B A (wds a)) (h2 : ReadsW w B C (wds b)) (hB : B ≤ w.heap.size) (hn : n = (wds a).length) (hm : m = (wds b).length) (hnl : n ≤ 900000000) (hml : m ≤ 900000000) (hmc : m ≤ d) (_hdl : d ≤ 9223372036854775807) (hab : b ≤ a) (hm1 : m = p + 2) :
  Calls Tryz.prog 132 #[.slice A n c, .slice C m d] w (Div2 w (a / b) (a % b)) := by
 have hu : ∃ x : Int, cmpN a b = x ∧ 0 ≤ x := by
  rcases Nat.lt_or_ge b a with h | h
  ·exact ⟨1, cmpN_gt h, by omega⟩
  ·exact ⟨0, cmpN_eq (by omega), by omega⟩
 obtain ⟨x, hx, hx0⟩ := hu
 have HU := Lib.hid (under_any h1 h2 (c := c) (d := d) hn hm (by omega) (by omega))
 rw [hx] at HU
 subst hm1
 obtain ⟨bd, rfl, hb1, c1⟩ := h2.at_ (k := p + 1) (by omega)
 rw [add_pos (Nat.succ_ne_zero p)] at c1
 have htp := top_pos hm.symm
 have htl := at_lt (wd_w b) (p + 1)
 obtain ⟨t0, ht0⟩ : ∃ t0, t0 = at_ (wds b) (p + 1) := ⟨_, rfl⟩
 rw [← at_get, ← ht0] at c1
 rw [← ht0] at htp htl
 have Ht0 := Lib.hid ht0
 have Hm := Lib.hid hm
 have Hn := Lib.hid hn
 clear hn hm ht0 hx
 go_enter Tryz.func132, Tryz.ntmps132
 go_wp2_with (go_at_call 127; refine HU.out.mono ?_; rintro e w' ⟨q, rfl, rfl⟩)
 go_loopg [8, 9] 32 (fun k yv tv wr => ∃ (y t : Nat), yv = .int .i64 (y : Int) ∧ tv = .int .u32 (t : Int) ∧ wr = w.drewN q ∧ k = 32 - y ∧ y ≤ 31 ∧ t ≤ 4294967295 ∧ Hid (t = t0 * 2 ^ y))
 case atStart => exact ⟨0, t0, rfl, rfl, rfl, by omega, by omega, by omega, by show t0 = t0 * 2 ^ 0; rw [Nat.pow_zero, Nat.mul_one]⟩
 case round =>
  obtain ⟨y, t, rfl, rfl, rfl, hk, hy, ht, hT⟩ := hrel
  have Hk := Lib.hid hk
  clear hk
  have hty : 2 ^ y ≤ t := by rw [hT.out]; exact Nat.le_mul_of_pos_left _ htp
  by_cases hlt : t < 2147483648
  ·have hy31 : y < 31 := by
    rcases Nat.lt_or_ge y 31 with h | h
    ·exact h
    ·have : (2 : Nat) ^ 31 ≤ 2 ^ y := Nat.pow_le_pow_right (by decide) h
     omega
   clear hty
   go_wp2
   rw [show ((t : Int) * 2) = ((t * 2 : Nat) : Int) by omega]
   go_roundg (32 - (y + 1))
   case measure => have := Hk.out; omega
   case rel => exact ⟨y + 1, t * 2, rfl, rfl, rfl, rfl, by omega, by omega, by show _ = _; rw [hT.out, Nat.pow_succ, Nat.mul_assoc]⟩
  ·have hT2 := hT.out
   have hnorm := norm_of Hm.out.symm Ht0.out.symm (y := y) (by rw [← hT2]; omega) (by rw [← hT2]; omega)
   have hl1 := left_any (h2.drewN q) hB Hm.out (c := d) (n := y) (by omega) (by omega) (wd_w b)
   rw [val_w] at hl1
   obtain ⟨V, hV⟩ : ∃ V, V = b * 2 ^ y := ⟨_, rfl⟩
   rw [← hV] at hnorm hl1
   have HV := Lib.hid (And.intro hV hnorm)
   have HL1 := Lib.hid hl1
   clear hV hnorm hl1 hT2 hty
   go_wp2_with fail
   refine HL1.out.mono ?_
   rintro e w1 ⟨Cv, n1, d1, rfl, hn1, hd1, hd2, hrv, hbv⟩
   obtain rfl : n1 = p + 2 := by have := hn1.out; rw [HV.out.2.1] at this; exact this
   have hmk : ∀ w : World, (Instr.makeSlice 33 (.int .i64 ((n : Int) + 1)) (.int .i64 ((n : Int) + 1))).run Tryz.prog w = .ok (.slice (some ⟨w.heap.size, 0, none⟩) (n + 1) (n + 1)) (w.alloc (.cells (wcells (List.replicate (n + 1) 0)) 115)) := fun w => by
    have := run_makeW (n + 1) (by omega) w
    exact this
   have hbv1 := undrewN hbv
   have hla := h1.below (hbv1.mono hB)
   have hsz1 := hbv1.size
   have hl2 := left_any (hla.alloc (by omega) (.cells (wcells (List.replicate (n + 1) 0)) 115)) (by simp; omega) Hn.out (c := c) (n := y) (by omega) (by omega) (wd_w a)
   rw [val_w] at hl2
   have HL2 := Lib.hid hl2
   have Hbv := Lib.hid (And.intro hbv1 hla)
   clear hl2 hla hbv hbv1
   go_wp2_with fail
   refine HL2.out.mono ?_
   rintro e w3 ⟨A3, n3, c3, rfl, hn3, hc3a, hc3b, hra, hba⟩
   have hbk := (Blk.new w1 115 (wcells (List.replicate (n + 1) 0))).below hba (by simp)
   have hbk' : w3.heap[w1.heap.size]? = some (.cells ((List.replicate (n + 1) 0).map wv).toArray 115 (0, 0)) := hbk
   have hbw := (((Below.refl w1.heap.size w1).alloc (Nat.le_refl _) (.cells (wcells (List.replicate (n + 1) 0)) 115))).trans (hba.mono (by simp))
   have hlen2 := left_len (a := a) (y := y) (n := n) (by rw [Hn.out]; exact Nat.le_refl _) hy
   have hsz3 := hba.size
   obtain ⟨la2, hla2⟩ : ∃ la2, la2 = wds (a * 2 ^ y) := ⟨_, rfl⟩
   rw [← hla2] at hn3 hra hlen2
   have hwa2 : Wd la2 ∧ val la2 = a * 2 ^ y := by rw [hla2]; exact ⟨wd_w _, val_w _⟩
   have Hwa2 := Lib.hid hwa2
   have hn3' := hn3.out
   subst hn3'
   have Hbw := Lib.hid (And.intro hbw hbk')
   have Hra := Lib.hid hra
   clear hla2 hwa2 hbw hbk hbk' hra hba hn3
   have hcp1 : (la2.map wv).length = Nat.min la2.length (n + 1) := by rw [List.length_map]; exact (Nat.min_eq_left hlen2).symm
   have hcp2 : 0 < (la2.map wv).length → ∃ ad, A3 = some ad ∧ ∀ (j : Nat) (v : Value), (la2.map wv)[j]? = some v → w3.cell? (ad.add j) = some v := fun h0 => by
    obtain ⟨ad, e, _, hc⟩ := Hra.out.1.2 (by rwa [List.length_map] at h0)
    exact ⟨ad, e, hc⟩
   have hcp3 : 0 + (la2.map wv).length ≤ ((List.replicate (n + 1) 0).map wv).length := by simp; exact hlen2
   have Hcp := Lib.hid (And.intro hcp1 (And.intro hcp2 hcp3))
   clear hcp1 hcp2 hcp3
   have hmn : p + 2 ≤ n := by rw [Hn.out, Hm.out]; exact len_mono hab
   have hmk2 : ∀ w : World, (Instr.makeSlice 33 (.int .i64 ((n : Int) + 1 - ((p : Int) + 2))) (.int .i64 ((n : Int) + 1 - ((p : Int) + 2)))).run Tryz.prog w = .ok (.slice (some ⟨w.heap.size, 0, none⟩) (n - (p + 1)) (n - (p + 1))) (w.alloc (.cells (wcells (List.replicate (n - (p + 1)) 0)) 115)) := fun w => by
    have := run_makeW (n - (p + 1)) (by omega) w
    rw [← this, show ((n - (p + 1) : Nat) : Int) = (n : Int) + 1 - ((p : Int) + 2) by omega]
   go_wp2_with (refine wpList_copy_splice rfl (.tmp 59) (.tmp 62) 33 33 rfl 115 Tryz.underlying33 sizeW (some ⟨w1.heap.size, 0, none⟩) A3 (n + 1) (n + 1) la2.length c3 rfl rfl w1.heap.size 0 ((List.replicate (n + 1) 0).map wv) 115 Hbw.out.2 (la2.map wv) Hcp.out.1 (fun h0 => ⟨rfl, Hcp.out.2.1 h0⟩) Hcp.out.2.2 (wv_one _) w1.heap.size w1 Hbw.out.1 (Nat.le_refl _) ?_; intro w4 hu4 hb4; have Hb4 := Lib.hid hb4; clear hb4)
   have hL0 : Blk w4 w1.heap.size 115 (wcells (la2 ++ List.replicate (n + 1 - la2.length) 0)) := by
    have := hu4.out
    rw [splice_words] at this
    exact this
   have hwa := Hwa2.out
   have hlong := long_start (a := a) (b := b) (n := n) (m := p + 1) (by_ := y) (L := la2 ++ List.replicate (n + 1 - la2.length) 0) (by rw [List.length_append, List.length_replicate]; omega) (wd_append.2 ⟨hwa.1, wd_zeros _⟩) (by rw [val_append, val_zeros, Nat.mul_zero, Nat.add_zero]; exact hwa.2)
    (lt_of_len (by rw [Hn.out]; exact Nat.le_refl _)) hy hmn (by rw [← HV.out.1]; exact HV.out.2.2.1)
   rw [← HV.out.1] at hlong
   have Hlong := Lib.hid hlong
   have Hblk := Lib.hid hL0
   have hbel4 := Hbv.out.1.trans (Hb4.out.mono hsz1)
   have Hbel4 := Lib.hid hbel4
   have hrv4 := hrv.below Hb4.out
   have hlt4 := hL0.lt
   have hV0 : 0 < V := by have := HV.out.2.2.1; have h0 : 0 < 4294967296 ^ (p + 1) := Nat.pow_pos (by decide); omega
   clear hlong hL0 hwa hu4 hbel4
   go_wp2_with fail
   go_loopg [13] (n - (p + 1)) (fun k jv wr => ∃ L Q, jv = .int .i64 ((k : Int) - 1) ∧ k ≤ n - (p + 1) ∧ Blk wr w1.heap.size 115 (wcells L) ∧ Blk wr w4.heap.size 115 (wcells Q) ∧ Below w.heap.size w wr ∧ ReadsW wr w1.heap.size Cv (wds V) ∧ Hid (Long (a * 2 ^ y) V n (p + 2) k L Q))
   case atStart => exact ⟨_, _, by congr 1; omega, Nat.le_refl _, Hblk.out.alloc _, Blk.new _ _ _, Hbel4.out.alloc (by have := Hbel4.out.size; omega) _, hrv4.alloc (by omega) _, Hlong.out⟩
   case round =>
    obtain ⟨L, Q, rfl, hkl, hbu, hbq, hbel, hrvr, hLong⟩ := hrel
    by_cases h0 : 0 < gk
    ·obtain ⟨j, rfl⟩ : ∃ j, gk = j + 1 := ⟨gk - 1, by omega⟩
     rw [show (((j + 1 : Nat) : Int) - 1) = (j : Int) by omega]
     have hjm : j + (p + 2) ≤ n := by omega
     have hLl := hLong.out.1
     have hLw := hLong.out.2.1
     obtain ⟨M, hM⟩ : ∃ M, M = (L.drop j).take (p + 3) := ⟨_, rfl⟩
     have hMl : M.length = p + 3 := by rw [hM, List.length_take, List.length_drop]; omega
     have hMw : Wd M := by rw [hM]; exact wd_take (wd_drop hLw j) _
     have hmid : MidW wr w1.heap.size (L.take j) M (L.drop (j + (p + 3))) := by
      unfold MidW
      rw [hM, ← List.drop_drop, List.take_append_drop, List.take_append_drop]
      exact hbu
     have hPl : j = (L.take j).length := by rw [List.length_take]; omega
     have hVm := HV.out.2.2.2.1
     have hmidv := long_mid hLong.out hVm hjm
     rw [show p + 2 + 1 = p + 3 from rfl, ← hM] at hmidv
     have hv1 := HV.out.2.2.2.2
     have hlvl := HV.out.2.1
     rw [at_get (by omega)] at hv1
     have htops := tops_of (p := p) hMw (wd_w V) hMl hlvl (by omega) (by rw [val_w]; exact hmidv.1)
     obtain ⟨vd, rfl, hvb, cv1⟩ := hrvr.at_ (k := p + 1) (by omega)
     obtain ⟨vd', e', _, cv2⟩ := hrvr.at_ (k := p) (by omega)
     injection e' with e'
     subst e'
     rw [add_pos (Nat.succ_ne_zero p)] at cv1
     have cu2 := hmid.cell hPl (i := p + 2) (by omega)
     have cu1 := hmid.cell hPl (i := p + 1) (by omega)
     have cu0 := hmid.cell hPl (i := p) (by omega)
     have bu2 := wd_get hMw (p + 2) (by omega)
     have bu1 := wd_get hMw (p + 1) (by omega)
     have bu0 := wd_get hMw p (by omega)
     have bv1 := wd_get (wd_w V) (p + 1) (by omega)
     have bv2 := wd_get (wd_w V) p (by omega)
     generalize M[p + 2] = u2 at *
     generalize M[p + 1] = u1 at *
     generalize M[p] = u0 at *
     generalize (wds V)[p + 1] = v1 at *
     generalize (wds V)[p] = v2 at *
     have Hmid := Lib.hid (And.intro hM (And.intro hMl (And.intro hMw (And.intro hmid (And.intro hPl (And.intro hmidv htops))))))
     have Hlv := Lib.hid (And.intro hlvl (And.intro hVm hrvr))
     clear hM hMl hMw hmid hPl hmidv htops hLl hLw hVm hlvl hrvr
     have hso := shl_or bu2 bu1
     obtain ⟨T, hT⟩ : ∃ T, T = u2 * 4294967296 + u1 := ⟨_, rfl⟩
     rw [← hT] at hso
     have hTb : T ≤ 18446744073709551615 := by omega
     have HTT := Lib.hid hT
     clear hT
     go_wp2_with fail
     have r1 : IntKind.i64.wrap ((j : Int) + ((p : Int) + 2)) = (j : Int) + ((p : Int) + 2) := IntWalk.i64_in _ (by omega)
     have r2 : ((j : Int) + ((p : Int) + 2)).toNat = j + (p + 2) := by omega
     have r3 : IntKind.i64.wrap ((j : Int) + ((p : Int) + 2) - 1) = (j : Int) + ((p : Int) + 2) - 1 := IntWalk.i64_in _ (by omega)
     have r4 : ((j : Int) + ((p : Int) + 2) - 1).toNat = j + (p + 1) := by omega
     have r5 : IntKind.u64.wrap (u2 : Int) = (u2 : Int) := IntWalk.u64_in _ (by omega)
     have r6 : IntKind.u64.wrap (u1 : Int) = (u1 : Int) := IntWalk.u64_in _ (by omega)
     have r7 : IntKind.u64.wrap ((u2 : Int) * 4294967296) = (u2 : Int) * 4294967296 := IntWalk.u64_in _ (by omega)
     have r8 : (0 : Int) ≤ (j : Int) + ((p : Int) + 2) := by omega
     have r9 : (j : Int) + ((p : Int) + 2) < (n : Int) + 1 := by omega
     have r10 : (0 : Int) ≤ (j : Int) + ((p : Int) + 2) - 1 := by omega
     have r11 : (j : Int) + ((p : Int) + 2) - 1 < (n : Int) + 1 := by omega
     have r12 : (1 : Int) ≤ (j : Int) + ((p : Int) + 2) := by omega
     go_quiet (fail)
     clear r1 r2 r3 r4 r5 r6 r7 r8 r9 r10 r11 r12
     go_wp2_with fail
     have r1 : IntKind.i64.wrap ((p : Int) + 2 - 1) = (p : Int) + 2 - 1 := IntWalk.i64_in _ (by omega)
     have r2 : ((p : Int) + 2 - 1).toNat = p + 1 := by omega
     have r3 : IntKind.u64.wrap (v1 : Int) = (v1 : Int) := IntWalk.u64_in _ (by omega)
     have r4 : (0 : Int) ≤ (p : Int) + 2 - 1 := by omega
     have r5 : (1 : Int) ≤ (p : Int) + 2 := by omega
     have r6 : (p : Int) + 2 - 1 < (p : Int) + 2 := by omega
     have r7 : ¬ v1 = 0 := by omega
     have r8 : ¬ (v1 : Int) = 0 := by omega
     go_quiet (fail)
     clear r1 r2 r3 r4 r5 r6 r7 r8
     go_wp2_with fail
     have hgs := guess_start Hmid.out.2.2.2.2.2.2
     rw [← HTT.out] at hgs
     have hTq : T / v1 ≤ 8589934591 := Nat.le_trans (Nat.div_le_div_left (c := 2147483648) (by omega) (by decide)) (by omega)
     have hTr := Nat.mod_lt T (y := v1) (by omega)
     have hq1 : (T : Int) / (v1 : Int) = ((T / v1 : Nat) : Int) := rfl
     have hq2 : (T : Int) % (v1 : Int) = ((T % v1 : Nat) : Int) := rfl
     rw [hq1, hq2, World.drewN_drewN]
     clear hq1 hq2
     obtain ⟨G0, hG0⟩ : ∃ G0, G0 = T / v1 := ⟨_, rfl⟩
     obtain ⟨R0, hR0⟩ : ∃ R0, R0 = T % v1 := ⟨_, rfl⟩
     rw [← hG0] at hTq
     rw [← hR0] at hTr
     rw [← hG0, ← hR0] at hgs
     rw [← hG0, ← hR0, IntWalk.u64_in _ (by omega)]
     have Hst := Lib.hid hgs
     have HTb := Lib.hid hTb
     clear hG0 hR0 hgs hTb
     go_loopg [15, 16] G0 (fun k qv rv wi => ∃ (g r N : Nat), qv = .int .u64 (g : Int) ∧ rv = .int .u64 (r : Int) ∧ wi = wr.drewN N ∧ k = g ∧ g ≤ 8589934591 ∧ r ≤ 4294967295 ∧ Hid (Guess (val M) (val (wds V)) T v1 g r))
     case atStart => exact ⟨_, _, _, rfl, rfl, rfl, rfl, by omega, by omega, Hst⟩
     case round =>
      obtain ⟨g, r, N, rfl, rfl, rfl, hk, hg, hr, hG⟩ := hrel
      have Hk := Lib.hid hk
      clear hk
      clear hTq hTr
      have s1 : IntKind.i64.wrap ((p : Int) + 2 - 2) = (p : Int) := by rw [show (p : Int) + 2 - 2 = (p : Int) by omega]; exact IntWalk.i64_in _ (by omega)
      by_cases hgB : 4294967296 ≤ g
      ·have hdec : decide ((4294967296 : Int) ≤ (g : Int)) = true := by simp; omega
       obtain ⟨g', rfl⟩ : ∃ g', g = g' + 1 := ⟨g - 1, by omega⟩
       have hd := (guess_down Hmid.out.2.2.2.2.2.2 (by rw [← HTT.out]; exact hG.out) (.inl hgB)).2
       rw [Nat.add_sub_cancel, ← HTT.out] at hd
       have Hd := Lib.hid hd
       clear hd
       have hge : (4294967296 : Int) ≤ (g' : Int) + 1 := by omega
       by_cases hbr : 4294967296 ≤ r + v1
       ·go_wp2_with fail
        go_quiet (fail)
        clear hge hgB
        have hge2 := guess_break Hmid.out.2.2.2.2.2.2 (by rw [← HTT.out]; exact Hd.out) hbr
        have hstp := step_any (w := wr.drewN (N + nq)) (cap := n + 1 - j) (d := d1) (s := j + (p + 2) + 1 - j) (q := g') (show MidW (wr.drewN (N + nq)) _ _ _ _ from Hmid.out.2.2.2.1) (Hlv.out.2.2.drewN (N + nq)) Hmid.out.2.2.2.2.1 Hlv.out.1.symm (by omega) Hmid.out.2.1 Hmid.out.2.2.1 (wd_w V) (by omega) hge2.2 Hd.out.2 (by omega) (by omega)
        unfold Stepped at hstp
        obtain ⟨D, hD⟩ : ∃ D, D = val M / V := ⟨_, rfl⟩
        rw [val_w, ← hD] at hstp
        have hD0 : D ≤ 4294967295 := by
         have := (Nat.div_lt_iff_lt_mul hV0).2 Hmid.out.2.2.2.2.2.1.1
         omega
        have HD0 := Lib.hid (And.intro (show D = val ((L.drop j).take (p + 2 + 1)) / V by rw [hD, Hmid.out.1]) (And.intro hjm hV0))
        have Hstep := Lib.hid hstp
        clear hstp hD hge2
        have hbi : (4294967296 : Int) ≤ (r : Int) + (v1 : Int) := by omega
        clear hbr
        go_wp2_with fail
        refine Hstep.out.mono ?_
        rintro e w7 ⟨M', rfl, hM', hmid', hgr⟩
        have hgl := hgr.size
        have hbq7 := Blk.grown (hbq.drewN (N + nq)) hgr (by intro hh; injection hh with hh; omega)
        have hbel7 : Below w.heap.size w w7 := (below_drewN hbel (N + nq)).grown hgr hbel.size (fun k hk => by injection hk with hk; omega)
        have hrv7 := (Hlv.out.2.2.drewN (N + nq)).grown hgr (Nat.le_refl _) hbu.lt
        have hLs := long_step hLong.out Hlv.out.2.1 HD0.out.2.2 HD0.out.2.1 hM'.out.1 hM'.out.2.1 (by rw [hM'.out.2.2, Hmid.out.1])
        rw [← HD0.out.1] at hLs
        have HLs := Lib.hid hLs
        have hQl : j < Q.length := by have := hLong.out.2.2.1; omega
        have hqc : w7.cell? ⟨w4.heap.size, j, none⟩ = some (.int .u32 ((Q[j] : Nat) : Int)) := by rw [hbq7.cell, wcells_get, List.getElem?_eq_getElem hQl]; rfl
        have hqf := hbq7.frozen j
        have hji : (j : Int) < ((n - (p + 1) : Nat) : Int) := by omega
        clear hLs
        go_wp2
        go_roundg j
        case measure => omega
        case rel =>
         refine ⟨_, Q.set j D, rfl, by omega, Blk.far hmid' (by show w1.heap.size ≠ w4.heap.size; omega) _, ?_, hbel7.setCell (by show w.heap.size ≤ w4.heap.size; omega) _, ReadsW.setCell hrv7 (by show w1.heap.size ≤ w4.heap.size; omega) _, HLs.out.1⟩
         have := hbq7.set_ j (.int .u32 (D : Int))
         rwa [wcells_set] at this
       ·go_wp2_with fail
        go_quiet (fail)
        have hdec2 : decide ((4294967296 : Int) ≤ (r : Int) + (v1 : Int)) = false := by simp; omega
        have hbi : (r : Int) + (v1 : Int) ≤ 4294967295 := by omega
        have Hbr := Lib.hid hbr
        clear hge hgB hbr hdec
        go_wp2
        go_roundg g'
        case measure => have := Hk.out; omega
        case rel => exact ⟨g', r + v1, N + nq, rfl, by congr 1, rfl, rfl, by omega, by have := Hbr.out; omega, Hd.out⟩
      ·have hdec : decide ((4294967296 : Int) ≤ (g : Int)) = false := by simp; omega
       have hso2 := shl_or (r := r) (x := u0) (by omega) bu0
       obtain ⟨R, hR⟩ : ∃ R, R = r * 4294967296 + u0 := ⟨_, rfl⟩
       rw [← hR] at hso2
       have hRb : R ≤ 18446744073709551615 := by omega
       have hmb := mul_bound (x := g) (y := v2) (by omega) bv2
       obtain ⟨hmb0, hmb1⟩ := hmb
       have hcast := Lib.hid (Int.natCast_mul g v2)
       have HR := Lib.hid hR
       have r1 : IntKind.u64.wrap ((g : Int) * (v2 : Int)) = (g : Int) * (v2 : Int) := IntWalk.u64_in _ (by omega)
       have r2 : (0 : Int) ≤ (j : Int) + ((p : Int) + 2) - 2 := by omega
       have r3 : (j : Int) + ((p : Int) + 2) - 2 < (n : Int) + 1 := by omega
       have r4 : ((j : Int) + ((p : Int) + 2) - 2).toNat = j + p := by omega
       have r5 : IntKind.i64.wrap ((j : Int) + ((p : Int) + 2) - 2) = (j : Int) + ((p : Int) + 2) - 2 := IntWalk.i64_in _ (by omega)
       have r6 : (2 : Int) ≤ (j : Int) + ((p : Int) + 2) := by omega
       clear hR
       by_cases ht : R < g * v2
       ·have hti : (R : Int) < (g : Int) * (v2 : Int) := by rw [← hcast.out]; omega
        have hdt : decide ((R : Int) < (g : Int) * (v2 : Int)) = true := by simp; exact hti
        go_wp2_with fail
        go_quiet (fail)
        have hd0 := guess_down Hmid.out.2.2.2.2.2.2 (by rw [← HTT.out]; exact hG.out) (.inr (by rw [← HR.out]; exact ht))
        obtain ⟨g', rfl⟩ : ∃ g', g = g' + 1 := ⟨g - 1, by omega⟩
        have hd := hd0.2
        rw [Nat.add_sub_cancel, ← HTT.out] at hd
        have Hd := Lib.hid hd
        clear r1 r2 r3 r4 r5 r6 hdec hso2 hti hdt hmb0 hmb1 ht hRb
        clear hd hd0 hcast
        have hgB2 : g' ≤ 4294967294 := by omega
        clear hgB
        by_cases hbr : 4294967296 ≤ r + v1
        ·have hge2 := guess_break Hmid.out.2.2.2.2.2.2 (by rw [← HTT.out]; exact Hd.out) hbr
         have hstp := step_any (w := wr.drewN (N + nq)) (cap := n + 1 - j) (d := d1) (s := j + (p + 2) + 1 - j) (q := g') (show MidW (wr.drewN (N + nq)) _ _ _ _ from Hmid.out.2.2.2.1) (Hlv.out.2.2.drewN (N + nq)) Hmid.out.2.2.2.2.1 Hlv.out.1.symm (by omega) Hmid.out.2.1 Hmid.out.2.2.1 (wd_w V) (by omega) hge2.2 Hd.out.2 (by omega) (by omega)
         unfold Stepped at hstp
         obtain ⟨D, hD⟩ : ∃ D, D = val M / V := ⟨_, rfl⟩
         rw [val_w, ← hD] at hstp
         have hD0 : D ≤ 4294967295 := by
          have := (Nat.div_lt_iff_lt_mul hV0).2 Hmid.out.2.2.2.2.2.1.1
          omega
         have HD0 := Lib.hid (And.intro (show D = val ((L.drop j).take (p + 2 + 1)) / V by rw [hD, Hmid.out.1]) (And.intro hjm hV0))
         have Hstep := Lib.hid hstp
         clear hstp hD hge2
         have hbi : (4294967296 : Int) ≤ (r : Int) + (v1 : Int) := by omega
         clear hbr
         go_wp2_with fail
         refine Hstep.out.mono ?_
         rintro e w7 ⟨M', rfl, hM', hmid', hgr⟩
         have hgl := hgr.size
         have hbq7 := Blk.grown (hbq.drewN (N + nq)) hgr (by intro hh; injection hh with hh; omega)
         have hbel7 : Below w.heap.size w w7 := (below_drewN hbel (N + nq)).grown hgr hbel.size (fun k hk => by injection hk with hk; omega)
         have hrv7 := (Hlv.out.2.2.drewN (N + nq)).grown hgr (Nat.le_refl _) hbu.lt
         have hLs := long_step hLong.out Hlv.out.2.1 HD0.out.2.2 HD0.out.2.1 hM'.out.1 hM'.out.2.1 (by rw [hM'.out.2.2, Hmid.out.1])
         rw [← HD0.out.1] at hLs
         have HLs := Lib.hid hLs
         have hQl : j < Q.length := by have := hLong.out.2.2.1; omega
         have hqc : w7.cell? ⟨w4.heap.size, j, none⟩ = some (.int .u32 ((Q[j] : Nat) : Int)) := by rw [hbq7.cell, wcells_get, List.getElem?_eq_getElem hQl]; rfl
         have hqf := hbq7.frozen j
         have hji : (j : Int) < ((n - (p + 1) : Nat) : Int) := by omega
         clear hLs
         go_wp2
         go_roundg j
         case measure => omega
         case rel =>
          refine ⟨_, Q.set j D, rfl, by omega, Blk.far hmid' (by show w1.heap.size ≠ w4.heap.size; omega) _, ?_, hbel7.setCell (by show w.heap.size ≤ w4.heap.size; omega) _, ReadsW.setCell hrv7 (by show w1.heap.size ≤ w4.heap.size; omega) _, HLs.out.1⟩
          have := hbq7.set_ j (.int .u32 (D : Int))
          rwa [wcells_set] at this
        ·have hdec2 : decide ((4294967296 : Int) ≤ (r : Int) + (v1 : Int)) = false := by simp; omega
         have hbi : (r : Int) + (v1 : Int) ≤ 4294967295 := by omega
         have Hbr := Lib.hid hbr
         clear hbr
         go_wp2
         go_roundg g'
         case measure => have := Hk.out; omega
         case rel => exact ⟨g', r + v1, N + nq, rfl, by congr 1, rfl, rfl, by omega, by have := Hbr.out; omega, Hd.out⟩
       ·have hti : (g : Int) * (v2 : Int) ≤ (R : Int) := by rw [← hcast.out]; omega
        have hdt : decide ((R : Int) < (g : Int) * (v2 : Int)) = false := by simp; exact hti
        go_wp2_with fail
        go_quiet (fail)
        have hge2 : g < 4294967296 ∧ g * val (wds V) < val M + val (wds V) := ⟨by omega, guess_end Hmid.out.2.2.2.2.2.2 (by rw [← HTT.out]; exact hG.out) (by omega) (by rw [← HR.out]; omega)⟩
        have Hd := hG
        clear r1 r2 r3 r4 r5 r6 hdec hso2 hti hdt hmb0 hmb1 ht hRb
        clear hcast
        have hgB2 : g ≤ 4294967295 := by omega
        clear hgB
        have hstp := step_any (w := wr.drewN (N + nq)) (cap := n + 1 - j) (d := d1) (s := j + (p + 2) + 1 - j) (q := g) (show MidW (wr.drewN (N + nq)) _ _ _ _ from Hmid.out.2.2.2.1) (Hlv.out.2.2.drewN (N + nq)) Hmid.out.2.2.2.2.1 Hlv.out.1.symm (by omega) Hmid.out.2.1 Hmid.out.2.2.1 (wd_w V) (by omega) hge2.2 Hd.out.2 (by omega) (by omega)
        unfold Stepped at hstp
        obtain ⟨D, hD⟩ : ∃ D, D = val M / V := ⟨_, rfl⟩
        rw [val_w, ← hD] at hstp
        have hD0 : D ≤ 4294967295 := by
         have := (Nat.div_lt_iff_lt_mul hV0).2 Hmid.out.2.2.2.2.2.1.1
         omega
        have HD0 := Lib.hid (And.intro (show D = val ((L.drop j).take (p + 2 + 1)) / V by rw [hD, Hmid.out.1]) (And.intro hjm hV0))
        have Hstep := Lib.hid hstp
        clear hstp hD hge2
        go_wp2_with fail
        refine Hstep.out.mono ?_
        rintro e w7 ⟨M', rfl, hM', hmid', hgr⟩
        have hgl := hgr.size
        have hbq7 := Blk.grown (hbq.drewN (N + nq)) hgr (by intro hh; injection hh with hh; omega)
        have hbel7 : Below w.heap.size w w7 := (below_drewN hbel (N + nq)).grown hgr hbel.size (fun k hk => by injection hk with hk; omega)
        have hrv7 := (Hlv.out.2.2.drewN (N + nq)).grown hgr (Nat.le_refl _) hbu.lt
        have hLs := long_step hLong.out Hlv.out.2.1 HD0.out.2.2 HD0.out.2.1 hM'.out.1 hM'.out.2.1 (by rw [hM'.out.2.2, Hmid.out.1])
        rw [← HD0.out.1] at hLs
        have HLs := Lib.hid hLs
        have hQl : j < Q.length := by have := hLong.out.2.2.1; omega
        have hqc : w7.cell? ⟨w4.heap.size, j, none⟩ = some (.int .u32 ((Q[j] : Nat) : Int)) := by rw [hbq7.cell, wcells_get, List.getElem?_eq_getElem hQl]; rfl
        have hqf := hbq7.frozen j
        have hji : (j : Int) < ((n - (p + 1) : Nat) : Int) := by omega
        clear hLs
        go_wp2
        go_roundg j
        case measure => omega
        case rel =>
         refine ⟨_, Q.set j D, rfl, by omega, Blk.far hmid' (by show w1.heap.size ≠ w4.heap.size; omega) _, ?_, hbel7.setCell (by show w.heap.size ≤ w4.heap.size; omega) _, ReadsW.setCell hrv7 (by show w1.heap.size ≤ w4.heap.size; omega) _, HLs.out.1⟩
         have := hbq7.set_ j (.int .u32 (D : Int))
         rwa [wcells_set] at this
    ·have hk0 : gk = 0 := by omega
     subst hk0
     have hlo := hLong.out
     have hVm := HV.out.2.2.2.1
     have hlo2 := hlo
     have hvl : val (L.take (p + 2)) = val L := by
      have h7 := hlo.2.2.2.2.2.2
      rw [Nat.pow_zero, Nat.mul_one] at h7
      have hz := drop_zero (L := L) (i := p + 2) (by have := hlo.1; omega) (by omega)
      have e := val_split L (p + 2) (by have := hlo.1; omega)
      rw [hz, Nat.mul_zero, Nat.add_zero] at e
      exact e.symm
     rw [HV.out.1] at hlo2 hVm
     have hend := long_end hlo2 hVm hmn (Nat.two_pow_pos y)
     have hHQ : ∀ w' : World, Blk w' w4.heap.size 115 (wcells Q) → Calls Tryz.prog 131 #[.slice (some ⟨w4.heap.size, 0, none⟩) (n - (p + 1)) (n - (p + 1))] w' (fun e w'' => e = .returned (.slice (some ⟨w4.heap.size, 0, none⟩) (wds (a / b)).length (n - (p + 1))) ∧ w' = w'') := fun w' hq =>
      (cut_any (reads_blk hq hq.lt) (n := n - (p + 1)) (by have := hlo.2.2.1; omega) (Nat.le_refl _) (by omega) hlo.2.2.2.1).mono fun e w'' ⟨m, he, hm, hw⟩ => ⟨by rw [he, hm, hend.1], hw.symm⟩
     have hHU : ∀ w' : World, Blk w' w1.heap.size 115 (wcells L) → Calls Tryz.prog 131 #[.slice (some ⟨w1.heap.size, 0, none⟩) (p + 2) (n + 1)] w' (fun e w'' => e = .returned (.slice (some ⟨w1.heap.size, 0, none⟩) (wds (val (L.take (p + 2)))).length (n + 1)) ∧ w' = w'') := fun w' hq =>
      (cut_any ((reads_blk hq hq.lt).take (p + 2)) (n := p + 2) (by rw [List.length_take]; have := hlo.1; omega) (by omega) (by omega) (wd_take hlo.2.1 _)).mono fun e w'' ⟨m, he, hm, hw⟩ => ⟨by rw [he, hm], hw.symm⟩
     have hml : (wds (val (L.take (p + 2)))).length ≤ p + 2 := by
      have h3 := (wds_take _ _ rfl (wd_take hlo.2.1 (p + 2))).2
      rw [List.length_take] at h3
      omega
     have hHR : ∀ w' : World, Blk w' w1.heap.size 115 (wcells L) → Calls Tryz.prog 140 #[.slice (some ⟨w1.heap.size, 0, none⟩) (wds (val (L.take (p + 2)))).length (n + 1), .int .i64 (y : Int)] w' (CutW w' (a % b)) := fun w' hq => by
      have h3 := right_any (reads_cut ((reads_blk hq hq.lt).take (p + 2)) (wd_take hlo.2.1 _)) (Nat.le_refl _) rfl (n := y) (c := n + 1) (by omega) (by omega) (by omega) (wd_w _)
      rw [val_w, hend.2] at h3
      exact h3
     obtain ⟨mU, hmU⟩ : ∃ mU, mU = (wds (val (L.take (p + 2)))).length := ⟨_, rfl⟩
     obtain ⟨mQ, hmQ⟩ : ∃ mQ, mQ = (wds (a / b)).length := ⟨_, rfl⟩
     rw [← hmU] at hHU hHR
     rw [← hmQ] at hHQ
     have hmQl : mQ ≤ n - (p + 1) := by
      rw [hmQ, ← hend.1]
      have h3 := (wds_take _ _ rfl hlo.2.2.2.1).2
      have := hlo.2.2.1
      omega
     have hrq : ∀ w' : World, Blk w' w4.heap.size 115 (wcells Q) → ReadsW w' w'.heap.size (some ⟨w4.heap.size, 0, none⟩) (wds (a / b)) := fun w' hq => by
      have h3 := reads_cut (reads_blk hq hq.lt) hlo.2.2.2.1
      rw [hend.1] at h3
      exact h3
     have HHQ := Lib.hid hHQ
     have HHU := Lib.hid hHU
     have HHR := Lib.hid hHR
     have Hmq := Lib.hid (And.intro hmQ hrq)
     clear hHQ hHU hHR hmU hmQ hml hend hvl hlo hlo2 hVm hrq
     go_wp2_with fail
     have hs0 : (0 : Int) ≤ (p : Int) + 2 := by omega
     have hs1 : (p : Int) + 2 ≤ (n : Int) + 1 := by omega
     have hs2 : ((p : Int) + 2).toNat = p + 2 := by omega
     go_region_held3 (fun w' => Blk w' w1.heap.size 115 (wcells L) ∧ Blk w' w4.heap.size 115 (wcells Q) ∧ Below w.heap.size w w')
      (first | exact ⟨hbu.drew, hbq.drew, hbel.drew⟩ | exact ⟨hbu5, hbq5, hbel5⟩ | exact ⟨hbu, hbq, hbel⟩)
      (first
       | (go_at_call 131; (first | (with_reducible refine (HHQ.out _ (by first | exact hbq.drew | exact hbq5)).mono ?_) | (with_reducible refine (HHU.out _ (by first | exact hbu.drew | exact hbu5)).mono ?_)); rintro e w' ⟨rfl, rfl⟩)
       | (go_at_call 140; refine (HHR.out _ (by first | exact hbu.drew | exact hbu5)).mono ?_; rintro e w5 ⟨A2, m2, c2, rfl, hm2, hc2, hc2b, hr2, hbR⟩; have hbu5 := hbu.drew.below hbR hbu.lt; have hbq5 := hbq.drew.below hbR hbq.lt; have hbel5 := hbel.drew.trans (hbR.mono hbel.size)))
     clear hs0 hs1 hs2
     go_wp2_with fail
     go_ret2
     exact ⟨_, _, _, _, _, _, rfl, ⟨Hmq.out.1, hm2.out⟩, hmQl, hc2, by omega, hc2b, Hmq.out.2 w5 hbq5, hr2, hbel5⟩
theorem divide_any {w : World} {B n m c d a b : Nat} {A C : Option Addr} (h1 : ReadsW w B A (wds a)) (h2 : ReadsW w B C (wds b)) (hB : B ≤ w.heap.size) (hn : n = (wds a).length) (hm : m = (wds b).length) (hnl : n ≤ 900000000) (hml : m ≤ 900000000) (hnc : n ≤ c) (hcl : c ≤ 9223372036854775807) (hmc : m ≤ d) (hdl : d ≤ 9223372036854775807) (hb : 0 < b) :
  Calls Tryz.prog 132 #[.slice A n c, .slice C m d] w (Div2 w (a / b) (a % b)) := by
 rcases Nat.lt_or_ge a b with h | h
 ·exact divide_lt h1 h2 hB hn hm hnc hcl (by omega) (by omega) h
 ·rcases (show m = 0 ∨ m = 1 ∨ 2 ≤ m by omega) with h0 | h0 | h0
  ·exfalso
   rw [wds_pos hb] at hm
   simp at hm
   omega
  ·exact divide_one h1 h2 hB hn hm (by omega) (by omega) h h0
  ·exact divide_long h1 h2 hB hn hm hnl hml hmc hdl h (show m = (m - 2) + 2 by omega)
end Go.Proofs.YtebpggfccljagaaGreat
namespace Go.Proofs.YtebpggfccljagaaGreat
open Go Go.RowKit
section
variable {P : Program} {ops : Array Oper} {Q : Exit → Act → World → Prop} {md : Region.Mode} {C : World → Prop} {k : Nat}
def Closed (md : Region.Mode) (ops : Array Oper) (L : Array Bool) : Prop := ∀ j oj, ops[j]? = some oj → L.getD j false = true → ∀ e ∈ oj.after, Region.binds md e = true → L.getD e.on false = true
def deps (md : Region.Mode) (ops : Array Oper) : Nat → Nat → Nat → Bool
 | 0, _, _ => false
 | f + 1, j, i => match ops[j]? with
  | none => false
  | some oj => oj.after.any fun e => Region.binds md e && (e.on == i || deps md ops f e.on i)
def depsAll (md : Region.Mode) (ops : Array Oper) (k i : Nat) : Bool := (List.range ops.size).all fun j => decide (j < k) || deps md ops ops.size j i
theorem deps_of_edges {L : Array Bool} {i : Nat} (hc : Closed md ops L) : ∀ (f j : Nat), deps md ops f j i = true → (∀ oj, ops[j]? = some oj → ∀ e ∈ oj.after, Region.binds md e = true → L.getD e.on false = true) → L.getD i false = true
 | 0, _, h, _ => by cases h
 | f + 1, j, h, hl => by
  unfold deps at h
  cases ho : ops[j]? with
  | none => rw [ho] at h; cases h
  | some oj =>
   rw [ho] at h
   simp only [Array.any_eq_true'] at h
   obtain ⟨e, he, h⟩ := h
   rw [Bool.and_eq_true, Bool.or_eq_true] at h
   obtain ⟨hb, h⟩ := h
   have h1 := hl oj ho e he hb
   rcases h with h | h
   ·rw [beq_iff_eq] at h; rw [← h]; exact h1
   ·exact deps_of_edges hc f e.on h fun oj' ho' e' he' hb' => hc e.on oj' ho' h1 e' he' hb'
theorem closed_start (n : Nat) : Closed md ops (Array.replicate n false) := fun j oj _ h => by
 exfalso
 rw [Array.getD_eq_getD_getElem?, Array.getElem?_replicate] at h
 split at h <;> simp at h
theorem closed_set {L : Array Bool} {i : Nat} (hc : Closed md ops L) (hr : i ∈ Region.ready md ops L) : Closed md ops (L.setIfInBounds i true) := fun j oj ho hl e he hb => by
 by_cases hij : i = j
 ·subst hij
  obtain ⟨_, o, ho', hall⟩ := mem_ready.1 hr
  rw [ho] at ho'
  injection ho' with ho'
  subst ho'
  exact getD_set_true (hall e he hb)
 ·rw [getD_set_ne false hij] at hl
  exact getD_set_true (hc j oj ho hl e he hb)
def wpAnyK (P : Program) (md : Region.Mode) (ops : Array Oper) (Q : Exit → Act → World → Prop) (C : World → Prop) (k : Nat) : Nat → Array Bool → Act → World → Prop
 | 0, listed, a, w => Region.ready md ops listed = [] ∧ Q .normal a w
 | fuel + 1, listed, a, w =>
  (Region.ready md ops listed = [] → Q .normal a w) ∧
  ∀ i ∈ Region.ready md ops listed, wpOp P ops Q i (fun a' w' => (i < k → C w → C w') ∧ wpAnyK P md ops Q C k fuel (listed.setIfInBounds i true) a' w') a w
theorem wpAny_of_K : ∀ (fuel : Nat) (listed : Array Bool) (a : Act) (w : World), wpAnyK P md ops Q C k fuel listed a w → wpAny P md ops Q fuel listed a w
 | 0, _, _, _, h => h
 | fuel + 1, _, _, _, h => ⟨h.1, fun i hi => wpOp_mono (fun a' w' h' => wpAny_of_K fuel _ a' w' h'.2) (h.2 i hi)⟩
theorem wpAnyK_first {i : Nat} {oi : Oper} {v : Value} (hi : ops[i]? = some oi) (hsel : ∀ (j : Nat) (o : Oper) cs b, ops[j]? = some o → o.op ≠ .select cs b)
  (hQ : ∀ c a w, Q (.panic c) (a.put oi.dst v) w → Q (.panic c) a w) (hdp : depsAll md ops k i = true) :
  ∀ (fuel : Nat) (listed : Array Bool) (a : Act) (w : World), Closed md ops listed →
   (∀ j oj, ops[j]? = some oj → j ≠ i → listed.getD j true = false → (∀ e ∈ oj.after, Region.binds md e = true → e.on ≠ i) → oi.apart ops oj = true) →
   i ∈ Region.ready md ops listed → YieldsIf P ops C oi v a → C w →
   wpAnyK P md ops Q C k fuel (listed.setIfInBounds i true) (a.put oi.dst v) w → wpAnyK P md ops Q C k (fuel + 1) listed a w := by
 intro fuel
 induction fuel with
 | zero =>
  intro listed a w _ _ hr hy hC H
  refine ⟨fun h => (by rw [h] at hr; cases hr), fun j hj => ?_⟩
  by_cases hji : j = i
  ·subst hji; exact hy.wpOp hi hC ⟨fun _ _ => hC, H⟩
  ·have := ready_mono hj hji
   rw [H.1] at this
   cases this
 | succ fuel ih =>
  intro listed a w hcl hfree hr hy hC H
  refine ⟨fun h => (by rw [h] at hr; cases hr), fun j hj => ?_⟩
  by_cases hji : j = i
  ·subst hji; exact hy.wpOp hi hC ⟨fun _ _ => hC, H⟩
  ·have h1 := H.2 j (ready_mono hj hji)
   obtain ⟨hjun, oj, hoj, hall⟩ := mem_ready.1 hj
   have hnl : listed.getD i true = false := (mem_ready.1 hr).1
   have hnot : ∀ e ∈ oj.after, Region.binds md e = true → e.on ≠ i := fun e he hb heq => by
    have h1 := hall e he hb
    rw [heq] at h1
    rcases Nat.lt_or_ge i listed.size with h' | h'
    ·simp [h'] at hnl h1; rw [hnl] at h1; cases h1
    ·simp [Array.getElem?_eq_none h'] at h1
   have hjk : j < k := by
    rcases Nat.lt_or_ge j k with h | h
    ·exact h
    ·exfalso
     unfold depsAll at hdp
     rw [List.all_eq_true] at hdp
     have h2 := hdp j (List.mem_range.2 (Array.getElem?_eq_some_iff.1 hoj).1)
     have h3 : decide (j < k) = false := by simpa using h
     rw [h3, Bool.false_or] at h2
     have h4 := deps_of_edges hcl ops.size j h2 (fun oj' ho' e he hb => by
      rw [hoj] at ho'
      injection ho' with ho'
      subst ho'
      exact hall e he hb)
     rcases Nat.lt_or_ge i listed.size with h' | h'
     ·simp [h'] at hnl h4; rw [hnl] at h4; cases h4
     ·simp [Array.getElem?_eq_none h'] at h4
   have h2 := wpOp_putIf hoj (hfree j oj hoj hji hjun hnot) (fun cs b => hsel i oi cs b hi) (fun cs b => hsel j oj cs b hoj) hQ hy h1
   have hfree' : ∀ q ok, ops[q]? = some ok → q ≠ i → (listed.setIfInBounds j true).getD q true = false →
     (∀ e ∈ ok.after, Region.binds md e = true → e.on ≠ i) → oi.apart ops ok = true := fun q ok hk hki hun hno => by
    refine hfree q ok hk hki ?_ hno
    by_cases hjq : j = q
    ·subst hjq; exact hjun
    ·rw [getD_set_ne true hjq] at hun; exact hun
   refine wpOp_mono (fun a' w' h3 => ⟨h3.2.1, ih (listed.setIfInBounds j true) a' w' (closed_set hcl hj) hfree' (ready_mono hr (Ne.symm hji)) h3.1 (h3.2.1 hjk hC) ?_⟩) h2
   rw [Array.setIfInBounds_comm _ _ hji]
   exact h3.2.2
theorem wpAnyK_pure {i : Nat} {oi : Oper} {v : Value} (hi : ops[i]? = some oi) (hsel : ∀ (j : Nat) (o : Oper) cs b, ops[j]? = some o → o.op ≠ .select cs b)
  (hQ : ∀ c a w, Q (.panic c) (a.put oi.dst v) w → Q (.panic c) a w) :
  ∀ (fuel : Nat) (listed : Array Bool) (a : Act) (w : World),
   (∀ j oj, ops[j]? = some oj → j ≠ i → listed.getD j true = false → (∀ e ∈ oj.after, Region.binds md e = true → e.on ≠ i) → oi.apart ops oj = true) →
   i ∈ Region.ready md ops listed → YieldsIf P ops (fun _ => True) oi v a →
   wpAnyK P md ops Q C k fuel (listed.setIfInBounds i true) (a.put oi.dst v) w → wpAnyK P md ops Q C k (fuel + 1) listed a w := by
 intro fuel
 induction fuel with
 | zero =>
  intro listed a w _ hr hy H
  refine ⟨fun h => (by rw [h] at hr; cases hr), fun j hj => ?_⟩
  by_cases hji : j = i
  ·subst hji; exact hy.wpOp hi trivial ⟨fun _ h => h, H⟩
  ·have := ready_mono hj hji
   rw [H.1] at this
   cases this
 | succ fuel ih =>
  intro listed a w hfree hr hy H
  refine ⟨fun h => (by rw [h] at hr; cases hr), fun j hj => ?_⟩
  by_cases hji : j = i
  ·subst hji; exact hy.wpOp hi trivial ⟨fun _ h => h, H⟩
  ·have h1 := H.2 j (ready_mono hj hji)
   obtain ⟨hjun, oj, hoj, hall⟩ := mem_ready.1 hj
   have hnl : listed.getD i true = false := (mem_ready.1 hr).1
   have hnot : ∀ e ∈ oj.after, Region.binds md e = true → e.on ≠ i := fun e he hb heq => by
    have h1 := hall e he hb
    rw [heq] at h1
    rcases Nat.lt_or_ge i listed.size with h' | h'
    ·simp [h'] at hnl h1; rw [hnl] at h1; cases h1
    ·simp [Array.getElem?_eq_none h'] at h1
   have h2 := wpOp_putIf hoj (hfree j oj hoj hji hjun hnot) (fun cs b => hsel i oi cs b hi) (fun cs b => hsel j oj cs b hoj) hQ hy h1
   have hfree' : ∀ q ok, ops[q]? = some ok → q ≠ i → (listed.setIfInBounds j true).getD q true = false →
     (∀ e ∈ ok.after, Region.binds md e = true → e.on ≠ i) → oi.apart ops ok = true := fun q ok hk hki hun hno => by
    refine hfree q ok hk hki ?_ hno
    by_cases hjq : j = q
    ·subst hjq; exact hjun
    ·rw [getD_set_ne true hjq] at hun; exact hun
   refine wpOp_mono (fun a' w' h3 => ⟨h3.2.1, ih (listed.setIfInBounds j true) a' w' hfree' (ready_mono hr (Ne.symm hji)) h3.1 ?_⟩) h2
   rw [Array.setIfInBounds_comm _ _ hji]
   exact h3.2.2
def wpHK (P : Program) (md : Region.Mode) (ops : Array Oper) (Q : Exit → Act → World → Prop) (C : World → Prop) (k : Nat) (fuel : Nat) (listed : Array Bool) (a : Act) (w : World) : Prop := Closed md ops listed → wpAnyK P md ops Q C k fuel listed a w
theorem wpHK_take {i : Nat} {oi : Oper} {v : Value} {fuel : Nat} {listed : Array Bool} {a : Act} {w : World} (hi : ops[i]? = some oi)
  (hs : Region.noSelect ops = true) (hf : Region.free md ops listed i = true) (hr : (Region.ready md ops listed).contains i = true) (hdp : depsAll md ops k i = true)
  (hQ : ∀ c a w, Q (.panic c) (a.put oi.dst v) w → Q (.panic c) a w) (hy : YieldsIf P ops C oi v a) (hC : C w)
  (h : wpHK P md ops Q C k fuel (listed.setIfInBounds i true) (a.put oi.dst v) w) : wpHK P md ops Q C k (fuel + 1) listed a w := fun hcl =>
 wpAnyK_first hi (Region.noSelect_spec hs) hQ hdp fuel listed a w hcl (Region.free_spec hi hf) (by simpa using hr) hy hC (h (closed_set hcl (by simpa using hr)))
theorem wpHK_pure {i : Nat} {oi : Oper} {v : Value} {fuel : Nat} {listed : Array Bool} {a : Act} {w : World} (hi : ops[i]? = some oi)
  (hs : Region.noSelect ops = true) (hf : Region.free md ops listed i = true) (hr : (Region.ready md ops listed).contains i = true)
  (hQ : ∀ c a w, Q (.panic c) (a.put oi.dst v) w → Q (.panic c) a w) (hy : YieldsIf P ops (fun _ => True) oi v a)
  (h : wpHK P md ops Q C k fuel (listed.setIfInBounds i true) (a.put oi.dst v) w) : wpHK P md ops Q C k (fuel + 1) listed a w := fun hcl =>
 wpAnyK_pure hi (Region.noSelect_spec hs) hQ fuel listed a w (Region.free_spec hi hf) (by simpa using hr) hy (h (closed_set hcl (by simpa using hr)))
theorem wpHK_one {j : Nat} {o : Oper} {fuel : Nat} {listed : Array Bool} {a : Act} {w : World} (ho : ops[j]? = some o) (hr : Region.ready md ops listed = [j])
  (h : ∀ K' : Act → World → Prop, Shut (∀ a w, C w → (C w → wpHK P md ops Q C k fuel (listed.setIfInBounds j true) a w) → K' a w) → if Region.wanted o (yielded ops a.tmps) = true then Oper.wp P o a w K' Q else K' (a.put o.dst undef) w) :
  wpHK P md ops Q C k (fuel + 1) listed a w := fun hcl =>
 ⟨fun h0 => (by rw [hr] at h0; cases h0), fun i hi => by
  have hm := hi
  rw [hr] at hi
  simp only [List.mem_singleton] at hi
  subst hi
  exact wpOp_step ho (fun K' hK => h K' (fun a w hC hW => hK a w ⟨fun _ _ => hC, hW hC (closed_set hcl hm)⟩))⟩
theorem wpHK_tail {j : Nat} {o : Oper} {fuel : Nat} {listed : Array Bool} {a : Act} {w : World} (ho : ops[j]? = some o) (hr : Region.ready md ops listed = [j]) (hk : k ≤ j)
  (h : ∀ K' : Act → World → Prop, Shut (∀ a w, wpHK P md ops Q C k fuel (listed.setIfInBounds j true) a w → K' a w) → if Region.wanted o (yielded ops a.tmps) = true then Oper.wp P o a w K' Q else K' (a.put o.dst undef) w) :
  wpHK P md ops Q C k (fuel + 1) listed a w := fun hcl =>
 ⟨fun h0 => (by rw [hr] at h0; cases h0), fun i hi => by
  have hm := hi
  rw [hr] at hi
  simp only [List.mem_singleton] at hi
  subst hi
  exact wpOp_step ho (fun K' hK => h K' (fun a w hW => hK a w ⟨fun h0 => absurd h0 (by omega), hW (closed_set hcl hm)⟩))⟩
theorem wpHK_assign {j : Nat} {o : Oper} {x : Operand} {fuel : Nat} {listed : Array Bool} {a : Act} {w : World} (ho : ops[j]? = some o) (hr : Region.ready md ops listed = [j]) (hk : k ≤ j) (hop : o.op = .assign x) (hg : o.guard = none)
  (h : wpHK P md ops Q C k fuel (listed.setIfInBounds j true) (a.put o.dst (a.eval x)) w) :
  wpHK P md ops Q C k (fuel + 1) listed a w := wpHK_tail ho hr hk fun K' hK => by
 have hw : Region.wanted o (yielded ops a.tmps) = true := by simp [Region.wanted, hg]
 rw [if_pos hw]
 unfold Oper.wp execOp
 simp only [hop, Sem.run_pure]
 exact hK.out _ _ h
theorem wpHK_done {listed : Array Bool} {a : Act} {w : World} (hr : Region.ready md ops listed = []) (h : Q .normal a w) : ∀ fuel, wpHK P md ops Q C k fuel listed a w
 | 0 => fun _ => ⟨hr, h⟩
 | _ + 1 => fun _ => ⟨fun _ => h, by rw [hr]; simp⟩
theorem wp_region_HK {id : Nat} {a : Act} {w : World} (C : World → Prop) (k : Nat) (hm : P.follows .mixedOrders = true) (hC : C w.drew)
  (h : C w.drew → wpHK P .any ops Q C k ops.size (Array.replicate ops.size false) a w.drew) : (Code.region id ops true).wp P Q a w :=
 wp_region_any hm (wpAny_of_K _ _ _ _ (h hC (closed_start _)))
end
end Go.Proofs.YtebpggfccljagaaGreat
namespace Go.Proofs.YtebpggfccljagaaGreat
open Go.RowKit
open Wh
def sgn (neg : Bool) (n : Nat) : Int := if neg then -(n : Int) else (n : Int)
theorem sgn_abs (neg : Bool) (n : Nat) : (sgn neg n).natAbs = n := by unfold sgn; cases neg <;> simp
theorem sgn_neg (neg : Bool) (n : Nat) : decide (sgn neg n < 0) = (neg && decide (0 < n)) := by
 unfold sgn
 cases neg <;> simp
theorem sgn_of (z : Int) : sgn (decide (z < 0)) z.natAbs = z := by
 unfold sgn
 by_cases h : z < 0
 ·simp [h]; omega
 ·simp [h]; omega
def icells (s : Bool) (A : Option Addr) (n c : Nat) : Array Value := #[.bool s, .slice A n c]
def IntB (w : World) (g : Nat) (z : Int) : Prop := ∃ s A n c, Blk w g 151 (icells s A n c) ∧ Hid (s = decide (z < 0) ∧ n = (wds z.natAbs).length) ∧ n ≤ c ∧ c ≤ 9223372036854775807 ∧ ReadsW w w.heap.size A (wds z.natAbs)
def IntS (w : World) (g : Nat) : Prop := ∃ s A n c, Blk w g 151 (icells s A n c)
theorem IntB.slot {w : World} {g : Nat} {z : Int} (h : IntB w g z) : IntS w g := by
 obtain ⟨s, A, n, c, hb, _⟩ := h
 exact ⟨s, A, n, c, hb⟩
theorem IntS.lt {w : World} {g : Nat} (h : IntS w g) : g < w.heap.size := by
 obtain ⟨s, A, n, c, hb⟩ := h
 exact hb.lt
theorem IntB.lt {w : World} {g : Nat} {z : Int} (h : IntB w g z) : g < w.heap.size := h.slot.lt
theorem ReadsW.off {w w' : World} {B g : Nat} {A : Option Addr} {l : List Nat} (h : ReadsW w B A l) (hi : IntS w g) (hg : w.grownBy w' (some g)) (hB : B ≤ w.heap.size) : ReadsW w' B A l := by
 obtain ⟨s, A', n, c, hblk⟩ := hi
 refine h.other hg hB fun r e => ?_
 injection e with e
 subst e
 exact ⟨_, _, _, hblk, by decide⟩
theorem IntB.off {w w' : World} {g r : Nat} {z : Int} (h : IntB w g z) (hi : IntS w r) (hg : w.grownBy w' (some r)) (hne : g ≠ r) : IntB w' g z := by
 obtain ⟨s, A, n, c, hb, h1, h2, h3, hr⟩ := h
 exact ⟨s, A, n, c, hb.grown hg (by intro hh; injection hh with hh; exact hne hh), h1, h2, h3, (hr.off hi hg (Nat.le_refl _)).more hg.size⟩
theorem IntB.below {w w' : World} {g : Nat} {z : Int} (h : IntB w g z) (hb : Below w.heap.size w w') : IntB w' g z := by
 have hlt := h.lt
 obtain ⟨s, A, n, c, hk, h1, h2, h3, hr⟩ := h
 exact ⟨s, A, n, c, hk.below hb hlt, h1, h2, h3, (hr.below hb).more hb.size⟩
theorem IntS.below {w w' : World} {g : Nat} (h : IntS w g) (hb : Below w.heap.size w w') : IntS w' g := by
 have hlt := h.lt
 obtain ⟨s, A, n, c, hk⟩ := h
 exact ⟨s, A, n, c, hk.below hb hlt⟩
theorem IntS.off {w w' : World} {g r : Nat} (h : IntS w g) (hg : w.grownBy w' (some r)) (hne : g ≠ r) : IntS w' g := by
 obtain ⟨s, A, n, c, hb⟩ := h
 exact ⟨s, A, n, c, hb.grown hg (by intro hh; injection hh with hh; exact hne hh)⟩
theorem IntB.zero (w : World) : IntB (w.alloc (.cells #[.bool false, .slice none 0 0] 151)) w.heap.size 0 :=
 ⟨false, none, 0, 0, Blk.new w 151 _, ⟨by simp, by simp [wds_zero]⟩, Nat.le_refl _, by omega, by simp only [Int.natAbs_zero, wds_zero]; exact ReadsW.none_ _ _ _⟩
theorem grown_lift {w w1 w' : World} {g : Nat} (hb : Below w.heap.size w w1) (h : w1.grownBy w' (some g)) : w.grownBy w' (some g) :=
 ⟨h.os.trans hb.os, h.tape.trans hb.tape, h.output.trans hb.output, Nat.le_trans hb.size h.size, fun i hi hne => (h.block i (Nat.lt_of_lt_of_le hi hb.size) hne).trans (hb.block i hi)⟩
def Puts (w : World) (g : Nat) (z : Int) (e : Ending) (w' : World) : Prop := e = .returned (.pointer (some ⟨g, 0, none⟩)) ∧ IntB w' g z ∧ w.grownBy w' (some g)
set_option maxRecDepth 100000 in
set_option maxHeartbeats 2000000 in
theorem is_any {w : World} {g B n c : Nat} {A : Option Addr} {l : List Nat} (neg : Bool) (hi : IntS w g) (h : ReadsW w B A l) (hB : B ≤ w.heap.size) (hn : n = l.length) (hc : n ≤ c) (hcl : c ≤ 9223372036854775807) (hw : Wd l) :
  Calls Tryz.prog 120 #[.pointer (some ⟨g, 0, none⟩), .bool neg, .slice A n c] w (Puts w g (sgn neg (val l))) := by
 have hcut := cut_any h hn hc hcl hw
 obtain ⟨m, hm⟩ : ∃ m, m = (wds (val l)).length := ⟨_, rfl⟩
 have hcut2 : Calls Tryz.prog 131 #[.slice A n c] w (fun e w' => e = .returned (.slice A m c) ∧ w = w') := hcut.mono fun e w' ⟨m', he, hm', hw'⟩ => ⟨by rw [he, hm', ← hm], hw'.symm⟩
 have hmc : m ≤ c := by rw [hm]; have := (wds_take l.length l rfl hw).2; omega
 have hmpos : decide (0 < m) = decide (0 < val l) := by
  rw [hm]
  rcases Nat.eq_zero_or_pos (val l) with h0 | h0
  ·rw [h0, wds_zero]; rfl
  ·rw [wds_pos h0]; simp [h0]
 have Hcut := Lib.hid hcut2
 have Hm := Lib.hid (And.intro hm (And.intro hmpos (reads_cut h hw)))
 obtain ⟨s0, A0, n0, c0, hb⟩ := hi
 have hc0 := hb.cell 0
 have hc1 := hb.cell 1
 have hf0 := hb.frozen 0
 have hf1 := hb.frozen 1
 have Hb := Lib.hid (And.intro hb hn)
 simp only [icells] at hc0 hc1
 have hc0' : w.cell? ⟨g, 0, none⟩ = some (.bool s0) := hc0
 have hc1' : w.cell? ⟨g, 1, none⟩ = some (.slice A0 n0 c0) := hc1
 clear h hm hmpos hcut hcut2 hb hn hc0 hc1
 have fin : ∀ (s : Bool), s = (neg && decide (0 < m)) → Puts w g (sgn neg (val l)) (.returned (.pointer (some ⟨g, 0, none⟩))) ((w.setCell ⟨g, 1, none⟩ (.slice A m c)).setCell ⟨g, 0, none⟩ (.bool s)) := fun s hs => by
  have hg : w.grownBy ((w.setCell ⟨g, 1, none⟩ (.slice A m c)).setCell ⟨g, 0, none⟩ (.bool s)) (some g) := only_setCell (p := ⟨g, 0, none⟩) (only_setCell (p := ⟨g, 1, none⟩) (World.grownBy.refl w (some g)) (.inl rfl) _) (.inl rfl) _
  refine ⟨rfl, ⟨s, A, m, c, ?_, ⟨by rw [sgn_neg, hs, Hm.out.2.1], by rw [sgn_abs]; exact Hm.out.1⟩, hmc, hcl, ?_⟩, hg⟩
  ·have := (Hb.out.1.set_ 1 (.slice A m c)).set_ 0 (.bool s)
   exact this
  ·rw [sgn_abs]
   have h5 := ReadsW.off Hm.out.2.2 ⟨_, _, _, _, Hb.out.1⟩ hg hB
   exact h5.more (Nat.le_trans hB hg.size)
 have Fin := Lib.hid fin
 clear fin
 cases neg
 ·go_enter Tryz.func120, Tryz.ntmps120
  go_wp2_with (go_at_call 131; refine Hcut.out.mono ?_; rintro e w' ⟨rfl, rfl⟩)
  go_ret
  exact Fin.out false (by simp)
 ·by_cases h0 : 0 < m
  ·have h0i : (0 : Int) < (m : Int) := by omega
   go_enter Tryz.func120, Tryz.ntmps120
   go_wp2_with (go_at_call 131; refine Hcut.out.mono ?_; rintro e w' ⟨rfl, rfl⟩)
   go_ret
   exact Fin.out true (by simp [h0])
  ·have h1 : m = 0 := by omega
   subst h1
   go_enter Tryz.func120, Tryz.ntmps120
   go_wp2_with (go_at_call 131; refine Hcut.out.mono ?_; rintro e w' ⟨rfl, rfl⟩)
   go_ret
   exact Fin.out false (by simp)
end Go.Proofs.YtebpggfccljagaaGreat
namespace Go.Proofs.YtebpggfccljagaaGreat
open Go.RowKit
open Wh
set_option linter.unusedSimpArgs false
theorem IntB.opened {w : World} {g : Nat} {z : Int} (h : IntB w g z) : ∃ s A n c, w.cell? ⟨g, 0, none⟩ = some (.bool s) ∧ w.cell? ⟨g, 1, none⟩ = some (.slice A n c) ∧ Hid (s = decide (z < 0) ∧ n = (wds z.natAbs).length) ∧ n ≤ c ∧ c ≤ 9223372036854775807 ∧ ReadsW w w.heap.size A (wds z.natAbs) := by
 obtain ⟨s, A, n, c, hb, h1, h2, h3, hr⟩ := h
 exact ⟨s, A, n, c, hb.cell 0, hb.cell 1, h1, h2, h3, hr⟩
theorem undrew {w w' : World} (h : Below w.drew.heap.size w.drew w') : Below w.heap.size w w' := ⟨h.os, h.tape, h.output, h.size, h.block⟩
theorem sgn_mul (x y : Int) : sgn (decide (x < 0) != decide (y < 0)) (x.natAbs * y.natAbs) = x * y := by
 unfold sgn
 have hx : x = x.natAbs ∨ x = -(x.natAbs : Int) := Int.natAbs_eq x
 have hy : y = y.natAbs ∨ y = -(y.natAbs : Int) := Int.natAbs_eq y
 by_cases h1 : x < 0 <;> by_cases h2 : y < 0
 ·have e1 : x = -(x.natAbs : Int) := by omega
  have e2 : y = -(y.natAbs : Int) := by omega
  simp only [h1, h2, decide_true, bne_self_eq_false, Bool.false_eq_true, if_false]
  conv => rhs; rw [e1, e2, Int.neg_mul_neg]
  rw [Int.natCast_mul]
 ·have e1 : x = -(x.natAbs : Int) := by omega
  have e2 : y = (y.natAbs : Int) := by omega
  simp only [h1, h2, decide_true, decide_false, Bool.bne_false, if_true]
  conv => rhs; rw [e1, e2, Int.neg_mul]
  rw [Int.natCast_mul]
 ·have e1 : x = (x.natAbs : Int) := by omega
  have e2 : y = -(y.natAbs : Int) := by omega
  simp only [h1, h2, decide_true, decide_false, Bool.false_bne, if_true]
  conv => rhs; rw [e1, e2, Int.mul_neg]
  rw [Int.natCast_mul]
 ·have e1 : x = (x.natAbs : Int) := by omega
  have e2 : y = (y.natAbs : Int) := by omega
  simp only [h1, h2, decide_false, bne_self_eq_false, Bool.false_eq_true, if_false]
  conv => rhs; rw [e1, e2]
  rw [Int.natCast_mul]
theorem add_s (x : Int) (n : Nat) : sgn (decide (x < 0)) (x.natAbs + n) = x + sgn (decide (x < 0)) n := by
 unfold sgn
 by_cases h : x < 0 <;> simp [h] <;> omega
theorem add_g (x : Int) (n : Nat) (neg : Bool) (h : neg ≠ decide (x < 0)) (hle : n ≤ x.natAbs) : sgn (decide (x < 0)) (x.natAbs - n) = x + sgn neg n := by
 unfold sgn
 by_cases h1 : x < 0
 ·cases neg <;> simp [h1] at h ⊢; omega
 ·cases neg <;> simp [h1] at h ⊢; omega
theorem add_l (x : Int) (n : Nat) (neg : Bool) (h : neg ≠ decide (x < 0)) (hle : x.natAbs ≤ n) : sgn neg (n - x.natAbs) = x + sgn neg n := by
 unfold sgn
 by_cases h1 : x < 0
 ·cases neg <;> simp [h1] at h ⊢; omega
 ·cases neg <;> simp [h1] at h ⊢; omega
theorem stepW_append {w : World} {ops : Array Oper} {o : Oper} {a : Act} {K : Act → World → Prop} {Q : Exit → Act → World → Prop} {E : Prop} (hgd : o.guard = none) (s x : Operand)
  (ho : o.op = .call { callee := .builtin .append, args := #[s, x], argTypes := #[33, 33] }) (B : Nat) (v : Value) (l : List Nat) (hown : OwnW w B v l) (hs : a.eval s = v)
  (B' : Nat) (A : Option Addr) (news : List Nat) (hr : ReadsW w B' A news) (m c : Nat) (hm : m = news.length) (hx : a.eval x = .slice A m c) (hlen : l.length + news.length ≤ 35184372088830) (hbase : B ≤ w.heap.size)
  (h : ∀ A' n' c' w', OwnW w' B (.slice A' n' c') (l ++ news) → w.grownBy w' v.ownBlock → K (a.put o.dst (.slice A' n' c')) w') :
  if Region.wanted o (yielded ops a.tmps) = true then Oper.wp Tryz.prog o a w K Q else E := by
 have hw : Region.wanted o (yielded ops a.tmps) = true := by simp [Region.wanted, hgd]
 rw [if_pos hw]
 obtain ⟨i0, hi, hz0, hz1, hz2⟩ := info_parts infoW
 subst hm
 refine wp_append_any w s x 33 ho B 115 i0 (.int .u32 0) 1 4 Tryz.underlying33 hi hz0 hz1 hz2 rfl (by decide) v l.length (l.map wv) hs hown B' A news.length c (news.map wv) hx hr.1 (wv_one _) (by unfold maxLen; omega) (by omega) hbase ?_
 intro v' w' h1 h2 h3
 have h4 : OwnW w' B v' (l ++ news) := by
  unfold OwnW
  rw [List.length_append, List.map_append]
  exact h1
 obtain ⟨A', c', rfl, _⟩ := h4.form
 exact h A' _ c' w' h4 h2
theorem below_of_grown {w w' : World} (h : w.grownBy w' none) : Below w.heap.size w w' := ⟨h.os, h.tape, h.output, h.size, fun i hi => h.block i hi (by simp)⟩
theorem below_new {w w1 : World} {o : Obj} (h : (w.alloc o).grownBy w1 (some w.heap.size)) : Below w.heap.size w w1 := ((Below.refl _ _).alloc (Nat.le_refl _) o).grown h (by simp) (fun k hk => by injection hk with hk; omega)
set_option maxRecDepth 100000 in
set_option maxHeartbeats 4000000 in
theorem set_any {w : World} {g gx : Nat} {x : Int} (hz : IntS w g) (hx : IntB w gx x) (hxl : (wds x.natAbs).length ≤ 900000000) :
  Calls Tryz.prog 97 #[.pointer (some ⟨g, 0, none⟩), .pointer (some ⟨gx, 0, none⟩)] w (Puts w g x) := by
 obtain ⟨sx, Ax, nx, cx, x0, x1, Hx, hxc, hxcl, rx⟩ := hx.opened
 have glx := hx.lt
 have Hr := Lib.hid (And.intro rx hxl)
 clear rx hxl
 go_enter Tryz.func97, Tryz.ntmps97
 go_wp2_with fail
 refine wp_region_noPanic ?_
 refine wp_region_HK (fun w' => (w'.cell? ⟨gx, 0, none⟩ = some (.bool sx) ∧ w'.cell? ⟨gx, 1, none⟩ = some (.slice Ax nx cx))) 10 (by kernel_rfl) ⟨x0, x1⟩ (fun hHeld => ?_)
 refine wpHK_take (i := 0) (oi := Oper.mk (some 5) _ _ _ _ _) (v := ?_) rfl (by kernel_rfl) (by kernel_rfl) (by kernel_rfl) (by kernel_rfl) (fun _ _ _ h => h) (Or.inl ⟨by rfl, ?_⟩) (by assumption) ?_
 rotate_left
 ·(intro w' hSw; (try dsimp only at hSw); (obtain ⟨s1, s2⟩ := hSw); go_simp; try with_reducible rfl)
 try simp only [Act.put, List.setIfInBounds_toArray, List.set_cons_zero, List.set_cons_succ]
 refine wpHK_take (i := 1) (oi := Oper.mk (some 6) _ _ _ _ _) (v := ?_) rfl (by kernel_rfl) (by kernel_rfl) (by kernel_rfl) (by kernel_rfl) (fun _ _ _ h => h) (Or.inl ⟨by rfl, ?_⟩) (by assumption) ?_
 rotate_left
 ·(intro w' hSw; (try dsimp only at hSw); (obtain ⟨s1, s2⟩ := hSw); go_simp; try with_reducible rfl)
 try simp only [Act.put, List.setIfInBounds_toArray, List.set_cons_zero, List.set_cons_succ]
 refine wpHK_take (i := 2) (oi := Oper.mk (some 7) _ _ _ _ _) (v := ?_) rfl (by kernel_rfl) (by kernel_rfl) (by kernel_rfl) (by kernel_rfl) (fun _ _ _ h => h) (Or.inl ⟨by rfl, ?_⟩) (by assumption) ?_
 rotate_left
 ·(intro w' hSw; (try dsimp only at hSw); (obtain ⟨s1, s2⟩ := hSw); go_simp; try with_reducible rfl)
 try simp only [Act.put, List.setIfInBounds_toArray, List.set_cons_zero, List.set_cons_succ]
 refine wpHK_take (i := 3) (oi := Oper.mk (some 8) _ _ _ _ _) (v := ?_) rfl (by kernel_rfl) (by kernel_rfl) (by kernel_rfl) (by kernel_rfl) (fun _ _ _ h => h) (Or.inl ⟨by rfl, ?_⟩) (by assumption) ?_
 rotate_left
 ·(intro w' hSw; (try dsimp only at hSw); (obtain ⟨s1, s2⟩ := hSw); go_simp; try with_reducible rfl)
 try simp only [Act.put, List.setIfInBounds_toArray, List.set_cons_zero, List.set_cons_succ]
 refine wpHK_take (i := 4) (oi := Oper.mk (some 9) _ _ _ _ _) (v := ?_) rfl (by kernel_rfl) (by kernel_rfl) (by kernel_rfl) (by kernel_rfl) (fun _ _ _ h => h) (Or.inl ⟨by rfl, ?_⟩) (by assumption) ?_
 rotate_left
 ·(intro w' hSw; (try dsimp only at hSw); (obtain ⟨s1, s2⟩ := hSw); go_simp; try with_reducible rfl)
 try simp only [Act.put, List.setIfInBounds_toArray, List.set_cons_zero, List.set_cons_succ]
 refine wpHK_take (i := 5) (oi := Oper.mk (some 10) _ _ _ _ _) (v := ?_) rfl (by kernel_rfl) (by kernel_rfl) (by kernel_rfl) (by kernel_rfl) (fun _ _ _ h => h) (Or.inl ⟨by rfl, ?_⟩) (by assumption) ?_
 rotate_left
 ·(intro w' hSw; (try dsimp only at hSw); (obtain ⟨s1, s2⟩ := hSw); go_simp; try with_reducible rfl)
 try simp only [Act.put, List.setIfInBounds_toArray, List.set_cons_zero, List.set_cons_succ]
 refine wpHK_take (i := 6) (oi := Oper.mk (some 11) _ _ _ _ _) (v := ?_) rfl (by kernel_rfl) (by kernel_rfl) (by kernel_rfl) (by kernel_rfl) (fun _ _ _ h => h) (Or.inl ⟨by rfl, ?_⟩) (by assumption) ?_
 rotate_left
 ·(intro w' hSw; (try dsimp only at hSw); (obtain ⟨s1, s2⟩ := hSw); go_simp; try with_reducible rfl)
 try simp only [Act.put, List.setIfInBounds_toArray, List.set_cons_zero, List.set_cons_succ]
 refine wpHK_take (i := 7) (oi := Oper.mk (some 12) _ _ _ _ _) (v := ?_) rfl (by kernel_rfl) (by kernel_rfl) (by kernel_rfl) (by kernel_rfl) (fun _ _ _ h => h) (Or.inl ⟨by rfl, ?_⟩) (by assumption) ?_
 rotate_left
 ·(intro w' hSw; (try dsimp only at hSw); (obtain ⟨s1, s2⟩ := hSw); go_simp; try with_reducible rfl)
 try simp only [Act.put, List.setIfInBounds_toArray, List.set_cons_zero, List.set_cons_succ]
 refine wpHK_take (i := 8) (oi := Oper.mk (some 13) _ _ _ _ _) (v := ?_) rfl (by kernel_rfl) (by kernel_rfl) (by kernel_rfl) (by kernel_rfl) (fun _ _ _ h => h) (Or.inl ⟨by rfl, ?_⟩) (by assumption) ?_
 rotate_left
 ·(intro w' hSw; (try dsimp only at hSw); (obtain ⟨s1, s2⟩ := hSw); go_simp; try with_reducible rfl)
 try simp only [Act.put, List.setIfInBounds_toArray, List.set_cons_zero, List.set_cons_succ]
 refine wpHK_one (j := 9) (o := Oper.mk (some 14) _ _ _ _ _) rfl (by kernel_rfl) (fun K hK => ?_)
 refine stepW_append (by rfl) (.const (.slice none 0 0)) (.tmp 13) (by rfl) w.heap.size _ [] (OwnW.nil _ _) (by rfl) _ _ (wds x.natAbs) (Hr.out.1.drewN 1) nx cx Hx.out.2 (by rfl) (by have := Hr.out.2; simp only [List.length_nil]; omega) (Nat.le_refl _) ?_
 intro A5 n5 c5 w5 ho5 hg5
 rw [List.nil_append] at ho5
 have hb5 := below_of_grown hg5
 have hb5' : Below w.heap.size w w5 := undrew hb5
 have bcell5 : ∀ {b o : Nat}, b < w.heap.size → w5.cell? ⟨b, o, none⟩ = w.cell? ⟨b, o, none⟩ := fun {b o} h => hb5'.cell (p := ⟨b, o, none⟩) h
 have hz5 := hz.below hb5'
 have hC5 : (w5.cell? ⟨gx, 0, none⟩ = some (.bool sx) ∧ w5.cell? ⟨gx, 1, none⟩ = some (.slice Ax nx cx)) := ⟨(bcell5 glx).trans x0, (bcell5 glx).trans x1⟩
 refine hK.out _ _ hC5 (fun _ => ?_)
 clear hK K hHeld
 have hHeld := hC5
 try simp only [Act.put, List.setIfInBounds_toArray, List.set_cons_zero, List.set_cons_succ]
 refine wpHK_tail (j := 10) (o := Oper.mk (some 15) _ _ _ _ _) rfl (by kernel_rfl) (by decide) (fun K hK => ?_)
 go_simp
 refine (is_any _ hz5 ho5.reads (Nat.le_refl _) ho5.len.1 ho5.len.2.1 ho5.len.2.2 (wd_w _)).mono ?_
 rintro e w6 ⟨rfl, hi6, hg6⟩
 try simp only []
 refine hK.out _ _ ?_
 clear hK K
 try simp only [Act.put, List.setIfInBounds_toArray, List.set_cons_zero, List.set_cons_succ]
 refine wpHK_assign (j := 11) (o := Oper.mk (some 4) _ _ _ _ _) rfl (by kernel_rfl) (by decide) rfl rfl ?_
 try simp only [Act.put, List.setIfInBounds_toArray, List.set_cons_zero, List.set_cons_succ]
 refine wpHK_done (by kernel_rfl) ?_ _
 refine NoPanic.normal ?_
 go_wp2_with fail
 go_ret
 refine ⟨rfl, ?_, grown_lift hb5' hg6⟩
 rw [val_w, Hx.out.1, sgn_of] at hi6
 exact hi6
set_option maxRecDepth 100000 in
set_option maxHeartbeats 4000000 in
theorem neg_any {w : World} {g gx : Nat} {x : Int} (hz : IntS w g) (hx : IntB w gx x) (hxl : (wds x.natAbs).length ≤ 900000000) :
  Calls Tryz.prog 119 #[.pointer (some ⟨g, 0, none⟩), .pointer (some ⟨gx, 0, none⟩)] w (Puts w g (-x)) := by
 have HS := Lib.hid (set_any hz hx hxl)
 have hlt := hz.lt
 have fin : ∀ (w1 : World) (s s' : Bool) (A : Option Addr) (n c : Nat), Blk w1 g 151 (icells s A n c) → Hid (s = decide (x < 0) ∧ n = (wds x.natAbs).length) → n ≤ c → c ≤ 9223372036854775807 → ReadsW w1 w1.heap.size A (wds x.natAbs) → w.grownBy w1 (some g) → s' = (!s && decide (0 < n)) → Puts w g (-x) (.returned (.pointer (some ⟨g, 0, none⟩))) (w1.setCell ⟨g, 0, none⟩ (.bool s')) := fun w1 s s' A n c hb hh h1 h2 hr hg he => by
  have hg2 : w1.grownBy (w1.setCell ⟨g, 0, none⟩ (.bool s')) (some g) := only_setCell (p := ⟨g, 0, none⟩) (World.grownBy.refl w1 (some g)) (.inl rfl) _
  refine ⟨rfl, ⟨s', A, n, c, hb.set_ 0 _, ⟨?_, by rw [Int.natAbs_neg]; exact hh.out.2⟩, h1, h2, ?_⟩, ?_⟩
  ·rw [he, hh.out.1, hh.out.2]
   by_cases h0 : x = 0
   ·subst h0; simp [wds_zero]
   ·have hp : 0 < x.natAbs := by omega
    rw [wds_pos hp]
    by_cases h3 : x < 0
    ·simp [h3]; omega
    ·simp [h3]; omega
  ·rw [Int.natAbs_neg]
   exact (hr.off ⟨_, _, _, _, hb⟩ hg2 (Nat.le_refl _)).more hg2.size
  ·exact only_setCell (p := ⟨g, 0, none⟩) hg (.inl rfl) _
 have Fin := Lib.hid fin
 clear hz hx hxl fin
 go_enter Tryz.func119, Tryz.ntmps119
 go_wp2_with fail
 refine HS.out.mono ?_
 rintro e w1 ⟨rfl, hi1, hg1⟩
 obtain ⟨s, A, n, c, hb, hh, h1, h2, hr⟩ := hi1
 have hc0 : w1.cell? ⟨g, 0, none⟩ = some (.bool s) := hb.cell 0
 have hc1 : w1.cell? ⟨g, 1, none⟩ = some (.slice A n c) := hb.cell 1
 have hf0 := hb.frozen 0
 have Hb := Lib.hid (And.intro hb (And.intro hr hg1))
 clear hb hr hg1
 cases s
 ·by_cases h0 : 0 < n
  ·have h0i : (0 : Int) < (n : Int) := by omega
   go_wp2_with fail
   go_ret
   exact Fin.out _ _ _ _ _ _ Hb.out.1 hh h1 h2 Hb.out.2.1 Hb.out.2.2 (by simp [h0])
  ·have h3 : n = 0 := by omega
   subst h3
   go_wp2_with fail
   go_ret
   exact Fin.out _ _ _ _ _ _ Hb.out.1 hh h1 h2 Hb.out.2.1 Hb.out.2.2 (by simp)
 ·go_wp2_with fail
  go_ret
  exact Fin.out _ _ _ _ _ _ Hb.out.1 hh h1 h2 Hb.out.2.1 Hb.out.2.2 (by simp)
theorem sgn_not (y : Int) : sgn (!decide (y < 0)) y.natAbs = -y := by
 unfold sgn
 by_cases h : y < 0 <;> simp [h] <;> omega
set_option maxRecDepth 100000 in
set_option maxHeartbeats 4000000 in
theorem setint_any {w : World} {g : Nat} {n : Int} (hz : IntS w g) (h1 : -9223372036854775808 ≤ n) (h2 : n ≤ 9223372036854775807) :
  Calls Tryz.prog 128 #[.pointer (some ⟨g, 0, none⟩), .int .i64 n] w (Puts w g n) := by
 by_cases hn : n < 0
 ·obtain ⟨m, rfl⟩ : ∃ m : Nat, n = -(m : Int) := ⟨n.natAbs, by omega⟩
  have HO := Lib.hid (of_any (w := w) (N := m) (by omega))
  have hu1 : IntKind.u64.wrap (-IntKind.u64.wrap (-(m : Int))) = (m : Int) := by rw [IntKind.wrap_u64, IntKind.wrap_u64]; omega
  have Hm := Lib.hid hn
  have hm1 : (0 : Int) < (m : Int) := by omega
  go_enter Tryz.func128, Tryz.ntmps128
  go_wp2_with fail
  refine HO.out.mono ?_
  rintro e w5 ⟨A5, m5, c5, rfl, hm5, hc5, hc52, hr5, hb5⟩
  have hz5 := hz.below hb5
  have HI := Lib.hid (is_any true hz5 hr5 (Nat.le_refl _) hm5 hc5 (by omega) (wd_w _))
  clear hm5
  have Hb5 := Lib.hid hb5
  clear hb5
  go_wp2_with fail
  refine HI.out.mono ?_
  rintro e w6 ⟨rfl, hi6, hg6⟩
  rw [val_w] at hi6
  go_wp2_with fail
  go_ret
  exact ⟨rfl, hi6, grown_lift Hb5.out hg6⟩
 ·obtain ⟨m, rfl⟩ : ∃ m : Nat, n = (m : Int) := ⟨n.natAbs, by omega⟩
  have HO := Lib.hid (of_any (w := w) (N := m) (by omega))
  have hdec : decide ((m : Int) < 0) = false := by simp
  clear hn
  go_enter Tryz.func128, Tryz.ntmps128
  go_wp2_with fail
  refine HO.out.mono ?_
  rintro e w5 ⟨A5, m5, c5, rfl, hm5, hc5, hc52, hr5, hb5⟩
  have hz5 := hz.below hb5
  have HI := Lib.hid (is_any false hz5 hr5 (Nat.le_refl _) hm5 hc5 (by omega) (wd_w _))
  clear hm5
  have Hb5 := Lib.hid hb5
  clear hb5
  go_wp2_with fail
  refine HI.out.mono ?_
  rintro e w6 ⟨rfl, hi6, hg6⟩
  rw [val_w] at hi6
  go_wp2_with fail
  go_ret
  exact ⟨rfl, hi6, grown_lift Hb5.out hg6⟩
set_option maxRecDepth 100000 in
set_option maxHeartbeats 4000000 in
theorem newint_any {w : World} {n : Int} (h1 : -9223372036854775808 ≤ n) (h2 : n ≤ 9223372036854775807) :
  Calls Tryz.prog 115 #[.int .i64 n] w (fun e w' => e = .returned (.pointer (some ⟨w.heap.size, 0, none⟩)) ∧ IntB w' w.heap.size n ∧ Below w.heap.size w w') := by
 have hs := setint_any (IntB.zero w).slot h1 h2
 have HS := Lib.hid hs
 clear hs h1 h2
 go_enter Tryz.func115, Tryz.ntmps115
 go_wp2_with fail
 refine HS.out.mono ?_
 rintro e w1 ⟨rfl, hi1, hg1⟩
 go_wp2_with fail
 go_ret
 exact ⟨rfl, hi1, below_new hg1⟩
def sg (x : Int) : Int := if x = 0 then 0 else if x < 0 then -1 else 1
theorem len_pos {x : Int} : 0 < (wds x.natAbs).length ↔ x ≠ 0 := by
 constructor
 ·intro h h0; subst h0; simp [wds_zero] at h
 ·intro h; rw [wds_pos (by omega)]; simp
set_option maxRecDepth 100000 in
set_option maxHeartbeats 1000000 in
theorem sign_any {w : World} {gx : Nat} {x : Int} (hx : IntB w gx x) :
  Calls Tryz.prog 87 #[.pointer (some ⟨gx, 0, none⟩)] w (fun e w' => e = .returned (.int .i64 (sg x)) ∧ w = w') := by
 obtain ⟨sx, Ax, nx, cx, x0, x1, Hx, hxc, hxcl, rx⟩ := hx.opened
 clear rx hx
 by_cases h0 : x = 0
 ·have hn : nx = 0 := by have := Hx.out.2; rw [h0] at this; simpa [wds_zero] using this
  have Hv := Lib.hid (show sg x = 0 by unfold sg; rw [if_pos h0])
  subst hn
  clear h0
  go_enter Tryz.func87, Tryz.ntmps87
  go_wp2
  go_ret
  exact ⟨by rw [Hv.out]; rfl, rfl⟩
 ·have hn : 0 < nx := by have := Hx.out.2; rw [this]; exact len_pos.2 h0
  have hne : ¬ nx = 0 := by omega
  have hni : ((nx : Int) == 0) = false := by simp; omega
  by_cases h1 : x < 0
  ·have hs : sx = true := by rw [Hx.out.1]; simp [h1]
   have Hv := Lib.hid (show sg x = -1 by unfold sg; rw [if_neg h0, if_pos h1])
   subst hs
   clear h0 h1
   go_enter Tryz.func87, Tryz.ntmps87
   go_wp2
   go_ret
   exact ⟨by rw [Hv.out]; rfl, rfl⟩
  ·have hs : sx = false := by rw [Hx.out.1]; simp [h1]
   have Hv := Lib.hid (show sg x = 1 by unfold sg; rw [if_neg h0, if_neg h1])
   subst hs
   clear h0 h1
   go_enter Tryz.func87, Tryz.ntmps87
   go_wp2
   go_ret
   exact ⟨by rw [Hv.out]; rfl, rfl⟩
theorem up_word {t y : Nat} (h1 : 2147483648 ≤ t * 2 ^ y) (h2 : t * 2 ^ y < 4294967296) : y ≤ 31 ∧ (t + 1) * 2 ^ y ≤ 4294967296 := by
 have ht : 0 < t := by
  rcases Nat.eq_zero_or_pos t with h | h
  ·rw [h, Nat.zero_mul] at h1; omega
  ·exact h
 have hyy : y ≤ 31 := by
  rcases Nat.lt_or_ge 31 y with h | h
  ·exfalso
   have h7 : (2 : Nat) ^ 32 ≤ 2 ^ y := Nat.pow_le_pow_right (by decide) h
   have h9 : 1 * 2 ^ y ≤ t * 2 ^ y := Nat.mul_le_mul_right _ ht
   omega
  ·exact h
 refine ⟨hyy, ?_⟩
 obtain ⟨z, hz⟩ : ∃ z, y + z = 32 := ⟨32 - y, by omega⟩
 have h7 : 2 ^ y * 2 ^ z = 4294967296 := by rw [← Nat.pow_add, hz]
 rw [← h7, Nat.mul_comm] at h2
 have h8 : t < 2 ^ z := Nat.lt_of_mul_lt_mul_left h2
 have h9 : 2 ^ y * (t + 1) ≤ 2 ^ y * 2 ^ z := Nat.mul_le_mul_left _ h8
 rw [h7, Nat.mul_comm] at h9
 exact h9
theorem bl_words {m p t y : Nat} (hl : (wds m).length = p + 1) (ht : at_ (wds m) p = t) (h1 : 2147483648 ≤ t * 2 ^ y) (h2 : t * 2 ^ y < 4294967296) : bl m + y = 32 * (p + 1) := by
 obtain ⟨hy, h3⟩ := up_word h1 h2
 have e := top_one (l := wds m) (p := p) hl
 rw [at_get (by omega)] at ht
 rw [val_w, ht] at e
 have hlo := low_lt (wd_w m) (p := p) (by omega)
 have hB : (4294967296 : Nat) ^ p = 2 ^ (32 * p) := by rw [show (4294967296 : Nat) = 2 ^ 32 by decide, ← Nat.pow_mul]
 rw [hB] at e hlo
 have hb := bl_eq (m := m) (L := 32 * (p + 1) - y - 1) ?_ ?_
 ·omega
 ·refine Nat.le_of_mul_le_mul_right (c := 2 ^ y) ?_ (Nat.two_pow_pos y)
  rw [← Nat.pow_add, show 32 * (p + 1) - y - 1 + y = 31 + 32 * p by omega, Nat.pow_add]
  have h4 : 2 ^ 31 * 2 ^ (32 * p) ≤ t * 2 ^ y * 2 ^ (32 * p) := Nat.mul_le_mul_right _ h1
  have h5 : t * 2 ^ y * 2 ^ (32 * p) = t * 2 ^ (32 * p) * 2 ^ y := by ac_rfl
  have h6 : t * 2 ^ (32 * p) * 2 ^ y ≤ m * 2 ^ y := Nat.mul_le_mul_right _ (by omega)
  omega
 ·refine Nat.lt_of_mul_lt_mul_right (a := 2 ^ y) ?_
  rw [← Nat.pow_add, show 32 * (p + 1) - y - 1 + 1 + y = 32 + 32 * p by omega, Nat.pow_add]
  have h4 : m < (t + 1) * 2 ^ (32 * p) := by rw [Nat.add_mul, Nat.one_mul]; omega
  have h5 : m * 2 ^ y < (t + 1) * 2 ^ (32 * p) * 2 ^ y := Nat.mul_lt_mul_of_pos_right h4 (Nat.two_pow_pos y)
  have h6 : (t + 1) * 2 ^ (32 * p) * 2 ^ y = (t + 1) * 2 ^ y * 2 ^ (32 * p) := by ac_rfl
  have h7 : (t + 1) * 2 ^ y * 2 ^ (32 * p) ≤ 2 ^ 32 * 2 ^ (32 * p) := Nat.mul_le_mul_right _ h3
  omega
theorem last_pos {m p : Nat} (hl : (wds m).length = p + 1) : 0 < at_ (wds m) p := by
 rw [at_get (by omega)]
 have h0 : (wds m).getLast? = some ((wds m)[p]'(by omega)) := by
  rw [List.getLast?_eq_getElem?, ← List.getElem?_eq_getElem]
  congr 1
  omega
 have := wds_last m m (Nat.le_refl _) _ h0
 omega
def Bitted (w : World) (m : Nat) (e : Ending) (w' : World) : Prop := ∃ q, e = .returned (.int .i64 ((bl m : Nat) : Int)) ∧ w' = w.drewN q
set_option maxRecDepth 100000 in
set_option maxHeartbeats 1000000 in
theorem bitlen_any {w : World} {gx : Nat} {x : Int} (hx : IntB w gx x) (hxl : (wds x.natAbs).length ≤ 900000000) :
  Calls Tryz.prog 98 #[.pointer (some ⟨gx, 0, none⟩)] w (Bitted w x.natAbs) := by
 obtain ⟨sx, Ax, nx, cx, x0, x1, Hx, hxc, hxcl, rx⟩ := hx.opened
 clear hx
 have hn := Hx.out.2
 obtain ⟨m, hm⟩ : ∃ m, m = x.natAbs := ⟨_, rfl⟩
 rw [← hm] at hn rx hxl
 rw [← hm]
 have hnl : nx ≤ 900000000 := by omega
 rcases Nat.eq_zero_or_pos nx with h0 | h0
 ·subst h0
  have hm0 : m = 0 := by
   rcases Nat.eq_zero_or_pos m with h | h
   ·exact h
   ·rw [wds_pos h] at hn; simp at hn
  have Hb := Lib.hid (show bl m = 0 by rw [hm0]; rfl)
  clear hm hn Hx rx hm0 hxl
  go_enter Tryz.func98, Tryz.ntmps98
  go_wp2
  go_ret
  exact ⟨0, by rw [Hb.out]; rfl, rfl⟩
 ·obtain ⟨p, rfl⟩ : ∃ p, nx = p + 1 := ⟨nx - 1, by omega⟩
  obtain ⟨ad, rfl, hb1, c1⟩ := rx.at_ (k := p) (by omega)
  rw [← at_get] at c1
  have htp := last_pos hn.symm
  have htl := at_lt (wd_w m) p
  have Hbl := Lib.hid (fun (y : Nat) => bl_words (m := m) (p := p) (y := y) hn.symm rfl)
  generalize at_ (wds m) p = t0 at *
  have r1 : IntKind.i64.wrap ((p : Int) + 1 - 1) = (p : Int) := by rw [show (p : Int) + 1 - 1 = (p : Int) by omega]; exact IntWalk.i64_in _ (by omega)
  have hpi : (p : Int) < (p : Int) + 1 := by omega
  clear hm hn Hx rx hxl
  go_enter Tryz.func98, Tryz.ntmps98
  go_wp2_with fail
  go_quiet (fail)
  go_wp2_with fail
  go_loopg [3, 4] 32 (fun k nv tv wr => ∃ (y t : Nat), nv = .int .i64 (32 * ((p : Int) + 1) - (y : Int)) ∧ tv = .int .u32 (t : Int) ∧ wr = w.drewN nq ∧ k = 32 - y ∧ y ≤ 31 ∧ t ≤ 4294967295 ∧ Hid (t = t0 * 2 ^ y))
  case atStart => exact ⟨0, t0, by first | rfl | (congr 1; omega), rfl, rfl, by omega, by omega, by omega, by show t0 = t0 * 2 ^ 0; rw [Nat.pow_zero, Nat.mul_one]⟩
  case round =>
   obtain ⟨y, t, rfl, rfl, rfl, hk, hy, ht, hT⟩ := hrel
   have Hk := Lib.hid hk
   clear hk
   have hty : 2 ^ y ≤ t := by rw [hT.out]; exact Nat.le_mul_of_pos_left _ htp
   by_cases hlt : t < 2147483648
   ·have hy31 : y < 31 := by
     rcases Nat.lt_or_ge y 31 with h | h
     ·exact h
     ·have : (2 : Nat) ^ 31 ≤ 2 ^ y := Nat.pow_le_pow_right (by decide) h
      omega
    clear hty
    go_wp2
    rw [show ((t : Int) * 2) = ((t * 2 : Nat) : Int) by omega]
    go_roundg (32 - (y + 1))
    case measure => have := Hk.out; omega
    case rel => exact ⟨y + 1, t * 2, by congr 1; omega, rfl, rfl, rfl, by omega, by omega, by show _ = _; rw [hT.out, Nat.pow_succ, Nat.mul_assoc]⟩
   ·have hb := Hbl.out y (by rw [← hT.out]; omega) (by rw [← hT.out]; omega)
    have Hb := Lib.hid hb
    clear hb hty
    go_wp2
    go_ret
    refine ⟨nq, ?_, rfl⟩
    have h5 := Hb.out
    exact congrArg (fun v => Ending.returned (.int .i64 v)) (show 32 * ((p : Int) + 1) - (y : Int) = ((bl m : Nat) : Int) by omega)
def cmpI (x y : Int) : Int := if x < y then -1 else if y < x then 1 else 0
def Cmped (w : World) (v : Int) (e : Ending) (w' : World) : Prop := ∃ q, e = .returned (.int .i64 v) ∧ w' = w.drewN q
theorem cmp_pp {x y : Int} (hx : ¬ x < 0) (hy : ¬ y < 0) : cmpN x.natAbs y.natAbs = cmpI x y := by
 unfold cmpN cmpI
 by_cases h1 : x < y
 ·rw [if_pos h1, if_pos (by omega)]
 ·rw [if_neg h1, if_neg (by omega)]
  by_cases h2 : y < x
  ·rw [if_pos h2, if_pos (by omega)]
  ·rw [if_neg h2, if_neg (by omega)]
theorem cmp_nn {x y : Int} (hx : x < 0) (hy : y < 0) : cmpN y.natAbs x.natAbs = cmpI x y := by
 unfold cmpN cmpI
 by_cases h1 : x < y
 ·rw [if_pos h1, if_pos (by omega)]
 ·rw [if_neg h1, if_neg (by omega)]
  by_cases h2 : y < x
  ·rw [if_pos h2, if_pos (by omega)]
  ·rw [if_neg h2, if_neg (by omega)]
theorem cmp_np {x y : Int} (hx : x < 0) (hy : ¬ y < 0) : cmpI x y = -1 := by unfold cmpI; rw [if_pos (by omega)]
theorem cmp_pn {x y : Int} (hx : ¬ x < 0) (hy : y < 0) : cmpI x y = 1 := by unfold cmpI; rw [if_neg (by omega), if_pos (by omega)]
theorem wpW_append {w : World} {ops : Array Oper} {rest : List Oper} {o : Oper} {a : Act} {Q : Exit → Act → World → Prop} (hgd : o.guard = none) (s x : Operand)
  (ho : o.op = .call { callee := .builtin .append, args := #[s, x], argTypes := #[33, 33] }) (B : Nat) (v : Value) (l : List Nat) (hown : OwnW w B v l) (hs : a.eval s = v)
  (B' : Nat) (A : Option Addr) (news : List Nat) (hr : ReadsW w B' A news) (m c : Nat) (hm : m = news.length) (hx : a.eval x = .slice A m c) (hlen : l.length + news.length ≤ 35184372088830) (hbase : B ≤ w.heap.size)
  (h : ∀ A' n' c' w', OwnW w' B (.slice A' n' c') (l ++ news) → w.grownBy w' v.ownBlock → wpList Tryz.prog ops Q rest (a.put o.dst (.slice A' n' c')) w') :
  wpList Tryz.prog ops Q (o :: rest) a w := by
 obtain ⟨i0, hi, hz0, hz1, hz2⟩ := info_parts infoW
 subst hm
 refine wpList_append_any w hgd s x 33 ho B 115 i0 (.int .u32 0) 1 4 Tryz.underlying33 hi hz0 hz1 hz2 rfl (by decide) v l.length (l.map wv) hs hown B' A news.length c (news.map wv) hx hr.1 (wv_one _) (by unfold maxLen; omega) (by omega) hbase ?_
 intro v' w' h1 h2 h3
 have h4 : OwnW w' B v' (l ++ news) := by
  unfold OwnW
  rw [List.length_append, List.map_append]
  exact h1
 obtain ⟨A', c', rfl, _⟩ := h4.form
 exact h A' _ c' w' h4 h2
theorem sgn_tdiv (x y : Int) : sgn (!(decide (x < 0) == decide (y < 0))) (x.natAbs / y.natAbs) = x.tdiv y := by
 have key : ∀ a b : Nat, ((a : Int)).tdiv (b : Int) = ((a / b : Nat) : Int) := fun a b => rfl
 unfold sgn
 by_cases h1 : x < 0 <;> by_cases h2 : y < 0
 ·have e1 : x = -(x.natAbs : Int) := by omega
  have e2 : y = -(y.natAbs : Int) := by omega
  simp only [h1, h2, decide_true, beq_self_eq_true, Bool.not_true, Bool.false_eq_true, if_false]
  conv => rhs; rw [e1, e2, Int.neg_tdiv, Int.tdiv_neg, Int.neg_neg, key]
 ·have e1 : x = -(x.natAbs : Int) := by omega
  have e2 : y = (y.natAbs : Int) := by omega
  simp only [h1, h2, decide_true, decide_false]
  conv => rhs; rw [e1, e2, Int.neg_tdiv, key]
  exact if_pos rfl
 ·have e1 : x = (x.natAbs : Int) := by omega
  have e2 : y = -(y.natAbs : Int) := by omega
  simp only [h1, h2, decide_true, decide_false]
  conv => rhs; rw [e1, e2, Int.tdiv_neg, key]
  exact if_pos rfl
 ·have e1 : x = (x.natAbs : Int) := by omega
  have e2 : y = (y.natAbs : Int) := by omega
  simp only [h1, h2, decide_false, beq_self_eq_true, Bool.not_true, Bool.false_eq_true, if_false]
  conv => rhs; rw [e1, e2, key]
theorem sgn_tmod (x y : Int) : sgn (decide (x < 0)) (x.natAbs % y.natAbs) = x.tmod y := by
 have key : ∀ a b : Nat, ((a : Int)).tmod (b : Int) = ((a % b : Nat) : Int) := fun a b => rfl
 have k2 : ∀ a : Nat, (a : Int).tmod y = ((a % y.natAbs : Nat) : Int) := fun a => by
  by_cases h2 : y < 0
  ·have e2 : y = -(y.natAbs : Int) := by omega
   conv => lhs; rw [e2, Int.tmod_neg, key]
  ·have e2 : y = (y.natAbs : Int) := by omega
   conv => lhs; rw [e2, key]
 unfold sgn
 by_cases h1 : x < 0
 ·have e1 : x = -(x.natAbs : Int) := by omega
  simp only [h1, decide_true, if_true]
  conv => rhs; rw [e1, Int.neg_tmod, k2]
 ·have e1 : x = (x.natAbs : Int) := by omega
  simp only [h1, decide_false, Bool.false_eq_true, if_false]
  conv => rhs; rw [e1, k2]
def Puts2 (w : World) (g gr : Nat) (q r : Int) (e : Ending) (w' : World) : Prop := ∃ wm, e = .returned (.tuple #[.pointer (some ⟨g, 0, none⟩), .pointer (some ⟨gr, 0, none⟩)]) ∧ IntB w' g q ∧ IntB w' gr r ∧ w.grownBy wm (some gr) ∧ wm.grownBy w' (some g)
theorem grown_two {w w1 wm w' : World} {g gr : Nat} (hb : Below w.heap.size w w1) (h1 : w1.grownBy wm (some gr)) (h2 : wm.grownBy w' (some g)) (hgr : w.heap.size ≤ gr) : w.grownBy w' (some g) :=
 grown_lift (hb.grown h1 hb.size (fun k hk => by injection hk with hk; omega)) h2
theorem new_below (w : World) (o : Obj) : Below w.heap.size w (w.alloc o) := (Below.refl _ _).alloc (Nat.le_refl _) _
theorem up_row {B : Nat} {w0 w w' : World} {g : Nat} (h : Below B w0 w) (hg : w.grownBy w' (some g)) (h1 : B ≤ w.heap.size) (h2 : B ≤ g) : Below B w0 w' := h.grown hg h1 (fun k hk => by injection hk with hk; omega)
def SlW (w : World) (B : Nat) (A : Option Addr) (n c m : Nat) : Prop := Hid (n = (wds m).length) ∧ n ≤ c ∧ c ≤ 9223372036854775807 ∧ ReadsW w B A (wds m)
theorem bl_len (m : Nat) : bl m ≤ 32 * (wds m).length := by
 refine bl_lt.2 ?_
 have h := lt_of_len (Nat.le_refl (wds m).length)
 rwa [show (4294967296 : Nat) = 2 ^ 32 by decide, ← Nat.pow_mul] at h
end Go.Proofs.YtebpggfccljagaaGreat
namespace Go.Proofs.YtebpggfccljagaaGreat
open Go.RowKit
def bv (b : UInt8) : Value := .int .u8 (b.toNat : Int)
def ReadsB (w : World) (B : Nat) (A : Option Addr) (l : List UInt8) : Prop := Reads w B 1 A l.length (l.map bv)
theorem infoB : (Tryz.prog.info? 5).map (fun i => (i.zero, i.size, i.bytes)) = some (some (.int .u8 0), 1, 1) := by kernel_rfl
theorem run_str {w : World} {B n c : Nat} {A : Option Addr} {l : List UInt8} (hn : n = l.length) (hr : ReadsB w B A l) : (convert 130 9 (.slice A n c)).run Tryz.prog w = .ok (.string ⟨l.toArray⟩) w := by
 subst hn
 rw [run_convert_bytes_string w 130 9 5 A _ c Tryz.underlying130 Tryz.underlying5 Tryz.underlying9]
 rcases A with _ | ad
 ·have hl : l = [] := by
   rcases Nat.eq_zero_or_pos l.length with h0 | h0
   ·exact List.eq_nil_of_length_eq_zero h0
   ·obtain ⟨_, h, _⟩ := hr.2 h0
    cases h
  subst hl
  simp [Conv.bytesToString]
  rfl
 ·have e : l.map bv = (l.map fun b => (b.toNat : Int)).map (Value.int .u8) := by rw [List.map_map]; rfl
  have hc : ∀ (j : Nat) (u : Value), (l.map bv)[j]? = some u → w.cell? (ad.add j) = some u := by
   intro j u hu
   have h0 : 0 < l.length := by
    rcases Nat.eq_zero_or_pos l.length with h0 | h0
    ·have hl := List.eq_nil_of_length_eq_zero h0
     subst hl
     simp at hu
    ·exact h0
   obtain ⟨ad', h, _, hc⟩ := hr.2 h0
   injection h with h
   subst h
   exact hc j u hu
  have hl := run_loadCells_list (P := Tryz.prog) w ad (l.map bv) hc
  rw [List.length_map, e] at hl
  rw [run_bytesToString w ad l.length c _ hl, foldl_push_bytes]
  simp [ByteArray.empty, ByteArray.emptyWithCapacity]
  show [] ++ _ = l
  rw [List.nil_append]
  conv => rhs; rw [← List.map_id l]
  refine List.map_congr_left fun b _ => ?_
  simp
end Go.Proofs.YtebpggfccljagaaGreat
namespace Go.Proofs.YtebpggfccljagaaGreat
open Go.RowKit
open Wh
set_option linter.unusedSimpArgs false
theorem ReadsB.at_ {w : World} {B : Nat} {A : Option Addr} {l : List UInt8} (h : ReadsB w B A l) {k : Nat} (hk : k < l.length) : ∃ ad, A = some ad ∧ ad.block < B ∧ w.cell? (ad.add k) = some (.int .u8 ((l[k].toNat : Nat) : Int)) := by
 obtain ⟨ad, u, e, hb, hu, hc⟩ := Reads.at_ h hk
 refine ⟨ad, e, hb, ?_⟩
 rw [hc]
 rw [List.getElem?_map, List.getElem?_eq_getElem hk] at hu
 exact hu.symm
theorem pow256 (s : Nat) : (256 : Nat) ^ s = 2 ^ (s * 8) := by rw [show (256 : Nat) = 2 ^ 8 by decide, ← Nat.pow_mul, Nat.mul_comm]
theorem or_byte {x b s : Nat} (hs : s < 4) (hx : x < 256 ^ s) (hb : b < 256) : bits .or .u32 (x : Int) (IntKind.u32.wrap ((b : Int) * 2 ^ (s * 8))) = ((x + b * 256 ^ s : Nat) : Int) ∧ x + b * 256 ^ s < 4294967296 := by
 have h1 : (256 : Nat) ^ s ≤ 256 ^ 3 := Nat.pow_le_pow_right (by decide) (by omega)
 have h2 : (b + 1) * 256 ^ s ≤ 256 * 256 ^ s := Nat.mul_le_mul_right _ hb
 rw [Nat.add_mul, Nat.one_mul] at h2
 have h3 : b * 256 ^ s + 256 ^ s ≤ 4294967296 := by omega
 have e1 : ((b : Int) * 2 ^ (s * 8)) = ((b * 256 ^ s : Nat) : Int) := by rw [pow256, Int.natCast_mul, Int.natCast_pow]; rfl
 refine ⟨?_, by omega⟩
 rw [e1, show IntKind.u32.wrap ((b * 256 ^ s : Nat) : Int) = ((b * 256 ^ s : Nat) : Int) by rw [IntKind.wrap_u32]; omega, u32_or_nat _ _ (by omega) (by omega), Nat.or_comm]
 rw [pow256] at hx ⊢
 have := Nat.two_pow_add_eq_or_of_lt hx b
 rw [Nat.mul_comm] at this
 rw [← this, Nat.add_comm]
theorem bval_drop {l : List UInt8} {k : Nat} (h : k < l.length) : bval (l.drop k) = l[k].toNat * 256 ^ (l.length - (k + 1)) + bval (l.drop (k + 1)) := by
 rw [List.drop_eq_getElem_cons h, bval_cons, List.length_drop]
set_option maxRecDepth 100000 in
set_option maxHeartbeats 4000000 in
theorem setbytes_any {w : World} {g B n c : Nat} {A : Option Addr} {l : List UInt8} (hz : IntS w g) (hr : ReadsB w B A l) (hB : B ≤ w.heap.size) (hn : n = l.length) (hnl : n ≤ 1000000000) :
  Calls Tryz.prog 124 #[.pointer (some ⟨g, 0, none⟩), .slice A n c] w (Puts w g ((bval l : Nat) : Int)) := by
 have Hn := Lib.hid hn
 have hmk : ∀ w : World, (Instr.makeSlice 33 (.int .i64 (((n : Int) + 3) / 4)) (.int .i64 (((n : Int) + 3) / 4))).run Tryz.prog w = .ok (.slice (some ⟨w.heap.size, 0, none⟩) ((n + 3) / 4) ((n + 3) / 4)) (w.alloc (.cells (wcells (List.replicate ((n + 3) / 4) 0)) 115)) := fun w => by
  have := run_makeW ((n + 3) / 4) (by omega) w
  rw [← this, show (((n + 3) / 4 : Nat) : Int) = ((n : Int) + 3) / 4 by omega]
 have hgl := hz.lt
 clear hn
 go_enter Tryz.func124, Tryz.ntmps124
 go_wp2
 go_loopg [15] n (fun k iv wr => ∃ (i : Nat) (L : List Nat), iv = .int .i64 (i : Int) ∧ k = n - i ∧ i ≤ n ∧ Blk wr w.heap.size 115 (wcells L) ∧ Below w.heap.size w wr ∧
  Hid (L.length = (n + 3) / 4 ∧ Wd L ∧ val L = bval (l.drop (n - i))))
 case atStart => exact ⟨0, List.replicate ((n + 3) / 4) 0, rfl, by omega, by omega, Blk.new _ _ _, (Below.refl _ _).alloc (Nat.le_refl _) _, by simp, wd_zeros _, by rw [val_zeros, List.drop_of_length_le (by rw [← Hn.out]; omega)]; rfl⟩
 case round =>
  obtain ⟨i, L, rfl, hk, hi, hblk, hbel, hL⟩ := hrel
  have Hk := Lib.hid hk
  clear hk
  by_cases hin : i < n
  ·obtain ⟨j, hj⟩ : ∃ j, n = i + 1 + j := ⟨n - (i + 1), by omega⟩
   have hjl : j < l.length := by rw [← Hn.out]; omega
   have hr' := hr.below (hbel.mono hB)
   obtain ⟨ad, rfl, hb1, c1⟩ := ReadsB.at_ hr' hjl
   have hiL : i / 4 < L.length := by have := hL.out.1; omega
   have hout : wr.cell? ⟨w.heap.size, i / 4, none⟩ = some (.int .u32 ((L[i / 4] : Nat) : Int)) := by rw [hblk.cell, wcells_get, List.getElem?_eq_getElem hiL]; rfl
   have hfz := hblk.frozen (i / 4)
   have hvl : val L < 256 ^ i := by
    rw [hL.out.2.2]
    have := bval_lt (l.drop (n - i))
    rw [List.length_drop, ← Hn.out, show n - (n - i) = i by omega] at this
    exact this
   have hws := word_small hvl hiL
   have hbt := UInt8.toNat_lt l[j]
   have hor := or_byte (Nat.mod_lt i (by decide)) hws hbt
   have hbs := byte_step (b := l[j].toNat) hiL
   have hbd : bval (l.drop j) = l[j].toNat * 256 ^ i + bval (l.drop (j + 1)) := by
    rw [bval_drop hjl, ← Hn.out, show n - (j + 1) = i by omega]
   obtain ⟨T, hT⟩ : ∃ T, T = L[i / 4] + l[j].toNat * 256 ^ (i % 4) := ⟨_, rfl⟩
   rw [← hT] at hor hbs
   have Hbs := Lib.hid (And.intro hbs hbd)
   have wx := wd_get hL.out.2.1 _ hiL
   obtain ⟨hor1, hor2⟩ := hor
   have hT2 : T ≤ 4294967295 := by omega
   generalize hx : L[i / 4] = x at *
   generalize hy : l[j].toNat = y at *
   have Hj := Lib.hid hj
   clear hx hy hws hvl hbs hbd hT hor2 hr' hr hj
   have hii : (i : Int) < (n : Int) := by omega
   obtain ⟨S, hS⟩ : ∃ S, S = i % 4 * 8 := ⟨_, rfl⟩
   rw [← hS] at hor1
   have q1 : IntKind.i64.wrap ((i : Int) / 4) = (i : Int) / 4 := IntWalk.i64_in _ (by omega)
   have q2 : (0 : Int) ≤ (i : Int) / 4 := by omega
   have q3 : (i : Int) / 4 < ((n : Int) + 3) / 4 := by omega
   have q4 : ((i : Int) / 4).toNat = i / 4 := by omega
   have q5 : IntKind.i64.wrap ((i : Int).tmod 4 * 8) = (S : Int) := by
    rw [show (i : Int).tmod 4 = ((i % 4 : Nat) : Int) from rfl, IntWalk.i64_in _ (by omega)]
    omega
   have hS31 : S ≤ 24 := by omega
   clear hS
   have q6 : IntKind.u32.wrap (y : Int) = (y : Int) := by rw [IntKind.wrap_u32]; omega
   have q7 : (j : Int) < (n : Int) := by have := Hj.out; omega
   go_wp2_with fail
   rw [show (n : Int) - 1 - (i : Int) = (j : Int) by have := Hj.out; omega]
   refine wp_region_noPanic ?_
   refine wp_region_HK (fun w' => w'.cell? ⟨w.heap.size, i / 4, none⟩ = some (.int .u32 (x : Int)) ∧ w'.cell? (ad.add j) = some (.int .u8 (y : Int))) 16 (by kernel_rfl) ⟨hout, c1⟩ (fun hHeld => ?_)
   refine wpHK_take (i := 0) (oi := Oper.mk (some 23) _ _ _ _ _) (v := ?_) rfl (by kernel_rfl) (by kernel_rfl) (by kernel_rfl) (by kernel_rfl) (fun _ _ _ h => h) (Or.inl ⟨by rfl, ?_⟩) (by assumption) ?_
   rotate_left
   ·(intro w' hSw; (try dsimp only at hSw); (obtain ⟨s1, s2⟩ := hSw); go_simp; try with_reducible rfl)
   try simp only [Act.put, List.setIfInBounds_toArray, List.set_cons_zero, List.set_cons_succ]
   refine wpHK_take (i := 1) (oi := Oper.mk (some 24) _ _ _ _ _) (v := ?_) rfl (by kernel_rfl) (by kernel_rfl) (by kernel_rfl) (by kernel_rfl) (fun _ _ _ h => h) (Or.inl ⟨by rfl, ?_⟩) (by assumption) ?_
   rotate_left
   ·(intro w' hSw; (try dsimp only at hSw); (obtain ⟨s1, s2⟩ := hSw); go_simp; try with_reducible rfl)
   try simp only [Act.put, List.setIfInBounds_toArray, List.set_cons_zero, List.set_cons_succ]
   refine wpHK_take (i := 2) (oi := Oper.mk (some 25) _ _ _ _ _) (v := ?_) rfl (by kernel_rfl) (by kernel_rfl) (by kernel_rfl) (by kernel_rfl) (fun _ _ _ h => h) (Or.inl ⟨by rfl, ?_⟩) (by assumption) ?_
   rotate_left
   ·(intro w' hSw; (try dsimp only at hSw); (obtain ⟨s1, s2⟩ := hSw); go_simp; try with_reducible rfl)
   try simp only [Act.put, List.setIfInBounds_toArray, List.set_cons_zero, List.set_cons_succ]
   refine wpHK_take (i := 3) (oi := Oper.mk (some 26) _ _ _ _ _) (v := ?_) rfl (by kernel_rfl) (by kernel_rfl) (by kernel_rfl) (by kernel_rfl) (fun _ _ _ h => h) (Or.inl ⟨by rfl, ?_⟩) (by assumption) ?_
   rotate_left
   ·(intro w' hSw; (try dsimp only at hSw); (obtain ⟨s1, s2⟩ := hSw); go_simp; try with_reducible rfl)
   try simp only [Act.put, List.setIfInBounds_toArray, List.set_cons_zero, List.set_cons_succ]
   refine wpHK_take (i := 4) (oi := Oper.mk (some 27) _ _ _ _ _) (v := ?_) rfl (by kernel_rfl) (by kernel_rfl) (by kernel_rfl) (by kernel_rfl) (fun _ _ _ h => h) (Or.inl ⟨by rfl, ?_⟩) (by assumption) ?_
   rotate_left
   ·(intro w' hSw; (try dsimp only at hSw); (obtain ⟨s1, s2⟩ := hSw); go_simp; try with_reducible rfl)
   try simp only [Act.put, List.setIfInBounds_toArray, List.set_cons_zero, List.set_cons_succ]
   refine wpHK_take (i := 5) (oi := Oper.mk (some 28) _ _ _ _ _) (v := ?_) rfl (by kernel_rfl) (by kernel_rfl) (by kernel_rfl) (by kernel_rfl) (fun _ _ _ h => h) (Or.inl ⟨by rfl, ?_⟩) (by assumption) ?_
   rotate_left
   ·(intro w' hSw; (try dsimp only at hSw); (obtain ⟨s1, s2⟩ := hSw); go_simp; try with_reducible rfl)
   try simp only [Act.put, List.setIfInBounds_toArray, List.set_cons_zero, List.set_cons_succ]
   refine wpHK_take (i := 6) (oi := Oper.mk (some 29) _ _ _ _ _) (v := ?_) rfl (by kernel_rfl) (by kernel_rfl) (by kernel_rfl) (by kernel_rfl) (fun _ _ _ h => h) (Or.inl ⟨by rfl, ?_⟩) (by assumption) ?_
   rotate_left
   ·(intro w' hSw; (try dsimp only at hSw); (obtain ⟨s1, s2⟩ := hSw); go_simp; try with_reducible rfl)
   try simp only [Act.put, List.setIfInBounds_toArray, List.set_cons_zero, List.set_cons_succ]
   refine wpHK_take (i := 7) (oi := Oper.mk (some 30) _ _ _ _ _) (v := ?_) rfl (by kernel_rfl) (by kernel_rfl) (by kernel_rfl) (by kernel_rfl) (fun _ _ _ h => h) (Or.inl ⟨by rfl, ?_⟩) (by assumption) ?_
   rotate_left
   ·(intro w' hSw; (try dsimp only at hSw); (obtain ⟨s1, s2⟩ := hSw); go_simp; try with_reducible rfl)
   try simp only [Act.put, List.setIfInBounds_toArray, List.set_cons_zero, List.set_cons_succ]
   refine wpHK_take (i := 8) (oi := Oper.mk (some 31) _ _ _ _ _) (v := ?_) rfl (by kernel_rfl) (by kernel_rfl) (by kernel_rfl) (by kernel_rfl) (fun _ _ _ h => h) (Or.inl ⟨by rfl, ?_⟩) (by assumption) ?_
   rotate_left
   ·(intro w' hSw; (try dsimp only at hSw); (obtain ⟨s1, s2⟩ := hSw); go_simp; try with_reducible rfl)
   try simp only [Act.put, List.setIfInBounds_toArray, List.set_cons_zero, List.set_cons_succ]
   refine wpHK_take (i := 9) (oi := Oper.mk (some 32) _ _ _ _ _) (v := ?_) rfl (by kernel_rfl) (by kernel_rfl) (by kernel_rfl) (by kernel_rfl) (fun _ _ _ h => h) (Or.inl ⟨by rfl, ?_⟩) (by assumption) ?_
   rotate_left
   ·(intro w' hSw; (try dsimp only at hSw); (obtain ⟨s1, s2⟩ := hSw); go_simp; try with_reducible rfl)
   try simp only [Act.put, List.setIfInBounds_toArray, List.set_cons_zero, List.set_cons_succ]
   refine wpHK_take (i := 10) (oi := Oper.mk (some 33) _ _ _ _ _) (v := ?_) rfl (by kernel_rfl) (by kernel_rfl) (by kernel_rfl) (by kernel_rfl) (fun _ _ _ h => h) (Or.inl ⟨by rfl, ?_⟩) (by assumption) ?_
   rotate_left
   ·(intro w' hSw; (try dsimp only at hSw); (obtain ⟨s1, s2⟩ := hSw); go_simp; try with_reducible rfl)
   try simp only [Act.put, List.setIfInBounds_toArray, List.set_cons_zero, List.set_cons_succ]
   refine wpHK_take (i := 11) (oi := Oper.mk (some 34) _ _ _ _ _) (v := ?_) rfl (by kernel_rfl) (by kernel_rfl) (by kernel_rfl) (by kernel_rfl) (fun _ _ _ h => h) (Or.inl ⟨by rfl, ?_⟩) (by assumption) ?_
   rotate_left
   ·(intro w' hSw; (try dsimp only at hSw); (obtain ⟨s1, s2⟩ := hSw); go_simp; try with_reducible rfl)
   try simp only [Act.put, List.setIfInBounds_toArray, List.set_cons_zero, List.set_cons_succ]
   refine wpHK_take (i := 12) (oi := Oper.mk (some 35) _ _ _ _ _) (v := ?_) rfl (by kernel_rfl) (by kernel_rfl) (by kernel_rfl) (by kernel_rfl) (fun _ _ _ h => h) (Or.inl ⟨by rfl, ?_⟩) (by assumption) ?_
   rotate_left
   ·(intro w' hSw; (try dsimp only at hSw); (obtain ⟨s1, s2⟩ := hSw); go_simp; try with_reducible rfl)
   try simp only [Act.put, List.setIfInBounds_toArray, List.set_cons_zero, List.set_cons_succ]
   refine wpHK_take (i := 13) (oi := Oper.mk (some 36) _ _ _ _ _) (v := ?_) rfl (by kernel_rfl) (by kernel_rfl) (by kernel_rfl) (by kernel_rfl) (fun _ _ _ h => h) (Or.inl ⟨by rfl, ?_⟩) (by assumption) ?_
   rotate_left
   ·(intro w' hSw; (try dsimp only at hSw); (obtain ⟨s1, s2⟩ := hSw); go_simp; try with_reducible rfl)
   try simp only [Act.put, List.setIfInBounds_toArray, List.set_cons_zero, List.set_cons_succ]
   refine wpHK_take (i := 14) (oi := Oper.mk (some 37) _ _ _ _ _) (v := ?_) rfl (by kernel_rfl) (by kernel_rfl) (by kernel_rfl) (by kernel_rfl) (fun _ _ _ h => h) (Or.inl ⟨by rfl, ?_⟩) (by assumption) ?_
   rotate_left
   ·(intro w' hSw; (try dsimp only at hSw); (obtain ⟨s1, s2⟩ := hSw); go_simp; try with_reducible rfl)
   try simp only [Act.put, List.setIfInBounds_toArray, List.set_cons_zero, List.set_cons_succ]
   refine wpHK_take (i := 15) (oi := Oper.mk (some 38) _ _ _ _ _) (v := ?_) rfl (by kernel_rfl) (by kernel_rfl) (by kernel_rfl) (by kernel_rfl) (fun _ _ _ h => h) (Or.inl ⟨by rfl, ?_⟩) (by assumption) ?_
   rotate_left
   ·(intro w' hSw; (try dsimp only at hSw); (obtain ⟨s1, s2⟩ := hSw); go_simp; try with_reducible rfl)
   try simp only [Act.put, List.setIfInBounds_toArray, List.set_cons_zero, List.set_cons_succ]
   refine wpHK_tail (j := 16) (o := Oper.mk (none) _ _ _ _ _) rfl (by kernel_rfl) (by decide) (fun K hK => ?_)
   go_simp
   refine hK.out _ _ ?_
   clear hK K
   try simp only [Act.put, List.setIfInBounds_toArray, List.set_cons_zero, List.set_cons_succ]
   refine wpHK_done (by kernel_rfl) ?_ _
   refine NoPanic.normal ?_
   clear q1 q2 q3 q4 q5 q6 q7
   go_wp2_with fail
   go_roundg (n - (i + 1))
   case measure => have := Hk.out; omega
   case rel =>
    refine ⟨i + 1, L.set (i / 4) T, rfl, rfl, by omega, ?_, ?_, ?_⟩
    ·have := hblk.set_ (i / 4) (.int .u32 (T : Int))
     rw [wcells_set] at this
     exact this
    ·exact (hbel.setCell (by show w.heap.size ≤ w.heap.size; omega) _).drew
    ·refine ⟨by rw [List.length_set]; exact hL.out.1, wd_set hL.out.2.1 _ _ (by omega), ?_⟩
     have h5 := Hbs.out.1
     rw [hL.out.2.2, show n - i = j + 1 by have := Hj.out; omega] at h5
     rw [show n - (i + 1) = j by have := Hj.out; omega, Hbs.out.2, h5, Nat.mul_comm, Nat.add_comm]
  ·have hi' : i = n := by omega
   have hii : (n : Int) ≤ (i : Int) := by omega
   have hLl := hL.out.1
   have hv := hL.out.2.2
   rw [show n - i = 0 by omega, List.drop_zero] at hv
   have HI := Lib.hid (is_any false (hz.below hbel) (reads_blk hblk hblk.lt) (Nat.le_refl _) hLl.symm (Nat.le_refl _) (by omega) hL.out.2.1)
   have Hv := Lib.hid hv
   clear hi' hLl hv hr
   go_wp2_with fail
   refine HI.out.mono ?_
   rintro e w6 ⟨rfl, hi6, hg6⟩
   rw [Hv.out] at hi6
   go_wp2_with fail
   go_ret
   exact ⟨rfl, hi6, grown_lift hbel hg6⟩
theorem byte_word {m i : Nat} : m / 256 ^ i % 256 = at_ (wds m) (i / 4) / 256 ^ (i % 4) % 256 := by
 rcases Nat.lt_or_ge (i / 4) (wds m).length with h | h
 ·have e := div_words (wd_w m) (n := 8 * i) (by omega)
  rw [val_w, show 8 * i / 32 = i / 4 by omega, show 8 * i % 32 = 8 * (i % 4) by omega] at e
  rw [show (256 : Nat) = 2 ^ 8 by decide, ← Nat.pow_mul, ← Nat.pow_mul, e, val_drop h, ← at_get h]
  generalize val ((wds m).drop (i / 4 + 1)) = r
  generalize at_ (wds m) (i / 4) = u
  have hs : i % 4 < 4 := Nat.mod_lt _ (by decide)
  obtain ⟨z, hz⟩ : ∃ z, 8 * (i % 4) + (z + 8) = 32 := ⟨24 - 8 * (i % 4), by omega⟩
  have hp : 2 ^ (8 * (i % 4)) * (2 ^ z * 2 ^ 8) = 4294967296 := by rw [← Nat.pow_add 2 z, ← Nat.pow_add, hz]
  rw [← hp, Nat.mul_assoc, Nat.add_mul_div_left _ _ (Nat.two_pow_pos _)]
  rw [show 2 ^ z * 2 ^ 8 * r = 2 ^ 8 * (2 ^ z * r) by ac_rfl, Nat.add_mul_mod_self_left]
 ·rw [at_end h, Nat.zero_div]
  have h1 : m < 256 ^ i := by
   have h2 := lt_of_len (n := m) (k := i / 4) h
   rw [show (4294967296 : Nat) = 256 ^ 4 by decide, ← Nat.pow_mul] at h2
   exact Nat.lt_of_lt_of_le h2 (Nat.pow_le_pow_right (by decide) (by omega))
  rw [Nat.div_eq_of_lt h1]
def bcells (l : List UInt8) : Array Value := (l.map bv).toArray
theorem bcells_get (l : List UInt8) (i : Nat) : (bcells l)[i]? = l[i]?.map bv := by unfold bcells; rw [List.getElem?_toArray, List.getElem?_map]
theorem bcells_set (l : List UInt8) (i : Nat) (x : UInt8) : (bcells l).setIfInBounds i (.int .u8 (x.toNat : Int)) = bcells (l.set i x) := by
 unfold bcells
 rw [List.setIfInBounds_toArray, List.map_set]
 rfl
theorem madeB (n : Nat) : madeCells (Value.cells (.int .u8 0)) (n * 1) = bcells (List.replicate n 0) := by
 unfold bcells
 rw [List.map_replicate, Nat.mul_one]
 have h : (madeCells (Value.cells (.int .u8 0)) n).toList = List.replicate n (bv 0) := by
  unfold madeCells
  rw [Array.toList_map, Array.toList_range]
  refine List.eq_replicate_iff.2 ⟨by simp, fun b hb => ?_⟩
  simp only [List.mem_map] at hb
  obtain ⟨i, _, rfl⟩ := hb
  have e : i % (Value.int .u8 0).cells.size = 0 := Nat.mod_one i
  rw [e]
  rfl
 rw [← h]
theorem run_makeB (n : Nat) (hn : n ≤ 70368744177664) (w : World) :
  (Instr.makeSlice 130 (.int .i64 (n : Int)) (.int .i64 (n : Int))).run Tryz.prog w = .ok (.slice (some ⟨w.heap.size, 0, none⟩) n n) (w.alloc (.cells (bcells (List.replicate n 0)) 5)) := by
 obtain ⟨i0, hi, hz0, hz1, hz2⟩ := info_parts infoB
 have h := run_make_rowN (P := Tryz.prog) 130 5 i0 (.int .u8 0) Tryz.underlying130 hi hz0 .i64 .i64 n n (Nat.le_refl _) (by rw [hz2]; omega) (by omega) w
 rw [hz1, madeB] at h
 exact h
theorem readsb_blk {w : World} {g B : Nat} {l : List UInt8} (h : Blk w g 5 (bcells l)) (hB : g < B) : ReadsB w B (some ⟨g, 0, none⟩) l := by
 refine ⟨by simp, fun _ => ⟨_, rfl, hB, fun j u hu => ?_⟩⟩
 have := h.cell j
 rw [bcells_get] at this
 rw [List.getElem?_map] at hu
 rw [hu] at this
 rw [← this]
 unfold Addr.add
 split
 ·rename_i h0; subst h0; rfl
 ·simp
theorem bytes_len (m : Nat) : m < 256 ^ ((bl m + 7) / 8) ∧ (0 < m → 256 ^ ((bl m + 7) / 8 - 1) ≤ m ∧ 0 < (bl m + 7) / 8) := by
 constructor
 ·have h := lt_bl m
  rw [show (256 : Nat) = 2 ^ 8 by decide, ← Nat.pow_mul]
  exact Nat.lt_of_lt_of_le h (Nat.pow_le_pow_right (by decide) (by omega))
 ·intro hm
  have h := bl_le hm
  have h0 : 0 < bl m := by
   rcases Nat.eq_zero_or_pos (bl m) with h0 | h0
   ·have := lt_bl m; rw [h0] at this; omega
   ·exact h0
  refine ⟨?_, by omega⟩
  rw [show (256 : Nat) = 2 ^ 8 by decide, ← Nat.pow_mul]
  exact Nat.le_trans (Nat.pow_le_pow_right (by decide) (by omega)) h
theorem bys_of {L : List UInt8} {m : Nat} (hl : L.length = (bl m + 7) / 8) (hv : bval L = m) : bys m = L := by
 have hf : Formed L := by
  intro x hx h0
  cases L with
  | nil => cases hx
  | cons y r =>
   have hy : y = x := by simpa using hx
   subst hy
   rw [bval_cons, h0] at hv
   have h1 := bval_lt r
   have hm : 0 < m := by
    rcases Nat.eq_zero_or_pos m with h | h
    ·subst h; rw [bl_zero] at hl; simp at hl
    ·exact h
   have h2 := ((bytes_len m).2 hm).1
   rw [← hl, List.length_cons, Nat.add_sub_cancel] at h2
   simp at hv
   omega
 rw [← hv]
 exact bys_bval _ L rfl hf
def BytesW (w : World) (l : List UInt8) (e : Ending) (w' : World) : Prop := ∃ A n, e = .returned (.slice A n n) ∧ Hid (n = l.length) ∧ ReadsB w' w'.heap.size A l ∧ Below w.heap.size w w'
set_option maxRecDepth 100000 in
set_option maxHeartbeats 4000000 in
theorem bytes_any {w : World} {gx m : Nat} (z : Int) (hm : z.natAbs = m) (hx : IntB w gx z) (hxl : (wds m).length ≤ 100000000) :
  Calls Tryz.prog 65 #[.pointer (some ⟨gx, 0, none⟩)] w (BytesW w (bys m)) := by
 have HB := Lib.hid (bitlen_any hx (by rw [hm]; omega))
 rw [hm] at HB
 unfold Bitted at HB
 obtain ⟨b, hb⟩ : ∃ b, b = bl m := ⟨_, rfl⟩
 rw [← hb] at HB
 have hbl : b ≤ 3200000000 := by rw [hb]; have := bl_len m; omega
 obtain ⟨n, hn⟩ : ∃ n, n = (b + 7) / 8 := ⟨_, rfl⟩
 have hnl : n ≤ 400000001 := by omega
 have hmk : ∀ w : World, (Instr.makeSlice 130 (.int .i64 (((b : Int) + 7) / 8)) (.int .i64 (((b : Int) + 7) / 8))).run Tryz.prog w = .ok (.slice (some ⟨w.heap.size, 0, none⟩) n n) (w.alloc (.cells (bcells (List.replicate n 0)) 5)) := fun w => by
  have := run_makeB n (by omega) w
  rw [← this, show ((n : Nat) : Int) = ((b : Int) + 7) / 8 by omega]
 have Hn := Lib.hid (And.intro hn hb)
 have Hx := Lib.hid (And.intro hx hm)
 have hgl := hx.lt
 clear hx hm hb hn
 go_enter Tryz.func65, Tryz.ntmps65
 go_wp2_with fail
 refine HB.out.mono ?_
 rintro e w1 ⟨q, rfl, rfl⟩
 go_wp2_with fail
 rw [show ((b : Int) + 7) / 8 = (n : Int) by have := Hn.out.1; omega]
 clear hmk
 go_loopg [14] n (fun k iv wr => ∃ (i : Nat) (L : List UInt8), iv = .int .i64 (i : Int) ∧ k = n - i ∧ i ≤ n ∧ Blk wr w.heap.size 5 (bcells L) ∧ Below w.heap.size w wr ∧
  Hid (L.length = n ∧ bval (L.drop (n - i)) = m % 256 ^ i))
 case atStart => exact ⟨0, List.replicate n 0, rfl, by omega, by omega, Blk.new _ _ _, (below_drewN (Below.refl _ _) q).alloc (Nat.le_refl _) _, by simp, by rw [List.drop_of_length_le (by simp), Nat.pow_zero, Nat.mod_one]; rfl⟩
 case round =>
  obtain ⟨i, L, rfl, hk, hi, hblk, hbel, hL⟩ := hrel
  have Hk := Lib.hid hk
  clear hk
  by_cases hin : i < n
  ·have hxr := Hx.out.1.below hbel
   obtain ⟨sx, Ax, nx, cx, _, x1, Hxx, _, _, rx⟩ := hxr.opened
   rw [Hx.out.2] at rx
   have hnx := Hxx.out.2
   rw [Hx.out.2] at hnx
   have hi4 : i / 4 < (wds m).length := by
    rcases Nat.lt_or_ge (i / 4) (wds m).length with h | h
    ·exact h
    ·exfalso
     have h2 := bl_len m
     have h3 := Hn.out.1
     have h4 := Hn.out.2
     omega
   obtain ⟨ad, rfl, hb1, c1⟩ := rx.at_ hi4
   rw [← at_get] at c1
   have hbw := byte_word (m := m) (i := i)
   have hu := at_lt (wd_w m) (i / 4)
   have hni : (i : Int) / 4 < (nx : Int) := by omega
   have hjL : n - 1 - i < L.length := by have := hL.out.1; omega
   have hout : wr.cell? ⟨w.heap.size, n - 1 - i, none⟩ = some (.int .u8 ((L[n - 1 - i].toNat : Nat) : Int)) := by rw [hblk.cell, bcells_get, List.getElem?_eq_getElem hjL]; rfl
   have hfz := hblk.frozen (n - 1 - i)
   obtain ⟨S, hS⟩ : ∃ S, S = i % 4 * 8 := ⟨_, rfl⟩
   have hS31 : S ≤ 24 := by omega
   generalize at_ (wds m) (i / 4) = u at *
   generalize L[n - 1 - i].toNat = y0 at *
   have hii : (i : Int) < (n : Int) := by omega
   have Hbw := Lib.hid (And.intro hbw (And.intro hS hnx))
   clear hbw hnx hi4 rx hxr hjL
   clear hS
   go_wp2_with fail
   obtain ⟨X, hX⟩ : ∃ X : UInt8, X = UInt8.ofNat (m / 256 ^ i % 256) := ⟨_, rfl⟩
   have hXn : X.toNat = m / 256 ^ i % 256 := by rw [hX, byte_nat]
   have hval : (u : Int) / 2 ^ (i % 4 * 8) % 256 = (X.toNat : Int) := by
    rw [hXn, Hbw.out.1, pow256, Int.natCast_emod, Int.natCast_ediv, Int.natCast_pow]; rfl
   rw [hval]
   go_roundg (n - (i + 1))
   case measure => have := Hk.out; omega
   case rel =>
    refine ⟨i + 1, L.set (n - 1 - i) X, rfl, rfl, by omega, ?_, hbel.setCell (by show w.heap.size ≤ w.heap.size; omega) _, by rw [List.length_set]; exact hL.out.1, ?_⟩
    ·have := hblk.set_ (n - 1 - i) (.int .u8 (X.toNat : Int))
     rwa [bcells_set] at this
    ·have hjl : n - (i + 1) < (L.set (n - 1 - i) X).length := by rw [List.length_set, hL.out.1]; omega
     rw [bval_drop hjl, List.length_set, hL.out.1]
     have e1 : (L.set (n - 1 - i) X)[n - (i + 1)] = X := by
      simp only [show n - (i + 1) = n - 1 - i by omega, List.getElem_set_self]
     rw [e1, show n - (i + 1) + 1 = n - i by omega, List.drop_set_of_lt (by omega), hL.out.2, Nat.mod_pow_succ, hXn, show n - (n - i) = i by omega]
     rw [Nat.mul_comm, Nat.add_comm]
  ·have hi' : i = n := by omega
   have hii : (n : Int) ≤ (i : Int) := by omega
   have hv := hL.out.2
   rw [show n - i = 0 by omega, List.drop_zero, hi', Nat.mod_eq_of_lt (by rw [Hn.out.1, Hn.out.2]; exact (bytes_len m).1)] at hv
   have hb := bys_of (L := L) (m := m) (by rw [hL.out.1, Hn.out.1, Hn.out.2]) hv
   have Hb := Lib.hid hb
   clear hv hb hi'
   go_wp2_with fail
   go_ret
   exact ⟨_, n, rfl, by rw [Hb.out]; exact hL.out.1.symm, by rw [Hb.out]; exact readsb_blk hblk hblk.lt, hbel⟩
end Go.Proofs.YtebpggfccljagaaGreat
namespace Go.Proofs.YtebpggfccljagaaGreat
namespace Wh
end Wh
end Go.Proofs.YtebpggfccljagaaGreat
namespace Go.Proofs.YtebpggfccljagaaGreat
open Go.RowKit
open Wh
set_option linter.unusedSimpArgs false
section
variable {w : World} {g t : Nat} {E : List UInt8} {S : List Value}
end
theorem toL (s : ByteArray) : s.toList = s.data.toList := ByteArray.toList_eq s
theorem str_facts {s : ByteArray} (h : 0 < s.size) : s.toList.isEmpty = false ∧ ¬ s.toList = [] := by
 have hl : s.data.toList.length = s.size := Array.length_toList
 rw [toL]
 constructor
 ·rw [List.isEmpty_eq_false_iff]; intro h0; rw [h0] at hl; simp at hl; omega
 ·intro h0; rw [h0] at hl; simp at hl; omega
theorem str_empty {s : ByteArray} (h : s.data.toList = []) : s = ⟨#[]⟩ := by
 have h1 : s.data = #[] := by simpa using h
 cases s; simp_all
theorem str_head {s : ByteArray} (h : 0 < s.size) : s.data.toList.head? = some s[0] := by
 have hl : s.data.toList.length = s.size := Array.length_toList
 rw [List.head?_eq_getElem?, List.getElem?_eq_getElem (by omega)]
 rfl
def pv (g : Nat) : Value := .pointer (some ⟨g, 0, none⟩)
def num (a : Bool × ByteArray) : Int := sgn a.1 (bval a.2.data.toList)
theorem len_mag {l : List UInt8} (h : l.length ≤ 16384) : (wds (bval l)).length ≤ 5000 := by
 have h1 := bval_lt l
 refine Nat.le_trans (len_wds (k := (l.length + 3) / 4) ?_) (by omega)
 rw [show (4294967296 : Nat) = 256 ^ 4 by decide, ← Nat.pow_mul]
 exact Nat.lt_of_lt_of_le h1 (Nat.pow_le_pow_right (by decide) (by omega))
theorem bytes_below (w : World) (s : ByteArray) : Below w.heap.size w (Lib.bytesWorld w 5 s) := ⟨rfl, rfl, rfl, by rw [Lib.bytesWorld_size]; omega, fun i hi => Lib.bytesWorld_at_old w 5 s i hi⟩
theorem bytes_reads (w : World) (s : ByteArray) : ReadsB (Lib.bytesWorld w 5 s) (Lib.bytesWorld w 5 s).heap.size (some ⟨w.heap.size, 0, none⟩) s.data.toList := by
 have hl : s.data.toList.length = s.size := Array.length_toList
 refine ⟨by simp, fun _ => ⟨_, rfl, by rw [Lib.bytesWorld_size]; exact Nat.lt_succ_self _, fun j u hu => ?_⟩⟩
 have hj : j < s.size := by
  rcases Nat.lt_or_ge j s.size with h | h
  ·exact h
  ·rw [List.getElem?_map, List.getElem?_eq_none (by omega)] at hu; cases hu
 rw [Addr.add_lit, Nat.zero_add, Lib.bytesWorld_cell w 5 s j hj, ← hu, List.getElem?_map, List.getD_eq_getElem?_getD, List.getElem?_eq_getElem (by omega)]
 rfl
def enc (z : Int) : Value := .agg #[.bool (decide (z < 0)), .string ⟨(bys z.natAbs).toArray⟩]
theorem sg_neg (z : Int) : decide (sg z < 0) = decide (z < 0) := by
 unfold sg
 by_cases h0 : z = 0
 ·subst h0; rfl
 ·by_cases h1 : z < 0
  ·simp [h0, h1]
  ·simp [h0, h1]
end Go.Proofs.YtebpggfccljagaaGreat
