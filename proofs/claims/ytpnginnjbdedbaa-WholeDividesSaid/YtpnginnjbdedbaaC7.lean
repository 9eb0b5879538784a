import Derived.Test.YtpnginnjbdedbaaC6
import Derived.Test.YtpnginnjbdedbaaRows
import Derived.Test.YtpnginnjbdedbaaC1
import Derived.WalkKit
import Derived.ProofKit
import Derived.OpenShut
import Derived.Carry
import Derived.JoinedCond
import Derived.ChangeSlices
/- Whole numbers' sizes; the plain laws of division, greatest divisors, roots. -/
namespace Go.Proofs.Ytpnginnjbdedbaa
open Go.RowKit
open Wh
set_option linter.unusedSimpArgs false

/-- a number of at most k bits -/
def SB (k : Nat) (z : Int) : Prop := z.natAbs < 2 ^ k
theorem SB.mono {k j : Nat} {z : Int} (h : SB k z) (hk : k ≤ j) : SB j z := Nat.lt_of_lt_of_le h (Nat.pow_le_pow_right (by decide) hk)
theorem SB.bl {k n : Nat} {z : Int} (h : SB k z) (hk : k ≤ n) : bl z.natAbs ≤ n := bl_lt.2 (h.mono hk)
theorem SB.fits {k : Nat} {z : Int} (h : SB k z) (hk : k ≤ 131072) : fits z := h.bl hk
theorem SB.le {k : Nat} {z y : Int} (h : SB k z) (hy : y.natAbs ≤ z.natAbs) : SB k y := Nat.lt_of_le_of_lt hy h
theorem SB.mul {k j : Nat} {x y : Int} (hx : SB k x) (hy : SB j y) : SB (k + j) (x * y) := by
  unfold SB
  rw [Int.natAbs_mul, Nat.pow_add]
  exact Nat.mul_lt_mul'' hx hy
theorem SB.add {k : Nat} {x y : Int} (hx : SB k x) (hy : SB k y) : SB (k + 1) (x + y) := by
  have h1 := Int.natAbs_add_le x y
  unfold SB at *
  rw [Nat.pow_succ]
  omega
theorem SB.sub {k : Nat} {x y : Int} (hx : SB k x) (hy : SB k y) : SB (k + 1) (x - y) := by
  have h1 := Int.natAbs_sub_le x y
  unfold SB at *
  rw [Nat.pow_succ]
  omega
theorem SB.neg {k : Nat} {x : Int} (hx : SB k x) : SB k (-x) := hx.le (by omega)
theorem SB.zero (k : Nat) : SB k 0 := Nat.pow_pos (by decide)
theorem may_sb {n : Bool} {s : ByteArray} {k : Nat} (h : s.size ≤ k) : SB (8 * k) (num (n, s)) := by
  unfold SB num
  rw [sgn_abs, ← pow_bytes]
  have hl : s.data.toList.length = s.size := Array.length_toList
  exact Nat.lt_of_lt_of_le (bval_lt _) (Nat.pow_le_pow_right (by decide) (by show s.data.toList.length ≤ k; omega))
theorem may_num {n : Bool} {s : ByteArray} (h : MayL n s.data.toList) : enc (num (n, s)) = .agg #[.bool n, .string s] := by
  unfold enc num
  rw [sgn_neg, sgn_abs, show bys (bval s.data.toList) = s.data.toList from bys_bval _ _ rfl h.2.2]
  have h1 : (n && decide (0 < bval s.data.toList)) = n := by
    cases n
    · rfl
    · have hne : s.data.toList ≠ [] := fun h0 => absurd (h.2.1 h0) (by decide)
      rw [Bool.true_and, decide_eq_true (bval_pos h.2.2 hne)]
  rw [h1]
theorem enc_zero : enc 0 = .agg #[.bool false, .string ⟨#[]⟩] := by
  unfold enc
  rw [Int.natAbs_zero, bys_zero]
  rfl
theorem enc_one : enc 1 = .agg #[.bool false, .string ⟨#[1]⟩] := by
  unfold enc
  rw [show (1 : Int).natAbs = 1 from rfl, bys_pos (by decide), show 1 / 256 = 0 from rfl, bys_zero]
  rfl
theorem may_none {n : Bool} {s : ByteArray} (hm : MayL n s.data.toList) (h : s.size = 0) : n = false ∧ s = ⟨#[]⟩ := by
  have hl : s.data.toList.length = s.size := Array.length_toList
  have h1 := List.eq_nil_of_length_eq_zero (show s.data.toList.length = 0 by omega)
  exact ⟨hm.2.1 h1, str_empty h1⟩
/-- the form of a number that is not nought -/
theorem form_pos {z : Int} {s : Bool} {b : ByteArray} (hn : num (s, b) = z) (hz : z ≠ 0) : 0 < b.size := by
  rcases Nat.eq_zero_or_pos b.size with h | h
  · exfalso
    have hl : b.data.toList.length = b.size := Array.length_toList
    obtain rfl := str_empty (s := b) (List.eq_nil_of_length_eq_zero (by omega))
    apply hz
    rw [← hn]
    cases s <;> rfl
  · exact h
theorem form_sign {z : Int} {s : Bool} {b : ByteArray} (hn : num (s, b) = z) (hm : MayL s b.data.toList) (hz : 0 ≤ z) : s = false := by
  cases s
  · rfl
  · exfalso
    have hne : b.data.toList ≠ [] := fun h0 => absurd (hm.2.1 h0) (by decide)
    have h1 : 0 < bval b.data.toList := bval_pos hm.2.2 hne
    have h2 : num (true, b) = -(bval b.data.toList : Int) := rfl
    rw [h2] at hn
    omega
theorem gcdl_two (x y : Int) : gcdl [x, y] = Nat.gcd x.natAbs y.natAbs := by
  unfold gcdl
  rw [List.foldl_cons, List.foldl_cons, List.foldl_nil, Nat.gcd_zero_left]
theorem gcdl_swap (x y : Int) : gcdl [y, x] = gcdl [x, y] := by rw [gcdl_two, gcdl_two, Nat.gcd_comm]
theorem gcdl_minus (x y : Int) : gcdl [-y, x] = gcdl [x, y] := by rw [gcdl_two, gcdl_two, Int.natAbs_neg, Nat.gcd_comm]
theorem gcdl_none {x y : Int} (h : (gcdl [x, y] : Int) = 0) : x = 0 ∧ y = 0 := by
  rw [gcdl_two] at h
  have h1 : Nat.gcd x.natAbs y.natAbs = 0 := by omega
  have h2 := Nat.gcd_eq_zero_iff.1 h1
  omega
theorem gcdl_sb {x y : Int} {k : Nat} (hx : SB k x) (hy : SB k y) : SB k (gcdl [x, y] : Int) := by
  unfold SB
  rw [Int.natAbs_natCast, gcdl_two]
  rcases Nat.eq_zero_or_pos x.natAbs with h | h
  · rw [h, Nat.gcd_zero_left]; exact hy
  · exact Nat.lt_of_le_of_lt (Nat.gcd_le_left _ h) hx
theorem gcd_div_left {x y : Int} : x % (gcdl [x, y] : Int) = 0 := by
  rw [gcdl_two]
  exact Int.emod_eq_zero_of_dvd (Int.ofNat_dvd_left.2 (Nat.gcd_dvd_left _ _))
theorem gcd_div_right {x y : Int} : y % (gcdl [x, y] : Int) = 0 := by
  rw [gcdl_two]
  exact Int.emod_eq_zero_of_dvd (Int.ofNat_dvd_left.2 (Nat.gcd_dvd_right _ _))
theorem gcd_one {x y : Int} (h : (gcdl [x, y] : Int) ≠ 0) : gcdl [x / (gcdl [x, y] : Int), y / (gcdl [x, y] : Int)] = 1 := by
  rw [gcdl_two] at *
  have h0 : 0 < Nat.gcd x.natAbs y.natAbs := by omega
  rw [gcdl_two, Int.natAbs_ediv_of_dvd (Int.ofNat_dvd_left.2 (Nat.gcd_dvd_left _ _)), Int.natAbs_ediv_of_dvd (Int.ofNat_dvd_left.2 (Nat.gcd_dvd_right _ _)), Int.natAbs_natCast]
  exact Nat.coprime_div_gcd_div_gcd h0
end Go.Proofs.Ytpnginnjbdedbaa

/- whole's operations, their answers' forms known. -/
namespace Go.Proofs.Ytpnginnjbdedbaa
open Go.RowKit
open Wh
set_option linter.unusedSimpArgs false

section
variable {w : World} {na nb : Bool} {sa sb : ByteArray} {z : Int} {s : Bool} {b : ByteArray}
/-- a number and no error -/
def T2 (w : World) (s : Bool) (b : ByteArray) (e : Ending) (w' : World) : Prop := e = .returned (.tuple #[.agg #[.bool s, .string b], .int .i64 0]) ∧ Below w.heap.size w w'
theorem ans_told {ok : Prop} {z' : Int} {e : Ending} {w' : World} (h : Ans w ok z' e w') (hok : ok) (hz : z' = z) (hf : fits z) (he : enc z = .agg #[.bool s, .string b]) : T2 w s b e w' := by
  subst hz
  exact ⟨by rw [h.1 hok hf, he], h.2.2.2⟩
theorem add_told (hm : May2 (na, sa) (nb, sb)) (hz : num (na, sa) + num (nb, sb) = z) (hf : fits z) (he : enc z = .agg #[.bool s, .string b]) : Calls Try.prog 27 #[.agg #[.bool na, .string sa], .agg #[.bool nb, .string sb]] w (T2 w s b) :=
  wadd_any.mono fun _ _ h => ans_told h hm hz hf he
theorem sub_told (hm : May2 (na, sa) (nb, sb)) (hz : num (na, sa) - num (nb, sb) = z) (hf : fits z) (he : enc z = .agg #[.bool s, .string b]) : Calls Try.prog 28 #[.agg #[.bool na, .string sa], .agg #[.bool nb, .string sb]] w (T2 w s b) :=
  wsub_any.mono fun _ _ h => ans_told h hm hz hf he
theorem mul_told (hm : May2 (na, sa) (nb, sb)) (hz : num (na, sa) * num (nb, sb) = z) (hf : fits z) (he : enc z = .agg #[.bool s, .string b]) : Calls Try.prog 29 #[.agg #[.bool na, .string sa], .agg #[.bool nb, .string sb]] w (T2 w s b) :=
  wmul_any.mono fun _ _ h => ans_told h hm hz hf he
theorem neg_told (hm : MayL na sa.data.toList) (hz : -num (na, sa) = z) (hf : fits z) (he : enc z = .agg #[.bool s, .string b]) : Calls Try.prog 37 #[.agg #[.bool na, .string sa]] w (T2 w s b) :=
  wneg_any.mono fun _ _ h => ans_told h hm hz hf he
theorem abs_told (hm : MayL na sa.data.toList) (hz : ((num (na, sa)).natAbs : Int) = z) (hf : fits z) (he : enc z = .agg #[.bool s, .string b]) : Calls Try.prog 38 #[.agg #[.bool na, .string sa]] w (T2 w s b) :=
  wabs_any.mono fun _ _ h => ans_told h hm hz hf he
/-- the greatest divisor of two that were laid side by side -/
theorem gcd_told (hm : May2 (na, sa) (nb, sb)) (hz : (gcdl [num (na, sa), num (nb, sb)] : Int) = z) (hf : fits z) (he : enc z = .agg #[.bool s, .string b]) :
    Calls Try.prog 15 #[.slice (some ⟨w.heap.size, 0, none⟩) 2 2] (w.alloc (.cells #[.bool na, .string sa, .bool nb, .string sb] 26)) (T2 (w.alloc (.cells #[.bool na, .string sa, .bool nb, .string sb] 26)) s b) :=
  (wgcd_any (c := 2) (blk_pair (w := w) (na, sa) (nb, sb)) (by simp) rfl (by simp)).mono fun _ _ h => ans_told h (may2_all.2 hm) hz hf he
theorem cmp_told (hm : May2 (na, sa) (nb, sb)) : Calls Try.prog 26 #[.agg #[.bool na, .string sa], .agg #[.bool nb, .string sb]] w (fun e w' => e = .returned (.tuple #[.int .i64 (cmpI (num (na, sa)) (num (nb, sb))), .int .i64 0]) ∧ Below w.heap.size w w') :=
  wcmp_any.mono fun _ _ h => ⟨h.1 hm, h.2.2⟩
theorem sign_told (hm : MayL na sa.data.toList) : Calls Try.prog 44 #[.agg #[.bool na, .string sa]] w (fun e w' => e = .returned (.int .i64 (sg (num (na, sa)))) ∧ Below w.heap.size w w') :=
  wsign_any.mono fun _ _ h => ⟨h.1 hm, h.2.2⟩
/-- two numbers and no error -/
def T3 (w : World) (s : Bool) (b : ByteArray) (s' : Bool) (b' : ByteArray) (e : Ending) (w' : World) : Prop := e = .returned (.tuple #[.agg #[.bool s, .string b], .agg #[.bool s', .string b'], .int .i64 0]) ∧ Below w.heap.size w w'
theorem div_told {q r : Int} {s' : Bool} {b' : ByteArray} (hm : May2 (na, sa) (nb, sb)) (h0 : num (nb, sb) ≠ 0) (hq : num (na, sa) / num (nb, sb) = q) (hr : num (na, sa) % num (nb, sb) = r) (he : enc q = .agg #[.bool s, .string b]) (he' : enc r = .agg #[.bool s', .string b']) :
    Calls Try.prog 21 #[.agg #[.bool na, .string sa], .agg #[.bool nb, .string sb]] w (T3 w s b s' b') :=
  wdiv_any.mono fun e w' h => by
    have h1 := h.2.2.1 hm h0
    rw [hq, hr, he, he'] at h1
    exact ⟨h1, h.2.2.2⟩
theorem ok_told {n : Nat} (hn : n ≤ 100) : Calls Try.prog 52 #[.slice (some ⟨w.heap.size, 0, none⟩) n n] (w.alloc (.cells (List.replicate n (.int .i64 0)).toArray 27)) (fun e w' => e = .returned (.bool true) ∧ (w.alloc (.cells (List.replicate n (.int .i64 0)).toArray 27)) = w') := by
  refine ok_any (B := w.heap.size + 1) ⟨by simp, fun _ => ⟨_, rfl, Nat.lt_succ_self _, fun j u hu => ?_⟩⟩ hn
  rw [Addr.add_lit, Nat.zero_add, (Blk.new w 27 _).cell j, ← hu]
  rw [List.getElem?_toArray]
end
theorem sg_nonneg {z : Int} (h : 0 ≤ z) : 0 ≤ sg z ∧ sg z ≤ 1 := by
  unfold sg
  by_cases h0 : z = 0
  · simp [h0]
  · rw [if_neg h0, if_neg (by omega)]; omega
theorem cmp_lt {x y : Int} (h : x < y) : cmpI x y = -1 := by unfold cmpI; rw [if_pos h]
theorem cmp_le {x y : Int} (h : x ≤ y) : -1 ≤ cmpI x y ∧ cmpI x y ≤ 0 := by
  unfold cmpI
  by_cases h1 : x < y
  · rw [if_pos h1]; omega
  · rw [if_neg h1, if_neg (by omega)]; omega
theorem root_ex : ∀ m : Nat, ∃ r : Nat, r * r ≤ m ∧ m < (r + 1) * (r + 1)
  | 0 => ⟨0, by decide, by decide⟩
  | m + 1 => by
    obtain ⟨r, h1, h2⟩ := root_ex m
    by_cases h : m + 1 < (r + 1) * (r + 1)
    · exact ⟨r, by omega, h⟩
    · refine ⟨r + 1, by omega, ?_⟩
      have : (r + 1 + 1) * (r + 1 + 1) = (r + 1) * (r + 1) + (r + 1) + (r + 1) + 1 := by
        rw [Nat.add_mul (r + 1) 1, Nat.mul_add]
        omega
      omega
theorem root_only {m r s : Nat} (h1 : r * r ≤ m) (h2 : m < (r + 1) * (r + 1)) (h3 : s * s ≤ m) (h4 : m < (s + 1) * (s + 1)) : r = s := by
  rcases Nat.lt_trichotomy r s with h | h | h
  · have := Nat.mul_le_mul h h
    simp only [Nat.succ_eq_add_one] at this
    omega
  · exact h
  · have := Nat.mul_le_mul h h
    simp only [Nat.succ_eq_add_one] at this
    omega
theorem root_told {w : World} {sa : ByteArray} {r : Nat} {s s' : Bool} {b b' : ByteArray} (hm : MayL false sa.data.toList) (h1 : r * r ≤ bval sa.data.toList) (h2 : bval sa.data.toList < (r + 1) * (r + 1)) (he : enc (r : Int) = .agg #[.bool s, .string b]) (he' : enc (num (false, sa) - (r : Int) * (r : Int)) = .agg #[.bool s', .string b']) :
    Calls Try.prog 53 #[.agg #[.bool false, .string sa]] w (T3 w s b s' b') :=
  wroot_any.mono fun e w' h => by
    obtain ⟨q, h3, h4, h5⟩ := h.2.2.1 hm rfl
    obtain rfl := root_only h1 h2 h3 h4
    refine ⟨?_, h.2.2.2⟩
    rw [h5, he]
    have : ((bval sa.data.toList : Nat) : Int) - (r : Int) * (r : Int) = num (false, sa) - (r : Int) * (r : Int) := rfl
    rw [this, he']
theorem root_rest {r m : Nat} (h1 : r * r ≤ m) (h2 : m < (r + 1) * (r + 1)) : 0 ≤ (m : Int) - (r : Int) * (r : Int) ∧ (m : Int) - (r : Int) * (r : Int) ≤ (r : Int) + (r : Int) := by
  rw [show (r : Int) * (r : Int) = ((r * r : Nat) : Int) from (Int.natCast_mul r r).symm]
  have : (r + 1) * (r + 1) = r * r + r + r + 1 := by rw [Nat.add_mul, Nat.mul_add]; omega
  rw [this] at h2
  generalize r * r = q at *
  omega
theorem root_small {r m : Nat} (h1 : r * r ≤ m) : r ≤ m := Nat.le_trans (Nat.le_mul_self r) h1
theorem root_sizes {sa : ByteArray} {r k : Nat} (h1 : r * r ≤ bval sa.data.toList) (hs : SB k (num (false, sa))) : SB k (r : Int) ∧ SB k ((r : Int) * (r : Int)) ∧ SB k (num (false, sa) - (r : Int) * (r : Int)) := by
  have he : num (false, sa) = ((bval sa.data.toList : Nat) : Int) := rfl
  have h2 := root_small h1
  rw [show (r : Int) * (r : Int) = ((r * r : Nat) : Int) from (Int.natCast_mul r r).symm]
  rw [he] at hs ⊢
  refine ⟨hs.le ?_, hs.le ?_, hs.le ?_⟩ <;> omega
/-- nothing, by its length -/
theorem str_none {s : ByteArray} (h : s.size = 0) : s.toList.isEmpty = true ∧ s.toList = [] := by
  have hl : s.data.toList.length = s.size := Array.length_toList
  rw [toL]
  have : s.data.toList = [] := List.eq_nil_of_length_eq_zero (by omega)
  rw [this]
  exact ⟨rfl, rfl⟩
end Go.Proofs.Ytpnginnjbdedbaa

/- law.WholeDivides (printed by gen_divides.py). -/
namespace Go.Proofs.Ytpnginnjbdedbaa
open Go.RowKit
open Wh
set_option linter.unusedSimpArgs false

set_option maxRecDepth 100000 in
set_option maxHeartbeats 8000000 in
theorem divides_la {w : World} {na nb : Bool} {sa sb : ByteArray} (h : 400 < sa.size) :
    Calls Try.prog 8 #[.agg #[.bool na, .string sa], .agg #[.bool nb, .string sb]] w (fun e w' => e = .returned (.bool true) ∧ Below w.heap.size w w') := by
  have dsa : decide ((400 : Int) < (sa.size : Int)) = true := by simp; omega
  have isa : 400 < (sa.size : Int) := by omega
  clear h
  have HW := Lib.hid (fun W : World => works_any (w := W))
  have HN := Lib.hid (fun (W : World) (n : Int) => num_any (w := W) (n := n))
  have E0 := Lib.hid (Env.nil w)
  go_enter Try.func8, Try.ntmps8
  go_upto_region 0 with fail
  go_upto_region 1 with fail
  have E1 : Hid (Env w ((w.alloc (.cells #[.bool na, .string sa] 26)).alloc (.cells #[.bool nb, .string sb] 26)) [(w.heap.size + 1, 26, #[.bool nb, .string sb]), (w.heap.size, 26, #[.bool na, .string sa])]) := Lib.hid (by have h := (Env.new (Env.new E0.out 26 #[.bool na, .string sa]) 26 #[.bool nb, .string sb]); (try simp only [World.size_alloc] at h); exact h)
  generalize ((w.alloc (.cells #[.bool na, .string sa] 26)).alloc (.cells #[.bool nb, .string sb] 26)) = W1 at E1 ⊢
  have q1_1 : W1.cell? ⟨w.heap.size, 1, none⟩ = some (.string sa) := (Env.at_ E1.out 1 rfl).cell 1
  have q6_1 : W1.cell? ⟨w.heap.size + 1, 1, none⟩ = some (.string sb) := (Env.at_ E1.out 0 rfl).cell 1
  have q11_0 : W1.cell? ⟨w.heap.size, 0, none⟩ = some (.bool na) := (Env.at_ E1.out 1 rfl).cell 0
  have q17_0 : W1.cell? ⟨w.heap.size + 1, 0, none⟩ = some (.bool nb) := (Env.at_ E1.out 0 rfl).cell 0
  go_upto_region 2 with fail
  clear q1_1 q6_1 q11_0 q17_0
  go_wp2_with fail
  refine (HW.out _).mono ?_
  rintro e w2 ⟨rfl, h2⟩
  have E3 := Lib.hid (E1.out.call h2)
  clear h2
  go_wp2_with fail
  go_ret
  exact ⟨rfl, E3.out.1⟩
set_option maxRecDepth 100000 in
set_option maxHeartbeats 8000000 in
theorem divides_lb {w : World} {na nb : Bool} {sa sb : ByteArray} (ha : sa.size ≤ 400) (h : 400 < sb.size) :
    Calls Try.prog 8 #[.agg #[.bool na, .string sa], .agg #[.bool nb, .string sb]] w (fun e w' => e = .returned (.bool true) ∧ Below w.heap.size w w') := by
  have dsa : decide ((400 : Int) < (sa.size : Int)) = false := by simp; omega
  have isa : (sa.size : Int) ≤ 400 := by omega
  have dsb : decide ((400 : Int) < (sb.size : Int)) = true := by simp; omega
  have isb : 400 < (sb.size : Int) := by omega
  clear h ha
  have HW := Lib.hid (fun W : World => works_any (w := W))
  have HN := Lib.hid (fun (W : World) (n : Int) => num_any (w := W) (n := n))
  have E0 := Lib.hid (Env.nil w)
  go_enter Try.func8, Try.ntmps8
  go_upto_region 0 with fail
  go_upto_region 1 with fail
  have E1 : Hid (Env w ((w.alloc (.cells #[.bool na, .string sa] 26)).alloc (.cells #[.bool nb, .string sb] 26)) [(w.heap.size + 1, 26, #[.bool nb, .string sb]), (w.heap.size, 26, #[.bool na, .string sa])]) := Lib.hid (by have h := (Env.new (Env.new E0.out 26 #[.bool na, .string sa]) 26 #[.bool nb, .string sb]); (try simp only [World.size_alloc] at h); exact h)
  generalize ((w.alloc (.cells #[.bool na, .string sa] 26)).alloc (.cells #[.bool nb, .string sb] 26)) = W1 at E1 ⊢
  have q1_1 : W1.cell? ⟨w.heap.size, 1, none⟩ = some (.string sa) := (Env.at_ E1.out 1 rfl).cell 1
  have q6_1 : W1.cell? ⟨w.heap.size + 1, 1, none⟩ = some (.string sb) := (Env.at_ E1.out 0 rfl).cell 1
  have q11_0 : W1.cell? ⟨w.heap.size, 0, none⟩ = some (.bool na) := (Env.at_ E1.out 1 rfl).cell 0
  have q17_0 : W1.cell? ⟨w.heap.size + 1, 0, none⟩ = some (.bool nb) := (Env.at_ E1.out 0 rfl).cell 0
  go_upto_region 2 with fail
  clear q1_1 q6_1 q11_0 q17_0
  go_wp2_with fail
  refine (HW.out _).mono ?_
  rintro e w2 ⟨rfl, h2⟩
  have E3 := Lib.hid (E1.out.call h2)
  clear h2
  go_wp2_with fail
  go_ret
  exact ⟨rfl, E3.out.1⟩
set_option maxRecDepth 100000 in
set_option maxHeartbeats 8000000 in
theorem divides_ma {w : World} {na nb : Bool} {sa sb : ByteArray} (ha : sa.size ≤ 400) (hb : sb.size ≤ 400) (hm : ¬ MayL na sa.data.toList) :
    Calls Try.prog 8 #[.agg #[.bool na, .string sa], .agg #[.bool nb, .string sb]] w (fun e w' => e = .returned (.bool true) ∧ Below w.heap.size w w') := by
  have dsa : decide ((400 : Int) < (sa.size : Int)) = false := by simp; omega
  have isa : (sa.size : Int) ≤ 400 := by omega
  have dsb : decide ((400 : Int) < (sb.size : Int)) = false := by simp; omega
  have isb : (sb.size : Int) ≤ 400 := by omega
  have HC := Lib.hid (fun W : World => check_no (w := W) hm)
  clear ha hb hm
  have HW := Lib.hid (fun W : World => works_any (w := W))
  have HN := Lib.hid (fun (W : World) (n : Int) => num_any (w := W) (n := n))
  have E0 := Lib.hid (Env.nil w)
  go_enter Try.func8, Try.ntmps8
  go_upto_region 0 with fail
  go_upto_region 1 with fail
  have E1 : Hid (Env w ((w.alloc (.cells #[.bool na, .string sa] 26)).alloc (.cells #[.bool nb, .string sb] 26)) [(w.heap.size + 1, 26, #[.bool nb, .string sb]), (w.heap.size, 26, #[.bool na, .string sa])]) := Lib.hid (by have h := (Env.new (Env.new E0.out 26 #[.bool na, .string sa]) 26 #[.bool nb, .string sb]); (try simp only [World.size_alloc] at h); exact h)
  generalize ((w.alloc (.cells #[.bool na, .string sa] 26)).alloc (.cells #[.bool nb, .string sb] 26)) = W1 at E1 ⊢
  have q1_1 : W1.cell? ⟨w.heap.size, 1, none⟩ = some (.string sa) := (Env.at_ E1.out 1 rfl).cell 1
  have q6_1 : W1.cell? ⟨w.heap.size + 1, 1, none⟩ = some (.string sb) := (Env.at_ E1.out 0 rfl).cell 1
  have q11_0 : W1.cell? ⟨w.heap.size, 0, none⟩ = some (.bool na) := (Env.at_ E1.out 1 rfl).cell 0
  go_wp2_with fail
  refine (HC.out _).mono ?_
  rintro e w2 ⟨rfl, h2⟩
  have E3 := Lib.hid (E1.out.call h2)
  clear q1_1 q6_1 q11_0 h2
  go_wp2_with fail
  refine (HN.out _ 2).mono ?_
  rintro e w4 ⟨rfl, h4⟩
  subst h4
  have E5 := Lib.hid (E3.out)
  have q17_0 : w2.cell? ⟨w.heap.size + 1, 0, none⟩ = some (.bool nb) := (Env.at_ E5.out 0 rfl).cell 0
  have q17_1 : w2.cell? ⟨w.heap.size + 1, 1, none⟩ = some (.string sb) := (Env.at_ E5.out 0 rfl).cell 1
  go_upto_region 2 with fail
  clear q17_0 q17_1
  go_wp2_with fail
  refine (HW.out _).mono ?_
  rintro e w6 ⟨rfl, h6⟩
  have E7 := Lib.hid (E5.out.call h6)
  clear h6
  go_wp2_with fail
  go_ret
  exact ⟨rfl, E7.out.1⟩
set_option maxRecDepth 100000 in
set_option maxHeartbeats 8000000 in
theorem divides_mb {w : World} {na nb : Bool} {sa sb : ByteArray} (ha : sa.size ≤ 400) (hb : sb.size ≤ 400) (hm : MayL na sa.data.toList) (hk : ¬ MayL nb sb.data.toList) :
    Calls Try.prog 8 #[.agg #[.bool na, .string sa], .agg #[.bool nb, .string sb]] w (fun e w' => e = .returned (.bool true) ∧ Below w.heap.size w w') := by
  have dsa : decide ((400 : Int) < (sa.size : Int)) = false := by simp; omega
  have isa : (sa.size : Int) ≤ 400 := by omega
  have dsb : decide ((400 : Int) < (sb.size : Int)) = false := by simp; omega
  have isb : (sb.size : Int) ≤ 400 := by omega
  have HC := Lib.hid (fun W : World => check_ok (w := W) hm)
  have HD := Lib.hid (fun W : World => check_no (w := W) hk)
  clear ha hb hm hk
  have HW := Lib.hid (fun W : World => works_any (w := W))
  have HN := Lib.hid (fun (W : World) (n : Int) => num_any (w := W) (n := n))
  have E0 := Lib.hid (Env.nil w)
  go_enter Try.func8, Try.ntmps8
  go_upto_region 0 with fail
  go_upto_region 1 with fail
  have E1 : Hid (Env w ((w.alloc (.cells #[.bool na, .string sa] 26)).alloc (.cells #[.bool nb, .string sb] 26)) [(w.heap.size + 1, 26, #[.bool nb, .string sb]), (w.heap.size, 26, #[.bool na, .string sa])]) := Lib.hid (by have h := (Env.new (Env.new E0.out 26 #[.bool na, .string sa]) 26 #[.bool nb, .string sb]); (try simp only [World.size_alloc] at h); exact h)
  generalize ((w.alloc (.cells #[.bool na, .string sa] 26)).alloc (.cells #[.bool nb, .string sb] 26)) = W1 at E1 ⊢
  have q1_1 : W1.cell? ⟨w.heap.size, 1, none⟩ = some (.string sa) := (Env.at_ E1.out 1 rfl).cell 1
  have q6_1 : W1.cell? ⟨w.heap.size + 1, 1, none⟩ = some (.string sb) := (Env.at_ E1.out 0 rfl).cell 1
  have q11_0 : W1.cell? ⟨w.heap.size, 0, none⟩ = some (.bool na) := (Env.at_ E1.out 1 rfl).cell 0
  go_wp2_with fail
  refine (HC.out _).mono ?_
  rintro e w2 ⟨rfl, h2⟩
  have E3 := Lib.hid (E1.out.call h2)
  clear q1_1 q6_1 q11_0 h2
  go_wp2_with fail
  refine (HN.out _ 0).mono ?_
  rintro e w4 ⟨rfl, h4⟩
  subst h4
  have E5 := Lib.hid (E3.out)
  have q17_0 : w2.cell? ⟨w.heap.size + 1, 0, none⟩ = some (.bool nb) := (Env.at_ E5.out 0 rfl).cell 0
  have q17_1 : w2.cell? ⟨w.heap.size + 1, 1, none⟩ = some (.string sb) := (Env.at_ E5.out 0 rfl).cell 1
  go_wp2_with fail
  refine (HD.out _).mono ?_
  rintro e w6 ⟨rfl, h6⟩
  have E7 := Lib.hid (E5.out.call h6)
  clear q17_0 q17_1 h6
  go_wp2_with fail
  refine (HN.out _ 2).mono ?_
  rintro e w8 ⟨rfl, h8⟩
  subst h8
  have E9 := Lib.hid (E7.out)
  go_upto_region 2 with fail
  go_wp2_with fail
  refine (HW.out _).mono ?_
  rintro e w10 ⟨rfl, h10⟩
  have E11 := Lib.hid (E9.out.call h10)
  clear h10
  go_wp2_with fail
  go_ret
  exact ⟨rfl, E11.out.1⟩
set_option maxRecDepth 100000 in
set_option maxHeartbeats 8000000 in
theorem divides_rest2 {w wc : World} {na nb : Bool} {sa sb : ByteArray} {u4 u5 u6 u7 u8 u9 u10 u11 u12 u13 u14 u15 u16 u17 u18 u19 u20 u21 u22 u23 u24 u25 u26 u27 u28 u29 u30 u31 u32 u33 u34 u35 u36 u37 u38 u39 u40 u41 u42 u43 u44 u45 u46 u47 u48 u49 u50 u51 u52 u53 u54 u55 u56 u57 u58 u59 u60 u61 u62 u63 u64 u65 u66 u67 u68 u69 u70 u71 u72 u73 u74 u75 u76 u77 u78 u79 u80 u81 u82 u83 u84 u85 u86 u87 u88 u89 u90 u91 u92 u93 u94 u95 u96 u97 u98 u99 u100 u101 u102 u103 u104 u105 u106 u107 u108 u109 u110 u111 u112 u113 u114 u115 u116 u117 u118 u119 u120 u121 u122 u123 u124 u125 u126 u127 u128 u129 u130 u131 u132 u133 u134 u135 u136 u137 u138 u139 u140 u141 u142 u143 u144 u145 u146 u147 u148 u149 u150 u151 u152 u153 u154 u155 u156 u157 u158 u159 u160 u161 u162 u163 u164 u165 u166 u167 u168 u169 u170 u171 u172 u173 u174 u175 u176 u177 u178 u179 u180 u181 u182 u183 u184 u185 u186 u187 u188 u189 u190 u191 u192 u193 u194 u195 u196 u197 u198 u199 u200 u201 u202 u203 u204 u205 u206 u207 u208 u209 u210 u211 u212 u213 u214 u215 u216 u217 u218 u219 u220 u221 u222 u223 u224 u225 u226 u227 u228 u229 u230 u231 u232 u233 u234 u235 u236 u237 u238 u239 u240 u241 u242 u243 u244 u245 u246 u247 u248 u249 u250 u251 u252 u253 u254 u255 u256 u257 u258 u259 u260 u261 u262 u263 u264 u265 u266 u267 u268 u269 u270 u271 u272 u273 u274 u275 u276 u277 u278 u279 u280 u281 u282 u283 u284 : Value} (Hab : Hid (sa.size ≤ 400 ∧ sb.size ≤ 400 ∧ MayL na sa.data.toList ∧ MayL nb sb.data.toList)) (HW : Hid (∀ W : World, Calls Try.prog 13 #[] W (fun e w' => e = .returned (.bool true) ∧ Below W.heap.size W w'))) (E0 : Hid (Env w wc [(w.heap.size + 1, 26, #[.bool nb, .string sb]), (w.heap.size, 26, #[.bool na, .string sa])])) :
    (codeRest 9 (bodyOf Try.f8)).wp Try.prog (bodyPost Try.prog Try.f8 (fun e w' => e = .returned (.bool true) ∧ Below w.heap.size w w')) ⟨#[.agg #[.bool na, .string sa], .agg #[.bool nb, .string sb], .pointer (some ⟨w.heap.size, 0, none⟩), .pointer (some ⟨w.heap.size + 1, 0, none⟩), u4, u5, u6, u7, u8, u9, u10, u11, u12, u13, u14, u15, u16, u17, u18, u19, u20, u21, u22, u23, u24, u25, u26, u27, u28, u29, u30, u31, u32, u33, u34, u35, u36, u37, u38, u39, u40, u41, u42, u43, u44, u45, u46, u47, u48, u49, u50, u51, u52, u53, u54, u55, u56, u57, u58, u59, u60, u61, u62, u63, u64, u65, u66, u67, u68, u69, u70, u71, u72, u73, u74, u75, u76, u77, u78, u79, u80, u81, u82, u83, u84, u85, u86, u87, u88, u89, u90, u91, u92, u93, u94, u95, u96, u97, u98, u99, u100, u101, u102, u103, u104, u105, u106, u107, u108, u109, u110, u111, u112, u113, u114, u115, u116, u117, u118, u119, u120, u121, u122, u123, u124, u125, u126, u127, u128, u129, u130, u131, u132, u133, u134, u135, u136, u137, u138, u139, u140, u141, u142, u143, u144, u145, u146, u147, u148, u149, u150, u151, u152, u153, u154, u155, u156, u157, u158, u159, u160, u161, u162, u163, u164, u165, u166, u167, u168, u169, u170, u171, u172, u173, u174, u175, u176, u177, u178, u179, u180, u181, u182, u183, u184, u185, u186, u187, u188, u189, u190, u191, u192, u193, u194, u195, u196, u197, u198, u199, u200, u201, u202, u203, u204, u205, u206, u207, u208, u209, u210, u211, u212, u213, u214, u215, u216, u217, u218, u219, u220, u221, u222, u223, u224, u225, u226, u227, u228, u229, u230, u231, u232, u233, u234, u235, u236, u237, u238, u239, u240, u241, u242, u243, u244, u245, u246, u247, u248, u249, u250, u251, u252, u253, u254, u255, u256, u257, u258, u259, u260, u261, u262, u263, u264, u265, u266, u267, u268, u269, u270, u271, u272, u273, u274, u275, u276, u277, u278, u279, u280, u281, u282, u283, u284], []⟩ wc := by
  conv => enter [2]; dsimp only [codeRest, bodyOf, Try.f8, Option.getD_some]
  cases na
  case true =>
    clear Hab
    have q1_0 : wc.cell? ⟨w.heap.size, 0, none⟩ = some (.bool true) := (Env.at_ E0.out 1 rfl).cell 0
    go_upto_region 24 with fail
    clear q1_0
    go_wp2_with fail
    refine (HW.out _).mono ?_
    rintro e w57 ⟨rfl, h57⟩
    have E58 := Lib.hid (E0.out.call h57)
    clear h57
    go_wp2_with fail
    go_ret
    exact ⟨rfl, E58.out.1⟩
  case false =>
    obtain ⟨ha, hb, hm, hk⟩ := Hab.out
    clear Hab hb hk
    have Sx := may_sb (n := false) ha
    obtain ⟨r, h1, h2⟩ := root_ex (bval sa.data.toList)
    obtain ⟨su_, sp_, sv_⟩ := root_sizes h1 Sx
    obtain ⟨hn, hle⟩ := root_rest h1 h2
    have fu : fits ((r : Int)) := su_.fits (by decide)
    obtain ⟨su, bu, eu, nu, mu⟩ := enc_form fu
    have fp : fits ((r : Int) * (r : Int)) := sp_.fits (by decide)
    obtain ⟨sp, bp, ep, np, mp⟩ := enc_form fp
    have fv : fits (num (false, sa) - (r : Int) * (r : Int)) := sv_.fits (by decide)
    obtain ⟨sv, bv, ev, nv, mv⟩ := enc_form fv
    have ft : fits ((r : Int) + (r : Int)) := (su_.add su_).fits (by decide)
    obtain ⟨st, bt, et, nt, mt⟩ := enc_form ft
    have fa := Sx.fits (by decide)
    have ea := may_num hm
    have hu0 := form_sign nu mu (Int.natCast_nonneg _)
    subst hu0
    have hv0 := form_sign nv mv hn
    subst hv0
    have H53 := Lib.hid (fun W : World => root_told (w := W) hm h1 h2 eu ev)
    have H29 := Lib.hid (fun W : World => mul_told (w := W) (And.intro mu mu) (show num (false, bu) * num (false, bu) = _ by rw [nu]) fp ep)
    have H27 := Lib.hid (fun W : World => add_told (w := W) (And.intro mp mv) (show num (sp, bp) + num (false, bv) = num (false, sa) by rw [np, nv]; omega) fa ea)
    have H27b := Lib.hid (fun W : World => add_told (w := W) (And.intro mu mu) (show num (false, bu) + num (false, bu) = _ by rw [nu]) ft et)
    have H26 := Lib.hid (fun W : World => cmp_told (w := W) (And.intro mv mt : May2 (false, bv) (st, bt)))
    have hc : cmpI (num (false, bv)) (num (st, bt)) ≤ 0 := by rw [nv, nt]; exact (cmp_le hle).2
    generalize cmpI (num (false, bv)) (num (st, bt)) = zc at *
    have dzc : decide (zc ≤ 0) = true := by simp; omega
    clear hm h1 h2 su_ sp_ sv_ hn hle fu eu nu mu fp ep np mp fv ev nv mv ft et nt mt fa ea ha Sx
    have q1_0 : wc.cell? ⟨w.heap.size, 0, none⟩ = some (.bool false) := (Env.at_ E0.out 1 rfl).cell 0
    go_upto_region 25 with fail
    clear q1_0
    have q0_0 : wc.cell? ⟨w.heap.size, 0, none⟩ = some (.bool false) := (Env.at_ E0.out 1 rfl).cell 0
    have q0_1 : wc.cell? ⟨w.heap.size, 1, none⟩ = some (.string sa) := (Env.at_ E0.out 1 rfl).cell 1
    go_wp2_with fail
    refine (H53.out _).mono ?_
    rintro e w59 ⟨rfl, h59⟩
    have E60 := Lib.hid (E0.out.call h59)
    clear q0_0 q0_1 h59
    go_upto_region 26 with fail
    have E61 : Hid (Env w ((w59.alloc (.cells #[.bool false, .string bu] 26)).alloc (.cells #[.bool false, .string bv] 26)) [(w59.heap.size + 1, 26, #[.bool false, .string bv]), (w59.heap.size, 26, #[.bool false, .string bu]), (w.heap.size + 1, 26, #[.bool nb, .string sb]), (w.heap.size, 26, #[.bool false, .string sa])]) := Lib.hid (by have h := (Env.new (Env.new E60.out 26 #[.bool false, .string bu]) 26 #[.bool false, .string bv]); (try simp only [World.size_alloc] at h); exact h)
    generalize ((w59.alloc (.cells #[.bool false, .string bu] 26)).alloc (.cells #[.bool false, .string bv] 26)) = W61 at E61 ⊢
    have q0_0 : W61.cell? ⟨w59.heap.size, 0, none⟩ = some (.bool false) := (Env.at_ E61.out 1 rfl).cell 0
    have q0_1 : W61.cell? ⟨w59.heap.size, 1, none⟩ = some (.string bu) := (Env.at_ E61.out 1 rfl).cell 1
    go_wp2_with fail
    refine (H29.out _).mono ?_
    rintro e w62 ⟨rfl, h62⟩
    have E63 := Lib.hid (E61.out.call h62)
    clear q0_0 q0_1 h62
    go_upto_region 27 with fail
    have E64 : Hid (Env w (w62.alloc (.cells #[.bool sp, .string bp] 26)) [(w62.heap.size, 26, #[.bool sp, .string bp]), (w59.heap.size + 1, 26, #[.bool false, .string bv]), (w59.heap.size, 26, #[.bool false, .string bu]), (w.heap.size + 1, 26, #[.bool nb, .string sb]), (w.heap.size, 26, #[.bool false, .string sa])]) := Lib.hid (by have h := (Env.new E63.out 26 #[.bool sp, .string bp]); (try simp only [World.size_alloc] at h); exact h)
    generalize (w62.alloc (.cells #[.bool sp, .string bp] 26)) = W64 at E64 ⊢
    have q0_0 : W64.cell? ⟨w62.heap.size, 0, none⟩ = some (.bool sp) := (Env.at_ E64.out 0 rfl).cell 0
    have q0_1 : W64.cell? ⟨w62.heap.size, 1, none⟩ = some (.string bp) := (Env.at_ E64.out 0 rfl).cell 1
    have q1_0 : W64.cell? ⟨w59.heap.size + 1, 0, none⟩ = some (.bool false) := (Env.at_ E64.out 1 rfl).cell 0
    have q1_1 : W64.cell? ⟨w59.heap.size + 1, 1, none⟩ = some (.string bv) := (Env.at_ E64.out 1 rfl).cell 1
    go_wp2_with fail
    refine (H27.out _).mono ?_
    rintro e w65 ⟨rfl, h65⟩
    have E66 := Lib.hid (E64.out.call h65)
    clear q0_0 q0_1 q1_0 q1_1 h65
    go_upto_region 28 with fail
    have E67 : Hid (Env w (w65.alloc (.cells #[.bool false, .string sa] 26)) [(w65.heap.size, 26, #[.bool false, .string sa]), (w62.heap.size, 26, #[.bool sp, .string bp]), (w59.heap.size + 1, 26, #[.bool false, .string bv]), (w59.heap.size, 26, #[.bool false, .string bu]), (w.heap.size + 1, 26, #[.bool nb, .string sb]), (w.heap.size, 26, #[.bool false, .string sa])]) := Lib.hid (by have h := (Env.new E66.out 26 #[.bool false, .string sa]); (try simp only [World.size_alloc] at h); exact h)
    generalize (w65.alloc (.cells #[.bool false, .string sa] 26)) = W67 at E67 ⊢
    have q0_0 : W67.cell? ⟨w59.heap.size, 0, none⟩ = some (.bool false) := (Env.at_ E67.out 3 rfl).cell 0
    have q0_1 : W67.cell? ⟨w59.heap.size, 1, none⟩ = some (.string bu) := (Env.at_ E67.out 3 rfl).cell 1
    go_wp2_with fail
    refine (H27b.out _).mono ?_
    rintro e w68 ⟨rfl, h68⟩
    have E69 := Lib.hid (E67.out.call h68)
    clear q0_0 q0_1 h68
    go_upto_region 29 with fail
    have E70 : Hid (Env w (w68.alloc (.cells #[.bool st, .string bt] 26)) [(w68.heap.size, 26, #[.bool st, .string bt]), (w65.heap.size, 26, #[.bool false, .string sa]), (w62.heap.size, 26, #[.bool sp, .string bp]), (w59.heap.size + 1, 26, #[.bool false, .string bv]), (w59.heap.size, 26, #[.bool false, .string bu]), (w.heap.size + 1, 26, #[.bool nb, .string sb]), (w.heap.size, 26, #[.bool false, .string sa])]) := Lib.hid (by have h := (Env.new E69.out 26 #[.bool st, .string bt]); (try simp only [World.size_alloc] at h); exact h)
    generalize (w68.alloc (.cells #[.bool st, .string bt] 26)) = W70 at E70 ⊢
    have q0_0 : W70.cell? ⟨w59.heap.size + 1, 0, none⟩ = some (.bool false) := (Env.at_ E70.out 3 rfl).cell 0
    have q0_1 : W70.cell? ⟨w59.heap.size + 1, 1, none⟩ = some (.string bv) := (Env.at_ E70.out 3 rfl).cell 1
    have q1_0 : W70.cell? ⟨w68.heap.size, 0, none⟩ = some (.bool st) := (Env.at_ E70.out 0 rfl).cell 0
    have q1_1 : W70.cell? ⟨w68.heap.size, 1, none⟩ = some (.string bt) := (Env.at_ E70.out 0 rfl).cell 1
    go_wp2_with fail
    refine (H26.out _).mono ?_
    rintro e w71 ⟨rfl, h71⟩
    have E72 := Lib.hid (E70.out.call h71)
    clear q0_0 q0_1 q1_0 q1_1 h71
    go_upto_region 30 with fail
    go_wp2_with fail
    refine (ok_told (n := 5) (by decide)).mono ?_
    rintro e w73 ⟨rfl, h73⟩
    subst h73
    have E74 := Lib.hid ((Env.other E72.out (.cells #[.int .i64 0, .int .i64 0, .int .i64 0, .int .i64 0, .int .i64 0] 27)))
    have q8_0 : (w71.alloc (.cells #[.int .i64 0, .int .i64 0, .int .i64 0, .int .i64 0, .int .i64 0] 27)).cell? ⟨w65.heap.size, 0, none⟩ = some (.bool false) := (Env.at_ E74.out 1 rfl).cell 0
    have q8_1 : (w71.alloc (.cells #[.int .i64 0, .int .i64 0, .int .i64 0, .int .i64 0, .int .i64 0] 27)).cell? ⟨w65.heap.size, 1, none⟩ = some (.string sa) := (Env.at_ E74.out 1 rfl).cell 1
    have q9_0 : (w71.alloc (.cells #[.int .i64 0, .int .i64 0, .int .i64 0, .int .i64 0, .int .i64 0] 27)).cell? ⟨w.heap.size, 0, none⟩ = some (.bool false) := (Env.at_ E74.out 6 rfl).cell 0
    have q9_1 : (w71.alloc (.cells #[.int .i64 0, .int .i64 0, .int .i64 0, .int .i64 0, .int .i64 0] 27)).cell? ⟨w.heap.size, 1, none⟩ = some (.string sa) := (Env.at_ E74.out 6 rfl).cell 1
    have q18_0 : (w71.alloc (.cells #[.int .i64 0, .int .i64 0, .int .i64 0, .int .i64 0, .int .i64 0] 27)).cell? ⟨w59.heap.size + 1, 0, none⟩ = some (.bool false) := (Env.at_ E74.out 3 rfl).cell 0
    have q23_0 : (w71.alloc (.cells #[.int .i64 0, .int .i64 0, .int .i64 0, .int .i64 0, .int .i64 0] 27)).cell? ⟨w59.heap.size, 0, none⟩ = some (.bool false) := (Env.at_ E74.out 4 rfl).cell 0
    go_wp2_with fail
    refine (HW.out _).mono ?_
    rintro e w75 ⟨rfl, h75⟩
    have E76 := Lib.hid (E74.out.call h75)
    clear q8_0 q8_1 q9_0 q9_1 q18_0 q23_0 h75
    go_wp2_with fail
    go_ret
    exact ⟨rfl, E76.out.1⟩
set_option maxRecDepth 100000 in
set_option maxHeartbeats 8000000 in
theorem divides_rest1 {w wc : World} {na nb : Bool} {sa sb : ByteArray} {u4 u5 u6 u7 u8 u9 u10 u11 u12 u13 u14 u15 u16 u17 u18 u19 u20 u21 u22 u23 u24 u25 u26 u27 u28 u29 u30 u31 u32 u33 u34 u35 u36 u37 u38 u39 u40 u41 u42 u43 u44 u45 u46 u47 u48 u49 u50 u51 u52 u53 u54 u55 u56 u57 u58 u59 u60 u61 u62 u63 u64 u65 u66 u67 u68 u69 u70 u71 u72 u73 u74 u75 u76 u77 u78 u79 u80 u81 u82 u83 u84 u85 u86 u87 u88 u89 u90 u91 u92 u93 u94 u95 u96 u97 u98 u99 u100 u101 u102 u103 u104 u105 u106 u107 u108 u109 u110 u111 u112 u113 u114 u115 u116 u117 u118 u119 u120 u121 u122 u123 u124 u125 u126 u127 u128 u129 u130 u131 u132 u133 u134 u135 u136 u137 u138 u139 u140 u141 u142 u143 u144 u145 u146 u147 u148 u149 u150 u151 u152 u153 u154 u155 u156 u157 u158 u159 u160 u161 u162 u163 u164 u165 u166 u167 u168 u169 u170 u171 u172 u173 u174 u175 u176 u177 u178 u179 u180 u181 u182 u183 u184 u185 u186 u187 u188 u189 u190 u191 u192 u193 u194 u195 u196 u197 u198 u199 u200 u201 u202 u203 u204 u205 u206 u207 u208 u209 u210 u211 u212 u213 u214 u215 u216 u217 u218 u219 u220 u221 u222 u223 u224 u225 u226 u227 u228 u229 u230 u231 u232 u233 u234 u235 u236 u237 u238 u239 u240 u241 u242 u243 u244 u245 u246 u247 u248 u249 u250 u251 u252 u253 u254 u255 u256 u257 u258 u259 u260 u261 u262 u263 u264 u265 u266 u267 u268 u269 u270 u271 u272 u273 u274 u275 u276 u277 u278 u279 u280 u281 u282 u283 u284 : Value} (Hab : Hid (sa.size ≤ 400 ∧ sb.size ≤ 400 ∧ MayL na sa.data.toList ∧ MayL nb sb.data.toList)) (HW : Hid (∀ W : World, Calls Try.prog 13 #[] W (fun e w' => e = .returned (.bool true) ∧ Below W.heap.size W w'))) (E0 : Hid (Env w wc [(w.heap.size + 1, 26, #[.bool nb, .string sb]), (w.heap.size, 26, #[.bool na, .string sa])])) :
    (codeRest 3 (bodyOf Try.f8)).wp Try.prog (bodyPost Try.prog Try.f8 (fun e w' => e = .returned (.bool true) ∧ Below w.heap.size w w')) ⟨#[.agg #[.bool na, .string sa], .agg #[.bool nb, .string sb], .pointer (some ⟨w.heap.size, 0, none⟩), .pointer (some ⟨w.heap.size + 1, 0, none⟩), u4, u5, u6, u7, u8, u9, u10, u11, u12, u13, u14, u15, u16, u17, u18, u19, u20, u21, u22, u23, u24, u25, u26, u27, u28, u29, u30, u31, u32, u33, u34, u35, u36, u37, u38, u39, u40, u41, u42, u43, u44, u45, u46, u47, u48, u49, u50, u51, u52, u53, u54, u55, u56, u57, u58, u59, u60, u61, u62, u63, u64, u65, u66, u67, u68, u69, u70, u71, u72, u73, u74, u75, u76, u77, u78, u79, u80, u81, u82, u83, u84, u85, u86, u87, u88, u89, u90, u91, u92, u93, u94, u95, u96, u97, u98, u99, u100, u101, u102, u103, u104, u105, u106, u107, u108, u109, u110, u111, u112, u113, u114, u115, u116, u117, u118, u119, u120, u121, u122, u123, u124, u125, u126, u127, u128, u129, u130, u131, u132, u133, u134, u135, u136, u137, u138, u139, u140, u141, u142, u143, u144, u145, u146, u147, u148, u149, u150, u151, u152, u153, u154, u155, u156, u157, u158, u159, u160, u161, u162, u163, u164, u165, u166, u167, u168, u169, u170, u171, u172, u173, u174, u175, u176, u177, u178, u179, u180, u181, u182, u183, u184, u185, u186, u187, u188, u189, u190, u191, u192, u193, u194, u195, u196, u197, u198, u199, u200, u201, u202, u203, u204, u205, u206, u207, u208, u209, u210, u211, u212, u213, u214, u215, u216, u217, u218, u219, u220, u221, u222, u223, u224, u225, u226, u227, u228, u229, u230, u231, u232, u233, u234, u235, u236, u237, u238, u239, u240, u241, u242, u243, u244, u245, u246, u247, u248, u249, u250, u251, u252, u253, u254, u255, u256, u257, u258, u259, u260, u261, u262, u263, u264, u265, u266, u267, u268, u269, u270, u271, u272, u273, u274, u275, u276, u277, u278, u279, u280, u281, u282, u283, u284], []⟩ wc := by
  conv => enter [2]; dsimp only [codeRest, bodyOf, Try.f8, Option.getD_some]
  obtain ⟨ha, hb, hm, hk⟩ := Hab.out
  have Sx := may_sb (n := na) ha
  have Sy := may_sb (n := nb) hb
  have fg : fits ((gcdl [num (na, sa), num (nb, sb)] : Int)) := (gcdl_sb Sx Sy).fits (by decide)
  obtain ⟨sg, bg, eg, ng, mg⟩ := enc_form fg
  have Hg := Lib.hid (And.intro ng mg)
  have hg0 := form_sign ng mg (Int.natCast_nonneg _)
  subst hg0
  have fk : fits (-num (nb, sb)) := Sy.neg.fits (by decide)
  obtain ⟨sk, bk, ek, nk, mk⟩ := enc_form fk
  have H15 := Lib.hid (fun W : World => gcd_told (w := W) (And.intro hm hk) rfl fg eg)
  have H15b := Lib.hid (fun W : World => gcd_told (w := W) (And.intro hk hm) (show (gcdl [num (nb, sb), num (na, sa)] : Int) = _ by rw [gcdl_swap]) fg eg)
  have H15c := Lib.hid (fun W : World => gcd_told (w := W) (And.intro mk hm) (show (gcdl [num (sk, bk), num (na, sa)] : Int) = _ by rw [nk, gcdl_minus]) fg eg)
  have H37 := Lib.hid (fun W : World => neg_told (w := W) hk rfl fk ek)
  clear ha hb hm hk Sx Sy fg eg ng mg fk ek nk mk
  go_upto_region 11 with fail
  have q0_0 : wc.cell? ⟨w.heap.size, 0, none⟩ = some (.bool na) := (Env.at_ E0.out 1 rfl).cell 0
  have q0_1 : wc.cell? ⟨w.heap.size, 1, none⟩ = some (.string sa) := (Env.at_ E0.out 1 rfl).cell 1
  have q1_0 : wc.cell? ⟨w.heap.size + 1, 0, none⟩ = some (.bool nb) := (Env.at_ E0.out 0 rfl).cell 0
  have q1_1 : wc.cell? ⟨w.heap.size + 1, 1, none⟩ = some (.string sb) := (Env.at_ E0.out 0 rfl).cell 1
  go_wp2_with fail
  refine (H15.out _).mono ?_
  rintro e w28 ⟨rfl, h28⟩
  have E29 := Lib.hid ((Env.other E0.out (.cells #[.bool na, .string sa, .bool nb, .string sb] 26)).call h28)
  clear q0_0 q0_1 q1_0 q1_1 h28
  go_upto_region 12 with fail
  have E30 : Hid (Env w (w28.alloc (.cells #[.bool false, .string bg] 26)) [(w28.heap.size, 26, #[.bool false, .string bg]), (w.heap.size + 1, 26, #[.bool nb, .string sb]), (w.heap.size, 26, #[.bool na, .string sa])]) := Lib.hid (by have h := (Env.new E29.out 26 #[.bool false, .string bg]); (try simp only [World.size_alloc] at h); exact h)
  generalize (w28.alloc (.cells #[.bool false, .string bg] 26)) = W30 at E30 ⊢
  have q0_0 : W30.cell? ⟨w.heap.size + 1, 0, none⟩ = some (.bool nb) := (Env.at_ E30.out 1 rfl).cell 0
  have q0_1 : W30.cell? ⟨w.heap.size + 1, 1, none⟩ = some (.string sb) := (Env.at_ E30.out 1 rfl).cell 1
  have q1_0 : W30.cell? ⟨w.heap.size, 0, none⟩ = some (.bool na) := (Env.at_ E30.out 2 rfl).cell 0
  have q1_1 : W30.cell? ⟨w.heap.size, 1, none⟩ = some (.string sa) := (Env.at_ E30.out 2 rfl).cell 1
  go_wp2_with fail
  refine (H15b.out _).mono ?_
  rintro e w31 ⟨rfl, h31⟩
  have E32 := Lib.hid ((Env.other E30.out (.cells #[.bool nb, .string sb, .bool na, .string sa] 26)).call h31)
  clear q0_0 q0_1 q1_0 q1_1 h31
  go_upto_region 13 with fail
  have E33 : Hid (Env w (w31.alloc (.cells #[.bool false, .string bg] 26)) [(w31.heap.size, 26, #[.bool false, .string bg]), (w28.heap.size, 26, #[.bool false, .string bg]), (w.heap.size + 1, 26, #[.bool nb, .string sb]), (w.heap.size, 26, #[.bool na, .string sa])]) := Lib.hid (by have h := (Env.new E32.out 26 #[.bool false, .string bg]); (try simp only [World.size_alloc] at h); exact h)
  generalize (w31.alloc (.cells #[.bool false, .string bg] 26)) = W33 at E33 ⊢
  have q0_0 : W33.cell? ⟨w.heap.size + 1, 0, none⟩ = some (.bool nb) := (Env.at_ E33.out 2 rfl).cell 0
  have q0_1 : W33.cell? ⟨w.heap.size + 1, 1, none⟩ = some (.string sb) := (Env.at_ E33.out 2 rfl).cell 1
  go_wp2_with fail
  refine (H37.out _).mono ?_
  rintro e w34 ⟨rfl, h34⟩
  have E35 := Lib.hid (E33.out.call h34)
  clear q0_0 q0_1 h34
  go_upto_region 14 with fail
  have E36 : Hid (Env w (w34.alloc (.cells #[.bool sk, .string bk] 26)) [(w34.heap.size, 26, #[.bool sk, .string bk]), (w31.heap.size, 26, #[.bool false, .string bg]), (w28.heap.size, 26, #[.bool false, .string bg]), (w.heap.size + 1, 26, #[.bool nb, .string sb]), (w.heap.size, 26, #[.bool na, .string sa])]) := Lib.hid (by have h := (Env.new E35.out 26 #[.bool sk, .string bk]); (try simp only [World.size_alloc] at h); exact h)
  generalize (w34.alloc (.cells #[.bool sk, .string bk] 26)) = W36 at E36 ⊢
  have q0_0 : W36.cell? ⟨w34.heap.size, 0, none⟩ = some (.bool sk) := (Env.at_ E36.out 0 rfl).cell 0
  have q0_1 : W36.cell? ⟨w34.heap.size, 1, none⟩ = some (.string bk) := (Env.at_ E36.out 0 rfl).cell 1
  have q1_0 : W36.cell? ⟨w.heap.size, 0, none⟩ = some (.bool na) := (Env.at_ E36.out 4 rfl).cell 0
  have q1_1 : W36.cell? ⟨w.heap.size, 1, none⟩ = some (.string sa) := (Env.at_ E36.out 4 rfl).cell 1
  go_wp2_with fail
  refine (H15c.out _).mono ?_
  rintro e w37 ⟨rfl, h37⟩
  have E38 := Lib.hid ((Env.other E36.out (.cells #[.bool sk, .string bk, .bool na, .string sa] 26)).call h37)
  clear q0_0 q0_1 q1_0 q1_1 h37
  go_upto_region 15 with fail
  have E39 : Hid (Env w (w37.alloc (.cells #[.bool false, .string bg] 26)) [(w37.heap.size, 26, #[.bool false, .string bg]), (w34.heap.size, 26, #[.bool sk, .string bk]), (w31.heap.size, 26, #[.bool false, .string bg]), (w28.heap.size, 26, #[.bool false, .string bg]), (w.heap.size + 1, 26, #[.bool nb, .string sb]), (w.heap.size, 26, #[.bool na, .string sa])]) := Lib.hid (by have h := (Env.new E38.out 26 #[.bool false, .string bg]); (try simp only [World.size_alloc] at h); exact h)
  generalize (w37.alloc (.cells #[.bool false, .string bg] 26)) = W39 at E39 ⊢
  go_cut [177] (fun sx wx => sx = .bool false ∧ Env w wx [(w37.heap.size, 26, #[.bool false, .string bg]), (w34.heap.size, 26, #[.bool sk, .string bk]), (w31.heap.size, 26, #[.bool false, .string bg]), (w28.heap.size, 26, #[.bool false, .string bg]), (w.heap.size + 1, 26, #[.bool nb, .string sb]), (w.heap.size, 26, #[.bool na, .string sa])])
  case first =>
      obtain ⟨ha, hb, hm, hk⟩ := Hab.out
      rcases Nat.eq_zero_or_pos bg.size with h0 | h0
      · obtain ⟨z1, z2⟩ := str_none h0
        have hg9 : num (false, bg) = 0 := (num_nil (b := (false, bg)) Hg.out.2).2 h0
        obtain ⟨ha0, hb0⟩ := gcdl_none (Hg.out.1.symm.trans hg9)
        obtain ⟨z3, z4⟩ := str_none ((num_nil (b := (na, sa)) hm).1 ha0)
        obtain ⟨z5, z6⟩ := str_none ((num_nil (b := (nb, sb)) hk).1 hb0)
        clear ha hb hm hk h0 ha0 hb0 hg9
        go_wp2_with fail
        refine (ok_told (n := 4) (by decide)).mono ?_
        rintro e w40 ⟨rfl, h40⟩
        subst h40
        have E41 := Lib.hid ((Env.other E39.out (.cells #[.int .i64 0, .int .i64 0, .int .i64 0, .int .i64 0] 27)))
        have q8_0 : (W39.alloc (.cells #[.int .i64 0, .int .i64 0, .int .i64 0, .int .i64 0] 27)).cell? ⟨w28.heap.size, 0, none⟩ = some (.bool false) := (Env.at_ E41.out 3 rfl).cell 0
        have q8_1 : (W39.alloc (.cells #[.int .i64 0, .int .i64 0, .int .i64 0, .int .i64 0] 27)).cell? ⟨w28.heap.size, 1, none⟩ = some (.string bg) := (Env.at_ E41.out 3 rfl).cell 1
        have q9_0 : (W39.alloc (.cells #[.int .i64 0, .int .i64 0, .int .i64 0, .int .i64 0] 27)).cell? ⟨w31.heap.size, 0, none⟩ = some (.bool false) := (Env.at_ E41.out 2 rfl).cell 0
        have q9_1 : (W39.alloc (.cells #[.int .i64 0, .int .i64 0, .int .i64 0, .int .i64 0] 27)).cell? ⟨w31.heap.size, 1, none⟩ = some (.string bg) := (Env.at_ E41.out 2 rfl).cell 1
        have q14_0 : (W39.alloc (.cells #[.int .i64 0, .int .i64 0, .int .i64 0, .int .i64 0] 27)).cell? ⟨w37.heap.size, 0, none⟩ = some (.bool false) := (Env.at_ E41.out 0 rfl).cell 0
        have q14_1 : (W39.alloc (.cells #[.int .i64 0, .int .i64 0, .int .i64 0, .int .i64 0] 27)).cell? ⟨w37.heap.size, 1, none⟩ = some (.string bg) := (Env.at_ E41.out 0 rfl).cell 1
        have q26_1 : (W39.alloc (.cells #[.int .i64 0, .int .i64 0, .int .i64 0, .int .i64 0] 27)).cell? ⟨w.heap.size, 1, none⟩ = some (.string sa) := (Env.at_ E41.out 5 rfl).cell 1
        have q30_1 : (W39.alloc (.cells #[.int .i64 0, .int .i64 0, .int .i64 0, .int .i64 0] 27)).cell? ⟨w.heap.size + 1, 1, none⟩ = some (.string sb) := (Env.at_ E41.out 4 rfl).cell 1
        go_wp2_with fail
        go_meet
        case rel => exact ⟨rfl, E41.out⟩
      · obtain ⟨z1, z2⟩ := str_facts h0
        rcases Nat.eq_zero_or_pos sa.size with h1 | h1
        · obtain ⟨rfl, rfl⟩ := may_none hm h1
          have h2 : 0 < sb.size := by
            rcases Nat.eq_zero_or_pos sb.size with h3 | h3
            · exfalso
              obtain ⟨rfl, rfl⟩ := may_none hk h3
              have h4 : num (false, bg) = 0 := Hg.out.1
              have h5 := (num_nil (b := (false, bg)) Hg.out.2).1 h4
              dsimp only at h5
              omega
            · exact h3
          obtain ⟨z3, z4⟩ := str_facts h2
          clear ha hb hm hk h0 h1 h2
          go_wp2_with fail
          refine (ok_told (n := 4) (by decide)).mono ?_
          rintro e w42 ⟨rfl, h42⟩
          subst h42
          have E43 := Lib.hid ((Env.other E39.out (.cells #[.int .i64 0, .int .i64 0, .int .i64 0, .int .i64 0] 27)))
          have q8_0 : (W39.alloc (.cells #[.int .i64 0, .int .i64 0, .int .i64 0, .int .i64 0] 27)).cell? ⟨w28.heap.size, 0, none⟩ = some (.bool false) := (Env.at_ E43.out 3 rfl).cell 0
          have q8_1 : (W39.alloc (.cells #[.int .i64 0, .int .i64 0, .int .i64 0, .int .i64 0] 27)).cell? ⟨w28.heap.size, 1, none⟩ = some (.string bg) := (Env.at_ E43.out 3 rfl).cell 1
          have q9_0 : (W39.alloc (.cells #[.int .i64 0, .int .i64 0, .int .i64 0, .int .i64 0] 27)).cell? ⟨w31.heap.size, 0, none⟩ = some (.bool false) := (Env.at_ E43.out 2 rfl).cell 0
          have q9_1 : (W39.alloc (.cells #[.int .i64 0, .int .i64 0, .int .i64 0, .int .i64 0] 27)).cell? ⟨w31.heap.size, 1, none⟩ = some (.string bg) := (Env.at_ E43.out 2 rfl).cell 1
          have q14_0 : (W39.alloc (.cells #[.int .i64 0, .int .i64 0, .int .i64 0, .int .i64 0] 27)).cell? ⟨w37.heap.size, 0, none⟩ = some (.bool false) := (Env.at_ E43.out 0 rfl).cell 0
          have q14_1 : (W39.alloc (.cells #[.int .i64 0, .int .i64 0, .int .i64 0, .int .i64 0] 27)).cell? ⟨w37.heap.size, 1, none⟩ = some (.string bg) := (Env.at_ E43.out 0 rfl).cell 1
          have q26_1 : (W39.alloc (.cells #[.int .i64 0, .int .i64 0, .int .i64 0, .int .i64 0] 27)).cell? ⟨w.heap.size, 1, none⟩ = some (.string ⟨#[]⟩) := (Env.at_ E43.out 5 rfl).cell 1
          have q30_1 : (W39.alloc (.cells #[.int .i64 0, .int .i64 0, .int .i64 0, .int .i64 0] 27)).cell? ⟨w.heap.size + 1, 1, none⟩ = some (.string sb) := (Env.at_ E43.out 4 rfl).cell 1
          go_wp2_with fail
          go_meet
          case rel => exact ⟨rfl, E43.out⟩
        · obtain ⟨z3, z4⟩ := str_facts h1
          clear ha hb hm hk h0 h1
          go_wp2_with fail
          refine (ok_told (n := 4) (by decide)).mono ?_
          rintro e w44 ⟨rfl, h44⟩
          subst h44
          have E45 := Lib.hid ((Env.other E39.out (.cells #[.int .i64 0, .int .i64 0, .int .i64 0, .int .i64 0] 27)))
          have q8_0 : (W39.alloc (.cells #[.int .i64 0, .int .i64 0, .int .i64 0, .int .i64 0] 27)).cell? ⟨w28.heap.size, 0, none⟩ = some (.bool false) := (Env.at_ E45.out 3 rfl).cell 0
          have q8_1 : (W39.alloc (.cells #[.int .i64 0, .int .i64 0, .int .i64 0, .int .i64 0] 27)).cell? ⟨w28.heap.size, 1, none⟩ = some (.string bg) := (Env.at_ E45.out 3 rfl).cell 1
          have q9_0 : (W39.alloc (.cells #[.int .i64 0, .int .i64 0, .int .i64 0, .int .i64 0] 27)).cell? ⟨w31.heap.size, 0, none⟩ = some (.bool false) := (Env.at_ E45.out 2 rfl).cell 0
          have q9_1 : (W39.alloc (.cells #[.int .i64 0, .int .i64 0, .int .i64 0, .int .i64 0] 27)).cell? ⟨w31.heap.size, 1, none⟩ = some (.string bg) := (Env.at_ E45.out 2 rfl).cell 1
          have q14_0 : (W39.alloc (.cells #[.int .i64 0, .int .i64 0, .int .i64 0, .int .i64 0] 27)).cell? ⟨w37.heap.size, 0, none⟩ = some (.bool false) := (Env.at_ E45.out 0 rfl).cell 0
          have q14_1 : (W39.alloc (.cells #[.int .i64 0, .int .i64 0, .int .i64 0, .int .i64 0] 27)).cell? ⟨w37.heap.size, 1, none⟩ = some (.string bg) := (Env.at_ E45.out 0 rfl).cell 1
          have q26_1 : (W39.alloc (.cells #[.int .i64 0, .int .i64 0, .int .i64 0, .int .i64 0] 27)).cell? ⟨w.heap.size, 1, none⟩ = some (.string sa) := (Env.at_ E45.out 5 rfl).cell 1
          have q30_1 : (W39.alloc (.cells #[.int .i64 0, .int .i64 0, .int .i64 0, .int .i64 0] 27)).cell? ⟨w.heap.size + 1, 1, none⟩ = some (.string sb) := (Env.at_ E45.out 4 rfl).cell 1
          go_wp2_with fail
          go_meet
          case rel => exact ⟨rfl, E45.out⟩
  case rest =>
      obtain ⟨rfl, hcut⟩ := hcut
      have E91 := Lib.hid hcut
      clear hcut E39
      have q17_1 : wc.cell? ⟨w28.heap.size, 1, none⟩ = some (.string bg) := (Env.at_ E91.out 3 rfl).cell 1
      go_upto_if 180 with fail
      clear q17_1
      go_cut [] (fun wx => Env w wx [(w37.heap.size, 26, #[.bool false, .string bg]), (w34.heap.size, 26, #[.bool sk, .string bk]), (w31.heap.size, 26, #[.bool false, .string bg]), (w28.heap.size, 26, #[.bool false, .string bg]), (w.heap.size + 1, 26, #[.bool nb, .string sb]), (w.heap.size, 26, #[.bool na, .string sa])])
      case first =>
        obtain ⟨ha, hb, hm, hk⟩ := Hab.out
        rcases Nat.eq_zero_or_pos bg.size with h0 | h0
        · rw [(str_none h0).1, Bool.not_true]
          go_wp2_with fail
          go_meet
          case rel => exact E91.out
        · rw [(str_facts h0).1, Bool.not_false]
          have hy0 : num (false, bg) ≠ 0 := fun h => by have := (num_nil (b := (false, bg)) Hg.out.2).1 h; dsimp only at this; omega
          have Sx := may_sb (n := na) ha
          have Sy := may_sb (n := nb) hb
          have fx : fits (num (na, sa) / num (false, bg)) := (Sx.le (Int.natAbs_ediv_le_natAbs _ _)).fits (by decide)
          obtain ⟨sx, bx, ex, nx, mx⟩ := enc_form fx
          have fy : fits (num (nb, sb) / num (false, bg)) := (Sy.le (Int.natAbs_ediv_le_natAbs _ _)).fits (by decide)
          obtain ⟨sy, by_, ey, ny, my⟩ := enc_form fy
          have hg0 : (gcdl [num (na, sa), num (nb, sb)] : Int) ≠ 0 := by rw [← Hg.out.1]; exact hy0
          have hx1 : num (na, sa) % num (false, bg) = 0 := by rw [Hg.out.1]; exact gcd_div_left
          have hy1 : num (nb, sb) % num (false, bg) = 0 := by rw [Hg.out.1]; exact gcd_div_right
          have h1 : (gcdl [num (sx, bx), num (sy, by_)] : Int) = 1 := by rw [nx, ny, Hg.out.1, gcd_one hg0]; rfl
          have H21 := Lib.hid (fun W : World => div_told (w := W) (And.intro hm Hg.out.2) hy0 rfl hx1 ex enc_zero)
          have H21b := Lib.hid (fun W : World => div_told (w := W) (And.intro hk Hg.out.2) hy0 rfl hy1 ey enc_zero)
          have H15 := Lib.hid (fun W : World => gcd_told (w := W) (And.intro mx my) h1 (fits_small (by decide)) enc_one)
          clear hm hk hy0 Sx Sy fx ex nx mx fy ey ny my hg0 hx1 hy1 h1 ha hb h0
          go_upto_region 18 with fail
          have q0_0 : wc.cell? ⟨w.heap.size, 0, none⟩ = some (.bool na) := (Env.at_ E91.out 5 rfl).cell 0
          have q0_1 : wc.cell? ⟨w.heap.size, 1, none⟩ = some (.string sa) := (Env.at_ E91.out 5 rfl).cell 1
          have q1_0 : wc.cell? ⟨w28.heap.size, 0, none⟩ = some (.bool false) := (Env.at_ E91.out 3 rfl).cell 0
          have q1_1 : wc.cell? ⟨w28.heap.size, 1, none⟩ = some (.string bg) := (Env.at_ E91.out 3 rfl).cell 1
          go_wp2_with fail
          refine (H21.out _).mono ?_
          rintro e w46 ⟨rfl, h46⟩
          have E47 := Lib.hid (E91.out.call h46)
          clear q0_0 q0_1 q1_0 q1_1 h46
          go_upto_region 19 with fail
          have E48 : Hid (Env w ((w46.alloc (.cells #[.bool sx, .string bx] 26)).alloc (.cells #[.bool false, .string ⟨#[]⟩] 26)) [(w46.heap.size + 1, 26, #[.bool false, .string ⟨#[]⟩]), (w46.heap.size, 26, #[.bool sx, .string bx]), (w37.heap.size, 26, #[.bool false, .string bg]), (w34.heap.size, 26, #[.bool sk, .string bk]), (w31.heap.size, 26, #[.bool false, .string bg]), (w28.heap.size, 26, #[.bool false, .string bg]), (w.heap.size + 1, 26, #[.bool nb, .string sb]), (w.heap.size, 26, #[.bool na, .string sa])]) := Lib.hid (by have h := (Env.new (Env.new E47.out 26 #[.bool sx, .string bx]) 26 #[.bool false, .string ⟨#[]⟩]); (try simp only [World.size_alloc] at h); exact h)
          generalize ((w46.alloc (.cells #[.bool sx, .string bx] 26)).alloc (.cells #[.bool false, .string ⟨#[]⟩] 26)) = W48 at E48 ⊢
          have q0_0 : W48.cell? ⟨w.heap.size + 1, 0, none⟩ = some (.bool nb) := (Env.at_ E48.out 6 rfl).cell 0
          have q0_1 : W48.cell? ⟨w.heap.size + 1, 1, none⟩ = some (.string sb) := (Env.at_ E48.out 6 rfl).cell 1
          have q1_0 : W48.cell? ⟨w28.heap.size, 0, none⟩ = some (.bool false) := (Env.at_ E48.out 5 rfl).cell 0
          have q1_1 : W48.cell? ⟨w28.heap.size, 1, none⟩ = some (.string bg) := (Env.at_ E48.out 5 rfl).cell 1
          go_wp2_with fail
          refine (H21b.out _).mono ?_
          rintro e w49 ⟨rfl, h49⟩
          have E50 := Lib.hid (E48.out.call h49)
          clear q0_0 q0_1 q1_0 q1_1 h49
          go_upto_region 20 with fail
          have E51 : Hid (Env w ((w49.alloc (.cells #[.bool sy, .string by_] 26)).alloc (.cells #[.bool false, .string ⟨#[]⟩] 26)) [(w49.heap.size + 1, 26, #[.bool false, .string ⟨#[]⟩]), (w49.heap.size, 26, #[.bool sy, .string by_]), (w46.heap.size + 1, 26, #[.bool false, .string ⟨#[]⟩]), (w46.heap.size, 26, #[.bool sx, .string bx]), (w37.heap.size, 26, #[.bool false, .string bg]), (w34.heap.size, 26, #[.bool sk, .string bk]), (w31.heap.size, 26, #[.bool false, .string bg]), (w28.heap.size, 26, #[.bool false, .string bg]), (w.heap.size + 1, 26, #[.bool nb, .string sb]), (w.heap.size, 26, #[.bool na, .string sa])]) := Lib.hid (by have h := (Env.new (Env.new E50.out 26 #[.bool sy, .string by_]) 26 #[.bool false, .string ⟨#[]⟩]); (try simp only [World.size_alloc] at h); exact h)
          generalize ((w49.alloc (.cells #[.bool sy, .string by_] 26)).alloc (.cells #[.bool false, .string ⟨#[]⟩] 26)) = W51 at E51 ⊢
          have q0_0 : W51.cell? ⟨w46.heap.size, 0, none⟩ = some (.bool sx) := (Env.at_ E51.out 3 rfl).cell 0
          have q0_1 : W51.cell? ⟨w46.heap.size, 1, none⟩ = some (.string bx) := (Env.at_ E51.out 3 rfl).cell 1
          have q1_0 : W51.cell? ⟨w49.heap.size, 0, none⟩ = some (.bool sy) := (Env.at_ E51.out 1 rfl).cell 0
          have q1_1 : W51.cell? ⟨w49.heap.size, 1, none⟩ = some (.string by_) := (Env.at_ E51.out 1 rfl).cell 1
          go_wp2_with fail
          refine (H15.out _).mono ?_
          rintro e w52 ⟨rfl, h52⟩
          have E53 := Lib.hid ((Env.other E51.out (.cells #[.bool sx, .string bx, .bool sy, .string by_] 26)).call h52)
          clear q0_0 q0_1 q1_0 q1_1 h52
          go_upto_region 21 with fail
          have E54 : Hid (Env w (w52.alloc (.cells #[.bool false, .string ⟨#[1]⟩] 26)) [(w52.heap.size, 26, #[.bool false, .string ⟨#[1]⟩]), (w49.heap.size + 1, 26, #[.bool false, .string ⟨#[]⟩]), (w49.heap.size, 26, #[.bool sy, .string by_]), (w46.heap.size + 1, 26, #[.bool false, .string ⟨#[]⟩]), (w46.heap.size, 26, #[.bool sx, .string bx]), (w37.heap.size, 26, #[.bool false, .string bg]), (w34.heap.size, 26, #[.bool sk, .string bk]), (w31.heap.size, 26, #[.bool false, .string bg]), (w28.heap.size, 26, #[.bool false, .string bg]), (w.heap.size + 1, 26, #[.bool nb, .string sb]), (w.heap.size, 26, #[.bool na, .string sa])]) := Lib.hid (by have h := (Env.new E53.out 26 #[.bool false, .string ⟨#[1]⟩]); (try simp only [World.size_alloc] at h); exact h)
          generalize (w52.alloc (.cells #[.bool false, .string ⟨#[1]⟩] 26)) = W54 at E54 ⊢
          go_wp2_with fail
          refine (ok_told (n := 3) (by decide)).mono ?_
          rintro e w55 ⟨rfl, h55⟩
          subst h55
          have E56 := Lib.hid ((Env.other E54.out (.cells #[.int .i64 0, .int .i64 0, .int .i64 0] 27)))
          have q7_0 : (W54.alloc (.cells #[.int .i64 0, .int .i64 0, .int .i64 0] 27)).cell? ⟨w46.heap.size + 1, 0, none⟩ = some (.bool false) := (Env.at_ E56.out 3 rfl).cell 0
          have q7_1 : (W54.alloc (.cells #[.int .i64 0, .int .i64 0, .int .i64 0] 27)).cell? ⟨w46.heap.size + 1, 1, none⟩ = some (.string ⟨#[]⟩) := (Env.at_ E56.out 3 rfl).cell 1
          have q12_0 : (W54.alloc (.cells #[.int .i64 0, .int .i64 0, .int .i64 0] 27)).cell? ⟨w49.heap.size + 1, 0, none⟩ = some (.bool false) := (Env.at_ E56.out 1 rfl).cell 0
          have q12_1 : (W54.alloc (.cells #[.int .i64 0, .int .i64 0, .int .i64 0] 27)).cell? ⟨w49.heap.size + 1, 1, none⟩ = some (.string ⟨#[]⟩) := (Env.at_ E56.out 1 rfl).cell 1
          have q17_0 : (W54.alloc (.cells #[.int .i64 0, .int .i64 0, .int .i64 0] 27)).cell? ⟨w52.heap.size, 0, none⟩ = some (.bool false) := (Env.at_ E56.out 0 rfl).cell 0
          have q17_1 : (W54.alloc (.cells #[.int .i64 0, .int .i64 0, .int .i64 0] 27)).cell? ⟨w52.heap.size, 1, none⟩ = some (.string ⟨#[1]⟩) := (Env.at_ E56.out 0 rfl).cell 1
          go_wp2_with fail
          go_meet
          case rel => exact Env.drop E56.out 5
      case rest =>
        go_step
        exact divides_rest2 Hab HW (Lib.hid (Env.drop hcut 4))
set_option maxRecDepth 100000 in
set_option maxHeartbeats 8000000 in
theorem divides_main {w : World} {na nb : Bool} {sa sb : ByteArray} (ha : sa.size ≤ 400) (hb : sb.size ≤ 400) (hm : MayL na sa.data.toList) (hk : MayL nb sb.data.toList) :
    Calls Try.prog 8 #[.agg #[.bool na, .string sa], .agg #[.bool nb, .string sb]] w (fun e w' => e = .returned (.bool true) ∧ Below w.heap.size w w') := by
  have dsa : decide ((400 : Int) < (sa.size : Int)) = false := by simp; omega
  have isa : (sa.size : Int) ≤ 400 := by omega
  have dsb : decide ((400 : Int) < (sb.size : Int)) = false := by simp; omega
  have isb : (sb.size : Int) ≤ 400 := by omega
  have HC := Lib.hid (fun W : World => check_ok (w := W) hm)
  have HK := Lib.hid (fun W : World => check_ok (w := W) hk)
  have Hab := Lib.hid (And.intro ha (And.intro hb (And.intro hm hk)))
  clear ha hb hm hk
  have HW := Lib.hid (fun W : World => works_any (w := W))
  have HN := Lib.hid (fun (W : World) (n : Int) => num_any (w := W) (n := n))
  have E0 := Lib.hid (Env.nil w)
  go_enter Try.func8, Try.ntmps8
  go_upto_region 0 with fail
  go_upto_region 1 with fail
  have E1 : Hid (Env w ((w.alloc (.cells #[.bool na, .string sa] 26)).alloc (.cells #[.bool nb, .string sb] 26)) [(w.heap.size + 1, 26, #[.bool nb, .string sb]), (w.heap.size, 26, #[.bool na, .string sa])]) := Lib.hid (by have h := (Env.new (Env.new E0.out 26 #[.bool na, .string sa]) 26 #[.bool nb, .string sb]); (try simp only [World.size_alloc] at h); exact h)
  generalize ((w.alloc (.cells #[.bool na, .string sa] 26)).alloc (.cells #[.bool nb, .string sb] 26)) = W1 at E1 ⊢
  have q1_1 : W1.cell? ⟨w.heap.size, 1, none⟩ = some (.string sa) := (Env.at_ E1.out 1 rfl).cell 1
  have q6_1 : W1.cell? ⟨w.heap.size + 1, 1, none⟩ = some (.string sb) := (Env.at_ E1.out 0 rfl).cell 1
  have q11_0 : W1.cell? ⟨w.heap.size, 0, none⟩ = some (.bool na) := (Env.at_ E1.out 1 rfl).cell 0
  go_wp2_with fail
  refine (HC.out _).mono ?_
  rintro e w2 ⟨rfl, h2⟩
  have E3 := Lib.hid (E1.out.call h2)
  clear q1_1 q6_1 q11_0 h2
  go_wp2_with fail
  refine (HN.out _ 0).mono ?_
  rintro e w4 ⟨rfl, h4⟩
  subst h4
  have E5 := Lib.hid (E3.out)
  have q17_0 : w2.cell? ⟨w.heap.size + 1, 0, none⟩ = some (.bool nb) := (Env.at_ E5.out 0 rfl).cell 0
  have q17_1 : w2.cell? ⟨w.heap.size + 1, 1, none⟩ = some (.string sb) := (Env.at_ E5.out 0 rfl).cell 1
  go_wp2_with fail
  refine (HK.out _).mono ?_
  rintro e w6 ⟨rfl, h6⟩
  have E7 := Lib.hid (E5.out.call h6)
  clear q17_0 q17_1 h6
  go_wp2_with fail
  refine (HN.out _ 0).mono ?_
  rintro e w8 ⟨rfl, h8⟩
  subst h8
  have E9 := Lib.hid (E7.out)
  go_upto_region 3 with fail
  have q3_1 : w6.cell? ⟨w.heap.size + 1, 1, none⟩ = some (.string sb) := (Env.at_ E9.out 0 rfl).cell 1
  go_upto_if 64 with fail
  clear q3_1
  clear dsa isa dsb isb HC HK
  go_cut [] (fun wx => Env w wx [(w.heap.size + 1, 26, #[.bool nb, .string sb]), (w.heap.size, 26, #[.bool na, .string sa])])
  case first =>
    obtain ⟨ha, hb, hm, hk⟩ := Hab.out
    rcases Nat.eq_zero_or_pos sb.size with h0 | h0
    · obtain ⟨rfl, rfl⟩ := may_none hk h0
      clear ha hb hm hk h0
      rw [(str_none (s := ⟨#[]⟩) rfl).1, Bool.not_true]
      go_wp2_with fail
      go_meet
      case rel => exact E9.out
    · rw [(str_facts h0).1, Bool.not_false]
      have hy0 : num (nb, sb) ≠ 0 := fun h => by have := (num_nil (b := (nb, sb)) hk).1 h; dsimp only at this; omega
      have Sx := may_sb (n := na) ha
      have Sy := may_sb (n := nb) hb
      have fq : fits (num (na, sa) / num (nb, sb)) := (Sx.le (Int.natAbs_ediv_le_natAbs _ _)).fits (by decide)
      obtain ⟨sq, bq, eq, nq, mq⟩ := enc_form fq
      have fr : fits (num (na, sa) % num (nb, sb)) := (Sy.le (rest_le hy0)).fits (by decide)
      obtain ⟨sr, br, er, nr, mr⟩ := enc_form fr
      have fp : fits (num (na, sa) / num (nb, sb) * num (nb, sb)) := ((Sx.le (Int.natAbs_ediv_le_natAbs _ _)).mul Sy).fits (by decide)
      obtain ⟨sp, bp, ep, np, mp⟩ := enc_form fp
      have fm : fits (((num (nb, sb)).natAbs : Int)) := (Sy.le (by rw [Int.natAbs_natCast]; exact Nat.le_refl _)).fits (by decide)
      obtain ⟨sm, bm, em, nm, mm⟩ := enc_form fm
      have fa := Sx.fits (by decide)
      have ea := may_num hm
      have hlt : num (na, sa) % num (nb, sb) < ((num (nb, sb)).natAbs : Int) := Int.emod_lt _ hy0
      have hnn := Int.emod_nonneg (num (na, sa)) hy0
      have H21 := Lib.hid (fun W : World => div_told (w := W) (And.intro hm hk) hy0 rfl rfl eq er)
      have H29 := Lib.hid (fun W : World => mul_told (w := W) (And.intro mq hk) (show num (sq, bq) * num (nb, sb) = _ by rw [nq]) fp ep)
      have H27 := Lib.hid (fun W : World => add_told (w := W) (And.intro mp mr) (show num (sp, bp) + num (sr, br) = num (na, sa) by rw [np, nr]; exact Int.ediv_mul_add_emod _ _) fa ea)
      have H38 := Lib.hid (fun W : World => abs_told (w := W) hk rfl fm em)
      have H26 := Lib.hid (fun W : World => cmp_told (w := W) (And.intro mr mm : May2 (sr, br) (sm, bm)))
      have H44 := Lib.hid (fun W : World => sign_told (w := W) mr)
      simp only [nr, nm, cmp_lt hlt] at H26
      simp only [nr] at H44
      obtain ⟨i1, i2⟩ := sg_nonneg hnn
      generalize sg (num (na, sa) % num (nb, sb)) = zs at *
      have dzs : decide (zs < 0) = false := by simp; omega
      clear hm hk hy0 Sx Sy fq eq nq mq fr er nr mr fp ep np mp fm em nm mm fa ea hlt hnn ha hb h0
      go_upto_region 4 with fail
      have q0_0 : w6.cell? ⟨w.heap.size, 0, none⟩ = some (.bool na) := (Env.at_ E9.out 1 rfl).cell 0
      have q0_1 : w6.cell? ⟨w.heap.size, 1, none⟩ = some (.string sa) := (Env.at_ E9.out 1 rfl).cell 1
      have q1_0 : w6.cell? ⟨w.heap.size + 1, 0, none⟩ = some (.bool nb) := (Env.at_ E9.out 0 rfl).cell 0
      have q1_1 : w6.cell? ⟨w.heap.size + 1, 1, none⟩ = some (.string sb) := (Env.at_ E9.out 0 rfl).cell 1
      go_wp2_with fail
      refine (H21.out _).mono ?_
      rintro e w10 ⟨rfl, h10⟩
      have E11 := Lib.hid (E9.out.call h10)
      clear q0_0 q0_1 q1_0 q1_1 h10
      go_upto_region 5 with fail
      have E12 : Hid (Env w ((w10.alloc (.cells #[.bool sq, .string bq] 26)).alloc (.cells #[.bool sr, .string br] 26)) [(w10.heap.size + 1, 26, #[.bool sr, .string br]), (w10.heap.size, 26, #[.bool sq, .string bq]), (w.heap.size + 1, 26, #[.bool nb, .string sb]), (w.heap.size, 26, #[.bool na, .string sa])]) := Lib.hid (by have h := (Env.new (Env.new E11.out 26 #[.bool sq, .string bq]) 26 #[.bool sr, .string br]); (try simp only [World.size_alloc] at h); exact h)
      generalize ((w10.alloc (.cells #[.bool sq, .string bq] 26)).alloc (.cells #[.bool sr, .string br] 26)) = W12 at E12 ⊢
      have q0_0 : W12.cell? ⟨w10.heap.size, 0, none⟩ = some (.bool sq) := (Env.at_ E12.out 1 rfl).cell 0
      have q0_1 : W12.cell? ⟨w10.heap.size, 1, none⟩ = some (.string bq) := (Env.at_ E12.out 1 rfl).cell 1
      have q1_0 : W12.cell? ⟨w.heap.size + 1, 0, none⟩ = some (.bool nb) := (Env.at_ E12.out 2 rfl).cell 0
      have q1_1 : W12.cell? ⟨w.heap.size + 1, 1, none⟩ = some (.string sb) := (Env.at_ E12.out 2 rfl).cell 1
      go_wp2_with fail
      refine (H29.out _).mono ?_
      rintro e w13 ⟨rfl, h13⟩
      have E14 := Lib.hid (E12.out.call h13)
      clear q0_0 q0_1 q1_0 q1_1 h13
      go_upto_region 6 with fail
      have E15 : Hid (Env w (w13.alloc (.cells #[.bool sp, .string bp] 26)) [(w13.heap.size, 26, #[.bool sp, .string bp]), (w10.heap.size + 1, 26, #[.bool sr, .string br]), (w10.heap.size, 26, #[.bool sq, .string bq]), (w.heap.size + 1, 26, #[.bool nb, .string sb]), (w.heap.size, 26, #[.bool na, .string sa])]) := Lib.hid (by have h := (Env.new E14.out 26 #[.bool sp, .string bp]); (try simp only [World.size_alloc] at h); exact h)
      generalize (w13.alloc (.cells #[.bool sp, .string bp] 26)) = W15 at E15 ⊢
      have q0_0 : W15.cell? ⟨w13.heap.size, 0, none⟩ = some (.bool sp) := (Env.at_ E15.out 0 rfl).cell 0
      have q0_1 : W15.cell? ⟨w13.heap.size, 1, none⟩ = some (.string bp) := (Env.at_ E15.out 0 rfl).cell 1
      have q1_0 : W15.cell? ⟨w10.heap.size + 1, 0, none⟩ = some (.bool sr) := (Env.at_ E15.out 1 rfl).cell 0
      have q1_1 : W15.cell? ⟨w10.heap.size + 1, 1, none⟩ = some (.string br) := (Env.at_ E15.out 1 rfl).cell 1
      go_wp2_with fail
      refine (H27.out _).mono ?_
      rintro e w16 ⟨rfl, h16⟩
      have E17 := Lib.hid (E15.out.call h16)
      clear q0_0 q0_1 q1_0 q1_1 h16
      go_upto_region 7 with fail
      have E18 : Hid (Env w (w16.alloc (.cells #[.bool na, .string sa] 26)) [(w16.heap.size, 26, #[.bool na, .string sa]), (w13.heap.size, 26, #[.bool sp, .string bp]), (w10.heap.size + 1, 26, #[.bool sr, .string br]), (w10.heap.size, 26, #[.bool sq, .string bq]), (w.heap.size + 1, 26, #[.bool nb, .string sb]), (w.heap.size, 26, #[.bool na, .string sa])]) := Lib.hid (by have h := (Env.new E17.out 26 #[.bool na, .string sa]); (try simp only [World.size_alloc] at h); exact h)
      generalize (w16.alloc (.cells #[.bool na, .string sa] 26)) = W18 at E18 ⊢
      have q0_0 : W18.cell? ⟨w.heap.size + 1, 0, none⟩ = some (.bool nb) := (Env.at_ E18.out 4 rfl).cell 0
      have q0_1 : W18.cell? ⟨w.heap.size + 1, 1, none⟩ = some (.string sb) := (Env.at_ E18.out 4 rfl).cell 1
      go_wp2_with fail
      refine (H38.out _).mono ?_
      rintro e w19 ⟨rfl, h19⟩
      have E20 := Lib.hid (E18.out.call h19)
      clear q0_0 q0_1 h19
      go_upto_region 8 with fail
      have E21 : Hid (Env w (w19.alloc (.cells #[.bool sm, .string bm] 26)) [(w19.heap.size, 26, #[.bool sm, .string bm]), (w16.heap.size, 26, #[.bool na, .string sa]), (w13.heap.size, 26, #[.bool sp, .string bp]), (w10.heap.size + 1, 26, #[.bool sr, .string br]), (w10.heap.size, 26, #[.bool sq, .string bq]), (w.heap.size + 1, 26, #[.bool nb, .string sb]), (w.heap.size, 26, #[.bool na, .string sa])]) := Lib.hid (by have h := (Env.new E20.out 26 #[.bool sm, .string bm]); (try simp only [World.size_alloc] at h); exact h)
      generalize (w19.alloc (.cells #[.bool sm, .string bm] 26)) = W21 at E21 ⊢
      have q0_0 : W21.cell? ⟨w10.heap.size + 1, 0, none⟩ = some (.bool sr) := (Env.at_ E21.out 3 rfl).cell 0
      have q0_1 : W21.cell? ⟨w10.heap.size + 1, 1, none⟩ = some (.string br) := (Env.at_ E21.out 3 rfl).cell 1
      have q1_0 : W21.cell? ⟨w19.heap.size, 0, none⟩ = some (.bool sm) := (Env.at_ E21.out 0 rfl).cell 0
      have q1_1 : W21.cell? ⟨w19.heap.size, 1, none⟩ = some (.string bm) := (Env.at_ E21.out 0 rfl).cell 1
      go_wp2_with fail
      refine (H26.out _).mono ?_
      rintro e w22 ⟨rfl, h22⟩
      have E23 := Lib.hid (E21.out.call h22)
      clear q0_0 q0_1 q1_0 q1_1 h22
      go_upto_region 9 with fail
      go_wp2_with fail
      refine (ok_told (n := 5) (by decide)).mono ?_
      rintro e w24 ⟨rfl, h24⟩
      subst h24
      have E25 := Lib.hid ((Env.other E23.out (.cells #[.int .i64 0, .int .i64 0, .int .i64 0, .int .i64 0, .int .i64 0] 27)))
      have q9_0 : (w22.alloc (.cells #[.int .i64 0, .int .i64 0, .int .i64 0, .int .i64 0, .int .i64 0] 27)).cell? ⟨w16.heap.size, 0, none⟩ = some (.bool na) := (Env.at_ E25.out 1 rfl).cell 0
      have q9_1 : (w22.alloc (.cells #[.int .i64 0, .int .i64 0, .int .i64 0, .int .i64 0, .int .i64 0] 27)).cell? ⟨w16.heap.size, 1, none⟩ = some (.string sa) := (Env.at_ E25.out 1 rfl).cell 1
      have q10_0 : (w22.alloc (.cells #[.int .i64 0, .int .i64 0, .int .i64 0, .int .i64 0, .int .i64 0] 27)).cell? ⟨w.heap.size, 0, none⟩ = some (.bool na) := (Env.at_ E25.out 6 rfl).cell 0
      have q10_1 : (w22.alloc (.cells #[.int .i64 0, .int .i64 0, .int .i64 0, .int .i64 0, .int .i64 0] 27)).cell? ⟨w.heap.size, 1, none⟩ = some (.string sa) := (Env.at_ E25.out 6 rfl).cell 1
      have q14_0 : (w22.alloc (.cells #[.int .i64 0, .int .i64 0, .int .i64 0, .int .i64 0, .int .i64 0] 27)).cell? ⟨w10.heap.size + 1, 0, none⟩ = some (.bool sr) := (Env.at_ E25.out 3 rfl).cell 0
      have q14_1 : (w22.alloc (.cells #[.int .i64 0, .int .i64 0, .int .i64 0, .int .i64 0, .int .i64 0] 27)).cell? ⟨w10.heap.size + 1, 1, none⟩ = some (.string br) := (Env.at_ E25.out 3 rfl).cell 1
      go_wp2_with fail
      refine (H44.out _).mono ?_
      rintro e w26 ⟨rfl, h26⟩
      have E27 := Lib.hid (E25.out.call h26)
      clear q9_0 q9_1 q10_0 q10_1 q14_0 q14_1 h26
      go_wp2_with fail
      go_meet
      case rel => exact Env.drop E27.out 5
  case rest =>
    go_step
    exact divides_rest1 Hab HW (Lib.hid hcut)
theorem divides_any {w : World} {na nb : Bool} {sa sb : ByteArray} :
    Calls Try.prog 8 #[.agg #[.bool na, .string sa], .agg #[.bool nb, .string sb]] w (fun e w' => e = .returned (.bool true) ∧ Below w.heap.size w w') := by
  by_cases ha : 400 < sa.size
  · exact divides_la ha
  by_cases hb : 400 < sb.size
  · exact divides_lb (by omega) hb
  by_cases hm : MayL na sa.data.toList
  · by_cases hk : MayL nb sb.data.toList
    · exact divides_main (by omega) (by omega) hm hk
    · exact divides_mb (by omega) (by omega) hm hk
  · exact divides_ma (by omega) (by omega) hm
end Go.Proofs.Ytpnginnjbdedbaa

/- The frame of a law's row: what came in reads as it did. -/
namespace Go.Proofs.Ytpnginnjbdedbaa
open Go.ChangeShapes Go.WideShapes Go.ChangeAt Go.RowKit

theorem own : ownKnob Try.prog.godebug = none := by kernel_rfl

theorem trodAll_keep {H : Type} {enc : TypeId × Value → H} {P : Program} (hl : laidOutB P = true) {W W' : World} (hb : Below W.heap.size W W') {sp : Nat → Bool} :
    ∀ (ts : List TypeId) (vs : List Value) (ds : List (DataW H)) (ps : List MemPlace), DataW.TrodAll enc P W 0 (fun _ => true) true ts vs ds ps → (∀ t ∈ ts, P.readableRec t = true ∧ t < P.types.size) →
      (∀ x ∈ ps, x.block < W.heap.size) → (∀ x ∈ ps, sp x.block = true) → DataW.TrodAll enc P W' 0 sp true ts vs ds ps
  | [], vs, ds, ps, h, _, _, _ => by
    obtain ⟨rfl, rfl, rfl⟩ := trodAll_nil h
    exact trodAll_mk0
  | t :: ts, vs, ds, ps, h, ht, hlt, hsp => by
    obtain ⟨v, vs', d, ds', p, q, rfl, rfl, rfl, h0, h1⟩ := trodAll_cons h
    refine trodAll_cons_mk ?_ (trodAll_keep hl hb ts vs' ds' q h1 (fun t' h' => ht t' (List.mem_cons_of_mem _ h')) (fun x hx => hlt x (List.mem_append_right _ hx)) (fun x hx => hsp x (List.mem_append_right _ hx)))
    obtain ⟨hr, hrow⟩ := ht t List.mem_cons_self
    exact WideElems.Trod_stays hl hr hrow h0 (fun x hx => hb.same (hlt x (List.mem_append_left _ hx))) (fun x hx => hsp x (List.mem_append_left _ hx))

theorem laidOut : laidOutB Try.prog = true := by kernel_rfl

set_option maxRecDepth 100000 in
/-- the post of a law that has returned true and written nothing that was there -/
theorem law_post {H : Type} {enc : TypeId × Value → H} {f : Func} {s : ChangeSpec} {W W' : World} {args : Array Value} {ds gs : List (DataW H)} {before : List MemPlace} {bt : TypeId}
    (hW : DataW.Whole enc Try.prog f.params.toList s.vars false W args.toList ds gs before) (hb : Below W.heap.size W W') (hv : s.vars = []) (hrt : f.resultTypes = #[bt]) (hbt : Try.prog.underlying bt = some .bool)
    (hpar : ∀ t ∈ f.params.toList, Try.prog.readableRec t = true ∧ t < Try.prog.types.size)
    (hres : (s.fn H (ds ++ gs)).results = [.lit (.bool true)]) (hargs : (s.fn H (ds ++ gs)).args = ds) (hvs : (s.fn H (ds ++ gs)).vars = []) :
    s.post enc Try.prog f false true false false W args (.bool true) W' := by
  have hlt : ∀ p ∈ before, p.block < W.heap.size := fun p hp => hW.lt p hp
  have hW' := hW
  obtain ⟨p, q, hA, hV, rfl, hfz, hnd⟩ := hW
  have hq : q = [] := by
    rw [hv] at hV
    exact (trodVars_none hV).2
  subst hq
  refine post_of_below (pa := p) (pv := []) hW' (fun _ _ _ => ?_) (fun sp hsp => ?_) (fun sp hsp => ?_) rfl hb ?_
  · rw [hres, hrt]
    exact trodAll_cons_mk (shut_bool hbt _) trodAll_mk0
  · rw [hargs]
    exact trodAll_keep laidOut hb _ _ _ _ hA hpar (fun x hx => hlt x (List.mem_append_left _ hx)) (fun x hx => hsp x (List.mem_append_left _ hx))
  · rw [hv, hvs]
    rfl
  · exact ok_one hrt rfl (okWide_bool_mk hbt _)
end Go.Proofs.Ytpnginnjbdedbaa

/- Arguments opened: a whole number. -/
namespace Go.Proofs.Ytpnginnjbdedbaa.Opened
open Go.ChangeShapes Go.WideShapes Go.ChangeAt Go.RowKit

section
variable {H : Type} {enc : TypeId × Value → H} {w : World} {base fuel : Nat} {spare : Nat → Bool} {held : Bool}
theorem c26 : Try.prog.cellsOf 26 = 2 := by kernel_rfl
theorem c9 : Try.prog.cellsOf 9 = 1 := by kernel_rfl
theorem c4 : Try.prog.cellsOf 4 = 1 := by kernel_rfl
set_option maxRecDepth 100000 in
theorem open_whole {cs : List Value} {x : DataW H × List MemPlace} (h : DataW.trod enc Try.prog w base spare held fuel 26 cs = some x) :
    ∃ (b : Bool) (s : ByteArray), cs = [.bool b, .string s] ∧ x.1 = .agg [.lit (.bool b), .lit (.string s.data.toList)] := by
  obtain ⟨xs, n, _, rfl, hl, hx, hf⟩ := DataW.trod_struct Try.underlying26 h
  rw [c26] at hl
  match cs, hl, xs, hx with
  | [d0, d1], _, [x0, x1], _ =>
    have h0 : DataW.trod enc Try.prog w base spare held n 4 ((List.drop 0 [d0, d1]).take (Try.prog.cellsOf 4)) = some x0 := hf 0 _ rfl
    have h1 : DataW.trod enc Try.prog w base spare held n 9 ((List.drop 1 [d0, d1]).take (Try.prog.cellsOf 9)) = some x1 := hf 1 _ rfl
    rw [c4] at h0
    rw [c9] at h1
    obtain ⟨b, hb, hx0⟩ := DataW.trod_bool Try.underlying4 h0
    obtain ⟨s, hs, hx1, _⟩ := DataW.trod_string Try.underlying9 h1
    simp only [List.drop, List.take, List.cons.injEq, and_true] at hb hs
    subst hb hs hx0 hx1
    exact ⟨b, s, rfl, rfl⟩
set_option maxRecDepth 100000 in
/-- an argument that is a whole number -/
theorem open_arg {W : World} {b0 : Nat} {v : Value} {d : DataW H} {p : List MemPlace} {P0 : Nat → Bool} (hval : Value.okWide Try.prog W .any b0 26 v) (h : DataW.Trod enc Try.prog W 0 P0 true 26 v d p) :
    ∃ (b : Bool) (s : ByteArray), v = .agg #[.bool b, .string s] ∧ d = .agg [.lit (.bool b), .lit (.string s.data.toList)] := by
  obtain ⟨cs, rfl, hsz⟩ := okWide_struct Try.underlying26 hval
  obtain ⟨fuel, hf⟩ := h
  obtain ⟨b, s, hcs, hd⟩ := open_whole hf
  have ecs : cs = #[.bool b, .string s] := by
    have : cs.toList = _ := hcs
    rw [← Array.toArray_toList (xs := cs), this]
  exact ⟨b, s, by rw [ecs], hd⟩
end
end Go.Proofs.Ytpnginnjbdedbaa.Opened
