import Derived.Test.YtpnginnjbdedbaaC6
import Derived.Test.YtpnginnjbdedbaaC4
import Derived.WalkMore
/- Whole numbers' sizes; the plain laws of division, greatest divisors, roots. -/
namespace Go.Proofs.Ytpnginnjbdedbaa
open Go.RowKit
open Wh
set_option linter.unusedSimpArgs false

/-- a number of at most k bits -/
def SB (k : Nat) (z : Int) : Prop := z.natAbs < 2 ^ k
theorem SB.mono {k j : Nat} {z : Int} (h : SB k z) (hk : k ≤ j) : SB j z := Nat.lt_of_lt_of_le h (Nat.pow_le_pow_right (by decide) hk)
theorem SB.bl {k n : Nat} {z : Int} (h : SB k z) (hk : k ≤ n) : bl z.natAbs ≤ n := bl_lt.2 (h.mono hk)
theorem SB.fits {k : Nat} {z : Int} (h : SB k z) (hk : k ≤ 131072) : fits z := h.bl hk
theorem SB.le {k : Nat} {z y : Int} (h : SB k z) (hy : y.natAbs ≤ z.natAbs) : SB k y := Nat.lt_of_le_of_lt hy h
theorem SB.mul {k j : Nat} {x y : Int} (hx : SB k x) (hy : SB j y) : SB (k + j) (x * y) := by
  unfold SB
  rw [Int.natAbs_mul, Nat.pow_add]
  exact Nat.mul_lt_mul'' hx hy
theorem SB.add {k : Nat} {x y : Int} (hx : SB k x) (hy : SB k y) : SB (k + 1) (x + y) := by
  have h1 := Int.natAbs_add_le x y
  unfold SB at *
  rw [Nat.pow_succ]
  omega
theorem SB.sub {k : Nat} {x y : Int} (hx : SB k x) (hy : SB k y) : SB (k + 1) (x - y) := by
  have h1 := Int.natAbs_sub_le x y
  unfold SB at *
  rw [Nat.pow_succ]
  omega
theorem SB.neg {k : Nat} {x : Int} (hx : SB k x) : SB k (-x) := hx.le (by omega)
theorem SB.zero (k : Nat) : SB k 0 := Nat.pow_pos (by decide)
theorem may_sb {n : Bool} {s : ByteArray} {k : Nat} (h : s.size ≤ k) : SB (8 * k) (num (n, s)) := by
  unfold SB num
  rw [sgn_abs, ← pow_bytes]
  have hl : s.data.toList.length = s.size := Array.length_toList
  exact Nat.lt_of_lt_of_le (bval_lt _) (Nat.pow_le_pow_right (by decide) (by show s.data.toList.length ≤ k; omega))
theorem may_num {n : Bool} {s : ByteArray} (h : MayL n s.data.toList) : enc (num (n, s)) = .agg #[.bool n, .string s] := by
  unfold enc num
  rw [sgn_neg, sgn_abs, show bys (bval s.data.toList) = s.data.toList from bys_bval _ _ rfl h.2.2]
  have h1 : (n && decide (0 < bval s.data.toList)) = n := by
    cases n
    · rfl
    · have hne : s.data.toList ≠ [] := fun h0 => absurd (h.2.1 h0) (by decide)
      rw [Bool.true_and, decide_eq_true (bval_pos h.2.2 hne)]
  rw [h1]
theorem enc_zero : enc 0 = .agg #[.bool false, .string ⟨#[]⟩] := by
  unfold enc
  rw [Int.natAbs_zero, bys_zero]
  rfl
theorem enc_one : enc 1 = .agg #[.bool false, .string ⟨#[1]⟩] := by
  unfold enc
  rw [show (1 : Int).natAbs = 1 from rfl, bys_pos (by decide), show 1 / 256 = 0 from rfl, bys_zero]
  rfl
theorem may_none {n : Bool} {s : ByteArray} (hm : MayL n s.data.toList) (h : s.size = 0) : n = false ∧ s = ⟨#[]⟩ := by
  have hl : s.data.toList.length = s.size := Array.length_toList
  have h1 := List.eq_nil_of_length_eq_zero (show s.data.toList.length = 0 by omega)
  exact ⟨hm.2.1 h1, str_empty h1⟩
/-- the form of a number that is not nought -/
theorem form_pos {z : Int} {s : Bool} {b : ByteArray} (hn : num (s, b) = z) (hz : z ≠ 0) : 0 < b.size := by
  rcases Nat.eq_zero_or_pos b.size with h | h
  · exfalso
    have hl : b.data.toList.length = b.size := Array.length_toList
    obtain rfl := str_empty (s := b) (List.eq_nil_of_length_eq_zero (by omega))
    apply hz
    rw [← hn]
    cases s <;> rfl
  · exact h
theorem form_sign {z : Int} {s : Bool} {b : ByteArray} (hn : num (s, b) = z) (hm : MayL s b.data.toList) (hz : 0 ≤ z) : s = false := by
  cases s
  · rfl
  · exfalso
    have hne : b.data.toList ≠ [] := fun h0 => absurd (hm.2.1 h0) (by decide)
    have h1 : 0 < bval b.data.toList := bval_pos hm.2.2 hne
    have h2 : num (true, b) = -(bval b.data.toList : Int) := rfl
    rw [h2] at hn
    omega
theorem gcdl_two (x y : Int) : gcdl [x, y] = Nat.gcd x.natAbs y.natAbs := by
  unfold gcdl
  rw [List.foldl_cons, List.foldl_cons, List.foldl_nil, Nat.gcd_zero_left]
theorem gcdl_swap (x y : Int) : gcdl [y, x] = gcdl [x, y] := by rw [gcdl_two, gcdl_two, Nat.gcd_comm]
theorem gcdl_minus (x y : Int) : gcdl [-y, x] = gcdl [x, y] := by rw [gcdl_two, gcdl_two, Int.natAbs_neg, Nat.gcd_comm]
theorem gcdl_none {x y : Int} (h : (gcdl [x, y] : Int) = 0) : x = 0 ∧ y = 0 := by
  rw [gcdl_two] at h
  have h1 : Nat.gcd x.natAbs y.natAbs = 0 := by omega
  have h2 := Nat.gcd_eq_zero_iff.1 h1
  omega
theorem gcdl_sb {x y : Int} {k : Nat} (hx : SB k x) (hy : SB k y) : SB k (gcdl [x, y] : Int) := by
  unfold SB
  rw [Int.natAbs_natCast, gcdl_two]
  rcases Nat.eq_zero_or_pos x.natAbs with h | h
  · rw [h, Nat.gcd_zero_left]; exact hy
  · exact Nat.lt_of_le_of_lt (Nat.gcd_le_left _ h) hx
theorem gcd_div_left {x y : Int} : x % (gcdl [x, y] : Int) = 0 := by
  rw [gcdl_two]
  exact Int.emod_eq_zero_of_dvd (Int.ofNat_dvd_left.2 (Nat.gcd_dvd_left _ _))
theorem gcd_div_right {x y : Int} : y % (gcdl [x, y] : Int) = 0 := by
  rw [gcdl_two]
  exact Int.emod_eq_zero_of_dvd (Int.ofNat_dvd_left.2 (Nat.gcd_dvd_right _ _))
theorem gcd_one {x y : Int} (h : (gcdl [x, y] : Int) ≠ 0) : gcdl [x / (gcdl [x, y] : Int), y / (gcdl [x, y] : Int)] = 1 := by
  rw [gcdl_two] at *
  have h0 : 0 < Nat.gcd x.natAbs y.natAbs := by omega
  rw [gcdl_two, Int.natAbs_ediv_of_dvd (Int.ofNat_dvd_left.2 (Nat.gcd_dvd_left _ _)), Int.natAbs_ediv_of_dvd (Int.ofNat_dvd_left.2 (Nat.gcd_dvd_right _ _)), Int.natAbs_natCast]
  exact Nat.coprime_div_gcd_div_gcd h0
end Go.Proofs.Ytpnginnjbdedbaa

/- whole's operations, their answers' forms known. -/
namespace Go.Proofs.Ytpnginnjbdedbaa
open Go.RowKit
open Wh
set_option linter.unusedSimpArgs false

section
variable {w : World} {na nb : Bool} {sa sb : ByteArray} {z : Int} {s : Bool} {b : ByteArray}
/-- a number and no error -/
def T2 (w : World) (s : Bool) (b : ByteArray) (e : Ending) (w' : World) : Prop := e = .returned (.tuple #[.agg #[.bool s, .string b], .int .i64 0]) ∧ Below w.heap.size w w'
theorem ans_told {ok : Prop} {z' : Int} {e : Ending} {w' : World} (h : Ans w ok z' e w') (hok : ok) (hz : z' = z) (hf : fits z) (he : enc z = .agg #[.bool s, .string b]) : T2 w s b e w' := by
  subst hz
  exact ⟨by rw [h.1 hok hf, he], h.2.2.2⟩
theorem add_told (hm : May2 (na, sa) (nb, sb)) (hz : num (na, sa) + num (nb, sb) = z) (hf : fits z) (he : enc z = .agg #[.bool s, .string b]) : Calls Try.prog 27 #[.agg #[.bool na, .string sa], .agg #[.bool nb, .string sb]] w (T2 w s b) :=
  wadd_any.mono fun _ _ h => ans_told h hm hz hf he
theorem sub_told (hm : May2 (na, sa) (nb, sb)) (hz : num (na, sa) - num (nb, sb) = z) (hf : fits z) (he : enc z = .agg #[.bool s, .string b]) : Calls Try.prog 28 #[.agg #[.bool na, .string sa], .agg #[.bool nb, .string sb]] w (T2 w s b) :=
  wsub_any.mono fun _ _ h => ans_told h hm hz hf he
theorem mul_told (hm : May2 (na, sa) (nb, sb)) (hz : num (na, sa) * num (nb, sb) = z) (hf : fits z) (he : enc z = .agg #[.bool s, .string b]) : Calls Try.prog 29 #[.agg #[.bool na, .string sa], .agg #[.bool nb, .string sb]] w (T2 w s b) :=
  wmul_any.mono fun _ _ h => ans_told h hm hz hf he
theorem neg_told (hm : MayL na sa.data.toList) (hz : -num (na, sa) = z) (hf : fits z) (he : enc z = .agg #[.bool s, .string b]) : Calls Try.prog 37 #[.agg #[.bool na, .string sa]] w (T2 w s b) :=
  wneg_any.mono fun _ _ h => ans_told h hm hz hf he
theorem abs_told (hm : MayL na sa.data.toList) (hz : ((num (na, sa)).natAbs : Int) = z) (hf : fits z) (he : enc z = .agg #[.bool s, .string b]) : Calls Try.prog 38 #[.agg #[.bool na, .string sa]] w (T2 w s b) :=
  wabs_any.mono fun _ _ h => ans_told h hm hz hf he
/-- the greatest divisor of two that were laid side by side -/
theorem gcd_told (hm : May2 (na, sa) (nb, sb)) (hz : (gcdl [num (na, sa), num (nb, sb)] : Int) = z) (hf : fits z) (he : enc z = .agg #[.bool s, .string b]) :
    Calls Try.prog 15 #[.slice (some ⟨w.heap.size, 0, none⟩) 2 2] (w.alloc (.cells #[.bool na, .string sa, .bool nb, .string sb] 26)) (T2 (w.alloc (.cells #[.bool na, .string sa, .bool nb, .string sb] 26)) s b) :=
  (wgcd_any (c := 2) (blk_pair (w := w) (na, sa) (nb, sb)) (by simp) rfl (by simp)).mono fun _ _ h => ans_told h (may2_all.2 hm) hz hf he
theorem cmp_told (hm : May2 (na, sa) (nb, sb)) : Calls Try.prog 26 #[.agg #[.bool na, .string sa], .agg #[.bool nb, .string sb]] w (fun e w' => e = .returned (.tuple #[.int .i64 (cmpI (num (na, sa)) (num (nb, sb))), .int .i64 0]) ∧ Below w.heap.size w w') :=
  wcmp_any.mono fun _ _ h => ⟨h.1 hm, h.2.2⟩
theorem sign_told (hm : MayL na sa.data.toList) : Calls Try.prog 44 #[.agg #[.bool na, .string sa]] w (fun e w' => e = .returned (.int .i64 (sg (num (na, sa)))) ∧ Below w.heap.size w w') :=
  wsign_any.mono fun _ _ h => ⟨h.1 hm, h.2.2⟩
/-- two numbers and no error -/
def T3 (w : World) (s : Bool) (b : ByteArray) (s' : Bool) (b' : ByteArray) (e : Ending) (w' : World) : Prop := e = .returned (.tuple #[.agg #[.bool s, .string b], .agg #[.bool s', .string b'], .int .i64 0]) ∧ Below w.heap.size w w'
theorem div_told {q r : Int} {s' : Bool} {b' : ByteArray} (hm : May2 (na, sa) (nb, sb)) (h0 : num (nb, sb) ≠ 0) (hq : num (na, sa) / num (nb, sb) = q) (hr : num (na, sa) % num (nb, sb) = r) (he : enc q = .agg #[.bool s, .string b]) (he' : enc r = .agg #[.bool s', .string b']) :
    Calls Try.prog 21 #[.agg #[.bool na, .string sa], .agg #[.bool nb, .string sb]] w (T3 w s b s' b') :=
  wdiv_any.mono fun e w' h => by
    have h1 := h.2.2.1 hm h0
    rw [hq, hr, he, he'] at h1
    exact ⟨h1, h.2.2.2⟩
theorem ok_told {n : Nat} (hn : n ≤ 100) : Calls Try.prog 52 #[.slice (some ⟨w.heap.size, 0, none⟩) n n] (w.alloc (.cells (List.replicate n (.int .i64 0)).toArray 27)) (fun e w' => e = .returned (.bool true) ∧ (w.alloc (.cells (List.replicate n (.int .i64 0)).toArray 27)) = w') := by
  refine ok_any (B := w.heap.size + 1) ⟨by simp, fun _ => ⟨_, rfl, Nat.lt_succ_self _, fun j u hu => ?_⟩⟩ hn
  rw [Addr.add_lit, Nat.zero_add, (Blk.new w 27 _).cell j, ← hu]
  rw [List.getElem?_toArray]
end
theorem sg_nonneg {z : Int} (h : 0 ≤ z) : 0 ≤ sg z ∧ sg z ≤ 1 := by
  unfold sg
  by_cases h0 : z = 0
  · simp [h0]
  · rw [if_neg h0, if_neg (by omega)]; omega
theorem cmp_lt {x y : Int} (h : x < y) : cmpI x y = -1 := by unfold cmpI; rw [if_pos h]
theorem cmp_le {x y : Int} (h : x ≤ y) : -1 ≤ cmpI x y ∧ cmpI x y ≤ 0 := by
  unfold cmpI
  by_cases h1 : x < y
  · rw [if_pos h1]; omega
  · rw [if_neg h1, if_neg (by omega)]; omega
theorem root_ex : ∀ m : Nat, ∃ r : Nat, r * r ≤ m ∧ m < (r + 1) * (r + 1)
  | 0 => ⟨0, by decide, by decide⟩
  | m + 1 => by
    obtain ⟨r, h1, h2⟩ := root_ex m
    by_cases h : m + 1 < (r + 1) * (r + 1)
    · exact ⟨r, by omega, h⟩
    · refine ⟨r + 1, by omega, ?_⟩
      have : (r + 1 + 1) * (r + 1 + 1) = (r + 1) * (r + 1) + (r + 1) + (r + 1) + 1 := by
        rw [Nat.add_mul (r + 1) 1, Nat.mul_add]
        omega
      omega
theorem root_only {m r s : Nat} (h1 : r * r ≤ m) (h2 : m < (r + 1) * (r + 1)) (h3 : s * s ≤ m) (h4 : m < (s + 1) * (s + 1)) : r = s := by
  rcases Nat.lt_trichotomy r s with h | h | h
  · have := Nat.mul_le_mul h h
    simp only [Nat.succ_eq_add_one] at this
    omega
  · exact h
  · have := Nat.mul_le_mul h h
    simp only [Nat.succ_eq_add_one] at this
    omega
theorem root_told {w : World} {sa : ByteArray} {r : Nat} {s s' : Bool} {b b' : ByteArray} (hm : MayL false sa.data.toList) (h1 : r * r ≤ bval sa.data.toList) (h2 : bval sa.data.toList < (r + 1) * (r + 1)) (he : enc (r : Int) = .agg #[.bool s, .string b]) (he' : enc (num (false, sa) - (r : Int) * (r : Int)) = .agg #[.bool s', .string b']) :
    Calls Try.prog 53 #[.agg #[.bool false, .string sa]] w (T3 w s b s' b') :=
  wroot_any.mono fun e w' h => by
    obtain ⟨q, h3, h4, h5⟩ := h.2.2.1 hm rfl
    obtain rfl := root_only h1 h2 h3 h4
    refine ⟨?_, h.2.2.2⟩
    rw [h5, he]
    have : ((bval sa.data.toList : Nat) : Int) - (r : Int) * (r : Int) = num (false, sa) - (r : Int) * (r : Int) := rfl
    rw [this, he']
theorem root_rest {r m : Nat} (h1 : r * r ≤ m) (h2 : m < (r + 1) * (r + 1)) : 0 ≤ (m : Int) - (r : Int) * (r : Int) ∧ (m : Int) - (r : Int) * (r : Int) ≤ (r : Int) + (r : Int) := by
  rw [show (r : Int) * (r : Int) = ((r * r : Nat) : Int) from (Int.natCast_mul r r).symm]
  have : (r + 1) * (r + 1) = r * r + r + r + 1 := by rw [Nat.add_mul, Nat.mul_add]; omega
  rw [this] at h2
  generalize r * r = q at *
  omega
theorem root_small {r m : Nat} (h1 : r * r ≤ m) : r ≤ m := Nat.le_trans (Nat.le_mul_self r) h1
theorem root_sizes {sa : ByteArray} {r k : Nat} (h1 : r * r ≤ bval sa.data.toList) (hs : SB k (num (false, sa))) : SB k (r : Int) ∧ SB k ((r : Int) * (r : Int)) ∧ SB k (num (false, sa) - (r : Int) * (r : Int)) := by
  have he : num (false, sa) = ((bval sa.data.toList : Nat) : Int) := rfl
  have h2 := root_small h1
  rw [show (r : Int) * (r : Int) = ((r * r : Nat) : Int) from (Int.natCast_mul r r).symm]
  rw [he] at hs ⊢
  refine ⟨hs.le ?_, hs.le ?_, hs.le ?_⟩ <;> omega
/-- nothing, by its length -/
theorem str_none {s : ByteArray} (h : s.size = 0) : s.toList.isEmpty = true ∧ s.toList = [] := by
  have hl : s.data.toList.length = s.size := Array.length_toList
  rw [toL]
  have : s.data.toList = [] := List.eq_nil_of_length_eq_zero (by omega)
  rw [this]
  exact ⟨rfl, rfl⟩
end Go.Proofs.Ytpnginnjbdedbaa

/- law.many: a byte, n times. -/
namespace Go.Proofs.Ytpnginnjbdedbaa
open Go.RowKit
open Wh
set_option linter.unusedSimpArgs false
set_option linter.unusedVariables false

set_option maxRecDepth 100000 in
set_option maxHeartbeats 2000000 in
theorem many_any {w : World} {s : ByteArray} {b : UInt8} {n : Nat} (hs : s = ⟨#[b]⟩) (hn : n ≤ 100000) :
    Calls Try.prog 60 #[.string s, .int .i64 (n : Int)] w (fun e w' => e = .returned (.string ⟨(List.replicate n b).toArray⟩) ∧ Below w.heap.size w w') := by
  have hmk : ∀ w : World, (Instr.makeSlice 107 (.int .i64 (n : Int)) (.int .i64 (n : Int))).run Try.prog w = .ok (.slice (some ⟨w.heap.size, 0, none⟩) n n) (w.alloc (.cells (bcells (List.replicate n 0)) 5)) := run_makeB n (by omega)
  have hlen : s.size = 1 := by rw [hs]; rfl
  have hidx : s.get! 0 = b := by rw [hs]; rfl
  have hidx2 : s[0]? = some b := by rw [hs]; rfl
  have Hs := Lib.hid (And.intro hs hlen)
  have hlen' : (s.size : Int) = 1 := by rw [hlen]; rfl
  clear hs
  go_enter Try.func60, Try.ntmps60
  go_wp2_with fail
  go_loopg [6] n (fun k iv wr => ∃ (i : Nat), iv = .int .i64 (i : Int) ∧ k = n - i ∧ i ≤ n ∧ Blk wr w.heap.size 5 (bcells (List.replicate i b ++ List.replicate (n - i) 0)) ∧ Below w.heap.size w wr)
  case atStart => exact ⟨0, rfl, by omega, by omega, Blk.new _ _ _, (Below.refl _ _).alloc (Nat.le_refl _) _⟩
  case round =>
    obtain ⟨i, rfl, hk, hi, hblk, hbel⟩ := hrel
    have Hk := Lib.hid hk
    clear hk
    by_cases hin : i < n
    · have hii : (i : Int) < (n : Int) := by omega
      have hl : (List.replicate i b ++ List.replicate (n - i) (0 : UInt8)).length = n := by simp; omega
      have hout : wr.cell? ⟨w.heap.size, i, none⟩ = some (.int .u8 (((List.replicate i b ++ List.replicate (n - i) (0 : UInt8))[i]'(by omega)).toNat : Int)) := by rw [hblk.cell, bcells_get, List.getElem?_eq_getElem (by omega)]; rfl
      have hfz := hblk.frozen i
      generalize ((List.replicate i b ++ List.replicate (n - i) (0 : UInt8))[i]'(by omega)).toNat = y0 at hout
      have Hblk := Lib.hid hblk
      clear hblk hl
      go_wp2_with fail
      have hsb : ∀ (h : 0 < s.size), s[0] = b := fun h => by have := Hs.out.1; subst this; rfl
      rw [hsb]
      have hnew : Blk (wr.setCell ⟨w.heap.size, i, none⟩ (.int .u8 (b.toNat : Int))) w.heap.size 5 (bcells (List.replicate (i + 1) b ++ List.replicate (n - (i + 1)) 0)) := by
        have := Hblk.out.set_ i (.int .u8 (b.toNat : Int))
        rw [bcells_set] at this
        have e : (List.replicate i b ++ List.replicate (n - i) (0 : UInt8)).set i b = List.replicate (i + 1) b ++ List.replicate (n - (i + 1)) 0 := by
          rw [List.set_append_right (h := by simp), List.length_replicate, Nat.sub_self, show n - i = (n - (i + 1)) + 1 by omega, List.replicate_succ, List.set_cons_zero, List.replicate_succ', List.append_assoc]
          rfl
        rw [e] at this
        exact this
      go_roundg (n - (i + 1))
      case measure => have := Hk.out; omega
      case rel => exact ⟨i + 1, rfl, rfl, by omega, hnew, hbel.setCell (Nat.le_refl _) _⟩
    · have hi' : i = n := by omega
      subst hi'
      rw [Nat.sub_self, List.replicate_zero, List.append_nil] at hblk
      have hstr := run_str (w := wr) (c := i) (A := some ⟨w.heap.size, 0, none⟩) (B := wr.heap.size) (n := i) (l := List.replicate i b) (by simp) (readsb_blk hblk hblk.lt)
      have hii : (i : Int) ≤ (i : Int) := by omega
      clear hblk
      go_wp2_with fail
      go_ret
      exact ⟨rfl, hbel⟩
end Go.Proofs.Ytpnginnjbdedbaa

/- Decimal texts read: plain, no Go in sight. -/
namespace Go.Proofs.Ytpnginnjbdedbaa
namespace Wh

/-- what digits say -/
def dv (l : List UInt8) : Nat := l.foldl (fun a b => 10 * a + (b.toNat - 48)) 0
def IsDig (b : UInt8) : Prop := 48 ≤ b.toNat ∧ b.toNat ≤ 57
def AllDig (l : List UInt8) : Prop := ∀ b ∈ l, IsDig b
theorem dv_nil : dv [] = 0 := rfl
theorem dv_snoc (l : List UInt8) (b : UInt8) : dv (l ++ [b]) = 10 * dv l + (b.toNat - 48) := by
  unfold dv; rw [List.foldl_append]; rfl
theorem dv_app (l : List UInt8) : ∀ (k : Nat) (m : List UInt8), m.length = k → dv (l ++ m) = dv l * 10 ^ k + dv m
  | 0, m, h => by
    obtain rfl := List.eq_nil_of_length_eq_zero h
    rw [List.append_nil, Nat.pow_zero, Nat.mul_one, dv_nil, Nat.add_zero]
  | k + 1, m, h => by
    have hne : m ≠ [] := by intro h0; rw [h0] at h; simp at h
    obtain ⟨m', b, rfl⟩ : ∃ m' b, m = m' ++ [b] := ⟨m.dropLast, m.getLast hne, (List.dropLast_concat_getLast hne).symm⟩
    rw [List.length_append] at h
    simp only [List.length_cons, List.length_nil] at h
    rw [← List.append_assoc, dv_snoc, dv_app l k m' (by omega), dv_snoc, Nat.pow_succ]
    rw [show dv l * (10 ^ k * 10) = 10 * (dv l * 10 ^ k) by ac_rfl]
    omega
theorem allDig_app {l m : List UInt8} : AllDig (l ++ m) ↔ AllDig l ∧ AllDig m :=
  ⟨fun h => ⟨fun b hb => h b (List.mem_append_left _ hb), fun b hb => h b (List.mem_append_right _ hb)⟩, fun h b hb => (List.mem_append.1 hb).elim (h.1 b) (h.2 b)⟩
theorem dv_lt : ∀ (k : Nat) (l : List UInt8), l.length = k → AllDig l → dv l < 10 ^ k
  | 0, l, h, _ => by
    obtain rfl := List.eq_nil_of_length_eq_zero h
    exact Nat.one_pos
  | k + 1, m, h, hd => by
    have hne : m ≠ [] := by intro h0; rw [h0] at h; simp at h
    obtain ⟨m', b, rfl⟩ : ∃ m' b, m = m' ++ [b] := ⟨m.dropLast, m.getLast hne, (List.dropLast_concat_getLast hne).symm⟩
    rw [List.length_append] at h
    simp only [List.length_cons, List.length_nil] at h
    have h1 := dv_lt k m' (by omega) (allDig_app.1 hd).1
    have h2 := hd b (by simp)
    unfold IsDig at h2
    rw [dv_snoc, Nat.pow_succ]
    omega
theorem allDig_cons {b : UInt8} {l : List UInt8} : AllDig (b :: l) ↔ IsDig b ∧ AllDig l :=
  ⟨fun h => ⟨h b List.mem_cons_self, fun x hx => h x (List.mem_cons_of_mem _ hx)⟩, fun h x hx => by
    rcases List.mem_cons.1 hx with rfl | hx
    · exact h.1
    · exact h.2 x hx⟩
/-- one step over the digits of a chunk -/
theorem dv_take {l : List UInt8} {i : Nat} (h : i < l.length) : dv (l.take (i + 1)) = 10 * dv (l.take i) + (l[i].toNat - 48) := by
  rw [List.take_succ_eq_append_getElem h, dv_snoc]
theorem allDig_take {l : List UInt8} {i : Nat} (h : i < l.length) (h1 : AllDig (l.take i)) (h2 : IsDig l[i]) : AllDig (l.take (i + 1)) := by
  rw [List.take_succ_eq_append_getElem h]
  exact allDig_app.2 ⟨h1, allDig_cons.2 ⟨h2, fun b hb => by cases hb⟩⟩
/-- one word of a number times a power of ten, and more -/
theorem mul_step {o a add x by_ add0 P : Nat} (h : o + P * add = a * by_ + add0) : o + P * ((add + x * by_) % 4294967296) + P * 4294967296 * ((add + x * by_) / 4294967296) = (a + P * x) * by_ + add0 := by
  have h1 := Nat.mod_add_div (add + x * by_) 4294967296
  have h2 : P * ((add + x * by_) % 4294967296) + P * 4294967296 * ((add + x * by_) / 4294967296) = P * add + P * x * by_ := by
    rw [Nat.mul_assoc P, ← Nat.mul_add, h1, Nat.mul_add, Nat.mul_assoc]
  rw [Nat.add_mul]
  omega
theorem mul_bounds {add x by_ : Nat} (h1 : add ≤ 999999999) (h2 : x < 4294967296) (h3 : by_ ≤ 1000000000) : add + x * by_ ≤ 4294967295999999999 ∧ (add + x * by_) / 4294967296 ≤ 999999999 := by
  have h4 : x * by_ ≤ 4294967295 * 1000000000 := Nat.mul_le_mul (by omega) h3
  omega
theorem ten_le {n : Nat} (h : n ≤ 9) : 10 ^ n ≤ 1000000000 := Nat.le_trans (Nat.pow_le_pow_right (by decide) h) (by decide)
end Wh
end Go.Proofs.Ytpnginnjbdedbaa

/- *big.Int: SetString (printed by gen_setstr.py). -/
namespace Go.Proofs.Ytpnginnjbdedbaa
open Go.RowKit
open Wh
set_option linter.unusedSimpArgs false
set_option linter.unusedVariables false

theorem OwnW.set_ {w : World} {B n c i : Nat} {A : Option Addr} {l : List Nat} (h : OwnW w B (.slice A n c) l) (hi : i < l.length) :
    ∃ g, A = some ⟨g, 0, none⟩ ∧ B ≤ g ∧ g < w.heap.size ∧ w.cell? ⟨g, i, none⟩ = some (.int .u32 ((l[i] : Nat) : Int)) ∧ w.frozen? ⟨g, i, none⟩ = false ∧ ∀ y : Nat, OwnW (w.setCell ⟨g, i, none⟩ (.int .u32 (y : Int))) B (.slice A n c) (l.set i y) := by
  rcases h.2 with ⟨_, h0⟩ | ⟨g, cap, cur, hv, hb, hh, hc, hm, hs, ht⟩
  · omega
  · injection hv with e1 e2 e3
    subst e1 e2 e3
    have hk : Blk w g 98 cur := hh
    rw [Nat.mul_one] at ht
    have hcur : cur.toList[i]? = some (wv l[i]) := by
      have h1 : (cur.toList.take l.length)[i]? = (l.map wv)[i]? := by rw [ht]
      rwa [List.getElem?_take, if_pos hi, List.getElem?_map, List.getElem?_eq_getElem hi] at h1
    refine ⟨g, rfl, hb, hk.lt, ?_, hk.frozen i, fun y => ⟨by rw [List.length_map, List.length_set, Nat.mul_one], .inr ⟨g, c, cur.setIfInBounds i (wv y), by rw [List.length_set], hb, ?_, ?_, hm, ?_, ?_⟩⟩⟩
    · rw [hk.cell i, ← Array.getElem?_toList, hcur]; rfl
    · exact hk.set_ i (wv y)
    · rw [List.length_set]; exact hc
    · rw [Array.size_setIfInBounds]; exact hs
    · rw [Nat.mul_one, List.length_set, Array.toList_setIfInBounds, List.take_set, ht, List.map_set]
theorem OwnW.kept' {w w' : World} {B : Nat} {v : Value} {l : List Nat} (h : OwnW w B v l) (hb : Below w.heap.size w w') : OwnW w' B v l := by
  refine ⟨h.1, ?_⟩
  rcases h.2 with h1 | ⟨g, cap, cur, hv, hg, hh, hr⟩
  · exact .inl h1
  · exact .inr ⟨g, cap, cur, hv, hg, (hb.block g (Array.getElem?_eq_some_iff.1 hh).1).trans hh, hr⟩
theorem grown_of {w wr w' : World} {g : Nat} (h : Below w.heap.size w wr) (hg : wr.grownBy w' (some g)) : w.grownBy w' (some g) := by
  refine ⟨hg.os.trans h.os, hg.tape.trans h.tape, hg.output.trans h.output, Nat.le_trans h.size hg.size, fun i hi hne => ?_⟩
  exact (hg.block i (Nat.lt_of_lt_of_le hi h.size) hne).trans (h.block i hi)
theorem grown_below {w w' : World} {g : Nat} (h : Below w.heap.size w w') : w.grownBy w' (some g) := ⟨h.os, h.tape, h.output, h.size, fun i hi _ => h.block i hi⟩
/-- what digits are made -/
def StrSet (w : World) (g : Nat) (neg : Bool) (t : List UInt8) (e : Ending) (w' : World) : Prop :=
  ∃ p b, e = .returned (.tuple #[.pointer p, .bool b]) ∧ w.grownBy w' (some g) ∧ (AllDig t → p = some ⟨g, 0, none⟩ ∧ b = true ∧ IntB w' g (sgn neg (dv t)))
theorem drop_bytes (t : ByteArray) (k : Nat) (hk : k ≤ t.size) : (t.extract k t.size).data.toList = t.data.toList.drop k ∧ (t.extract k t.size).size = t.size - k := by
  refine ⟨?_, by rw [ByteArray.size_extract]; omega⟩
  rw [ByteArray.data_extract, Array.toList_extract, List.extract_eq_take_drop]
  rw [List.take_of_length_le]
  rw [List.length_drop, show t.data.toList.length = t.size from Array.length_toList]
  exact Nat.le_refl _
theorem take_bytes (t : ByteArray) (k : Nat) (hk : k ≤ t.size) : (t.extract 0 k).data.toList = t.data.toList.take k ∧ (t.extract 0 k).size = k := by
  refine ⟨?_, by rw [ByteArray.size_extract]; omega⟩
  rw [ByteArray.data_extract, Array.toList_extract, List.extract_eq_take_drop, List.drop_zero]
  rfl
set_option maxRecDepth 100000 in
set_option maxHeartbeats 2000000 in
theorem setstr_core {w : World} {g : Nat} {s : ByteArray} {neg : Bool} {v u3 u4 u5 u6 u7 u9 u10 u11 u12 u13 u14 u15 u16 u17 u18 u19 u20 u21 u22 u23 u24 u25 u26 u27 u28 u29 u30 u31 u32 u33 u34 u35 u36 u37 u38 u39 u40 u41 u42 u43 u44 u45 u46 u47 u48 u49 u50 u51 u52 u53 u54 u55 u56 u57 u58 u59 u60 u61 u62 u63 u64 u65 u66 u67 u68 u69 u70 u71 u72 u73 u74 u75 u76 u77 u78 u79 u80 u81 u82 u83 u84 u85 u86 u87 u88 u89 u90 u91 u92 u93 u94 u95 u96 u97 u98 u99 u100 u101 u102 : Value} {Q : Ending → World → Prop} (hz : IntS w g) (hl : s.size ≤ 100000000) (hQ0 : ∀ e w', StrSet w g neg s.data.toList e w' → Q e w') :
    (codeRest 4 (bodyOf Try.f85)).wp Try.prog (bodyPost Try.prog Try.f85 Q) ⟨#[.pointer (some ⟨g, 0, none⟩), .string s, v, u3, u4, u5, u6, u7, .bool neg, u9, u10, u11, u12, u13, u14, u15, u16, u17, u18, u19, u20, u21, u22, u23, u24, u25, u26, u27, u28, u29, u30, u31, u32, u33, u34, u35, u36, u37, u38, u39, u40, u41, u42, u43, u44, u45, u46, u47, u48, u49, u50, u51, u52, u53, u54, u55, u56, u57, u58, u59, u60, u61, u62, u63, u64, u65, u66, u67, u68, u69, u70, u71, u72, u73, u74, u75, u76, u77, u78, u79, u80, u81, u82, u83, u84, u85, u86, u87, u88, u89, u90, u91, u92, u93, u94, u95, u96, u97, u98, u99, u100, u101, u102], []⟩ w := by
  conv => enter [2]; dsimp only [codeRest, bodyOf, Try.f85, Option.getD_some]
  obtain ⟨l, hle⟩ : ∃ l, l = s.data.toList := ⟨_, rfl⟩
  have hll : l.length = s.size := by rw [hle]; exact Array.length_toList
  rw [← hle] at hQ0
  have hQ := Lib.hid hQ0
  clear hQ0
  have kc := fun (W : World) (s : ByteArray) => Lib.run_convert_string_bytes (P := Try.prog) W 9 107 5 s Try.underlying9 Try.underlying107 Try.underlying5
  have Hl := Lib.hid (And.intro hll hz)
  have Hll := Lib.hid hl
  clear hll hz
  go_wp2_with fail
  go_loopg [1, 9] s.size (fun k sv lv wr => ∃ (T : ByteArray) (A : Option Addr) (n c j tn : Nat) (L : List Nat), sv = .string T ∧ lv = .slice A n c ∧ T.size = tn ∧ tn ≤ 100000000 ∧ Hid (k = tn) ∧ Hid (tn = l.length - j ∧ j ≤ l.length ∧ T.data.toList = l.drop j) ∧ Hid (OwnW wr w.heap.size (.slice A n c) L) ∧ Hid (Below w.heap.size w wr) ∧ n ≤ 100000000 ∧ Hid (AllDig (l.take j) ∧ Wd L ∧ val L = dv (l.take j) ∧ L.length ≤ j))
  case atStart => exact ⟨s, none, 0, 0, 0, s.size, [], rfl, rfl, rfl, hl, Lib.hid rfl, Lib.hid ⟨by rw [Hl.out.1]; rfl, Nat.zero_le _, by rw [List.drop_zero, hle]⟩, Lib.hid (OwnW.nil _ _), Lib.hid (Below.refl _ _), by omega, Lib.hid ⟨fun b hb => (by simp at hb), wd_nil, rfl, Nat.le_refl _⟩⟩
  case round =>
    obtain ⟨T, A, n, c, j, tn, L, rfl, rfl, htn, htl, Hk, HT, Ho, Hb, hnl, HL⟩ := hrel
    have Htn := Lib.hid htn
    clear hle hl
    rcases Nat.eq_zero_or_pos tn with h0 | h0
    case inl =>
      subst h0
      have hj : j = l.length := by have := HT.out; omega
      subst hj
      have hi := is_any neg (Hl.out.2.below Hb.out) Ho.out.reads (Nat.le_refl _) Ho.out.len.1 Ho.out.len.2.1 Ho.out.len.2.2 HL.out.2.1
      rw [HL.out.2.2.1, List.take_length] at hi
      have HI := Lib.hid hi
      clear hi
      go_wp2_with fail
      refine HI.out.mono ?_
      rintro e W' ⟨rfl, hi2, hg2⟩
      go_wp2_with fail
      exact hQ.out _ _ ⟨some ⟨g, 0, none⟩, true, rfl, grown_of Hb.out hg2, fun _ => ⟨rfl, rfl, hi2⟩⟩
    case inr =>
      obtain ⟨N, hN⟩ : ∃ N : Nat, N = if tn < 9 then tn else 9 := ⟨_, rfl⟩
      have hN9 : N ≤ 9 := by rw [hN]; split <;> omega
      have hNt : N ≤ tn := by rw [hN]; split <;> omega
      have hN0 : 0 < N := by rw [hN]; split <;> omega
      have qN : (if (tn : Int) < 9 then (tn : Int) else 9) = (N : Int) := by rw [hN]; split <;> split <;> omega
      obtain ⟨C, hC⟩ : ∃ C, T.extract 0 N = C := ⟨_, rfl⟩
      obtain ⟨T', hT'⟩ : ∃ T', T.extract N tn = T' := ⟨_, rfl⟩
      have hCb := take_bytes T N (by omega)
      have hTb := drop_bytes T N (by omega)
      rw [htn, hT'] at hTb
      rw [hC] at hCb
      obtain ⟨cs, hcs⟩ : ∃ cs, cs = (l.drop j).take N := ⟨_, rfl⟩
      rw [HT.out.2.2, ← hcs] at hCb
      rw [HT.out.2.2, List.drop_drop] at hTb
      have hcl : cs.length = N := by rw [hcs, List.length_take, List.length_drop]; have := HT.out; omega
      have hCs := hCb.2
      have HC := Lib.hid (And.intro hCb.1 (And.intro hTb (And.intro hcs hcl)))
      have Hh := Lib.hid (And.intro hN9 (And.intro hNt hN0))
      clear hCb hTb hcs hcl hN
      go_wp2_with fail
      have Hb1 := Lib.hid (Hb.out.trans ((bytes_below wr C).mono Hb.out.size))
      have Ho1 := Lib.hid (Ho.out.kept' (bytes_below wr C))
      have hrd := bytes_reads wr C
      rw [HC.out.1] at hrd
      have Hrd := Lib.hid hrd
      clear hrd hC Ho Hb kc hCs qN
      generalize Lib.bytesWorld wr 5 C = W1 at *
      go_loopg [11, 12, 48] N (fun k bv av iv wi => ∃ (i P D : Nat), bv = .int .u64 (P : Int) ∧ av = .int .u64 (D : Int) ∧ iv = .int .i64 (i : Int) ∧ Hid (k = N - i) ∧ i ≤ N ∧ P ≤ 1000000000 ∧ D ≤ 999999999 ∧ Hid (P = 10 ^ i ∧ D = dv (cs.take i) ∧ AllDig (cs.take i)) ∧ W1 = wi)
      case atStart => exact ⟨0, 1, 0, rfl, rfl, rfl, Lib.hid rfl, Nat.zero_le _, by omega, by omega, Lib.hid ⟨rfl, rfl, fun b hb => (by simp at hb)⟩, rfl⟩
      case round =>
        obtain ⟨i, P, D, rfl, rfl, rfl, Hki, hiN, hP, hD, HP, rfl⟩ := hrel
        by_cases hin : i < N
        · have hil : i < cs.length := by rw [HC.out.2.2.2]; exact hin
          obtain ⟨ad, e, _, c1⟩ := ReadsB.at_ Hrd.out hil
          injection e with e
          subst e
          rw [Addr.add_lit, Nat.zero_add] at c1
          have hmem : cs[i] ∈ cs := List.getElem_mem hil
          have hsub : ∀ b, b ∈ cs → b ∈ l := fun b hb => by
            rw [HC.out.2.2.1] at hb
            exact List.mem_of_mem_drop (List.mem_of_mem_take hb)
          have hadl : AllDig l → IsDig cs[i] := fun h => h _ (hsub _ hmem)
          have Hd1 := Lib.hid (And.intro (dv_take hil) (And.intro (fun h => allDig_take hil HP.out.2.2 h) hadl))
          clear hmem hadl hsub
          have Hpl := Lib.hid (fun h : IsDig cs[i] => dv_lt (i + 1) (cs.take (i + 1)) (by rw [List.length_take]; omega) (allDig_take hil HP.out.2.2 h))
          have hten := ten_le (n := i + 1) (by omega)
          have Hten := Lib.hid hten
          have hu8 := UInt8.toNat_lt cs[i]
          unfold IsDig at Hd1 Hpl
          generalize cs[i].toNat = y at *
          have hini : (i : Int) < (N : Int) := by omega
          clear hten hil
          by_cases hdg : 48 ≤ y ∧ y ≤ 57
          · have Hdg := Lib.hid hdg
            obtain ⟨g1, g2⟩ := hdg
            have g3 : (48 : Int) ≤ (y : Int) := by omega
            have g4 : (y : Int) ≤ 57 := by omega
            go_wp2_with fail
            go_roundg (N - (i + 1))
            case measure => have := Hki.out; omega
            case rel =>
              refine ⟨i + 1, P * 10, 10 * D + (y - 48), by simp, ?_, rfl, Lib.hid rfl, by omega, ?_, ?_, Lib.hid ⟨by rw [HP.out.1, Nat.pow_succ], by rw [Hd1.out.1, HP.out.2.1], Hd1.out.2.1 Hdg.out⟩, rfl⟩
              · congr 1; omega
              · rw [HP.out.1, ← Nat.pow_succ]; exact Hten.out
              · have h1 := Hpl.out Hdg.out
                rw [Hd1.out.1, ← HP.out.2.1] at h1
                have := Hten.out
                omega
          · have Hdg := Lib.hid hdg
            rcases Nat.lt_or_ge y 48 with g1 | g1
            · have g3 : (y : Int) < 48 := by omega
              clear hdg
              go_wp2_with fail
              exact hQ.out _ _ ⟨none, false, rfl, grown_below Hb1.out, fun h => absurd (Hd1.out.2.2 h) Hdg.out⟩
            · have g3 : (48 : Int) ≤ (y : Int) := by omega
              have g4 : (57 : Int) < (y : Int) := by omega
              clear hdg
              go_wp2_with fail
              exact hQ.out _ _ ⟨none, false, rfl, grown_below Hb1.out, fun h => absurd (Hd1.out.2.2 h) Hdg.out⟩
        · have hiN' : i = N := by omega
          subst hiN'
          have hiq : (i : Int) ≤ (i : Int) := by omega
          have Hdl := Lib.hid (show P = 10 ^ i ∧ D = dv cs ∧ AllDig cs by
            have h1 := HP.out
            rw [List.take_of_length_le (by rw [HC.out.2.2.2]; exact Nat.le_refl _)] at h1
            exact h1)
          have hnL := Ho1.out.len.1
          have HnL := Lib.hid hnL
          clear HP Hrd hin hiN hnL
          go_wp2_with fail
          go_loopg [12, 15, 69] n (fun k av xv iv wi => ∃ (q add : Nat) (L2 : List Nat), av = .int .u64 (add : Int) ∧ iv = .int .i64 (q : Int) ∧ Hid (k = n - q) ∧ q ≤ n ∧ add ≤ 999999999 ∧ Hid (OwnW wi w.heap.size (.slice A n c) L2) ∧ Hid (Below w.heap.size w wi) ∧ Hid (L2.length = L.length ∧ Wd L2 ∧ val (L2.take q) + 4294967296 ^ q * add = val (L.take q) * P + D ∧ ∀ t, q ≤ t → L2[t]? = L[t]?))
          case atStart => exact ⟨0, D, L, rfl, rfl, Lib.hid rfl, Nat.zero_le _, hD, Ho1, Hb1, Lib.hid ⟨rfl, HL.out.2.1, by simp [val_nil], fun t _ => rfl⟩⟩
          case round =>
            obtain ⟨q, add, L2, rfl, rfl, Hkq, hqn, hadd, Ho2, Hb2, HL2⟩ := hrel
            by_cases hqn2 : q < n
            · have hqL : q < L.length := by rw [← HnL.out]; exact hqn2
              have hq2 : q < L2.length := by rw [HL2.out.1]; exact hqL
              obtain ⟨gg, rfl, hgB, hgl, c1, f1, hset⟩ := Ho2.out.set_ hq2
              have hx : L2[q] = L[q] := by
                have := HL2.out.2.2.2 q (Nat.le_refl _)
                rw [List.getElem?_eq_getElem hq2, List.getElem?_eq_getElem hqL] at this
                injection this
              have E1 := Lib.hid (val_take_succ hqL)
              have w1 := wd_get HL.out.2.1 _ hqL
              rw [hx] at c1
              generalize L[q] = x at *
              obtain ⟨hb1', hb2'⟩ := mul_bounds (add := add) (x := x) (by_ := P) hadd w1 hP
              have e1 : ((add : Int) + (x : Int) * (P : Int)) = ((add + x * P : Nat) : Int) := by rw [Int.natCast_add, Int.natCast_mul]
              have hxp : x * P ≤ 4294967295999999999 := by omega
              have e0 : (x : Int) * (P : Int) = ((x * P : Nat) : Int) := (Int.natCast_mul x P).symm
              have e2 : IntKind.u64.wrap ((x : Int) * (P : Int)) = (x : Int) * (P : Int) := by rw [e0]; exact IntWalk.u64_in _ (by omega)
              have e3 : IntKind.u64.wrap ((add : Int) + (x : Int) * (P : Int)) = (((add + x * P : Nat)) : Int) := by rw [e1]; exact IntWalk.u64_in _ (by omega)
              obtain ⟨Z, hZ⟩ : ∃ Z, Z = add + x * P := ⟨_, rfl⟩
              have e4 : (add : Int) + (x : Int) * (P : Int) = (Z : Int) := by rw [hZ]; exact e1
              rw [← hZ] at hb1' hb2' e3
              have HZ := Lib.hid (And.intro hZ hset)
              have Hqq := Lib.hid (And.intro hqL hq2)
              have hqi : (q : Int) < (n : Int) := by omega
              clear e0 e1 hxp hZ hset hx hqL hq2 hqn2
              go_wp2_with fail
              rw [show (Z : Int) / 4294967296 = ((Z / 4294967296 : Nat) : Int) by omega, show (Z : Int) % 4294967296 = ((Z % 4294967296 : Nat) : Int) by omega]
              go_roundg (n - (q + 1))
              case measure => have := Hkq.out; omega
              case rel =>
                refine ⟨q + 1, Z / 4294967296, L2.set q (Z % 4294967296), rfl, rfl, Lib.hid rfl, by omega, hb2', Lib.hid (HZ.out.2 _), Lib.hid (Hb2.out.setCell hgB _), Lib.hid ⟨by rw [List.length_set]; exact HL2.out.1, wd_set HL2.out.2.1 _ _ (Nat.mod_lt _ (by decide)), ?_, fun t ht => ?_⟩⟩
                · rw [val_take_set Hqq.out.2, E1.out, HZ.out.1, Nat.pow_succ]
                  exact mul_step HL2.out.2.2.1
                · rw [List.getElem?_set_ne (by omega)]
                  exact HL2.out.2.2.2 t (by omega)
            · have hqn' : q = n := by omega
              subst hqn'
              have hfin : val L2 + 4294967296 ^ L2.length * add = dv (l.take (j + i)) := by
                have h1 := HL2.out.2.2.1
                rw [List.take_of_length_le (by rw [HL2.out.1, HnL.out]; exact Nat.le_refl _), List.take_of_length_le (by rw [HnL.out]; exact Nat.le_refl _), HL.out.2.2.1, Hdl.out.1, Hdl.out.2.1] at h1
                rw [HL2.out.1, ← HnL.out, h1, ← dv_app _ i cs HC.out.2.2.2, HC.out.2.2.1, ← List.take_add]
              have hdig : AllDig (l.take (j + i)) := by
                rw [List.take_add, ← HC.out.2.2.1]
                exact allDig_app.2 ⟨HL.out.1, Hdl.out.2.2⟩
              have Hfin := Lib.hid (And.intro hfin hdig)
              have HT' : Hid (tn - i = l.length - (j + i) ∧ j + i ≤ l.length ∧ T'.data.toList = l.drop (j + i) ∧ T'.size = tn - i) := by
                refine Lib.hid ⟨?_, ?_, ?_, ?_⟩
                · have := HT.out; omega
                · have := HT.out; omega
                · rw [HC.out.2.1.1]
                · exact HC.out.2.1.2
              clear hfin hdig hqn hqn2
              rcases Nat.eq_zero_or_pos add with ha | ha
              · subst ha
                go_wp2_with fail
                go_roundg (tn - i)
                case measure => have := Hk.out; omega
                case rel => exact ⟨T', A, q, c, j + i, tn - i, L2, rfl, rfl, HT'.out.2.2.2, by omega, Lib.hid rfl, Lib.hid ⟨HT'.out.1, HT'.out.2.1, HT'.out.2.2.1⟩, Ho2, Hb2, hnl, Lib.hid ⟨Hfin.out.2, HL2.out.2.1, by have := Hfin.out.1; rwa [Nat.mul_zero, Nat.add_zero] at this, by have := HL2.out.1; have := HL.out.2.2.2; omega⟩⟩
              · have hai : (0 : Int) < (add : Int) := by omega
                have Ha := Lib.hid ha
                have hL2l : L2.length ≤ 100000000 := by rw [HL2.out.1, ← HnL.out]; exact hnl
                have hgle : w.heap.size ≤ wr.heap.size := Hb2.out.size
                clear ha
                go_wp2_with (at_builtin; refine wpW_push rfl (.tmp 91) (.tmp 94) rfl w.heap.size _ L2 Ho2.out rfl (y := add) rfl rfl (by omega) hgle ?_; intro A3 n3 c3 W3 ho3 hkeep _; have Ho3 := Lib.hid ho3; have Hb3 := Lib.hid (hkeep w Hb2.out); clear ho3 hkeep)
                go_roundg (tn - i)
                case measure => have := Hk.out; omega
                case rel =>
                  refine ⟨T', A3, n3, c3, j + i, tn - i, L2 ++ [add], rfl, rfl, HT'.out.2.2.2, by omega, Lib.hid rfl, Lib.hid ⟨HT'.out.1, HT'.out.2.1, HT'.out.2.2.1⟩, Ho3, Hb3, ?_, Lib.hid ⟨Hfin.out.2, wd_append.2 ⟨HL2.out.2.1, wd_cons.2 ⟨by omega, wd_nil⟩⟩, by rw [val_snoc]; exact Hfin.out.1, ?_⟩⟩
                  · have h1 := Ho3.out.len.1
                    rw [List.length_append] at h1
                    have h2 := HL2.out.1
                    have h3 := HL.out.2.2.2
                    have h4 := HT.out
                    have h5 := Hl.out.1
                    have h6 := Hll.out
                    simp only [List.length_cons, List.length_nil] at h1
                    omega
                  · rw [List.length_append]
                    have h2 := HL2.out.1
                    have h3 := HL.out.2.2.2
                    have h4 := Hh.out.2.2
                    simp only [List.length_cons, List.length_nil]
                    omega
def signOf (l : List UInt8) : Bool := l.head? == some 45
def bodyOfText (l : List UInt8) : List UInt8 := if l.head? = some 45 ∨ l.head? = some 43 then l.tail else l
/-- what a text is made -/
def TextSet (w : World) (g : Nat) (l : List UInt8) (e : Ending) (w' : World) : Prop :=
  ∃ p b, e = .returned (.tuple #[.pointer p, .bool b]) ∧ w.grownBy w' (some g) ∧ (bodyOfText l ≠ [] → AllDig (bodyOfText l) → p = some ⟨g, 0, none⟩ ∧ b = true ∧ IntB w' g (sgn (signOf l) (dv (bodyOfText l))))
theorem head_of {s : ByteArray} (h : 0 < s.size) : s.data.toList.head? = some s[0] := by
  have hl : s.data.toList.length = s.size := Array.length_toList
  rw [List.head?_eq_getElem?, List.getElem?_eq_getElem (by omega)]
  rfl
set_option maxRecDepth 100000 in
set_option maxHeartbeats 1000000 in
theorem setstr_neg {w : World} {g : Nat} {s : ByteArray} {v : Value} (hz : IntS w g) (hl : s.size ≤ 100000000) (h0 : 0 < s.size) (hc : s[0] = 45) :
    Calls Try.prog 85 #[.pointer (some ⟨g, 0, none⟩), .string s, v] w (TextSet w g s.data.toList) := by
  have hb := drop_bytes s 1 (by omega)
  have hd : s[0].toNat = 45 := by rw [hc]; rfl
  have hh := head_of h0
  rw [hc] at hh
  obtain ⟨t, ht⟩ : ∃ t, s.extract 1 s.size = t := ⟨_, rfl⟩
  rw [ht] at hb
  have htl : t.size ≤ 100000000 := by omega
  have HB := Lib.hid (show signOf s.data.toList = true ∧ bodyOfText s.data.toList = t.data.toList by
    unfold signOf bodyOfText
    rw [hh, hb.1, List.drop_one]
    exact ⟨rfl, if_pos (.inl rfl)⟩)
  obtain ⟨q1, q2⟩ := str_facts h0
  clear hb hc hh
  go_enter Try.func85, Try.ntmps85
  go_upto_if 36 with fail
  go_cut [] (fun wx => w = wx)
  case first =>
    by_cases h9 : t.size = 0
    · rw [(str_none h9).1]
      go_wp2_with fail
      refine bodyPost_ret (v := .tuple #[.pointer none, .bool false]) (by simp [results, Try.results85, go_sem]) rfl ?_
      exact ⟨none, false, rfl, grown_below (Below.refl _ _), fun h => absurd (by rw [HB.out.2]; exact List.eq_nil_of_length_eq_zero (by rw [show t.data.toList.length = t.size from Array.length_toList]; exact h9)) h⟩
    · rw [(str_facts (Nat.pos_of_ne_zero h9)).1]
      go_wp2_with fail
      go_meet
      case rel => rfl
  case rest =>
    go_step
    subst hcut
    refine setstr_core (neg := true) (s := t) hz (by omega) ?_
    rintro e w' ⟨p, b, he, hg, hok⟩
    exact ⟨p, b, he, hg, by rw [HB.out.1, HB.out.2]; exact fun _ => hok⟩
set_option maxRecDepth 100000 in
set_option maxHeartbeats 1000000 in
theorem setstr_plus {w : World} {g : Nat} {s : ByteArray} {v : Value} (hz : IntS w g) (hl : s.size ≤ 100000000) (h0 : 0 < s.size) (hc : s[0] = 43) :
    Calls Try.prog 85 #[.pointer (some ⟨g, 0, none⟩), .string s, v] w (TextSet w g s.data.toList) := by
  have hb := drop_bytes s 1 (by omega)
  have hd : s[0].toNat = 43 := by rw [hc]; rfl
  have hh := head_of h0
  rw [hc] at hh
  obtain ⟨t, ht⟩ : ∃ t, s.extract 1 s.size = t := ⟨_, rfl⟩
  rw [ht] at hb
  have htl : t.size ≤ 100000000 := by omega
  have HB := Lib.hid (show signOf s.data.toList = false ∧ bodyOfText s.data.toList = t.data.toList by
    unfold signOf bodyOfText
    rw [hh, hb.1, List.drop_one]
    exact ⟨rfl, if_pos (.inr rfl)⟩)
  obtain ⟨q1, q2⟩ := str_facts h0
  clear hb hc hh
  go_enter Try.func85, Try.ntmps85
  go_upto_if 36 with fail
  go_cut [] (fun wx => w = wx)
  case first =>
    by_cases h9 : t.size = 0
    · rw [(str_none h9).1]
      go_wp2_with fail
      refine bodyPost_ret (v := .tuple #[.pointer none, .bool false]) (by simp [results, Try.results85, go_sem]) rfl ?_
      exact ⟨none, false, rfl, grown_below (Below.refl _ _), fun h => absurd (by rw [HB.out.2]; exact List.eq_nil_of_length_eq_zero (by rw [show t.data.toList.length = t.size from Array.length_toList]; exact h9)) h⟩
    · rw [(str_facts (Nat.pos_of_ne_zero h9)).1]
      go_wp2_with fail
      go_meet
      case rel => rfl
  case rest =>
    go_step
    subst hcut
    refine setstr_core (neg := false) (s := t) hz (by omega) ?_
    rintro e w' ⟨p, b, he, hg, hok⟩
    exact ⟨p, b, he, hg, by rw [HB.out.1, HB.out.2]; exact fun _ => hok⟩
set_option maxRecDepth 100000 in
set_option maxHeartbeats 1000000 in
theorem setstr_bare {w : World} {g : Nat} {s : ByteArray} {v : Value} (hz : IntS w g) (hl : s.size ≤ 100000000) (h0 : 0 < s.size) (hc : s[0] ≠ 45) (hc2 : s[0] ≠ 43) :
    Calls Try.prog 85 #[.pointer (some ⟨g, 0, none⟩), .string s, v] w (TextSet w g s.data.toList) := by
  have hh := head_of h0
  have HB := Lib.hid (show signOf s.data.toList = false ∧ bodyOfText s.data.toList = s.data.toList by
    unfold signOf bodyOfText
    rw [hh]
    refine ⟨beq_eq_false_iff_ne.2 (fun h => hc (by injection h)), if_neg (fun h => ?_)⟩
    rcases h with h | h
    · exact hc (by injection h)
    · exact hc2 (by injection h))
  obtain ⟨q1, q2⟩ := str_facts h0
  have hy1 : s[0].toNat ≠ 45 := fun h => hc (UInt8.toNat_inj.1 h)
  have hy2 : s[0].toNat ≠ 43 := fun h => hc2 (UInt8.toNat_inj.1 h)
  generalize hy : s[0].toNat = y at *
  have z1 : ((y : Int) == 45) = false := beq_eq_false_iff_ne.2 (by omega)
  have z2 : ((y : Int) == 43) = false := beq_eq_false_iff_ne.2 (by omega)
  clear hc hc2 hh
  go_enter Try.func85, Try.ntmps85
  go_upto_if 36 with fail
  go_cut [] (fun wx => w = wx)
  case first =>
    by_cases h9 : s.size = 0
    · exact absurd h9 (by omega)
    · go_wp2_with fail
      go_meet
      case rel => rfl
  case rest =>
    go_step
    subst hcut
    refine setstr_core (neg := false) (s := s) hz (by omega) ?_
    rintro e w' ⟨p, b, he, hg, hok⟩
    exact ⟨p, b, he, hg, by rw [HB.out.1, HB.out.2]; exact fun _ => hok⟩
theorem setstr_none {w : World} {g : Nat} {v : Value} :
    Calls Try.prog 85 #[.pointer (some ⟨g, 0, none⟩), .string ⟨#[]⟩, v] w (TextSet w g [] ) := by
  go_enter Try.func85, Try.ntmps85
  go_wp2_with fail
  refine bodyPost_ret (v := .tuple #[.pointer none, .bool false]) (by simp [results, Try.results85, go_sem]) rfl ?_
  exact ⟨none, false, rfl, grown_below (Below.refl _ _), fun h => absurd rfl h⟩
theorem setstr_any {w : World} {g : Nat} {s : ByteArray} {v : Value} (hz : IntS w g) (hl : s.size ≤ 100000000) :
    Calls Try.prog 85 #[.pointer (some ⟨g, 0, none⟩), .string s, v] w (TextSet w g s.data.toList) := by
  rcases Nat.eq_zero_or_pos s.size with h | h
  · have hl : s.data.toList.length = s.size := Array.length_toList
    obtain rfl := str_empty (List.eq_nil_of_length_eq_zero (show s.data.toList.length = 0 by omega))
    exact setstr_none
  · by_cases h1 : s[0] = 45
    · exact setstr_neg hz hl h h1
    · by_cases h2 : s[0] = 43
      · exact setstr_plus hz hl h h2
      · exact setstr_bare hz hl h h1 h2
end Go.Proofs.Ytpnginnjbdedbaa

/- whole.Shift (printed by gen_shift.py). -/
namespace Go.Proofs.Ytpnginnjbdedbaa
open Go.RowKit
open Wh
set_option linter.unusedSimpArgs false

/-- a number shifted -/
def shf (x n : Int) : Int := if 0 ≤ n then x * 2 ^ n.toNat else x / 2 ^ (-n).toNat
theorem shf_zero (n : Int) : shf 0 n = 0 := by
  unfold shf
  by_cases h : 0 ≤ n
  · rw [if_pos h, Int.zero_mul]
  · rw [if_neg h, Int.zero_ediv]
theorem shr_far {x : Int} {a n : Nat} (h : x.natAbs < 2 ^ a) (hn : a ≤ n) : x / 2 ^ n = if x < 0 then -1 else 0 := by
  have h1 : (2 : Nat) ^ a ≤ 2 ^ n := Nat.pow_le_pow_right (by decide) hn
  have hp := pow2_pos n
  have hc := pow2_cast n
  generalize (2 : Int) ^ n = P at *
  generalize (2 : Nat) ^ n = Q at *
  by_cases h0 : x < 0
  · rw [if_pos h0]
    exact ((Int.ediv_emod_unique (r := x + P) hp).2 ⟨by omega, by omega, by omega⟩).1
  · rw [if_neg h0]
    exact Int.ediv_eq_zero_of_lt (by omega) (by omega)
theorem bl_shl {m n k : Nat} (h : bl m ≤ k) : bl (m * 2 ^ n) ≤ k + n := by
  refine bl_lt.2 ?_
  rw [Nat.pow_add]
  exact Nat.mul_lt_mul_of_pos_right (bl_lt.1 h) (Nat.two_pow_pos n)
theorem bl_shl_ge {m n k : Nat} (h0 : 0 < m) (h : bl (m * 2 ^ n) ≤ k) : n < k := by
  have h1 := bl_lt.1 h
  have h2 : (2 : Nat) ^ n ≤ m * 2 ^ n := Nat.le_mul_of_pos_left _ h0
  exact (Nat.pow_lt_pow_iff_right (by decide)).1 (Nat.lt_of_le_of_lt h2 h1)
theorem shl_abs (x : Int) (n : Nat) : (x * 2 ^ n).natAbs = x.natAbs * 2 ^ n := by rw [Int.natAbs_mul, pow2_abs]
theorem shf_big {x n : Int} {k : Nat} (h0 : x ≠ 0) (hn : (k : Int) < n) : ¬ bl (shf x n).natAbs ≤ k := by
  intro h
  unfold shf at h
  rw [if_pos (by omega), shl_abs] at h
  have := bl_shl_ge (by omega) h
  omega
theorem shf_far {x n : Int} {k a : Nat} (hx : bl x.natAbs ≤ k) (hn : n < -(a : Int)) (ha : k ≤ a) : x / 2 ^ a = shf x n := by
  unfold shf
  rw [if_neg (by omega), shr_far (bl_lt.1 hx) ha, shr_far (bl_lt.1 hx) (show k ≤ (-n).toNat by omega)]
set_option maxRecDepth 100000 in
set_option maxHeartbeats 4000000 in
theorem wshift_bad {w : World} {na : Bool} {sa : ByteArray} {n : Int} (hm : ¬ MayL na sa.data.toList) :
    Calls Try.prog 22 #[.agg #[.bool na, .string sa], .int .i64 n] w (Ans w (MayL na sa.data.toList) (shf (num (na, sa)) n)) := by
  have hb1 := new_below w (.cells #[.bool na, .string sa] 26)
  have hb2 := hb1.alloc (by simp) (.cells #[.bool false, .string ⟨#[]⟩] 26)
  have k1 := (Blk.new w 26 #[.bool na, .string sa]).alloc (.cells #[.bool false, .string ⟨#[]⟩] 26)
  have k2 := Blk.new (w.alloc (.cells #[.bool na, .string sa] 26)) 26 #[.bool false, .string ⟨#[]⟩]
  have hO := of_one (w := (w.alloc (.cells #[.bool na, .string sa] 26)).alloc (.cells #[.bool false, .string ⟨#[]⟩] 26)) (na := na) (sa := sa)
  rw [World.size_alloc, World.size_alloc] at hO
  rw [World.size_alloc] at k2
  have HO := Lib.hid hO
  have Hb := Lib.hid (And.intro hb2 (And.intro k1 k2))
  have Hm := Lib.hid hm
  clear hm
  clear hO hb1 hb2 k1 k2
  go_enter Try.func22, Try.ntmps22
  go_wp2_with fail
  refine HO.out.mono ?_
  rintro e w5 ⟨h1, h2, hb5⟩
  have hb05 := Hb.out.1.trans (hb5.mono (by simp <;> omega))
  have m1 := Hb.out.2.1.below hb5 (by simp <;> omega)
  have m2 := Hb.out.2.2.below hb5 (by simp)
  have c0 : w5.cell? ⟨w.heap.size, 0, none⟩ = some (.bool na) := m1.cell 0
  have c1 : w5.cell? ⟨w.heap.size, 1, none⟩ = some (.string sa) := m1.cell 1
  have d0 : w5.cell? ⟨w.heap.size + 1, 0, none⟩ = some (.bool false) := m2.cell 0
  have d1 : w5.cell? ⟨w.heap.size + 1, 1, none⟩ = some (.string ⟨#[]⟩) := m2.cell 1
  have d2 := m2.frozen 0
  have d3 := m2.frozen 1
  have H5 := Lib.hid (And.intro hb05 m2)
  have Hsz := Lib.hid (show w.heap.size + 1 + 1 ≤ w5.heap.size by have := hb5.size; simp at this; omega)
  clear hb5 hb05 m1 m2
  obtain ⟨A5, n5, c5, rfl⟩ := h2 Hm.out
  clear h1 h2
  go_wp2_with fail
  refine bodyPost_ret (v := .tuple #[.agg #[.bool false, .string ⟨#[]⟩], .int .i64 2]) (by simp [results, Try.results22, go_sem, d0, d1]) rfl ?_
  exact ⟨fun h => absurd h Hm.out, fun h => absurd h Hm.out, fun _ => rfl, ((H5.out.1.setCell (by show w.heap.size ≤ w.heap.size + 1; omega) _).setCell (by show w.heap.size ≤ w.heap.size + 1; omega) _)⟩
set_option maxRecDepth 100000 in
set_option maxHeartbeats 4000000 in
theorem wshift_zero {w : World} {na : Bool} {sa : ByteArray} {n : Int} (hm : MayL na sa.data.toList) (h0 : num (na, sa) = 0) :
    Calls Try.prog 22 #[.agg #[.bool na, .string sa], .int .i64 n] w (Ans w (MayL na sa.data.toList) (shf (num (na, sa)) n)) := by
  have hb1 := new_below w (.cells #[.bool na, .string sa] 26)
  have hb2 := hb1.alloc (by simp) (.cells #[.bool false, .string ⟨#[]⟩] 26)
  have k1 := (Blk.new w 26 #[.bool na, .string sa]).alloc (.cells #[.bool false, .string ⟨#[]⟩] 26)
  have k2 := Blk.new (w.alloc (.cells #[.bool na, .string sa] 26)) 26 #[.bool false, .string ⟨#[]⟩]
  have hO := of_one (w := (w.alloc (.cells #[.bool na, .string sa] 26)).alloc (.cells #[.bool false, .string ⟨#[]⟩] 26)) (na := na) (sa := sa)
  rw [World.size_alloc, World.size_alloc] at hO
  rw [World.size_alloc] at k2
  have HO := Lib.hid hO
  have Hb := Lib.hid (And.intro hb2 (And.intro k1 k2))
  have Hm := Lib.hid (And.intro hm h0)
  clear hm h0
  clear hO hb1 hb2 k1 k2
  go_enter Try.func22, Try.ntmps22
  go_wp2_with fail
  refine HO.out.mono ?_
  rintro e w5 ⟨h1, h2, hb5⟩
  have hb05 := Hb.out.1.trans (hb5.mono (by simp <;> omega))
  have m1 := Hb.out.2.1.below hb5 (by simp <;> omega)
  have m2 := Hb.out.2.2.below hb5 (by simp)
  have c0 : w5.cell? ⟨w.heap.size, 0, none⟩ = some (.bool na) := m1.cell 0
  have c1 : w5.cell? ⟨w.heap.size, 1, none⟩ = some (.string sa) := m1.cell 1
  have d0 : w5.cell? ⟨w.heap.size + 1, 0, none⟩ = some (.bool false) := m2.cell 0
  have d1 : w5.cell? ⟨w.heap.size + 1, 1, none⟩ = some (.string ⟨#[]⟩) := m2.cell 1
  have d2 := m2.frozen 0
  have d3 := m2.frozen 1
  have H5 := Lib.hid (And.intro hb05 m2)
  have Hsz := Lib.hid (show w.heap.size + 1 + 1 ≤ w5.heap.size by have := hb5.size; simp at this; omega)
  clear hb5 hb05 m1 m2
  obtain ⟨ad, c, g1, rfl, hadb, p0, hx, hg1⟩ := h1 Hm.out.1
  clear h1 h2 hx hg1
  have hsz := (num_nil Hm.out.1).1 Hm.out.2
  have hl : sa.data.toList.length = sa.size := Array.length_toList
  dsimp only at hsz
  have he := List.eq_nil_of_length_eq_zero (show sa.data.toList.length = 0 by omega)
  obtain rfl := str_empty he
  obtain rfl := Hm.out.1.2.1 he
  clear hsz hl he
  go_wp2_with fail
  refine bodyPost_ret (v := .tuple #[.agg #[.bool false, .string ⟨#[]⟩], .int .i64 0]) (by simp [results, Try.results22, go_sem, d0, d1]) rfl ?_
  exact ⟨fun _ _ => by rw [num_zero, shf_zero, enc_zero], fun _ h => absurd (show fits (shf (num (false, ⟨#[]⟩)) n) by rw [num_zero, shf_zero]; exact Nat.zero_le _) h, fun h => absurd Hm.out.1 h, ((H5.out.1.setCell (by show w.heap.size ≤ w.heap.size + 1; omega) _).setCell (by show w.heap.size ≤ w.heap.size + 1; omega) _)⟩
set_option maxRecDepth 100000 in
set_option maxHeartbeats 4000000 in
theorem wshift_big {w : World} {na : Bool} {sa : ByteArray} {n : Int} (hm : MayL na sa.data.toList) (h0 : num (na, sa) ≠ 0) (hn : 131072 < n) :
    Calls Try.prog 22 #[.agg #[.bool na, .string sa], .int .i64 n] w (Ans w (MayL na sa.data.toList) (shf (num (na, sa)) n)) := by
  have hb1 := new_below w (.cells #[.bool na, .string sa] 26)
  have hb2 := hb1.alloc (by simp) (.cells #[.bool false, .string ⟨#[]⟩] 26)
  have k1 := (Blk.new w 26 #[.bool na, .string sa]).alloc (.cells #[.bool false, .string ⟨#[]⟩] 26)
  have k2 := Blk.new (w.alloc (.cells #[.bool na, .string sa] 26)) 26 #[.bool false, .string ⟨#[]⟩]
  have hO := of_one (w := (w.alloc (.cells #[.bool na, .string sa] 26)).alloc (.cells #[.bool false, .string ⟨#[]⟩] 26)) (na := na) (sa := sa)
  rw [World.size_alloc, World.size_alloc] at hO
  rw [World.size_alloc] at k2
  have HO := Lib.hid hO
  have Hb := Lib.hid (And.intro hb2 (And.intro k1 k2))
  have Hm := Lib.hid (And.intro hm h0)
  clear hm h0
  clear hO hb1 hb2 k1 k2
  go_enter Try.func22, Try.ntmps22
  go_wp2_with fail
  refine HO.out.mono ?_
  rintro e w5 ⟨h1, h2, hb5⟩
  have hb05 := Hb.out.1.trans (hb5.mono (by simp <;> omega))
  have m1 := Hb.out.2.1.below hb5 (by simp <;> omega)
  have m2 := Hb.out.2.2.below hb5 (by simp)
  have c0 : w5.cell? ⟨w.heap.size, 0, none⟩ = some (.bool na) := m1.cell 0
  have c1 : w5.cell? ⟨w.heap.size, 1, none⟩ = some (.string sa) := m1.cell 1
  have d0 : w5.cell? ⟨w.heap.size + 1, 0, none⟩ = some (.bool false) := m2.cell 0
  have d1 : w5.cell? ⟨w.heap.size + 1, 1, none⟩ = some (.string ⟨#[]⟩) := m2.cell 1
  have d2 := m2.frozen 0
  have d3 := m2.frozen 1
  have H5 := Lib.hid (And.intro hb05 m2)
  have Hsz := Lib.hid (show w.heap.size + 1 + 1 ≤ w5.heap.size by have := hb5.size; simp at this; omega)
  clear hb5 hb05 m1 m2
  obtain ⟨ad, c, g1, rfl, hadb, p0, hx, hg1⟩ := h1 Hm.out.1
  clear h1 h2
  have hl : 0 < sa.size := by
    rcases Nat.eq_zero_or_pos sa.size with h | h
    · exact absurd ((num_nil Hm.out.1).2 h) Hm.out.2
    · exact h
  obtain ⟨q1, q2⟩ := str_facts hl
  clear hl
  clear hx hg1
  go_wp2_with fail
  refine bodyPost_ret (v := .tuple #[.agg #[.bool false, .string ⟨#[]⟩], .int .i64 4]) (by simp [results, Try.results22, go_sem, d0, d1]) rfl ?_
  exact ⟨fun _ h => absurd h (shf_big Hm.out.2 (k := 131072) hn), fun _ _ => rfl, fun h => absurd Hm.out.1 h, ((H5.out.1.setCell (by show w.heap.size ≤ w.heap.size + 1; omega) _).setCell (by show w.heap.size ≤ w.heap.size + 1; omega) _)⟩
theorem tells_form {W w5 : World} {z : Int} {e : Ending} (h : Tells W z e w5) : ∃ (sn : Bool) (bn : ByteArray) (cd : Int), e = .returned (.tuple #[.agg #[.bool sn, .string bn], .int .i64 cd]) ∧ Below W.heap.size W w5 ∧ ∀ w w' (ok : Prop), ok → Below w.heap.size w w' → Ans w ok z (.returned (.tuple #[.agg #[.bool sn, .string bn], .int .i64 cd])) w' := by
  obtain ⟨t1, t2, hb⟩ := h
  by_cases hf : fits z
  · exact ⟨_, _, 0, t1 hf, hb, fun w w' ok hok hb => ⟨fun _ _ => rfl, fun _ h => absurd hf h, fun h => absurd hok h, hb⟩⟩
  · exact ⟨_, _, 4, t2 hf, hb, fun w w' ok hok hb => ⟨fun _ h => absurd h hf, fun _ _ => rfl, fun h => absurd hok h, hb⟩⟩
set_option maxRecDepth 100000 in
set_option maxHeartbeats 4000000 in
theorem wshift_up {w : World} {na : Bool} {sa : ByteArray} {n : Int} (hm : MayL na sa.data.toList) (h0 : num (na, sa) ≠ 0) (hn0 : 0 ≤ n) (hn : n ≤ 131072) :
    Calls Try.prog 22 #[.agg #[.bool na, .string sa], .int .i64 n] w (Ans w (MayL na sa.data.toList) (shf (num (na, sa)) n)) := by
  have hb1 := new_below w (.cells #[.bool na, .string sa] 26)
  have hb2 := hb1.alloc (by simp) (.cells #[.bool false, .string ⟨#[]⟩] 26)
  have k1 := (Blk.new w 26 #[.bool na, .string sa]).alloc (.cells #[.bool false, .string ⟨#[]⟩] 26)
  have k2 := Blk.new (w.alloc (.cells #[.bool na, .string sa] 26)) 26 #[.bool false, .string ⟨#[]⟩]
  have hO := of_one (w := (w.alloc (.cells #[.bool na, .string sa] 26)).alloc (.cells #[.bool false, .string ⟨#[]⟩] 26)) (na := na) (sa := sa)
  rw [World.size_alloc, World.size_alloc] at hO
  rw [World.size_alloc] at k2
  have HO := Lib.hid hO
  have Hb := Lib.hid (And.intro hb2 (And.intro k1 k2))
  have Hm := Lib.hid (And.intro hm h0)
  clear hm h0
  clear hO hb1 hb2 k1 k2
  go_enter Try.func22, Try.ntmps22
  go_wp2_with fail
  refine HO.out.mono ?_
  rintro e w5 ⟨h1, h2, hb5⟩
  have hb05 := Hb.out.1.trans (hb5.mono (by simp <;> omega))
  have m1 := Hb.out.2.1.below hb5 (by simp <;> omega)
  have m2 := Hb.out.2.2.below hb5 (by simp)
  have c0 : w5.cell? ⟨w.heap.size, 0, none⟩ = some (.bool na) := m1.cell 0
  have c1 : w5.cell? ⟨w.heap.size, 1, none⟩ = some (.string sa) := m1.cell 1
  have d0 : w5.cell? ⟨w.heap.size + 1, 0, none⟩ = some (.bool false) := m2.cell 0
  have d1 : w5.cell? ⟨w.heap.size + 1, 1, none⟩ = some (.string ⟨#[]⟩) := m2.cell 1
  have d2 := m2.frozen 0
  have d3 := m2.frozen 1
  have H5 := Lib.hid (And.intro hb05 m2)
  have Hsz := Lib.hid (show w.heap.size + 1 + 1 ≤ w5.heap.size by have := hb5.size; simp at this; omega)
  clear hb5 hb05 m1 m2
  obtain ⟨ad, c, g1, rfl, hadb, p0, hx, hg1⟩ := h1 Hm.out.1
  clear h1 h2
  have hl : 0 < sa.size := by
    rcases Nat.eq_zero_or_pos sa.size with h | h
    · exact absurd ((num_nil Hm.out.1).2 h) Hm.out.2
    · exact h
  obtain ⟨q1, q2⟩ := str_facts hl
  clear hl
  have hz : num (na, sa) * 2 ^ n.toNat = shf (num (na, sa)) n := by unfold shf; rw [if_pos hn0]
  have hlb := bl_shl (n := n.toNat) (fits_num (a := (na, sa)) Hm.out.1)
  rw [← shl_abs] at hlb
  have Hl := Lib.hid (show (wds (num (na, sa) * 2 ^ n.toNat).natAbs).length ≤ 100000000 from Nat.le_trans (len_bl (k := 8192) (by omega)) (by omega))
  have l1 := len_num (a := (na, sa)) Hm.out.1
  have hC := lsh_any (n := n.toNat) (hx.drewN 1).slot (hx.drewN 1) (by omega) (by omega)
  rw [show ((n.toNat : Nat) : Int) = n by omega] at hC
  rw [hz] at hC Hl
  have HC := Lib.hid hC
  have Hg := Lib.hid (show w.heap.size + 1 + 1 ≤ g1 by simp at hg1; omega)
  have q3 : IntKind.u64.wrap n = n := IntWalk.u64_in _ (by omega)
  clear hC hlb hz l1 hx hg1
  go_wp2_with fail
  refine wp_region_noPanic ?_
  refine wp_region_HK (fun w' => w'.cell? ad = some (.pointer (some ⟨g1, 0, none⟩))) 8 (by kernel_rfl) p0 (fun hHeld => ?_)
  refine wpHK_take (i := 0) (oi := Oper.mk (some 30) _ _ _ _ _) (v := ?_) rfl (by kernel_rfl) (by kernel_rfl) (by kernel_rfl) (by kernel_rfl) (fun _ _ _ h => h) (Or.inl ⟨by rfl, ?_⟩) (by assumption) ?_
  rotate_left
  · (intro w' hSw; (try dsimp only at hSw); (obtain s1 := hSw); go_simp; try with_reducible rfl)
  try simp only [Act.put, List.setIfInBounds_toArray, List.set_cons_zero, List.set_cons_succ]
  refine wpHK_take (i := 1) (oi := Oper.mk (some 31) _ _ _ _ _) (v := ?_) rfl (by kernel_rfl) (by kernel_rfl) (by kernel_rfl) (by kernel_rfl) (fun _ _ _ h => h) (Or.inl ⟨by rfl, ?_⟩) (by assumption) ?_
  rotate_left
  · (intro w' hSw; (try dsimp only at hSw); (obtain s1 := hSw); go_simp; try with_reducible rfl)
  try simp only [Act.put, List.setIfInBounds_toArray, List.set_cons_zero, List.set_cons_succ]
  refine wpHK_take (i := 2) (oi := Oper.mk (some 32) _ _ _ _ _) (v := ?_) rfl (by kernel_rfl) (by kernel_rfl) (by kernel_rfl) (by kernel_rfl) (fun _ _ _ h => h) (Or.inl ⟨by rfl, ?_⟩) (by assumption) ?_
  rotate_left
  · (intro w' hSw; (try dsimp only at hSw); (obtain s1 := hSw); go_simp; try with_reducible rfl)
  try simp only [Act.put, List.setIfInBounds_toArray, List.set_cons_zero, List.set_cons_succ]
  refine wpHK_take (i := 3) (oi := Oper.mk (some 33) _ _ _ _ _) (v := ?_) rfl (by kernel_rfl) (by kernel_rfl) (by kernel_rfl) (by kernel_rfl) (fun _ _ _ h => h) (Or.inl ⟨by rfl, ?_⟩) (by assumption) ?_
  rotate_left
  · (intro w' hSw; (try dsimp only at hSw); (obtain s1 := hSw); go_simp; try with_reducible rfl)
  try simp only [Act.put, List.setIfInBounds_toArray, List.set_cons_zero, List.set_cons_succ]
  refine wpHK_take (i := 4) (oi := Oper.mk (some 34) _ _ _ _ _) (v := ?_) rfl (by kernel_rfl) (by kernel_rfl) (by kernel_rfl) (by kernel_rfl) (fun _ _ _ h => h) (Or.inl ⟨by rfl, ?_⟩) (by assumption) ?_
  rotate_left
  · (intro w' hSw; (try dsimp only at hSw); (obtain s1 := hSw); go_simp; try with_reducible rfl)
  try simp only [Act.put, List.setIfInBounds_toArray, List.set_cons_zero, List.set_cons_succ]
  refine wpHK_take (i := 5) (oi := Oper.mk (some 35) _ _ _ _ _) (v := ?_) rfl (by kernel_rfl) (by kernel_rfl) (by kernel_rfl) (by kernel_rfl) (fun _ _ _ h => h) (Or.inl ⟨by rfl, ?_⟩) (by assumption) ?_
  rotate_left
  · (intro w' hSw; (try dsimp only at hSw); (obtain s1 := hSw); go_simp; try with_reducible rfl)
  try simp only [Act.put, List.setIfInBounds_toArray, List.set_cons_zero, List.set_cons_succ]
  refine wpHK_take (i := 6) (oi := Oper.mk (some 36) _ _ _ _ _) (v := ?_) rfl (by kernel_rfl) (by kernel_rfl) (by kernel_rfl) (by kernel_rfl) (fun _ _ _ h => h) (Or.inl ⟨by rfl, ?_⟩) (by assumption) ?_
  rotate_left
  · (intro w' hSw; (try dsimp only at hSw); (obtain s1 := hSw); go_simp; try with_reducible rfl)
  try simp only [Act.put, List.setIfInBounds_toArray, List.set_cons_zero, List.set_cons_succ]
  refine wpHK_take (i := 7) (oi := Oper.mk (some 37) _ _ _ _ _) (v := ?_) rfl (by kernel_rfl) (by kernel_rfl) (by kernel_rfl) (by kernel_rfl) (fun _ _ _ h => h) (Or.inl ⟨by rfl, ?_⟩) (by assumption) ?_
  rotate_left
  · (intro w' hSw; (try dsimp only at hSw); (obtain s1 := hSw); go_simp; try with_reducible rfl)
  try simp only [Act.put, List.setIfInBounds_toArray, List.set_cons_zero, List.set_cons_succ]
  refine wpHK_tail (j := 8) (o := Oper.mk (some 38) _ _ _ _ _) rfl (by kernel_rfl) (by decide) (fun K hK => ?_)
  go_simp
  refine HC.out.mono ?_
  rintro e w6 ⟨rfl, hi6, hg6⟩
  have HT := Lib.hid (told_any hi6 Hl.out)
  have hb6 : Below (w.heap.size + 1 + 1) w5 w6 := up_row (Below.refl _ _).drew hg6 Hsz.out Hg.out
  have mb := H5.out.2.below hb6 (by omega)
  have hb06 := H5.out.1.trans (hb6.mono (by omega))
  have hw6s : w.heap.size + 1 < w6.heap.size := by have := hb6.size; have := Hsz.out; omega
  clear hi6 hg6 hb6
  refine hK.out _ _ ?_
  clear hK K
  try simp only [Act.put, List.setIfInBounds_toArray, List.set_cons_zero, List.set_cons_succ]
  refine wpHK_tail (j := 9) (o := Oper.mk (some 39) _ _ _ _ _) rfl (by kernel_rfl) (by decide) (fun K hK => ?_)
  go_simp
  refine HT.out.mono ?_
  intro e w7 hT
  obtain ⟨sn, bn, cd, rfl, hb7, hfin⟩ := tells_form hT
  clear hT
  have n2 := mb.below hb7 hw6s
  have y0 : w7.cell? ⟨w.heap.size + 1, 0, none⟩ = some (.bool false) := n2.cell 0
  have y1 : w7.cell? ⟨w.heap.size + 1, 1, none⟩ = some (.string ⟨#[]⟩) := n2.cell 1
  have y2 := n2.frozen 0
  have y3 := n2.frozen 1
  have hb07 := Lib.hid (hb06.trans (hb7.mono hb06.size))
  clear n2 hb7
  refine hK.out _ _ ?_
  clear hK K
  try simp only [Act.put, List.setIfInBounds_toArray, List.set_cons_zero, List.set_cons_succ]
  refine wpHK_pure (i := 10) (oi := Oper.mk (some 40) _ _ _ _ _) (v := ?_) rfl (by kernel_rfl) (by kernel_rfl) (by kernel_rfl) (fun _ _ _ h => h) (Or.inl ⟨by rfl, ?_⟩) ?_
  rotate_left
  · (intro w' _; go_simp; try with_reducible rfl)
  try simp only [Act.put, List.setIfInBounds_toArray, List.set_cons_zero, List.set_cons_succ]
  refine wpHK_pure (i := 11) (oi := Oper.mk (some 41) _ _ _ _ _) (v := ?_) rfl (by kernel_rfl) (by kernel_rfl) (by kernel_rfl) (fun _ _ _ h => h) (Or.inl ⟨by rfl, ?_⟩) ?_
  rotate_left
  · (intro w' _; go_simp; try with_reducible rfl)
  try simp only [Act.put, List.setIfInBounds_toArray, List.set_cons_zero, List.set_cons_succ]
  refine wpHK_tail (j := 12) (o := Oper.mk (none) _ _ _ _ _) rfl (by kernel_rfl) (by decide) (fun K hK => ?_)
  go_simp
  refine hK.out _ _ ?_
  clear hK K
  try simp only [Act.put, List.setIfInBounds_toArray, List.set_cons_zero, List.set_cons_succ]
  refine wpHK_pure (i := 13) (oi := Oper.mk (some 5) _ _ _ _ _) (v := ?_) rfl (by kernel_rfl) (by kernel_rfl) (by kernel_rfl) (fun _ _ _ h => h) (Or.inl ⟨by rfl, ?_⟩) ?_
  rotate_left
  · (intro w' _; go_simp; try with_reducible rfl)
  try simp only [Act.put, List.setIfInBounds_toArray, List.set_cons_zero, List.set_cons_succ]
  refine wpHK_done (by kernel_rfl) ?_ _
  refine NoPanic.normal ?_
  go_wp2_with fail
  refine bodyPost_ret (v := .tuple #[.agg #[.bool sn, .string bn], .int .i64 cd]) (by simp [results, Try.results22, go_sem, y0, y1]) rfl ?_
  exact hfin _ _ _ Hm.out.1 ((hb07.out.setCell (by show w.heap.size ≤ w.heap.size + 1; omega) _).setCell (by show w.heap.size ≤ w.heap.size + 1; omega) _)
set_option maxRecDepth 100000 in
set_option maxHeartbeats 800000 in
theorem wshift_down {w : World} {na : Bool} {sa : ByteArray} {n : Int} (hm : MayL na sa.data.toList) (h0 : num (na, sa) ≠ 0) (hn0 : n < 0) (hnb : -9223372036854775808 ≤ n) :
    Calls Try.prog 22 #[.agg #[.bool na, .string sa], .int .i64 n] w (Ans w (MayL na sa.data.toList) (shf (num (na, sa)) n)) := by
  have hb1 := new_below w (.cells #[.bool na, .string sa] 26)
  have hb2 := hb1.alloc (by simp) (.cells #[.bool false, .string ⟨#[]⟩] 26)
  have k1 := (Blk.new w 26 #[.bool na, .string sa]).alloc (.cells #[.bool false, .string ⟨#[]⟩] 26)
  have k2 := Blk.new (w.alloc (.cells #[.bool na, .string sa] 26)) 26 #[.bool false, .string ⟨#[]⟩]
  have hO := of_one (w := (w.alloc (.cells #[.bool na, .string sa] 26)).alloc (.cells #[.bool false, .string ⟨#[]⟩] 26)) (na := na) (sa := sa)
  rw [World.size_alloc, World.size_alloc] at hO
  rw [World.size_alloc] at k2
  have HO := Lib.hid hO
  have Hb := Lib.hid (And.intro hb2 (And.intro k1 k2))
  have Hm := Lib.hid (And.intro hm h0)
  clear hm h0
  clear hO hb1 hb2 k1 k2
  go_enter Try.func22, Try.ntmps22
  go_wp2_with fail
  refine HO.out.mono ?_
  rintro e w5 ⟨h1, h2, hb5⟩
  have hb05 := Hb.out.1.trans (hb5.mono (by simp <;> omega))
  have m1 := Hb.out.2.1.below hb5 (by simp <;> omega)
  have m2 := Hb.out.2.2.below hb5 (by simp)
  have c0 : w5.cell? ⟨w.heap.size, 0, none⟩ = some (.bool na) := m1.cell 0
  have c1 : w5.cell? ⟨w.heap.size, 1, none⟩ = some (.string sa) := m1.cell 1
  have d0 : w5.cell? ⟨w.heap.size + 1, 0, none⟩ = some (.bool false) := m2.cell 0
  have d1 : w5.cell? ⟨w.heap.size + 1, 1, none⟩ = some (.string ⟨#[]⟩) := m2.cell 1
  have d2 := m2.frozen 0
  have d3 := m2.frozen 1
  have H5 := Lib.hid (And.intro hb05 m2)
  have Hsz := Lib.hid (show w.heap.size + 1 + 1 ≤ w5.heap.size by have := hb5.size; simp at this; omega)
  clear hb5 hb05 m1 m2
  obtain ⟨ad, c, g1, rfl, hadb, p0, hx, hg1⟩ := h1 Hm.out.1
  clear h1 h2
  have hl : 0 < sa.size := by
    rcases Nat.eq_zero_or_pos sa.size with h | h
    · exact absurd ((num_nil Hm.out.1).2 h) Hm.out.2
    · exact h
  obtain ⟨q1, q2⟩ := str_facts hl
  clear hl
  obtain ⟨M, hM⟩ : ∃ M : Int, M = if n < -131073 then -131073 else n := ⟨_, rfl⟩
  obtain ⟨K, hK⟩ : ∃ K : Nat, (K : Int) = -M := ⟨(-M).toNat, by omega⟩
  have hz : num (na, sa) / 2 ^ K = shf (num (na, sa)) n := by
    rcases Int.lt_or_le n (-131073) with h | h
    · exact shf_far (k := 131072) (a := K) (fits_num (a := (na, sa)) Hm.out.1) (by omega) (by omega)
    · unfold shf; rw [if_neg (by omega), show (-n).toNat = K by omega]
  have hl2 : (num (na, sa) / 2 ^ K).natAbs ≤ (num (na, sa)).natAbs := Int.natAbs_ediv_le_natAbs _ _
  have l1 := len_num (a := (na, sa)) Hm.out.1
  have Hl := Lib.hid (show (wds (num (na, sa) / 2 ^ K).natAbs).length ≤ 100000000 from Nat.le_trans (len_mono hl2) (by omega))
  have hC := rsh_any (n := K) (hx.drewN 1).slot (hx.drewN 1) (by omega) (by omega)
  rw [hz] at hC Hl
  have HC := Lib.hid hC
  have Hg := Lib.hid (show w.heap.size + 1 + 1 ≤ g1 by simp at hg1; omega)
  have q3 : IntKind.u64.wrap (K : Int) = (K : Int) := IntWalk.u64_in _ (by omega)
  have q4 : IntKind.i64.wrap (-M) = (K : Int) := by rw [← hK]; exact IntWalk.i64_in _ (by omega)
  have q5 : (if n < -131073 then -131073 else n) = M := hM.symm
  have q6 : decide (131072 < n) = false := decide_eq_false (by omega)
  have q7 : decide (0 ≤ n) = false := decide_eq_false (by omega)
  clear hC hl2 hz l1 hx hg1 hM hK
  go_wp2_with fail
  refine wp_region_noPanic ?_
  refine wp_region_HK (fun w' => w'.cell? ad = some (.pointer (some ⟨g1, 0, none⟩))) 10 (by kernel_rfl) p0 (fun hHeld => ?_)
  refine wpHK_take (i := 0) (oi := Oper.mk (some 42) _ _ _ _ _) (v := ?_) rfl (by kernel_rfl) (by kernel_rfl) (by kernel_rfl) (by kernel_rfl) (fun _ _ _ h => h) (Or.inl ⟨by rfl, ?_⟩) (by assumption) ?_
  rotate_left
  · (intro w' hSw; (try dsimp only at hSw); (obtain s1 := hSw); go_simp; try with_reducible rfl)
  try simp only [Act.put, List.setIfInBounds_toArray, List.set_cons_zero, List.set_cons_succ]
  refine wpHK_take (i := 1) (oi := Oper.mk (some 43) _ _ _ _ _) (v := ?_) rfl (by kernel_rfl) (by kernel_rfl) (by kernel_rfl) (by kernel_rfl) (fun _ _ _ h => h) (Or.inl ⟨by rfl, ?_⟩) (by assumption) ?_
  rotate_left
  · (intro w' hSw; (try dsimp only at hSw); (obtain s1 := hSw); go_simp; try with_reducible rfl)
  try simp only [Act.put, List.setIfInBounds_toArray, List.set_cons_zero, List.set_cons_succ]
  refine wpHK_take (i := 2) (oi := Oper.mk (some 44) _ _ _ _ _) (v := ?_) rfl (by kernel_rfl) (by kernel_rfl) (by kernel_rfl) (by kernel_rfl) (fun _ _ _ h => h) (Or.inl ⟨by rfl, ?_⟩) (by assumption) ?_
  rotate_left
  · (intro w' hSw; (try dsimp only at hSw); (obtain s1 := hSw); go_simp; try with_reducible rfl)
  try simp only [Act.put, List.setIfInBounds_toArray, List.set_cons_zero, List.set_cons_succ]
  refine wpHK_take (i := 3) (oi := Oper.mk (some 45) _ _ _ _ _) (v := ?_) rfl (by kernel_rfl) (by kernel_rfl) (by kernel_rfl) (by kernel_rfl) (fun _ _ _ h => h) (Or.inl ⟨by rfl, ?_⟩) (by assumption) ?_
  rotate_left
  · (intro w' hSw; (try dsimp only at hSw); (obtain s1 := hSw); go_simp; try with_reducible rfl)
  try simp only [Act.put, List.setIfInBounds_toArray, List.set_cons_zero, List.set_cons_succ]
  refine wpHK_take (i := 4) (oi := Oper.mk (some 46) _ _ _ _ _) (v := ?_) rfl (by kernel_rfl) (by kernel_rfl) (by kernel_rfl) (by kernel_rfl) (fun _ _ _ h => h) (Or.inl ⟨by rfl, ?_⟩) (by assumption) ?_
  rotate_left
  · (intro w' hSw; (try dsimp only at hSw); (obtain s1 := hSw); go_simp; try with_reducible rfl)
  try simp only [Act.put, List.setIfInBounds_toArray, List.set_cons_zero, List.set_cons_succ]
  refine wpHK_take (i := 5) (oi := Oper.mk (some 47) _ _ _ _ _) (v := ?_) rfl (by kernel_rfl) (by kernel_rfl) (by kernel_rfl) (by kernel_rfl) (fun _ _ _ h => h) (Or.inl ⟨by rfl, ?_⟩) (by assumption) ?_
  rotate_left
  · (intro w' hSw; (try dsimp only at hSw); (obtain s1 := hSw); go_simp; try with_reducible rfl)
  try simp only [Act.put, List.setIfInBounds_toArray, List.set_cons_zero, List.set_cons_succ]
  refine wpHK_take (i := 6) (oi := Oper.mk (some 48) _ _ _ _ _) (v := ?_) rfl (by kernel_rfl) (by kernel_rfl) (by kernel_rfl) (by kernel_rfl) (fun _ _ _ h => h) (Or.inl ⟨by rfl, ?_⟩) (by assumption) ?_
  rotate_left
  · (intro w' hSw; (try dsimp only at hSw); (obtain s1 := hSw); go_simp; try with_reducible rfl)
  try simp only [Act.put, List.setIfInBounds_toArray, List.set_cons_zero, List.set_cons_succ]
  refine wpHK_one (j := 7) (o := Oper.mk (some 49) _ _ _ _ _) rfl (by kernel_rfl) (fun K hK => ?_)
  go_simp
  refine hK.out _ _ p0 (fun _ => ?_)
  clear hK K hHeld
  have hHeld := p0
  try simp only [Act.put, List.setIfInBounds_toArray, List.set_cons_zero, List.set_cons_succ]
  refine wpHK_take (i := 8) (oi := Oper.mk (some 50) _ _ _ _ _) (v := ?_) rfl (by kernel_rfl) (by kernel_rfl) (by kernel_rfl) (by kernel_rfl) (fun _ _ _ h => h) (Or.inl ⟨by rfl, ?_⟩) (by assumption) ?_
  rotate_left
  · (intro w' hSw; (try dsimp only at hSw); (obtain s1 := hSw); go_simp; try with_reducible rfl)
  try simp only [Act.put, List.setIfInBounds_toArray, List.set_cons_zero, List.set_cons_succ]
  refine wpHK_take (i := 9) (oi := Oper.mk (some 51) _ _ _ _ _) (v := ?_) rfl (by kernel_rfl) (by kernel_rfl) (by kernel_rfl) (by kernel_rfl) (fun _ _ _ h => h) (Or.inl ⟨by rfl, ?_⟩) (by assumption) ?_
  rotate_left
  · (intro w' hSw; (try dsimp only at hSw); (obtain s1 := hSw); go_simp; try with_reducible rfl)
  try simp only [Act.put, List.setIfInBounds_toArray, List.set_cons_zero, List.set_cons_succ]
  refine wpHK_tail (j := 10) (o := Oper.mk (some 52) _ _ _ _ _) rfl (by kernel_rfl) (by decide) (fun K hK => ?_)
  go_simp
  refine HC.out.mono ?_
  rintro e w6 ⟨rfl, hi6, hg6⟩
  have HT := Lib.hid (told_any hi6 Hl.out)
  have hb6 : Below (w.heap.size + 1 + 1) w5 w6 := up_row (Below.refl _ _).drew hg6 Hsz.out Hg.out
  have mb := H5.out.2.below hb6 (by omega)
  have hb06 := H5.out.1.trans (hb6.mono (by omega))
  have hw6s : w.heap.size + 1 < w6.heap.size := by have := hb6.size; have := Hsz.out; omega
  clear hi6 hg6 hb6
  refine hK.out _ _ ?_
  clear hK K
  try simp only [Act.put, List.setIfInBounds_toArray, List.set_cons_zero, List.set_cons_succ]
  refine wpHK_tail (j := 11) (o := Oper.mk (some 53) _ _ _ _ _) rfl (by kernel_rfl) (by decide) (fun K hK => ?_)
  go_simp
  refine HT.out.mono ?_
  intro e w7 hT
  obtain ⟨sn, bn, cd, rfl, hb7, hfin⟩ := tells_form hT
  clear hT
  have n2 := mb.below hb7 hw6s
  have y0 : w7.cell? ⟨w.heap.size + 1, 0, none⟩ = some (.bool false) := n2.cell 0
  have y1 : w7.cell? ⟨w.heap.size + 1, 1, none⟩ = some (.string ⟨#[]⟩) := n2.cell 1
  have y2 := n2.frozen 0
  have y3 := n2.frozen 1
  have hb07 := Lib.hid (hb06.trans (hb7.mono hb06.size))
  clear n2 hb7
  refine hK.out _ _ ?_
  clear hK K
  try simp only [Act.put, List.setIfInBounds_toArray, List.set_cons_zero, List.set_cons_succ]
  refine wpHK_pure (i := 12) (oi := Oper.mk (some 54) _ _ _ _ _) (v := ?_) rfl (by kernel_rfl) (by kernel_rfl) (by kernel_rfl) (fun _ _ _ h => h) (Or.inl ⟨by rfl, ?_⟩) ?_
  rotate_left
  · (intro w' _; go_simp; try with_reducible rfl)
  try simp only [Act.put, List.setIfInBounds_toArray, List.set_cons_zero, List.set_cons_succ]
  refine wpHK_pure (i := 13) (oi := Oper.mk (some 55) _ _ _ _ _) (v := ?_) rfl (by kernel_rfl) (by kernel_rfl) (by kernel_rfl) (fun _ _ _ h => h) (Or.inl ⟨by rfl, ?_⟩) ?_
  rotate_left
  · (intro w' _; go_simp; try with_reducible rfl)
  try simp only [Act.put, List.setIfInBounds_toArray, List.set_cons_zero, List.set_cons_succ]
  refine wpHK_tail (j := 14) (o := Oper.mk (none) _ _ _ _ _) rfl (by kernel_rfl) (by decide) (fun K hK => ?_)
  go_simp
  refine hK.out _ _ ?_
  clear hK K
  try simp only [Act.put, List.setIfInBounds_toArray, List.set_cons_zero, List.set_cons_succ]
  refine wpHK_pure (i := 15) (oi := Oper.mk (some 5) _ _ _ _ _) (v := ?_) rfl (by kernel_rfl) (by kernel_rfl) (by kernel_rfl) (fun _ _ _ h => h) (Or.inl ⟨by rfl, ?_⟩) ?_
  rotate_left
  · (intro w' _; go_simp; try with_reducible rfl)
  try simp only [Act.put, List.setIfInBounds_toArray, List.set_cons_zero, List.set_cons_succ]
  refine wpHK_done (by kernel_rfl) ?_ _
  refine NoPanic.normal ?_
  go_wp2_with fail
  refine bodyPost_ret (v := .tuple #[.agg #[.bool sn, .string bn], .int .i64 cd]) (by simp [results, Try.results22, go_sem, y0, y1]) rfl ?_
  exact hfin _ _ _ Hm.out.1 ((hb07.out.setCell (by show w.heap.size ≤ w.heap.size + 1; omega) _).setCell (by show w.heap.size ≤ w.heap.size + 1; omega) _)
theorem wshift_any {w : World} {na : Bool} {sa : ByteArray} {n : Int} (hn1 : -9223372036854775808 ≤ n) :
    Calls Try.prog 22 #[.agg #[.bool na, .string sa], .int .i64 n] w (Ans w (MayL na sa.data.toList) (shf (num (na, sa)) n)) := by
  by_cases hm : MayL na sa.data.toList
  · by_cases h0 : num (na, sa) = 0
    · exact wshift_zero hm h0
    · rcases Int.lt_or_le 131072 n with h | h
      · exact wshift_big hm h0 h
      · rcases Int.lt_or_le n 0 with h1 | h1
        · exact wshift_down hm h0 h1 hn1
        · exact wshift_up hm h0 h1 h
  · exact wshift_bad hm
end Go.Proofs.Ytpnginnjbdedbaa

/- whole.Read (printed by gen_read.py). -/
namespace Go.Proofs.Ytpnginnjbdedbaa
open Go.RowKit
open Wh
set_option linter.unusedSimpArgs false
set_option linter.unusedVariables false

/-- is it a number's text, behind its sign? -/
def GoodAt (l : List UInt8) (F : Nat) : Prop := (∀ j b, F ≤ j → l[j]? = some b → IsDig b) ∧ F < l.length ∧ (l[F]? = some 48 → l.length ≤ 1)
def rfirst (l : List UInt8) : Nat := if signOf l then 1 else 0
def Good (l : List UInt8) : Prop := GoodAt l (rfirst l)
def rval (l : List UInt8) : Int := sgn (signOf l) (dv (l.drop (rfirst l)))
theorem good_dig {l : List UInt8} {F : Nat} (h : GoodAt l F) : AllDig (l.drop F) ∧ l.drop F ≠ [] := by
  refine ⟨fun b hb => ?_, fun h0 => ?_⟩
  · obtain ⟨j, hj⟩ := List.mem_iff_getElem?.1 hb
    rw [List.getElem?_drop] at hj
    exact h.1 _ b (Nat.le_add_right F j) hj
  · have h1 := List.length_drop (i := F) (l := l)
    rw [h0] at h1
    have h2 := h.2.1
    simp only [List.length_nil] at h1
    omega
theorem good_body {l : List UInt8} (h : Good l) : bodyOfText l = l.drop (rfirst l) := by
  unfold bodyOfText rfirst
  unfold Good rfirst at h
  by_cases hs : signOf l = true
  · have h1 : l.head? = some 45 := by unfold signOf at hs; exact beq_iff_eq.1 hs
    rw [if_pos (.inl h1), if_pos hs, List.drop_one]
  · have h1 : ¬ l.head? = some 45 := fun h0 => hs (by unfold signOf; rw [h0]; rfl)
    have h2 : ¬ l.head? = some 43 := fun h0 => by
      rw [if_neg hs] at h
      have h3 := h.1 0 43 (Nat.le_refl _) (by rw [← List.head?_eq_getElem?]; exact h0)
      unfold IsDig at h3
      exact absurd h3.1 (by decide)
    rw [if_neg (fun h0 => h0.elim h1 h2), if_neg hs, List.drop_zero]
/-- what Read tells -/
def Readd (w : World) (l : List UInt8) (e : Ending) (w' : World) : Prop :=
  (40000 < l.length → e = .returned (.tuple #[none_, .int .i64 3])) ∧ (l.length ≤ 40000 → ¬ Good l → e = .returned (.tuple #[none_, .int .i64 120])) ∧
  (l.length ≤ 40000 → Good l → fits (rval l) → e = .returned (.tuple #[enc (rval l), .int .i64 0])) ∧ (l.length ≤ 40000 → Good l → ¬ fits (rval l) → e = .returned (.tuple #[none_, .int .i64 4])) ∧ Below w.heap.size w w'
theorem dv_len {l : List UInt8} (h : AllDig l) (hl : l.length ≤ 40000) : (wds (dv l)).length ≤ 40000 := by
  refine Nat.le_trans (len_wds (k := l.length) ?_) hl
  exact Nat.lt_of_lt_of_le (dv_lt _ l rfl h) (Nat.pow_le_pow_left (by decide) _)
theorem grown_w {w w' : World} {o o' : Obj} (hg : ((w.alloc o).alloc o').grownBy w' (some (w.heap.size + 1))) : Below (w.heap.size + 1) (w.alloc o) w' :=
  (((Below.refl (w.heap.size + 1) (w.alloc o)).alloc (by simp) o')).grown hg (by simp) (fun k hk => by injection hk with hk; omega)
set_option maxRecDepth 100000 in
theorem wread_long {w : World} {s : ByteArray} (h : 40000 < s.size) : Calls Try.prog 34 #[.string s] w (Readd w s.data.toList) := by
  have hl : s.data.toList.length = s.size := Array.length_toList
  have hi : (40000 : Int) < (s.size : Int) := by omega
  have Hl := Lib.hid (And.intro hl h)
  clear hl h
  go_enter Try.func34, Try.ntmps34
  go_wp2_with fail
  go_step3
  go_wp2_with fail
  rw [Exit.noGoto_ret]
  refine bodyPost_ret (v := .tuple #[.agg #[.bool false, .string ⟨#[]⟩], .int .i64 3]) (by simp [results, Try.results34, go_sem]) rfl ?_
  have hb := new_below w (.cells #[.bool false, .string ⟨#[]⟩] 26)
  exact ⟨fun _ => rfl, fun h => absurd h (by have := Hl.out; omega), fun h => absurd h (by have := Hl.out; omega), fun h => absurd h (by have := Hl.out; omega), hb⟩
set_option maxRecDepth 100000 in
set_option maxHeartbeats 2000000 in
theorem wread_neg {w : World} {s : ByteArray} (hs : s.size ≤ 40000) (h0 : 0 < s.size) (hc : s[0] = 45) : Calls Try.prog 34 #[.string s] w (Readd w s.data.toList) := by
  have hF : rfirst s.data.toList = 1 := by
    unfold rfirst signOf
    rw [head_of h0, hc]; rfl
  have hd0 : s[0].toNat = 45 := by rw [hc]; rfl
  obtain ⟨q1, q2⟩ := str_facts h0
  clear hc
  obtain ⟨l, hle⟩ : ∃ l, l = s.data.toList := ⟨_, rfl⟩
  have hl : l.length = s.size := by rw [hle]; exact Array.length_toList
  have hget : ∀ j (h : j < s.size) (h' : j < l.length), s[j] = l[j] := by subst hle; intro j h h'; rfl
  rw [← hle] at hF ⊢
  have HF := Lib.hid hF
  have hb := new_below w (.cells #[.bool false, .string ⟨#[]⟩] 26)
  have k2 := Blk.new w 26 #[.bool false, .string ⟨#[]⟩]
  have Hb := Lib.hid (And.intro hb k2)
  have hz : IntS ((w.alloc (.cells #[.bool false, .string ⟨#[]⟩] 26)).alloc (.cells #[.bool false, .slice none 0 0] 82)) (w.heap.size + 1) := by
    have := zslot (w.alloc (.cells #[.bool false, .string ⟨#[]⟩] 26))
    rw [World.size_alloc] at this
    exact this
  have Hz := Lib.hid hz
  have Hn := Lib.hid (And.intro (show l.length ≤ 40000 by omega) (And.intro hl (And.intro hget hle)))
  have hsi : (s.size : Int) ≤ 40000 := by omega
  clear hb k2 hz hl hget hle hF
  go_enter Try.func34, Try.ntmps34
  go_wp2_with fail
  go_step3
  go_wp2_with fail
  go_step3
  go_wp2_with fail
  go_loopg [4, 6] (s.size - 1) (fun k av cv wr => ∃ i : Nat, av = .int .i64 (i : Int) ∧ Hid (k = s.size - i) ∧ 1 ≤ i ∧ i ≤ s.size ∧ Hid ((∀ j b, 1 ≤ j → j < i → l[j]? = some b → IsDig b) ∧ (1 < i → l[1]? = some 48 → l.length ≤ 1)) ∧ w.alloc (.cells #[.bool false, .string ⟨#[]⟩] 26) = wr)
  case atStart => exact ⟨1, rfl, Lib.hid rfl, Nat.le_refl _, by omega, Lib.hid ⟨fun j b h1 h2 => by omega, fun h => by omega⟩, rfl⟩
  case round =>
    obtain ⟨i, rfl, Hk, hFi, hin, HI, rfl⟩ := hrel
    have hz := Hz.out
    by_cases hi : i < s.size
    · have hil : i < l.length := by have := Hn.out.2.1; omega
      have hyi : s[i] = l[i] := Hn.out.2.2.1 i hi hil
      have hli : l[i]? = some l[i] := List.getElem?_eq_getElem hil
      obtain ⟨y, hy⟩ : ∃ y, y = l[i] := ⟨_, rfl⟩
      rw [← hy] at hyi hli
      have hyn : s[i].toNat = y.toNat := by rw [hyi]
      have Hli := Lib.hid hli
      have hy8 := UInt8.toNat_lt y
      have hii : (i : Int) < (s.size : Int) := by omega
      clear hy hyi hli hil
      by_cases hd : IsDig y
      · have Hd := Lib.hid hd
        obtain ⟨g1, g2⟩ := hd
        have g3 : (48 : Int) ≤ (y.toNat : Int) := by omega
        have g4 : (y.toNat : Int) ≤ 57 := by omega
        by_cases hlead : y.toNat = 48 ∧ i = 1 ∧ 1 < s.size
        · obtain ⟨e1, rfl, e3⟩ := hlead
          have e4 : (1 : Int) < (s.size : Int) := by omega
          have Hno := Lib.hid (show ¬ Good l by
            unfold Good
            rw [HF.out]
            intro h
            have h1 := h.2.2 (by rw [Hli.out]; congr 1; exact UInt8.toNat_inj.1 e1)
            have := Hn.out.2.1
            omega)
          rw [e1] at hyn
          have HS := Lib.hid (setstr_any (w := (w.alloc (.cells #[.bool false, .string ⟨#[]⟩] 26)).alloc (.cells #[.bool false, .slice none 0 0] 82)) (g := w.heap.size + 1) (s := s) (v := .int .i64 10) hz (by omega))
          go_wp2_with fail
          refine HS.out.mono ?_
          rintro e w6 ⟨p, b, rfl, hg, hok⟩
          have hb6 := grown_w hg
          have m2 := Hb.out.2.below hb6 (Nat.lt_succ_self _)
          have d0 : w6.cell? ⟨w.heap.size, 0, none⟩ = some (.bool false) := m2.cell 0
          have d1 : w6.cell? ⟨w.heap.size, 1, none⟩ = some (.string ⟨#[]⟩) := m2.cell 1
          have d2 := m2.frozen 0
          have d3 := m2.frozen 1
          have hb06 := Lib.hid (Hb.out.1.trans (hb6.mono (by omega)))
          clear hb6 m2 HS
          go_wp2_with fail
          rw [Exit.noGoto_ret]
          refine bodyPost_ret (v := .tuple #[.agg #[.bool false, .string ⟨#[]⟩], .int .i64 120]) (by simp [results, Try.results34, go_sem, d0, d1]) rfl ?_
          exact ⟨fun h => absurd Hn.out.1 (by omega), fun _ _ => rfl, fun _ h => absurd h Hno.out, fun _ h => absurd h Hno.out, (hb06.out.setCell (Nat.le_refl w.heap.size) _).setCell (Nat.le_refl w.heap.size) _⟩
        · have hl0 : ((y.toNat : Int) == 48 && ((i : Int) == 1) && decide ((1 : Int) < (s.size : Int))) = false := by
            rw [Bool.and_eq_false_iff, Bool.and_eq_false_iff]
            by_cases e1 : y.toNat = 48
            · by_cases e2 : i = 1
              · exact .inr (decide_eq_false (by omega))
              · exact .inl (.inr (beq_eq_false_iff_ne.2 (by omega)))
            · exact .inl (.inl (beq_eq_false_iff_ne.2 (by omega)))
          have Hlead := Lib.hid hlead
          clear hlead
          have hcase : (y.toNat : Int) ≠ 48 ∨ (i : Int) ≠ 1 ∨ (s.size : Int) ≤ 1 := by
            have := Hlead.out
            omega
          have HX : Hid ((∀ j b, 1 ≤ j → j < i + 1 → l[j]? = some b → IsDig b) ∧ (1 < i + 1 → l[1]? = some 48 → l.length ≤ 1)) := by
            refine Lib.hid ⟨fun j b h1 h2 h3 => ?_, fun h1 h2 => ?_⟩
            · rcases Nat.lt_or_ge j i with h4 | h4
              · exact HI.out.1 j b h1 h4 h3
              · obtain rfl : j = i := by omega
                rw [Hli.out] at h3
                injection h3 with h3
                subst h3
                exact Hd.out
            · rcases Nat.lt_or_ge 1 i with h4 | h4
              · exact HI.out.2 h4 h2
              · obtain rfl : i = 1 := by omega
                rw [Hli.out] at h2
                injection h2 with h2
                have h5 : ¬ 1 < s.size := fun h => Hlead.out ⟨by rw [h2]; rfl, rfl, h⟩
                have := Hn.out.2.1
                omega
          rcases hcase with hc | hc | hc
          · have hc2 : ((y.toNat : Int) == 48) = false := beq_eq_false_iff_ne.2 hc
            clear hl0 hc
            go_wp2_with fail
            go_roundg (s.size - (i + 1))
            case measure => have := Hk.out; omega
            case rel => exact ⟨i + 1, rfl, Lib.hid rfl, by omega, by omega, HX, rfl⟩
          · have hc2 : ((i : Int) == 1) = false := beq_eq_false_iff_ne.2 hc
            have hc21 : (i == 1) = false := beq_eq_false_iff_ne.2 (by omega)
            have hc22 : ¬ i = 1 := by omega
            clear hl0
            by_cases hc3 : y.toNat = 48
            · rw [hc3] at hyn
              go_wp2_with fail
              go_roundg (s.size - (i + 1))
              case measure => have := Hk.out; omega
              case rel => exact ⟨i + 1, rfl, Lib.hid rfl, by omega, by omega, HX, rfl⟩
            · have hc4 : ((y.toNat : Int) == 48) = false := beq_eq_false_iff_ne.2 (by omega)
              go_wp2_with fail
              go_roundg (s.size - (i + 1))
              case measure => have := Hk.out; omega
              case rel => exact ⟨i + 1, rfl, Lib.hid rfl, by omega, by omega, HX, rfl⟩
          · exfalso
            omega
      · have Hno := Lib.hid (show ¬ Good l by
          unfold Good
          rw [HF.out]
          intro h
          exact hd (h.1 i y hFi Hli.out))
        have Hd := Lib.hid hd
        rcases Nat.lt_or_ge y.toNat 48 with g1 | g1
        · have g3 : (y.toNat : Int) < 48 := by omega
          clear hd
          have HS := Lib.hid (setstr_any (w := (w.alloc (.cells #[.bool false, .string ⟨#[]⟩] 26)).alloc (.cells #[.bool false, .slice none 0 0] 82)) (g := w.heap.size + 1) (s := s) (v := .int .i64 10) hz (by omega))
          go_wp2_with fail
          refine HS.out.mono ?_
          rintro e w6 ⟨p, b, rfl, hg, hok⟩
          have hb6 := grown_w hg
          have m2 := Hb.out.2.below hb6 (Nat.lt_succ_self _)
          have d0 : w6.cell? ⟨w.heap.size, 0, none⟩ = some (.bool false) := m2.cell 0
          have d1 : w6.cell? ⟨w.heap.size, 1, none⟩ = some (.string ⟨#[]⟩) := m2.cell 1
          have d2 := m2.frozen 0
          have d3 := m2.frozen 1
          have hb06 := Lib.hid (Hb.out.1.trans (hb6.mono (by omega)))
          clear hb6 m2 HS
          go_wp2_with fail
          rw [Exit.noGoto_ret]
          refine bodyPost_ret (v := .tuple #[.agg #[.bool false, .string ⟨#[]⟩], .int .i64 120]) (by simp [results, Try.results34, go_sem, d0, d1]) rfl ?_
          exact ⟨fun h => absurd Hn.out.1 (by omega), fun _ _ => rfl, fun _ h => absurd h Hno.out, fun _ h => absurd h Hno.out, (hb06.out.setCell (Nat.le_refl w.heap.size) _).setCell (Nat.le_refl w.heap.size) _⟩
        · have g3 : (48 : Int) ≤ (y.toNat : Int) := by omega
          have g4 : (57 : Int) < (y.toNat : Int) := by
            have := Hd.out
            unfold IsDig at this
            omega
          clear hd
          have HS := Lib.hid (setstr_any (w := (w.alloc (.cells #[.bool false, .string ⟨#[]⟩] 26)).alloc (.cells #[.bool false, .slice none 0 0] 82)) (g := w.heap.size + 1) (s := s) (v := .int .i64 10) hz (by omega))
          go_wp2_with fail
          refine HS.out.mono ?_
          rintro e w6 ⟨p, b, rfl, hg, hok⟩
          have hb6 := grown_w hg
          have m2 := Hb.out.2.below hb6 (Nat.lt_succ_self _)
          have d0 : w6.cell? ⟨w.heap.size, 0, none⟩ = some (.bool false) := m2.cell 0
          have d1 : w6.cell? ⟨w.heap.size, 1, none⟩ = some (.string ⟨#[]⟩) := m2.cell 1
          have d2 := m2.frozen 0
          have d3 := m2.frozen 1
          have hb06 := Lib.hid (Hb.out.1.trans (hb6.mono (by omega)))
          clear hb6 m2 HS
          go_wp2_with fail
          rw [Exit.noGoto_ret]
          refine bodyPost_ret (v := .tuple #[.agg #[.bool false, .string ⟨#[]⟩], .int .i64 120]) (by simp [results, Try.results34, go_sem, d0, d1]) rfl ?_
          exact ⟨fun h => absurd Hn.out.1 (by omega), fun _ _ => rfl, fun _ h => absurd h Hno.out, fun _ h => absurd h Hno.out, (hb06.out.setCell (Nat.le_refl w.heap.size) _).setCell (Nat.le_refl w.heap.size) _⟩
    · have hin2 : i = s.size := by omega
      subst hin2
      have hlt : ∀ j b, l[j]? = some b → j < s.size := fun j b h => by
        rcases Nat.lt_or_ge j l.length with h1 | h1
        · have := Hn.out.2.1; omega
        · rw [List.getElem?_eq_none h1] at h; cases h
      have Hlt := Lib.hid hlt
      clear hlt hi
      by_cases hnF : s.size = 1
      · have hnb : ((s.size : Int) == 1) = true := beq_iff_eq.2 (by omega)
        have hn0 : (s.size : Int) = 1 := by omega
        have Hno := Lib.hid (show ¬ Good l by
          unfold Good
          rw [HF.out]
          intro h
          have h1 := h.2.1
          have := Hn.out.2.1
          omega)
        clear hnF
        have HS := Lib.hid (setstr_any (w := (w.alloc (.cells #[.bool false, .string ⟨#[]⟩] 26)).alloc (.cells #[.bool false, .slice none 0 0] 82)) (g := w.heap.size + 1) (s := s) (v := .int .i64 10) hz (by omega))
        go_wp2_with fail
        refine HS.out.mono ?_
        rintro e w6 ⟨p, b, rfl, hg, hok⟩
        have hb6 := grown_w hg
        have m2 := Hb.out.2.below hb6 (Nat.lt_succ_self _)
        have d0 : w6.cell? ⟨w.heap.size, 0, none⟩ = some (.bool false) := m2.cell 0
        have d1 : w6.cell? ⟨w.heap.size, 1, none⟩ = some (.string ⟨#[]⟩) := m2.cell 1
        have d2 := m2.frozen 0
        have d3 := m2.frozen 1
        have hb06 := Lib.hid (Hb.out.1.trans (hb6.mono (by omega)))
        clear hb6 m2 HS
        go_wp2_with fail
        rw [Exit.noGoto_ret]
        refine bodyPost_ret (v := .tuple #[.agg #[.bool false, .string ⟨#[]⟩], .int .i64 120]) (by simp [results, Try.results34, go_sem, d0, d1]) rfl ?_
        exact ⟨fun h => absurd Hn.out.1 (by omega), fun _ _ => rfl, fun _ h => absurd h Hno.out, fun _ h => absurd h Hno.out, (hb06.out.setCell (Nat.le_refl w.heap.size) _).setCell (Nat.le_refl w.heap.size) _⟩
      · have hnb : ((s.size : Int) == 1) = false := beq_eq_false_iff_ne.2 (by omega)
        have hnb1 : (s.size == 1) = false := beq_eq_false_iff_ne.2 hnF
        have hnb2 : ¬ s.size = 1 := hnF
        have hnb3 : ¬ s = ByteArray.empty := fun h => by rw [h] at h0; exact absurd h0 (by decide)
        have HG := Lib.hid (show Good l by
          unfold Good
          rw [HF.out]
          exact ⟨fun j b h1 h2 => HI.out.1 j b h1 (Hlt.out j b h2) h2, by have := Hn.out.2.1; omega, fun h => HI.out.2 (by omega) h⟩)
        clear hnF
        have HS := Lib.hid (setstr_any (w := (w.alloc (.cells #[.bool false, .string ⟨#[]⟩] 26)).alloc (.cells #[.bool false, .slice none 0 0] 82)) (g := w.heap.size + 1) (s := s) (v := .int .i64 10) hz (by omega))
        go_wp2_with fail
        refine HS.out.mono ?_
        rintro e w6 ⟨p, b, rfl, hg, hok⟩
        have hb6 := grown_w hg
        have m2 := Hb.out.2.below hb6 (Nat.lt_succ_self _)
        have d0 : w6.cell? ⟨w.heap.size, 0, none⟩ = some (.bool false) := m2.cell 0
        have d1 : w6.cell? ⟨w.heap.size, 1, none⟩ = some (.string ⟨#[]⟩) := m2.cell 1
        have d2 := m2.frozen 0
        have d3 := m2.frozen 1
        have hb06 := Lib.hid (Hb.out.1.trans (hb6.mono (by omega)))
        clear hb6 m2 HS
        rw [← Hn.out.2.2.2, good_body HG.out] at hok
        obtain ⟨rfl, rfl, hi6⟩ := hok (good_dig HG.out).2 (good_dig HG.out).1
        have hlen : (wds (rval l).natAbs).length ≤ 40000 := by
          unfold rval
          rw [sgn_abs]
          exact dv_len (good_dig HG.out).1 (Nat.le_trans (by rw [List.length_drop]; omega) Hn.out.1)
        have HT := Lib.hid (told_any (z := rval l) hi6 (Nat.le_trans hlen (by decide)))
        have Hm6 := Lib.hid (show Blk w6 w.heap.size 26 #[.bool false, .string ⟨#[]⟩] from Hb.out.2.below (grown_w hg) (Nat.lt_succ_self _))
        clear hi6 hg hlen
        go_wp2_with fail
        refine HT.out.mono ?_
        intro e w7 hT
        obtain ⟨sn, bn, cd, rfl, hb7, hfin⟩ := tells_form hT
        have m3 := Hm6.out.below hb7 Hm6.out.lt
        have y0 : w7.cell? ⟨w.heap.size, 0, none⟩ = some (.bool false) := m3.cell 0
        have y1 : w7.cell? ⟨w.heap.size, 1, none⟩ = some (.string ⟨#[]⟩) := m3.cell 1
        have y2 := m3.frozen 0
        have y3 := m3.frozen 1
        have hb07 := Lib.hid (hb06.out.trans (hb7.mono hb06.out.size))
        clear hT m3 hb7 d0 d1 d2 d3
        go_wp2_with fail
        rw [Exit.noGoto_ret]
        refine bodyPost_ret (v := .tuple #[.agg #[.bool sn, .string bn], .int .i64 cd]) (by simp [results, Try.results34, go_sem, y0, y1]) rfl ?_
        have hA := hfin w _ True trivial ((hb07.out.setCell (p := ⟨w.heap.size, 0, none⟩) (Nat.le_refl w.heap.size) (.bool sn)).setCell (p := ⟨w.heap.size, 1, none⟩) (Nat.le_refl w.heap.size) (.string bn))
        exact ⟨fun h => absurd Hn.out.1 (by omega), fun _ h => absurd HG.out h, fun _ _ hf => hA.1 trivial hf, fun _ _ hf => hA.2.1 trivial hf, hA.2.2.2⟩
set_option maxRecDepth 100000 in
set_option maxHeartbeats 2000000 in
theorem wread_bare {w : World} {s : ByteArray} (hs : s.size ≤ 40000) (h0 : 0 < s.size) (hc : s[0] ≠ 45) : Calls Try.prog 34 #[.string s] w (Readd w s.data.toList) := by
  have hF : rfirst s.data.toList = 0 := by
    unfold rfirst signOf
    rw [head_of h0, if_neg]
    intro h
    have h1 := beq_iff_eq.1 h
    injection h1 with h1
    exact hc h1
  have hd0 : s[0].toNat ≠ 45 := fun h => hc (UInt8.toNat_inj.1 h)
  have hd1 : ((s[0].toNat : Int) == 45) = false := beq_eq_false_iff_ne.2 (by omega)
  obtain ⟨q1, q2⟩ := str_facts h0
  clear hc
  obtain ⟨l, hle⟩ : ∃ l, l = s.data.toList := ⟨_, rfl⟩
  have hl : l.length = s.size := by rw [hle]; exact Array.length_toList
  have hget : ∀ j (h : j < s.size) (h' : j < l.length), s[j] = l[j] := by subst hle; intro j h h'; rfl
  rw [← hle] at hF ⊢
  have HF := Lib.hid hF
  have hb := new_below w (.cells #[.bool false, .string ⟨#[]⟩] 26)
  have k2 := Blk.new w 26 #[.bool false, .string ⟨#[]⟩]
  have Hb := Lib.hid (And.intro hb k2)
  have hz : IntS ((w.alloc (.cells #[.bool false, .string ⟨#[]⟩] 26)).alloc (.cells #[.bool false, .slice none 0 0] 82)) (w.heap.size + 1) := by
    have := zslot (w.alloc (.cells #[.bool false, .string ⟨#[]⟩] 26))
    rw [World.size_alloc] at this
    exact this
  have Hz := Lib.hid hz
  have Hn := Lib.hid (And.intro (show l.length ≤ 40000 by omega) (And.intro hl (And.intro hget hle)))
  have hsi : (s.size : Int) ≤ 40000 := by omega
  clear hb k2 hz hl hget hle hF
  go_enter Try.func34, Try.ntmps34
  go_wp2_with fail
  go_step3
  go_wp2_with fail
  go_step3
  go_wp2_with fail
  go_loopg [4, 6] (s.size - 0) (fun k av cv wr => ∃ i : Nat, av = .int .i64 (i : Int) ∧ Hid (k = s.size - i) ∧ 0 ≤ i ∧ i ≤ s.size ∧ Hid ((∀ j b, 0 ≤ j → j < i → l[j]? = some b → IsDig b) ∧ (0 < i → l[0]? = some 48 → l.length ≤ 1)) ∧ w.alloc (.cells #[.bool false, .string ⟨#[]⟩] 26) = wr)
  case atStart => exact ⟨0, rfl, Lib.hid rfl, Nat.le_refl _, by omega, Lib.hid ⟨fun j b h1 h2 => by omega, fun h => by omega⟩, rfl⟩
  case round =>
    obtain ⟨i, rfl, Hk, hFi, hin, HI, rfl⟩ := hrel
    have hz := Hz.out
    by_cases hi : i < s.size
    · have hil : i < l.length := by have := Hn.out.2.1; omega
      have hyi : s[i] = l[i] := Hn.out.2.2.1 i hi hil
      have hli : l[i]? = some l[i] := List.getElem?_eq_getElem hil
      obtain ⟨y, hy⟩ : ∃ y, y = l[i] := ⟨_, rfl⟩
      rw [← hy] at hyi hli
      have hyn : s[i].toNat = y.toNat := by rw [hyi]
      have Hli := Lib.hid hli
      have hy8 := UInt8.toNat_lt y
      have hii : (i : Int) < (s.size : Int) := by omega
      clear hy hyi hli hil
      by_cases hd : IsDig y
      · have Hd := Lib.hid hd
        obtain ⟨g1, g2⟩ := hd
        have g3 : (48 : Int) ≤ (y.toNat : Int) := by omega
        have g4 : (y.toNat : Int) ≤ 57 := by omega
        by_cases hlead : y.toNat = 48 ∧ i = 0 ∧ 1 < s.size
        · obtain ⟨e1, rfl, e3⟩ := hlead
          have e4 : (1 : Int) < (s.size : Int) := by omega
          have Hno := Lib.hid (show ¬ Good l by
            unfold Good
            rw [HF.out]
            intro h
            have h1 := h.2.2 (by rw [Hli.out]; congr 1; exact UInt8.toNat_inj.1 e1)
            have := Hn.out.2.1
            omega)
          rw [e1] at hyn
          have HS := Lib.hid (setstr_any (w := (w.alloc (.cells #[.bool false, .string ⟨#[]⟩] 26)).alloc (.cells #[.bool false, .slice none 0 0] 82)) (g := w.heap.size + 1) (s := s) (v := .int .i64 10) hz (by omega))
          go_wp2_with fail
          refine HS.out.mono ?_
          rintro e w6 ⟨p, b, rfl, hg, hok⟩
          have hb6 := grown_w hg
          have m2 := Hb.out.2.below hb6 (Nat.lt_succ_self _)
          have d0 : w6.cell? ⟨w.heap.size, 0, none⟩ = some (.bool false) := m2.cell 0
          have d1 : w6.cell? ⟨w.heap.size, 1, none⟩ = some (.string ⟨#[]⟩) := m2.cell 1
          have d2 := m2.frozen 0
          have d3 := m2.frozen 1
          have hb06 := Lib.hid (Hb.out.1.trans (hb6.mono (by omega)))
          clear hb6 m2 HS
          go_wp2_with fail
          rw [Exit.noGoto_ret]
          refine bodyPost_ret (v := .tuple #[.agg #[.bool false, .string ⟨#[]⟩], .int .i64 120]) (by simp [results, Try.results34, go_sem, d0, d1]) rfl ?_
          exact ⟨fun h => absurd Hn.out.1 (by omega), fun _ _ => rfl, fun _ h => absurd h Hno.out, fun _ h => absurd h Hno.out, (hb06.out.setCell (Nat.le_refl w.heap.size) _).setCell (Nat.le_refl w.heap.size) _⟩
        · have hl0 : ((y.toNat : Int) == 48 && ((i : Int) == 0) && decide ((1 : Int) < (s.size : Int))) = false := by
            rw [Bool.and_eq_false_iff, Bool.and_eq_false_iff]
            by_cases e1 : y.toNat = 48
            · by_cases e2 : i = 0
              · exact .inr (decide_eq_false (by omega))
              · exact .inl (.inr (beq_eq_false_iff_ne.2 (by omega)))
            · exact .inl (.inl (beq_eq_false_iff_ne.2 (by omega)))
          have Hlead := Lib.hid hlead
          clear hlead
          have hcase : (y.toNat : Int) ≠ 48 ∨ (i : Int) ≠ 0 ∨ (s.size : Int) ≤ 1 := by
            have := Hlead.out
            omega
          have HX : Hid ((∀ j b, 0 ≤ j → j < i + 1 → l[j]? = some b → IsDig b) ∧ (0 < i + 1 → l[0]? = some 48 → l.length ≤ 1)) := by
            refine Lib.hid ⟨fun j b h1 h2 h3 => ?_, fun h1 h2 => ?_⟩
            · rcases Nat.lt_or_ge j i with h4 | h4
              · exact HI.out.1 j b h1 h4 h3
              · obtain rfl : j = i := by omega
                rw [Hli.out] at h3
                injection h3 with h3
                subst h3
                exact Hd.out
            · rcases Nat.lt_or_ge 0 i with h4 | h4
              · exact HI.out.2 h4 h2
              · obtain rfl : i = 0 := by omega
                rw [Hli.out] at h2
                injection h2 with h2
                have h5 : ¬ 1 < s.size := fun h => Hlead.out ⟨by rw [h2]; rfl, rfl, h⟩
                have := Hn.out.2.1
                omega
          rcases hcase with hc | hc | hc
          · have hc2 : ((y.toNat : Int) == 48) = false := beq_eq_false_iff_ne.2 hc
            clear hl0 hc
            go_wp2_with fail
            go_roundg (s.size - (i + 1))
            case measure => have := Hk.out; omega
            case rel => exact ⟨i + 1, rfl, Lib.hid rfl, by omega, by omega, HX, rfl⟩
          · have hc2 : ((i : Int) == 0) = false := beq_eq_false_iff_ne.2 hc
            have hc21 : (i == 0) = false := beq_eq_false_iff_ne.2 (by omega)
            have hc22 : ¬ i = 0 := by omega
            clear hl0
            by_cases hc3 : y.toNat = 48
            · rw [hc3] at hyn
              go_wp2_with fail
              go_roundg (s.size - (i + 1))
              case measure => have := Hk.out; omega
              case rel => exact ⟨i + 1, rfl, Lib.hid rfl, by omega, by omega, HX, rfl⟩
            · have hc4 : ((y.toNat : Int) == 48) = false := beq_eq_false_iff_ne.2 (by omega)
              go_wp2_with fail
              go_roundg (s.size - (i + 1))
              case measure => have := Hk.out; omega
              case rel => exact ⟨i + 1, rfl, Lib.hid rfl, by omega, by omega, HX, rfl⟩
          · clear hl0
            have hc7 : decide ((1 : Int) < (s.size : Int)) = false := decide_eq_false (by omega)
            have hc8 : ¬ 1 < s.size := by omega
            have hc9 : decide (1 < s.size) = false := decide_eq_false hc8
            by_cases hc3 : y.toNat = 48
            · rw [hc3] at hyn
              by_cases hc5 : i = 0
              · have hc6 : ((i : Int) == 0) = true := beq_iff_eq.2 (by omega)
                have hc61 : (i == 0) = true := beq_iff_eq.2 (by omega)
                have hyn0 : s[0].toNat = 48 := by subst hc5; exact hyn
                go_wp2_with fail
                go_roundg (s.size - (i + 1))
                case measure => have := Hk.out; omega
                case rel => exact ⟨i + 1, by subst hc5; rfl, Lib.hid rfl, by omega, by omega, HX, rfl⟩
              · have hc6 : ((i : Int) == 0) = false := beq_eq_false_iff_ne.2 (by omega)
                have hc61 : (i == 0) = false := beq_eq_false_iff_ne.2 (by omega)
                go_wp2_with fail
                go_roundg (s.size - (i + 1))
                case measure => have := Hk.out; omega
                case rel => exact ⟨i + 1, rfl, Lib.hid rfl, by omega, by omega, HX, rfl⟩
            · have hc4 : ((y.toNat : Int) == 48) = false := beq_eq_false_iff_ne.2 (by omega)
              go_wp2_with fail
              go_roundg (s.size - (i + 1))
              case measure => have := Hk.out; omega
              case rel => exact ⟨i + 1, rfl, Lib.hid rfl, by omega, by omega, HX, rfl⟩
      · have Hno := Lib.hid (show ¬ Good l by
          unfold Good
          rw [HF.out]
          intro h
          exact hd (h.1 i y hFi Hli.out))
        have Hd := Lib.hid hd
        rcases Nat.lt_or_ge y.toNat 48 with g1 | g1
        · have g3 : (y.toNat : Int) < 48 := by omega
          clear hd
          have HS := Lib.hid (setstr_any (w := (w.alloc (.cells #[.bool false, .string ⟨#[]⟩] 26)).alloc (.cells #[.bool false, .slice none 0 0] 82)) (g := w.heap.size + 1) (s := s) (v := .int .i64 10) hz (by omega))
          go_wp2_with fail
          refine HS.out.mono ?_
          rintro e w6 ⟨p, b, rfl, hg, hok⟩
          have hb6 := grown_w hg
          have m2 := Hb.out.2.below hb6 (Nat.lt_succ_self _)
          have d0 : w6.cell? ⟨w.heap.size, 0, none⟩ = some (.bool false) := m2.cell 0
          have d1 : w6.cell? ⟨w.heap.size, 1, none⟩ = some (.string ⟨#[]⟩) := m2.cell 1
          have d2 := m2.frozen 0
          have d3 := m2.frozen 1
          have hb06 := Lib.hid (Hb.out.1.trans (hb6.mono (by omega)))
          clear hb6 m2 HS
          go_wp2_with fail
          rw [Exit.noGoto_ret]
          refine bodyPost_ret (v := .tuple #[.agg #[.bool false, .string ⟨#[]⟩], .int .i64 120]) (by simp [results, Try.results34, go_sem, d0, d1]) rfl ?_
          exact ⟨fun h => absurd Hn.out.1 (by omega), fun _ _ => rfl, fun _ h => absurd h Hno.out, fun _ h => absurd h Hno.out, (hb06.out.setCell (Nat.le_refl w.heap.size) _).setCell (Nat.le_refl w.heap.size) _⟩
        · have g3 : (48 : Int) ≤ (y.toNat : Int) := by omega
          have g4 : (57 : Int) < (y.toNat : Int) := by
            have := Hd.out
            unfold IsDig at this
            omega
          clear hd
          have HS := Lib.hid (setstr_any (w := (w.alloc (.cells #[.bool false, .string ⟨#[]⟩] 26)).alloc (.cells #[.bool false, .slice none 0 0] 82)) (g := w.heap.size + 1) (s := s) (v := .int .i64 10) hz (by omega))
          go_wp2_with fail
          refine HS.out.mono ?_
          rintro e w6 ⟨p, b, rfl, hg, hok⟩
          have hb6 := grown_w hg
          have m2 := Hb.out.2.below hb6 (Nat.lt_succ_self _)
          have d0 : w6.cell? ⟨w.heap.size, 0, none⟩ = some (.bool false) := m2.cell 0
          have d1 : w6.cell? ⟨w.heap.size, 1, none⟩ = some (.string ⟨#[]⟩) := m2.cell 1
          have d2 := m2.frozen 0
          have d3 := m2.frozen 1
          have hb06 := Lib.hid (Hb.out.1.trans (hb6.mono (by omega)))
          clear hb6 m2 HS
          go_wp2_with fail
          rw [Exit.noGoto_ret]
          refine bodyPost_ret (v := .tuple #[.agg #[.bool false, .string ⟨#[]⟩], .int .i64 120]) (by simp [results, Try.results34, go_sem, d0, d1]) rfl ?_
          exact ⟨fun h => absurd Hn.out.1 (by omega), fun _ _ => rfl, fun _ h => absurd h Hno.out, fun _ h => absurd h Hno.out, (hb06.out.setCell (Nat.le_refl w.heap.size) _).setCell (Nat.le_refl w.heap.size) _⟩
    · have hin2 : i = s.size := by omega
      subst hin2
      have hlt : ∀ j b, l[j]? = some b → j < s.size := fun j b h => by
        rcases Nat.lt_or_ge j l.length with h1 | h1
        · have := Hn.out.2.1; omega
        · rw [List.getElem?_eq_none h1] at h; cases h
      have Hlt := Lib.hid hlt
      clear hlt hi
      by_cases hnF : s.size = 0
      · exact absurd hnF (by omega)
      · have hnb : ((s.size : Int) == 0) = false := beq_eq_false_iff_ne.2 (by omega)
        have hnb1 : (s.size == 0) = false := beq_eq_false_iff_ne.2 hnF
        have hnb2 : ¬ s.size = 0 := hnF
        have hnb3 : ¬ s = ByteArray.empty := fun h => by rw [h] at h0; exact absurd h0 (by decide)
        have HG := Lib.hid (show Good l by
          unfold Good
          rw [HF.out]
          exact ⟨fun j b h1 h2 => HI.out.1 j b h1 (Hlt.out j b h2) h2, by have := Hn.out.2.1; omega, fun h => HI.out.2 (by omega) h⟩)
        clear hnF
        have HS := Lib.hid (setstr_any (w := (w.alloc (.cells #[.bool false, .string ⟨#[]⟩] 26)).alloc (.cells #[.bool false, .slice none 0 0] 82)) (g := w.heap.size + 1) (s := s) (v := .int .i64 10) hz (by omega))
        go_wp2_with fail
        refine HS.out.mono ?_
        rintro e w6 ⟨p, b, rfl, hg, hok⟩
        have hb6 := grown_w hg
        have m2 := Hb.out.2.below hb6 (Nat.lt_succ_self _)
        have d0 : w6.cell? ⟨w.heap.size, 0, none⟩ = some (.bool false) := m2.cell 0
        have d1 : w6.cell? ⟨w.heap.size, 1, none⟩ = some (.string ⟨#[]⟩) := m2.cell 1
        have d2 := m2.frozen 0
        have d3 := m2.frozen 1
        have hb06 := Lib.hid (Hb.out.1.trans (hb6.mono (by omega)))
        clear hb6 m2 HS
        rw [← Hn.out.2.2.2, good_body HG.out] at hok
        obtain ⟨rfl, rfl, hi6⟩ := hok (good_dig HG.out).2 (good_dig HG.out).1
        have hlen : (wds (rval l).natAbs).length ≤ 40000 := by
          unfold rval
          rw [sgn_abs]
          exact dv_len (good_dig HG.out).1 (Nat.le_trans (by rw [List.length_drop]; omega) Hn.out.1)
        have HT := Lib.hid (told_any (z := rval l) hi6 (Nat.le_trans hlen (by decide)))
        have Hm6 := Lib.hid (show Blk w6 w.heap.size 26 #[.bool false, .string ⟨#[]⟩] from Hb.out.2.below (grown_w hg) (Nat.lt_succ_self _))
        clear hi6 hg hlen
        go_wp2_with fail
        refine HT.out.mono ?_
        intro e w7 hT
        obtain ⟨sn, bn, cd, rfl, hb7, hfin⟩ := tells_form hT
        have m3 := Hm6.out.below hb7 Hm6.out.lt
        have y0 : w7.cell? ⟨w.heap.size, 0, none⟩ = some (.bool false) := m3.cell 0
        have y1 : w7.cell? ⟨w.heap.size, 1, none⟩ = some (.string ⟨#[]⟩) := m3.cell 1
        have y2 := m3.frozen 0
        have y3 := m3.frozen 1
        have hb07 := Lib.hid (hb06.out.trans (hb7.mono hb06.out.size))
        clear hT m3 hb7 d0 d1 d2 d3
        go_wp2_with fail
        rw [Exit.noGoto_ret]
        refine bodyPost_ret (v := .tuple #[.agg #[.bool sn, .string bn], .int .i64 cd]) (by simp [results, Try.results34, go_sem, y0, y1]) rfl ?_
        have hA := hfin w _ True trivial ((hb07.out.setCell (p := ⟨w.heap.size, 0, none⟩) (Nat.le_refl w.heap.size) (.bool sn)).setCell (p := ⟨w.heap.size, 1, none⟩) (Nat.le_refl w.heap.size) (.string bn))
        exact ⟨fun h => absurd Hn.out.1 (by omega), fun _ h => absurd HG.out h, fun _ _ hf => hA.1 trivial hf, fun _ _ hf => hA.2.1 trivial hf, hA.2.2.2⟩
theorem wread_none {w : World} : Calls Try.prog 34 #[.string ⟨#[]⟩] w (Readd w []) := by
  have hb := new_below w (.cells #[.bool false, .string ⟨#[]⟩] 26)
  have k2 := Blk.new w 26 #[.bool false, .string ⟨#[]⟩]
  have Hb := Lib.hid (And.intro hb k2)
  have hz : IntS ((w.alloc (.cells #[.bool false, .string ⟨#[]⟩] 26)).alloc (.cells #[.bool false, .slice none 0 0] 82)) (w.heap.size + 1) := by
    have := zslot (w.alloc (.cells #[.bool false, .string ⟨#[]⟩] 26))
    rw [World.size_alloc] at this
    exact this
  have HS := Lib.hid (setstr_any (w := (w.alloc (.cells #[.bool false, .string ⟨#[]⟩] 26)).alloc (.cells #[.bool false, .slice none 0 0] 82)) (g := w.heap.size + 1) (s := ⟨#[]⟩) (v := .int .i64 10) hz (by decide))
  have Hno := Lib.hid (show ¬ Good [] from fun h => absurd h.2.1 (by simp))
  clear hb k2 hz
  go_enter Try.func34, Try.ntmps34
  go_wp2_with fail
  go_step3
  go_wp2_with fail
  go_step3
  go_wp2_with fail
  go_loopg [4, 6] 0 (fun k av cv wr => av = .int .i64 0 ∧ w.alloc (.cells #[.bool false, .string ⟨#[]⟩] 26) = wr)
  case atStart => exact ⟨rfl, rfl⟩
  case round =>
    obtain ⟨rfl, rfl⟩ := hrel
    go_wp2_with fail
    refine HS.out.mono ?_
    rintro e w6 ⟨p, b, rfl, hg, hok⟩
    have hb6 := grown_w hg
    have m2 := Hb.out.2.below hb6 (Nat.lt_succ_self _)
    have d0 : w6.cell? ⟨w.heap.size, 0, none⟩ = some (.bool false) := m2.cell 0
    have d1 : w6.cell? ⟨w.heap.size, 1, none⟩ = some (.string ⟨#[]⟩) := m2.cell 1
    have d2 := m2.frozen 0
    have d3 := m2.frozen 1
    have hb06 := Lib.hid (Hb.out.1.trans (hb6.mono (by omega)))
    clear hb6 m2 HS
    go_wp2_with fail
    rw [Exit.noGoto_ret]
    refine bodyPost_ret (v := .tuple #[.agg #[.bool false, .string ⟨#[]⟩], .int .i64 120]) (by simp [results, Try.results34, go_sem, d0, d1]) rfl ?_
    exact ⟨fun h => absurd h (by decide), fun _ _ => rfl, fun _ h => absurd h Hno.out, fun _ h => absurd h Hno.out, (hb06.out.setCell (Nat.le_refl w.heap.size) _).setCell (Nat.le_refl w.heap.size) _⟩
theorem wread_any {w : World} {s : ByteArray} : Calls Try.prog 34 #[.string s] w (Readd w s.data.toList) := by
  rcases Nat.lt_or_ge 40000 s.size with h | h
  · exact wread_long h
  · rcases Nat.eq_zero_or_pos s.size with h0 | h0
    · have hl : s.data.toList.length = s.size := Array.length_toList
      obtain rfl := str_empty (List.eq_nil_of_length_eq_zero (show s.data.toList.length = 0 by omega))
      exact wread_none
    · by_cases h1 : s[0] = 45
      · exact wread_neg h h0 h1
      · exact wread_bare h h0 h1
end Go.Proofs.Ytpnginnjbdedbaa
