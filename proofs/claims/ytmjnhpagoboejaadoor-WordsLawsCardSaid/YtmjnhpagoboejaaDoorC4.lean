import Derived.Test.YtmjnhpagoboejaaDoorC3
import Derived.Lib.AtoiAll
import Derived.Lib.AtoiAllCases
import Derived.Lib.SplitLaws
import Derived.Shelf.Strconv.AtoiAll
import Derived.Shelf.LaysC
import Derived.Shelf.Strings.Split
import Derived.Test.YtmjnhpagoboejaaDoorProg
import Derived.Test.YtmjnhpagoboejaaDoorC2
import Derived.Test.YtmjnhpagoboejaaDoorC1
/- words.Read, in plain lists: what a text says, by the program's road and by the reference's. -/
namespace Go.Proofs.YtmjnhpagoboejaaDoor
open Wd
set_option linter.unusedSimpArgs false
set_option linter.unusedVariables false

/-- a letter's digits, by their number -/
def dig2 (u : Nat) : List UInt8 := if u < 10 then [UInt8.ofNat (48 + u)] else [UInt8.ofNat (48 + u / 10), UInt8.ofNat (48 + u % 10)]
theorem dig2_eq {u : Nat} (h : u < 100) : Lib.decDigits u = dig2 u := by
  unfold dig2
  by_cases h1 : u < 10
  · rw [if_pos h1, Lib.decDigits_one h1]
  · rw [if_neg h1, Lib.decDigits_two h1 h]
def itoa2 (k : Int) : List UInt8 := if k < 0 then 45 :: dig2 k.natAbs else dig2 k.toNat
theorem itoa2_eq {k : Int} (h1 : -64 ≤ k) (h2 : k ≤ 64) : Lib.itoa k = itoa2 k := by
  unfold Lib.itoa itoa2
  by_cases h : k < 0
  · rw [if_pos h, if_pos h, dig2_eq (by omega)]
  · rw [if_neg h, if_neg h, dig2_eq (by omega)]
def okOne (k : Int) : Bool := decide (Lib.atoiAll (itoa2 k) = .ok k) && (itoa2 k).all (fun b => b != 32) && decide ((itoa2 k).length ≤ 3) && decide (1 ≤ (itoa2 k).length)
theorem okOne_all : ((List.range 129).all fun i => okOne ((i : Int) - 64)) = true := by decide +kernel
theorem okOne_of {k : Int} (h1 : -64 ≤ k) (h2 : k ≤ 64) : okOne k = true := by
  have h := List.all_eq_true.1 okOne_all (k + 64).toNat (List.mem_range.2 (by omega))
  rw [show (((k + 64).toNat : Nat) : Int) - 64 = k by omega] at h
  exact h
theorem atoi_itoa {k : Int} (h1 : -64 ≤ k) (h2 : k ≤ 64) : Lib.atoiAll (Lib.itoa k) = .ok k ∧ (∀ b ∈ Lib.itoa k, b ≠ 32) ∧ (Lib.itoa k).length ≤ 3 ∧ 1 ≤ (Lib.itoa k).length := by
  have h := okOne_of h1 h2
  unfold okOne at h
  rw [itoa2_eq h1 h2]
  simp only [Bool.and_eq_true, decide_eq_true_eq, List.all_eq_true, bne_iff_ne] at h
  exact ⟨h.1.1.1, h.1.1.2, h.1.2, h.2⟩
theorem noDot_all : ((List.range 129).all fun i => (itoa2 ((i : Int) - 64)).head? != some 46) = true := by decide +kernel
theorem indexByte_of {x r : List UInt8} {c : UInt8} : (∀ b ∈ x, b ≠ c) → Lib.indexByte (x ++ c :: r) c = (x.length : Int) := by
  induction x with
  | nil => intro _; simp [Lib.indexByte]
  | cons b x ih =>
    intro h
    have hb := h b List.mem_cons_self
    have hi := ih (fun b hb => h b (List.mem_cons_of_mem _ hb))
    rw [List.cons_append, Lib.indexByte, hi, if_neg (by simpa using hb), if_neg (by simp), List.length_cons]
    omega
theorem indexByte_no {x : List UInt8} {c : UInt8} : (∀ b ∈ x, b ≠ c) → Lib.indexByte x c = -1 := by
  induction x with
  | nil => intro _; rfl
  | cons b x ih =>
    intro h
    rw [Lib.indexByte, ih (fun b hb => h b (List.mem_cons_of_mem _ hb)), if_neg (by simpa using h b List.mem_cons_self)]
    rfl
theorem join_cons2 (x y : List UInt8) (r : List (List UInt8)) : Lib.join (x :: y :: r) [32] = x ++ 32 :: Lib.join (y :: r) [32] := by
  simp [Lib.join, List.intercalate, List.intersperse]
theorem join_one (x : List UInt8) : Lib.join [x] [32] = x := by simp [Lib.join, List.intercalate]
theorem split_join : ∀ {xs : List (List UInt8)} (k : Nat), xs ≠ [] → (∀ x ∈ xs, ∀ b ∈ x, b ≠ 32) → xs.length ≤ k + 1 → Lib.splitK [32] 0 k (Lib.join xs [32]) = xs
  | [], _, h, _, _ => absurd rfl h
  | [x], k, _, hx, _ => by
    rw [join_one]
    cases k with
    | zero => rfl
    | succ k =>
      rw [Lib.splitK, Lib.index_one, indexByte_no (hx x List.mem_cons_self)]
      rfl
  | x :: y :: r, 0, _, _, hk => by simp at hk
  | x :: y :: r, k + 1, _, hx, hk => by
    rw [join_cons2, Lib.splitK, Lib.index_one, indexByte_of (hx x List.mem_cons_self), if_neg (by simp)]
    rw [show (((x.length : Nat) : Int).toNat + 0) = x.length by simp, List.take_left', show (((x.length : Nat) : Int).toNat + [(32 : UInt8)].length) = x.length + 1 by simp]
    · rw [show (x ++ 32 :: Lib.join (y :: r) [32]).drop (x.length + 1) = Lib.join (y :: r) [32] by
        rw [← List.drop_drop, List.drop_left']
        · rfl
        · rfl]
      rw [split_join k (by simp) (fun z hz => hx z (List.mem_cons_of_mem _ hz)) (by simpa using hk)]
    · rfl
theorem count_join : ∀ {xs : List (List UInt8)}, xs ≠ [] → (∀ x ∈ xs, ∀ b ∈ x, b ≠ 32) → Lib.count (Lib.join xs [32]) [32] + 1 = xs.length
  | [], h, _ => absurd rfl h
  | [x], _, hx => by
    rw [join_one, Lib.count_miss (by rw [Lib.index_one, indexByte_no (hx x List.mem_cons_self)])]
    rfl
  | x :: y :: r, _, hx => by
    have h := count_join (xs := y :: r) (by simp) (fun z hz => hx z (List.mem_cons_of_mem _ hz))
    rw [join_cons2, Lib.count_hit (i := x.length) (by simp) (by rw [Lib.index_one, indexByte_of (hx x List.mem_cons_self)])]
    rw [show (x :: y :: r).length = (y :: r).length + 1 from rfl, ← h]
    rw [show (x ++ 32 :: Lib.join (y :: r) [32]).drop (x.length + [(32 : UInt8)].length) = Lib.join (y :: r) [32] by
      rw [List.length_singleton, ← List.drop_drop, List.drop_left']
      · rfl
      · rfl]
    omega
theorem join_len : ∀ {xs : List (List UInt8)}, (∀ x ∈ xs, x.length ≤ 3) → (Lib.join xs [32]).length ≤ 4 * xs.length
  | [], _ => by simp [Lib.join, List.intercalate]
  | [x], h => by rw [join_one]; have := h x List.mem_cons_self; simp; omega
  | x :: y :: r, h => by
    have h1 := join_len (xs := y :: r) (fun z hz => h z (List.mem_cons_of_mem _ hz))
    have h2 := h x List.mem_cons_self
    rw [join_cons2, List.length_append, List.length_cons]
    simp only [List.length_cons] at h1 ⊢
    omega
theorem splitK_short : ∀ (k : Nat) (s : List UInt8) (x : List UInt8), x ∈ Lib.splitK [32] 0 k s → x.length ≤ s.length
  | 0, s, x, h => by rw [Lib.splitK, List.mem_singleton] at h; rw [h]; exact Nat.le_refl _
  | k + 1, s, x, h => by
    rw [Lib.splitK] at h
    split at h
    · rw [List.mem_singleton] at h; rw [h]; exact Nat.le_refl _
    · rcases List.mem_cons.1 h with h | h
      · rw [h, List.length_take]; omega
      · have := splitK_short k _ x h
        rw [List.length_drop] at this
        omega
/-- all of them, or none -/
def atoiL : List (List UInt8) → Option (List Int)
  | [] => some []
  | x :: r => match Lib.atoiAll x with
    | .ok v => (atoiL r).map (v :: ·)
    | _ => none
theorem atoiL_itoa : ∀ {w : List Int}, LetL w → atoiL (w.map Lib.itoa) = some w
  | [], _ => rfl
  | k :: r, h => by
    have hk := h k List.mem_cons_self
    rw [List.map_cons, atoiL, (atoi_itoa hk.2.1 hk.2.2).1, atoiL_itoa (fun x hx => h x (List.mem_cons_of_mem _ hx))]
    rfl
theorem atoiL_snoc : ∀ (xs : List (List UInt8)) (x : List UInt8), atoiL (xs ++ [x]) = (match atoiL xs with
    | none => none
    | some l => match Lib.atoiAll x with
      | .ok v => some (l ++ [v])
      | _ => none)
  | [], x => by
    show (match Lib.atoiAll x with
      | .ok v => (atoiL []).map (v :: ·)
      | _ => none) = _
    cases Lib.atoiAll x <;> rfl
  | y :: r, x => by
    rw [List.cons_append, atoiL, atoiL, atoiL_snoc r x]
    cases Lib.atoiAll y with
    | ok u =>
      cases atoiL r with
      | none => rfl
      | some l => cases Lib.atoiAll x <;> rfl
    | range => rfl
    | _ => rfl
theorem atoiL_front : ∀ (xs ys : List (List UInt8)), atoiL xs = none → atoiL (xs ++ ys) = none
  | [], _, h => by cases h
  | y :: r, ys, h => by
    rw [List.cons_append, atoiL]
    rw [atoiL] at h
    cases hy : Lib.atoiAll y with
    | ok u =>
      rw [hy] at h
      have h2 : atoiL r = none := by
        cases hr : atoiL r with
        | none => rfl
        | some l => rw [hr] at h; cases h
      show (atoiL (r ++ ys)).map (u :: ·) = none
      rw [atoiL_front r ys h2]
      rfl
    | range => rfl
    | _ => rfl
theorem atoiL_len : ∀ {xs : List (List UInt8)} {l : List Int}, atoiL xs = some l → l.length = xs.length
  | [], l, h => by injection h with h; rw [← h]; rfl
  | y :: r, l, h => by
    rw [atoiL] at h
    cases hy : Lib.atoiAll y with
    | ok u =>
      rw [hy] at h
      obtain ⟨l', h1, h2⟩ := Option.map_eq_some_iff.1 h
      rw [← h2, List.length_cons, List.length_cons, atoiL_len h1]
    | range => rw [hy] at h; cases h
    | _ => rw [hy] at h; cases h
/-- what the program's Read answers -/
def preadW (s : List UInt8) : Option (List Int) :=
  if s = [46] then some []
  else if 16384 < s.length then none
  else match atoiL (Lib.splitK [32] 0 (Lib.count s [32]) s) with
    | none => none
    | some w => if chk [w] = 0 ∧ txt w = s then some w else none
theorem pread_long {s : List UInt8} (h1 : s ≠ [46]) (h2 : 16384 < s.length) : preadW s = none := by unfold preadW; rw [if_neg h1, if_pos h2]
theorem pread_none {s : List UInt8} (h1 : s ≠ [46]) (h2 : s.length ≤ 16384) (h3 : atoiL (Lib.splitK [32] 0 (Lib.count s [32]) s) = none) : preadW s = none := by unfold preadW; rw [if_neg h1, if_neg (by omega), h3]
theorem pread_yes {s : List UInt8} {w : List Int} (h1 : s ≠ [46]) (h2 : s.length ≤ 16384) (h3 : atoiL (Lib.splitK [32] 0 (Lib.count s [32]) s) = some w) (h4 : chk [w] = 0) (h5 : txt w = s) : preadW s = some w := by
  unfold preadW; rw [if_neg h1, if_neg (by omega), h3]; exact if_pos ⟨h4, h5⟩
theorem pread_no {s : List UInt8} {w : List Int} (h1 : s ≠ [46]) (h2 : s.length ≤ 16384) (h3 : atoiL (Lib.splitK [32] 0 (Lib.count s [32]) s) = some w) (h4 : ¬ (chk [w] = 0 ∧ txt w = s)) : preadW s = none := by
  unfold preadW; rw [if_neg h1, if_neg (by omega), h3]; exact if_neg h4
theorem atoiL_bounds : ∀ {xs : List (List UInt8)} {l : List Int}, atoiL xs = some l → ∀ k ∈ l, -9223372036854775808 ≤ k ∧ k ≤ 9223372036854775807
  | [], l, h => by injection h with h; rw [← h]; intro k hk; cases hk
  | y :: r, l, h => by
    rw [atoiL] at h
    cases hy : Lib.atoiAll y with
    | ok u =>
      rw [hy] at h
      obtain ⟨l', h1, h2⟩ := Option.map_eq_some_iff.1 h
      rw [← h2]
      intro k hk
      rcases List.mem_cons.1 hk with hk | hk
      · rw [hk]; exact Lib.atoiAll_bounds hy
      · exact atoiL_bounds h1 k hk
    | range => rw [hy] at h; cases h
    | _ => rw [hy] at h; cases h
theorem txt_parts {w : List Int} (hw : w ≠ []) : txt w = Lib.join (w.map Lib.itoa) [32] := by unfold txt; rw [if_neg hw]
theorem pread_dot {w : List Int} (hl : LetL w) (hw : w ≠ []) (h : txt w = [46]) : False := by
  cases w with
  | nil => exact hw rfl
  | cons k r =>
    have hk := hl k List.mem_cons_self
    obtain ⟨_, _, _, h1⟩ := atoi_itoa hk.2.1 hk.2.2
    have hd : okOne k = true ∧ (itoa2 k).head? ≠ some 46 := ⟨okOne_of hk.2.1 hk.2.2, by
      have h := List.all_eq_true.1 noDot_all (k + 64).toNat (List.mem_range.2 (by omega))
      rw [show (((k + 64).toNat : Nat) : Int) - 64 = k by omega] at h
      simpa using h⟩
    rw [txt_parts (by simp), List.map_cons] at h
    rw [itoa2_eq hk.2.1 hk.2.2] at h h1
    have hh : (itoa2 k).head? = some 46 := by
      cases hi : itoa2 k with
      | nil => rw [hi] at h1; simp at h1
      | cons b t =>
        rw [hi] at h
        cases r with
        | nil => rw [List.map_nil, join_one] at h; injection h with h _; rw [h]; rfl
        | cons l r => rw [List.map_cons, join_cons2, List.cons_append] at h; injection h with h _; rw [h]; rfl
    exact hd.2 hh
theorem pread_txt {w : List Int} (hc : chk [w] = 0) : preadW (txt w) = some w := by
  obtain ⟨hword, hlen⟩ := chk_one.1 hc
  have hlet := word_let hword
  by_cases hw : w = []
  · subst hw; rfl
  · have hx : ∀ x ∈ w.map Lib.itoa, ∀ b ∈ x, b ≠ 32 := fun x hx => by
      obtain ⟨k, hk, rfl⟩ := List.mem_map.1 hx
      exact (atoi_itoa (hlet k hk).2.1 (hlet k hk).2.2).2.1
    have hne : w.map Lib.itoa ≠ [] := by simpa using hw
    have h3 : ∀ x ∈ w.map Lib.itoa, x.length ≤ 3 := fun x hx => by
      obtain ⟨k, hk, rfl⟩ := List.mem_map.1 hx
      exact (atoi_itoa (hlet k hk).2.1 (hlet k hk).2.2).2.2.1
    have hl := join_len h3
    rw [List.length_map] at hl
    have hcnt := count_join hne hx
    unfold preadW
    rw [if_neg (fun h => ?_), txt_parts hw, if_neg (by omega), split_join _ hne hx (by omega), atoiL_itoa hlet]
    · show (if chk [w] = 0 ∧ txt w = Lib.join (w.map Lib.itoa) [32] then some w else none) = some w
      rw [if_pos ⟨hc, txt_parts hw⟩]
    · have h2 := pread_dot hlet hw h
      exact h2
theorem pread_some {s : List UInt8} {w : List Int} (h : preadW s = some w) : chk [w] = 0 ∧ txt w = s := by
  unfold preadW at h
  split at h
  · rename_i hs
    injection h with h
    rw [← h, hs]
    exact ⟨by decide, rfl⟩
  · split at h
    · cases h
    · split at h
      · cases h
      · split at h
        · rename_i hh
          injection h with h
          rw [← h]
          exact hh
        · cases h
/-- the reference's state: a sign, a number, some digit, the letters so far -/
abbrev RSt := Bool × Nat × Bool × List Int
def sgnd (neg : Bool) (n : Nat) : Int := if neg then -(n : Int) else n
def rstep (b : UInt8) : RSt → Option RSt
  | (neg, n, som, acc) =>
    if b = 32 then some (false, 0, false, acc ++ [sgnd neg n])
    else if b = 45 ∧ som = false ∧ neg = false then some (true, n, som, acc)
    else if b.toNat < 48 ∨ 57 < b.toNat then none
    else some (neg, min (10 * n + (b.toNat - 48)) 1000, true, acc)
theorem rstep_eq (b : UInt8) (neg : Bool) (n : Nat) (som : Bool) (acc : List Int) : rstep b (neg, n, som, acc) = if b = 32 then some (false, 0, false, acc ++ [sgnd neg n])
    else if b = 45 ∧ som = false ∧ neg = false then some (true, n, som, acc)
    else if b.toNat < 48 ∨ 57 < b.toNat then none
    else some (neg, min (10 * n + (b.toNat - 48)) 1000, true, acc) := rfl
def rrun : List UInt8 → RSt → Option RSt
  | [], st => some st
  | b :: r, st => match rstep b st with
    | none => none
    | some st' => rrun r st'
theorem rrun_append : ∀ (x y : List UInt8) (st : RSt), rrun (x ++ y) st = (match rrun x st with | none => none | some st' => rrun y st')
  | [], _, _ => rfl
  | b :: r, y, st => by
    rw [List.cons_append, rrun, rrun]
    cases rstep b st with
    | none => rfl
    | some st' => exact rrun_append r y st'
/-- what the reference's Read answers -/
def rreadW (s : List UInt8) : Option (List Int) :=
  if s = [46] then some []
  else match rrun s (false, 0, false, []) with
    | none => none
    | some (neg, n, _, acc) => if chk [acc ++ [sgnd neg n]] = 0 ∧ txt (acc ++ [sgnd neg n]) = s then some (acc ++ [sgnd neg n]) else none
def okRef (k : Int) : Bool := match rrun (itoa2 k) (false, 0, false, []) with
  | some (neg, n, _, acc) => decide (sgnd neg n = k) && acc.isEmpty
  | none => false
theorem okRef_all : ((List.range 129).all fun i => okRef ((i : Int) - 64)) = true := by decide +kernel
theorem rrun_acc : ∀ (x : List UInt8) (neg : Bool) (n : Nat) (som : Bool) (acc pre : List Int), (∀ b ∈ x, b ≠ 32) → rrun x (neg, n, som, pre ++ acc) = (rrun x (neg, n, som, acc)).map (fun st => (st.1, st.2.1, st.2.2.1, pre ++ st.2.2.2))
  | [], _, _, _, _, _, _ => rfl
  | b :: r, neg, n, som, acc, pre, h => by
    have hb := h b List.mem_cons_self
    have hr := fun x hx => h x (List.mem_cons_of_mem b hx)
    rw [rrun, rrun, rstep_eq, rstep_eq, if_neg hb, if_neg hb]
    by_cases h1 : b = 45 ∧ som = false ∧ neg = false
    · rw [if_pos h1, if_pos h1]
      exact rrun_acc r _ _ _ _ _ hr
    · rw [if_neg h1, if_neg h1]
      by_cases h2 : b.toNat < 48 ∨ 57 < b.toNat
      · rw [if_pos h2, if_pos h2]; rfl
      · rw [if_neg h2, if_neg h2]
        exact rrun_acc r _ _ _ _ _ hr
theorem rrun_itoa {k : Int} (h1 : -64 ≤ k) (h2 : k ≤ 64) (pre : List Int) : ∃ neg n som, rrun (Lib.itoa k) (false, 0, false, pre) = some (neg, n, som, pre) ∧ sgnd neg n = k := by
  have h := List.all_eq_true.1 okRef_all (k + 64).toNat (List.mem_range.2 (by omega))
  rw [show (((k + 64).toNat : Nat) : Int) - 64 = k by omega] at h
  have h3 := rrun_acc (Lib.itoa k) false 0 false [] pre (atoi_itoa h1 h2).2.1
  rw [itoa2_eq h1 h2] at h3 ⊢
  rw [List.append_nil] at h3
  rw [h3]
  unfold okRef at h
  cases hr : rrun (itoa2 k) (false, 0, false, []) with
  | none => rw [hr] at h; cases h
  | some st =>
    obtain ⟨neg, n, som, acc⟩ := st
    rw [hr] at h
    simp only [Bool.and_eq_true, decide_eq_true_eq, List.isEmpty_iff] at h
    exact ⟨neg, n, som, by rw [h.2]; simp, h.1⟩
theorem rrun_join : ∀ {w : List Int} (pre : List Int), w ≠ [] → LetL w → ∃ neg n som, rrun (Lib.join (w.map Lib.itoa) [32]) (false, 0, false, pre) = some (neg, n, som, pre ++ w.dropLast) ∧ some (sgnd neg n) = w.getLast?
  | [], _, h, _ => absurd rfl h
  | [k], pre, _, h => by
    have hk := h k List.mem_cons_self
    obtain ⟨neg, n, som, h1, h2⟩ := rrun_itoa hk.2.1 hk.2.2 pre
    refine ⟨neg, n, som, ?_, by rw [h2]; rfl⟩
    rw [List.map_cons, List.map_nil, join_one, h1]
    simp
  | k :: l :: r, pre, _, h => by
    have hk := h k List.mem_cons_self
    obtain ⟨neg, n, som, h1, h2⟩ := rrun_itoa hk.2.1 hk.2.2 pre
    obtain ⟨neg', n', som', h3, h4⟩ := rrun_join (w := l :: r) (pre ++ [k]) (by simp) (fun x hx => h x (List.mem_cons_of_mem _ hx))
    refine ⟨neg', n', som', ?_, by rw [h4]; rfl⟩
    rw [List.map_cons, List.map_cons, join_cons2, rrun_append, h1]
    show rrun (32 :: Lib.join (Lib.itoa l :: List.map Lib.itoa r) [32]) (neg, n, som, pre) = _
    rw [rrun]
    show rrun (Lib.join (Lib.itoa l :: List.map Lib.itoa r) [32]) (false, 0, false, pre ++ [sgnd neg n]) = _
    rw [h2]
    rw [List.map_cons] at h3
    rw [h3]
    simp
theorem rread_txt {w : List Int} (hc : chk [w] = 0) : rreadW (txt w) = some w := by
  obtain ⟨hword, hlen⟩ := chk_one.1 hc
  have hlet := word_let hword
  by_cases hw : w = []
  · subst hw; rfl
  · obtain ⟨neg, n, som, h1, h2⟩ := rrun_join [] hw hlet
    have hlast : w.dropLast ++ [sgnd neg n] = w := by
      have h3 := List.dropLast_concat_getLast hw
      rw [List.getLast?_eq_some_getLast hw] at h2
      injection h2 with h2
      rw [h2]
      exact h3
    unfold rreadW
    rw [if_neg (fun h => pread_dot hlet hw h), txt_parts hw, h1]
    show (if chk [[] ++ w.dropLast ++ [sgnd neg n]] = 0 ∧ txt ([] ++ w.dropLast ++ [sgnd neg n]) = Lib.join (w.map Lib.itoa) [32] then some ([] ++ w.dropLast ++ [sgnd neg n]) else none) = some w
    rw [List.nil_append, hlast, if_pos ⟨hc, txt_parts hw⟩]
theorem rread_some {s : List UInt8} {w : List Int} (h : rreadW s = some w) : chk [w] = 0 ∧ txt w = s := by
  unfold rreadW at h
  split at h
  · rename_i hs
    injection h with h
    rw [← h, hs]
    exact ⟨by decide, rfl⟩
  · split at h
    · cases h
    · split at h
      · rename_i hh
        injection h with h
        rw [← h]
        exact hh
      · cases h
/-- both answer the same -/
theorem reads_same (s : List UInt8) : preadW s = rreadW s := by
  cases hp : preadW s with
  | some w =>
    obtain ⟨h1, h2⟩ := pread_some hp
    rw [← h2, rread_txt h1]
  | none =>
    cases hr : rreadW s with
    | none => rfl
    | some w =>
      obtain ⟨h1, h2⟩ := rread_some hr
      rw [← h2, pread_txt h1] at hp
      cases hp
end Go.Proofs.YtmjnhpagoboejaaDoor

/- The library's contracts that these texts use, laid at this dump (written by the kit's lay-shelf and lay-plain, pruned by mkshelf.py). -/
namespace Go.Proofs
open Go.Shelf
def Tryd.laysC172_ren : Go.Shelf.Ren := ⟨fun | 172 => 84 | 244 => 93 | 245 => 94 | 247 => 104 | 279 => 105 | 280 => 106 | 281 => 107 | 282 => 108 | 287 => 116 | 316 => 117 | 171 => 90 | 205 => 118 | 321 => 130 | 322 => 131 | 243 => 97 | 246 => 109 | 283 => 119 | 284 => 120 | 285 => 121 | 286 => 122 | 129 => 133 | 317 => 132 | 318 => 134 | 319 => 135 | 320 => 136 | 337 => 139 | 338 => 140 | n => n, fun | 9 => 9 | 3 => 3 | 75 => 98 | 76 => 99 | 4 => 4 | 5 => 5 | 167 => 120 | 37 => 107 | 0 => 0 | 85 => 121 | 2 => 2 | 168 => 123 | 53 => 57 | 175 => 132 | 46 => 108 | 210 => 136 | 127 => 127 | 145 => 149 | 143 => 147 | 21 => 21 | 171 => 138 | 173 => 141 | 212 => 151 | 51 => 152 | 20 => 20 | 213 => 153 | 232 => 162 | 233 => 163 | 80 => 117 | n => n, fun | 15 => 0 | 16 => 1 | 17 => 3 | 18 => 6 | 19 => 7 | n => n⟩
theorem Tryd.laysC172 : Go.Proofs.LaysC.n172 Tryd.prog Tryd.laysC172_ren := {
  mixed := by kernel_rfl
  f129 := Tryd.func133.trans (congrArg some (by kernel_rfl))
  f171 := Tryd.func90.trans (congrArg some (by kernel_rfl))
  f172 := Tryd.func84.trans (congrArg some (by kernel_rfl))
  f205 := Tryd.func118.trans (congrArg some (by kernel_rfl))
  f243 := Tryd.func97.trans (congrArg some (by kernel_rfl))
  f244 := Tryd.func93.trans (congrArg some (by kernel_rfl))
  f245 := Tryd.func94.trans (congrArg some (by kernel_rfl))
  f246 := Tryd.func109.trans (congrArg some (by kernel_rfl))
  f247 := Tryd.func104.trans (congrArg some (by kernel_rfl))
  f279 := Tryd.func105.trans (congrArg some (by kernel_rfl))
  f280 := Tryd.func106.trans (congrArg some (by kernel_rfl))
  f281 := Tryd.func107.trans (congrArg some (by kernel_rfl))
  f282 := Tryd.func108.trans (congrArg some (by kernel_rfl))
  f283 := Tryd.func119.trans (congrArg some (by kernel_rfl))
  f284 := Tryd.func120.trans (congrArg some (by kernel_rfl))
  f285 := Tryd.func121.trans (congrArg some (by kernel_rfl))
  f286 := Tryd.func122.trans (congrArg some (by kernel_rfl))
  f287 := Tryd.func116.trans (congrArg some (by kernel_rfl))
  f316 := Tryd.func117.trans (congrArg some (by kernel_rfl))
  f317 := Tryd.func132.trans (congrArg some (by kernel_rfl))
  f318 := Tryd.func134.trans (congrArg some (by kernel_rfl))
  f319 := Tryd.func135.trans (congrArg some (by kernel_rfl))
  f320 := Tryd.func136.trans (congrArg some (by kernel_rfl))
  f321 := Tryd.func130.trans (congrArg some (by kernel_rfl))
  f322 := Tryd.func131.trans (congrArg some (by kernel_rfl))
  f337 := Tryd.func139.trans (congrArg some (by kernel_rfl))
  f338 := Tryd.func140.trans (congrArg some (by kernel_rfl))
  t0 := Tryd.underlying0
  a0 := Tryd.isAgg0
  z0 := Tryd.sizeOf0
  v0 := Tryd.zeroValue0
  t2 := Tryd.underlying2
  a2 := Tryd.isAgg2
  z2 := Tryd.sizeOf2
  v2 := Tryd.zeroValue2
  t3 := Tryd.underlying3
  a3 := Tryd.isAgg3
  z3 := Tryd.sizeOf3
  v3 := Tryd.zeroValue3
  t4 := Tryd.underlying4
  a4 := Tryd.isAgg4
  z4 := Tryd.sizeOf4
  v4 := Tryd.zeroValue4
  t5 := Tryd.underlying5
  a5 := Tryd.isAgg5
  z5 := Tryd.sizeOf5
  v5 := Tryd.zeroValue5
  t9 := Tryd.underlying9
  a9 := Tryd.isAgg9
  z9 := Tryd.sizeOf9
  v9 := Tryd.zeroValue9
  t20 := Tryd.underlying20
  a20 := Tryd.isAgg20
  z20 := Tryd.sizeOf20
  v20 := Tryd.zeroValue20
  t21 := Tryd.underlying21
  a21 := Tryd.isAgg21
  z21 := Tryd.sizeOf21
  v21 := Tryd.zeroValue21
  t37 := Tryd.underlying107
  a37 := Tryd.isAgg107
  z37 := Tryd.sizeOf107
  v37 := Tryd.zeroValue107
  t46 := Tryd.underlying108
  a46 := Tryd.isAgg108
  z46 := Tryd.sizeOf108
  v46 := Tryd.zeroValue108
  t51 := Tryd.underlying152
  a51 := Tryd.isAgg152
  z51 := Tryd.sizeOf152
  v51 := Tryd.zeroValue152
  t53 := Tryd.underlying57
  a53 := Tryd.isAgg57
  z53 := Tryd.sizeOf57
  v53 := Tryd.zeroValue57
  t75 := Tryd.underlying98
  a75 := Tryd.isAgg98
  z75 := Tryd.sizeOf98
  v75 := Tryd.zeroValue98
  t76 := Tryd.underlying99
  a76 := Tryd.isAgg99
  z76 := Tryd.sizeOf99
  v76 := Tryd.zeroValue99
  t85 := Tryd.underlying121
  a85 := Tryd.isAgg121
  z85 := Tryd.sizeOf121
  v85 := Tryd.zeroValue121
  t127 := Tryd.underlying127
  a127 := Tryd.isAgg127
  z127 := Tryd.sizeOf127
  v127 := Tryd.zeroValue127
  t143 := Tryd.underlying147
  a143 := Tryd.isAgg147
  z143 := Tryd.sizeOf147
  v143 := Tryd.zeroValue147
  t145 := Tryd.underlying149
  a145 := Tryd.isAgg149
  z145 := Tryd.sizeOf149
  v145 := Tryd.zeroValue149
  t167 := Tryd.underlying120
  a167 := Tryd.isAgg120
  z167 := Tryd.sizeOf120
  v167 := Tryd.zeroValue120
  t168 := Tryd.underlying123
  a168 := Tryd.isAgg123
  z168 := Tryd.sizeOf123
  v168 := Tryd.zeroValue123
  t171 := Tryd.underlying138
  a171 := Tryd.isAgg138
  z171 := Tryd.sizeOf138
  v171 := Tryd.zeroValue138
  t173 := Tryd.underlying141
  a173 := Tryd.isAgg141
  z173 := Tryd.sizeOf141
  v173 := Tryd.zeroValue141
  t175 := Tryd.underlying132
  a175 := Tryd.isAgg132
  z175 := Tryd.sizeOf132
  v175 := Tryd.zeroValue132
  t210 := Tryd.underlying136
  a210 := Tryd.isAgg136
  z210 := Tryd.sizeOf136
  v210 := Tryd.zeroValue136
  t212 := Tryd.underlying151
  a212 := Tryd.isAgg151
  z212 := Tryd.sizeOf151
  v212 := Tryd.zeroValue151
  t213 := Tryd.underlying153
  a213 := Tryd.isAgg153
  z213 := Tryd.sizeOf153
  t232 := Tryd.underlying162
  a232 := Tryd.isAgg162
  z232 := Tryd.sizeOf162
  v232 := Tryd.zeroValue162
  t233 := Tryd.underlying163
  a233 := Tryd.isAgg163
  z233 := Tryd.sizeOf163
  v233 := Tryd.zeroValue163
  g15 := by kernel_rfl
  g16 := by kernel_rfl
  g17 := by kernel_rfl
  g18 := by kernel_rfl
  g19 := by kernel_rfl
  t80 := Tryd.underlying117
  a80 := Tryd.isAgg117
  z80 := Tryd.sizeOf117
  v80 := Tryd.zeroValue117
  i0 := by kernel_rfl
  i2 := by kernel_rfl
  i3 := by kernel_rfl
  i4 := by kernel_rfl
  i5 := by kernel_rfl
  i9 := by kernel_rfl
  i20 := by kernel_rfl
  i21 := by kernel_rfl
  i37 := by kernel_rfl
  i46 := by kernel_rfl
  i51 := by kernel_rfl
  i53 := by kernel_rfl
  i75 := by kernel_rfl
  i76 := by kernel_rfl
  i80 := by kernel_rfl
  i85 := by kernel_rfl
  i127 := by kernel_rfl
  i143 := by kernel_rfl
  i145 := by kernel_rfl
  i167 := by kernel_rfl
  i168 := by kernel_rfl
  i171 := by kernel_rfl
  i173 := by kernel_rfl
  i175 := by kernel_rfl
  i210 := by kernel_rfl
  i212 := by kernel_rfl
  i232 := by kernel_rfl
  i233 := by kernel_rfl
  m15 := by kernel_rfl
  m16 := by kernel_rfl
  m17 := by kernel_rfl
  m18 := by kernel_rfl
  m19 := by kernel_rfl
  c0 := by kernel_rfl
  c2 := by kernel_rfl
  c3 := by kernel_rfl
  c4 := by kernel_rfl
  c5 := by kernel_rfl
  c9 := by kernel_rfl
  c20 := by kernel_rfl
  c21 := by kernel_rfl
  c37 := by kernel_rfl
  c46 := by kernel_rfl
  c51 := by kernel_rfl
  c53 := by kernel_rfl
  c75 := by kernel_rfl
  c76 := by kernel_rfl
  c80 := by kernel_rfl
  c85 := by kernel_rfl
  c127 := by kernel_rfl
  c143 := by kernel_rfl
  c145 := by kernel_rfl
  c167 := by kernel_rfl
  c168 := by kernel_rfl
  c171 := by kernel_rfl
  c173 := by kernel_rfl
  c175 := by kernel_rfl
  c210 := by kernel_rfl
  c212 := by kernel_rfl
  c213 := by kernel_rfl
  c232 := by kernel_rfl
  c233 := by kernel_rfl }
open Go.RowKit in
theorem Tryd.strconv_Atoi_ok (s : ByteArray) (hmax : s.size ≤ 9223372036854775806) (v : Int) (h : Lib.atoiAll s.data.toList = .ok v) (w : World) :
    Calls Tryd.prog 84 #[.string s] w fun e w' => e = .returned (.tuple #[.int .i64 v, .nilIface]) ∧ (w' = w ∨ ∃ t, w' = Lib.bytesWorld w 5 t) := Any.strconv_Atoi_ok Tryd.laysC172 s hmax v h w
open Go.RowKit in
theorem Tryd.strconv_Atoi_syntax (s : ByteArray) (hlim : s.size ≤ 281474976710656) (h1 : ∀ v, Lib.atoiAll s.data.toList ≠ .ok v) (h2 : Lib.atoiAll s.data.toList ≠ .range) (ev : Value) (w : World) (hv : w.cell? ⟨0, 0, none⟩ = some ev) (hev : ev = .nilIface ∨ ∃ te pe, ev = .iface te pe) :
    Calls Tryd.prog 84 #[.string s] w fun e w' => ∃ N, e = .returned (.tuple #[.int .i64 (0), .iface 123 (.pointer (some ⟨N, 0, none⟩))]) ∧ w.heap.size ≤ N ∧ w'.heap[N]? = some (.cells #[.string ⟨#[65, 116, 111, 105]⟩, .string s, ev] 136 (0, 0)) ∧ Below w.heap.size w w' := by
  cases h : Lib.atoiAll s.data.toList with
  | ok v => exact absurd h (h1 v)
  | range => exact absurd h h2
  | _ => exact Any.strconv_Atoi_syntax Tryd.laysC172 s hlim h ev w hv hev
open Go.RowKit in
theorem Tryd.strconv_Atoi_range (s : ByteArray) (hlim : s.size ≤ 281474976710656) (h : Lib.atoiAll s.data.toList = .range) (ev : Value) (w : World) (hv : w.cell? ⟨1, 0, none⟩ = some ev) (hev : ev = .nilIface ∨ ∃ te pe, ev = .iface te pe) :
    Calls Tryd.prog 84 #[.string s] w fun e w' => ∃ N, e = .returned (.tuple #[.int .i64 (Lib.atoiSat s.data.toList), .iface 123 (.pointer (some ⟨N, 0, none⟩))]) ∧ w.heap.size ≤ N ∧ w'.heap[N]? = some (.cells #[.string ⟨#[65, 116, 111, 105]⟩, .string s, ev] 136 (0, 0)) ∧ Below w.heap.size w w' := Any.strconv_Atoi_range Tryd.laysC172 s hlim h ev w hv hev
def Tryd.lays146_ren : Go.Shelf.Ren := ⟨fun | 146 => 83 | 221 => 92 | 268 => 101 | 138 => 102 | 143 => 103 | 195 => 112 | 197 => 113 | 218 => 114 | 219 => 115 | 260 => 125 | 217 => 126 | 225 => 127 | 224 => 128 | 267 => 129 | 266 => 137 | 314 => 138 | n => n, fun | 9 => 9 | 31 => 95 | 3 => 3 | 4 => 4 | 0 => 0 | 105 => 129 | 21 => 21 | 5 => 5 | 46 => 108 | 119 => 155 | 139 => 158 | 138 => 157 | 146 => 159 | 51 => 152 | n => n, fun | 1 => 2 | 3 => 4 | 4 => 5 | n => n⟩
theorem Tryd.lays146 : Go.Proofs.Lays.n146 Tryd.prog Tryd.lays146_ren := {
  mixed := by kernel_rfl
  f138 := Tryd.func102.trans (congrArg some (by kernel_rfl))
  f143 := Tryd.func103.trans (congrArg some (by kernel_rfl))
  f146 := Tryd.func83.trans (congrArg some (by kernel_rfl))
  f195 := Tryd.func112.trans (congrArg some (by kernel_rfl))
  f197 := Tryd.func113.trans (congrArg some (by kernel_rfl))
  f217 := Tryd.func126.trans (congrArg some (by kernel_rfl))
  f218 := Tryd.func114.trans (congrArg some (by kernel_rfl))
  f219 := Tryd.func115.trans (congrArg some (by kernel_rfl))
  f221 := Tryd.func92.trans (congrArg some (by kernel_rfl))
  f224 := Tryd.func128.trans (congrArg some (by kernel_rfl))
  f225 := Tryd.func127.trans (congrArg some (by kernel_rfl))
  f260 := Tryd.func125.trans (congrArg some (by kernel_rfl))
  f266 := Tryd.func137.trans (congrArg some (by kernel_rfl))
  f267 := Tryd.func129.trans (congrArg some (by kernel_rfl))
  f268 := Tryd.func101.trans (congrArg some (by kernel_rfl))
  f314 := Tryd.func138.trans (congrArg some (by kernel_rfl))
  t0 := Tryd.underlying0
  a0 := Tryd.isAgg0
  z0 := Tryd.sizeOf0
  v0 := Tryd.zeroValue0
  t3 := Tryd.underlying3
  a3 := Tryd.isAgg3
  z3 := Tryd.sizeOf3
  v3 := Tryd.zeroValue3
  t4 := Tryd.underlying4
  a4 := Tryd.isAgg4
  z4 := Tryd.sizeOf4
  v4 := Tryd.zeroValue4
  t5 := Tryd.underlying5
  a5 := Tryd.isAgg5
  z5 := Tryd.sizeOf5
  v5 := Tryd.zeroValue5
  t9 := Tryd.underlying9
  a9 := Tryd.isAgg9
  z9 := Tryd.sizeOf9
  v9 := Tryd.zeroValue9
  t21 := Tryd.underlying21
  a21 := Tryd.isAgg21
  z21 := Tryd.sizeOf21
  v21 := Tryd.zeroValue21
  t31 := Tryd.underlying95
  a31 := Tryd.isAgg95
  z31 := Tryd.sizeOf95
  v31 := Tryd.zeroValue95
  t46 := Tryd.underlying108
  a46 := Tryd.isAgg108
  z46 := Tryd.sizeOf108
  v46 := Tryd.zeroValue108
  t51 := Tryd.underlying152
  a51 := Tryd.isAgg152
  z51 := Tryd.sizeOf152
  v51 := Tryd.zeroValue152
  t105 := Tryd.underlying129
  a105 := Tryd.isAgg129
  z105 := Tryd.sizeOf129
  v105 := Tryd.zeroValue129
  t119 := Tryd.underlying155
  a119 := Tryd.isAgg155
  z119 := Tryd.sizeOf155
  t138 := Tryd.underlying157
  a138 := Tryd.isAgg157
  z138 := Tryd.sizeOf157
  v138 := Tryd.zeroValue157
  t139 := Tryd.underlying158
  a139 := Tryd.isAgg158
  z139 := Tryd.sizeOf158
  v139 := Tryd.zeroValue158
  t146 := Tryd.underlying159
  a146 := Tryd.isAgg159
  z146 := Tryd.sizeOf159
  v146 := Tryd.zeroValue159
  g1 := by kernel_rfl
  g3 := by kernel_rfl
  g4 := by kernel_rfl }
open Go.RowKit Go.Lib in
theorem Tryd.strings_Split (s sep : ByteArray) (m : Int) (w : World) (hs : s.size < 4294967281) (hm : w.cell? ⟨2, 0, none⟩ = some (.int .i64 m)) (h1 : 1 ≤ sep.size) :
    Calls Tryd.prog 83 #[.string s, .string sep] w fun e w' =>
      e = .returned (.slice (some ⟨w.heap.size, 0, none⟩) (Lib.countB s sep + 1) (Lib.countB s sep + 1)) ∧ w' = w.alloc (.cells ((Lib.splitB sep 0 (Lib.countB s sep) s).map Value.string).toArray 9) := Any.strings_Split Tryd.lays146 (by kernel_rfl) s sep m w hs hm h1
end Go.Proofs

/- ref.Core (printed by gen_rcore.py). -/
namespace Go.Proofs.YtmjnhpagoboejaaDoor
open Go.RowKit
open Wd
set_option linter.unusedSimpArgs false
set_option linter.unusedVariables false

/-- what the reference's Core leaves: a part of the word, and new ints -/
def RCoreOut (w : World) (B : Nat) (l : List Int) (e : Ending) (w' : World) : Prop := ∃ A1 c1 A2 n2 c2, e = .returned (.tuple #[.slice A1 (core l).length c1, .slice A2 n2 c2]) ∧ ReadsI w' B A1 (core l) ∧ (core l).length ≤ c1 ∧ OwnI w' w.heap.size (.slice A2 n2 c2) (conj l) ∧ Below w.heap.size w w'
/-- the same, and where the part lies -/
def RCoreMore (w : World) (B : Nat) (A : Option Addr) (l : List Int) (e : Ending) (w' : World) : Prop := ∃ A1 c1 A2 n2 c2, e = .returned (.tuple #[.slice A1 (core l).length c1, .slice A2 n2 c2]) ∧ ReadsI w' B A1 (core l) ∧ (core l).length ≤ c1 ∧ OwnI w' w.heap.size (.slice A2 n2 c2) (conj l) ∧ Below w.heap.size w w' ∧ (∀ a1, A1 = some a1 → ∃ a, A = some a ∧ a1.block = a.block)
theorem rcore_fin {w w5 : World} {B n c i a1 c1 n5 c5 : Nat} {A A1 A5 : Option Addr} {l : List Int} (hn : n = l.length) (hi : 2 * i ≤ n) (hP : parts l = i) (hr : ReadsI w B A l) (hB : B ≤ w.heap.size) (hnc : n ≤ c) (hb : Below w.heap.size w w5) (ho : OwnI w5 w.heap.size (.slice A5 n5 c5) (inv (l.take i)))
    (h1 : a1 = n - 2 * i) (h2 : a1 ≤ c1) (h3 : (∃ ad, A = some ad ∧ A1 = some (ad.add i)) ∨ n = 0) (h4 : ∀ a1, A1 = some a1 → ∃ a, A = some a ∧ a1.block = a.block) : RCoreMore w B A l (.returned (.tuple #[.slice A1 a1 c1, .slice A5 n5 c5])) w5 := by
  have hcl : (core l).length = a1 := by rw [core_len, hP, h1, hn]
  refine ⟨A1, c1, A5, n5, c5, by rw [hcl], ?_, by omega, ?_, hb, h4⟩
  · rcases h3 with ⟨ad, rfl, rfl⟩ | h
    · unfold core
      rw [hP]
      exact (reads_part (hr.below (hb.mono hB)) i (l.length - 2 * i) (by omega))
    · exact reads_none (by rw [hcl]; omega)
  · rw [← inv_first, hP]; exact ho
set_option maxRecDepth 100000 in
set_option maxHeartbeats 4000000 in
theorem rcore_more {w : World} {B n c : Nat} {A : Option Addr} {l : List Int} (hr : ReadsI w B A l) (hB : B ≤ w.heap.size) (hn : n = l.length) (hnc : n ≤ c) (hl : LetL l) (hb : n ≤ 100000000) (hc : c ≤ 9223372036854775807) :
    Calls Tryd.prog 25 #[.slice A n c] w (RCoreMore w B A l) := by
  have Hn := Lib.hid hn
  have Hl := Lib.hid hl
  have Hr := Lib.hid (hr.more hB)
  have Hr0 := Lib.hid (And.intro hr hB)
  obtain ⟨P, hP⟩ : ∃ P, P = parts l := ⟨_, rfl⟩
  have HP := Lib.hid hP
  clear hn hl hr hP hB
  go_enter Tryd.func25, Tryd.ntmps25
  go_wp2_with fail
  go_loopg [4] n (fun k iv wr => ∃ (i d : Nat), iv = .int .i64 (i : Int) ∧ k = n - i ∧ 2 * i ≤ n ∧ Hid (cutN l (n - i) i = P) ∧ Hid (wr = w.drewN d))
  case atStart => exact ⟨0, 0, rfl, by omega, by omega, Lib.hid (by rw [HP.out, Nat.sub_zero, Hn.out]; rfl), Lib.hid rfl⟩
  case round =>
    obtain ⟨i, d, rfl, hk, hi, hcut, hw⟩ := hrel
    have Hk := Lib.hid hk
    clear hk
    have ew := hw.out
    subst ew
    rcases Decidable.em (2 * i + 1 < n ∧ l.getD i 0 = - l.getD (n - 1 - i) 0) with hgo | hstop'
    · have hin := hgo.1
      have hil : i < l.length := by rw [← Hn.out]; omega
      have hjl : n - 1 - i < l.length := by rw [← Hn.out]; omega
      obtain ⟨ad, rfl, hb1, c0⟩ := Hr.out.at_ hil
      obtain ⟨ad2, e2, hb2, d0⟩ := Hr.out.at_ hjl
      injection e2 with e2
      subst e2
      have hnext := Lib.hid (show cutN l (n - (i + 1)) (i + 1) = P by rw [← hcut.out]; have h1 := Hn.out; rw [h1]; rw [h1] at hgo; exact (cutN_go (by omega) hgo.1 hgo.2).symm)
      have hxy : l[i] = - l[n - 1 - i] := by have h := hgo.2; rw [List.getD_eq_getElem?_getD, List.getElem?_eq_getElem hil, List.getD_eq_getElem?_getD, List.getElem?_eq_getElem hjl] at h; exact h
      have hly := Hl.out l[n - 1 - i] (List.getElem_mem hjl)
      rw [hxy] at c0
      have hii : 2 * (i : Int) + 1 < (n : Int) := by omega
      generalize l[n - 1 - i] = y at *
      obtain ⟨hy0, hy1, hy2⟩ := hly
      have s1 : ((n : Int) - 1 - (i : Int)).toNat = n - 1 - i := by omega
      clear hb1 hb2 hil hjl hgo hxy
      go_wp2_with (go_quiet (fail))
      go_roundg (n - (i + 1))
      case measure => have := Hk.out; omega
      case rel => exact ⟨i + 1, _, rfl, rfl, by omega, hnext, Lib.hid rfl⟩
    · have hstop := Lib.hid (show P = i by rw [← hcut.out]; have h1 := Hn.out; rw [h1] at hstop' ⊢; exact cutN_stop hstop')
      rcases Nat.lt_or_ge (2 * i + 1) n with hin | hin
      · have hil : i < l.length := by rw [← Hn.out]; omega
        have hjl : n - 1 - i < l.length := by rw [← Hn.out]; omega
        obtain ⟨ad, rfl, hb1, c0⟩ := Hr.out.at_ hil
        obtain ⟨ad2, e2, hb2, d0⟩ := Hr.out.at_ hjl
        injection e2 with e2
        subst e2
        have hxy : ¬ l[i] = - l[n - 1 - i] := by intro h; apply hstop'; refine ⟨hin, ?_⟩; rw [List.getD_eq_getElem?_getD, List.getElem?_eq_getElem hil, List.getD_eq_getElem?_getD, List.getElem?_eq_getElem hjl]; exact h
        have hly := Hl.out l[n - 1 - i] (List.getElem_mem hjl)
        have hii : 2 * (i : Int) + 1 < (n : Int) := by omega
        generalize l[n - 1 - i] = y at *
        generalize l[i] = x at *
        obtain ⟨hy0, hy1, hy2⟩ := hly
        have s1 : ((n : Int) - 1 - (i : Int)).toNat = n - 1 - i := by omega
        have hci : ¬ c = i := by omega
        have hbeq : (x == -y) = false := by simp; exact hxy
        have hi4 : (i : Int) ≤ 1000000000 := by omega
        clear hb1 hb2 hil hjl hstop' hxy
        go_wp2_with (go_quiet (fail))
        generalize d + nq = q
        have Hsub := Lib.hid (show ReadsI (w.drewN q).drew w.heap.size (some ad) (l.take i) from (ReadsI.take (m := l.drop i) (by rw [List.take_append_drop]; exact Hr.out)))
        have Hlen := Lib.hid (show i = (l.take i).length by rw [List.length_take]; have := Hn.out; omega)
        have HL := Lib.hid (show ∀ k ∈ l.take i, -100 ≤ k ∧ k ≤ 100 from fun k hk => by have := Hl.out k (List.mem_of_mem_take hk); omega)
        have Hlen2 := Lib.hid (show i ≤ 100000000 by omega)
        have hii2 : (i : Int) ≤ (n : Int) - (i : Int) := by omega
        have s4 : ((n : Int) - (i : Int)).toNat = n - i := by omega
        have t1 : n - i ≤ c := by omega
        have t2 : i ≤ n - i := by omega
        have t3 : i ≤ c := by omega
        have t4 : (0 : Int) ≤ (n : Int) - (i : Int) := by omega
        have t5 : (n : Int) - (i : Int) ≤ (c : Int) := by omega
        have s5 : IntKind.i64.wrap ((n : Int) - (i : Int)) = (n : Int) - (i : Int) := by rw [IntKind.wrap_i64]; omega
        refine wp_region_noPanic ?_
        refine wp_region_held_drew (S := fun w' => Below w.heap.size w w') (by kernel_rfl) (bdrew (Below.refl _ _) q).drew (fun hHeld => ?_)
        have b0 : Below w.heap.size w (w.drewN q).drew := hHeld
        refine wpAnyH_take (i := 0) (oi := Oper.mk (some 29) _ _ _ _ _) (v := ?_) rfl (by kernel_rfl) (by kernel_rfl) (by kernel_rfl) (fun _ _ _ h => h) (Or.inl ⟨by rfl, ?_⟩) (by assumption) ?_
        rotate_left
        · (intro w' hSw; (try dsimp only at hSw); go_simp; try with_reducible rfl)
        try simp only [Act.put, List.setIfInBounds_toArray, List.set_cons_zero, List.set_cons_succ]
        refine wpAnyH_take (i := 1) (oi := Oper.mk (some 30) _ _ _ _ _) (v := ?_) rfl (by kernel_rfl) (by kernel_rfl) (by kernel_rfl) (fun _ _ _ h => h) (Or.inl ⟨by rfl, ?_⟩) (by assumption) ?_
        rotate_left
        · (intro w' hSw; (try dsimp only at hSw); go_simp; try with_reducible rfl)
        try simp only [Act.put, List.setIfInBounds_toArray, List.set_cons_zero, List.set_cons_succ]
        refine wpAnyH_take (i := 2) (oi := Oper.mk (some 31) _ _ _ _ _) (v := ?_) rfl (by kernel_rfl) (by kernel_rfl) (by kernel_rfl) (fun _ _ _ h => h) (Or.inl ⟨by rfl, ?_⟩) (by assumption) ?_
        rotate_left
        · (intro w' hSw; (try dsimp only at hSw); go_simp; try with_reducible rfl)
        try simp only [Act.put, List.setIfInBounds_toArray, List.set_cons_zero, List.set_cons_succ]
        refine wpAnyH_take (i := 3) (oi := Oper.mk (some 32) _ _ _ _ _) (v := ?_) rfl (by kernel_rfl) (by kernel_rfl) (by kernel_rfl) (fun _ _ _ h => h) (Or.inl ⟨by rfl, ?_⟩) (by assumption) ?_
        rotate_left
        · (intro w' hSw; (try dsimp only at hSw); go_simp; try with_reducible rfl)
        try simp only [Act.put, List.setIfInBounds_toArray, List.set_cons_zero, List.set_cons_succ]
        refine wpAnyH_take (i := 4) (oi := Oper.mk (some 33) _ _ _ _ _) (v := ?_) rfl (by kernel_rfl) (by kernel_rfl) (by kernel_rfl) (fun _ _ _ h => h) (Or.inl ⟨by rfl, ?_⟩) (by assumption) ?_
        rotate_left
        · (intro w' hSw; (try dsimp only at hSw); go_simp; try with_reducible rfl)
        try simp only [Act.put, List.setIfInBounds_toArray, List.set_cons_zero, List.set_cons_succ]
        refine wpAnyH_take (i := 5) (oi := Oper.mk (some 34) _ _ _ _ _) (v := ?_) rfl (by kernel_rfl) (by kernel_rfl) (by kernel_rfl) (fun _ _ _ h => h) (Or.inl ⟨by rfl, ?_⟩) (by assumption) ?_
        rotate_left
        · (intro w' hSw; (try dsimp only at hSw); go_simp; try with_reducible rfl)
        try simp only [Act.put, List.setIfInBounds_toArray, List.set_cons_zero, List.set_cons_succ]
        refine wpAnyH_take (i := 6) (oi := Oper.mk (some 35) _ _ _ _ _) (v := ?_) rfl (by kernel_rfl) (by kernel_rfl) (by kernel_rfl) (fun _ _ _ h => h) (Or.inl ⟨by rfl, ?_⟩) (by assumption) ?_
        rotate_left
        · (intro w' hSw; (try dsimp only at hSw); go_simp; try with_reducible rfl)
        try simp only [Act.put, List.setIfInBounds_toArray, List.set_cons_zero, List.set_cons_succ]
        refine wpAnyH_take (i := 7) (oi := Oper.mk (some 36) _ _ _ _ _) (v := ?_) rfl (by kernel_rfl) (by kernel_rfl) (by kernel_rfl) (fun _ _ _ h => h) (Or.inl ⟨by rfl, ?_⟩) (by assumption) ?_
        rotate_left
        · (intro w' hSw; (try dsimp only at hSw); go_simp; try with_reducible rfl)
        try simp only [Act.put, List.setIfInBounds_toArray, List.set_cons_zero, List.set_cons_succ]
        refine wpAnyH_take (i := 8) (oi := Oper.mk (some 37) _ _ _ _ _) (v := ?_) rfl (by kernel_rfl) (by kernel_rfl) (by kernel_rfl) (fun _ _ _ h => h) (Or.inl ⟨by rfl, ?_⟩) (by assumption) ?_
        rotate_left
        · (intro w' hSw; (try dsimp only at hSw); go_simp; try with_reducible rfl)
        try simp only [Act.put, List.setIfInBounds_toArray, List.set_cons_zero, List.set_cons_succ]
        refine wpAnyH_take (i := 9) (oi := Oper.mk (some 38) _ _ _ _ _) (v := ?_) rfl (by kernel_rfl) (by kernel_rfl) (by kernel_rfl) (fun _ _ _ h => h) (Or.inl ⟨by rfl, ?_⟩) (by assumption) ?_
        rotate_left
        · (intro w' hSw; (try dsimp only at hSw); go_simp; try with_reducible rfl)
        try simp only [Act.put, List.setIfInBounds_toArray, List.set_cons_zero, List.set_cons_succ]
        refine wpAnyH_ready (rs := [10]) (by kernel_rfl) (by simp) ?_
        refine AllReadyH.cons (o := Oper.mk (some 39) _ _ _ _ _) rfl (fun K hK => ?_) AllReadyH.nil
        go_simp
        refine (rinv_any (c := c) Hsub.out b0.size Hlen.out HL.out Hlen2.out).mono ?_
        rintro e w5 ⟨A5, n5, c5, rfl, ho5', hb5⟩
        try simp only []
        have b5 : Below w.heap.size w w5 := Below.trans b0 (hb5.mono b0.size)
        have ho5 : OwnI w5 w.heap.size (.slice A5 n5 c5) (inv (l.take i)) := ho5'.lower b0.size
        clear hb5 ho5'
        refine hK.out _ _ b5 (fun _ => ?_)
        clear hK K hHeld
        have hHeld := b5
        try simp only [Act.put, List.setIfInBounds_toArray, List.set_cons_zero, List.set_cons_succ]
        refine wpAnyH_take (i := 11) (oi := Oper.mk (some 2) _ _ _ _ _) (v := ?_) rfl (by kernel_rfl) (by kernel_rfl) (by kernel_rfl) (fun _ _ _ h => h) (Or.inl ⟨by rfl, ?_⟩) (by assumption) ?_
        rotate_left
        · (intro w' hSw; (try dsimp only at hSw); go_simp; try with_reducible rfl)
        try simp only [Act.put, List.setIfInBounds_toArray, List.set_cons_zero, List.set_cons_succ]
        refine wpAnyH_take (i := 12) (oi := Oper.mk (some 3) _ _ _ _ _) (v := ?_) rfl (by kernel_rfl) (by kernel_rfl) (by kernel_rfl) (fun _ _ _ h => h) (Or.inl ⟨by rfl, ?_⟩) (by assumption) ?_
        rotate_left
        · (intro w' hSw; (try dsimp only at hSw); go_simp; try with_reducible rfl)
        try simp only [Act.put, List.setIfInBounds_toArray, List.set_cons_zero, List.set_cons_succ]
        refine wpAnyH_done (by kernel_rfl) ?_ _
        refine NoPanic.normal ?_
        go_wp2_with fail
        go_ret2
        exact rcore_fin Hn.out hi (by rw [← HP.out]; exact hstop.out) Hr0.out.1 Hr0.out.2 hnc b5 ho5 (by omega) (by omega) (by first | exact .inl ⟨_, rfl, rfl⟩ | exact .inr Hn0.out) (by intro a1 h; first | (injection h with h; subst h; exact ⟨_, rfl, block_of_add _ _⟩) | (injection h with h; subst h; exact ⟨_, rfl, rfl⟩) | cases h)
      · have hni : ¬ (2 * (i : Int) + 1 < (n : Int)) := by omega
        have s1 : IntKind.i64.wrap (2 * (i : Int)) = 2 * (i : Int) := by rw [IntKind.wrap_i64]; omega
        have s2 : IntKind.i64.wrap (2 * (i : Int) + 1) = 2 * (i : Int) + 1 := by rw [IntKind.wrap_i64]; omega
        have hi4 : (i : Int) ≤ 1000000000 := by omega
        clear hstop'
        rcases A with _ | ad
        · have hn0 : n = 0 := by
            rcases Nat.eq_zero_or_pos n with h | h
            · exact h
            · obtain ⟨ad, e, _⟩ := Hr.out.2 (by have := Hn.out; omega)
              cases e
          have Hn0 := Lib.hid hn0
          clear hn0
          go_wp2_with (go_quiet (fail))
          generalize d + nq = q
          have Hsub := Lib.hid (show ReadsI (w.drewN q).drew w.heap.size none (l.take i) from (ReadsI.take (m := l.drop i) (by rw [List.take_append_drop]; exact Hr.out)))
          have Hlen := Lib.hid (show i = (l.take i).length by rw [List.length_take]; have := Hn.out; omega)
          have HL := Lib.hid (show ∀ k ∈ l.take i, -100 ≤ k ∧ k ≤ 100 from fun k hk => by have := Hl.out k (List.mem_of_mem_take hk); omega)
          have Hlen2 := Lib.hid (show i ≤ 100000000 by omega)
          have hii2 : (i : Int) ≤ (n : Int) - (i : Int) := by omega
          have s4 : ((n : Int) - (i : Int)).toNat = n - i := by omega
          have t1 : n - i ≤ c := by omega
          have t2 : i ≤ n - i := by omega
          have t3 : i ≤ c := by omega
          have t4 : (0 : Int) ≤ (n : Int) - (i : Int) := by omega
          have t5 : (n : Int) - (i : Int) ≤ (c : Int) := by omega
          have s5 : IntKind.i64.wrap ((n : Int) - (i : Int)) = (n : Int) - (i : Int) := by rw [IntKind.wrap_i64]; omega
          refine wp_region_noPanic ?_
          refine wp_region_held_drew (S := fun w' => Below w.heap.size w w') (by kernel_rfl) (bdrew (Below.refl _ _) q).drew (fun hHeld => ?_)
          have b0 : Below w.heap.size w (w.drewN q).drew := hHeld
          refine wpAnyH_take (i := 0) (oi := Oper.mk (some 29) _ _ _ _ _) (v := ?_) rfl (by kernel_rfl) (by kernel_rfl) (by kernel_rfl) (fun _ _ _ h => h) (Or.inl ⟨by rfl, ?_⟩) (by assumption) ?_
          rotate_left
          · (intro w' hSw; (try dsimp only at hSw); go_simp; try with_reducible rfl)
          try simp only [Act.put, List.setIfInBounds_toArray, List.set_cons_zero, List.set_cons_succ]
          refine wpAnyH_take (i := 1) (oi := Oper.mk (some 30) _ _ _ _ _) (v := ?_) rfl (by kernel_rfl) (by kernel_rfl) (by kernel_rfl) (fun _ _ _ h => h) (Or.inl ⟨by rfl, ?_⟩) (by assumption) ?_
          rotate_left
          · (intro w' hSw; (try dsimp only at hSw); go_simp; try with_reducible rfl)
          try simp only [Act.put, List.setIfInBounds_toArray, List.set_cons_zero, List.set_cons_succ]
          refine wpAnyH_take (i := 2) (oi := Oper.mk (some 31) _ _ _ _ _) (v := ?_) rfl (by kernel_rfl) (by kernel_rfl) (by kernel_rfl) (fun _ _ _ h => h) (Or.inl ⟨by rfl, ?_⟩) (by assumption) ?_
          rotate_left
          · (intro w' hSw; (try dsimp only at hSw); go_simp; try with_reducible rfl)
          try simp only [Act.put, List.setIfInBounds_toArray, List.set_cons_zero, List.set_cons_succ]
          refine wpAnyH_take (i := 3) (oi := Oper.mk (some 32) _ _ _ _ _) (v := ?_) rfl (by kernel_rfl) (by kernel_rfl) (by kernel_rfl) (fun _ _ _ h => h) (Or.inl ⟨by rfl, ?_⟩) (by assumption) ?_
          rotate_left
          · (intro w' hSw; (try dsimp only at hSw); go_simp; try with_reducible rfl)
          try simp only [Act.put, List.setIfInBounds_toArray, List.set_cons_zero, List.set_cons_succ]
          refine wpAnyH_take (i := 4) (oi := Oper.mk (some 33) _ _ _ _ _) (v := ?_) rfl (by kernel_rfl) (by kernel_rfl) (by kernel_rfl) (fun _ _ _ h => h) (Or.inl ⟨by rfl, ?_⟩) (by assumption) ?_
          rotate_left
          · (intro w' hSw; (try dsimp only at hSw); go_simp; try with_reducible rfl)
          try simp only [Act.put, List.setIfInBounds_toArray, List.set_cons_zero, List.set_cons_succ]
          refine wpAnyH_take (i := 5) (oi := Oper.mk (some 34) _ _ _ _ _) (v := ?_) rfl (by kernel_rfl) (by kernel_rfl) (by kernel_rfl) (fun _ _ _ h => h) (Or.inl ⟨by rfl, ?_⟩) (by assumption) ?_
          rotate_left
          · (intro w' hSw; (try dsimp only at hSw); go_simp; try with_reducible rfl)
          try simp only [Act.put, List.setIfInBounds_toArray, List.set_cons_zero, List.set_cons_succ]
          refine wpAnyH_take (i := 6) (oi := Oper.mk (some 35) _ _ _ _ _) (v := ?_) rfl (by kernel_rfl) (by kernel_rfl) (by kernel_rfl) (fun _ _ _ h => h) (Or.inl ⟨by rfl, ?_⟩) (by assumption) ?_
          rotate_left
          · (intro w' hSw; (try dsimp only at hSw); go_simp; try with_reducible rfl)
          try simp only [Act.put, List.setIfInBounds_toArray, List.set_cons_zero, List.set_cons_succ]
          refine wpAnyH_take (i := 7) (oi := Oper.mk (some 36) _ _ _ _ _) (v := ?_) rfl (by kernel_rfl) (by kernel_rfl) (by kernel_rfl) (fun _ _ _ h => h) (Or.inl ⟨by rfl, ?_⟩) (by assumption) ?_
          rotate_left
          · (intro w' hSw; (try dsimp only at hSw); go_simp; try with_reducible rfl)
          try simp only [Act.put, List.setIfInBounds_toArray, List.set_cons_zero, List.set_cons_succ]
          refine wpAnyH_take (i := 8) (oi := Oper.mk (some 37) _ _ _ _ _) (v := ?_) rfl (by kernel_rfl) (by kernel_rfl) (by kernel_rfl) (fun _ _ _ h => h) (Or.inl ⟨by rfl, ?_⟩) (by assumption) ?_
          rotate_left
          · (intro w' hSw; (try dsimp only at hSw); go_simp; try with_reducible rfl)
          try simp only [Act.put, List.setIfInBounds_toArray, List.set_cons_zero, List.set_cons_succ]
          refine wpAnyH_take (i := 9) (oi := Oper.mk (some 38) _ _ _ _ _) (v := ?_) rfl (by kernel_rfl) (by kernel_rfl) (by kernel_rfl) (fun _ _ _ h => h) (Or.inl ⟨by rfl, ?_⟩) (by assumption) ?_
          rotate_left
          · (intro w' hSw; (try dsimp only at hSw); go_simp; try with_reducible rfl)
          try simp only [Act.put, List.setIfInBounds_toArray, List.set_cons_zero, List.set_cons_succ]
          refine wpAnyH_ready (rs := [10]) (by kernel_rfl) (by simp) ?_
          refine AllReadyH.cons (o := Oper.mk (some 39) _ _ _ _ _) rfl (fun K hK => ?_) AllReadyH.nil
          go_simp
          refine (rinv_any (c := c) Hsub.out b0.size Hlen.out HL.out Hlen2.out).mono ?_
          rintro e w5 ⟨A5, n5, c5, rfl, ho5', hb5⟩
          try simp only []
          have b5 : Below w.heap.size w w5 := Below.trans b0 (hb5.mono b0.size)
          have ho5 : OwnI w5 w.heap.size (.slice A5 n5 c5) (inv (l.take i)) := ho5'.lower b0.size
          clear hb5 ho5'
          refine hK.out _ _ b5 (fun _ => ?_)
          clear hK K hHeld
          have hHeld := b5
          try simp only [Act.put, List.setIfInBounds_toArray, List.set_cons_zero, List.set_cons_succ]
          refine wpAnyH_take (i := 11) (oi := Oper.mk (some 2) _ _ _ _ _) (v := ?_) rfl (by kernel_rfl) (by kernel_rfl) (by kernel_rfl) (fun _ _ _ h => h) (Or.inl ⟨by rfl, ?_⟩) (by assumption) ?_
          rotate_left
          · (intro w' hSw; (try dsimp only at hSw); go_simp; try with_reducible rfl)
          try simp only [Act.put, List.setIfInBounds_toArray, List.set_cons_zero, List.set_cons_succ]
          refine wpAnyH_take (i := 12) (oi := Oper.mk (some 3) _ _ _ _ _) (v := ?_) rfl (by kernel_rfl) (by kernel_rfl) (by kernel_rfl) (fun _ _ _ h => h) (Or.inl ⟨by rfl, ?_⟩) (by assumption) ?_
          rotate_left
          · (intro w' hSw; (try dsimp only at hSw); go_simp; try with_reducible rfl)
          try simp only [Act.put, List.setIfInBounds_toArray, List.set_cons_zero, List.set_cons_succ]
          refine wpAnyH_done (by kernel_rfl) ?_ _
          refine NoPanic.normal ?_
          go_wp2_with fail
          go_ret2
          exact rcore_fin Hn.out hi (by rw [← HP.out]; exact hstop.out) Hr0.out.1 Hr0.out.2 hnc b5 ho5 (by omega) (by omega) (by first | exact .inl ⟨_, rfl, rfl⟩ | exact .inr Hn0.out) (by intro a1 h; first | (injection h with h; subst h; exact ⟨_, rfl, block_of_add _ _⟩) | (injection h with h; subst h; exact ⟨_, rfl, rfl⟩) | cases h)
        · by_cases hci : c = i
          · have hn0 : n = 0 := by omega
            have hci2 := hci.symm
            subst hci2
            have Hn0 := Lib.hid hn0
            clear hn0
            go_wp2_with (go_quiet (fail))
            generalize d + nq = q
            have Hsub := Lib.hid (show ReadsI (w.drewN q).drew w.heap.size (some ad) (l.take i) from (ReadsI.take (m := l.drop i) (by rw [List.take_append_drop]; exact Hr.out)))
            have Hlen := Lib.hid (show i = (l.take i).length by rw [List.length_take]; have := Hn.out; omega)
            have HL := Lib.hid (show ∀ k ∈ l.take i, -100 ≤ k ∧ k ≤ 100 from fun k hk => by have := Hl.out k (List.mem_of_mem_take hk); omega)
            have Hlen2 := Lib.hid (show i ≤ 100000000 by omega)
            have hii2 : (i : Int) ≤ (n : Int) - (i : Int) := by omega
            have s4 : ((n : Int) - (i : Int)).toNat = n - i := by omega
            have t1 : n - i ≤ i := by omega
            have t2 : i ≤ n - i := by omega
            have t3 : i ≤ i := by omega
            have t4 : (0 : Int) ≤ (n : Int) - (i : Int) := by omega
            have t5 : (n : Int) - (i : Int) ≤ (i : Int) := by omega
            have s5 : IntKind.i64.wrap ((n : Int) - (i : Int)) = (n : Int) - (i : Int) := by rw [IntKind.wrap_i64]; omega
            refine wp_region_noPanic ?_
            refine wp_region_held_drew (S := fun w' => Below w.heap.size w w') (by kernel_rfl) (bdrew (Below.refl _ _) q).drew (fun hHeld => ?_)
            have b0 : Below w.heap.size w (w.drewN q).drew := hHeld
            refine wpAnyH_take (i := 0) (oi := Oper.mk (some 29) _ _ _ _ _) (v := ?_) rfl (by kernel_rfl) (by kernel_rfl) (by kernel_rfl) (fun _ _ _ h => h) (Or.inl ⟨by rfl, ?_⟩) (by assumption) ?_
            rotate_left
            · (intro w' hSw; (try dsimp only at hSw); go_simp; try with_reducible rfl)
            try simp only [Act.put, List.setIfInBounds_toArray, List.set_cons_zero, List.set_cons_succ]
            refine wpAnyH_take (i := 1) (oi := Oper.mk (some 30) _ _ _ _ _) (v := ?_) rfl (by kernel_rfl) (by kernel_rfl) (by kernel_rfl) (fun _ _ _ h => h) (Or.inl ⟨by rfl, ?_⟩) (by assumption) ?_
            rotate_left
            · (intro w' hSw; (try dsimp only at hSw); go_simp; try with_reducible rfl)
            try simp only [Act.put, List.setIfInBounds_toArray, List.set_cons_zero, List.set_cons_succ]
            refine wpAnyH_take (i := 2) (oi := Oper.mk (some 31) _ _ _ _ _) (v := ?_) rfl (by kernel_rfl) (by kernel_rfl) (by kernel_rfl) (fun _ _ _ h => h) (Or.inl ⟨by rfl, ?_⟩) (by assumption) ?_
            rotate_left
            · (intro w' hSw; (try dsimp only at hSw); go_simp; try with_reducible rfl)
            try simp only [Act.put, List.setIfInBounds_toArray, List.set_cons_zero, List.set_cons_succ]
            refine wpAnyH_take (i := 3) (oi := Oper.mk (some 32) _ _ _ _ _) (v := ?_) rfl (by kernel_rfl) (by kernel_rfl) (by kernel_rfl) (fun _ _ _ h => h) (Or.inl ⟨by rfl, ?_⟩) (by assumption) ?_
            rotate_left
            · (intro w' hSw; (try dsimp only at hSw); go_simp; try with_reducible rfl)
            try simp only [Act.put, List.setIfInBounds_toArray, List.set_cons_zero, List.set_cons_succ]
            refine wpAnyH_take (i := 4) (oi := Oper.mk (some 33) _ _ _ _ _) (v := ?_) rfl (by kernel_rfl) (by kernel_rfl) (by kernel_rfl) (fun _ _ _ h => h) (Or.inl ⟨by rfl, ?_⟩) (by assumption) ?_
            rotate_left
            · (intro w' hSw; (try dsimp only at hSw); go_simp; try with_reducible rfl)
            try simp only [Act.put, List.setIfInBounds_toArray, List.set_cons_zero, List.set_cons_succ]
            refine wpAnyH_take (i := 5) (oi := Oper.mk (some 34) _ _ _ _ _) (v := ?_) rfl (by kernel_rfl) (by kernel_rfl) (by kernel_rfl) (fun _ _ _ h => h) (Or.inl ⟨by rfl, ?_⟩) (by assumption) ?_
            rotate_left
            · (intro w' hSw; (try dsimp only at hSw); go_simp; try with_reducible rfl)
            try simp only [Act.put, List.setIfInBounds_toArray, List.set_cons_zero, List.set_cons_succ]
            refine wpAnyH_take (i := 6) (oi := Oper.mk (some 35) _ _ _ _ _) (v := ?_) rfl (by kernel_rfl) (by kernel_rfl) (by kernel_rfl) (fun _ _ _ h => h) (Or.inl ⟨by rfl, ?_⟩) (by assumption) ?_
            rotate_left
            · (intro w' hSw; (try dsimp only at hSw); go_simp; try with_reducible rfl)
            try simp only [Act.put, List.setIfInBounds_toArray, List.set_cons_zero, List.set_cons_succ]
            refine wpAnyH_take (i := 7) (oi := Oper.mk (some 36) _ _ _ _ _) (v := ?_) rfl (by kernel_rfl) (by kernel_rfl) (by kernel_rfl) (fun _ _ _ h => h) (Or.inl ⟨by rfl, ?_⟩) (by assumption) ?_
            rotate_left
            · (intro w' hSw; (try dsimp only at hSw); go_simp; try with_reducible rfl)
            try simp only [Act.put, List.setIfInBounds_toArray, List.set_cons_zero, List.set_cons_succ]
            refine wpAnyH_take (i := 8) (oi := Oper.mk (some 37) _ _ _ _ _) (v := ?_) rfl (by kernel_rfl) (by kernel_rfl) (by kernel_rfl) (fun _ _ _ h => h) (Or.inl ⟨by rfl, ?_⟩) (by assumption) ?_
            rotate_left
            · (intro w' hSw; (try dsimp only at hSw); go_simp; try with_reducible rfl)
            try simp only [Act.put, List.setIfInBounds_toArray, List.set_cons_zero, List.set_cons_succ]
            refine wpAnyH_take (i := 9) (oi := Oper.mk (some 38) _ _ _ _ _) (v := ?_) rfl (by kernel_rfl) (by kernel_rfl) (by kernel_rfl) (fun _ _ _ h => h) (Or.inl ⟨by rfl, ?_⟩) (by assumption) ?_
            rotate_left
            · (intro w' hSw; (try dsimp only at hSw); go_simp; try with_reducible rfl)
            try simp only [Act.put, List.setIfInBounds_toArray, List.set_cons_zero, List.set_cons_succ]
            refine wpAnyH_ready (rs := [10]) (by kernel_rfl) (by simp) ?_
            refine AllReadyH.cons (o := Oper.mk (some 39) _ _ _ _ _) rfl (fun K hK => ?_) AllReadyH.nil
            go_simp
            refine (rinv_any (c := i) Hsub.out b0.size Hlen.out HL.out Hlen2.out).mono ?_
            rintro e w5 ⟨A5, n5, c5, rfl, ho5', hb5⟩
            try simp only []
            have b5 : Below w.heap.size w w5 := Below.trans b0 (hb5.mono b0.size)
            have ho5 : OwnI w5 w.heap.size (.slice A5 n5 c5) (inv (l.take i)) := ho5'.lower b0.size
            clear hb5 ho5'
            refine hK.out _ _ b5 (fun _ => ?_)
            clear hK K hHeld
            have hHeld := b5
            try simp only [Act.put, List.setIfInBounds_toArray, List.set_cons_zero, List.set_cons_succ]
            refine wpAnyH_take (i := 11) (oi := Oper.mk (some 2) _ _ _ _ _) (v := ?_) rfl (by kernel_rfl) (by kernel_rfl) (by kernel_rfl) (fun _ _ _ h => h) (Or.inl ⟨by rfl, ?_⟩) (by assumption) ?_
            rotate_left
            · (intro w' hSw; (try dsimp only at hSw); go_simp; try with_reducible rfl)
            try simp only [Act.put, List.setIfInBounds_toArray, List.set_cons_zero, List.set_cons_succ]
            refine wpAnyH_take (i := 12) (oi := Oper.mk (some 3) _ _ _ _ _) (v := ?_) rfl (by kernel_rfl) (by kernel_rfl) (by kernel_rfl) (fun _ _ _ h => h) (Or.inl ⟨by rfl, ?_⟩) (by assumption) ?_
            rotate_left
            · (intro w' hSw; (try dsimp only at hSw); go_simp; try with_reducible rfl)
            try simp only [Act.put, List.setIfInBounds_toArray, List.set_cons_zero, List.set_cons_succ]
            refine wpAnyH_done (by kernel_rfl) ?_ _
            refine NoPanic.normal ?_
            go_wp2_with fail
            go_ret2
            exact rcore_fin Hn.out hi (by rw [← HP.out]; exact hstop.out) Hr0.out.1 Hr0.out.2 hnc b5 ho5 (by omega) (by omega) (by first | exact .inl ⟨_, rfl, rfl⟩ | exact .inr Hn0.out) (by intro a1 h; first | (injection h with h; subst h; exact ⟨_, rfl, block_of_add _ _⟩) | (injection h with h; subst h; exact ⟨_, rfl, rfl⟩) | cases h)
          · go_wp2_with (go_quiet (fail))
            generalize d + nq = q
            have Hsub := Lib.hid (show ReadsI (w.drewN q).drew w.heap.size (some ad) (l.take i) from (ReadsI.take (m := l.drop i) (by rw [List.take_append_drop]; exact Hr.out)))
            have Hlen := Lib.hid (show i = (l.take i).length by rw [List.length_take]; have := Hn.out; omega)
            have HL := Lib.hid (show ∀ k ∈ l.take i, -100 ≤ k ∧ k ≤ 100 from fun k hk => by have := Hl.out k (List.mem_of_mem_take hk); omega)
            have Hlen2 := Lib.hid (show i ≤ 100000000 by omega)
            have hii2 : (i : Int) ≤ (n : Int) - (i : Int) := by omega
            have s4 : ((n : Int) - (i : Int)).toNat = n - i := by omega
            have t1 : n - i ≤ c := by omega
            have t2 : i ≤ n - i := by omega
            have t3 : i ≤ c := by omega
            have t4 : (0 : Int) ≤ (n : Int) - (i : Int) := by omega
            have t5 : (n : Int) - (i : Int) ≤ (c : Int) := by omega
            have s5 : IntKind.i64.wrap ((n : Int) - (i : Int)) = (n : Int) - (i : Int) := by rw [IntKind.wrap_i64]; omega
            refine wp_region_noPanic ?_
            refine wp_region_held_drew (S := fun w' => Below w.heap.size w w') (by kernel_rfl) (bdrew (Below.refl _ _) q).drew (fun hHeld => ?_)
            have b0 : Below w.heap.size w (w.drewN q).drew := hHeld
            refine wpAnyH_take (i := 0) (oi := Oper.mk (some 29) _ _ _ _ _) (v := ?_) rfl (by kernel_rfl) (by kernel_rfl) (by kernel_rfl) (fun _ _ _ h => h) (Or.inl ⟨by rfl, ?_⟩) (by assumption) ?_
            rotate_left
            · (intro w' hSw; (try dsimp only at hSw); go_simp; try with_reducible rfl)
            try simp only [Act.put, List.setIfInBounds_toArray, List.set_cons_zero, List.set_cons_succ]
            refine wpAnyH_take (i := 1) (oi := Oper.mk (some 30) _ _ _ _ _) (v := ?_) rfl (by kernel_rfl) (by kernel_rfl) (by kernel_rfl) (fun _ _ _ h => h) (Or.inl ⟨by rfl, ?_⟩) (by assumption) ?_
            rotate_left
            · (intro w' hSw; (try dsimp only at hSw); go_simp; try with_reducible rfl)
            try simp only [Act.put, List.setIfInBounds_toArray, List.set_cons_zero, List.set_cons_succ]
            refine wpAnyH_take (i := 2) (oi := Oper.mk (some 31) _ _ _ _ _) (v := ?_) rfl (by kernel_rfl) (by kernel_rfl) (by kernel_rfl) (fun _ _ _ h => h) (Or.inl ⟨by rfl, ?_⟩) (by assumption) ?_
            rotate_left
            · (intro w' hSw; (try dsimp only at hSw); go_simp; try with_reducible rfl)
            try simp only [Act.put, List.setIfInBounds_toArray, List.set_cons_zero, List.set_cons_succ]
            refine wpAnyH_take (i := 3) (oi := Oper.mk (some 32) _ _ _ _ _) (v := ?_) rfl (by kernel_rfl) (by kernel_rfl) (by kernel_rfl) (fun _ _ _ h => h) (Or.inl ⟨by rfl, ?_⟩) (by assumption) ?_
            rotate_left
            · (intro w' hSw; (try dsimp only at hSw); go_simp; try with_reducible rfl)
            try simp only [Act.put, List.setIfInBounds_toArray, List.set_cons_zero, List.set_cons_succ]
            refine wpAnyH_take (i := 4) (oi := Oper.mk (some 33) _ _ _ _ _) (v := ?_) rfl (by kernel_rfl) (by kernel_rfl) (by kernel_rfl) (fun _ _ _ h => h) (Or.inl ⟨by rfl, ?_⟩) (by assumption) ?_
            rotate_left
            · (intro w' hSw; (try dsimp only at hSw); go_simp; try with_reducible rfl)
            try simp only [Act.put, List.setIfInBounds_toArray, List.set_cons_zero, List.set_cons_succ]
            refine wpAnyH_take (i := 5) (oi := Oper.mk (some 34) _ _ _ _ _) (v := ?_) rfl (by kernel_rfl) (by kernel_rfl) (by kernel_rfl) (fun _ _ _ h => h) (Or.inl ⟨by rfl, ?_⟩) (by assumption) ?_
            rotate_left
            · (intro w' hSw; (try dsimp only at hSw); go_simp; try with_reducible rfl)
            try simp only [Act.put, List.setIfInBounds_toArray, List.set_cons_zero, List.set_cons_succ]
            refine wpAnyH_take (i := 6) (oi := Oper.mk (some 35) _ _ _ _ _) (v := ?_) rfl (by kernel_rfl) (by kernel_rfl) (by kernel_rfl) (fun _ _ _ h => h) (Or.inl ⟨by rfl, ?_⟩) (by assumption) ?_
            rotate_left
            · (intro w' hSw; (try dsimp only at hSw); go_simp; try with_reducible rfl)
            try simp only [Act.put, List.setIfInBounds_toArray, List.set_cons_zero, List.set_cons_succ]
            refine wpAnyH_take (i := 7) (oi := Oper.mk (some 36) _ _ _ _ _) (v := ?_) rfl (by kernel_rfl) (by kernel_rfl) (by kernel_rfl) (fun _ _ _ h => h) (Or.inl ⟨by rfl, ?_⟩) (by assumption) ?_
            rotate_left
            · (intro w' hSw; (try dsimp only at hSw); go_simp; try with_reducible rfl)
            try simp only [Act.put, List.setIfInBounds_toArray, List.set_cons_zero, List.set_cons_succ]
            refine wpAnyH_take (i := 8) (oi := Oper.mk (some 37) _ _ _ _ _) (v := ?_) rfl (by kernel_rfl) (by kernel_rfl) (by kernel_rfl) (fun _ _ _ h => h) (Or.inl ⟨by rfl, ?_⟩) (by assumption) ?_
            rotate_left
            · (intro w' hSw; (try dsimp only at hSw); go_simp; try with_reducible rfl)
            try simp only [Act.put, List.setIfInBounds_toArray, List.set_cons_zero, List.set_cons_succ]
            refine wpAnyH_take (i := 9) (oi := Oper.mk (some 38) _ _ _ _ _) (v := ?_) rfl (by kernel_rfl) (by kernel_rfl) (by kernel_rfl) (fun _ _ _ h => h) (Or.inl ⟨by rfl, ?_⟩) (by assumption) ?_
            rotate_left
            · (intro w' hSw; (try dsimp only at hSw); go_simp; try with_reducible rfl)
            try simp only [Act.put, List.setIfInBounds_toArray, List.set_cons_zero, List.set_cons_succ]
            refine wpAnyH_ready (rs := [10]) (by kernel_rfl) (by simp) ?_
            refine AllReadyH.cons (o := Oper.mk (some 39) _ _ _ _ _) rfl (fun K hK => ?_) AllReadyH.nil
            go_simp
            refine (rinv_any (c := c) Hsub.out b0.size Hlen.out HL.out Hlen2.out).mono ?_
            rintro e w5 ⟨A5, n5, c5, rfl, ho5', hb5⟩
            try simp only []
            have b5 : Below w.heap.size w w5 := Below.trans b0 (hb5.mono b0.size)
            have ho5 : OwnI w5 w.heap.size (.slice A5 n5 c5) (inv (l.take i)) := ho5'.lower b0.size
            clear hb5 ho5'
            refine hK.out _ _ b5 (fun _ => ?_)
            clear hK K hHeld
            have hHeld := b5
            try simp only [Act.put, List.setIfInBounds_toArray, List.set_cons_zero, List.set_cons_succ]
            refine wpAnyH_take (i := 11) (oi := Oper.mk (some 2) _ _ _ _ _) (v := ?_) rfl (by kernel_rfl) (by kernel_rfl) (by kernel_rfl) (fun _ _ _ h => h) (Or.inl ⟨by rfl, ?_⟩) (by assumption) ?_
            rotate_left
            · (intro w' hSw; (try dsimp only at hSw); go_simp; try with_reducible rfl)
            try simp only [Act.put, List.setIfInBounds_toArray, List.set_cons_zero, List.set_cons_succ]
            refine wpAnyH_take (i := 12) (oi := Oper.mk (some 3) _ _ _ _ _) (v := ?_) rfl (by kernel_rfl) (by kernel_rfl) (by kernel_rfl) (fun _ _ _ h => h) (Or.inl ⟨by rfl, ?_⟩) (by assumption) ?_
            rotate_left
            · (intro w' hSw; (try dsimp only at hSw); go_simp; try with_reducible rfl)
            try simp only [Act.put, List.setIfInBounds_toArray, List.set_cons_zero, List.set_cons_succ]
            refine wpAnyH_done (by kernel_rfl) ?_ _
            refine NoPanic.normal ?_
            go_wp2_with fail
            go_ret2
            exact rcore_fin Hn.out hi (by rw [← HP.out]; exact hstop.out) Hr0.out.1 Hr0.out.2 hnc b5 ho5 (by omega) (by omega) (by first | exact .inl ⟨_, rfl, rfl⟩ | exact .inr Hn0.out) (by intro a1 h; first | (injection h with h; subst h; exact ⟨_, rfl, block_of_add _ _⟩) | (injection h with h; subst h; exact ⟨_, rfl, rfl⟩) | cases h)
theorem rcore_any {w : World} {B n c : Nat} {A : Option Addr} {l : List Int} (hr : ReadsI w B A l) (hB : B ≤ w.heap.size) (hn : n = l.length) (hnc : n ≤ c) (hl : LetL l) (hb : n ≤ 100000000) (hc : c ≤ 9223372036854775807) :
    Calls Tryd.prog 25 #[.slice A n c] w (RCoreOut w B l) := by
  refine (rcore_more hr hB hn hnc hl hb hc).mono ?_
  rintro e w' ⟨A1, c1, A2, n2, c2, h1, h2, h3, h4, h5, _⟩
  exact ⟨A1, c1, A2, n2, c2, h1, h2, h3, h4, h5⟩
end Go.Proofs.YtmjnhpagoboejaaDoor

/- ref.times. -/
namespace Go.Proofs.YtmjnhpagoboejaaDoor
open Go.RowKit
open Wd
set_option linter.unusedSimpArgs false
set_option linter.unusedVariables false

/-- a word behind another one, so many times, till there are too many letters -/
def tl (c : List Int) : Nat → List Int → List Int
  | 0, o => o
  | f + 1, o => if o.length ≤ 8192 ∧ 0 < c.length then tl c f (o ++ c) else o
def timesL (w : List Int) (n : Int) : List Int := tl (core w) n.toNat (inv (conj w)) ++ conj w
theorem tl_go {c o : List Int} {f : Nat} (h1 : o.length ≤ 8192) (h2 : 0 < c.length) : tl c (f + 1) o = tl c f (o ++ c) := by rw [tl, if_pos ⟨h1, h2⟩]
theorem tl_stop {c o : List Int} {f : Nat} (h : ¬ (o.length ≤ 8192 ∧ 0 < c.length)) : tl c f o = o := by
  cases f with
  | zero => rfl
  | succ f => rw [tl, if_neg h]
theorem tl_len {c : List Int} : ∀ (f : Nat) (o : List Int), (tl c f o).length ≤ max o.length (8192 + c.length)
  | 0, o => by unfold tl; omega
  | f + 1, o => by
    unfold tl
    by_cases h : o.length ≤ 8192 ∧ 0 < c.length
    · rw [if_pos h]
      have := tl_len (c := c) f (o ++ c)
      rw [List.length_append] at this
      omega
    · rw [if_neg h]; omega
theorem timesL_len (w : List Int) (n : Int) : (timesL w n).length ≤ 8192 + 3 * w.length := by
  unfold timesL
  rw [List.length_append]
  have h1 := tl_len (c := core w) n.toNat (inv (conj w))
  rw [inv_len] at h1
  have h2 := core_len w
  have h3 := conj_len w
  have h4 := parts_le w
  omega
theorem letl_core {l : List Int} (h : LetL l) : LetL (core l) := fun k hk => h k (List.mem_of_mem_drop (List.mem_of_mem_take hk))
theorem letl_conj {l : List Int} (h : LetL l) : LetL (conj l) := fun k hk => h k (List.mem_of_mem_drop hk)
theorem letl_small {l : List Int} (h : LetL l) : ∀ k ∈ l, -100 ≤ k ∧ k ≤ 100 := fun k hk => by have := h k hk; omega
set_option maxRecDepth 100000 in
set_option maxHeartbeats 2000000 in
theorem rtimes_any {w : World} {B n c : Nat} {A : Option Addr} {l : List Int} {x : Int} (hr : ReadsI w B A l) (hB : B ≤ w.heap.size) (hn : n = l.length) (hnc : n ≤ c) (hl : LetL l) (hb : n ≤ 100000) (hc : c ≤ 9223372036854775807) (hx1 : 0 ≤ x) (hx2 : x ≤ 9223372036854775807) :
    Calls Tryd.prog 64 #[.slice A n c, .int .i64 x] w (OutI w (timesL l x)) := by
  have HC := Lib.hid (rcore_any hr hB hn hnc hl (by omega) hc)
  obtain ⟨N, hN⟩ : ∃ N : Nat, (N : Int) = x := ⟨x.toNat, by omega⟩
  subst hN
  have hcl := core_len l
  have hjl := conj_len l
  have hpl := parts_le l
  have HL := Lib.hid (And.intro (letl_conj hl) (And.intro (show (core l).length ≤ 100000 by omega) (show (conj l).length ≤ 100000 by omega)))
  have HT := Lib.hid (show timesL l (N : Int) = tl (core l) N (inv (conj l)) ++ conj l from rfl)
  generalize timesL l (N : Int) = T at *
  have HB := Lib.hid hB
  clear hr hB hn hnc hl hb hc hcl hjl hpl hx1
  go_enter Tryd.func64, Tryd.ntmps64
  go_wp2_with fail
  refine HC.out.mono ?_
  rintro e w2 ⟨A1, c1, A2, n2, c2, rfl, hr1, hc1, ho2, hb2⟩
  have hlen2 := ho2.len.1
  have HI := Lib.hid (rinv_any (w := w2) (c := c2) ho2.reads (Nat.le_refl _) hlen2 (letl_small HL.out.1) (by have := HL.out.2.2; omega))
  have H2 := Lib.hid (And.intro hr1 (And.intro ho2 (And.intro hb2 hlen2)))
  generalize core l = C at *
  generalize conj l = J at *
  clear hr1 ho2 hb2 hlen2
  go_wp2_with fail
  refine HI.out.mono ?_
  rintro e w3 ⟨A3, n3, c3, rfl, ho3, hb3⟩
  have hs23 : w.heap.size ≤ w2.heap.size := H2.out.2.2.1.size
  have H3 := Lib.hid (And.intro ho3 (H2.out.2.2.1.trans (hb3.mono hs23)))
  have R1 := Lib.hid (show ReadsI w3 w.heap.size A1 C from ((H2.out.1.more HB.out).below (hb3.mono hs23)))
  have R2 := Lib.hid (show ReadsI w3 w2.heap.size A2 J from (H2.out.2.1.reads.below hb3))
  have hs3 : w2.heap.size ≤ w3.heap.size := hb3.size
  clear ho3 hb3 HI HC
  go_wp2_with fail
  go_loopg [7, 8] N (fun k ov iv wr => ∃ (i : Nat) (A' : Option Addr) (n' c' : Nat) (L : List Int), ov = .slice A' n' c' ∧ iv = .int .i64 (i : Int) ∧ k = N - i ∧ i ≤ N ∧ n' ≤ 200000 ∧ Hid (tl C (N - i) L ++ J = T) ∧ Hid (OwnI wr w2.heap.size (.slice A' n' c') L ∧ Below w2.heap.size w3 wr))
  case atStart => exact ⟨0, A3, n3, c3, _, rfl, rfl, by omega, by omega, by have h := H3.out.1.len.1; rw [inv_len] at h; have := HL.out.2.2; omega, Lib.hid (by rw [HT.out]; rfl), Lib.hid ⟨H3.out.1, Below.refl _ _⟩⟩
  case round =>
    obtain ⟨i, A5, n5, c5, L, rfl, rfl, hk, hi, hn5, hL, hO⟩ := hrel
    have Hk := Lib.hid hk
    have Hn5 := Lib.hid hO.out.1.len.1
    have hsz : w2.heap.size ≤ wr.heap.size := by have := hO.out.2.size; omega
    have hCl : C.length ≤ 100000 := HL.out.2.1
    clear hk
    rcases Decidable.em (i < N) with h1 | h1
    · rcases Decidable.em (n5 ≤ 8192) with h2 | h2
      · rcases Decidable.em (0 < C.length) with h3 | h3
        · have hi1 : (i : Int) < (N : Int) := by omega
          have hi2 : (n5 : Int) ≤ 8192 := by omega
          have hi3 : (0 : Int) < (C.length : Int) := by omega
          have Hst := Lib.hid (show tl C (N - (i + 1)) (L ++ C) ++ J = T by rw [← hL.out, show N - i = (N - (i + 1)) + 1 by omega, tl_go (by rw [← Hn5.out]; exact h2) h3])
          clear h1 h2 h3
          go_wp2_with (refine wpI_append rfl (.tmp 31) (.tmp 32) rfl w2.heap.size _ L C hO.out.1 rfl rfl rfl (R1.out.below (hO.out.2.mono hs23)) (by have := Hn5.out; omega) (by omega) hsz ?_; intro A6 n6 c6 w6 ho6 hn6 hc6 hg6 hw6 hb6; have Ho6 := Lib.hid (And.intro ho6 (And.intro hn6 (hb6 _ hO.out.2))); clear ho6 hn6 hc6 hg6 hw6 hb6)
          go_roundg (N - (i + 1))
          case measure => have := Hk.out; omega
          case rel => exact ⟨i + 1, A6, n6, c6, L ++ C, rfl, rfl, rfl, by omega, by have h := Ho6.out.2.1; have := Hn5.out; omega, Hst, Lib.hid ⟨Ho6.out.1, Ho6.out.2.2⟩⟩
        · have hi1 : (i : Int) < (N : Int) := by omega
          have hi2 : (n5 : Int) ≤ 8192 := by omega
          have hi3 : (C.length : Int) ≤ 0 := by omega
          have Hend := Lib.hid (show L ++ J = T by rw [← hL.out, tl_stop (by omega)])
          clear h1 h2 h3
          go_wp2_with (refine wpI_append rfl (.tmp 34) (.tmp 35) rfl w2.heap.size _ L J hO.out.1 rfl rfl H2.out.2.2.2 (R2.out.below hO.out.2) (by have := Hn5.out; omega) (by have := HL.out.2.2; omega) hsz ?_; intro A6 n6 c6 w6 ho6 hn6 hc6 hg6 hw6 hb6; have Ho6 := Lib.hid (And.intro ho6 (hb6 _ hO.out.2)); clear ho6 hn6 hc6 hg6 hw6 hb6)
          go_ret
          exact ⟨_, _, _, rfl, by rw [← Hend.out]; exact Ho6.out.1.lower hs23, H3.out.2.trans (Ho6.out.2.mono hs23)⟩
      · have hi1 : (i : Int) < (N : Int) := by omega
        have hi2 : (8192 : Int) < (n5 : Int) := by omega
        have Hend := Lib.hid (show L ++ J = T by rw [← hL.out, tl_stop (by have := Hn5.out; omega)])
        clear h1 h2
        go_wp2_with (refine wpI_append rfl (.tmp 34) (.tmp 35) rfl w2.heap.size _ L J hO.out.1 rfl rfl H2.out.2.2.2 (R2.out.below hO.out.2) (by have := Hn5.out; omega) (by have := HL.out.2.2; omega) hsz ?_; intro A6 n6 c6 w6 ho6 hn6 hc6 hg6 hw6 hb6; have Ho6 := Lib.hid (And.intro ho6 (hb6 _ hO.out.2)); clear ho6 hn6 hc6 hg6 hw6 hb6)
        go_ret
        exact ⟨_, _, _, rfl, by rw [← Hend.out]; exact Ho6.out.1.lower hs23, H3.out.2.trans (Ho6.out.2.mono hs23)⟩
    · have hi1 : (N : Int) ≤ (i : Int) := by omega
      have Hend := Lib.hid (show L ++ J = T by rw [← hL.out, show N - i = 0 by omega]; rfl)
      clear h1
      go_wp2_with (refine wpI_append rfl (.tmp 34) (.tmp 35) rfl w2.heap.size _ L J hO.out.1 rfl rfl H2.out.2.2.2 (R2.out.below hO.out.2) (by have := Hn5.out; omega) (by have := HL.out.2.2; omega) hsz ?_; intro A6 n6 c6 w6 ho6 hn6 hc6 hg6 hw6 hb6; have Ho6 := Lib.hid (And.intro ho6 (hb6 _ hO.out.2)); clear ho6 hn6 hc6 hg6 hw6 hb6)
      go_ret
      exact ⟨_, _, _, rfl, by rw [← Hend.out]; exact Ho6.out.1.lower hs23, H3.out.2.trans (Ho6.out.2.mono hs23)⟩
end Go.Proofs.YtmjnhpagoboejaaDoor

/- Roots, plain: the program's is the reference's. -/
namespace Go.Proofs.YtmjnhpagoboejaaDoor
open Wd

theorem reps_comm (c : List Int) : ∀ k, reps k c ++ c = c ++ reps k c
  | 0 => by simp [reps]
  | k + 1 => by
    rw [reps, List.append_assoc, ← List.append_assoc c, ← reps_comm c k, List.append_assoc]
theorem reps_succ (c : List Int) (k : Nat) : reps (k + 1) c = c ++ reps k c := reps_comm c k
theorem tl_reps {c : List Int} : ∀ (n : Nat) (o : List Int), o.length + n * c.length ≤ 8192 → tl c n o = o ++ reps n c
  | 0, o, _ => by simp [tl, reps]
  | n + 1, o, h => by
    rw [Nat.succ_mul] at h
    rcases Nat.eq_zero_or_pos c.length with h0 | h0
    · have : c = [] := List.eq_nil_of_length_eq_zero h0
      subst this
      have hr : ∀ k, reps k ([] : List Int) = [] := fun k => by
        induction k with
        | zero => rfl
        | succ k ih => rw [reps, ih]; rfl
      rw [tl_stop (by simp), hr, List.append_nil]
    · have hl : o.length ≤ 8192 := by omega
      rw [tl_go hl h0, tl_reps n (o ++ c) (by rw [List.length_append]; omega), reps_succ, List.append_assoc]
theorem parts_eq {l : List Int} {t : Nat} (h1 : ∀ i, i < t → 2 * i + 1 < l.length ∧ l.getD i 0 = - l.getD (l.length - 1 - i) 0) (h2 : ¬ (2 * t + 1 < l.length ∧ l.getD t 0 = - l.getD (l.length - 1 - t) 0)) : parts l = t := by
  rcases Nat.lt_trichotomy (parts l) t with h | h | h
  · exact absurd (h1 _ h) (parts_end l)
  · exact h
  · exfalso
    have h3 := parts_le l
    exact h2 ⟨by omega, parts_spec l t h⟩
theorem getD_app_left {a b : List Int} {i : Nat} (h : i < a.length) : (a ++ b).getD i 0 = a.getD i 0 := by
  rw [List.getD_eq_getElem?_getD, List.getD_eq_getElem?_getD, List.getElem?_append_left h]
theorem getD_app_right {a b : List Int} {i : Nat} (h : a.length ≤ i) : (a ++ b).getD i 0 = b.getD (i - a.length) 0 := by
  rw [List.getD_eq_getElem?_getD, List.getD_eq_getElem?_getD, List.getElem?_append_right h]
theorem getD_inv (j : List Int) {i : Nat} (h : i < j.length) : (inv j).getD i 0 = - j.getD (j.length - 1 - i) 0 := by
  unfold inv
  rw [getD_rev _ (by rw [List.length_map]; exact h), getD_neg, List.length_map]
/-- a word conjugated by letters: its core is the word's -/
theorem parts_conj (j p : List Int) (hp : 1 ≤ p.length) : parts (inv j ++ p ++ j) = j.length + parts p := by
  have hl : (inv j ++ p ++ j).length = 2 * j.length + p.length := by rw [List.length_append, List.length_append, inv_len]; omega
  have hin : ∀ i, i < j.length → (inv j ++ p ++ j).getD i 0 = - (inv j ++ p ++ j).getD ((inv j ++ p ++ j).length - 1 - i) 0 := by
    intro i hi
    have e1 : (inv j ++ p ++ j).getD i 0 = - j.getD (j.length - 1 - i) 0 := by rw [List.append_assoc, getD_app_left (by rw [inv_len]; exact hi), getD_inv j hi]
    have e2 : (inv j ++ p ++ j).getD (2 * j.length + p.length - 1 - i) 0 = j.getD (j.length - 1 - i) 0 := by
      rw [getD_app_right (a := inv j ++ p) (by rw [List.length_append, inv_len]; omega), List.length_append, inv_len]
      congr 1
      omega
    rw [hl, e1, e2]
  have hmid : ∀ i, 2 * i + 1 < p.length → ((inv j ++ p ++ j).getD (j.length + i) 0 = - (inv j ++ p ++ j).getD ((inv j ++ p ++ j).length - 1 - (j.length + i)) 0 ↔ p.getD i 0 = - p.getD (p.length - 1 - i) 0) := by
    intro i hi
    rw [hl, getD_app_left (a := inv j ++ p) (by rw [List.length_append, inv_len]; omega), getD_app_left (a := inv j ++ p) (by rw [List.length_append, inv_len]; omega), getD_app_right (by rw [inv_len]; omega), getD_app_right (by rw [inv_len]; omega), inv_len]
    rw [show j.length + i - j.length = i by omega, show 2 * j.length + p.length - 1 - (j.length + i) - j.length = p.length - 1 - i by omega]
  have hpl := parts_le p
  apply parts_eq
  · intro i hi
    refine ⟨by omega, ?_⟩
    rcases Nat.lt_or_ge i j.length with h | h
    · exact hin i h
    · have := (hmid (i - j.length) (by omega)).2 (parts_spec p (i - j.length) (by omega))
      rwa [show j.length + (i - j.length) = i by omega] at this
  · rintro ⟨h1, h2⟩
    exact parts_end p ⟨by omega, (hmid (parts p) (by omega)).1 h2⟩
theorem core_conj (j p : List Int) (hp : 1 ≤ p.length) : core (inv j ++ p ++ j) = core p ∧ conj (inv j ++ p ++ j) = conj p ++ j := by
  have h := parts_conj j p hp
  have hpl := parts_le p
  have hl : (inv j ++ p ++ j).length = 2 * j.length + p.length := by rw [List.length_append, List.length_append, inv_len]; omega
  constructor
  · unfold core
    rw [h, hl, List.append_assoc, List.drop_append, List.drop_of_length_le (by rw [inv_len]; omega), List.nil_append, inv_len, show j.length + parts p - j.length = parts p by omega, show 2 * j.length + p.length - 2 * (j.length + parts p) = p.length - 2 * parts p by omega]
    rw [List.drop_append, List.take_append_of_le_length (by rw [List.length_drop]; omega)]
  · unfold conj
    rw [h, hl, List.append_assoc, List.drop_append, List.drop_of_length_le (by rw [inv_len]; omega), List.nil_append, inv_len]
    rw [show 2 * j.length + p.length - (j.length + parts p) - j.length = p.length - parts p by omega, List.drop_append, show p.length - parts p - p.length = 0 by omega, List.drop_zero]
/-- a period, and the repetition -/
theorem rep_iff : ∀ (k p : Nat) (c : List Int), c.length = k * p → 1 ≤ p → (c.drop p = c.take (c.length - p) ↔ c = reps k (c.take p))
  | 0, p, c, h, _ => by
    have : c = [] := List.eq_nil_of_length_eq_zero (by omega)
    subst this
    simp [reps]
  | 1, p, c, h, _ => by
    rw [List.drop_of_length_le (by omega), show c.length - p = 0 by omega, List.take_zero]
    simp [reps, List.take_of_length_le (l := c) (i := p) (by omega)]
  | k + 2, p, c, h, hp => by
    have hl : c.length = (k + 1) * p + p := by rw [h, Nat.succ_mul]
    have hkp : p ≤ (k + 1) * p := by rw [Nat.succ_mul]; omega
    have hd : (c.drop p).length = (k + 1) * p := by rw [List.length_drop]; omega
    have ih := rep_iff (k + 1) p (c.drop p) hd hp
    have hsplit : c = c.take p ++ c.drop p := (List.take_append_drop p c).symm
    constructor
    · intro he
      have e1 : (c.drop p).take p = c.take p := by rw [he, List.take_take, Nat.min_eq_left (by omega)]
      have e2 : (c.drop p).drop p = (c.drop p).take ((c.drop p).length - p) := by
        have h5 : List.drop p (List.take (c.length - p) c) = List.take (c.length - p - p) (List.drop p c) := List.drop_take ..
        calc (c.drop p).drop p = List.drop p (List.take (c.length - p) c) := by rw [← he]
          _ = List.take (c.length - p - p) (List.drop p c) := h5
          _ = (c.drop p).take ((c.drop p).length - p) := by rw [List.length_drop]
      have h4 := ih.1 e2
      rw [e1] at h4
      rw [reps_succ, ← h4]
      exact hsplit
    · intro he
      have hq : (c.take p).length = p := by rw [List.length_take]; omega
      obtain ⟨q, hqe⟩ : ∃ q, q = c.take p := ⟨_, rfl⟩
      rw [← hqe] at he hq
      have e1 : c.drop p = reps (k + 1) q := by
        rw [he, reps_succ, List.drop_append, List.drop_of_length_le (by omega), List.nil_append, hq, Nat.sub_self, List.drop_zero]
      have e2 : c.take (c.length - p) = reps (k + 1) q := by
        rw [show c.length - p = (reps (k + 1) q).length by rw [reps_len, hq]; omega]
        rw [he]
        show List.take _ (reps (k + 1) q ++ q) = _
        rw [List.take_append_of_le_length (Nat.le_refl _), List.take_of_length_le (Nat.le_refl _)]
      rw [e1, e2]
/-- the least period -/
theorem perN_spec {l : List Int} : ∀ f p, p + f = l.length → 1 ≤ p → (∀ q, 1 ≤ q → q < p → ¬ (l.length % q = 0 ∧ l.drop q = l.take (l.length - q))) → (l.length % perN l f p = 0 ∧ l.drop (perN l f p) = l.take (l.length - perN l f p)) ∧ ∀ q, 1 ≤ q → q < perN l f p → ¬ (l.length % q = 0 ∧ l.drop q = l.take (l.length - q))
  | 0, p, h, hp, h2 => by
    unfold perN
    refine ⟨⟨by rw [show p = l.length by omega]; exact Nat.mod_self _, ?_⟩, h2⟩
    rw [List.drop_of_length_le (by omega), show l.length - p = 0 by omega, List.take_zero]
  | f + 1, p, h, hp, h2 => by
    unfold perN
    by_cases hc : l.length % p ≠ 0 ∨ l.drop p ≠ l.take (l.length - p)
    · rw [if_pos hc]
      refine perN_spec f (p + 1) (by omega) (by omega) (fun q h1 h3 => ?_)
      rcases Nat.lt_or_ge q p with h4 | h4
      · exact h2 q h1 h4
      · rw [show q = p by omega]
        rintro ⟨h5, h6⟩
        rcases hc with h7 | h7
        · exact h7 h5
        · exact h7 h6
    · rw [if_neg hc]
      refine ⟨⟨Decidable.byContradiction fun h => hc (.inl h), Decidable.byContradiction fun h => hc (.inr h)⟩, h2⟩
theorem per_spec {l : List Int} (h : 1 ≤ l.length) : (l.length % per l = 0 ∧ l.drop (per l) = l.take (l.length - per l)) ∧ ∀ q, 1 ≤ q → q < per l → ¬ (l.length % q = 0 ∧ l.drop q = l.take (l.length - q)) :=
  perN_spec (l.length - 1) 1 (by omega) (by omega) (fun q h1 h2 => by omega)
/-- the reference's root -/
def rrootN (c j w : List Int) : Nat → List Int × Nat
  | 0 => (w, 1)
  | 1 => (w, 1)
  | n + 2 => if c.length % (n + 2) = 0 ∧ inv j ++ c ++ j = timesL (inv j ++ c.take (c.length / (n + 2)) ++ j) ((n + 2 : Nat) : Int) then (inv j ++ c.take (c.length / (n + 2)) ++ j, n + 2) else rrootN c j w (n + 1)
theorem reps_ends {c p : List Int} {n : Nat} (hn : 2 ≤ n) (hp : 2 ≤ p.length) (hc : Red c) (he : c = reps n p) : ¬ (p.getD 0 0 = - p.getD (p.length - 1 - 0) 0) := by
  intro h
  obtain ⟨m, rfl⟩ : ∃ m, n = m + 2 := ⟨n - 2, by omega⟩
  have e : c = p ++ (p ++ reps m p) := by rw [he, reps_succ, reps_succ]
  have hr := (red_iff.1 hc).2 (p.length - 1) (by rw [e]; simp; omega)
  rw [e] at hr
  have e1 : (p ++ (p ++ reps m p)).getD (p.length - 1) 0 = p.getD (p.length - 1) 0 := getD_app_left (by omega)
  have e2 : (p ++ (p ++ reps m p)).getD (p.length - 1 + 1) 0 = p.getD 0 0 := by
    rw [getD_app_right (by omega), show p.length - 1 + 1 - p.length = 0 by omega, getD_app_left (by omega)]
  rw [e1, e2] at hr
  rw [Nat.sub_zero] at h
  exact hr h
theorem times_iff {c j : List Int} {n : Nat} (hc : Red c) (hn : 2 ≤ n) (hd : c.length % n = 0) (h1 : 1 ≤ c.length) (hs : c.length + 2 * j.length ≤ 4096) :
    inv j ++ c ++ j = timesL (inv j ++ c.take (c.length / n) ++ j) (n : Int) ↔ c = reps n (c.take (c.length / n)) := by
  obtain ⟨p, hp⟩ : ∃ p, p = c.take (c.length / n) := ⟨_, rfl⟩
  rw [← hp]
  have hnp : n * (c.length / n) = c.length := Nat.mul_div_cancel' (Nat.dvd_of_mod_eq_zero hd)
  have hpl : p.length = c.length / n := by
    rw [hp, List.length_take, Nat.min_eq_left (Nat.div_le_self _ _)]
  have hpp : n * p.length = c.length := by rw [hpl]; exact hnp
  have hp1 : 1 ≤ p.length := by
    rcases Nat.eq_zero_or_pos p.length with h | h
    · rw [h] at hpp; omega
    · exact h
  obtain ⟨ec, ej⟩ := core_conj j p hp1
  have hcl := core_len p
  have hjl := conj_len p
  have hpa := parts_le p
  have hmul : n * (core p).length ≤ n * p.length := Nat.mul_le_mul_left _ (by omega)
  have hpn : p.length ≤ n * p.length := Nat.le_mul_of_pos_left _ (by omega)
  unfold timesL
  rw [ec, ej, show ((n : Int)).toNat = n by omega, tl_reps n _ (by rw [inv_len, List.length_append]; omega), inv_app]
  rcases Nat.eq_zero_or_pos (parts p) with h0 | h0
  · have hc0 : core p = p := by unfold core; rw [h0, List.drop_zero, List.take_of_length_le (by omega)]
    have hj0 : conj p = [] := List.eq_nil_of_length_eq_zero (by omega)
    rw [hc0, hj0]
    constructor
    · intro h
      rw [List.nil_append, show inv ([] : List Int) = [] from rfl, List.append_nil] at h
      exact List.append_cancel_left (List.append_cancel_right h)
    · intro h
      rw [List.nil_append, show inv ([] : List Int) = [] from rfl, List.append_nil, ← h]
  · constructor
    · intro h
      exfalso
      have hl := congrArg List.length h
      simp only [List.length_append, inv_len, reps_len] at hl
      have h2 : n * (core p).length + 2 * (n * parts p) = n * p.length := by
        have : n * ((core p).length + 2 * parts p) = n * p.length := by rw [hcl]; congr 1; omega
        rw [Nat.mul_add] at this
        have h3 : n * (2 * parts p) = 2 * (n * parts p) := by rw [Nat.mul_left_comm]
        omega
      have h3 : 2 * parts p ≤ n * parts p := Nat.mul_le_mul_right _ hn
      omega
    · intro h
      exfalso
      have h5 := parts_spec p 0 h0
      have h6 := parts_le p
      exact reps_ends hn (by omega) hc h h5
theorem red_mid {a b c : List Int} (h : Red (a ++ b ++ c)) : Red b := by
  have hi := red_iff.1 h
  refine red_iff.2 ⟨fun k hk => hi.1 k (by simp [hk]), fun i hl => ?_⟩
  have h1 := hi.2 (a.length + i) (by rw [List.length_append, List.length_append]; omega)
  rw [getD_app_left (a := a ++ b) (by rw [List.length_append]; omega), getD_app_left (a := a ++ b) (by rw [List.length_append]; omega), getD_app_right (by omega), getD_app_right (by omega), show a.length + i + 1 - a.length = i + 1 by omega, show a.length + i - a.length = i by omega] at h1
  exact h1
theorem red_core {s : List Int} (h : Red s) : Red (core s) := by
  rw [word_parts s] at h
  exact red_mid h
/-- the root of a reduced word -/
def rootS (s : List Int) : List Int := inv (conj s) ++ (core s).take (per (core s)) ++ conj s
theorem rroot_eq {s : List Int} (hr : Red s) (h1 : 1 ≤ s.length) (hs : s.length ≤ 4096) : rrootN (core s) (conj s) s (core s).length = (rootS s, (core s).length / per (core s)) := by
  have hcp := core_pos hr h1
  have hcr := red_core hr
  obtain ⟨⟨hp1, hp2⟩, hp3⟩ := per_spec hcp
  have hple := per_le hcp
  have hcl := core_len s
  have hjl := conj_len s
  have hpl := parts_le s
  obtain ⟨c, hc⟩ : ∃ c, c = core s := ⟨_, rfl⟩
  obtain ⟨P, hP⟩ : ∃ P, P = per (core s) := ⟨_, rfl⟩
  have hroot : rootS s = inv (conj s) ++ c.take P ++ conj s := by rw [hc, hP]; rfl
  rw [hroot]
  rw [← hP] at hp1 hp2 hp3 hple ⊢
  rw [← hc] at hcp hcr hp1 hp2 hp3 hple hcl ⊢
  have hk : c.length / P * P = c.length := Nat.div_mul_cancel (Nat.dvd_of_mod_eq_zero hp1)
  obtain ⟨K, hK⟩ : ∃ K, K = c.length / P := ⟨_, rfl⟩
  rw [← hK] at hk ⊢
  have hK1 : 1 ≤ K := by
    rcases Nat.eq_zero_or_pos K with h | h
    · rw [h] at hk; omega
    · exact h
  -- what a hit means
  have hit : ∀ n, 2 ≤ n → (c.length % n = 0 ∧ inv (conj s) ++ c ++ conj s = timesL (inv (conj s) ++ c.take (c.length / n) ++ conj s) (n : Int)) → n ≤ K := by
    rintro n hn ⟨hd, he⟩
    have h4 := (times_iff hcr hn hd hcp (by omega)).1 he
    have hnp : c.length / n * n = c.length := Nat.div_mul_cancel (Nat.dvd_of_mod_eq_zero hd)
    have hq1 : 1 ≤ c.length / n := by
      rcases Nat.eq_zero_or_pos (c.length / n) with h | h
      · rw [h] at hnp; omega
      · exact h
    have h5 := (rep_iff n (c.length / n) c (by rw [Nat.mul_comm]; exact hnp.symm) hq1).2 h4
    have h6 : P ≤ c.length / n := Nat.le_of_not_lt fun hlt => hp3 _ hq1 hlt ⟨Nat.mod_eq_zero_of_dvd ⟨n, by omega⟩, h5⟩
    have h7 : n * P ≤ K * P := by
      rw [hk, ← hnp, Nat.mul_comm]
      exact Nat.mul_le_mul_right _ h6
    exact Nat.le_of_mul_le_mul_right h7 (by omega)
  have hmain : ∀ N, K ≤ N → rrootN c (conj s) s N = (inv (conj s) ++ c.take P ++ conj s, K) := by
    intro N
    induction N with
    | zero => intro h; omega
    | succ N ih =>
      intro h
      cases N with
      | zero =>
        have hk1 : K = 1 := by omega
        have hP1 : P = c.length := by rw [hk1] at hk; omega
        rw [hk1, rrootN, hP1, List.take_of_length_le (Nat.le_refl _), hc, ← word_parts s]
      | succ n =>
        rw [rrootN]
        rcases Nat.lt_or_ge K (n + 2) with hlt | hge
        · rw [if_neg, ih (by omega)]
          intro hh
          have := hit (n + 2) (by omega) hh
          omega
        · have hKn : K = n + 2 := by omega
          have hPn : c.length / (n + 2) = P := by rw [← hKn, ← hk]; exact Nat.mul_div_cancel_left _ hK1
          have hd : c.length % (n + 2) = 0 := by rw [← hKn, ← hk]; exact Nat.mul_mod_right _ _
          rw [if_pos, hPn, hKn]
          refine ⟨hd, (times_iff hcr (by omega) hd hcp (by omega)).2 ?_⟩
          rw [hPn]
          exact (rep_iff (n + 2) P c (by rw [← hKn]; exact hk.symm) hple.1).1 hp2
  exact hmain c.length (by rw [← hk]; exact Nat.le_mul_of_pos_right _ hple.1)
end Go.Proofs.YtmjnhpagoboejaaDoor

/- ref.Root. -/
namespace Go.Proofs.YtmjnhpagoboejaaDoor
open Go.RowKit
open Wd
set_option linter.unusedSimpArgs false
set_option linter.unusedVariables false

theorem rows_lit (w : World) (rs : List SRow) {B : Nat} (h : ∀ r ∈ rs, ReadsI w B r.1 r.2.2) (hB : B ≤ w.heap.size) : ReadsL (w.alloc (.cells (rs.map sv).toArray 22)) (w.heap.size + 1) (some ⟨w.heap.size, 0, none⟩) rs := by
  refine ⟨⟨by simp, fun _ => ⟨_, rfl, Nat.lt_succ_self _, fun j u hu => ?_⟩⟩, fun r' hr' => ?_⟩
  · have hb := Blk.new w 22 (rs.map sv).toArray
    have e : (⟨w.heap.size, 0, none⟩ : Addr).add j = ⟨w.heap.size, j, none⟩ := by rw [Addr.add_lit, Nat.zero_add]
    rw [e, hb.cell j]
    simpa using hu
  · exact ((h r' hr').alloc hB _).more (by omega)
/-- three words, one behind the other -/
theorem rjoin3 {w : World} {B n1 c1 n2 c2 n3 c3 : Nat} {A1 A2 A3 : Option Addr} {a b d : List Int} (h1 : ReadsI w B A1 a) (h2 : ReadsI w B A2 b) (h3 : ReadsI w B A3 d) (hB : B ≤ w.heap.size) (e1 : n1 = a.length) (e2 : n2 = b.length) (e3 : n3 = d.length) (hl : a.length + b.length + d.length ≤ 1000000000) :
    Calls Tryd.prog 63 #[.slice (some ⟨w.heap.size, 0, none⟩) 3 3] (w.alloc (.cells #[.slice A1 n1 c1, .slice A2 n2 c2, .slice A3 n3 c3] 22)) (OutI w (a ++ b ++ d)) := by
  subst e1 e2 e3
  have h := rjoined_any (w := w.alloc (.cells #[.slice A1 a.length c1, .slice A2 b.length c2, .slice A3 d.length c3] 22)) (c := 3) (n := 3) (rows_lit w [(A1, c1, a), (A2, c2, b), (A3, c3, d)] (fun r hr => by
    simp only [List.mem_cons, List.mem_nil_iff, or_false] at hr
    rcases hr with rfl | rfl | rfl
    · exact h1
    · exact h2
    · exact h3) hB) (by simp) rfl (by decide) (by simp; omega)
  refine h.mono ?_
  rintro e w' ⟨A', n', c', rfl, ho, hb⟩
  refine ⟨A', n', c', rfl, ?_, ((Below.refl w.heap.size w).alloc (Nat.le_refl _) _).trans (hb.mono (by simp))⟩
  have e : List.flatten (List.map (fun r : SRow => r.2.2) [(A1, c1, a), (A2, c2, b), (A3, c3, d)]) = a ++ b ++ d := by simp
  rw [e] at ho
  exact ho.lower (by simp)
/-- what the reference's Root leaves -/
def RRootOut (w : World) (R : List Int × Nat) (e : Ending) (w' : World) : Prop := ∃ A' n' c', e = .returned (.tuple #[.slice A' n' c', .int .i64 (R.2 : Int)]) ∧ ReadsI w' w'.heap.size A' R.1 ∧ n' = R.1.length ∧ Below w.heap.size w w'
theorem rrootN_hit {c j s p : List Int} {n : Nat} (hn : 2 ≤ n) (hp : p = c.take (c.length / n)) (hd : c.length % n = 0) (h : inv j ++ c ++ j = timesL (inv j ++ p ++ j) (n : Int)) : rrootN c j s n = (inv j ++ p ++ j, n) := by
  obtain ⟨m, rfl⟩ : ∃ m, n = m + 2 := ⟨n - 2, by omega⟩
  rw [rrootN, ← hp, if_pos ⟨hd, h⟩]
theorem rrootN_miss {c j s p : List Int} {n : Nat} (hn : 2 ≤ n) (hp : p = c.take (c.length / n)) (h : ¬ (c.length % n = 0 ∧ inv j ++ c ++ j = timesL (inv j ++ p ++ j) (n : Int))) : rrootN c j s n = rrootN c j s (n - 1) := by
  obtain ⟨m, rfl⟩ : ∃ m, n = m + 2 := ⟨n - 2, by omega⟩
  rw [rrootN, ← hp, if_neg h]
  rfl
theorem rrootN_end {c j s : List Int} {n : Nat} (hn : n ≤ 1) : rrootN c j s n = (s, 1) := by
  rcases Nat.eq_zero_or_pos n with h | h
  · subst h; rfl
  · rw [show n = 1 by omega]; rfl
set_option maxRecDepth 100000 in
set_option maxHeartbeats 4000000 in
theorem rroot_any {w : World} {B n c : Nat} {A : Option Addr} {s : List Int} (hr : ReadsI w B A s) (hB : B ≤ w.heap.size) (hn : n = s.length) (hnc : n ≤ c) (hl : LetL s) (hb : n ≤ 4096) (hc : c ≤ 9223372036854775807) :
    Calls Tryd.prog 29 #[.slice A n c] w (RRootOut w (rrootN (core s) (conj s) s (core s).length)) := by
  have HC := Lib.hid (rcore_any hr hB hn hnc hl (by omega) hc)
  have hcl := core_len s
  have hjl := conj_len s
  have hpl := parts_le s
  have HL := Lib.hid (And.intro (letl_core hl) (And.intro (letl_conj hl) (And.intro (show (core s).length ≤ 4096 by omega) (show (conj s).length ≤ 4096 by omega))))
  have HR := Lib.hid (And.intro (hr.more hB) hn)
  obtain ⟨R, hR⟩ : ∃ R, R = rrootN (core s) (conj s) s (core s).length := ⟨_, rfl⟩
  have HRe := Lib.hid hR.symm
  rw [← hR]
  have HB := Lib.hid hB
  clear hr hB hn hnc hl hb hc hcl hjl hpl hR
  go_enter Tryd.func29, Tryd.ntmps29
  go_wp2_with fail
  refine HC.out.mono ?_
  rintro e w2 ⟨A1, c1, A2, n2, c2, rfl, hr1, hc1, ho2, hb2⟩
  have hlen2 := ho2.len.1
  have H2 := Lib.hid (And.intro (show ReadsI w2 w2.heap.size A1 (core s) from hr1.more (by have := HB.out; have := hb2.size; omega)) (And.intro ho2.reads (And.intro hb2 hlen2)))
  generalize core s = C at *
  generalize conj s = J at *
  have hcm : C.length ≤ 4096 := HL.out.2.2.1
  obtain ⟨m, hm⟩ : ∃ m, m = C.length := ⟨_, rfl⟩
  rw [← hm] at hcm hc1 ⊢
  have Hm := Lib.hid hm
  have HR2 := Lib.hid (show rrootN C J s m = R by rw [hm]; exact HRe.out)
  clear hr1 ho2 hb2 hlen2 hm HC HRe
  go_wp2_with fail
  go_loopg [6] m (fun k nv wr => ∃ N : Nat, nv = .int .i64 (N : Int) ∧ k = N ∧ N ≤ m ∧ Hid (rrootN C J s N = R) ∧ Hid (Below w2.heap.size w2 wr))
  case atStart => exact ⟨m, rfl, rfl, by omega, HR2, Lib.hid (Below.refl _ _)⟩
  case round =>
    obtain ⟨N, rfl, hk, hN, hRN, hO⟩ := hrel
    have Hk := Lib.hid hk
    clear hk
    by_cases hN1 : 2 ≤ N
    · have hNi : (1 : Int) < (N : Int) := by omega
      have hN0 : ¬ N = 0 := by omega
      obtain ⟨r, hre⟩ : ∃ r, r = m % N := ⟨_, rfl⟩
      have hrt : Int.tmod (m : Int) (N : Int) = (r : Int) := by rw [hre]; rfl
      have hrl : r ≤ 4096 := by rw [hre]; have := Nat.mod_lt m (show 0 < N by omega); omega
      have hrw : IntKind.i64.wrap (r : Int) = (r : Int) := by rw [IntKind.wrap_i64]; omega
      by_cases hr0 : r = 0
      · have hrb : ((r : Int) != 0) = false := by rw [hr0]; rfl
        obtain ⟨q, hqe⟩ : ∃ q, q = m / N := ⟨_, rfl⟩
        have hqt : Int.tdiv (m : Int) (N : Int) = (q : Int) := by rw [hqe]; rfl
        have hqm : q ≤ m := by rw [hqe]; exact Nat.div_le_self _ _
        have hqw : IntKind.i64.wrap (q : Int) = (q : Int) := by rw [IntKind.wrap_i64]; omega
        obtain ⟨p, hpe⟩ : ∃ p, p = C.take q := ⟨_, rfl⟩
        have hpl : p.length = q := by rw [hpe, List.length_take]; have := Hm.out; omega
        have RA := Lib.hid (show ReadsI wr w2.heap.size A1 C from H2.out.1.below hO.out)
        have RJ := Lib.hid (show ReadsI wr w2.heap.size A2 J from H2.out.2.1.below hO.out)
        have RP := Lib.hid (show ReadsI wr w2.heap.size A1 p by rw [hpe]; exact ReadsI.take (m := C.drop q) (by rw [List.take_append_drop]; exact RA.out))
        have HLp := Lib.hid (show LetL p by rw [hpe]; exact fun k hk => HL.out.1 k (List.mem_of_mem_take hk))
        have Hpl := Lib.hid hpl
        have Hhit := Lib.hid (fun h : inv J ++ C ++ J = timesL (inv J ++ p ++ J) (N : Int) => show R = (inv J ++ p ++ J, N) by rw [← hRN.out]; exact rrootN_hit hN1 (by rw [hpe, hqe, Hm.out]) (by rw [← Hm.out, ← hre]; exact hr0) h)
        have Hmiss := Lib.hid (fun h : ¬ (inv J ++ C ++ J = timesL (inv J ++ p ++ J) (N : Int)) => show rrootN C J s (N - 1) = R by rw [← hRN.out]; exact (rrootN_miss hN1 (by rw [hpe, hqe, Hm.out]) (fun hh => h hh.2)).symm)
        have hqmi : (q : Int) ≤ (m : Int) := by omega
        have hqc : (q : Int) ≤ (c1 : Int) := by omega
        have HI := Lib.hid (fun (W : World) (h : ReadsI W W.heap.size A2 J) => rinv_any (c := c2) h (Nat.le_refl _) H2.out.2.2.2 (letl_small HL.out.2.1) (by have := H2.out.2.2.2; have := HL.out.2.2.2; omega))
        have Hlens := Lib.hid (show (inv J).length + C.length + J.length ≤ 1000000000 ∧ (inv J).length + p.length + J.length ≤ 100000 by have := HL.out.2.2; have := Hpl.out; rw [inv_len]; omega)
        have hs2 := hO.out.size
        have HLv := Lib.hid (show LetL (inv J ++ p ++ J) from fun k hk => by
          rw [List.mem_append, List.mem_append] at hk
          rcases hk with (h | h) | h
          · exact letl_inv HL.out.2.1 k h
          · exact HLp.out k h
          · exact HL.out.2.1 k h)
        subst hr0
        clear hre hqe hpe hpl
        go_wp2_with fail
        refine (HI.out wr (RJ.out.more hs2)).mono ?_
        rintro e w3 ⟨A3, n3, c3, rfl, ho3, hb3⟩
        have H3 := Lib.hid (And.intro ho3.reads (And.intro ho3.len.1 hb3))
        clear ho3 hb3
        have hn3 := H3.out.2.1
        have b3 : w2.heap.size ≤ w3.heap.size := by have := H3.out.2.2.size; omega
        have HJ1 := Lib.hid (rjoin3 (w := w3) (c1 := c3) (c2 := c1) (c3 := c2) H3.out.1 ((RA.out.more hs2).below H3.out.2.2 |>.more H3.out.2.2.size) ((RJ.out.more hs2).below H3.out.2.2 |>.more H3.out.2.2.size) (Nat.le_refl _) hn3 Hm.out H2.out.2.2.2 Hlens.out.1)
        clear hn3
        go_wp2_with fail
        refine HJ1.out.mono ?_
        rintro e w4 ⟨A4, n4, c4, rfl, ho4, hb4⟩
        have H4 := Lib.hid (And.intro ho4.reads (And.intro ho4.len.1 (H3.out.2.2.trans (hb4.mono H3.out.2.2.size))))
        have b4 : wr.heap.size ≤ w4.heap.size := H4.out.2.2.size
        clear ho4 hb4
        go_wp2_with fail
        refine (HI.out w4 ((RJ.out.more hs2).below H4.out.2.2 |>.more b4)).mono ?_
        rintro e w5 ⟨A5, n5, c5, rfl, ho5, hb5⟩
        have H5 := Lib.hid (And.intro ho5.reads (And.intro ho5.len.1 (And.intro hb5 (H4.out.2.2.trans (hb5.mono b4)))))
        have b5 : wr.heap.size ≤ w5.heap.size := H5.out.2.2.2.size
        clear ho5 hb5
        have HJ2 := Lib.hid (rjoin3 (w := w5) (c1 := c5) (c2 := c1) (c3 := c2) H5.out.1 ((RP.out.more hs2).below H5.out.2.2.2 |>.more b5) ((RJ.out.more hs2).below H5.out.2.2.2 |>.more b5) (Nat.le_refl _) H5.out.2.1 Hpl.out.symm H2.out.2.2.2 (by have := Hlens.out.2; omega))
        go_wp2_with fail
        refine HJ2.out.mono ?_
        rintro e w6 ⟨A6, n6, c6, rfl, ho6, hb6⟩
        have H6 := Lib.hid (And.intro ho6 (And.intro (H5.out.2.2.1.trans (hb6.mono H5.out.2.2.1.size)) (H5.out.2.2.2.trans (hb6.mono b5))))
        have b6 : wr.heap.size ≤ w6.heap.size := H6.out.2.2.size
        clear ho6 hb6
        have HT := Lib.hid (rtimes_any (w := w6) (c := c6) (x := (N : Int)) H6.out.1.reads (Nat.le_refl _) H6.out.1.len.1 H6.out.1.len.2.1 HLv.out (by have h := H6.out.1.len.1; rw [List.length_append, List.length_append] at h; have := Hlens.out.2; omega) H6.out.1.len.2.2 (by omega) (by omega))
        go_wp2_with fail
        refine HT.out.mono ?_
        rintro e w7 ⟨A7, n7, c7, rfl, ho7, hb7⟩
        have H7 := Lib.hid (And.intro ho7 (And.intro (H6.out.2.1.trans (hb7.mono H6.out.2.1.size)) (H6.out.2.2.trans (hb7.mono b6))))
        have b7 : wr.heap.size ≤ w7.heap.size := H7.out.2.2.size
        clear ho7 hb7
        have R4 := Lib.hid (show ReadsI w7 w7.heap.size A4 (inv J ++ C ++ J) from (H4.out.1.below H7.out.2.1).more H7.out.2.1.size)
        have hl4 := Hlens.out.1
        have hl4b : n4 ≤ 1000000000 := by have h := H4.out.2.1; rw [List.length_append, List.length_append] at h; omega
        have HD : Decidable (inv J ++ C ++ J = timesL (inv J ++ p ++ J) (N : Int)) := inferInstance
        rcases Decidable.em (inv J ++ C ++ J = timesL (inv J ++ p ++ J) (N : Int)) with he | he
        · have HS := Lib.hid (same_true (w := w7) (c := c4) (c' := c7) R4.out H7.out.1.reads H4.out.2.1 H7.out.1.len.1 hl4b he)
          have Hres := Lib.hid (Hhit.out he)
          clear he HD
          go_wp2_with fail
          refine HS.out.mono ?_
          rintro e w8 ⟨rfl, d8, hw8⟩
          have hb8 : Below wr.heap.size wr w8 := by rw [← hw8]; exact bdrew H7.out.2.2 d8
          have Hb8 := Lib.hid hb8
          have b8 : wr.heap.size ≤ w8.heap.size := hb8.size
          clear hw8 hb8
          go_wp2_with fail
          refine (HI.out w8 ((RJ.out.more hs2).below Hb8.out |>.more b8)).mono ?_
          rintro e w9 ⟨A9, n9, c9, rfl, ho9, hb9⟩
          have H9 := Lib.hid (And.intro ho9.reads (And.intro ho9.len.1 (Hb8.out.trans (hb9.mono b8))))
          have b9 : wr.heap.size ≤ w9.heap.size := H9.out.2.2.size
          clear ho9 hb9
          have HJ3 := Lib.hid (rjoin3 (w := w9) (c1 := c9) (c2 := c1) (c3 := c2) H9.out.1 ((RP.out.more hs2).below H9.out.2.2 |>.more b9) ((RJ.out.more hs2).below H9.out.2.2 |>.more b9) (Nat.le_refl _) H9.out.2.1 Hpl.out.symm H2.out.2.2.2 (by have := Hlens.out.2; omega))
          go_wp2_with fail
          refine HJ3.out.mono ?_
          rintro e w10 ⟨A10, n10, c10, rfl, ho10, hb10⟩
          have H10 := Lib.hid (And.intro ho10 (H9.out.2.2.trans (hb10.mono b9)))
          clear ho10 hb10
          go_wp2_with fail
          go_ret2
          exact ⟨A10, n10, c10, by rw [Hres.out]; rfl, by rw [Hres.out]; exact H10.out.1.reads, by rw [Hres.out]; exact H10.out.1.len.1, (H2.out.2.2.1.trans (hO.out.mono H2.out.2.2.1.size)).trans (H10.out.2.mono (by have := H2.out.2.2.1.size; have := hO.out.size; omega))⟩
        · have HS := Lib.hid (same_false (w := w7) (c := c4) (c' := c7) R4.out H7.out.1.reads H4.out.2.1 H7.out.1.len.1 hl4b (by have h := H7.out.1.len.1; have h2 := timesL_len (inv J ++ p ++ J) (N : Int); rw [List.length_append, List.length_append] at h2; have := Hlens.out.2; omega) he)
          have Hres := Lib.hid (Hmiss.out he)
          clear he HD
          go_wp2_with fail
          refine HS.out.mono ?_
          rintro e w8 ⟨rfl, d8, rfl⟩
          go_wp2_with fail
          go_roundg (N - 1)
          case measure => have := Hk.out; omega
          case rel => exact ⟨N - 1, by rw [show ((N - 1 : Nat) : Int) = (N : Int) - 1 by omega], rfl, by omega, Hres, Lib.hid (bdrew (hO.out.trans (H7.out.2.2.mono hs2)) d8)⟩
      · have hrb : ((r : Int) != 0) = true := by simp; omega
        have Hmiss := Lib.hid (show rrootN C J s (N - 1) = R by rw [← hRN.out]; exact (rrootN_miss hN1 rfl (fun hh => hr0 (by rw [hre, Hm.out]; exact hh.1))).symm)
        clear hre hr0
        go_wp2_with fail
        go_roundg (N - 1)
        case measure => have := Hk.out; omega
        case rel => exact ⟨N - 1, by rw [show ((N - 1 : Nat) : Int) = (N : Int) - 1 by omega], rfl, by omega, Hmiss, hO⟩
    · have hNi : (N : Int) ≤ 1 := by omega
      have Hend := Lib.hid (show R = (s, 1) by rw [← hRN.out]; exact rrootN_end (by omega))
      go_wp2_with fail
      go_ret2
      exact ⟨A, n, c, by rw [Hend.out]; rfl, by rw [Hend.out]; exact ((HR.out.1.below H2.out.2.2.1).more (H2.out.2.2.1.size)).below hO.out |>.more hO.out.size, by rw [Hend.out]; exact HR.out.2, H2.out.2.2.1.trans (hO.out.mono H2.out.2.2.1.size)⟩
end Go.Proofs.YtmjnhpagoboejaaDoor

/- ref.Letter, Letters, Check; words.Check. -/
namespace Go.Proofs.YtmjnhpagoboejaaDoor
open Go.RowKit
open Wd
set_option linter.unusedSimpArgs false
set_option linter.unusedVariables false

set_option maxRecDepth 100000 in
theorem rletter_any {w : World} {k : Int} (h1 : -9223372036854775808 ≤ k) (h2 : k ≤ 9223372036854775807) :
    Calls Tryd.prog 82 #[.int .i64 k] w (fun e w' => e = .returned (.bool (isLet k)) ∧ w = w') := by
  have Hl := Lib.hid (show isLet k = decide (k ≠ 0 ∧ -64 ≤ k ∧ k ≤ 64) from rfl)
  generalize isLet k = b at *
  by_cases a1 : 1 ≤ k
  · by_cases a3 : k ≤ 64
    · have hb : b = true := by rw [Hl.out]; exact decide_eq_true ⟨by omega, by omega, a3⟩
      subst hb
      clear Hl
      go_enter Tryd.func82, Tryd.ntmps82
      go_wp2
      go_ret
      exact ⟨rfl, rfl⟩
    · have hb : b = false := by rw [Hl.out]; exact decide_eq_false (fun h => a3 h.2.2)
      subst hb
      clear Hl
      have a4 : ¬ k ≤ -1 := by omega
      go_enter Tryd.func82, Tryd.ntmps82
      go_wp2
      go_ret
      exact ⟨rfl, rfl⟩
  · by_cases a2 : k ≤ -1
    · by_cases a3 : -64 ≤ k
      · have hb : b = true := by rw [Hl.out]; exact decide_eq_true ⟨by omega, a3, by omega⟩
        subst hb
        clear Hl
        go_enter Tryd.func82, Tryd.ntmps82
        go_wp2
        go_ret
        exact ⟨rfl, rfl⟩
      · have hb : b = false := by rw [Hl.out]; exact decide_eq_false (fun h => a3 h.2.1)
        subst hb
        clear Hl
        go_enter Tryd.func82, Tryd.ntmps82
        go_wp2
        go_ret
        exact ⟨rfl, rfl⟩
    · have hb : b = false := by rw [Hl.out]; exact decide_eq_false (fun h => by have := h.1; omega)
      subst hb
      clear Hl
      go_enter Tryd.func82, Tryd.ntmps82
      go_wp2
      go_ret
      exact ⟨rfl, rfl⟩
set_option maxRecDepth 100000 in
set_option maxHeartbeats 2000000 in
theorem rletters_any {w : World} {B n c : Nat} {A : Option Addr} {l : List Int} (hr : ReadsI w B A l) (hn : n = l.length) (hnl : n ≤ 9223372036854775807) (hw : Wf l) :
    Calls Tryd.prog 45 #[.slice A n c] w (fun e w' => e = .returned (.bool (isWord l)) ∧ w = w') := by
  have Hn := Lib.hid hn
  have Hw := Lib.hid hw
  have Hr := Lib.hid hr
  obtain ⟨b0, hb0⟩ : ∃ b, b = isWord l := ⟨_, rfl⟩
  have Hb0 := Lib.hid hb0
  rw [← hb0]
  clear hn hw hr hb0
  go_enter Tryd.func45, Tryd.ntmps45
  go_wp2_with fail
  go_loopg [3] n (fun k iv wr => ∃ i : Nat, iv = .int .i64 (i : Int) ∧ k = n - i ∧ i ≤ n ∧ w = wr ∧ Hid ((l.take i).any (fun k => !isLet k) = false))
  case atStart => exact ⟨0, rfl, by omega, by omega, rfl, Lib.hid (by rw [List.take_zero]; rfl)⟩
  case round =>
    obtain ⟨i, rfl, hk, hi, rfl, ht⟩ := hrel
    have Hk := Lib.hid hk
    clear hk
    by_cases hin : i < n
    · have hil : i < l.length := by rw [← Hn.out]; exact hin
      obtain ⟨ad, rfl, hb1, c0⟩ := Hr.out.at_ hil
      have hb := Hw.out l[i] (List.getElem_mem hil)
      have HB := Lib.hid (rletter_any (w := w) hb.1 hb.2)
      have Hst := Lib.hid (find_step hil ht.out)
      have Hhit := Lib.hid (fun h : isLet l[i] = false => show isWord l = false from by unfold isWord; rw [Bool.not_eq_false']; exact List.any_eq_true.2 ⟨l[i], List.getElem_mem hil, by rw [h]; rfl⟩)
      have hii : (i : Int) < (n : Int) := by omega
      generalize l[i] = x at *
      obtain ⟨b, hbb⟩ : ∃ b, b = isLet x := ⟨_, rfl⟩
      rw [← hbb] at HB Hst Hhit
      clear hbb hb hb1 hil
      cases b
      · go_wp2_with fail
        refine HB.out.mono ?_
        rintro e w' ⟨rfl, rfl⟩
        go_wp2_with fail
        go_ret
        exact ⟨by rw [Hb0.out, Hhit.out (by trivial)]; rfl, rfl⟩
      · go_wp2_with fail
        refine HB.out.mono ?_
        rintro e w' ⟨rfl, rfl⟩
        go_wp2_with fail
        go_roundg (n - (i + 1))
        case measure => have := Hk.out; omega
        case rel => exact ⟨i + 1, rfl, rfl, by omega, rfl, Lib.hid (Hst.out (by trivial))⟩
    · have hii : (n : Int) ≤ (i : Int) := by omega
      have hend : b0 = true := by
        have h := ht.out
        rw [List.take_of_length_le (by have := Hn.out; omega)] at h
        rw [Hb0.out]
        unfold isWord
        rw [h]; rfl
      have Hend := Lib.hid hend
      clear hend
      go_wp2_with fail
      go_ret
      exact ⟨by rw [Hend.out]; rfl, rfl⟩
theorem chk_val (l : List Int) : chk [l] = if isWord l then (if 4096 < l.length then 3 else 0) else 2 := by
  unfold chk tooLong
  simp
set_option maxRecDepth 100000 in
theorem rcheck_any {w : World} {B n c : Nat} {A : Option Addr} {l : List Int} (hr : ReadsI w B A l) (hn : n = l.length) (hnl : n ≤ 9223372036854775807) (hw : Wf l) :
    Calls Tryd.prog 14 #[.slice A n c] w (fun e w' => e = .returned (.int .i64 (chk [l])) ∧ w = w') := by
  have HL := Lib.hid (rletters_any (c := c) hr hn hnl hw)
  have hc := chk_val l
  rw [← hn] at hc
  have Hc := Lib.hid hc
  generalize isWord l = b at *
  generalize chk [l] = z at *
  clear hr hn hw hc
  cases b
  · go_enter Tryd.func14, Tryd.ntmps14
    go_wp2_with fail
    refine HL.out.mono ?_
    rintro e w' ⟨rfl, rfl⟩
    go_wp2_with fail
    go_ret
    exact ⟨by rw [Hc.out]; rfl, rfl⟩
  · by_cases h : 4096 < n
    · have h1 : (4096 : Int) < (n : Int) := by omega
      have Hz := Lib.hid (show z = 3 by rw [Hc.out, if_pos (by trivial), if_pos h])
      clear h Hc
      go_enter Tryd.func14, Tryd.ntmps14
      go_wp2_with fail
      refine HL.out.mono ?_
      rintro e w' ⟨rfl, rfl⟩
      go_wp2_with fail
      go_ret
      exact ⟨by rw [Hz.out]; rfl, rfl⟩
    · have h1 : (n : Int) ≤ 4096 := by omega
      have Hz := Lib.hid (show z = 0 by rw [Hc.out, if_pos (by trivial), if_neg h])
      clear h Hc
      go_enter Tryd.func14, Tryd.ntmps14
      go_wp2_with fail
      refine HL.out.mono ?_
      rintro e w' ⟨rfl, rfl⟩
      go_wp2_with fail
      go_ret
      exact ⟨by rw [Hz.out]; rfl, rfl⟩
end Go.Proofs.YtmjnhpagoboejaaDoor

/- words.Conj. -/
namespace Go.Proofs.YtmjnhpagoboejaaDoor
open Go.RowKit
open Wd
set_option linter.unusedSimpArgs false
set_option linter.unusedVariables false

theorem row_two (w : World) (r s : SRow) {B : Nat} (h : ReadsI w B r.1 r.2.2) (h' : ReadsI w B s.1 s.2.2) (hB : B ≤ w.heap.size) : ReadsL (w.alloc (.cells #[.slice r.1 r.2.2.length r.2.1, .slice s.1 s.2.2.length s.2.1] 22)) (w.heap.size + 1) (some ⟨w.heap.size, 0, none⟩) [r, s] := by
  refine ⟨⟨rfl, fun _ => ⟨_, rfl, Nat.lt_succ_self _, fun j u hu => ?_⟩⟩, fun r' hr' => ?_⟩
  · have hb := Blk.new w 22 #[.slice r.1 r.2.2.length r.2.1, .slice s.1 s.2.2.length s.2.1]
    match j, hu with
    | 0, hu => rw [Addr.add_zero', hb.cell 0]; exact hu
    | 1, hu => have h1 := hb.cell 1; exact h1.trans hu
    | j + 2, hu => simp at hu
  · rcases List.mem_cons.1 hr' with rfl | hr'
    · exact (h.alloc hB _).more (by omega)
    · rw [List.mem_singleton.1 hr']
      exact (h'.alloc hB _).more (by omega)
theorem chk_two {a b : List Int} (h : chk [a, b] = 0) : (LetL a ∧ a.length ≤ 4096) ∧ (LetL b ∧ b.length ≤ 4096) := by
  have h1 := chk_all (rs := [(none, 0, a), (none, 0, b)]) h
  exact ⟨h1 (none, 0, a) (by simp), h1 (none, 0, b) (by simp)⟩
set_option maxRecDepth 100000 in
theorem conj_bad {w : World} {B na ca nb cb : Nat} {Aa Ab : Option Addr} {a b : List Int} (hra : ReadsI w B Aa a) (hrb : ReadsI w B Ab b) (hB : B ≤ w.heap.size) (hna : na = a.length) (hnb : nb = b.length) (hwa : Wf a) (hwb : Wf b) (hla : na ≤ 1000000000000) (hlb : nb ≤ 1000000000000) (hz : chk [a, b] ≠ 0) :
    Calls Tryd.prog 34 #[.slice Aa na ca, .slice Ab nb cb] w (fun e w' => e = .returned (.tuple #[.slice none 0 0, .int .i64 (chk [a, b])]) ∧ Below w.heap.size w w') := by
  subst hna hnb
  have hb0 := ((Below.refl w.heap.size w).alloc (Nat.le_refl _) (.cells #[.slice Aa a.length ca] 22)).alloc (by simp) (.cells #[.slice Ab b.length cb] 22)
  have hs2 : ((w.alloc (.cells #[.slice Aa a.length ca] 22)).alloc (.cells #[.slice Ab b.length cb] 22)).heap.size = w.heap.size + 2 := by simp
  have hM := made_bad (n := 2) (c := 2) (fv := .func (.func 69) #[] #[.pointer (some ⟨w.heap.size + 1, 0, none⟩), .pointer (some ⟨w.heap.size, 0, none⟩)]) (row_two ((w.alloc (.cells #[.slice Aa a.length ca] 22)).alloc (.cells #[.slice Ab b.length cb] 22)) (Aa, ca, a) (Ab, cb, b) ((hra.alloc hB _).alloc (by simp; omega) _) ((hrb.alloc hB _).alloc (by simp; omega) _) (by simp; omega)) rfl (by decide) (fun r hr' => by
    rcases List.mem_cons.1 hr' with rfl | hr'
    · exact ⟨hwa, hla⟩
    · rw [List.mem_singleton.1 hr']; exact ⟨hwb, hlb⟩) hz
  rw [hs2] at hM
  have HM := Lib.hid hM
  have Hb := Lib.hid (hb0.alloc (by simp; omega) (.cells #[.slice Aa a.length ca, .slice Ab b.length cb] 22))
  simp only [List.map_cons, List.map_nil] at HM
  generalize chk [a, b] = z at *
  clear hM hra hrb hwa hwb hla hlb hz hb0 hs2 hB
  go_enter Tryd.func34, Tryd.ntmps34
  go_wp2_with fail
  refine HM.out.mono ?_
  rintro e w' ⟨rfl, rfl⟩
  go_wp2_with fail
  go_ret2
  exact ⟨rfl, Hb.out⟩
/-- a conjugate -/
def conjd (a b : List Int) : List Int := onl (onl (inv (short b)) a) b
set_option maxRecDepth 100000 in
theorem conj_ok {w : World} {B na ca nb cb : Nat} {Aa Ab : Option Addr} {a b : List Int} (hra : ReadsI w B Aa a) (hrb : ReadsI w B Ab b) (hB : B ≤ w.heap.size) (hna : na = a.length) (hnb : nb = b.length) (hz : chk [a, b] = 0) :
    Calls Tryd.prog 34 #[.slice Aa na ca, .slice Ab nb cb] w (fun e w' => Below w.heap.size w w' ∧ (((conjd a b).length ≤ 4096 ∧ ∃ A' n', e = .returned (.tuple #[.slice A' n' n', .int .i64 0]) ∧ ResI w' w.heap.size A' n' (conjd a b)) ∨ (4096 < (conjd a b).length ∧ e = .returned (.tuple #[.slice none 0 0, .int .i64 3])))) := by
  obtain ⟨⟨hla, hna4⟩, hlb, hnb4⟩ := chk_two hz
  subst hna hnb
  have hwa : Wf a := fun k hk => by have := hla k hk; omega
  have hwb : Wf b := fun k hk => by have := hlb k hk; omega
  have hb0 := ((Below.refl w.heap.size w).alloc (Nat.le_refl _) (.cells #[.slice Aa a.length ca] 22)).alloc (by simp) (.cells #[.slice Ab b.length cb] 22)
  have hs2 : ((w.alloc (.cells #[.slice Aa a.length ca] 22)).alloc (.cells #[.slice Ab b.length cb] 22)).heap.size = w.heap.size + 2 := by simp
  have hb1 := hb0.alloc (by simp; omega) (.cells #[.slice Aa a.length ca, .slice Ab b.length cb] 22)
  have ra := (((hra.alloc hB (.cells #[.slice Aa a.length ca] 22)).alloc (by simp; omega) (.cells #[.slice Ab b.length cb] 22)).alloc (by simp; omega) (.cells #[.slice Aa a.length ca, .slice Ab b.length cb] 22))
  have rb := (((hrb.alloc hB (.cells #[.slice Aa a.length ca] 22)).alloc (by simp; omega) (.cells #[.slice Ab b.length cb] 22)).alloc (by simp; omega) (.cells #[.slice Aa a.length ca, .slice Ab b.length cb] 22))
  have hga : Blk (((w.alloc (.cells #[.slice Aa a.length ca] 22)).alloc (.cells #[.slice Ab b.length cb] 22)).alloc (.cells #[.slice Aa a.length ca, .slice Ab b.length cb] 22)) w.heap.size 22 #[.slice Aa a.length ca] := ((Blk.new w 22 #[.slice Aa a.length ca]).alloc _).alloc _
  have hgb : Blk (((w.alloc (.cells #[.slice Aa a.length ca] 22)).alloc (.cells #[.slice Ab b.length cb] 22)).alloc (.cells #[.slice Aa a.length ca, .slice Ab b.length cb] 22)) (w.heap.size + 1) 22 #[.slice Ab b.length cb] := by
    have h := (Blk.new (w.alloc (.cells #[.slice Aa a.length ca] 22)) 22 #[.slice Ab b.length cb]).alloc (.cells #[.slice Aa a.length ca, .slice Ab b.length cb] 22)
    rw [World.size_alloc] at h
    exact h
  have h1 := conj1_any hga hgb (ra.more (by simp; omega)) (rb.more (by simp; omega)) rfl rfl hla hlb (by omega) (by omega)
  have hM := made_ok69 (n := 2) (c := 2) (row_two ((w.alloc (.cells #[.slice Aa a.length ca] 22)).alloc (.cells #[.slice Ab b.length cb] 22)) (Aa, ca, a) (Ab, cb, b) ((hra.alloc hB _).alloc (by simp; omega) _) ((hrb.alloc hB _).alloc (by simp; omega) _) (by simp; omega)) rfl (by decide) (fun r hr' => by
    rcases List.mem_cons.1 hr' with rfl | hr'
    · exact ⟨hwa, by show a.length ≤ _; omega⟩
    · rw [List.mem_singleton.1 hr']; exact ⟨hwb, by show b.length ≤ _; omega⟩) hz (R := fun A' n' c' w' => OwnI w' w.heap.size (.slice A' n' c') (conjd a b) ∧ Below w.heap.size w w')
    (h1.mono fun e w' ⟨A', n', c', he, hc, ho, hb⟩ => ⟨A', n', c', he, hc, ho.lower (by simp; omega), hb1.trans (hb.mono (by simp; omega))⟩)
  rw [hs2] at hM
  have HM := Lib.hid hM
  clear hM h1 hga hgb ra rb hra hrb hwa hwb hla hlb hz hb0 hb1 hs2 hB hna4 hnb4
  go_enter Tryd.func34, Tryd.ntmps34
  go_wp2_with fail
  refine HM.out.mono ?_
  rintro e w2 ⟨A2, n2, c2, ⟨ho, hb⟩, hcase⟩
  have Ho := Lib.hid (And.intro ho hb)
  have Hn2 := Lib.hid ho.len
  clear ho hb
  rcases hcase with ⟨h, rfl⟩ | ⟨h, rfl⟩
  · go_wp2_with fail
    go_ret2
    exact ⟨Ho.out.2, .inl ⟨by rw [← Hn2.out.1]; exact h, A2, n2, rfl, Hn2.out.1, c2, Ho.out.1, Hn2.out.2.1⟩⟩
  · go_wp2_with fail
    go_ret2
    exact ⟨Ho.out.2, .inr ⟨by rw [← Hn2.out.1]; exact h, rfl⟩⟩
end Go.Proofs.YtmjnhpagoboejaaDoor

/- What is made, or refused: one form for the program's and the reference's. -/
namespace Go.Proofs.YtmjnhpagoboejaaDoor
open Go.RowKit
open Wd
set_option linter.unusedSimpArgs false
set_option linter.unusedVariables false

/-- a word and an error's number -/
def ResOut (w : World) (R : List Int × Int) (e : Ending) (w' : World) : Prop := ∃ A n k, e = .returned (.tuple #[.slice A n k, .int .i64 R.2]) ∧ Got w' w.heap.size w'.heap.size A n k R.1 ∧ Below w.heap.size w w'
theorem resOut_nil {w w' : World} {z : Int} (hb : Below w.heap.size w w') : ResOut w ([], z) (.returned (.tuple #[.slice none 0 0, .int .i64 z])) w' := ⟨none, 0, 0, rfl, Got.none_ hb.size (Nat.le_refl _), hb⟩
/-- a word that is made, if it is not too long -/
def ended (L : List Int) : List Int × Int := if L.length ≤ 4096 then (L, 0) else ([], 3)
theorem resOut_made {w w' : World} {L : List Int} {e : Ending} (h : MadeOut w L e w') : ResOut w (ended L) e w' := by
  obtain ⟨hb, ⟨hl, A, n, rfl, hr⟩ | ⟨hl, rfl⟩⟩ := h
  · unfold ended
    rw [if_pos hl]
    exact ⟨A, n, n, rfl, Got.of_res hr hb.size, hb⟩
  · unfold ended
    rw [if_neg (by omega)]
    exact resOut_nil hb
def mulR (ls : List (List Int)) : List Int × Int := if chk ls = 0 then ended (short ls.flatten) else ([], chk ls)
def powR (l : List Int) (x : Int) : List Int × Int := if chk [l] = 0 then ended (powl l x) else ([], chk [l])
def conjR (a b : List Int) : List Int × Int := if chk [a, b] = 0 then ended (conjd a b) else ([], chk [a, b])
theorem mul_out {w : World} {B n c : Nat} {A : Option Addr} {rs : List SRow} (hr : ReadsL w B A rs) (hB : B ≤ w.heap.size) (hn : n = rs.length) (hnl : (flat rs).length ≤ 50000000) (hnn : n ≤ 1000000000) (hw : ∀ r ∈ rs, Wf r.2.2 ∧ r.2.2.length ≤ 1000000000000) :
    Calls Tryd.prog 30 #[.slice A n c] w (ResOut w (mulR (rs.map (fun r => r.2.2)))) := by
  unfold mulR
  by_cases hz : chk (rs.map (fun r => r.2.2)) = 0
  · rw [if_pos hz]
    exact (mul_ok (c := c) hr hB hn hnl hnn hz).mono fun e w' h => resOut_made h
  · rw [if_neg hz]
    exact (mul_bad (c := c) hr hB hn hnn hw hz).mono fun e w' ⟨he, hb⟩ => by rw [he]; exact resOut_nil hb
theorem pow_out {w : World} {B n c : Nat} {A : Option Addr} {l : List Int} {x : Int} (hr : ReadsI w B A l) (hB : B ≤ w.heap.size) (hn : n = l.length) (hx1 : -9223372036854775808 ≤ x) (hx2 : x ≤ 9223372036854775807) (hw : Wf l) (hnl : n ≤ 1000000000000) :
    Calls Tryd.prog 32 #[.slice A n c, .int .i64 x] w (ResOut w (powR l x)) := by
  unfold powR
  by_cases hz : chk [l] = 0
  · rw [if_pos hz]
    exact (pow_ok (c := c) hr hB hn hx1 hx2 hz).mono fun e w' h => resOut_made h
  · rw [if_neg hz]
    exact (pow_bad (c := c) hr hB hn hw hnl hz).mono fun e w' ⟨he, hb⟩ => by rw [he]; exact resOut_nil hb
theorem conj_out {w : World} {B na ca nb cb : Nat} {Aa Ab : Option Addr} {a b : List Int} (hra : ReadsI w B Aa a) (hrb : ReadsI w B Ab b) (hB : B ≤ w.heap.size) (hna : na = a.length) (hnb : nb = b.length) (hwa : Wf a) (hwb : Wf b) (hla : na ≤ 1000000000000) (hlb : nb ≤ 1000000000000) :
    Calls Tryd.prog 34 #[.slice Aa na ca, .slice Ab nb cb] w (ResOut w (conjR a b)) := by
  unfold conjR
  by_cases hz : chk [a, b] = 0
  · rw [if_pos hz]
    exact (conj_ok (ca := ca) (cb := cb) hra hrb hB hna hnb hz).mono fun e w' h => resOut_made h
  · rw [if_neg hz]
    exact (conj_bad (ca := ca) (cb := cb) hra hrb hB hna hnb hwa hwb hla hlb hz).mono fun e w' ⟨he, hb⟩ => by rw [he]; exact resOut_nil hb
end Go.Proofs.YtmjnhpagoboejaaDoor

/- words.Root: what it refuses. -/
namespace Go.Proofs.YtmjnhpagoboejaaDoor
open Go.RowKit
open Wd
set_option linter.unusedSimpArgs false
set_option linter.unusedVariables false

set_option maxRecDepth 100000 in
theorem root_bad {w : World} {B n c : Nat} {A : Option Addr} {l : List Int} (hr : ReadsI w B A l) (hB : B ≤ w.heap.size) (hn : n = l.length) (hw : Wf l) (hnl : n ≤ 1000000000000) (hz : chk [l] ≠ 0) :
    Calls Tryd.prog 18 #[.slice A n c] w (fun e w' => e = .returned (.tuple #[.slice none 0 0, .int .i64 0, .int .i64 (chk [l])]) ∧ Below w.heap.size w w') := by
  have HC := Lib.hid (core_bad (c := c) hr hB hn hw hnl hz)
  generalize chk [l] = z at *
  have hzb : (z != 0) = true := by simp; exact hz
  clear hr hw hnl hB hn hz
  go_enter Tryd.func18, Tryd.ntmps18
  go_wp2_with fail
  refine HC.out.mono ?_
  rintro e w' ⟨rfl, hb⟩
  have Hb := Lib.hid hb
  clear hb
  go_wp2_with fail
  go_ret3
  exact ⟨rfl, Hb.out⟩
set_option maxRecDepth 100000 in
theorem root_none {w : World} {B n c : Nat} {A : Option Addr} {l : List Int} (hr : ReadsI w B A l) (hB : B ≤ w.heap.size) (hn : n = l.length) (hz : chk [l] = 0) (h0 : core (short l) = []) :
    Calls Tryd.prog 18 #[.slice A n c] w (fun e w' => e = .returned (.tuple #[.slice none 0 0, .int .i64 0, .int .i64 7]) ∧ Below w.heap.size w w') := by
  have HC := Lib.hid (core_ok (c := c) hr hB hn hz)
  have Hl := Lib.hid h0
  clear hr hB hn hz h0
  go_enter Tryd.func18, Tryd.ntmps18
  go_wp2_with fail
  refine HC.out.mono ?_
  rintro e w' ⟨A1, c1, A2, c2, rfl, _, _, hb⟩
  have Hb := Lib.hid hb
  clear hb
  rw [Hl.out]
  go_wp2_with fail
  go_ret3
  exact ⟨rfl, Hb.out⟩
end Go.Proofs.YtmjnhpagoboejaaDoor
