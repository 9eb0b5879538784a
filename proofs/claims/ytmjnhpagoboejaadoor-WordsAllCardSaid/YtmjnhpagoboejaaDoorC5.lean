import Derived.Test.YtmjnhpagoboejaaDoorC2
import Derived.Test.YtmjnhpagoboejaaDoorC4
import Derived.Test.YtmjnhpagoboejaaDoorC1
import Derived.Test.YtmjnhpagoboejaaDoorC3
import Derived.BigQuiet
/- Roots, plain: the program's is the reference's. -/
namespace Go.Proofs.YtmjnhpagoboejaaDoor
open Wd

theorem reps_comm (c : List Int) : ∀ k, reps k c ++ c = c ++ reps k c
  | 0 => by simp [reps]
  | k + 1 => by
    rw [reps, List.append_assoc, ← List.append_assoc c, ← reps_comm c k, List.append_assoc]
theorem reps_succ (c : List Int) (k : Nat) : reps (k + 1) c = c ++ reps k c := reps_comm c k
theorem tl_reps {c : List Int} : ∀ (n : Nat) (o : List Int), o.length + n * c.length ≤ 8192 → tl c n o = o ++ reps n c
  | 0, o, _ => by simp [tl, reps]
  | n + 1, o, h => by
    rw [Nat.succ_mul] at h
    rcases Nat.eq_zero_or_pos c.length with h0 | h0
    · have : c = [] := List.eq_nil_of_length_eq_zero h0
      subst this
      have hr : ∀ k, reps k ([] : List Int) = [] := fun k => by
        induction k with
        | zero => rfl
        | succ k ih => rw [reps, ih]; rfl
      rw [tl_stop (by simp), hr, List.append_nil]
    · have hl : o.length ≤ 8192 := by omega
      rw [tl_go hl h0, tl_reps n (o ++ c) (by rw [List.length_append]; omega), reps_succ, List.append_assoc]
theorem parts_eq {l : List Int} {t : Nat} (h1 : ∀ i, i < t → 2 * i + 1 < l.length ∧ l.getD i 0 = - l.getD (l.length - 1 - i) 0) (h2 : ¬ (2 * t + 1 < l.length ∧ l.getD t 0 = - l.getD (l.length - 1 - t) 0)) : parts l = t := by
  rcases Nat.lt_trichotomy (parts l) t with h | h | h
  · exact absurd (h1 _ h) (parts_end l)
  · exact h
  · exfalso
    have h3 := parts_le l
    exact h2 ⟨by omega, parts_spec l t h⟩
theorem getD_app_left {a b : List Int} {i : Nat} (h : i < a.length) : (a ++ b).getD i 0 = a.getD i 0 := by
  rw [List.getD_eq_getElem?_getD, List.getD_eq_getElem?_getD, List.getElem?_append_left h]
theorem getD_app_right {a b : List Int} {i : Nat} (h : a.length ≤ i) : (a ++ b).getD i 0 = b.getD (i - a.length) 0 := by
  rw [List.getD_eq_getElem?_getD, List.getD_eq_getElem?_getD, List.getElem?_append_right h]
theorem getD_inv (j : List Int) {i : Nat} (h : i < j.length) : (inv j).getD i 0 = - j.getD (j.length - 1 - i) 0 := by
  unfold inv
  rw [getD_rev _ (by rw [List.length_map]; exact h), getD_neg, List.length_map]
/-- a word conjugated by letters: its core is the word's -/
theorem parts_conj (j p : List Int) (hp : 1 ≤ p.length) : parts (inv j ++ p ++ j) = j.length + parts p := by
  have hl : (inv j ++ p ++ j).length = 2 * j.length + p.length := by rw [List.length_append, List.length_append, inv_len]; omega
  have hin : ∀ i, i < j.length → (inv j ++ p ++ j).getD i 0 = - (inv j ++ p ++ j).getD ((inv j ++ p ++ j).length - 1 - i) 0 := by
    intro i hi
    have e1 : (inv j ++ p ++ j).getD i 0 = - j.getD (j.length - 1 - i) 0 := by rw [List.append_assoc, getD_app_left (by rw [inv_len]; exact hi), getD_inv j hi]
    have e2 : (inv j ++ p ++ j).getD (2 * j.length + p.length - 1 - i) 0 = j.getD (j.length - 1 - i) 0 := by
      rw [getD_app_right (a := inv j ++ p) (by rw [List.length_append, inv_len]; omega), List.length_append, inv_len]
      congr 1
      omega
    rw [hl, e1, e2]
  have hmid : ∀ i, 2 * i + 1 < p.length → ((inv j ++ p ++ j).getD (j.length + i) 0 = - (inv j ++ p ++ j).getD ((inv j ++ p ++ j).length - 1 - (j.length + i)) 0 ↔ p.getD i 0 = - p.getD (p.length - 1 - i) 0) := by
    intro i hi
    rw [hl, getD_app_left (a := inv j ++ p) (by rw [List.length_append, inv_len]; omega), getD_app_left (a := inv j ++ p) (by rw [List.length_append, inv_len]; omega), getD_app_right (by rw [inv_len]; omega), getD_app_right (by rw [inv_len]; omega), inv_len]
    rw [show j.length + i - j.length = i by omega, show 2 * j.length + p.length - 1 - (j.length + i) - j.length = p.length - 1 - i by omega]
  have hpl := parts_le p
  apply parts_eq
  · intro i hi
    refine ⟨by omega, ?_⟩
    rcases Nat.lt_or_ge i j.length with h | h
    · exact hin i h
    · have := (hmid (i - j.length) (by omega)).2 (parts_spec p (i - j.length) (by omega))
      rwa [show j.length + (i - j.length) = i by omega] at this
  · rintro ⟨h1, h2⟩
    exact parts_end p ⟨by omega, (hmid (parts p) (by omega)).1 h2⟩
theorem core_conj (j p : List Int) (hp : 1 ≤ p.length) : core (inv j ++ p ++ j) = core p ∧ conj (inv j ++ p ++ j) = conj p ++ j := by
  have h := parts_conj j p hp
  have hpl := parts_le p
  have hl : (inv j ++ p ++ j).length = 2 * j.length + p.length := by rw [List.length_append, List.length_append, inv_len]; omega
  constructor
  · unfold core
    rw [h, hl, List.append_assoc, List.drop_append, List.drop_of_length_le (by rw [inv_len]; omega), List.nil_append, inv_len, show j.length + parts p - j.length = parts p by omega, show 2 * j.length + p.length - 2 * (j.length + parts p) = p.length - 2 * parts p by omega]
    rw [List.drop_append, List.take_append_of_le_length (by rw [List.length_drop]; omega)]
  · unfold conj
    rw [h, hl, List.append_assoc, List.drop_append, List.drop_of_length_le (by rw [inv_len]; omega), List.nil_append, inv_len]
    rw [show 2 * j.length + p.length - (j.length + parts p) - j.length = p.length - parts p by omega, List.drop_append, show p.length - parts p - p.length = 0 by omega, List.drop_zero]
/-- a period, and the repetition -/
theorem rep_iff : ∀ (k p : Nat) (c : List Int), c.length = k * p → 1 ≤ p → (c.drop p = c.take (c.length - p) ↔ c = reps k (c.take p))
  | 0, p, c, h, _ => by
    have : c = [] := List.eq_nil_of_length_eq_zero (by omega)
    subst this
    simp [reps]
  | 1, p, c, h, _ => by
    rw [List.drop_of_length_le (by omega), show c.length - p = 0 by omega, List.take_zero]
    simp [reps, List.take_of_length_le (l := c) (i := p) (by omega)]
  | k + 2, p, c, h, hp => by
    have hl : c.length = (k + 1) * p + p := by rw [h, Nat.succ_mul]
    have hkp : p ≤ (k + 1) * p := by rw [Nat.succ_mul]; omega
    have hd : (c.drop p).length = (k + 1) * p := by rw [List.length_drop]; omega
    have ih := rep_iff (k + 1) p (c.drop p) hd hp
    have hsplit : c = c.take p ++ c.drop p := (List.take_append_drop p c).symm
    constructor
    · intro he
      have e1 : (c.drop p).take p = c.take p := by rw [he, List.take_take, Nat.min_eq_left (by omega)]
      have e2 : (c.drop p).drop p = (c.drop p).take ((c.drop p).length - p) := by
        have h5 : List.drop p (List.take (c.length - p) c) = List.take (c.length - p - p) (List.drop p c) := List.drop_take ..
        calc (c.drop p).drop p = List.drop p (List.take (c.length - p) c) := by rw [← he]
          _ = List.take (c.length - p - p) (List.drop p c) := h5
          _ = (c.drop p).take ((c.drop p).length - p) := by rw [List.length_drop]
      have h4 := ih.1 e2
      rw [e1] at h4
      rw [reps_succ, ← h4]
      exact hsplit
    · intro he
      have hq : (c.take p).length = p := by rw [List.length_take]; omega
      obtain ⟨q, hqe⟩ : ∃ q, q = c.take p := ⟨_, rfl⟩
      rw [← hqe] at he hq
      have e1 : c.drop p = reps (k + 1) q := by
        rw [he, reps_succ, List.drop_append, List.drop_of_length_le (by omega), List.nil_append, hq, Nat.sub_self, List.drop_zero]
      have e2 : c.take (c.length - p) = reps (k + 1) q := by
        rw [show c.length - p = (reps (k + 1) q).length by rw [reps_len, hq]; omega]
        rw [he]
        show List.take _ (reps (k + 1) q ++ q) = _
        rw [List.take_append_of_le_length (Nat.le_refl _), List.take_of_length_le (Nat.le_refl _)]
      rw [e1, e2]
/-- the least period -/
theorem perN_spec {l : List Int} : ∀ f p, p + f = l.length → 1 ≤ p → (∀ q, 1 ≤ q → q < p → ¬ (l.length % q = 0 ∧ l.drop q = l.take (l.length - q))) → (l.length % perN l f p = 0 ∧ l.drop (perN l f p) = l.take (l.length - perN l f p)) ∧ ∀ q, 1 ≤ q → q < perN l f p → ¬ (l.length % q = 0 ∧ l.drop q = l.take (l.length - q))
  | 0, p, h, hp, h2 => by
    unfold perN
    refine ⟨⟨by rw [show p = l.length by omega]; exact Nat.mod_self _, ?_⟩, h2⟩
    rw [List.drop_of_length_le (by omega), show l.length - p = 0 by omega, List.take_zero]
  | f + 1, p, h, hp, h2 => by
    unfold perN
    by_cases hc : l.length % p ≠ 0 ∨ l.drop p ≠ l.take (l.length - p)
    · rw [if_pos hc]
      refine perN_spec f (p + 1) (by omega) (by omega) (fun q h1 h3 => ?_)
      rcases Nat.lt_or_ge q p with h4 | h4
      · exact h2 q h1 h4
      · rw [show q = p by omega]
        rintro ⟨h5, h6⟩
        rcases hc with h7 | h7
        · exact h7 h5
        · exact h7 h6
    · rw [if_neg hc]
      refine ⟨⟨Decidable.byContradiction fun h => hc (.inl h), Decidable.byContradiction fun h => hc (.inr h)⟩, h2⟩
theorem per_spec {l : List Int} (h : 1 ≤ l.length) : (l.length % per l = 0 ∧ l.drop (per l) = l.take (l.length - per l)) ∧ ∀ q, 1 ≤ q → q < per l → ¬ (l.length % q = 0 ∧ l.drop q = l.take (l.length - q)) :=
  perN_spec (l.length - 1) 1 (by omega) (by omega) (fun q h1 h2 => by omega)
/-- the reference's root -/
def rrootN (c j w : List Int) : Nat → List Int × Nat
  | 0 => (w, 1)
  | 1 => (w, 1)
  | n + 2 => if c.length % (n + 2) = 0 ∧ inv j ++ c ++ j = timesL (inv j ++ c.take (c.length / (n + 2)) ++ j) ((n + 2 : Nat) : Int) then (inv j ++ c.take (c.length / (n + 2)) ++ j, n + 2) else rrootN c j w (n + 1)
theorem reps_ends {c p : List Int} {n : Nat} (hn : 2 ≤ n) (hp : 2 ≤ p.length) (hc : Red c) (he : c = reps n p) : ¬ (p.getD 0 0 = - p.getD (p.length - 1 - 0) 0) := by
  intro h
  obtain ⟨m, rfl⟩ : ∃ m, n = m + 2 := ⟨n - 2, by omega⟩
  have e : c = p ++ (p ++ reps m p) := by rw [he, reps_succ, reps_succ]
  have hr := (red_iff.1 hc).2 (p.length - 1) (by rw [e]; simp; omega)
  rw [e] at hr
  have e1 : (p ++ (p ++ reps m p)).getD (p.length - 1) 0 = p.getD (p.length - 1) 0 := getD_app_left (by omega)
  have e2 : (p ++ (p ++ reps m p)).getD (p.length - 1 + 1) 0 = p.getD 0 0 := by
    rw [getD_app_right (by omega), show p.length - 1 + 1 - p.length = 0 by omega, getD_app_left (by omega)]
  rw [e1, e2] at hr
  rw [Nat.sub_zero] at h
  exact hr h
theorem times_iff {c j : List Int} {n : Nat} (hc : Red c) (hn : 2 ≤ n) (hd : c.length % n = 0) (h1 : 1 ≤ c.length) (hs : c.length + 2 * j.length ≤ 4096) :
    inv j ++ c ++ j = timesL (inv j ++ c.take (c.length / n) ++ j) (n : Int) ↔ c = reps n (c.take (c.length / n)) := by
  obtain ⟨p, hp⟩ : ∃ p, p = c.take (c.length / n) := ⟨_, rfl⟩
  rw [← hp]
  have hnp : n * (c.length / n) = c.length := Nat.mul_div_cancel' (Nat.dvd_of_mod_eq_zero hd)
  have hpl : p.length = c.length / n := by
    rw [hp, List.length_take, Nat.min_eq_left (Nat.div_le_self _ _)]
  have hpp : n * p.length = c.length := by rw [hpl]; exact hnp
  have hp1 : 1 ≤ p.length := by
    rcases Nat.eq_zero_or_pos p.length with h | h
    · rw [h] at hpp; omega
    · exact h
  obtain ⟨ec, ej⟩ := core_conj j p hp1
  have hcl := core_len p
  have hjl := conj_len p
  have hpa := parts_le p
  have hmul : n * (core p).length ≤ n * p.length := Nat.mul_le_mul_left _ (by omega)
  have hpn : p.length ≤ n * p.length := Nat.le_mul_of_pos_left _ (by omega)
  unfold timesL
  rw [ec, ej, show ((n : Int)).toNat = n by omega, tl_reps n _ (by rw [inv_len, List.length_append]; omega), inv_app]
  rcases Nat.eq_zero_or_pos (parts p) with h0 | h0
  · have hc0 : core p = p := by unfold core; rw [h0, List.drop_zero, List.take_of_length_le (by omega)]
    have hj0 : conj p = [] := List.eq_nil_of_length_eq_zero (by omega)
    rw [hc0, hj0]
    constructor
    · intro h
      rw [List.nil_append, show inv ([] : List Int) = [] from rfl, List.append_nil] at h
      exact List.append_cancel_left (List.append_cancel_right h)
    · intro h
      rw [List.nil_append, show inv ([] : List Int) = [] from rfl, List.append_nil, ← h]
  · constructor
    · intro h
      exfalso
      have hl := congrArg List.length h
      simp only [List.length_append, inv_len, reps_len] at hl
      have h2 : n * (core p).length + 2 * (n * parts p) = n * p.length := by
        have : n * ((core p).length + 2 * parts p) = n * p.length := by rw [hcl]; congr 1; omega
        rw [Nat.mul_add] at this
        have h3 : n * (2 * parts p) = 2 * (n * parts p) := by rw [Nat.mul_left_comm]
        omega
      have h3 : 2 * parts p ≤ n * parts p := Nat.mul_le_mul_right _ hn
      omega
    · intro h
      exfalso
      have h5 := parts_spec p 0 h0
      have h6 := parts_le p
      exact reps_ends hn (by omega) hc h h5
theorem red_mid {a b c : List Int} (h : Red (a ++ b ++ c)) : Red b := by
  have hi := red_iff.1 h
  refine red_iff.2 ⟨fun k hk => hi.1 k (by simp [hk]), fun i hl => ?_⟩
  have h1 := hi.2 (a.length + i) (by rw [List.length_append, List.length_append]; omega)
  rw [getD_app_left (a := a ++ b) (by rw [List.length_append]; omega), getD_app_left (a := a ++ b) (by rw [List.length_append]; omega), getD_app_right (by omega), getD_app_right (by omega), show a.length + i + 1 - a.length = i + 1 by omega, show a.length + i - a.length = i by omega] at h1
  exact h1
theorem red_core {s : List Int} (h : Red s) : Red (core s) := by
  rw [word_parts s] at h
  exact red_mid h
/-- the root of a reduced word -/
def rootS (s : List Int) : List Int := inv (conj s) ++ (core s).take (per (core s)) ++ conj s
theorem rroot_eq {s : List Int} (hr : Red s) (h1 : 1 ≤ s.length) (hs : s.length ≤ 4096) : rrootN (core s) (conj s) s (core s).length = (rootS s, (core s).length / per (core s)) := by
  have hcp := core_pos hr h1
  have hcr := red_core hr
  obtain ⟨⟨hp1, hp2⟩, hp3⟩ := per_spec hcp
  have hple := per_le hcp
  have hcl := core_len s
  have hjl := conj_len s
  have hpl := parts_le s
  obtain ⟨c, hc⟩ : ∃ c, c = core s := ⟨_, rfl⟩
  obtain ⟨P, hP⟩ : ∃ P, P = per (core s) := ⟨_, rfl⟩
  have hroot : rootS s = inv (conj s) ++ c.take P ++ conj s := by rw [hc, hP]; rfl
  rw [hroot]
  rw [← hP] at hp1 hp2 hp3 hple ⊢
  rw [← hc] at hcp hcr hp1 hp2 hp3 hple hcl ⊢
  have hk : c.length / P * P = c.length := Nat.div_mul_cancel (Nat.dvd_of_mod_eq_zero hp1)
  obtain ⟨K, hK⟩ : ∃ K, K = c.length / P := ⟨_, rfl⟩
  rw [← hK] at hk ⊢
  have hK1 : 1 ≤ K := by
    rcases Nat.eq_zero_or_pos K with h | h
    · rw [h] at hk; omega
    · exact h
  -- what a hit means
  have hit : ∀ n, 2 ≤ n → (c.length % n = 0 ∧ inv (conj s) ++ c ++ conj s = timesL (inv (conj s) ++ c.take (c.length / n) ++ conj s) (n : Int)) → n ≤ K := by
    rintro n hn ⟨hd, he⟩
    have h4 := (times_iff hcr hn hd hcp (by omega)).1 he
    have hnp : c.length / n * n = c.length := Nat.div_mul_cancel (Nat.dvd_of_mod_eq_zero hd)
    have hq1 : 1 ≤ c.length / n := by
      rcases Nat.eq_zero_or_pos (c.length / n) with h | h
      · rw [h] at hnp; omega
      · exact h
    have h5 := (rep_iff n (c.length / n) c (by rw [Nat.mul_comm]; exact hnp.symm) hq1).2 h4
    have h6 : P ≤ c.length / n := Nat.le_of_not_lt fun hlt => hp3 _ hq1 hlt ⟨Nat.mod_eq_zero_of_dvd ⟨n, by omega⟩, h5⟩
    have h7 : n * P ≤ K * P := by
      rw [hk, ← hnp, Nat.mul_comm]
      exact Nat.mul_le_mul_right _ h6
    exact Nat.le_of_mul_le_mul_right h7 (by omega)
  have hmain : ∀ N, K ≤ N → rrootN c (conj s) s N = (inv (conj s) ++ c.take P ++ conj s, K) := by
    intro N
    induction N with
    | zero => intro h; omega
    | succ N ih =>
      intro h
      cases N with
      | zero =>
        have hk1 : K = 1 := by omega
        have hP1 : P = c.length := by rw [hk1] at hk; omega
        rw [hk1, rrootN, hP1, List.take_of_length_le (Nat.le_refl _), hc, ← word_parts s]
      | succ n =>
        rw [rrootN]
        rcases Nat.lt_or_ge K (n + 2) with hlt | hge
        · rw [if_neg, ih (by omega)]
          intro hh
          have := hit (n + 2) (by omega) hh
          omega
        · have hKn : K = n + 2 := by omega
          have hPn : c.length / (n + 2) = P := by rw [← hKn, ← hk]; exact Nat.mul_div_cancel_left _ hK1
          have hd : c.length % (n + 2) = 0 := by rw [← hKn, ← hk]; exact Nat.mul_mod_right _ _
          rw [if_pos, hPn, hKn]
          refine ⟨hd, (times_iff hcr (by omega) hd hcp (by omega)).2 ?_⟩
          rw [hPn]
          exact (rep_iff (n + 2) P c (by rw [← hKn]; exact hk.symm) hple.1).1 hp2
  exact hmain c.length (by rw [← hk]; exact Nat.le_mul_of_pos_right _ hple.1)
end Go.Proofs.YtmjnhpagoboejaaDoor

/- ref.Root. -/
namespace Go.Proofs.YtmjnhpagoboejaaDoor
open Go.RowKit
open Wd
set_option linter.unusedSimpArgs false
set_option linter.unusedVariables false

theorem rows_lit (w : World) (rs : List SRow) {B : Nat} (h : ∀ r ∈ rs, ReadsI w B r.1 r.2.2) (hB : B ≤ w.heap.size) : ReadsL (w.alloc (.cells (rs.map sv).toArray 22)) (w.heap.size + 1) (some ⟨w.heap.size, 0, none⟩) rs := by
  refine ⟨⟨by simp, fun _ => ⟨_, rfl, Nat.lt_succ_self _, fun j u hu => ?_⟩⟩, fun r' hr' => ?_⟩
  · have hb := Blk.new w 22 (rs.map sv).toArray
    have e : (⟨w.heap.size, 0, none⟩ : Addr).add j = ⟨w.heap.size, j, none⟩ := by rw [Addr.add_lit, Nat.zero_add]
    rw [e, hb.cell j]
    simpa using hu
  · exact ((h r' hr').alloc hB _).more (by omega)
/-- three words, one behind the other -/
theorem rjoin3 {w : World} {B n1 c1 n2 c2 n3 c3 : Nat} {A1 A2 A3 : Option Addr} {a b d : List Int} (h1 : ReadsI w B A1 a) (h2 : ReadsI w B A2 b) (h3 : ReadsI w B A3 d) (hB : B ≤ w.heap.size) (e1 : n1 = a.length) (e2 : n2 = b.length) (e3 : n3 = d.length) (hl : a.length + b.length + d.length ≤ 1000000000) :
    Calls Tryd.prog 63 #[.slice (some ⟨w.heap.size, 0, none⟩) 3 3] (w.alloc (.cells #[.slice A1 n1 c1, .slice A2 n2 c2, .slice A3 n3 c3] 22)) (OutI w (a ++ b ++ d)) := by
  subst e1 e2 e3
  have h := rjoined_any (w := w.alloc (.cells #[.slice A1 a.length c1, .slice A2 b.length c2, .slice A3 d.length c3] 22)) (c := 3) (n := 3) (rows_lit w [(A1, c1, a), (A2, c2, b), (A3, c3, d)] (fun r hr => by
    simp only [List.mem_cons, List.mem_nil_iff, or_false] at hr
    rcases hr with rfl | rfl | rfl
    · exact h1
    · exact h2
    · exact h3) hB) (by simp) rfl (by decide) (by simp; omega)
  refine h.mono ?_
  rintro e w' ⟨A', n', c', rfl, ho, hb⟩
  refine ⟨A', n', c', rfl, ?_, ((Below.refl w.heap.size w).alloc (Nat.le_refl _) _).trans (hb.mono (by simp))⟩
  have e : List.flatten (List.map (fun r : SRow => r.2.2) [(A1, c1, a), (A2, c2, b), (A3, c3, d)]) = a ++ b ++ d := by simp
  rw [e] at ho
  exact ho.lower (by simp)
/-- what the reference's Root leaves -/
def RRootOut (w : World) (R : List Int × Nat) (e : Ending) (w' : World) : Prop := ∃ A' n' c', e = .returned (.tuple #[.slice A' n' c', .int .i64 (R.2 : Int)]) ∧ ReadsI w' w'.heap.size A' R.1 ∧ n' = R.1.length ∧ Below w.heap.size w w'
theorem rrootN_hit {c j s p : List Int} {n : Nat} (hn : 2 ≤ n) (hp : p = c.take (c.length / n)) (hd : c.length % n = 0) (h : inv j ++ c ++ j = timesL (inv j ++ p ++ j) (n : Int)) : rrootN c j s n = (inv j ++ p ++ j, n) := by
  obtain ⟨m, rfl⟩ : ∃ m, n = m + 2 := ⟨n - 2, by omega⟩
  rw [rrootN, ← hp, if_pos ⟨hd, h⟩]
theorem rrootN_miss {c j s p : List Int} {n : Nat} (hn : 2 ≤ n) (hp : p = c.take (c.length / n)) (h : ¬ (c.length % n = 0 ∧ inv j ++ c ++ j = timesL (inv j ++ p ++ j) (n : Int))) : rrootN c j s n = rrootN c j s (n - 1) := by
  obtain ⟨m, rfl⟩ : ∃ m, n = m + 2 := ⟨n - 2, by omega⟩
  rw [rrootN, ← hp, if_neg h]
  rfl
theorem rrootN_end {c j s : List Int} {n : Nat} (hn : n ≤ 1) : rrootN c j s n = (s, 1) := by
  rcases Nat.eq_zero_or_pos n with h | h
  · subst h; rfl
  · rw [show n = 1 by omega]; rfl
set_option maxRecDepth 100000 in
set_option maxHeartbeats 4000000 in
theorem rroot_any {w : World} {B n c : Nat} {A : Option Addr} {s : List Int} (hr : ReadsI w B A s) (hB : B ≤ w.heap.size) (hn : n = s.length) (hnc : n ≤ c) (hl : LetL s) (hb : n ≤ 4096) (hc : c ≤ 9223372036854775807) :
    Calls Tryd.prog 29 #[.slice A n c] w (RRootOut w (rrootN (core s) (conj s) s (core s).length)) := by
  have HC := Lib.hid (rcore_any hr hB hn hnc hl (by omega) hc)
  have hcl := core_len s
  have hjl := conj_len s
  have hpl := parts_le s
  have HL := Lib.hid (And.intro (letl_core hl) (And.intro (letl_conj hl) (And.intro (show (core s).length ≤ 4096 by omega) (show (conj s).length ≤ 4096 by omega))))
  have HR := Lib.hid (And.intro (hr.more hB) hn)
  obtain ⟨R, hR⟩ : ∃ R, R = rrootN (core s) (conj s) s (core s).length := ⟨_, rfl⟩
  have HRe := Lib.hid hR.symm
  rw [← hR]
  have HB := Lib.hid hB
  clear hr hB hn hnc hl hb hc hcl hjl hpl hR
  go_enter Tryd.func29, Tryd.ntmps29
  go_wp2_with fail
  refine HC.out.mono ?_
  rintro e w2 ⟨A1, c1, A2, n2, c2, rfl, hr1, hc1, ho2, hb2⟩
  have hlen2 := ho2.len.1
  have H2 := Lib.hid (And.intro (show ReadsI w2 w2.heap.size A1 (core s) from hr1.more (by have := HB.out; have := hb2.size; omega)) (And.intro ho2.reads (And.intro hb2 hlen2)))
  generalize core s = C at *
  generalize conj s = J at *
  have hcm : C.length ≤ 4096 := HL.out.2.2.1
  obtain ⟨m, hm⟩ : ∃ m, m = C.length := ⟨_, rfl⟩
  rw [← hm] at hcm hc1 ⊢
  have Hm := Lib.hid hm
  have HR2 := Lib.hid (show rrootN C J s m = R by rw [hm]; exact HRe.out)
  clear hr1 ho2 hb2 hlen2 hm HC HRe
  go_wp2_with fail
  go_loopg [6] m (fun k nv wr => ∃ N : Nat, nv = .int .i64 (N : Int) ∧ k = N ∧ N ≤ m ∧ Hid (rrootN C J s N = R) ∧ Hid (Below w2.heap.size w2 wr))
  case atStart => exact ⟨m, rfl, rfl, by omega, HR2, Lib.hid (Below.refl _ _)⟩
  case round =>
    obtain ⟨N, rfl, hk, hN, hRN, hO⟩ := hrel
    have Hk := Lib.hid hk
    clear hk
    by_cases hN1 : 2 ≤ N
    · have hNi : (1 : Int) < (N : Int) := by omega
      have hN0 : ¬ N = 0 := by omega
      obtain ⟨r, hre⟩ : ∃ r, r = m % N := ⟨_, rfl⟩
      have hrt : Int.tmod (m : Int) (N : Int) = (r : Int) := by rw [hre]; rfl
      have hrl : r ≤ 4096 := by rw [hre]; have := Nat.mod_lt m (show 0 < N by omega); omega
      have hrw : IntKind.i64.wrap (r : Int) = (r : Int) := by rw [IntKind.wrap_i64]; omega
      by_cases hr0 : r = 0
      · have hrb : ((r : Int) != 0) = false := by rw [hr0]; rfl
        obtain ⟨q, hqe⟩ : ∃ q, q = m / N := ⟨_, rfl⟩
        have hqt : Int.tdiv (m : Int) (N : Int) = (q : Int) := by rw [hqe]; rfl
        have hqm : q ≤ m := by rw [hqe]; exact Nat.div_le_self _ _
        have hqw : IntKind.i64.wrap (q : Int) = (q : Int) := by rw [IntKind.wrap_i64]; omega
        obtain ⟨p, hpe⟩ : ∃ p, p = C.take q := ⟨_, rfl⟩
        have hpl : p.length = q := by rw [hpe, List.length_take]; have := Hm.out; omega
        have RA := Lib.hid (show ReadsI wr w2.heap.size A1 C from H2.out.1.below hO.out)
        have RJ := Lib.hid (show ReadsI wr w2.heap.size A2 J from H2.out.2.1.below hO.out)
        have RP := Lib.hid (show ReadsI wr w2.heap.size A1 p by rw [hpe]; exact ReadsI.take (m := C.drop q) (by rw [List.take_append_drop]; exact RA.out))
        have HLp := Lib.hid (show LetL p by rw [hpe]; exact fun k hk => HL.out.1 k (List.mem_of_mem_take hk))
        have Hpl := Lib.hid hpl
        have Hhit := Lib.hid (fun h : inv J ++ C ++ J = timesL (inv J ++ p ++ J) (N : Int) => show R = (inv J ++ p ++ J, N) by rw [← hRN.out]; exact rrootN_hit hN1 (by rw [hpe, hqe, Hm.out]) (by rw [← Hm.out, ← hre]; exact hr0) h)
        have Hmiss := Lib.hid (fun h : ¬ (inv J ++ C ++ J = timesL (inv J ++ p ++ J) (N : Int)) => show rrootN C J s (N - 1) = R by rw [← hRN.out]; exact (rrootN_miss hN1 (by rw [hpe, hqe, Hm.out]) (fun hh => h hh.2)).symm)
        have hqmi : (q : Int) ≤ (m : Int) := by omega
        have hqc : (q : Int) ≤ (c1 : Int) := by omega
        have HI := Lib.hid (fun (W : World) (h : ReadsI W W.heap.size A2 J) => rinv_any (c := c2) h (Nat.le_refl _) H2.out.2.2.2 (letl_small HL.out.2.1) (by have := H2.out.2.2.2; have := HL.out.2.2.2; omega))
        have Hlens := Lib.hid (show (inv J).length + C.length + J.length ≤ 1000000000 ∧ (inv J).length + p.length + J.length ≤ 100000 by have := HL.out.2.2; have := Hpl.out; rw [inv_len]; omega)
        have hs2 := hO.out.size
        have HLv := Lib.hid (show LetL (inv J ++ p ++ J) from fun k hk => by
          rw [List.mem_append, List.mem_append] at hk
          rcases hk with (h | h) | h
          · exact letl_inv HL.out.2.1 k h
          · exact HLp.out k h
          · exact HL.out.2.1 k h)
        subst hr0
        clear hre hqe hpe hpl
        go_wp2_with fail
        refine (HI.out wr (RJ.out.more hs2)).mono ?_
        rintro e w3 ⟨A3, n3, c3, rfl, ho3, hb3⟩
        have H3 := Lib.hid (And.intro ho3.reads (And.intro ho3.len.1 hb3))
        clear ho3 hb3
        have hn3 := H3.out.2.1
        have b3 : w2.heap.size ≤ w3.heap.size := by have := H3.out.2.2.size; omega
        have HJ1 := Lib.hid (rjoin3 (w := w3) (c1 := c3) (c2 := c1) (c3 := c2) H3.out.1 ((RA.out.more hs2).below H3.out.2.2 |>.more H3.out.2.2.size) ((RJ.out.more hs2).below H3.out.2.2 |>.more H3.out.2.2.size) (Nat.le_refl _) hn3 Hm.out H2.out.2.2.2 Hlens.out.1)
        clear hn3
        go_wp2_with fail
        refine HJ1.out.mono ?_
        rintro e w4 ⟨A4, n4, c4, rfl, ho4, hb4⟩
        have H4 := Lib.hid (And.intro ho4.reads (And.intro ho4.len.1 (H3.out.2.2.trans (hb4.mono H3.out.2.2.size))))
        have b4 : wr.heap.size ≤ w4.heap.size := H4.out.2.2.size
        clear ho4 hb4
        go_wp2_with fail
        refine (HI.out w4 ((RJ.out.more hs2).below H4.out.2.2 |>.more b4)).mono ?_
        rintro e w5 ⟨A5, n5, c5, rfl, ho5, hb5⟩
        have H5 := Lib.hid (And.intro ho5.reads (And.intro ho5.len.1 (And.intro hb5 (H4.out.2.2.trans (hb5.mono b4)))))
        have b5 : wr.heap.size ≤ w5.heap.size := H5.out.2.2.2.size
        clear ho5 hb5
        have HJ2 := Lib.hid (rjoin3 (w := w5) (c1 := c5) (c2 := c1) (c3 := c2) H5.out.1 ((RP.out.more hs2).below H5.out.2.2.2 |>.more b5) ((RJ.out.more hs2).below H5.out.2.2.2 |>.more b5) (Nat.le_refl _) H5.out.2.1 Hpl.out.symm H2.out.2.2.2 (by have := Hlens.out.2; omega))
        go_wp2_with fail
        refine HJ2.out.mono ?_
        rintro e w6 ⟨A6, n6, c6, rfl, ho6, hb6⟩
        have H6 := Lib.hid (And.intro ho6 (And.intro (H5.out.2.2.1.trans (hb6.mono H5.out.2.2.1.size)) (H5.out.2.2.2.trans (hb6.mono b5))))
        have b6 : wr.heap.size ≤ w6.heap.size := H6.out.2.2.size
        clear ho6 hb6
        have HT := Lib.hid (rtimes_any (w := w6) (c := c6) (x := (N : Int)) H6.out.1.reads (Nat.le_refl _) H6.out.1.len.1 H6.out.1.len.2.1 HLv.out (by have h := H6.out.1.len.1; rw [List.length_append, List.length_append] at h; have := Hlens.out.2; omega) H6.out.1.len.2.2 (by omega) (by omega))
        go_wp2_with fail
        refine HT.out.mono ?_
        rintro e w7 ⟨A7, n7, c7, rfl, ho7, hb7⟩
        have H7 := Lib.hid (And.intro ho7 (And.intro (H6.out.2.1.trans (hb7.mono H6.out.2.1.size)) (H6.out.2.2.trans (hb7.mono b6))))
        have b7 : wr.heap.size ≤ w7.heap.size := H7.out.2.2.size
        clear ho7 hb7
        have R4 := Lib.hid (show ReadsI w7 w7.heap.size A4 (inv J ++ C ++ J) from (H4.out.1.below H7.out.2.1).more H7.out.2.1.size)
        have hl4 := Hlens.out.1
        have hl4b : n4 ≤ 1000000000 := by have h := H4.out.2.1; rw [List.length_append, List.length_append] at h; omega
        have HD : Decidable (inv J ++ C ++ J = timesL (inv J ++ p ++ J) (N : Int)) := inferInstance
        rcases Decidable.em (inv J ++ C ++ J = timesL (inv J ++ p ++ J) (N : Int)) with he | he
        · have HS := Lib.hid (same_true (w := w7) (c := c4) (c' := c7) R4.out H7.out.1.reads H4.out.2.1 H7.out.1.len.1 hl4b he)
          have Hres := Lib.hid (Hhit.out he)
          clear he HD
          go_wp2_with fail
          refine HS.out.mono ?_
          rintro e w8 ⟨rfl, d8, hw8⟩
          have hb8 : Below wr.heap.size wr w8 := by rw [← hw8]; exact bdrew H7.out.2.2 d8
          have Hb8 := Lib.hid hb8
          have b8 : wr.heap.size ≤ w8.heap.size := hb8.size
          clear hw8 hb8
          go_wp2_with fail
          refine (HI.out w8 ((RJ.out.more hs2).below Hb8.out |>.more b8)).mono ?_
          rintro e w9 ⟨A9, n9, c9, rfl, ho9, hb9⟩
          have H9 := Lib.hid (And.intro ho9.reads (And.intro ho9.len.1 (Hb8.out.trans (hb9.mono b8))))
          have b9 : wr.heap.size ≤ w9.heap.size := H9.out.2.2.size
          clear ho9 hb9
          have HJ3 := Lib.hid (rjoin3 (w := w9) (c1 := c9) (c2 := c1) (c3 := c2) H9.out.1 ((RP.out.more hs2).below H9.out.2.2 |>.more b9) ((RJ.out.more hs2).below H9.out.2.2 |>.more b9) (Nat.le_refl _) H9.out.2.1 Hpl.out.symm H2.out.2.2.2 (by have := Hlens.out.2; omega))
          go_wp2_with fail
          refine HJ3.out.mono ?_
          rintro e w10 ⟨A10, n10, c10, rfl, ho10, hb10⟩
          have H10 := Lib.hid (And.intro ho10 (H9.out.2.2.trans (hb10.mono b9)))
          clear ho10 hb10
          go_wp2_with fail
          go_ret2
          exact ⟨A10, n10, c10, by rw [Hres.out]; rfl, by rw [Hres.out]; exact H10.out.1.reads, by rw [Hres.out]; exact H10.out.1.len.1, (H2.out.2.2.1.trans (hO.out.mono H2.out.2.2.1.size)).trans (H10.out.2.mono (by have := H2.out.2.2.1.size; have := hO.out.size; omega))⟩
        · have HS := Lib.hid (same_false (w := w7) (c := c4) (c' := c7) R4.out H7.out.1.reads H4.out.2.1 H7.out.1.len.1 hl4b (by have h := H7.out.1.len.1; have h2 := timesL_len (inv J ++ p ++ J) (N : Int); rw [List.length_append, List.length_append] at h2; have := Hlens.out.2; omega) he)
          have Hres := Lib.hid (Hmiss.out he)
          clear he HD
          go_wp2_with fail
          refine HS.out.mono ?_
          rintro e w8 ⟨rfl, d8, rfl⟩
          go_wp2_with fail
          go_roundg (N - 1)
          case measure => have := Hk.out; omega
          case rel => exact ⟨N - 1, by rw [show ((N - 1 : Nat) : Int) = (N : Int) - 1 by omega], rfl, by omega, Hres, Lib.hid (bdrew (hO.out.trans (H7.out.2.2.mono hs2)) d8)⟩
      · have hrb : ((r : Int) != 0) = true := by simp; omega
        have Hmiss := Lib.hid (show rrootN C J s (N - 1) = R by rw [← hRN.out]; exact (rrootN_miss hN1 rfl (fun hh => hr0 (by rw [hre, Hm.out]; exact hh.1))).symm)
        clear hre hr0
        go_wp2_with fail
        go_roundg (N - 1)
        case measure => have := Hk.out; omega
        case rel => exact ⟨N - 1, by rw [show ((N - 1 : Nat) : Int) = (N : Int) - 1 by omega], rfl, by omega, Hmiss, hO⟩
    · have hNi : (N : Int) ≤ 1 := by omega
      have Hend := Lib.hid (show R = (s, 1) by rw [← hRN.out]; exact rrootN_end (by omega))
      go_wp2_with fail
      go_ret2
      exact ⟨A, n, c, by rw [Hend.out]; rfl, by rw [Hend.out]; exact ((HR.out.1.below H2.out.2.2.1).more (H2.out.2.2.1.size)).below hO.out |>.more hO.out.size, by rw [Hend.out]; exact HR.out.2, H2.out.2.2.1.trans (hO.out.mono H2.out.2.2.1.size)⟩
end Go.Proofs.YtmjnhpagoboejaaDoor

/- ref.Letter, Letters, Check; words.Check. -/
namespace Go.Proofs.YtmjnhpagoboejaaDoor
open Go.RowKit
open Wd
set_option linter.unusedSimpArgs false
set_option linter.unusedVariables false

set_option maxRecDepth 100000 in
theorem rletter_any {w : World} {k : Int} (h1 : -9223372036854775808 ≤ k) (h2 : k ≤ 9223372036854775807) :
    Calls Tryd.prog 82 #[.int .i64 k] w (fun e w' => e = .returned (.bool (isLet k)) ∧ w = w') := by
  have Hl := Lib.hid (show isLet k = decide (k ≠ 0 ∧ -64 ≤ k ∧ k ≤ 64) from rfl)
  generalize isLet k = b at *
  by_cases a1 : 1 ≤ k
  · by_cases a3 : k ≤ 64
    · have hb : b = true := by rw [Hl.out]; exact decide_eq_true ⟨by omega, by omega, a3⟩
      subst hb
      clear Hl
      go_enter Tryd.func82, Tryd.ntmps82
      go_wp2
      go_ret
      exact ⟨rfl, rfl⟩
    · have hb : b = false := by rw [Hl.out]; exact decide_eq_false (fun h => a3 h.2.2)
      subst hb
      clear Hl
      have a4 : ¬ k ≤ -1 := by omega
      go_enter Tryd.func82, Tryd.ntmps82
      go_wp2
      go_ret
      exact ⟨rfl, rfl⟩
  · by_cases a2 : k ≤ -1
    · by_cases a3 : -64 ≤ k
      · have hb : b = true := by rw [Hl.out]; exact decide_eq_true ⟨by omega, a3, by omega⟩
        subst hb
        clear Hl
        go_enter Tryd.func82, Tryd.ntmps82
        go_wp2
        go_ret
        exact ⟨rfl, rfl⟩
      · have hb : b = false := by rw [Hl.out]; exact decide_eq_false (fun h => a3 h.2.1)
        subst hb
        clear Hl
        go_enter Tryd.func82, Tryd.ntmps82
        go_wp2
        go_ret
        exact ⟨rfl, rfl⟩
    · have hb : b = false := by rw [Hl.out]; exact decide_eq_false (fun h => by have := h.1; omega)
      subst hb
      clear Hl
      go_enter Tryd.func82, Tryd.ntmps82
      go_wp2
      go_ret
      exact ⟨rfl, rfl⟩
set_option maxRecDepth 100000 in
set_option maxHeartbeats 2000000 in
theorem rletters_any {w : World} {B n c : Nat} {A : Option Addr} {l : List Int} (hr : ReadsI w B A l) (hn : n = l.length) (hnl : n ≤ 1000000000000) (hw : Wf l) :
    Calls Tryd.prog 45 #[.slice A n c] w (fun e w' => e = .returned (.bool (isWord l)) ∧ w = w') := by
  have Hn := Lib.hid hn
  have Hw := Lib.hid hw
  have Hr := Lib.hid hr
  obtain ⟨b0, hb0⟩ : ∃ b, b = isWord l := ⟨_, rfl⟩
  have Hb0 := Lib.hid hb0
  rw [← hb0]
  clear hn hw hr hb0
  go_enter Tryd.func45, Tryd.ntmps45
  go_wp2_with fail
  go_loopg [3] n (fun k iv wr => ∃ i : Nat, iv = .int .i64 (i : Int) ∧ k = n - i ∧ i ≤ n ∧ w = wr ∧ Hid ((l.take i).any (fun k => !isLet k) = false))
  case atStart => exact ⟨0, rfl, by omega, by omega, rfl, Lib.hid (by rw [List.take_zero]; rfl)⟩
  case round =>
    obtain ⟨i, rfl, hk, hi, rfl, ht⟩ := hrel
    have Hk := Lib.hid hk
    clear hk
    by_cases hin : i < n
    · have hil : i < l.length := by rw [← Hn.out]; exact hin
      obtain ⟨ad, rfl, hb1, c0⟩ := Hr.out.at_ hil
      have hb := Hw.out l[i] (List.getElem_mem hil)
      have HB := Lib.hid (rletter_any (w := w) hb.1 hb.2)
      have Hst := Lib.hid (find_step hil ht.out)
      have Hhit := Lib.hid (fun h : isLet l[i] = false => show isWord l = false from by unfold isWord; rw [Bool.not_eq_false']; exact List.any_eq_true.2 ⟨l[i], List.getElem_mem hil, by rw [h]; rfl⟩)
      have hii : (i : Int) < (n : Int) := by omega
      generalize l[i] = x at *
      obtain ⟨b, hbb⟩ : ∃ b, b = isLet x := ⟨_, rfl⟩
      rw [← hbb] at HB Hst Hhit
      clear hbb hb hb1 hil
      cases b
      · go_wp2_with fail
        refine HB.out.mono ?_
        rintro e w' ⟨rfl, rfl⟩
        go_wp2_with fail
        go_ret
        exact ⟨by rw [Hb0.out, Hhit.out (by trivial)]; rfl, rfl⟩
      · go_wp2_with fail
        refine HB.out.mono ?_
        rintro e w' ⟨rfl, rfl⟩
        go_wp2_with fail
        go_roundg (n - (i + 1))
        case measure => have := Hk.out; omega
        case rel => exact ⟨i + 1, rfl, rfl, by omega, rfl, Lib.hid (Hst.out (by trivial))⟩
    · have hii : (n : Int) ≤ (i : Int) := by omega
      have hend : b0 = true := by
        have h := ht.out
        rw [List.take_of_length_le (by have := Hn.out; omega)] at h
        rw [Hb0.out]
        unfold isWord
        rw [h]; rfl
      have Hend := Lib.hid hend
      clear hend
      go_wp2_with fail
      go_ret
      exact ⟨by rw [Hend.out]; rfl, rfl⟩
theorem chk_val (l : List Int) : chk [l] = if isWord l then (if 4096 < l.length then 3 else 0) else 2 := by
  unfold chk tooLong
  simp
set_option maxRecDepth 100000 in
theorem rcheck_any {w : World} {B n c : Nat} {A : Option Addr} {l : List Int} (hr : ReadsI w B A l) (hn : n = l.length) (hnl : n ≤ 1000000000000) (hw : Wf l) :
    Calls Tryd.prog 14 #[.slice A n c] w (fun e w' => e = .returned (.int .i64 (chk [l])) ∧ w = w') := by
  have HL := Lib.hid (rletters_any (c := c) hr hn hnl hw)
  have hc := chk_val l
  rw [← hn] at hc
  have Hc := Lib.hid hc
  generalize isWord l = b at *
  generalize chk [l] = z at *
  clear hr hn hw hc
  cases b
  · go_enter Tryd.func14, Tryd.ntmps14
    go_wp2_with fail
    refine HL.out.mono ?_
    rintro e w' ⟨rfl, rfl⟩
    go_wp2_with fail
    go_ret
    exact ⟨by rw [Hc.out]; rfl, rfl⟩
  · by_cases h : 4096 < n
    · have h1 : (4096 : Int) < (n : Int) := by omega
      have Hz := Lib.hid (show z = 3 by rw [Hc.out, if_pos (by trivial), if_pos h])
      clear h Hc
      go_enter Tryd.func14, Tryd.ntmps14
      go_wp2_with fail
      refine HL.out.mono ?_
      rintro e w' ⟨rfl, rfl⟩
      go_wp2_with fail
      go_ret
      exact ⟨by rw [Hz.out]; rfl, rfl⟩
    · have h1 : (n : Int) ≤ 4096 := by omega
      have Hz := Lib.hid (show z = 0 by rw [Hc.out, if_pos (by trivial), if_neg h])
      clear h Hc
      go_enter Tryd.func14, Tryd.ntmps14
      go_wp2_with fail
      refine HL.out.mono ?_
      rintro e w' ⟨rfl, rfl⟩
      go_wp2_with fail
      go_ret
      exact ⟨by rw [Hz.out]; rfl, rfl⟩
end Go.Proofs.YtmjnhpagoboejaaDoor

/- words.Conj. -/
namespace Go.Proofs.YtmjnhpagoboejaaDoor
open Go.RowKit
open Wd
set_option linter.unusedSimpArgs false
set_option linter.unusedVariables false

theorem row_two (w : World) (r s : SRow) {B : Nat} (h : ReadsI w B r.1 r.2.2) (h' : ReadsI w B s.1 s.2.2) (hB : B ≤ w.heap.size) : ReadsL (w.alloc (.cells #[.slice r.1 r.2.2.length r.2.1, .slice s.1 s.2.2.length s.2.1] 22)) (w.heap.size + 1) (some ⟨w.heap.size, 0, none⟩) [r, s] := by
  refine ⟨⟨rfl, fun _ => ⟨_, rfl, Nat.lt_succ_self _, fun j u hu => ?_⟩⟩, fun r' hr' => ?_⟩
  · have hb := Blk.new w 22 #[.slice r.1 r.2.2.length r.2.1, .slice s.1 s.2.2.length s.2.1]
    match j, hu with
    | 0, hu => rw [Addr.add_zero', hb.cell 0]; exact hu
    | 1, hu => have h1 := hb.cell 1; exact h1.trans hu
    | j + 2, hu => simp at hu
  · rcases List.mem_cons.1 hr' with rfl | hr'
    · exact (h.alloc hB _).more (by omega)
    · rw [List.mem_singleton.1 hr']
      exact (h'.alloc hB _).more (by omega)
theorem chk_two {a b : List Int} (h : chk [a, b] = 0) : (LetL a ∧ a.length ≤ 4096) ∧ (LetL b ∧ b.length ≤ 4096) := by
  have h1 := chk_all (rs := [(none, 0, a), (none, 0, b)]) h
  exact ⟨h1 (none, 0, a) (by simp), h1 (none, 0, b) (by simp)⟩
set_option maxRecDepth 100000 in
theorem conj_bad {w : World} {B na ca nb cb : Nat} {Aa Ab : Option Addr} {a b : List Int} (hra : ReadsI w B Aa a) (hrb : ReadsI w B Ab b) (hB : B ≤ w.heap.size) (hna : na = a.length) (hnb : nb = b.length) (hwa : Wf a) (hwb : Wf b) (hla : na ≤ 1000000000000) (hlb : nb ≤ 1000000000000) (hz : chk [a, b] ≠ 0) :
    Calls Tryd.prog 34 #[.slice Aa na ca, .slice Ab nb cb] w (fun e w' => e = .returned (.tuple #[.slice none 0 0, .int .i64 (chk [a, b])]) ∧ Below w.heap.size w w') := by
  subst hna hnb
  have hb0 := ((Below.refl w.heap.size w).alloc (Nat.le_refl _) (.cells #[.slice Aa a.length ca] 22)).alloc (by simp) (.cells #[.slice Ab b.length cb] 22)
  have hs2 : ((w.alloc (.cells #[.slice Aa a.length ca] 22)).alloc (.cells #[.slice Ab b.length cb] 22)).heap.size = w.heap.size + 2 := by simp
  have hM := made_bad (n := 2) (c := 2) (fv := .func (.func 69) #[] #[.pointer (some ⟨w.heap.size + 1, 0, none⟩), .pointer (some ⟨w.heap.size, 0, none⟩)]) (row_two ((w.alloc (.cells #[.slice Aa a.length ca] 22)).alloc (.cells #[.slice Ab b.length cb] 22)) (Aa, ca, a) (Ab, cb, b) ((hra.alloc hB _).alloc (by simp; omega) _) ((hrb.alloc hB _).alloc (by simp; omega) _) (by simp; omega)) rfl (by decide) (fun r hr' => by
    rcases List.mem_cons.1 hr' with rfl | hr'
    · exact ⟨hwa, hla⟩
    · rw [List.mem_singleton.1 hr']; exact ⟨hwb, hlb⟩) hz
  rw [hs2] at hM
  have HM := Lib.hid hM
  have Hb := Lib.hid (hb0.alloc (by simp; omega) (.cells #[.slice Aa a.length ca, .slice Ab b.length cb] 22))
  simp only [List.map_cons, List.map_nil] at HM
  generalize chk [a, b] = z at *
  clear hM hra hrb hwa hwb hla hlb hz hb0 hs2 hB
  go_enter Tryd.func34, Tryd.ntmps34
  go_wp2_with fail
  refine HM.out.mono ?_
  rintro e w' ⟨rfl, rfl⟩
  go_wp2_with fail
  go_ret2
  exact ⟨rfl, Hb.out⟩
/-- a conjugate -/
def conjd (a b : List Int) : List Int := onl (onl (inv (short b)) a) b
set_option maxRecDepth 100000 in
theorem conj_ok {w : World} {B na ca nb cb : Nat} {Aa Ab : Option Addr} {a b : List Int} (hra : ReadsI w B Aa a) (hrb : ReadsI w B Ab b) (hB : B ≤ w.heap.size) (hna : na = a.length) (hnb : nb = b.length) (hz : chk [a, b] = 0) :
    Calls Tryd.prog 34 #[.slice Aa na ca, .slice Ab nb cb] w (fun e w' => Below w.heap.size w w' ∧ (((conjd a b).length ≤ 4096 ∧ ∃ A' n', e = .returned (.tuple #[.slice A' n' n', .int .i64 0]) ∧ ResI w' w.heap.size A' n' (conjd a b)) ∨ (4096 < (conjd a b).length ∧ e = .returned (.tuple #[.slice none 0 0, .int .i64 3])))) := by
  obtain ⟨⟨hla, hna4⟩, hlb, hnb4⟩ := chk_two hz
  subst hna hnb
  have hwa : Wf a := fun k hk => by have := hla k hk; omega
  have hwb : Wf b := fun k hk => by have := hlb k hk; omega
  have hb0 := ((Below.refl w.heap.size w).alloc (Nat.le_refl _) (.cells #[.slice Aa a.length ca] 22)).alloc (by simp) (.cells #[.slice Ab b.length cb] 22)
  have hs2 : ((w.alloc (.cells #[.slice Aa a.length ca] 22)).alloc (.cells #[.slice Ab b.length cb] 22)).heap.size = w.heap.size + 2 := by simp
  have hb1 := hb0.alloc (by simp; omega) (.cells #[.slice Aa a.length ca, .slice Ab b.length cb] 22)
  have ra := (((hra.alloc hB (.cells #[.slice Aa a.length ca] 22)).alloc (by simp; omega) (.cells #[.slice Ab b.length cb] 22)).alloc (by simp; omega) (.cells #[.slice Aa a.length ca, .slice Ab b.length cb] 22))
  have rb := (((hrb.alloc hB (.cells #[.slice Aa a.length ca] 22)).alloc (by simp; omega) (.cells #[.slice Ab b.length cb] 22)).alloc (by simp; omega) (.cells #[.slice Aa a.length ca, .slice Ab b.length cb] 22))
  have hga : Blk (((w.alloc (.cells #[.slice Aa a.length ca] 22)).alloc (.cells #[.slice Ab b.length cb] 22)).alloc (.cells #[.slice Aa a.length ca, .slice Ab b.length cb] 22)) w.heap.size 22 #[.slice Aa a.length ca] := ((Blk.new w 22 #[.slice Aa a.length ca]).alloc _).alloc _
  have hgb : Blk (((w.alloc (.cells #[.slice Aa a.length ca] 22)).alloc (.cells #[.slice Ab b.length cb] 22)).alloc (.cells #[.slice Aa a.length ca, .slice Ab b.length cb] 22)) (w.heap.size + 1) 22 #[.slice Ab b.length cb] := by
    have h := (Blk.new (w.alloc (.cells #[.slice Aa a.length ca] 22)) 22 #[.slice Ab b.length cb]).alloc (.cells #[.slice Aa a.length ca, .slice Ab b.length cb] 22)
    rw [World.size_alloc] at h
    exact h
  have h1 := conj1_any hga hgb (ra.more (by simp; omega)) (rb.more (by simp; omega)) rfl rfl hla hlb (by omega) (by omega)
  have hM := made_ok69 (n := 2) (c := 2) (row_two ((w.alloc (.cells #[.slice Aa a.length ca] 22)).alloc (.cells #[.slice Ab b.length cb] 22)) (Aa, ca, a) (Ab, cb, b) ((hra.alloc hB _).alloc (by simp; omega) _) ((hrb.alloc hB _).alloc (by simp; omega) _) (by simp; omega)) rfl (by decide) (fun r hr' => by
    rcases List.mem_cons.1 hr' with rfl | hr'
    · exact ⟨hwa, by show a.length ≤ _; omega⟩
    · rw [List.mem_singleton.1 hr']; exact ⟨hwb, by show b.length ≤ _; omega⟩) hz (R := fun A' n' c' w' => OwnI w' w.heap.size (.slice A' n' c') (conjd a b) ∧ Below w.heap.size w w')
    (h1.mono fun e w' ⟨A', n', c', he, hc, ho, hb⟩ => ⟨A', n', c', he, hc, ho.lower (by simp; omega), hb1.trans (hb.mono (by simp; omega))⟩)
  rw [hs2] at hM
  have HM := Lib.hid hM
  clear hM h1 hga hgb ra rb hra hrb hwa hwb hla hlb hz hb0 hb1 hs2 hB hna4 hnb4
  go_enter Tryd.func34, Tryd.ntmps34
  go_wp2_with fail
  refine HM.out.mono ?_
  rintro e w2 ⟨A2, n2, c2, ⟨ho, hb⟩, hcase⟩
  have Ho := Lib.hid (And.intro ho hb)
  have Hn2 := Lib.hid ho.len
  clear ho hb
  rcases hcase with ⟨h, rfl⟩ | ⟨h, rfl⟩
  · go_wp2_with fail
    go_ret2
    exact ⟨Ho.out.2, .inl ⟨by rw [← Hn2.out.1]; exact h, A2, n2, rfl, Hn2.out.1, c2, Ho.out.1, Hn2.out.2.1⟩⟩
  · go_wp2_with fail
    go_ret2
    exact ⟨Ho.out.2, .inr ⟨by rw [← Hn2.out.1]; exact h, rfl⟩⟩
end Go.Proofs.YtmjnhpagoboejaaDoor

/- What is made, or refused: one form for the program's and the reference's. -/
namespace Go.Proofs.YtmjnhpagoboejaaDoor
open Go.RowKit
open Wd
set_option linter.unusedSimpArgs false
set_option linter.unusedVariables false

/-- a word and an error's number -/
def ResOut (w : World) (R : List Int × Int) (e : Ending) (w' : World) : Prop := ∃ A n k, e = .returned (.tuple #[.slice A n k, .int .i64 R.2]) ∧ Got w' w.heap.size w'.heap.size A n k R.1 ∧ Below w.heap.size w w'
theorem resOut_nil {w w' : World} {z : Int} (hb : Below w.heap.size w w') : ResOut w ([], z) (.returned (.tuple #[.slice none 0 0, .int .i64 z])) w' := ⟨none, 0, 0, rfl, Got.none_ hb.size (Nat.le_refl _), hb⟩
/-- a word that is made, if it is not too long -/
def ended (L : List Int) : List Int × Int := if L.length ≤ 4096 then (L, 0) else ([], 3)
theorem resOut_made {w w' : World} {L : List Int} {e : Ending} (h : MadeOut w L e w') : ResOut w (ended L) e w' := by
  obtain ⟨hb, ⟨hl, A, n, rfl, hr⟩ | ⟨hl, rfl⟩⟩ := h
  · unfold ended
    rw [if_pos hl]
    exact ⟨A, n, n, rfl, Got.of_res hr hb.size, hb⟩
  · unfold ended
    rw [if_neg (by omega)]
    exact resOut_nil hb
def mulR (ls : List (List Int)) : List Int × Int := if chk ls = 0 then ended (short ls.flatten) else ([], chk ls)
def powR (l : List Int) (x : Int) : List Int × Int := if chk [l] = 0 then ended (powl l x) else ([], chk [l])
def conjR (a b : List Int) : List Int × Int := if chk [a, b] = 0 then ended (conjd a b) else ([], chk [a, b])
theorem mul_out {w : World} {B n c : Nat} {A : Option Addr} {rs : List SRow} (hr : ReadsL w B A rs) (hB : B ≤ w.heap.size) (hn : n = rs.length) (hnl : (flat rs).length ≤ 50000000) (hnn : n ≤ 1000000000) (hw : ∀ r ∈ rs, Wf r.2.2 ∧ r.2.2.length ≤ 1000000000000) :
    Calls Tryd.prog 30 #[.slice A n c] w (ResOut w (mulR (rs.map (fun r => r.2.2)))) := by
  unfold mulR
  by_cases hz : chk (rs.map (fun r => r.2.2)) = 0
  · rw [if_pos hz]
    exact (mul_ok (c := c) hr hB hn hnl hnn hz).mono fun e w' h => resOut_made h
  · rw [if_neg hz]
    exact (mul_bad (c := c) hr hB hn hnn hw hz).mono fun e w' ⟨he, hb⟩ => by rw [he]; exact resOut_nil hb
theorem pow_out {w : World} {B n c : Nat} {A : Option Addr} {l : List Int} {x : Int} (hr : ReadsI w B A l) (hB : B ≤ w.heap.size) (hn : n = l.length) (hx1 : -9223372036854775808 ≤ x) (hx2 : x ≤ 9223372036854775807) (hw : Wf l) (hnl : n ≤ 1000000000000) :
    Calls Tryd.prog 32 #[.slice A n c, .int .i64 x] w (ResOut w (powR l x)) := by
  unfold powR
  by_cases hz : chk [l] = 0
  · rw [if_pos hz]
    exact (pow_ok (c := c) hr hB hn hx1 hx2 hz).mono fun e w' h => resOut_made h
  · rw [if_neg hz]
    exact (pow_bad (c := c) hr hB hn hw hnl hz).mono fun e w' ⟨he, hb⟩ => by rw [he]; exact resOut_nil hb
theorem conj_out {w : World} {B na ca nb cb : Nat} {Aa Ab : Option Addr} {a b : List Int} (hra : ReadsI w B Aa a) (hrb : ReadsI w B Ab b) (hB : B ≤ w.heap.size) (hna : na = a.length) (hnb : nb = b.length) (hwa : Wf a) (hwb : Wf b) (hla : na ≤ 1000000000000) (hlb : nb ≤ 1000000000000) :
    Calls Tryd.prog 34 #[.slice Aa na ca, .slice Ab nb cb] w (ResOut w (conjR a b)) := by
  unfold conjR
  by_cases hz : chk [a, b] = 0
  · rw [if_pos hz]
    exact (conj_ok (ca := ca) (cb := cb) hra hrb hB hna hnb hz).mono fun e w' h => resOut_made h
  · rw [if_neg hz]
    exact (conj_bad (ca := ca) (cb := cb) hra hrb hB hna hnb hwa hwb hla hlb hz).mono fun e w' ⟨he, hb⟩ => by rw [he]; exact resOut_nil hb
end Go.Proofs.YtmjnhpagoboejaaDoor

/- ref.all, ended, Mul. -/
namespace Go.Proofs.YtmjnhpagoboejaaDoor
open Go.RowKit
open Wd
set_option linter.unusedSimpArgs false
set_option linter.unusedVariables false

theorem chk_val2 (l : List Int) : chk [l] = if isWord l then (if tooLong l then 3 else 0) else 2 := by
  unfold chk
  simp
set_option maxRecDepth 100000 in
set_option maxHeartbeats 2000000 in
theorem rall_any {w : World} {B n c : Nat} {A : Option Addr} {rs : List SRow} (hr : ReadsL w B A rs) (hn : n = rs.length) (hnl : n ≤ 1000000000000) (hw : ∀ r ∈ rs, Wf r.2.2 ∧ r.2.2.length ≤ 1000000000000) :
    Calls Tryd.prog 66 #[.slice A n c] w (fun e w' => e = .returned (.int .i64 (chk (rs.map (fun r => r.2.2)))) ∧ w = w') := by
  have Hn := Lib.hid hn
  have Hw := Lib.hid hw
  have Hc := Lib.hid (show chk (rs.map (fun r => r.2.2)) = if (rs.map (fun r => r.2.2)).all isWord then (if (rs.map (fun r => r.2.2)).any tooLong then 3 else 0) else 2 from rfl)
  generalize chk (rs.map (fun r => r.2.2)) = z at *
  have Hr := Lib.hid hr
  clear hn hw hr
  go_enter Tryd.func66, Tryd.ntmps66
  go_wp2_with fail
  go_loopg [3, 4] n (fun k ev iv wr => ∃ (i : Nat) (x : Int), ev = .int .i64 x ∧ iv = .int .i64 (i : Int) ∧ k = n - i ∧ i ≤ n ∧ w = wr ∧ Hid ((rs.take i).all (fun r => isWord r.2.2) = true) ∧ Hid (x = if (rs.take i).any (fun r => tooLong r.2.2) then 3 else 0))
  case atStart => exact ⟨0, 0, rfl, rfl, by omega, by omega, rfl, Lib.hid (by rw [List.take_zero]; rfl), Lib.hid (by rw [List.take_zero]; rfl)⟩
  case round =>
    obtain ⟨i, x, rfl, rfl, hk, hi, rfl, ht, hx⟩ := hrel
    have Hk := Lib.hid hk
    clear hk
    by_cases hin : i < n
    · have hil : i < rs.length := by rw [← Hn.out]; exact hin
      obtain ⟨ad, rfl, hb1, c0⟩ := Hr.out.at_ hil
      have hmem := List.getElem_mem hil
      have hlen := (Hw.out rs[i] hmem).2
      have hC := rcheck_any (c := rs[i].2.1) (Hr.out.2 rs[i] hmem) rfl hlen (Hw.out rs[i] hmem).1
      rw [chk_val2] at hC
      have Hst := Lib.hid (all_step hil ht.out)
      have Han := Lib.hid (any_step hil)
      have Hno := Lib.hid (all_no hil)
      obtain ⟨b, hbb⟩ : ∃ b, b = isWord rs[i].2.2 := ⟨_, rfl⟩
      rw [← hbb] at Hst Hno hC
      obtain ⟨t, htl⟩ : ∃ t, t = tooLong rs[i].2.2 := ⟨_, rfl⟩
      rw [← htl] at Han hC
      have hii : (i : Int) < (n : Int) := by omega
      clear hbb htl hmem hb1
      generalize rs[i].2.2.length = m at *
      generalize rs[i].1 = a1 at *
      generalize rs[i].2.1 = c1 at *
      clear hil
      cases b
      · have HC := Lib.hid (show Calls Tryd.prog 14 #[.slice a1 m c1] w (fun e w' => e = .returned (.int .i64 2) ∧ w = w') from hC)
        clear hC
        go_wp2_with fail
        refine HC.out.mono ?_
        rintro e w' ⟨rfl, rfl⟩
        go_wp2_with fail
        go_ret
        exact ⟨by rw [Hc.out, Hno.out (by trivial)]; rfl, rfl⟩
      · cases t
        · have HC := Lib.hid (show Calls Tryd.prog 14 #[.slice a1 m c1] w (fun e w' => e = .returned (.int .i64 0) ∧ w = w') from hC)
          clear hC
          go_wp2_with fail
          refine HC.out.mono ?_
          rintro e w' ⟨rfl, rfl⟩
          go_wp2_with fail
          go_roundg (n - (i + 1))
          case measure => have := Hk.out; omega
          case rel => exact ⟨i + 1, x, rfl, rfl, rfl, by omega, rfl, Lib.hid (Hst.out (by trivial)), Lib.hid (by rw [Han.out, Bool.or_false]; exact hx.out)⟩
        · have HC := Lib.hid (show Calls Tryd.prog 14 #[.slice a1 m c1] w (fun e w' => e = .returned (.int .i64 3) ∧ w = w') from hC)
          clear hC
          go_wp2_with fail
          refine HC.out.mono ?_
          rintro e w' ⟨rfl, rfl⟩
          go_wp2_with fail
          go_roundg (n - (i + 1))
          case measure => have := Hk.out; omega
          case rel => exact ⟨i + 1, 3, rfl, rfl, rfl, by omega, rfl, Lib.hid (Hst.out (by trivial)), Lib.hid (by rw [Han.out, Bool.or_true]; rfl)⟩
    · have hii : (n : Int) ≤ (i : Int) := by omega
      have hend : z = x := by
        have h1 := ht.out
        have h2 := hx.out
        rw [List.take_of_length_le (by have := Hn.out; omega)] at h1 h2
        have h3 : (rs.map (fun r => r.2.2)).all isWord = true := by rw [List.all_map]; exact h1
        have h4 : (rs.map (fun r => r.2.2)).any tooLong = rs.any (fun r => tooLong r.2.2) := by rw [List.any_map]; rfl
        rw [Hc.out, h3, h4, h2]
        rfl
      subst hend
      go_wp2_with fail
      go_ret
      exact ⟨rfl, rfl⟩
set_option maxRecDepth 100000 in
theorem rended_ok {w : World} {A : Option Addr} {n c : Nat} (h : n ≤ 4096) :
    Calls Tryd.prog 67 #[.slice A n c] w (fun e w' => e = .returned (.tuple #[.slice A n c, .int .i64 0]) ∧ w = w') := by
  have h1 : (n : Int) ≤ 4096 := by omega
  go_enter Tryd.func67, Tryd.ntmps67
  go_wp2
  go_ret2
  exact ⟨rfl, rfl⟩
set_option maxRecDepth 100000 in
theorem rended_long {w : World} {A : Option Addr} {n c : Nat} (h : 4096 < n) :
    Calls Tryd.prog 67 #[.slice A n c] w (fun e w' => e = .returned (.tuple #[.slice none 0 0, .int .i64 3]) ∧ w = w') := by
  have h1 : (4096 : Int) < (n : Int) := by omega
  go_enter Tryd.func67, Tryd.ntmps67
  go_wp2
  go_ret2
  exact ⟨rfl, rfl⟩
/-- a row that was made, and refused where it is too long -/
def EndOut (w0 w : World) (L : List Int) (e : Ending) (w' : World) : Prop := ∃ A n k, e = .returned (.tuple #[.slice A n k, .int .i64 (ended L).2]) ∧ Got w' w0.heap.size w'.heap.size A n k (ended L).1 ∧ w = w'
theorem rended_any {w0 w : World} {A : Option Addr} {n c : Nat} {L : List Int} (ho : OwnI w w0.heap.size (.slice A n c) L) (hb : w0.heap.size ≤ w.heap.size) : Calls Tryd.prog 67 #[.slice A n c] w (EndOut w0 w L) := by
  have hl := ho.len.1
  unfold EndOut
  by_cases h : L.length ≤ 4096
  · unfold ended
    rw [if_pos h]
    exact (rended_ok (by omega)).mono fun e w' ⟨he, hw⟩ => by subst hw; exact ⟨A, n, c, he, Got.of_own ho hb, rfl⟩
  · unfold ended
    rw [if_neg h]
    exact (rended_long (by omega)).mono fun e w' ⟨he, hw⟩ => by subst hw; exact ⟨none, 0, 0, he, Got.none_ hb (Nat.le_refl _), rfl⟩
theorem flat_flatten (rs : List SRow) : flat rs = (rs.map (fun r => r.2.2)).flatten := by
  unfold flat
  rw [List.flatMap_def]
theorem chk_words {ls : List (List Int)} (h : chk ls = 0) : ∀ l ∈ ls, LetL l ∧ l.length ≤ 4096 := by
  unfold chk at h
  intro l hl
  by_cases h1 : ls.all isWord = true
  · rw [if_pos h1] at h
    by_cases h2 : ls.any tooLong = true
    · rw [if_pos h2] at h; cases h
    · refine ⟨word_let (List.all_eq_true.1 h1 l hl), ?_⟩
      have h3 : ¬ tooLong l = true := fun h4 => h2 (List.any_eq_true.2 ⟨l, hl, h4⟩)
      unfold tooLong at h3
      simpa using h3
  · rw [if_neg h1] at h; cases h
theorem letl_flat {ls : List (List Int)} (h : ∀ l ∈ ls, LetL l) : LetL ls.flatten := fun k hk => by
  obtain ⟨l, hl, hk⟩ := List.mem_flatten.1 hk
  exact h l hl k hk
set_option maxRecDepth 100000 in
theorem rmul_out {w : World} {B n c : Nat} {A : Option Addr} {rs : List SRow} (hr : ReadsL w B A rs) (hB : B ≤ w.heap.size) (hn : n = rs.length) (hnl : (flat rs).length ≤ 50000000) (hnn : n ≤ 1000000000) (hw : ∀ r ∈ rs, Wf r.2.2 ∧ r.2.2.length ≤ 1000000000000) :
    Calls Tryd.prog 31 #[.slice A n c] w (ResOut w (mulR (rs.map (fun r => r.2.2)))) := by
  have HA := Lib.hid (rall_any (c := c) hr hn (by omega) hw)
  rw [flat_flatten] at hnl
  unfold mulR
  by_cases hz : chk (rs.map (fun r => r.2.2)) = 0
  · rw [hz] at HA
    rw [if_pos hz]
    have hlet := letl_flat (fun l hl => (chk_words hz l hl).1)
    have HJ := Lib.hid (rjoined_any (c := c) hr hB hn hnn (by omega))
    generalize (rs.map (fun r => r.2.2)).flatten = L at *
    have HL := Lib.hid (And.intro hlet hnl)
    clear hr hB hn hnl hnn hw hz hlet
    go_enter Tryd.func31, Tryd.ntmps31
    go_wp2_with fail
    refine HA.out.mono ?_
    rintro e w' ⟨rfl, rfl⟩
    go_wp2_with fail
    refine HJ.out.mono ?_
    rintro e w2 ⟨A2, n2, c2, rfl, ho2, hb2⟩
    have H2 := Lib.hid (And.intro ho2 hb2)
    clear ho2 hb2
    go_wp2_with fail
    refine (rshort_any (c := c2) H2.out.1.reads (Nat.le_refl _) H2.out.1.len.1 HL.out.1 (by have := H2.out.1.len.1; have := HL.out.2; omega)).mono ?_
    rintro e w3 ⟨A3, n3, c3, rfl, ho3, hb3⟩
    have hs2 := H2.out.2.size
    have H3 := Lib.hid (And.intro (ho3.lower hs2) (H2.out.2.trans (hb3.mono hs2)))
    clear ho3 hb3
    go_wp2_with fail
    refine (rended_any H3.out.1 H3.out.2.size).mono ?_
    rintro e w4 ⟨A4, n4, k4, rfl, hg4, rfl⟩
    have H4 := Lib.hid hg4
    clear hg4
    go_wp2_with fail
    go_ret2
    exact ⟨A4, n4, k4, rfl, H4.out, H3.out.2⟩
  · rw [if_neg hz]
    generalize chk (rs.map (fun r => r.2.2)) = z at *
    have hzb : (z != 0) = true := by simp; exact hz
    clear hr hB hn hnl hnn hw hz
    go_enter Tryd.func31, Tryd.ntmps31
    go_wp2_with fail
    refine HA.out.mono ?_
    rintro e w' ⟨rfl, rfl⟩
    go_wp2_with fail
    go_ret2
    exact resOut_nil (Below.refl _ _)
end Go.Proofs.YtmjnhpagoboejaaDoor

/- words.Cmp, ref.Cmp. -/
namespace Go.Proofs.YtmjnhpagoboejaaDoor
open Go.RowKit
open Wd
set_option linter.unusedSimpArgs false
set_option linter.unusedVariables false

def placeZ (k : Int) : Int := if k < 0 then -2 * k - 1 else 2 * k - 2
def cmp1 (a b : Int) : Int := if placeZ a < placeZ b then -1 else if placeZ b < placeZ a then 1 else 0
def cmpL : List Int → List Int → Int
  | a :: v, b :: w => if cmp1 a b = 0 then cmpL v w else cmp1 a b
  | _, _ => 0
theorem ret_i {a b : Int} (h : a = b) : Ending.returned (.int .i64 a) = .returned (.int .i64 b) := by rw [h]
set_option maxRecDepth 100000 in
theorem place_any {w : World} {k : Int} (h1 : -64 ≤ k) (h2 : k ≤ 64) : Calls Tryd.prog 80 #[.int .i64 k] w (fun e w' => e = .returned (.int .i64 (placeZ k)) ∧ w = w') := by
  by_cases h : k < 0
  · have Hp := Lib.hid (show placeZ k = -2 * k - 1 by unfold placeZ; rw [if_pos h])
    go_enter Tryd.func80, Tryd.ntmps80
    go_wp2
    go_ret
    exact ⟨ret_i (by rw [Hp.out]), rfl⟩
  · have Hp := Lib.hid (show placeZ k = 2 * k - 2 by unfold placeZ; rw [if_neg h])
    go_enter Tryd.func80, Tryd.ntmps80
    go_wp2
    go_ret
    exact ⟨ret_i (by rw [Hp.out]), rfl⟩
set_option maxRecDepth 100000 in
theorem rplace_any {w : World} {k : Int} (h0 : k ≠ 0) (h1 : -64 ≤ k) (h2 : k ≤ 64) : Calls Tryd.prog 75 #[.int .i64 k] w (fun e w' => e = .returned (.int .i64 (placeZ k)) ∧ w = w') := by
  by_cases h : 0 < k
  · have Hp := Lib.hid (show placeZ k = 2 * k - 2 by unfold placeZ; rw [if_neg (by omega)])
    clear h0
    go_enter Tryd.func75, Tryd.ntmps75
    go_wp2
    go_ret
    exact ⟨ret_i (by rw [Hp.out]), rfl⟩
  · have Hp := Lib.hid (show placeZ k = -2 * k - 1 by unfold placeZ; rw [if_pos (by omega)])
    clear h0
    go_enter Tryd.func75, Tryd.ntmps75
    go_wp2
    go_ret
    exact ⟨ret_i (by rw [Hp.out]), rfl⟩
theorem placeZ_bd {k : Int} (h1 : -64 ≤ k) (h2 : k ≤ 64) : -1000 ≤ placeZ k ∧ placeZ k ≤ 1000 := by unfold placeZ; split <;> omega
set_option maxRecDepth 100000 in
theorem cmp1_any {w : World} {a b : Int} (ha : -64 ≤ a ∧ a ≤ 64) (hb : -64 ≤ b ∧ b ≤ 64) : Calls Tryd.prog 79 #[.int .i64 a, .int .i64 b] w (fun e w' => e = .returned (.int .i64 (cmp1 a b)) ∧ w = w') := by
  have HA := Lib.hid (place_any (w := w) ha.1 ha.2)
  have HB := Lib.hid (place_any (w := w) hb.1 hb.2)
  have h1 := placeZ_bd ha.1 ha.2
  have h2 := placeZ_bd hb.1 hb.2
  have Hc := Lib.hid (show cmp1 a b = max (-1) (min 1 (placeZ a - placeZ b)) by unfold cmp1; split <;> (try split) <;> omega)
  generalize placeZ a = p at *
  generalize placeZ b = q at *
  obtain ⟨h3, h4⟩ := h1
  obtain ⟨h5, h6⟩ := h2
  clear ha hb
  go_enter Tryd.func79, Tryd.ntmps79
  go_wp2_with fail
  refine HA.out.mono ?_
  rintro e w' ⟨rfl, rfl⟩
  go_wp2_with fail
  refine HB.out.mono ?_
  rintro e w' ⟨rfl, rfl⟩
  go_wp2_with fail
  all_goals (go_ret; exact ⟨ret_i (by rw [Hc.out]; try omega), rfl⟩)
theorem cmpL_step {v w : List Int} {i : Nat} (h1 : i < v.length) (h2 : i < w.length) : cmpL (v.drop i) (w.drop i) = if cmp1 v[i] w[i] = 0 then cmpL (v.drop (i + 1)) (w.drop (i + 1)) else cmp1 v[i] w[i] := by
  rw [List.drop_eq_getElem_cons h1, List.drop_eq_getElem_cons h2, cmpL]
set_option maxRecDepth 100000 in
set_option maxHeartbeats 2000000 in
theorem compareFunc_any {w : World} {B n c cw : Nat} {A Aw : Option Addr} {v u : List Int} (hr : ReadsI w B A v) (hr' : ReadsI w B Aw u) (hn : n = v.length) (hn' : n = u.length) (hb : n ≤ 1000000000) (hv : LetL v) (hu : LetL u) :
    Calls Tryd.prog 81 #[.slice A n c, .slice Aw n cw, .func (.func 79) #[] #[]] w (fun e w' => e = .returned (.int .i64 (cmpL v u)) ∧ w = w') := by
  have Hn := Lib.hid hn
  have Hn' := Lib.hid hn'
  have Hr := Lib.hid (And.intro hr hr')
  have Hl := Lib.hid (And.intro hv hu)
  obtain ⟨R, hR⟩ : ∃ R, R = cmpL v u := ⟨_, rfl⟩
  have HR := Lib.hid hR
  rw [← hR]
  clear hr hr' hn hn' hv hu hR
  go_enter Tryd.func81, Tryd.ntmps81
  go_wp2_with fail
  go_loopg [13] n (fun k iv wr => ∃ i : Nat, iv = .int .i64 (i : Int) ∧ k = n - i ∧ i ≤ n ∧ w = wr ∧ Hid (cmpL (v.drop i) (u.drop i) = R))
  case atStart => exact ⟨0, rfl, by omega, by omega, rfl, Lib.hid (by rw [List.drop_zero, List.drop_zero]; exact HR.out.symm)⟩
  case round =>
    obtain ⟨i, rfl, hk, hi, rfl, ht⟩ := hrel
    have Hk := Lib.hid hk
    clear hk
    by_cases hin : i < n
    · have hil : i < v.length := by rw [← Hn.out]; exact hin
      have hjl : i < u.length := by rw [← Hn'.out]; exact hin
      obtain ⟨ad, rfl, hb1, c0⟩ := Hr.out.1.at_ hil
      obtain ⟨ad2, rfl, hb2, d0⟩ := Hr.out.2.at_ hjl
      have hx := Hl.out.1 v[i] (List.getElem_mem hil)
      have hy := Hl.out.2 u[i] (List.getElem_mem hjl)
      have hst := cmpL_step hil hjl
      rw [ht.out] at hst
      have Hst := Lib.hid hst
      have hii : (i : Int) < (n : Int) := by omega
      have HC := Lib.hid (cmp1_any (w := w) hx.2 hy.2)
      generalize v[i] = x at *
      generalize u[i] = y at *
      generalize cmp1 x y = z at *
      clear hb1 hb2 hil hjl hx hy hst
      by_cases hz : z = 0
      · have Hnx := Lib.hid (show cmpL (v.drop (i + 1)) (u.drop (i + 1)) = R by rw [Hst.out, if_pos hz])
        have hzb : (z != 0) = false := by rw [hz]; rfl
        clear hz
        go_wp2_with fail
        refine HC.out.mono ?_
        rintro e w' ⟨rfl, rfl⟩
        go_wp2_with fail
        go_roundg (n - (i + 1))
        case measure => have := Hk.out; omega
        case rel => exact ⟨i + 1, rfl, rfl, by omega, rfl, Hnx⟩
      · have Hnx := Lib.hid (show R = z by rw [Hst.out, if_neg hz])
        have hzb : (z != 0) = true := by simp; exact hz
        clear hz
        go_wp2_with fail
        refine HC.out.mono ?_
        rintro e w' ⟨rfl, rfl⟩
        go_wp2_with fail
        go_ret
        exact ⟨ret_i Hnx.out.symm, rfl⟩
    · have hii : (n : Int) ≤ (i : Int) := by omega
      have Hend := Lib.hid (show R = 0 by rw [← ht.out, List.drop_of_length_le (by have := Hn.out; omega)]; rfl)
      have hnn : ¬ (n : Int) < (n : Int) := by omega
      go_wp2_with fail
      go_ret
      exact ⟨ret_i Hend.out.symm, rfl⟩
/-- the order of words -/
def cmpW (v u : List Int) : Int := if v.length = u.length then cmpL v u else if v.length < u.length then -1 else 1
theorem chk_two' (a b : List Int) : chk [a, b] = if isWord a && isWord b then (if tooLong a || tooLong b then 3 else 0) else 2 := by
  unfold chk
  simp
/-- what a question on two words is answered -/
def AskOut (w : World) (v : Value) (z : Int) (e : Ending) (w' : World) : Prop := e = .returned (.tuple #[v, .int .i64 z]) ∧ Below w.heap.size w w'
set_option maxRecDepth 100000 in
set_option maxHeartbeats 2000000 in
theorem wcmp_out {w : World} {B na ca nb cb : Nat} {Aa Ab : Option Addr} {a b : List Int} (hra : ReadsI w B Aa a) (hrb : ReadsI w B Ab b) (hB : B ≤ w.heap.size) (hna : na = a.length) (hnb : nb = b.length) (hwa : Wf a) (hwb : Wf b) (hla : na ≤ 100000000) (hlb : nb ≤ 100000000) :
    Calls Tryd.prog 44 #[.slice Aa na ca, .slice Ab nb cb] w (AskOut w (.int .i64 (if chk [a, b] = 0 then cmpW a b else 0)) (chk [a, b])) := by
  have h2 := rows_lit w [(Aa, ca, a), (Ab, cb, b)] (B := B) (fun r hr => by
    simp only [List.mem_cons, List.mem_nil_iff, or_false] at hr
    rcases hr with rfl | rfl
    · exact hra
    · exact hrb) hB
  have hall : ∀ r ∈ [((Aa, ca, a) : SRow), (Ab, cb, b)], Wf r.2.2 ∧ r.2.2.length ≤ 1000000000000 := fun r hr => by
    simp only [List.mem_cons, List.mem_nil_iff, or_false] at hr
    rcases hr with rfl | rfl
    · exact ⟨hwa, by show a.length ≤ _; omega⟩
    · exact ⟨hwb, by show b.length ≤ _; omega⟩
  have HC := Lib.hid (show Calls Tryd.prog 57 #[.slice (some ⟨w.heap.size, 0, none⟩) 2 2] (w.alloc (.cells #[.slice Aa na ca, .slice Ab nb cb] 22)) (fun e w' => e = .returned (.int .i64 (chk [a, b])) ∧ w.alloc (.cells #[.slice Aa na ca, .slice Ab nb cb] 22) = w') by
    rw [hna, hnb]; exact check_any (c := 2) (n := 2) h2 rfl (by decide) hall)
  have HB0 := Lib.hid ((Below.refl w.heap.size w).alloc (Nat.le_refl _) (.cells #[.slice Aa na ca, .slice Ab nb cb] 22))
  clear h2 hall
  by_cases hz : chk [a, b] = 0
  · rw [if_pos hz]
    rw [hz] at HC ⊢
    have hlets := chk_words hz
    have HF := Lib.hid (fun (cw cu : Nat) (he : na = nb) => compareFunc_any (w := w.alloc (.cells #[.slice Aa na ca, .slice Ab nb cb] 22)) (c := cw) (cw := cu) (hra.alloc hB _) (hrb.alloc hB _) hna (by rw [he]; exact hnb) (by omega) (hlets a (by simp)).1 (hlets b (by simp)).1)
    have Hn := Lib.hid (And.intro hna hnb)
    clear hra hrb hB hna hnb hwa hwb hz hlets
    by_cases he : na = nb
    · have HFe := Lib.hid (HF.out ca cb he)
      have Hres := Lib.hid (show cmpW a b = cmpL a b by unfold cmpW; rw [if_pos (by have := Hn.out; omega)])
      have hbe : ((na : Int) != (nb : Int)) = false := by simp; omega
      clear HF
      subst he
      rw [Hres.out]
      generalize cmpL a b = z at *
      go_enter Tryd.func44, Tryd.ntmps44
      go_wp2_with fail
      refine HC.out.mono ?_
      rintro e w' ⟨rfl, rfl⟩
      go_wp2_with fail
      refine HFe.out.mono ?_
      rintro e w' ⟨rfl, rfl⟩
      go_wp2_with fail
      go_ret2
      exact ⟨rfl, HB0.out⟩
    · have Hres := Lib.hid (show cmpW a b = max (-1) (min 1 ((na : Int) - (nb : Int))) by unfold cmpW; rw [if_neg (by have := Hn.out; omega)]; split <;> (have := Hn.out; omega))
      have hbe : ((na : Int) != (nb : Int)) = true := by simp; omega
      clear HF
      generalize cmpW a b = z at *
      go_enter Tryd.func44, Tryd.ntmps44
      go_wp2_with fail
      refine HC.out.mono ?_
      rintro e w' ⟨rfl, rfl⟩
      go_wp2_with fail
      all_goals (
        go_ret2
        exact ⟨by rw [Hres.out]; first | rfl | (congr 4; omega), HB0.out⟩)
  · rw [if_neg hz]
    generalize chk [a, b] = z at *
    have hzb : (z != 0) = true := by simp; exact hz
    clear hra hrb hB hna hnb hwa hwb hz
    go_enter Tryd.func44, Tryd.ntmps44
    go_wp2_with fail
    refine HC.out.mono ?_
    rintro e w' ⟨rfl, rfl⟩
    go_wp2_with fail
    go_ret2
    exact ⟨rfl, HB0.out⟩
theorem rplace_q {w : World} {k : Int} (h0 : k ≠ 0) (h1 : -64 ≤ k) (h2 : k ≤ 64) (d : Nat) : ∀ q, Calls Tryd.prog 75 #[.int .i64 k] (w.drewN (d + q)) (fun e w' => e = .returned (.int .i64 (placeZ k)) ∧ ∃ m, w' = w.drewN (d + m)) := fun q =>
  (rplace_any h0 h1 h2).mono fun e w' ⟨he, hw⟩ => ⟨he, q, hw.symm⟩
set_option maxRecDepth 100000 in
set_option maxHeartbeats 4000000 in
theorem rcmp_any {w : World} {B na ca nb cb : Nat} {Aa Ab : Option Addr} {a b : List Int} (hra : ReadsI w B Aa a) (hrb : ReadsI w B Ab b) (hna : na = a.length) (hnb : nb = b.length) (hva : LetL a) (hvb : LetL b) (hla : na ≤ 100000000) (hlb : nb ≤ 100000000) :
    Calls Tryd.prog 48 #[.slice Aa na ca, .slice Ab nb cb] w (fun e w' => e = .returned (.int .i64 (cmpW a b)) ∧ Below w.heap.size w w') := by
  have Hn := Lib.hid hna
  have Hn' := Lib.hid hnb
  by_cases he : na = nb
  · have Hr := Lib.hid (And.intro hra hrb)
    have Hl := Lib.hid (And.intro hva hvb)
    have hcw : cmpW a b = cmpL a b := by unfold cmpW; rw [if_pos (by omega)]
    rw [hcw]
    obtain ⟨R, hR⟩ : ∃ R, R = cmpL a b := ⟨_, rfl⟩
    have HR := Lib.hid hR
    rw [← hR]
    have hbe : ((na : Int) != (nb : Int)) = false := by simp; omega
    clear hra hrb hna hnb hva hvb hR hcw
    subst he
    go_enter Tryd.func48, Tryd.ntmps48
    go_wp2_with fail
    go_loopg [5] na (fun k iv wr => ∃ (i d : Nat), iv = .int .i64 (i : Int) ∧ k = na - i ∧ i ≤ na ∧ Hid (w.drewN d = wr) ∧ Hid (cmpL (a.drop i) (b.drop i) = R))
    case atStart => exact ⟨0, 0, rfl, by omega, by omega, Lib.hid rfl, Lib.hid (by rw [List.drop_zero, List.drop_zero]; exact HR.out.symm)⟩
    case round =>
      obtain ⟨i, d, rfl, hk, hi, hwe, ht⟩ := hrel
      have Hk := Lib.hid hk
      have hwe := hwe.out
      subst hwe
      clear hk
      by_cases hin : i < na
      · have hil : i < a.length := by rw [← Hn.out]; exact hin
        have hjl : i < b.length := by rw [← Hn'.out]; exact hin
        obtain ⟨ad, rfl, hb1, c0⟩ := Hr.out.1.at_ hil
        obtain ⟨ad2, rfl, hb2, d0⟩ := Hr.out.2.at_ hjl
        have hx := Hl.out.1 a[i] (List.getElem_mem hil)
        have hy := Hl.out.2 b[i] (List.getElem_mem hjl)
        have hst := cmpL_step hil hjl
        rw [ht.out] at hst
        have Hst := Lib.hid hst
        have hii : (i : Int) < (na : Int) := by omega
        generalize a[i] = x at *
        generalize b[i] = y at *
        have HX := Lib.hid (fun d : Nat => rplace_q (w := w) hx.1 hx.2.1 hx.2.2 d)
        have HY := Lib.hid (fun d : Nat => rplace_q (w := w) hy.1 hy.2.1 hy.2.2 d)
        have Hc := Lib.hid (show cmp1 x y = if placeZ x < placeZ y then -1 else if placeZ y < placeZ x then 1 else 0 from rfl)
        generalize placeZ x = p at *
        generalize placeZ y = r at *
        generalize cmp1 x y = z at *
        clear hb1 hb2 hil hjl hx hy hst
        by_cases h1 : p < r
        · have Hres := Lib.hid (show R = -1 by rw [Hst.out, Hc.out, if_pos h1, if_neg (by decide)])
          have hd1 : decide (p < r) = true := by simpa using h1
          go_wp2_with (go_quiet ((go_at_call 75; (first | (with_reducible exact HX.out _ _) | (with_reducible exact HY.out _ _)))))
          go_ret
          exact ⟨ret_i Hres.out.symm, bdrew (Below.refl _ _) _⟩
        · have hd1 : decide (p < r) = false := by simpa using h1
          by_cases h2 : r < p
          · have Hres := Lib.hid (show R = 1 by rw [Hst.out, Hc.out, if_neg h1, if_pos h2, if_neg (by decide)])
            have hd2 : decide (r < p) = true := by simpa using h2
            go_wp2_with (go_quiet ((go_at_call 75; (first | (with_reducible exact HX.out _ _) | (with_reducible exact HY.out _ _)))))
            go_ret
            exact ⟨ret_i Hres.out.symm, bdrew (Below.refl _ _) _⟩
          · have Hnx := Lib.hid (show cmpL (a.drop (i + 1)) (b.drop (i + 1)) = R by rw [Hst.out, Hc.out, if_neg h1, if_neg h2, if_pos rfl])
            have hd2 : decide (r < p) = false := by simpa using h2
            go_wp2_with (go_quiet ((go_at_call 75; (first | (with_reducible exact HX.out _ _) | (with_reducible exact HY.out _ _)))))
            go_roundg (na - (i + 1))
            case measure => have := Hk.out; omega
            case rel => exact ⟨i + 1, _, rfl, rfl, by omega, Lib.hid rfl, Hnx⟩
      · have hii : (na : Int) ≤ (i : Int) := by omega
        have Hend := Lib.hid (show R = 0 by rw [← ht.out, List.drop_of_length_le (by have := Hn.out; omega)]; rfl)
        go_wp2_with fail
        go_ret
        exact ⟨ret_i Hend.out.symm, bdrew (Below.refl _ _) _⟩
  · have hbe : ((na : Int) != (nb : Int)) = true := by simp; omega
    by_cases hlt : na < nb
    · have Hres := Lib.hid (show cmpW a b = -1 by unfold cmpW; rw [if_neg (by omega), if_pos (by omega)])
      have hlti : (na : Int) < (nb : Int) := by omega
      clear hra hrb hna hnb hva hvb he hlt
      go_enter Tryd.func48, Tryd.ntmps48
      go_wp2_with fail
      go_ret
      exact ⟨ret_i Hres.out.symm, Below.refl _ _⟩
    · have Hres := Lib.hid (show cmpW a b = 1 by unfold cmpW; rw [if_neg (by omega), if_neg (by omega)])
      have hlti : (nb : Int) ≤ (na : Int) := by omega
      clear hra hrb hna hnb hva hvb he hlt
      go_enter Tryd.func48, Tryd.ntmps48
      go_wp2_with fail
      go_ret
      exact ⟨ret_i Hres.out.symm, Below.refl _ _⟩
end Go.Proofs.YtmjnhpagoboejaaDoor

/- ref.Next, with letter and filled. -/
namespace Go.Proofs.YtmjnhpagoboejaaDoor
open Go.RowKit
open Wd
set_option linter.unusedSimpArgs false
set_option linter.unusedVariables false

theorem rletr_any {w : World} {p : Nat} (hp : p < 1000) : Calls Tryd.prog 76 #[.int .i64 (p : Int)] w (fun e w' => e = .returned (.int .i64 (letr p)) ∧ w = w') := by
  obtain ⟨h, hh⟩ : ∃ h, h = p / 2 := ⟨_, rfl⟩
  have hq2 : Int.tdiv (p : Int) 2 = (h : Int) := by rw [hh]; rfl
  have hh2 : (h : Int) ≤ 500 := by omega
  by_cases hev : p % 2 = 0
  · have hm : Int.tmod (p : Int) 2 = 0 := by
      have : Int.tmod (p : Int) 2 = ((p % 2 : Nat) : Int) := rfl
      rw [this, hev]; rfl
    have hK : letr p = (h : Int) + 1 := by unfold letr; rw [if_pos hev, hh]; simp
    rw [hK]
    clear hK hev hh
    go_enter Tryd.func76, Tryd.ntmps76
    go_wp2_with fail
    go_ret
    exact ⟨rfl, rfl⟩
  · have hm : Int.tmod (p : Int) 2 = 1 := by
      have : Int.tmod (p : Int) 2 = ((p % 2 : Nat) : Int) := rfl
      rw [this, show p % 2 = 1 by omega]; rfl
    have hK : letr p = -((h : Int) + 1) := by unfold letr; rw [if_neg hev, hh]; simp
    rw [hK]
    clear hK hev hh
    go_enter Tryd.func76, Tryd.ntmps76
    go_wp2_with fail
    go_ret
    exact ⟨rfl, rfl⟩
theorem own_cell {w : World} {B g n c : Nat} {l : List Int} (h : OwnI w B (.slice (some ⟨g, 0, none⟩) n c) l) {j : Nat} (hj : j < l.length) : w.cell? ⟨g, j, none⟩ = some (.int .i64 l[j]) := by
  obtain ⟨ad, e, _, hc⟩ := h.reads.at_ hj
  injection e with e
  subst e
  rw [Addr.add_lit, Nat.zero_add] at hc
  exact hc
theorem own_set {w : World} {B g n c : Nat} {l : List Int} (h : OwnI w B (.slice (some ⟨g, 0, none⟩) n c) l) (i : Nat) (x : Int) (hi : i < l.length) :
    OwnI (w.setCell ⟨g, i, none⟩ (.int .i64 x)) B (.slice (some ⟨g, 0, none⟩) n c) (l.set i x) ∧ w.grownBy (w.setCell ⟨g, i, none⟩ (.int .i64 x)) (some g) ∧ w.frozen? ⟨g, i, none⟩ = false := by
  have h1 := h.set_ i x hi
  rw [Addr.add_lit, Nat.zero_add] at h1
  exact h1
/-- a row that is filled up to place i -/
def FillR (l : List Int) (fr : Nat) (i : Nat) (L : List Int) : Prop := L.length = l.length ∧ L.take i = l.take fr ++ fillT (i - fr) (lastJ (l.take fr))
theorem fill_step {l L : List Int} {fr i : Nat} (h : FillR l fr i L) (hi : i < l.length) (hfr : fr ≤ i) : FillR l fr (i + 1) (L.set i (if lastJ (L.take i) = -1 then -1 else 1)) := by
  refine ⟨by rw [List.length_set]; exact h.1, ?_⟩
  have hl : i < (L.set i (if lastJ (L.take i) = -1 then -1 else 1)).length := by rw [List.length_set, h.1]; exact hi
  rw [List.take_succ_eq_append_getElem hl, List.getElem_set_self, List.take_set_of_le (Nat.le_refl _), h.2, show i + 1 - fr = (i - fr) + 1 by omega, fillT_snoc, List.append_assoc]
  congr 3
  unfold lastJ
  rw [List.getLast?_append]
  cases (fillT (i - fr) ((l.take fr).getLast?.getD 0)).getLast? <;> rfl
set_option maxRecDepth 100000 in
set_option maxHeartbeats 2000000 in
theorem rfilled_any {w : World} {B g n c fr : Nat} {l : List Int} (ho : OwnI w B (.slice (some ⟨g, 0, none⟩) n c) l) (hfr : fr ≤ n) (hn : n ≤ 100000000) :
    Calls Tryd.prog 77 #[.slice (some ⟨g, 0, none⟩) n c, .int .i64 (fr : Int)] w (fun e w' => e = .returned (.slice (some ⟨g, 0, none⟩) n c) ∧ OwnI w' B (.slice (some ⟨g, 0, none⟩) n c) (l.take fr ++ fillT (n - fr) (lastJ (l.take fr))) ∧ w.grownBy w' (some g)) := by
  have hlen := ho.len.1
  have H0 := Lib.hid (show OwnI w B (.slice (some ⟨g, 0, none⟩) n c) l ∧ FillR l fr fr l ∧ w.grownBy w (some g) from ⟨ho, ⟨rfl, by rw [Nat.sub_self]; simp [fillT]⟩, ⟨rfl, rfl, rfl, Nat.le_refl _, fun _ _ _ => rfl⟩⟩)
  have Hl := Lib.hid hlen
  clear ho hlen
  go_enter Tryd.func77, Tryd.ntmps77
  go_wp2_with fail
  go_loopg [5] (n - fr) (fun r nv wr => ∃ (i : Nat) (L : List Int), nv = .int .i64 (i : Int) ∧ r = n - i ∧ fr ≤ i ∧ i ≤ n ∧ Hid (OwnI wr B (.slice (some ⟨g, 0, none⟩) n c) L ∧ FillR l fr i L ∧ w.grownBy wr (some g)))
  case atStart => exact ⟨fr, l, rfl, rfl, Nat.le_refl _, hfr, H0⟩
  case round =>
    obtain ⟨i, L, rfl, hr, hfi, hin, hR⟩ := hrel
    have Hr := Lib.hid hr
    clear hr
    by_cases hlt : i < n
    · have hii : (i : Int) < (n : Int) := by omega
      have hLl : i < L.length := by have := hR.out.1.len.1; omega
      have s1 := own_set hR.out.1 i 1 hLl
      have s2 := own_set s1.1 i (-1) (by rw [List.length_set]; exact hLl)
      have hfz := s1.2.2
      have hfz2 := s2.2.2
      have hc0 := own_cell hR.out.1 hLl
      have hc1 := own_cell s1.1 (j := i) (by rw [List.length_set]; exact hLl)
      have HS := Lib.hid (And.intro s1 s2)
      clear s1 s2
      rcases Nat.eq_zero_or_pos i with h0 | h0
      · have HN := Lib.hid (fill_step hR.out.2.1 (by have := Hl.out; omega) hfi)
        subst h0
        go_wp2_with fail
        go_roundg (n - 1)
        case measure => have := Hr.out; omega
        case rel => exact ⟨1, L.set 0 1, rfl, rfl, by omega, by omega, Lib.hid ⟨HS.out.1.1, by have h := HN.out; simp [lastJ] at h; exact h, hR.out.2.2.trans HS.out.1.2.1⟩⟩
      · obtain ⟨j, rfl⟩ : ∃ j, i = j + 1 := ⟨i - 1, by omega⟩
        have hjl : j < L.length := by omega
        have hcj := own_cell HS.out.1.1 (j := j) (by rw [List.length_set]; exact hjl)
        rw [List.getElem_set_ne (by omega)] at hcj
        have HN := Lib.hid (fill_step hR.out.2.1 (by have := Hl.out; omega) hfi)
        have HL := Lib.hid (lastJ_take hjl)
        obtain ⟨y, hy⟩ : ∃ y, y = L[j] := ⟨_, rfl⟩
        rw [← hy] at hcj HL
        clear hy
        have e1 : ((j + 1 : Nat) : Int) = (j : Int) + 1 := by omega
        have hii2 : (j : Int) + 1 < (n : Int) := by omega
        have hjn : (j : Int) < (n : Int) := by omega
        by_cases hy1 : y = -1
        · have hyb : (y == -1) = true := by rw [hy1]; rfl
          have HT := Lib.hid (show FillR l fr (j + 1 + 1) ((L.set (j + 1) 1).set (j + 1) (-1)) by
            have h := HN.out
            rw [HL.out, if_pos hy1] at h
            rw [List.set_set]
            exact h)
          have e2 : ((j + 1 + 1 : Nat) : Int) = (j : Int) + 1 + 1 := by omega
          have He := Lib.hid e2
          rw [e1]
          clear e1 hy1 hii HL HN e2
          go_wp2_with fail
          go_roundg (n - (j + 1 + 1))
          case measure => have := Hr.out; omega
          case rel => exact ⟨j + 1 + 1, _, by rw [He.out], rfl, by omega, by omega, Lib.hid ⟨HS.out.2.1, HT.out, (hR.out.2.2.trans HS.out.1.2.1).trans HS.out.2.2.1⟩⟩
        · have hyb : (y == -1) = false := by simpa using hy1
          have HT := Lib.hid (show FillR l fr (j + 1 + 1) (L.set (j + 1) 1) by
            have h := HN.out
            rw [HL.out, if_neg hy1] at h
            exact h)
          have e2 : ((j + 1 + 1 : Nat) : Int) = (j : Int) + 1 + 1 := by omega
          have He := Lib.hid e2
          rw [e1]
          clear e1 hy1 hii HL HN e2
          go_wp2_with fail
          go_roundg (n - (j + 1 + 1))
          case measure => have := Hr.out; omega
          case rel => exact ⟨j + 1 + 1, _, by rw [He.out], rfl, by omega, by omega, Lib.hid ⟨HS.out.1.1, HT.out, hR.out.2.2.trans HS.out.1.2.1⟩⟩
    · have hii : (n : Int) ≤ (i : Int) := by omega
      go_wp2_with fail
      go_ret
      obtain rfl : i = n := by omega
      have h := hR.out.2.1
      have hl := hR.out.1.len.1
      refine ⟨rfl, ?_, hR.out.2.2⟩
      rw [← h.2, List.take_of_length_le (by omega)]
      exact hR.out.1
theorem placeZ_plac {k : Int} (h : k ≠ 0) : placeZ k = (plac k : Int) := by
  unfold placeZ plac
  by_cases h1 : k < 0
  · rw [if_pos h1, if_neg (by omega)]; omega
  · rw [if_neg h1, if_pos (by omega)]; omega
theorem plac_lt {k : Int} {L : Nat} (h : k ≠ 0 ∧ -(L : Int) ≤ k ∧ k ≤ L) : plac k + 1 ≤ 2 * L := by
  unfold plac
  split <;> omega
/-- what Next hands back -/
def NextOut (w : World) (L M : Nat) (l : List Int) (e : Ending) (w' : World) : Prop :=
  Below w.heap.size w w' ∧ ((∃ y, nextW L M l = some y ∧ ∃ A n c, e = .returned (.tuple #[.slice A n c, .bool true]) ∧ OwnI w' w.heap.size (.slice A n c) y) ∨ (nextW L M l = none ∧ e = .returned (.tuple #[.slice none 0 0, .bool false])))
theorem next_found {L M : Nat} {l : List Int} {j : Nat} {K : Int} (hj : j < l.length) (h : nx L (lastJ (l.take j)) (l.drop j) = some (K :: fillT (l.length - (j + 1)) K)) :
    nextW L M l = some ((l.set j K).take (j + 1) ++ fillT (l.length - (j + 1)) (lastJ ((l.set j K).take (j + 1)))) := by
  have h1 := nx_lift j _ (by omega) h
  have hl : j < (l.set j K).length := by rw [List.length_set]; exact hj
  have e : (l.set j K).take (j + 1) = l.take j ++ [K] := by
    rw [List.take_succ_eq_append_getElem hl, List.getElem_set_self, List.take_set_of_le (Nat.le_refl _)]
  unfold nextW
  rw [h1, e, lastJ_snoc, List.append_assoc]
  rfl
theorem next_none {L M : Nat} {l : List Int} (h : nx L (lastJ (l.take 0)) (l.drop 0) = none) : nextW L M l = if M ≤ l.length then none else some (fillT (l.length + 1) 0) := by
  unfold nextW
  have : nx L 0 l = none := h
  rw [this]
theorem own_form {w : World} {B n c : Nat} {A : Option Addr} {l : List Int} (h : OwnI w B (.slice A n c) l) (hn : 1 ≤ l.length) : ∃ g, A = some ⟨g, 0, none⟩ ∧ B ≤ g ∧ g < w.heap.size := by
  have hl := h.len.1
  have hf : w.ownsRow B 3 1 (.slice A n c) n (l.map iv) := by rw [hl]; rw [hl] at h; exact h
  obtain ⟨g, cap, hv, hg1, hg2⟩ := hf.form (by omega)
  injection hv with e1 _ _
  exact ⟨g, e1, hg1, hg2⟩
set_option maxRecDepth 100000 in
set_option maxHeartbeats 4000000 in
theorem rnext_some {w : World} {B n c L M : Nat} {A : Option Addr} {l : List Int} (hr : ReadsI w B A l) (hB : B ≤ w.heap.size) (hn : n = l.length) (h1 : 1 ≤ n) (hn4 : n ≤ 5000) (hL1 : 1 ≤ L) (hL2 : L ≤ 64) (hM : M ≤ 4096) (hg : GoodL L l) :
    Calls Tryd.prog 41 #[.slice A n c, .int .i64 (L : Int), .int .i64 (M : Int)] w (NextOut w L M l) := by
  have Hr := Lib.hid hr
  have Hn := Lib.hid hn
  have Hg := Lib.hid hg
  clear hr hn hg
  go_enter Tryd.func41, Tryd.ntmps41
  go_wp2_with ((refine wpI_append rfl (.const (.slice none 0 0)) (.tmp 12) rfl w.heap.size _ [] l (OwnI.nil _ _) rfl rfl Hn.out Hr.out (by simp) (by have := Hn.out; omega) (Nat.le_refl _) ?_; intro A2 n2 c2 w2 ho2 hn2 hc2 hg2 hw2 hb2; rw [List.nil_append] at ho2; obtain rfl : n2 = n := (by rw [hn2, Hn.out]; simp); have Ho2 := Lib.hid (And.intro ho2 (hb2 _ (Below.refl _ _))); clear ho2 hn2 hc2 hg2 hw2 hb2))
  obtain ⟨g, hA2, hgB⟩ := own_form Ho2.out.1 (by have := Hn.out; omega)
  subst hA2
  have Hl := Lib.hid (Ho2.out.1.len.1)
  go_loopg [9] n2 (fun r iv wr => ∃ (k : Nat) (z : Int), iv = .int .i64 z ∧ r = k ∧ k ≤ n2 ∧ Hid (z = (k : Int) - 1) ∧ Hid (nx L (lastJ (l.take k)) (l.drop k) = none) ∧ Hid (w2 = wr))
  case atStart => exact ⟨n2, (n2 : Int) - 1, rfl, rfl, Nat.le_refl _, Lib.hid rfl, Lib.hid (by rw [List.drop_of_length_le (by have := Hl.out; omega)]; rfl), Lib.hid rfl⟩
  case round =>
    obtain ⟨k, z, rfl, hr, hk, hz, hnx, hw⟩ := hrel
    have Hr2 := Lib.hid hr
    clear hr
    have ew := hw.out
    subst ew
    rcases Nat.eq_zero_or_pos k with hk0 | hk0
    · have hz0 : z < 0 := by have := hz.out; omega
      subst hk0
      have Hx := Lib.hid (next_none (M := M) hnx.out)
      by_cases hMn : M ≤ n2
      · have hMi : (M : Int) ≤ (n2 : Int) := by omega
        go_wp2_with fail
        go_ret2
        refine ⟨Ho2.out.2, .inr ⟨?_, rfl⟩⟩
        rw [Hx.out, if_pos (by have := Hl.out; omega)]
      · have hMi : (n2 : Int) < (M : Int) := by omega
        go_wp2_with ((refine wpI_append rfl (.tmp 59) (.tmp 60) rfl w.heap.size _ l [0] (Ho2.out.1.alloc _) rfl rfl rfl (reads_single _ 0) (by have := Hn.out; omega) (by simp) (by have := Ho2.out.2.size; simp; omega) ?_; intro A3 n3 c3 w3 ho3 hn3 hc3 hg3 hw3 hb3; have Ho3 := Lib.hid (And.intro ho3 (And.intro hn3 (hb3 _ (Ho2.out.2.alloc (Ho2.out.2.size) _)))); clear ho3 hn3 hc3 hg3 hw3 hb3))
        obtain ⟨g3, hA3, hg3B⟩ := own_form Ho3.out.1 (by simp)
        subst hA3
        have HF := Lib.hid (rfilled_any (fr := 0) Ho3.out.1 (Nat.zero_le _) (by have := Ho3.out.2.1; have := Hl.out; simp at *; omega))
        go_wp2_with fail
        refine HF.out.mono ?_
        rintro e w4 ⟨rfl, ho4, hg4⟩
        have Ho4 := Lib.hid (And.intro ho4 hg4)
        clear ho4 hg4
        go_wp2_with fail
        go_ret2
        refine ⟨Ho3.out.2.2.grown Ho4.out.2 Ho3.out.2.2.size (fun k e => by injection e with e; omega), .inl ⟨_, by rw [Hx.out, if_neg (by have := Hl.out; omega)], _, _, _, rfl, ?_⟩⟩
        have h := Ho4.out.1
        have hn3 := Ho3.out.2.1
        rw [List.take_zero, List.nil_append, Nat.sub_zero, show n3 = l.length + 1 from hn3] at h
        rw [show n3 = l.length + 1 from hn3]
        exact h
    · obtain ⟨j, rfl⟩ : ∃ j, k = j + 1 := ⟨k - 1, by omega⟩
      obtain rfl : z = (j : Int) := by have := hz.out; omega
      have hjl : j < l.length := by have := Hl.out; omega
      have hjn : (j : Int) < (n2 : Int) := by omega
      have hcj := own_cell Ho2.out.1 hjl
      have Hs := Lib.hid (nx_step hjl hnx.out)
      have Hgx := Lib.hid (Hg.out l[j] (List.getElem_mem hjl))
      obtain ⟨x, hx⟩ : ∃ x, x = l[j] := ⟨_, rfl⟩
      rw [← hx] at hcj Hs Hgx
      have Hx := Lib.hid hx
      clear hx
      obtain ⟨p0, hp0⟩ : ∃ p0, p0 = plac x := ⟨_, rfl⟩
      have HP := Lib.hid (rplace_any (w := w2) (k := x) Hgx.out.1 (by have := Hgx.out; omega) (by have := Hgx.out; omega))
      rw [placeZ_plac Hgx.out.1, ← hp0] at HP
      rw [← hp0] at Hs
      have hp1 : p0 + 1 ≤ 2 * L := by rw [hp0]; exact plac_lt Hgx.out
      clear hp0
      go_wp2_with fail
      refine HP.out.mono ?_
      rintro e w' ⟨rfl, rfl⟩
      go_wp2_with fail
      go_loopg [10] (2 * L - (p0 + 1)) (fun r pv wr => ∃ p : Nat, pv = .int .i64 (p : Int) ∧ r = 2 * L - p ∧ p ≤ 2 * L ∧ Hid (nx L (lastJ (l.take j)) (l.drop j) = (upL L (lastJ (l.take j)) p).map (fun k' => k' :: fillT (l.length - (j + 1)) k')) ∧ Hid (w2 = wr))
      case atStart => exact ⟨p0 + 1, by rfl, by omega, hp1, Hs, Lib.hid rfl⟩
      case round =>
        obtain ⟨p, rfl, hr3, hp, hup, hw3⟩ := hrel
        have Hr3 := Lib.hid hr3
        clear hr3
        have ew3 := hw3.out
        subst ew3
        by_cases hpl : p < 2 * L
        · have hpi : (p : Int) < 2 * (L : Int) := by omega
          have HLt := Lib.hid (rletr_any (w := w2) (p := p) (by omega))
          obtain ⟨K, hK⟩ : ∃ K, K = letr p := ⟨_, rfl⟩
          have hKb := letr_le hpl
          rw [← hK] at HLt hKb
          have HK := Lib.hid hK
          have hK1 : -64 ≤ K := by omega
          have hK2 : K ≤ 64 := by omega
          clear hK hKb
          rcases Nat.eq_zero_or_pos j with hj0 | hj0
          · subst hj0
            have HU := Lib.hid (show nx L (lastJ (l.take 0)) (l.drop 0) = some (K :: fillT (l.length - (0 + 1)) K) by
              rw [hup.out, upL_take hpl (by rw [← HK.out]; simp [lastJ]; have := letr_le hpl; have := HK.out; omega), ← HK.out]; rfl)
            have s1 := own_set Ho2.out.1 0 K (by have := Hl.out; omega)
            have hfz := s1.2.2
            have hcj2 := own_cell Ho2.out.1 (j := 0) (by have := Hl.out; omega)
            have HS := Lib.hid (And.intro s1.1 s1.2.1)
            have hF := rfilled_any (fr := 0 + 1) s1.1 (by omega) (by omega)
            have e1 : ((0 + 1 : Nat) : Int) = 1 := by omega
            rw [e1] at hF
            have HF := Lib.hid hF
            clear s1 hF e1

            go_wp2_with fail
            refine HLt.out.mono ?_
            rintro e w' ⟨rfl, rfl⟩
            go_wp2_with fail
            refine HF.out.mono ?_
            rintro e w4 ⟨rfl, ho4, hg4⟩
            have Ho4 := Lib.hid (And.intro ho4 hg4)
            clear ho4 hg4
            go_wp2_with fail
            go_ret2
            refine ⟨(Ho2.out.2.grown HS.out.2 Ho2.out.2.size (fun k e => by injection e with e; omega)).grown Ho4.out.2 (Nat.le_trans Ho2.out.2.size HS.out.2.size) (fun k e => by injection e with e; omega), .inl ⟨_, next_found (L := L) (M := M) (j := 0) (K := K) (by have := Hl.out; omega) HU.out, _, _, _, rfl, ?_⟩⟩
            have h := Ho4.out.1
            rw [← Hl.out]
            exact h
          · obtain ⟨i, rfl⟩ : ∃ i, j = i + 1 := ⟨j - 1, by omega⟩
            have hil : i < l.length := by omega
            have hci := own_cell Ho2.out.1 hil
            have hlj := lastJ_take hil
            obtain ⟨y, hy⟩ : ∃ y, y = l[i] := ⟨_, rfl⟩
            rw [← hy] at hci hlj
            have Hlj := Lib.hid hlj
            clear hlj hy
            have hin : (i : Int) < (n2 : Int) := by omega
            have ecast : ((i + 1 : Nat) : Int) = (i : Int) + 1 := by omega
            have hjn2 : (i : Int) + 1 < (n2 : Int) := by omega
            by_cases hyk : y = -K
            · have hyb : (y == -K) = true := by simpa using hyk
              have Hup := Lib.hid (show nx L (lastJ (l.take (i + 1))) (l.drop (i + 1)) = (upL L (lastJ (l.take (i + 1))) (p + 1)).map (fun k' => k' :: fillT (l.length - (i + 1 + 1)) k') by
                rw [hup.out, upL_skip hpl (by rw [Hlj.out, ← HK.out]; exact hyk)])
              rw [ecast]
              clear ecast hyk hjn
              go_wp2_with fail
              refine HLt.out.mono ?_
              rintro e w' ⟨rfl, rfl⟩
              go_wp2_with fail
              go_roundg (2 * L - (p + 1))
              case measure => have := Hr3.out; omega
              case rel => exact ⟨p + 1, by rfl, rfl, by omega, Hup, Lib.hid rfl⟩
            · have hyb : (y == -K) = false := by simpa using hyk
              have HU := Lib.hid (show nx L (lastJ (l.take (i + 1))) (l.drop (i + 1)) = some (K :: fillT (l.length - (i + 1 + 1)) K) by
                rw [hup.out, upL_take hpl (by rw [Hlj.out, ← HK.out]; exact hyk), ← HK.out]; rfl)
              rw [ecast]
              clear ecast hyk hjn
              have s1 := own_set Ho2.out.1 (i + 1) K (by have := Hl.out; omega)
              have hfz := s1.2.2
              have hcj2 := own_cell Ho2.out.1 (j := (i + 1)) (by have := Hl.out; omega)
              have HS := Lib.hid (And.intro s1.1 s1.2.1)
              have hF := rfilled_any (fr := (i + 1) + 1) s1.1 (by omega) (by omega)
              have e1 : (((i + 1) + 1 : Nat) : Int) = (i : Int) + 1 + 1 := by omega
              rw [e1] at hF
              have HF := Lib.hid hF
              clear s1 hF e1

              go_wp2_with fail
              refine HLt.out.mono ?_
              rintro e w' ⟨rfl, rfl⟩
              go_wp2_with fail
              refine HF.out.mono ?_
              rintro e w4 ⟨rfl, ho4, hg4⟩
              have Ho4 := Lib.hid (And.intro ho4 hg4)
              clear ho4 hg4
              go_wp2_with fail
              go_ret2
              refine ⟨(Ho2.out.2.grown HS.out.2 Ho2.out.2.size (fun k e => by injection e with e; omega)).grown Ho4.out.2 (Nat.le_trans Ho2.out.2.size HS.out.2.size) (fun k e => by injection e with e; omega), .inl ⟨_, next_found (L := L) (M := M) (j := (i + 1)) (K := K) (by have := Hl.out; omega) HU.out, _, _, _, rfl, ?_⟩⟩
              have h := Ho4.out.1
              rw [← Hl.out]
              exact h
        · have hpi : 2 * (L : Int) ≤ (p : Int) := by omega
          have Hnx := Lib.hid (show nx L (lastJ (l.take j)) (l.drop j) = none by rw [hup.out, upL_end (by omega)]; rfl)
          go_wp2_with fail
          go_roundg j
          case measure => have := Hr2.out; omega
          case rel => exact ⟨j, (j : Int) - 1, rfl, rfl, by omega, Lib.hid rfl, Hnx, Lib.hid rfl⟩
set_option maxRecDepth 100000 in
set_option maxHeartbeats 4000000 in
theorem rnext_nil {w : World} {c L M : Nat} {A : Option Addr} (hL1 : 1 ≤ L) (hL2 : L ≤ 64) (hM : M ≤ 4096) :
    Calls Tryd.prog 41 #[.slice A 0 c, .int .i64 (L : Int), .int .i64 (M : Int)] w (NextOut w L M []) := by
  have Hx := Lib.hid (next_none (L := L) (M := M) (l := []) rfl)
  go_enter Tryd.func41, Tryd.ntmps41
  go_wp2_with ((refine wpI_append rfl (.const (.slice none 0 0)) (.tmp 12) rfl w.heap.size _ [] [] (OwnI.nil _ _) rfl rfl rfl (ReadsI.none_ w w.heap.size A) (by simp) (by simp) (Nat.le_refl _) ?_; intro A2 n2 c2 w2 ho2 hn2 hc2 hg2 hw2 hb2; rw [List.nil_append] at ho2; obtain rfl : n2 = 0 := (by rw [hn2]; rfl); have Ho2 := Lib.hid (And.intro ho2 (hb2 _ (Below.refl _ _))); clear ho2 hn2 hc2 hg2 hw2 hb2))
  go_loopg [9] 0 (fun r iv wr => iv = .int .i64 (-1) ∧ Hid (w2 = wr))
  case atStart => exact ⟨rfl, Lib.hid rfl⟩
  case round =>
    obtain ⟨rfl, hw⟩ := hrel
    have ew := hw.out
    subst ew
    by_cases hMn : M ≤ 0
    · have hMi : (M : Int) ≤ 0 := by omega
      go_wp2_with fail
      go_ret2
      refine ⟨Ho2.out.2, .inr ⟨?_, rfl⟩⟩
      simp [nextW, nx]
    · have hMi : (0 : Int) < (M : Int) := by omega
      go_wp2_with ((refine wpI_append rfl (.tmp 59) (.tmp 60) rfl w.heap.size _ [] [0] (Ho2.out.1.alloc _) rfl rfl rfl (reads_single _ 0) (by simp) (by simp) (by have := Ho2.out.2.size; simp; omega) ?_; intro A3 n3 c3 w3 ho3 hn3 hc3 hg3 hw3 hb3; have Ho3 := Lib.hid (And.intro ho3 (And.intro hn3 (hb3 _ (Ho2.out.2.alloc (Ho2.out.2.size) _)))); clear ho3 hn3 hc3 hg3 hw3 hb3))
      obtain ⟨g3, hA3, hg3B⟩ := own_form Ho3.out.1 (by simp)
      subst hA3
      have HF := Lib.hid (rfilled_any (fr := 0) Ho3.out.1 (Nat.zero_le _) (by have := Ho3.out.2.1; simp at *; omega))
      go_wp2_with fail
      refine HF.out.mono ?_
      rintro e w4 ⟨rfl, ho4, hg4⟩
      have Ho4 := Lib.hid (And.intro ho4 hg4)
      clear ho4 hg4
      go_wp2_with fail
      go_ret2
      refine ⟨Ho3.out.2.2.grown Ho4.out.2 Ho3.out.2.2.size (fun k e => by injection e with e; omega), .inl ⟨_, by rw [Hx.out, if_neg (by simp; omega)], _, _, _, rfl, ?_⟩⟩
      have h := Ho4.out.1
      have hn3 := Ho3.out.2.1
      rw [List.take_zero, List.nil_append, Nat.sub_zero, show n3 = ([] : List Int).length + 1 from hn3] at h
      rw [show n3 = ([] : List Int).length + 1 from hn3]
      exact h
theorem rnext_any {w : World} {B n c L M : Nat} {A : Option Addr} {l : List Int} (hr : ReadsI w B A l) (hB : B ≤ w.heap.size) (hn : n = l.length) (hn4 : n ≤ 5000) (hL1 : 1 ≤ L) (hL2 : L ≤ 64) (hM : M ≤ 4096) (hg : GoodL L l) :
    Calls Tryd.prog 41 #[.slice A n c, .int .i64 (L : Int), .int .i64 (M : Int)] w (NextOut w L M l) := by
  rcases Nat.eq_zero_or_pos n with h0 | h0
  · subst h0
    obtain rfl : l = [] := List.eq_nil_of_length_eq_zero hn.symm
    exact rnext_nil hL1 hL2 hM
  · exact rnext_some hr hB hn h0 hn4 hL1 hL2 hM hg
end Go.Proofs.YtmjnhpagoboejaaDoor

/- law.WordsAll: what is refused. -/
namespace Go.Proofs.YtmjnhpagoboejaaDoor
open Go.RowKit Go.Shelf
open Wd
set_option linter.unusedSimpArgs false
set_option linter.unusedVariables false
attribute [local go_sem] Oper.semAt_some

theorem eql_func (f : Fn) (ts l : Array Value) (w : World) : (binOp .eql 63 (.func f ts l) .nilFunc).run Tryd.prog w = .ok (.bool false) w := by
  simp [binOp, run_equal_func w Tryd.underlying63 f ts l]
theorem eql_nilFunc (w : World) : (binOp .eql 63 .nilFunc .nilFunc).run Tryd.prog w = .ok (.bool true) w := by
  kernel_rfl
theorem countI_bad {n x : Int} (h : n < 1 ∨ 64 < n ∨ x < 0) : countI n x = (0, 2) := by unfold countI; rw [if_pos h]
theorem countN_ne (f : Nat) : ∀ k c, (countN f k c).2 = 0 ∨ (countN f k c).2 = 4
  | 0, c => .inl rfl
  | k + 1, c => by
    rw [countN]
    split
    · exact .inr rfl
    · exact countN_ne f k _
theorem countI_good {n x : Int} (h : ¬ (n < 1 ∨ 64 < n ∨ x < 0)) : (countI n x).2 = 0 ∨ (countI n x).2 = 4 := by
  unfold countI
  rw [if_neg h]
  split
  · exact .inl rfl
  · split
    · exact .inl rfl
    · exact countN_ne _ _ _
theorem env_boxes (w : World) (x m lv : Int) : let W0 := (((w.alloc (.cells #[.int .i64 x] 3)).alloc (.cells #[.int .i64 m] 3)).alloc (.cells #[.int .i64 lv] 3)).alloc (.cells #[.bool false] 4)
    Below w.heap.size w W0 ∧ W0.heap.size = w.heap.size + 4 ∧ Blk W0 w.heap.size 3 #[.int .i64 x] ∧ Blk W0 (w.heap.size + 1) 3 #[.int .i64 m] ∧ Blk W0 (w.heap.size + 1 + 1) 3 #[.int .i64 lv] ∧ Blk W0 (w.heap.size + 1 + 1 + 1) 4 #[.bool false] := by
  have b1 := Blk.new (w.alloc (.cells #[.int .i64 x] 3)) 3 #[.int .i64 m]
  have b2 := Blk.new ((w.alloc (.cells #[.int .i64 x] 3)).alloc (.cells #[.int .i64 m] 3)) 3 #[.int .i64 lv]
  have b3 := Blk.new (((w.alloc (.cells #[.int .i64 x] 3)).alloc (.cells #[.int .i64 m] 3)).alloc (.cells #[.int .i64 lv] 3)) 4 #[.bool false]
  simp only [World.size_alloc] at b1 b2 b3
  exact ⟨((((Below.refl _ w).alloc (Nat.le_refl _) _).alloc (by simp) _).alloc (by simp; omega) _).alloc (by simp; omega) _, by simp, (((Blk.new w 3 _).alloc _).alloc _).alloc _, (b1.alloc _).alloc _, b2.alloc _, b3⟩
set_option maxRecDepth 100000 in
set_option maxHeartbeats 4000000 in
theorem all_bad_law {w : World} {B : Nat} {x m lv : Int} (ht : TabX B w) (hx1 : -9223372036854775808 ≤ x) (hx2 : x ≤ 9223372036854775807) (hm1 : -9223372036854775808 ≤ m) (hm2 : m ≤ 9223372036854775807) (hb : x < 1 ∨ 64 < x ∨ m < 0) :
    Calls Tryd.prog 7 #[.int .i64 x, .int .i64 m, .int .i64 lv] w (fun e w' => e = .returned (.bool true) ∧ Below w.heap.size w w') := by
  have HT := Lib.hid ht
  have HC := Lib.hid (fun W : World => And.intro (count_any (w := W) hx1 hx2 hm1 hm2) (rcount_any (w := W) hx1 hx2 hm1 hm2))
  rw [countI_bad hb] at HC
  have HA := Lib.hid (fun W : World => all_bad (w := W) hb)
  have hnn := eql_nilFunc
  clear ht hx1 hx2 hm1 hm2 hb
  obtain ⟨W0, hW0⟩ : ∃ W0, W0 = (((w.alloc (.cells #[.int .i64 x] 3)).alloc (.cells #[.int .i64 m] 3)).alloc (.cells #[.int .i64 lv] 3)).alloc (.cells #[.bool false] 4) := ⟨_, rfl⟩
  have H0 := Lib.hid (show Below w.heap.size w W0 ∧ W0.heap.size = w.heap.size + 4 ∧ Blk W0 w.heap.size 3 #[.int .i64 x] ∧ Blk W0 (w.heap.size + 1) 3 #[.int .i64 m] ∧ Blk W0 (w.heap.size + 1 + 1) 3 #[.int .i64 lv] ∧ Blk W0 (w.heap.size + 1 + 1 + 1) 4 #[.bool false] by
    rw [hW0]; exact env_boxes w x m lv)
  go_enter Tryd.func7, Tryd.ntmps7
  go_wp2_with fail
  rw [← hW0]
  clear hW0
  refine (HC.out W0).1.mono ?_
  rintro e w' ⟨rfl, rfl⟩
  have c0 := H0.out.2.2.1.cell 0
  have c1 := H0.out.2.2.2.1.cell 0
  have c3 := H0.out.2.2.2.2.2.cell 0
  have f3 := H0.out.2.2.2.2.2.frozen 0
  rw [show (#[Value.int .i64 x] : Array Value)[0]? = some (.int .i64 x) from rfl] at c0
  rw [show (#[Value.int .i64 m] : Array Value)[0]? = some (.int .i64 m) from rfl] at c1
  rw [show (#[Value.bool false] : Array Value)[0]? = some (.bool false) from rfl] at c3
  go_wp2_with fail
  refine (HC.out W0).2.mono ?_
  rintro e w' ⟨rfl, rfl⟩
  go_wp2_with (first | (go_at_call 20; refine num_any.mono ?_; rintro e w' ⟨rfl, rfl⟩) | (go_at_call 40; refine (HA.out _).mono ?_; rintro e w5 ⟨rfl, hb5⟩))
  have Hb5 := Lib.hid hb5
  clear hb5
  have hB5 := Lib.hid (show Below w.heap.size w w5 from H0.out.1.trans (Hb5.out.mono H0.out.1.size))
  refine (known_any (HT.out.next hB5.out).1 (HT.out.next hB5.out).2).mono ?_
  rintro e w6 ⟨rfl, hb6⟩
  have HR := Lib.hid (show Blk w6 (w.heap.size + 1 + 1 + 1) 4 #[.bool false] ∧ Below w.heap.size w w6 by
    have hs := H0.out.2.1
    have hs5 := Hb5.out.size
    exact ⟨(H0.out.2.2.2.2.2.below Hb5.out (by omega)).below hb6 (by omega), hB5.out.trans (hb6.mono (by omega))⟩)
  clear hb6 c0 c1 c3 f3
  have c3 := HR.out.1.cell 0
  have f3 := HR.out.1.frozen 0
  rw [show (#[Value.bool false] : Array Value)[0]? = some (.bool false) from rfl] at c3
  go_wp2_with fail
  have c4 : (w6.setCell ⟨w.heap.size + 1 + 1 + 1, 0, none⟩ (.bool true)).cell? ⟨w.heap.size + 1 + 1 + 1, 0, none⟩ = some (.bool true) := (HR.out.1.set_ 0 (.bool true)).cell 0
  have hend : Below w.heap.size w (w6.setCell ⟨w.heap.size + 1 + 1 + 1, 0, none⟩ (.bool true)) := HR.out.2.setCell (by show w.heap.size ≤ w.heap.size + 1 + 1 + 1; omega) _
  exact bodyPost_ret (v := .bool true) (by simp [results, Tryd.results7, go_sem, c4]) rfl ⟨rfl, hend⟩
set_option maxRecDepth 100000 in
set_option maxHeartbeats 4000000 in
theorem all_long_law {w : World} {B : Nat} {x m lv : Int} (ht : TabX B w) (hx1 : -9223372036854775808 ≤ x) (hx2 : x ≤ 9223372036854775807) (hm1 : -9223372036854775808 ≤ m) (hm2 : m ≤ 9223372036854775807) (hb1 : 1 ≤ x) (hb2 : x ≤ 64) (hb : 4096 < m) :
    Calls Tryd.prog 7 #[.int .i64 x, .int .i64 m, .int .i64 lv] w (fun e w' => e = .returned (.bool true) ∧ Below w.heap.size w w') := by
  have HT := Lib.hid ht
  have HC := Lib.hid (fun W : World => And.intro (count_any (w := W) hx1 hx2 hm1 hm2) (rcount_any (w := W) hx1 hx2 hm1 hm2))
  obtain ⟨c, hc⟩ : ∃ c, countI x m = c := ⟨_, rfl⟩
  have hg := countI_good (n := x) (x := m) (by omega)
  rw [hc] at HC hg
  obtain ⟨c1, c2⟩ := c
  have hz : (c2 == 2) = false := by
    rcases hg with h | h
    · rw [show c2 = 0 from h]; rfl
    · rw [show c2 = 4 from h]; rfl
  clear hc hg
  have HA := Lib.hid (fun W : World => all_long (w := W) hb1 hb2 hb)
  have hnn := eql_nilFunc
  clear ht hx1 hx2 hm2 hb2 hb1
  obtain ⟨W0, hW0⟩ : ∃ W0, W0 = (((w.alloc (.cells #[.int .i64 x] 3)).alloc (.cells #[.int .i64 m] 3)).alloc (.cells #[.int .i64 lv] 3)).alloc (.cells #[.bool false] 4) := ⟨_, rfl⟩
  have H0 := Lib.hid (show Below w.heap.size w W0 ∧ W0.heap.size = w.heap.size + 4 ∧ Blk W0 w.heap.size 3 #[.int .i64 x] ∧ Blk W0 (w.heap.size + 1) 3 #[.int .i64 m] ∧ Blk W0 (w.heap.size + 1 + 1) 3 #[.int .i64 lv] ∧ Blk W0 (w.heap.size + 1 + 1 + 1) 4 #[.bool false] by
    rw [hW0]; exact env_boxes w x m lv)
  go_enter Tryd.func7, Tryd.ntmps7
  go_wp2_with fail
  rw [← hW0]
  clear hW0
  refine (HC.out W0).1.mono ?_
  rintro e w' ⟨rfl, rfl⟩
  have c0 := H0.out.2.2.1.cell 0
  have c1 := H0.out.2.2.2.1.cell 0
  have c3 := H0.out.2.2.2.2.2.cell 0
  have f3 := H0.out.2.2.2.2.2.frozen 0
  rw [show (#[Value.int .i64 x] : Array Value)[0]? = some (.int .i64 x) from rfl] at c0
  rw [show (#[Value.int .i64 m] : Array Value)[0]? = some (.int .i64 m) from rfl] at c1
  rw [show (#[Value.bool false] : Array Value)[0]? = some (.bool false) from rfl] at c3
  go_wp2_with fail
  refine (HC.out W0).2.mono ?_
  rintro e w' ⟨rfl, rfl⟩
  go_wp2_with (go_at_call 20; refine num_any.mono ?_; rintro e w' ⟨rfl, rfl⟩)
  refine (HA.out _).mono ?_
  rintro e w5 ⟨rfl, hb5⟩
  have c15 := (H0.out.2.2.2.1.below hb5 (by have := H0.out.2.1; omega)).cell 0
  rw [show (#[Value.int .i64 m] : Array Value)[0]? = some (.int .i64 m) from rfl] at c15
  have Hb5 := Lib.hid hb5
  clear hb5
  go_wp2_with (go_at_call 20; refine num_any.mono ?_; rintro e w' ⟨rfl, rfl⟩)
  have hB5 := Lib.hid (show Below w.heap.size w w5 from H0.out.1.trans (Hb5.out.mono H0.out.1.size))
  refine (known_any (HT.out.next hB5.out).1 (HT.out.next hB5.out).2).mono ?_
  rintro e w6 ⟨rfl, hb6⟩
  have HR := Lib.hid (show Blk w6 (w.heap.size + 1 + 1 + 1) 4 #[.bool false] ∧ Below w.heap.size w w6 by
    have hs := H0.out.2.1
    have hs5 := Hb5.out.size
    exact ⟨(H0.out.2.2.2.2.2.below Hb5.out (by omega)).below hb6 (by omega), hB5.out.trans (hb6.mono (by omega))⟩)
  clear hb6 c0 c1 c3 f3
  have c3 := HR.out.1.cell 0
  have f3 := HR.out.1.frozen 0
  rw [show (#[Value.bool false] : Array Value)[0]? = some (.bool false) from rfl] at c3
  go_wp2_with fail
  have c4 : (w6.setCell ⟨w.heap.size + 1 + 1 + 1, 0, none⟩ (.bool true)).cell? ⟨w.heap.size + 1 + 1 + 1, 0, none⟩ = some (.bool true) := (HR.out.1.set_ 0 (.bool true)).cell 0
  have hend : Below w.heap.size w (w6.setCell ⟨w.heap.size + 1 + 1 + 1, 0, none⟩ (.bool true)) := HR.out.2.setCell (by show w.heap.size ≤ w.heap.size + 1 + 1 + 1; omega) _
  exact bodyPost_ret (v := .bool true) (by simp [results, Tryd.results7, go_sem, c4]) rfl ⟨rfl, hend⟩
end Go.Proofs.YtmjnhpagoboejaaDoor

/- law.WordsAll: what stays between two rounds. -/
namespace Go.Proofs.YtmjnhpagoboejaaDoor
open Go.RowKit Go.Shelf
open Wd
set_option linter.unusedSimpArgs false
set_option linter.unusedVariables false

def mkD (D : Nat) : Deferred := { target := .collected D, args := #[] }
theorem leaves_marks {F : Fence} {n : Nat} {P : Program} {fn : Func} {tmps : Array Value} {R : Ending → World → Prop} (C : World → Prop) : ∀ (Ds : List Nat), (∀ V D, D ∈ Ds → C V → V.heap[D]? = some (.deferred (some [])) → C (V.putObj D (.deferred none))) →
    (∀ V, C V → ∃ v, (results fn tmps).run P V = .ok v V ∧ R (.returned v) V) → ∀ W, C W → (∀ D ∈ Ds, W.heap[D]? = some (.deferred (some []))) → Ds.Nodup → LeavesInM F n P fn tmps R (Ds.map mkD) .returning W
  | [], _, hend, W, hC, _, _ => hend W hC
  | D :: Ds, hst, hend, W, hC, hD, hn => by
    have h0 := hD D List.mem_cons_self
    obtain ⟨hn1, hn2⟩ := List.nodup_cons.1 hn
    refine ⟨(by intro h; cases h), .inl ⟨D, _, rfl, run_takeDeferred h0, ?_⟩⟩
    refine leaves_marks C Ds (fun V E hE => hst V E (List.mem_cons_of_mem _ hE)) hend _ (hst W D List.mem_cons_self hC h0) (fun E hE => ?_) hn2
    exact (World.putObj_heap_other (fun e => hn1 (by rw [← e]; exact hE))).trans (hD E (List.mem_cons_of_mem _ hE))
/-- the six boxes -/
def Six (V : World) (s bl bm L M : Nat) (lv : Int) : Prop :=
  Blk V s 3 #[.int .i64 (L : Int)] ∧ Blk V (s + 1) 3 #[.int .i64 (M : Int)] ∧ Blk V (s + 1 + 1) 3 #[.int .i64 lv] ∧ Blk V (s + 1 + 1 + 1) 4 #[.bool false] ∧ Blk V bl 3 #[.int .i64 (L : Int)] ∧ Blk V bm 3 #[.int .i64 (M : Int)]
/-- a world in which all blocks of a set stay -/
def SameOn (G : Nat → Prop) (V V' : World) : Prop := ∀ k, G k → V'.heap[k]? = V.heap[k]?
theorem Blk.same {G : Nat → Prop} {V V' : World} {g : Nat} {t : TypeId} {cs : Array Value} (h : Blk V g t cs) (hs : SameOn G V V') (hg : G g) : Blk V' g t cs := (hs g hg).trans h
theorem Six.same {G : Nat → Prop} {V V' : World} {s bl bm L M : Nat} {lv : Int} (h : Six V s bl bm L M lv) (hs : SameOn G V V') (h0 : G s) (h1 : G (s + 1)) (h2 : G (s + 1 + 1)) (h3 : G (s + 1 + 1 + 1)) (h4 : G bl) (h5 : G bm) : Six V' s bl bm L M lv :=
  ⟨h.1.same hs h0, h.2.1.same hs h1, h.2.2.1.same hs h2, h.2.2.2.1.same hs h3, h.2.2.2.2.1.same hs h4, h.2.2.2.2.2.same hs h5⟩
/-- between two turns -/
def TInv (w : World) (bl bm L M : Nat) (lv : Int) (Ds : List Nat) (V : World) : Prop :=
  Six V w.heap.size bl bm L M lv ∧ Below w.heap.size w V ∧ (∀ D ∈ Ds, V.heap[D]? = some (.deferred (some [])) ∧ w.heap.size + 4 ≤ D ∧ D ≠ bl ∧ D ≠ bm) ∧ Ds.Nodup ∧ (w.heap.size + 4 ≤ bl ∧ w.heap.size + 4 ≤ bm)
/-- what lies below T, but what the iterator may own -/
def Own4 (T : Nat) (k : Nat) : Prop := k < T
theorem TInv.same {w V V' : World} {bl bm L M : Nat} {lv : Int} {Ds : List Nat} {T : Nat} (h : TInv w bl bm L M lv Ds V) (hs : SameOn (· < T) V V') (hb : Below w.heap.size V V') (hbl : bl < T) (hbm : bm < T) (hT : w.heap.size + 4 ≤ T) (hD : ∀ D ∈ Ds, D < T) : TInv w bl bm L M lv Ds V' := by
  obtain ⟨h1, h2, h3, h4, h5⟩ := h
  exact ⟨h1.same hs (by show _ < _; omega) (by show _ < _; omega) (by show _ < _; omega) (by show _ < _; omega) hbl hbm, h2.trans hb, fun D hd => ⟨(hs D (hD D hd)).trans (h3 D hd).1, (h3 D hd).2⟩, h4, h5⟩
/-- the word that is wanted -/
def WantV (Mi : Nat → Prop) (V : World) (v : Value) : Option (List Int) → Prop
  | none => v = .slice none 0 0
  | some y => ∃ A c, v = .slice A y.length c ∧ ReadsI V V.heap.size A y ∧ (1 ≤ y.length → ∀ ad, A = some ad → ¬ Mi ad.block)
/-- what the law knows between two rounds, all but the world's ways -/
def RBase (w : World) (bl bm L M : Nat) (lv : Int) (Ds : List Nat) (T : Nat) (nv : Int) (v : Value) (more : Bool) (V : World) : Prop :=
  TInv w bl bm L M lv Ds V ∧ Blk V T 3 #[.int .i64 nv] ∧ Blk V (T + 1 + 1) 22 #[v] ∧ Blk V (T + 1 + 1 + 1) 4 #[.bool more] ∧ T + 4 ≤ V.heap.size
/-- where things lie -/
def Places (w : World) (bl bm : Nat) (Ds : List Nat) (T : Nat) : Prop := w.heap.size + 4 ≤ T ∧ bl < T ∧ bm < T ∧ ∀ D ∈ Ds, D < T
def MOk (bl bm T : Nat) (Mi : Nat → Prop) (V : World) : Prop := ∀ k, Mi k → (k = bl ∨ k = bm ∨ T + 4 ≤ k) ∧ k < V.heap.size
theorem RBase.same {w V V' : World} {bl bm L M : Nat} {lv : Int} {Ds : List Nat} {T : Nat} {nv : Int} {v : Value} {more : Bool} (h : RBase w bl bm L M lv Ds T nv v more V) (hp : Places w bl bm Ds T) (hs : SameOn (· < T + 4) V V') (hb : Below w.heap.size V V') (hsz : V.heap.size ≤ V'.heap.size) : RBase w bl bm L M lv Ds T nv v more V' := by
  obtain ⟨h1, h2, h3, h4, h5⟩ := h
  obtain ⟨p1, p2, p3, p4⟩ := hp
  exact ⟨h1.same (T := T + 4) hs hb (by omega) (by omega) (by omega) (fun D hD => by have := p4 D hD; omega), h2.same hs (by show _ < _; omega), h3.same hs (by show _ < _; omega), h4.same hs (by show _ < _; omega), by omega⟩
def RInv (w : World) (bl bm L M : Nat) (lv : Int) (Ds : List Nat) (T : Nat) (pre : List (List Int)) (Mi : Nat → Prop) (V : World) : Prop :=
  (∃ v, RBase w bl bm L M lv Ds T (pre.length : Int) v (stW L M pre).isSome V ∧ WantV Mi V v (stW L M pre)) ∧ MOk bl bm T Mi V ∧ ChainW L M pre ∧ (pre.length : Int) < lv
theorem WantV.grow {Fx Mi Mi' : Nat → Prop} {V V' : World} {v : Value} {o : Option (List Int)} (h : WantV Mi V v o) (hg : GrowM Fx Mi V Mi' V') : WantV Mi' V' v o := by
  cases o with
  | none => exact h
  | some y =>
    obtain ⟨A, c, hv, hr, hn⟩ := h
    refine ⟨A, c, hv, ⟨hr.1, fun hl => ?_⟩, fun hl ad e hm => ?_⟩
    · obtain ⟨ad, e, hb, hc⟩ := hr.2 hl
      refine ⟨ad, e, Nat.lt_of_lt_of_le hb hg.size, fun j u hu => ?_⟩
      rw [← hc j u hu]
      refine World.cell?_of_block ?_
      rw [block_of_add]
      exact hg.block _ hb (hn hl ad e)
    · obtain ⟨ad', e', hb, _⟩ := hr.2 hl
      rw [e] at e'
      injection e' with e'
      subst e'
      rcases hg.new _ hm with h1 | h1
      · exact hn hl ad e h1
      · omega
theorem rinv_ab {w : World} {bl bm L M : Nat} {lv : Int} {Ds : List Nat} {T : Nat} (hp : Places w bl bm Ds T) : AbM (fun k => k = bl ∨ k = bm) (RInv w bl bm L M lv Ds T) := by
  rintro pre Mi V Mi' V' ⟨⟨v, hb, hw⟩, hm, hc, hl⟩ hg
  have h5 := hb.2.2.2.2
  have hs5 := hg.size
  have hsame : SameOn (· < T + 4) V V' := fun k hk => by
    have hk' : k < T + 4 := hk
    by_cases hx : k = bl ∨ k = bm
    · exact hg.fix k (by omega) hx
    · exact hg.block k (by omega) (fun h => by rcases (hm k h).1 with h | h | h <;> omega)
  have hbel : Below w.heap.size V V' := ⟨hg.os, hg.tape, hg.output, hg.size, fun k hk => hsame k (by have := hp.1; show k < T + 4; omega)⟩
  refine ⟨⟨v, hb.same hp hsame hbel hg.size, hw.grow hg⟩, fun k hk => ?_, hc, hl⟩
  rcases hg.new k hk with h | h
  · exact ⟨(hm k h).1, Nat.lt_of_lt_of_le (hm k h).2 hs5⟩
  · exact ⟨.inr (.inr (by omega)), h.2⟩
theorem wantV_put {Mi : Nat → Prop} {V : World} {v : Value} {o : Option (List Int)} {l : Nat} {ob : Obj} (o' : Obj) (h : WantV Mi V v o) (hl : V.heap[l]? = some ob) (hn : ob.isCells = false) : WantV Mi (V.putObj l o') v o := by
  cases o with
  | none => exact h
  | some y =>
    obtain ⟨A, c, hv, hr, hn'⟩ := h
    refine ⟨A, c, hv, ⟨hr.1, fun hl' => ?_⟩, hn'⟩
    obtain ⟨ad, e, hb, hc⟩ := hr.2 hl'
    refine ⟨ad, e, by simpa using hb, fun j u hu => ?_⟩
    have hcell := hc j u hu
    exact cell_kept hcell (grownBy_putObj' V l o') (fun r e => by cases e; exact ⟨ob, hl, hn⟩)
theorem rbase_put {w V : World} {bl bm L M : Nat} {lv : Int} {Ds : List Nat} {T : Nat} {nv : Int} {v : Value} {more : Bool} {l : Nat} (o' : Obj) (h : RBase w bl bm L M lv Ds T nv v more V) (hp : Places w bl bm Ds T) (hl : T + 4 ≤ l) : RBase w bl bm L M lv Ds T nv v more (V.putObj l o') :=
  h.same hp (fun k hk => World.putObj_heap_other (by have : k < T + 4 := hk; omega)) ⟨rfl, rfl, rfl, by simp, fun k hk => World.putObj_heap_other (by have := hp.1; omega)⟩ (by simp)
theorem rinv_put {w V : World} {bl bm L M : Nat} {lv : Int} {Ds : List Nat} {T : Nat} (hp : Places w bl bm Ds T) {pre : List (List Int)} {Mi : Nat → Prop} {l : Nat} {ob o' : Obj} (h : RInv w bl bm L M lv Ds T pre Mi V) (hl : T + 4 ≤ l) (ho : V.heap[l]? = some ob) (hn : ob.isCells = false) : RInv w bl bm L M lv Ds T pre Mi (V.putObj l o') := by
  obtain ⟨⟨v, hb, hw⟩, hm, hr⟩ := h
  exact ⟨⟨v, rbase_put o' hb hp hl, wantV_put o' hw ho hn⟩, fun k hk => ⟨(hm k hk).1, by simpa using (hm k hk).2⟩, hr⟩
/-- left: by a return, which does not come; or behind so many -/
def RIx (w : World) (bl bm L M : Nat) (lv : Int) (Ds : List Nat) (T : Nat) (c : Code) (pre : List (List Int)) (V : World) : Prop :=
  (c = .ret ∧ ¬ ChainW L M pre) ∨ (c = .exit 2 ∧ ∃ v more, RBase w bl bm L M lv Ds T lv v more V)
theorem rix_put {w V : World} {bl bm L M : Nat} {lv : Int} {Ds : List Nat} {T : Nat} (hp : Places w bl bm Ds T) {c : Code} {pre : List (List Int)} {l : Nat} {ob o' : Obj} (h : RIx w bl bm L M lv Ds T c pre V) (hl : T + 4 ≤ l) (ho : V.heap[l]? = some ob) (hn : ob.isCells = false) : RIx w bl bm L M lv Ds T c pre (V.putObj l o') := by
  rcases h with h | ⟨h1, v, more, hb⟩
  · exact .inl h
  · exact .inr ⟨h1, v, more, rbase_put o' hb hp hl⟩
theorem rinv_boxes {w V : World} {bl bm L M : Nat} {lv : Int} {Ds : List Nat} {T : Nat} {pre : List (List Int)} {Mi : Nat → Prop} (h : RInv w bl bm L M lv Ds T pre Mi V) : Blk V bl 3 #[.int .i64 (L : Int)] ∧ Blk V bm 3 #[.int .i64 (M : Int)] := by
  obtain ⟨⟨v, hb, _⟩, _⟩ := h
  exact ⟨hb.1.1.2.2.2.2.1, hb.1.1.2.2.2.2.2⟩
theorem blk_reads {V : World} {b : Nat} {x : List Int} (h : Blk V b 3 (x.map iv).toArray) : ReadsI V (b + 1) (some ⟨b, 0, none⟩) x := by
  refine ⟨by simp, fun _ => ⟨_, rfl, Nat.lt_succ_self _, fun j u hu => ?_⟩⟩
  rw [Addr.add_lit, Nat.zero_add, h.cell j, List.getElem?_toArray]
  exact hu
theorem KeepsFrom.drewN (B : Nat) (W : World) (d : Nat) : KeepsFrom B W (W.drewN d) := ⟨Nat.le_refl _, fun _ _ _ h _ => h⟩
theorem grown_set (W : World) (a : Addr) (u : Value) : W.grownBy (W.setCell a u) (some a.block) :=
  ⟨rfl, rfl, rfl, by show W.heap.size ≤ (W.heap.modify _ _).size; rw [Array.size_modify]; exact Nat.le_refl _, fun k _ hk => Below.heap_setCell W a u k (fun e => hk (by rw [e]))⟩
theorem rbase_grown {w V wr : World} {bl bm L M : Nat} {lv : Int} {Ds : List Nat} {T b : Nat} {nv : Int} {v : Value} {more : Bool} (h : RBase w bl bm L M lv Ds T nv v more V) (hp : Places w bl bm Ds T) (hb : T + 4 ≤ b) (hg : V.grownBy wr (some b)) : RBase w bl bm L M lv Ds T nv v more wr := by
  have h5 := h.2.2.2.2
  have p1 := hp.1
  exact h.same hp (fun k hk => hg.block k (by have : k < T + 4 := hk; omega) (fun e => by injection e with e; have : k < T + 4 := hk; omega)) ⟨hg.os, hg.tape, hg.output, hg.size, fun k hk => hg.block k (by omega) (fun e => by injection e with e; omega)⟩ hg.size
theorem rbase_below {w V wr : World} {bl bm L M : Nat} {lv : Int} {Ds : List Nat} {T : Nat} {nv : Int} {v : Value} {more : Bool} (h : RBase w bl bm L M lv Ds T nv v more V) (hp : Places w bl bm Ds T) (hb : Below V.heap.size V wr) : RBase w bl bm L M lv Ds T nv v more wr := by
  have h5 := h.2.2.2.2
  have p1 := hp.1
  exact h.same hp (fun k hk => hb.block k (by have : k < T + 4 := hk; omega)) (hb.mono (by omega)) hb.size
theorem reads_grown {V wr : World} {b : Nat} {A : Option Addr} {y : List Int} (h : ReadsI V V.heap.size A y) (hn : 1 ≤ y.length → ∀ ad, A = some ad → ad.block ≠ b) (hg : V.grownBy wr (some b)) : ReadsI wr wr.heap.size A y := by
  refine ⟨h.1, fun hl => ?_⟩
  obtain ⟨ad, e, hb, hc⟩ := h.2 hl
  refine ⟨ad, e, Nat.lt_of_lt_of_le hb hg.size, fun j u hu => ?_⟩
  rw [← hc j u hu]
  refine World.cell?_of_block ?_
  rw [block_of_add]
  exact hg.block _ hb (fun e2 => hn hl ad e (by injection e2))
theorem flip_eq (bl bm : Nat) : (fun k => k = bl ∨ k = bm) = (fun k => k = bm ∨ k = bl) := by
  funext k
  exact propext Or.comm
theorem rinv_ab' {w : World} {bl bm L M : Nat} {lv : Int} {Ds : List Nat} {T : Nat} (hp : Places w bl bm Ds T) : AbM (fun k => k = bm ∨ k = bl) (RInv w bl bm L M lv Ds T) := by
  rw [← flip_eq]
  exact rinv_ab hp
theorem rinv_flip {w V : World} {bl bm L M : Nat} {lv : Int} {Ds : List Nat} {T : Nat} {pre : List (List Int)} (h : RInv w bl bm L M lv Ds T pre (fun k => k = bl ∨ k = bm) V) : RInv w bl bm L M lv Ds T pre (fun k => k = bm ∨ k = bl) V := by
  rw [flip_eq] at h
  exact h
theorem start_inv {w W : World} {bl bm L M : Nat} {lv : Int} {Ds : List Nat} (hT : TInv w bl bm L M lv Ds W) (hlv : 1 ≤ lv) :
    let Wl := (((W.alloc (.cells #[.int .i64 0] 3)).alloc (.cells #[] 3)).alloc (.cells #[.slice (some ⟨W.heap.size + 1, 0, none⟩) 0 0] 22)).alloc (.cells #[.bool true] 4)
    Places w bl bm Ds W.heap.size ∧ RInv w bl bm L M lv Ds W.heap.size [] (fun k => k = bl ∨ k = bm) Wl ∧ Wl.heap.size = W.heap.size + 4 := by
  intro Wl
  have hsz : Wl.heap.size = W.heap.size + 4 := by simp [Wl]
  have h6 := hT.1
  have hbl := h6.2.2.2.2.1.lt
  have hbm := h6.2.2.2.2.2.lt
  have hs3 := h6.2.2.2.1.lt
  have hp : Places w bl bm Ds W.heap.size := ⟨by omega, hbl, hbm, fun D hD => (Array.getElem?_eq_some_iff.1 (hT.2.2.1 D hD).1).1⟩
  have hB : Below W.heap.size W Wl := ((((Below.refl _ W).alloc (Nat.le_refl _) _).alloc (by simp) _).alloc (by simp; omega) _).alloc (by simp; omega) _
  have b1 := ((Blk.new W 3 #[.int .i64 0]).alloc (.cells #[] 3))
  have b2 := Blk.new ((W.alloc (.cells #[.int .i64 0] 3)).alloc (.cells #[] 3)) 22 #[.slice (some ⟨W.heap.size + 1, 0, none⟩) 0 0]
  have b3 := Blk.new (((W.alloc (.cells #[.int .i64 0] 3)).alloc (.cells #[] 3)).alloc (.cells #[.slice (some ⟨W.heap.size + 1, 0, none⟩) 0 0] 22)) 4 #[.bool true]
  simp only [World.size_alloc] at b2 b3
  refine ⟨hp, ⟨⟨_, ⟨hT.same (T := W.heap.size) (fun k hk => hB.block k hk) (hB.mono (by omega)) hbl hbm (by omega) hp.2.2.2, ((b1.alloc _).alloc _), b2.alloc _, b3, by omega⟩, ?_⟩, fun k hk => ⟨hk.elim .inl (fun h => .inr (.inl h)), by rcases hk with h | h <;> omega⟩, rfl, by show ((0 : Nat) : Int) < lv; omega⟩, hsz⟩
  exact ⟨_, 0, rfl, ReadsI.none_ _ _ _, fun h => by simp at h⟩
/-- behind a round that goes on: the block that was handed over is written, the reference is asked, three boxes are written -/
def Body4 (w3 : World) (T : Nat) (nv : Int) (v : Value) (more : Bool) : World := ((w3.setCell ⟨T + 1 + 1, 0, none⟩ v).setCell ⟨T + 1 + 1 + 1, 0, none⟩ (.bool more)).setCell ⟨T, 0, none⟩ (.int .i64 nv)
theorem body4_size (w3 : World) (T : Nat) (nv : Int) (v : Value) (more : Bool) : (Body4 w3 T nv v more).heap.size = w3.heap.size := by
  unfold Body4 World.setCell
  simp [Array.size_modify]
theorem body4_other {w3 : World} {T : Nat} {nv : Int} {v : Value} {more : Bool} {k : Nat} (h0 : k ≠ T) (h2 : k ≠ T + 1 + 1) (h3 : k ≠ T + 1 + 1 + 1) : (Body4 w3 T nv v more).heap[k]? = w3.heap[k]? := by
  unfold Body4
  exact (Below.heap_setCell _ _ _ k h0).trans ((Below.heap_setCell _ _ _ k h3).trans (Below.heap_setCell _ _ _ k h2))
theorem body4_base {w V wr w3 : World} {bl bm L M : Nat} {lv : Int} {Ds : List Nat} {T b : Nat} {nv nv' : Int} {v v' : Value} {more more' : Bool} (h : RBase w bl bm L M lv Ds T nv v more V) (hp : Places w bl bm Ds T) (hb : T + 4 ≤ b) (hg : V.grownBy wr (some b)) (h3 : Below wr.heap.size wr w3) :
    RBase w bl bm L M lv Ds T nv' v' more' (Body4 w3 T nv' v' more') := by
  obtain ⟨⟨t1, t2, t3, t4, t5⟩, hn, hv, hm, hs⟩ := h
  obtain ⟨p1, p2, p3, p4⟩ := hp
  have hsr := hg.size
  have hs3 := h3.size
  have same : ∀ k, k < T + 4 → w3.heap[k]? = V.heap[k]? := fun k hk => (h3.block k (by omega)).trans (hg.block k (by omega) (fun e => by injection e; omega))
  have same4 : ∀ k, k < T + 4 → k ≠ T → k ≠ T + 1 + 1 → k ≠ T + 1 + 1 + 1 → (Body4 w3 T nv' v' more').heap[k]? = V.heap[k]? := fun k hk h0 h1 h2 => (body4_other h0 h1 h2).trans (same k hk)
  have sT : ∀ k, k < T → (Body4 w3 T nv' v' more').heap[k]? = V.heap[k]? := fun k hk => same4 k (by omega) (by omega) (by omega) (by omega)
  have bn : Blk w3 T 3 #[.int .i64 nv] := (same T (by omega)).trans hn
  have bv : Blk w3 (T + 1 + 1) 22 #[v] := (same _ (by omega)).trans hv
  have bm' : Blk w3 (T + 1 + 1 + 1) 4 #[.bool more] := (same _ (by omega)).trans hm
  refine ⟨⟨t1.same (G := (· < T)) sT (by show _ < _; omega) (by show _ < _; omega) (by show _ < _; omega) (by show _ < _; omega) p2 p3, t2.trans ⟨?_, ?_, ?_, ?_, fun k hk => sT k (by omega)⟩, fun D hD => ⟨(sT D (p4 D hD)).trans (t3 D hD).1, (t3 D hD).2⟩, t4, t5⟩, ?_, ?_, ?_, by rw [body4_size]; omega⟩
  · exact h3.os.trans hg.os
  · exact h3.tape.trans hg.tape
  · exact h3.output.trans hg.output
  · rw [body4_size]; omega
  · unfold Body4
    exact (((bn.far (p := ⟨T + 1 + 1, 0, none⟩) (by show T ≠ T + 1 + 1; omega) _).far (p := ⟨T + 1 + 1 + 1, 0, none⟩) (by show T ≠ T + 1 + 1 + 1; omega) _).set_ 0 _)
  · unfold Body4
    exact (((bv.set_ 0 v').far (p := ⟨T + 1 + 1 + 1, 0, none⟩) (by show T + 1 + 1 ≠ T + 1 + 1 + 1; omega) _).far (p := ⟨T, 0, none⟩) (by show T + 1 + 1 ≠ T; omega) _)
  · unfold Body4
    exact (((bm'.far (p := ⟨T + 1 + 1, 0, none⟩) (by show T + 1 + 1 + 1 ≠ T + 1 + 1; omega) _).set_ 0 (.bool more')).far (p := ⟨T, 0, none⟩) (by show T + 1 + 1 + 1 ≠ T; omega) _)
theorem body4_keepsFrom {V wr w3 : World} {T b : Nat} {nv : Int} {v : Value} {more : Bool} {cs : Array Value} (hb : Blk V b 3 cs) (hg : V.grownBy wr (some b)) (h3 : Below wr.heap.size wr w3) : KeepsFrom (T + 4) V (Body4 w3 T nv v more) := by
  have hsr := hg.size
  have hs3 := h3.size
  refine ⟨by rw [body4_size]; omega, fun k o hk ho hn => ?_⟩
  have hlt := (Array.getElem?_eq_some_iff.1 ho).1
  have hne : k ≠ b := fun e => by
    subst e
    have hb' : V.heap[k]? = some (.cells cs 3 (0, 0)) := hb
    rw [hb'] at ho
    injection ho with ho
    subst ho
    cases hn
  exact (body4_other (by omega) (by omega) (by omega)).trans ((h3.block k (by omega)).trans ((hg.block k hlt (fun e => hne (by injection e))).trans ho))
theorem body4_keepM {w V wr w3 : World} {bl bm : Nat} {Ds : List Nat} {T b : Nat} {nv : Int} {v : Value} {more : Bool} {Mi : Nat → Prop} (hp : Places w bl bm Ds T) (hm : MOk bl bm T Mi V) (hg : V.grownBy wr (some b)) (h3 : Below wr.heap.size wr w3) : KeepM Mi b V (Body4 w3 T nv v more) := by
  have hsr := hg.size
  have hs3 := h3.size
  obtain ⟨p1, p2, p3, p4⟩ := hp
  refine ⟨by rw [body4_size]; omega, fun k hk hne => ?_⟩
  have h1 := hm k hk
  exact (body4_other (by rcases h1.1 with h | h | h <;> omega) (by rcases h1.1 with h | h | h <;> omega) (by rcases h1.1 with h | h | h <;> omega)).trans ((h3.block k (by omega)).trans (hg.block k h1.2 (fun e => hne (by injection e))))
theorem want_next {w3 wr V : World} {T n2 c2 : Nat} {nv : Int} {A2 : Option Addr} {y2 : List Int} {Mi : Nat → Prop} (ho : OwnI w3 wr.heap.size (.slice A2 n2 c2) y2) (hT : T + 4 ≤ wr.heap.size) (hm : ∀ k, Mi k → k < wr.heap.size) :
    WantV Mi (Body4 w3 T nv (.slice A2 n2 c2) true) (.slice A2 n2 c2) (some y2) := by
  have hn := ho.len.1
  refine ⟨A2, c2, by rw [hn], ⟨by simp, fun hl => ?_⟩, fun hl ad e hmi => ?_⟩
  · obtain ⟨g, e, h1, h2⟩ := own_form ho hl
    obtain ⟨ad, e', hb, hc⟩ := ho.reads.2 hl
    refine ⟨ad, e', by rw [body4_size]; exact hb, fun j u hu => ?_⟩
    rw [← hc j u hu]
    refine World.cell?_of_block ?_
    rw [block_of_add]
    rw [e] at e'
    injection e' with e'
    subst e'
    exact body4_other (by show g ≠ T; omega) (by show g ≠ T + 1 + 1; omega) (by show g ≠ T + 1 + 1 + 1; omega)
  · obtain ⟨g, e', h1, h2⟩ := own_form ho hl
    rw [e] at e'
    injection e' with e'
    subst e'
    have := hm _ hmi
    have : g < wr.heap.size := this
    omega
theorem round_some {w V wr w3 : World} {bl bm L M : Nat} {lv : Int} {Ds : List Nat} {T b n2 c2 : Nat} {v : Value} {more : Bool} {pre : List (List Int)} {x y y2 : List Int} {A2 : Option Addr} {Mi : Nat → Prop} (h : RBase w bl bm L M lv Ds T (pre.length : Int) v more V) (hp : Places w bl bm Ds T) (hb : T + 4 ≤ b) (hg : V.grownBy wr (some b)) (h3 : Below wr.heap.size wr w3)
    (hm : MOk bl bm T Mi V) (hc : ChainW L M pre) (hs : stW L M pre = some y) (hxy : x = y) (hy : nextW L M y = some y2) (ho : OwnI w3 wr.heap.size (.slice A2 n2 c2) y2) (hl : (pre.length : Int) + 1 < lv) :
    RInv w bl bm L M lv Ds T (pre ++ [x]) Mi (Body4 w3 T ((pre.length : Int) + 1) (.slice A2 n2 c2) true) := by
  subst hxy
  have hsr := hg.size
  have hs3 := h3.size
  have h5 := h.2.2.2.2
  have est : stW L M (pre ++ [x]) = some y2 := by rw [stW_snoc]; exact hy
  have hlen : ((pre ++ [x]).length : Int) = (pre.length : Int) + 1 := by simp
  refine ⟨⟨.slice A2 n2 c2, ?_, ?_⟩, fun k hk => ⟨(hm k hk).1, by rw [body4_size]; have := (hm k hk).2; omega⟩, chain_snoc.2 ⟨hc, hs⟩, by rw [hlen]; exact hl⟩
  · rw [est, hlen]
    exact body4_base h hp hb hg h3
  · rw [est]
    exact want_next (wr := wr) (V := V) ho (by omega) (fun k hk => by have := (hm k hk).2; omega)
theorem round_none {w V wr w3 : World} {bl bm L M : Nat} {lv : Int} {Ds : List Nat} {T b : Nat} {v : Value} {more : Bool} {pre : List (List Int)} {x y : List Int} {Mi : Nat → Prop} (h : RBase w bl bm L M lv Ds T (pre.length : Int) v more V) (hp : Places w bl bm Ds T) (hb : T + 4 ≤ b) (hg : V.grownBy wr (some b)) (h3 : Below wr.heap.size wr w3)
    (hm : MOk bl bm T Mi V) (hc : ChainW L M pre) (hs : stW L M pre = some y) (hxy : x = y) (hy : nextW L M y = none) (hl : (pre.length : Int) + 1 < lv) :
    RInv w bl bm L M lv Ds T (pre ++ [x]) Mi (Body4 w3 T ((pre.length : Int) + 1) (.slice none 0 0) false) := by
  subst hxy
  have hsr := hg.size
  have hs3 := h3.size
  have est : stW L M (pre ++ [x]) = none := by rw [stW_snoc]; exact hy
  have hlen : ((pre ++ [x]).length : Int) = (pre.length : Int) + 1 := by simp
  refine ⟨⟨.slice none 0 0, ?_, ?_⟩, fun k hk => ⟨(hm k hk).1, by rw [body4_size]; have := (hm k hk).2; omega⟩, chain_snoc.2 ⟨hc, hs⟩, by rw [hlen]; exact hl⟩
  · rw [est, hlen]
    exact body4_base h hp hb hg h3
  · rw [est]
    rfl
end Go.Proofs.YtmjnhpagoboejaaDoor
